/- LedgerKnown of the law. -/
import Derived.Test.YtocdmkilnbpkdaaGreatDoorXC
import Derived.OwnWalkIn
import Derived.Laws.StructEq
import Derived.TacticsInMore
import Derived.Deep.DeepCutAuto
set_option linter.unusedVariables false
set_option linter.unusedSimpArgs false
namespace Go.Proofs.YtocdmkilnbpkdaaGreatDoor
open Go.RowKit
attribute [local go_sem] Oper.semAt_some

attribute [local go_sem] span_equal10
theorem kn_hands : (okS bB 1 (handsB bB (fun _ => false) 1) = ⟨34, 39⟩ ∧ enterK bB 1 = 0) ∧ okS bB 3 (handsB bB (fun _ => false) 3) = ⟨18, 20⟩ ∧ enterK bB 3 = 0 := by
  refine ⟨⟨?_, ?_⟩, ?_, ?_⟩ <;> kernel_rfl
theorem kn_lost : (okS bB 0 (lostB bB 0) = ⟨0, 5⟩ ∧ enterK bB 0 = 0) ∧ (okS bB 2 (lostB bB 2) = ⟨0, 0⟩ ∧ enterK bB 2 = 0) ∧ okS bC 0 (lostB bC 0) = ⟨1, 3⟩ ∧ enterK bC 0 = 0 := by
  refine ⟨⟨?_, ?_⟩, ⟨?_, ?_⟩, ?_, ?_⟩ <;> kernel_rfl
theorem kn_wrong : wrongV bB = ([], 0) := by kernel_rfl
set_option maxHeartbeats 8000000 in
set_option maxRecDepth 100000 in
theorem ledgerKnown_any {m : Int} {w : World} (hm : w.cell? ⟨0, 0, none⟩ = some (.int .i64 m)) (hw0 : 0 < w.heap.size) :
    Calls Tryz.prog 7 #[] w fun e w' => e = .returned (.bool true) ∧ Below w.heap.size w w' := by
  have hgt : Tryz.prog.eqGuardType Tryz.prog.depth 30 = false := by kernel_rfl
  have HG := hide hm
  have HB := hide (Below.refl w.heap.size w)
  have hz0 := hw0
  clear hm
  go_enter Tryz.func7, Tryz.ntmps7
  go_wp2_with fail
  refine (book12_any (more := []) (A := none) (c := 0) (B := w.heap.size) Row.nil_ (Nat.le_refl _) (by decide)).mono ?_
  rintro e k1 ⟨aB, rfl, hVB, hb⟩
  replace HG := hide ((hb.cell (p := ⟨0, 0, none⟩) hz0).trans HG.out)
  replace HB := hide (HB.out.trans (hb.mono HB.out.size))
  have VB := hide (hVB)
  clear hb
  replace hz0 : 0 < k1.heap.size := by have := HB.out.size; omega
  clear hVB
  go_wp2_with fail
  refine (tally12_any 1 38 0 _).mono ?_
  rintro e k2 ⟨rfl, hb⟩
  replace HG := hide ((hb.cell (p := ⟨0, 0, none⟩) hz0).trans HG.out)
  replace HB := hide (HB.out.trans (hb.mono HB.out.size))
  replace VB := hide (VB.out.next hb)
  clear hb
  replace hz0 : 0 < k2.heap.size := by have := HB.out.size; omega
  have hb : Below k2.heap.size k2 (k2.alloc (.cells #[.int .i64 1, .int .i64 38, .int .i64 0] 50)) := (Below.refl _ _).alloc (Nat.le_refl _) _
  replace HG := hide ((hb.cell (p := ⟨0, 0, none⟩) hz0).trans HG.out)
  replace HB := hide (HB.out.trans (hb.mono HB.out.size))
  replace VB := hide (VB.out.next hb)
  have RM : Hid (Blk (k2.alloc (.cells #[.int .i64 1, .int .i64 38, .int .i64 0] 50)) k2.heap.size 50 #[.int .i64 1, .int .i64 38, .int .i64 0]) := hide (Blk.made)
  generalize hkk : k2.heap.size = zC at RM
  clear hb
  go_wp2_with fail
  generalize (k2.alloc (.cells #[.int .i64 1, .int .i64 38, .int .i64 0] 50)) = k3 at *
  try rw [hkk]
  clear hkk
  replace hz0 : 0 < k3.heap.size := by have := HB.out.size; omega
  refine (book12_any (more := [⟨1, 38, 0⟩]) (A := some ⟨zC, 0, none⟩) (c := 1) (B := k3.heap.size) (fun _ => ⟨zC, 0, rfl, RM.out.lt, fun j hj => by have := RM.out.at_ j; rw [Nat.zero_add, this]; match j, hj with | 0, _ | 1, _ | 2, _ => rfl⟩) (Nat.le_refl _) (by decide)).mono ?_
  rintro e k4 ⟨aC, rfl, hVC, hb⟩
  replace HG := hide ((hb.cell (p := ⟨0, 0, none⟩) hz0).trans HG.out)
  replace HB := hide (HB.out.trans (hb.mono HB.out.size))
  replace VB := hide (VB.out.next hb)
  replace RM := hide (RM.out.next hb)
  have VC := hide (hVC)
  clear hb
  replace hz0 : 0 < k4.heap.size := by have := HB.out.size; omega
  clear RM
  clear hVC
  go_wp2_with fail
  have hy1 : Below k4.heap.size k4 (k4.alloc (.cells (bookCells bB aB) 25)) := (Below.refl _ _).alloc (Nat.le_refl _) _
  have hy2 : Below (k4.alloc (.cells (bookCells bB aB) 25)).heap.size (k4.alloc (.cells (bookCells bB aB) 25)) ((k4.alloc (.cells (bookCells bB aB) 25)).alloc (.cells (bookCells bC aC) 25)) := (Below.refl _ _).alloc (Nat.le_refl _) _
  have hb := hy1.trans (hy2.mono hy1.size)
  have B1 : Hid (BoxB ((k4.alloc (.cells (bookCells bB aB) 25)).alloc (.cells (bookCells bC aC) 25)) k4.heap.size bB aB) := hide ((BoxB.made VB.out).next hy2)
  have B2 : Hid (BoxB ((k4.alloc (.cells (bookCells bB aB) 25)).alloc (.cells (bookCells bC aC) 25)) (k4.heap.size + 1) bC aC) := hide (by rw [show k4.heap.size + 1 = (k4.alloc (.cells (bookCells bB aB) 25)).heap.size by simp]; exact BoxB.made (VC.out.next hy1))
  replace HG := hide ((hb.cell (p := ⟨0, 0, none⟩) hz0).trans HG.out)
  replace HB := hide (HB.out.trans (hb.mono HB.out.size))
  clear hy1 hy2 hb VB VC
  go_wp2_with fail
  generalize ((k4.alloc (.cells (bookCells bB aB) 25)).alloc (.cells (bookCells bC aC) 25)) = k5 at *
  generalize k4.heap.size = g at *
  replace hz0 : 0 < k5.heap.size := by have := HB.out.size; omega
  refine (handsX (s := 1) B1.out.v kn_hands.1.1 kn_hands.1.2).mono ?_
  rintro e k6 ⟨rfl, hb⟩
  replace HG := hide ((hb.cell (p := ⟨0, 0, none⟩) hz0).trans HG.out)
  replace HB := hide (HB.out.trans (hb.mono HB.out.size))
  replace B1 := hide (B1.out.next hb)
  replace B2 := hide (B2.out.next hb)
  clear hb
  replace hz0 : 0 < k6.heap.size := by have := HB.out.size; omega
  have hb : Below k6.heap.size k6 (k6.alloc (.cells #[.int .i64 34, .int .i64 39] 30)) := (Below.refl _ _).alloc (Nat.le_refl _) _
  replace HG := hide ((hb.cell (p := ⟨0, 0, none⟩) hz0).trans HG.out)
  replace HB := hide (HB.out.trans (hb.mono HB.out.size))
  replace B1 := hide (B1.out.next hb)
  replace B2 := hide (B2.out.next hb)
  have S1 : Hid (Blk (k6.alloc (.cells #[.int .i64 34, .int .i64 39] 30)) k6.heap.size 30 #[.int .i64 34, .int .i64 39]) := hide (Blk.made)
  clear hb
  have hzn : k6.heap.size < (k6.alloc (.cells #[.int .i64 34, .int .i64 39] 30)).heap.size := by simp
  obtain ⟨zq, x0, x1⟩ := B1.out.cells
  go_wp2_with fail
  generalize k6.alloc (.cells #[.int .i64 34, .int .i64 39] 30) = k7 at *
  generalize k6.heap.size = s1 at *
  replace hz0 : 0 < k7.heap.size := by have := HB.out.size; omega
  clear x0 x1 zq hzn
  refine (handsX (s := 3) B1.out.v kn_hands.2.1 kn_hands.2.2).mono ?_
  rintro e k8 ⟨rfl, hb⟩
  replace HG := hide ((hb.cell (p := ⟨0, 0, none⟩) hz0).trans HG.out)
  replace HB := hide (HB.out.trans (hb.mono HB.out.size))
  replace B1 := hide (B1.out.next hb)
  replace B2 := hide (B2.out.next hb)
  replace S1 := hide (S1.out.next hb)
  clear hb
  replace hz0 : 0 < k8.heap.size := by have := HB.out.size; omega
  have hb : Below k8.heap.size k8 (k8.alloc (.cells #[.int .i64 18, .int .i64 20] 30)) := (Below.refl _ _).alloc (Nat.le_refl _) _
  replace HG := hide ((hb.cell (p := ⟨0, 0, none⟩) hz0).trans HG.out)
  replace HB := hide (HB.out.trans (hb.mono HB.out.size))
  replace B1 := hide (B1.out.next hb)
  replace B2 := hide (B2.out.next hb)
  replace S1 := hide (S1.out.next hb)
  have S2 : Hid (Blk (k8.alloc (.cells #[.int .i64 18, .int .i64 20] 30)) k8.heap.size 30 #[.int .i64 18, .int .i64 20]) := hide (Blk.made)
  clear hb
  have hzn : k8.heap.size < (k8.alloc (.cells #[.int .i64 18, .int .i64 20] 30)).heap.size := by simp
  obtain ⟨zq, x0, x1⟩ := B1.out.cells
  go_wp2_with fail
  generalize k8.alloc (.cells #[.int .i64 18, .int .i64 20] 30) = k9 at *
  generalize k8.heap.size = s2 at *
  replace hz0 : 0 < k9.heap.size := by have := HB.out.size; omega
  clear x0 x1 zq hzn
  refine (lostX (s := 0) B1.out.v kn_lost.1.1 kn_lost.1.2).mono ?_
  rintro e k10 ⟨rfl, hb⟩
  replace HG := hide ((hb.cell (p := ⟨0, 0, none⟩) hz0).trans HG.out)
  replace HB := hide (HB.out.trans (hb.mono HB.out.size))
  replace B1 := hide (B1.out.next hb)
  replace B2 := hide (B2.out.next hb)
  replace S1 := hide (S1.out.next hb)
  replace S2 := hide (S2.out.next hb)
  clear hb
  replace hz0 : 0 < k10.heap.size := by have := HB.out.size; omega
  have hb : Below k10.heap.size k10 (k10.alloc (.cells #[.int .i64 0, .int .i64 5] 30)) := (Below.refl _ _).alloc (Nat.le_refl _) _
  replace HG := hide ((hb.cell (p := ⟨0, 0, none⟩) hz0).trans HG.out)
  replace HB := hide (HB.out.trans (hb.mono HB.out.size))
  replace B1 := hide (B1.out.next hb)
  replace B2 := hide (B2.out.next hb)
  replace S1 := hide (S1.out.next hb)
  replace S2 := hide (S2.out.next hb)
  have S3 : Hid (Blk (k10.alloc (.cells #[.int .i64 0, .int .i64 5] 30)) k10.heap.size 30 #[.int .i64 0, .int .i64 5]) := hide (Blk.made)
  clear hb
  have hzn : k10.heap.size < (k10.alloc (.cells #[.int .i64 0, .int .i64 5] 30)).heap.size := by simp
  obtain ⟨zq, x0, x1⟩ := B1.out.cells
  go_wp2_with fail
  generalize k10.alloc (.cells #[.int .i64 0, .int .i64 5] 30) = k11 at *
  generalize k10.heap.size = s3 at *
  replace hz0 : 0 < k11.heap.size := by have := HB.out.size; omega
  clear x0 x1 zq hzn
  refine (lostX (s := 2) B1.out.v kn_lost.2.1.1 kn_lost.2.1.2).mono ?_
  rintro e k12 ⟨rfl, hb⟩
  replace HG := hide ((hb.cell (p := ⟨0, 0, none⟩) hz0).trans HG.out)
  replace HB := hide (HB.out.trans (hb.mono HB.out.size))
  replace B1 := hide (B1.out.next hb)
  replace B2 := hide (B2.out.next hb)
  replace S1 := hide (S1.out.next hb)
  replace S2 := hide (S2.out.next hb)
  replace S3 := hide (S3.out.next hb)
  clear hb
  replace hz0 : 0 < k12.heap.size := by have := HB.out.size; omega
  have hb : Below k12.heap.size k12 (k12.alloc (.cells #[.int .i64 0, .int .i64 0] 30)) := (Below.refl _ _).alloc (Nat.le_refl _) _
  replace HG := hide ((hb.cell (p := ⟨0, 0, none⟩) hz0).trans HG.out)
  replace HB := hide (HB.out.trans (hb.mono HB.out.size))
  replace B1 := hide (B1.out.next hb)
  replace B2 := hide (B2.out.next hb)
  replace S1 := hide (S1.out.next hb)
  replace S2 := hide (S2.out.next hb)
  replace S3 := hide (S3.out.next hb)
  have S4 : Hid (Blk (k12.alloc (.cells #[.int .i64 0, .int .i64 0] 30)) k12.heap.size 30 #[.int .i64 0, .int .i64 0]) := hide (Blk.made)
  clear hb
  have hzn : k12.heap.size < (k12.alloc (.cells #[.int .i64 0, .int .i64 0] 30)).heap.size := by simp
  obtain ⟨zq, x0, x1⟩ := B2.out.cells
  go_wp2_with fail
  generalize k12.alloc (.cells #[.int .i64 0, .int .i64 0] 30) = k13 at *
  generalize k12.heap.size = s4 at *
  replace hz0 : 0 < k13.heap.size := by have := HB.out.size; omega
  clear x0 x1 zq hzn
  refine (lostX (s := 0) B2.out.v kn_lost.2.2.1 kn_lost.2.2.2).mono ?_
  rintro e k14 ⟨rfl, hb⟩
  replace HG := hide ((hb.cell (p := ⟨0, 0, none⟩) hz0).trans HG.out)
  replace HB := hide (HB.out.trans (hb.mono HB.out.size))
  replace B1 := hide (B1.out.next hb)
  replace B2 := hide (B2.out.next hb)
  replace S1 := hide (S1.out.next hb)
  replace S2 := hide (S2.out.next hb)
  replace S3 := hide (S3.out.next hb)
  replace S4 := hide (S4.out.next hb)
  clear hb
  replace hz0 : 0 < k14.heap.size := by have := HB.out.size; omega
  have hb : Below k14.heap.size k14 (k14.alloc (.cells #[.int .i64 1, .int .i64 3] 30)) := (Below.refl _ _).alloc (Nat.le_refl _) _
  replace HG := hide ((hb.cell (p := ⟨0, 0, none⟩) hz0).trans HG.out)
  replace HB := hide (HB.out.trans (hb.mono HB.out.size))
  replace B1 := hide (B1.out.next hb)
  replace B2 := hide (B2.out.next hb)
  replace S1 := hide (S1.out.next hb)
  replace S2 := hide (S2.out.next hb)
  replace S3 := hide (S3.out.next hb)
  replace S4 := hide (S4.out.next hb)
  have S5 : Hid (Blk (k14.alloc (.cells #[.int .i64 1, .int .i64 3] 30)) k14.heap.size 30 #[.int .i64 1, .int .i64 3]) := hide (Blk.made)
  clear hb
  have hzn : k14.heap.size < (k14.alloc (.cells #[.int .i64 1, .int .i64 3] 30)).heap.size := by simp
  obtain ⟨zq, x0, x1⟩ := B2.out.cells
  go_wp2_with fail
  generalize k14.alloc (.cells #[.int .i64 1, .int .i64 3] 30) = k15 at *
  generalize k14.heap.size = s5 at *
  replace hz0 : 0 < k15.heap.size := by have := HB.out.size; omega
  clear x0 x1 zq hzn
  refine (missX (n := 2) (n' := 2) (ys := [0, 1]) (ys' := [0, 1]) B2.out.v ex_miss.2 rfl rfl rfl rfl).mono ?_
  rintro e k16 ⟨A3, p3, A4, p4, rfl, hi3, hi4, hb⟩
  replace HG := hide ((hb.cell (p := ⟨0, 0, none⟩) hz0).trans HG.out)
  replace HB := hide (HB.out.trans (hb.mono HB.out.size))
  replace B1 := hide (B1.out.next hb)
  replace B2 := hide (B2.out.next hb)
  replace S1 := hide (S1.out.next hb)
  replace S2 := hide (S2.out.next hb)
  replace S3 := hide (S3.out.next hb)
  replace S4 := hide (S4.out.next hb)
  replace S5 := hide (S5.out.next hb)
  have M3 := hide (hi3)
  have M4 := hide (hi4)
  clear hb
  replace hz0 : 0 < k16.heap.size := by have := HB.out.size; omega
  clear hi3 hi4
  obtain ⟨zq, x0, x1⟩ := B1.out.cells
  go_wp2_with fail
  clear x0 x1 zq
  refine (wrongX (n := 0) (ys := []) B1.out.v kn_wrong rfl rfl).mono ?_
  rintro e k17 ⟨A6, p6, rfl, hi6, hb⟩
  replace HG := hide ((hb.cell (p := ⟨0, 0, none⟩) hz0).trans HG.out)
  replace HB := hide (HB.out.trans (hb.mono HB.out.size))
  replace B1 := hide (B1.out.next hb)
  replace B2 := hide (B2.out.next hb)
  replace S1 := hide (S1.out.next hb)
  replace S2 := hide (S2.out.next hb)
  replace S3 := hide (S3.out.next hb)
  replace S4 := hide (S4.out.next hb)
  replace S5 := hide (S5.out.next hb)
  replace M3 := hide (M3.out.next hb)
  replace M4 := hide (M4.out.next hb)
  have M6 := hide (hi6)
  clear hb
  replace hz0 : 0 < k17.heap.size := by have := HB.out.size; omega
  clear hi6
  have sa1 := S1.out.at_ 0
  have sb1 := S1.out.at_ 1
  have sz1 := S1.out.lt
  have sa2 := S2.out.at_ 0
  have sb2 := S2.out.at_ 1
  have sz2 := S2.out.lt
  have sa3 := S3.out.at_ 0
  have sb3 := S3.out.at_ 1
  have sz3 := S3.out.lt
  have sa4 := S4.out.at_ 0
  have sb4 := S4.out.at_ 1
  have sz4 := S4.out.lt
  have sa5 := S5.out.at_ 0
  have sb5 := S5.out.at_ 1
  have sz5 := S5.out.lt
  simp only [List.getElem?_toArray, List.getElem?_cons_zero, List.getElem?_cons_succ] at sa1 sb1 sa2 sb2 sa3 sb3 sa4 sb4 sa5 sb5
  go_wp2_with fail
  simp only [List.append_eq, List.cons_append, List.nil_append]
  refine wp_post (fun a W => a.tmps[0]?.getD undef = .bool true ∧ a.defers = [] ∧ Keep (fun _ => False) k17 W) ?reg ?imp
  case reg =>
    refine wp_region_rel3 (dst := fun oi => [58, 59, 60, 61, 62, 63, 64, 65, 66, 67, 68, 69, 70, 71, 72, 73, 74, 75, 76, 77, 78, 79, 80, 81, 82, 83, 84, 85, 86, 87, 88, 89, 90, 91, 92, 93, 94, 95, 96, 97, 98, 99, 100, 101, 102, 103, 104, 105, 106, 107, 108, 109, 110, 111, 112, 113, 114, 115, 116, 117, 118, 119, 120, 121, 0].getD oi 0) (mono := fun oi => decide (oi < 65)) (pre := fun oi => decide (oi < 65)) (R := LKeep (fun _ => False) (fun _ => True))
      (Pv := fun oi v W => match oi with
        | 0 => v = .int .i64 0
        | 1 => v = .bool true
        | 2 => v = .bool true
        | 3 => v = .int .i64 0
        | 4 => v = .bool true
        | 5 => v = .bool true
        | 6 => v = .bool true
        | 7 => v = .int .i64 0
        | 8 => v = .bool true
        | 9 => v = .bool true
        | 10 => v = .bool true
        | 11 => v = .int .i64 0
        | 12 => v = .bool true
        | 13 => v = .bool true
        | 14 => v = .bool true
        | 15 => v = .int .i64 0
        | 16 => v = .bool true
        | 17 => v = .bool true
        | 18 => v = .bool true
        | 19 => v = .int .i64 0
        | 20 => v = .bool true
        | 21 => v = .bool true
        | 22 => v = .bool true
        | 23 => v = .int .i64 0
        | 24 => v = .bool true
        | 25 => v = .bool true
        | 26 => v = .bool true
        | 27 => v = .agg #[.int .i64 34, .int .i64 39]
        | 28 => v = .agg #[.int .i64 34, .int .i64 39]
        | 29 => v = .bool true
        | 30 => v = .bool true
        | 31 => v = .bool true
        | 32 => v = .agg #[.int .i64 18, .int .i64 20]
        | 33 => v = .agg #[.int .i64 18, .int .i64 20]
        | 34 => v = .bool true
        | 35 => v = .bool true
        | 36 => v = .bool true
        | 37 => v = .agg #[.int .i64 0, .int .i64 5]
        | 38 => v = .agg #[.int .i64 0, .int .i64 5]
        | 39 => v = .bool true
        | 40 => v = .bool true
        | 41 => v = .bool true
        | 42 => v = .agg #[.int .i64 0, .int .i64 0]
        | 43 => v = .agg #[.int .i64 0, .int .i64 0]
        | 44 => v = .bool true
        | 45 => v = .bool true
        | 46 => v = .bool true
        | 47 => v = .agg #[.int .i64 1, .int .i64 3]
        | 48 => v = .agg #[.int .i64 1, .int .i64 3]
        | 49 => v = .bool true
        | 50 => v = .bool true
        | 51 => v = .bool true
        | 52 => v = .slice A4 2 p4
        | 53 => ∃ gl cp, v = .slice gl 2 cp ∧ IntsS W W.heap.size gl 2 cp ([0, 1])
        | 54 => v = .bool true
        | 55 => v = .bool true
        | 56 => v = .bool true
        | 57 => v = .slice A6 0 p6
        | 58 => v = .int .i64 (0 : Nat)
        | 59 => v = .bool true
        | 60 => v = .bool true
        | 61 => v = .bool true
        | 62 => v = .bool true
        | 63 => v = .bool true
        | 64 => v = .bool true
        | _ => True) (by kernel_rfl) (by kernel_rfl) (LKeep.refl _ _) (fun _ _ _ h h' => h.trans h') ?hst ?hstep ?hend
    case hst =>
      intro oi v W W' h hk
      match oi, h with
      | 0, h => exact h
      | 1, h => exact h
      | 2, h => exact h
      | 3, h => exact h
      | 4, h => exact h
      | 5, h => exact h
      | 6, h => exact h
      | 7, h => exact h
      | 8, h => exact h
      | 9, h => exact h
      | 10, h => exact h
      | 11, h => exact h
      | 12, h => exact h
      | 13, h => exact h
      | 14, h => exact h
      | 15, h => exact h
      | 16, h => exact h
      | 17, h => exact h
      | 18, h => exact h
      | 19, h => exact h
      | 20, h => exact h
      | 21, h => exact h
      | 22, h => exact h
      | 23, h => exact h
      | 24, h => exact h
      | 25, h => exact h
      | 26, h => exact h
      | 27, h => exact h
      | 28, h => exact h
      | 29, h => exact h
      | 30, h => exact h
      | 31, h => exact h
      | 32, h => exact h
      | 33, h => exact h
      | 34, h => exact h
      | 35, h => exact h
      | 36, h => exact h
      | 37, h => exact h
      | 38, h => exact h
      | 39, h => exact h
      | 40, h => exact h
      | 41, h => exact h
      | 42, h => exact h
      | 43, h => exact h
      | 44, h => exact h
      | 45, h => exact h
      | 46, h => exact h
      | 47, h => exact h
      | 48, h => exact h
      | 49, h => exact h
      | 50, h => exact h
      | 51, h => exact h
      | 52, h => exact h
      | 53, h => obtain ⟨gl, cp, h1, h2⟩ := h; exact ⟨gl, cp, h1, h2.next (hk.1.below (B := W.heap.size) (fun k h => h.elim) (Nat.le_refl _))⟩
      | 54, h => exact h
      | 55, h => exact h
      | 56, h => exact h
      | 57, h => exact h
      | 58, h => exact h
      | 59, h => exact h
      | 60, h => exact h
      | 61, h => exact h
      | 62, h => exact h
      | 63, h => exact h
      | 64, h => exact h
      | oi + 65, h => exact trivial
    case hstep =>
      intro oi hoi hom listed vs ao W hU hk0 hpv haft Ko hK
      have hkk := (LKeep.drew (fun _ => False) (M := fun _ => True) k17 (fun h => h)).trans hk0
      have hk := hkk.1
      have hkm := hkk.2
      clear hkk
      match oi, hoi, hom with
      | 0, hoi, hom =>
        have z4 : ao.tmps[4]?.getD undef = .int .i64 0 := hU.same 4 (by decide)
        refine wpOp_value (v := .int .i64 0) (W' := W) rfl rfl ?_ (hK _ _ (LKeep.refl _ _ _) rfl)
        go_simp
      | 1, hoi, hom =>
        have l0 := haft _ rfl { on := 0, ground := .data } (by simp) rfl
        have hv0 : vs 0 = .int .i64 0 := hpv 0 l0
        have s0 : ao.tmps[58]?.getD undef = vs 0 := hU.slot 0 (by decide) l0
        rw [hv0] at s0
        refine wpOp_value (v := .bool true) (W' := W) rfl rfl ?_ (hK _ _ (LKeep.refl _ _ _) rfl)
        go_simp
      | 2, hoi, hom =>
        have l1 := haft _ rfl { on := 1, ground := .data } (by simp) rfl
        have hv1 : vs 1 = .bool true := hpv 1 l1
        have s1 : ao.tmps[59]?.getD undef = vs 1 := hU.slot 1 (by decide) l1
        rw [hv1] at s1
        refine wpOp_value (v := .bool true) (W' := W) rfl rfl ?_ (hK _ _ (LKeep.refl _ _ _) rfl)
        go_simp
      | 3, hoi, hom =>
        have l2 := haft _ rfl { on := 2, ground := .guard } (by simp) rfl
        have hv2 : vs 2 = .bool true := hpv 2 l2
        have s2 : ao.tmps[60]?.getD undef = vs 2 := hU.slot 2 (by decide) l2
        rw [hv2] at s2
        have z6 : ao.tmps[6]?.getD undef = .int .i64 0 := hU.same 6 (by decide)
        refine wpOp_wanted (v := .int .i64 0) (W' := W) rfl ?_ ?_ (hK _ _ (LKeep.refl _ _ _) rfl)
        · refine wanted_yes (j := 2) (d := 60) ?_ ?_ s2 <;> rfl
        go_simp
      | 4, hoi, hom =>
        have l2 := haft _ rfl { on := 2, ground := .guard } (by simp) rfl
        have hv2 : vs 2 = .bool true := hpv 2 l2
        have s2 : ao.tmps[60]?.getD undef = vs 2 := hU.slot 2 (by decide) l2
        rw [hv2] at s2
        have l3 := haft _ rfl { on := 3, ground := .data } (by simp) rfl
        have hv3 : vs 3 = .int .i64 0 := hpv 3 l3
        have s3 : ao.tmps[61]?.getD undef = vs 3 := hU.slot 3 (by decide) l3
        rw [hv3] at s3
        refine wpOp_wanted (v := .bool true) (W' := W) rfl ?_ ?_ (hK _ _ (LKeep.refl _ _ _) rfl)
        · refine wanted_yes (j := 2) (d := 60) ?_ ?_ s2 <;> rfl
        go_simp
      | 5, hoi, hom =>
        have l2 := haft _ rfl { on := 2, ground := .data } (by simp) rfl
        have hv2 : vs 2 = .bool true := hpv 2 l2
        have s2 : ao.tmps[60]?.getD undef = vs 2 := hU.slot 2 (by decide) l2
        rw [hv2] at s2
        have l4 := haft _ rfl { on := 4, ground := .data } (by simp) rfl
        have hv4 : vs 4 = .bool true := hpv 4 l4
        have s4 : ao.tmps[62]?.getD undef = vs 4 := hU.slot 4 (by decide) l4
        rw [hv4] at s4
        refine wpOp_value (v := .bool true) (W' := W) rfl rfl ?_ (hK _ _ (LKeep.refl _ _ _) rfl)
        go_simp
      | 6, hoi, hom =>
        have l5 := haft _ rfl { on := 5, ground := .data } (by simp) rfl
        have hv5 : vs 5 = .bool true := hpv 5 l5
        have s5 : ao.tmps[63]?.getD undef = vs 5 := hU.slot 5 (by decide) l5
        rw [hv5] at s5
        refine wpOp_value (v := .bool true) (W' := W) rfl rfl ?_ (hK _ _ (LKeep.refl _ _ _) rfl)
        go_simp
      | 7, hoi, hom =>
        have l6 := haft _ rfl { on := 6, ground := .guard } (by simp) rfl
        have hv6 : vs 6 = .bool true := hpv 6 l6
        have s6 : ao.tmps[64]?.getD undef = vs 6 := hU.slot 6 (by decide) l6
        rw [hv6] at s6
        have z8 : ao.tmps[8]?.getD undef = .int .i64 0 := hU.same 8 (by decide)
        refine wpOp_wanted (v := .int .i64 0) (W' := W) rfl ?_ ?_ (hK _ _ (LKeep.refl _ _ _) rfl)
        · refine wanted_yes (j := 6) (d := 64) ?_ ?_ s6 <;> rfl
        go_simp
      | 8, hoi, hom =>
        have l6 := haft _ rfl { on := 6, ground := .guard } (by simp) rfl
        have hv6 : vs 6 = .bool true := hpv 6 l6
        have s6 : ao.tmps[64]?.getD undef = vs 6 := hU.slot 6 (by decide) l6
        rw [hv6] at s6
        have l7 := haft _ rfl { on := 7, ground := .data } (by simp) rfl
        have hv7 : vs 7 = .int .i64 0 := hpv 7 l7
        have s7 : ao.tmps[65]?.getD undef = vs 7 := hU.slot 7 (by decide) l7
        rw [hv7] at s7
        refine wpOp_wanted (v := .bool true) (W' := W) rfl ?_ ?_ (hK _ _ (LKeep.refl _ _ _) rfl)
        · refine wanted_yes (j := 6) (d := 64) ?_ ?_ s6 <;> rfl
        go_simp
      | 9, hoi, hom =>
        have l6 := haft _ rfl { on := 6, ground := .data } (by simp) rfl
        have hv6 : vs 6 = .bool true := hpv 6 l6
        have s6 : ao.tmps[64]?.getD undef = vs 6 := hU.slot 6 (by decide) l6
        rw [hv6] at s6
        have l8 := haft _ rfl { on := 8, ground := .data } (by simp) rfl
        have hv8 : vs 8 = .bool true := hpv 8 l8
        have s8 : ao.tmps[66]?.getD undef = vs 8 := hU.slot 8 (by decide) l8
        rw [hv8] at s8
        refine wpOp_value (v := .bool true) (W' := W) rfl rfl ?_ (hK _ _ (LKeep.refl _ _ _) rfl)
        go_simp
      | 10, hoi, hom =>
        have l9 := haft _ rfl { on := 9, ground := .data } (by simp) rfl
        have hv9 : vs 9 = .bool true := hpv 9 l9
        have s9 : ao.tmps[67]?.getD undef = vs 9 := hU.slot 9 (by decide) l9
        rw [hv9] at s9
        refine wpOp_value (v := .bool true) (W' := W) rfl rfl ?_ (hK _ _ (LKeep.refl _ _ _) rfl)
        go_simp
      | 11, hoi, hom =>
        have l10 := haft _ rfl { on := 10, ground := .guard } (by simp) rfl
        have hv10 : vs 10 = .bool true := hpv 10 l10
        have s10 : ao.tmps[68]?.getD undef = vs 10 := hU.slot 10 (by decide) l10
        rw [hv10] at s10
        have z10 : ao.tmps[10]?.getD undef = .int .i64 0 := hU.same 10 (by decide)
        refine wpOp_wanted (v := .int .i64 0) (W' := W) rfl ?_ ?_ (hK _ _ (LKeep.refl _ _ _) rfl)
        · refine wanted_yes (j := 10) (d := 68) ?_ ?_ s10 <;> rfl
        go_simp
      | 12, hoi, hom =>
        have l10 := haft _ rfl { on := 10, ground := .guard } (by simp) rfl
        have hv10 : vs 10 = .bool true := hpv 10 l10
        have s10 : ao.tmps[68]?.getD undef = vs 10 := hU.slot 10 (by decide) l10
        rw [hv10] at s10
        have l11 := haft _ rfl { on := 11, ground := .data } (by simp) rfl
        have hv11 : vs 11 = .int .i64 0 := hpv 11 l11
        have s11 : ao.tmps[69]?.getD undef = vs 11 := hU.slot 11 (by decide) l11
        rw [hv11] at s11
        refine wpOp_wanted (v := .bool true) (W' := W) rfl ?_ ?_ (hK _ _ (LKeep.refl _ _ _) rfl)
        · refine wanted_yes (j := 10) (d := 68) ?_ ?_ s10 <;> rfl
        go_simp
      | 13, hoi, hom =>
        have l10 := haft _ rfl { on := 10, ground := .data } (by simp) rfl
        have hv10 : vs 10 = .bool true := hpv 10 l10
        have s10 : ao.tmps[68]?.getD undef = vs 10 := hU.slot 10 (by decide) l10
        rw [hv10] at s10
        have l12 := haft _ rfl { on := 12, ground := .data } (by simp) rfl
        have hv12 : vs 12 = .bool true := hpv 12 l12
        have s12 : ao.tmps[70]?.getD undef = vs 12 := hU.slot 12 (by decide) l12
        rw [hv12] at s12
        refine wpOp_value (v := .bool true) (W' := W) rfl rfl ?_ (hK _ _ (LKeep.refl _ _ _) rfl)
        go_simp
      | 14, hoi, hom =>
        have l13 := haft _ rfl { on := 13, ground := .data } (by simp) rfl
        have hv13 : vs 13 = .bool true := hpv 13 l13
        have s13 : ao.tmps[71]?.getD undef = vs 13 := hU.slot 13 (by decide) l13
        rw [hv13] at s13
        refine wpOp_value (v := .bool true) (W' := W) rfl rfl ?_ (hK _ _ (LKeep.refl _ _ _) rfl)
        go_simp
      | 15, hoi, hom =>
        have l14 := haft _ rfl { on := 14, ground := .guard } (by simp) rfl
        have hv14 : vs 14 = .bool true := hpv 14 l14
        have s14 : ao.tmps[72]?.getD undef = vs 14 := hU.slot 14 (by decide) l14
        rw [hv14] at s14
        have z12 : ao.tmps[12]?.getD undef = .int .i64 0 := hU.same 12 (by decide)
        refine wpOp_wanted (v := .int .i64 0) (W' := W) rfl ?_ ?_ (hK _ _ (LKeep.refl _ _ _) rfl)
        · refine wanted_yes (j := 14) (d := 72) ?_ ?_ s14 <;> rfl
        go_simp
      | 16, hoi, hom =>
        have l14 := haft _ rfl { on := 14, ground := .guard } (by simp) rfl
        have hv14 : vs 14 = .bool true := hpv 14 l14
        have s14 : ao.tmps[72]?.getD undef = vs 14 := hU.slot 14 (by decide) l14
        rw [hv14] at s14
        have l15 := haft _ rfl { on := 15, ground := .data } (by simp) rfl
        have hv15 : vs 15 = .int .i64 0 := hpv 15 l15
        have s15 : ao.tmps[73]?.getD undef = vs 15 := hU.slot 15 (by decide) l15
        rw [hv15] at s15
        refine wpOp_wanted (v := .bool true) (W' := W) rfl ?_ ?_ (hK _ _ (LKeep.refl _ _ _) rfl)
        · refine wanted_yes (j := 14) (d := 72) ?_ ?_ s14 <;> rfl
        go_simp
      | 17, hoi, hom =>
        have l14 := haft _ rfl { on := 14, ground := .data } (by simp) rfl
        have hv14 : vs 14 = .bool true := hpv 14 l14
        have s14 : ao.tmps[72]?.getD undef = vs 14 := hU.slot 14 (by decide) l14
        rw [hv14] at s14
        have l16 := haft _ rfl { on := 16, ground := .data } (by simp) rfl
        have hv16 : vs 16 = .bool true := hpv 16 l16
        have s16 : ao.tmps[74]?.getD undef = vs 16 := hU.slot 16 (by decide) l16
        rw [hv16] at s16
        refine wpOp_value (v := .bool true) (W' := W) rfl rfl ?_ (hK _ _ (LKeep.refl _ _ _) rfl)
        go_simp
      | 18, hoi, hom =>
        have l17 := haft _ rfl { on := 17, ground := .data } (by simp) rfl
        have hv17 : vs 17 = .bool true := hpv 17 l17
        have s17 : ao.tmps[75]?.getD undef = vs 17 := hU.slot 17 (by decide) l17
        rw [hv17] at s17
        refine wpOp_value (v := .bool true) (W' := W) rfl rfl ?_ (hK _ _ (LKeep.refl _ _ _) rfl)
        go_simp
      | 19, hoi, hom =>
        have l18 := haft _ rfl { on := 18, ground := .guard } (by simp) rfl
        have hv18 : vs 18 = .bool true := hpv 18 l18
        have s18 : ao.tmps[76]?.getD undef = vs 18 := hU.slot 18 (by decide) l18
        rw [hv18] at s18
        have z15 : ao.tmps[15]?.getD undef = .int .i64 0 := hU.same 15 (by decide)
        refine wpOp_wanted (v := .int .i64 0) (W' := W) rfl ?_ ?_ (hK _ _ (LKeep.refl _ _ _) rfl)
        · refine wanted_yes (j := 18) (d := 76) ?_ ?_ s18 <;> rfl
        go_simp
      | 20, hoi, hom =>
        have l18 := haft _ rfl { on := 18, ground := .guard } (by simp) rfl
        have hv18 : vs 18 = .bool true := hpv 18 l18
        have s18 : ao.tmps[76]?.getD undef = vs 18 := hU.slot 18 (by decide) l18
        rw [hv18] at s18
        have l19 := haft _ rfl { on := 19, ground := .data } (by simp) rfl
        have hv19 : vs 19 = .int .i64 0 := hpv 19 l19
        have s19 : ao.tmps[77]?.getD undef = vs 19 := hU.slot 19 (by decide) l19
        rw [hv19] at s19
        refine wpOp_wanted (v := .bool true) (W' := W) rfl ?_ ?_ (hK _ _ (LKeep.refl _ _ _) rfl)
        · refine wanted_yes (j := 18) (d := 76) ?_ ?_ s18 <;> rfl
        go_simp
      | 21, hoi, hom =>
        have l18 := haft _ rfl { on := 18, ground := .data } (by simp) rfl
        have hv18 : vs 18 = .bool true := hpv 18 l18
        have s18 : ao.tmps[76]?.getD undef = vs 18 := hU.slot 18 (by decide) l18
        rw [hv18] at s18
        have l20 := haft _ rfl { on := 20, ground := .data } (by simp) rfl
        have hv20 : vs 20 = .bool true := hpv 20 l20
        have s20 : ao.tmps[78]?.getD undef = vs 20 := hU.slot 20 (by decide) l20
        rw [hv20] at s20
        refine wpOp_value (v := .bool true) (W' := W) rfl rfl ?_ (hK _ _ (LKeep.refl _ _ _) rfl)
        go_simp
      | 22, hoi, hom =>
        have l21 := haft _ rfl { on := 21, ground := .data } (by simp) rfl
        have hv21 : vs 21 = .bool true := hpv 21 l21
        have s21 : ao.tmps[79]?.getD undef = vs 21 := hU.slot 21 (by decide) l21
        rw [hv21] at s21
        refine wpOp_value (v := .bool true) (W' := W) rfl rfl ?_ (hK _ _ (LKeep.refl _ _ _) rfl)
        go_simp
      | 23, hoi, hom =>
        have l22 := haft _ rfl { on := 22, ground := .guard } (by simp) rfl
        have hv22 : vs 22 = .bool true := hpv 22 l22
        have s22 : ao.tmps[80]?.getD undef = vs 22 := hU.slot 22 (by decide) l22
        rw [hv22] at s22
        have z17 : ao.tmps[17]?.getD undef = .int .i64 0 := hU.same 17 (by decide)
        refine wpOp_wanted (v := .int .i64 0) (W' := W) rfl ?_ ?_ (hK _ _ (LKeep.refl _ _ _) rfl)
        · refine wanted_yes (j := 22) (d := 80) ?_ ?_ s22 <;> rfl
        go_simp
      | 24, hoi, hom =>
        have l22 := haft _ rfl { on := 22, ground := .guard } (by simp) rfl
        have hv22 : vs 22 = .bool true := hpv 22 l22
        have s22 : ao.tmps[80]?.getD undef = vs 22 := hU.slot 22 (by decide) l22
        rw [hv22] at s22
        have l23 := haft _ rfl { on := 23, ground := .data } (by simp) rfl
        have hv23 : vs 23 = .int .i64 0 := hpv 23 l23
        have s23 : ao.tmps[81]?.getD undef = vs 23 := hU.slot 23 (by decide) l23
        rw [hv23] at s23
        refine wpOp_wanted (v := .bool true) (W' := W) rfl ?_ ?_ (hK _ _ (LKeep.refl _ _ _) rfl)
        · refine wanted_yes (j := 22) (d := 80) ?_ ?_ s22 <;> rfl
        go_simp
      | 25, hoi, hom =>
        have l22 := haft _ rfl { on := 22, ground := .data } (by simp) rfl
        have hv22 : vs 22 = .bool true := hpv 22 l22
        have s22 : ao.tmps[80]?.getD undef = vs 22 := hU.slot 22 (by decide) l22
        rw [hv22] at s22
        have l24 := haft _ rfl { on := 24, ground := .data } (by simp) rfl
        have hv24 : vs 24 = .bool true := hpv 24 l24
        have s24 : ao.tmps[82]?.getD undef = vs 24 := hU.slot 24 (by decide) l24
        rw [hv24] at s24
        refine wpOp_value (v := .bool true) (W' := W) rfl rfl ?_ (hK _ _ (LKeep.refl _ _ _) rfl)
        go_simp
      | 26, hoi, hom =>
        have l25 := haft _ rfl { on := 25, ground := .data } (by simp) rfl
        have hv25 : vs 25 = .bool true := hpv 25 l25
        have s25 : ao.tmps[83]?.getD undef = vs 25 := hU.slot 25 (by decide) l25
        rw [hv25] at s25
        refine wpOp_value (v := .bool true) (W' := W) rfl rfl ?_ (hK _ _ (LKeep.refl _ _ _) rfl)
        go_simp
      | 27, hoi, hom =>
        have l26 := haft _ rfl { on := 26, ground := .guard } (by simp) rfl
        have hv26 : vs 26 = .bool true := hpv 26 l26
        have s26 : ao.tmps[84]?.getD undef = vs 26 := hU.slot 26 (by decide) l26
        rw [hv26] at s26
        have z3 : ao.tmps[3]?.getD undef = .pointer (some ⟨s1, 0, none⟩) := hU.same 3 (by decide)
        have y0 := (hk.cell (b := s1) (o := 0) (sz1) (fun h => h)).trans (sa1)
        have y1 := (hk.cell (b := s1) (o := 1) (sz1) (fun h => h)).trans (sb1)
        refine wpOp_wanted (v := .agg #[.int .i64 34, .int .i64 39]) (W' := W) rfl ?_ ?_ (hK _ _ (LKeep.refl _ _ _) rfl)
        · refine wanted_yes (j := 26) (d := 84) ?_ ?_ s26 <;> rfl
        go_simp
      | 28, hoi, hom =>
        have l26 := haft _ rfl { on := 26, ground := .guard } (by simp) rfl
        have hv26 : vs 26 = .bool true := hpv 26 l26
        have s26 : ao.tmps[84]?.getD undef = vs 26 := hU.slot 26 (by decide) l26
        rw [hv26] at s26
        refine wpOp_enterW (f := 40) (args := #[.int .i64 34, .int .i64 39]) (W' := W) rfl ?_ ?_ ((span12_any 34 39 W).mono (fun e w'' h => ?_))
        · refine wanted_yes (j := 26) (d := 84) ?_ ?_ s26 <;> rfl
        · go_simp
        · obtain ⟨he, hbw⟩ := h
          exact ⟨_, he, hK _ _ (LKeep.below hbw (fun h => h)) rfl⟩
      | 29, hoi, hom =>
        have l26 := haft _ rfl { on := 26, ground := .guard } (by simp) rfl
        have hv26 : vs 26 = .bool true := hpv 26 l26
        have s26 : ao.tmps[84]?.getD undef = vs 26 := hU.slot 26 (by decide) l26
        rw [hv26] at s26
        have l27 := haft _ rfl { on := 27, ground := .data } (by simp) rfl
        have hv27 : vs 27 = .agg #[.int .i64 34, .int .i64 39] := hpv 27 l27
        have s27 : ao.tmps[85]?.getD undef = vs 27 := hU.slot 27 (by decide) l27
        rw [hv27] at s27
        have l28 := haft _ rfl { on := 28, ground := .data } (by simp) rfl
        have hv28 : vs 28 = .agg #[.int .i64 34, .int .i64 39] := hpv 28 l28
        have s28 : ao.tmps[86]?.getD undef = vs 28 := hU.slot 28 (by decide) l28
        rw [hv28] at s28
        refine wpOp_wanted (v := .bool true) (W' := W) rfl ?_ ?_ (hK _ _ (LKeep.refl _ _ _) rfl)
        · refine wanted_yes (j := 26) (d := 84) ?_ ?_ s26 <;> rfl
        go_simp
      | 30, hoi, hom =>
        have l26 := haft _ rfl { on := 26, ground := .data } (by simp) rfl
        have hv26 : vs 26 = .bool true := hpv 26 l26
        have s26 : ao.tmps[84]?.getD undef = vs 26 := hU.slot 26 (by decide) l26
        rw [hv26] at s26
        have l29 := haft _ rfl { on := 29, ground := .data } (by simp) rfl
        have hv29 : vs 29 = .bool true := hpv 29 l29
        have s29 : ao.tmps[87]?.getD undef = vs 29 := hU.slot 29 (by decide) l29
        rw [hv29] at s29
        refine wpOp_value (v := .bool true) (W' := W) rfl rfl ?_ (hK _ _ (LKeep.refl _ _ _) rfl)
        go_simp
      | 31, hoi, hom =>
        have l30 := haft _ rfl { on := 30, ground := .data } (by simp) rfl
        have hv30 : vs 30 = .bool true := hpv 30 l30
        have s30 : ao.tmps[88]?.getD undef = vs 30 := hU.slot 30 (by decide) l30
        rw [hv30] at s30
        refine wpOp_value (v := .bool true) (W' := W) rfl rfl ?_ (hK _ _ (LKeep.refl _ _ _) rfl)
        go_simp
      | 32, hoi, hom =>
        have l31 := haft _ rfl { on := 31, ground := .guard } (by simp) rfl
        have hv31 : vs 31 = .bool true := hpv 31 l31
        have s31 : ao.tmps[89]?.getD undef = vs 31 := hU.slot 31 (by decide) l31
        rw [hv31] at s31
        have z5 : ao.tmps[5]?.getD undef = .pointer (some ⟨s2, 0, none⟩) := hU.same 5 (by decide)
        have y0 := (hk.cell (b := s2) (o := 0) (sz2) (fun h => h)).trans (sa2)
        have y1 := (hk.cell (b := s2) (o := 1) (sz2) (fun h => h)).trans (sb2)
        refine wpOp_wanted (v := .agg #[.int .i64 18, .int .i64 20]) (W' := W) rfl ?_ ?_ (hK _ _ (LKeep.refl _ _ _) rfl)
        · refine wanted_yes (j := 31) (d := 89) ?_ ?_ s31 <;> rfl
        go_simp
      | 33, hoi, hom =>
        have l31 := haft _ rfl { on := 31, ground := .guard } (by simp) rfl
        have hv31 : vs 31 = .bool true := hpv 31 l31
        have s31 : ao.tmps[89]?.getD undef = vs 31 := hU.slot 31 (by decide) l31
        rw [hv31] at s31
        refine wpOp_enterW (f := 40) (args := #[.int .i64 18, .int .i64 20]) (W' := W) rfl ?_ ?_ ((span12_any 18 20 W).mono (fun e w'' h => ?_))
        · refine wanted_yes (j := 31) (d := 89) ?_ ?_ s31 <;> rfl
        · go_simp
        · obtain ⟨he, hbw⟩ := h
          exact ⟨_, he, hK _ _ (LKeep.below hbw (fun h => h)) rfl⟩
      | 34, hoi, hom =>
        have l31 := haft _ rfl { on := 31, ground := .guard } (by simp) rfl
        have hv31 : vs 31 = .bool true := hpv 31 l31
        have s31 : ao.tmps[89]?.getD undef = vs 31 := hU.slot 31 (by decide) l31
        rw [hv31] at s31
        have l32 := haft _ rfl { on := 32, ground := .data } (by simp) rfl
        have hv32 : vs 32 = .agg #[.int .i64 18, .int .i64 20] := hpv 32 l32
        have s32 : ao.tmps[90]?.getD undef = vs 32 := hU.slot 32 (by decide) l32
        rw [hv32] at s32
        have l33 := haft _ rfl { on := 33, ground := .data } (by simp) rfl
        have hv33 : vs 33 = .agg #[.int .i64 18, .int .i64 20] := hpv 33 l33
        have s33 : ao.tmps[91]?.getD undef = vs 33 := hU.slot 33 (by decide) l33
        rw [hv33] at s33
        refine wpOp_wanted (v := .bool true) (W' := W) rfl ?_ ?_ (hK _ _ (LKeep.refl _ _ _) rfl)
        · refine wanted_yes (j := 31) (d := 89) ?_ ?_ s31 <;> rfl
        go_simp
      | 35, hoi, hom =>
        have l31 := haft _ rfl { on := 31, ground := .data } (by simp) rfl
        have hv31 : vs 31 = .bool true := hpv 31 l31
        have s31 : ao.tmps[89]?.getD undef = vs 31 := hU.slot 31 (by decide) l31
        rw [hv31] at s31
        have l34 := haft _ rfl { on := 34, ground := .data } (by simp) rfl
        have hv34 : vs 34 = .bool true := hpv 34 l34
        have s34 : ao.tmps[92]?.getD undef = vs 34 := hU.slot 34 (by decide) l34
        rw [hv34] at s34
        refine wpOp_value (v := .bool true) (W' := W) rfl rfl ?_ (hK _ _ (LKeep.refl _ _ _) rfl)
        go_simp
      | 36, hoi, hom =>
        have l35 := haft _ rfl { on := 35, ground := .data } (by simp) rfl
        have hv35 : vs 35 = .bool true := hpv 35 l35
        have s35 : ao.tmps[93]?.getD undef = vs 35 := hU.slot 35 (by decide) l35
        rw [hv35] at s35
        refine wpOp_value (v := .bool true) (W' := W) rfl rfl ?_ (hK _ _ (LKeep.refl _ _ _) rfl)
        go_simp
      | 37, hoi, hom =>
        have l36 := haft _ rfl { on := 36, ground := .guard } (by simp) rfl
        have hv36 : vs 36 = .bool true := hpv 36 l36
        have s36 : ao.tmps[94]?.getD undef = vs 36 := hU.slot 36 (by decide) l36
        rw [hv36] at s36
        have z7 : ao.tmps[7]?.getD undef = .pointer (some ⟨s3, 0, none⟩) := hU.same 7 (by decide)
        have y0 := (hk.cell (b := s3) (o := 0) (sz3) (fun h => h)).trans (sa3)
        have y1 := (hk.cell (b := s3) (o := 1) (sz3) (fun h => h)).trans (sb3)
        refine wpOp_wanted (v := .agg #[.int .i64 0, .int .i64 5]) (W' := W) rfl ?_ ?_ (hK _ _ (LKeep.refl _ _ _) rfl)
        · refine wanted_yes (j := 36) (d := 94) ?_ ?_ s36 <;> rfl
        go_simp
      | 38, hoi, hom =>
        have l36 := haft _ rfl { on := 36, ground := .guard } (by simp) rfl
        have hv36 : vs 36 = .bool true := hpv 36 l36
        have s36 : ao.tmps[94]?.getD undef = vs 36 := hU.slot 36 (by decide) l36
        rw [hv36] at s36
        refine wpOp_enterW (f := 40) (args := #[.int .i64 0, .int .i64 5]) (W' := W) rfl ?_ ?_ ((span12_any 0 5 W).mono (fun e w'' h => ?_))
        · refine wanted_yes (j := 36) (d := 94) ?_ ?_ s36 <;> rfl
        · go_simp
        · obtain ⟨he, hbw⟩ := h
          exact ⟨_, he, hK _ _ (LKeep.below hbw (fun h => h)) rfl⟩
      | 39, hoi, hom =>
        have l36 := haft _ rfl { on := 36, ground := .guard } (by simp) rfl
        have hv36 : vs 36 = .bool true := hpv 36 l36
        have s36 : ao.tmps[94]?.getD undef = vs 36 := hU.slot 36 (by decide) l36
        rw [hv36] at s36
        have l37 := haft _ rfl { on := 37, ground := .data } (by simp) rfl
        have hv37 : vs 37 = .agg #[.int .i64 0, .int .i64 5] := hpv 37 l37
        have s37 : ao.tmps[95]?.getD undef = vs 37 := hU.slot 37 (by decide) l37
        rw [hv37] at s37
        have l38 := haft _ rfl { on := 38, ground := .data } (by simp) rfl
        have hv38 : vs 38 = .agg #[.int .i64 0, .int .i64 5] := hpv 38 l38
        have s38 : ao.tmps[96]?.getD undef = vs 38 := hU.slot 38 (by decide) l38
        rw [hv38] at s38
        refine wpOp_wanted (v := .bool true) (W' := W) rfl ?_ ?_ (hK _ _ (LKeep.refl _ _ _) rfl)
        · refine wanted_yes (j := 36) (d := 94) ?_ ?_ s36 <;> rfl
        go_simp
      | 40, hoi, hom =>
        have l36 := haft _ rfl { on := 36, ground := .data } (by simp) rfl
        have hv36 : vs 36 = .bool true := hpv 36 l36
        have s36 : ao.tmps[94]?.getD undef = vs 36 := hU.slot 36 (by decide) l36
        rw [hv36] at s36
        have l39 := haft _ rfl { on := 39, ground := .data } (by simp) rfl
        have hv39 : vs 39 = .bool true := hpv 39 l39
        have s39 : ao.tmps[97]?.getD undef = vs 39 := hU.slot 39 (by decide) l39
        rw [hv39] at s39
        refine wpOp_value (v := .bool true) (W' := W) rfl rfl ?_ (hK _ _ (LKeep.refl _ _ _) rfl)
        go_simp
      | 41, hoi, hom =>
        have l40 := haft _ rfl { on := 40, ground := .data } (by simp) rfl
        have hv40 : vs 40 = .bool true := hpv 40 l40
        have s40 : ao.tmps[98]?.getD undef = vs 40 := hU.slot 40 (by decide) l40
        rw [hv40] at s40
        refine wpOp_value (v := .bool true) (W' := W) rfl rfl ?_ (hK _ _ (LKeep.refl _ _ _) rfl)
        go_simp
      | 42, hoi, hom =>
        have l41 := haft _ rfl { on := 41, ground := .guard } (by simp) rfl
        have hv41 : vs 41 = .bool true := hpv 41 l41
        have s41 : ao.tmps[99]?.getD undef = vs 41 := hU.slot 41 (by decide) l41
        rw [hv41] at s41
        have z9 : ao.tmps[9]?.getD undef = .pointer (some ⟨s4, 0, none⟩) := hU.same 9 (by decide)
        have y0 := (hk.cell (b := s4) (o := 0) (sz4) (fun h => h)).trans (sa4)
        have y1 := (hk.cell (b := s4) (o := 1) (sz4) (fun h => h)).trans (sb4)
        refine wpOp_wanted (v := .agg #[.int .i64 0, .int .i64 0]) (W' := W) rfl ?_ ?_ (hK _ _ (LKeep.refl _ _ _) rfl)
        · refine wanted_yes (j := 41) (d := 99) ?_ ?_ s41 <;> rfl
        go_simp
      | 43, hoi, hom =>
        have l41 := haft _ rfl { on := 41, ground := .guard } (by simp) rfl
        have hv41 : vs 41 = .bool true := hpv 41 l41
        have s41 : ao.tmps[99]?.getD undef = vs 41 := hU.slot 41 (by decide) l41
        rw [hv41] at s41
        refine wpOp_enterW (f := 40) (args := #[.int .i64 0, .int .i64 0]) (W' := W) rfl ?_ ?_ ((span12_any 0 0 W).mono (fun e w'' h => ?_))
        · refine wanted_yes (j := 41) (d := 99) ?_ ?_ s41 <;> rfl
        · go_simp
        · obtain ⟨he, hbw⟩ := h
          exact ⟨_, he, hK _ _ (LKeep.below hbw (fun h => h)) rfl⟩
      | 44, hoi, hom =>
        have l41 := haft _ rfl { on := 41, ground := .guard } (by simp) rfl
        have hv41 : vs 41 = .bool true := hpv 41 l41
        have s41 : ao.tmps[99]?.getD undef = vs 41 := hU.slot 41 (by decide) l41
        rw [hv41] at s41
        have l42 := haft _ rfl { on := 42, ground := .data } (by simp) rfl
        have hv42 : vs 42 = .agg #[.int .i64 0, .int .i64 0] := hpv 42 l42
        have s42 : ao.tmps[100]?.getD undef = vs 42 := hU.slot 42 (by decide) l42
        rw [hv42] at s42
        have l43 := haft _ rfl { on := 43, ground := .data } (by simp) rfl
        have hv43 : vs 43 = .agg #[.int .i64 0, .int .i64 0] := hpv 43 l43
        have s43 : ao.tmps[101]?.getD undef = vs 43 := hU.slot 43 (by decide) l43
        rw [hv43] at s43
        refine wpOp_wanted (v := .bool true) (W' := W) rfl ?_ ?_ (hK _ _ (LKeep.refl _ _ _) rfl)
        · refine wanted_yes (j := 41) (d := 99) ?_ ?_ s41 <;> rfl
        go_simp
      | 45, hoi, hom =>
        have l41 := haft _ rfl { on := 41, ground := .data } (by simp) rfl
        have hv41 : vs 41 = .bool true := hpv 41 l41
        have s41 : ao.tmps[99]?.getD undef = vs 41 := hU.slot 41 (by decide) l41
        rw [hv41] at s41
        have l44 := haft _ rfl { on := 44, ground := .data } (by simp) rfl
        have hv44 : vs 44 = .bool true := hpv 44 l44
        have s44 : ao.tmps[102]?.getD undef = vs 44 := hU.slot 44 (by decide) l44
        rw [hv44] at s44
        refine wpOp_value (v := .bool true) (W' := W) rfl rfl ?_ (hK _ _ (LKeep.refl _ _ _) rfl)
        go_simp
      | 46, hoi, hom =>
        have l45 := haft _ rfl { on := 45, ground := .data } (by simp) rfl
        have hv45 : vs 45 = .bool true := hpv 45 l45
        have s45 : ao.tmps[103]?.getD undef = vs 45 := hU.slot 45 (by decide) l45
        rw [hv45] at s45
        refine wpOp_value (v := .bool true) (W' := W) rfl rfl ?_ (hK _ _ (LKeep.refl _ _ _) rfl)
        go_simp
      | 47, hoi, hom =>
        have l46 := haft _ rfl { on := 46, ground := .guard } (by simp) rfl
        have hv46 : vs 46 = .bool true := hpv 46 l46
        have s46 : ao.tmps[104]?.getD undef = vs 46 := hU.slot 46 (by decide) l46
        rw [hv46] at s46
        have z11 : ao.tmps[11]?.getD undef = .pointer (some ⟨s5, 0, none⟩) := hU.same 11 (by decide)
        have y0 := (hk.cell (b := s5) (o := 0) (sz5) (fun h => h)).trans (sa5)
        have y1 := (hk.cell (b := s5) (o := 1) (sz5) (fun h => h)).trans (sb5)
        refine wpOp_wanted (v := .agg #[.int .i64 1, .int .i64 3]) (W' := W) rfl ?_ ?_ (hK _ _ (LKeep.refl _ _ _) rfl)
        · refine wanted_yes (j := 46) (d := 104) ?_ ?_ s46 <;> rfl
        go_simp
      | 48, hoi, hom =>
        have l46 := haft _ rfl { on := 46, ground := .guard } (by simp) rfl
        have hv46 : vs 46 = .bool true := hpv 46 l46
        have s46 : ao.tmps[104]?.getD undef = vs 46 := hU.slot 46 (by decide) l46
        rw [hv46] at s46
        refine wpOp_enterW (f := 40) (args := #[.int .i64 1, .int .i64 3]) (W' := W) rfl ?_ ?_ ((span12_any 1 3 W).mono (fun e w'' h => ?_))
        · refine wanted_yes (j := 46) (d := 104) ?_ ?_ s46 <;> rfl
        · go_simp
        · obtain ⟨he, hbw⟩ := h
          exact ⟨_, he, hK _ _ (LKeep.below hbw (fun h => h)) rfl⟩
      | 49, hoi, hom =>
        have l46 := haft _ rfl { on := 46, ground := .guard } (by simp) rfl
        have hv46 : vs 46 = .bool true := hpv 46 l46
        have s46 : ao.tmps[104]?.getD undef = vs 46 := hU.slot 46 (by decide) l46
        rw [hv46] at s46
        have l47 := haft _ rfl { on := 47, ground := .data } (by simp) rfl
        have hv47 : vs 47 = .agg #[.int .i64 1, .int .i64 3] := hpv 47 l47
        have s47 : ao.tmps[105]?.getD undef = vs 47 := hU.slot 47 (by decide) l47
        rw [hv47] at s47
        have l48 := haft _ rfl { on := 48, ground := .data } (by simp) rfl
        have hv48 : vs 48 = .agg #[.int .i64 1, .int .i64 3] := hpv 48 l48
        have s48 : ao.tmps[106]?.getD undef = vs 48 := hU.slot 48 (by decide) l48
        rw [hv48] at s48
        refine wpOp_wanted (v := .bool true) (W' := W) rfl ?_ ?_ (hK _ _ (LKeep.refl _ _ _) rfl)
        · refine wanted_yes (j := 46) (d := 104) ?_ ?_ s46 <;> rfl
        go_simp
      | 50, hoi, hom =>
        have l46 := haft _ rfl { on := 46, ground := .data } (by simp) rfl
        have hv46 : vs 46 = .bool true := hpv 46 l46
        have s46 : ao.tmps[104]?.getD undef = vs 46 := hU.slot 46 (by decide) l46
        rw [hv46] at s46
        have l49 := haft _ rfl { on := 49, ground := .data } (by simp) rfl
        have hv49 : vs 49 = .bool true := hpv 49 l49
        have s49 : ao.tmps[107]?.getD undef = vs 49 := hU.slot 49 (by decide) l49
        rw [hv49] at s49
        refine wpOp_value (v := .bool true) (W' := W) rfl rfl ?_ (hK _ _ (LKeep.refl _ _ _) rfl)
        go_simp
      | 51, hoi, hom =>
        have l50 := haft _ rfl { on := 50, ground := .data } (by simp) rfl
        have hv50 : vs 50 = .bool true := hpv 50 l50
        have s50 : ao.tmps[108]?.getD undef = vs 50 := hU.slot 50 (by decide) l50
        rw [hv50] at s50
        refine wpOp_value (v := .bool true) (W' := W) rfl rfl ?_ (hK _ _ (LKeep.refl _ _ _) rfl)
        go_simp
      | 52, hoi, hom =>
        have l51 := haft _ rfl { on := 51, ground := .guard } (by simp) rfl
        have hv51 : vs 51 = .bool true := hpv 51 l51
        have s51 : ao.tmps[109]?.getD undef = vs 51 := hU.slot 51 (by decide) l51
        rw [hv51] at s51
        have z14 : ao.tmps[14]?.getD undef = .slice A4 2 p4 := hU.same 14 (by decide)
        refine wpOp_wanted (v := .slice A4 2 p4) (W' := W) rfl ?_ ?_ (hK _ _ (LKeep.refl _ _ _) rfl)
        · refine wanted_yes (j := 51) (d := 109) ?_ ?_ s51 <;> rfl
        go_simp
      | 53, hoi, hom =>
        have l51 := haft _ rfl { on := 51, ground := .guard } (by simp) rfl
        have hv51 : vs 51 = .bool true := hpv 51 l51
        have s51 : ao.tmps[109]?.getD undef = vs 51 := hU.slot 51 (by decide) l51
        rw [hv51] at s51
        refine wpOp_wanted (v := .slice (some ⟨W.heap.size, 0, none⟩) 2 2) (W' := (W.alloc (.cells #[.int .i64 0, .int .i64 1] 3))) rfl ?_ ?_ (hK _ _ (LKeep.below ((Below.refl _ _).alloc (Nat.le_refl _) _) (fun h => h)) ⟨_, _, rfl, (IntsS.lit2 rfl 0 1).more (by simp)⟩)
        · refine wanted_yes (j := 51) (d := 109) ?_ ?_ s51 <;> rfl
        go_simp
      | 54, hoi, hom =>
        have l51 := haft _ rfl { on := 51, ground := .guard } (by simp) rfl
        have hv51 : vs 51 = .bool true := hpv 51 l51
        have s51 : ao.tmps[109]?.getD undef = vs 51 := hU.slot 51 (by decide) l51
        rw [hv51] at s51
        have l52 := haft _ rfl { on := 52, ground := .data } (by simp) rfl
        have hv52 : vs 52 = .slice A4 2 p4 := hpv 52 l52
        have s52 : ao.tmps[110]?.getD undef = vs 52 := hU.slot 52 (by decide) l52
        rw [hv52] at s52
        have l53 := haft _ rfl { on := 53, ground := .data } (by simp) rfl
        obtain ⟨gl53, cp53, hv53, hi53⟩ := hpv 53 l53
        have s53 : ao.tmps[111]?.getD undef = vs 53 := hU.slot 53 (by decide) l53
        rw [hv53] at s53
        have hc : Calls Tryz.prog 26 #[.slice A4 2 p4, .slice gl53 2 cp53] W fun e w => e = .returned (.bool true) ∧ Dr W w := (ints_any (M4.out.next (hk.below (B := k17.heap.size) (fun k h => h.elim) (Nat.le_refl _))) hi53).mono (fun e w h => by rw [show intsB [0, 1] [0, 1] = true from by decide] at h; exact h)
        refine wpOp_enterW (f := 26) (args := #[.slice A4 2 p4, .slice gl53 2 cp53]) (W' := W) rfl ?_ ?_ ((hc).mono (fun e w'' h => ?_))
        · refine wanted_yes (j := 51) (d := 109) ?_ ?_ s51 <;> rfl
        · go_simp
        · obtain ⟨he, hd⟩ := h
          exact ⟨_, he, hK _ _ (LKeep.below (hd.below _) (fun h => h)) rfl⟩
      | 55, hoi, hom =>
        have l51 := haft _ rfl { on := 51, ground := .data } (by simp) rfl
        have hv51 : vs 51 = .bool true := hpv 51 l51
        have s51 : ao.tmps[109]?.getD undef = vs 51 := hU.slot 51 (by decide) l51
        rw [hv51] at s51
        have l54 := haft _ rfl { on := 54, ground := .data } (by simp) rfl
        have hv54 : vs 54 = .bool true := hpv 54 l54
        have s54 : ao.tmps[112]?.getD undef = vs 54 := hU.slot 54 (by decide) l54
        rw [hv54] at s54
        refine wpOp_value (v := .bool true) (W' := W) rfl rfl ?_ (hK _ _ (LKeep.refl _ _ _) rfl)
        go_simp
      | 56, hoi, hom =>
        have l55 := haft _ rfl { on := 55, ground := .data } (by simp) rfl
        have hv55 : vs 55 = .bool true := hpv 55 l55
        have s55 : ao.tmps[113]?.getD undef = vs 55 := hU.slot 55 (by decide) l55
        rw [hv55] at s55
        refine wpOp_value (v := .bool true) (W' := W) rfl rfl ?_ (hK _ _ (LKeep.refl _ _ _) rfl)
        go_simp
      | 57, hoi, hom =>
        have l56 := haft _ rfl { on := 56, ground := .guard } (by simp) rfl
        have hv56 : vs 56 = .bool true := hpv 56 l56
        have s56 : ao.tmps[114]?.getD undef = vs 56 := hU.slot 56 (by decide) l56
        rw [hv56] at s56
        have z16 : ao.tmps[16]?.getD undef = .slice A6 0 p6 := hU.same 16 (by decide)
        refine wpOp_wanted (v := .slice A6 0 p6) (W' := W) rfl ?_ ?_ (hK _ _ (LKeep.refl _ _ _) rfl)
        · refine wanted_yes (j := 56) (d := 114) ?_ ?_ s56 <;> rfl
        go_simp
      | 58, hoi, hom =>
        have l56 := haft _ rfl { on := 56, ground := .guard } (by simp) rfl
        have hv56 : vs 56 = .bool true := hpv 56 l56
        have s56 : ao.tmps[114]?.getD undef = vs 56 := hU.slot 56 (by decide) l56
        rw [hv56] at s56
        have l57 := haft _ rfl { on := 57, ground := .data } (by simp) rfl
        have hv57 : vs 57 = .slice A6 0 p6 := hpv 57 l57
        have s57 : ao.tmps[115]?.getD undef = vs 57 := hU.slot 57 (by decide) l57
        rw [hv57] at s57
        refine wpOp_wanted (v := .int .i64 (0 : Nat)) (W' := W) rfl ?_ ?_ (hK _ _ (LKeep.refl _ _ _) rfl)
        · refine wanted_yes (j := 56) (d := 114) ?_ ?_ s56 <;> rfl
        go_simp
      | 59, hoi, hom =>
        have l56 := haft _ rfl { on := 56, ground := .guard } (by simp) rfl
        have hv56 : vs 56 = .bool true := hpv 56 l56
        have s56 : ao.tmps[114]?.getD undef = vs 56 := hU.slot 56 (by decide) l56
        rw [hv56] at s56
        have l58 := haft _ rfl { on := 58, ground := .data } (by simp) rfl
        have hv58 : vs 58 = .int .i64 (0 : Nat) := hpv 58 l58
        have s58 : ao.tmps[116]?.getD undef = vs 58 := hU.slot 58 (by decide) l58
        rw [hv58] at s58
        refine wpOp_wanted (v := .bool true) (W' := W) rfl ?_ ?_ (hK _ _ (LKeep.refl _ _ _) rfl)
        · refine wanted_yes (j := 56) (d := 114) ?_ ?_ s56 <;> rfl
        go_simp
      | 60, hoi, hom =>
        have l56 := haft _ rfl { on := 56, ground := .data } (by simp) rfl
        have hv56 : vs 56 = .bool true := hpv 56 l56
        have s56 : ao.tmps[114]?.getD undef = vs 56 := hU.slot 56 (by decide) l56
        rw [hv56] at s56
        have l59 := haft _ rfl { on := 59, ground := .data } (by simp) rfl
        have hv59 : vs 59 = .bool true := hpv 59 l59
        have s59 : ao.tmps[117]?.getD undef = vs 59 := hU.slot 59 (by decide) l59
        rw [hv59] at s59
        refine wpOp_value (v := .bool true) (W' := W) rfl rfl ?_ (hK _ _ (LKeep.refl _ _ _) rfl)
        go_simp
      | 61, hoi, hom =>
        have l60 := haft _ rfl { on := 60, ground := .data } (by simp) rfl
        have hv60 : vs 60 = .bool true := hpv 60 l60
        have s60 : ao.tmps[118]?.getD undef = vs 60 := hU.slot 60 (by decide) l60
        rw [hv60] at s60
        refine wpOp_value (v := .bool true) (W' := W) rfl rfl ?_ (hK _ _ (LKeep.refl _ _ _) rfl)
        go_simp
      | 62, hoi, hom =>
        have l61 := haft _ rfl { on := 61, ground := .guard } (by simp) rfl
        have hv61 : vs 61 = .bool true := hpv 61 l61
        have s61 : ao.tmps[119]?.getD undef = vs 61 := hU.slot 61 (by decide) l61
        rw [hv61] at s61
        have hc : Calls Tryz.prog 23 #[] W fun e w => e = .returned (.bool true) ∧ Below W.heap.size W w := awake12_any ((hk.cell (b := 0) (o := 0) hz0 (fun h => h)).trans HG.out) (Nat.lt_of_lt_of_le hz0 hk.size)
        refine wpOp_enterW (f := 23) (args := #[]) (W' := W) rfl ?_ ?_ ((hc).mono (fun e w'' h => ?_))
        · refine wanted_yes (j := 61) (d := 119) ?_ ?_ s61 <;> rfl
        · go_simp
        · obtain ⟨he, hbw⟩ := h
          exact ⟨_, he, hK _ _ (LKeep.below hbw (fun h => h)) rfl⟩
      | 63, hoi, hom =>
        have l61 := haft _ rfl { on := 61, ground := .data } (by simp) rfl
        have hv61 : vs 61 = .bool true := hpv 61 l61
        have s61 : ao.tmps[119]?.getD undef = vs 61 := hU.slot 61 (by decide) l61
        rw [hv61] at s61
        have l62 := haft _ rfl { on := 62, ground := .data } (by simp) rfl
        have hv62 : vs 62 = .bool true := hpv 62 l62
        have s62 : ao.tmps[120]?.getD undef = vs 62 := hU.slot 62 (by decide) l62
        rw [hv62] at s62
        refine wpOp_value (v := .bool true) (W' := W) rfl rfl ?_ (hK _ _ (LKeep.refl _ _ _) rfl)
        go_simp
      | 64, hoi, hom =>
        have l63 := haft _ rfl { on := 63, ground := .data } (by simp) rfl
        have hv63 : vs 63 = .bool true := hpv 63 l63
        have s63 : ao.tmps[121]?.getD undef = vs 63 := hU.slot 63 (by decide) l63
        rw [hv63] at s63
        refine wpOp_value (v := .bool true) (W' := W) rfl rfl ?_ (hK _ _ (LKeep.refl _ _ _) rfl)
        go_simp
      | oi + 65, hoi, hom => exact absurd (of_decide_eq_true hom) (by omega)
    case hend =>
      intro listed vs ao W hG hGU hk0 hpv hpre
      have hkk := (LKeep.drew (fun _ => False) (M := fun _ => True) k17 (fun h => h)).trans hk0
      have hk := hkk.1
      have hkm := hkk.2
      clear hkk
      have hT := hG.lst hpre 0 #[true, true, true, true, true, true, true, true, true, true, true, true, true, true, true, true, true, true, true, true, true, true, true, true, true, true, true, true, true, true, true, true, true, true, true, true, true, true, true, true, true, true, true, true, true, true, true, true, true, true, true, true, true, true, true, true, true, true, true, true, true, true, true, true, true] rfl (by kernel_rfl) (hpre 0 (by decide) (by decide))
      have h0 : ao.tmps[0]?.getD undef = vs 64 := hGU.slot 64 (by decide) (hpre 64 (by decide) (by decide))
      have hv : vs 64 = .bool true := hpv 64 (hpre 64 (by decide) (by decide))
      have hdf := hG.defers
      rw [hG.lo hT (k := 0) (by kernel_rfl)]
      subst hT
      refine wpAny_done (by kernel_rfl) ?_ _
      exact ⟨rfl, h0.trans hv, hdf, hk⟩
  case imp =>
    rintro ⟨tm, df⟩ W ⟨h0, hd, hk⟩
    simp only at h0 hd
    subst hd
    have HBZ := hide (HB.out.trans ((hk.below (B := k17.heap.size) (fun k h => h.elim) (Nat.le_refl _)).mono HB.out.size))
    clear hk
    go_wp2_with fail
    exact bodyPost_ret (v := .bool true) (by simp [results, Tryz.results7, go_sem, h0]) rfl ⟨rfl, HBZ.out⟩
end Go.Proofs.YtocdmkilnbpkdaaGreatDoor
