/- Hands, Lost and Where of the program. -/
import Derived.Test.YtocdmkilnbpkdaaGreatDoorZK
import Derived.OwnWalkIn
import Derived.TacticsInMore
import Derived.Deep.DeepCutAuto
set_option linter.unusedVariables false
set_option linter.unusedSimpArgs false
namespace Go.Proofs.YtocdmkilnbpkdaaGreatDoor
open Go.RowKit
attribute [local go_sem] Oper.semAt_some

def okS (b : Book) (s : Int) (x : Span) : Span := if enterK b s = 0 then x else ⟨0, 0⟩
set_option maxHeartbeats 4000000 in
set_option maxRecDepth 100000 in
theorem hands_any {b : Book} {a : BA} {w : World} {s : Int} (h : BookV w w.heap.size b a) :
 Calls Tryz.prog 19 #[bookVal b a, .int .i64 s] w fun e w' => e = .returned (.tuple #[spanVal (okS b s (handsB b (fun _ => false) s.toNat)), .int .i64 (enterK b s)]) ∧ Below w.heap.size w w' := by
 have hb0 : Below w.heap.size w ((w.alloc (.cells (bookCells b a) 25)).alloc (.cells #[.int .i64 0, .int .i64 0] 30)) := ((Below.refl _ _).alloc (Nat.le_refl _) _).alloc (by simp) _
 have HX := hide ((BoxB.made h).next ((Below.refl _ _).alloc (Nat.le_refl _) (.cells #[.int .i64 0, .int .i64 0] 30)))
 have HR := hide (show Blk ((w.alloc (.cells (bookCells b a) 25)).alloc (.cells #[.int .i64 0, .int .i64 0] 30)) (w.heap.size + 1) 30 #[.int .i64 0, .int .i64 0] from Blk.made' (by simp))
 have HB := hide hb0
 clear h hb0
 have HE := hide (fun h : enterK b s = 0 => enterK_zero h)
 have HO := hide (show okS b s (handsB b (fun _ => false) s.toNat) = if enterK b s = 0 then handsB b (fun _ => false) s.toNat else ⟨0, 0⟩ from rfl)
 go_enter Tryz.func19, Tryz.ntmps19
 go_upto_region 1 with (fail)
 generalize ((w.alloc (.cells (bookCells b a) 25)).alloc (.cells #[.int .i64 0, .int .i64 0] 30)) = v0 at *
 obtain ⟨z, x0, x1⟩ := HX.out.cells
 go_wp2_with fail
 refine (enter_any (s := s) HX.out.v).mono ?_
 rintro e v1 ⟨p, rfl, hb, hen⟩
 have HB1 := hide (HB.out.trans (hb.mono HB.out.size))
 have hR1 := HR.out.next hb
 have hz := HR.out.lt
 have hzb := hb.size
 unfold Entered at hen
 clear x0 x1 z hb HX HR
 generalize hK : enterK b s = K at *
 have HK := hide hK
 clear hK
 have c0 := hR1.at_ 0
 have c1 := hR1.at_ 1
 have f0 := hR1.free 0
 have f1 := hR1.free 1
 simp only [List.getElem?_toArray, List.getElem?_cons_zero, List.getElem?_cons_succ] at c0 c1
 by_cases hk : K = 0
 · obtain ⟨g, hh, rfl, hg, hl, hA⟩ := hen hk
   subst hk
   rw [if_pos rfl] at HO
   have HV := hide (HE.out rfl)
   clear HE hen
   obtain ⟨i, rfl⟩ : ∃ i : Nat, s = (i : Int) := ⟨s.toNat, by have := HV.out.2.1; omega⟩
   have hi : i < b.steps.length := by have := HV.out.2.1; omega
   have hx6 : i < 6 := by have := HV.out.1.steps; omega
   have hi0 : (0 : Int) ≤ (i : Int) := Int.natCast_nonneg _
   have hi6 : (i : Int) < 6 := by omega
   have HA := hide hA
   have HRR := hide hR1
   clear hA hR1
   have sl := hl.at_lo hx6
   have sh := hl.at_hi hx6
   have hgz := hl.k.lt
   have HEQ := hide (HA.out i hi)
   clear hl
   generalize hh i = si at *
   go_wp2_with fail
   have b2 : Blk ((v1.setCell ⟨w.heap.size + 1, 0, none⟩ (.int .i64 si.lo)).setCell ⟨w.heap.size + 1, 1, none⟩ (.int .i64 si.hi)) (w.heap.size + 1) 30 #[.int .i64 si.lo, .int .i64 si.hi] := (HRR.out.store 0 _).store 1 _
   have hs : Keep (fun q => q = w.heap.size + 1) v1 ((v1.setCell ⟨w.heap.size + 1, 0, none⟩ (.int .i64 si.lo)).setCell ⟨w.heap.size + 1, 1, none⟩ (.int .i64 si.hi)) := (Keep.setCell _ _ _ (fun q => q = w.heap.size + 1) rfl).trans (Keep.setCell _ _ _ (fun q => q = w.heap.size + 1) rfl)
   have hbw := HB1.out.trans (hs.below (B := w.heap.size) (fun k h => by omega) HB1.out.size)
   generalize (v1.setCell ⟨w.heap.size + 1, 0, none⟩ (.int .i64 si.lo)).setCell ⟨w.heap.size + 1, 1, none⟩ (.int .i64 si.hi) = W8 at *
   have r0 := b2.at_ 0
   have r1 := b2.at_ 1
   simp only [List.getElem?_toArray, List.getElem?_cons_zero, List.getElem?_cons_succ] at r0 r1
   exact bodyPost_ret (v := .tuple #[spanVal si, .int .i64 0]) (by simp [results, Tryz.results19, go_sem, r0, r1]) rfl ⟨by rw [HO.out, Int.toNat_natCast, HEQ.out, HK.out], hbw⟩
 · rw [if_neg hk] at HO
   have hd : (K != 0) = true := by simpa using hk
   clear hk hen HE
   have HRR := hide hR1
   clear hR1
   go_wp2_with fail
   have b2 : Blk ((v1.setCell ⟨w.heap.size + 1, 0, none⟩ (.int .i64 0)).setCell ⟨w.heap.size + 1, 1, none⟩ (.int .i64 0)) (w.heap.size + 1) 30 #[.int .i64 0, .int .i64 0] := (HRR.out.store 0 _).store 1 _
   have hs : Keep (fun q => q = w.heap.size + 1) v1 ((v1.setCell ⟨w.heap.size + 1, 0, none⟩ (.int .i64 0)).setCell ⟨w.heap.size + 1, 1, none⟩ (.int .i64 0)) := (Keep.setCell _ _ _ (fun q => q = w.heap.size + 1) rfl).trans (Keep.setCell _ _ _ (fun q => q = w.heap.size + 1) rfl)
   have hbw := HB1.out.trans (hs.below (B := w.heap.size) (fun k h => by omega) HB1.out.size)
   generalize (v1.setCell ⟨w.heap.size + 1, 0, none⟩ (.int .i64 0)).setCell ⟨w.heap.size + 1, 1, none⟩ (.int .i64 0) = W8 at *
   have r0 := b2.at_ 0
   have r1 := b2.at_ 1
   simp only [List.getElem?_toArray, List.getElem?_cons_zero, List.getElem?_cons_succ] at r0 r1
   exact bodyPost_ret (v := .tuple #[spanVal ⟨0, 0⟩, .int .i64 K]) (by simp [results, Tryz.results19, go_sem, r0, r1]) rfl ⟨by rw [HO.out, HK.out], hbw⟩
set_option maxHeartbeats 4000000 in
set_option maxRecDepth 100000 in
theorem losts_any {b : Book} {a : BA} {w : World} {s : Int} (h : BookV w w.heap.size b a) :
 Calls Tryz.prog 21 #[bookVal b a, .int .i64 s] w fun e w' => e = .returned (.tuple #[spanVal (okS b s (lostB b s.toNat)), .int .i64 (enterK b s)]) ∧ Below w.heap.size w w' := by
 have hb0 : Below w.heap.size w ((w.alloc (.cells (bookCells b a) 25)).alloc (.cells #[.int .i64 0, .int .i64 0] 30)) := ((Below.refl _ _).alloc (Nat.le_refl _) _).alloc (by simp) _
 have HX := hide ((BoxB.made h).next ((Below.refl _ _).alloc (Nat.le_refl _) (.cells #[.int .i64 0, .int .i64 0] 30)))
 have HR := hide (show Blk ((w.alloc (.cells (bookCells b a) 25)).alloc (.cells #[.int .i64 0, .int .i64 0] 30)) (w.heap.size + 1) 30 #[.int .i64 0, .int .i64 0] from Blk.made' (by simp))
 have HB := hide hb0
 clear h hb0
 have HE := hide (fun h : enterK b s = 0 => enterK_zero h)
 have HO := hide (show okS b s (lostB b s.toNat) = if enterK b s = 0 then lostB b s.toNat else ⟨0, 0⟩ from rfl)
 go_enter Tryz.func21, Tryz.ntmps21
 go_upto_region 1 with (fail)
 generalize ((w.alloc (.cells (bookCells b a) 25)).alloc (.cells #[.int .i64 0, .int .i64 0] 30)) = v0 at *
 obtain ⟨z, x0, x1⟩ := HX.out.cells
 go_wp2_with fail
 refine (enter_any (s := s) HX.out.v).mono ?_
 rintro e v1 ⟨p, rfl, hb, hen⟩
 have HB1 := hide (HB.out.trans (hb.mono HB.out.size))
 have hR1 := HR.out.next hb
 have hz := HR.out.lt
 have hzb := hb.size
 unfold Entered at hen
 clear x0 x1 z hb HX HR
 generalize hK : enterK b s = K at *
 have HK := hide hK
 clear hK
 have c0 := hR1.at_ 0
 have c1 := hR1.at_ 1
 have f0 := hR1.free 0
 have f1 := hR1.free 1
 simp only [List.getElem?_toArray, List.getElem?_cons_zero, List.getElem?_cons_succ] at c0 c1
 by_cases hk : K = 0
 · obtain ⟨g, hh, rfl, hg, hl, hA⟩ := hen hk
   subst hk
   rw [if_pos rfl] at HO
   have HV := hide (HE.out rfl)
   clear HE hen
   obtain ⟨i, rfl⟩ : ∃ i : Nat, s = (i : Int) := ⟨s.toNat, by have := HV.out.2.1; omega⟩
   have hi : i < b.steps.length := by have := HV.out.2.1; omega
   have hx6 : i < 6 := by have := HV.out.1.steps; omega
   have hi0 : (0 : Int) ≤ (i : Int) := Int.natCast_nonneg _
   have hi6 : (i : Int) < 6 := by omega
   have HA := hide hA
   have HRR := hide hR1
   clear hA hR1
   have HL := hide hl
   have HLE := hide (lost_eq (c := cB b fun _ => false) HV.out.1.good.way (cB_99 b _) (u_ne HV.out.1.good.way HV.out.2.2) HA.out hi)
   go_wp2_with fail
   refine (lost_any HL.out (by have := HL.out.k.lt; omega) HV.out.1.good hi).mono ?_
   rintro e v2 ⟨rfl, hb2⟩
   have hR2 := HRR.out.next hb2
   replace HB1 := hide (HB1.out.trans (hb2.mono HB1.out.size))
   clear hb2 HRR c0 c1 f0 f1
   have c0 := hR2.at_ 0
   have c1 := hR2.at_ 1
   have f0 := hR2.free 0
   have f1 := hR2.free 1
   simp only [List.getElem?_toArray, List.getElem?_cons_zero, List.getElem?_cons_succ] at c0 c1
   have HRR := hide hR2
   clear hR2
   generalize (wayOf b).lostW hh i = sl at *
   go_wp2_with fail
   have b2 : Blk ((v2.setCell ⟨w.heap.size + 1, 0, none⟩ (.int .i64 sl.lo)).setCell ⟨w.heap.size + 1, 1, none⟩ (.int .i64 sl.hi)) (w.heap.size + 1) 30 #[.int .i64 sl.lo, .int .i64 sl.hi] := (HRR.out.store 0 _).store 1 _
   have hs : Keep (fun q => q = w.heap.size + 1) v2 ((v2.setCell ⟨w.heap.size + 1, 0, none⟩ (.int .i64 sl.lo)).setCell ⟨w.heap.size + 1, 1, none⟩ (.int .i64 sl.hi)) := (Keep.setCell _ _ _ (fun q => q = w.heap.size + 1) rfl).trans (Keep.setCell _ _ _ (fun q => q = w.heap.size + 1) rfl)
   have hbw := HB1.out.trans (hs.below (B := w.heap.size) (fun k h => by omega) HB1.out.size)
   generalize (v2.setCell ⟨w.heap.size + 1, 0, none⟩ (.int .i64 sl.lo)).setCell ⟨w.heap.size + 1, 1, none⟩ (.int .i64 sl.hi) = W8 at *
   have r0 := b2.at_ 0
   have r1 := b2.at_ 1
   simp only [List.getElem?_toArray, List.getElem?_cons_zero, List.getElem?_cons_succ] at r0 r1
   exact bodyPost_ret (v := .tuple #[spanVal sl, .int .i64 0]) (by simp [results, Tryz.results21, go_sem, r0, r1]) rfl ⟨by rw [HO.out, Int.toNat_natCast, HLE.out, lostB, HK.out], hbw⟩
 · rw [if_neg hk] at HO
   have hd : (K != 0) = true := by simpa using hk
   clear hk hen HE
   have HRR := hide hR1
   clear hR1
   go_wp2_with fail
   have b2 : Blk ((v1.setCell ⟨w.heap.size + 1, 0, none⟩ (.int .i64 0)).setCell ⟨w.heap.size + 1, 1, none⟩ (.int .i64 0)) (w.heap.size + 1) 30 #[.int .i64 0, .int .i64 0] := (HRR.out.store 0 _).store 1 _
   have hs : Keep (fun q => q = w.heap.size + 1) v1 ((v1.setCell ⟨w.heap.size + 1, 0, none⟩ (.int .i64 0)).setCell ⟨w.heap.size + 1, 1, none⟩ (.int .i64 0)) := (Keep.setCell _ _ _ (fun q => q = w.heap.size + 1) rfl).trans (Keep.setCell _ _ _ (fun q => q = w.heap.size + 1) rfl)
   have hbw := HB1.out.trans (hs.below (B := w.heap.size) (fun k h => by omega) HB1.out.size)
   generalize (v1.setCell ⟨w.heap.size + 1, 0, none⟩ (.int .i64 0)).setCell ⟨w.heap.size + 1, 1, none⟩ (.int .i64 0) = W8 at *
   have r0 := b2.at_ 0
   have r1 := b2.at_ 1
   simp only [List.getElem?_toArray, List.getElem?_cons_zero, List.getElem?_cons_succ] at r0 r1
   exact bodyPost_ret (v := .tuple #[spanVal ⟨0, 0⟩, .int .i64 K]) (by simp [results, Tryz.results21, go_sem, r0, r1]) rfl ⟨by rw [HO.out, HK.out], hbw⟩
end Go.Proofs.YtocdmkilnbpkdaaGreatDoor
