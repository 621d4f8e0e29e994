/- The contract of look. -/
import Derived.Test.YtocdmkilnbpkdaaGreatDoorZI
import Derived.Test.YtocdmkilnbpkdaaGreatDoorHA
import Derived.Laws.EntriesVeiled
import Derived.OwnWalkIn
import Derived.ChangeKeysEq
import Derived.Laws.StructEq
import Derived.TacticsInMore
import Derived.Deep.DeepCutAuto
set_option linter.unusedVariables false
set_option linter.unusedSimpArgs false
namespace Go.Proofs.YtocdmkilnbpkdaaGreatDoor
open Go.RowKit
attribute [local go_sem] Oper.semAt_some

def frame3 (w : World) (u : Nat → Value) (z : Nat) (ds : List Deferred) : Act := { tmps := #[u 0, u 1, .pointer (some ⟨w.heap.size, 0, none⟩), u 3, .pointer none, .bool false, .pointer (some ⟨w.heap.size + 1 + 1, 0, none⟩), u 7, u 8, u 9, .pointer (some ⟨z, 0, none⟩), u 11, u 12, u 13, u 14, u 15, u 16, u 17, u 18, u 19, u 20, u 21, u 22, u 23, u 24, u 25, u 26, u 27, u 28, u 29, u 30, u 31, u 32, u 33, u 34, u 35, u 36, u 37, u 38, u 39, u 40, u 41, u 42, u 43, u 44, u 45, u 46, u 47, u 48, u 49, u 50, u 51, u 52, u 53, u 54, u 55, u 56, u 57, u 58, u 59, u 60, u 61, u 62, u 63, u 64, u 65, u 66, u 67, u 68, u 69, u 70, u 71, u 72, u 73, u 74, u 75, u 76, u 77, u 78, u 79, u 80, u 81, u 82, u 83, u 84, u 85, u 86, u 87, u 88, u 89, u 90, u 91, u 92, u 93, u 94, u 95, u 96, u 97, u 98, u 99, u 100, u 101, u 102, u 103, u 104, u 105, u 106, u 107, u 108, u 109, u 110, u 111, u 112, u 113, u 114, u 115, u 116, u 117, u 118, u 119, u 120, u 121, u 122, u 123, u 124, u 125, u 126, u 127, u 128, u 129, u 130, u 131, u 132, u 133, u 134, u 135, u 136, u 137, u 138, u 139, u 140, u 141, u 142, u 143, u 144, u 145, u 146, u 147, u 148, u 149, u 150, u 151, u 152, u 153, u 154, u 155, u 156, u 157, u 158, u 159, u 160, u 161, u 162, u 163, u 164, u 165, u 166, u 167, u 168, u 169, u 170, u 171, u 172, u 173, u 174, u 175, u 176, u 177, u 178, u 179, u 180, u 181, u 182, u 183, u 184, u 185, u 186, u 187, u 188, u 189, u 190, u 191, u 192, u 193, u 194, u 195, u 196, u 197, u 198, u 199, u 200, u 201, u 202, u 203, u 204, u 205, u 206, u 207, u 208, u 209, u 210, u 211, u 212, u 213, u 214, u 215, u 216, u 217, u 218, u 219, u 220], defers := ds }
def frame4 (w : World) (b : Book) (a : BA) (u : Nat → Value) (z i : Nat) (ds : List Deferred) : Act := { tmps := #[u 0, u 1, .pointer (some ⟨w.heap.size, 0, none⟩), u 3, .pointer none, .bool false, .pointer (some ⟨w.heap.size + 1 + 1, 0, none⟩), u 7, u 8, u 9, .pointer (some ⟨z, 0, none⟩), u 11, u 12, u 13, u 14, u 15, u 16, u 17, u 18, u 19, u 20, u 21, u 22, u 23, u 24, u 25, u 26, u 27, u 28, u 29, u 30, u 31, u 32, u 33, u 34, u 35, u 36, u 37, u 38, u 39, u 40, u 41, u 42, u 43, u 44, u 45, u 46, u 47, u 48, u 49, u 50, u 51, u 52, u 53, u 54, u 55, u 56, u 57, u 58, u 59, u 60, u 61, u 62, u 63, u 64, u 65, u 66, u 67, u 68, u 69, u 70, u 71, u 72, u 73, u 74, u 75, u 76, u 77, u 78, u 79, u 80, u 81, u 82, u 83, u 84, .slice a.A1 b.steps.length a.c1, .int .i64 (b.steps.length : Nat), .int .i64 (i : Nat), u 88, u 89, u 90, u 91, u 92, u 93, u 94, u 95, u 96, u 97, u 98, u 99, u 100, u 101, u 102, u 103, u 104, u 105, u 106, u 107, u 108, u 109, u 110, u 111, u 112, u 113, u 114, u 115, u 116, u 117, u 118, u 119, u 120, u 121, u 122, u 123, u 124, u 125, u 126, u 127, u 128, u 129, u 130, u 131, u 132, u 133, u 134, u 135, u 136, u 137, u 138, u 139, u 140, u 141, u 142, u 143, u 144, u 145, u 146, u 147, u 148, u 149, u 150, u 151, u 152, u 153, u 154, u 155, u 156, u 157, u 158, u 159, u 160, u 161, u 162, u 163, u 164, u 165, u 166, u 167, u 168, u 169, u 170, u 171, u 172, u 173, u 174, u 175, u 176, u 177, u 178, u 179, u 180, u 181, u 182, u 183, u 184, u 185, u 186, u 187, u 188, u 189, u 190, u 191, u 192, u 193, u 194, u 195, u 196, u 197, u 198, u 199, u 200, u 201, u 202, u 203, u 204, u 205, u 206, u 207, u 208, u 209, u 210, u 211, u 212, u 213, u 214, u 215, u 216, u 217, u 218, u 219, u 220], defers := ds }
/-- Where the passes are: the hands, those of the pass before (in block z). -/
def Inv3 (w : World) (b : Book) (a : BA) (c : Nat → Span) (m : Nat) (act : Act) (W : World) : Prop :=
 ∃ z h was ds, act = frame3 w (fun k => act.tmps.getD k undef) z ds ∧ LkI w W b a h ∧ Blk W z 86 (spansCells was) ∧ w.heap.size + 1 + 1 < z ∧ MarksOk (w.heap.size + 3) ds W ∧ LookS (wayOf b) c h was m
/-- Within a pass, ahead of step i. -/
def Inv4 (w : World) (b : Book) (a : BA) (h : Nat → Span) (z : Nat) (m : Nat) (act : Act) (W : World) : Prop :=
 ∃ (i : Nat) (ds : List Deferred), act = frame4 w b a (fun k => act.tmps.getD k undef) z i ds ∧ i ≤ b.steps.length ∧ m = b.steps.length - i ∧ LkI w W b a (passTo (wayOf b) h i) ∧ Blk W z 86 (spansCells h) ∧ MarksOk (w.heap.size + 3) ds W
attribute [local go_sem] spans_equal
set_option maxHeartbeats 16000000 in
set_option maxRecDepth 100000 in
theorem look_any {w : World} {b : Book} {a : BA} {but : Nat} (hv : BookV w w.heap.size b a) (hg : Good b) (hbut : but < 64) :
 Calls Tryz.prog 74 #[bookVal b a, .int .i64 (but : Int)] w fun e w' => ∃ g h ok, e = .returned (.tuple #[.pointer (some ⟨g, 0, none⟩), .bool ok]) ∧ LookB w' w.heap.size g b a h ∧ Looked (wayOf b) (cB b (fun i => but.testBit i)) h ok ∧ Below w.heap.size w w' := by
 have HV := hide hv
 have HG := hide hg
 clear hv hg
 refine (callsIn_wide (n := 0)).1 (callsIn_of_wp_marks Tryz.func74 rfl trivial ?_ rfl)
 refine (wpIn_wide (n := 0)).2 ?_
 simp only [Tryz.ntmps74, List.size_toArray, List.length_cons, List.length_nil, Nat.reduceAdd, Nat.reduceSub, Array.replicate_succ, Array.replicate_zero, List.push_toArray, List.append_toArray, List.nil_append, List.cons_append]
 have hm2 := HV.out.m2
 unfold maxLen at hm2
 go_wp2_with fail
 have HI0 := hide (LkI.start HV.out)
 clear HV
 generalize (((w.alloc (.cells #[.slice a.A1 b.steps.length a.c1, .slice a.A2 b.tallies.length a.c2] 25)).alloc (.cells #[.slice a.A1 b.steps.length a.c1, .slice a.A2 b.tallies.length a.c2, .int .i64 0, .int .i64 0, .int .i64 0, .int .i64 0, .int .i64 0, .int .i64 0, .int .i64 0, .int .i64 0, .int .i64 0, .int .i64 0, .int .i64 0, .int .i64 0] 88)).alloc (.cells #[.pointer (some ⟨w.heap.size + 1, 0, none⟩)] 82)) = w1 at *
 rw [← allTo_zero] at HI0
 go_loopw [7, 24, 25, 26, 27, 28, 29, 30, 31, 32, 33] (fun _ v24 _ _ _ _ _ _ _ _ _ wr => ∃ j : Nat, j ≤ b.steps.length ∧ v24 = .int .i64 (j : Nat) ∧ Hid (LkI w wr b a (allTo j))) (fun _ v24 _ _ _ _ _ _ _ _ _ _ => b.steps.length - (intOf v24).toNat)
 case atStart => exact ⟨0, Nat.zero_le _, rfl, HI0⟩
 case round =>
  obtain ⟨j, hj, rfl, HI⟩ := hrel
  by_cases hlt : j < b.steps.length
  · have hx6 : j < 6 := by have := HG.out.six; omega
    have hj6 : (j : Int) < 6 := by omega
    have hj0 : (0 : Int) ≤ (j : Int) := Int.natCast_nonneg _
    have hjl : (j : Int) < (b.steps.length : Int) := by omega
    have hzg := HI.out.l.k.lt
    have hzp := HI.out.p.lt
    have p0 := HI.out.p.at_ 0
    simp only [List.getElem?_toArray, List.getElem?_cons_zero] at p0
    go_wp2_with fail
    refine wp_region_rel4 (dst := fun oi => [27, 28, 29, 30, 31, 32, 0].getD oi 0) (mono := fun oi => decide (oi < 6)) (pre := fun oi => decide (oi < 6)) (R := LKeep (fun _ => False) (fun _ => True))
     (Pv := fun oi v W => match oi with
      | 0 => v = .pointer (some ⟨w.heap.size + 1, 0, none⟩)
      | 1 => v = .int .i64 (j : Nat)
      | 2 => v = spanVal ⟨0, 99⟩
      | 3 => v = .pointer (some ⟨w.heap.size + 1, 0, none⟩)
      | 4 => v = .pointer (some ⟨w.heap.size + 1, 2, none⟩)
      | 5 => v = .pointer (some ⟨w.heap.size + 1, 2 + j * 2, none⟩)
      | _ => True) (by kernel_rfl) (by kernel_rfl) (LKeep.refl _ _) (fun _ _ _ h h' => h.trans h') ?hst ?hstep ?hend
    case hst =>
     intro oi v W W' h hk
     match oi, h with
     | 0, h => exact h
     | 1, h => exact h
     | 2, h => exact h
     | 3, h => exact h
     | 4, h => exact h
     | 5, h => exact h
     | oi + 6, h => exact trivial
    case hstep =>
     intro oi hoi hom listed vs ao W hU hk0 hpv haft Ko hK
     have hkk := (LKeep.drew (fun _ => False) (M := fun _ => True) wr (fun h => h)).trans hk0
     have hk := hkk.1
     have hkm := hkk.2
     clear hkk
     match oi, hoi, hom with
     | 0, hoi, hom =>
      have z6 : ao.tmps[6]?.getD undef = .pointer (some ⟨w.heap.size + 1 + 1, 0, none⟩) := hU.same 6 (by decide)
      have y0 := (hk.cell (b := w.heap.size + 1 + 1) (o := 0) (hzp) (fun h => h)).trans (p0)
      refine wpOp_value (v := .pointer (some ⟨w.heap.size + 1, 0, none⟩)) (W' := W) rfl rfl ?_ (hK _ _ (LKeep.refl _ _ _) rfl)
      go_simp
     | 1, hoi, hom =>
      have z7 : ao.tmps[7]?.getD undef = .int .i64 (j : Nat) := hU.same 7 (by decide)
      refine wpOp_value (v := .int .i64 (j : Nat)) (W' := W) rfl rfl ?_ (hK _ _ (LKeep.refl _ _ _) rfl)
      go_simp
     | 2, hoi, hom =>
      refine wpOp_enter (f := 103) (args := #[.int .i64 99]) (W' := W) rfl rfl ?_ ((upTo_any 99 W).mono (fun e w'' h => ?_))
      · go_simp
      · obtain ⟨he, hbw⟩ := h
        exact ⟨_, he, hK _ _ (LKeep.below hbw (fun h => h)) rfl⟩
     | 3, hoi, hom =>
      have l0 := haft _ rfl ⟨0, .data⟩ (by simp) rfl
      have s0 : ao.tmps[27]?.getD undef = .pointer (some ⟨w.heap.size + 1, 0, none⟩) := (hU.slot 0 (by decide) l0).trans (hpv 0 l0)
      refine wpOp_value (v := .pointer (some ⟨w.heap.size + 1, 0, none⟩)) (W' := W) rfl rfl ?_ (hK _ _ (LKeep.refl _ _ _) rfl)
      go_simp
     | 4, hoi, hom =>
      have l3 := haft _ rfl ⟨3, .data⟩ (by simp) rfl
      have s3 : ao.tmps[30]?.getD undef = .pointer (some ⟨w.heap.size + 1, 0, none⟩) := (hU.slot 3 (by decide) l3).trans (hpv 3 l3)
      refine wpOp_value (v := .pointer (some ⟨w.heap.size + 1, 2, none⟩)) (W' := W) rfl rfl ?_ (hK _ _ (LKeep.refl _ _ _) rfl)
      go_simp
     | 5, hoi, hom =>
      have l4 := haft _ rfl ⟨4, .data⟩ (by simp) rfl
      have s4 : ao.tmps[31]?.getD undef = .pointer (some ⟨w.heap.size + 1, 2, none⟩) := (hU.slot 4 (by decide) l4).trans (hpv 4 l4)
      have l1 := haft _ rfl ⟨1, .data⟩ (by simp) rfl
      have s1 : ao.tmps[28]?.getD undef = .int .i64 (j : Nat) := (hU.slot 1 (by decide) l1).trans (hpv 1 l1)
      refine wpOp_value (v := .pointer (some ⟨w.heap.size + 1, 2 + j * 2, none⟩)) (W' := W) rfl rfl ?_ (hK _ _ (LKeep.refl _ _ _) rfl)
      go_simp
     | oi + 6, hoi, hom => exact absurd (of_decide_eq_true hom) (by omega)
    case hend =>
     intro listed vs ao W hG hk0 hpv hpre
     have hkk := (LKeep.drew (fun _ => False) (M := fun _ => True) wr (fun h => h)).trans hk0
     have hk := hkk.1
     have hkm := hkk.2
     clear hkk
     have hact := hG.act
     have hT := hG.lst hpre 0 #[true, true, true, true, true, true, false] rfl (by kernel_rfl) (hpre 0 (by decide) (by decide))
     rw [hG.ix hT (l := [0, 1, 2, 3, 4, 5]) (by kernel_rfl)] at hact
     rw [hG.lo hT (k := 1) (by kernel_rfl)]
     have hv0 : vs 0 = .pointer (some ⟨w.heap.size + 1, 0, none⟩) := hpv 0 (hpre 0 (by decide) (by decide))
     have hv1 : vs 1 = .int .i64 (j : Nat) := hpv 1 (hpre 1 (by decide) (by decide))
     have hv2 : vs 2 = spanVal ⟨0, 99⟩ := hpv 2 (hpre 2 (by decide) (by decide))
     have hv3 : vs 3 = .pointer (some ⟨w.heap.size + 1, 0, none⟩) := hpv 3 (hpre 3 (by decide) (by decide))
     have hv4 : vs 4 = .pointer (some ⟨w.heap.size + 1, 2, none⟩) := hpv 4 (hpre 4 (by decide) (by decide))
     have hv5 : vs 5 = .pointer (some ⟨w.heap.size + 1, 2 + j * 2, none⟩) := hpv 5 (hpre 5 (by decide) (by decide))
     clear hpv hpre hG hk0
     obtain rfl : ao = _ := hact
     subst hT
     simp only [setAll, List.setIfInBounds_toArray, List.set_cons_succ, List.set_cons_zero, List.getD_cons_succ, List.getD_cons_zero]
     simp only [hv0, hv1, hv2, hv3, hv4, hv5]
     clear hv0 hv1 hv2 hv3 hv4 hv5
     have m1 := HI.out.keep hk (fun k h => h.elim)
     have c0 := m1.l.at_lo hx6
     have c1 := m1.l.at_hi hx6
     have f0 := m1.l.k.free (2 + j * 2)
     have f1 := m1.l.k.free (2 + j * 2 + 1)
     refine wpAny_all (rs := [6]) (by kernel_rfl) (by simp) ?_
     intro i2 hi2
     obtain rfl : i2 = 6 := by simpa using hi2
     refine wpOp_skip (W' := (W.setCell ⟨w.heap.size + 1, 2 + j * 2, none⟩ (.int .i64 ((⟨0, 99⟩ : Span)).lo)).setCell ⟨w.heap.size + 1, 2 + j * 2 + 1, none⟩ (.int .i64 ((⟨0, 99⟩ : Span)).hi)) rfl rfl ?_ ?_
     · go_simp
     refine wpAny_done (by kernel_rfl) ?_ _
     have J2 := m1.put hx6 ((⟨0, 99⟩ : Span))
     have hs : Keep (fun q => q = w.heap.size + 1) W ((W.setCell ⟨w.heap.size + 1, 2 + j * 2, none⟩ (.int .i64 ((⟨0, 99⟩ : Span)).lo)).setCell ⟨w.heap.size + 1, 2 + j * 2 + 1, none⟩ (.int .i64 ((⟨0, 99⟩ : Span)).hi)) := keep_put W (w.heap.size + 1) j ((⟨0, 99⟩ : Span))
     generalize (W.setCell ⟨w.heap.size + 1, 2 + j * 2, none⟩ (.int .i64 ((⟨0, 99⟩ : Span)).lo)).setCell ⟨w.heap.size + 1, 2 + j * 2 + 1, none⟩ (.int .i64 ((⟨0, 99⟩ : Span)).hi) = W2 at *
     clear c0 c1 f0 f1 m1
     rw [allTo_succ] at J2
     have HJ2 := hide J2
     clear J2 hs hk HI p0
     go_wp2_with fail
     go_roundw
     case rel => exact ⟨j + 1, hlt, by simp, HJ2⟩
     case measure => simp [intOf]; omega
  · obtain rfl : j = b.steps.length := by omega
    clear HI0
    have x0 := HI.out.x.at_ 1
    simp only [List.getElem?_toArray, List.getElem?_cons_zero, List.getElem?_cons_succ] at x0
    have hzx := HI.out.x.lt
    obtain ⟨wa, rfl⟩ : ∃ wa : World, wa = wr := ⟨_, rfl⟩
    rw [allTo_all b (fun i => but.testBit i)] at HI
    go_wp2_with fail
    clear x0 hzx
    go_loopw [8, 9, 37, 38, 39, 40, 41, 42, 43, 44, 45, 46, 47, 48, 49, 50, 51, 52, 53, 54, 55, 56, 57, 58, 59, 60, 61, 62, 63, 64, 65, 66, 67, 68, 69, 70, 71, 72] (fun _ _ v37 _ _ _ _ _ _ _ _ _ _ _ _ _ _ _ _ _ _ _ _ _ _ _ _ _ _ _ _ _ _ _ _ _ _ _ wr => ∃ j : Nat, j ≤ b.tallies.length ∧ v37 = .int .i64 (j : Nat) ∧ Hid (LkI w wr b a (tallC b (fun i => but.testBit i) j))) (fun _ _ v37 _ _ _ _ _ _ _ _ _ _ _ _ _ _ _ _ _ _ _ _ _ _ _ _ _ _ _ _ _ _ _ _ _ _ _ _ => b.tallies.length - (intOf v37).toNat)
    case atStart => exact ⟨0, Nat.zero_le _, rfl, HI⟩
    case round =>
     clear HI
     obtain ⟨j, hj, rfl, HI⟩ := hrel
     by_cases hlt : j < b.tallies.length
     · obtain ⟨bs, os, hA, hbs, s0, s1, s2⟩ := HI.out.l.v.tallies.tallies hlt
       have HT := hide (HG.out.tally j hlt)
       have HTS := hide (show tallC b (fun i => but.testBit i) (j + 1) = _ from rfl)
       obtain ⟨x, hx⟩ : ∃ x : Nat, (nth b.tallies j).step = (x : Int) := ⟨(nth b.tallies j).step.toNat, by have := HT.out; omega⟩
       obtain ⟨hd, hhd⟩ : ∃ hd : Nat, (nth b.tallies j).hands = (hd : Int) := ⟨(nth b.tallies j).hands.toNat, by have := HT.out; omega⟩
       obtain ⟨df, hdf⟩ : ∃ df : Nat, (nth b.tallies j).off = (df : Int) := ⟨(nth b.tallies j).off.toNat, by have := HT.out; omega⟩
       have hx6 : x < 6 := by have := HT.out; have := HG.out.six; omega
       have hbd : hd ≤ 99 ∧ df ≤ 9 := by have := HT.out; omega
       have htc : tallC b (fun i => but.testBit i) (j + 1) = if but.testBit j then tallC b (fun i => but.testBit i) j else upd (tallC b (fun i => but.testBit i) j) x (both (tallC b (fun i => but.testBit i) j x) (⟨(hd : Int) - (df : Int), (hd : Int) + (df : Int)⟩ : Span)) := by
        rw [tallC, hx, hhd, hdf]; rfl
       rw [hx] at s0
       rw [hhd] at s1
       rw [hdf] at s2
       have HTC := hide htc
       have hbz : bs < wr.heap.size := by have := HI.out.e.size; omega
       rw [hA]
       clear hx hhd hdf hA HT HTS htc
       have hj0 : (0 : Int) ≤ (j : Int) := Int.natCast_nonneg _
       have hjl : (j : Int) < (b.tallies.length : Int) := by omega
       have htst := bit_test hbut j
       have p0 := HI.out.p.at_ 0
       simp only [List.getElem?_toArray, List.getElem?_cons_zero] at p0
       have hzp := HI.out.p.lt
       have hzg := HI.out.l.k.lt
       cases hbt : but.testBit j with
       | true =>
        rw [hbt] at htst
        simp only [hbt, if_true] at HTC
        have HI2 := hide (HI.out.next ((Below.refl _ _).alloc (Nat.le_refl _) (.cells #[.int .i64 (x : Int), .int .i64 (hd : Int), .int .i64 (df : Int)] 50)))
        clear hbt
        simp only [Bool.not_true] at htst
        go_wp2_with fail
        go_roundw
        case rel => exact ⟨j + 1, hlt, by simp, hide (by rw [HTC.out]; exact HI2.out)⟩
        case measure => simp [intOf]; omega
       | false =>
        rw [hbt] at htst
        simp only [hbt, Bool.false_eq_true, if_false] at HTC
        clear hbt
        simp only [Bool.not_false] at htst
        have hx0 : (0 : Int) ≤ (x : Int) := Int.natCast_nonneg _
        have hx61 : (x : Int) < 6 := by omega
        go_wp2_with fail
        have hba : Below wr.heap.size wr (wr.alloc (.cells #[.int .i64 (x : Int), .int .i64 (hd : Int), .int .i64 (df : Int)] 50)) := (Below.refl _ _).alloc (Nat.le_refl _) _
        have hi3 := HI.out.next hba
        have bt : Blk (wr.alloc (.cells #[.int .i64 (x : Int), .int .i64 (hd : Int), .int .i64 (df : Int)] 50)) wr.heap.size 50 #[.int .i64 (x : Int), .int .i64 (hd : Int), .int .i64 (df : Int)] := Blk.made
        clear hba s0 s1 s2 p0 htst hbz hbs
        generalize wr.alloc (.cells #[.int .i64 (x : Int), .int .i64 (hd : Int), .int .i64 (df : Int)] 50) = W3 at *
        have p0 := hi3.p.at_ 0
        have t0 := bt.at_ 0
        have t1 := bt.at_ 1
        have t2 := bt.at_ 2
        simp only [List.getElem?_toArray, List.getElem?_cons_zero, List.getElem?_cons_succ] at p0 t0 t1 t2
        have dl := hi3.l.at_lo hx6
        have dh := hi3.l.at_hi hx6
        have hzt := bt.lt
        have hzp := hi3.p.lt
        have hzg := hi3.l.k.lt
        have HI3 := hide hi3
        clear hi3 bt
        generalize hsp : tallC b (fun i => but.testBit i) j x = sp at *
        clear hsp
        refine wp_region_rel4 (dst := fun oi => [47, 48, 49, 50, 51, 52, 53, 54, 55, 56, 57, 58, 59, 60, 61, 62, 63, 64, 65, 66, 67, 68, 69, 70, 71, 0].getD oi 0) (mono := fun oi => decide (oi < 25)) (pre := fun oi => decide (oi < 25)) (R := LKeep (fun _ => False) (fun _ => True))
         (Pv := fun oi v W => match oi with
          | 0 => v = .pointer (some ⟨w.heap.size + 1, 0, none⟩)
          | 1 => v = .pointer (some ⟨wr.heap.size, 0, none⟩)
          | 2 => v = .int .i64 (x : Nat)
          | 3 => v = .pointer (some ⟨w.heap.size + 1, 0, none⟩)
          | 4 => v = .pointer (some ⟨wr.heap.size, 0, none⟩)
          | 5 => v = .int .i64 (x : Nat)
          | 6 => v = .pointer (some ⟨w.heap.size + 1, 0, none⟩)
          | 7 => v = .pointer (some ⟨w.heap.size + 1, 2, none⟩)
          | 8 => v = .pointer (some ⟨w.heap.size + 1, 2 + x * 2, none⟩)
          | 9 => v = spanVal sp
          | 10 => v = .pointer (some ⟨wr.heap.size, 1, none⟩)
          | 11 => v = .int .i64 (hd : Nat)
          | 12 => v = .pointer (some ⟨wr.heap.size, 2, none⟩)
          | 13 => v = .int .i64 (df : Nat)
          | 14 => v = .int .i64 ((hd : Int) - (df : Int))
          | 15 => v = .pointer (some ⟨wr.heap.size, 1, none⟩)
          | 16 => v = .int .i64 (hd : Nat)
          | 17 => v = .pointer (some ⟨wr.heap.size, 2, none⟩)
          | 18 => v = .int .i64 (df : Nat)
          | 19 => v = .int .i64 ((hd : Int) + (df : Int))
          | 20 => v = spanVal (⟨(hd : Int) - (df : Int), (hd : Int) + (df : Int)⟩ : Span)
          | 21 => v = spanVal (both sp (⟨(hd : Int) - (df : Int), (hd : Int) + (df : Int)⟩ : Span))
          | 22 => v = .pointer (some ⟨w.heap.size + 1, 0, none⟩)
          | 23 => v = .pointer (some ⟨w.heap.size + 1, 2, none⟩)
          | 24 => v = .pointer (some ⟨w.heap.size + 1, 2 + x * 2, none⟩)
          | _ => True) (by kernel_rfl) (by kernel_rfl) (LKeep.refl _ _) (fun _ _ _ h h' => h.trans h') ?hst ?hstep ?hend
        case hst =>
         intro oi v W W' h hk
         match oi, h with
         | 0, h => exact h
         | 1, h => exact h
         | 2, h => exact h
         | 3, h => exact h
         | 4, h => exact h
         | 5, h => exact h
         | 6, h => exact h
         | 7, h => exact h
         | 8, h => exact h
         | 9, h => exact h
         | 10, h => exact h
         | 11, h => exact h
         | 12, h => exact h
         | 13, h => exact h
         | 14, h => exact h
         | 15, h => exact h
         | 16, h => exact h
         | 17, h => exact h
         | 18, h => exact h
         | 19, h => exact h
         | 20, h => exact h
         | 21, h => exact h
         | 22, h => exact h
         | 23, h => exact h
         | 24, h => exact h
         | oi + 25, h => exact trivial
        case hstep =>
         intro oi hoi hom listed vs ao W hU hk0 hpv haft Ko hK
         have hkk := (LKeep.drew (fun _ => False) (M := fun _ => True) W3 (fun h => h)).trans hk0
         have hk := hkk.1
         have hkm := hkk.2
         clear hkk
         match oi, hoi, hom with
         | 0, hoi, hom =>
          have z6 : ao.tmps[6]?.getD undef = .pointer (some ⟨w.heap.size + 1 + 1, 0, none⟩) := hU.same 6 (by decide)
          have y0 := (hk.cell (b := w.heap.size + 1 + 1) (o := 0) (hzp) (fun h => h)).trans (p0)
          refine wpOp_value (v := .pointer (some ⟨w.heap.size + 1, 0, none⟩)) (W' := W) rfl rfl ?_ (hK _ _ (LKeep.refl _ _ _) rfl)
          go_simp
         | 1, hoi, hom =>
          have z9 : ao.tmps[9]?.getD undef = .pointer (some ⟨wr.heap.size, 0, none⟩) := hU.same 9 (by decide)
          refine wpOp_value (v := .pointer (some ⟨wr.heap.size, 0, none⟩)) (W' := W) rfl rfl ?_ (hK _ _ (LKeep.refl _ _ _) rfl)
          go_simp
         | 2, hoi, hom =>
          have l1 := haft _ rfl ⟨1, .data⟩ (by simp) rfl
          have s1 : ao.tmps[48]?.getD undef = .pointer (some ⟨wr.heap.size, 0, none⟩) := (hU.slot 1 (by decide) l1).trans (hpv 1 l1)
          have y0 := (hk.cell (b := wr.heap.size) (o := 0) (hzt) (fun h => h)).trans (t0)
          refine wpOp_value (v := .int .i64 (x : Nat)) (W' := W) rfl rfl ?_ (hK _ _ (LKeep.refl _ _ _) rfl)
          go_simp
         | 3, hoi, hom =>
          have z6 : ao.tmps[6]?.getD undef = .pointer (some ⟨w.heap.size + 1 + 1, 0, none⟩) := hU.same 6 (by decide)
          have y0 := (hk.cell (b := w.heap.size + 1 + 1) (o := 0) (hzp) (fun h => h)).trans (p0)
          refine wpOp_value (v := .pointer (some ⟨w.heap.size + 1, 0, none⟩)) (W' := W) rfl rfl ?_ (hK _ _ (LKeep.refl _ _ _) rfl)
          go_simp
         | 4, hoi, hom =>
          have z9 : ao.tmps[9]?.getD undef = .pointer (some ⟨wr.heap.size, 0, none⟩) := hU.same 9 (by decide)
          refine wpOp_value (v := .pointer (some ⟨wr.heap.size, 0, none⟩)) (W' := W) rfl rfl ?_ (hK _ _ (LKeep.refl _ _ _) rfl)
          go_simp
         | 5, hoi, hom =>
          have l4 := haft _ rfl ⟨4, .data⟩ (by simp) rfl
          have s4 : ao.tmps[51]?.getD undef = .pointer (some ⟨wr.heap.size, 0, none⟩) := (hU.slot 4 (by decide) l4).trans (hpv 4 l4)
          have y0 := (hk.cell (b := wr.heap.size) (o := 0) (hzt) (fun h => h)).trans (t0)
          refine wpOp_value (v := .int .i64 (x : Nat)) (W' := W) rfl rfl ?_ (hK _ _ (LKeep.refl _ _ _) rfl)
          go_simp
         | 6, hoi, hom =>
          have l3 := haft _ rfl ⟨3, .data⟩ (by simp) rfl
          have s3 : ao.tmps[50]?.getD undef = .pointer (some ⟨w.heap.size + 1, 0, none⟩) := (hU.slot 3 (by decide) l3).trans (hpv 3 l3)
          refine wpOp_value (v := .pointer (some ⟨w.heap.size + 1, 0, none⟩)) (W' := W) rfl rfl ?_ (hK _ _ (LKeep.refl _ _ _) rfl)
          go_simp
         | 7, hoi, hom =>
          have l6 := haft _ rfl ⟨6, .data⟩ (by simp) rfl
          have s6 : ao.tmps[53]?.getD undef = .pointer (some ⟨w.heap.size + 1, 0, none⟩) := (hU.slot 6 (by decide) l6).trans (hpv 6 l6)
          refine wpOp_value (v := .pointer (some ⟨w.heap.size + 1, 2, none⟩)) (W' := W) rfl rfl ?_ (hK _ _ (LKeep.refl _ _ _) rfl)
          go_simp
         | 8, hoi, hom =>
          have l7 := haft _ rfl ⟨7, .data⟩ (by simp) rfl
          have s7 : ao.tmps[54]?.getD undef = .pointer (some ⟨w.heap.size + 1, 2, none⟩) := (hU.slot 7 (by decide) l7).trans (hpv 7 l7)
          have l5 := haft _ rfl ⟨5, .data⟩ (by simp) rfl
          have s5 : ao.tmps[52]?.getD undef = .int .i64 (x : Nat) := (hU.slot 5 (by decide) l5).trans (hpv 5 l5)
          refine wpOp_value (v := .pointer (some ⟨w.heap.size + 1, 2 + x * 2, none⟩)) (W' := W) rfl rfl ?_ (hK _ _ (LKeep.refl _ _ _) rfl)
          go_simp
         | 9, hoi, hom =>
          have l8 := haft _ rfl ⟨8, .data⟩ (by simp) rfl
          have s8 : ao.tmps[55]?.getD undef = .pointer (some ⟨w.heap.size + 1, 2 + x * 2, none⟩) := (hU.slot 8 (by decide) l8).trans (hpv 8 l8)
          have y0 := (hk.cell (b := w.heap.size + 1) (o := 2 + x * 2) (hzg) (fun h => h)).trans (dl)
          have y1 := (hk.cell (b := w.heap.size + 1) (o := 2 + x * 2 + 1) (hzg) (fun h => h)).trans (dh)
          refine wpOp_value (v := spanVal sp) (W' := W) rfl rfl ?_ (hK _ _ (LKeep.refl _ _ _) rfl)
          go_simp
         | 10, hoi, hom =>
          have z9 : ao.tmps[9]?.getD undef = .pointer (some ⟨wr.heap.size, 0, none⟩) := hU.same 9 (by decide)
          refine wpOp_value (v := .pointer (some ⟨wr.heap.size, 1, none⟩)) (W' := W) rfl rfl ?_ (hK _ _ (LKeep.refl _ _ _) rfl)
          go_simp
         | 11, hoi, hom =>
          have l10 := haft _ rfl ⟨10, .data⟩ (by simp) rfl
          have s10 : ao.tmps[57]?.getD undef = .pointer (some ⟨wr.heap.size, 1, none⟩) := (hU.slot 10 (by decide) l10).trans (hpv 10 l10)
          have y0 := (hk.cell (b := wr.heap.size) (o := 1) (hzt) (fun h => h)).trans (t1)
          refine wpOp_value (v := .int .i64 (hd : Nat)) (W' := W) rfl rfl ?_ (hK _ _ (LKeep.refl _ _ _) rfl)
          go_simp
         | 12, hoi, hom =>
          have z9 : ao.tmps[9]?.getD undef = .pointer (some ⟨wr.heap.size, 0, none⟩) := hU.same 9 (by decide)
          refine wpOp_value (v := .pointer (some ⟨wr.heap.size, 2, none⟩)) (W' := W) rfl rfl ?_ (hK _ _ (LKeep.refl _ _ _) rfl)
          go_simp
         | 13, hoi, hom =>
          have l12 := haft _ rfl ⟨12, .data⟩ (by simp) rfl
          have s12 : ao.tmps[59]?.getD undef = .pointer (some ⟨wr.heap.size, 2, none⟩) := (hU.slot 12 (by decide) l12).trans (hpv 12 l12)
          have y0 := (hk.cell (b := wr.heap.size) (o := 2) (hzt) (fun h => h)).trans (t2)
          refine wpOp_value (v := .int .i64 (df : Nat)) (W' := W) rfl rfl ?_ (hK _ _ (LKeep.refl _ _ _) rfl)
          go_simp
         | 14, hoi, hom =>
          have l11 := haft _ rfl ⟨11, .data⟩ (by simp) rfl
          have s11 : ao.tmps[58]?.getD undef = .int .i64 (hd : Nat) := (hU.slot 11 (by decide) l11).trans (hpv 11 l11)
          have l13 := haft _ rfl ⟨13, .data⟩ (by simp) rfl
          have s13 : ao.tmps[60]?.getD undef = .int .i64 (df : Nat) := (hU.slot 13 (by decide) l13).trans (hpv 13 l13)
          refine wpOp_value (v := .int .i64 ((hd : Int) - (df : Int))) (W' := W) rfl rfl ?_ (hK _ _ (LKeep.refl _ _ _) rfl)
          go_simp
          exact IntWalk.i64_in _ (by omega)
         | 15, hoi, hom =>
          have z9 : ao.tmps[9]?.getD undef = .pointer (some ⟨wr.heap.size, 0, none⟩) := hU.same 9 (by decide)
          refine wpOp_value (v := .pointer (some ⟨wr.heap.size, 1, none⟩)) (W' := W) rfl rfl ?_ (hK _ _ (LKeep.refl _ _ _) rfl)
          go_simp
         | 16, hoi, hom =>
          have l15 := haft _ rfl ⟨15, .data⟩ (by simp) rfl
          have s15 : ao.tmps[62]?.getD undef = .pointer (some ⟨wr.heap.size, 1, none⟩) := (hU.slot 15 (by decide) l15).trans (hpv 15 l15)
          have y0 := (hk.cell (b := wr.heap.size) (o := 1) (hzt) (fun h => h)).trans (t1)
          refine wpOp_value (v := .int .i64 (hd : Nat)) (W' := W) rfl rfl ?_ (hK _ _ (LKeep.refl _ _ _) rfl)
          go_simp
         | 17, hoi, hom =>
          have z9 : ao.tmps[9]?.getD undef = .pointer (some ⟨wr.heap.size, 0, none⟩) := hU.same 9 (by decide)
          refine wpOp_value (v := .pointer (some ⟨wr.heap.size, 2, none⟩)) (W' := W) rfl rfl ?_ (hK _ _ (LKeep.refl _ _ _) rfl)
          go_simp
         | 18, hoi, hom =>
          have l17 := haft _ rfl ⟨17, .data⟩ (by simp) rfl
          have s17 : ao.tmps[64]?.getD undef = .pointer (some ⟨wr.heap.size, 2, none⟩) := (hU.slot 17 (by decide) l17).trans (hpv 17 l17)
          have y0 := (hk.cell (b := wr.heap.size) (o := 2) (hzt) (fun h => h)).trans (t2)
          refine wpOp_value (v := .int .i64 (df : Nat)) (W' := W) rfl rfl ?_ (hK _ _ (LKeep.refl _ _ _) rfl)
          go_simp
         | 19, hoi, hom =>
          have l16 := haft _ rfl ⟨16, .data⟩ (by simp) rfl
          have s16 : ao.tmps[63]?.getD undef = .int .i64 (hd : Nat) := (hU.slot 16 (by decide) l16).trans (hpv 16 l16)
          have l18 := haft _ rfl ⟨18, .data⟩ (by simp) rfl
          have s18 : ao.tmps[65]?.getD undef = .int .i64 (df : Nat) := (hU.slot 18 (by decide) l18).trans (hpv 18 l18)
          refine wpOp_value (v := .int .i64 ((hd : Int) + (df : Int))) (W' := W) rfl rfl ?_ (hK _ _ (LKeep.refl _ _ _) rfl)
          go_simp
          exact IntWalk.i64_in _ (by omega)
         | 20, hoi, hom =>
          have l14 := haft _ rfl ⟨14, .data⟩ (by simp) rfl
          have s14 : ao.tmps[61]?.getD undef = .int .i64 ((hd : Int) - (df : Int)) := (hU.slot 14 (by decide) l14).trans (hpv 14 l14)
          have l19 := haft _ rfl ⟨19, .data⟩ (by simp) rfl
          have s19 : ao.tmps[66]?.getD undef = .int .i64 ((hd : Int) + (df : Int)) := (hU.slot 19 (by decide) l19).trans (hpv 19 l19)
          refine wpOp_value (v := spanVal (⟨(hd : Int) - (df : Int), (hd : Int) + (df : Int)⟩ : Span)) (W' := W) rfl rfl ?_ (hK _ _ (LKeep.refl _ _ _) rfl)
          go_simp
         | 21, hoi, hom =>
          have l9 := haft _ rfl ⟨9, .data⟩ (by simp) rfl
          have s9 : ao.tmps[56]?.getD undef = spanVal sp := (hU.slot 9 (by decide) l9).trans (hpv 9 l9)
          have l20 := haft _ rfl ⟨20, .data⟩ (by simp) rfl
          have s20 : ao.tmps[67]?.getD undef = spanVal (⟨(hd : Int) - (df : Int), (hd : Int) + (df : Int)⟩ : Span) := (hU.slot 20 (by decide) l20).trans (hpv 20 l20)
          refine wpOp_enter (f := 101) (args := #[spanVal sp, spanVal (⟨(hd : Int) - (df : Int), (hd : Int) + (df : Int)⟩ : Span)]) (W' := W) rfl rfl ?_ ((both_any sp (⟨(hd : Int) - (df : Int), (hd : Int) + (df : Int)⟩ : Span) W).mono (fun e w'' h => ?_))
          · go_simp
          · obtain ⟨he, hbw⟩ := h
            exact ⟨_, he, hK _ _ (LKeep.below hbw (fun h => h)) rfl⟩
         | 22, hoi, hom =>
          have l0 := haft _ rfl ⟨0, .data⟩ (by simp) rfl
          have s0 : ao.tmps[47]?.getD undef = .pointer (some ⟨w.heap.size + 1, 0, none⟩) := (hU.slot 0 (by decide) l0).trans (hpv 0 l0)
          refine wpOp_value (v := .pointer (some ⟨w.heap.size + 1, 0, none⟩)) (W' := W) rfl rfl ?_ (hK _ _ (LKeep.refl _ _ _) rfl)
          go_simp
         | 23, hoi, hom =>
          have l22 := haft _ rfl ⟨22, .data⟩ (by simp) rfl
          have s22 : ao.tmps[69]?.getD undef = .pointer (some ⟨w.heap.size + 1, 0, none⟩) := (hU.slot 22 (by decide) l22).trans (hpv 22 l22)
          refine wpOp_value (v := .pointer (some ⟨w.heap.size + 1, 2, none⟩)) (W' := W) rfl rfl ?_ (hK _ _ (LKeep.refl _ _ _) rfl)
          go_simp
         | 24, hoi, hom =>
          have l23 := haft _ rfl ⟨23, .data⟩ (by simp) rfl
          have s23 : ao.tmps[70]?.getD undef = .pointer (some ⟨w.heap.size + 1, 2, none⟩) := (hU.slot 23 (by decide) l23).trans (hpv 23 l23)
          have l2 := haft _ rfl ⟨2, .data⟩ (by simp) rfl
          have s2 : ao.tmps[49]?.getD undef = .int .i64 (x : Nat) := (hU.slot 2 (by decide) l2).trans (hpv 2 l2)
          refine wpOp_value (v := .pointer (some ⟨w.heap.size + 1, 2 + x * 2, none⟩)) (W' := W) rfl rfl ?_ (hK _ _ (LKeep.refl _ _ _) rfl)
          go_simp
         | oi + 25, hoi, hom => exact absurd (of_decide_eq_true hom) (by omega)
        case hend =>
         intro listed vs ao W hG hk0 hpv hpre
         have hkk := (LKeep.drew (fun _ => False) (M := fun _ => True) W3 (fun h => h)).trans hk0
         have hk := hkk.1
         have hkm := hkk.2
         clear hkk
         have hact := hG.act
         have hT := hG.lst hpre 0 #[true, true, true, true, true, true, true, true, true, true, true, true, true, true, true, true, true, true, true, true, true, true, true, true, true, false] rfl (by kernel_rfl) (hpre 0 (by decide) (by decide))
         rw [hG.ix hT (l := [0, 1, 2, 3, 4, 5, 6, 7, 8, 9, 10, 11, 12, 13, 14, 15, 16, 17, 18, 19, 20, 21, 22, 23, 24]) (by kernel_rfl)] at hact
         rw [hG.lo hT (k := 1) (by kernel_rfl)]
         have hv0 : vs 0 = .pointer (some ⟨w.heap.size + 1, 0, none⟩) := hpv 0 (hpre 0 (by decide) (by decide))
         have hv1 : vs 1 = .pointer (some ⟨wr.heap.size, 0, none⟩) := hpv 1 (hpre 1 (by decide) (by decide))
         have hv2 : vs 2 = .int .i64 (x : Nat) := hpv 2 (hpre 2 (by decide) (by decide))
         have hv3 : vs 3 = .pointer (some ⟨w.heap.size + 1, 0, none⟩) := hpv 3 (hpre 3 (by decide) (by decide))
         have hv4 : vs 4 = .pointer (some ⟨wr.heap.size, 0, none⟩) := hpv 4 (hpre 4 (by decide) (by decide))
         have hv5 : vs 5 = .int .i64 (x : Nat) := hpv 5 (hpre 5 (by decide) (by decide))
         have hv6 : vs 6 = .pointer (some ⟨w.heap.size + 1, 0, none⟩) := hpv 6 (hpre 6 (by decide) (by decide))
         have hv7 : vs 7 = .pointer (some ⟨w.heap.size + 1, 2, none⟩) := hpv 7 (hpre 7 (by decide) (by decide))
         have hv8 : vs 8 = .pointer (some ⟨w.heap.size + 1, 2 + x * 2, none⟩) := hpv 8 (hpre 8 (by decide) (by decide))
         have hv9 : vs 9 = spanVal sp := hpv 9 (hpre 9 (by decide) (by decide))
         have hv10 : vs 10 = .pointer (some ⟨wr.heap.size, 1, none⟩) := hpv 10 (hpre 10 (by decide) (by decide))
         have hv11 : vs 11 = .int .i64 (hd : Nat) := hpv 11 (hpre 11 (by decide) (by decide))
         have hv12 : vs 12 = .pointer (some ⟨wr.heap.size, 2, none⟩) := hpv 12 (hpre 12 (by decide) (by decide))
         have hv13 : vs 13 = .int .i64 (df : Nat) := hpv 13 (hpre 13 (by decide) (by decide))
         have hv14 : vs 14 = .int .i64 ((hd : Int) - (df : Int)) := hpv 14 (hpre 14 (by decide) (by decide))
         have hv15 : vs 15 = .pointer (some ⟨wr.heap.size, 1, none⟩) := hpv 15 (hpre 15 (by decide) (by decide))
         have hv16 : vs 16 = .int .i64 (hd : Nat) := hpv 16 (hpre 16 (by decide) (by decide))
         have hv17 : vs 17 = .pointer (some ⟨wr.heap.size, 2, none⟩) := hpv 17 (hpre 17 (by decide) (by decide))
         have hv18 : vs 18 = .int .i64 (df : Nat) := hpv 18 (hpre 18 (by decide) (by decide))
         have hv19 : vs 19 = .int .i64 ((hd : Int) + (df : Int)) := hpv 19 (hpre 19 (by decide) (by decide))
         have hv20 : vs 20 = spanVal (⟨(hd : Int) - (df : Int), (hd : Int) + (df : Int)⟩ : Span) := hpv 20 (hpre 20 (by decide) (by decide))
         have hv21 : vs 21 = spanVal (both sp (⟨(hd : Int) - (df : Int), (hd : Int) + (df : Int)⟩ : Span)) := hpv 21 (hpre 21 (by decide) (by decide))
         have hv22 : vs 22 = .pointer (some ⟨w.heap.size + 1, 0, none⟩) := hpv 22 (hpre 22 (by decide) (by decide))
         have hv23 : vs 23 = .pointer (some ⟨w.heap.size + 1, 2, none⟩) := hpv 23 (hpre 23 (by decide) (by decide))
         have hv24 : vs 24 = .pointer (some ⟨w.heap.size + 1, 2 + x * 2, none⟩) := hpv 24 (hpre 24 (by decide) (by decide))
         clear hpv hpre hG hk0
         obtain rfl : ao = _ := hact
         subst hT
         simp only [setAll, List.setIfInBounds_toArray, List.set_cons_succ, List.set_cons_zero, List.getD_cons_succ, List.getD_cons_zero]
         simp only [hv0, hv1, hv2, hv3, hv4, hv5, hv6, hv7, hv8, hv9, hv10, hv11, hv12, hv13, hv14, hv15, hv16, hv17, hv18, hv19, hv20, hv21, hv22, hv23, hv24]
         clear hv0 hv1 hv2 hv3 hv4 hv5 hv6 hv7 hv8 hv9 hv10 hv11 hv12 hv13 hv14 hv15 hv16 hv17 hv18 hv19 hv20 hv21 hv22 hv23 hv24
         have m1 := HI3.out.keep hk (fun k h => h.elim)
         have c0 := m1.l.at_lo hx6
         have c1 := m1.l.at_hi hx6
         have f0 := m1.l.k.free (2 + x * 2)
         have f1 := m1.l.k.free (2 + x * 2 + 1)
         refine wpAny_all (rs := [25]) (by kernel_rfl) (by simp) ?_
         intro i2 hi2
         obtain rfl : i2 = 25 := by simpa using hi2
         refine wpOp_skip (W' := (W.setCell ⟨w.heap.size + 1, 2 + x * 2, none⟩ (.int .i64 (both sp (⟨(hd : Int) - (df : Int), (hd : Int) + (df : Int)⟩ : Span)).lo)).setCell ⟨w.heap.size + 1, 2 + x * 2 + 1, none⟩ (.int .i64 (both sp (⟨(hd : Int) - (df : Int), (hd : Int) + (df : Int)⟩ : Span)).hi)) rfl rfl ?_ ?_
         · go_simp
         refine wpAny_done (by kernel_rfl) ?_ _
         have J2 := m1.put hx6 (both sp (⟨(hd : Int) - (df : Int), (hd : Int) + (df : Int)⟩ : Span))
         have hs : Keep (fun q => q = w.heap.size + 1) W ((W.setCell ⟨w.heap.size + 1, 2 + x * 2, none⟩ (.int .i64 (both sp (⟨(hd : Int) - (df : Int), (hd : Int) + (df : Int)⟩ : Span)).lo)).setCell ⟨w.heap.size + 1, 2 + x * 2 + 1, none⟩ (.int .i64 (both sp (⟨(hd : Int) - (df : Int), (hd : Int) + (df : Int)⟩ : Span)).hi)) := keep_put W (w.heap.size + 1) x (both sp (⟨(hd : Int) - (df : Int), (hd : Int) + (df : Int)⟩ : Span))
         generalize (W.setCell ⟨w.heap.size + 1, 2 + x * 2, none⟩ (.int .i64 (both sp (⟨(hd : Int) - (df : Int), (hd : Int) + (df : Int)⟩ : Span)).lo)).setCell ⟨w.heap.size + 1, 2 + x * 2 + 1, none⟩ (.int .i64 (both sp (⟨(hd : Int) - (df : Int), (hd : Int) + (df : Int)⟩ : Span)).hi) = W2 at *
         clear c0 c1 f0 f1 m1
         have HJ2 := hide J2
         clear J2 hs hk HI3 p0 t0 t1 t2 dl dh
         go_wp2_with fail
         go_roundw
         case rel => exact ⟨j + 1, hlt, by simp, hide (by rw [HTC.out]; exact HJ2.out)⟩
         case measure => simp [intOf]; omega
     · obtain rfl : j = b.tallies.length := by omega
       obtain ⟨m, hm⟩ := LookS.start (T := wayOf b) (tall_out HG.out (fun i => but.testBit i) b.tallies.length (Nat.le_refl _))
       go_wp2_with fail
       have hz3 := HI.out.p.lt
       have hba : Below wr.heap.size wr (wr.alloc (.cells #[.int .i64 0, .int .i64 0, .int .i64 0, .int .i64 0, .int .i64 0, .int .i64 0, .int .i64 0, .int .i64 0, .int .i64 0, .int .i64 0, .int .i64 0, .int .i64 0] 86)) := (Below.refl _ _).alloc (Nat.le_refl _) _
       refine wp_loop_g (Inv3 w b a (cB b fun i => but.testBit i)) m ⟨wr.heap.size, _, _, [], by kernel_rfl, HI.out.next hba, Blk.made, hz3, trivial, hm⟩ ?round3
       case round3 =>
       clear HI hba hm hz3
       rintro m3 act V3 ⟨z, h, was, ds, ha, i1, i2, i3, i4, i5⟩
       generalize (fun k => act.tmps.getD k undef) = u at ha
       subst ha
       unfold frame3
       have hzz := i2.lt
       have hzp := i1.p.lt
       have hzg := i1.l.k.lt
       have p0 := i1.p.at_ 0
       simp only [List.getElem?_toArray, List.getElem?_cons_zero] at p0
       have hgt : Tryz.prog.eqGuardType Tryz.prog.depth 86 = false := by kernel_rfl
       have w0 := i2.at_ 0
       have g0 := i1.l.k.at_ 2
       have w1 := i2.at_ 1
       have g1 := i1.l.k.at_ 3
       have w2 := i2.at_ 2
       have g2 := i1.l.k.at_ 4
       have w3 := i2.at_ 3
       have g3 := i1.l.k.at_ 5
       have w4 := i2.at_ 4
       have g4 := i1.l.k.at_ 6
       have w5 := i2.at_ 5
       have g5 := i1.l.k.at_ 7
       have w6 := i2.at_ 6
       have g6 := i1.l.k.at_ 8
       have w7 := i2.at_ 7
       have g7 := i1.l.k.at_ 9
       have w8 := i2.at_ 8
       have g8 := i1.l.k.at_ 10
       have w9 := i2.at_ 9
       have g9 := i1.l.k.at_ 11
       have w10 := i2.at_ 10
       have g10 := i1.l.k.at_ 12
       have w11 := i2.at_ 11
       have g11 := i1.l.k.at_ 13
       simp only [List.getElem?_toArray, List.getElem?_cons_zero, List.getElem?_cons_succ] at w0 g0 w1 g1 w2 g2 w3 g3 w4 g4 w5 g5 w6 g6 w7 g7 w8 g8 w9 g9 w10 g10 w11 g11
       have HI1 := hide i1
       have HI2 := hide i2
       have HI4 := hide i4
       have HI5 := hide i5
       clear i1 i2 i4 i5
       go_wp2_with fail
       refine wp_region_rel4 (dst := fun oi => [74, 75, 76, 77, 78, 79].getD oi 0) (mono := fun oi => decide (oi < 6)) (pre := fun oi => decide (oi < 6)) (R := LKeep (fun _ => False) (fun _ => True))
        (Pv := fun oi v W => match oi with
         | 0 => v = .agg #[.int .i64 (was 0).lo, .int .i64 (was 0).hi, .int .i64 (was 1).lo, .int .i64 (was 1).hi, .int .i64 (was 2).lo, .int .i64 (was 2).hi, .int .i64 (was 3).lo, .int .i64 (was 3).hi, .int .i64 (was 4).lo, .int .i64 (was 4).hi, .int .i64 (was 5).lo, .int .i64 (was 5).hi]
         | 1 => v = .pointer (some ⟨w.heap.size + 1, 0, none⟩)
         | 2 => v = .pointer (some ⟨w.heap.size + 1, 0, none⟩)
         | 3 => v = .pointer (some ⟨w.heap.size + 1, 2, none⟩)
         | 4 => v = .agg #[.int .i64 (h 0).lo, .int .i64 (h 0).hi, .int .i64 (h 1).lo, .int .i64 (h 1).hi, .int .i64 (h 2).lo, .int .i64 (h 2).hi, .int .i64 (h 3).lo, .int .i64 (h 3).hi, .int .i64 (h 4).lo, .int .i64 (h 4).hi, .int .i64 (h 5).lo, .int .i64 (h 5).hi]
         | 5 => v = .bool (!spansB was h)
         | _ => True) (by kernel_rfl) (by kernel_rfl) (LKeep.refl _ _) (fun _ _ _ h h' => h.trans h') ?hst ?hstep ?hend
       case hst =>
        intro oi v W W' h hk
        match oi, h with
        | 0, h => exact h
        | 1, h => exact h
        | 2, h => exact h
        | 3, h => exact h
        | 4, h => exact h
        | 5, h => exact h
        | oi + 6, h => exact trivial
       case hstep =>
        intro oi hoi hom listed vs ao W hU hk0 hpv haft Ko hK
        have hkk := (LKeep.drew (fun _ => False) (M := fun _ => True) V3 (fun h => h)).trans hk0
        have hk := hkk.1
        have hkm := hkk.2
        clear hkk
        match oi, hoi, hom with
        | 0, hoi, hom =>
         have z10 : ao.tmps[10]?.getD undef = .pointer (some ⟨z, 0, none⟩) := hU.same 10 (by decide)
         have y0 := (hk.cell (b := z) (o := 0) (hzz) (fun h => h)).trans (w0)
         have y1 := (hk.cell (b := z) (o := 1) (hzz) (fun h => h)).trans (w1)
         have y2 := (hk.cell (b := z) (o := 2) (hzz) (fun h => h)).trans (w2)
         have y3 := (hk.cell (b := z) (o := 3) (hzz) (fun h => h)).trans (w3)
         have y4 := (hk.cell (b := z) (o := 4) (hzz) (fun h => h)).trans (w4)
         have y5 := (hk.cell (b := z) (o := 5) (hzz) (fun h => h)).trans (w5)
         have y6 := (hk.cell (b := z) (o := 6) (hzz) (fun h => h)).trans (w6)
         have y7 := (hk.cell (b := z) (o := 7) (hzz) (fun h => h)).trans (w7)
         have y8 := (hk.cell (b := z) (o := 8) (hzz) (fun h => h)).trans (w8)
         have y9 := (hk.cell (b := z) (o := 9) (hzz) (fun h => h)).trans (w9)
         have y10 := (hk.cell (b := z) (o := 10) (hzz) (fun h => h)).trans (w10)
         have y11 := (hk.cell (b := z) (o := 11) (hzz) (fun h => h)).trans (w11)
         refine wpOp_value (v := .agg #[.int .i64 (was 0).lo, .int .i64 (was 0).hi, .int .i64 (was 1).lo, .int .i64 (was 1).hi, .int .i64 (was 2).lo, .int .i64 (was 2).hi, .int .i64 (was 3).lo, .int .i64 (was 3).hi, .int .i64 (was 4).lo, .int .i64 (was 4).hi, .int .i64 (was 5).lo, .int .i64 (was 5).hi]) (W' := W) rfl rfl ?_ (hK _ _ (LKeep.refl _ _ _) rfl)
         go_simp
        | 1, hoi, hom =>
         have z6 : ao.tmps[6]?.getD undef = .pointer (some ⟨w.heap.size + 1 + 1, 0, none⟩) := hU.same 6 (by decide)
         have y0 := (hk.cell (b := w.heap.size + 1 + 1) (o := 0) (hzp) (fun h => h)).trans (p0)
         refine wpOp_value (v := .pointer (some ⟨w.heap.size + 1, 0, none⟩)) (W' := W) rfl rfl ?_ (hK _ _ (LKeep.refl _ _ _) rfl)
         go_simp
        | 2, hoi, hom =>
         have l1 := haft _ rfl ⟨1, .data⟩ (by simp) rfl
         have s1 : ao.tmps[75]?.getD undef = .pointer (some ⟨w.heap.size + 1, 0, none⟩) := (hU.slot 1 (by decide) l1).trans (hpv 1 l1)
         refine wpOp_value (v := .pointer (some ⟨w.heap.size + 1, 0, none⟩)) (W' := W) rfl rfl ?_ (hK _ _ (LKeep.refl _ _ _) rfl)
         go_simp
        | 3, hoi, hom =>
         have l2 := haft _ rfl ⟨2, .data⟩ (by simp) rfl
         have s2 : ao.tmps[76]?.getD undef = .pointer (some ⟨w.heap.size + 1, 0, none⟩) := (hU.slot 2 (by decide) l2).trans (hpv 2 l2)
         refine wpOp_value (v := .pointer (some ⟨w.heap.size + 1, 2, none⟩)) (W' := W) rfl rfl ?_ (hK _ _ (LKeep.refl _ _ _) rfl)
         go_simp
        | 4, hoi, hom =>
         have l3 := haft _ rfl ⟨3, .data⟩ (by simp) rfl
         have s3 : ao.tmps[77]?.getD undef = .pointer (some ⟨w.heap.size + 1, 2, none⟩) := (hU.slot 3 (by decide) l3).trans (hpv 3 l3)
         have y0 := (hk.cell (b := w.heap.size + 1) (o := 2) (hzg) (fun h => h)).trans (g0)
         have y1 := (hk.cell (b := w.heap.size + 1) (o := 3) (hzg) (fun h => h)).trans (g1)
         have y2 := (hk.cell (b := w.heap.size + 1) (o := 4) (hzg) (fun h => h)).trans (g2)
         have y3 := (hk.cell (b := w.heap.size + 1) (o := 5) (hzg) (fun h => h)).trans (g3)
         have y4 := (hk.cell (b := w.heap.size + 1) (o := 6) (hzg) (fun h => h)).trans (g4)
         have y5 := (hk.cell (b := w.heap.size + 1) (o := 7) (hzg) (fun h => h)).trans (g5)
         have y6 := (hk.cell (b := w.heap.size + 1) (o := 8) (hzg) (fun h => h)).trans (g6)
         have y7 := (hk.cell (b := w.heap.size + 1) (o := 9) (hzg) (fun h => h)).trans (g7)
         have y8 := (hk.cell (b := w.heap.size + 1) (o := 10) (hzg) (fun h => h)).trans (g8)
         have y9 := (hk.cell (b := w.heap.size + 1) (o := 11) (hzg) (fun h => h)).trans (g9)
         have y10 := (hk.cell (b := w.heap.size + 1) (o := 12) (hzg) (fun h => h)).trans (g10)
         have y11 := (hk.cell (b := w.heap.size + 1) (o := 13) (hzg) (fun h => h)).trans (g11)
         refine wpOp_value (v := .agg #[.int .i64 (h 0).lo, .int .i64 (h 0).hi, .int .i64 (h 1).lo, .int .i64 (h 1).hi, .int .i64 (h 2).lo, .int .i64 (h 2).hi, .int .i64 (h 3).lo, .int .i64 (h 3).hi, .int .i64 (h 4).lo, .int .i64 (h 4).hi, .int .i64 (h 5).lo, .int .i64 (h 5).hi]) (W' := W) rfl rfl ?_ (hK _ _ (LKeep.refl _ _ _) rfl)
         go_simp
        | 5, hoi, hom =>
         have l0 := haft _ rfl ⟨0, .data⟩ (by simp) rfl
         have s0 : ao.tmps[74]?.getD undef = .agg #[.int .i64 (was 0).lo, .int .i64 (was 0).hi, .int .i64 (was 1).lo, .int .i64 (was 1).hi, .int .i64 (was 2).lo, .int .i64 (was 2).hi, .int .i64 (was 3).lo, .int .i64 (was 3).hi, .int .i64 (was 4).lo, .int .i64 (was 4).hi, .int .i64 (was 5).lo, .int .i64 (was 5).hi] := (hU.slot 0 (by decide) l0).trans (hpv 0 l0)
         have l4 := haft _ rfl ⟨4, .data⟩ (by simp) rfl
         have s4 : ao.tmps[78]?.getD undef = .agg #[.int .i64 (h 0).lo, .int .i64 (h 0).hi, .int .i64 (h 1).lo, .int .i64 (h 1).hi, .int .i64 (h 2).lo, .int .i64 (h 2).hi, .int .i64 (h 3).lo, .int .i64 (h 3).hi, .int .i64 (h 4).lo, .int .i64 (h 4).hi, .int .i64 (h 5).lo, .int .i64 (h 5).hi] := (hU.slot 4 (by decide) l4).trans (hpv 4 l4)
         refine wpOp_value (v := .bool (!spansB was h)) (W' := W) rfl rfl ?_ (hK _ _ (LKeep.refl _ _ _) rfl)
         go_simp
        | oi + 6, hoi, hom => exact absurd (of_decide_eq_true hom) (by omega)
       case hend =>
        intro listed vs ao W hG hk0 hpv hpre
        have hkk := (LKeep.drew (fun _ => False) (M := fun _ => True) V3 (fun h => h)).trans hk0
        have hk := hkk.1
        have hkm := hkk.2
        clear hkk
        have hact := hG.act
        have hT := hG.lst hpre 0 #[true, true, true, true, true, true] rfl (by kernel_rfl) (hpre 0 (by decide) (by decide))
        rw [hG.ix hT (l := [0, 1, 2, 3, 4, 5]) (by kernel_rfl)] at hact
        rw [hG.lo hT (k := 0) (by kernel_rfl)]
        have hv0 : vs 0 = .agg #[.int .i64 (was 0).lo, .int .i64 (was 0).hi, .int .i64 (was 1).lo, .int .i64 (was 1).hi, .int .i64 (was 2).lo, .int .i64 (was 2).hi, .int .i64 (was 3).lo, .int .i64 (was 3).hi, .int .i64 (was 4).lo, .int .i64 (was 4).hi, .int .i64 (was 5).lo, .int .i64 (was 5).hi] := hpv 0 (hpre 0 (by decide) (by decide))
        have hv1 : vs 1 = .pointer (some ⟨w.heap.size + 1, 0, none⟩) := hpv 1 (hpre 1 (by decide) (by decide))
        have hv2 : vs 2 = .pointer (some ⟨w.heap.size + 1, 0, none⟩) := hpv 2 (hpre 2 (by decide) (by decide))
        have hv3 : vs 3 = .pointer (some ⟨w.heap.size + 1, 2, none⟩) := hpv 3 (hpre 3 (by decide) (by decide))
        have hv4 : vs 4 = .agg #[.int .i64 (h 0).lo, .int .i64 (h 0).hi, .int .i64 (h 1).lo, .int .i64 (h 1).hi, .int .i64 (h 2).lo, .int .i64 (h 2).hi, .int .i64 (h 3).lo, .int .i64 (h 3).hi, .int .i64 (h 4).lo, .int .i64 (h 4).hi, .int .i64 (h 5).lo, .int .i64 (h 5).hi] := hpv 4 (hpre 4 (by decide) (by decide))
        have hv5 : vs 5 = .bool (!spansB was h) := hpv 5 (hpre 5 (by decide) (by decide))
        clear hpv hpre hG hk0
        obtain rfl : ao = _ := hact
        subst hT
        simp only [setAll, List.setIfInBounds_toArray, List.set_cons_succ, List.set_cons_zero, List.getD_cons_succ, List.getD_cons_zero]
        simp only [hv0, hv1, hv2, hv3, hv4, hv5]
        clear hv0 hv1 hv2 hv3 hv4 hv5
        refine wpAny_done (by kernel_rfl) ?_ _
        have m1 := HI1.out.keep hk (fun k h => h.elim)
        have m2 := HI2.out.keep hk (fun h => h)
        have m4 := MarksOk.keepO hk (fun k h => h.elim) HI4.out
        clear HI1 HI2 HI4 hk hkm hzz hzg hzp p0 w0 g0 w1 g1 w2 g2 w3 g3 w4 g4 w5 g5 w6 g6 w7 g7 w8 g8 w9 g9 w10 g10 w11 g11
        have p0 := m1.p.at_ 0
        simp only [List.getElem?_toArray, List.getElem?_cons_zero] at p0
        generalize hne : (!spansB was h) = ne at *
        cases ne with
        | false =>
         have HM1 := hide m1
         have HM4 := hide m4
         have HNE := hide hne
         clear m1 m2 m4 hne
         go_wp2_with fail
         refine leaves_marks2 HM4.out (fun w' hkw' => ?_)
         exact ⟨.tuple #[.pointer (some ⟨w.heap.size + 1, 0, none⟩), .bool true], by simp [results, Tryz.results74, go_sem], w.heap.size + 1, h, true, rfl, HM1.out.l.keep hkw' (fun k hk => by have := HM4.out.ge hk; omega) (fun hk => by have := HM4.out.ge hk; omega), HI5.out.done HG.out.way (by have := HNE.out; simpa using this), HM1.out.e.trans (hkw'.below (fun k hk => by have := HM4.out.ge hk; omega) HM1.out.e.size)⟩
        | true =>
         have hzz := m2.lt
         have hzg := m1.l.k.lt
         have hzp := m1.p.lt
         have g0 := m1.l.k.at_ 2
         have g1 := m1.l.k.at_ 3
         have g2 := m1.l.k.at_ 4
         have g3 := m1.l.k.at_ 5
         have g4 := m1.l.k.at_ 6
         have g5 := m1.l.k.at_ 7
         have g6 := m1.l.k.at_ 8
         have g7 := m1.l.k.at_ 9
         have g8 := m1.l.k.at_ 10
         have g9 := m1.l.k.at_ 11
         have g10 := m1.l.k.at_ 12
         have g11 := m1.l.k.at_ 13
         have v0 := m2.at_ 0
         have v1 := m2.at_ 1
         have v2 := m2.at_ 2
         have v3 := m2.at_ 3
         have v4 := m2.at_ 4
         have v5 := m2.at_ 5
         have v6 := m2.at_ 6
         have v7 := m2.at_ 7
         have v8 := m2.at_ 8
         have v9 := m2.at_ 9
         have v10 := m2.at_ 10
         have v11 := m2.at_ 11
         simp only [List.getElem?_toArray, List.getElem?_cons_zero, List.getElem?_cons_succ] at g0 v0 g1 v1 g2 v2 g3 v3 g4 v4 g5 v5 g6 v6 g7 v7 g8 v8 g9 v9 g10 v10 g11 v11
         have e0 := m2.free 0
         have e1 := m2.free 1
         have e2 := m2.free 2
         have e3 := m2.free 3
         have e4 := m2.free 4
         have e5 := m2.free 5
         have e6 := m2.free 6
         have e7 := m2.free 7
         have e8 := m2.free 8
         have e9 := m2.free 9
         have e10 := m2.free 10
         have e11 := m2.free 11
         have x0 := m1.x.at_ 0
         simp only [List.getElem?_toArray, List.getElem?_cons_zero] at x0
         have hzx := m1.x.lt
         have hgz : w.heap.size + 1 < z := by omega
         have q0 : Blk (W.setCell ⟨z, 0, none⟩ (.int .i64 (h 0).lo)) z 86 #[.int .i64 (h 0).lo, .int .i64 (was 0).hi, .int .i64 (was 1).lo, .int .i64 (was 1).hi, .int .i64 (was 2).lo, .int .i64 (was 2).hi, .int .i64 (was 3).lo, .int .i64 (was 3).hi, .int .i64 (was 4).lo, .int .i64 (was 4).hi, .int .i64 (was 5).lo, .int .i64 (was 5).hi] := m2.store 0 (.int .i64 (h 0).lo)
         have q1 : Blk ((W.setCell ⟨z, 0, none⟩ (.int .i64 (h 0).lo)).setCell ⟨z, 1, none⟩ (.int .i64 (h 0).hi)) z 86 #[.int .i64 (h 0).lo, .int .i64 (h 0).hi, .int .i64 (was 1).lo, .int .i64 (was 1).hi, .int .i64 (was 2).lo, .int .i64 (was 2).hi, .int .i64 (was 3).lo, .int .i64 (was 3).hi, .int .i64 (was 4).lo, .int .i64 (was 4).hi, .int .i64 (was 5).lo, .int .i64 (was 5).hi] := q0.store 1 (.int .i64 (h 0).hi)
         have q2 : Blk (((W.setCell ⟨z, 0, none⟩ (.int .i64 (h 0).lo)).setCell ⟨z, 1, none⟩ (.int .i64 (h 0).hi)).setCell ⟨z, 2, none⟩ (.int .i64 (h 1).lo)) z 86 #[.int .i64 (h 0).lo, .int .i64 (h 0).hi, .int .i64 (h 1).lo, .int .i64 (was 1).hi, .int .i64 (was 2).lo, .int .i64 (was 2).hi, .int .i64 (was 3).lo, .int .i64 (was 3).hi, .int .i64 (was 4).lo, .int .i64 (was 4).hi, .int .i64 (was 5).lo, .int .i64 (was 5).hi] := q1.store 2 (.int .i64 (h 1).lo)
         have q3 : Blk ((((W.setCell ⟨z, 0, none⟩ (.int .i64 (h 0).lo)).setCell ⟨z, 1, none⟩ (.int .i64 (h 0).hi)).setCell ⟨z, 2, none⟩ (.int .i64 (h 1).lo)).setCell ⟨z, 3, none⟩ (.int .i64 (h 1).hi)) z 86 #[.int .i64 (h 0).lo, .int .i64 (h 0).hi, .int .i64 (h 1).lo, .int .i64 (h 1).hi, .int .i64 (was 2).lo, .int .i64 (was 2).hi, .int .i64 (was 3).lo, .int .i64 (was 3).hi, .int .i64 (was 4).lo, .int .i64 (was 4).hi, .int .i64 (was 5).lo, .int .i64 (was 5).hi] := q2.store 3 (.int .i64 (h 1).hi)
         have q4 : Blk (((((W.setCell ⟨z, 0, none⟩ (.int .i64 (h 0).lo)).setCell ⟨z, 1, none⟩ (.int .i64 (h 0).hi)).setCell ⟨z, 2, none⟩ (.int .i64 (h 1).lo)).setCell ⟨z, 3, none⟩ (.int .i64 (h 1).hi)).setCell ⟨z, 4, none⟩ (.int .i64 (h 2).lo)) z 86 #[.int .i64 (h 0).lo, .int .i64 (h 0).hi, .int .i64 (h 1).lo, .int .i64 (h 1).hi, .int .i64 (h 2).lo, .int .i64 (was 2).hi, .int .i64 (was 3).lo, .int .i64 (was 3).hi, .int .i64 (was 4).lo, .int .i64 (was 4).hi, .int .i64 (was 5).lo, .int .i64 (was 5).hi] := q3.store 4 (.int .i64 (h 2).lo)
         have q5 : Blk ((((((W.setCell ⟨z, 0, none⟩ (.int .i64 (h 0).lo)).setCell ⟨z, 1, none⟩ (.int .i64 (h 0).hi)).setCell ⟨z, 2, none⟩ (.int .i64 (h 1).lo)).setCell ⟨z, 3, none⟩ (.int .i64 (h 1).hi)).setCell ⟨z, 4, none⟩ (.int .i64 (h 2).lo)).setCell ⟨z, 5, none⟩ (.int .i64 (h 2).hi)) z 86 #[.int .i64 (h 0).lo, .int .i64 (h 0).hi, .int .i64 (h 1).lo, .int .i64 (h 1).hi, .int .i64 (h 2).lo, .int .i64 (h 2).hi, .int .i64 (was 3).lo, .int .i64 (was 3).hi, .int .i64 (was 4).lo, .int .i64 (was 4).hi, .int .i64 (was 5).lo, .int .i64 (was 5).hi] := q4.store 5 (.int .i64 (h 2).hi)
         have q6 : Blk (((((((W.setCell ⟨z, 0, none⟩ (.int .i64 (h 0).lo)).setCell ⟨z, 1, none⟩ (.int .i64 (h 0).hi)).setCell ⟨z, 2, none⟩ (.int .i64 (h 1).lo)).setCell ⟨z, 3, none⟩ (.int .i64 (h 1).hi)).setCell ⟨z, 4, none⟩ (.int .i64 (h 2).lo)).setCell ⟨z, 5, none⟩ (.int .i64 (h 2).hi)).setCell ⟨z, 6, none⟩ (.int .i64 (h 3).lo)) z 86 #[.int .i64 (h 0).lo, .int .i64 (h 0).hi, .int .i64 (h 1).lo, .int .i64 (h 1).hi, .int .i64 (h 2).lo, .int .i64 (h 2).hi, .int .i64 (h 3).lo, .int .i64 (was 3).hi, .int .i64 (was 4).lo, .int .i64 (was 4).hi, .int .i64 (was 5).lo, .int .i64 (was 5).hi] := q5.store 6 (.int .i64 (h 3).lo)
         have q7 : Blk ((((((((W.setCell ⟨z, 0, none⟩ (.int .i64 (h 0).lo)).setCell ⟨z, 1, none⟩ (.int .i64 (h 0).hi)).setCell ⟨z, 2, none⟩ (.int .i64 (h 1).lo)).setCell ⟨z, 3, none⟩ (.int .i64 (h 1).hi)).setCell ⟨z, 4, none⟩ (.int .i64 (h 2).lo)).setCell ⟨z, 5, none⟩ (.int .i64 (h 2).hi)).setCell ⟨z, 6, none⟩ (.int .i64 (h 3).lo)).setCell ⟨z, 7, none⟩ (.int .i64 (h 3).hi)) z 86 #[.int .i64 (h 0).lo, .int .i64 (h 0).hi, .int .i64 (h 1).lo, .int .i64 (h 1).hi, .int .i64 (h 2).lo, .int .i64 (h 2).hi, .int .i64 (h 3).lo, .int .i64 (h 3).hi, .int .i64 (was 4).lo, .int .i64 (was 4).hi, .int .i64 (was 5).lo, .int .i64 (was 5).hi] := q6.store 7 (.int .i64 (h 3).hi)
         have q8 : Blk (((((((((W.setCell ⟨z, 0, none⟩ (.int .i64 (h 0).lo)).setCell ⟨z, 1, none⟩ (.int .i64 (h 0).hi)).setCell ⟨z, 2, none⟩ (.int .i64 (h 1).lo)).setCell ⟨z, 3, none⟩ (.int .i64 (h 1).hi)).setCell ⟨z, 4, none⟩ (.int .i64 (h 2).lo)).setCell ⟨z, 5, none⟩ (.int .i64 (h 2).hi)).setCell ⟨z, 6, none⟩ (.int .i64 (h 3).lo)).setCell ⟨z, 7, none⟩ (.int .i64 (h 3).hi)).setCell ⟨z, 8, none⟩ (.int .i64 (h 4).lo)) z 86 #[.int .i64 (h 0).lo, .int .i64 (h 0).hi, .int .i64 (h 1).lo, .int .i64 (h 1).hi, .int .i64 (h 2).lo, .int .i64 (h 2).hi, .int .i64 (h 3).lo, .int .i64 (h 3).hi, .int .i64 (h 4).lo, .int .i64 (was 4).hi, .int .i64 (was 5).lo, .int .i64 (was 5).hi] := q7.store 8 (.int .i64 (h 4).lo)
         have q9 : Blk ((((((((((W.setCell ⟨z, 0, none⟩ (.int .i64 (h 0).lo)).setCell ⟨z, 1, none⟩ (.int .i64 (h 0).hi)).setCell ⟨z, 2, none⟩ (.int .i64 (h 1).lo)).setCell ⟨z, 3, none⟩ (.int .i64 (h 1).hi)).setCell ⟨z, 4, none⟩ (.int .i64 (h 2).lo)).setCell ⟨z, 5, none⟩ (.int .i64 (h 2).hi)).setCell ⟨z, 6, none⟩ (.int .i64 (h 3).lo)).setCell ⟨z, 7, none⟩ (.int .i64 (h 3).hi)).setCell ⟨z, 8, none⟩ (.int .i64 (h 4).lo)).setCell ⟨z, 9, none⟩ (.int .i64 (h 4).hi)) z 86 #[.int .i64 (h 0).lo, .int .i64 (h 0).hi, .int .i64 (h 1).lo, .int .i64 (h 1).hi, .int .i64 (h 2).lo, .int .i64 (h 2).hi, .int .i64 (h 3).lo, .int .i64 (h 3).hi, .int .i64 (h 4).lo, .int .i64 (h 4).hi, .int .i64 (was 5).lo, .int .i64 (was 5).hi] := q8.store 9 (.int .i64 (h 4).hi)
         have q10 : Blk (((((((((((W.setCell ⟨z, 0, none⟩ (.int .i64 (h 0).lo)).setCell ⟨z, 1, none⟩ (.int .i64 (h 0).hi)).setCell ⟨z, 2, none⟩ (.int .i64 (h 1).lo)).setCell ⟨z, 3, none⟩ (.int .i64 (h 1).hi)).setCell ⟨z, 4, none⟩ (.int .i64 (h 2).lo)).setCell ⟨z, 5, none⟩ (.int .i64 (h 2).hi)).setCell ⟨z, 6, none⟩ (.int .i64 (h 3).lo)).setCell ⟨z, 7, none⟩ (.int .i64 (h 3).hi)).setCell ⟨z, 8, none⟩ (.int .i64 (h 4).lo)).setCell ⟨z, 9, none⟩ (.int .i64 (h 4).hi)).setCell ⟨z, 10, none⟩ (.int .i64 (h 5).lo)) z 86 #[.int .i64 (h 0).lo, .int .i64 (h 0).hi, .int .i64 (h 1).lo, .int .i64 (h 1).hi, .int .i64 (h 2).lo, .int .i64 (h 2).hi, .int .i64 (h 3).lo, .int .i64 (h 3).hi, .int .i64 (h 4).lo, .int .i64 (h 4).hi, .int .i64 (h 5).lo, .int .i64 (was 5).hi] := q9.store 10 (.int .i64 (h 5).lo)
         have q11 : Blk ((((((((((((W.setCell ⟨z, 0, none⟩ (.int .i64 (h 0).lo)).setCell ⟨z, 1, none⟩ (.int .i64 (h 0).hi)).setCell ⟨z, 2, none⟩ (.int .i64 (h 1).lo)).setCell ⟨z, 3, none⟩ (.int .i64 (h 1).hi)).setCell ⟨z, 4, none⟩ (.int .i64 (h 2).lo)).setCell ⟨z, 5, none⟩ (.int .i64 (h 2).hi)).setCell ⟨z, 6, none⟩ (.int .i64 (h 3).lo)).setCell ⟨z, 7, none⟩ (.int .i64 (h 3).hi)).setCell ⟨z, 8, none⟩ (.int .i64 (h 4).lo)).setCell ⟨z, 9, none⟩ (.int .i64 (h 4).hi)).setCell ⟨z, 10, none⟩ (.int .i64 (h 5).lo)).setCell ⟨z, 11, none⟩ (.int .i64 (h 5).hi)) z 86 #[.int .i64 (h 0).lo, .int .i64 (h 0).hi, .int .i64 (h 1).lo, .int .i64 (h 1).hi, .int .i64 (h 2).lo, .int .i64 (h 2).hi, .int .i64 (h 3).lo, .int .i64 (h 3).hi, .int .i64 (h 4).lo, .int .i64 (h 4).hi, .int .i64 (h 5).lo, .int .i64 (h 5).hi] := q10.store 11 (.int .i64 (h 5).hi)
         have b2 : Blk (((((((((((((W.setCell ⟨z, 0, none⟩ (.int .i64 (h 0).lo)).setCell ⟨z, 1, none⟩ (.int .i64 (h 0).hi)).setCell ⟨z, 2, none⟩ (.int .i64 (h 1).lo)).setCell ⟨z, 3, none⟩ (.int .i64 (h 1).hi)).setCell ⟨z, 4, none⟩ (.int .i64 (h 2).lo)).setCell ⟨z, 5, none⟩ (.int .i64 (h 2).hi)).setCell ⟨z, 6, none⟩ (.int .i64 (h 3).lo)).setCell ⟨z, 7, none⟩ (.int .i64 (h 3).hi)).setCell ⟨z, 8, none⟩ (.int .i64 (h 4).lo)).setCell ⟨z, 9, none⟩ (.int .i64 (h 4).hi)).setCell ⟨z, 10, none⟩ (.int .i64 (h 5).lo)).setCell ⟨z, 11, none⟩ (.int .i64 (h 5).hi))) z 86 (spansCells h) := q11
         clear q0 q1 q2 q3 q4 q5 q6 q7 q8 q9 q10 q11
         have hks : Keep (fun q => q = z) W (((((((((((((W.setCell ⟨z, 0, none⟩ (.int .i64 (h 0).lo)).setCell ⟨z, 1, none⟩ (.int .i64 (h 0).hi)).setCell ⟨z, 2, none⟩ (.int .i64 (h 1).lo)).setCell ⟨z, 3, none⟩ (.int .i64 (h 1).hi)).setCell ⟨z, 4, none⟩ (.int .i64 (h 2).lo)).setCell ⟨z, 5, none⟩ (.int .i64 (h 2).hi)).setCell ⟨z, 6, none⟩ (.int .i64 (h 3).lo)).setCell ⟨z, 7, none⟩ (.int .i64 (h 3).hi)).setCell ⟨z, 8, none⟩ (.int .i64 (h 4).lo)).setCell ⟨z, 9, none⟩ (.int .i64 (h 4).hi)).setCell ⟨z, 10, none⟩ (.int .i64 (h 5).lo)).setCell ⟨z, 11, none⟩ (.int .i64 (h 5).hi))) := ((((((((((((Keep.setCell _ _ _ (fun q => q = z) rfl).trans (Keep.setCell _ _ _ (fun q => q = z) rfl)).trans (Keep.setCell _ _ _ (fun q => q = z) rfl)).trans (Keep.setCell _ _ _ (fun q => q = z) rfl)).trans (Keep.setCell _ _ _ (fun q => q = z) rfl)).trans (Keep.setCell _ _ _ (fun q => q = z) rfl)).trans (Keep.setCell _ _ _ (fun q => q = z) rfl)).trans (Keep.setCell _ _ _ (fun q => q = z) rfl)).trans (Keep.setCell _ _ _ (fun q => q = z) rfl)).trans (Keep.setCell _ _ _ (fun q => q = z) rfl)).trans (Keep.setCell _ _ _ (fun q => q = z) rfl)).trans (Keep.setCell _ _ _ (fun q => q = z) rfl))
         have HM1 := hide m1
         have HM4 := hide m4
         have HM2 := hide m2
         have HNE := hide hne
         have HB2 := hide b2
         have HKS := hide hks
         clear m1 m2 m4 hne b2 hks
         go_upto_region 16 with fail
         have j1 := HM1.out.keep HKS.out (fun k hk => by omega)
         have j4 := MarksOk.keepO HKS.out (fun k hk => by rw [hk]; exact HM2.out.not_mark) HM4.out
         replace HB2 : Hid (Blk (((((((((((((W.setCell ⟨z, 0, none⟩ (.int .i64 (h 0).lo)).setCell ⟨z, 1, none⟩ (.int .i64 (h 0).hi)).setCell ⟨z, 2, none⟩ (.int .i64 (h 1).lo)).setCell ⟨z, 3, none⟩ (.int .i64 (h 1).hi)).setCell ⟨z, 4, none⟩ (.int .i64 (h 2).lo)).setCell ⟨z, 5, none⟩ (.int .i64 (h 2).hi)).setCell ⟨z, 6, none⟩ (.int .i64 (h 3).lo)).setCell ⟨z, 7, none⟩ (.int .i64 (h 3).hi)).setCell ⟨z, 8, none⟩ (.int .i64 (h 4).lo)).setCell ⟨z, 9, none⟩ (.int .i64 (h 4).hi)).setCell ⟨z, 10, none⟩ (.int .i64 (h 5).lo)).setCell ⟨z, 11, none⟩ (.int .i64 (h 5).hi))) z 86 (spansCells h)) := HB2
         have HJ1 := hide j1
         have HJ4 := hide j4
         clear j1 j4 HKS HM1 HM2 HM4 p0 x0 hzz hzg hzp hzx hgz g0 v0 e0 g1 v1 e1 g2 v2 e2 g3 v3 e3 g4 v4 e4 g5 v5 e5 g6 v6 e6 g7 v7 e7 g8 v8 e8 g9 v9 e9 g10 v10 e10 g11 v11 e11
         generalize ((((((((((((W.setCell ⟨z, 0, none⟩ (.int .i64 (h 0).lo)).setCell ⟨z, 1, none⟩ (.int .i64 (h 0).hi)).setCell ⟨z, 2, none⟩ (.int .i64 (h 1).lo)).setCell ⟨z, 3, none⟩ (.int .i64 (h 1).hi)).setCell ⟨z, 4, none⟩ (.int .i64 (h 2).lo)).setCell ⟨z, 5, none⟩ (.int .i64 (h 2).hi)).setCell ⟨z, 6, none⟩ (.int .i64 (h 3).lo)).setCell ⟨z, 7, none⟩ (.int .i64 (h 3).hi)).setCell ⟨z, 8, none⟩ (.int .i64 (h 4).lo)).setCell ⟨z, 9, none⟩ (.int .i64 (h 4).hi)).setCell ⟨z, 10, none⟩ (.int .i64 (h 5).lo)).setCell ⟨z, 11, none⟩ (.int .i64 (h 5).hi)) = W5 at *
         have x0 := HJ1.out.x.at_ 0
         simp only [List.getElem?_toArray, List.getElem?_cons_zero] at x0
         have hzx := HJ1.out.x.lt
         go_wp2_with fail
         clear x0 hzx
         refine wp_loop_g (Inv4 w b a h z) b.steps.length ⟨0, _, by kernel_rfl, Nat.zero_le _, rfl, HJ1.out, HB2.out, HJ4.out⟩ ?round4
         case round4 =>
         clear HJ1 HB2 HJ4
         rintro m4 act4 V4 ⟨i, ds4, ha, hi, rfl, i1, i2, i4⟩
         generalize (fun k => act4.tmps.getD k undef) = u4 at ha
         subst ha
         unfold frame4
         have hi0 : (0 : Int) ≤ (i : Int) := Int.natCast_nonneg _
         have hn6 := HG.out.six
         by_cases hlt : i < b.steps.length
         · have hil : (i : Int) < (b.steps.length : Int) := by omega
           have hx6 : i < 6 := by omega
           have hi6 : (i : Int) < 6 := by omega
           obtain ⟨bs, os, hA, hbs, s0, s1, s2⟩ := i1.l.v.steps.steps hlt
           have hbz : bs < V4.heap.size := by have := i1.e.size; omega
           have p0 := i1.p.at_ 0
           simp only [List.getElem?_toArray, List.getElem?_cons_zero] at p0
           have hzp := i1.p.lt
           have hzg := i1.l.k.lt
           have hzz := i2.lt
           have hwz := i1.e.size
           have HLS := hide (show (wayOf b).loss i = (nth b.steps i).loss from rfl)
           generalize (nth b.steps i).loss = ls at *
           generalize (nth b.steps i).name = nm at *
           generalize (nth b.steps i).from_ = frm at *
           have HBK := hide (behind_kids HG.out i)
           have HOW := hide (outF_way HG.out (passTo (wayOf b) h i) i)
           have HFI := hide (passTo_none (T := wayOf b) (h := h) (i := i))
           have HFK := hide (passTo_kids (T := wayOf b) (h := h) (i := i))
           have HI1 := hide i1
           have HI2 := hide i2
           have HI4 := hide i4
           have HAA := hide hA
           clear i1 i2 i4
           rw [hA]
           clear hA
           go_wp2_with fail
           have hba : Below V4.heap.size V4 ((V4.alloc (.cells #[.int .i64 (i : Int)] 3)).alloc (.cells #[.string nm, .int .i64 frm, .int .i64 ls] 68)) := ((Below.refl _ _).alloc (Nat.le_refl _) _).alloc (by simp) _
           have n1 : Blk ((V4.alloc (.cells #[.int .i64 (i : Int)] 3)).alloc (.cells #[.string nm, .int .i64 frm, .int .i64 ls] 68)) V4.heap.size 3 #[.int .i64 (i : Int)] := Blk.made.alloc _
           have n2 : Blk ((V4.alloc (.cells #[.int .i64 (i : Int)] 3)).alloc (.cells #[.string nm, .int .i64 frm, .int .i64 ls] 68)) (V4.heap.size + 1) 68 #[.string nm, .int .i64 frm, .int .i64 ls] := Blk.made' (by simp)
           have j1 := HI1.out.next hba
           have j2 := HI2.out.next hba
           have j4 := MarksOk.keepO (Keep.of_below' hba (fun _ => False)) (fun k h => h.elim) HI4.out
           clear p0 s0 s1 s2 HI1 HI2 HI4 hbz hbs
           have hza := hba.size
           clear hba
           generalize (V4.alloc (.cells #[.int .i64 (i : Int)] 3)).alloc (.cells #[.string nm, .int .i64 frm, .int .i64 ls] 68) = Va at *
           have hzaa : V4.heap.size + 1 < Va.heap.size := n2.lt
           refine (out_any (h := passTo (wayOf b) h i) j1.l (by omega) hn6).mono ?_
           rintro e V5 ⟨rfl, hb5⟩
           have hz5 := hb5.size
           rw [HBK.out, HOW.out] at *
           have k1 := j1.next hb5
           have k2 := j2.next hb5
           have k4 := MarksOk.keepO (Keep.of_below' hb5 (fun _ => False)) (fun k h => h.elim) j4
           have k5 := n1.next hb5
           have k6 := n2.next hb5
           clear j1 j2 j4 n1 n2 hb5
           generalize hso : (wayOf b).outW (passTo (wayOf b) h i) i = so at *
           have HSO := hide hso
           clear hso HOW
           generalize hnb : (!((wayOf b).kids i).isEmpty) = nb at *
           have HNB := hide hnb
           clear hnb
           have hb6 : Below V5.heap.size V5 (V5.alloc (.cells #[.int .i64 so.lo, .int .i64 so.hi] 30)) := (Below.refl _ _).alloc (Nat.le_refl _) _
           have q1 := k1.next hb6
           have q2 := k2.next hb6
           have q4 := MarksOk.keepO (Keep.of_below' hb6 (fun _ => False)) (fun k h => h.elim) k4
           have q5 := k5.next hb6
           have q6 := k6.next hb6
           have q7 : Blk (V5.alloc (.cells #[.int .i64 so.lo, .int .i64 so.hi] 30)) V5.heap.size 30 #[.int .i64 so.lo, .int .i64 so.hi] := Blk.made
           have hz6 := hb6.size
           clear k1 k2 k4 k5 k6 hb6
           have Q1 := hide q1
           have Q2 := hide q2
           have Q4 := hide q4
           have Q5 := hide q5
           have Q6 := hide q6
           have Q7 := hide q7
           clear q1 q2 q4 q5 q6 q7
           cases nb with
           | false =>
            have HF := hide (HFI.out rfl)
            go_wp2_with fail
            refine ⟨b.steps.length - (i + 1), by omega, i + 1, ds4, by unfold frame4; rw [HAA.out]; kernel_rfl, hlt, rfl, by rw [HF.out]; exact Q1.out, Q2.out, Q4.out⟩
           | true =>
            have HF := hide (HFK.out rfl)
            go_wp2_with fail
            generalize V5.alloc (.cells #[.int .i64 so.lo, .int .i64 so.hi] 30) = V6 at *
            have HI6 := hide Q1.out
            have HN4 := hide Q2.out
            have HM6 := hide Q4.out
            have HN1 := hide Q5.out
            have HN2 := hide Q6.out
            have HN3 := hide Q7.out
            clear Q1 Q2 Q4 Q5 Q6 Q7 HFI HFK
            have p0 := HI6.out.p.at_ 0
            have i0 := HN1.out.at_ 0
            have l0 := HN2.out.at_ 2
            have o0 := HN3.out.at_ 0
            have o1 := HN3.out.at_ 1
            simp only [List.getElem?_toArray, List.getElem?_cons_zero, List.getElem?_cons_succ] at p0 i0 l0 o0 o1
            have sl := HI6.out.l.at_lo hx6
            have sh := HI6.out.l.at_hi hx6
            have hzi := HN1.out.lt
            have hzs := HN2.out.lt
            have hzo := HN3.out.lt
            replace hzp := HI6.out.p.lt
            replace hzg := HI6.out.l.k.lt
            generalize hsi : passTo (wayOf b) h i i = si at *
            have HSI := hide hsi
            clear hsi
            refine wp_region_rel4 (dst := fun oi => [100, 101, 102, 103, 104, 105, 106, 107, 108, 109, 110, 111, 112, 113, 114, 115, 116, 0].getD oi 0) (mono := fun oi => decide (oi < 17)) (pre := fun oi => decide (oi < 17)) (R := LKeep (fun _ => False) (fun _ => True))
             (Pv := fun oi v W => match oi with
              | 0 => v = .pointer (some ⟨w.heap.size + 1, 0, none⟩)
              | 1 => v = .int .i64 (i : Nat)
              | 2 => v = .pointer (some ⟨w.heap.size + 1, 0, none⟩)
              | 3 => v = .int .i64 (i : Nat)
              | 4 => v = .pointer (some ⟨w.heap.size + 1, 0, none⟩)
              | 5 => v = .pointer (some ⟨w.heap.size + 1, 2, none⟩)
              | 6 => v = .pointer (some ⟨w.heap.size + 1, 2 + i * 2, none⟩)
              | 7 => v = spanVal si
              | 8 => v = spanVal so
              | 9 => v = .pointer (some ⟨V4.heap.size + 1, 2, none⟩)
              | 10 => v = .int .i64 ls
              | 11 => v = spanVal ⟨0, ls⟩
              | 12 => v = spanVal (plusW so ⟨0, ls⟩)
              | 13 => v = spanVal (both si (plusW so ⟨0, ls⟩))
              | 14 => v = .pointer (some ⟨w.heap.size + 1, 0, none⟩)
              | 15 => v = .pointer (some ⟨w.heap.size + 1, 2, none⟩)
              | 16 => v = .pointer (some ⟨w.heap.size + 1, 2 + i * 2, none⟩)
              | _ => True) (by kernel_rfl) (by kernel_rfl) (LKeep.refl _ _) (fun _ _ _ h h' => h.trans h') ?hst ?hstep ?hend
            case hst =>
             intro oi v W W' h hk
             match oi, h with
             | 0, h => exact h
             | 1, h => exact h
             | 2, h => exact h
             | 3, h => exact h
             | 4, h => exact h
             | 5, h => exact h
             | 6, h => exact h
             | 7, h => exact h
             | 8, h => exact h
             | 9, h => exact h
             | 10, h => exact h
             | 11, h => exact h
             | 12, h => exact h
             | 13, h => exact h
             | 14, h => exact h
             | 15, h => exact h
             | 16, h => exact h
             | oi + 17, h => exact trivial
            case hstep =>
             intro oi hoi hom listed vs ao W hU hk0 hpv haft Ko hK
             have hkk := (LKeep.drew (fun _ => False) (M := fun _ => True) V6 (fun h => h)).trans hk0
             have hk := hkk.1
             have hkm := hkk.2
             clear hkk
             match oi, hoi, hom with
             | 0, hoi, hom =>
              have z6 : ao.tmps[6]?.getD undef = .pointer (some ⟨w.heap.size + 1 + 1, 0, none⟩) := hU.same 6 (by decide)
              have y0 := (hk.cell (b := w.heap.size + 1 + 1) (o := 0) (hzp) (fun h => h)).trans (p0)
              refine wpOp_value (v := .pointer (some ⟨w.heap.size + 1, 0, none⟩)) (W' := W) rfl rfl ?_ (hK _ _ (LKeep.refl _ _ _) rfl)
              go_simp
             | 1, hoi, hom =>
              have z11 : ao.tmps[11]?.getD undef = .pointer (some ⟨V4.heap.size, 0, none⟩) := hU.same 11 (by decide)
              have y0 := (hk.cell (b := V4.heap.size) (o := 0) (hzi) (fun h => h)).trans (i0)
              refine wpOp_value (v := .int .i64 (i : Nat)) (W' := W) rfl rfl ?_ (hK _ _ (LKeep.refl _ _ _) rfl)
              go_simp
             | 2, hoi, hom =>
              have z6 : ao.tmps[6]?.getD undef = .pointer (some ⟨w.heap.size + 1 + 1, 0, none⟩) := hU.same 6 (by decide)
              have y0 := (hk.cell (b := w.heap.size + 1 + 1) (o := 0) (hzp) (fun h => h)).trans (p0)
              refine wpOp_value (v := .pointer (some ⟨w.heap.size + 1, 0, none⟩)) (W' := W) rfl rfl ?_ (hK _ _ (LKeep.refl _ _ _) rfl)
              go_simp
             | 3, hoi, hom =>
              have z11 : ao.tmps[11]?.getD undef = .pointer (some ⟨V4.heap.size, 0, none⟩) := hU.same 11 (by decide)
              have y0 := (hk.cell (b := V4.heap.size) (o := 0) (hzi) (fun h => h)).trans (i0)
              refine wpOp_value (v := .int .i64 (i : Nat)) (W' := W) rfl rfl ?_ (hK _ _ (LKeep.refl _ _ _) rfl)
              go_simp
             | 4, hoi, hom =>
              have l2 := haft _ rfl ⟨2, .data⟩ (by simp) rfl
              have s2 : ao.tmps[102]?.getD undef = .pointer (some ⟨w.heap.size + 1, 0, none⟩) := (hU.slot 2 (by decide) l2).trans (hpv 2 l2)
              refine wpOp_value (v := .pointer (some ⟨w.heap.size + 1, 0, none⟩)) (W' := W) rfl rfl ?_ (hK _ _ (LKeep.refl _ _ _) rfl)
              go_simp
             | 5, hoi, hom =>
              have l4 := haft _ rfl ⟨4, .data⟩ (by simp) rfl
              have s4 : ao.tmps[104]?.getD undef = .pointer (some ⟨w.heap.size + 1, 0, none⟩) := (hU.slot 4 (by decide) l4).trans (hpv 4 l4)
              refine wpOp_value (v := .pointer (some ⟨w.heap.size + 1, 2, none⟩)) (W' := W) rfl rfl ?_ (hK _ _ (LKeep.refl _ _ _) rfl)
              go_simp
             | 6, hoi, hom =>
              have l5 := haft _ rfl ⟨5, .data⟩ (by simp) rfl
              have s5 : ao.tmps[105]?.getD undef = .pointer (some ⟨w.heap.size + 1, 2, none⟩) := (hU.slot 5 (by decide) l5).trans (hpv 5 l5)
              have l3 := haft _ rfl ⟨3, .data⟩ (by simp) rfl
              have s3 : ao.tmps[103]?.getD undef = .int .i64 (i : Nat) := (hU.slot 3 (by decide) l3).trans (hpv 3 l3)
              refine wpOp_value (v := .pointer (some ⟨w.heap.size + 1, 2 + i * 2, none⟩)) (W' := W) rfl rfl ?_ (hK _ _ (LKeep.refl _ _ _) rfl)
              go_simp
             | 7, hoi, hom =>
              have l6 := haft _ rfl ⟨6, .data⟩ (by simp) rfl
              have s6 : ao.tmps[106]?.getD undef = .pointer (some ⟨w.heap.size + 1, 2 + i * 2, none⟩) := (hU.slot 6 (by decide) l6).trans (hpv 6 l6)
              have y0 := (hk.cell (b := w.heap.size + 1) (o := 2 + i * 2) (hzg) (fun h => h)).trans (sl)
              have y1 := (hk.cell (b := w.heap.size + 1) (o := 2 + i * 2 + 1) (hzg) (fun h => h)).trans (sh)
              refine wpOp_value (v := spanVal si) (W' := W) rfl rfl ?_ (hK _ _ (LKeep.refl _ _ _) rfl)
              go_simp
             | 8, hoi, hom =>
              have z13 : ao.tmps[13]?.getD undef = .pointer (some ⟨V5.heap.size, 0, none⟩) := hU.same 13 (by decide)
              have y0 := (hk.cell (b := V5.heap.size) (o := 0) (hzo) (fun h => h)).trans (o0)
              have y1 := (hk.cell (b := V5.heap.size) (o := 1) (hzo) (fun h => h)).trans (o1)
              refine wpOp_value (v := spanVal so) (W' := W) rfl rfl ?_ (hK _ _ (LKeep.refl _ _ _) rfl)
              go_simp
             | 9, hoi, hom =>
              have z12 : ao.tmps[12]?.getD undef = .pointer (some ⟨V4.heap.size + 1, 0, none⟩) := hU.same 12 (by decide)
              refine wpOp_value (v := .pointer (some ⟨V4.heap.size + 1, 2, none⟩)) (W' := W) rfl rfl ?_ (hK _ _ (LKeep.refl _ _ _) rfl)
              go_simp
             | 10, hoi, hom =>
              have l9 := haft _ rfl ⟨9, .data⟩ (by simp) rfl
              have s9 : ao.tmps[109]?.getD undef = .pointer (some ⟨V4.heap.size + 1, 2, none⟩) := (hU.slot 9 (by decide) l9).trans (hpv 9 l9)
              have y0 := (hk.cell (b := V4.heap.size + 1) (o := 2) (hzs) (fun h => h)).trans (l0)
              refine wpOp_value (v := .int .i64 ls) (W' := W) rfl rfl ?_ (hK _ _ (LKeep.refl _ _ _) rfl)
              go_simp
             | 11, hoi, hom =>
              have l10 := haft _ rfl ⟨10, .data⟩ (by simp) rfl
              have s10 : ao.tmps[110]?.getD undef = .int .i64 ls := (hU.slot 10 (by decide) l10).trans (hpv 10 l10)
              refine wpOp_enter (f := 103) (args := #[.int .i64 ls]) (W' := W) rfl rfl ?_ ((upTo_any ls W).mono (fun e w'' h => ?_))
              · go_simp
              · obtain ⟨he, hbw⟩ := h
                exact ⟨_, he, hK _ _ (LKeep.below hbw (fun h => h)) rfl⟩
             | 12, hoi, hom =>
              have l8 := haft _ rfl ⟨8, .data⟩ (by simp) rfl
              have s8 : ao.tmps[108]?.getD undef = spanVal so := (hU.slot 8 (by decide) l8).trans (hpv 8 l8)
              have l11 := haft _ rfl ⟨11, .data⟩ (by simp) rfl
              have s11 : ao.tmps[111]?.getD undef = spanVal ⟨0, ls⟩ := (hU.slot 11 (by decide) l11).trans (hpv 11 l11)
              refine wpOp_enter (f := 105) (args := #[spanVal so, spanVal ⟨0, ls⟩]) (W' := W) rfl rfl ?_ ((plus_any so ⟨0, ls⟩ W).mono (fun e w'' h => ?_))
              · go_simp
              · obtain ⟨he, hbw⟩ := h
                exact ⟨_, he, hK _ _ (LKeep.below hbw (fun h => h)) rfl⟩
             | 13, hoi, hom =>
              have l7 := haft _ rfl ⟨7, .data⟩ (by simp) rfl
              have s7 : ao.tmps[107]?.getD undef = spanVal si := (hU.slot 7 (by decide) l7).trans (hpv 7 l7)
              have l12 := haft _ rfl ⟨12, .data⟩ (by simp) rfl
              have s12 : ao.tmps[112]?.getD undef = spanVal (plusW so ⟨0, ls⟩) := (hU.slot 12 (by decide) l12).trans (hpv 12 l12)
              refine wpOp_enter (f := 101) (args := #[spanVal si, spanVal (plusW so ⟨0, ls⟩)]) (W' := W) rfl rfl ?_ ((both_any si (plusW so ⟨0, ls⟩) W).mono (fun e w'' h => ?_))
              · go_simp
              · obtain ⟨he, hbw⟩ := h
                exact ⟨_, he, hK _ _ (LKeep.below hbw (fun h => h)) rfl⟩
             | 14, hoi, hom =>
              have l0 := haft _ rfl ⟨0, .data⟩ (by simp) rfl
              have s0 : ao.tmps[100]?.getD undef = .pointer (some ⟨w.heap.size + 1, 0, none⟩) := (hU.slot 0 (by decide) l0).trans (hpv 0 l0)
              refine wpOp_value (v := .pointer (some ⟨w.heap.size + 1, 0, none⟩)) (W' := W) rfl rfl ?_ (hK _ _ (LKeep.refl _ _ _) rfl)
              go_simp
             | 15, hoi, hom =>
              have l14 := haft _ rfl ⟨14, .data⟩ (by simp) rfl
              have s14 : ao.tmps[114]?.getD undef = .pointer (some ⟨w.heap.size + 1, 0, none⟩) := (hU.slot 14 (by decide) l14).trans (hpv 14 l14)
              refine wpOp_value (v := .pointer (some ⟨w.heap.size + 1, 2, none⟩)) (W' := W) rfl rfl ?_ (hK _ _ (LKeep.refl _ _ _) rfl)
              go_simp
             | 16, hoi, hom =>
              have l15 := haft _ rfl ⟨15, .data⟩ (by simp) rfl
              have s15 : ao.tmps[115]?.getD undef = .pointer (some ⟨w.heap.size + 1, 2, none⟩) := (hU.slot 15 (by decide) l15).trans (hpv 15 l15)
              have l1 := haft _ rfl ⟨1, .data⟩ (by simp) rfl
              have s1 : ao.tmps[101]?.getD undef = .int .i64 (i : Nat) := (hU.slot 1 (by decide) l1).trans (hpv 1 l1)
              refine wpOp_value (v := .pointer (some ⟨w.heap.size + 1, 2 + i * 2, none⟩)) (W' := W) rfl rfl ?_ (hK _ _ (LKeep.refl _ _ _) rfl)
              go_simp
             | oi + 17, hoi, hom => exact absurd (of_decide_eq_true hom) (by omega)
            case hend =>
             intro listed vs ao W hG hk0 hpv hpre
             have hkk := (LKeep.drew (fun _ => False) (M := fun _ => True) V6 (fun h => h)).trans hk0
             have hk := hkk.1
             have hkm := hkk.2
             clear hkk
             have hact := hG.act
             have hT := hG.lst hpre 0 #[true, true, true, true, true, true, true, true, true, true, true, true, true, true, true, true, true, false] rfl (by kernel_rfl) (hpre 0 (by decide) (by decide))
             rw [hG.ix hT (l := [0, 1, 2, 3, 4, 5, 6, 7, 8, 9, 10, 11, 12, 13, 14, 15, 16]) (by kernel_rfl)] at hact
             rw [hG.lo hT (k := 1) (by kernel_rfl)]
             have hv0 : vs 0 = .pointer (some ⟨w.heap.size + 1, 0, none⟩) := hpv 0 (hpre 0 (by decide) (by decide))
             have hv1 : vs 1 = .int .i64 (i : Nat) := hpv 1 (hpre 1 (by decide) (by decide))
             have hv2 : vs 2 = .pointer (some ⟨w.heap.size + 1, 0, none⟩) := hpv 2 (hpre 2 (by decide) (by decide))
             have hv3 : vs 3 = .int .i64 (i : Nat) := hpv 3 (hpre 3 (by decide) (by decide))
             have hv4 : vs 4 = .pointer (some ⟨w.heap.size + 1, 0, none⟩) := hpv 4 (hpre 4 (by decide) (by decide))
             have hv5 : vs 5 = .pointer (some ⟨w.heap.size + 1, 2, none⟩) := hpv 5 (hpre 5 (by decide) (by decide))
             have hv6 : vs 6 = .pointer (some ⟨w.heap.size + 1, 2 + i * 2, none⟩) := hpv 6 (hpre 6 (by decide) (by decide))
             have hv7 : vs 7 = spanVal si := hpv 7 (hpre 7 (by decide) (by decide))
             have hv8 : vs 8 = spanVal so := hpv 8 (hpre 8 (by decide) (by decide))
             have hv9 : vs 9 = .pointer (some ⟨V4.heap.size + 1, 2, none⟩) := hpv 9 (hpre 9 (by decide) (by decide))
             have hv10 : vs 10 = .int .i64 ls := hpv 10 (hpre 10 (by decide) (by decide))
             have hv11 : vs 11 = spanVal ⟨0, ls⟩ := hpv 11 (hpre 11 (by decide) (by decide))
             have hv12 : vs 12 = spanVal (plusW so ⟨0, ls⟩) := hpv 12 (hpre 12 (by decide) (by decide))
             have hv13 : vs 13 = spanVal (both si (plusW so ⟨0, ls⟩)) := hpv 13 (hpre 13 (by decide) (by decide))
             have hv14 : vs 14 = .pointer (some ⟨w.heap.size + 1, 0, none⟩) := hpv 14 (hpre 14 (by decide) (by decide))
             have hv15 : vs 15 = .pointer (some ⟨w.heap.size + 1, 2, none⟩) := hpv 15 (hpre 15 (by decide) (by decide))
             have hv16 : vs 16 = .pointer (some ⟨w.heap.size + 1, 2 + i * 2, none⟩) := hpv 16 (hpre 16 (by decide) (by decide))
             clear hpv hpre hG hk0
             obtain rfl : ao = _ := hact
             subst hT
             simp only [setAll, List.setIfInBounds_toArray, List.set_cons_succ, List.set_cons_zero, List.getD_cons_succ, List.getD_cons_zero]
             simp only [hv0, hv1, hv2, hv3, hv4, hv5, hv6, hv7, hv8, hv9, hv10, hv11, hv12, hv13, hv14, hv15, hv16]
             clear hv0 hv1 hv2 hv3 hv4 hv5 hv6 hv7 hv8 hv9 hv10 hv11 hv12 hv13 hv14 hv15 hv16
             have hgm := (HI6.out.keep hk (fun k h => h.elim)).l.k.not_mark
             have n1 := HN1.out.keep hk (fun h => h)
             have n2 := HN2.out.keep hk (fun h => h)
             have n3 := HN3.out.keep hk (fun h => h)
             have n4 := HN4.out.keep hk (fun h => h)
             have m5 := MarksOk.keepO hk (fun k h => h.elim) HM6.out
             have m1 := HI6.out.keep hk (fun k h => h.elim)
             have c0 := m1.l.at_lo hx6
             have c1 := m1.l.at_hi hx6
             have f0 := m1.l.k.free (2 + i * 2)
             have f1 := m1.l.k.free (2 + i * 2 + 1)
             refine wpAny_all (rs := [17]) (by kernel_rfl) (by simp) ?_
             intro i2 hi2
             obtain rfl : i2 = 17 := by simpa using hi2
             refine wpOp_skip (W' := (W.setCell ⟨w.heap.size + 1, 2 + i * 2, none⟩ (.int .i64 (both si (plusW so ⟨0, ls⟩)).lo)).setCell ⟨w.heap.size + 1, 2 + i * 2 + 1, none⟩ (.int .i64 (both si (plusW so ⟨0, ls⟩)).hi)) rfl rfl ?_ ?_
             · go_simp
             refine wpAny_done (by kernel_rfl) ?_ _
             have J2 := m1.put hx6 (both si (plusW so ⟨0, ls⟩))
             have hs : Keep (fun q => q = w.heap.size + 1) W ((W.setCell ⟨w.heap.size + 1, 2 + i * 2, none⟩ (.int .i64 (both si (plusW so ⟨0, ls⟩)).lo)).setCell ⟨w.heap.size + 1, 2 + i * 2 + 1, none⟩ (.int .i64 (both si (plusW so ⟨0, ls⟩)).hi)) := keep_put W (w.heap.size + 1) i (both si (plusW so ⟨0, ls⟩))
             generalize (W.setCell ⟨w.heap.size + 1, 2 + i * 2, none⟩ (.int .i64 (both si (plusW so ⟨0, ls⟩)).lo)).setCell ⟨w.heap.size + 1, 2 + i * 2 + 1, none⟩ (.int .i64 (both si (plusW so ⟨0, ls⟩)).hi) = V7 at *
             clear c0 c1 f0 f1 m1
             have k1 := n1.keep hs (by omega)
             have k2 := n2.keep hs (by omega)
             have k3 := n3.keep hs (by omega)
             have k4 := n4.keep hs (by omega)
             have k5 := MarksOk.keepO hs (fun k hk => by rw [hk]; exact hgm) m5
             have p0 := J2.p.at_ 0
             have i0 := k1.at_ 0
             simp only [List.getElem?_toArray, List.getElem?_cons_zero] at p0 i0
             have hzp := J2.p.lt
             have hzi := k1.lt
             have hzw7 := hk.size
             have hzs7 := hs.size
             clear n1 n2 n3 n4 m5 hs hk hkm hgm HI6 HN1 HN2 HN3 HN4 HM6 o0 o1 l0 sl sh
             have HJ2 := hide J2
             have HK1 := hide k1
             have HK2 := hide k2
             have HK3 := hide k3
             have HK4 := hide k4
             have HK5 := hide k5
             clear J2 k1 k2 k3 k4 k5
             go_wp2_with fail
             refine behind_any.mono ?_
             rintro e V8 ⟨p1, p2, rfl, hp1, hp2, e1, e2, hB8⟩
             have k1 := HJ2.out.next hB8
             have k2 := HK1.out.next hB8
             have k3 := HK2.out.next hB8
             have k4 := HK3.out.next hB8
             have k5 := HK4.out.next hB8
             have k6 := MarksOk.keepO (Keep.of_below' hB8 (fun _ => False)) (fun k h => h.elim) HK5.out
             have hz8 := hB8.size
             have hz8i := k2.lt
             have hz8s := k3.lt
             have hz8o := k4.lt
             have hz8z := k5.lt
             have hz8g := k1.l.k.lt
             replace HBK := hide (behind_kids HG.out i)
             clear HJ2 HK1 HK2 HK3 HK4 HK5 hB8 p0 i0
             go_wp2_with fail
             have hit : IterStill Tryz.prog 128 #[.pointer (some ⟨p1, 0, none⟩), .pointer (some ⟨p2, 0, none⟩)] nv (fun k => k = w.heap.size + 1 ∨ k = V5.heap.size) (fun _ => True) (behindB b i) V8 :=
              behind_iter (g := w.heap.size + 1) (L := w.heap.size) (a := a) hp1.2 hp2.2 hz8g (by omega) e1 e2 (k1.l.k.at_ 0) k1.l.v (fun k hk => by omega)
             have k1' : LkI w V8 b a (kidTo (wayOf b) (passTo (wayOf b) h i) i []).1 := by rw [kidTo_nil, HLS.out, HSO.out, HSI.out]; exact k1
             have k4' : Blk V8 V5.heap.size 30 #[.int .i64 (kidTo (wayOf b) (passTo (wayOf b) h i) i []).2.lo, .int .i64 (kidTo (wayOf b) (passTo (wayOf b) h i) i []).2.hi] := by rw [kidTo_nil, HSO.out]; exact k4
             refine wp_range_still rfl (enters_of Tryz.func128 (by kernel_rfl) rfl) rfl hit (fun k hk => by omega) (fun _ _ _ _ => trivial)
              (fun pre W => LkI w W b a (kidTo (wayOf b) (passTo (wayOf b) h i) i pre).1 ∧ Blk W V5.heap.size 30 #[.int .i64 (kidTo (wayOf b) (passTo (wayOf b) h i) i pre).2.lo, .int .i64 (kidTo (wayOf b) (passTo (wayOf b) h i) i pre).2.hi] ∧ Blk W V4.heap.size 3 #[.int .i64 (i : Int)] ∧ Blk W (V4.heap.size + 1) 68 #[.string nm, .int .i64 frm, .int .i64 ls] ∧ Blk W z 86 (spansCells h)) (fun _ _ _ => False) ?hI (fun _ _ _ _ h _ => h) trivial ⟨k1', k4', k2, k3, k5⟩ ?body ?done ?stop
             case hI =>
              rintro pre V V' ⟨i1, i2, i3, i4, i5⟩ hk _
              exact ⟨i1.keep hk (fun k hk => by omega), i2.keep hk (by omega), i3.keep hk (by omega), i4.keep hk (by omega), i5.keep hk (by omega)⟩
             case body =>
              rintro l pre x X1 hl hx ⟨i1, i2, i3, i4, i5⟩ _ hlX
              have hxm : x ∈ behindB b i := hx.subset (by simp)
              have hx6 : x < 6 := by have := behind_lt hxm; omega
              have HKT := hide (kidTo_snoc (wayOf b) (passTo (wayOf b) h i) i x pre)
              rw [HLS.out] at HKT
              clear hx hxm hit k1 k2 k3 k4 k5 k6 k1' k4' e1 e2 hp1 hp2
              generalize (kidTo (wayOf b) (passTo (wayOf b) h i) i pre) = sp at *
              obtain ⟨h2, so⟩ := sp
              dsimp only at i1 i2 HKT
              gi_wp2
              refine ⟨Keep.refl _ _, trivial, fun X3 hk3 => ?_⟩
              have HL := hide (i1.keep hk3 (fun k hk => by omega))
              have HO := hide (i2.keep hk3 (by omega))
              have HI := hide (i3.keep hk3 (by omega))
              have HS := hide (i4.keep hk3 (by omega))
              have HZ := hide (i5.keep hk3 (by omega))
              have hzX0 := hk3.size
              clear i1 i2 i3 i4 i5 hk3
              have hx0 : (0 : Int) ≤ (x : Int) := Int.natCast_nonneg _
              have hx61 : (x : Int) < 6 := by omega
              generalize hsi2 : h2 i = si at *
              generalize hsk2 : h2 x = sk at *
              have i0 := HI.out.at_ 0
              have l0 := HS.out.at_ 2
              simp only [List.getElem?_toArray, List.getElem?_cons_zero, List.getElem?_cons_succ] at i0 l0
              have sl := HL.out.l.at_lo (i := i) (by omega)
              have sh := HL.out.l.at_hi (i := i) (by omega)
              have hzi := HI.out.lt
              have hzs := HS.out.lt
              have p0 := HL.out.p.at_ 0
              have o0 := HO.out.at_ 0
              have o1 := HO.out.at_ 1
              simp only [List.getElem?_toArray, List.getElem?_cons_zero, List.getElem?_cons_succ] at p0 o0 o1
              have kl := HL.out.l.at_lo hx6
              have kh := HL.out.l.at_hi hx6
              have hzp := HL.out.p.lt
              have hzg := HL.out.l.k.lt
              have hzo := HO.out.lt
              rw [hsi2] at sl sh
              rw [hsk2] at kl kh
              have HSI2 := hide hsi2
              have HSK2 := hide hsk2
              clear hsi2 hsk2
              refine wpIn_block ?_
              gi_wp2_with fail
              refine wpIn_round_rel4 (dst := fun oi => [121, 122, 123, 124, 125, 126, 127, 128, 129, 130, 131, 132, 133, 134, 135, 136, 137, 138, 139, 140, 141, 142, 143, 144, 145, 146, 147, 148, 149, 150, 151, 152, 16, 0].getD oi 0) (mono := fun oi => decide (oi < 33)) (pre := fun oi => decide (oi < 33)) (R := LKeep (fun _ => False) (fun _ => True))
               (Pv := fun oi v W => match oi with
                | 0 => v = .pointer (some ⟨w.heap.size + 1, 0, none⟩)
                | 1 => v = .int .i64 (i : Nat)
                | 2 => v = .pointer (some ⟨w.heap.size + 1, 0, none⟩)
                | 3 => v = .pointer (some ⟨w.heap.size + 1, 2, none⟩)
                | 4 => v = .pointer (some ⟨w.heap.size + 1, 2 + i * 2, none⟩)
                | 5 => v = spanVal si
                | 6 => v = .pointer (some ⟨V5.heap.size, 0, none⟩)
                | 7 => v = .int .i64 so.lo
                | 8 => v = .pointer (some ⟨w.heap.size + 1, 0, none⟩)
                | 9 => v = .int .i64 (x : Nat)
                | 10 => v = .pointer (some ⟨w.heap.size + 1, 0, none⟩)
                | 11 => v = .pointer (some ⟨w.heap.size + 1, 2, none⟩)
                | 12 => v = .pointer (some ⟨w.heap.size + 1, 2 + x * 2, none⟩)
                | 13 => v = .pointer (some ⟨w.heap.size + 1, 2 + x * 2, none⟩)
                | 14 => v = .int .i64 sk.lo
                | 15 => v = .int .i64 (wrap64 (so.lo - sk.lo))
                | 16 => v = .pointer (some ⟨V5.heap.size, 1, none⟩)
                | 17 => v = .int .i64 so.hi
                | 18 => v = .pointer (some ⟨w.heap.size + 1, 0, none⟩)
                | 19 => v = .int .i64 (x : Nat)
                | 20 => v = .pointer (some ⟨w.heap.size + 1, 0, none⟩)
                | 21 => v = .pointer (some ⟨w.heap.size + 1, 2, none⟩)
                | 22 => v = .pointer (some ⟨w.heap.size + 1, 2 + x * 2, none⟩)
                | 23 => v = .pointer (some ⟨w.heap.size + 1, 2 + x * 2 + 1, none⟩)
                | 24 => v = .int .i64 sk.hi
                | 25 => v = .int .i64 (wrap64 (so.hi - sk.hi))
                | 26 => v = spanVal (⟨wrap64 (so.lo - sk.lo), wrap64 (so.hi - sk.hi)⟩ : Span)
                | 27 => v = .pointer (some ⟨V4.heap.size + 1, 2, none⟩)
                | 28 => v = .int .i64 ls
                | 29 => v = spanVal ⟨0, ls⟩
                | 30 => v = spanVal (plusW (⟨wrap64 (so.lo - sk.lo), wrap64 (so.hi - sk.hi)⟩ : Span) ⟨0, ls⟩)
                | 31 => v = spanVal (lessW si (plusW (⟨wrap64 (so.lo - sk.lo), wrap64 (so.hi - sk.hi)⟩ : Span) ⟨0, ls⟩))
                | 32 => ∃ gl cp, v = .pointer (some ⟨gl, 0, none⟩) ∧ MadeB W X3.heap.size gl cp 30 #[.int .i64 0, .int .i64 0]
                | _ => True) (by kernel_rfl) (by kernel_rfl) (by rintro ⟨_, _, h⟩; exact h) (by kernel_rfl) (LKeep.refl _ _) (fun _ _ _ h h' => h.trans h') ?hst30 ?hstep30 ?hend30
              case hst30 =>
               intro oi v W W' h hk
               match oi, h with
               | 0, h => exact h
               | 1, h => exact h
               | 2, h => exact h
               | 3, h => exact h
               | 4, h => exact h
               | 5, h => exact h
               | 6, h => exact h
               | 7, h => exact h
               | 8, h => exact h
               | 9, h => exact h
               | 10, h => exact h
               | 11, h => exact h
               | 12, h => exact h
               | 13, h => exact h
               | 14, h => exact h
               | 15, h => exact h
               | 16, h => exact h
               | 17, h => exact h
               | 18, h => exact h
               | 19, h => exact h
               | 20, h => exact h
               | 21, h => exact h
               | 22, h => exact h
               | 23, h => exact h
               | 24, h => exact h
               | 25, h => exact h
               | 26, h => exact h
               | 27, h => exact h
               | 28, h => exact h
               | 29, h => exact h
               | 30, h => exact h
               | 31, h => exact h
               | 32, h => obtain ⟨gl, cp, h1, h2⟩ := h; exact ⟨gl, cp, h1, h2.next (hk.1.below (B := W.heap.size) (fun k h => h.elim) (Nat.le_refl _))⟩
               | oi + 33, h => exact trivial
              case hstep30 =>
               intro oi hoi hom listed vs ao W hU hk0 hpv haft Ko hK
               have hkk := (LKeep.drew (fun _ => False) (M := fun _ => True) X3 (fun h => h)).trans hk0
               have hk := hkk.1
               have hkm := hkk.2
               clear hkk
               match oi, hoi, hom with
               | 0, hoi, hom =>
                have z6 : ao.tmps[6]?.getD undef = .pointer (some ⟨w.heap.size + 1 + 1, 0, none⟩) := hU.same 6 (by decide)
                have y0 := (hk.cell (b := w.heap.size + 1 + 1) (o := 0) (hzp) (fun h => h)).trans (p0)
                refine wpOp_value (v := .pointer (some ⟨w.heap.size + 1, 0, none⟩)) (W' := W) rfl rfl ?_ (hK _ _ (LKeep.refl _ _ _) rfl)
                go_simp
               | 1, hoi, hom =>
                have z11 : ao.tmps[11]?.getD undef = .pointer (some ⟨V4.heap.size, 0, none⟩) := hU.same 11 (by decide)
                have y0 := (hk.cell (b := V4.heap.size) (o := 0) (hzi) (fun h => h)).trans (i0)
                refine wpOp_value (v := .int .i64 (i : Nat)) (W' := W) rfl rfl ?_ (hK _ _ (LKeep.refl _ _ _) rfl)
                go_simp
               | 2, hoi, hom =>
                have l0 := haft _ rfl ⟨0, .data⟩ (by simp) rfl
                have s0 : ao.tmps[121]?.getD undef = .pointer (some ⟨w.heap.size + 1, 0, none⟩) := (hU.slot 0 (by decide) l0).trans (hpv 0 l0)
                refine wpOp_value (v := .pointer (some ⟨w.heap.size + 1, 0, none⟩)) (W' := W) rfl rfl ?_ (hK _ _ (LKeep.refl _ _ _) rfl)
                go_simp
               | 3, hoi, hom =>
                have l2 := haft _ rfl ⟨2, .data⟩ (by simp) rfl
                have s2 : ao.tmps[123]?.getD undef = .pointer (some ⟨w.heap.size + 1, 0, none⟩) := (hU.slot 2 (by decide) l2).trans (hpv 2 l2)
                refine wpOp_value (v := .pointer (some ⟨w.heap.size + 1, 2, none⟩)) (W' := W) rfl rfl ?_ (hK _ _ (LKeep.refl _ _ _) rfl)
                go_simp
               | 4, hoi, hom =>
                have l3 := haft _ rfl ⟨3, .data⟩ (by simp) rfl
                have s3 : ao.tmps[124]?.getD undef = .pointer (some ⟨w.heap.size + 1, 2, none⟩) := (hU.slot 3 (by decide) l3).trans (hpv 3 l3)
                have l1 := haft _ rfl ⟨1, .data⟩ (by simp) rfl
                have s1 : ao.tmps[122]?.getD undef = .int .i64 (i : Nat) := (hU.slot 1 (by decide) l1).trans (hpv 1 l1)
                refine wpOp_value (v := .pointer (some ⟨w.heap.size + 1, 2 + i * 2, none⟩)) (W' := W) rfl rfl ?_ (hK _ _ (LKeep.refl _ _ _) rfl)
                go_simp
               | 5, hoi, hom =>
                have l4 := haft _ rfl ⟨4, .data⟩ (by simp) rfl
                have s4 : ao.tmps[125]?.getD undef = .pointer (some ⟨w.heap.size + 1, 2 + i * 2, none⟩) := (hU.slot 4 (by decide) l4).trans (hpv 4 l4)
                have y0 := (hk.cell (b := w.heap.size + 1) (o := 2 + i * 2) (hzg) (fun h => h)).trans (sl)
                have y1 := (hk.cell (b := w.heap.size + 1) (o := 2 + i * 2 + 1) (hzg) (fun h => h)).trans (sh)
                refine wpOp_value (v := spanVal si) (W' := W) rfl rfl ?_ (hK _ _ (LKeep.refl _ _ _) rfl)
                go_simp
               | 6, hoi, hom =>
                have z13 : ao.tmps[13]?.getD undef = .pointer (some ⟨V5.heap.size, 0, none⟩) := hU.same 13 (by decide)
                refine wpOp_value (v := .pointer (some ⟨V5.heap.size, 0, none⟩)) (W' := W) rfl rfl ?_ (hK _ _ (LKeep.refl _ _ _) rfl)
                go_simp
               | 7, hoi, hom =>
                have l6 := haft _ rfl ⟨6, .data⟩ (by simp) rfl
                have s6 : ao.tmps[127]?.getD undef = .pointer (some ⟨V5.heap.size, 0, none⟩) := (hU.slot 6 (by decide) l6).trans (hpv 6 l6)
                have y0 := (hk.cell (b := V5.heap.size) (o := 0) (hzo) (fun h => h)).trans (o0)
                refine wpOp_value (v := .int .i64 so.lo) (W' := W) rfl rfl ?_ (hK _ _ (LKeep.refl _ _ _) rfl)
                go_simp
               | 8, hoi, hom =>
                have z6 : ao.tmps[6]?.getD undef = .pointer (some ⟨w.heap.size + 1 + 1, 0, none⟩) := hU.same 6 (by decide)
                have y0 := (hk.cell (b := w.heap.size + 1 + 1) (o := 0) (hzp) (fun h => h)).trans (p0)
                refine wpOp_value (v := .pointer (some ⟨w.heap.size + 1, 0, none⟩)) (W' := W) rfl rfl ?_ (hK _ _ (LKeep.refl _ _ _) rfl)
                go_simp
               | 9, hoi, hom =>
                have z15 : ao.tmps[15]?.getD undef = .int .i64 (x : Nat) := hU.same 15 (by decide)
                refine wpOp_value (v := .int .i64 (x : Nat)) (W' := W) rfl rfl ?_ (hK _ _ (LKeep.refl _ _ _) rfl)
                go_simp
               | 10, hoi, hom =>
                have l8 := haft _ rfl ⟨8, .data⟩ (by simp) rfl
                have s8 : ao.tmps[129]?.getD undef = .pointer (some ⟨w.heap.size + 1, 0, none⟩) := (hU.slot 8 (by decide) l8).trans (hpv 8 l8)
                refine wpOp_value (v := .pointer (some ⟨w.heap.size + 1, 0, none⟩)) (W' := W) rfl rfl ?_ (hK _ _ (LKeep.refl _ _ _) rfl)
                go_simp
               | 11, hoi, hom =>
                have l10 := haft _ rfl ⟨10, .data⟩ (by simp) rfl
                have s10 : ao.tmps[131]?.getD undef = .pointer (some ⟨w.heap.size + 1, 0, none⟩) := (hU.slot 10 (by decide) l10).trans (hpv 10 l10)
                refine wpOp_value (v := .pointer (some ⟨w.heap.size + 1, 2, none⟩)) (W' := W) rfl rfl ?_ (hK _ _ (LKeep.refl _ _ _) rfl)
                go_simp
               | 12, hoi, hom =>
                have l11 := haft _ rfl ⟨11, .data⟩ (by simp) rfl
                have s11 : ao.tmps[132]?.getD undef = .pointer (some ⟨w.heap.size + 1, 2, none⟩) := (hU.slot 11 (by decide) l11).trans (hpv 11 l11)
                have l9 := haft _ rfl ⟨9, .data⟩ (by simp) rfl
                have s9 : ao.tmps[130]?.getD undef = .int .i64 (x : Nat) := (hU.slot 9 (by decide) l9).trans (hpv 9 l9)
                refine wpOp_value (v := .pointer (some ⟨w.heap.size + 1, 2 + x * 2, none⟩)) (W' := W) rfl rfl ?_ (hK _ _ (LKeep.refl _ _ _) rfl)
                go_simp
               | 13, hoi, hom =>
                have l12 := haft _ rfl ⟨12, .data⟩ (by simp) rfl
                have s12 : ao.tmps[133]?.getD undef = .pointer (some ⟨w.heap.size + 1, 2 + x * 2, none⟩) := (hU.slot 12 (by decide) l12).trans (hpv 12 l12)
                refine wpOp_value (v := .pointer (some ⟨w.heap.size + 1, 2 + x * 2, none⟩)) (W' := W) rfl rfl ?_ (hK _ _ (LKeep.refl _ _ _) rfl)
                go_simp
               | 14, hoi, hom =>
                have l13 := haft _ rfl ⟨13, .data⟩ (by simp) rfl
                have s13 : ao.tmps[134]?.getD undef = .pointer (some ⟨w.heap.size + 1, 2 + x * 2, none⟩) := (hU.slot 13 (by decide) l13).trans (hpv 13 l13)
                have y0 := (hk.cell (b := w.heap.size + 1) (o := 2 + x * 2) (hzg) (fun h => h)).trans (kl)
                refine wpOp_value (v := .int .i64 sk.lo) (W' := W) rfl rfl ?_ (hK _ _ (LKeep.refl _ _ _) rfl)
                go_simp
               | 15, hoi, hom =>
                have l7 := haft _ rfl ⟨7, .data⟩ (by simp) rfl
                have s7 : ao.tmps[128]?.getD undef = .int .i64 so.lo := (hU.slot 7 (by decide) l7).trans (hpv 7 l7)
                have l14 := haft _ rfl ⟨14, .data⟩ (by simp) rfl
                have s14 : ao.tmps[135]?.getD undef = .int .i64 sk.lo := (hU.slot 14 (by decide) l14).trans (hpv 14 l14)
                refine wpOp_value (v := .int .i64 (wrap64 (so.lo - sk.lo))) (W' := W) rfl rfl ?_ (hK _ _ (LKeep.refl _ _ _) rfl)
                go_simp
                simp [wrap64, IntKind.wrap_i64]
               | 16, hoi, hom =>
                have z13 : ao.tmps[13]?.getD undef = .pointer (some ⟨V5.heap.size, 0, none⟩) := hU.same 13 (by decide)
                refine wpOp_value (v := .pointer (some ⟨V5.heap.size, 1, none⟩)) (W' := W) rfl rfl ?_ (hK _ _ (LKeep.refl _ _ _) rfl)
                go_simp
               | 17, hoi, hom =>
                have l16 := haft _ rfl ⟨16, .data⟩ (by simp) rfl
                have s16 : ao.tmps[137]?.getD undef = .pointer (some ⟨V5.heap.size, 1, none⟩) := (hU.slot 16 (by decide) l16).trans (hpv 16 l16)
                have y0 := (hk.cell (b := V5.heap.size) (o := 1) (hzo) (fun h => h)).trans (o1)
                refine wpOp_value (v := .int .i64 so.hi) (W' := W) rfl rfl ?_ (hK _ _ (LKeep.refl _ _ _) rfl)
                go_simp
               | 18, hoi, hom =>
                have z6 : ao.tmps[6]?.getD undef = .pointer (some ⟨w.heap.size + 1 + 1, 0, none⟩) := hU.same 6 (by decide)
                have y0 := (hk.cell (b := w.heap.size + 1 + 1) (o := 0) (hzp) (fun h => h)).trans (p0)
                refine wpOp_value (v := .pointer (some ⟨w.heap.size + 1, 0, none⟩)) (W' := W) rfl rfl ?_ (hK _ _ (LKeep.refl _ _ _) rfl)
                go_simp
               | 19, hoi, hom =>
                have z15 : ao.tmps[15]?.getD undef = .int .i64 (x : Nat) := hU.same 15 (by decide)
                refine wpOp_value (v := .int .i64 (x : Nat)) (W' := W) rfl rfl ?_ (hK _ _ (LKeep.refl _ _ _) rfl)
                go_simp
               | 20, hoi, hom =>
                have l18 := haft _ rfl ⟨18, .data⟩ (by simp) rfl
                have s18 : ao.tmps[139]?.getD undef = .pointer (some ⟨w.heap.size + 1, 0, none⟩) := (hU.slot 18 (by decide) l18).trans (hpv 18 l18)
                refine wpOp_value (v := .pointer (some ⟨w.heap.size + 1, 0, none⟩)) (W' := W) rfl rfl ?_ (hK _ _ (LKeep.refl _ _ _) rfl)
                go_simp
               | 21, hoi, hom =>
                have l20 := haft _ rfl ⟨20, .data⟩ (by simp) rfl
                have s20 : ao.tmps[141]?.getD undef = .pointer (some ⟨w.heap.size + 1, 0, none⟩) := (hU.slot 20 (by decide) l20).trans (hpv 20 l20)
                refine wpOp_value (v := .pointer (some ⟨w.heap.size + 1, 2, none⟩)) (W' := W) rfl rfl ?_ (hK _ _ (LKeep.refl _ _ _) rfl)
                go_simp
               | 22, hoi, hom =>
                have l21 := haft _ rfl ⟨21, .data⟩ (by simp) rfl
                have s21 : ao.tmps[142]?.getD undef = .pointer (some ⟨w.heap.size + 1, 2, none⟩) := (hU.slot 21 (by decide) l21).trans (hpv 21 l21)
                have l19 := haft _ rfl ⟨19, .data⟩ (by simp) rfl
                have s19 : ao.tmps[140]?.getD undef = .int .i64 (x : Nat) := (hU.slot 19 (by decide) l19).trans (hpv 19 l19)
                refine wpOp_value (v := .pointer (some ⟨w.heap.size + 1, 2 + x * 2, none⟩)) (W' := W) rfl rfl ?_ (hK _ _ (LKeep.refl _ _ _) rfl)
                go_simp
               | 23, hoi, hom =>
                have l22 := haft _ rfl ⟨22, .data⟩ (by simp) rfl
                have s22 : ao.tmps[143]?.getD undef = .pointer (some ⟨w.heap.size + 1, 2 + x * 2, none⟩) := (hU.slot 22 (by decide) l22).trans (hpv 22 l22)
                refine wpOp_value (v := .pointer (some ⟨w.heap.size + 1, 2 + x * 2 + 1, none⟩)) (W' := W) rfl rfl ?_ (hK _ _ (LKeep.refl _ _ _) rfl)
                go_simp
               | 24, hoi, hom =>
                have l23 := haft _ rfl ⟨23, .data⟩ (by simp) rfl
                have s23 : ao.tmps[144]?.getD undef = .pointer (some ⟨w.heap.size + 1, 2 + x * 2 + 1, none⟩) := (hU.slot 23 (by decide) l23).trans (hpv 23 l23)
                have y0 := (hk.cell (b := w.heap.size + 1) (o := 2 + x * 2 + 1) (hzg) (fun h => h)).trans (kh)
                refine wpOp_value (v := .int .i64 sk.hi) (W' := W) rfl rfl ?_ (hK _ _ (LKeep.refl _ _ _) rfl)
                go_simp
               | 25, hoi, hom =>
                have l17 := haft _ rfl ⟨17, .data⟩ (by simp) rfl
                have s17 : ao.tmps[138]?.getD undef = .int .i64 so.hi := (hU.slot 17 (by decide) l17).trans (hpv 17 l17)
                have l24 := haft _ rfl ⟨24, .data⟩ (by simp) rfl
                have s24 : ao.tmps[145]?.getD undef = .int .i64 sk.hi := (hU.slot 24 (by decide) l24).trans (hpv 24 l24)
                refine wpOp_value (v := .int .i64 (wrap64 (so.hi - sk.hi))) (W' := W) rfl rfl ?_ (hK _ _ (LKeep.refl _ _ _) rfl)
                go_simp
                simp [wrap64, IntKind.wrap_i64]
               | 26, hoi, hom =>
                have l15 := haft _ rfl ⟨15, .data⟩ (by simp) rfl
                have s15 : ao.tmps[136]?.getD undef = .int .i64 (wrap64 (so.lo - sk.lo)) := (hU.slot 15 (by decide) l15).trans (hpv 15 l15)
                have l25 := haft _ rfl ⟨25, .data⟩ (by simp) rfl
                have s25 : ao.tmps[146]?.getD undef = .int .i64 (wrap64 (so.hi - sk.hi)) := (hU.slot 25 (by decide) l25).trans (hpv 25 l25)
                refine wpOp_value (v := spanVal (⟨wrap64 (so.lo - sk.lo), wrap64 (so.hi - sk.hi)⟩ : Span)) (W' := W) rfl rfl ?_ (hK _ _ (LKeep.refl _ _ _) rfl)
                go_simp
               | 27, hoi, hom =>
                have z12 : ao.tmps[12]?.getD undef = .pointer (some ⟨V4.heap.size + 1, 0, none⟩) := hU.same 12 (by decide)
                refine wpOp_value (v := .pointer (some ⟨V4.heap.size + 1, 2, none⟩)) (W' := W) rfl rfl ?_ (hK _ _ (LKeep.refl _ _ _) rfl)
                go_simp
               | 28, hoi, hom =>
                have l27 := haft _ rfl ⟨27, .data⟩ (by simp) rfl
                have s27 : ao.tmps[148]?.getD undef = .pointer (some ⟨V4.heap.size + 1, 2, none⟩) := (hU.slot 27 (by decide) l27).trans (hpv 27 l27)
                have y0 := (hk.cell (b := V4.heap.size + 1) (o := 2) (hzs) (fun h => h)).trans (l0)
                refine wpOp_value (v := .int .i64 ls) (W' := W) rfl rfl ?_ (hK _ _ (LKeep.refl _ _ _) rfl)
                go_simp
               | 29, hoi, hom =>
                have l28 := haft _ rfl ⟨28, .data⟩ (by simp) rfl
                have s28 : ao.tmps[149]?.getD undef = .int .i64 ls := (hU.slot 28 (by decide) l28).trans (hpv 28 l28)
                refine wpOp_enter (f := 103) (args := #[.int .i64 ls]) (W' := W) rfl rfl ?_ ((upTo_any ls W).mono (fun e w'' h => ?_))
                · go_simp
                · obtain ⟨he, hbw⟩ := h
                  exact ⟨_, he, hK _ _ (LKeep.below hbw (fun h => h)) rfl⟩
               | 30, hoi, hom =>
                have l26 := haft _ rfl ⟨26, .data⟩ (by simp) rfl
                have s26 : ao.tmps[147]?.getD undef = spanVal (⟨wrap64 (so.lo - sk.lo), wrap64 (so.hi - sk.hi)⟩ : Span) := (hU.slot 26 (by decide) l26).trans (hpv 26 l26)
                have l29 := haft _ rfl ⟨29, .data⟩ (by simp) rfl
                have s29 : ao.tmps[150]?.getD undef = spanVal ⟨0, ls⟩ := (hU.slot 29 (by decide) l29).trans (hpv 29 l29)
                refine wpOp_enter (f := 105) (args := #[spanVal (⟨wrap64 (so.lo - sk.lo), wrap64 (so.hi - sk.hi)⟩ : Span), spanVal ⟨0, ls⟩]) (W' := W) rfl rfl ?_ ((plus_any (⟨wrap64 (so.lo - sk.lo), wrap64 (so.hi - sk.hi)⟩ : Span) ⟨0, ls⟩ W).mono (fun e w'' h => ?_))
                · go_simp
                · obtain ⟨he, hbw⟩ := h
                  exact ⟨_, he, hK _ _ (LKeep.below hbw (fun h => h)) rfl⟩
               | 31, hoi, hom =>
                have l5 := haft _ rfl ⟨5, .data⟩ (by simp) rfl
                have s5 : ao.tmps[126]?.getD undef = spanVal si := (hU.slot 5 (by decide) l5).trans (hpv 5 l5)
                have l30 := haft _ rfl ⟨30, .data⟩ (by simp) rfl
                have s30 : ao.tmps[151]?.getD undef = spanVal (plusW (⟨wrap64 (so.lo - sk.lo), wrap64 (so.hi - sk.hi)⟩ : Span) ⟨0, ls⟩) := (hU.slot 30 (by decide) l30).trans (hpv 30 l30)
                refine wpOp_enter (f := 102) (args := #[spanVal si, spanVal (plusW (⟨wrap64 (so.lo - sk.lo), wrap64 (so.hi - sk.hi)⟩ : Span) ⟨0, ls⟩)]) (W' := W) rfl rfl ?_ ((minus_any si (plusW (⟨wrap64 (so.lo - sk.lo), wrap64 (so.hi - sk.hi)⟩ : Span) ⟨0, ls⟩) W).mono (fun e w'' h => ?_))
                · go_simp
                · obtain ⟨he, hbw⟩ := h
                  exact ⟨_, he, hK _ _ (LKeep.below hbw (fun h => h)) rfl⟩
               | 32, hoi, hom =>
                refine wpOp_value (v := .pointer (some ⟨W.heap.size, 0, none⟩)) (W' := (W.alloc (.cells #[.int .i64 0, .int .i64 0] 30))) rfl rfl ?_ (hK _ _ (LKeep.below ((Below.refl _ _).alloc (Nat.le_refl _) _) (fun h => h)) ⟨_, 0, rfl, ⟨Blk.made, hk.size⟩⟩)
                go_simp
               | oi + 33, hoi, hom => exact absurd (of_decide_eq_true hom) (by omega)
              case hend30 =>
               intro listed vs ao W hG hk0 hpv hpre
               have hkk := (LKeep.drew (fun _ => False) (M := fun _ => True) X3 (fun h => h)).trans hk0
               have hk := hkk.1
               have hkm := hkk.2
               clear hkk
               have hact := hG.act
               have hT := hG.lst hpre 0 #[true, true, true, true, true, true, true, true, true, true, true, true, true, true, true, true, true, true, true, true, true, true, true, true, true, true, true, true, true, true, true, true, true, false] rfl (by kernel_rfl) (hpre 0 (by decide) (by decide))
               rw [hG.ix hT (l := [0, 1, 2, 3, 4, 5, 6, 7, 8, 9, 10, 11, 12, 13, 14, 15, 16, 17, 18, 19, 20, 21, 22, 23, 24, 25, 26, 27, 28, 29, 30, 31, 32]) (by kernel_rfl)] at hact
               rw [hG.lo hT (k := 1) (by kernel_rfl)]
               have hv0 : vs 0 = .pointer (some ⟨w.heap.size + 1, 0, none⟩) := hpv 0 (hpre 0 (by decide) (by decide))
               have hv1 : vs 1 = .int .i64 (i : Nat) := hpv 1 (hpre 1 (by decide) (by decide))
               have hv2 : vs 2 = .pointer (some ⟨w.heap.size + 1, 0, none⟩) := hpv 2 (hpre 2 (by decide) (by decide))
               have hv3 : vs 3 = .pointer (some ⟨w.heap.size + 1, 2, none⟩) := hpv 3 (hpre 3 (by decide) (by decide))
               have hv4 : vs 4 = .pointer (some ⟨w.heap.size + 1, 2 + i * 2, none⟩) := hpv 4 (hpre 4 (by decide) (by decide))
               have hv5 : vs 5 = spanVal si := hpv 5 (hpre 5 (by decide) (by decide))
               have hv6 : vs 6 = .pointer (some ⟨V5.heap.size, 0, none⟩) := hpv 6 (hpre 6 (by decide) (by decide))
               have hv7 : vs 7 = .int .i64 so.lo := hpv 7 (hpre 7 (by decide) (by decide))
               have hv8 : vs 8 = .pointer (some ⟨w.heap.size + 1, 0, none⟩) := hpv 8 (hpre 8 (by decide) (by decide))
               have hv9 : vs 9 = .int .i64 (x : Nat) := hpv 9 (hpre 9 (by decide) (by decide))
               have hv10 : vs 10 = .pointer (some ⟨w.heap.size + 1, 0, none⟩) := hpv 10 (hpre 10 (by decide) (by decide))
               have hv11 : vs 11 = .pointer (some ⟨w.heap.size + 1, 2, none⟩) := hpv 11 (hpre 11 (by decide) (by decide))
               have hv12 : vs 12 = .pointer (some ⟨w.heap.size + 1, 2 + x * 2, none⟩) := hpv 12 (hpre 12 (by decide) (by decide))
               have hv13 : vs 13 = .pointer (some ⟨w.heap.size + 1, 2 + x * 2, none⟩) := hpv 13 (hpre 13 (by decide) (by decide))
               have hv14 : vs 14 = .int .i64 sk.lo := hpv 14 (hpre 14 (by decide) (by decide))
               have hv15 : vs 15 = .int .i64 (wrap64 (so.lo - sk.lo)) := hpv 15 (hpre 15 (by decide) (by decide))
               have hv16 : vs 16 = .pointer (some ⟨V5.heap.size, 1, none⟩) := hpv 16 (hpre 16 (by decide) (by decide))
               have hv17 : vs 17 = .int .i64 so.hi := hpv 17 (hpre 17 (by decide) (by decide))
               have hv18 : vs 18 = .pointer (some ⟨w.heap.size + 1, 0, none⟩) := hpv 18 (hpre 18 (by decide) (by decide))
               have hv19 : vs 19 = .int .i64 (x : Nat) := hpv 19 (hpre 19 (by decide) (by decide))
               have hv20 : vs 20 = .pointer (some ⟨w.heap.size + 1, 0, none⟩) := hpv 20 (hpre 20 (by decide) (by decide))
               have hv21 : vs 21 = .pointer (some ⟨w.heap.size + 1, 2, none⟩) := hpv 21 (hpre 21 (by decide) (by decide))
               have hv22 : vs 22 = .pointer (some ⟨w.heap.size + 1, 2 + x * 2, none⟩) := hpv 22 (hpre 22 (by decide) (by decide))
               have hv23 : vs 23 = .pointer (some ⟨w.heap.size + 1, 2 + x * 2 + 1, none⟩) := hpv 23 (hpre 23 (by decide) (by decide))
               have hv24 : vs 24 = .int .i64 sk.hi := hpv 24 (hpre 24 (by decide) (by decide))
               have hv25 : vs 25 = .int .i64 (wrap64 (so.hi - sk.hi)) := hpv 25 (hpre 25 (by decide) (by decide))
               have hv26 : vs 26 = spanVal (⟨wrap64 (so.lo - sk.lo), wrap64 (so.hi - sk.hi)⟩ : Span) := hpv 26 (hpre 26 (by decide) (by decide))
               have hv27 : vs 27 = .pointer (some ⟨V4.heap.size + 1, 2, none⟩) := hpv 27 (hpre 27 (by decide) (by decide))
               have hv28 : vs 28 = .int .i64 ls := hpv 28 (hpre 28 (by decide) (by decide))
               have hv29 : vs 29 = spanVal ⟨0, ls⟩ := hpv 29 (hpre 29 (by decide) (by decide))
               have hv30 : vs 30 = spanVal (plusW (⟨wrap64 (so.lo - sk.lo), wrap64 (so.hi - sk.hi)⟩ : Span) ⟨0, ls⟩) := hpv 30 (hpre 30 (by decide) (by decide))
               have hv31 : vs 31 = spanVal (lessW si (plusW (⟨wrap64 (so.lo - sk.lo), wrap64 (so.hi - sk.hi)⟩ : Span) ⟨0, ls⟩)) := hpv 31 (hpre 31 (by decide) (by decide))
               obtain ⟨gl32, cp32, hv32, hi32⟩ := hpv 32 (hpre 32 (by decide) (by decide))
               clear hpv hpre hG hk0
               obtain rfl : ao = _ := hact
               subst hT
               simp only [setAll, List.setIfInBounds_toArray, List.set_cons_succ, List.set_cons_zero, List.getD_cons_succ, List.getD_cons_zero]
               simp only [hv0, hv1, hv2, hv3, hv4, hv5, hv6, hv7, hv8, hv9, hv10, hv11, hv12, hv13, hv14, hv15, hv16, hv17, hv18, hv19, hv20, hv21, hv22, hv23, hv24, hv25, hv26, hv27, hv28, hv29, hv30, hv31, hv32]
               clear hv0 hv1 hv2 hv3 hv4 hv5 hv6 hv7 hv8 hv9 hv10 hv11 hv12 hv13 hv14 hv15 hv16 hv17 hv18 hv19 hv20 hv21 hv22 hv23 hv24 hv25 hv26 hv27 hv28 hv29 hv30 hv31 hv32
               have n9 := hi32.k
               have c0 := n9.at_ 0
               have c1 := n9.at_ 1
               have f0 := n9.free 0
               have f1 := n9.free 1
               simp only [List.getElem?_toArray, List.getElem?_cons_zero, List.getElem?_cons_succ] at c0 c1
               refine wpAny_all (rs := [33]) (by kernel_rfl) (by simp) ?_
               intro i2 hi2
               obtain rfl : i2 = 33 := by simpa using hi2
               refine wpOp_skip (W' := (W.setCell ⟨gl32, 0, none⟩ (.int .i64 (lessW si (plusW (⟨wrap64 (so.lo - sk.lo), wrap64 (so.hi - sk.hi)⟩ : Span) ⟨0, ls⟩)).lo)).setCell ⟨gl32, 1, none⟩ (.int .i64 (lessW si (plusW (⟨wrap64 (so.lo - sk.lo), wrap64 (so.hi - sk.hi)⟩ : Span) ⟨0, ls⟩)).hi)) rfl rfl ?_ ?_
               · go_simp
               refine wpAny_done (by kernel_rfl) ?_ _
               have b2 : Blk ((W.setCell ⟨gl32, 0, none⟩ (.int .i64 (lessW si (plusW (⟨wrap64 (so.lo - sk.lo), wrap64 (so.hi - sk.hi)⟩ : Span) ⟨0, ls⟩)).lo)).setCell ⟨gl32, 1, none⟩ (.int .i64 (lessW si (plusW (⟨wrap64 (so.lo - sk.lo), wrap64 (so.hi - sk.hi)⟩ : Span) ⟨0, ls⟩)).hi)) (gl32) 30 #[.int .i64 (lessW si (plusW (⟨wrap64 (so.lo - sk.lo), wrap64 (so.hi - sk.hi)⟩ : Span) ⟨0, ls⟩)).lo, .int .i64 (lessW si (plusW (⟨wrap64 (so.lo - sk.lo), wrap64 (so.hi - sk.hi)⟩ : Span) ⟨0, ls⟩)).hi] := (n9.store 0 _).store 1 _
               have hs : Keep (fun q => q = gl32) W ((W.setCell ⟨gl32, 0, none⟩ (.int .i64 (lessW si (plusW (⟨wrap64 (so.lo - sk.lo), wrap64 (so.hi - sk.hi)⟩ : Span) ⟨0, ls⟩)).lo)).setCell ⟨gl32, 1, none⟩ (.int .i64 (lessW si (plusW (⟨wrap64 (so.lo - sk.lo), wrap64 (so.hi - sk.hi)⟩ : Span) ⟨0, ls⟩)).hi)) := (Keep.setCell _ _ _ (fun q => q = gl32) rfl).trans (Keep.setCell _ _ _ (fun q => q = gl32) rfl)
               clear n9 c0 c1 f0 f1
               generalize (W.setCell ⟨gl32, 0, none⟩ (.int .i64 (lessW si (plusW (⟨wrap64 (so.lo - sk.lo), wrap64 (so.hi - sk.hi)⟩ : Span) ⟨0, ls⟩)).lo)).setCell ⟨gl32, 1, none⟩ (.int .i64 (lessW si (plusW (⟨wrap64 (so.lo - sk.lo), wrap64 (so.hi - sk.hi)⟩ : Span) ⟨0, ls⟩)).hi) = X4 at *
               have hge := hi32.ge
               have hL := (HL.out.keep hk (fun k h => h.elim)).keep hs (fun k h => by omega)
               have hO := (HO.out.keep hk (fun h => h)).keep hs (by omega)
               have hI := (HI.out.keep hk (fun h => h)).keep hs (by omega)
               have hS := (HS.out.keep hk (fun h => h)).keep hs (by omega)
               have hZ := (HZ.out.keep hk (fun h => h)).keep hs (by omega)
               have hC : Keep (fun k => k = w.heap.size + 1 ∨ k = V5.heap.size) X3 X4 := (hk.mono (S' := fun k => k = w.heap.size + 1 ∨ k = V5.heap.size) (fun k _ h => h.elim)).trans' (hs.mono (fun k _ h => by omega)) hk.size
               clear hk hkm hs hi32 p0 i0 sl sh kl kh o0 o1 l0 hzi hzs hzo hzp hzg HL HO HI HS HZ
               generalize gl32 = zr at *
               have HL := hide hL
               have HO := hide hO
               have HI := hide hI
               have HS := hide hS
               have HZ := hide hZ
               have HR := hide b2
               have HC := hide hC
               clear hL hO hI hS hZ b2 hC
               have hzr := HR.out.lt
               have hzX := HC.out.size
               have p0 := HL.out.p.at_ 0
               have o0 := HO.out.at_ 0
               have o1 := HO.out.at_ 1
               simp only [List.getElem?_toArray, List.getElem?_cons_zero, List.getElem?_cons_succ] at p0 o0 o1
               have kl := HL.out.l.at_lo hx6
               have kh := HL.out.l.at_hi hx6
               have hzp := HL.out.p.lt
               have hzg := HL.out.l.k.lt
               have hzo := HO.out.lt
               rw [HSK2.out] at kl kh
               gi_wp2_with fail
               refine wpIn_round_rel4 (dst := fun oi => [153, 154, 155, 156, 157, 158, 159, 160, 161, 162, 163, 164, 165, 166, 167, 168, 169, 170, 171, 172, 173, 0].getD oi 0) (mono := fun oi => decide (oi < 21)) (pre := fun oi => decide (oi < 21)) (R := LKeep (fun _ => False) (fun _ => True))
                (Pv := fun oi v W => match oi with
                 | 0 => v = .pointer (some ⟨V5.heap.size, 0, none⟩)
                 | 1 => v = .int .i64 so.lo
                 | 2 => v = .pointer (some ⟨w.heap.size + 1, 0, none⟩)
                 | 3 => v = .int .i64 (x : Nat)
                 | 4 => v = .pointer (some ⟨w.heap.size + 1, 0, none⟩)
                 | 5 => v = .pointer (some ⟨w.heap.size + 1, 2, none⟩)
                 | 6 => v = .pointer (some ⟨w.heap.size + 1, 2 + x * 2, none⟩)
                 | 7 => v = .pointer (some ⟨w.heap.size + 1, 2 + x * 2, none⟩)
                 | 8 => v = .int .i64 sk.lo
                 | 9 => v = .int .i64 (wrap64 (so.lo - sk.lo))
                 | 10 => v = .pointer (some ⟨V5.heap.size, 1, none⟩)
                 | 11 => v = .int .i64 so.hi
                 | 12 => v = .pointer (some ⟨w.heap.size + 1, 0, none⟩)
                 | 13 => v = .int .i64 (x : Nat)
                 | 14 => v = .pointer (some ⟨w.heap.size + 1, 0, none⟩)
                 | 15 => v = .pointer (some ⟨w.heap.size + 1, 2, none⟩)
                 | 16 => v = .pointer (some ⟨w.heap.size + 1, 2 + x * 2, none⟩)
                 | 17 => v = .pointer (some ⟨w.heap.size + 1, 2 + x * 2 + 1, none⟩)
                 | 18 => v = .int .i64 sk.hi
                 | 19 => v = .int .i64 (wrap64 (so.hi - sk.hi))
                 | 20 => v = spanVal (⟨wrap64 (so.lo - sk.lo), wrap64 (so.hi - sk.hi)⟩ : Span)
                 | _ => True) (by kernel_rfl) (by kernel_rfl) (by rintro ⟨_, _, h⟩; exact h) (by kernel_rfl) (LKeep.refl _ _) (fun _ _ _ h h' => h.trans h') ?hst ?hstep ?hend
               case hst =>
                intro oi v W W' h hk
                match oi, h with
                | 0, h => exact h
                | 1, h => exact h
                | 2, h => exact h
                | 3, h => exact h
                | 4, h => exact h
                | 5, h => exact h
                | 6, h => exact h
                | 7, h => exact h
                | 8, h => exact h
                | 9, h => exact h
                | 10, h => exact h
                | 11, h => exact h
                | 12, h => exact h
                | 13, h => exact h
                | 14, h => exact h
                | 15, h => exact h
                | 16, h => exact h
                | 17, h => exact h
                | 18, h => exact h
                | 19, h => exact h
                | 20, h => exact h
                | oi + 21, h => exact trivial
               case hstep =>
                intro oi hoi hom listed vs ao W hU hk0 hpv haft Ko hK
                have hkk := (LKeep.drew (fun _ => False) (M := fun _ => True) X4 (fun h => h)).trans hk0
                have hk := hkk.1
                have hkm := hkk.2
                clear hkk
                match oi, hoi, hom with
                | 0, hoi, hom =>
                 have z13 : ao.tmps[13]?.getD undef = .pointer (some ⟨V5.heap.size, 0, none⟩) := hU.same 13 (by decide)
                 refine wpOp_value (v := .pointer (some ⟨V5.heap.size, 0, none⟩)) (W' := W) rfl rfl ?_ (hK _ _ (LKeep.refl _ _ _) rfl)
                 go_simp
                | 1, hoi, hom =>
                 have l0 := haft _ rfl ⟨0, .data⟩ (by simp) rfl
                 have s0 : ao.tmps[153]?.getD undef = .pointer (some ⟨V5.heap.size, 0, none⟩) := (hU.slot 0 (by decide) l0).trans (hpv 0 l0)
                 have y0 := (hk.cell (b := V5.heap.size) (o := 0) (hzo) (fun h => h)).trans (o0)
                 refine wpOp_value (v := .int .i64 so.lo) (W' := W) rfl rfl ?_ (hK _ _ (LKeep.refl _ _ _) rfl)
                 go_simp
                | 2, hoi, hom =>
                 have z6 : ao.tmps[6]?.getD undef = .pointer (some ⟨w.heap.size + 1 + 1, 0, none⟩) := hU.same 6 (by decide)
                 have y0 := (hk.cell (b := w.heap.size + 1 + 1) (o := 0) (hzp) (fun h => h)).trans (p0)
                 refine wpOp_value (v := .pointer (some ⟨w.heap.size + 1, 0, none⟩)) (W' := W) rfl rfl ?_ (hK _ _ (LKeep.refl _ _ _) rfl)
                 go_simp
                | 3, hoi, hom =>
                 have z15 : ao.tmps[15]?.getD undef = .int .i64 (x : Nat) := hU.same 15 (by decide)
                 refine wpOp_value (v := .int .i64 (x : Nat)) (W' := W) rfl rfl ?_ (hK _ _ (LKeep.refl _ _ _) rfl)
                 go_simp
                | 4, hoi, hom =>
                 have l2 := haft _ rfl ⟨2, .data⟩ (by simp) rfl
                 have s2 : ao.tmps[155]?.getD undef = .pointer (some ⟨w.heap.size + 1, 0, none⟩) := (hU.slot 2 (by decide) l2).trans (hpv 2 l2)
                 refine wpOp_value (v := .pointer (some ⟨w.heap.size + 1, 0, none⟩)) (W' := W) rfl rfl ?_ (hK _ _ (LKeep.refl _ _ _) rfl)
                 go_simp
                | 5, hoi, hom =>
                 have l4 := haft _ rfl ⟨4, .data⟩ (by simp) rfl
                 have s4 : ao.tmps[157]?.getD undef = .pointer (some ⟨w.heap.size + 1, 0, none⟩) := (hU.slot 4 (by decide) l4).trans (hpv 4 l4)
                 refine wpOp_value (v := .pointer (some ⟨w.heap.size + 1, 2, none⟩)) (W' := W) rfl rfl ?_ (hK _ _ (LKeep.refl _ _ _) rfl)
                 go_simp
                | 6, hoi, hom =>
                 have l5 := haft _ rfl ⟨5, .data⟩ (by simp) rfl
                 have s5 : ao.tmps[158]?.getD undef = .pointer (some ⟨w.heap.size + 1, 2, none⟩) := (hU.slot 5 (by decide) l5).trans (hpv 5 l5)
                 have l3 := haft _ rfl ⟨3, .data⟩ (by simp) rfl
                 have s3 : ao.tmps[156]?.getD undef = .int .i64 (x : Nat) := (hU.slot 3 (by decide) l3).trans (hpv 3 l3)
                 refine wpOp_value (v := .pointer (some ⟨w.heap.size + 1, 2 + x * 2, none⟩)) (W' := W) rfl rfl ?_ (hK _ _ (LKeep.refl _ _ _) rfl)
                 go_simp
                | 7, hoi, hom =>
                 have l6 := haft _ rfl ⟨6, .data⟩ (by simp) rfl
                 have s6 : ao.tmps[159]?.getD undef = .pointer (some ⟨w.heap.size + 1, 2 + x * 2, none⟩) := (hU.slot 6 (by decide) l6).trans (hpv 6 l6)
                 refine wpOp_value (v := .pointer (some ⟨w.heap.size + 1, 2 + x * 2, none⟩)) (W' := W) rfl rfl ?_ (hK _ _ (LKeep.refl _ _ _) rfl)
                 go_simp
                | 8, hoi, hom =>
                 have l7 := haft _ rfl ⟨7, .data⟩ (by simp) rfl
                 have s7 : ao.tmps[160]?.getD undef = .pointer (some ⟨w.heap.size + 1, 2 + x * 2, none⟩) := (hU.slot 7 (by decide) l7).trans (hpv 7 l7)
                 have y0 := (hk.cell (b := w.heap.size + 1) (o := 2 + x * 2) (hzg) (fun h => h)).trans (kl)
                 refine wpOp_value (v := .int .i64 sk.lo) (W' := W) rfl rfl ?_ (hK _ _ (LKeep.refl _ _ _) rfl)
                 go_simp
                | 9, hoi, hom =>
                 have l1 := haft _ rfl ⟨1, .data⟩ (by simp) rfl
                 have s1 : ao.tmps[154]?.getD undef = .int .i64 so.lo := (hU.slot 1 (by decide) l1).trans (hpv 1 l1)
                 have l8 := haft _ rfl ⟨8, .data⟩ (by simp) rfl
                 have s8 : ao.tmps[161]?.getD undef = .int .i64 sk.lo := (hU.slot 8 (by decide) l8).trans (hpv 8 l8)
                 refine wpOp_value (v := .int .i64 (wrap64 (so.lo - sk.lo))) (W' := W) rfl rfl ?_ (hK _ _ (LKeep.refl _ _ _) rfl)
                 go_simp
                 simp [wrap64, IntKind.wrap_i64]
                | 10, hoi, hom =>
                 have z13 : ao.tmps[13]?.getD undef = .pointer (some ⟨V5.heap.size, 0, none⟩) := hU.same 13 (by decide)
                 refine wpOp_value (v := .pointer (some ⟨V5.heap.size, 1, none⟩)) (W' := W) rfl rfl ?_ (hK _ _ (LKeep.refl _ _ _) rfl)
                 go_simp
                | 11, hoi, hom =>
                 have l10 := haft _ rfl ⟨10, .data⟩ (by simp) rfl
                 have s10 : ao.tmps[163]?.getD undef = .pointer (some ⟨V5.heap.size, 1, none⟩) := (hU.slot 10 (by decide) l10).trans (hpv 10 l10)
                 have y0 := (hk.cell (b := V5.heap.size) (o := 1) (hzo) (fun h => h)).trans (o1)
                 refine wpOp_value (v := .int .i64 so.hi) (W' := W) rfl rfl ?_ (hK _ _ (LKeep.refl _ _ _) rfl)
                 go_simp
                | 12, hoi, hom =>
                 have z6 : ao.tmps[6]?.getD undef = .pointer (some ⟨w.heap.size + 1 + 1, 0, none⟩) := hU.same 6 (by decide)
                 have y0 := (hk.cell (b := w.heap.size + 1 + 1) (o := 0) (hzp) (fun h => h)).trans (p0)
                 refine wpOp_value (v := .pointer (some ⟨w.heap.size + 1, 0, none⟩)) (W' := W) rfl rfl ?_ (hK _ _ (LKeep.refl _ _ _) rfl)
                 go_simp
                | 13, hoi, hom =>
                 have z15 : ao.tmps[15]?.getD undef = .int .i64 (x : Nat) := hU.same 15 (by decide)
                 refine wpOp_value (v := .int .i64 (x : Nat)) (W' := W) rfl rfl ?_ (hK _ _ (LKeep.refl _ _ _) rfl)
                 go_simp
                | 14, hoi, hom =>
                 have l12 := haft _ rfl ⟨12, .data⟩ (by simp) rfl
                 have s12 : ao.tmps[165]?.getD undef = .pointer (some ⟨w.heap.size + 1, 0, none⟩) := (hU.slot 12 (by decide) l12).trans (hpv 12 l12)
                 refine wpOp_value (v := .pointer (some ⟨w.heap.size + 1, 0, none⟩)) (W' := W) rfl rfl ?_ (hK _ _ (LKeep.refl _ _ _) rfl)
                 go_simp
                | 15, hoi, hom =>
                 have l14 := haft _ rfl ⟨14, .data⟩ (by simp) rfl
                 have s14 : ao.tmps[167]?.getD undef = .pointer (some ⟨w.heap.size + 1, 0, none⟩) := (hU.slot 14 (by decide) l14).trans (hpv 14 l14)
                 refine wpOp_value (v := .pointer (some ⟨w.heap.size + 1, 2, none⟩)) (W' := W) rfl rfl ?_ (hK _ _ (LKeep.refl _ _ _) rfl)
                 go_simp
                | 16, hoi, hom =>
                 have l15 := haft _ rfl ⟨15, .data⟩ (by simp) rfl
                 have s15 : ao.tmps[168]?.getD undef = .pointer (some ⟨w.heap.size + 1, 2, none⟩) := (hU.slot 15 (by decide) l15).trans (hpv 15 l15)
                 have l13 := haft _ rfl ⟨13, .data⟩ (by simp) rfl
                 have s13 : ao.tmps[166]?.getD undef = .int .i64 (x : Nat) := (hU.slot 13 (by decide) l13).trans (hpv 13 l13)
                 refine wpOp_value (v := .pointer (some ⟨w.heap.size + 1, 2 + x * 2, none⟩)) (W' := W) rfl rfl ?_ (hK _ _ (LKeep.refl _ _ _) rfl)
                 go_simp
                | 17, hoi, hom =>
                 have l16 := haft _ rfl ⟨16, .data⟩ (by simp) rfl
                 have s16 : ao.tmps[169]?.getD undef = .pointer (some ⟨w.heap.size + 1, 2 + x * 2, none⟩) := (hU.slot 16 (by decide) l16).trans (hpv 16 l16)
                 refine wpOp_value (v := .pointer (some ⟨w.heap.size + 1, 2 + x * 2 + 1, none⟩)) (W' := W) rfl rfl ?_ (hK _ _ (LKeep.refl _ _ _) rfl)
                 go_simp
                | 18, hoi, hom =>
                 have l17 := haft _ rfl ⟨17, .data⟩ (by simp) rfl
                 have s17 : ao.tmps[170]?.getD undef = .pointer (some ⟨w.heap.size + 1, 2 + x * 2 + 1, none⟩) := (hU.slot 17 (by decide) l17).trans (hpv 17 l17)
                 have y0 := (hk.cell (b := w.heap.size + 1) (o := 2 + x * 2 + 1) (hzg) (fun h => h)).trans (kh)
                 refine wpOp_value (v := .int .i64 sk.hi) (W' := W) rfl rfl ?_ (hK _ _ (LKeep.refl _ _ _) rfl)
                 go_simp
                | 19, hoi, hom =>
                 have l11 := haft _ rfl ⟨11, .data⟩ (by simp) rfl
                 have s11 : ao.tmps[164]?.getD undef = .int .i64 so.hi := (hU.slot 11 (by decide) l11).trans (hpv 11 l11)
                 have l18 := haft _ rfl ⟨18, .data⟩ (by simp) rfl
                 have s18 : ao.tmps[171]?.getD undef = .int .i64 sk.hi := (hU.slot 18 (by decide) l18).trans (hpv 18 l18)
                 refine wpOp_value (v := .int .i64 (wrap64 (so.hi - sk.hi))) (W' := W) rfl rfl ?_ (hK _ _ (LKeep.refl _ _ _) rfl)
                 go_simp
                 simp [wrap64, IntKind.wrap_i64]
                | 20, hoi, hom =>
                 have l9 := haft _ rfl ⟨9, .data⟩ (by simp) rfl
                 have s9 : ao.tmps[162]?.getD undef = .int .i64 (wrap64 (so.lo - sk.lo)) := (hU.slot 9 (by decide) l9).trans (hpv 9 l9)
                 have l19 := haft _ rfl ⟨19, .data⟩ (by simp) rfl
                 have s19 : ao.tmps[172]?.getD undef = .int .i64 (wrap64 (so.hi - sk.hi)) := (hU.slot 19 (by decide) l19).trans (hpv 19 l19)
                 refine wpOp_value (v := spanVal (⟨wrap64 (so.lo - sk.lo), wrap64 (so.hi - sk.hi)⟩ : Span)) (W' := W) rfl rfl ?_ (hK _ _ (LKeep.refl _ _ _) rfl)
                 go_simp
                | oi + 21, hoi, hom => exact absurd (of_decide_eq_true hom) (by omega)
               case hend =>
                intro listed vs ao W hG hk0 hpv hpre
                have hkk := (LKeep.drew (fun _ => False) (M := fun _ => True) X4 (fun h => h)).trans hk0
                have hk := hkk.1
                have hkm := hkk.2
                clear hkk
                have hact := hG.act
                have hT := hG.lst hpre 0 #[true, true, true, true, true, true, true, true, true, true, true, true, true, true, true, true, true, true, true, true, true, false] rfl (by kernel_rfl) (hpre 0 (by decide) (by decide))
                rw [hG.ix hT (l := [0, 1, 2, 3, 4, 5, 6, 7, 8, 9, 10, 11, 12, 13, 14, 15, 16, 17, 18, 19, 20]) (by kernel_rfl)] at hact
                rw [hG.lo hT (k := 1) (by kernel_rfl)]
                have hv0 : vs 0 = .pointer (some ⟨V5.heap.size, 0, none⟩) := hpv 0 (hpre 0 (by decide) (by decide))
                have hv1 : vs 1 = .int .i64 so.lo := hpv 1 (hpre 1 (by decide) (by decide))
                have hv2 : vs 2 = .pointer (some ⟨w.heap.size + 1, 0, none⟩) := hpv 2 (hpre 2 (by decide) (by decide))
                have hv3 : vs 3 = .int .i64 (x : Nat) := hpv 3 (hpre 3 (by decide) (by decide))
                have hv4 : vs 4 = .pointer (some ⟨w.heap.size + 1, 0, none⟩) := hpv 4 (hpre 4 (by decide) (by decide))
                have hv5 : vs 5 = .pointer (some ⟨w.heap.size + 1, 2, none⟩) := hpv 5 (hpre 5 (by decide) (by decide))
                have hv6 : vs 6 = .pointer (some ⟨w.heap.size + 1, 2 + x * 2, none⟩) := hpv 6 (hpre 6 (by decide) (by decide))
                have hv7 : vs 7 = .pointer (some ⟨w.heap.size + 1, 2 + x * 2, none⟩) := hpv 7 (hpre 7 (by decide) (by decide))
                have hv8 : vs 8 = .int .i64 sk.lo := hpv 8 (hpre 8 (by decide) (by decide))
                have hv9 : vs 9 = .int .i64 (wrap64 (so.lo - sk.lo)) := hpv 9 (hpre 9 (by decide) (by decide))
                have hv10 : vs 10 = .pointer (some ⟨V5.heap.size, 1, none⟩) := hpv 10 (hpre 10 (by decide) (by decide))
                have hv11 : vs 11 = .int .i64 so.hi := hpv 11 (hpre 11 (by decide) (by decide))
                have hv12 : vs 12 = .pointer (some ⟨w.heap.size + 1, 0, none⟩) := hpv 12 (hpre 12 (by decide) (by decide))
                have hv13 : vs 13 = .int .i64 (x : Nat) := hpv 13 (hpre 13 (by decide) (by decide))
                have hv14 : vs 14 = .pointer (some ⟨w.heap.size + 1, 0, none⟩) := hpv 14 (hpre 14 (by decide) (by decide))
                have hv15 : vs 15 = .pointer (some ⟨w.heap.size + 1, 2, none⟩) := hpv 15 (hpre 15 (by decide) (by decide))
                have hv16 : vs 16 = .pointer (some ⟨w.heap.size + 1, 2 + x * 2, none⟩) := hpv 16 (hpre 16 (by decide) (by decide))
                have hv17 : vs 17 = .pointer (some ⟨w.heap.size + 1, 2 + x * 2 + 1, none⟩) := hpv 17 (hpre 17 (by decide) (by decide))
                have hv18 : vs 18 = .int .i64 sk.hi := hpv 18 (hpre 18 (by decide) (by decide))
                have hv19 : vs 19 = .int .i64 (wrap64 (so.hi - sk.hi)) := hpv 19 (hpre 19 (by decide) (by decide))
                have hv20 : vs 20 = spanVal (⟨wrap64 (so.lo - sk.lo), wrap64 (so.hi - sk.hi)⟩ : Span) := hpv 20 (hpre 20 (by decide) (by decide))
                clear hpv hpre hG hk0
                obtain rfl : ao = _ := hact
                subst hT
                simp only [setAll, List.setIfInBounds_toArray, List.set_cons_succ, List.set_cons_zero, List.getD_cons_succ, List.getD_cons_zero]
                simp only [hv0, hv1, hv2, hv3, hv4, hv5, hv6, hv7, hv8, hv9, hv10, hv11, hv12, hv13, hv14, hv15, hv16, hv17, hv18, hv19, hv20]
                clear hv0 hv1 hv2 hv3 hv4 hv5 hv6 hv7 hv8 hv9 hv10 hv11 hv12 hv13 hv14 hv15 hv16 hv17 hv18 hv19 hv20
                have n9 := HO.out.keep hk (fun h => h)
                have c0 := n9.at_ 0
                have c1 := n9.at_ 1
                have f0 := n9.free 0
                have f1 := n9.free 1
                simp only [List.getElem?_toArray, List.getElem?_cons_zero, List.getElem?_cons_succ] at c0 c1
                refine wpAny_all (rs := [21]) (by kernel_rfl) (by simp) ?_
                intro i2 hi2
                obtain rfl : i2 = 21 := by simpa using hi2
                refine wpOp_skip (W' := (W.setCell ⟨V5.heap.size, 0, none⟩ (.int .i64 ((⟨wrap64 (so.lo - sk.lo), wrap64 (so.hi - sk.hi)⟩ : Span)).lo)).setCell ⟨V5.heap.size, 1, none⟩ (.int .i64 ((⟨wrap64 (so.lo - sk.lo), wrap64 (so.hi - sk.hi)⟩ : Span)).hi)) rfl rfl ?_ ?_
                · go_simp
                refine wpAny_done (by kernel_rfl) ?_ _
                have b2 : Blk ((W.setCell ⟨V5.heap.size, 0, none⟩ (.int .i64 ((⟨wrap64 (so.lo - sk.lo), wrap64 (so.hi - sk.hi)⟩ : Span)).lo)).setCell ⟨V5.heap.size, 1, none⟩ (.int .i64 ((⟨wrap64 (so.lo - sk.lo), wrap64 (so.hi - sk.hi)⟩ : Span)).hi)) (V5.heap.size) 30 #[.int .i64 ((⟨wrap64 (so.lo - sk.lo), wrap64 (so.hi - sk.hi)⟩ : Span)).lo, .int .i64 ((⟨wrap64 (so.lo - sk.lo), wrap64 (so.hi - sk.hi)⟩ : Span)).hi] := (n9.store 0 _).store 1 _
                have hs : Keep (fun q => q = V5.heap.size) W ((W.setCell ⟨V5.heap.size, 0, none⟩ (.int .i64 ((⟨wrap64 (so.lo - sk.lo), wrap64 (so.hi - sk.hi)⟩ : Span)).lo)).setCell ⟨V5.heap.size, 1, none⟩ (.int .i64 ((⟨wrap64 (so.lo - sk.lo), wrap64 (so.hi - sk.hi)⟩ : Span)).hi)) := (Keep.setCell _ _ _ (fun q => q = V5.heap.size) rfl).trans (Keep.setCell _ _ _ (fun q => q = V5.heap.size) rfl)
                clear n9 c0 c1 f0 f1
                generalize (W.setCell ⟨V5.heap.size, 0, none⟩ (.int .i64 ((⟨wrap64 (so.lo - sk.lo), wrap64 (so.hi - sk.hi)⟩ : Span)).lo)).setCell ⟨V5.heap.size, 1, none⟩ (.int .i64 ((⟨wrap64 (so.lo - sk.lo), wrap64 (so.hi - sk.hi)⟩ : Span)).hi) = X5 at *
                have hL := (HL.out.keep hk (fun k h => h.elim)).keep hs (fun k h => by omega)
                have hI := (HI.out.keep hk (fun h => h)).keep hs (by omega)
                have hS := (HS.out.keep hk (fun h => h)).keep hs (by omega)
                have hZ := (HZ.out.keep hk (fun h => h)).keep hs (by omega)
                have hR := (HR.out.keep hk (fun h => h)).keep hs (by omega)
                have hC : Keep (fun k => k = w.heap.size + 1 ∨ k = V5.heap.size) X3 X5 := (HC.out.trans (hk.mono (fun k _ h => h.elim))).trans (hs.mono (fun k _ h => .inr h))
                clear hk hkm hs p0 kl kh o0 o1 hzo hzp hzg hzr HL HO HI HS HZ HR HC
                have HL := hide hL
                have HO := hide b2
                have HI := hide hI
                have HS := hide hS
                have HZ := hide hZ
                have HR := hide hR
                have HC := hide hC
                clear hL hI hS hZ b2 hC hR
                have p0 := HL.out.p.at_ 0
                have o0 := HO.out.at_ 0
                have o1 := HO.out.at_ 1
                have r0 := HR.out.at_ 0
                have r1 := HR.out.at_ 1
                simp only [List.getElem?_toArray, List.getElem?_cons_zero, List.getElem?_cons_succ] at p0 o0 o1 r0 r1
                have kl := HL.out.l.at_lo hx6
                have kh := HL.out.l.at_hi hx6
                have hzp := HL.out.p.lt
                have hzg := HL.out.l.k.lt
                have hzo := HO.out.lt
                have hzr := HR.out.lt
                rw [HSK2.out] at kl kh
                gi_wp2_with fail
                refine wpIn_round_rel4 (dst := fun oi => [174, 175, 176, 177, 178, 179, 180, 181, 182, 183, 184, 185, 186, 0].getD oi 0) (mono := fun oi => decide (oi < 13)) (pre := fun oi => decide (oi < 13)) (R := LKeep (fun _ => False) (fun _ => True))
                 (Pv := fun oi v W => match oi with
                  | 0 => v = .pointer (some ⟨w.heap.size + 1, 0, none⟩)
                  | 1 => v = .int .i64 (x : Nat)
                  | 2 => v = .pointer (some ⟨w.heap.size + 1, 0, none⟩)
                  | 3 => v = .int .i64 (x : Nat)
                  | 4 => v = .pointer (some ⟨w.heap.size + 1, 0, none⟩)
                  | 5 => v = .pointer (some ⟨w.heap.size + 1, 2, none⟩)
                  | 6 => v = .pointer (some ⟨w.heap.size + 1, 2 + x * 2, none⟩)
                  | 7 => v = spanVal sk
                  | 8 => v = spanVal (lessW si (plusW (⟨wrap64 (so.lo - sk.lo), wrap64 (so.hi - sk.hi)⟩ : Span) ⟨0, ls⟩))
                  | 9 => v = spanVal (both sk (lessW si (plusW (⟨wrap64 (so.lo - sk.lo), wrap64 (so.hi - sk.hi)⟩ : Span) ⟨0, ls⟩)))
                  | 10 => v = .pointer (some ⟨w.heap.size + 1, 0, none⟩)
                  | 11 => v = .pointer (some ⟨w.heap.size + 1, 2, none⟩)
                  | 12 => v = .pointer (some ⟨w.heap.size + 1, 2 + x * 2, none⟩)
                  | _ => True) (by kernel_rfl) (by kernel_rfl) (by rintro ⟨_, _, h⟩; exact h) (by kernel_rfl) (LKeep.refl _ _) (fun _ _ _ h h' => h.trans h') ?hst ?hstep ?hend
                case hst =>
                 intro oi v W W' h hk
                 match oi, h with
                 | 0, h => exact h
                 | 1, h => exact h
                 | 2, h => exact h
                 | 3, h => exact h
                 | 4, h => exact h
                 | 5, h => exact h
                 | 6, h => exact h
                 | 7, h => exact h
                 | 8, h => exact h
                 | 9, h => exact h
                 | 10, h => exact h
                 | 11, h => exact h
                 | 12, h => exact h
                 | oi + 13, h => exact trivial
                case hstep =>
                 intro oi hoi hom listed vs ao W hU hk0 hpv haft Ko hK
                 have hkk := (LKeep.drew (fun _ => False) (M := fun _ => True) X5 (fun h => h)).trans hk0
                 have hk := hkk.1
                 have hkm := hkk.2
                 clear hkk
                 match oi, hoi, hom with
                 | 0, hoi, hom =>
                  have z6 : ao.tmps[6]?.getD undef = .pointer (some ⟨w.heap.size + 1 + 1, 0, none⟩) := hU.same 6 (by decide)
                  have y0 := (hk.cell (b := w.heap.size + 1 + 1) (o := 0) (hzp) (fun h => h)).trans (p0)
                  refine wpOp_value (v := .pointer (some ⟨w.heap.size + 1, 0, none⟩)) (W' := W) rfl rfl ?_ (hK _ _ (LKeep.refl _ _ _) rfl)
                  go_simp
                 | 1, hoi, hom =>
                  have z15 : ao.tmps[15]?.getD undef = .int .i64 (x : Nat) := hU.same 15 (by decide)
                  refine wpOp_value (v := .int .i64 (x : Nat)) (W' := W) rfl rfl ?_ (hK _ _ (LKeep.refl _ _ _) rfl)
                  go_simp
                 | 2, hoi, hom =>
                  have z6 : ao.tmps[6]?.getD undef = .pointer (some ⟨w.heap.size + 1 + 1, 0, none⟩) := hU.same 6 (by decide)
                  have y0 := (hk.cell (b := w.heap.size + 1 + 1) (o := 0) (hzp) (fun h => h)).trans (p0)
                  refine wpOp_value (v := .pointer (some ⟨w.heap.size + 1, 0, none⟩)) (W' := W) rfl rfl ?_ (hK _ _ (LKeep.refl _ _ _) rfl)
                  go_simp
                 | 3, hoi, hom =>
                  have z15 : ao.tmps[15]?.getD undef = .int .i64 (x : Nat) := hU.same 15 (by decide)
                  refine wpOp_value (v := .int .i64 (x : Nat)) (W' := W) rfl rfl ?_ (hK _ _ (LKeep.refl _ _ _) rfl)
                  go_simp
                 | 4, hoi, hom =>
                  have l2 := haft _ rfl ⟨2, .data⟩ (by simp) rfl
                  have s2 : ao.tmps[176]?.getD undef = .pointer (some ⟨w.heap.size + 1, 0, none⟩) := (hU.slot 2 (by decide) l2).trans (hpv 2 l2)
                  refine wpOp_value (v := .pointer (some ⟨w.heap.size + 1, 0, none⟩)) (W' := W) rfl rfl ?_ (hK _ _ (LKeep.refl _ _ _) rfl)
                  go_simp
                 | 5, hoi, hom =>
                  have l4 := haft _ rfl ⟨4, .data⟩ (by simp) rfl
                  have s4 : ao.tmps[178]?.getD undef = .pointer (some ⟨w.heap.size + 1, 0, none⟩) := (hU.slot 4 (by decide) l4).trans (hpv 4 l4)
                  refine wpOp_value (v := .pointer (some ⟨w.heap.size + 1, 2, none⟩)) (W' := W) rfl rfl ?_ (hK _ _ (LKeep.refl _ _ _) rfl)
                  go_simp
                 | 6, hoi, hom =>
                  have l5 := haft _ rfl ⟨5, .data⟩ (by simp) rfl
                  have s5 : ao.tmps[179]?.getD undef = .pointer (some ⟨w.heap.size + 1, 2, none⟩) := (hU.slot 5 (by decide) l5).trans (hpv 5 l5)
                  have l3 := haft _ rfl ⟨3, .data⟩ (by simp) rfl
                  have s3 : ao.tmps[177]?.getD undef = .int .i64 (x : Nat) := (hU.slot 3 (by decide) l3).trans (hpv 3 l3)
                  refine wpOp_value (v := .pointer (some ⟨w.heap.size + 1, 2 + x * 2, none⟩)) (W' := W) rfl rfl ?_ (hK _ _ (LKeep.refl _ _ _) rfl)
                  go_simp
                 | 7, hoi, hom =>
                  have l6 := haft _ rfl ⟨6, .data⟩ (by simp) rfl
                  have s6 : ao.tmps[180]?.getD undef = .pointer (some ⟨w.heap.size + 1, 2 + x * 2, none⟩) := (hU.slot 6 (by decide) l6).trans (hpv 6 l6)
                  have y0 := (hk.cell (b := w.heap.size + 1) (o := 2 + x * 2) (hzg) (fun h => h)).trans (kl)
                  have y1 := (hk.cell (b := w.heap.size + 1) (o := 2 + x * 2 + 1) (hzg) (fun h => h)).trans (kh)
                  refine wpOp_value (v := spanVal sk) (W' := W) rfl rfl ?_ (hK _ _ (LKeep.refl _ _ _) rfl)
                  go_simp
                 | 8, hoi, hom =>
                  have z16 : ao.tmps[16]?.getD undef = .pointer (some ⟨zr, 0, none⟩) := hU.same 16 (by decide)
                  have y0 := (hk.cell (b := zr) (o := 0) (hzr) (fun h => h)).trans (r0)
                  have y1 := (hk.cell (b := zr) (o := 1) (hzr) (fun h => h)).trans (r1)
                  refine wpOp_value (v := spanVal (lessW si (plusW (⟨wrap64 (so.lo - sk.lo), wrap64 (so.hi - sk.hi)⟩ : Span) ⟨0, ls⟩))) (W' := W) rfl rfl ?_ (hK _ _ (LKeep.refl _ _ _) rfl)
                  go_simp
                 | 9, hoi, hom =>
                  have l7 := haft _ rfl ⟨7, .data⟩ (by simp) rfl
                  have s7 : ao.tmps[181]?.getD undef = spanVal sk := (hU.slot 7 (by decide) l7).trans (hpv 7 l7)
                  have l8 := haft _ rfl ⟨8, .data⟩ (by simp) rfl
                  have s8 : ao.tmps[182]?.getD undef = spanVal (lessW si (plusW (⟨wrap64 (so.lo - sk.lo), wrap64 (so.hi - sk.hi)⟩ : Span) ⟨0, ls⟩)) := (hU.slot 8 (by decide) l8).trans (hpv 8 l8)
                  refine wpOp_enter (f := 101) (args := #[spanVal sk, spanVal (lessW si (plusW (⟨wrap64 (so.lo - sk.lo), wrap64 (so.hi - sk.hi)⟩ : Span) ⟨0, ls⟩))]) (W' := W) rfl rfl ?_ ((both_any sk (lessW si (plusW (⟨wrap64 (so.lo - sk.lo), wrap64 (so.hi - sk.hi)⟩ : Span) ⟨0, ls⟩)) W).mono (fun e w'' h => ?_))
                  · go_simp
                  · obtain ⟨he, hbw⟩ := h
                    exact ⟨_, he, hK _ _ (LKeep.below hbw (fun h => h)) rfl⟩
                 | 10, hoi, hom =>
                  have l0 := haft _ rfl ⟨0, .data⟩ (by simp) rfl
                  have s0 : ao.tmps[174]?.getD undef = .pointer (some ⟨w.heap.size + 1, 0, none⟩) := (hU.slot 0 (by decide) l0).trans (hpv 0 l0)
                  refine wpOp_value (v := .pointer (some ⟨w.heap.size + 1, 0, none⟩)) (W' := W) rfl rfl ?_ (hK _ _ (LKeep.refl _ _ _) rfl)
                  go_simp
                 | 11, hoi, hom =>
                  have l10 := haft _ rfl ⟨10, .data⟩ (by simp) rfl
                  have s10 : ao.tmps[184]?.getD undef = .pointer (some ⟨w.heap.size + 1, 0, none⟩) := (hU.slot 10 (by decide) l10).trans (hpv 10 l10)
                  refine wpOp_value (v := .pointer (some ⟨w.heap.size + 1, 2, none⟩)) (W' := W) rfl rfl ?_ (hK _ _ (LKeep.refl _ _ _) rfl)
                  go_simp
                 | 12, hoi, hom =>
                  have l11 := haft _ rfl ⟨11, .data⟩ (by simp) rfl
                  have s11 : ao.tmps[185]?.getD undef = .pointer (some ⟨w.heap.size + 1, 2, none⟩) := (hU.slot 11 (by decide) l11).trans (hpv 11 l11)
                  have l1 := haft _ rfl ⟨1, .data⟩ (by simp) rfl
                  have s1 : ao.tmps[175]?.getD undef = .int .i64 (x : Nat) := (hU.slot 1 (by decide) l1).trans (hpv 1 l1)
                  refine wpOp_value (v := .pointer (some ⟨w.heap.size + 1, 2 + x * 2, none⟩)) (W' := W) rfl rfl ?_ (hK _ _ (LKeep.refl _ _ _) rfl)
                  go_simp
                 | oi + 13, hoi, hom => exact absurd (of_decide_eq_true hom) (by omega)
                case hend =>
                 intro listed vs ao W hG hk0 hpv hpre
                 have hkk := (LKeep.drew (fun _ => False) (M := fun _ => True) X5 (fun h => h)).trans hk0
                 have hk := hkk.1
                 have hkm := hkk.2
                 clear hkk
                 have hact := hG.act
                 have hT := hG.lst hpre 0 #[true, true, true, true, true, true, true, true, true, true, true, true, true, false] rfl (by kernel_rfl) (hpre 0 (by decide) (by decide))
                 rw [hG.ix hT (l := [0, 1, 2, 3, 4, 5, 6, 7, 8, 9, 10, 11, 12]) (by kernel_rfl)] at hact
                 rw [hG.lo hT (k := 1) (by kernel_rfl)]
                 have hv0 : vs 0 = .pointer (some ⟨w.heap.size + 1, 0, none⟩) := hpv 0 (hpre 0 (by decide) (by decide))
                 have hv1 : vs 1 = .int .i64 (x : Nat) := hpv 1 (hpre 1 (by decide) (by decide))
                 have hv2 : vs 2 = .pointer (some ⟨w.heap.size + 1, 0, none⟩) := hpv 2 (hpre 2 (by decide) (by decide))
                 have hv3 : vs 3 = .int .i64 (x : Nat) := hpv 3 (hpre 3 (by decide) (by decide))
                 have hv4 : vs 4 = .pointer (some ⟨w.heap.size + 1, 0, none⟩) := hpv 4 (hpre 4 (by decide) (by decide))
                 have hv5 : vs 5 = .pointer (some ⟨w.heap.size + 1, 2, none⟩) := hpv 5 (hpre 5 (by decide) (by decide))
                 have hv6 : vs 6 = .pointer (some ⟨w.heap.size + 1, 2 + x * 2, none⟩) := hpv 6 (hpre 6 (by decide) (by decide))
                 have hv7 : vs 7 = spanVal sk := hpv 7 (hpre 7 (by decide) (by decide))
                 have hv8 : vs 8 = spanVal (lessW si (plusW (⟨wrap64 (so.lo - sk.lo), wrap64 (so.hi - sk.hi)⟩ : Span) ⟨0, ls⟩)) := hpv 8 (hpre 8 (by decide) (by decide))
                 have hv9 : vs 9 = spanVal (both sk (lessW si (plusW (⟨wrap64 (so.lo - sk.lo), wrap64 (so.hi - sk.hi)⟩ : Span) ⟨0, ls⟩))) := hpv 9 (hpre 9 (by decide) (by decide))
                 have hv10 : vs 10 = .pointer (some ⟨w.heap.size + 1, 0, none⟩) := hpv 10 (hpre 10 (by decide) (by decide))
                 have hv11 : vs 11 = .pointer (some ⟨w.heap.size + 1, 2, none⟩) := hpv 11 (hpre 11 (by decide) (by decide))
                 have hv12 : vs 12 = .pointer (some ⟨w.heap.size + 1, 2 + x * 2, none⟩) := hpv 12 (hpre 12 (by decide) (by decide))
                 clear hpv hpre hG hk0
                 obtain rfl : ao = _ := hact
                 subst hT
                 simp only [setAll, List.setIfInBounds_toArray, List.set_cons_succ, List.set_cons_zero, List.getD_cons_succ, List.getD_cons_zero]
                 simp only [hv0, hv1, hv2, hv3, hv4, hv5, hv6, hv7, hv8, hv9, hv10, hv11, hv12]
                 clear hv0 hv1 hv2 hv3 hv4 hv5 hv6 hv7 hv8 hv9 hv10 hv11 hv12
                 have m1 := HL.out.keep hk (fun k h => h.elim)
                 have c0 := m1.l.at_lo hx6
                 have c1 := m1.l.at_hi hx6
                 have f0 := m1.l.k.free (2 + x * 2)
                 have f1 := m1.l.k.free (2 + x * 2 + 1)
                 refine wpAny_all (rs := [13]) (by kernel_rfl) (by simp) ?_
                 intro i2 hi2
                 obtain rfl : i2 = 13 := by simpa using hi2
                 refine wpOp_skip (W' := (W.setCell ⟨w.heap.size + 1, 2 + x * 2, none⟩ (.int .i64 (both sk (lessW si (plusW (⟨wrap64 (so.lo - sk.lo), wrap64 (so.hi - sk.hi)⟩ : Span) ⟨0, ls⟩))).lo)).setCell ⟨w.heap.size + 1, 2 + x * 2 + 1, none⟩ (.int .i64 (both sk (lessW si (plusW (⟨wrap64 (so.lo - sk.lo), wrap64 (so.hi - sk.hi)⟩ : Span) ⟨0, ls⟩))).hi)) rfl rfl ?_ ?_
                 · go_simp
                 refine wpAny_done (by kernel_rfl) ?_ _
                 have J2 := m1.put hx6 (both sk (lessW si (plusW (⟨wrap64 (so.lo - sk.lo), wrap64 (so.hi - sk.hi)⟩ : Span) ⟨0, ls⟩)))
                 have hs : Keep (fun q => q = w.heap.size + 1) W ((W.setCell ⟨w.heap.size + 1, 2 + x * 2, none⟩ (.int .i64 (both sk (lessW si (plusW (⟨wrap64 (so.lo - sk.lo), wrap64 (so.hi - sk.hi)⟩ : Span) ⟨0, ls⟩))).lo)).setCell ⟨w.heap.size + 1, 2 + x * 2 + 1, none⟩ (.int .i64 (both sk (lessW si (plusW (⟨wrap64 (so.lo - sk.lo), wrap64 (so.hi - sk.hi)⟩ : Span) ⟨0, ls⟩))).hi)) := keep_put W (w.heap.size + 1) x (both sk (lessW si (plusW (⟨wrap64 (so.lo - sk.lo), wrap64 (so.hi - sk.hi)⟩ : Span) ⟨0, ls⟩)))
                 generalize (W.setCell ⟨w.heap.size + 1, 2 + x * 2, none⟩ (.int .i64 (both sk (lessW si (plusW (⟨wrap64 (so.lo - sk.lo), wrap64 (so.hi - sk.hi)⟩ : Span) ⟨0, ls⟩))).lo)).setCell ⟨w.heap.size + 1, 2 + x * 2 + 1, none⟩ (.int .i64 (both sk (lessW si (plusW (⟨wrap64 (so.lo - sk.lo), wrap64 (so.hi - sk.hi)⟩ : Span) ⟨0, ls⟩))).hi) = X6 at *
                 clear c0 c1 f0 f1 m1
                 have hO := (HO.out.keep hk (fun h => h)).keep hs (by omega)
                 have hI := (HI.out.keep hk (fun h => h)).keep hs (by omega)
                 have hS := (HS.out.keep hk (fun h => h)).keep hs (by omega)
                 have hZ := (HZ.out.keep hk (fun h => h)).keep hs (by omega)
                 have hC : Keep (fun k => k = w.heap.size + 1 ∨ k = V5.heap.size) X3 X6 := (HC.out.trans (hk.mono (fun k _ h => h.elim))).trans (hs.mono (fun k _ h => .inl h))
                 clear hk hkm hs p0 kl kh o0 o1 r0 r1 hzo hzp hzg hzr HL HO HI HS HZ HR HC
                 have HL := hide J2
                 have HO := hide hO
                 have HI := hide hI
                 have HS := hide hS
                 have HZ := hide hZ
                 have HC := hide hC
                 clear J2 hO hI hS hZ hC
                 have p0 := HL.out.p.at_ 0
                 have o0 := HO.out.at_ 0
                 have o1 := HO.out.at_ 1
                 simp only [List.getElem?_toArray, List.getElem?_cons_zero, List.getElem?_cons_succ] at p0 o0 o1
                 have nl := HL.out.l.at_lo hx6
                 have nh := HL.out.l.at_hi hx6
                 have hzp := HL.out.p.lt
                 have hzg := HL.out.l.k.lt
                 have hzo := HO.out.lt
                 rw [upd_at] at nl nh
                 generalize hsn : both sk (lessW si (plusW (⟨wrap64 (so.lo - sk.lo), wrap64 (so.hi - sk.hi)⟩ : Span) ⟨0, ls⟩)) = sn at *
                 have HSN := hide hsn
                 clear hsn
                 gi_wp2_with fail
                 refine wpIn_round_rel4 (dst := fun oi => [187, 188, 189, 190, 191, 192, 193, 194, 0].getD oi 0) (mono := fun oi => decide (oi < 8)) (pre := fun oi => decide (oi < 8)) (R := LKeep (fun _ => False) (fun _ => True))
                  (Pv := fun oi v W => match oi with
                   | 0 => v = spanVal (⟨wrap64 (so.lo - sk.lo), wrap64 (so.hi - sk.hi)⟩ : Span)
                   | 1 => v = .pointer (some ⟨w.heap.size + 1, 0, none⟩)
                   | 2 => v = .int .i64 (x : Nat)
                   | 3 => v = .pointer (some ⟨w.heap.size + 1, 0, none⟩)
                   | 4 => v = .pointer (some ⟨w.heap.size + 1, 2, none⟩)
                   | 5 => v = .pointer (some ⟨w.heap.size + 1, 2 + x * 2, none⟩)
                   | 6 => v = spanVal sn
                   | 7 => v = spanVal (plusW (⟨wrap64 (so.lo - sk.lo), wrap64 (so.hi - sk.hi)⟩ : Span) sn)
                   | _ => True) (by kernel_rfl) (by kernel_rfl) (by rintro ⟨_, _, h⟩; exact h) (by kernel_rfl) (LKeep.refl _ _) (fun _ _ _ h h' => h.trans h') ?hst ?hstep ?hend
                 case hst =>
                  intro oi v W W' h hk
                  match oi, h with
                  | 0, h => exact h
                  | 1, h => exact h
                  | 2, h => exact h
                  | 3, h => exact h
                  | 4, h => exact h
                  | 5, h => exact h
                  | 6, h => exact h
                  | 7, h => exact h
                  | oi + 8, h => exact trivial
                 case hstep =>
                  intro oi hoi hom listed vs ao W hU hk0 hpv haft Ko hK
                  have hkk := (LKeep.drew (fun _ => False) (M := fun _ => True) X6 (fun h => h)).trans hk0
                  have hk := hkk.1
                  have hkm := hkk.2
                  clear hkk
                  match oi, hoi, hom with
                  | 0, hoi, hom =>
                   have z13 : ao.tmps[13]?.getD undef = .pointer (some ⟨V5.heap.size, 0, none⟩) := hU.same 13 (by decide)
                   have y0 := (hk.cell (b := V5.heap.size) (o := 0) (hzo) (fun h => h)).trans (o0)
                   have y1 := (hk.cell (b := V5.heap.size) (o := 1) (hzo) (fun h => h)).trans (o1)
                   refine wpOp_value (v := spanVal (⟨wrap64 (so.lo - sk.lo), wrap64 (so.hi - sk.hi)⟩ : Span)) (W' := W) rfl rfl ?_ (hK _ _ (LKeep.refl _ _ _) rfl)
                   go_simp
                  | 1, hoi, hom =>
                   have z6 : ao.tmps[6]?.getD undef = .pointer (some ⟨w.heap.size + 1 + 1, 0, none⟩) := hU.same 6 (by decide)
                   have y0 := (hk.cell (b := w.heap.size + 1 + 1) (o := 0) (hzp) (fun h => h)).trans (p0)
                   refine wpOp_value (v := .pointer (some ⟨w.heap.size + 1, 0, none⟩)) (W' := W) rfl rfl ?_ (hK _ _ (LKeep.refl _ _ _) rfl)
                   go_simp
                  | 2, hoi, hom =>
                   have z15 : ao.tmps[15]?.getD undef = .int .i64 (x : Nat) := hU.same 15 (by decide)
                   refine wpOp_value (v := .int .i64 (x : Nat)) (W' := W) rfl rfl ?_ (hK _ _ (LKeep.refl _ _ _) rfl)
                   go_simp
                  | 3, hoi, hom =>
                   have l1 := haft _ rfl ⟨1, .data⟩ (by simp) rfl
                   have s1 : ao.tmps[188]?.getD undef = .pointer (some ⟨w.heap.size + 1, 0, none⟩) := (hU.slot 1 (by decide) l1).trans (hpv 1 l1)
                   refine wpOp_value (v := .pointer (some ⟨w.heap.size + 1, 0, none⟩)) (W' := W) rfl rfl ?_ (hK _ _ (LKeep.refl _ _ _) rfl)
                   go_simp
                  | 4, hoi, hom =>
                   have l3 := haft _ rfl ⟨3, .data⟩ (by simp) rfl
                   have s3 : ao.tmps[190]?.getD undef = .pointer (some ⟨w.heap.size + 1, 0, none⟩) := (hU.slot 3 (by decide) l3).trans (hpv 3 l3)
                   refine wpOp_value (v := .pointer (some ⟨w.heap.size + 1, 2, none⟩)) (W' := W) rfl rfl ?_ (hK _ _ (LKeep.refl _ _ _) rfl)
                   go_simp
                  | 5, hoi, hom =>
                   have l4 := haft _ rfl ⟨4, .data⟩ (by simp) rfl
                   have s4 : ao.tmps[191]?.getD undef = .pointer (some ⟨w.heap.size + 1, 2, none⟩) := (hU.slot 4 (by decide) l4).trans (hpv 4 l4)
                   have l2 := haft _ rfl ⟨2, .data⟩ (by simp) rfl
                   have s2 : ao.tmps[189]?.getD undef = .int .i64 (x : Nat) := (hU.slot 2 (by decide) l2).trans (hpv 2 l2)
                   refine wpOp_value (v := .pointer (some ⟨w.heap.size + 1, 2 + x * 2, none⟩)) (W' := W) rfl rfl ?_ (hK _ _ (LKeep.refl _ _ _) rfl)
                   go_simp
                  | 6, hoi, hom =>
                   have l5 := haft _ rfl ⟨5, .data⟩ (by simp) rfl
                   have s5 : ao.tmps[192]?.getD undef = .pointer (some ⟨w.heap.size + 1, 2 + x * 2, none⟩) := (hU.slot 5 (by decide) l5).trans (hpv 5 l5)
                   have y0 := (hk.cell (b := w.heap.size + 1) (o := 2 + x * 2) (hzg) (fun h => h)).trans (nl)
                   have y1 := (hk.cell (b := w.heap.size + 1) (o := 2 + x * 2 + 1) (hzg) (fun h => h)).trans (nh)
                   refine wpOp_value (v := spanVal sn) (W' := W) rfl rfl ?_ (hK _ _ (LKeep.refl _ _ _) rfl)
                   go_simp
                  | 7, hoi, hom =>
                   have l0 := haft _ rfl ⟨0, .data⟩ (by simp) rfl
                   have s0 : ao.tmps[187]?.getD undef = spanVal (⟨wrap64 (so.lo - sk.lo), wrap64 (so.hi - sk.hi)⟩ : Span) := (hU.slot 0 (by decide) l0).trans (hpv 0 l0)
                   have l6 := haft _ rfl ⟨6, .data⟩ (by simp) rfl
                   have s6 : ao.tmps[193]?.getD undef = spanVal sn := (hU.slot 6 (by decide) l6).trans (hpv 6 l6)
                   refine wpOp_enter (f := 105) (args := #[spanVal (⟨wrap64 (so.lo - sk.lo), wrap64 (so.hi - sk.hi)⟩ : Span), spanVal sn]) (W' := W) rfl rfl ?_ ((plus_any (⟨wrap64 (so.lo - sk.lo), wrap64 (so.hi - sk.hi)⟩ : Span) sn W).mono (fun e w'' h => ?_))
                   · go_simp
                   · obtain ⟨he, hbw⟩ := h
                     exact ⟨_, he, hK _ _ (LKeep.below hbw (fun h => h)) rfl⟩
                  | oi + 8, hoi, hom => exact absurd (of_decide_eq_true hom) (by omega)
                 case hend =>
                  intro listed vs ao W hG hk0 hpv hpre
                  have hkk := (LKeep.drew (fun _ => False) (M := fun _ => True) X6 (fun h => h)).trans hk0
                  have hk := hkk.1
                  have hkm := hkk.2
                  clear hkk
                  have hact := hG.act
                  have hT := hG.lst hpre 0 #[true, true, true, true, true, true, true, true, false] rfl (by kernel_rfl) (hpre 0 (by decide) (by decide))
                  rw [hG.ix hT (l := [0, 1, 2, 3, 4, 5, 6, 7]) (by kernel_rfl)] at hact
                  rw [hG.lo hT (k := 1) (by kernel_rfl)]
                  have hv0 : vs 0 = spanVal (⟨wrap64 (so.lo - sk.lo), wrap64 (so.hi - sk.hi)⟩ : Span) := hpv 0 (hpre 0 (by decide) (by decide))
                  have hv1 : vs 1 = .pointer (some ⟨w.heap.size + 1, 0, none⟩) := hpv 1 (hpre 1 (by decide) (by decide))
                  have hv2 : vs 2 = .int .i64 (x : Nat) := hpv 2 (hpre 2 (by decide) (by decide))
                  have hv3 : vs 3 = .pointer (some ⟨w.heap.size + 1, 0, none⟩) := hpv 3 (hpre 3 (by decide) (by decide))
                  have hv4 : vs 4 = .pointer (some ⟨w.heap.size + 1, 2, none⟩) := hpv 4 (hpre 4 (by decide) (by decide))
                  have hv5 : vs 5 = .pointer (some ⟨w.heap.size + 1, 2 + x * 2, none⟩) := hpv 5 (hpre 5 (by decide) (by decide))
                  have hv6 : vs 6 = spanVal sn := hpv 6 (hpre 6 (by decide) (by decide))
                  have hv7 : vs 7 = spanVal (plusW (⟨wrap64 (so.lo - sk.lo), wrap64 (so.hi - sk.hi)⟩ : Span) sn) := hpv 7 (hpre 7 (by decide) (by decide))
                  clear hpv hpre hG hk0
                  obtain rfl : ao = _ := hact
                  subst hT
                  simp only [setAll, List.setIfInBounds_toArray, List.set_cons_succ, List.set_cons_zero, List.getD_cons_succ, List.getD_cons_zero]
                  simp only [hv0, hv1, hv2, hv3, hv4, hv5, hv6, hv7]
                  clear hv0 hv1 hv2 hv3 hv4 hv5 hv6 hv7
                  have n9 := HO.out.keep hk (fun h => h)
                  have c0 := n9.at_ 0
                  have c1 := n9.at_ 1
                  have f0 := n9.free 0
                  have f1 := n9.free 1
                  simp only [List.getElem?_toArray, List.getElem?_cons_zero, List.getElem?_cons_succ] at c0 c1
                  refine wpAny_all (rs := [8]) (by kernel_rfl) (by simp) ?_
                  intro i2 hi2
                  obtain rfl : i2 = 8 := by simpa using hi2
                  refine wpOp_skip (W' := (W.setCell ⟨V5.heap.size, 0, none⟩ (.int .i64 (plusW (⟨wrap64 (so.lo - sk.lo), wrap64 (so.hi - sk.hi)⟩ : Span) sn).lo)).setCell ⟨V5.heap.size, 1, none⟩ (.int .i64 (plusW (⟨wrap64 (so.lo - sk.lo), wrap64 (so.hi - sk.hi)⟩ : Span) sn).hi)) rfl rfl ?_ ?_
                  · go_simp
                  refine wpAny_done (by kernel_rfl) ?_ _
                  have b2 : Blk ((W.setCell ⟨V5.heap.size, 0, none⟩ (.int .i64 (plusW (⟨wrap64 (so.lo - sk.lo), wrap64 (so.hi - sk.hi)⟩ : Span) sn).lo)).setCell ⟨V5.heap.size, 1, none⟩ (.int .i64 (plusW (⟨wrap64 (so.lo - sk.lo), wrap64 (so.hi - sk.hi)⟩ : Span) sn).hi)) (V5.heap.size) 30 #[.int .i64 (plusW (⟨wrap64 (so.lo - sk.lo), wrap64 (so.hi - sk.hi)⟩ : Span) sn).lo, .int .i64 (plusW (⟨wrap64 (so.lo - sk.lo), wrap64 (so.hi - sk.hi)⟩ : Span) sn).hi] := (n9.store 0 _).store 1 _
                  have hs : Keep (fun q => q = V5.heap.size) W ((W.setCell ⟨V5.heap.size, 0, none⟩ (.int .i64 (plusW (⟨wrap64 (so.lo - sk.lo), wrap64 (so.hi - sk.hi)⟩ : Span) sn).lo)).setCell ⟨V5.heap.size, 1, none⟩ (.int .i64 (plusW (⟨wrap64 (so.lo - sk.lo), wrap64 (so.hi - sk.hi)⟩ : Span) sn).hi)) := (Keep.setCell _ _ _ (fun q => q = V5.heap.size) rfl).trans (Keep.setCell _ _ _ (fun q => q = V5.heap.size) rfl)
                  clear n9 c0 c1 f0 f1
                  generalize (W.setCell ⟨V5.heap.size, 0, none⟩ (.int .i64 (plusW (⟨wrap64 (so.lo - sk.lo), wrap64 (so.hi - sk.hi)⟩ : Span) sn).lo)).setCell ⟨V5.heap.size, 1, none⟩ (.int .i64 (plusW (⟨wrap64 (so.lo - sk.lo), wrap64 (so.hi - sk.hi)⟩ : Span) sn).hi) = X7 at *
                  have hL := (HL.out.keep hk (fun k h => h.elim)).keep hs (fun k h => by omega)
                  have hI := (HI.out.keep hk (fun h => h)).keep hs (by omega)
                  have hS := (HS.out.keep hk (fun h => h)).keep hs (by omega)
                  have hZ := (HZ.out.keep hk (fun h => h)).keep hs (by omega)
                  have hC : Keep (fun k => k = w.heap.size + 1 ∨ k = V5.heap.size) X3 X7 := (HC.out.trans (hk.mono (fun k _ h => h.elim))).trans (hs.mono (fun k _ h => .inr h))
                  refine ⟨hC, trivial, by rw [HKT.out]; exact hL, by rw [HKT.out]; exact b2, hI, hS, hZ⟩
             case done =>
              rintro D W' hD ⟨i1, i2, i3, i4, i5⟩ _ hk hd
              have hms : MarksOk (w.heap.size + 3) ({ target := .collected D, args := #[] } :: ds4) W' := k6.cons (MarksOk.keepO hk (fun k hk => by
               rcases hk with rfl | rfl
               · exact k1.l.k.not_mark
               · exact k4.not_mark) k6) hD (by omega) hd
              have I1 := hide i1
              have I5 := hide i5
              have HMS := hide hms
              clear i1 i2 i3 i4 i5 hk hd hms k1 k2 k3 k4 k5 k6 k1' k4' hit e1 e2
              go_wp2_with fail
              refine ⟨b.steps.length - (i + 1), by omega, i + 1, _, by unfold frame4; rw [HAA.out]; kernel_rfl, hlt, rfl, by rw [HF.out, ← HBK.out]; exact I1.out, I5.out, HMS.out⟩
             case stop =>
              intro D cd q W' hD hq0 hqp hix hm hk hd
              exact hix.elim
         · obtain rfl : i = b.steps.length := by omega
           replace i1 : LkI w V4 b a ((wayOf b).passW h) := i1
           generalize hpw : (wayOf b).passW h = hp at *
           have HPW := hide hpw
           have x0 := i1.x.at_ 0
           simp only [List.getElem?_toArray, List.getElem?_cons_zero] at x0
           have hzx := i1.x.lt
           have HI := hide i1
           have HZ := hide i2
           have HM := hide i4
           clear i1 i2 i4 hpw
           go_wp2_with fail
           clear x0 hzx
           go_loopw [4, 5, 17, 199, 200, 201, 202, 203, 204, 205, 206, 207, 208, 209, 210, 211, 212, 213, 214, 215, 216, 217, 218] (fun v4 v5 _ v199 _ _ _ _ _ _ _ _ _ _ _ _ _ _ _ _ _ _ _ wr => ∃ j : Nat, j ≤ b.steps.length ∧ v199 = .int .i64 (j : Nat) ∧ v4 = .pointer none ∧ v5 = .bool false ∧ Hid (∀ q, q < j → (hp q).lo ≤ (hp q).hi) ∧ Hid (LkI w wr b a hp) ∧ Hid (Blk wr z 86 (spansCells h)) ∧ Hid (MarksOk (w.heap.size + 3) ds4 wr)) (fun v4 v5 _ v199 _ _ _ _ _ _ _ _ _ _ _ _ _ _ _ _ _ _ _ _ => b.steps.length - (intOf v199).toNat)
           case atStart => exact ⟨0, Nat.zero_le _, rfl, rfl, rfl, hide (fun q hq => by omega), HI, HZ, HM⟩
           case round =>
            clear HI HZ HM
            obtain ⟨j, hj, rfl, rfl, rfl, HQ, HI, HZ, HM⟩ := hrel
            by_cases hlt : j < b.steps.length
            · have hx6 : j < 6 := by omega
              have hj0 : (0 : Int) ≤ (j : Int) := Int.natCast_nonneg _
              have hj6 : (j : Int) < 6 := by omega
              have hjl : (j : Int) < (b.steps.length : Int) := by omega
              have p0 := HI.out.p.at_ 0
              simp only [List.getElem?_toArray, List.getElem?_cons_zero] at p0
              have sl := HI.out.l.at_lo hx6
              have sh := HI.out.l.at_hi hx6
              have hzp := HI.out.p.lt
              have hzg := HI.out.l.k.lt
              go_wp2_with fail
              refine wp_region_rel4 (dst := fun oi => [202, 203, 204, 205, 206, 207, 208, 209, 210, 211, 212, 213, 214, 215, 216].getD oi 0) (mono := fun oi => decide (oi < 15)) (pre := fun oi => decide (oi < 15)) (R := LKeep (fun _ => False) (fun _ => True))
               (Pv := fun oi v W => match oi with
                | 0 => v = .pointer (some ⟨w.heap.size + 1, 0, none⟩)
                | 1 => v = .int .i64 (j : Nat)
                | 2 => v = .pointer (some ⟨w.heap.size + 1, 0, none⟩)
                | 3 => v = .pointer (some ⟨w.heap.size + 1, 2, none⟩)
                | 4 => v = .pointer (some ⟨w.heap.size + 1, 2 + j * 2, none⟩)
                | 5 => v = .pointer (some ⟨w.heap.size + 1, 2 + j * 2, none⟩)
                | 6 => v = .int .i64 (hp j).lo
                | 7 => v = .pointer (some ⟨w.heap.size + 1, 0, none⟩)
                | 8 => v = .int .i64 (j : Nat)
                | 9 => v = .pointer (some ⟨w.heap.size + 1, 0, none⟩)
                | 10 => v = .pointer (some ⟨w.heap.size + 1, 2, none⟩)
                | 11 => v = .pointer (some ⟨w.heap.size + 1, 2 + j * 2, none⟩)
                | 12 => v = .pointer (some ⟨w.heap.size + 1, 2 + j * 2 + 1, none⟩)
                | 13 => v = .int .i64 (hp j).hi
                | 14 => v = .bool (decide ((hp j).hi < (hp j).lo))
                | _ => True) (by kernel_rfl) (by kernel_rfl) (LKeep.refl _ _) (fun _ _ _ h h' => h.trans h') ?hst ?hstep ?hend
              case hst =>
               intro oi v W W' h hk
               match oi, h with
               | 0, h => exact h
               | 1, h => exact h
               | 2, h => exact h
               | 3, h => exact h
               | 4, h => exact h
               | 5, h => exact h
               | 6, h => exact h
               | 7, h => exact h
               | 8, h => exact h
               | 9, h => exact h
               | 10, h => exact h
               | 11, h => exact h
               | 12, h => exact h
               | 13, h => exact h
               | 14, h => exact h
               | oi + 15, h => exact trivial
              case hstep =>
               intro oi hoi hom listed vs ao W hU hk0 hpv haft Ko hK
               have hkk := (LKeep.drew (fun _ => False) (M := fun _ => True) wr (fun h => h)).trans hk0
               have hk := hkk.1
               have hkm := hkk.2
               clear hkk
               match oi, hoi, hom with
               | 0, hoi, hom =>
                have z6 : ao.tmps[6]?.getD undef = .pointer (some ⟨w.heap.size + 1 + 1, 0, none⟩) := hU.same 6 (by decide)
                have y0 := (hk.cell (b := w.heap.size + 1 + 1) (o := 0) (hzp) (fun h => h)).trans (p0)
                refine wpOp_value (v := .pointer (some ⟨w.heap.size + 1, 0, none⟩)) (W' := W) rfl rfl ?_ (hK _ _ (LKeep.refl _ _ _) rfl)
                go_simp
               | 1, hoi, hom =>
                have z17 : ao.tmps[17]?.getD undef = .int .i64 (j : Nat) := hU.same 17 (by decide)
                refine wpOp_value (v := .int .i64 (j : Nat)) (W' := W) rfl rfl ?_ (hK _ _ (LKeep.refl _ _ _) rfl)
                go_simp
               | 2, hoi, hom =>
                have l0 := haft _ rfl ⟨0, .data⟩ (by simp) rfl
                have s0 : ao.tmps[202]?.getD undef = .pointer (some ⟨w.heap.size + 1, 0, none⟩) := (hU.slot 0 (by decide) l0).trans (hpv 0 l0)
                refine wpOp_value (v := .pointer (some ⟨w.heap.size + 1, 0, none⟩)) (W' := W) rfl rfl ?_ (hK _ _ (LKeep.refl _ _ _) rfl)
                go_simp
               | 3, hoi, hom =>
                have l2 := haft _ rfl ⟨2, .data⟩ (by simp) rfl
                have s2 : ao.tmps[204]?.getD undef = .pointer (some ⟨w.heap.size + 1, 0, none⟩) := (hU.slot 2 (by decide) l2).trans (hpv 2 l2)
                refine wpOp_value (v := .pointer (some ⟨w.heap.size + 1, 2, none⟩)) (W' := W) rfl rfl ?_ (hK _ _ (LKeep.refl _ _ _) rfl)
                go_simp
               | 4, hoi, hom =>
                have l3 := haft _ rfl ⟨3, .data⟩ (by simp) rfl
                have s3 : ao.tmps[205]?.getD undef = .pointer (some ⟨w.heap.size + 1, 2, none⟩) := (hU.slot 3 (by decide) l3).trans (hpv 3 l3)
                have l1 := haft _ rfl ⟨1, .data⟩ (by simp) rfl
                have s1 : ao.tmps[203]?.getD undef = .int .i64 (j : Nat) := (hU.slot 1 (by decide) l1).trans (hpv 1 l1)
                refine wpOp_value (v := .pointer (some ⟨w.heap.size + 1, 2 + j * 2, none⟩)) (W' := W) rfl rfl ?_ (hK _ _ (LKeep.refl _ _ _) rfl)
                go_simp
               | 5, hoi, hom =>
                have l4 := haft _ rfl ⟨4, .data⟩ (by simp) rfl
                have s4 : ao.tmps[206]?.getD undef = .pointer (some ⟨w.heap.size + 1, 2 + j * 2, none⟩) := (hU.slot 4 (by decide) l4).trans (hpv 4 l4)
                refine wpOp_value (v := .pointer (some ⟨w.heap.size + 1, 2 + j * 2, none⟩)) (W' := W) rfl rfl ?_ (hK _ _ (LKeep.refl _ _ _) rfl)
                go_simp
               | 6, hoi, hom =>
                have l5 := haft _ rfl ⟨5, .data⟩ (by simp) rfl
                have s5 : ao.tmps[207]?.getD undef = .pointer (some ⟨w.heap.size + 1, 2 + j * 2, none⟩) := (hU.slot 5 (by decide) l5).trans (hpv 5 l5)
                have y0 := (hk.cell (b := w.heap.size + 1) (o := 2 + j * 2) (hzg) (fun h => h)).trans (sl)
                refine wpOp_value (v := .int .i64 (hp j).lo) (W' := W) rfl rfl ?_ (hK _ _ (LKeep.refl _ _ _) rfl)
                go_simp
               | 7, hoi, hom =>
                have z6 : ao.tmps[6]?.getD undef = .pointer (some ⟨w.heap.size + 1 + 1, 0, none⟩) := hU.same 6 (by decide)
                have y0 := (hk.cell (b := w.heap.size + 1 + 1) (o := 0) (hzp) (fun h => h)).trans (p0)
                refine wpOp_value (v := .pointer (some ⟨w.heap.size + 1, 0, none⟩)) (W' := W) rfl rfl ?_ (hK _ _ (LKeep.refl _ _ _) rfl)
                go_simp
               | 8, hoi, hom =>
                have z17 : ao.tmps[17]?.getD undef = .int .i64 (j : Nat) := hU.same 17 (by decide)
                refine wpOp_value (v := .int .i64 (j : Nat)) (W' := W) rfl rfl ?_ (hK _ _ (LKeep.refl _ _ _) rfl)
                go_simp
               | 9, hoi, hom =>
                have l7 := haft _ rfl ⟨7, .data⟩ (by simp) rfl
                have s7 : ao.tmps[209]?.getD undef = .pointer (some ⟨w.heap.size + 1, 0, none⟩) := (hU.slot 7 (by decide) l7).trans (hpv 7 l7)
                refine wpOp_value (v := .pointer (some ⟨w.heap.size + 1, 0, none⟩)) (W' := W) rfl rfl ?_ (hK _ _ (LKeep.refl _ _ _) rfl)
                go_simp
               | 10, hoi, hom =>
                have l9 := haft _ rfl ⟨9, .data⟩ (by simp) rfl
                have s9 : ao.tmps[211]?.getD undef = .pointer (some ⟨w.heap.size + 1, 0, none⟩) := (hU.slot 9 (by decide) l9).trans (hpv 9 l9)
                refine wpOp_value (v := .pointer (some ⟨w.heap.size + 1, 2, none⟩)) (W' := W) rfl rfl ?_ (hK _ _ (LKeep.refl _ _ _) rfl)
                go_simp
               | 11, hoi, hom =>
                have l10 := haft _ rfl ⟨10, .data⟩ (by simp) rfl
                have s10 : ao.tmps[212]?.getD undef = .pointer (some ⟨w.heap.size + 1, 2, none⟩) := (hU.slot 10 (by decide) l10).trans (hpv 10 l10)
                have l8 := haft _ rfl ⟨8, .data⟩ (by simp) rfl
                have s8 : ao.tmps[210]?.getD undef = .int .i64 (j : Nat) := (hU.slot 8 (by decide) l8).trans (hpv 8 l8)
                refine wpOp_value (v := .pointer (some ⟨w.heap.size + 1, 2 + j * 2, none⟩)) (W' := W) rfl rfl ?_ (hK _ _ (LKeep.refl _ _ _) rfl)
                go_simp
               | 12, hoi, hom =>
                have l11 := haft _ rfl ⟨11, .data⟩ (by simp) rfl
                have s11 : ao.tmps[213]?.getD undef = .pointer (some ⟨w.heap.size + 1, 2 + j * 2, none⟩) := (hU.slot 11 (by decide) l11).trans (hpv 11 l11)
                refine wpOp_value (v := .pointer (some ⟨w.heap.size + 1, 2 + j * 2 + 1, none⟩)) (W' := W) rfl rfl ?_ (hK _ _ (LKeep.refl _ _ _) rfl)
                go_simp
               | 13, hoi, hom =>
                have l12 := haft _ rfl ⟨12, .data⟩ (by simp) rfl
                have s12 : ao.tmps[214]?.getD undef = .pointer (some ⟨w.heap.size + 1, 2 + j * 2 + 1, none⟩) := (hU.slot 12 (by decide) l12).trans (hpv 12 l12)
                have y0 := (hk.cell (b := w.heap.size + 1) (o := 2 + j * 2 + 1) (hzg) (fun h => h)).trans (sh)
                refine wpOp_value (v := .int .i64 (hp j).hi) (W' := W) rfl rfl ?_ (hK _ _ (LKeep.refl _ _ _) rfl)
                go_simp
               | 14, hoi, hom =>
                have l6 := haft _ rfl ⟨6, .data⟩ (by simp) rfl
                have s6 : ao.tmps[208]?.getD undef = .int .i64 (hp j).lo := (hU.slot 6 (by decide) l6).trans (hpv 6 l6)
                have l13 := haft _ rfl ⟨13, .data⟩ (by simp) rfl
                have s13 : ao.tmps[215]?.getD undef = .int .i64 (hp j).hi := (hU.slot 13 (by decide) l13).trans (hpv 13 l13)
                refine wpOp_value (v := .bool (decide ((hp j).hi < (hp j).lo))) (W' := W) rfl rfl ?_ (hK _ _ (LKeep.refl _ _ _) rfl)
                go_simp
               | oi + 15, hoi, hom => exact absurd (of_decide_eq_true hom) (by omega)
              case hend =>
               intro listed vs ao W hG hk0 hpv hpre
               have hkk := (LKeep.drew (fun _ => False) (M := fun _ => True) wr (fun h => h)).trans hk0
               have hk := hkk.1
               have hkm := hkk.2
               clear hkk
               have hact := hG.act
               have hT := hG.lst hpre 0 #[true, true, true, true, true, true, true, true, true, true, true, true, true, true, true] rfl (by kernel_rfl) (hpre 0 (by decide) (by decide))
               rw [hG.ix hT (l := [0, 1, 2, 3, 4, 5, 6, 7, 8, 9, 10, 11, 12, 13, 14]) (by kernel_rfl)] at hact
               rw [hG.lo hT (k := 0) (by kernel_rfl)]
               have hv0 : vs 0 = .pointer (some ⟨w.heap.size + 1, 0, none⟩) := hpv 0 (hpre 0 (by decide) (by decide))
               have hv1 : vs 1 = .int .i64 (j : Nat) := hpv 1 (hpre 1 (by decide) (by decide))
               have hv2 : vs 2 = .pointer (some ⟨w.heap.size + 1, 0, none⟩) := hpv 2 (hpre 2 (by decide) (by decide))
               have hv3 : vs 3 = .pointer (some ⟨w.heap.size + 1, 2, none⟩) := hpv 3 (hpre 3 (by decide) (by decide))
               have hv4 : vs 4 = .pointer (some ⟨w.heap.size + 1, 2 + j * 2, none⟩) := hpv 4 (hpre 4 (by decide) (by decide))
               have hv5 : vs 5 = .pointer (some ⟨w.heap.size + 1, 2 + j * 2, none⟩) := hpv 5 (hpre 5 (by decide) (by decide))
               have hv6 : vs 6 = .int .i64 (hp j).lo := hpv 6 (hpre 6 (by decide) (by decide))
               have hv7 : vs 7 = .pointer (some ⟨w.heap.size + 1, 0, none⟩) := hpv 7 (hpre 7 (by decide) (by decide))
               have hv8 : vs 8 = .int .i64 (j : Nat) := hpv 8 (hpre 8 (by decide) (by decide))
               have hv9 : vs 9 = .pointer (some ⟨w.heap.size + 1, 0, none⟩) := hpv 9 (hpre 9 (by decide) (by decide))
               have hv10 : vs 10 = .pointer (some ⟨w.heap.size + 1, 2, none⟩) := hpv 10 (hpre 10 (by decide) (by decide))
               have hv11 : vs 11 = .pointer (some ⟨w.heap.size + 1, 2 + j * 2, none⟩) := hpv 11 (hpre 11 (by decide) (by decide))
               have hv12 : vs 12 = .pointer (some ⟨w.heap.size + 1, 2 + j * 2 + 1, none⟩) := hpv 12 (hpre 12 (by decide) (by decide))
               have hv13 : vs 13 = .int .i64 (hp j).hi := hpv 13 (hpre 13 (by decide) (by decide))
               have hv14 : vs 14 = .bool (decide ((hp j).hi < (hp j).lo)) := hpv 14 (hpre 14 (by decide) (by decide))
               clear hpv hpre hG hk0
               obtain rfl : ao = _ := hact
               subst hT
               simp only [setAll, List.setIfInBounds_toArray, List.set_cons_succ, List.set_cons_zero, List.getD_cons_succ, List.getD_cons_zero]
               simp only [hv0, hv1, hv2, hv3, hv4, hv5, hv6, hv7, hv8, hv9, hv10, hv11, hv12, hv13, hv14]
               clear hv0 hv1 hv2 hv3 hv4 hv5 hv6 hv7 hv8 hv9 hv10 hv11 hv12 hv13 hv14
               refine wpAny_done (by kernel_rfl) ?_ _
               have hI := hide (HI.out.keep hk (fun k h => h.elim))
               have hZ := hide (HZ.out.keep hk (fun h => h))
               have hM := hide (MarksOk.keepO hk (fun k h => h.elim) HM.out)
               clear hk hkm p0 sl sh hzp hzg HI HZ HM
               have p0 := hI.out.p.at_ 0
               simp only [List.getElem?_toArray, List.getElem?_cons_zero] at p0
               have hzp := hI.out.p.lt
               generalize hdc : decide ((hp j).hi < (hp j).lo) = dc at *
               have HDC := hide hdc
               clear hdc
               cases dc with
               | true =>
                go_wp2_with fail
                refine leaves_marks2 hM.out (fun w' hkw' => ?_)
                exact ⟨.tuple #[.pointer (some ⟨w.heap.size + 1, 0, none⟩), .bool false], by simp [results, Tryz.results74, go_sem], w.heap.size + 1, hp, false, rfl, hI.out.l.keep hkw' (fun k hk => by have := hM.out.ge hk; omega) (fun hk => by have := hM.out.ge hk; omega), by rw [← HPW.out]; exact HI5.out.none hlt (by rw [HPW.out]; exact of_decide_eq_true HDC.out), hI.out.e.trans (hkw'.below (fun k hk => by have := hM.out.ge hk; omega) hI.out.e.size)⟩
               | false =>
                go_wp2_with fail
                go_roundw
                case rel => exact ⟨j + 1, hlt, by simp, rfl, rfl, hide (fun q hq => by
                 by_cases e : q = j
                 · have := of_decide_eq_false HDC.out; rw [e]; omega
                 · exact HQ.out q (by omega)), hI, hZ, hM⟩
                case measure => simp [intOf]; omega
            · obtain rfl : j = b.steps.length := by omega
              obtain ⟨m', hlt', hs⟩ := HI5.out.next HG.out.way (by have := HNE.out; simpa using this) (by rw [HPW.out]; exact fun q hq => HQ.out q hq)
              rw [HPW.out] at hs
              have HLT := hide hlt'
              have HSS := hide hs
              clear hs hlt'
              have v0 := HZ.out.at_ 0
              have v1 := HZ.out.at_ 1
              have v2 := HZ.out.at_ 2
              have v3 := HZ.out.at_ 3
              have v4 := HZ.out.at_ 4
              have v5 := HZ.out.at_ 5
              have v6 := HZ.out.at_ 6
              have v7 := HZ.out.at_ 7
              have v8 := HZ.out.at_ 8
              have v9 := HZ.out.at_ 9
              have v10 := HZ.out.at_ 10
              have v11 := HZ.out.at_ 11
              simp only [List.getElem?_toArray, List.getElem?_cons_zero, List.getElem?_cons_succ] at v0 v1 v2 v3 v4 v5 v6 v7 v8 v9 v10 v11
              have hzz := HZ.out.lt
              have hz3 := HI.out.p.lt
              go_wp2_with fail
              have hb9 : Below wr.heap.size wr (wr.alloc (.cells (spansCells h) 86)) := (Below.refl _ _).alloc (Nat.le_refl _) _
              exact ⟨m', HLT.out, wr.heap.size, hp, h, ds4, by kernel_rfl, HI.out.next hb9, Blk.made, hz3, MarksOk.keepO (Keep.of_below' hb9 (fun _ => False)) (fun k h => h.elim) HM.out, HSS.out⟩
end Go.Proofs.YtocdmkilnbpkdaaGreatDoor
