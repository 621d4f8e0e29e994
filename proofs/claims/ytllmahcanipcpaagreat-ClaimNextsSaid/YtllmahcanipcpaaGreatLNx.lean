/- The law ClaimNexts. -/
import Derived.Test.YtllmahcanipcpaaGreatLB
import Derived.Test.YtllmahcanipcpaaGreatSU
import Derived.Test.YtllmahcanipcpaaGreatSS
import Derived.OwnWalkIn
import Derived.TacticsInMore
import Derived.Deep.DeepCutAuto
set_option linter.unusedVariables false
set_option linter.unusedSimpArgs false
namespace Go.Proofs.YtllmahcanipcpaaGreat
open Go.RowKit
attribute [local go_sem ↓] Go.wp_at_zero Go.wp_at_succ
attribute [local go_sem] Oper.semAt_some

set_option maxHeartbeats 4000000 in
set_option maxRecDepth 100000 in
theorem claimNexts_any {f : File} {fa : FA} {w : World} (h : FileV w w.heap.size f fa) (a b : Int) :
    Calls Tryz.prog 5 #[fileVal f fa, .agg #[.int .i64 a, .int .i64 b]] w fun e w' => e = .returned (.bool true) ∧ Below w.heap.size w w' := by
  have hB0 : Below w.heap.size w ((w.alloc (.cells (fileCells f fa) 28)).alloc (.cells #[.int .i64 a, .int .i64 b] 41)) := ((Below.refl _ _).alloc (Nat.le_refl _) _).alloc (by simp) _
  have K : Hid (BoxF ((w.alloc (.cells (fileCells f fa) 28)).alloc (.cells #[.int .i64 a, .int .i64 b] 41)) w.heap.size f fa) := hide ⟨h.next hB0, Blk.made.alloc _⟩
  have Q : Hid (Blk ((w.alloc (.cells (fileCells f fa) 28)).alloc (.cells #[.int .i64 a, .int .i64 b] 41)) (w.heap.size + 1) 41 #[.int .i64 a, .int .i64 b]) := hide (Blk.made' (by simp))
  have HB := hide hB0
  have HE := hide (next_eq f a b)
  clear h hB0
  go_enter Tryz.func5, Tryz.ntmps5
  go_upto_region 1 with (fail)
  generalize ((w.alloc (.cells (fileCells f fa) 28)).alloc (.cells #[.int .i64 a, .int .i64 b] 41)) = y0 at *
  obtain ⟨z, c1, c2, c3, c4, c5⟩ := K.out.cells
  have zq := Q.out.lt
  have q0 := Q.out.at_ 0
  have q1 := Q.out.at_ 1
  simp only [List.getElem?_toArray, List.getElem?_cons_zero, List.getElem?_cons_succ] at q0 q1
  go_upto_region 2 with (go_at_call 21; refine (next_any2 K.out.v a b).mono ?_; rintro e y1 ⟨rfl, hb⟩)
  have K := hide (K.out.next hb)
  have Q := hide (Q.out.next hb)
  have HB := hide (HB.out.trans (hb.mono HB.out.size))
  clear hb
  clear z c1 c2 c3 c4 c5 zq q0 q1
  rw [HE.out]
  obtain ⟨z, c1, c2, c3, c4, c5⟩ := K.out.cells
  have zq := Q.out.lt
  have q0 := Q.out.at_ 0
  have q1 := Q.out.at_ 1
  simp only [List.getElem?_toArray, List.getElem?_cons_zero, List.getElem?_cons_succ] at q0 q1
  go_upto_region 3 with (go_at_call 22; refine (next7_any K.out.v a b).mono ?_; rintro e y2 ⟨rfl, hb⟩)
  have K := hide (K.out.next hb)
  have Q := hide (Q.out.next hb)
  have HB := hide (HB.out.trans (hb.mono HB.out.size))
  clear hb
  clear z c1 c2 c3 c4 c5 zq q0 q1
  clear HE
  generalize nextR f a b = ck at *
  obtain ⟨⟨k1, k2⟩, k3⟩ := ck
  dsimp only
  go_upto_region 5 with (fail)
  have HE := hide (wrong_eq f)
  have HE3 := hide (wrong_len f)
  obtain ⟨z, c1, c2, c3, c4, c5⟩ := K.out.cells
  have zq := Q.out.lt
  have q0 := Q.out.at_ 0
  have q1 := Q.out.at_ 1
  simp only [List.getElem?_toArray, List.getElem?_cons_zero, List.getElem?_cons_succ] at q0 q1
  go_upto_region 6 with (go_at_call 23; refine (wrong_any K.out.v).mono ?_; rintro e y3 ⟨A3, q3, rfl, hi, hb⟩)
  have K := hide (K.out.next hb)
  have Q := hide (Q.out.next hb)
  have HB := hide (HB.out.trans (hb.mono HB.out.size))
  clear hb
  have I3 := hide hi
  clear hi
  clear z c1 c2 c3 c4 c5 zq q0 q1
  rw [HE.out.1, HE3.out] at I3
  rw [HE.out.2, HE3.out]
  obtain ⟨z, c1, c2, c3, c4, c5⟩ := K.out.cells
  have zq := Q.out.lt
  have q0 := Q.out.at_ 0
  have q1 := Q.out.at_ 1
  simp only [List.getElem?_toArray, List.getElem?_cons_zero, List.getElem?_cons_succ] at q0 q1
  go_upto_region 7 with (go_at_call 24; refine (wrong7_any K.out.v).mono ?_; rintro e y4 ⟨A4, q4, rfl, hi, hb⟩)
  have K := hide (K.out.next hb)
  have Q := hide (Q.out.next hb)
  have I3 := hide (I3.out.next hb)
  have HB := hide (HB.out.trans (hb.mono HB.out.size))
  clear hb
  have I4 := hide hi
  clear hi
  clear z c1 c2 c3 c4 c5 zq q0 q1
  clear HE HE3
  generalize wrongR f = r at *
  obtain ⟨xs, er⟩ := r
  dsimp only at I3 I4 ⊢
  go_wp2_with fail
  refine (ints_any I3.out I4.out).mono ?_
  rintro e z1 ⟨rfl, hd⟩
  rw [show intsB xs xs = true from (intsB_iff _ _).2 rfl]
  have HB := hide (HB.out.trans ((hd.below y4.heap.size).mono HB.out.size))
  clear hd
  go_wp2_with fail
  refine (awake_any _).mono ?_
  rintro e z2 ⟨rfl, hb⟩
  go_wp2_with fail
  go_ret
  exact ⟨rfl, HB.out.trans (hb.mono HB.out.size)⟩
end Go.Proofs.YtllmahcanipcpaaGreat
