/- The law ClaimPays. -/
import Derived.Test.YtllmahcanipcpaaGreatLB
import Derived.Test.YtllmahcanipcpaaGreatSM
import Derived.OwnWalkIn
import Derived.TacticsInMore
import Derived.Deep.DeepCutAuto
set_option linter.unusedVariables false
set_option linter.unusedSimpArgs false
namespace Go.Proofs.YtllmahcanipcpaaGreat
open Go.RowKit
attribute [local go_sem ↓] Go.wp_at_zero Go.wp_at_succ
attribute [local go_sem] Oper.semAt_some
set_option maxHeartbeats 4000000 in
set_option maxRecDepth 100000 in
theorem claimPays_any {f : File} {fa : FA} {w : World} (h : FileV w w.heap.size f fa) (n : Int) :
    Calls Tryz.prog 3 #[fileVal f fa, .int .i64 n] w fun e w' => e = .returned (.bool true) ∧ Below w.heap.size w w' := by
  have K := hide (BoxF.made h)
  have HB : Hid (Below w.heap.size w (w.alloc (.cells (fileCells f fa) 28))) := hide ((Below.refl _ _).alloc (Nat.le_refl _) _)
  clear h
  go_enter Tryz.func3, Tryz.ntmps3
  go_upto_region 1 with (fail)
  generalize (w.alloc (.cells (fileCells f fa) 28)) = y0 at *
  have HE := hide (pays_eq f n)
  obtain ⟨z, c1, c2, c3, c4, c5⟩ := K.out.cells
  go_upto_region 2 with (go_at_call 11; refine (pays_any K.out.v n).mono ?_; rintro e y1 ⟨rfl, hb⟩)
  have K := hide (K.out.next hb)
  have HB := hide (HB.out.trans (hb.mono HB.out.size))
  clear hb
  clear z c1 c2 c3 c4 c5
  rw [HE.out]
  obtain ⟨z, c1, c2, c3, c4, c5⟩ := K.out.cells
  go_upto_region 3 with (go_at_call 12; refine (pays7_any K.out.v n).mono ?_; rintro e y2 ⟨rfl, hb⟩)
  have K := hide (K.out.next hb)
  have HB := hide (HB.out.trans (hb.mono HB.out.size))
  clear hb
  clear z c1 c2 c3 c4 c5
  clear HE
  generalize payR f n = ck at *
  obtain ⟨k1, k2⟩ := ck
  dsimp only
  go_upto_region 5 with (fail)
  have HE := hide (held_eq f)
  obtain ⟨z, c1, c2, c3, c4, c5⟩ := K.out.cells
  go_upto_region 6 with (go_at_call 13; refine (held_any K.out.v).mono ?_; rintro e y3 ⟨A3, q3, rfl, hi, hb⟩)
  have K := hide (K.out.next hb)
  have HB := hide (HB.out.trans (hb.mono HB.out.size))
  clear hb
  have I3 := hide hi
  clear hi
  clear z c1 c2 c3 c4 c5
  rw [HE.out] at I3
  rw [HE.out]
  obtain ⟨z, c1, c2, c3, c4, c5⟩ := K.out.cells
  go_upto_region 7 with (go_at_call 14; refine (held7_any K.out.v).mono ?_; rintro e y4 ⟨A4, q4, rfl, hi, hb⟩)
  have K := hide (K.out.next hb)
  have I3 := hide (I3.out.next hb)
  have HB := hide (HB.out.trans (hb.mono HB.out.size))
  clear hb
  have I4 := hide hi
  clear hi
  clear z c1 c2 c3 c4 c5
  clear HE
  generalize heldR f = r at *
  obtain ⟨xs, er⟩ := r
  dsimp only at I3 I4 ⊢
  go_wp2_with fail
  refine (ints_any I3.out I4.out).mono ?_
  rintro e z1 ⟨rfl, hd⟩
  rw [show intsB (natInts xs) (natInts xs) = true from (intsB_iff _ _).2 rfl]
  have HB := hide (HB.out.trans ((hd.below y4.heap.size).mono HB.out.size))
  clear hd
  go_wp2_with fail
  refine (awake_any _).mono ?_
  rintro e z2 ⟨rfl, hb⟩
  go_wp2_with fail
  go_ret
  exact ⟨rfl, HB.out.trans (hb.mono HB.out.size)⟩
end Go.Proofs.YtllmahcanipcpaaGreat
