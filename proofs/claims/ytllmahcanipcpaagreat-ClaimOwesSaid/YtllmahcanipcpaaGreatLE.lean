/- The law ClaimOwes. -/
import Derived.Test.YtllmahcanipcpaaGreatLB
import Derived.Test.YtllmahcanipcpaaGreatSP
import Derived.Laws.StructEq
import Derived.OwnWalkIn
import Derived.TacticsInMore
import Derived.Deep.DeepCutAuto
set_option linter.unusedVariables false
set_option linter.unusedSimpArgs false
namespace Go.Proofs.YtllmahcanipcpaaGreat
open Go.RowKit
attribute [local go_sem ↓] Go.wp_at_zero Go.wp_at_succ
attribute [local go_sem] Oper.semAt_some
theorem owes7X {f : File} {fa : FA} {w : World} (h : FileV w w.heap.size f fa) (n : Int) {a b er : Int} (hx : owesR f n = (⟨a, b⟩, er)) :
    Calls Tryz.prog 18 #[fileVal f fa, .int .i64 n] w fun e w' => e = .returned (.tuple #[.agg #[.int .i64 a, .int .i64 b], .int .i64 er]) ∧ Below w.heap.size w w' := by
  have := owes7_any h n
  rw [hx] at this
  exact this
set_option maxHeartbeats 4000000 in
set_option maxRecDepth 100000 in
theorem claimOwes_any {f : File} {fa : FA} {w : World} (h : FileV w w.heap.size f fa) (n : Int) :
    Calls Tryz.prog 4 #[fileVal f fa, .int .i64 n] w fun e w' => e = .returned (.bool true) ∧ Below w.heap.size w w' := by
  have K := hide (BoxF.made h)
  have HB : Hid (Below w.heap.size w (w.alloc (.cells (fileCells f fa) 28))) := hide ((Below.refl _ _).alloc (Nat.le_refl _) _)
  clear h
  go_enter Tryz.func4, Tryz.ntmps4
  go_upto_region 1 with (fail)
  generalize (w.alloc (.cells (fileCells f fa) 28)) = y0 at *
  obtain ⟨r, hr⟩ : ∃ r, r = owesR f n := ⟨_, rfl⟩
  obtain ⟨⟨a, b⟩, er⟩ := r
  have H1 := hide (show owesV f n = (⟨a, b⟩, er) by rw [owes_eq, ← hr])
  have H2 := hide hr.symm
  clear hr
  obtain ⟨z, c1, c2, c3, c4, c5⟩ := K.out.cells
  go_upto_region 2 with (go_at_call 17; refine (owesX K.out.v n H1.out).mono ?_; rintro e y1 ⟨rfl, hb⟩)
  have K := hide (K.out.next hb)
  have HB := hide (HB.out.trans (hb.mono HB.out.size))
  clear hb
  clear z c1 c2 c3 c4 c5
  have hb : Below y1.heap.size y1 (y1.alloc (.cells #[.int .i64 a, .int .i64 b] 38)) := (Below.refl _ _).alloc (Nat.le_refl _) _
  have S1 : Hid (BoxS (y1.alloc (.cells #[.int .i64 a, .int .i64 b] 38)) y1.heap.size a b) := hide BoxS.made
  have K := hide (K.out.next hb)
  have HB := hide (HB.out.trans (hb.mono HB.out.size))
  clear hb
  generalize (y1.alloc (.cells #[.int .i64 a, .int .i64 b] 38)) = s1 at *
  obtain ⟨z, c1, c2, c3, c4, c5⟩ := K.out.cells
  go_upto_region 3 with (go_at_call 18; refine (owes7X K.out.v n H2.out).mono ?_; rintro e y2 ⟨rfl, hb⟩)
  have K := hide (K.out.next hb)
  have S1 := hide (S1.out.next hb)
  have HB := hide (HB.out.trans (hb.mono HB.out.size))
  clear hb
  clear z c1 c2 c3 c4 c5
  have hb : Below y2.heap.size y2 (y2.alloc (.cells #[.int .i64 a, .int .i64 b] 38)) := (Below.refl _ _).alloc (Nat.le_refl _) _
  have S2 : Hid (BoxS (y2.alloc (.cells #[.int .i64 a, .int .i64 b] 38)) y2.heap.size a b) := hide BoxS.made
  have K := hide (K.out.next hb)
  have S1 := hide (S1.out.next hb)
  have HB := hide (HB.out.trans (hb.mono HB.out.size))
  clear hb
  generalize (y2.alloc (.cells #[.int .i64 a, .int .i64 b] 38)) = s2 at *
  have hgt : Tryz.prog.eqGuardType Tryz.prog.depth 38 = false := by kernel_rfl
  obtain ⟨z1, d1, d2⟩ := S1.out
  obtain ⟨z2, d3, d4⟩ := S2.out
  go_upto_region 5 with (fail)
  clear z1 d1 d2 z2 d3 d4
  have HE := hide (open_eq f)
  obtain ⟨z, c1, c2, c3, c4, c5⟩ := K.out.cells
  go_upto_region 6 with (go_at_call 19; refine (open_any K.out.v).mono ?_; rintro e y3 ⟨A3, q3, rfl, hi, hb⟩)
  have K := hide (K.out.next hb)
  have HB := hide (HB.out.trans (hb.mono HB.out.size))
  clear hb
  have I3 := hide hi
  clear hi
  clear z c1 c2 c3 c4 c5
  rw [HE.out] at I3
  rw [HE.out]
  obtain ⟨z, c1, c2, c3, c4, c5⟩ := K.out.cells
  go_upto_region 7 with (go_at_call 20; refine (open7_any K.out.v).mono ?_; rintro e y4 ⟨A4, q4, rfl, hi, hb⟩)
  have K := hide (K.out.next hb)
  have I3 := hide (I3.out.next hb)
  have HB := hide (HB.out.trans (hb.mono HB.out.size))
  clear hb
  have I4 := hide hi
  clear hi
  clear z c1 c2 c3 c4 c5
  clear HE
  generalize openR f = r at *
  obtain ⟨xs, e0⟩ := r
  dsimp only at I3 I4 ⊢
  go_wp2_with fail
  refine (ints_any I3.out I4.out).mono ?_
  rintro e z1 ⟨rfl, hd⟩
  rw [show intsB (natInts xs) (natInts xs) = true from (intsB_iff _ _).2 rfl]
  have HB := hide (HB.out.trans ((hd.below y4.heap.size).mono HB.out.size))
  clear hd
  go_wp2_with fail
  refine (awake_any _).mono ?_
  rintro e z2 ⟨rfl, hb⟩
  go_wp2_with fail
  go_ret
  exact ⟨rfl, HB.out.trans (hb.mono HB.out.size)⟩
end Go.Proofs.YtllmahcanipcpaaGreat
