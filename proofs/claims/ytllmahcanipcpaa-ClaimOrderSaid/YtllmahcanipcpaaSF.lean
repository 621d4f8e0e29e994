/- Contracts of the reference's known, index and Who. -/
import Derived.Test.YtllmahcanipcpaaHJ
import Derived.OwnWalkIn
import Derived.TacticsInMore
import Derived.Deep.DeepCutAuto
set_option linter.unusedVariables false
set_option linter.unusedSimpArgs false
namespace Go.Proofs.Ytllmahcanipcpaa
open Go.RowKit
attribute [local go_sem ↓] Go.wp_at_zero Go.wp_at_succ
attribute [local go_sem] Oper.semAt_some

def indexM (f : File) (n below : Int) : Int := if (checkM f).2.2 = 0 ∧ offP 0 (below - 1) n = true then 4 else (checkM f).2.2
def errK (f : File) (e : Int) : Int := if e ≠ 0 then e else if (truthsM f []).length = 0 then 8 else 0
def lstK (f : File) (e : Int) : List (List Int) := if errK f e = 0 then truthsM f [] else []
theorem index_valid {f : File} {n below : Int} (h : indexM f n below = 0) : Valid f := by
  refine valid_of ?_
  unfold indexM at h
  split at h <;> omega
theorem index_in {f : File} {n below : Int} (h : indexM f n below = 0) : 0 ≤ n ∧ n < below := by
  unfold indexM at h
  split at h
  · omega
  · rename_i h1
    have : offP 0 (below - 1) n = false := by
      cases hx : offP 0 (below - 1) n with
      | false => rfl
      | true => exact absurd ⟨h, hx⟩ h1
    have := offP_false.1 this
    omega
theorem errK_zero {f : File} {e : Int} (h : errK f e = 0) : e = 0 ∧ lstK f e = truthsM f [] ∧ 0 < (truthsM f []).length := by
  have h0 := h
  unfold errK at h
  split at h
  · rename_i h1; exact absurd h h1
  · split at h
    · omega
    · rename_i h1 h2
      exact ⟨by omega, by rw [lstK, if_pos h0], by omega⟩
theorem lstK_none {f : File} {e : Int} (h : errK f e ≠ 0) : lstK f e = [] := by rw [lstK, if_neg h]
set_option maxHeartbeats 1000000 in
set_option maxRecDepth 100000 in
theorem known7_any {f : File} {fa : FA} {w : World} (h : FileV w w.heap.size f fa) (e : Int) (hv : e = 0 → Valid f) :
    Calls Try.prog 52 #[fileVal f fa, .int .i64 e] w fun e' w' =>
      ∃ A c, e' = .returned (.tuple #[.slice A (lstK f e).length c, .int .i64 (errK f e)]) ∧ ListsS w' w'.heap.size A (lstK f e).length c (lstK f e) ∧ Below w.heap.size w w' := by
  have HBX := hide (BoxF.made h)
  have HB0 : Hid (Below w.heap.size w (w.alloc (.cells (fileCells f fa) 28))) := hide ((Below.refl _ _).alloc (Nat.le_refl _) _)
  have HV := hide hv
  clear h hv
  go_enter Try.func52, Try.ntmps52
  by_cases he : e = 0
  · subst he
    have hvv := HV.out rfl
    go_upto_region 1 with (fail)
    generalize (w.alloc (.cells (fileCells f fa) 28)) = w0 at *
    obtain ⟨hz, e1, e2, e3, e4, e5⟩ := HBX.out.cells
    have HE := hide (show errK f 0 = if (truthsM f []).length = 0 then 8 else 0 by simp [errK])
    cases hq : (((truthsM f []).length : Int) == 0) with
    | true =>
      have hl : (truthsM f []).length = 0 := by simpa using hq
      have HX := hide (show errK f 0 = 8 by rw [HE.out, if_pos hl])
      have HY := hide (show lstK f 0 = [] from lstK_none (by rw [HX.out]; decide))
      clear hl
      go_wp2_with (go_at_call 64; refine (truths7_any HBX.out.v hvv (but := []) IntsS.nil_).mono ?_; rintro e w1 ⟨A', c', rfl, hL, hb1⟩)
      go_ret2
      rw [HX.out, HY.out]
      exact ⟨_, _, rfl, ⟨rfl, Nat.le_refl _, by simp [maxLen], fun h => absurd h (by simp)⟩, HB0.out.trans (hb1.mono HB0.out.size)⟩
    | false =>
      have hl : ¬ (truthsM f []).length = 0 := by simpa using hq
      have HX := hide (show errK f 0 = 0 by rw [HE.out, if_neg hl])
      have HY := hide (show lstK f 0 = truthsM f [] from (errK_zero HX.out).2.1)
      clear hl
      go_wp2_with (go_at_call 64; refine (truths7_any HBX.out.v hvv (but := []) IntsS.nil_).mono ?_; rintro e w1 ⟨A', c', rfl, hL, hb1⟩)
      go_ret2
      rw [HX.out, HY.out]
      exact ⟨_, _, rfl, hL, HB0.out.trans (hb1.mono HB0.out.size)⟩
  · have HX := hide (show errK f e = e by rw [errK, if_pos he])
    have HY := hide (show lstK f e = [] from lstK_none (by rw [HX.out]; exact he))
    have hne : (e == 0) = false := by simpa using he
    go_wp2_with fail
    go_ret2
    rw [HX.out, HY.out]
    exact ⟨_, _, rfl, ⟨rfl, Nat.le_refl _, by simp [maxLen], fun h => absurd h (by simp)⟩, HB0.out⟩
set_option maxHeartbeats 1000000 in
set_option maxRecDepth 100000 in
theorem index7_any {f : File} {fa : FA} {w : World} (h : FileV w w.heap.size f fa) (n below : Int) (hb : 0 ≤ below ∧ below ≤ 9223372036854775807) :
    Calls Try.prog 53 #[fileVal f fa, .int .i64 n, .int .i64 below] w fun e w' => e = .returned (.int .i64 (indexM f n below)) ∧ Below w.heap.size w w' := by
  have HBX := hide (BoxF.made h)
  have HB0 : Hid (Below w.heap.size w (w.alloc (.cells (fileCells f fa) 28))) := hide ((Below.refl _ _).alloc (Nat.le_refl _) _)
  clear h
  have hw1 : IntKind.i64.wrap (below - 1) = below - 1 := IntWalk.i64_in _ (by omega)
  have HX := hide (show indexM f n below = if (checkM f).2.2 = 0 ∧ offP 0 (below - 1) n = true then 4 else (checkM f).2.2 from rfl)
  have HIB := hide (inB_off n 0 (below - 1))
  go_enter Try.func53, Try.ntmps53
  go_upto_region 1 with (fail)
  generalize (w.alloc (.cells (fileCells f fa) 28)) = w0 at *
  obtain ⟨hz, e1, e2, e3, e4, e5⟩ := HBX.out.cells
  go_upto_region 2 with (go_at_call 9; refine (check7_any HBX.out.v).mono ?_; rintro e w1 ⟨rfl, hb1⟩)
  generalize checkM f = ck at *
  obtain ⟨c1, c2, c3⟩ := ck
  dsimp only at *
  cases hc : (c3 == 0) with
  | false =>
    have hc' : ¬ c3 = 0 := by simpa using hc
    have HY := hide (show indexM f n below = c3 by rw [HX.out, if_neg (fun h => hc' h.1)])
    go_wp2_with fail
    go_ret
    exact ⟨by rw [HY.out]; rfl, HB0.out.trans (hb1.mono HB0.out.size)⟩
  | true =>
    have hc' : c3 = 0 := by simpa using hc
    subst hc'
    cases ho : offP 0 (below - 1) n with
    | true =>
      have HY := hide (show indexM f n below = 4 by rw [HX.out, if_pos ⟨rfl, ho⟩])
      have hin : inB n 0 (below - 1) = false := by rw [HIB.out, ho]; rfl
      go_wp2_with (go_at_call 45; refine (in_any _ _ _ _).mono ?_; rintro e w' ⟨rfl, rfl⟩; rw [hin])
      go_ret
      exact ⟨by rw [HY.out]; rfl, HB0.out.trans (hb1.mono HB0.out.size)⟩
    | false =>
      have HY := hide (show indexM f n below = 0 by rw [HX.out, if_neg (fun h => by rw [ho] at h; exact absurd h.2 (by decide))])
      have hin : inB n 0 (below - 1) = true := by rw [HIB.out, ho]; rfl
      go_wp2_with (go_at_call 45; refine (in_any _ _ _ _).mono ?_; rintro e w' ⟨rfl, rfl⟩; rw [hin])
      go_ret
      exact ⟨by rw [HY.out]; rfl, HB0.out.trans (hb1.mono HB0.out.size)⟩
end Go.Proofs.Ytllmahcanipcpaa
