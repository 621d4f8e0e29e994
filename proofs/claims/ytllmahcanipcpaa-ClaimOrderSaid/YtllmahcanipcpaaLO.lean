/- Contracts of the law's valid, some, subset, denies. -/
import Derived.Test.YtllmahcanipcpaaLA
import Derived.Test.YtllmahcanipcpaaSX
import Derived.OwnWalkIn
import Derived.TacticsInMore
import Derived.Deep.DeepCutAuto
set_option linter.unusedVariables false
set_option linter.unusedSimpArgs false
namespace Go.Proofs.Ytllmahcanipcpaa
open Go.RowKit
attribute [local go_sem ↓] Go.wp_at_zero Go.wp_at_succ
attribute [local go_sem] Oper.semAt_some

def subB (a b : List Int) : Bool := a.all (hasInt b)
set_option maxHeartbeats 1600000 in
set_option maxRecDepth 100000 in
theorem valid7_any {f : File} {fa : FA} {w : World} (h : FileV w w.heap.size f fa) {v : Bool} (hv0 : decide ((checkM f).2.2 = 0) = v) :
    Calls Try.prog 26 #[fileVal f fa] w fun e w' => e = .returned (.bool v) ∧ Below w.heap.size w w' := by
  have HK := hide (BoxF.made h)
  have HB : Hid (Below w.heap.size w (w.alloc (.cells (fileCells f fa) 28))) := hide ((Below.refl _ _).alloc (Nat.le_refl _) _)
  have HV0 := hide hv0
  clear h hv0
  go_enter Try.func26, Try.ntmps26
  go_upto_region 1 with (fail)
  generalize (w.alloc (.cells (fileCells f fa) 28)) = y0 at *
  obtain ⟨z, c1, c2, c3, c4, c5⟩ := HK.out.cells
  go_wp2_with (go_at_call 9; refine (check7_any HK.out.v).mono ?_; rintro e v1 ⟨rfl, hb⟩)
  go_ret
  refine ⟨ret_b ?_, HB.out.trans (hb.mono HB.out.size)⟩
  rw [← HV0.out]
  rw [Bool.eq_iff_iff]; simp
set_option maxHeartbeats 1000000 in
set_option maxRecDepth 100000 in
theorem someL_any {f : File} {fa : FA} {w : World} (h : FileV w w.heap.size f fa) {v : Bool} (hv0 : someT f = v) :
    Calls Try.prog 22 #[fileVal f fa] w fun e w' => e = .returned (.bool v) ∧ Below w.heap.size w w' := by
  have HK := hide (BoxF.made h)
  have HB : Hid (Below w.heap.size w (w.alloc (.cells (fileCells f fa) 28))) := hide ((Below.refl _ _).alloc (Nat.le_refl _) _)
  clear h
  have HSL := hide (show someT f = (decide ((checkM f).2.2 = 0) && decide (((truthsM f []).length : Int) > 0)) from rfl)
  have HV0 := hide hv0
  clear hv0
  cases hc : decide ((checkM f).2.2 = 0)
  all_goals
    have HC := hide hc
    have HVV := hide (show decide ((checkM f).2.2 = 0) = true → Valid f from fun h => valid_of (by simpa using h))
    rw [hc] at HSL HVV
    clear hc
    go_enter Try.func22, Try.ntmps22
    go_upto_region 1 with (fail)
    generalize (w.alloc (.cells (fileCells f fa) 28)) = y0 at *
    obtain ⟨z, c1, c2, c3, c4, c5⟩ := HK.out.cells
  · go_wp2_with (go_at_call 26; refine (valid7_any HK.out.v HC.out).mono ?_; rintro e v1 ⟨rfl, hb⟩)
    go_ret
    exact ⟨ret_b (by rw [← HV0.out, HSL.out]; rfl), HB.out.trans (hb.mono HB.out.size)⟩
  · go_wp2_with (go_at_call 26; refine (valid7_any HK.out.v HC.out).mono ?_; rintro e v1 ⟨rfl, hb⟩; have HB := hide (HB.out.trans (hb.mono HB.out.size)); have HK := hide (HK.out.next hb); clear hb z c1 c2 c3 c4 c5; obtain ⟨z, c1, c2, c3, c4, c5⟩ := HK.out.cells)
    refine (truths7_any HK.out.v (HVV.out (by trivial)) IntsS.nil_).mono ?_
    rintro e v2 ⟨AT, cT, rfl, _, hb⟩
    go_wp2_with fail
    go_ret
    exact ⟨ret_b (by rw [← HV0.out, HSL.out]; simp), HB.out.trans (hb.mono HB.out.size)⟩
theorem subB_take (a b : List Int) {k : Nat} (h : k < a.length) : subB (a.take (k + 1)) b = (subB (a.take k) b && hasInt b (nth a k)) := by rw [subB, take_nth h]; simp [subB]
set_option maxHeartbeats 1000000 in
theorem subset_any {A A' : Option Addr} {n n' cp cp' B B' : Nat} {xs ys : List Int} {w : World} (h : IntsS w B A n cp xs) (h' : IntsS w B' A' n' cp' ys) (hs : subB xs ys = true) :
    Calls Try.prog 23 #[.slice A n cp, .slice A' n' cp'] w fun e w' => e = .returned (.bool true) ∧ w = w' := by
  have hm := h.bd
  have HN := hide h.len
  have HS := hide (show ∀ k, k < n → hasInt ys (nth xs k) = true from fun k hk => by
    rw [subB, List.all_eq_true] at hs
    exact hs _ (by rw [nth_eq (by rw [h.len]; exact hk)]; exact List.getElem_mem _))
  clear hs
  go_enter Try.func23, Try.ntmps23
  go_wp2
  go_loop [5] (fun i => ∃ j : Nat, j ≤ n ∧ i = .int .i64 j) (fun i => n - (intOf i).toNat)
  case atStart => exact ⟨0, Nat.zero_le _, rfl⟩
  case round =>
    obtain ⟨j, hj, rfl⟩ := hrel
    have hj0 : (0 : Int) ≤ (j : Int) := Int.natCast_nonneg _
    by_cases hlt : j < n
    · have hj1 : (j : Int) < (n : Int) := by omega
      obtain ⟨b, off, rfl, hb, hc⟩ := h.row (by omega)
      have y0 := hc j hlt
      rw [intsF] at y0
      have HH := hide (HS.out j hlt)
      clear hc
      go_wp2_with (go_at_call 25; refine (has_any h' (nth xs j)).mono ?_; rintro e v ⟨rfl, rfl⟩; rw [HH.out])
      go_round
      case rel => exact ⟨j + 1, by omega, by go_num⟩
      case measure => simp [intOf]; omega
    · go_wp2
      go_ret
      exact ⟨rfl, rfl⟩
end Go.Proofs.Ytllmahcanipcpaa
