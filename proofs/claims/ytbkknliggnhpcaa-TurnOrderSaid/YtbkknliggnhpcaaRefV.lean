/- Contracts of the law's some and subset. -/
import Derived.Test.YtbkknliggnhpcaaWrapA
import Derived.Test.YtbkknliggnhpcaaQm
set_option linter.unusedVariables false
set_option linter.unusedSimpArgs false
namespace Go.Proofs.Ytbkknliggnhpcaa
open Go.RowKit
attribute [local go_sem ↓] Go.wp_at_zero Go.wp_at_succ

set_option maxHeartbeats 1000000 in
set_option maxRecDepth 100000 in
theorem someL_any {A1 A2 A3 A4 : Option Addr} {c1 c2 c3 c4 : Nat} {c : Cargo} {w : World} (h : CargoV w w.heap.size c A1 A2 A3 A4 c1 c2 c3 c4) :
    Calls Try.prog 51 #[cargoVal c A1 A2 A3 A4 c1 c2 c3 c4] w fun e w' => e = .returned (.bool (someL c)) ∧ Below w.heap.size w w' := by
  have HK := hide (BoxC.made h)
  have HB : Hid (Below w.heap.size w (w.alloc (.cells #[.slice A1 c.heat.length c1, .int .i64 c.gas, .slice A2 c.holds.length c2, .slice A3 c.lots.length c3, .slice A4 c.seen.length c4] 27))) := hide ((Below.refl _ _).alloc (Nat.le_refl _) _)
  clear h
  have HSL := hide (show someL c = (decide ((checkM c).2.2 = 0) && someM c []) from rfl)
  cases hc : decide ((checkM c).2.2 = 0)
  all_goals
    have HC := hide hc
    have HVV := hide (show decide ((checkM c).2.2 = 0) = true → Valid c from fun h => valid_of (by simpa using h))
    rw [hc] at HSL HVV
    clear hc
    go_enter Try.func51, Try.ntmps51
    go_upto_region 1 with (fail)
    generalize (w.alloc (.cells #[.slice A1 c.heat.length c1, .int .i64 c.gas, .slice A2 c.holds.length c2, .slice A3 c.lots.length c3, .slice A4 c.seen.length c4] 27)) = v0 at *
    obtain ⟨hv, z, x0, x1, x2, x3, x4⟩ := HK.out
    have HV := hide hv
    clear hv
  · go_wp2_with (go_at_call 35; refine (valid7_any HV.out HC.out).mono ?_; rintro e v1 ⟨rfl, hb⟩)
    go_ret
    exact ⟨ret_b (by rw [HSL.out]; rfl), HB.out.trans (hb.mono HB.out.size)⟩
  · go_wp2_with (go_at_call 35; refine (valid7_any HV.out HC.out).mono ?_; rintro e v1 ⟨rfl, hb⟩; have HB := hide (HB.out.trans (hb.mono HB.out.size)); have HK := hide (HK.out.next hb); clear hb z x0 x1 x2 x3 x4 HV; obtain ⟨hv, z, x0, x1, x2, x3, x4⟩ := HK.out; have HV := hide hv; clear hv)
    refine (some7_any HV.out (HVV.out (by trivial)) IntsS.nil_).mono ?_
    rintro e v2 ⟨rfl, hb⟩
    go_wp2_with fail
    go_ret
    exact ⟨ret_b (by rw [HSL.out]; simp), HB.out.trans (hb.mono HB.out.size)⟩
theorem subB_take (a b : List Int) {k : Nat} (h : k < a.length) : subB (a.take (k + 1)) b = (subB (a.take k) b && hasInt b (nth a k)) := by rw [subB, take_nth h]; simp [subB]
set_option maxHeartbeats 1000000 in
theorem subset_any {A A' : Option Addr} {n n' cp cp' B B' : Nat} {xs ys : List Int} {w : World} (h : IntsS w B A n cp xs) (h' : IntsS w B' A' n' cp' ys) (hs : subB xs ys = true) :
    Calls Try.prog 52 #[.slice A n cp, .slice A' n' cp'] w fun e w' => e = .returned (.bool true) ∧ w = w' := by
  have hm := h.bd
  have HN := hide h.len
  have HS := hide (show ∀ k, k < n → hasInt ys (nth xs k) = true from fun k hk => by
    rw [subB, List.all_eq_true] at hs
    exact hs _ (by rw [nth_eq (by rw [h.len]; exact hk)]; exact List.getElem_mem _))
  clear hs
  go_enter Try.func52, Try.ntmps52
  go_wp2
  go_loop [5] (fun i => ∃ j : Nat, j ≤ n ∧ i = .int .i64 j) (fun i => n - (intOf i).toNat)
  case atStart => exact ⟨0, Nat.zero_le _, rfl⟩
  case round =>
    obtain ⟨j, hj, rfl⟩ := hrel
    have hj0 : (0 : Int) ≤ (j : Int) := Int.natCast_nonneg _
    by_cases hlt : j < n
    · have hj1 : (j : Int) < (n : Int) := by omega
      obtain ⟨b, off, rfl, hb, hc⟩ := h.row (by omega)
      have y0 := hc j hlt
      rw [intsF] at y0
      have HH := hide (HS.out j hlt)
      clear hc
      go_wp2_with (go_at_call 38; refine (has_any h' (nth xs j)).mono ?_; rintro e v ⟨rfl, rfl⟩; rw [HH.out])
      go_round
      case rel => exact ⟨j + 1, by omega, by go_num⟩
      case measure => simp [intOf]; omega
    · go_wp2
      go_ret
      exact ⟨rfl, rfl⟩
end Go.Proofs.Ytbkknliggnhpcaa
