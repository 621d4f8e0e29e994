/- within and subset of the law. -/
import Derived.Test.YtocdmkilnbpkdaaGreatDoorQL
import Derived.OwnWalkIn
import Derived.OwnWalk
import Derived.TacticsInMore
import Derived.Deep.DeepCutAuto
set_option linter.unusedVariables false
set_option linter.unusedSimpArgs false
namespace Go.Proofs.YtocdmkilnbpkdaaGreatDoor
open Go.RowKit

set_option maxHeartbeats 400000 in
set_option maxRecDepth 100000 in
theorem within12_any (p q : Span) (w : World) : Calls Tryz.prog 55 #[.agg #[.int .i64 p.lo, .int .i64 p.hi], .agg #[.int .i64 q.lo, .int .i64 q.hi]] w fun e w' => e = .returned (.bool (withB p q)) ∧ Below w.heap.size w w' := by
 obtain ⟨p1, p2⟩ := p
 obtain ⟨q1, q2⟩ := q
 have HW := hide (show withB ⟨p1, p2⟩ ⟨q1, q2⟩ = (decide (q1 ≤ p1) && decide (p2 ≤ q2)) from rfl)
 have hA : Below w.heap.size w ((w.alloc (.cells #[.int .i64 p1, .int .i64 p2] 30)).alloc (.cells #[.int .i64 q1, .int .i64 q2] 30)) := ((Below.refl _ _).alloc (Nat.le_refl _) _).alloc (by simp) _
 go_enter Tryz.func55, Tryz.ntmps55
 by_cases h1 : q1 ≤ p1 <;> by_cases h2 : p2 ≤ q2
 all_goals
  go_wp2
  go_ret
  exact ⟨ret_b (by rw [HW.out]; simp [h1, h2]), hA⟩
set_option maxHeartbeats 400000 in
set_option maxRecDepth 100000 in
theorem subset12_any {A A' : Option Addr} {n n' cp cp' B B' : Nat} {xs ys : List Int} {w : World} (h : IntsS w B A n cp xs) (h' : IntsS w B' A' n' cp' ys) (hs : subB xs ys = true) :
 Calls Tryz.prog 54 #[.slice A n cp, .slice A' n' cp'] w fun e w' => e = .returned (.bool true) ∧ w = w' := by
 have hm := h.bd
 have HN := hide h.len
 have HS := hide (show ∀ k, k < n → hasInt ys (nth xs k) = true from fun k hk => by
  rw [subB, List.all_eq_true] at hs
  exact hs _ (by rw [nth_eq (by rw [h.len]; exact hk)]; exact List.getElem_mem _))
 clear hs
 go_enter Tryz.func54, Tryz.ntmps54
 go_wp2
 go_loop [5] (fun i => ∃ j : Nat, j ≤ n ∧ i = .int .i64 j) (fun i => n - (intOf i).toNat)
 case atStart => exact ⟨0, Nat.zero_le _, rfl⟩
 case round =>
  obtain ⟨j, hj, rfl⟩ := hrel
  have hj0 : (0 : Int) ≤ (j : Int) := Int.natCast_nonneg _
  by_cases hlt : j < n
  · have hj1 : (j : Int) < (n : Int) := by omega
    obtain ⟨b, off, rfl, hb, hc⟩ := h.row (by omega)
    have y0 := hc j hlt
    rw [intsF] at y0
    have HH := hide (HS.out j hlt)
    clear hc
    go_wp2_with (go_at_call 46; refine (has_any h' (nth xs j)).mono ?_; rintro e v ⟨rfl, rfl⟩; rw [HH.out])
    go_round
    case rel => exact ⟨j + 1, by omega, by go_num⟩
    case measure => simp [intOf]; omega
  · go_wp2
    go_ret
    exact ⟨rfl, rfl⟩
end Go.Proofs.YtocdmkilnbpkdaaGreatDoor
