/- What the spans of Turns hold of the hours. -/
import Derived.Test.YtbkknliggnhpcaaPb
set_option linter.unusedVariables false
set_option linter.unusedSimpArgs false
namespace Go.Proofs.Ytbkknliggnhpcaa
/-- What the spans of Turns hold of the hours. -/
theorem span_fold {n : Nat} : ∀ (hs : List Int) (a : Bool × List Int) (lo hi : Int), a.2 = [lo, hi] → ∃ lo' hi', (hs.foldl (spanStep n) a).2 = [lo', hi'] ∧ (a.1 = false → lo' ≤ lo ∧ hi ≤ hi') ∧ (∀ h ∈ hs, h ≠ (n : Int) + 1 → lo' ≤ h ∧ h ≤ hi') ∧
    ((a.1 = true ∧ ∀ h ∈ hs, h = (n : Int) + 1) ∨ ((lo' ∈ hs ∧ lo' ≠ (n : Int) + 1 ∨ a.1 = false ∧ lo' = lo) ∧ (hi' ∈ hs ∧ hi' ≠ (n : Int) + 1 ∨ a.1 = false ∧ hi' = hi)))
  | [], a, lo, hi, e => ⟨lo, hi, e, fun _ => ⟨Int.le_refl _, Int.le_refl _⟩, fun _ h => absurd h (by simp), by
      cases h : a.1 with
      | true => exact .inl ⟨rfl, fun _ h => absurd h (by simp)⟩
      | false => exact .inr ⟨.inr ⟨rfl, rfl⟩, .inr ⟨rfl, rfl⟩⟩⟩
  | x :: t, a, lo, hi, e => by
    rw [List.foldl_cons]
    by_cases hx : x = (n : Int) + 1
    · have es : spanStep n a x = (a.1, [lo, hi]) := by simp [spanStep, hx, e]
      rw [es]
      obtain ⟨lo', hi', h1, h2, h3, h4⟩ := span_fold t (a.1, [lo, hi]) lo hi rfl
      refine ⟨lo', hi', h1, h2, fun h hh hn => ?_, ?_⟩
      · rcases List.mem_cons.1 hh with rfl | hh
        · exact absurd hx hn
        · exact h3 h hh hn
      · rcases h4 with ⟨h5, h6⟩ | ⟨h5, h6⟩
        · refine .inl ⟨h5, fun h hh => ?_⟩
          rcases List.mem_cons.1 hh with rfl | hh
          · exact hx
          · exact h6 h hh
        · refine .inr ⟨?_, ?_⟩
          · rcases h5 with h5 | h5
            · exact .inl ⟨List.mem_cons_of_mem _ h5.1, h5.2⟩
            · exact .inr h5
          · rcases h6 with h6 | h6
            · exact .inl ⟨List.mem_cons_of_mem _ h6.1, h6.2⟩
            · exact .inr h6
    · have hnl : nth a.2 0 = lo ∧ nth a.2 1 = hi := by rw [e]; exact ⟨rfl, rfl⟩
      cases ha : a.1 with
      | true =>
        have es : spanStep n a x = (false, [x, x]) := by simp [spanStep, hx, ha, spanUp]
        rw [es]
        obtain ⟨lo', hi', h1, h2, h3, h4⟩ := span_fold t (false, [x, x]) x x rfl
        have h2' := h2 rfl
        refine ⟨lo', hi', h1, fun h => (by simp at h), fun h hh hn => ?_, .inr ⟨?_, ?_⟩⟩
        · rcases List.mem_cons.1 hh with rfl | hh
          · exact h2'
          · exact h3 h hh hn
        · rcases h4 with ⟨h5, _⟩ | ⟨h5 | h5, _⟩
          · simp at h5
          · exact .inl ⟨List.mem_cons_of_mem _ h5.1, h5.2⟩
          · exact .inl ⟨by rw [h5.2]; simp, by rw [h5.2]; exact hx⟩
        · rcases h4 with ⟨h5, _⟩ | ⟨_, h5 | h5⟩
          · simp at h5
          · exact .inl ⟨List.mem_cons_of_mem _ h5.1, h5.2⟩
          · exact .inl ⟨by rw [h5.2]; simp, by rw [h5.2]; exact hx⟩
      | false =>
        have es : spanStep n a x = (false, [min lo x, max hi x]) := by simp [spanStep, hx, ha, spanUp, hnl.1, hnl.2]
        rw [es]
        obtain ⟨lo', hi', h1, h2, h3, h4⟩ := span_fold t (false, [min lo x, max hi x]) (min lo x) (max hi x) rfl
        have h2' := h2 rfl
        refine ⟨lo', hi', h1, fun _ => by omega, fun h hh hn => ?_, .inr ⟨?_, ?_⟩⟩
        · rcases List.mem_cons.1 hh with rfl | hh
          · omega
          · exact h3 h hh hn
        · rcases h4 with ⟨h5, _⟩ | ⟨h5 | h5, _⟩
          · simp at h5
          · exact .inl ⟨List.mem_cons_of_mem _ h5.1, h5.2⟩
          · rcases Int.le_total lo x with h6 | h6
            · exact .inr ⟨rfl, by rw [h5.2]; omega⟩
            · exact .inl ⟨by rw [h5.2, Int.min_eq_right h6]; simp, by rw [h5.2, Int.min_eq_right h6]; exact hx⟩
        · rcases h4 with ⟨h5, _⟩ | ⟨_, h5 | h5⟩
          · simp at h5
          · exact .inl ⟨List.mem_cons_of_mem _ h5.1, h5.2⟩
          · rcases Int.le_total x hi with h6 | h6
            · exact .inr ⟨rfl, by rw [h5.2]; omega⟩
            · exact .inl ⟨by rw [h5.2, Int.max_eq_right h6]; simp, by rw [h5.2, Int.max_eq_right h6]; exact hx⟩
theorem settled_one {a b : Nat} : settledM a b = 1 ↔ a = b := by
  unfold settledM
  constructor
  · intro h; split at h
    · omega
    · split at h <;> omega
  · intro h; rw [if_pos (by omega)]
theorem settled_two {a b : Nat} (hb : 0 < b) : settledM a b = 2 ↔ a = 0 := by
  unfold settledM
  constructor
  · intro h; split at h
    · omega
    · split at h <;> omega
  · intro h; subst h; rw [if_neg (by omega)]; rfl
end Go.Proofs.Ytbkknliggnhpcaa
