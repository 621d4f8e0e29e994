/- The errors of Out; lots that a choice names. Plain words. -/
import Derived.Test.YtbkknliggnhpcaaRefI
set_option linter.unusedVariables false
set_option linter.unusedSimpArgs false
namespace Go.Proofs.Ytbkknliggnhpcaa
theorem hourE_zero {c : Cargo} {n e : Int} (h : hourE c n e = 0) : e = 0 ∧ 0 ≤ n ∧ n ≤ c.heat.length := by
  rw [hourE] at h
  split at h
  · cases h
  · rename_i h2
    refine ⟨h, ?_⟩
    have : offP 0 c.heat.length n = false := by
      cases ho : offP 0 (c.heat.length : Int) n with
      | false => rfl
      | true => exact absurd ⟨h, ho⟩ h2
    exact offP_false.1 this
theorem hourE_valid2 {c : Cargo} {n m b : Int} (h : hourE c n (indexE c m b) = 0) : Valid c := (indexE_valid (hourE_zero h).1).1
def outE7 (c : Cargo) (hold un : Int) : Int := truthE c (hourE c un (indexE c hold c.holds.length))
theorem outE7_valid {c : Cargo} {hold un : Int} (h : outE7 c hold un = 0) : Valid c ∧ someM c [] = true ∧ 0 ≤ hold ∧ hold < c.holds.length ∧ 0 ≤ un ∧ un ≤ c.heat.length := by
  obtain ⟨h1, h2⟩ := truthE_zero h
  obtain ⟨h3, h4, h5⟩ := hourE_zero h1
  obtain ⟨h6, h7, h8⟩ := indexE_valid h3
  exact ⟨h6, h2, h7, by omega, h4, h5⟩
/-- The lots that a choice names. -/
def ownC (L : List Nat) (g : List Int) : List Int := g.map fun x => ((nth L x.toNat : Nat) : Int)
end Go.Proofs.Ytbkknliggnhpcaa
