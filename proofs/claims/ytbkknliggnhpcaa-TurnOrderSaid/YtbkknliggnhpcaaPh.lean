/- When lots turn does not depend on more of a cargo than heat, gas and from when lots are there. -/
import Derived.Test.YtbkknliggnhpcaaPa
set_option linter.unusedVariables false
set_option linter.unusedSimpArgs false
namespace Go.Proofs.Ytbkknliggnhpcaa
section
variable {c c' : Cargo} (h1 : c.heat = c'.heat) (h2 : c.gas = c'.gas) (h3 : ∀ i, (nth c.lots i).frm = (nth c'.lots i).frm)
include h1 h2 h3
/-- When lots turn does not depend on more than heat, gas and from when lots are there. -/
theorem outAt_cargo (l : List Nat) (w : Int) (g : List Int) (h i : Nat) : outAt c l w g h i = outAt c' l w g h i := by
  have hT : turnedB c = turnedB c' := by funext h left i; rw [turnedB, turnedB, h3]
  have hL : ∀ k, leftL c l w g k = leftL c' l w g k := fun k => by
    induction k with
    | zero => rfl
    | succ k ih =>
      have ht : takeAt c l w k = takeAt c' l w k := by
        funext left i
        rw [takeAt, takeAt, gasB, gasB, hT, h1, h2, h3]
      rw [leftL, leftL, stepL, stepL, ih, ht]
  rw [outAt, outAt, hT, h1]
  simp only [hL]
theorem timesV_cargo (h4 : c.lots.length = c'.lots.length) (s : St) : timesV c s = timesV c' s := by
  rw [timesV, timesV, timesP, timesP, h4]
  refine List.map_congr_left fun i _ => ?_
  rw [outAt_cargo h1 h2 h3, h1]
end
end Go.Proofs.Ytbkknliggnhpcaa
