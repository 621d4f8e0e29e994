/- No look of a told cargo must be wrong. -/
import Derived.Test.YtbkknliggnhpcaaQa
import Derived.Test.YtbkknliggnhpcaaPd
set_option linter.unusedVariables false
set_option linter.unusedSimpArgs false
namespace Go.Proofs.Ytbkknliggnhpcaa
theorem told_wrong {c : Cargo} {l : List Int} (hv : Valid c) : wrongV (toldC c l) = ([], 0) := by
  have hv' := toldC_valid (l := l) hv
  rw [wrongV, if_neg (by rw [valid_check hv']; simp)]
  have hn := hv'.seens
  have hp : 0 < 2 ^ (toldC c l).seen.length := Nat.pow_pos (by omega)
  have h0 : someS (toldC c l) 0 = true := by rw [someS_zero hv']; exact told_some hv
  have hl := fwTo_least (ans := someS (toldC c l)) hn (2 ^ (toldC c l).seen.length) (Nat.le_refl _)
  have e0 : ∀ n, listN 0 n = [] := fun n => by simp [listN]
  cases ho : fwTo (toldC c l).seen.length (someS (toldC c l)) (2 ^ (toldC c l).seen.length) with
  | none => rw [ho] at hl; have := hl 0 hp; rw [h0] at this; cases this
  | some b =>
    rw [ho] at hl
    obtain ⟨s, _, _, _, hm⟩ := hl
    have := hm 0 hp h0
    rw [e0] at this
    have hb : b = [] := by
      cases b with
      | nil => rfl
      | cons x t => simp [rk] at this; omega
    rw [hb]; rfl
end Go.Proofs.Ytbkknliggnhpcaa
