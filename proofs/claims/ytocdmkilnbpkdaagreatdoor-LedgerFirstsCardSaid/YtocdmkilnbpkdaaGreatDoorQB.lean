/- LedgerRound of the law. -/
import Derived.Test.YtocdmkilnbpkdaaGreatDoorQA
import Derived.OwnWalkIn
import Derived.TacticsInMore
import Derived.Deep.DeepCutAuto
set_option linter.unusedVariables false
set_option linter.unusedSimpArgs false
namespace Go.Proofs.YtocdmkilnbpkdaaGreatDoor
open Go.RowKit
attribute [local go_sem] Oper.semAt_some

theorem BookV.nil_ {w : World} {B : Nat} : BookV w B ⟨[], []⟩ ⟨none, none, 0, 0⟩ :=
 ⟨fun hm => absurd hm (by simp), fun hm => absurd hm (by simp), fun j hj => absurd hj (Nat.not_lt_zero _), by simp [maxLen], by simp [maxLen]⟩
end Go.Proofs.YtocdmkilnbpkdaaGreatDoor
