/- some of the law; LedgerMissing. -/
import Derived.Test.YtocdmkilnbpkdaaGreatDoorIA
import Derived.Test.YtocdmkilnbpkdaaGreatDoorQB
import Derived.OwnWalkIn
import Derived.OwnWalk
import Derived.Laws.AppendOwn
import Derived.Laws.StructEq
import Derived.TacticsInMore
import Derived.Deep.DeepCutAuto
set_option linter.unusedVariables false
set_option linter.unusedSimpArgs false
namespace Go.Proofs.YtocdmkilnbpkdaaGreatDoor
open Go.RowKit
attribute [local go_sem] Oper.semAt_some

theorem valid12_good {b : Book} (h : (checkM b).2.2 = 0) : Good b ∧ b.tallies.length ≤ 12 := ⟨(valid_of h).good, by have := (valid_of h).tallies; omega⟩
end Go.Proofs.YtocdmkilnbpkdaaGreatDoor
