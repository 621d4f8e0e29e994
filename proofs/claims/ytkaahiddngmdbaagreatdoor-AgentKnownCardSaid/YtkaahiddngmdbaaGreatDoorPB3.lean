/- The closed facts of the row of AgentKnown. -/
import Derived.Test.YtkaahiddngmdbaaGreatDoorPB2
set_option linter.unusedVariables false
set_option linter.unusedSimpArgs false
namespace Go.Proofs.YtkaahiddngmdbaaGreatDoor
set_option maxRecDepth 100000
theorem Tryz.joinedAgentKnown : joinedFacts Tryz.prog 3 Tryz.f3 Rows.agentKnownSpec Rows.agentKnownRow = true := by
 unfold joinedFacts
 rw [Tryz.inpAgentKnown, Tryz.unfAgentKnown, Tryz.recAgentKnown, Tryz.namAgentKnown]
 kernel_rfl
end Go.Proofs.YtkaahiddngmdbaaGreatDoor
