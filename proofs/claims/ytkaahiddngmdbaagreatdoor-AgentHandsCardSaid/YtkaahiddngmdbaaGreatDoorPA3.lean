/- The closed facts of the row of AgentHands. -/
import Derived.Test.YtkaahiddngmdbaaGreatDoorPA2
set_option linter.unusedVariables false
set_option linter.unusedSimpArgs false
namespace Go.Proofs.YtkaahiddngmdbaaGreatDoor
set_option maxRecDepth 100000
theorem Tryz.joinedAgentHands : joinedFacts Tryz.prog 4 Tryz.f4 Rows.agentHandsSpec Rows.agentHandsRow = true := by
 unfold joinedFacts
 rw [Tryz.inpAgentHands, Tryz.unfAgentHands, Tryz.recAgentHands, Tryz.namAgentHands]
 kernel_rfl
end Go.Proofs.YtkaahiddngmdbaaGreatDoor
