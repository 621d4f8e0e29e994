/- What the row of AgentHands says of the functions that are reached. -/
import Derived.Test.YtkaahiddngmdbaaGreatDoorPA1
set_option linter.unusedVariables false
set_option linter.unusedSimpArgs false
namespace Go.Proofs.YtkaahiddngmdbaaGreatDoor
set_option maxRecDepth 100000
theorem Tryz.unfAgentHands : Tryz.prog.unfollowed 4 = true := by
 unfold Program.unfollowed
 rw [Tryz.cloAgentHands]
 kernel_rfl
theorem Tryz.recAgentHands : Tryz.prog.recurses 4 = true := by
 unfold Program.recurses
 rw [Tryz.unfAgentHands]
 rfl
theorem Tryz.inpAgentHands : Tryz.prog.inPlace 4 = Rows.agentHandsRow.inPlace := by
 unfold Program.inPlace
 rw [Tryz.cloAgentHands]
 kernel_rfl
theorem Tryz.namAgentHands : Tryz.prog.varsNamed 4 = Rows.agentHandsRow.named := by
 unfold Program.varsNamed
 rw [Tryz.cloAgentHands]
 kernel_rfl
end Go.Proofs.YtkaahiddngmdbaaGreatDoor
