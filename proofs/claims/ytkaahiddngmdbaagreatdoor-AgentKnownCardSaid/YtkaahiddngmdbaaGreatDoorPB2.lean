/- What the row of AgentKnown says of the functions that are reached. -/
import Derived.Test.YtkaahiddngmdbaaGreatDoorPB1
set_option linter.unusedVariables false
set_option linter.unusedSimpArgs false
namespace Go.Proofs.YtkaahiddngmdbaaGreatDoor
set_option maxRecDepth 100000
theorem Tryz.unfAgentKnown : Tryz.prog.unfollowed 3 = true := by
 unfold Program.unfollowed
 rw [Tryz.cloAgentKnown]
 kernel_rfl
theorem Tryz.recAgentKnown : Tryz.prog.recurses 3 = true := by
 unfold Program.recurses
 rw [Tryz.unfAgentKnown]
 rfl
theorem Tryz.inpAgentKnown : Tryz.prog.inPlace 3 = Rows.agentKnownRow.inPlace := by
 unfold Program.inPlace
 rw [Tryz.cloAgentKnown]
 kernel_rfl
theorem Tryz.namAgentKnown : Tryz.prog.varsNamed 3 = Rows.agentKnownRow.named := by
 unfold Program.varsNamed
 rw [Tryz.cloAgentKnown]
 kernel_rfl
end Go.Proofs.YtkaahiddngmdbaaGreatDoor
