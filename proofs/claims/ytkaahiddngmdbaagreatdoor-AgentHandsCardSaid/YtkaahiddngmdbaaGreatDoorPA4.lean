/- The law AgentHands starts no goroutine. -/
import Derived.Test.YtkaahiddngmdbaaGreatDoorPA2
import GoSem.ClaimGoes
set_option linter.unusedVariables false
set_option linter.unusedSimpArgs false
namespace Go.Proofs.YtkaahiddngmdbaaGreatDoor
set_option maxRecDepth 100000
theorem Tryz.namedAgentHands : Tryz.prog.funcNamed "ratoon/ratoonlaw13.AgentHands" = some 4 := by kernel_rfl
theorem Tryz.goesAAgentHands : (Tryz.prog.funcs.any Func.goes) = false := by kernel_rfl
theorem Tryz.goesBAgentHands : ((Tryz.prog.closure 4).any fun g => (Tryz.prog.funcs[g]?).any Func.goes) = false := by
 rw [Tryz.cloAgentHands]
 kernel_rfl
theorem Tryz.goesCAgentHands : Tryz.prog.goes 4 = false := by
 unfold Program.goes
 rw [Tryz.goesBAgentHands, Tryz.goesAAgentHands, Tryz.unfAgentHands]
 rfl
theorem Tryz.goesDAgentHands : Tryz.prog.goesFrom "ratoon/ratoonlaw13.AgentHands" = false := by
 unfold Program.goesFrom
 rw [Tryz.namedAgentHands, Option.any_some, Tryz.goesCAgentHands]
theorem Tryz.goesAgentHands : false = Rows.agentHandsRow.goesBy Tryz.prog := by
 have h : Rows.agentHandsRow.goesBy Tryz.prog = (Tryz.prog.goesFrom "ratoon/ratoonlaw13.AgentHands" || false) := rfl
 rw [h, Tryz.goesDAgentHands]
 rfl
end Go.Proofs.YtkaahiddngmdbaaGreatDoor
