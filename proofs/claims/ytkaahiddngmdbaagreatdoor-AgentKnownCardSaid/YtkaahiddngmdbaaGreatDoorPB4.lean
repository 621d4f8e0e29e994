/- The law AgentKnown starts no goroutine. -/
import Derived.Test.YtkaahiddngmdbaaGreatDoorPB2
import GoSem.ClaimGoes
set_option linter.unusedVariables false
set_option linter.unusedSimpArgs false
namespace Go.Proofs.YtkaahiddngmdbaaGreatDoor
set_option maxRecDepth 100000
theorem Tryz.namedAgentKnown : Tryz.prog.funcNamed "ratoon/ratoonlaw13.AgentKnown" = some 3 := by kernel_rfl
theorem Tryz.goesAAgentKnown : (Tryz.prog.funcs.any Func.goes) = false := by kernel_rfl
theorem Tryz.goesBAgentKnown : ((Tryz.prog.closure 3).any fun g => (Tryz.prog.funcs[g]?).any Func.goes) = false := by
 rw [Tryz.cloAgentKnown]
 kernel_rfl
theorem Tryz.goesCAgentKnown : Tryz.prog.goes 3 = false := by
 unfold Program.goes
 rw [Tryz.goesBAgentKnown, Tryz.goesAAgentKnown, Tryz.unfAgentKnown]
 rfl
theorem Tryz.goesDAgentKnown : Tryz.prog.goesFrom "ratoon/ratoonlaw13.AgentKnown" = false := by
 unfold Program.goesFrom
 rw [Tryz.namedAgentKnown, Option.any_some, Tryz.goesCAgentKnown]
theorem Tryz.goesAgentKnown : false = Rows.agentKnownRow.goesBy Tryz.prog := by
 have h : Rows.agentKnownRow.goesBy Tryz.prog = (Tryz.prog.goesFrom "ratoon/ratoonlaw13.AgentKnown" || false) := rfl
 rw [h, Tryz.goesDAgentKnown]
 rfl
end Go.Proofs.YtkaahiddngmdbaaGreatDoor
