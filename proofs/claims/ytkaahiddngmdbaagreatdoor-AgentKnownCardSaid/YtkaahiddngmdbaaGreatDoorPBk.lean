/- The statement AgentKnown: the law returns true: the examples of the document. Its card. -/
import Derived.Test.YtkaahiddngmdbaaGreatDoorPB3
import Derived.Test.YtkaahiddngmdbaaGreatDoorPB4
import Derived.Test.YtkaahiddngmdbaaGreatDoorPB5
import Derived.Test.YtkaahiddngmdbaaGreatDoorTie
import Derived.Test.YtkaahiddngmdbaaGreatDoorCards
import Derived.SevenTiedAt
set_option linter.unusedVariables false
set_option linter.unusedSimpArgs false
namespace Go.Proofs.YtkaahiddngmdbaaGreatDoor
open Go.ChangeShapes Go.WideShapes Go.ChangeAt Go.RowKit
theorem agentKnown_over : Rows.agentKnownRow.holds Tryz.pinned (OpenSpec.ofChange Rows.agentKnownSpec) :=
 OpenClaim.holds_of_wide 3 Tryz.f3 rfl rfl rfl rfl rfl rfl rfl ⟨rfl, rfl, rfl, rfl, rfl⟩ rfl rfl rfl rfl rfl Tryz.namedAgentKnown Tryz.func3 Tryz.joinedAgentKnown
  (of_decide_eq_true (by kernel_rfl)) (by unfold Func.isWrapper; first | (rw [if_pos (by decide +kernel)]; kernel_rfl) | (rw [if_neg (by decide +kernel)]; exact ⟨rfl, rfl⟩))
  (fun os started H enc _ => agentKnown_lifted os started H enc)
theorem agentKnownCard_holds : Rows.AgentKnownCardSaid :=
 Claim7.holds_tied_plain_at .later [] [.data, .data, .data, .data, .pinned] true (true, "e2c15947f2e73db7b6b75a776b03eb1527c3689832d571407f9092d33be9948f") true agentKnown_over (fun _ h => by cases h) (by kernel_rfl) (fun _ h => by cases h) agentKnown_row_tie rfl ⟨rfl, rfl⟩ (by kernel_rfl) rfl
  (fun f fn hf hfn => by
   obtain rfl : f = 3 := Option.some.inj (Tryz.namedAgentKnown.symm.trans hf) |>.symm
   obtain rfl : fn = Tryz.f3 := (Option.some.inj (Tryz.func3.symm.trans hfn)).symm
   exact ⟨by kernel_rfl, fun j t ht => by
    rw [Tryz.params3] at ht
    have hm : t ∈ ([] : List TypeId) := by simpa using Array.mem_of_getElem? ht
    have hall : (([] : List TypeId).all fun u => !Tryz.prog.wantsStandIn u) = true := by kernel_rfl
    exact (show Tryz.prog.wantsStandIn t = false by simpa using List.all_eq_true.1 hall t hm)⟩)
  Tryz.goesAgentKnown
#print axioms agentKnownCard_holds
end Go.Proofs.YtkaahiddngmdbaaGreatDoor
