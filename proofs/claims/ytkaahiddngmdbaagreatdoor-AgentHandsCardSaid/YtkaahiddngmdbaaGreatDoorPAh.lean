/- The statement AgentHands: for any two texts and two numbers the law returns true, and its arguments read as before. Its card. -/
import Derived.Test.YtkaahiddngmdbaaGreatDoorPA3
import Derived.Test.YtkaahiddngmdbaaGreatDoorPA4
import Derived.Test.YtkaahiddngmdbaaGreatDoorPA5
import Derived.Test.YtkaahiddngmdbaaGreatDoorTie
import Derived.Test.YtkaahiddngmdbaaGreatDoorCards
import Derived.SevenTiedAt
set_option linter.unusedVariables false
set_option linter.unusedSimpArgs false
namespace Go.Proofs.YtkaahiddngmdbaaGreatDoor
open Go.ChangeShapes Go.WideShapes Go.ChangeAt Go.RowKit
theorem agentHands_over : Rows.agentHandsRow.holds Tryz.pinned (OpenSpec.ofChange Rows.agentHandsSpec) :=
 OpenClaim.holds_of_wide 4 Tryz.f4 rfl rfl rfl rfl rfl rfl rfl ⟨rfl, rfl, rfl, rfl, rfl⟩ rfl rfl rfl rfl rfl Tryz.namedAgentHands Tryz.func4 Tryz.joinedAgentHands
  (of_decide_eq_true (by kernel_rfl)) (by unfold Func.isWrapper; first | (rw [if_pos (by decide +kernel)]; kernel_rfl) | (rw [if_neg (by decide +kernel)]; exact ⟨rfl, rfl⟩))
  (fun os started H enc _ => agentHands_lifted os started H enc)
theorem agentHandsCard_holds : Rows.AgentHandsCardSaid :=
 Claim7.holds_tied_plain_at .later [] [.data, .data, .data, .data, .pinned] true (true, "e2c15947f2e73db7b6b75a776b03eb1527c3689832d571407f9092d33be9948f") true agentHands_over (fun _ h => by cases h) (by kernel_rfl) (fun _ h => by cases h) agentHands_row_tie rfl ⟨rfl, rfl⟩ (by kernel_rfl) rfl
  (fun f fn hf hfn => by
   obtain rfl : f = 4 := Option.some.inj (Tryz.namedAgentHands.symm.trans hf) |>.symm
   obtain rfl : fn = Tryz.f4 := (Option.some.inj (Tryz.func4.symm.trans hfn)).symm
   exact ⟨by kernel_rfl, fun j t ht => by
    rw [Tryz.params4] at ht
    have hm : t ∈ ([9, 9, 82] : List TypeId) := by simpa using Array.mem_of_getElem? ht
    have hall : (([9, 9, 82] : List TypeId).all fun u => !Tryz.prog.wantsStandIn u) = true := by kernel_rfl
    exact (show Tryz.prog.wantsStandIn t = false by simpa using List.all_eq_true.1 hall t hm)⟩)
  Tryz.goesAgentHands
#print axioms agentHandsCard_holds
end Go.Proofs.YtkaahiddngmdbaaGreatDoor
