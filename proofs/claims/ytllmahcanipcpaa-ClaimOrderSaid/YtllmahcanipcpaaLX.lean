/- What the program answers of the examples' files. -/
import Derived.Test.YtllmahcanipcpaaLA
set_option linter.unusedVariables false
set_option linter.unusedSimpArgs false
namespace Go.Proofs.Ytllmahcanipcpaa
open Go.RowKit
set_option maxRecDepth 100000 in
theorem ex_who : whoV (lawF []) 0 = ([2, 3], 0) ∧ whoV (lawF [⟨1, 0, 1⟩]) 0 = ([], 8) ∧ whoV (lawF []) 1 = ([1, 2], 0) ∧ whoV (lawF [⟨2, 0, 1⟩]) 0 = ([2], 0) := ⟨by kernel_rfl, by kernel_rfl, by kernel_rfl, by kernel_rfl⟩
theorem ex_pays : payV (lawF []) 0 = (2, 0) ∧ payV (lawF []) 4 = (0, 0) ∧ payV (lawF [⟨2, 0, 1⟩]) 4 = (1, 0) ∧ payV (lawF []) 2 = (2, 0) := ⟨by kernel_rfl, by kernel_rfl, by kernel_rfl, by kernel_rfl⟩
theorem ex_held : heldV (lawF []) = ([1, 3, 4], 0) ∧ heldV (lawF [⟨2, 0, 1⟩]) = ([], 0) := ⟨by kernel_rfl, by kernel_rfl⟩
theorem ex_owes : owesV (lawF []) 2 = (⟨0, 65⟩, 0) ∧ owesV (lawF [⟨2, 0, 1⟩]) 2 = (⟨65, 65⟩, 0) ∧ owesV (lawF []) 3 = (⟨0, 40⟩, 0) := ⟨by kernel_rfl, by kernel_rfl, by kernel_rfl⟩
theorem ex_open : openV (lawF []) = ([1], 0) ∧ openV (lawF [⟨2, 0, 1⟩]) = ([], 0) := ⟨by kernel_rfl, by kernel_rfl⟩
theorem ex_next : nextV (lawF []) 1 12 = ((1, 2), 0) ∧ (nextV (lawF []) 1 13).2 = 9 := ⟨by kernel_rfl, by kernel_rfl⟩
theorem ex_wrong : wrongV (lawF [⟨1, 0, 1⟩]) = ([1], 0) ∧ wrongV (lawF [⟨2, 0, 1⟩]) = ([], 0) := ⟨by kernel_rfl, by kernel_rfl⟩
end Go.Proofs.Ytllmahcanipcpaa
