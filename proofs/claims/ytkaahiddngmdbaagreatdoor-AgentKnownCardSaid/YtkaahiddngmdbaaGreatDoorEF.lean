/- An evaluator of calls, and its soundness (EF). -/
import Derived.Test.YtkaahiddngmdbaaGreatDoorEE
set_option linter.unusedVariables false
set_option linter.unusedSimpArgs false
namespace Go.Ev
open Go.Proofs
noncomputable def k_voyage : Known := ⟨74, [.agg [.int .i64 12, .int .i64 2, .int .i64 4, .slice 0 0 3 (some 3) 2, .slice 1 0 3 (some 3) 2, .int .i64 1, .nils]], [([.str [116,114,97,109], .int .i64 0, .str [115,104,105,112], .int .i64 4, .str [116,114,97,105,110], .int .i64 9], true), ([.int .i64 2, .bool true, .int .i64 5, .bool false, .int .i64 9, .bool true], true)], .tuple [.int .i64 0, .int .i64 0, .int .i64 0]⟩
theorem k_voyage_ok : KnownOk Tryz.prog k_voyage := knownOk_of ((E_ok K0_ok 3000).call 74 k_voyage.args (rowsS k_voyage.rows)) (by kernel_rfl)
noncomputable def k_causes : Known2 := ⟨75, [.agg [.int .i64 12, .int .i64 2, .int .i64 4, .slice 0 0 3 (some 3) 2, .slice 1 0 3 (some 3) 2, .int .i64 1, .nils], .int .i64 0], [([.str [116,114,97,109], .int .i64 0, .str [115,104,105,112], .int .i64 4, .str [116,114,97,105,110], .int .i64 9], true), ([.int .i64 2, .bool true, .int .i64 5, .bool false, .int .i64 9, .bool true], true)], .tuple [.slice 0 0 3 none 1, .int .i64 0], [.int .i64 0, .int .i64 1, .int .i64 2]⟩
theorem k_causes_ok : Known2Ok Tryz.prog k_causes := known2Ok_of 127 ((E_ok K0_ok 3000).call 75 k_causes.args (rowsS k_causes.rows)) (by kernel_rfl)
noncomputable def k_cargo1 : Known := ⟨63, [.agg [.slice 0 0 6 (some 6) 1, .int .i64 2, .slice 1 0 2 (some 2) 2, .slice 2 0 4 none 4, .nils]], [([.int .i64 0, .int .i64 0, .int .i64 0, .int .i64 1, .int .i64 0, .int .i64 0], true), ([.int .i64 1, .int .i64 2, .int .i64 1, .int .i64 1], true), ([.int .i64 0, .int .i64 0, .int .i64 4, .int .i64 5, .int .i64 0, .int .i64 0, .int .i64 10, .int .i64 10, .int .i64 1, .int .i64 2, .int .i64 6, .int .i64 6, .int .i64 1, .int .i64 1, .int .i64 8, .int .i64 8], true)], .tuple [.int .i64 0, .int .i64 0, .int .i64 0]⟩
theorem k_cargo1_ok : KnownOk Tryz.prog k_cargo1 := knownOk_of ((E_ok K0_ok 3000).call 63 k_cargo1.args (rowsS k_cargo1.rows)) (by kernel_rfl)
noncomputable def k_first1 : Known2 := ⟨64, [.agg [.slice 0 0 6 (some 6) 1, .int .i64 2, .slice 1 0 2 (some 2) 2, .slice 2 0 4 none 4, .nils], .int .i64 0], [([.int .i64 0, .int .i64 0, .int .i64 0, .int .i64 1, .int .i64 0, .int .i64 0], true), ([.int .i64 1, .int .i64 2, .int .i64 1, .int .i64 1], true), ([.int .i64 0, .int .i64 0, .int .i64 4, .int .i64 5, .int .i64 0, .int .i64 0, .int .i64 10, .int .i64 10, .int .i64 1, .int .i64 2, .int .i64 6, .int .i64 6, .int .i64 1, .int .i64 1, .int .i64 8, .int .i64 8], true)], .tuple [.slice 0 0 1 none 1, .int .i64 0], [.int .i64 0]⟩
theorem k_first1_ok : Known2Ok Tryz.prog k_first1 := known2Ok_of 514 ((E_ok K0_ok 3000).call 64 k_first1.args (rowsS k_first1.rows)) (by kernel_rfl)
end Go.Ev
namespace Go.Ev
open Go.Proofs
noncomputable def k_put : Known2 := ⟨344, [.agg [.slice 0 0 6 (some 6) 1, .int .i64 2, .slice 1 0 2 (some 2) 2, .slice 2 0 3 (some 3) 4, .nils], .agg [.int .i64 8, .int .i64 8], .int .i64 1, .int .i64 5], [([.int .i64 0, .int .i64 0, .int .i64 0, .int .i64 1, .int .i64 0, .int .i64 0], true), ([.int .i64 1, .int .i64 2, .int .i64 1, .int .i64 1], true), ([.int .i64 0, .int .i64 0, .int .i64 4, .int .i64 5, .int .i64 0, .int .i64 0, .int .i64 10, .int .i64 10, .int .i64 1, .int .i64 2, .int .i64 6, .int .i64 6], true)], .tuple [.slice 0 0 1 none 1, .int .i64 0], [.int .i64 1]⟩
theorem k_put_ok : Known2Ok Tryz.prog k_put := known2Ok_of 763 ((E_ok K0_ok 3000).call 344 k_put.args (rowsS k_put.rows)) (by kernel_rfl)
noncomputable def k_full : Known := ⟨336, [.agg [.int .i64 50, .int .i64 6, .int .i64 8, .slice 0 0 3 (some 3) 6], .slice 1 0 3 none 1], [([.str [97,108,116,111], .int .i64 1, .int .i64 1, .int .i64 5, .int .i64 20, .int .i64 25, .str [98,97,106,111], .int .i64 2, .int .i64 1, .int .i64 4, .int .i64 30, .int .i64 30, .str [99,105,109,97], .int .i64 1, .int .i64 2, .int .i64 3, .int .i64 40, .int .i64 45], true), ([.int .i64 2, .int .i64 (-1), .int .i64 (-1)], true)], .tuple [.int .i64 2, .int .i64 0]⟩
theorem k_full_ok : KnownOk Tryz.prog k_full := knownOk_of ((E_ok K0_ok 3000).call 336 k_full.args (rowsS k_full.rows)) (by kernel_rfl)
end Go.Ev
namespace Go.Ev
open Go.Proofs
noncomputable def k_file1 : Known := ⟨68, [.agg [.slice 0 0 4 (some 4) 1, .slice 1 0 4 (some 4) 1, .slice 2 0 2 (some 2) 4, .slice 5 0 2 none 3, .slice 6 0 1 none 3]], [([.str [102,97,114,109], .str [108,105,110,101], .str [115,104,105,112], .str [104,111,117,115,101]], true), ([.int .i64 10, .int .i64 12, .int .i64 20, .int .i64 30], true), ([.slice 3 0 4 (some 4) 1, .int .i64 1, .int .i64 3, .int .i64 40, .slice 4 0 2 (some 2) 1, .int .i64 0, .int .i64 1, .int .i64 25], true), ([.int .i64 0, .int .i64 1, .int .i64 2, .int .i64 3], true), ([.int .i64 1, .int .i64 2], true), ([.int .i64 0, .int .i64 0, .int .i64 2, .int .i64 2, .int .i64 0, .int .i64 1], false), ([.int .i64 0, .int .i64 2, .int .i64 2], true)], .tuple [.int .i64 0, .int .i64 0, .int .i64 0]⟩
theorem k_file1_ok : KnownOk Tryz.prog k_file1 := knownOk_of ((E_ok K0_ok 3000).call 68 k_file1.args (rowsS k_file1.rows)) (by kernel_rfl)
noncomputable def k_open1 : Known2 := ⟨69, [.agg [.slice 0 0 4 (some 4) 1, .slice 1 0 4 (some 4) 1, .slice 2 0 2 (some 2) 4, .slice 5 0 2 none 3, .slice 6 0 1 none 3]], [([.str [102,97,114,109], .str [108,105,110,101], .str [115,104,105,112], .str [104,111,117,115,101]], true), ([.int .i64 10, .int .i64 12, .int .i64 20, .int .i64 30], true), ([.slice 3 0 4 (some 4) 1, .int .i64 1, .int .i64 3, .int .i64 40, .slice 4 0 2 (some 2) 1, .int .i64 0, .int .i64 1, .int .i64 25], true), ([.int .i64 0, .int .i64 1, .int .i64 2, .int .i64 3], true), ([.int .i64 1, .int .i64 2], true), ([.int .i64 0, .int .i64 0, .int .i64 2, .int .i64 2, .int .i64 0, .int .i64 1], false), ([.int .i64 0, .int .i64 2, .int .i64 2], true)], .tuple [.slice 0 0 1 none 1, .int .i64 0], [.int .i64 1]⟩
theorem k_open1_ok : Known2Ok Tryz.prog k_open1 := known2Ok_of 258 ((E_ok K0_ok 3000).call 69 k_open1.args (rowsS k_open1.rows)) (by kernel_rfl)
noncomputable def k_pays1 : Known := ⟨96, [.agg [.slice 0 0 4 (some 4) 1, .slice 1 0 4 (some 4) 1, .slice 2 0 2 (some 2) 4, .slice 5 0 2 none 3, .slice 6 0 1 none 3], .int .i64 0], [([.str [102,97,114,109], .str [108,105,110,101], .str [115,104,105,112], .str [104,111,117,115,101]], true), ([.int .i64 10, .int .i64 12, .int .i64 20, .int .i64 30], true), ([.slice 3 0 4 (some 4) 1, .int .i64 1, .int .i64 3, .int .i64 40, .slice 4 0 2 (some 2) 1, .int .i64 0, .int .i64 1, .int .i64 25], true), ([.int .i64 0, .int .i64 1, .int .i64 2, .int .i64 3], true), ([.int .i64 1, .int .i64 2], true), ([.int .i64 0, .int .i64 0, .int .i64 2, .int .i64 2, .int .i64 0, .int .i64 1], false), ([.int .i64 0, .int .i64 2, .int .i64 2], true)], .tuple [.int .i64 1, .int .i64 0]⟩
theorem k_pays1_ok : KnownOk Tryz.prog k_pays1 := knownOk_of ((E_ok K0_ok 3000).call 96 k_pays1.args (rowsS k_pays1.rows)) (by kernel_rfl)
noncomputable def k_whose : Known2 := ⟨351, [.agg [.int .i64 12, .int .i64 2, .int .i64 4, .slice 0 0 3 (some 3) 2, .slice 1 0 3 (some 3) 2, .int .i64 1, .nils], .int .i64 0], [([.str [116,114,97,109], .int .i64 0, .str [115,104,105,112], .int .i64 4, .str [116,114,97,105,110], .int .i64 9], true), ([.int .i64 2, .bool true, .int .i64 5, .bool false, .int .i64 9, .bool true], true)], .tuple [.slice 0 0 3 none 1, .int .i64 0], [.int .i64 0, .int .i64 1, .int .i64 2]⟩
theorem k_whose_ok : Known2Ok Tryz.prog k_whose := known2Ok_of 142 ((E_ok K0_ok 3000).call 351 k_whose.args (rowsS k_whose.rows)) (by kernel_rfl)
end Go.Ev
namespace Go.Ev
open Go.Proofs
noncomputable def KA1 : List Known := [k_hold, k_lot1, k_port, k_board, k_cargo, k_market, k_file, k_room, k_began, k_voyage, k_cargo1, k_full, k_file1, k_pays1]
noncomputable def KA2 : List Known2 := [k_lot2, k_first, k_open, k_causes, k_first1, k_put, k_open1, k_whose]
noncomputable def KA := tryAll KA1 (tryAll2 KA2 KL)
noncomputable def EA := ev exS Tryz.prog KA 3000
theorem KA_ok (h : KnownOk Tryz.prog k_hold) : KOk Tryz.prog KA := by
 refine tryAll_ok (tryAll2_ok KL_ok ?_) ?_
 · simp only [KA2, List.forall_mem_cons]
   exact ⟨k_lot2_ok, k_first_ok, k_open_ok, k_causes_ok, k_first1_ok, k_put_ok, k_open1_ok, k_whose_ok, nofun⟩
 · simp only [KA1, List.forall_mem_cons]
   exact ⟨h, k_lot1_ok, k_port_ok, k_board_ok, k_cargo_ok, k_market_ok, k_file_ok, k_room_ok, k_began_ok, k_voyage_ok, k_cargo1_ok, k_full_ok, k_file1_ok, k_pays1_ok, nofun⟩
noncomputable def chkT (r : RV) : Bool := match r with | .ret (.bool true) _ => true | _ => false
theorem awake_true : chkT (EA.call 17 [] ⟨.leaf, 0, 0, 0⟩) = true := by kernel_rfl
end Go.Ev
