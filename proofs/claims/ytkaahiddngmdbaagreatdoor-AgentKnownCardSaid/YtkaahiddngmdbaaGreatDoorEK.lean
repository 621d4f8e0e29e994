/- An evaluator of calls, and its soundness (EK). -/
import Derived.Test.YtkaahiddngmdbaaGreatDoorEJ
set_option linter.unusedVariables false
set_option linter.unusedSimpArgs false
namespace Go.Ev
open Go.Proofs
noncomputable def k_lack12 : Known3 := lkK 12 (.agg [.int .i64 12, .int .i64 9, .int .i64 0, .int .i64 15, .int .i64 1, .int .i64 8, .int .i64 0, .int .i64 3]) (.agg [.int .i64 0, .int .i64 15, .int .i64 1, .int .i64 16, .int .i64 (-1), .int .i64 14, .int .i64 0, .int .i64 15, .int .i64 0, .int .i64 15, .int .i64 1, .int .i64 16, .int .i64 (-1), .int .i64 14, .int .i64 0, .int .i64 15])
theorem k_lack12_ok : Known3Ok Tryz.prog k_lack12 := known3Ok_of ((E_ok K0_ok 3000).call 426 k_lack12.args (rowsM k_lack12.rows k_lack12.es k_lack12.ck)) (by kernel_rfl)
noncomputable def k_lack13 : Known3 := lkK 13 (.agg [.int .i64 12, .int .i64 8, .int .i64 0, .int .i64 15, .int .i64 0, .int .i64 8, .int .i64 0, .int .i64 3]) (.agg [.int .i64 0, .int .i64 15, .int .i64 0, .int .i64 15, .int .i64 0, .int .i64 15, .int .i64 0, .int .i64 15, .int .i64 0, .int .i64 15, .int .i64 0, .int .i64 15, .int .i64 0, .int .i64 15, .int .i64 0, .int .i64 15])
theorem k_lack13_ok : Known3Ok Tryz.prog k_lack13 := known3Ok_of ((E_ok K0_ok 3000).call 426 k_lack13.args (rowsM k_lack13.rows k_lack13.es k_lack13.ck)) (by kernel_rfl)
noncomputable def k_lack14 : Known3 := lkK 14 (.agg [.int .i64 12, .int .i64 8, .int .i64 0, .int .i64 15, .int .i64 0, .int .i64 8, .int .i64 0, .int .i64 4]) (.agg [.int .i64 0, .int .i64 15, .int .i64 0, .int .i64 15, .int .i64 8, .int .i64 23, .int .i64 8, .int .i64 23, .int .i64 0, .int .i64 15, .int .i64 0, .int .i64 15, .int .i64 8, .int .i64 23, .int .i64 8, .int .i64 23])
theorem k_lack14_ok : Known3Ok Tryz.prog k_lack14 := known3Ok_of ((E_ok K0_ok 3000).call 426 k_lack14.args (rowsM k_lack14.rows k_lack14.es k_lack14.ck)) (by kernel_rfl)
noncomputable def k_lack15 : Known3 := lkK 15 (.agg [.int .i64 12, .int .i64 7, .int .i64 0, .int .i64 15, .int .i64 0, .int .i64 7, .int .i64 0, .int .i64 4]) (.agg [.int .i64 0, .int .i64 15, .int .i64 0, .int .i64 15, .int .i64 7, .int .i64 22, .int .i64 7, .int .i64 22, .int .i64 0, .int .i64 15, .int .i64 0, .int .i64 15, .int .i64 7, .int .i64 22, .int .i64 7, .int .i64 22])
theorem k_lack15_ok : Known3Ok Tryz.prog k_lack15 := known3Ok_of ((E_ok K0_ok 3000).call 426 k_lack15.args (rowsM k_lack15.rows k_lack15.es k_lack15.ck)) (by kernel_rfl)
noncomputable def k_lack16 : Known3 := lkK 16 (.agg [.int .i64 12, .int .i64 6, .int .i64 0, .int .i64 15, .int .i64 0, .int .i64 6, .int .i64 0, .int .i64 4]) (.agg [.int .i64 0, .int .i64 15, .int .i64 0, .int .i64 15, .int .i64 6, .int .i64 21, .int .i64 6, .int .i64 21, .int .i64 0, .int .i64 15, .int .i64 0, .int .i64 15, .int .i64 6, .int .i64 21, .int .i64 6, .int .i64 21])
theorem k_lack16_ok : Known3Ok Tryz.prog k_lack16 := known3Ok_of ((E_ok K0_ok 3000).call 426 k_lack16.args (rowsM k_lack16.rows k_lack16.es k_lack16.ck)) (by kernel_rfl)
noncomputable def k_lack17 : Known3 := lkK 17 (.agg [.int .i64 12, .int .i64 5, .int .i64 0, .int .i64 15, .int .i64 0, .int .i64 5, .int .i64 0, .int .i64 4]) (.agg [.int .i64 0, .int .i64 15, .int .i64 0, .int .i64 15, .int .i64 5, .int .i64 20, .int .i64 5, .int .i64 20, .int .i64 0, .int .i64 15, .int .i64 0, .int .i64 15, .int .i64 5, .int .i64 20, .int .i64 5, .int .i64 20])
theorem k_lack17_ok : Known3Ok Tryz.prog k_lack17 := known3Ok_of ((E_ok K0_ok 3000).call 426 k_lack17.args (rowsM k_lack17.rows k_lack17.es k_lack17.ck)) (by kernel_rfl)
end Go.Ev
namespace Go.Ev
open Go.Proofs
noncomputable def k_lack18 : Known3 := lkK 18 (.agg [.int .i64 12, .int .i64 4, .int .i64 0, .int .i64 15, .int .i64 0, .int .i64 4, .int .i64 0, .int .i64 4]) (.agg [.int .i64 0, .int .i64 15, .int .i64 0, .int .i64 15, .int .i64 4, .int .i64 19, .int .i64 4, .int .i64 19, .int .i64 0, .int .i64 15, .int .i64 0, .int .i64 15, .int .i64 4, .int .i64 19, .int .i64 4, .int .i64 19])
theorem k_lack18_ok : Known3Ok Tryz.prog k_lack18 := known3Ok_of ((E_ok K0_ok 3000).call 426 k_lack18.args (rowsM k_lack18.rows k_lack18.es k_lack18.ck)) (by kernel_rfl)
noncomputable def k_lack19 : Known3 := lkK 19 (.agg [.int .i64 12, .int .i64 3, .int .i64 0, .int .i64 15, .int .i64 0, .int .i64 3, .int .i64 0, .int .i64 4]) (.agg [.int .i64 0, .int .i64 15, .int .i64 0, .int .i64 15, .int .i64 3, .int .i64 18, .int .i64 3, .int .i64 18, .int .i64 0, .int .i64 15, .int .i64 0, .int .i64 15, .int .i64 3, .int .i64 18, .int .i64 3, .int .i64 18])
theorem k_lack19_ok : Known3Ok Tryz.prog k_lack19 := known3Ok_of ((E_ok K0_ok 3000).call 426 k_lack19.args (rowsM k_lack19.rows k_lack19.es k_lack19.ck)) (by kernel_rfl)
noncomputable def k_lack20 : Known3 := lkK 20 (.agg [.int .i64 12, .int .i64 2, .int .i64 0, .int .i64 15, .int .i64 0, .int .i64 2, .int .i64 0, .int .i64 4]) (.agg [.int .i64 0, .int .i64 15, .int .i64 0, .int .i64 15, .int .i64 2, .int .i64 17, .int .i64 2, .int .i64 17, .int .i64 0, .int .i64 15, .int .i64 0, .int .i64 15, .int .i64 2, .int .i64 17, .int .i64 2, .int .i64 17])
theorem k_lack20_ok : Known3Ok Tryz.prog k_lack20 := known3Ok_of ((E_ok K0_ok 3000).call 426 k_lack20.args (rowsM k_lack20.rows k_lack20.es k_lack20.ck)) (by kernel_rfl)
noncomputable def k_lack21 : Known3 := lkK 21 (.agg [.int .i64 12, .int .i64 1, .int .i64 0, .int .i64 15, .int .i64 0, .int .i64 1, .int .i64 0, .int .i64 4]) (.agg [.int .i64 0, .int .i64 15, .int .i64 0, .int .i64 15, .int .i64 1, .int .i64 16, .int .i64 1, .int .i64 16, .int .i64 0, .int .i64 15, .int .i64 0, .int .i64 15, .int .i64 1, .int .i64 16, .int .i64 1, .int .i64 16])
theorem k_lack21_ok : Known3Ok Tryz.prog k_lack21 := known3Ok_of ((E_ok K0_ok 3000).call 426 k_lack21.args (rowsM k_lack21.rows k_lack21.es k_lack21.ck)) (by kernel_rfl)
noncomputable def k_lack22 : Known3 := lkK 22 (.agg [.int .i64 12, .int .i64 0, .int .i64 0, .int .i64 15, .int .i64 0, .int .i64 0, .int .i64 0, .int .i64 4]) (.agg [.int .i64 0, .int .i64 15, .int .i64 0, .int .i64 15, .int .i64 0, .int .i64 15, .int .i64 0, .int .i64 15, .int .i64 0, .int .i64 15, .int .i64 0, .int .i64 15, .int .i64 0, .int .i64 15, .int .i64 0, .int .i64 15])
theorem k_lack22_ok : Known3Ok Tryz.prog k_lack22 := known3Ok_of ((E_ok K0_ok 3000).call 426 k_lack22.args (rowsM k_lack22.rows k_lack22.es k_lack22.ck)) (by kernel_rfl)
noncomputable def k_lack23 : Known3 := lkK 23 (.agg [.int .i64 12, .int .i64 0, .int .i64 0, .int .i64 15, .int .i64 0, .int .i64 0, .int .i64 0, .int .i64 5]) (.agg [.int .i64 0, .int .i64 15, .int .i64 0, .int .i64 15, .int .i64 0, .int .i64 15, .int .i64 0, .int .i64 15, .int .i64 0, .int .i64 15, .int .i64 0, .int .i64 15, .int .i64 0, .int .i64 15, .int .i64 0, .int .i64 15])
theorem k_lack23_ok : Known3Ok Tryz.prog k_lack23 := known3Ok_of ((E_ok K0_ok 3000).call 426 k_lack23.args (rowsM k_lack23.rows k_lack23.es k_lack23.ck)) (by kernel_rfl)
end Go.Ev
namespace Go.Ev
open Go.Proofs
noncomputable def KX : List Known3 := [k_lack0, k_lack1, k_lack2, k_lack3, k_lack4, k_lack5, k_lack6, k_lack7, k_lack8, k_lack9, k_lack10, k_lack11, k_lack12, k_lack13, k_lack14, k_lack15, k_lack16, k_lack17, k_lack18, k_lack19, k_lack20, k_lack21, k_lack22, k_lack23]
theorem KX_ok : KOk Tryz.prog (tryAll3 KX (fun _ _ _ => none)) := by
 refine tryAll3_ok K0_ok ?_
 simp only [KX, List.forall_mem_cons]
 exact ⟨k_lack0_ok, k_lack1_ok, k_lack2_ok, k_lack3_ok, k_lack4_ok, k_lack5_ok, k_lack6_ok, k_lack7_ok, k_lack8_ok, k_lack9_ok, k_lack10_ok, k_lack11_ok, k_lack12_ok, k_lack13_ok, k_lack14_ok, k_lack15_ok, k_lack16_ok, k_lack17_ok, k_lack18_ok, k_lack19_ok, k_lack20_ok, k_lack21_ok, k_lack22_ok, k_lack23_ok, nofun⟩
noncomputable def EX := ev exS Tryz.prog (tryAll3 KX (fun _ _ _ => none)) 3000
noncomputable def k_give : Known2 := ⟨346, [.agg [.slice 0 0 2 (some 2) 5, .slice 1 0 3 (some 3) 3, .slice 2 0 5 (some 5) 4]], [([.str [97,108,116,97], .int .i64 20, .int .i64 25, .int .i64 2, .int .i64 4, .str [98,97,106,97], .int .i64 10, .int .i64 10, .int .i64 3, .int .i64 6], true), ([.str [97,112,112,108,101], .int .i64 5, .int .i64 15, .str [98,101,114,114,121], .int .i64 5, .int .i64 10, .str [99,104,101,114,114,121], .int .i64 8, .int .i64 8], true), ([.int .i64 0, .int .i64 0, .int .i64 1, .int .i64 20, .int .i64 0, .int .i64 1, .int .i64 2, .int .i64 8, .int .i64 1, .int .i64 1, .int .i64 1, .int .i64 6, .int .i64 1, .int .i64 2, .int .i64 2, .int .i64 10, .int .i64 0, .int .i64 2, .int .i64 2, .int .i64 9], true)], .tuple [.slice 0 0 5 (some 5) 1, .int .i64 0], [.int .i64 0, .int .i64 8, .int .i64 2, .int .i64 8, .int .i64 0]⟩
theorem EX_ok : IhOk Tryz.prog EX := E_ok KX_ok 3000
theorem k_give_ok : Known2Ok Tryz.prog k_give := known2Ok_of 210 (EX_ok.call 346 k_give.args (rowsS k_give.rows)) (by kernel_rfl)
end Go.Ev
