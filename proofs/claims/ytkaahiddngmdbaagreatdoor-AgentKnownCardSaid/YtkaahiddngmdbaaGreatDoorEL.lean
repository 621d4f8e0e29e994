/- An evaluator of calls, and its soundness (EL). -/
import Derived.Test.YtkaahiddngmdbaaGreatDoorEE
import Derived.Test.YtkaahiddngmdbaaGreatDoorEG
import Derived.Test.YtkaahiddngmdbaaGreatDoorDM
import Derived.Test.YtkaahiddngmdbaaGreatDoorED
import Derived.Test.YtkaahiddngmdbaaGreatDoorEF
import Derived.Test.YtkaahiddngmdbaaGreatDoorEH
import Derived.Test.YtkaahiddngmdbaaGreatDoorEI
import Derived.Test.YtkaahiddngmdbaaGreatDoorEK
set_option linter.unusedVariables false
set_option linter.unusedSimpArgs false
namespace Go.Ev
open Go.Proofs
noncomputable def k_boardx : Known := ⟨60, [.agg [.int .i64 2, .slice 0 0 3 (some 3) 3, .slice 1 0 2 none 6]], [([.int .i64 0, .int .i64 10, .int .i64 13, .int .i64 0, .int .i64 8, .int .i64 11, .int .i64 1, .int .i64 10, .int .i64 12], true), ([.str [115,104,105,112], .int .i64 1, .int .i64 0, .int .i64 90, .slice 2 0 3 (some 3) 1, .slice 3 0 3 (some 3) 1, .str [115,104,111,114,101], .int .i64 0, .int .i64 2, .int .i64 0, .slice 4 0 3 (some 3) 1, .slice 5 0 3 none 1], false), ([.int .i64 0, .int .i64 0, .int .i64 0], true), ([.int .i64 1, .int .i64 (-1), .int .i64 22], true), ([.int .i64 0, .int .i64 2, .int .i64 0], true), ([.int .i64 13, .int .i64 10, .int .i64 30], false)], .tuple [.int .i64 0, .int .i64 0, .int .i64 0]⟩
theorem k_boardx_ok : KnownOk Tryz.prog k_boardx := knownOk_of ((E_ok K0_ok 3000).call 60 k_boardx.args (rowsS k_boardx.rows)) (by kernel_rfl)
noncomputable def k_boards : Known := ⟨60, [.agg [.int .i64 2, .slice 0 0 3 (some 3) 3, .slice 1 0 2 none 6]], [([.int .i64 0, .int .i64 10, .int .i64 13, .int .i64 0, .int .i64 8, .int .i64 11, .int .i64 1, .int .i64 10, .int .i64 12], true), ([.str [115,104,105,112], .int .i64 1, .int .i64 0, .int .i64 90, .slice 2 0 3 (some 3) 1, .slice 3 0 3 (some 3) 1, .str [115,104,111,114,101], .int .i64 0, .int .i64 2, .int .i64 0, .slice 4 0 3 (some 3) 1, .slice 5 0 3 none 1], false), ([.int .i64 0, .int .i64 0, .int .i64 0], true), ([.int .i64 1, .int .i64 (-1), .int .i64 22], true), ([.int .i64 0, .int .i64 2, .int .i64 0], true), ([.int .i64 13, .int .i64 10, .int .i64 21], false)], .tuple [.int .i64 0, .int .i64 0, .int .i64 0]⟩
theorem k_boards_ok : KnownOk Tryz.prog k_boards := knownOk_of ((E_ok K0_ok 3000).call 60 k_boards.args (rowsS k_boards.rows)) (by kernel_rfl)
end Go.Ev
namespace Go.Ev
open Go.Proofs Go.Proofs.YtkaahiddngmdbaaGreatDoor
def brdx : Board := ⟨2, [⟨0, ⟨10, 13⟩⟩, ⟨0, ⟨8, 11⟩⟩, ⟨1, ⟨10, 12⟩⟩], [⟨bytes [115, 104, 105, 112], 1, 0, 90, [0, 0, 0], [1, -1, 22]⟩, ⟨bytes [115, 104, 111, 114, 101], 0, 2, 0, [0, 2, 0], [13, 10, 30]⟩]⟩
noncomputable def brdAVx : AV := .agg [.int .i64 2, .slice 0 0 3 (some 3) 3, .slice 1 0 2 none 6]
theorem brdx_valid : ValidB brdx := by
 refine ⟨by decide, by decide, ?_, ?_, ?_, ?_, ?_, ?_, ?_⟩
 all_goals
  intro i hi
  simp only [brdx, List.length_cons, List.length_nil, Nat.zero_add, Nat.reduceAdd] at hi
  rcases i with _ | _ | _ | i <;> first | omega | (simp [brdx, nth]; done) | rfl
noncomputable def ρBx : List (Nat × Nat) := walkL (walk (rowsS k_boardx.rows) (rowsS k_boardx.rows) 8) k_boardx.args [brdAVx] []
theorem board_callx : CallOkR Tryz.prog 60 [brdAVx] (rowsS k_boardx.rows) (.ret k_boardx.v (touches ρBx (rowsS k_boardx.rows))) := tryK_ok k_boardx_ok (by kernel_rfl)
theorem touchedx (i : Nat) (hi : i < 6) : (touches ρBx (rowsS k_boardx.rows)).X.testBit i = true := by
 have h : ((List.range 6).all fun i => (touches ρBx (rowsS k_boardx.rows)).X.testBit i) = true := by kernel_rfl
 exact List.all_eq_true.1 h i (List.mem_range.2 hi)
theorem untoldx (i : Nat) : (touches ρBx (rowsS k_boardx.rows)).W.testBit i = false := Nat.zero_testBit i
theorem askedx {M : Nat → Prop} {e : Env} {w : World} (hr : Rel e (rowsS k_boardx.rows) M w) (hM : ∀ i, (touches ρBx (rowsS k_boardx.rows)).X.testBit i = true → M i) {y : Value} (h1 : VRel e brdAVx y) : ∃ a, y = brdVal brdx a ∧ BrdV w w.heap.size brdx a ∧ Go.Proofs.YtkaahiddngmdbaaGreatDoor.ChkOk brdx a w := by
 have hbl := h1
 obtain ⟨a, rfl, hB⟩ := brd_rel hr (fun i hi => hM i (touchedx i hi)) (a0 := ⟨0, ⟨10, 13⟩⟩) (a1 := ⟨0, ⟨8, 11⟩⟩) (a2 := ⟨1, ⟨10, 12⟩⟩) (z0 := [0, 0, 0]) (v0 := [1, -1, 22]) (z1 := [0, 2, 0]) (v1 := [13, 10, 30]) rfl rfl rfl rfl rfl rfl (by decide) h1
 refine ⟨a, rfl, hB, fun W hW => ?_⟩
 refine callsIn_wide.1 (((board_callx _ rfl).2 M e W [_] (rowsS_wf _) (hr.below hW) hM (.cons_ hbl .nil_)).mono ?_)
 intro en W' hen
 cases en with
 | panicked c => exact hen.elim
 | outgrown => exact hen.elim
 | returned x =>
  obtain ⟨e', hv, _, ht⟩ := hen
  exact ⟨by rw [val3 (a := 0) (b := 0) (c := 0) hv], ht.below untoldx⟩
noncomputable def k_holdx : Known := ⟨61, [brdAVx, .int .i64 0], k_boardx.rows, .tuple [.agg [.int .i64 0, .int .i64 0], .int .i64 8]⟩
theorem k_holdx_some : someB brdx = false := by kernel_rfl
theorem k_holdx_ok : KnownOk Tryz.prog k_holdx := by
 refine ⟨k_holdx.v, touches ρBx (rowsS k_boardx.rows), ?_, by kernel_rfl, fun i _ => untoldx i⟩
 refine plain_call (board_callx _ rfl).1 rfl rfl fun M e w xs hr hM hl => ?_
 obtain ⟨y, ys, rfl, h1, h2⟩ := LRel.of_cons (v := brdAVx) (l := [.int .i64 0]) hl
 obtain ⟨z, zs, rfl, h3, h4⟩ := h2.of_cons
 obtain rfl := h4.of_nil
 simp only [VRel] at h3
 subst h3
 obtain ⟨a, rfl, hB, hC⟩ := askedx hr hM h1
 refine ⟨.tuple #[.agg #[.int .i64 0, .int .i64 0], .int .i64 8], hold_val e 0 0 8, (hold_any (b := brdx) hB brdx_valid hC (by decide) (by decide)).mono ?_⟩
 · rintro en w' ⟨hb, rfl⟩
   refine ⟨?_, hb⟩
   rw [k_holdx_some]
   rfl
def brds : Board := ⟨2, [⟨0, ⟨10, 13⟩⟩, ⟨0, ⟨8, 11⟩⟩, ⟨1, ⟨10, 12⟩⟩], [⟨bytes [115, 104, 105, 112], 1, 0, 90, [0, 0, 0], [1, -1, 22]⟩, ⟨bytes [115, 104, 111, 114, 101], 0, 2, 0, [0, 2, 0], [13, 10, 21]⟩]⟩
noncomputable def brdAVs : AV := .agg [.int .i64 2, .slice 0 0 3 (some 3) 3, .slice 1 0 2 none 6]
theorem brds_valid : ValidB brds := by
 refine ⟨by decide, by decide, ?_, ?_, ?_, ?_, ?_, ?_, ?_⟩
 all_goals
  intro i hi
  simp only [brds, List.length_cons, List.length_nil, Nat.zero_add, Nat.reduceAdd] at hi
  rcases i with _ | _ | _ | i <;> first | omega | (simp [brds, nth]; done) | rfl
noncomputable def ρBs : List (Nat × Nat) := walkL (walk (rowsS k_boards.rows) (rowsS k_boards.rows) 8) k_boards.args [brdAVs] []
theorem board_calls : CallOkR Tryz.prog 60 [brdAVs] (rowsS k_boards.rows) (.ret k_boards.v (touches ρBs (rowsS k_boards.rows))) := tryK_ok k_boards_ok (by kernel_rfl)
theorem toucheds (i : Nat) (hi : i < 6) : (touches ρBs (rowsS k_boards.rows)).X.testBit i = true := by
 have h : ((List.range 6).all fun i => (touches ρBs (rowsS k_boards.rows)).X.testBit i) = true := by kernel_rfl
 exact List.all_eq_true.1 h i (List.mem_range.2 hi)
theorem untolds (i : Nat) : (touches ρBs (rowsS k_boards.rows)).W.testBit i = false := Nat.zero_testBit i
theorem askeds {M : Nat → Prop} {e : Env} {w : World} (hr : Rel e (rowsS k_boards.rows) M w) (hM : ∀ i, (touches ρBs (rowsS k_boards.rows)).X.testBit i = true → M i) {y : Value} (h1 : VRel e brdAVs y) : ∃ a, y = brdVal brds a ∧ BrdV w w.heap.size brds a ∧ Go.Proofs.YtkaahiddngmdbaaGreatDoor.ChkOk brds a w := by
 have hbl := h1
 obtain ⟨a, rfl, hB⟩ := brd_rel hr (fun i hi => hM i (toucheds i hi)) (a0 := ⟨0, ⟨10, 13⟩⟩) (a1 := ⟨0, ⟨8, 11⟩⟩) (a2 := ⟨1, ⟨10, 12⟩⟩) (z0 := [0, 0, 0]) (v0 := [1, -1, 22]) (z1 := [0, 2, 0]) (v1 := [13, 10, 21]) rfl rfl rfl rfl rfl rfl (by decide) h1
 refine ⟨a, rfl, hB, fun W hW => ?_⟩
 refine callsIn_wide.1 (((board_calls _ rfl).2 M e W [_] (rowsS_wf _) (hr.below hW) hM (.cons_ hbl .nil_)).mono ?_)
 intro en W' hen
 cases en with
 | panicked c => exact hen.elim
 | outgrown => exact hen.elim
 | returned x =>
  obtain ⟨e', hv, _, ht⟩ := hen
  exact ⟨by rw [val3 (a := 0) (b := 0) (c := 0) hv], ht.below untolds⟩
noncomputable def k_holds : Known := ⟨61, [brdAVs, .int .i64 0], k_boards.rows, .tuple [.agg [.int .i64 21, .int .i64 22], .int .i64 0]⟩
theorem k_holds_some : someB brds = true := by kernel_rfl
theorem k_holds_hull : hullM (fun l => inM brds l 0) (truthsL brds) = ⟨21, 22⟩ := by kernel_rfl
theorem k_holds_ok : KnownOk Tryz.prog k_holds := by
 refine ⟨k_holds.v, touches ρBs (rowsS k_boards.rows), ?_, by kernel_rfl, fun i _ => untolds i⟩
 refine plain_call (board_calls _ rfl).1 rfl rfl fun M e w xs hr hM hl => ?_
 obtain ⟨y, ys, rfl, h1, h2⟩ := LRel.of_cons (v := brdAVs) (l := [.int .i64 0]) hl
 obtain ⟨z, zs, rfl, h3, h4⟩ := h2.of_cons
 obtain rfl := h4.of_nil
 simp only [VRel] at h3
 subst h3
 obtain ⟨a, rfl, hB, hC⟩ := askeds hr hM h1
 refine ⟨.tuple #[.agg #[.int .i64 21, .int .i64 22], .int .i64 0], hold_val e 21 22 0, (hold_any (b := brds) hB brds_valid hC (by decide) (by decide)).mono ?_⟩
 · rintro en w' ⟨hb, rfl⟩
   refine ⟨?_, hb⟩
   rw [k_holds_some, k_holds_hull]
   rfl
noncomputable def k_wents : Known := ⟨341, [brdAVs, .int .i64 2], k_boards.rows, .tuple [.agg [.int .i64 11, .int .i64 11], .int .i64 0]⟩
theorem k_wents_some : someB brds = true := by kernel_rfl
theorem k_wents_hull : hullM (fun l => nth l 2) (truthsL brds) = ⟨11, 11⟩ := by kernel_rfl
theorem k_wents_ok : KnownOk Tryz.prog k_wents := by
 refine ⟨k_wents.v, touches ρBs (rowsS k_boards.rows), ?_, by kernel_rfl, fun i _ => untolds i⟩
 refine plain_call (board_calls _ rfl).1 rfl rfl fun M e w xs hr hM hl => ?_
 obtain ⟨y, ys, rfl, h1, h2⟩ := LRel.of_cons (v := brdAVs) (l := [.int .i64 2]) hl
 obtain ⟨z, zs, rfl, h3, h4⟩ := h2.of_cons
 obtain rfl := h4.of_nil
 simp only [VRel] at h3
 subst h3
 obtain ⟨a, rfl, hB, hC⟩ := askeds hr hM h1
 refine ⟨.tuple #[.agg #[.int .i64 11, .int .i64 11], .int .i64 0], hold_val e 11 11 0, (went_any (b := brds) hB brds_valid hC (hold := 2) (by decide)).mono ?_⟩
 · rintro en w' ⟨hb, rfl⟩
   refine ⟨?_, hb⟩
   rw [k_wents_some, k_wents_hull]
   rfl
end Go.Ev
namespace Go.Ev
open Go.Proofs
noncomputable def KB1 : List Known := [k_hold, k_lot1, k_port, k_board, k_cargo, k_market, k_file, k_room, k_began, k_voyage, k_cargo1, k_full, k_file1, k_pays1, k_lotf1, k_total, k_full2, k_cargo2, k_turns, k_file2, k_pays2, k_file3, k_open3, k_pays3, k_pays4, k_room1, k_began1, k_colours, k_boardx, k_boards, k_holdx, k_holds, k_wents]
noncomputable def KB2 : List Known2 := [k_lot2, k_first, k_open, k_causes, k_first1, k_put, k_open1, k_whose, k_grade, k_safe, k_first2, k_open2, k_give]
noncomputable def k_lotf2 : Known4 := ⟨52, [.agg [.slice 0 0 3 (some 3) 3, .slice 1 0 4 (some 4) 4, .slice 2 0 2 none 2]], [([.str [110,105,110,101], .int .i64 9, .int .i64 1, .str [101,105,103,104,116], .int .i64 8, .int .i64 3, .str [115,101,118,101,110], .int .i64 7, .int .i64 3], true), ([.int .i64 9, .int .i64 10, .int .i64 0, .int .i64 0, .int .i64 8, .int .i64 9, .int .i64 1, .int .i64 2, .int .i64 7, .int .i64 8, .int .i64 0, .int .i64 4, .int .i64 6, .int .i64 7, .int .i64 2, .int .i64 2], true), ([.int .i64 3, .int .i64 18, .int .i64 12, .int .i64 13], true)], .tuple [.slice 3 0 1 none 1, .slice 4 0 2 none 1, .int .i64 0], [([.int .i64 3], false), ([.int .i64 2, .int .i64 3], false)]⟩
theorem k_lotf2_ok : Known4Ok Tryz.prog k_lotf2 := known4Ok_of [501, 503] ((E_ok K0_ok 3000).call 52 k_lotf2.args (rowsS k_lotf2.rows)) (by kernel_rfl)
noncomputable def KB := tryAll KB1 (tryAll2 KB2 (tryAll4 [k_lotf2] KL))
noncomputable def EB := ev exS Tryz.prog KB 3000
theorem KB_ok : KOk Tryz.prog KB := by
 refine tryAll_ok (tryAll2_ok (tryAll4_ok KL_ok ?_) ?_) ?_
 · simp only [List.forall_mem_cons]
   exact ⟨k_lotf2_ok, nofun⟩
 · simp only [KB2, List.forall_mem_cons]
   exact ⟨k_lot2_ok, k_first_ok, k_open_ok, k_causes_ok, k_first1_ok, k_put_ok, k_open1_ok, k_whose_ok, k_grade_ok, k_safe_ok, k_first2_ok, k_open2_ok, k_give_ok, nofun⟩
 · simp only [KB1, List.forall_mem_cons]
   exact ⟨k_hold_ok, k_lot1_ok, k_port_ok, k_board_ok, k_cargo_ok, k_market_ok, k_file_ok, k_room_ok, k_began_ok, k_voyage_ok, k_cargo1_ok, k_full_ok, k_file1_ok, k_pays1_ok, k_lotf1_ok, k_total_ok, k_full2_ok, k_cargo2_ok, k_turns_ok, k_file2_ok, k_pays2_ok, k_file3_ok, k_open3_ok, k_pays3_ok, k_pays4_ok, k_room1_ok, k_began1_ok, k_colours_ok, k_boardx_ok, k_boards_ok, k_holdx_ok, k_holds_ok, k_wents_ok, nofun⟩
theorem EB_ok : IhOk Tryz.prog EB := E_ok KB_ok 3000
end Go.Ev
