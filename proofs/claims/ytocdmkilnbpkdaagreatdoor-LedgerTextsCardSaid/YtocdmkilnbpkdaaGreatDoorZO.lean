/- strings.Builder at this dump: copyCheck and WriteString. -/
import Derived.Test.YtocdmkilnbpkdaaGreatDoorZT
import Derived.Test.YtocdmkilnbpkdaaGreatDoorZU
import Derived.OwnWalkIn
import Derived.Lib.FrozenHead
import Derived.Laws.Pointers
import Derived.TacticsInMore
import Derived.Deep.DeepCutAuto
set_option linter.unusedVariables false
set_option linter.unusedSimpArgs false
namespace Go.Proofs.YtocdmkilnbpkdaaGreatDoor
open Go.RowKit
attribute [local go_sem] Oper.semAt_some

set_option maxRecDepth 100000 in
theorem copyCheck_any (B b : Nat) (bs : List Value) (w : World) (h : Lib.IsBuilderF 145 5 B b bs w) :
 Calls Tryz.prog 130 #[.pointer (some ⟨b, 0, none⟩)] w fun e w' => e = .returned (.tuple #[]) ∧ (Lib.BuilderAtF 145 5 B b (.pointer (some ⟨b, 0, none⟩)) bs w' ∧ Below B w w') := by
 rcases h with h | h
 · have c0 := h.cell0
   have f0 := h.frozen0
   have hsh := h.shape
   have hu := hide (h.used (.pointer (some ⟨b, 0, none⟩)))
   have HB := hide h.1
   clear h
   go_enter Tryz.func130, Tryz.ntmps130
   obtain ⟨j, hj, hjs⟩ := Option.map_eq_some_iff.1 (show (Tryz.prog.info? 145).map (·.size) = some 2 by kernel_rfl)
   go_wp2_with fail
   rw [Lib.run_to_unsafe w ⟨b, 0, none⟩ Tryz.underlying143 Tryz.underlying167 hj (by rw [hjs]; decide) hsh (Nat.zero_lt_succ 1)]
   simp only [Result.andThen]
   rw [Oper.upon_value]
   go_wp2_with fail
   rw [run_callFunc_extern Tryz.func139 (by kernel_rfl) (by kernel_rfl) (by kernel_rfl) (e := Extern.AbiNoEscape.same) (by kernel_rfl)]
   rw [Lib.run_noEscape]
   simp only [Result.andThen]
   rw [Oper.upon_value]
   go_wp2_with fail
   rw [Lib.run_from_unsafe w ⟨b, 0, none⟩ Tryz.underlying167 Tryz.underlying143 hj hsh (by kernel_rfl)]
   simp only [Result.andThen]
   rw [Oper.upon_value]
   go_wp2_with fail
   go_end0
   exact ⟨rfl, hu.out, (Below.refl B w).setCell (p := ⟨b, 0, none⟩) HB.out _⟩
 · have c0 := h.cell0
   have H := hide h
   clear h
   obtain ⟨j, hj, hjs⟩ := Option.map_eq_some_iff.1 (show (Tryz.prog.info? 145).map (·.size) = some 2 by kernel_rfl)
   go_enter Tryz.func130, Tryz.ntmps130
   go_wp2_with fail
   rw [Lib.run_neq_ptr_same w _ Tryz.underlying143 hj]
   go_wp2_with fail
   go_end0
   exact ⟨rfl, H.out, Below.refl B _⟩
set_option maxHeartbeats 1000000 in
set_option maxRecDepth 100000 in
/-- The contract of (*strings.Builder).WriteString. -/
theorem writeString_any (B b : Nat) (bs : List Value) (s : ByteArray) (w : World) (h : Lib.IsBuilderF 145 5 B b bs w) (hlen : bs.length + s.size ≤ 140737488355328) (hBw : B ≤ w.heap.size) :
 Calls Tryz.prog 109 #[.pointer (some ⟨b, 0, none⟩), .string s] w fun e w' => e = .returned (.tuple #[.int .i64 s.size, .nilIface]) ∧ (Lib.BuilderAtF 145 5 B b (.pointer (some ⟨b, 0, none⟩)) (bs ++ Lib.strCells s) w' ∧ Below B w w') := by
 obtain ⟨ib, hib, hy0, hy1, hy2⟩ := info_parts (show (Tryz.prog.info? 5).map (fun i => (i.zero, i.size, i.bytes)) = some (some (.int .u8 0), 1, 1) by kernel_rfl)
 have HCC := hide (copyCheck_any B b bs w h)
 clear h
 go_enter Tryz.func109, Tryz.ntmps109
 go_wp2_with fail
 refine HCC.out.mono ?_
 rintro e y ⟨rfl, ⟨hBb, u, hbl, hou, hub⟩, hby⟩
 have k : Blk y b 145 #[.pointer (some ⟨b, 0, none⟩), u] := hbl
 have hyB := hby.size
 have e0 := k.at_ 0
 have e1 := k.at_ 1
 simp only [List.getElem?_toArray, List.getElem?_cons_zero, List.getElem?_cons_succ] at e0 e1
 go_wp2_with (at_builtin; refine Lib.wpList_append_own_stringF _ rfl _ _ 53 9 rfl B 5 ib Tryz.underlying53 Tryz.underlying9 hib hy0 hy1 hy2 _ _ _ rfl hou s rfl ?m1 ?m2 ?m3 ?_)
 case m1 => unfold maxLen; omega
 case m2 => omega
 case m3 => omega
 intro u' y' hou' hgr _
 have hkk : Keep (fun q => some q = u.ownBlock) y y' := Keep.of_grown hgr
 have k' := k.keep hkk (fun h => hub h.symm)
 have g0 := k'.at_ 0
 have g1 := k'.at_ 1
 have f1 := k'.free 1
 simp only [List.getElem?_toArray, List.getElem?_cons_zero, List.getElem?_cons_succ] at g0 g1
 have hshape : ∃ A n c, u' = .slice A n c := by
  rcases hou'.2 with ⟨hv, _⟩ | ⟨_, _, _, _, hv, _⟩
  · exact ⟨_, _, _, hv⟩
  · exact ⟨_, _, _, hv⟩
 obtain ⟨A, n, c, rfl⟩ := hshape
 go_wp2_with fail
 go_ret2
 exact ⟨rfl, Lib.BuilderAtF.put (T := 145) (e := 5) hBb k' (bs' := bs ++ Lib.strCells s) (by simpa [Lib.strCells_length] using hou') (by decide), (hby.trans (hkk.below (fun q h => (hou.lt q h.symm).1) (by omega))).setCell (p := ⟨b, 1, none⟩) hBb _⟩
end Go.Proofs.YtocdmkilnbpkdaaGreatDoor
