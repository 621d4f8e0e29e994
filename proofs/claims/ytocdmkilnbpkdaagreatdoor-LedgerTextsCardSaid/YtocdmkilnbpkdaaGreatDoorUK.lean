/- Split of the reference. -/
import Derived.Test.YtocdmkilnbpkdaaGreatDoorUI
import Derived.OwnWalkIn
import Derived.OwnWalk
import Derived.Laws.AppendOwn
import Derived.RangeFuncBox
import Derived.Maps.AppendAt
import Derived.TacticsInMore
import Derived.Deep.DeepCutAuto
set_option linter.unusedVariables false
set_option linter.unusedSimpArgs false
namespace Go.Proofs.YtocdmkilnbpkdaaGreatDoor
open Go.RowKit

def mkB (l : List UInt8) : ByteArray := ⟨l.toArray⟩
def splitB (c : UInt8) (s : ByteArray) : List ByteArray := (splitL c s.data.toList).map mkB
theorem own_strs {w : World} {base n c : Nat} {A : Option Addr} {xs : List ByteArray} (h : w.ownsRow base 9 1 (.slice A n c) n (xs.map Value.string)) (hn : 0 < n) : ∃ g, A = some ⟨g, 0, none⟩ ∧ base ≤ g ∧ g < w.heap.size ∧ ∀ j, j < n → w.cell? ⟨g, 0 + j, none⟩ = some (.string (nth xs j)) := by
 have hl : xs.length = n := by have := h.1; simpa using this
 rcases h.2 with ⟨e, h0⟩ | ⟨g, cap, cur, e, hg, hh, h1, h2, h3, h4⟩
 · omega
 · simp only [Value.slice.injEq, true_and] at e
   obtain ⟨rfl, rfl⟩ := e
   refine ⟨g, rfl, hg, (Array.getElem?_eq_some_iff.1 hh).1, fun j hj => ?_⟩
   have := h.cells (g := g) rfl j (.string (nth xs j)) (by simp [nth, hl, hj])
   have hadd : (⟨g, 0, none⟩ : Addr).add j = ⟨g, 0 + j, none⟩ := by unfold Addr.add; split <;> simp_all
   rw [hadd] at this
   exact this
theorem extract_mk (s : ByteArray) (a b : Nat) (hb : b ≤ s.size) : s.extract a b = mkB ((s.data.toList.drop a).take (b - a)) := by
 apply ByteArray.ext
 rw [ByteArray.data_extract, mkB]
 apply Array.toList_inj.1
 simp
/-- What Split has done at a place. -/
structure SplitAt (c : UInt8) (l : List UInt8) (D : List (List UInt8)) (bg i : Nat) : Prop where
 le : bg ≤ i
 no : c ∉ (l.drop bg).take (i - bg)
 eq : splitL c l = D ++ splitL c (l.drop bg)
 len : D.length ≤ i
theorem SplitAt.start (c : UInt8) (l : List UInt8) : SplitAt c l [] 0 0 := ⟨Nat.le_refl _, by simp, rfl, Nat.le_refl _⟩
theorem SplitAt.hit {c : UInt8} {l : List UInt8} {D : List (List UInt8)} {bg i : Nat} (h : SplitAt c l D bg i) (hi : l[i]? = some c) : SplitAt c l (D ++ [(l.drop bg).take (i - bg)]) (i + 1) (i + 1) := by
 obtain ⟨hl, he⟩ := List.getElem?_eq_some_iff.1 hi
 have h1 := h.le
 have hcut : l.drop bg = (l.drop bg).take (i - bg) ++ c :: l.drop (i + 1) := by
  conv => lhs; rw [← List.take_append_drop (i - bg) (l.drop bg), List.drop_drop, show bg + (i - bg) = i by omega, List.drop_eq_getElem_cons hl, he]
 refine ⟨Nat.le_refl _, by simp, ?_, by rw [List.length_append]; have := h.len; simp; omega⟩
 have e := h.eq
 conv at e => rhs; rw [hcut, splitL_cut h.no]
 rw [e]; simp
theorem SplitAt.miss {c : UInt8} {l : List UInt8} {D : List (List UInt8)} {bg i : Nat} (h : SplitAt c l D bg i) (hl : i < l.length) (hi : l[i]? ≠ some c) : SplitAt c l D bg (i + 1) := by
 have h1 := h.le
 refine ⟨by omega, ?_, h.eq, by have := h.len; omega⟩
 rw [show i + 1 - bg = (i - bg) + 1 by omega, List.take_add_one, List.mem_append]
 rintro (hm | hm)
 · exact h.no hm
 · rw [List.getElem?_drop, show bg + (i - bg) = i by omega, List.getElem?_eq_getElem hl] at hm
   simp only [Option.toList_some, List.mem_singleton] at hm
   exact hi (by rw [List.getElem?_eq_getElem hl, hm])
theorem SplitAt.done {c : UInt8} {l : List UInt8} {D : List (List UInt8)} {bg : Nat} (h : SplitAt c l D bg l.length) : splitL c l = D ++ [l.drop bg] := by
 have := h.no
 rw [List.take_of_length_le (by simp)] at this
 rw [h.eq, splitL_none this]
set_option maxHeartbeats 2000000 in
set_option maxRecDepth 100000 in
theorem split1_any (s : ByteArray) (c : UInt8) (hs : s.size ≤ 100000) (w : World) :
 Calls Tryz.prog 86 #[.string s, .int .u8 (c.toNat : Int)] w fun e w' => ∃ A cp, e = .returned (.slice A (splitB c s).length cp) ∧ w'.ownsRow w.heap.size 9 1 (.slice A (splitB c s).length cp) (splitB c s).length ((splitB c s).map Value.string) ∧ Below w.heap.size w w' := by
 obtain ⟨i0, hinf, hz0, hz1, hz2⟩ := info_parts Tryz.infoString
 have hcb : c.toNat < 256 := UInt8.toNat_lt _
 have HST := hide (SplitAt.start c s.data.toList)
 have HSZ := hide (show s.data.toList.length = s.size from rfl)
 go_enter Tryz.func86, Tryz.ntmps86
 go_wp2_with fail
 go_loopw [5, 6, 7, 8, 9, 10, 11, 12, 13, 14, 15, 16, 17, 18, 19, 20, 21, 22, 23, 24, 25, 26, 27] (fun v5 v6 v7 _ _ _ _ _ _ _ _ _ _ _ _ _ _ _ _ _ _ _ _ wr => ∃ (i bg : Nat) (D : List (List UInt8)), i ≤ s.size ∧ v7 = .int .i64 (i : Nat) ∧ v6 = .int .i64 (bg : Nat) ∧ Hid (SplitAt c s.data.toList D bg i) ∧ Hid (wr.ownsRow w.heap.size 9 1 v5 D.length ((D.map mkB).map Value.string)) ∧ Hid (Below w.heap.size w wr)) (fun _ _ v7 _ _ _ _ _ _ _ _ _ _ _ _ _ _ _ _ _ _ _ _ _ => s.size - (intOf v7).toNat)
 case atStart => exact ⟨0, 0, [], Nat.zero_le _, rfl, rfl, HST, hide ⟨rfl, .inl ⟨rfl, rfl⟩⟩, hide (Below.refl _ _)⟩
 case round =>
  obtain ⟨i, bg, D, hi, rfl, rfl, HSA, HO, HB⟩ := hrel
  have hi0 : (0 : Int) ≤ (i : Int) := Int.natCast_nonneg _
  have hb0 : (0 : Int) ≤ (bg : Int) := Int.natCast_nonneg _
  have hbi := HSA.out.le
  have hbi2 : (bg : Int) ≤ (i : Int) := by omega
  have hdl := HSA.out.len
  have hzw := HB.out.size
  by_cases hlt : i < s.size
  · have hi1 : (i : Int) < (s.size : Int) := by omega
    have hi2 : (i : Int) ≤ (s.size : Int) := by omega
    have hix : ∀ w, (Instr.index 9 (.string s) (.int .i64 (i : Int))).run Tryz.prog w = .ok (.int .u8 (byteAt s i : Int)) w := fun w => by
     rw [run_index_string _ _ _ _ _ Tryz.underlying9, dif_pos ⟨hi0, hi1⟩, byteAt_eq hlt]; simp
    have HGE := hide (show s.data.toList[i]? = some (s[i]'hlt) from by rw [List.getElem?_eq_getElem (show i < s.data.toList.length from hlt)]; rfl)
    have HBY := hide (byteAt_eq hlt)
    have hbb : byteAt s i < 256 := by rw [byteAt_eq hlt]; exact UInt8.toNat_lt _
    by_cases hc : s[i]'hlt = c
    · have hce : ((byteAt s i : Int) == (c.toNat : Int)) = true := by rw [HBY.out, hc, beq_iff_eq]
      have HH := hide (HSA.out.hit (by rw [HGE.out, hc]))
      have HEX := hide (extract_mk s bg i (Nat.le_of_lt hlt))
      clear hc HGE HBY
      generalize byteAt s i = bb at *
      go_upto_region 8 with (at_builtin; go_loud (refine wpList_append_own_at _ rfl _ _ 80 rfl w.heap.size 9 i0 (.string ⟨#[]⟩) 1 16 Tryz.underlying80 hinf hz0 hz1 hz2 rfl (by decide) _ _ _ rfl (HO.out.alloc _) ⟨wr.heap.size, 0, none⟩ 1 1 [.string (s.extract bg i)] rfl rfl (cell_one_new _ _ _) (by simp [Value.oneCell']) (by unfold maxLen; omega) (by omega) (by simp; omega) ?_; intro v' w1 hown' hgrow _ hat))
      have hb1 := app_below (base := w.heap.size) (by omega) HO.out hgrow
      have HBY := hide (HB.out.trans hb1)
      have HOF : Hid (w1.ownsRow w.heap.size 9 1 v' (D ++ [(s.data.toList.drop bg).take (i - bg)]).length (((D ++ [(s.data.toList.drop bg).take (i - bg)]).map mkB).map Value.string)) := hide (by
       rw [HEX.out] at hown'
       rw [List.length_append, List.map_append, List.map_append]; exact hown')
      clear hgrow hat hb1 hown' HO HB
      go_wp2_with fail
      go_roundw
      case rel => exact ⟨i + 1, i + 1, _, by omega, by go_num, by go_num, HH, HOF, HBY⟩
      case measure => simp [intOf]; omega
    · have hce : ((byteAt s i : Int) == (c.toNat : Int)) = false := by
       rw [HBY.out, beq_eq_false_iff_ne]
       intro e
       exact hc (UInt8.toNat_inj.1 (by omega))
      have HH := hide (HSA.out.miss (show i < s.data.toList.length from hlt) (by rw [HGE.out]; intro e; exact hc (Option.some.inj e)))
      clear hc HGE HBY
      generalize byteAt s i = bb at *
      go_wp2_with fail
      go_roundw
      case rel => exact ⟨i + 1, bg, D, by omega, by go_num, rfl, HH, HO, HB⟩
      case measure => simp [intOf]; omega
  · obtain rfl : i = s.size := by omega
    have HH := hide (show splitB c s = (D ++ [s.data.toList.drop bg]).map mkB from by rw [splitB, SplitAt.done (by rw [HSZ.out]; exact HSA.out)])
    have HEX := hide (show s.extract bg s.size = mkB (s.data.toList.drop bg) from by
     rw [extract_mk s bg s.size (Nat.le_refl _), List.take_of_length_le (by rw [List.length_drop, HSZ.out]; exact Nat.le_refl _)])
    go_wp2_with (at_builtin; go_loud (refine wpList_append_own_at _ rfl _ _ 80 rfl w.heap.size 9 i0 (.string ⟨#[]⟩) 1 16 Tryz.underlying80 hinf hz0 hz1 hz2 rfl (by decide) _ _ _ rfl (HO.out.alloc _) ⟨wr.heap.size, 0, none⟩ 1 1 [.string (s.extract bg s.size)] rfl rfl (cell_one_new _ _ _) (by simp [Value.oneCell']) (by unfold maxLen; omega) (by omega) (by simp; omega) ?_; intro v' w1 hown' hgrow _ hat))
    have hb1 := app_below (base := w.heap.size) (by omega) HO.out hgrow
    have hof : w1.ownsRow w.heap.size 9 1 v' (splitB c s).length ((splitB c s).map Value.string) := by
     rw [HEX.out] at hown'
     rw [HH.out, List.length_map, List.length_append, List.map_append, List.map_append]; exact hown'
    obtain ⟨A, cp, rfl, hss⟩ := own_ex hof
    go_ret
    exact ⟨A, cp, rfl, hss, HB.out.trans hb1⟩
end Go.Proofs.YtocdmkilnbpkdaaGreatDoor
