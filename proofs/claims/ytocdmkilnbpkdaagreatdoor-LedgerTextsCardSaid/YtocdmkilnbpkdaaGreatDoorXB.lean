/- The law's span, tally and Book; the examples. -/
import Derived.Test.YtocdmkilnbpkdaaGreatDoorXA
import Derived.Test.YtocdmkilnbpkdaaGreatDoorWK
import Derived.Test.YtocdmkilnbpkdaaGreatDoorZT
import Derived.Test.YtocdmkilnbpkdaaGreatDoorZX
import Derived.Test.YtocdmkilnbpkdaaGreatDoorZZ
import Derived.OwnWalkIn
import Derived.Laws.StructEq
import Derived.Maps.AppendAt
import Derived.TacticsInMore
import Derived.Deep.DeepCutAuto
set_option linter.unusedVariables false
set_option linter.unusedSimpArgs false
namespace Go.Proofs.YtocdmkilnbpkdaaGreatDoor
open Go.RowKit
attribute [local go_sem] Oper.semAt_some

def stepsX : List Step := [⟨⟨#[99, 117, 116]⟩, -1, 5⟩, ⟨⟨#[98, 111, 97, 114, 100]⟩, 0, 4⟩, ⟨⟨#[104, 117, 108, 108]⟩, 1, 0⟩, ⟨⟨#[121, 111, 114, 107]⟩, 1, 0⟩]
def bookX (more : List Tally) : Book := ⟨stepsX, [⟨0, 40, 1⟩, ⟨2, 15, 0⟩, ⟨3, 19, 1⟩] ++ more⟩
abbrev bB : Book := bookX []
abbrev bC : Book := bookX [⟨1, 38, 0⟩]
abbrev bW : Book := bookX [⟨3, 30, 2⟩]
def textX : List UInt8 := [115, 116, 101, 112, 32, 99, 117, 116, 32, 45, 32, 53, 10, 115, 116, 101, 112, 32, 98, 111, 97, 114, 100, 32, 99, 117, 116, 32, 52, 10, 115, 116, 101, 112, 32, 104, 117, 108, 108, 32, 98, 111, 97, 114, 100, 32, 48, 10, 115, 116, 101, 112, 32, 121, 111, 114, 107, 32, 98, 111, 97, 114, 100, 32, 48, 10, 116, 97, 108, 108, 121, 32, 99, 117, 116, 32, 52, 48, 32, 49, 10, 116, 97, 108, 108, 121, 32, 104, 117, 108, 108, 32, 49, 53, 32, 48, 10, 116, 97, 108, 108, 121, 32, 121, 111, 114, 107, 32, 49, 57, 32, 49, 10, 116, 97, 108, 108, 121, 32, 98, 111, 97, 114, 100, 32, 51, 56, 32, 48, 10]
def badX : List UInt8 := [115, 116, 101, 112, 32, 99, 117, 116, 32, 99, 117, 116, 32, 53, 10]
theorem ex_check : checkM bC = (0, 0, 0) := by kernel_rfl
theorem ex_text : textL bC = textX := by kernel_rfl
theorem ex_hands : (okS bB 0 (handsB bB (fun _ => false) 0) = ⟨39, 41⟩ ∧ enterK bB 0 = 0) ∧ okS bC 3 (handsB bC (fun _ => false) 3) = ⟨19, 20⟩ ∧ enterK bC 3 = 0 := by
 refine ⟨⟨?_, ?_⟩, ?_, ?_⟩ <;> kernel_rfl
theorem ex_lost : (okS bB 1 (lostB bB 1) = ⟨0, 4⟩ ∧ enterK bB 1 = 0) ∧ okS bC 1 (lostB bC 1) = ⟨3, 4⟩ ∧ enterK bC 1 = 0 := by
 refine ⟨⟨?_, ?_⟩, ?_, ?_⟩ <;> kernel_rfl
theorem ex_miss : missV bB = ([], [0, 1], 0) ∧ missV bC = ([0, 1], [0, 1], 0) := by
 refine ⟨?_, ?_⟩ <;> kernel_rfl
theorem ex_where : whereV bC = (1, 3, 0) ∧ whereV bB = (0, 0, 9) := by
 refine ⟨?_, ?_⟩ <;> kernel_rfl
theorem ex_first : firstV bB = ([39, 34, 15, 18], 0) ∧ firstV bW = ([], 8) := by
 refine ⟨?_, ?_⟩ <;> kernel_rfl
theorem ex_wrong : wrongV bW = ([3], 0) := by kernel_rfl
theorem ex_write : writeV bC = (⟨textX.toArray⟩, 0) := by rw [writeV, ex_check, if_pos rfl, ex_text]
theorem ex_read : readR textX = (bC, 0) := by
 have h : readV textX = some bC := readV_iff.2 ⟨by rw [ex_check], ex_text⟩
 have hl : textX.length = 130 := by kernel_rfl
 rw [readR, if_neg (by omega), h]
theorem ex_bad : readR badX = (⟨[], []⟩, 6) := by
 have h : readB badX = none := by kernel_rfl
 exact readR_none (by decide) (by rw [readV, h])
theorem ex_equal : equalB bC bC = true := by kernel_rfl
set_option maxRecDepth 100000 in
theorem span12_any (lo hi : Int) (w : World) : Calls Tryz.prog 40 #[.int .i64 lo, .int .i64 hi] w fun e w' => e = .returned (.agg #[.int .i64 lo, .int .i64 hi]) ∧ Below w.heap.size w w' := by
 go_enter Tryz.func40, Tryz.ntmps40
 go_wp2
 exact bodyPost_ret (v := .agg #[.int .i64 lo, .int .i64 hi]) (by simp [results, Tryz.results40, go_sem]) rfl ⟨rfl, (Below.refl _ _).alloc (Nat.le_refl _) _⟩
set_option maxRecDepth 100000 in
theorem tally12_any (a b c : Int) (w : World) : Calls Tryz.prog 39 #[.int .i64 a, .int .i64 b, .int .i64 c] w fun e w' => e = .returned (.agg #[.int .i64 a, .int .i64 b, .int .i64 c]) ∧ Below w.heap.size w w' := by
 go_enter Tryz.func39, Tryz.ntmps39
 go_wp2
 exact bodyPost_ret (v := .agg #[.int .i64 a, .int .i64 b, .int .i64 c]) (by simp [results, Tryz.results39, go_sem]) rfl ⟨rfl, (Below.refl _ _).alloc (Nat.le_refl _) _⟩
theorem talliesF_more (ts us : List Tally) {j : Nat} : talliesF (ts ++ us) j = if j < ts.length * 3 then talliesF ts j else talliesF us (j - ts.length * 3) := by
 have e : nth (ts ++ us) (j / 3) = if j / 3 < ts.length then nth ts (j / 3) else nth us (j / 3 - ts.length) := nth_app' _
 split
 · rename_i h
   rw [if_pos (by omega)] at e
   unfold talliesF; rw [e]
 · rename_i h
   rw [if_neg (by omega)] at e
   unfold talliesF
   rw [e, show (j - ts.length * 3) % 3 = j % 3 by omega, show (j - ts.length * 3) / 3 = j / 3 - ts.length by omega]
theorem stepsX_size : ∀ j, j < 4 → (nth stepsX j).name.size ≤ 16
 | 0, _ | 1, _ | 2, _ | 3, _ => by decide
theorem row_congr {w : World} {B n : Nat} {A : Option Addr} {f g : Nat → Value} (h : Row w B A n f) (hf : ∀ j, j < n → f j = g j) : Row w B A n g := fun hn => by
 obtain ⟨b, off, e, hb, hc⟩ := h hn
 exact ⟨b, off, e, hb, fun j hj => by rw [hc j hj, hf j hj]⟩
theorem tallies_more (ts : List Tally) (j : Nat) (hj : j < (3 + ts.length) * 3) : (([.int .i64 0, .int .i64 40, .int .i64 1, .int .i64 2, .int .i64 15, .int .i64 0, .int .i64 3, .int .i64 19, .int .i64 1] : List Value) ++ (List.range (ts.length * 3)).map (talliesF ts)).getD j undef = talliesF ([⟨0, 40, 1⟩, ⟨2, 15, 0⟩, ⟨3, 19, 1⟩] ++ ts) j := by
 rcases Nat.lt_or_ge j 9 with h | h
 · match j, h with
   | 0, _ | 1, _ | 2, _ | 3, _ | 4, _ | 5, _ | 6, _ | 7, _ | 8, _ => rfl
 · obtain ⟨k, rfl⟩ : ∃ k, j = k + 9 := ⟨j - 9, by omega⟩
   have hk : k < ts.length * 3 := by omega
   rw [List.getD_eq_getElem?_getD, List.getElem?_append_right (by simp)]
   simp only [List.length_cons, List.length_nil, Nat.reduceAdd, Nat.add_sub_cancel]
   rw [List.getElem?_map, List.getElem?_range hk, talliesF_more, if_neg (by simp)]
   simp
set_option maxHeartbeats 1000000 in
set_option maxRecDepth 100000 in
theorem book12_any {A : Option Addr} {B c : Nat} {more : List Tally} {w : World} (h : Row w B A (more.length * 3) (talliesF more)) (hB : B ≤ w.heap.size) (hn : more.length ≤ 1000) :
 Calls Tryz.prog 38 #[.slice A more.length c] w fun e w' => ∃ a, e = .returned (bookVal (bookX more) a) ∧ BookV w' w'.heap.size (bookX more) a ∧ Below w.heap.size w w' := by
 obtain ⟨i0, hI0, hz00, hz01, hz02⟩ := info_parts Tryz.infoTally
 have HH := hide h
 clear h
 have hb1 : Below w.heap.size w ((w.alloc (.cells #[.slice none 0 0, .slice none 0 0] 25)).alloc (.cells #[.string ⟨#[99, 117, 116]⟩, .int .i64 (-1), .int .i64 5, .string ⟨#[98, 111, 97, 114, 100]⟩, .int .i64 0, .int .i64 4, .string ⟨#[104, 117, 108, 108]⟩, .int .i64 1, .int .i64 0, .string ⟨#[121, 111, 114, 107]⟩, .int .i64 1, .int .i64 0] 68)) := ((Below.refl _ _).alloc (Nat.le_refl _) _).alloc (by simp) _
 have B0 : Hid (Blk ((w.alloc (.cells #[.slice none 0 0, .slice none 0 0] 25)).alloc (.cells #[.string ⟨#[99, 117, 116]⟩, .int .i64 (-1), .int .i64 5, .string ⟨#[98, 111, 97, 114, 100]⟩, .int .i64 0, .int .i64 4, .string ⟨#[104, 117, 108, 108]⟩, .int .i64 1, .int .i64 0, .string ⟨#[121, 111, 114, 107]⟩, .int .i64 1, .int .i64 0] 68)) w.heap.size 25 #[.slice none 0 0, .slice none 0 0]) := hide (Blk.next Blk.made ((Below.refl _ _).alloc (Nat.le_refl _) _))
 have B1 : Hid (Blk ((w.alloc (.cells #[.slice none 0 0, .slice none 0 0] 25)).alloc (.cells #[.string ⟨#[99, 117, 116]⟩, .int .i64 (-1), .int .i64 5, .string ⟨#[98, 111, 97, 114, 100]⟩, .int .i64 0, .int .i64 4, .string ⟨#[104, 117, 108, 108]⟩, .int .i64 1, .int .i64 0, .string ⟨#[121, 111, 114, 107]⟩, .int .i64 1, .int .i64 0] 68)) (w.heap.size + 1) 68 #[.string ⟨#[99, 117, 116]⟩, .int .i64 (-1), .int .i64 5, .string ⟨#[98, 111, 97, 114, 100]⟩, .int .i64 0, .int .i64 4, .string ⟨#[104, 117, 108, 108]⟩, .int .i64 1, .int .i64 0, .string ⟨#[121, 111, 114, 107]⟩, .int .i64 1, .int .i64 0]) := hide (by
  rw [show w.heap.size + 1 = (w.alloc (.cells #[.slice none 0 0, .slice none 0 0] 25)).heap.size by simp]; exact Blk.made)
 have HB := hide hb1
 clear hb1
 go_enter Tryz.func38, Tryz.ntmps38
 go_wp2_with fail
 generalize ((w.alloc (.cells #[.slice none 0 0, .slice none 0 0] 25)).alloc (.cells #[.string ⟨#[99, 117, 116]⟩, .int .i64 (-1), .int .i64 5, .string ⟨#[98, 111, 97, 114, 100]⟩, .int .i64 0, .int .i64 4, .string ⟨#[104, 117, 108, 108]⟩, .int .i64 1, .int .i64 0, .string ⟨#[121, 111, 114, 107]⟩, .int .i64 1, .int .i64 0] 68)) = k1 at *
 refine (tally12_any 0 40 1 _).mono ?_
 rintro e k2 ⟨rfl, hb⟩
 have B0 := hide (B0.out.next hb)
 have B1 := hide (B1.out.next hb)
 have HB := hide (HB.out.trans (hb.mono HB.out.size))
 clear hb
 go_wp2_with fail
 refine (tally12_any 2 15 0 _).mono ?_
 rintro e k3 ⟨rfl, hb⟩
 have B0 := hide (B0.out.next hb)
 have B1 := hide (B1.out.next hb)
 have HB := hide (HB.out.trans (hb.mono HB.out.size))
 clear hb
 go_wp2_with fail
 refine (tally12_any 3 19 1 _).mono ?_
 rintro e k4 ⟨rfl, hb⟩
 have B0 := hide (B0.out.next hb)
 have B1 := hide (B1.out.next hb)
 have HB := hide (HB.out.trans (hb.mono HB.out.size))
 have hzw := HB.out.size
 have hzk := B1.out.lt
 clear hb
 go_wp2_with (first
  | (at_builtin
     have hown : (k4.alloc (.cells #[.int .i64 0, .int .i64 40, .int .i64 1, .int .i64 2, .int .i64 15, .int .i64 0, .int .i64 3, .int .i64 19, .int .i64 1] 50)).ownsRow k4.heap.size 50 3 (.slice (some ⟨k4.heap.size, 0, none⟩) 3 3) 3 [.int .i64 0, .int .i64 40, .int .i64 1, .int .i64 2, .int .i64 15, .int .i64 0, .int .i64 3, .int .i64 19, .int .i64 1] := World.ownsRow_lit _ #[.int .i64 0, .int .i64 40, .int .i64 1, .int .i64 2, .int .i64 15, .int .i64 0, .int .i64 3, .int .i64 19, .int .i64 1] 3 (Nat.le_refl _) (by simp [maxLen]) rfl
     refine wpList_app_row _ rfl (.tmp 11) (.tmp 12) 23 rfl k4.heap.size 50 i0 (.agg #[.int .i64 0, .int .i64 0, .int .i64 0]) 3 24 Tryz.underlying23 hI0 hz00 hz01 hz02 rfl (by decide) (.slice (some ⟨k4.heap.size, 0, none⟩) 3 3) 3 _ rfl hown A more.length c B (talliesF more) rfl (HH.out.below ((HB.out.alloc hzw _).mono hB)) (fun _ _ => rfl) (by simp only [maxLen]; omega) (by omega) (by simp) ?_
     intro v' k6 hown6 hg6 _
     have hb : Below k4.heap.size k4 k6 := ((Below.refl _ k4).alloc (Nat.le_refl _) (.cells #[.int .i64 0, .int .i64 40, .int .i64 1, .int .i64 2, .int .i64 15, .int .i64 0, .int .i64 3, .int .i64 19, .int .i64 1] 50)).grown hg6 (by simp) (fun k hk => by simp [Value.ownBlock] at hk; omega)
     obtain ⟨AP, cP, rfl, hP1, hP2, hrow⟩ := row_own hown6
     obtain ⟨gP, rfl, hgP, _⟩ := own_addr hown6 (by omega)
     have HP := hide (row_congr hrow (tallies_more more))
     clear hown6 hg6 hrow hown
     have B0 := hide (B0.out.next hb)
     have B1 := hide (B1.out.next hb)
     have HB := hide (HB.out.trans (hb.mono HB.out.size))
     clear hb
     have hzz := B0.out.lt
     have e0 := B0.out.at_ 0
     have e1 := B0.out.at_ 1
     have f0 := B0.out.free 0
     have f1 := B0.out.free 1
     simp only [List.getElem?_toArray, List.getElem?_cons_zero, List.getElem?_cons_succ] at e0 e1))
 have hs : Keep (fun q => q = w.heap.size) k6 ((k6.setCell ⟨w.heap.size, 0, none⟩ (.slice (some ⟨w.heap.size + 1, 0, none⟩) 4 4)).setCell ⟨w.heap.size, 1, none⟩ (.slice (some ⟨gP, 0, none⟩) (3 + more.length) cP)) := (Keep.setCell _ _ _ (fun q => q = w.heap.size) rfl).trans (Keep.setCell _ _ _ (fun q => q = w.heap.size) rfl)
 have b0 : Blk ((k6.setCell ⟨w.heap.size, 0, none⟩ (.slice (some ⟨w.heap.size + 1, 0, none⟩) 4 4)).setCell ⟨w.heap.size, 1, none⟩ (.slice (some ⟨gP, 0, none⟩) (3 + more.length) cP)) w.heap.size 25 #[.slice (some ⟨w.heap.size + 1, 0, none⟩) 4 4, .slice (some ⟨gP, 0, none⟩) (3 + more.length) cP] := (B0.out.store 0 _).store 1 _
 have b1 := B1.out.keep hs (by omega)
 have hB2 := HB.out.trans (hs.below (B := w.heap.size) (fun k h => by omega) HB.out.size)
 have hrow := HP.out.stab hs.size (fun g o hg e _ => hs.block g hg (fun h => by simp only [Option.some.injEq, Addr.mk.injEq] at e; have := e.1; omega))
 generalize ((k6.setCell ⟨w.heap.size, 0, none⟩ (.slice (some ⟨w.heap.size + 1, 0, none⟩) 4 4)).setCell ⟨w.heap.size, 1, none⟩ (.slice (some ⟨gP, 0, none⟩) (3 + more.length) cP)) = X at *
 have c0 := b0.at_ 0
 have c1 := b0.at_ 1
 simp only [List.getElem?_toArray, List.getElem?_cons_zero, List.getElem?_cons_succ] at c0 c1
 have hlen : (bookX more).tallies.length = 3 + more.length := by show ([_, _, _] ++ more : List Tally).length = _; rw [List.length_append]; rfl
 have hbv : BookV X X.heap.size (bookX more) ⟨some ⟨w.heap.size + 1, 0, none⟩, some ⟨gP, 0, none⟩, 4, cP⟩ := by
  refine ⟨fun _ => ⟨w.heap.size + 1, 0, rfl, b1.lt, fun j hj => ?_⟩, ?_, fun j hj => ?_, ⟨Nat.le_refl _, by simp [maxLen]⟩, ?_⟩
  · have := b1.at_ j
    rw [Nat.zero_add, this]
    match j, hj with
    | 0, _ | 1, _ | 2, _ | 3, _ | 4, _ | 5, _ | 6, _ | 7, _ | 8, _ | 9, _ | 10, _ | 11, _ => rfl
  · rw [hlen]; exact hrow
  · have h16 := stepsX_size j hj
    show (nth stepsX j).name.size ≤ maxLen
    unfold maxLen; omega
  · rw [hlen]; exact ⟨hP1, hP2⟩
 exact bodyPost_ret (v := .agg #[.slice (some ⟨w.heap.size + 1, 0, none⟩) 4 4, .slice (some ⟨gP, 0, none⟩) (3 + more.length) cP]) (by simp [results, Tryz.results38, go_sem, c0, c1]) rfl ⟨_, by rw [bookVal, hlen]; rfl, hbv, hB2⟩
end Go.Proofs.YtocdmkilnbpkdaaGreatDoor
