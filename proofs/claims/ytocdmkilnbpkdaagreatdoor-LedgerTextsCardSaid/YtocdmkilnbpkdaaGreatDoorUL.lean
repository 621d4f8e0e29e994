/- Names of the reference; what its Read does. -/
import Derived.Test.YtocdmkilnbpkdaaGreatDoorUJ
import Derived.Test.YtocdmkilnbpkdaaGreatDoorUK
import Derived.Test.YtocdmkilnbpkdaaGreatDoorWK
import Derived.Test.YtocdmkilnbpkdaaGreatDoorVQ
import Derived.OwnWalkIn
import Derived.RangeFuncBox
import Derived.Maps.AppendAt
import Derived.OwnWalk
import Derived.Laws.AppendOwn
import Derived.Laws.StructEq
import Derived.TacticsInMore
import Derived.Deep.DeepCutAuto
set_option linter.unusedVariables false
set_option linter.unusedSimpArgs false
namespace Go.Proofs.YtocdmkilnbpkdaaGreatDoor
open Go.RowKit
attribute [local go_sem] Oper.semAt_some

theorem strs_row {w : World} {base n c : Nat} {A : Option Addr} {xs : List ByteArray} (h : w.ownsRow base 9 1 (.slice A n c) n (xs.map Value.string)) : xs.length = n ∧ Row w w.heap.size A n (strsF xs) := ⟨by have := h.1; simpa using this, strs_own h⟩
set_option maxHeartbeats 1000000 in
set_option maxRecDepth 100000 in
theorem names12_any {b : Book} {a : BA} {w : World} (h : BookV w w.heap.size b a) (hn : b.steps.length ≤ 1000) :
 Calls Tryz.prog 89 #[bookVal b a] w fun e w' => ∃ A cp, e = .returned (.slice A b.steps.length cp) ∧ w'.ownsRow w.heap.size 9 1 (.slice A b.steps.length cp) b.steps.length ((namesTo b b.steps.length).map Value.string) ∧ Below w.heap.size w w' := by
 have HX := hide (BoxB.made h)
 have HV := hide h
 have HB := hide (show Below w.heap.size w (w.alloc (.cells (bookCells b a) 25)) from (Below.refl _ _).alloc (Nat.le_refl _) _)
 clear h
 obtain ⟨i0, hinf, hz0, hz1, hz2⟩ := info_parts Tryz.infoString
 have hs0 : (0 : Int) ≤ (b.steps.length : Int) := Int.natCast_nonneg _
 go_enter Tryz.func89, Tryz.ntmps89
 go_upto_region 1 with (fail)
 generalize (w.alloc (.cells (bookCells b a) 25)) = v0 at *
 have hzb := HX.out.k.lt
 go_wp2_with fail
 go_loopw [3, 4, 5, 6, 7, 8, 9, 10, 11, 12, 13, 14, 15, 16, 17, 18, 19, 20] (fun v3 v4 _ _ _ _ _ _ _ _ _ _ _ _ _ _ _ _ wr => ∃ i : Nat, i ≤ b.steps.length ∧ v4 = .int .i64 (i : Nat) ∧ Hid (wr.ownsRow v0.heap.size 9 1 v3 i ((namesTo b i).map Value.string)) ∧ Hid (Below v0.heap.size v0 wr)) (fun v3 v4 _ _ _ _ _ _ _ _ _ _ _ _ _ _ _ _ _ => b.steps.length - (intOf v4).toNat)
 case atStart => exact ⟨0, Nat.zero_le _, rfl, hide (World.ownsRow_nil _ _ _ _), hide (Below.refl _ _)⟩
 case round =>
  obtain ⟨i, hi, rfl, HO, HBW⟩ := hrel
  obtain ⟨An, cn, rfl, hown⟩ := own_ex HO.out
  have HO := hide hown
  clear hown
  have hi0 : (0 : Int) ≤ (i : Int) := Int.natCast_nonneg _
  have HBY := hide (HX.out.next HBW.out)
  obtain ⟨gx, x0, x1⟩ := HBY.out.cells
  have hzr := HBW.out.size
  by_cases hlt : i < b.steps.length
  · have hi1 : (i : Int) < (b.steps.length : Int) := by omega
    obtain ⟨bs, os, hA, hbs, y0, y1, y2⟩ := HBY.out.v.steps.steps hlt
    rw [hA] at x0
    clear hA y1 y2
    have HNS := hide (namesTo_succ hlt)
    generalize (nth b.steps i).name = nm at *
    go_upto_region 4 with (at_builtin; go_loud (refine wpList_append_own_at _ rfl _ _ 80 rfl v0.heap.size 9 i0 (.string ⟨#[]⟩) 1 16 Tryz.underlying80 hinf hz0 hz1 hz2 rfl (by decide) _ _ _ rfl (HO.out.alloc _) ⟨wr.heap.size, 0, none⟩ 1 1 [.string nm] rfl rfl (cell_one_new _ _ _) (by simp [Value.oneCell']) (by unfold maxLen; omega) (by omega) (by simp; omega) ?_; intro v' w1 hown' hgrow _ hat))
    have hb1 := app_below (base := v0.heap.size) (by omega) HO.out hgrow
    have HBZ := hide (HBW.out.trans hb1)
    have HO1 := hide (show w1.ownsRow v0.heap.size 9 1 v' (i + 1) ((namesTo b (i + 1)).map Value.string) by rw [HNS.out, List.map_append]; exact hown')
    clear hgrow hat hb1 hown' HO HBW HBY gx x0 x1 y0
    go_wp2_with fail
    go_roundw
    case rel => exact ⟨i + 1, by omega, by go_num, HO1, HBZ⟩
    case measure => simp [intOf]; omega
  · obtain rfl : i = b.steps.length := by omega
    go_wp2_with fail
    go_ret
    exact ⟨An, cn, rfl, own_base HO.out HB.out.size, HB.out.trans (HBW.out.mono HB.out.size)⟩
/-- Where a name stands among the names of a book. -/
theorem where_names {b : Book} {A : Option Addr} {base c : Nat} {w : World} (hn : b.steps.length ≤ 1000) (h : w.ownsRow base 9 1 (.slice A b.steps.length c) b.steps.length ((namesTo b b.steps.length).map Value.string)) (v : ByteArray) :
 Calls Tryz.prog 88 #[.slice A b.steps.length c, .string v] w fun e w' => e = .returned (.int .i64 (idxS (namesTo b b.steps.length) v)) ∧ w = w' := by
 obtain ⟨h1, h2⟩ := strs_row h
 refine (where7_any h2 (Nat.le_of_eq h1.symm) (by omega) v).mono ?_
 rintro e w' ⟨he, hw⟩
 refine ⟨?_, hw⟩
 rw [he, List.take_of_length_le (Nat.le_of_eq h1)]
/-! ### What Read of the reference does -/
def lineR (b : Book) (ws : List ByteArray) : Book :=
 match ws with
 | [w0, w1, w2, w3] =>
  if eqS w0 wStep then { b with steps := b.steps ++ [⟨w1, idxS (namesTo b b.steps.length) w2, numR w3⟩] }
  else if eqS w0 wTally then { b with tallies := b.tallies ++ [⟨idxS (namesTo b b.steps.length) w1, numR w2, numR w3⟩] }
  else b
 | _ => b
def foldR (b : Book) (L : List (List UInt8)) : Book := L.foldl (fun b l => lineR b (splitB 32 (mkB l))) b
def bookR (s : List UInt8) : Book := foldR ⟨[], []⟩ (splitL 10 s)
theorem eqS_self (s : ByteArray) : eqS s s = true := by simp [eqS]
theorem eqS_eq {s t : ByteArray} (h : eqS s t = true) : s = t := by
 have e := eq_of_beq h
 rw [Lib.toList_data, Lib.toList_data] at e
 exact ByteArray.ext (Array.toList_inj.1 e)
theorem eqS_ne {s t : ByteArray} (h : s ≠ t) : eqS s t = false := by
 cases e : eqS s t
 · rfl
 · exact absurd (eqS_eq e) h
theorem numR_dec {n : Int} (h : 0 ≤ n ∧ n ≤ 99) : numR (decB n) = n := by
 obtain ⟨k, rfl⟩ : ∃ k : Nat, n = (k : Int) := ⟨n.toNat, by omega⟩
 refine numR_hit (by omega) (eqS_self _) fun j hj => eqS_ne fun e => ?_
 have h1 := dec_num (n := (j : Int)) (by omega)
 rw [e, dec_num (by omega)] at h1
 simp at h1
 omega
theorem split_words {ws : List ByteArray} (hne : ws ≠ []) (h : ∀ w ∈ ws, WordOk w) : splitB 32 (mkB (Lib.join (ws.map (fun x : ByteArray => x.data.toList)) [32])) = ws := by
 show (splitL 32 (Lib.join (ws.map (fun x : ByteArray => x.data.toList)) [32])).map mkB = ws
 rw [splitL_join (by simpa using hne), List.map_map]
 · conv => rhs; rw [← List.map_id ws]
   exact List.map_congr_left fun x _ => rfl
 · intro w hw
   obtain ⟨x, hx, rfl⟩ := List.mem_map.1 hw
   exact (h x hx).1
theorem fold_text : ∀ {L : List (List ByteArray)} (b : Book), (∀ ws ∈ L, ws ≠ [] ∧ ∀ w ∈ ws, WordOk w) → foldR b (splitL 10 (L.flatMap lineL)) = L.foldl lineR b
 | [], b, _ => rfl
 | ws :: L, b, h => by
  have h0 := h ws (by simp)
  rw [List.flatMap_cons, lineL, List.append_assoc, List.singleton_append, splitL_cut]
  · show foldR (lineR b (splitB 32 (mkB _))) _ = _
    rw [split_words h0.1 h0.2, fold_text _ fun x hx => h x (List.mem_cons_of_mem _ hx)]
    rfl
  · refine join_mem (by decide) fun w hw => ?_
    obtain ⟨x, hx, rfl⟩ := List.mem_map.1 hw
    exact (h0.2 x hx).2
theorem names_nth {ss : List Step} {ts : List Tally} {i : Nat} (h : i < ss.length) : nth (namesTo ⟨ss, ts⟩ ss.length) i = (nth ss i).name := by
 have h2 : i < (namesTo ⟨ss, ts⟩ ss.length).length := by rw [namesTo_len (b := ⟨ss, ts⟩) (Nat.le_refl _)]; exact h
 rw [nth_eq h2, nth_eq h]
 simp [namesTo]
theorem idx_take {b : Book} (hv : Valid b) {ts : List Tally} {n i : Nat} (hn : n ≤ b.steps.length) (hi : i < n) : idxS (namesTo ⟨b.steps.take n, ts⟩ (b.steps.take n).length) (nth b.steps i).name = i := by
 have hl : (b.steps.take n).length = n := by rw [List.length_take, Nat.min_eq_left hn]
 refine idxS_hit ?_ ?_ ?_
 · rw [namesTo_len (b := ⟨b.steps.take n, ts⟩) (Nat.le_refl _), hl]; exact hi
 · rw [names_nth (by omega), nth_take' hi hn]; exact eqS_self _
 · intro k hk
   rw [names_nth (by omega), nth_take' (by omega) hn]
   have := hv.apart i (by omega)
   rw [List.any_eq_false] at this
   have h2 := this (nth b.steps k) (by
    rw [nth_eq (by omega)]
    exact List.mem_iff_getElem?.2 ⟨k, by rw [List.getElem?_take, if_pos hk]; simp⟩)
   rw [eqS_comm]
   simpa using h2
theorem idx_dash {b : Book} (hv : Valid b) {ts : List Tally} {n : Nat} (hn : n ≤ b.steps.length) : idxS (namesTo ⟨b.steps.take n, ts⟩ (b.steps.take n).length) wDash = -1 := by
 have hl : (b.steps.take n).length = n := by rw [List.length_take, Nat.min_eq_left hn]
 refine idxS_miss fun k hk => ?_
 rw [namesTo_len (b := ⟨b.steps.take n, ts⟩) (Nat.le_refl _), hl] at hk
 rw [names_nth (by omega), nth_take' hk hn]
 exact eqS_ne fun e => name_dash (hv.name k (by omega)) e.symm
theorem stepR_take {b : Book} (hv : Valid b) : ∀ n, n ≤ b.steps.length → ((b.steps.take n).map (stepWs b)).foldl lineR ⟨[], []⟩ = ⟨b.steps.take n, []⟩
 | 0, _ => rfl
 | n + 1, hn => by
  have hl : n < b.steps.length := by omega
  rw [take_nth hl, List.map_append, List.foldl_append, stepR_take hv n (by omega)]
  simp only [List.map_cons, List.map_nil, List.foldl_cons, List.foldl_nil, stepWs, lineR]
  have h1 := hv.loss n hl
  rw [if_pos (eqS_self _), numR_dec (by omega)]
  have key : idxS (namesTo ⟨b.steps.take n, []⟩ (b.steps.take n).length) (fromB b (nth b.steps n).from_) = (nth b.steps n).from_ := by
   by_cases h0 : n = 0
   · subst h0
     rw [show fromB b (nth b.steps 0).from_ = wDash from if_pos hv.first, idx_dash hv (by omega), hv.first]
   · have h2 := hv.from_ n (by omega) hl
     have hf : fromB b (nth b.steps n).from_ = (nth b.steps (nth b.steps n).from_.toNat).name := if_neg (by omega)
     rw [hf, idx_take hv (by omega) (by omega)]
     omega
  rw [key]
theorem tallyR_take {b : Book} (hv : Valid b) : ∀ n, n ≤ b.tallies.length → ((b.tallies.take n).map (tallyWs b)).foldl lineR ⟨b.steps, []⟩ = ⟨b.steps, b.tallies.take n⟩
 | 0, _ => rfl
 | n + 1, hn => by
  have hl : n < b.tallies.length := by omega
  rw [take_nth hl, List.map_append, List.foldl_append, tallyR_take hv n (by omega)]
  simp only [List.map_cons, List.map_nil, List.foldl_cons, List.foldl_nil, tallyWs, lineR]
  have h3 := hv.tally n hl
  have h4 := idx_take hv (ts := b.tallies.take n) (i := (nth b.tallies n).step.toNat) (n := b.steps.length) (Nat.le_refl _) (by omega)
  rw [List.take_length] at h4
  have hw : ¬ eqS wTally wStep = true := by rw [eqS_ne (by decide)]; decide
  rw [if_neg hw, if_pos (eqS_self _), nameAt, h4, numR_dec h3.2.1, numR_dec (by omega)]
  rw [show ((nth b.tallies n).step.toNat : Int) = (nth b.tallies n).step by omega]
theorem bookR_text {b : Book} (hv : Valid b) : bookR (textL b) = b := by
 rw [bookR, textL, fold_text _ (valid_words hv), wordsOf, List.foldl_append]
 have h1 := stepR_take hv b.steps.length (Nat.le_refl _)
 rw [List.take_length] at h1
 rw [h1]
 have h2 := tallyR_take hv b.tallies.length (Nat.le_refl _)
 rw [List.take_length] at h2
 exact h2
/-- What Read of the reference answers: the book that its lines tell, if its text is the text. -/
def readR1 (s : List UInt8) : Book × Int := if 500 < s.length then (⟨[], []⟩, 3) else if (checkM (bookR s)).2.2 = 0 ∧ textL (bookR s) = s then (bookR s, 0) else (⟨[], []⟩, 6)
theorem readR1_eq (s : List UInt8) : readR1 s = readR s := by
 rw [readR1, readR]
 by_cases h5 : 500 < s.length
 · rw [if_pos h5, if_pos h5]
 · rw [if_neg h5, if_neg h5]
   by_cases h : (checkM (bookR s)).2.2 = 0 ∧ textL (bookR s) = s
   · rw [if_pos h, readV_iff.2 h]
   · rw [if_neg h]
     cases hr : readV s with
     | none => rfl
     | some b =>
      obtain ⟨h1, rfl⟩ := readV_iff.1 hr
      exact absurd ⟨by rw [bookR_text (valid_of h1)]; exact h1, by rw [bookR_text (valid_of h1)]⟩ h
end Go.Proofs.YtocdmkilnbpkdaaGreatDoor
