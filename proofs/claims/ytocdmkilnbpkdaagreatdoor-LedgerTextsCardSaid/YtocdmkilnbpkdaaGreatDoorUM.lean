/- Read of the reference. -/
import Derived.Test.YtocdmkilnbpkdaaGreatDoorUL
import Derived.Test.YtocdmkilnbpkdaaGreatDoorQA
import Derived.OwnWalkIn
import Derived.Deep.MidRow
import Derived.RangeFuncBox
import Derived.Maps.AppendAt
import Derived.OwnWalk
import Derived.Laws.AppendOwn
import Derived.Laws.StructEq
import Derived.TacticsInMore
import Derived.Deep.DeepCutAuto
set_option linter.unusedVariables false
set_option linter.unusedSimpArgs false
namespace Go.Proofs.YtocdmkilnbpkdaaGreatDoor
open Go.RowKit
attribute [local go_sem] Oper.semAt_some

theorem lineR_ne {c : Book} {ws : List ByteArray} (h : ws.length ≠ 4) : lineR c ws = c := by
 match ws, h with
 | [], _ => rfl
 | [_], _ => rfl
 | [_, _], _ => rfl
 | [_, _, _], _ => rfl
 | [_, _, _, _], h => exact absurd rfl h
 | _ :: _ :: _ :: _ :: _ :: _, _ => rfl
theorem lineR_step {c : Book} {w0 w1 w2 w3 : ByteArray} (h : (w0.toList == [115, 116, 101, 112]) = true) : lineR c [w0, w1, w2, w3] = { c with steps := c.steps ++ [⟨w1, idxS (namesTo c c.steps.length) w2, numR w3⟩] } := by
 rw [lineR, if_pos (show eqS w0 wStep = true from by rw [eqS, show wStep.toList = [115, 116, 101, 112] by rw [Lib.toList_data]; rfl]; exact h)]
theorem lineR_tally {c : Book} {w0 w1 w2 w3 : ByteArray} (h0 : (w0.toList == [115, 116, 101, 112]) = false) (h : (w0.toList == [116, 97, 108, 108, 121]) = true) : lineR c [w0, w1, w2, w3] = { c with tallies := c.tallies ++ [⟨idxS (namesTo c c.steps.length) w1, numR w2, numR w3⟩] } := by
 rw [lineR, if_neg (show ¬ eqS w0 wStep = true from by rw [eqS, show wStep.toList = [115, 116, 101, 112] by rw [Lib.toList_data]; rfl, h0]; decide),
  if_pos (show eqS w0 wTally = true from by rw [eqS, show wTally.toList = [116, 97, 108, 108, 121] by rw [Lib.toList_data]; rfl]; exact h)]
theorem lineR_no {c : Book} {w0 w1 w2 w3 : ByteArray} (h0 : (w0.toList == [115, 116, 101, 112]) = false) (h : (w0.toList == [116, 97, 108, 108, 121]) = false) : lineR c [w0, w1, w2, w3] = c := by
 rw [lineR, if_neg (show ¬ eqS w0 wStep = true from by rw [eqS, show wStep.toList = [115, 116, 101, 112] by rw [Lib.toList_data]; rfl, h0]; decide),
  if_neg (show ¬ eqS w0 wTally = true from by rw [eqS, show wTally.toList = [116, 97, 108, 108, 121] by rw [Lib.toList_data]; rfl, h]; decide)]
theorem foldR_succ {b : Book} {L : List (List UInt8)} {i : Nat} (hi : i < L.length) : foldR b (L.take (i + 1)) = lineR (foldR b (L.take i)) (splitB 32 (mkB (nth L i))) := by
 rw [take_nth hi, foldR, List.foldl_append]; rfl
theorem splitL_count (c : UInt8) : ∀ l : List UInt8, (splitL c l).length ≤ l.length + 1
 | [] => by simp [splitL]
 | x :: l => by
  have h := splitL_count c l
  rw [splitL]
  split
  · simp; omega
  · split
    · simp
    · rename_i e; rw [e] at h; simp at h ⊢; omega
theorem split_ws {L : List (List UInt8)} {i : Nat} (h : ∀ x ∈ L, x.length ≤ 500) (hi : i < L.length) : (mkB (nth L i)).size ≤ 500 ∧ ∀ w ∈ splitB 32 (mkB (nth L i)), w.size ≤ 500 := by
 have h0 := h (nth L i) (by rw [nth_eq hi]; exact List.getElem_mem hi)
 refine ⟨by show (nth L i).toArray.size ≤ 500; simpa using h0, fun w hw => ?_⟩
 obtain ⟨x, hx, rfl⟩ := List.mem_map.1 hw
 have := splitL_len 32 (nth L i) x hx
 show x.toArray.size ≤ 500
 simp; omega
theorem split_nl (s : ByteArray) (hs : s.size ≤ 100000) (w : World) : Calls Tryz.prog 86 #[.string s, .int .u8 10] w fun e w' => ∃ A cp, e = .returned (.slice A (splitB 10 s).length cp) ∧ w'.ownsRow w.heap.size 9 1 (.slice A (splitB 10 s).length cp) (splitB 10 s).length ((splitB 10 s).map Value.string) ∧ Below w.heap.size w w' := split1_any s 10 hs w
theorem split_sp (s : ByteArray) (hs : s.size ≤ 100000) (w : World) : Calls Tryz.prog 86 #[.string s, .int .u8 32] w fun e w' => ∃ A cp, e = .returned (.slice A (splitB 32 s).length cp) ∧ w'.ownsRow w.heap.size 9 1 (.slice A (splitB 32 s).length cp) (splitB 32 s).length ((splitB 32 s).map Value.string) ∧ Below w.heap.size w w' := split1_any s 32 hs w
theorem step_oneR (xs : List Step) (j n : Nat) (_ : j < n) : (stepsF xs j).oneCell' = true := by
 rw [stepsF]; split <;> rfl
theorem one3s (s : ByteArray) (a d : Int) (j : Nat) (hj : j < 1 * 3) : (([Value.string s, .int .i64 a, .int .i64 d] : List Value).getD j undef).oneCell' = true := by
 match j, hj with
 | 0, _ => rfl
 | 1, _ => rfl
 | 2, _ => rfl
theorem one3i (a b d : Int) (j : Nat) (hj : j < 1 * 3) : (([Value.int .i64 a, .int .i64 b, .int .i64 d] : List Value).getD j undef).oneCell' = true := by
 match j, hj with
 | 0, _ => rfl
 | 1, _ => rfl
 | 2, _ => rfl
theorem snoc3 {α : Type} [Inhabited α] (f : List α → Nat → Value) (xs : List α) (x : α) (u v z : Value) (hf : ∀ j, j < xs.length * 3 → f (xs ++ [x]) j = f xs j) (h0 : f (xs ++ [x]) (xs.length * 3) = u) (h1 : f (xs ++ [x]) (xs.length * 3 + 1) = v) (h2 : f (xs ++ [x]) (xs.length * 3 + 2) = z) :
 (List.range (xs.length * 3)).map (f xs) ++ (List.range (1 * 3)).map (fun j => ([u, v, z] : List Value).getD j undef) = (List.range ((xs.length + 1) * 3)).map (f (xs ++ [x])) := by
 rw [range3 xs.length, List.map_append, ← h0, ← h1, ← h2]
 congr 1
 exact List.map_congr_left fun j hj => (hf j (List.mem_range.1 hj)).symm
theorem nth_endR {α : Type} [Inhabited α] (xs : List α) (x : α) : nth (xs ++ [x]) xs.length = x := by simp [nth]
theorem nth_oldR {α : Type} [Inhabited α] (xs : List α) (x : α) {j : Nat} (h : j < xs.length) : nth (xs ++ [x]) j = nth xs j := by simp [nth, List.getElem?_append_left h]
theorem steps_snocR (xs : List Step) (x : Step) : (List.range (xs.length * 3)).map (stepsF xs) ++ (List.range (1 * 3)).map (fun j => ([.string x.name, .int .i64 x.from_, .int .i64 x.loss] : List Value).getD j undef) = (List.range ((xs.length + 1) * 3)).map (stepsF (xs ++ [x])) := by
 have e := nth_endR xs x
 refine snoc3 stepsF xs x _ _ _ (fun j hj => ?_) ?_ ?_ ?_
 · rw [stepsF, stepsF, nth_oldR xs x (show j / 3 < xs.length by omega)]
 · rw [stepsF, show xs.length * 3 % 3 = 0 by omega, show xs.length * 3 / 3 = xs.length by omega, e]; rfl
 · rw [stepsF, show (xs.length * 3 + 1) % 3 = 1 by omega, show (xs.length * 3 + 1) / 3 = xs.length by omega, e]; rfl
 · rw [stepsF, show (xs.length * 3 + 2) % 3 = 2 by omega, show (xs.length * 3 + 2) / 3 = xs.length by omega, e]; rfl
theorem tallies_snocR (xs : List Tally) (x : Tally) : (List.range (xs.length * 3)).map (talliesF xs) ++ (List.range (1 * 3)).map (fun j => ([.int .i64 x.step, .int .i64 x.hands, .int .i64 x.off] : List Value).getD j undef) = (List.range ((xs.length + 1) * 3)).map (talliesF (xs ++ [x])) := by
 have e := nth_endR xs x
 refine snoc3 talliesF xs x _ _ _ (fun j hj => ?_) ?_ ?_ ?_
 · rw [talliesF, talliesF, nth_oldR xs x (show j / 3 < xs.length by omega)]
 · rw [talliesF, show xs.length * 3 % 3 = 0 by omega, show xs.length * 3 / 3 = xs.length by omega, e]; rfl
 · rw [talliesF, show (xs.length * 3 + 1) % 3 = 1 by omega, show (xs.length * 3 + 1) / 3 = xs.length by omega, e]; rfl
 · rw [talliesF, show (xs.length * 3 + 2) % 3 = 2 by omega, show (xs.length * 3 + 2) / 3 = xs.length by omega, e]; rfl
/-- The book that Read of the reference builds: each of its slices a row of its own. -/
structure RdB (W : World) (B g : Nat) (c : Book) (a : BA) : Prop where
 s : W.ownsRow B 68 3 (.slice a.A1 c.steps.length a.c1) c.steps.length ((List.range (c.steps.length * 3)).map (stepsF c.steps))
 t : W.ownsRow B 50 3 (.slice a.A2 c.tallies.length a.c2) c.tallies.length ((List.range (c.tallies.length * 3)).map (talliesF c.tallies))
 small : ∀ j, j < c.steps.length → (nth c.steps j).name.size ≤ maxLen
 k : Blk W g 25 (bookCells c a)
theorem RdB.box {W : World} {B g : Nat} {c : Book} {a : BA} (h : RdB W B g c a) : BoxB W g c a := by
 obtain ⟨m1, m2, hr⟩ := row_fun h.s
 obtain ⟨n1, n2, nr⟩ := row_fun h.t
 exact ⟨⟨hr, nr, h.small, ⟨m1, m2⟩, ⟨n1, n2⟩⟩, h.k⟩
theorem RdB.next {W W' : World} {B g : Nat} {c : Book} {a : BA} (h : RdB W B g c a) (hb : Below W.heap.size W W') : RdB W' B g c a :=
 ⟨own_stab h.s (fun b hb' _ => hb.block b hb'), own_stab h.t (fun b hb' _ => hb.block b hb'), h.small, h.k.next hb⟩
theorem RdB.after {W W' : World} {B g r : Nat} {c : Book} {a : BA} (h : RdB W B g c a) (hk : Keep (fun q => q = r) W W') (hr : r < B) : BookV W' W'.heap.size c a := by
 obtain ⟨m1, m2, h1⟩ := row_fun (own_kept h.s hk (fun b hb' hS => by omega))
 obtain ⟨n1, n2, h2⟩ := row_fun (own_kept h.t hk (fun b hb' hS => by omega))
 exact ⟨h1, h2, h.small, ⟨m1, m2⟩, ⟨n1, n2⟩⟩
/-- One more step is read. -/
theorem RdB.step {v W : World} {B g cp : Nat} {A : Option Addr} {c : Book} {a : BA} {x : Step} (h : RdB v B g c a) (hgB : g < B) (hBv : B ≤ v.heap.size) (hb : Below v.heap.size v W) (hx : x.name.size ≤ maxLen)
 (ho : W.ownsRow v.heap.size 68 3 (.slice A (c.steps.length + 1) cp) (c.steps.length + 1) ((List.range (c.steps.length * 3)).map (stepsF c.steps) ++ (List.range (1 * 3)).map (fun j => ([.string x.name, .int .i64 x.from_, .int .i64 x.loss] : List Value).getD j undef))) :
 RdB (W.setCell ⟨g, 0, none⟩ (.slice A (c.steps.length + 1) cp)) B g { c with steps := c.steps ++ [x] } ⟨A, a.A2, cp, a.c2⟩ := by
 have hk1 : Keep (fun q => q = g) W (W.setCell ⟨g, 0, none⟩ (.slice A (c.steps.length + 1) cp)) := Keep.setCell _ _ _ _ rfl
 have e : (c.steps ++ [x]).length = c.steps.length + 1 := by simp
 rw [steps_snocR] at ho
 have b0 := (h.k.next hb).store 0 (.slice A (c.steps.length + 1) cp)
 refine ⟨?_, ?_, ?_, ?_⟩
 · show World.ownsRow _ _ _ _ (.slice A (c.steps ++ [x]).length cp) (c.steps ++ [x]).length ((List.range ((c.steps ++ [x]).length * 3)).map (stepsF (c.steps ++ [x])))
   rw [e]; exact own_base (own_kept ho hk1 (fun b hb' hS => by omega)) hBv
 · exact own_kept (own_stab h.t (fun b hb' _ => hb.block b hb')) hk1 (fun b hb' hS => by omega)
 · intro j hj
   show (nth (c.steps ++ [x]) j).name.size ≤ maxLen
   have hj : j < (c.steps ++ [x]).length := hj
   by_cases hl : j < c.steps.length
   · rw [nth_oldR _ _ hl]; exact h.small j hl
   · obtain rfl : j = c.steps.length := by omega
     rw [nth_endR]; exact hx
 · show Blk _ _ _ #[.slice A (c.steps ++ [x]).length cp, _]
   rw [e]; exact b0
/-- One more tally is read. -/
theorem RdB.tally {v W : World} {B g cp : Nat} {A : Option Addr} {c : Book} {a : BA} {x : Tally} (h : RdB v B g c a) (hgB : g < B) (hBv : B ≤ v.heap.size) (hb : Below v.heap.size v W)
 (ho : W.ownsRow v.heap.size 50 3 (.slice A (c.tallies.length + 1) cp) (c.tallies.length + 1) ((List.range (c.tallies.length * 3)).map (talliesF c.tallies) ++ (List.range (1 * 3)).map (fun j => ([.int .i64 x.step, .int .i64 x.hands, .int .i64 x.off] : List Value).getD j undef))) :
 RdB (W.setCell ⟨g, 1, none⟩ (.slice A (c.tallies.length + 1) cp)) B g { c with tallies := c.tallies ++ [x] } ⟨a.A1, A, a.c1, cp⟩ := by
 have hk1 : Keep (fun q => q = g) W (W.setCell ⟨g, 1, none⟩ (.slice A (c.tallies.length + 1) cp)) := Keep.setCell _ _ _ _ rfl
 have e : (c.tallies ++ [x]).length = c.tallies.length + 1 := by simp
 rw [tallies_snocR] at ho
 have b0 := (h.k.next hb).store 1 (.slice A (c.tallies.length + 1) cp)
 refine ⟨own_kept (own_stab h.s (fun b hb' _ => hb.block b hb')) hk1 (fun b hb' hS => by omega), ?_, h.small, ?_⟩
 · show World.ownsRow _ _ _ _ (.slice A (c.tallies ++ [x]).length cp) (c.tallies ++ [x]).length ((List.range ((c.tallies ++ [x]).length * 3)).map (talliesF (c.tallies ++ [x])))
   rw [e]; exact own_base (own_kept ho hk1 (fun b hb' hS => by omega)) hBv
 · show Blk _ _ _ #[_, .slice A (c.tallies ++ [x]).length cp]
   rw [e]; exact b0
def ReadE1 (s : List UInt8) (w : World) (e : Ending) (w' : World) : Prop :=
 Below w.heap.size w w' ∧ ∃ a, e = .returned (.tuple #[bookVal (readR1 s).1 a, .int .i64 (readR1 s).2]) ∧ BookV w' w'.heap.size (readR1 s).1 a
set_option maxHeartbeats 4000000 in
set_option maxRecDepth 100000 in
theorem refRead_any (S : ByteArray) (w : World) :
 Calls Tryz.prog 36 #[.string S] w fun e w' => ReadE1 S.data.toList w e w' := by
 obtain ⟨i3, hI3, hy30, hy31, hy32⟩ := info_parts Tryz.infoStep
 obtain ⟨i4, hI4, hz40, hz41, hz42⟩ := info_parts Tryz.infoTally
 have HR := hide (show Blk (w.alloc (.cells #[.slice none 0 0, .slice none 0 0] 25)) w.heap.size 25 #[.slice none 0 0, .slice none 0 0] from Blk.made)
 have HB := hide (show Below w.heap.size w (w.alloc (.cells #[.slice none 0 0, .slice none 0 0] 25)) from (Below.refl _ _).alloc (Nat.le_refl _) _)
 have HSZ := hide (show S.data.toList.length = S.size from rfl)
 go_enter Tryz.func36, Tryz.ntmps36
 go_upto_region 1 with (fail)
 generalize (w.alloc (.cells #[.slice none 0 0, .slice none 0 0] 25)) = v0 at *
 have gr := HR.out.lt
 have r0 := HR.out.at_ 0
 have r1 := HR.out.at_ 1
 simp only [List.getElem?_toArray, List.getElem?_cons_zero, List.getElem?_cons_succ] at r0 r1
 have f0 := HR.out.free 0
 have f1 := HR.out.free 1
 by_cases h5 : 500 < S.size
 · have hd : decide ((S.size : Int) > 500) = true := by simp; omega
   have HRR := hide (show readR1 S.data.toList = (⟨[], []⟩, 3) by rw [readR1, if_pos (show 500 < S.data.toList.length from h5)])
   go_wp2_with fail
   have b2 : Blk ((v0.setCell ⟨w.heap.size, 0, none⟩ (.slice none 0 0)).setCell ⟨w.heap.size, 1, none⟩ (.slice none 0 0)) w.heap.size 25 #[.slice none 0 0, .slice none 0 0] := (HR.out.store 0 (.slice none 0 0)).store 1 (.slice none 0 0)
   have hb2 : Below w.heap.size w ((v0.setCell ⟨w.heap.size, 0, none⟩ (.slice none 0 0)).setCell ⟨w.heap.size, 1, none⟩ (.slice none 0 0)) := (HB.out.setCell (p := ⟨w.heap.size, 0, none⟩) (Nat.le_refl _) _).setCell (p := ⟨w.heap.size, 1, none⟩) (Nat.le_refl _) _
   generalize (v0.setCell ⟨w.heap.size, 0, none⟩ (.slice none 0 0)).setCell ⟨w.heap.size, 1, none⟩ (.slice none 0 0) = v9 at *
   have c0 := b2.at_ 0
   have c1 := b2.at_ 1
   simp only [List.getElem?_toArray, List.getElem?_cons_zero, List.getElem?_cons_succ] at c0 c1
   exact bodyPost_ret (v := .tuple #[bookVal ⟨[], []⟩ ⟨none, none, 0, 0⟩, .int .i64 3]) (by simp [results, Tryz.results36, go_sem, c0, c1]) rfl ⟨hb2, ⟨none, none, 0, 0⟩, by rw [HRR.out], by rw [HRR.out]; exact book_nil _⟩
 · have hd : decide ((S.size : Int) > 500) = false := by simp; omega
   have HL5 := hide (show ∀ x ∈ splitL 10 S.data.toList, x.length ≤ 500 from fun x hx => by have := splitL_len 10 _ x hx; rw [HSZ.out] at this; omega)
   have HLC := hide (show (splitL 10 S.data.toList).length ≤ 501 by have := splitL_count 10 S.data.toList; rw [HSZ.out] at this; omega)
   have HL0 := hide (show 0 < (splitL 10 S.data.toList).length from List.length_pos_iff.2 (splitL_ne 10 _))
   have HBR := hide (show bookR S.data.toList = foldR ⟨[], []⟩ (splitL 10 S.data.toList) from rfl)
   have HRA := hide (show readR1 S.data.toList = if (checkM (bookR S.data.toList)).2.2 = 0 ∧ textL (bookR S.data.toList) = S.data.toList then (bookR S.data.toList, 0) else (⟨[], []⟩, 6) by rw [readR1, if_neg (show ¬ 500 < S.data.toList.length from h5)])
   have hzb := HB.out.size
   go_upto_region 4 with (fail)
   have hba : Below v0.heap.size v0 (v0.alloc (.cells #[.slice none 0 0, .slice none 0 0] 25)) := (Below.refl _ _).alloc (Nat.le_refl _) _
   have HK := hide (show Blk (v0.alloc (.cells #[.slice none 0 0, .slice none 0 0] 25)) v0.heap.size 25 #[.slice none 0 0, .slice none 0 0] from Blk.made)
   have HR1 := hide (HR.out.next hba)
   have HB1 := hide (HB.out.trans (hba.mono HB.out.size))
   have hgg : w.heap.size ≠ v0.heap.size := by omega
   have hgw : w.heap.size ≤ v0.heap.size := hzb
   have hgv := HK.out.lt
   clear hba r0 r1 f0 f1 gr HR HB hd
   generalize hgb : v0.heap.size = gb at *
   generalize (v0.alloc (.cells #[.slice none 0 0, .slice none 0 0] 25)) = v1 at *
   clear hgb
   generalize hLL : splitL 10 S.data.toList = L at *
   have HLL := hide (show splitB 10 S = L.map mkB by rw [splitB, hLL])
   clear hLL
   go_upto_region 5 with (go_at_call 86; refine (split_nl S (by omega) _).mono ?_; rintro e y1 ⟨AL, cL, rfl, hol, hb⟩)
   have hol2 : y1.ownsRow v1.heap.size 9 1 (.slice AL (splitB 10 S).length cL) (splitB 10 S).length ((L.map mkB).map Value.string) := by rw [← HLL.out]; exact hol
   have HLN := hide (show (splitB 10 S).length = L.length by rw [HLL.out, List.length_map])
   have HOL0 := hide hol2
   have HRD0 := hide (show RdB y1 v1.heap.size gb ⟨[], []⟩ ⟨none, none, 0, 0⟩ from ⟨World.ownsRow_nil _ _ _ _, World.ownsRow_nil _ _ _ _, fun j hj => absurd hj (Nat.not_lt_zero _), HK.out.next hb⟩)
   have HR2 := hide (HR1.out.next hb)
   have HB2 := hide (HB1.out.trans (hb.mono HB1.out.size))
   have hz1 := HB1.out.size
   have hzy := hb.size
   clear hol hol2 hb HK HR1 HB1
   generalize (splitB 10 S).length = nl at *
   have hnl : nl ≤ 501 := by have := HLC.out; rw [HLN.out]; exact this
   obtain ⟨bl, rfl, hbl1, hbl2, _⟩ := own_strs (xs := L.map mkB) (n := nl) HOL0.out (by rw [HLN.out]; exact HL0.out)
   go_wp2_with fail
   go_loopw [6, 7, 8, 18, 19, 20, 21, 22, 23, 24, 25, 26, 27, 28, 29, 30, 31, 32, 33, 34, 35, 36, 37, 38, 39, 40, 41, 42, 43, 44, 45, 46, 47, 48, 49, 50, 51, 52, 53, 54, 55, 56, 57, 58, 59, 60, 61, 62, 63, 64, 65, 66, 67, 68, 69, 70, 71, 72, 73, 74, 75, 76, 77, 78, 79, 80] (fun v6 _ _ _ _ _ _ _ _ _ _ _ _ _ _ _ _ _ _ _ _ _ _ _ _ _ _ _ _ _ _ _ _ _ _ _ _ _ _ _ _ _ _ _ _ _ _ _ _ _ _ _ _ _ _ _ _ _ _ _ _ _ _ _ _ _ wr => ∃ (i : Nat) (c : Book) (a : BA), i ≤ nl ∧ v6 = .int .i64 (i : Nat) ∧ Hid (foldR ⟨[], []⟩ (L.take i) = c) ∧ Hid (c.steps.length ≤ i ∧ c.tallies.length ≤ i) ∧ Hid (RdB wr v1.heap.size gb c a) ∧ Hid (Blk wr w.heap.size 25 #[.slice none 0 0, .slice none 0 0]) ∧ Hid (wr.ownsRow v1.heap.size 9 1 (.slice (some ⟨bl, 0, none⟩) nl cL) nl ((L.map mkB).map Value.string)) ∧ Hid (Below w.heap.size w wr) ∧ v1.heap.size ≤ wr.heap.size) (fun v6 _ _ _ _ _ _ _ _ _ _ _ _ _ _ _ _ _ _ _ _ _ _ _ _ _ _ _ _ _ _ _ _ _ _ _ _ _ _ _ _ _ _ _ _ _ _ _ _ _ _ _ _ _ _ _ _ _ _ _ _ _ _ _ _ _ _ => nl - (intOf v6).toNat)
   case atStart => exact ⟨0, ⟨[], []⟩, ⟨none, none, 0, 0⟩, Nat.zero_le _, rfl, hide rfl, hide ⟨Nat.le_refl _, Nat.le_refl _⟩, HRD0, HR2, HOL0, hide HB2.out, hzy⟩
   case round =>
    obtain ⟨i, c, a, hi, rfl, HC, HN, HRD, HRZ, HOL, HBW, hzw⟩ := hrel
    obtain ⟨u0, rfl⟩ : ∃ u0 : World, u0 = wr := ⟨_, rfl⟩
    have hi0 : (0 : Int) ≤ (i : Int) := Int.natCast_nonneg _
    have HXL := hide HRD.out.box
    by_cases hlt : i < nl
    · have hil : (i : Int) < (nl : Int) := by omega
      have hLi : i < L.length := by rw [← HLN.out]; exact hlt
      have HFS := hide (show foldR ⟨[], []⟩ (L.take (i + 1)) = lineR c (splitB 32 (mkB (nth L i))) by rw [foldR_succ hLi, HC.out])
      have hws := split_ws HL5.out hLi
      have hwz := hws.1
      have HWS := hide hws.2
      have hnth : nth (L.map mkB) i = mkB (nth L i) := by simp [nth, List.getElem?_map, hLi]
      obtain ⟨_, e1, _, hbl3, hcl⟩ := own_strs HOL.out (Nat.lt_of_le_of_lt (Nat.zero_le _) hlt)
      simp only [Option.some.injEq, Addr.mk.injEq, and_true] at e1
      subst e1
      have kl := hcl i hlt
      rw [hnth] at kl
      clear hcl hnth hws hLi
      have kl2 : u0.cell? ⟨bl, i, none⟩ = some (.string (mkB (nth L i))) := by rw [Nat.zero_add] at kl; exact kl
      generalize mkB (nth L i) = ln at *
      go_upto_region 9 with (go_at_call 86; refine (split_sp ln (by omega) _).mono ?_; rintro e y2 ⟨Aw, cw, rfl, how, hb⟩)
      have HRD1 := hide (HRD.out.next hb)
      have HRZ1 := hide (HRZ.out.next hb)
      have HOL1 := hide (own_stab HOL.out (fun b hb' _ => hb.block b hb'))
      have HB3 := hide (HBW.out.trans (hb.mono HBW.out.size))
      have hzv : v1.heap.size ≤ y2.heap.size := Nat.le_trans hzw hb.size
      have HOW := hide how
      clear how hb HRD HRZ HOL HBW kl kl2 HXL hbl3
      generalize splitB 32 ln = ws at *
      by_cases h4 : ws.length = 4
      · obtain ⟨w0, w1, w2, w3, rfl⟩ := four h4
        have hw1 := HWS.out w1 (by simp)
        obtain ⟨bw, rfl, hbwu, zw, hcw⟩ := own_strs HOW.out (by simp)
        have k0 : y2.cell? ⟨bw, 0 + 0, none⟩ = some (.string w0) := hcw 0 (by simp)
        have k1 : y2.cell? ⟨bw, 0 + 1, none⟩ = some (.string w1) := hcw 1 (by simp)
        have k2 : y2.cell? ⟨bw, 0 + 2, none⟩ = some (.string w2) := hcw 2 (by simp)
        have k3 : y2.cell? ⟨bw, 0 + 3, none⟩ = some (.string w3) := hcw 3 (by simp)
        clear hcw HOW h4 HWS
        simp only [List.length_cons, List.length_nil, Nat.reduceAdd, Nat.zero_add] at *
        generalize hn3 : numR w3 = n3 at *
        have HN3 := hide hn3
        clear hn3
        go_upto_region 11 with (go_at_call 87; refine (number1_any w3 _).mono ?_; rintro e y3 ⟨rfl, rfl⟩; rw [HN3.out])
        cases hst : (w0.toList == [115, 116, 101, 112]) with
        | true =>
         have htl : (w0.toList == [116, 97, 108, 108, 121]) = false := by rw [eq_of_beq hst]; decide
         have HLR := hide (lineR_step (c := c) (w1 := w1) (w2 := w2) (w3 := w3) hst)
         go_upto_region 12 with (fail)
         obtain ⟨v3, rfl⟩ : ∃ v3 : World, v3 = y2 := ⟨_, rfl⟩
         have HXK := hide HRD1.out.box
         have HN1 := hide (show c.steps.length ≤ 1000 by have := HN.out.1; have := HLC.out; rw [HLN.out] at hi; omega)
         have hns : c.steps.length ≤ 502 ∧ c.tallies.length ≤ 502 := by have h1 := HN.out; have h2 := HLC.out; rw [HLN.out] at hi; exact ⟨by omega, by omega⟩
         have hns1 := hns.1
         have hns2 := hns.2
         have z0 := HXK.out.k.lt
         have pb0 : v3.cell? ⟨gb, 0, none⟩ = some (.slice a.A1 c.steps.length a.c1) := HXK.out.cells.2.1
         have pb1 : v3.cell? ⟨gb, 1, none⟩ = some (.slice a.A2 c.tallies.length a.c2) := HXK.out.cells.2.2
         have fg0 := HXK.out.k.free 0
         have fg1 := HXK.out.k.free 1
         have HSE := hide (show Row v3 v3.heap.size a.A1 (c.steps.length * 3) (stepsF c.steps) from HXK.out.v.steps)
         refine wp_post0 (fun act0 aq W => ∃ vs : Nat → Value, aq = { tmps := setAll (fun oi => [40, 41, 42, 43, 44, 45, 46, 47, 48, 49, 50, 51, 52, 53, 54, 55, 56, 57, 0].getD oi 0) vs [0, 1, 2, 3, 4, 5, 6, 7, 8, 9, 10, 11, 12, 13, 14, 15, 16, 17] act0.tmps, defers := act0.defers } ∧ ∃ (W1 : World) (A : Option Addr) (cp : Nat), W = W1.setCell ⟨gb, 0, none⟩ (.slice A (c.steps.length + 1) cp) ∧ Below v3.heap.size v3 W1 ∧ W1.ownsRow v3.heap.size 68 3 (.slice A (c.steps.length + 1) cp) (c.steps.length + 1) ((List.range (c.steps.length * 3)).map (stepsF c.steps) ++ (List.range (1 * 3)).map (fun j => [Value.string w1, .int .i64 (idxS (namesTo c c.steps.length) w2), .int .i64 n3].getD j undef))) ?reg0 ?imp0
         case reg0 =>
          have hST : Stab v3.heap.size (fun oi v W => match oi with | 0 => ∃ A cp, v = .slice A 0 cp ∧ W.ownsRow v3.heap.size 68 3 (.slice A 0 cp) 0 ([]) | 1 => v = .pointer (some ⟨gb, 0, none⟩) | 2 => v = .slice a.A1 c.steps.length a.c1 | 3 => ∃ A cp, v = .slice A c.steps.length cp ∧ W.ownsRow v3.heap.size 68 3 (.slice A c.steps.length cp) c.steps.length ((List.range (c.steps.length * 3)).map (stepsF c.steps)) | 4 => v = .slice (some ⟨bw, 0, none⟩) 4 cw | 5 => v = .pointer (some ⟨bw, 0 + 1, none⟩) | 6 => v = .string w1 | 7 => v = .agg #[.slice a.A1 c.steps.length a.c1, .slice a.A2 c.tallies.length a.c2] | 8 => ∃ A cp, v = .slice A c.steps.length cp ∧ W.ownsRow v3.heap.size 9 1 (.slice A c.steps.length cp) c.steps.length ((namesTo c c.steps.length).map Value.string) | 9 => v = .slice (some ⟨bw, 0, none⟩) 4 cw | 10 => v = .pointer (some ⟨bw, 0 + 2, none⟩) | 11 => v = .string w2 | 12 => v = .int .i64 (idxS (namesTo c c.steps.length) w2) | 13 => v = .int .i64 n3 | 14 => v = .agg #[.string w1, .int .i64 (idxS (namesTo c c.steps.length) w2), .int .i64 n3] | 15 => ∃ A cp, v = .slice A 1 cp ∧ W.ownsRow v3.heap.size 68 3 (.slice A 1 cp) 1 ([.string w1, .int .i64 (idxS (namesTo c c.steps.length) w2), .int .i64 n3]) | 16 => ∃ A cp, v = .slice A (c.steps.length + 1) cp ∧ W.ownsRow v3.heap.size 68 3 (.slice A (c.steps.length + 1) cp) (c.steps.length + 1) ((List.range (c.steps.length * 3)).map (stepsF c.steps) ++ (List.range (1 * 3)).map (fun j => [Value.string w1, .int .i64 (idxS (namesTo c c.steps.length) w2), .int .i64 n3].getD j undef)) | _ => True) (fun oi v b => match oi with | 0 => v.ownBlock = some b | 3 => v.ownBlock = some b | 8 => v.ownBlock = some b | 15 => v.ownBlock = some b | 16 => v.ownBlock = some b | _ => False) := by
           intro oi v W W' h hbs hz hk
           match oi, h, hk with
           | 0, h, hk => obtain ⟨A, cp, rfl, h2⟩ := h; exact ⟨A, cp, rfl, own_stab h2 (fun b hb e => hk b hb (.inr e))⟩
           | 1, h, hk => exact h
           | 2, h, hk => exact h
           | 3, h, hk => obtain ⟨A, cp, rfl, h2⟩ := h; exact ⟨A, cp, rfl, own_stab h2 (fun b hb e => hk b hb (.inr e))⟩
           | 4, h, hk => exact h
           | 5, h, hk => exact h
           | 6, h, hk => exact h
           | 7, h, hk => exact h
           | 8, h, hk => obtain ⟨A, cp, rfl, h2⟩ := h; exact ⟨A, cp, rfl, own_stab h2 (fun b hb e => hk b hb (.inr e))⟩
           | 9, h, hk => exact h
           | 10, h, hk => exact h
           | 11, h, hk => exact h
           | 12, h, hk => exact h
           | 13, h, hk => exact h
           | 14, h, hk => exact h
           | 15, h, hk => obtain ⟨A, cp, rfl, h2⟩ := h; exact ⟨A, cp, rfl, own_stab h2 (fun b hb e => hk b hb (.inr e))⟩
           | 16, h, hk => obtain ⟨A, cp, rfl, h2⟩ := h; exact ⟨A, cp, rfl, own_stab h2 (fun b hb e => hk b hb (.inr e))⟩
           | oi + 17, h, hk => exact trivial
          refine wp_region_inv (dst := fun oi => [40, 41, 42, 43, 44, 45, 46, 47, 48, 49, 50, 51, 52, 53, 54, 55, 56, 57, 0].getD oi 0) (mono := fun oi => decide (oi < 17)) (pre := fun oi => decide (oi < 17)) (G := Loose 19 v3.heap.size (fun oi => match oi with | 0 => 3 | 3 => 16 | _ => 19) (fun oi v W => match oi with | 0 => ∃ A cp, v = .slice A 0 cp ∧ W.ownsRow v3.heap.size 68 3 (.slice A 0 cp) 0 ([]) | 1 => v = .pointer (some ⟨gb, 0, none⟩) | 2 => v = .slice a.A1 c.steps.length a.c1 | 3 => ∃ A cp, v = .slice A c.steps.length cp ∧ W.ownsRow v3.heap.size 68 3 (.slice A c.steps.length cp) c.steps.length ((List.range (c.steps.length * 3)).map (stepsF c.steps)) | 4 => v = .slice (some ⟨bw, 0, none⟩) 4 cw | 5 => v = .pointer (some ⟨bw, 0 + 1, none⟩) | 6 => v = .string w1 | 7 => v = .agg #[.slice a.A1 c.steps.length a.c1, .slice a.A2 c.tallies.length a.c2] | 8 => ∃ A cp, v = .slice A c.steps.length cp ∧ W.ownsRow v3.heap.size 9 1 (.slice A c.steps.length cp) c.steps.length ((namesTo c c.steps.length).map Value.string) | 9 => v = .slice (some ⟨bw, 0, none⟩) 4 cw | 10 => v = .pointer (some ⟨bw, 0 + 2, none⟩) | 11 => v = .string w2 | 12 => v = .int .i64 (idxS (namesTo c c.steps.length) w2) | 13 => v = .int .i64 n3 | 14 => v = .agg #[.string w1, .int .i64 (idxS (namesTo c c.steps.length) w2), .int .i64 n3] | 15 => ∃ A cp, v = .slice A 1 cp ∧ W.ownsRow v3.heap.size 68 3 (.slice A 1 cp) 1 ([.string w1, .int .i64 (idxS (namesTo c c.steps.length) w2), .int .i64 n3]) | 16 => ∃ A cp, v = .slice A (c.steps.length + 1) cp ∧ W.ownsRow v3.heap.size 68 3 (.slice A (c.steps.length + 1) cp) (c.steps.length + 1) ((List.range (c.steps.length * 3)).map (stepsF c.steps) ++ (List.range (1 * 3)).map (fun j => [Value.string w1, .int .i64 (idxS (namesTo c c.steps.length) w2), .int .i64 n3].getD j undef)) | _ => True) (fun oi v b => match oi with | 0 => v.ownBlock = some b | 3 => v.ownBlock = some b | 8 => v.ownBlock = some b | 15 => v.ownBlock = some b | 16 => v.ownBlock = some b | _ => False)) (by kernel_rfl) (by kernel_rfl) (Loose.start (Nat.le_refl _)) ?hstep0 ?hend0
          case hstep0 =>
           intro oi hoi hom listed vs aq W hU hsz hG hcl hl haft K hK
           have hb := ((Below.refl v3.heap.size v3).drew).trans hU.below
           have hF := Loose.stepF hU hG hST hoi hK
           match oi, hoi, hom with
           | 0, hoi, hom =>
            refine wpOp_value (v := .slice (some ⟨W.heap.size, 0, none⟩) 0 0) (W' := (W.alloc (.cells #[] 68))) rfl rfl ?_ (hF _ _ ((Below.refl _ _).alloc (Nat.le_refl _) _) (own_lit hG.base #[] 0 rfl (by simp [maxLen])) (fun b h => by rw [← own_new h]; exact ⟨by simp, .inl (Nat.le_refl _)⟩))
            go_simp
           | 1, hoi, hom =>
            have z4 : aq.tmps[4]?.getD undef = .pointer (some ⟨gb, 0, none⟩) := hU.same 4 (by decide)
            refine wpOp_value (v := .pointer (some ⟨gb, 0, none⟩)) (W' := W) rfl rfl ?_ (hF _ _ (Below.refl _ _) rfl (fun _ h => False.elim h))
            go_simp
           | 2, hoi, hom =>
            have l1 := haft _ rfl { on := 1, ground := .data } (by simp) rfl
            have p1 := hG.pv 1 (by decide) (live_end hsz rfl l1)
            have s1 : aq.tmps[41]?.getD undef = vs 1 := hU.slot 1 (by decide) l1
            have hv1 : vs 1 = .pointer (some ⟨gb, 0, none⟩) := p1
            rw [hv1] at s1
            have y0 := (hb.cell (p := ⟨gb, 0, none⟩) (z0)).trans (pb0)
            refine wpOp_value (v := .slice a.A1 c.steps.length a.c1) (W' := W) rfl rfl ?_ (hF _ _ (Below.refl _ _) rfl (fun _ h => False.elim h))
            go_simp
           | 3, hoi, hom =>
            have l0 := haft _ rfl { on := 0, ground := .data } (by simp) rfl
            have p0 := hG.pv 0 (by decide) (⟨l0, hl⟩)
            have s0 : aq.tmps[40]?.getD undef = vs 0 := hU.slot 0 (by decide) l0
            obtain ⟨PA0, kp0, hv0, hi0⟩ := p0
            rw [hv0] at s0
            have l2 := haft _ rfl { on := 2, ground := .data } (by simp) rfl
            have p2 := hG.pv 2 (by decide) (live_end hsz rfl l2)
            have s2 : aq.tmps[42]?.getD undef = vs 2 := hU.slot 2 (by decide) l2
            have hv2 : vs 2 = .slice a.A1 c.steps.length a.c1 := p2
            rw [hv2] at s2
            have hA := Loose.stepA (p := 0) hU hG rfl hST hoi hK (by decide) (by decide) rfl ⟨l0, hl⟩ (fun b h => h) (by rw [hv0]; exact hi0)
            obtain ⟨v', W', hrun, hown', hg, hblk⟩ := run_app_row (P := Tryz.prog) W v3.heap.size 22 22 68 i3 (.agg #[.string ⟨#[]⟩, .int .i64 0, .int .i64 0]) 3 32 Tryz.underlying22 hI3 hy30 hy31 hy32 rfl (by decide) hi0 (HSE.out.below hb) (fun j h => step_oneR _ j _ h) (by simp only [maxLen]; omega) (by omega) hG.base
            rw [Nat.zero_add, List.nil_append] at hown'
            exact wpOp_append (s := 40) (x := 42) (v' := v') (W' := W') rfl rfl rfl s0 s2 hrun (hA _ _ _ _ (by rw [hv0]; exact hg) hown' (by rw [hv0]; exact hblk) (own_ex hown') (fun b h => h))
           | 4, hoi, hom =>
            have z7 : aq.tmps[7]?.getD undef = .slice (some ⟨bw, 0, none⟩) 4 cw := hU.same 7 (by decide)
            refine wpOp_value (v := .slice (some ⟨bw, 0, none⟩) 4 cw) (W' := W) rfl rfl ?_ (hF _ _ (Below.refl _ _) rfl (fun _ h => False.elim h))
            go_simp
           | 5, hoi, hom =>
            have l4 := haft _ rfl { on := 4, ground := .data } (by simp) rfl
            have p4 := hG.pv 4 (by decide) (live_end hsz rfl l4)
            have s4 : aq.tmps[44]?.getD undef = vs 4 := hU.slot 4 (by decide) l4
            have hv4 : vs 4 = .slice (some ⟨bw, 0, none⟩) 4 cw := p4
            rw [hv4] at s4
            refine wpOp_value (v := .pointer (some ⟨bw, 0 + 1, none⟩)) (W' := W) rfl rfl ?_ (hF _ _ (Below.refl _ _) rfl (fun _ h => False.elim h))
            go_simp
           | 6, hoi, hom =>
            have l5 := haft _ rfl { on := 5, ground := .data } (by simp) rfl
            have p5 := hG.pv 5 (by decide) (live_end hsz rfl l5)
            have s5 : aq.tmps[45]?.getD undef = vs 5 := hU.slot 5 (by decide) l5
            have hv5 : vs 5 = .pointer (some ⟨bw, 0 + 1, none⟩) := p5
            rw [hv5] at s5
            have y0 := (hb.cell (p := ⟨bw, 0 + 1, none⟩) (zw)).trans (k1)
            refine wpOp_value (v := .string w1) (W' := W) rfl rfl ?_ (hF _ _ (Below.refl _ _) rfl (fun _ h => False.elim h))
            go_simp
           | 7, hoi, hom =>
            have z4 : aq.tmps[4]?.getD undef = .pointer (some ⟨gb, 0, none⟩) := hU.same 4 (by decide)
            have y0 := (hb.cell (p := ⟨gb, 0, none⟩) (z0)).trans (pb0)
            have y1 := (hb.cell (p := ⟨gb, 1, none⟩) (z0)).trans (pb1)
            refine wpOp_value (v := .agg #[.slice a.A1 c.steps.length a.c1, .slice a.A2 c.tallies.length a.c2]) (W' := W) rfl rfl ?_ (hF _ _ (Below.refl _ _) rfl (fun _ h => False.elim h))
            go_simp
           | 8, hoi, hom =>
            have l7 := haft _ rfl { on := 7, ground := .data } (by simp) rfl
            have p7 := hG.pv 7 (by decide) (live_end hsz rfl l7)
            have s7 : aq.tmps[47]?.getD undef = vs 7 := hU.slot 7 (by decide) l7
            have hv7 : vs 7 = .agg #[.slice a.A1 c.steps.length a.c1, .slice a.A2 c.tallies.length a.c2] := p7
            rw [hv7] at s7
            refine wpOp_enter (f := 89) (args := #[bookVal c a]) (W' := W) rfl rfl ?_ ((names12_any (HXK.out.v.next hb) HN1.out).mono (fun e w'' h => ?_))
            · go_simp
            · obtain ⟨A', c', he, h1, hbw⟩ := h
              exact ⟨_, he, hF _ _ hbw ⟨A', c', rfl, own_base h1 hG.base⟩ (fun b h => ⟨(h1.lt b h).2, .inl (h1.lt b h).1⟩)⟩
           | 9, hoi, hom =>
            have z7 : aq.tmps[7]?.getD undef = .slice (some ⟨bw, 0, none⟩) 4 cw := hU.same 7 (by decide)
            refine wpOp_value (v := .slice (some ⟨bw, 0, none⟩) 4 cw) (W' := W) rfl rfl ?_ (hF _ _ (Below.refl _ _) rfl (fun _ h => False.elim h))
            go_simp
           | 10, hoi, hom =>
            have l9 := haft _ rfl { on := 9, ground := .data } (by simp) rfl
            have p9 := hG.pv 9 (by decide) (live_end hsz rfl l9)
            have s9 : aq.tmps[49]?.getD undef = vs 9 := hU.slot 9 (by decide) l9
            have hv9 : vs 9 = .slice (some ⟨bw, 0, none⟩) 4 cw := p9
            rw [hv9] at s9
            refine wpOp_value (v := .pointer (some ⟨bw, 0 + 2, none⟩)) (W' := W) rfl rfl ?_ (hF _ _ (Below.refl _ _) rfl (fun _ h => False.elim h))
            go_simp
           | 11, hoi, hom =>
            have l10 := haft _ rfl { on := 10, ground := .data } (by simp) rfl
            have p10 := hG.pv 10 (by decide) (live_end hsz rfl l10)
            have s10 : aq.tmps[50]?.getD undef = vs 10 := hU.slot 10 (by decide) l10
            have hv10 : vs 10 = .pointer (some ⟨bw, 0 + 2, none⟩) := p10
            rw [hv10] at s10
            have y0 := (hb.cell (p := ⟨bw, 0 + 2, none⟩) (zw)).trans (k2)
            refine wpOp_value (v := .string w2) (W' := W) rfl rfl ?_ (hF _ _ (Below.refl _ _) rfl (fun _ h => False.elim h))
            go_simp
           | 12, hoi, hom =>
            have l8 := haft _ rfl { on := 8, ground := .data } (by simp) rfl
            have p8 := hG.pv 8 (by decide) (live_end hsz rfl l8)
            have s8 : aq.tmps[48]?.getD undef = vs 8 := hU.slot 8 (by decide) l8
            obtain ⟨PA8, kp8, hv8, hi8⟩ := p8
            rw [hv8] at s8
            have l11 := haft _ rfl { on := 11, ground := .data } (by simp) rfl
            have p11 := hG.pv 11 (by decide) (live_end hsz rfl l11)
            have s11 : aq.tmps[51]?.getD undef = vs 11 := hU.slot 11 (by decide) l11
            have hv11 : vs 11 = .string w2 := p11
            rw [hv11] at s11
            refine wpOp_enter (f := 88) (args := #[.slice PA8 c.steps.length kp8, .string w2]) (W' := W) rfl rfl ?_ ((where_names HN1.out hi8 w2).mono (fun e w'' h => ?_))
            · go_simp
            · obtain ⟨he, hww⟩ := h
              exact ⟨_, he, hF _ _ (hww ▸ Below.refl _ _) (by subst hww; rfl) (fun _ h => False.elim h)⟩
           | 13, hoi, hom =>
            have z8 : aq.tmps[8]?.getD undef = .int .i64 n3 := hU.same 8 (by decide)
            refine wpOp_value (v := .int .i64 n3) (W' := W) rfl rfl ?_ (hF _ _ (Below.refl _ _) rfl (fun _ h => False.elim h))
            go_simp
           | 14, hoi, hom =>
            have l6 := haft _ rfl { on := 6, ground := .data } (by simp) rfl
            have p6 := hG.pv 6 (by decide) (live_end hsz rfl l6)
            have s6 : aq.tmps[46]?.getD undef = vs 6 := hU.slot 6 (by decide) l6
            have hv6 : vs 6 = .string w1 := p6
            rw [hv6] at s6
            have l12 := haft _ rfl { on := 12, ground := .data } (by simp) rfl
            have p12 := hG.pv 12 (by decide) (live_end hsz rfl l12)
            have s12 : aq.tmps[52]?.getD undef = vs 12 := hU.slot 12 (by decide) l12
            have hv12 : vs 12 = .int .i64 (idxS (namesTo c c.steps.length) w2) := p12
            rw [hv12] at s12
            have l13 := haft _ rfl { on := 13, ground := .data } (by simp) rfl
            have p13 := hG.pv 13 (by decide) (live_end hsz rfl l13)
            have s13 : aq.tmps[53]?.getD undef = vs 13 := hU.slot 13 (by decide) l13
            have hv13 : vs 13 = .int .i64 n3 := p13
            rw [hv13] at s13
            refine wpOp_value (v := .agg #[.string w1, .int .i64 (idxS (namesTo c c.steps.length) w2), .int .i64 n3]) (W' := W) rfl rfl ?_ (hF _ _ (Below.refl _ _) rfl (fun _ h => False.elim h))
            go_simp
           | 15, hoi, hom =>
            have l14 := haft _ rfl { on := 14, ground := .data } (by simp) rfl
            have p14 := hG.pv 14 (by decide) (live_end hsz rfl l14)
            have s14 : aq.tmps[54]?.getD undef = vs 14 := hU.slot 14 (by decide) l14
            have hv14 : vs 14 = .agg #[.string w1, .int .i64 (idxS (namesTo c c.steps.length) w2), .int .i64 n3] := p14
            rw [hv14] at s14
            refine wpOp_value (v := .slice (some ⟨W.heap.size, 0, none⟩) 1 1) (W' := (W.alloc (.cells #[.string w1, .int .i64 (idxS (namesTo c c.steps.length) w2), .int .i64 n3] 68))) rfl rfl ?_ (hF _ _ ((Below.refl _ _).alloc (Nat.le_refl _) _) (own_lit hG.base #[.string w1, .int .i64 (idxS (namesTo c c.steps.length) w2), .int .i64 n3] 1 rfl (by simp [maxLen])) (fun b h => by rw [← own_new h]; exact ⟨by simp, .inl (Nat.le_refl _)⟩))
            go_simp
           | 16, hoi, hom =>
            have l3 := haft _ rfl { on := 3, ground := .data } (by simp) rfl
            have p3 := hG.pv 3 (by decide) (⟨l3, hl⟩)
            have s3 : aq.tmps[43]?.getD undef = vs 3 := hU.slot 3 (by decide) l3
            obtain ⟨PA3, kp3, hv3, hi3⟩ := p3
            rw [hv3] at s3
            have l15 := haft _ rfl { on := 15, ground := .data } (by simp) rfl
            have p15 := hG.pv 15 (by decide) (live_end hsz rfl l15)
            have s15 : aq.tmps[55]?.getD undef = vs 15 := hU.slot 15 (by decide) l15
            obtain ⟨PA15, kp15, hv15, hi15⟩ := p15
            rw [hv15] at s15
            obtain ⟨_, _, e15, _, _, hr15⟩ := row_own hi15
            obtain ⟨rfl, rfl⟩ : _ = PA15 ∧ _ = kp15 := by simp only [Value.slice.injEq, true_and] at e15; exact ⟨e15.1.symm, e15.2.symm⟩
            have hA := Loose.stepA (p := 3) hU hG rfl hST hoi hK (by decide) (by decide) rfl ⟨l3, hl⟩ (fun b h => h) (by rw [hv3]; exact hi3)
            obtain ⟨v', W', hrun, hown', hg, hblk⟩ := run_app_row (P := Tryz.prog) W v3.heap.size 22 22 68 i3 (.agg #[.string ⟨#[]⟩, .int .i64 0, .int .i64 0]) 3 32 Tryz.underlying22 hI3 hy30 hy31 hy32 rfl (by decide) hi3 hr15 (one3s _ _ _) (by simp only [maxLen]; omega) (by omega) hG.base
            exact wpOp_append (s := 43) (x := 55) (v' := v') (W' := W') rfl rfl rfl s3 s15 hrun (hA _ _ _ _ (by rw [hv3]; exact hg) hown' (by rw [hv3]; exact hblk) (own_ex hown') (fun b h => h))
           | oi + 17, hoi, hom => exact absurd (of_decide_eq_true hom) (by omega)
          case hend0 =>
           intro listed vs aq W hG0 hG hpre
           have hb := ((Below.refl v3.heap.size v3).drew).trans hG0.below
           have hact := hG0.act
           have hT := hG0.lst hpre 0 #[true, true, true, true, true, true, true, true, true, true, true, true, true, true, true, true, true, false, false] rfl (by kernel_rfl) (hpre 0 (by decide) (by decide))
           rw [hG0.ix hT (l := [0, 1, 2, 3, 4, 5, 6, 7, 8, 9, 10, 11, 12, 13, 14, 15, 16]) (by kernel_rfl)] at hact
           rw [hG0.lo hT (k := 2) (by kernel_rfl)]
           have p16 := hG.pv 16 (by decide) (live_end hG.size rfl (hpre 16 (by decide) (by decide)))
           clear hpre hG hST
           obtain rfl : aq = _ := hact
           subst hT
           obtain ⟨A, cp, hv16, hi16⟩ := p16
           have y4 := (hb.cell (p := ⟨gb, 0, none⟩) z0).trans pb0
           have f4 := (hb.frozen (p := ⟨gb, 0, none⟩) z0).trans fg0
           simp only [setAll, List.setIfInBounds_toArray, List.set_cons_succ, List.set_cons_zero, List.getD_cons_succ, List.getD_cons_zero]
           refine wpAny_all (rs := [17]) (by kernel_rfl) (by simp) ?_
           intro i2 hi2
           obtain rfl : i2 = 17 := by simpa using hi2
           refine wpOp_value (v := .pointer (some ⟨gb, 0, none⟩)) (W' := W) rfl rfl ?_ ?_
           · go_simp
           refine wpAny_all (rs := [18]) (by kernel_rfl) (by simp) ?_
           intro i2 hi2
           obtain rfl : i2 = 18 := by simpa using hi2
           refine wpOp_skip (W' := W.setCell ⟨gb, 0, none⟩ (.slice A (c.steps.length + 1) cp)) rfl rfl ?_ ?_
           · rw [hv16]; go_simp
           refine wpAny_done (by kernel_rfl) ?_ _
           exact ⟨rfl, fun q => if q = 17 then .pointer (some ⟨gb, 0, none⟩) else vs q, rfl, W, A, cp, rfl, hb, hi16⟩
         case imp0 =>
         rintro a9 wz ⟨vs, rfl, W1, A, cp, rfl, hb1, hown⟩
         simp only [setAll, List.setIfInBounds_toArray, List.set_cons_succ, List.set_cons_zero, List.getD_cons_succ, List.getD_cons_zero]
         have hk1 : Keep (fun q => q = gb) W1 (W1.setCell ⟨gb, 0, none⟩ (.slice A (c.steps.length + 1) cp)) := Keep.setCell _ _ _ _ rfl
         have HRD2 := hide (HRD1.out.step (x := ⟨w1, idxS (namesTo c c.steps.length) w2, n3⟩) hgv hzv hb1 (Nat.le_trans hw1 (by decide)) hown)
         have HRZ2 := hide ((HRZ1.out.next hb1).keep hk1 hgg)
         have HOL2 := hide (own_kept (own_stab HOL1.out (fun b hb' _ => hb1.block b hb')) hk1 (fun b hb' hS => by omega))
         have HB4 := hide (HB3.out.trans ((hb1.mono (Nat.le_trans hz1 hzv)).setCell (p := ⟨gb, 0, none⟩) hgw (.slice A (c.steps.length + 1) cp)))
         have hzf : v1.heap.size ≤ (W1.setCell ⟨gb, 0, none⟩ (.slice A (c.steps.length + 1) cp)).heap.size := by have := hb1.size; simp; omega
         have hne : bw ≠ gb := by omega
         have k0' : (W1.setCell ⟨gb, 0, none⟩ (.slice A (c.steps.length + 1) cp)).cell? ⟨bw, 0, none⟩ = some (.string w0) := (World.cell?_of_block (hk1.block bw (Nat.lt_of_lt_of_le zw hb1.size) hne)).trans ((hb1.cell (p := ⟨bw, 0, none⟩) zw).trans k0)
         have zw' : bw < (W1.setCell ⟨gb, 0, none⟩ (.slice A (c.steps.length + 1) cp)).heap.size := by have := hb1.size; simp; omega
         have HFN := hide ((HFS.out.trans HLR.out).trans (by rw [HN3.out]))
         have hnn := HN.out
         clear hk1 hb1 hown HXK HRD1 HRZ1 HOL1 HB3 HSE pb0 pb1 fg0 fg1 z0 k0 k1 k2 k3 zw HLR HFS
         generalize W1.setCell ⟨gb, 0, none⟩ (.slice A (c.steps.length + 1) cp) = v4 at *
         go_wp2_with fail
         go_roundw
         case rel => exact ⟨i + 1, _, _, by omega, by go_num, HFN, hide ⟨by simp; omega, by simp; omega⟩, HRD2, HRZ2, HOL2, HB4, hzf⟩
         case measure => simp [intOf]; omega
        | false =>
         cases htl : (w0.toList == [116, 97, 108, 108, 121]) with
         | true =>
          have HLR := hide (lineR_tally (c := c) (w1 := w1) (w2 := w2) (w3 := w3) hst htl)
          go_upto_region 14 with (fail)
          obtain ⟨v3, rfl⟩ : ∃ v3 : World, v3 = y2 := ⟨_, rfl⟩
          have HXK := hide HRD1.out.box
          have HN1 := hide (show c.steps.length ≤ 1000 by have := HN.out.1; have := HLC.out; rw [HLN.out] at hi; omega)
          generalize hn2 : numR w2 = n2 at HLR
          have HN2 := hide hn2
          clear hn2
          have hns : c.steps.length ≤ 502 ∧ c.tallies.length ≤ 502 := by have h1 := HN.out; have h2 := HLC.out; rw [HLN.out] at hi; exact ⟨by omega, by omega⟩
          have hns1 := hns.1
          have hns2 := hns.2
          have z0 := HXK.out.k.lt
          have pb0 : v3.cell? ⟨gb, 0, none⟩ = some (.slice a.A1 c.steps.length a.c1) := HXK.out.cells.2.1
          have pb1 : v3.cell? ⟨gb, 1, none⟩ = some (.slice a.A2 c.tallies.length a.c2) := HXK.out.cells.2.2
          have fg0 := HXK.out.k.free 0
          have fg1 := HXK.out.k.free 1
          have HSE := hide (show Row v3 v3.heap.size a.A2 (c.tallies.length * 3) (talliesF c.tallies) from HXK.out.v.tallies)
          refine wp_post0 (fun act0 aq W => ∃ vs : Nat → Value, aq = { tmps := setAll (fun oi => [62, 63, 64, 65, 66, 67, 68, 69, 70, 71, 72, 73, 74, 75, 76, 77, 78, 79, 80, 0].getD oi 0) vs [0, 1, 2, 3, 4, 5, 6, 7, 8, 9, 10, 11, 12, 13, 14, 15, 16, 17, 18] act0.tmps, defers := act0.defers } ∧ ∃ (W1 : World) (A : Option Addr) (cp : Nat), W = W1.setCell ⟨gb, 1, none⟩ (.slice A (c.tallies.length + 1) cp) ∧ Below v3.heap.size v3 W1 ∧ W1.ownsRow v3.heap.size 50 3 (.slice A (c.tallies.length + 1) cp) (c.tallies.length + 1) ((List.range (c.tallies.length * 3)).map (talliesF c.tallies) ++ (List.range (1 * 3)).map (fun j => [Value.int .i64 (idxS (namesTo c c.steps.length) w1), .int .i64 n2, .int .i64 n3].getD j undef))) ?reg1 ?imp1
          case reg1 =>
           have hST : Stab v3.heap.size (fun oi v W => match oi with | 0 => ∃ A cp, v = .slice A 0 cp ∧ W.ownsRow v3.heap.size 50 3 (.slice A 0 cp) 0 ([]) | 1 => v = .pointer (some ⟨gb, 1, none⟩) | 2 => v = .slice a.A2 c.tallies.length a.c2 | 3 => ∃ A cp, v = .slice A c.tallies.length cp ∧ W.ownsRow v3.heap.size 50 3 (.slice A c.tallies.length cp) c.tallies.length ((List.range (c.tallies.length * 3)).map (talliesF c.tallies)) | 4 => v = .agg #[.slice a.A1 c.steps.length a.c1, .slice a.A2 c.tallies.length a.c2] | 5 => ∃ A cp, v = .slice A c.steps.length cp ∧ W.ownsRow v3.heap.size 9 1 (.slice A c.steps.length cp) c.steps.length ((namesTo c c.steps.length).map Value.string) | 6 => v = .slice (some ⟨bw, 0, none⟩) 4 cw | 7 => v = .pointer (some ⟨bw, 0 + 1, none⟩) | 8 => v = .string w1 | 9 => v = .int .i64 (idxS (namesTo c c.steps.length) w1) | 10 => v = .slice (some ⟨bw, 0, none⟩) 4 cw | 11 => v = .pointer (some ⟨bw, 0 + 2, none⟩) | 12 => v = .string w2 | 13 => v = .int .i64 n2 | 14 => v = .int .i64 n3 | 15 => v = .agg #[.int .i64 (idxS (namesTo c c.steps.length) w1), .int .i64 n2, .int .i64 n3] | 16 => ∃ A cp, v = .slice A 1 cp ∧ W.ownsRow v3.heap.size 50 3 (.slice A 1 cp) 1 ([.int .i64 (idxS (namesTo c c.steps.length) w1), .int .i64 n2, .int .i64 n3]) | 17 => ∃ A cp, v = .slice A (c.tallies.length + 1) cp ∧ W.ownsRow v3.heap.size 50 3 (.slice A (c.tallies.length + 1) cp) (c.tallies.length + 1) ((List.range (c.tallies.length * 3)).map (talliesF c.tallies) ++ (List.range (1 * 3)).map (fun j => [Value.int .i64 (idxS (namesTo c c.steps.length) w1), .int .i64 n2, .int .i64 n3].getD j undef)) | _ => True) (fun oi v b => match oi with | 0 => v.ownBlock = some b | 3 => v.ownBlock = some b | 5 => v.ownBlock = some b | 16 => v.ownBlock = some b | 17 => v.ownBlock = some b | _ => False) := by
            intro oi v W W' h hbs hz hk
            match oi, h, hk with
            | 0, h, hk => obtain ⟨A, cp, rfl, h2⟩ := h; exact ⟨A, cp, rfl, own_stab h2 (fun b hb e => hk b hb (.inr e))⟩
            | 1, h, hk => exact h
            | 2, h, hk => exact h
            | 3, h, hk => obtain ⟨A, cp, rfl, h2⟩ := h; exact ⟨A, cp, rfl, own_stab h2 (fun b hb e => hk b hb (.inr e))⟩
            | 4, h, hk => exact h
            | 5, h, hk => obtain ⟨A, cp, rfl, h2⟩ := h; exact ⟨A, cp, rfl, own_stab h2 (fun b hb e => hk b hb (.inr e))⟩
            | 6, h, hk => exact h
            | 7, h, hk => exact h
            | 8, h, hk => exact h
            | 9, h, hk => exact h
            | 10, h, hk => exact h
            | 11, h, hk => exact h
            | 12, h, hk => exact h
            | 13, h, hk => exact h
            | 14, h, hk => exact h
            | 15, h, hk => exact h
            | 16, h, hk => obtain ⟨A, cp, rfl, h2⟩ := h; exact ⟨A, cp, rfl, own_stab h2 (fun b hb e => hk b hb (.inr e))⟩
            | 17, h, hk => obtain ⟨A, cp, rfl, h2⟩ := h; exact ⟨A, cp, rfl, own_stab h2 (fun b hb e => hk b hb (.inr e))⟩
            | oi + 18, h, hk => exact trivial
           refine wp_region_inv (dst := fun oi => [62, 63, 64, 65, 66, 67, 68, 69, 70, 71, 72, 73, 74, 75, 76, 77, 78, 79, 80, 0].getD oi 0) (mono := fun oi => decide (oi < 18)) (pre := fun oi => decide (oi < 18)) (G := Loose 20 v3.heap.size (fun oi => match oi with | 0 => 3 | 3 => 17 | _ => 20) (fun oi v W => match oi with | 0 => ∃ A cp, v = .slice A 0 cp ∧ W.ownsRow v3.heap.size 50 3 (.slice A 0 cp) 0 ([]) | 1 => v = .pointer (some ⟨gb, 1, none⟩) | 2 => v = .slice a.A2 c.tallies.length a.c2 | 3 => ∃ A cp, v = .slice A c.tallies.length cp ∧ W.ownsRow v3.heap.size 50 3 (.slice A c.tallies.length cp) c.tallies.length ((List.range (c.tallies.length * 3)).map (talliesF c.tallies)) | 4 => v = .agg #[.slice a.A1 c.steps.length a.c1, .slice a.A2 c.tallies.length a.c2] | 5 => ∃ A cp, v = .slice A c.steps.length cp ∧ W.ownsRow v3.heap.size 9 1 (.slice A c.steps.length cp) c.steps.length ((namesTo c c.steps.length).map Value.string) | 6 => v = .slice (some ⟨bw, 0, none⟩) 4 cw | 7 => v = .pointer (some ⟨bw, 0 + 1, none⟩) | 8 => v = .string w1 | 9 => v = .int .i64 (idxS (namesTo c c.steps.length) w1) | 10 => v = .slice (some ⟨bw, 0, none⟩) 4 cw | 11 => v = .pointer (some ⟨bw, 0 + 2, none⟩) | 12 => v = .string w2 | 13 => v = .int .i64 n2 | 14 => v = .int .i64 n3 | 15 => v = .agg #[.int .i64 (idxS (namesTo c c.steps.length) w1), .int .i64 n2, .int .i64 n3] | 16 => ∃ A cp, v = .slice A 1 cp ∧ W.ownsRow v3.heap.size 50 3 (.slice A 1 cp) 1 ([.int .i64 (idxS (namesTo c c.steps.length) w1), .int .i64 n2, .int .i64 n3]) | 17 => ∃ A cp, v = .slice A (c.tallies.length + 1) cp ∧ W.ownsRow v3.heap.size 50 3 (.slice A (c.tallies.length + 1) cp) (c.tallies.length + 1) ((List.range (c.tallies.length * 3)).map (talliesF c.tallies) ++ (List.range (1 * 3)).map (fun j => [Value.int .i64 (idxS (namesTo c c.steps.length) w1), .int .i64 n2, .int .i64 n3].getD j undef)) | _ => True) (fun oi v b => match oi with | 0 => v.ownBlock = some b | 3 => v.ownBlock = some b | 5 => v.ownBlock = some b | 16 => v.ownBlock = some b | 17 => v.ownBlock = some b | _ => False)) (by kernel_rfl) (by kernel_rfl) (Loose.start (Nat.le_refl _)) ?hstep1 ?hend1
           case hstep1 =>
            intro oi hoi hom listed vs aq W hU hsz hG hcl hl haft K hK
            have hb := ((Below.refl v3.heap.size v3).drew).trans hU.below
            have hF := Loose.stepF hU hG hST hoi hK
            match oi, hoi, hom with
            | 0, hoi, hom =>
             refine wpOp_value (v := .slice (some ⟨W.heap.size, 0, none⟩) 0 0) (W' := (W.alloc (.cells #[] 50))) rfl rfl ?_ (hF _ _ ((Below.refl _ _).alloc (Nat.le_refl _) _) (own_lit hG.base #[] 0 rfl (by simp [maxLen])) (fun b h => by rw [← own_new h]; exact ⟨by simp, .inl (Nat.le_refl _)⟩))
             go_simp
            | 1, hoi, hom =>
             have z4 : aq.tmps[4]?.getD undef = .pointer (some ⟨gb, 0, none⟩) := hU.same 4 (by decide)
             refine wpOp_value (v := .pointer (some ⟨gb, 1, none⟩)) (W' := W) rfl rfl ?_ (hF _ _ (Below.refl _ _) rfl (fun _ h => False.elim h))
             go_simp
            | 2, hoi, hom =>
             have l1 := haft _ rfl { on := 1, ground := .data } (by simp) rfl
             have p1 := hG.pv 1 (by decide) (live_end hsz rfl l1)
             have s1 : aq.tmps[63]?.getD undef = vs 1 := hU.slot 1 (by decide) l1
             have hv1 : vs 1 = .pointer (some ⟨gb, 1, none⟩) := p1
             rw [hv1] at s1
             have y0 := (hb.cell (p := ⟨gb, 1, none⟩) (z0)).trans (pb1)
             refine wpOp_value (v := .slice a.A2 c.tallies.length a.c2) (W' := W) rfl rfl ?_ (hF _ _ (Below.refl _ _) rfl (fun _ h => False.elim h))
             go_simp
            | 3, hoi, hom =>
             have l0 := haft _ rfl { on := 0, ground := .data } (by simp) rfl
             have p0 := hG.pv 0 (by decide) (⟨l0, hl⟩)
             have s0 : aq.tmps[62]?.getD undef = vs 0 := hU.slot 0 (by decide) l0
             obtain ⟨PA0, kp0, hv0, hi0⟩ := p0
             rw [hv0] at s0
             have l2 := haft _ rfl { on := 2, ground := .data } (by simp) rfl
             have p2 := hG.pv 2 (by decide) (live_end hsz rfl l2)
             have s2 : aq.tmps[64]?.getD undef = vs 2 := hU.slot 2 (by decide) l2
             have hv2 : vs 2 = .slice a.A2 c.tallies.length a.c2 := p2
             rw [hv2] at s2
             have hA := Loose.stepA (p := 0) hU hG rfl hST hoi hK (by decide) (by decide) rfl ⟨l0, hl⟩ (fun b h => h) (by rw [hv0]; exact hi0)
             obtain ⟨v', W', hrun, hown', hg, hblk⟩ := run_app_row (P := Tryz.prog) W v3.heap.size 23 23 50 i4 (.agg #[.int .i64 0, .int .i64 0, .int .i64 0]) 3 24 Tryz.underlying23 hI4 hz40 hz41 hz42 rfl (by decide) hi0 (HSE.out.below hb) (fun j _ => rfl) (by simp only [maxLen]; omega) (by omega) hG.base
             rw [Nat.zero_add, List.nil_append] at hown'
             exact wpOp_append (s := 62) (x := 64) (v' := v') (W' := W') rfl rfl rfl s0 s2 hrun (hA _ _ _ _ (by rw [hv0]; exact hg) hown' (by rw [hv0]; exact hblk) (own_ex hown') (fun b h => h))
            | 4, hoi, hom =>
             have z4 : aq.tmps[4]?.getD undef = .pointer (some ⟨gb, 0, none⟩) := hU.same 4 (by decide)
             have y0 := (hb.cell (p := ⟨gb, 0, none⟩) (z0)).trans (pb0)
             have y1 := (hb.cell (p := ⟨gb, 1, none⟩) (z0)).trans (pb1)
             refine wpOp_value (v := .agg #[.slice a.A1 c.steps.length a.c1, .slice a.A2 c.tallies.length a.c2]) (W' := W) rfl rfl ?_ (hF _ _ (Below.refl _ _) rfl (fun _ h => False.elim h))
             go_simp
            | 5, hoi, hom =>
             have l4 := haft _ rfl { on := 4, ground := .data } (by simp) rfl
             have p4 := hG.pv 4 (by decide) (live_end hsz rfl l4)
             have s4 : aq.tmps[66]?.getD undef = vs 4 := hU.slot 4 (by decide) l4
             have hv4 : vs 4 = .agg #[.slice a.A1 c.steps.length a.c1, .slice a.A2 c.tallies.length a.c2] := p4
             rw [hv4] at s4
             refine wpOp_enter (f := 89) (args := #[bookVal c a]) (W' := W) rfl rfl ?_ ((names12_any (HXK.out.v.next hb) HN1.out).mono (fun e w'' h => ?_))
             · go_simp
             · obtain ⟨A', c', he, h1, hbw⟩ := h
               exact ⟨_, he, hF _ _ hbw ⟨A', c', rfl, own_base h1 hG.base⟩ (fun b h => ⟨(h1.lt b h).2, .inl (h1.lt b h).1⟩)⟩
            | 6, hoi, hom =>
             have z7 : aq.tmps[7]?.getD undef = .slice (some ⟨bw, 0, none⟩) 4 cw := hU.same 7 (by decide)
             refine wpOp_value (v := .slice (some ⟨bw, 0, none⟩) 4 cw) (W' := W) rfl rfl ?_ (hF _ _ (Below.refl _ _) rfl (fun _ h => False.elim h))
             go_simp
            | 7, hoi, hom =>
             have l6 := haft _ rfl { on := 6, ground := .data } (by simp) rfl
             have p6 := hG.pv 6 (by decide) (live_end hsz rfl l6)
             have s6 : aq.tmps[68]?.getD undef = vs 6 := hU.slot 6 (by decide) l6
             have hv6 : vs 6 = .slice (some ⟨bw, 0, none⟩) 4 cw := p6
             rw [hv6] at s6
             refine wpOp_value (v := .pointer (some ⟨bw, 0 + 1, none⟩)) (W' := W) rfl rfl ?_ (hF _ _ (Below.refl _ _) rfl (fun _ h => False.elim h))
             go_simp
            | 8, hoi, hom =>
             have l7 := haft _ rfl { on := 7, ground := .data } (by simp) rfl
             have p7 := hG.pv 7 (by decide) (live_end hsz rfl l7)
             have s7 : aq.tmps[69]?.getD undef = vs 7 := hU.slot 7 (by decide) l7
             have hv7 : vs 7 = .pointer (some ⟨bw, 0 + 1, none⟩) := p7
             rw [hv7] at s7
             have y0 := (hb.cell (p := ⟨bw, 0 + 1, none⟩) (zw)).trans (k1)
             refine wpOp_value (v := .string w1) (W' := W) rfl rfl ?_ (hF _ _ (Below.refl _ _) rfl (fun _ h => False.elim h))
             go_simp
            | 9, hoi, hom =>
             have l5 := haft _ rfl { on := 5, ground := .data } (by simp) rfl
             have p5 := hG.pv 5 (by decide) (live_end hsz rfl l5)
             have s5 : aq.tmps[67]?.getD undef = vs 5 := hU.slot 5 (by decide) l5
             obtain ⟨PA5, kp5, hv5, hi5⟩ := p5
             rw [hv5] at s5
             have l8 := haft _ rfl { on := 8, ground := .data } (by simp) rfl
             have p8 := hG.pv 8 (by decide) (live_end hsz rfl l8)
             have s8 : aq.tmps[70]?.getD undef = vs 8 := hU.slot 8 (by decide) l8
             have hv8 : vs 8 = .string w1 := p8
             rw [hv8] at s8
             refine wpOp_enter (f := 88) (args := #[.slice PA5 c.steps.length kp5, .string w1]) (W' := W) rfl rfl ?_ ((where_names HN1.out hi5 w1).mono (fun e w'' h => ?_))
             · go_simp
             · obtain ⟨he, hww⟩ := h
               exact ⟨_, he, hF _ _ (hww ▸ Below.refl _ _) (by subst hww; rfl) (fun _ h => False.elim h)⟩
            | 10, hoi, hom =>
             have z7 : aq.tmps[7]?.getD undef = .slice (some ⟨bw, 0, none⟩) 4 cw := hU.same 7 (by decide)
             refine wpOp_value (v := .slice (some ⟨bw, 0, none⟩) 4 cw) (W' := W) rfl rfl ?_ (hF _ _ (Below.refl _ _) rfl (fun _ h => False.elim h))
             go_simp
            | 11, hoi, hom =>
             have l10 := haft _ rfl { on := 10, ground := .data } (by simp) rfl
             have p10 := hG.pv 10 (by decide) (live_end hsz rfl l10)
             have s10 : aq.tmps[72]?.getD undef = vs 10 := hU.slot 10 (by decide) l10
             have hv10 : vs 10 = .slice (some ⟨bw, 0, none⟩) 4 cw := p10
             rw [hv10] at s10
             refine wpOp_value (v := .pointer (some ⟨bw, 0 + 2, none⟩)) (W' := W) rfl rfl ?_ (hF _ _ (Below.refl _ _) rfl (fun _ h => False.elim h))
             go_simp
            | 12, hoi, hom =>
             have l11 := haft _ rfl { on := 11, ground := .data } (by simp) rfl
             have p11 := hG.pv 11 (by decide) (live_end hsz rfl l11)
             have s11 : aq.tmps[73]?.getD undef = vs 11 := hU.slot 11 (by decide) l11
             have hv11 : vs 11 = .pointer (some ⟨bw, 0 + 2, none⟩) := p11
             rw [hv11] at s11
             have y0 := (hb.cell (p := ⟨bw, 0 + 2, none⟩) (zw)).trans (k2)
             refine wpOp_value (v := .string w2) (W' := W) rfl rfl ?_ (hF _ _ (Below.refl _ _) rfl (fun _ h => False.elim h))
             go_simp
            | 13, hoi, hom =>
             have l12 := haft _ rfl { on := 12, ground := .data } (by simp) rfl
             have p12 := hG.pv 12 (by decide) (live_end hsz rfl l12)
             have s12 : aq.tmps[74]?.getD undef = vs 12 := hU.slot 12 (by decide) l12
             have hv12 : vs 12 = .string w2 := p12
             rw [hv12] at s12
             refine wpOp_enter (f := 87) (args := #[.string w2, .int .i64 99]) (W' := W) rfl rfl ?_ ((number1_any w2 W).mono (fun e w'' h => ?_))
             · go_simp
             · obtain ⟨he, hww⟩ := h
               exact ⟨_, he, hF _ _ (hww ▸ Below.refl _ _) (by rw [HN2.out]; rfl) (fun _ h => False.elim h)⟩
            | 14, hoi, hom =>
             have z8 : aq.tmps[8]?.getD undef = .int .i64 n3 := hU.same 8 (by decide)
             refine wpOp_value (v := .int .i64 n3) (W' := W) rfl rfl ?_ (hF _ _ (Below.refl _ _) rfl (fun _ h => False.elim h))
             go_simp
            | 15, hoi, hom =>
             have l9 := haft _ rfl { on := 9, ground := .data } (by simp) rfl
             have p9 := hG.pv 9 (by decide) (live_end hsz rfl l9)
             have s9 : aq.tmps[71]?.getD undef = vs 9 := hU.slot 9 (by decide) l9
             have hv9 : vs 9 = .int .i64 (idxS (namesTo c c.steps.length) w1) := p9
             rw [hv9] at s9
             have l13 := haft _ rfl { on := 13, ground := .data } (by simp) rfl
             have p13 := hG.pv 13 (by decide) (live_end hsz rfl l13)
             have s13 : aq.tmps[75]?.getD undef = vs 13 := hU.slot 13 (by decide) l13
             have hv13 : vs 13 = .int .i64 n2 := p13
             rw [hv13] at s13
             have l14 := haft _ rfl { on := 14, ground := .data } (by simp) rfl
             have p14 := hG.pv 14 (by decide) (live_end hsz rfl l14)
             have s14 : aq.tmps[76]?.getD undef = vs 14 := hU.slot 14 (by decide) l14
             have hv14 : vs 14 = .int .i64 n3 := p14
             rw [hv14] at s14
             refine wpOp_value (v := .agg #[.int .i64 (idxS (namesTo c c.steps.length) w1), .int .i64 n2, .int .i64 n3]) (W' := W) rfl rfl ?_ (hF _ _ (Below.refl _ _) rfl (fun _ h => False.elim h))
             go_simp
            | 16, hoi, hom =>
             have l15 := haft _ rfl { on := 15, ground := .data } (by simp) rfl
             have p15 := hG.pv 15 (by decide) (live_end hsz rfl l15)
             have s15 : aq.tmps[77]?.getD undef = vs 15 := hU.slot 15 (by decide) l15
             have hv15 : vs 15 = .agg #[.int .i64 (idxS (namesTo c c.steps.length) w1), .int .i64 n2, .int .i64 n3] := p15
             rw [hv15] at s15
             refine wpOp_value (v := .slice (some ⟨W.heap.size, 0, none⟩) 1 1) (W' := (W.alloc (.cells #[.int .i64 (idxS (namesTo c c.steps.length) w1), .int .i64 n2, .int .i64 n3] 50))) rfl rfl ?_ (hF _ _ ((Below.refl _ _).alloc (Nat.le_refl _) _) (own_lit hG.base #[.int .i64 (idxS (namesTo c c.steps.length) w1), .int .i64 n2, .int .i64 n3] 1 rfl (by simp [maxLen])) (fun b h => by rw [← own_new h]; exact ⟨by simp, .inl (Nat.le_refl _)⟩))
             go_simp
            | 17, hoi, hom =>
             have l3 := haft _ rfl { on := 3, ground := .data } (by simp) rfl
             have p3 := hG.pv 3 (by decide) (⟨l3, hl⟩)
             have s3 : aq.tmps[65]?.getD undef = vs 3 := hU.slot 3 (by decide) l3
             obtain ⟨PA3, kp3, hv3, hi3⟩ := p3
             rw [hv3] at s3
             have l16 := haft _ rfl { on := 16, ground := .data } (by simp) rfl
             have p16 := hG.pv 16 (by decide) (live_end hsz rfl l16)
             have s16 : aq.tmps[78]?.getD undef = vs 16 := hU.slot 16 (by decide) l16
             obtain ⟨PA16, kp16, hv16, hi16⟩ := p16
             rw [hv16] at s16
             obtain ⟨_, _, e16, _, _, hr16⟩ := row_own hi16
             obtain ⟨rfl, rfl⟩ : _ = PA16 ∧ _ = kp16 := by simp only [Value.slice.injEq, true_and] at e16; exact ⟨e16.1.symm, e16.2.symm⟩
             have hA := Loose.stepA (p := 3) hU hG rfl hST hoi hK (by decide) (by decide) rfl ⟨l3, hl⟩ (fun b h => h) (by rw [hv3]; exact hi3)
             obtain ⟨v', W', hrun, hown', hg, hblk⟩ := run_app_row (P := Tryz.prog) W v3.heap.size 23 23 50 i4 (.agg #[.int .i64 0, .int .i64 0, .int .i64 0]) 3 24 Tryz.underlying23 hI4 hz40 hz41 hz42 rfl (by decide) hi3 hr16 (one3i _ _ _) (by simp only [maxLen]; omega) (by omega) hG.base
             exact wpOp_append (s := 65) (x := 78) (v' := v') (W' := W') rfl rfl rfl s3 s16 hrun (hA _ _ _ _ (by rw [hv3]; exact hg) hown' (by rw [hv3]; exact hblk) (own_ex hown') (fun b h => h))
            | oi + 18, hoi, hom => exact absurd (of_decide_eq_true hom) (by omega)
           case hend1 =>
            intro listed vs aq W hG0 hG hpre
            have hb := ((Below.refl v3.heap.size v3).drew).trans hG0.below
            have hact := hG0.act
            have hT := hG0.lst hpre 0 #[true, true, true, true, true, true, true, true, true, true, true, true, true, true, true, true, true, true, false, false] rfl (by kernel_rfl) (hpre 0 (by decide) (by decide))
            rw [hG0.ix hT (l := [0, 1, 2, 3, 4, 5, 6, 7, 8, 9, 10, 11, 12, 13, 14, 15, 16, 17]) (by kernel_rfl)] at hact
            rw [hG0.lo hT (k := 2) (by kernel_rfl)]
            have p17 := hG.pv 17 (by decide) (live_end hG.size rfl (hpre 17 (by decide) (by decide)))
            clear hpre hG hST
            obtain rfl : aq = _ := hact
            subst hT
            obtain ⟨A, cp, hv17, hi17⟩ := p17
            have y4 := (hb.cell (p := ⟨gb, 1, none⟩) z0).trans pb1
            have f4 := (hb.frozen (p := ⟨gb, 1, none⟩) z0).trans fg1
            simp only [setAll, List.setIfInBounds_toArray, List.set_cons_succ, List.set_cons_zero, List.getD_cons_succ, List.getD_cons_zero]
            refine wpAny_all (rs := [18]) (by kernel_rfl) (by simp) ?_
            intro i2 hi2
            obtain rfl : i2 = 18 := by simpa using hi2
            refine wpOp_value (v := .pointer (some ⟨gb, 1, none⟩)) (W' := W) rfl rfl ?_ ?_
            · go_simp
            refine wpAny_all (rs := [19]) (by kernel_rfl) (by simp) ?_
            intro i2 hi2
            obtain rfl : i2 = 19 := by simpa using hi2
            refine wpOp_skip (W' := W.setCell ⟨gb, 1, none⟩ (.slice A (c.tallies.length + 1) cp)) rfl rfl ?_ ?_
            · rw [hv17]; go_simp
            refine wpAny_done (by kernel_rfl) ?_ _
            exact ⟨rfl, fun q => if q = 18 then .pointer (some ⟨gb, 1, none⟩) else vs q, rfl, W, A, cp, rfl, hb, hi17⟩
          case imp1 =>
          rintro a9 wz ⟨vs, rfl, W1, A, cp, rfl, hb1, hown⟩
          simp only [setAll, List.setIfInBounds_toArray, List.set_cons_succ, List.set_cons_zero, List.getD_cons_succ, List.getD_cons_zero]
          have hk1 : Keep (fun q => q = gb) W1 (W1.setCell ⟨gb, 1, none⟩ (.slice A (c.tallies.length + 1) cp)) := Keep.setCell _ _ _ _ rfl
          have HRD2 := hide (HRD1.out.tally (x := ⟨idxS (namesTo c c.steps.length) w1, n2, n3⟩) hgv hzv hb1 hown)
          have HRZ2 := hide ((HRZ1.out.next hb1).keep hk1 hgg)
          have HOL2 := hide (own_kept (own_stab HOL1.out (fun b hb' _ => hb1.block b hb')) hk1 (fun b hb' hS => by omega))
          have HB4 := hide (HB3.out.trans ((hb1.mono (Nat.le_trans hz1 hzv)).setCell (p := ⟨gb, 1, none⟩) hgw (.slice A (c.tallies.length + 1) cp)))
          have hzf : v1.heap.size ≤ (W1.setCell ⟨gb, 1, none⟩ (.slice A (c.tallies.length + 1) cp)).heap.size := by have := hb1.size; simp; omega
          have hne : bw ≠ gb := by omega
          have k0' : (W1.setCell ⟨gb, 1, none⟩ (.slice A (c.tallies.length + 1) cp)).cell? ⟨bw, 0, none⟩ = some (.string w0) := (World.cell?_of_block (hk1.block bw (Nat.lt_of_lt_of_le zw hb1.size) hne)).trans ((hb1.cell (p := ⟨bw, 0, none⟩) zw).trans k0)
          have zw' : bw < (W1.setCell ⟨gb, 1, none⟩ (.slice A (c.tallies.length + 1) cp)).heap.size := by have := hb1.size; simp; omega
          have HFN := hide ((HFS.out.trans HLR.out).trans (by rw [HN3.out]))
          have hnn := HN.out
          clear hk1 hb1 hown HXK HRD1 HRZ1 HOL1 HB3 HSE pb0 pb1 fg0 fg1 z0 k0 k1 k2 k3 zw HLR HFS
          generalize W1.setCell ⟨gb, 1, none⟩ (.slice A (c.tallies.length + 1) cp) = v4 at *
          go_wp2_with fail
          go_roundw
          case rel => exact ⟨i + 1, _, _, by omega, by go_num, HFN, hide ⟨by simp; omega, by simp; omega⟩, HRD2, HRZ2, HOL2, HB4, hzf⟩
          case measure => simp [intOf]; omega
         | false =>
          have HLR := hide (lineR_no (c := c) (w1 := w1) (w2 := w2) (w3 := w3) hst htl)
          go_wp2_with fail
          go_roundw
          case rel => exact ⟨i + 1, c, a, by omega, by go_num, hide (by rw [HFS.out, HLR.out]), hide ⟨Nat.le_succ_of_le HN.out.1, Nat.le_succ_of_le HN.out.2⟩, HRD1, HRZ1, HOL1, HB3, hzv⟩
          case measure => simp [intOf]; omega
      · have hd : ((ws.length : Int) != 4) = true := by rw [bne_iff_ne]; omega
        have HLR := hide (lineR_ne (c := c) h4)
        clear h4
        go_wp2_with fail
        go_roundw
        case rel => exact ⟨i + 1, c, a, by omega, by go_num, hide (by rw [HFS.out, HLR.out]), hide ⟨Nat.le_succ_of_le HN.out.1, Nat.le_succ_of_le HN.out.2⟩, HRD1, HRZ1, HOL1, HB3, hzv⟩
        case measure => simp [intOf]; omega
    · obtain rfl : i = nl := by omega
      have HCB := hide (show c = bookR S.data.toList by rw [HBR.out, ← HC.out, HLN.out, List.take_length])
      rw [← HCB.out] at HRA
      obtain ⟨gx, x0, x1⟩ := HXL.out.cells
      go_upto_region 16 with (go_at_call 18; refine (check12_any HXL.out.v).mono ?_; rintro e y3 ⟨rfl, hb⟩)
      have HRD3 := hide (HRD.out.next hb)
      have HRZ3 := hide (HRZ.out.next hb)
      have HB3 := hide (HBW.out.trans (hb.mono HBW.out.size))
      have hz3 : v1.heap.size ≤ y3.heap.size := Nat.le_trans hzw hb.size
      clear hb gx x0 x1 HXL HRD HRZ HBW HOL
      by_cases hc : (checkM c).2.2 = 0
      · have hd : ((checkM c).2.2 != 0) = false := by rw [hc]; decide
        have HTX := hide (text12_any HRD3.out.box.v (valid_of hc))
        have HTE := hide (show (⟨(textL c).toArray⟩ : ByteArray) = S ↔ textL c = S.data.toList from ⟨fun h => by rw [← h], fun h => by rw [h]⟩)
        generalize (⟨(textL c).toArray⟩ : ByteArray) = T at HTX HTE
        obtain ⟨gx, x0, x1⟩ := HRD3.out.box.cells
        have r0 := HRZ3.out.at_ 0
        have r1 := HRZ3.out.at_ 1
        simp only [List.getElem?_toArray, List.getElem?_cons_zero, List.getElem?_cons_succ] at r0 r1
        have f0 := HRZ3.out.free 0
        have f1 := HRZ3.out.free 1
        by_cases hts : T = S
        · have htl : (T.toList == S.toList) = true := by rw [hts]; exact beq_self_eq_true _
          have HRR := hide (show readR1 S.data.toList = (c, 0) by rw [HRA.out, if_pos ⟨hc, HTE.out.1 hts⟩])
          clear hts hc
          go_wp2_with (go_at_call 79; refine HTX.out.mono ?_; rintro e y4 ⟨rfl, hb⟩; have hzq := hb.size; have HRD4 := hide (HRD3.out.next hb); have HRZ4 := hide (HRZ3.out.next hb); have HB4 := hide (HB3.out.trans (hb.mono HB3.out.size)); clear hb gx x0 x1 r0 r1 f0 f1; have r0 := HRZ4.out.at_ 0; have r1 := HRZ4.out.at_ 1; simp only [List.getElem?_toArray, List.getElem?_cons_zero, List.getElem?_cons_succ] at r0 r1; have f0 := HRZ4.out.free 0; have f1 := HRZ4.out.free 1; obtain ⟨gx, x0, x1⟩ := HRD4.out.box.cells)
          have b2 : Blk ((y4.setCell ⟨w.heap.size, 0, none⟩ (.slice a.A1 c.steps.length a.c1)).setCell ⟨w.heap.size, 1, none⟩ (.slice a.A2 c.tallies.length a.c2)) w.heap.size 25 #[.slice a.A1 c.steps.length a.c1, .slice a.A2 c.tallies.length a.c2] := (HRZ4.out.store 0 (.slice a.A1 c.steps.length a.c1)).store 1 (.slice a.A2 c.tallies.length a.c2)
          have hb2 : Below w.heap.size w ((y4.setCell ⟨w.heap.size, 0, none⟩ (.slice a.A1 c.steps.length a.c1)).setCell ⟨w.heap.size, 1, none⟩ (.slice a.A2 c.tallies.length a.c2)) := (HB4.out.setCell (p := ⟨w.heap.size, 0, none⟩) (Nat.le_refl _) _).setCell (p := ⟨w.heap.size, 1, none⟩) (Nat.le_refl _) _
          have hka : Keep (fun q => q = w.heap.size) y4 (y4.setCell ⟨w.heap.size, 0, none⟩ (.slice a.A1 c.steps.length a.c1)) := Keep.setCell _ _ _ _ rfl
          have hkb : Keep (fun q => q = w.heap.size) (y4.setCell ⟨w.heap.size, 0, none⟩ (.slice a.A1 c.steps.length a.c1)) ((y4.setCell ⟨w.heap.size, 0, none⟩ (.slice a.A1 c.steps.length a.c1)).setCell ⟨w.heap.size, 1, none⟩ (.slice a.A2 c.tallies.length a.c2)) := Keep.setCell _ _ _ _ rfl
          have hk2 := hka.trans hkb
          clear hka hkb
          generalize (y4.setCell ⟨w.heap.size, 0, none⟩ (.slice a.A1 c.steps.length a.c1)).setCell ⟨w.heap.size, 1, none⟩ (.slice a.A2 c.tallies.length a.c2) = v9 at *
          have c0 := b2.at_ 0
          have c1 := b2.at_ 1
          simp only [List.getElem?_toArray, List.getElem?_cons_zero, List.getElem?_cons_succ] at c0 c1
          exact bodyPost_ret (v := .tuple #[bookVal c a, .int .i64 0]) (by simp [results, Tryz.results36, go_sem, c0, c1]) rfl ⟨hb2, a, by rw [HRR.out], by rw [HRR.out]; exact HRD4.out.after hk2 (by omega)⟩
        · have htl : (T.toList == S.toList) = false := eqS_ne hts
          have HRR := hide (show readR1 S.data.toList = (⟨[], []⟩, 6) by rw [HRA.out, if_neg (fun h => hts (HTE.out.2 h.2))])
          clear hts hc
          go_wp2_with (go_at_call 79; refine HTX.out.mono ?_; rintro e y4 ⟨rfl, hb⟩; have hzq := hb.size; have HRD4 := hide (HRD3.out.next hb); have HRZ4 := hide (HRZ3.out.next hb); have HB4 := hide (HB3.out.trans (hb.mono HB3.out.size)); clear hb gx x0 x1 r0 r1 f0 f1; have r0 := HRZ4.out.at_ 0; have r1 := HRZ4.out.at_ 1; simp only [List.getElem?_toArray, List.getElem?_cons_zero, List.getElem?_cons_succ] at r0 r1; have f0 := HRZ4.out.free 0; have f1 := HRZ4.out.free 1; obtain ⟨gx, x0, x1⟩ := HRD4.out.box.cells)
          have b2 : Blk ((y4.setCell ⟨w.heap.size, 0, none⟩ (.slice none 0 0)).setCell ⟨w.heap.size, 1, none⟩ (.slice none 0 0)) w.heap.size 25 #[.slice none 0 0, .slice none 0 0] := (HRZ4.out.store 0 (.slice none 0 0)).store 1 (.slice none 0 0)
          have hb2 : Below w.heap.size w ((y4.setCell ⟨w.heap.size, 0, none⟩ (.slice none 0 0)).setCell ⟨w.heap.size, 1, none⟩ (.slice none 0 0)) := (HB4.out.setCell (p := ⟨w.heap.size, 0, none⟩) (Nat.le_refl _) _).setCell (p := ⟨w.heap.size, 1, none⟩) (Nat.le_refl _) _
          generalize (y4.setCell ⟨w.heap.size, 0, none⟩ (.slice none 0 0)).setCell ⟨w.heap.size, 1, none⟩ (.slice none 0 0) = v9 at *
          have c0 := b2.at_ 0
          have c1 := b2.at_ 1
          simp only [List.getElem?_toArray, List.getElem?_cons_zero, List.getElem?_cons_succ] at c0 c1
          exact bodyPost_ret (v := .tuple #[bookVal ⟨[], []⟩ ⟨none, none, 0, 0⟩, .int .i64 6]) (by simp [results, Tryz.results36, go_sem, c0, c1]) rfl ⟨hb2, ⟨none, none, 0, 0⟩, by rw [HRR.out], by rw [HRR.out]; exact book_nil _⟩
      · have hd : ((checkM c).2.2 != 0) = true := by simpa using hc
        have HRR := hide (show readR1 S.data.toList = (⟨[], []⟩, 6) by rw [HRA.out, if_neg (fun h => hc h.1)])
        clear hc
        have r0 := HRZ3.out.at_ 0
        have r1 := HRZ3.out.at_ 1
        simp only [List.getElem?_toArray, List.getElem?_cons_zero, List.getElem?_cons_succ] at r0 r1
        have f0 := HRZ3.out.free 0
        have f1 := HRZ3.out.free 1
        go_wp2_with fail
        have b2 : Blk ((y3.setCell ⟨w.heap.size, 0, none⟩ (.slice none 0 0)).setCell ⟨w.heap.size, 1, none⟩ (.slice none 0 0)) w.heap.size 25 #[.slice none 0 0, .slice none 0 0] := (HRZ3.out.store 0 (.slice none 0 0)).store 1 (.slice none 0 0)
        have hb2 : Below w.heap.size w ((y3.setCell ⟨w.heap.size, 0, none⟩ (.slice none 0 0)).setCell ⟨w.heap.size, 1, none⟩ (.slice none 0 0)) := (HB3.out.setCell (p := ⟨w.heap.size, 0, none⟩) (Nat.le_refl _) _).setCell (p := ⟨w.heap.size, 1, none⟩) (Nat.le_refl _) _
        generalize (y3.setCell ⟨w.heap.size, 0, none⟩ (.slice none 0 0)).setCell ⟨w.heap.size, 1, none⟩ (.slice none 0 0) = v9 at *
        have c0 := b2.at_ 0
        have c1 := b2.at_ 1
        simp only [List.getElem?_toArray, List.getElem?_cons_zero, List.getElem?_cons_succ] at c0 c1
        exact bodyPost_ret (v := .tuple #[bookVal ⟨[], []⟩ ⟨none, none, 0, 0⟩, .int .i64 6]) (by simp [results, Tryz.results36, go_sem, c0, c1]) rfl ⟨hb2, ⟨none, none, 0, 0⟩, by rw [HRR.out], by rw [HRR.out]; exact book_nil _⟩

end Go.Proofs.YtocdmkilnbpkdaaGreatDoor
