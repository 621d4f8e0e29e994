/- The kinds of lines; strings.Lines. -/
import Derived.Test.YtocdmkilnbpkdaaGreatDoorWH
import Derived.Test.YtocdmkilnbpkdaaGreatDoorZU
import Derived.OwnWalkIn
import Derived.Laws.EntriesVeiled
import Derived.TacticsInMore
import Derived.Deep.DeepCutAuto
set_option linter.unusedVariables false
set_option linter.unusedSimpArgs false
namespace Go.Proofs.YtocdmkilnbpkdaaGreatDoor
open Go.RowKit
attribute [local go_sem] Oper.semAt_some

/-- The two kinds of lines, in memory. -/
structure KindsAt (W : World) (B gk zr zn rb : Nat) : Prop where
 k : Blk W gk 124 #[.string ⟨#[115, 116, 101, 112]⟩, .func (.func 120) #[] #[.pointer (some ⟨zn, 0, none⟩), .pointer (some ⟨zr, 0, none⟩)], .string ⟨#[116, 97, 108, 108, 121]⟩, .func (.func 123) #[] #[.pointer (some ⟨zr, 0, none⟩), .pointer (some ⟨zn, 0, none⟩)]]
 k1 : Blk W zr 110 #[.pointer (some ⟨rb, 0, none⟩)]
 k2 : Blk W zn 157 #[.func (.func 119) #[.pointer (some ⟨rb, 0, none⟩)] #[]]
 d : B ≤ zr ∧ B ≤ zn ∧ B ≤ gk
set_option maxRecDepth 100000 in
theorem rows_any (rb : Nat) (w : World) : Calls Tryz.prog 85 #[.pointer (some ⟨rb, 0, none⟩)] w fun e w' => ∃ gk zr zn, e = .returned (.slice (some ⟨gk, 0, none⟩) 2 2) ∧ KindsAt w' w.heap.size gk zr zn rb ∧ Below w.heap.size w w' := by
 go_enter Tryz.func85, Tryz.ntmps85
 go_wp2
 go_ret
 have e2 : w.heap.size + 1 + 1 = ((w.alloc (.cells #[.pointer (some ⟨rb, 0, none⟩)] 110)).alloc (.cells #[.func (.func 119) #[.pointer (some ⟨rb, 0, none⟩)] #[]] 157)).heap.size := by simp
 have e1 : w.heap.size + 1 = (w.alloc (.cells #[.pointer (some ⟨rb, 0, none⟩)] 110)).heap.size := by simp
 refine ⟨_, w.heap.size, w.heap.size + 1, rfl, ⟨by rw [e2]; exact Blk.made, ?_, ?_, by omega⟩, (((Below.refl _ _).alloc (Nat.le_refl _) _).alloc (by simp) _).alloc (by simp; omega) _⟩
 · refine Blk.next ?_ (((Below.refl _ _).alloc (Nat.le_refl _) _).alloc (by simp) _)
   exact Blk.made
 · refine Blk.next ?_ ((Below.refl _ _).alloc (Nat.le_refl _) _)
   rw [e1]; exact Blk.made
set_option maxRecDepth 100000 in
theorem lines_any (s : ByteArray) (w : World) : Calls Tryz.prog 81 #[.string s] w fun e w' => e = .returned (.func (.func 115) #[] #[.pointer (some ⟨w.heap.size, 0, none⟩)]) ∧ w' = w.alloc (.cells #[.string s] 9) := by
 go_enter Tryz.func81, Tryz.ntmps81
 go_wp2
 go_ret
 exact ⟨rfl, rfl⟩
theorem ib_spec (c : UInt8) : ∀ l : List UInt8, (Lib.indexByte l c = -1 ∧ c ∉ l) ∨ ∃ i : Nat, Lib.indexByte l c = i ∧ i < l.length ∧ l = l.take i ++ c :: l.drop (i + 1) ∧ c ∉ l.take i
 | [] => .inl ⟨rfl, by simp⟩
 | b :: l => by
  by_cases h : b = c
  · subst h
    exact .inr ⟨0, by simp [Lib.indexByte], by simp, by simp, by simp⟩
  · have hb : (b == c) = false := by simpa using h
    rcases ib_spec c l with ⟨h1, h2⟩ | ⟨i, h1, h2, h3, h4⟩
    · refine .inl ⟨?_, by simp [h2, Ne.symm h]⟩
      unfold Lib.indexByte
      rw [hb, h1]; rfl
    · refine .inr ⟨i + 1, ?_, by simpa using h2, ?_, by simp [h4, Ne.symm h]⟩
      · unfold Lib.indexByte
        rw [hb, h1]
        have : ((i : Int) == -1) = false := by rw [beq_eq_false_iff_ne]; omega
        simp [this]
      · rw [List.take_succ_cons, List.drop_succ_cons, List.cons_append, ← h3]
/-- How much of the text is left. -/
def leftAt (w : World) (sb : Nat) : Nat := match w.cell? ⟨sb, 0, none⟩ with | some (.string x) => x.size | _ => 0
theorem leftAt_of {w : World} {sb : Nat} {x : ByteArray} (h : Blk w sb 9 #[.string x]) : leftAt w sb = x.size := by
 have := h.at_ 0
 simp only [List.getElem?_toArray, List.getElem?_cons_zero] at this
 rw [leftAt, this]
abbrev lineVal (l : List UInt8) : Value := .string ⟨l.toArray⟩
set_option maxHeartbeats 2000000 in
set_option maxRecDepth 100000 in
theorem lines_iter {s : List UInt8} {w : World} {sb : Nat} (hs : Blk w sb 9 #[.string ⟨s.toArray⟩]) (hl : s.length ≤ 500) :
 IterP Tryz.prog 115 #[.pointer (some ⟨sb, 0, none⟩)] lineVal (fun k => k = sb) BAD (linesL s) w := by
 intro l C' J Jp W hBW hC' hJ hY h0
 have hz := hs.lt
 have hsW : Blk W sb 9 #[.string ⟨s.toArray⟩] := (hBW.block _ hz).trans hs
 have HS := hide hsW
 have H0 := hide h0
 have HJ := hide hJ
 have HY := hide hY
 have HC := hide hC'
 have hzW := hsW.lt
 clear hs h0 hJ hY hC' hsW hBW
 go_enter Tryz.func115, Tryz.ntmps115
 obtain ⟨W0, HW0⟩ : ∃ W0, Hid (W0 = W) := ⟨W, hide rfl⟩
 go_wp2_with fail
 go_loopw [3, 4, 5, 6, 7, 8, 9, 10, 11, 12, 13, 14, 15, 16, 17, 18, 19, 20, 21, 22, 23, 24] (fun _ _ _ _ _ _ _ _ _ _ _ _ _ _ _ _ _ _ _ _ _ _ wr => ∃ (pre : List (List UInt8)) (rest : List UInt8), Hid (pre ++ linesL rest = linesL s) ∧ rest.length ≤ 500 ∧ Hid (Blk wr sb 9 #[.string ⟨rest.toArray⟩]) ∧ Hid (J pre wr) ∧ Hid (Keep (fun k => k = sb ∨ C' k) W wr)) (fun _ _ _ _ _ _ _ _ _ _ _ _ _ _ _ _ _ _ _ _ _ _ wr => leftAt wr sb)
 case atStart => exact ⟨[], s, rfl, hl, HS, H0, hide (Keep.refl _ _)⟩
 case round =>
  obtain ⟨pre, rest, HP, hr5, HB, HJr, HK⟩ := hrel
  have x0 := HB.out.at_ 0
  have f0 := HB.out.free 0
  simp only [List.getElem?_toArray, List.getElem?_cons_zero] at x0
  have hzr := HB.out.lt
  have hsz : (⟨rest.toArray⟩ : ByteArray).size = rest.length := by simp [ByteArray.size]
  have HLA := hide (leftAt_of HB.out)
  by_cases hne : rest = []
  · have hnl : ¬ (0 : Int) < (rest.length : Int) := by rw [hne]; simp
    have hJT := HJr.out
    have HPT : pre = linesL s := by have := HP.out; rw [hne] at this; simpa [linesL] using this
    rw [HPT] at hJT
    have HJT := hide hJT
    clear hJT HPT hne hsz HP HB HLA HJr
    go_wp2_with fail
    go_end0
    exact ⟨HK.out, .inl ⟨⟨_, rfl⟩, HJT.out⟩⟩
  · have hlen : 0 < rest.length := List.length_pos_iff.2 hne
    have hlen' : (0 : Int) < (rest.length : Int) := by omega
    rcases ib_spec 10 rest with ⟨hi, hno⟩ | ⟨i, hi, hil, hcut, hno⟩
    · go_upto_region 6 with (go_at_call 116; refine (Tryz.strings_IndexByte _ 10 _).mono ?_; rintro e w1 ⟨rfl, rfl⟩)
      have hs : Keep (fun k => k = sb) w1 (w1.setCell ⟨sb, 0, none⟩ (.string ⟨#[]⟩)) := Keep.setCell _ _ _ _ rfl
      have hb2 : Blk (w1.setCell ⟨sb, 0, none⟩ (.string ⟨#[]⟩)) sb 9 #[.string ⟨([] : List UInt8).toArray⟩] := HB.out.store 0 _
      have hpre : pre ++ [rest] = linesL s := by rw [← HP.out, linesL_last hno hne]
      generalize w1.setCell ⟨sb, 0, none⟩ (.string ⟨#[]⟩) = V at *
      have hJV := HJ.out _ _ _ HJr.out hs
      obtain ⟨fn, tmps, asg, body, hy, hR⟩ := HY.out pre rest V (by rw [hpre]; exact List.prefix_refl _) hJV
      have HR := hide hR
      have HKV := hide (HK.out.trans (hs.mono (fun k _ h => .inl h)))
      have HB2 := hide hb2
      have HPR := hide hpre
      clear hR hs hb2 hJV x0 f0 hzr hi HJr HK HB HP hpre
      refine (wpIn_wide (n := 0)).1 ?_
      gi_wp2
      refine ⟨rfl, HR.out.mono ?_⟩
      rintro e W' ⟨hkC, (⟨rfl, hJ2⟩ | ⟨rfl, hp2⟩)⟩
      · have HK2 := hide (HKV.out.trans (hkC.mono (fun k _ h => .inr h)))
        have HB3 := hide (HB2.out.keep hkC (fun h => HC.out _ h rfl))
        have HJ2 := hide hJ2
        clear hkC hJ2
        gi_wp2
        go_wp2_with fail
        go_roundw
        case rel => exact ⟨pre ++ [rest], [], by show _ = _; rw [HPR.out]; simp [linesL], by simp, HB3, HJ2, HK2⟩
        case measure => rw [leftAt_of HB3.out, HLA.out]; simp [ByteArray.size]; omega
      · exact ⟨rfl, HKV.out.trans (hkC.mono (fun k _ h => .inr h)), .inr ⟨rfl, _, by rw [HPR.out]; exact List.prefix_refl _, hp2⟩⟩
    · have hi1 : (i : Int) < (rest.length : Int) := by omega
      have hi0 : (0 : Int) ≤ (i : Int) := by omega
      have HCUT := hide hcut
      clear hcut
      go_upto_region 4 with (go_at_call 116; refine (Tryz.strings_IndexByte _ 10 _).mono ?_; rintro e w1 ⟨rfl, rfl⟩)
      go_region
      have hx1 : (⟨rest.toArray⟩ : ByteArray).extract 0 (i + 1) = ⟨(rest.take i ++ [10]).toArray⟩ := by
       apply ByteArray.ext
       apply Array.ext'
       rw [Lib.extract_data, List.drop_zero, Nat.sub_zero]
       show rest.take (i + 1) = rest.take i ++ [10]
       conv => lhs; rw [HCUT.out]
       rw [List.take_append, List.length_take, Nat.min_eq_left (by omega), show i + 1 - i = 1 by omega, List.take_of_length_le (by rw [List.length_take]; omega)]
       rfl
      have hx2 : (⟨rest.toArray⟩ : ByteArray).extract (i + 1) rest.length = ⟨(rest.drop (i + 1)).toArray⟩ := by
       apply ByteArray.ext
       apply Array.ext'
       rw [Lib.extract_data]
       exact List.take_of_length_le (by rw [List.length_drop]; exact Nat.le_refl _)
      rw [hx1, hx2]
      clear hx1 hx2
      have hs : Keep (fun k => k = sb) w1 (w1.setCell ⟨sb, 0, none⟩ (.string ⟨(rest.drop (i + 1)).toArray⟩)).drew := (Keep.setCell _ _ _ (fun k => k = sb) rfl).trans (LKeep.drew (fun k => k = sb) (M := fun _ => True) _ (fun h => h)).1
      have hb2 : Blk (w1.setCell ⟨sb, 0, none⟩ (.string ⟨(rest.drop (i + 1)).toArray⟩)).drew sb 9 #[.string ⟨(rest.drop (i + 1)).toArray⟩] := HB.out.store 0 (.string ⟨(rest.drop (i + 1)).toArray⟩)
      have hll : linesL rest = (rest.take i ++ [10]) :: linesL (rest.drop (i + 1)) := by
       conv => lhs; rw [HCUT.out]
       exact linesL_line hno
      have hpre : (pre ++ [rest.take i ++ [10]]) ++ linesL (rest.drop (i + 1)) = linesL s := by rw [← HP.out, hll, List.append_assoc]; rfl
      have hdl : (rest.drop (i + 1)).length < rest.length := by rw [List.length_drop]; omega
      generalize hln : rest.take i ++ [10] = ln at *
      generalize hrs : rest.drop (i + 1) = rs at *
      have HLN := hide hln
      have HRS := hide hrs
      clear hln hrs
      go_upto_region 6 with fail
      generalize (w1.setCell ⟨sb, 0, none⟩ (.string ⟨rs.toArray⟩)).drew = V at *
      have hJV := HJ.out _ _ _ HJr.out hs
      obtain ⟨fn, tmps, asg, body, hy, hR⟩ := HY.out pre ln V (by rw [← hpre]; exact List.prefix_append _ _) hJV
      have HR := hide hR
      have HKV := hide (HK.out.trans (hs.mono (fun k _ h => .inl h)))
      have HB2 := hide hb2
      have HPR := hide hpre
      clear hR hs hb2 hJV x0 f0 hzr hi HJr HK HB HP hpre hll
      refine (wpIn_wide (n := 0)).1 ?_
      gi_wp2
      refine ⟨rfl, HR.out.mono ?_⟩
      rintro e W' ⟨hkC, (⟨rfl, hJ2⟩ | ⟨rfl, hp2⟩)⟩
      · have HK2 := hide (HKV.out.trans (hkC.mono (fun k _ h => .inr h)))
        have HB3 := hide (HB2.out.keep hkC (fun h => HC.out _ h rfl))
        have HJ2 := hide hJ2
        clear hkC hJ2
        gi_wp2
        go_wp2_with fail
        go_roundw
        case rel => exact ⟨pre ++ [ln], rs, HPR, by omega, HB3, HJ2, HK2⟩
        case measure => rw [leftAt_of HB3.out, HLA.out]; simp [ByteArray.size]; omega
      · exact ⟨rfl, HKV.out.trans (hkC.mono (fun k _ h => .inr h)), .inr ⟨rfl, _, by rw [← HPR.out]; exact List.prefix_append _ _, hp2⟩⟩
end Go.Proofs.YtocdmkilnbpkdaaGreatDoor
