/- name, Text and Write of the reference. -/
import Derived.Test.YtocdmkilnbpkdaaGreatDoorUI
import Derived.Test.YtocdmkilnbpkdaaGreatDoorWC
import Derived.OwnWalkIn
import Derived.Laws.Concat
import Derived.OwnWalk
import Derived.Laws.AppendOwn
import Derived.Laws.StructEq
import Derived.TacticsInMore
import Derived.Deep.DeepCutAuto
set_option linter.unusedVariables false
set_option linter.unusedSimpArgs false
namespace Go.Proofs.YtocdmkilnbpkdaaGreatDoor
open Go.RowKit
attribute [local go_sem] Oper.semAt_some

theorem str_line (l : List UInt8) (w0 w1 w2 w3 c : ByteArray) (h : c.data.toList = w0.data.toList ++ [32]) : ((((((((⟨l.toArray⟩ : ByteArray) ++ c) ++ w1) ++ (⟨#[32]⟩ : ByteArray)) ++ w2) ++ (⟨#[32]⟩ : ByteArray)) ++ w3) ++ (⟨#[10]⟩ : ByteArray)) = ⟨(l ++ lineL [w0, w1, w2, w3]).toArray⟩ := by
 apply ByteArray.ext
 apply Array.toList_inj.1
 simp only [ByteArray.data_append, Array.toList_append, h, lineL, List.map_cons, List.map_nil, join_two, Lib.join_one]
 simp
theorem str_size (l : List UInt8) : (⟨l.toArray⟩ : ByteArray).size = l.length := by simp [ByteArray.size]
theorem name_size' {s : ByteArray} (h : nameB s = true) : s.size ≤ 16 := by
 rw [nameB, Bool.and_eq_true, decide_eq_true_eq] at h
 exact h.1.2
theorem dec_size' {n : Nat} (h : n ≤ 99) : (decB (n : Int)).size ≤ 2 := by
 by_cases h1 : n < 10
 · rw [dec_one h1]; exact Nat.le_succ 1
 · rw [dec_two h1 h, ByteArray.size_append]; exact Nat.le_refl 2
set_option maxHeartbeats 400000 in
set_option maxRecDepth 100000 in
theorem name12_any {b : Book} {a : BA} {w : World} (h : BookV w w.heap.size b a) {i : Int} (hi : i = -1 ∨ (0 ≤ i ∧ i < b.steps.length)) :
 Calls Tryz.prog 113 #[bookVal b a, .int .i64 i] w fun e w' => e = .returned (.string (fromB b i)) ∧ Below w.heap.size w w' := by
 have HX := hide (BoxB.made h)
 have HB := hide (show Below w.heap.size w (w.alloc (.cells (bookCells b a) 25)) from (Below.refl _ _).alloc (Nat.le_refl _) _)
 have hm1 := h.m1
 unfold maxLen at hm1
 clear h
 go_enter Tryz.func113, Tryz.ntmps113
 go_upto_region 1 with (fail)
 generalize (w.alloc (.cells (bookCells b a) 25)) = v0 at *
 obtain ⟨gx, x0, x1⟩ := HX.out.cells
 by_cases h1 : i = -1
 · subst h1
   go_wp2_with fail
   go_ret
   exact ⟨rfl, HB.out⟩
 · have hd : (i == -1) = false := by simpa using h1
   obtain ⟨k, rfl⟩ : ∃ k : Nat, i = (k : Int) := ⟨i.toNat, by omega⟩
   have hk : k < b.steps.length := by omega
   have hk0 : (0 : Int) ≤ (k : Int) := Int.natCast_nonneg _
   have hk1 : (k : Int) < (b.steps.length : Int) := by omega
   obtain ⟨g1, o1, hA1, hg1, s0, s1, s2⟩ := HX.out.v.steps.steps hk
   rw [hA1] at x0
   have HF := hide (show fromB b (k : Int) = (nth b.steps k).name by rw [fromB, if_neg h1]; rfl)
   clear hA1 s1 s2 h1 hi
   generalize (nth b.steps k).name = nm at *
   go_wp2_with fail
   go_ret
   exact ⟨by rw [HF.out]; rfl, HB.out⟩
set_option maxHeartbeats 4000000 in
set_option maxRecDepth 100000 in
theorem text12_any {b : Book} {a : BA} {w : World} (h : BookV w w.heap.size b a) (hv : Valid b) :
 Calls Tryz.prog 79 #[bookVal b a] w fun e w' => e = .returned (.string ⟨(textL b).toArray⟩) ∧ Below w.heap.size w w' := by
 have h6 := hv.steps
 have ht6 := hv.tallies
 have HVD := hide hv
 have HX := hide (BoxB.made h)
 have HB := hide (show Below w.heap.size w (w.alloc (.cells (bookCells b a) 25)) from (Below.refl _ _).alloc (Nat.le_refl _) _)
 clear h hv
 go_enter Tryz.func79, Tryz.ntmps79
 go_upto_region 1 with (fail)
 generalize (w.alloc (.cells (bookCells b a) 25)) = v0 at *
 go_wp2_with fail
 go_loopw [3, 4, 5, 8, 9, 10, 11, 12, 13, 14, 15, 16, 17, 18, 19, 20, 21, 22, 23, 24, 25, 26, 27, 28, 29, 30, 31, 32, 33, 34, 35, 36] (fun v3 v4 _ _ _ _ _ _ _ _ _ _ _ _ _ _ _ _ _ _ _ _ _ _ _ _ _ _ _ _ _ _ wr => ∃ k : Nat, k ≤ b.steps.length ∧ v4 = .int .i64 (k : Nat) ∧ v3 = .string ⟨(textS b k).toArray⟩ ∧ Hid (Below v0.heap.size v0 wr)) (fun v3 v4 _ _ _ _ _ _ _ _ _ _ _ _ _ _ _ _ _ _ _ _ _ _ _ _ _ _ _ _ _ _ _ => b.steps.length - (intOf v4).toNat)
 case atStart => exact ⟨0, Nat.zero_le _, rfl, rfl, hide (Below.refl _ _)⟩
 case round =>
  obtain ⟨k, hk', rfl, rfl, HBW⟩ := hrel
  obtain ⟨u0, rfl⟩ : ∃ u0 : World, u0 = wr := ⟨_, rfl⟩
  have hk0 : (0 : Int) ≤ (k : Int) := Int.natCast_nonneg _
  have HXL := hide (HX.out.next HBW.out)
  obtain ⟨gx, x0, x1⟩ := HXL.out.cells
  by_cases hlt : k < b.steps.length
  · skip
    have hkn : (k : Int) < (b.steps.length : Int) := by omega
    obtain ⟨g1, o1, hA1, hg1, s0, s1, s2⟩ := HXL.out.v.steps.steps hlt
    rw [hA1] at x0
    have hlo := HVD.out.loss k hlt
    have hnm := name_size' (HVD.out.name k hlt)
    have HFI := hide (show (nth b.steps k).from_ = -1 ∨ (0 ≤ (nth b.steps k).from_ ∧ (nth b.steps k).from_ < b.steps.length) from by
     rcases Nat.eq_zero_or_pos k with h0 | h0
     · subst h0; exact .inl HVD.out.first
     · have := HVD.out.from_ k h0 hlt; exact .inr ⟨this.1, by omega⟩)
    have hsz : (textS b k).length ≤ 408 := by have := textS_len HVD.out k (by omega); omega
    have HNX := hide (show ((((((((⟨(textS b k).toArray⟩ : ByteArray) ++ (⟨#[115, 116, 101, 112, 32]⟩ : ByteArray)) ++ (nth b.steps k).name) ++ (⟨#[32]⟩ : ByteArray)) ++ (fromB b (nth b.steps k).from_)) ++ (⟨#[32]⟩ : ByteArray)) ++ (decB (nth b.steps k).loss)) ++ (⟨#[10]⟩ : ByteArray)) = ⟨(textS b (k + 1)).toArray⟩ from by
     rw [str_line (textS b k) wStep _ _ _ _ rfl, textS_succ b hlt]; rfl)
    have hfs : (fromB b (nth b.steps k).from_).size ≤ 16 := by
     rw [fromB]; split
     · decide
     · exact name_size' (HVD.out.name _ (by have := HFI.out; omega))
    have hos := str_size (textS b k)
    generalize hO : (⟨(textS b k).toArray⟩ : ByteArray) = o at *
    rw [← hos] at hsz
    clear hos hO
    generalize hFR : fromB b (nth b.steps k).from_ = fr at *
    have HFR := hide hFR
    clear hFR
    generalize (nth b.steps k).name = nm at *
    generalize (nth b.steps k).from_ = fi at *
    generalize hLO : (nth b.steps k).loss = lo at *
    clear hLO
    obtain ⟨ln, rfl⟩ : ∃ ln : Nat, lo = (ln : Int) := ⟨lo.toNat, by omega⟩
    have HDE := hide (fun w => text1_any (n := ln) (by omega) w)
    have hds := dec_size' (n := ln) (by omega)
    generalize decB (ln : Int) = de at *
    generalize (ln : Int) = lo at *
    go_upto_region 6 with (fail)
    have hb : Below u0.heap.size u0 (u0.alloc (.cells #[.string nm, .int .i64 fi, .int .i64 lo] 68)) := (Below.refl _ _).alloc (Nat.le_refl _) _
    have hl : Blk (u0.alloc (.cells #[.string nm, .int .i64 fi, .int .i64 lo] 68)) u0.heap.size 68 #[.string nm, .int .i64 fi, .int .i64 lo] := Blk.made
    have HXL1 := hide (HXL.out.next hb)
    have HBW1 := hide (HBW.out.trans (hb.mono HBW.out.size))
    have HL := hide hl
    clear gx x0 x1 s0 s1 s2 hg1 hb hl HXL HBW
    generalize (u0.alloc (.cells #[.string nm, .int .i64 fi, .int .i64 lo] 68)) = u1 at *
    have zt := HL.out.lt
    generalize u0.heap.size = gl at *
    have t0 := HL.out.at_ 0
    have t1 := HL.out.at_ 1
    have t2 := HL.out.at_ 2
    simp only [List.getElem?_toArray, List.getElem?_cons_zero, List.getElem?_cons_succ] at t0 t1 t2
    have HXL := HXL1
    obtain ⟨gx, x0, x1⟩ := HXL.out.cells
    clear hA1
    refine wp_region_rel (dst := fun oi => [20, 21, 22, 23, 24, 25, 26, 27, 28, 29, 30, 31, 32, 33, 34, 35, 36, 0].getD oi 0) (mono := fun oi => decide (oi < 17)) (pre := fun oi => decide (oi < 17)) (R := LKeep (fun _ => False) (fun _ => True))
     (Pv := fun oi v W => match oi with
      | 0 => v = .string o
      | 1 => v = .string (o ++ (⟨#[115, 116, 101, 112, 32]⟩ : ByteArray))
      | 2 => v = .pointer (some ⟨gl, 0, none⟩)
      | 3 => v = .string nm
      | 4 => v = .string ((o ++ (⟨#[115, 116, 101, 112, 32]⟩ : ByteArray)) ++ nm)
      | 5 => v = .string (((o ++ (⟨#[115, 116, 101, 112, 32]⟩ : ByteArray)) ++ nm) ++ (⟨#[32]⟩ : ByteArray))
      | 6 => v = bookVal b a
      | 7 => v = .pointer (some ⟨gl, 1, none⟩)
      | 8 => v = .int .i64 fi
      | 9 => v = .string fr
      | 10 => v = .string ((((o ++ (⟨#[115, 116, 101, 112, 32]⟩ : ByteArray)) ++ nm) ++ (⟨#[32]⟩ : ByteArray)) ++ fr)
      | 11 => v = .string (((((o ++ (⟨#[115, 116, 101, 112, 32]⟩ : ByteArray)) ++ nm) ++ (⟨#[32]⟩ : ByteArray)) ++ fr) ++ (⟨#[32]⟩ : ByteArray))
      | 12 => v = .pointer (some ⟨gl, 2, none⟩)
      | 13 => v = .int .i64 lo
      | 14 => v = .string de
      | 15 => v = .string ((((((o ++ (⟨#[115, 116, 101, 112, 32]⟩ : ByteArray)) ++ nm) ++ (⟨#[32]⟩ : ByteArray)) ++ fr) ++ (⟨#[32]⟩ : ByteArray)) ++ de)
      | 16 => v = .string (((((((o ++ (⟨#[115, 116, 101, 112, 32]⟩ : ByteArray)) ++ nm) ++ (⟨#[32]⟩ : ByteArray)) ++ fr) ++ (⟨#[32]⟩ : ByteArray)) ++ de) ++ (⟨#[10]⟩ : ByteArray))
      | _ => True) (by kernel_rfl) (by kernel_rfl) (LKeep.refl _ _) (fun _ _ _ h h' => h.trans h') ?hsts ?hsteps ?hends
    case hsts =>
     intro oi v W W' h hk
     match oi, h with
     | 0, h => exact h
     | 1, h => exact h
     | 2, h => exact h
     | 3, h => exact h
     | 4, h => exact h
     | 5, h => exact h
     | 6, h => exact h
     | 7, h => exact h
     | 8, h => exact h
     | 9, h => exact h
     | 10, h => exact h
     | 11, h => exact h
     | 12, h => exact h
     | 13, h => exact h
     | 14, h => exact h
     | 15, h => exact h
     | 16, h => exact h
     | oi + 17, h => exact trivial
    case hsteps =>
     intro oi hoi hom listed vs ao W hU hk0 hpv haft Ko hK
     have hkk := (LKeep.drew (fun _ => False) (M := fun _ => True) u1 (fun h => h)).trans hk0
     have hk := hkk.1
     have hkm := hkk.2
     clear hkk
     match oi, hoi, hom with
     | 0, hoi, hom =>
      have z3 : ao.tmps[3]?.getD undef = .string o := hU.same 3 (by decide)
      refine wpOp_value (v := .string o) (W' := W) rfl rfl ?_ (hK _ _ (LKeep.refl _ _ _) rfl)
      go_simp
     | 1, hoi, hom =>
      have l0 := haft _ rfl ⟨0, .data⟩ (by simp) rfl
      have s0 : ao.tmps[20]?.getD undef = .string o := (hU.slot 0 (by decide) l0).trans (hpv 0 l0)
      refine wpOp_value (v := .string (o ++ (⟨#[115, 116, 101, 112, 32]⟩ : ByteArray))) (W' := W) rfl rfl ?_ (hK _ _ (LKeep.refl _ _ _) rfl)
      go_simp
      all_goals (first | omega | (intro h9; omega) | (simp; omega))
     | 2, hoi, hom =>
      have z5 : ao.tmps[5]?.getD undef = .pointer (some ⟨gl, 0, none⟩) := hU.same 5 (by decide)
      refine wpOp_value (v := .pointer (some ⟨gl, 0, none⟩)) (W' := W) rfl rfl ?_ (hK _ _ (LKeep.refl _ _ _) rfl)
      go_simp
     | 3, hoi, hom =>
      have l2 := haft _ rfl ⟨2, .data⟩ (by simp) rfl
      have s2 : ao.tmps[22]?.getD undef = .pointer (some ⟨gl, 0, none⟩) := (hU.slot 2 (by decide) l2).trans (hpv 2 l2)
      have y0 := (hk.cell (b := gl) (o := 0) (zt) (fun h => h)).trans (t0)
      refine wpOp_value (v := .string nm) (W' := W) rfl rfl ?_ (hK _ _ (LKeep.refl _ _ _) rfl)
      go_simp
     | 4, hoi, hom =>
      have l1 := haft _ rfl ⟨1, .data⟩ (by simp) rfl
      have s1 : ao.tmps[21]?.getD undef = .string (o ++ (⟨#[115, 116, 101, 112, 32]⟩ : ByteArray)) := (hU.slot 1 (by decide) l1).trans (hpv 1 l1)
      have l3 := haft _ rfl ⟨3, .data⟩ (by simp) rfl
      have s3 : ao.tmps[23]?.getD undef = .string nm := (hU.slot 3 (by decide) l3).trans (hpv 3 l3)
      refine wpOp_value (v := .string ((o ++ (⟨#[115, 116, 101, 112, 32]⟩ : ByteArray)) ++ nm)) (W' := W) rfl rfl ?_ (hK _ _ (LKeep.refl _ _ _) rfl)
      go_simp
      all_goals (first | omega | (intro h9; omega) | (simp; omega))
     | 5, hoi, hom =>
      have l4 := haft _ rfl ⟨4, .data⟩ (by simp) rfl
      have s4 : ao.tmps[24]?.getD undef = .string ((o ++ (⟨#[115, 116, 101, 112, 32]⟩ : ByteArray)) ++ nm) := (hU.slot 4 (by decide) l4).trans (hpv 4 l4)
      refine wpOp_value (v := .string (((o ++ (⟨#[115, 116, 101, 112, 32]⟩ : ByteArray)) ++ nm) ++ (⟨#[32]⟩ : ByteArray))) (W' := W) rfl rfl ?_ (hK _ _ (LKeep.refl _ _ _) rfl)
      go_simp
      all_goals (first | omega | (intro h9; omega) | (simp; omega))
     | 6, hoi, hom =>
      have z1 : ao.tmps[1]?.getD undef = .pointer (some ⟨w.heap.size, 0, none⟩) := hU.same 1 (by decide)
      have y0 := (hk.cell (b := w.heap.size) (o := 0) (gx) (fun h => h)).trans (x0)
      have y1 := (hk.cell (b := w.heap.size) (o := 1) (gx) (fun h => h)).trans (x1)
      refine wpOp_value (v := bookVal b a) (W' := W) rfl rfl ?_ (hK _ _ (LKeep.refl _ _ _) rfl)
      go_simp
     | 7, hoi, hom =>
      have z5 : ao.tmps[5]?.getD undef = .pointer (some ⟨gl, 0, none⟩) := hU.same 5 (by decide)
      refine wpOp_value (v := .pointer (some ⟨gl, 1, none⟩)) (W' := W) rfl rfl ?_ (hK _ _ (LKeep.refl _ _ _) rfl)
      go_simp
     | 8, hoi, hom =>
      have l7 := haft _ rfl ⟨7, .data⟩ (by simp) rfl
      have s7 : ao.tmps[27]?.getD undef = .pointer (some ⟨gl, 1, none⟩) := (hU.slot 7 (by decide) l7).trans (hpv 7 l7)
      have y0 := (hk.cell (b := gl) (o := 1) (zt) (fun h => h)).trans (t1)
      refine wpOp_value (v := .int .i64 fi) (W' := W) rfl rfl ?_ (hK _ _ (LKeep.refl _ _ _) rfl)
      go_simp
     | 9, hoi, hom =>
      have l6 := haft _ rfl ⟨6, .data⟩ (by simp) rfl
      have s6 : ao.tmps[26]?.getD undef = bookVal b a := (hU.slot 6 (by decide) l6).trans (hpv 6 l6)
      have l8 := haft _ rfl ⟨8, .data⟩ (by simp) rfl
      have s8 : ao.tmps[28]?.getD undef = .int .i64 fi := (hU.slot 8 (by decide) l8).trans (hpv 8 l8)
      have hc := name12_any (HXL.out.v.next (hk.below (B := u1.heap.size) (fun k h => h.elim) (Nat.le_refl _))) HFI.out
      rw [HFR.out] at hc
      refine wpOp_enter (f := 113) (args := #[bookVal b a, .int .i64 fi]) (W' := W) rfl rfl ?_ ((hc).mono (fun e w'' h => ?_))
      · go_simp
      · obtain ⟨he, hbw⟩ := h
        exact ⟨_, he, hK _ _ (LKeep.below hbw (fun h => h)) rfl⟩
     | 10, hoi, hom =>
      have l5 := haft _ rfl ⟨5, .data⟩ (by simp) rfl
      have s5 : ao.tmps[25]?.getD undef = .string (((o ++ (⟨#[115, 116, 101, 112, 32]⟩ : ByteArray)) ++ nm) ++ (⟨#[32]⟩ : ByteArray)) := (hU.slot 5 (by decide) l5).trans (hpv 5 l5)
      have l9 := haft _ rfl ⟨9, .data⟩ (by simp) rfl
      have s9 : ao.tmps[29]?.getD undef = .string fr := (hU.slot 9 (by decide) l9).trans (hpv 9 l9)
      refine wpOp_value (v := .string ((((o ++ (⟨#[115, 116, 101, 112, 32]⟩ : ByteArray)) ++ nm) ++ (⟨#[32]⟩ : ByteArray)) ++ fr)) (W' := W) rfl rfl ?_ (hK _ _ (LKeep.refl _ _ _) rfl)
      go_simp
      all_goals (first | omega | (intro h9; omega) | (simp; omega))
     | 11, hoi, hom =>
      have l10 := haft _ rfl ⟨10, .data⟩ (by simp) rfl
      have s10 : ao.tmps[30]?.getD undef = .string ((((o ++ (⟨#[115, 116, 101, 112, 32]⟩ : ByteArray)) ++ nm) ++ (⟨#[32]⟩ : ByteArray)) ++ fr) := (hU.slot 10 (by decide) l10).trans (hpv 10 l10)
      refine wpOp_value (v := .string (((((o ++ (⟨#[115, 116, 101, 112, 32]⟩ : ByteArray)) ++ nm) ++ (⟨#[32]⟩ : ByteArray)) ++ fr) ++ (⟨#[32]⟩ : ByteArray))) (W' := W) rfl rfl ?_ (hK _ _ (LKeep.refl _ _ _) rfl)
      go_simp
      all_goals (first | omega | (intro h9; omega) | (simp; omega))
     | 12, hoi, hom =>
      have z5 : ao.tmps[5]?.getD undef = .pointer (some ⟨gl, 0, none⟩) := hU.same 5 (by decide)
      refine wpOp_value (v := .pointer (some ⟨gl, 2, none⟩)) (W' := W) rfl rfl ?_ (hK _ _ (LKeep.refl _ _ _) rfl)
      go_simp
     | 13, hoi, hom =>
      have l12 := haft _ rfl ⟨12, .data⟩ (by simp) rfl
      have s12 : ao.tmps[32]?.getD undef = .pointer (some ⟨gl, 2, none⟩) := (hU.slot 12 (by decide) l12).trans (hpv 12 l12)
      have y0 := (hk.cell (b := gl) (o := 2) (zt) (fun h => h)).trans (t2)
      refine wpOp_value (v := .int .i64 lo) (W' := W) rfl rfl ?_ (hK _ _ (LKeep.refl _ _ _) rfl)
      go_simp
     | 14, hoi, hom =>
      have l13 := haft _ rfl ⟨13, .data⟩ (by simp) rfl
      have s13 : ao.tmps[33]?.getD undef = .int .i64 lo := (hU.slot 13 (by decide) l13).trans (hpv 13 l13)
      have hc := HDE.out W
      refine wpOp_enter (f := 114) (args := #[.int .i64 lo]) (W' := W) rfl rfl ?_ ((hc).mono (fun e w'' h => ?_))
      · go_simp
      · obtain ⟨he, rfl⟩ := h
        exact ⟨_, he, hK _ _ ((LKeep.refl _ _ _)) rfl⟩
     | 15, hoi, hom =>
      have l11 := haft _ rfl ⟨11, .data⟩ (by simp) rfl
      have s11 : ao.tmps[31]?.getD undef = .string (((((o ++ (⟨#[115, 116, 101, 112, 32]⟩ : ByteArray)) ++ nm) ++ (⟨#[32]⟩ : ByteArray)) ++ fr) ++ (⟨#[32]⟩ : ByteArray)) := (hU.slot 11 (by decide) l11).trans (hpv 11 l11)
      have l14 := haft _ rfl ⟨14, .data⟩ (by simp) rfl
      have s14 : ao.tmps[34]?.getD undef = .string de := (hU.slot 14 (by decide) l14).trans (hpv 14 l14)
      refine wpOp_value (v := .string ((((((o ++ (⟨#[115, 116, 101, 112, 32]⟩ : ByteArray)) ++ nm) ++ (⟨#[32]⟩ : ByteArray)) ++ fr) ++ (⟨#[32]⟩ : ByteArray)) ++ de)) (W' := W) rfl rfl ?_ (hK _ _ (LKeep.refl _ _ _) rfl)
      go_simp
      all_goals (first | omega | (intro h9; omega) | (simp; omega))
     | 16, hoi, hom =>
      have l15 := haft _ rfl ⟨15, .data⟩ (by simp) rfl
      have s15 : ao.tmps[35]?.getD undef = .string ((((((o ++ (⟨#[115, 116, 101, 112, 32]⟩ : ByteArray)) ++ nm) ++ (⟨#[32]⟩ : ByteArray)) ++ fr) ++ (⟨#[32]⟩ : ByteArray)) ++ de) := (hU.slot 15 (by decide) l15).trans (hpv 15 l15)
      refine wpOp_value (v := .string (((((((o ++ (⟨#[115, 116, 101, 112, 32]⟩ : ByteArray)) ++ nm) ++ (⟨#[32]⟩ : ByteArray)) ++ fr) ++ (⟨#[32]⟩ : ByteArray)) ++ de) ++ (⟨#[10]⟩ : ByteArray))) (W' := W) rfl rfl ?_ (hK _ _ (LKeep.refl _ _ _) rfl)
      go_simp
      all_goals (first | omega | (intro h9; omega) | (simp; omega))
     | oi + 17, hoi, hom => exact absurd (of_decide_eq_true hom) (by omega)
    case hends =>
     intro listed vs ao W hG hk0 hpv hpre
     have hkk := (LKeep.drew (fun _ => False) (M := fun _ => True) u1 (fun h => h)).trans hk0
     have hk := hkk.1
     have hkm := hkk.2
     clear hkk
     have hact := hG.act
     have hT := hG.lst hpre 0 #[true, true, true, true, true, true, true, true, true, true, true, true, true, true, true, true, true, false] rfl (by kernel_rfl) (hpre 0 (by decide) (by decide))
     rw [hG.ix hT (l := [0, 1, 2, 3, 4, 5, 6, 7, 8, 9, 10, 11, 12, 13, 14, 15, 16]) (by kernel_rfl)] at hact
     rw [hG.lo hT (k := 1) (by kernel_rfl)]
     have hv0 : vs 0 = .string o := hpv 0 (hpre 0 (by decide) (by decide))
     have hv1 : vs 1 = .string (o ++ (⟨#[115, 116, 101, 112, 32]⟩ : ByteArray)) := hpv 1 (hpre 1 (by decide) (by decide))
     have hv2 : vs 2 = .pointer (some ⟨gl, 0, none⟩) := hpv 2 (hpre 2 (by decide) (by decide))
     have hv3 : vs 3 = .string nm := hpv 3 (hpre 3 (by decide) (by decide))
     have hv4 : vs 4 = .string ((o ++ (⟨#[115, 116, 101, 112, 32]⟩ : ByteArray)) ++ nm) := hpv 4 (hpre 4 (by decide) (by decide))
     have hv5 : vs 5 = .string (((o ++ (⟨#[115, 116, 101, 112, 32]⟩ : ByteArray)) ++ nm) ++ (⟨#[32]⟩ : ByteArray)) := hpv 5 (hpre 5 (by decide) (by decide))
     have hv6 : vs 6 = bookVal b a := hpv 6 (hpre 6 (by decide) (by decide))
     have hv7 : vs 7 = .pointer (some ⟨gl, 1, none⟩) := hpv 7 (hpre 7 (by decide) (by decide))
     have hv8 : vs 8 = .int .i64 fi := hpv 8 (hpre 8 (by decide) (by decide))
     have hv9 : vs 9 = .string fr := hpv 9 (hpre 9 (by decide) (by decide))
     have hv10 : vs 10 = .string ((((o ++ (⟨#[115, 116, 101, 112, 32]⟩ : ByteArray)) ++ nm) ++ (⟨#[32]⟩ : ByteArray)) ++ fr) := hpv 10 (hpre 10 (by decide) (by decide))
     have hv11 : vs 11 = .string (((((o ++ (⟨#[115, 116, 101, 112, 32]⟩ : ByteArray)) ++ nm) ++ (⟨#[32]⟩ : ByteArray)) ++ fr) ++ (⟨#[32]⟩ : ByteArray)) := hpv 11 (hpre 11 (by decide) (by decide))
     have hv12 : vs 12 = .pointer (some ⟨gl, 2, none⟩) := hpv 12 (hpre 12 (by decide) (by decide))
     have hv13 : vs 13 = .int .i64 lo := hpv 13 (hpre 13 (by decide) (by decide))
     have hv14 : vs 14 = .string de := hpv 14 (hpre 14 (by decide) (by decide))
     have hv15 : vs 15 = .string ((((((o ++ (⟨#[115, 116, 101, 112, 32]⟩ : ByteArray)) ++ nm) ++ (⟨#[32]⟩ : ByteArray)) ++ fr) ++ (⟨#[32]⟩ : ByteArray)) ++ de) := hpv 15 (hpre 15 (by decide) (by decide))
     have hv16 : vs 16 = .string (((((((o ++ (⟨#[115, 116, 101, 112, 32]⟩ : ByteArray)) ++ nm) ++ (⟨#[32]⟩ : ByteArray)) ++ fr) ++ (⟨#[32]⟩ : ByteArray)) ++ de) ++ (⟨#[10]⟩ : ByteArray)) := hpv 16 (hpre 16 (by decide) (by decide))
     clear hpv hpre hG hk0
     obtain rfl : ao = _ := hact
     subst hT
     simp only [setAll, List.setIfInBounds_toArray, List.set_cons_succ, List.set_cons_zero, List.getD_cons_succ, List.getD_cons_zero]
     simp only [hv0, hv1, hv2, hv3, hv4, hv5, hv6, hv7, hv8, hv9, hv10, hv11, hv12, hv13, hv14, hv15, hv16]
     clear hv0 hv1 hv2 hv3 hv4 hv5 hv6 hv7 hv8 hv9 hv10 hv11 hv12 hv13 hv14 hv15 hv16
     refine wpAny_all (rs := [17]) (by kernel_rfl) (by simp) ?_
     intro i2 hi2
     obtain rfl : i2 = 17 := by simpa using hi2
     refine wpOp_value (v := .string (((((((o ++ (⟨#[115, 116, 101, 112, 32]⟩ : ByteArray)) ++ nm) ++ (⟨#[32]⟩ : ByteArray)) ++ fr) ++ (⟨#[32]⟩ : ByteArray)) ++ de) ++ (⟨#[10]⟩ : ByteArray))) (W' := W) rfl rfl ?_ ?_
     · go_simp
     refine wpAny_done (by kernel_rfl) ?_ _
     have hb9 := (hk.below (B := u1.heap.size) (fun k h => h.elim) (Nat.le_refl _))
     have HBZ := hide (HBW1.out.trans (hb9.mono HBW1.out.size))
     clear hk hkm
     go_wp2_with fail
     go_roundw
     case rel => exact ⟨k + 1, by omega, by go_num, by rw [HNX.out], HBZ⟩
     case measure => simp [intOf]; omega
  · obtain rfl : k = b.steps.length := by omega
    have HS0 := hide (show textS b b.steps.length ++ textT b 0 = textS b b.steps.length from List.append_nil _)
    have HBV := HBW
    rw [← HS0.out]
    go_wp2_with fail
    clear gx x0 x1
    go_loopw [3, 6, 7, 37, 38, 39, 40, 41, 42, 43, 44, 45, 46, 47, 48, 49, 50, 51, 52, 53, 54, 55, 56, 57, 58, 59, 60, 61, 62, 63, 64, 65, 66] (fun v3 v6 _ _ _ _ _ _ _ _ _ _ _ _ _ _ _ _ _ _ _ _ _ _ _ _ _ _ _ _ _ _ _ wr => ∃ k : Nat, k ≤ b.tallies.length ∧ v6 = .int .i64 (k : Nat) ∧ v3 = .string ⟨(textS b b.steps.length ++ textT b k).toArray⟩ ∧ Hid (Below v0.heap.size v0 wr)) (fun v3 v6 _ _ _ _ _ _ _ _ _ _ _ _ _ _ _ _ _ _ _ _ _ _ _ _ _ _ _ _ _ _ _ _ => b.tallies.length - (intOf v6).toNat)
    case atStart => exact ⟨0, Nat.zero_le _, rfl, rfl, HBV⟩
    case round =>
     clear HBW HXL HBV
     obtain ⟨k, hk', rfl, rfl, HBW⟩ := hrel
     obtain ⟨u0, rfl⟩ : ∃ u0 : World, u0 = wr := ⟨_, rfl⟩
     have hk0 : (0 : Int) ≤ (k : Int) := Int.natCast_nonneg _
     have HXL := hide (HX.out.next HBW.out)
     obtain ⟨gx, x0, x1⟩ := HXL.out.cells
     by_cases hlt : k < b.tallies.length
     · skip
       have hkn : (k : Int) < (b.tallies.length : Int) := by omega
       obtain ⟨g1, o1, hA1, hg1, s0, s1, s2⟩ := HXL.out.v.tallies.tallies hlt
       rw [hA1] at x1
       obtain ⟨⟨hs1, hs2⟩, ⟨hh1, hh2⟩, ho1, ho2⟩ := HVD.out.tally k hlt
       have HFI := hide (show (nth b.tallies k).step = -1 ∨ (0 ≤ (nth b.tallies k).step ∧ (nth b.tallies k).step < b.steps.length) from .inr ⟨hs1, hs2⟩)
       have hsz : (textS b b.steps.length ++ textT b k).length ≤ 816 := by have := textS_len HVD.out _ (Nat.le_refl _); have := textT_len HVD.out k (by omega); rw [List.length_append]; omega
       have hfn : fromB b (nth b.tallies k).step = nameAt b (nth b.tallies k).step := if_neg (by omega)
       have HNX := hide (show ((((((((⟨(textS b b.steps.length ++ textT b k).toArray⟩ : ByteArray) ++ (⟨#[116, 97, 108, 108, 121, 32]⟩ : ByteArray)) ++ (fromB b (nth b.tallies k).step)) ++ (⟨#[32]⟩ : ByteArray)) ++ (decB (nth b.tallies k).hands)) ++ (⟨#[32]⟩ : ByteArray)) ++ (decB (nth b.tallies k).off)) ++ (⟨#[10]⟩ : ByteArray)) = ⟨(textS b b.steps.length ++ textT b (k + 1)).toArray⟩ from by
        rw [str_line (textS b b.steps.length ++ textT b k) wTally _ _ _ _ rfl, textT_succ b hlt, hfn, List.append_assoc]; rfl)
       clear hfn
       have hfs : (fromB b (nth b.tallies k).step).size ≤ 16 := by
        rw [fromB]; split
        · decide
        · exact name_size' (HVD.out.name _ (by have := HFI.out; omega))
       have hos := str_size (textS b b.steps.length ++ textT b k)
       generalize hO : (⟨(textS b b.steps.length ++ textT b k).toArray⟩ : ByteArray) = o at *
       rw [← hos] at hsz
       clear hos hO
       generalize hFR : fromB b (nth b.tallies k).step = fr at *
       have HFR := hide hFR
       clear hFR
       generalize (nth b.tallies k).step = fi at *
       generalize (nth b.tallies k).hands = hd at *
       generalize (nth b.tallies k).off = of at *
       obtain ⟨hn, rfl⟩ : ∃ hn : Nat, hd = (hn : Int) := ⟨hd.toNat, by omega⟩
       obtain ⟨fn, rfl⟩ : ∃ fn : Nat, of = (fn : Int) := ⟨of.toNat, by omega⟩
       have HDE := hide (fun w => text1_any (n := hn) (by omega) w)
       have hds := dec_size' (n := hn) (by omega)
       have HDF := hide (fun w => text1_any (n := fn) (by omega) w)
       have hdt := dec_size' (n := fn) (by omega)
       generalize decB (hn : Int) = de at *
       generalize decB (fn : Int) = df at *
       generalize (hn : Int) = hd at *
       generalize (fn : Int) = of at *
       go_upto_region 11 with (fail)
       have hb : Below u0.heap.size u0 (u0.alloc (.cells #[.int .i64 fi, .int .i64 hd, .int .i64 of] 50)) := (Below.refl _ _).alloc (Nat.le_refl _) _
       have hl : Blk (u0.alloc (.cells #[.int .i64 fi, .int .i64 hd, .int .i64 of] 50)) u0.heap.size 50 #[.int .i64 fi, .int .i64 hd, .int .i64 of] := Blk.made
       have HXL1 := hide (HXL.out.next hb)
       have HBW1 := hide (HBW.out.trans (hb.mono HBW.out.size))
       have HL := hide hl
       clear gx x0 x1 s0 s1 s2 hg1 hb hl HXL HBW
       generalize (u0.alloc (.cells #[.int .i64 fi, .int .i64 hd, .int .i64 of] 50)) = u1 at *
       have zt := HL.out.lt
       generalize u0.heap.size = gl at *
       have t0 := HL.out.at_ 0
       have t1 := HL.out.at_ 1
       have t2 := HL.out.at_ 2
       simp only [List.getElem?_toArray, List.getElem?_cons_zero, List.getElem?_cons_succ] at t0 t1 t2
       have HXL := HXL1
       obtain ⟨gx, x0, x1⟩ := HXL.out.cells
       clear hA1
       refine wp_region_rel (dst := fun oi => [49, 50, 51, 52, 53, 54, 55, 56, 57, 58, 59, 60, 61, 62, 63, 64, 65, 66, 0].getD oi 0) (mono := fun oi => decide (oi < 18)) (pre := fun oi => decide (oi < 18)) (R := LKeep (fun _ => False) (fun _ => True))
        (Pv := fun oi v W => match oi with
         | 0 => v = .string o
         | 1 => v = .string (o ++ (⟨#[116, 97, 108, 108, 121, 32]⟩ : ByteArray))
         | 2 => v = bookVal b a
         | 3 => v = .pointer (some ⟨gl, 0, none⟩)
         | 4 => v = .int .i64 fi
         | 5 => v = .string fr
         | 6 => v = .string ((o ++ (⟨#[116, 97, 108, 108, 121, 32]⟩ : ByteArray)) ++ fr)
         | 7 => v = .string (((o ++ (⟨#[116, 97, 108, 108, 121, 32]⟩ : ByteArray)) ++ fr) ++ (⟨#[32]⟩ : ByteArray))
         | 8 => v = .pointer (some ⟨gl, 1, none⟩)
         | 9 => v = .int .i64 hd
         | 10 => v = .string de
         | 11 => v = .string ((((o ++ (⟨#[116, 97, 108, 108, 121, 32]⟩ : ByteArray)) ++ fr) ++ (⟨#[32]⟩ : ByteArray)) ++ de)
         | 12 => v = .string (((((o ++ (⟨#[116, 97, 108, 108, 121, 32]⟩ : ByteArray)) ++ fr) ++ (⟨#[32]⟩ : ByteArray)) ++ de) ++ (⟨#[32]⟩ : ByteArray))
         | 13 => v = .pointer (some ⟨gl, 2, none⟩)
         | 14 => v = .int .i64 of
         | 15 => v = .string df
         | 16 => v = .string ((((((o ++ (⟨#[116, 97, 108, 108, 121, 32]⟩ : ByteArray)) ++ fr) ++ (⟨#[32]⟩ : ByteArray)) ++ de) ++ (⟨#[32]⟩ : ByteArray)) ++ df)
         | 17 => v = .string (((((((o ++ (⟨#[116, 97, 108, 108, 121, 32]⟩ : ByteArray)) ++ fr) ++ (⟨#[32]⟩ : ByteArray)) ++ de) ++ (⟨#[32]⟩ : ByteArray)) ++ df) ++ (⟨#[10]⟩ : ByteArray))
         | _ => True) (by kernel_rfl) (by kernel_rfl) (LKeep.refl _ _) (fun _ _ _ h h' => h.trans h') ?hstt ?hstept ?hendt
       case hstt =>
        intro oi v W W' h hk
        match oi, h with
        | 0, h => exact h
        | 1, h => exact h
        | 2, h => exact h
        | 3, h => exact h
        | 4, h => exact h
        | 5, h => exact h
        | 6, h => exact h
        | 7, h => exact h
        | 8, h => exact h
        | 9, h => exact h
        | 10, h => exact h
        | 11, h => exact h
        | 12, h => exact h
        | 13, h => exact h
        | 14, h => exact h
        | 15, h => exact h
        | 16, h => exact h
        | 17, h => exact h
        | oi + 18, h => exact trivial
       case hstept =>
        intro oi hoi hom listed vs ao W hU hk0 hpv haft Ko hK
        have hkk := (LKeep.drew (fun _ => False) (M := fun _ => True) u1 (fun h => h)).trans hk0
        have hk := hkk.1
        have hkm := hkk.2
        clear hkk
        match oi, hoi, hom with
        | 0, hoi, hom =>
         have z3 : ao.tmps[3]?.getD undef = .string o := hU.same 3 (by decide)
         refine wpOp_value (v := .string o) (W' := W) rfl rfl ?_ (hK _ _ (LKeep.refl _ _ _) rfl)
         go_simp
        | 1, hoi, hom =>
         have l0 := haft _ rfl ⟨0, .data⟩ (by simp) rfl
         have s0 : ao.tmps[49]?.getD undef = .string o := (hU.slot 0 (by decide) l0).trans (hpv 0 l0)
         refine wpOp_value (v := .string (o ++ (⟨#[116, 97, 108, 108, 121, 32]⟩ : ByteArray))) (W' := W) rfl rfl ?_ (hK _ _ (LKeep.refl _ _ _) rfl)
         go_simp
         all_goals (first | omega | (intro h9; omega) | (simp; omega))
        | 2, hoi, hom =>
         have z1 : ao.tmps[1]?.getD undef = .pointer (some ⟨w.heap.size, 0, none⟩) := hU.same 1 (by decide)
         have y0 := (hk.cell (b := w.heap.size) (o := 0) (gx) (fun h => h)).trans (x0)
         have y1 := (hk.cell (b := w.heap.size) (o := 1) (gx) (fun h => h)).trans (x1)
         refine wpOp_value (v := bookVal b a) (W' := W) rfl rfl ?_ (hK _ _ (LKeep.refl _ _ _) rfl)
         go_simp
        | 3, hoi, hom =>
         have z7 : ao.tmps[7]?.getD undef = .pointer (some ⟨gl, 0, none⟩) := hU.same 7 (by decide)
         refine wpOp_value (v := .pointer (some ⟨gl, 0, none⟩)) (W' := W) rfl rfl ?_ (hK _ _ (LKeep.refl _ _ _) rfl)
         go_simp
        | 4, hoi, hom =>
         have l3 := haft _ rfl ⟨3, .data⟩ (by simp) rfl
         have s3 : ao.tmps[52]?.getD undef = .pointer (some ⟨gl, 0, none⟩) := (hU.slot 3 (by decide) l3).trans (hpv 3 l3)
         have y0 := (hk.cell (b := gl) (o := 0) (zt) (fun h => h)).trans (t0)
         refine wpOp_value (v := .int .i64 fi) (W' := W) rfl rfl ?_ (hK _ _ (LKeep.refl _ _ _) rfl)
         go_simp
        | 5, hoi, hom =>
         have l2 := haft _ rfl ⟨2, .data⟩ (by simp) rfl
         have s2 : ao.tmps[51]?.getD undef = bookVal b a := (hU.slot 2 (by decide) l2).trans (hpv 2 l2)
         have l4 := haft _ rfl ⟨4, .data⟩ (by simp) rfl
         have s4 : ao.tmps[53]?.getD undef = .int .i64 fi := (hU.slot 4 (by decide) l4).trans (hpv 4 l4)
         have hc := name12_any (HXL.out.v.next (hk.below (B := u1.heap.size) (fun k h => h.elim) (Nat.le_refl _))) HFI.out
         rw [HFR.out] at hc
         refine wpOp_enter (f := 113) (args := #[bookVal b a, .int .i64 fi]) (W' := W) rfl rfl ?_ ((hc).mono (fun e w'' h => ?_))
         · go_simp
         · obtain ⟨he, hbw⟩ := h
           exact ⟨_, he, hK _ _ (LKeep.below hbw (fun h => h)) rfl⟩
        | 6, hoi, hom =>
         have l1 := haft _ rfl ⟨1, .data⟩ (by simp) rfl
         have s1 : ao.tmps[50]?.getD undef = .string (o ++ (⟨#[116, 97, 108, 108, 121, 32]⟩ : ByteArray)) := (hU.slot 1 (by decide) l1).trans (hpv 1 l1)
         have l5 := haft _ rfl ⟨5, .data⟩ (by simp) rfl
         have s5 : ao.tmps[54]?.getD undef = .string fr := (hU.slot 5 (by decide) l5).trans (hpv 5 l5)
         refine wpOp_value (v := .string ((o ++ (⟨#[116, 97, 108, 108, 121, 32]⟩ : ByteArray)) ++ fr)) (W' := W) rfl rfl ?_ (hK _ _ (LKeep.refl _ _ _) rfl)
         go_simp
         all_goals (first | omega | (intro h9; omega) | (simp; omega))
        | 7, hoi, hom =>
         have l6 := haft _ rfl ⟨6, .data⟩ (by simp) rfl
         have s6 : ao.tmps[55]?.getD undef = .string ((o ++ (⟨#[116, 97, 108, 108, 121, 32]⟩ : ByteArray)) ++ fr) := (hU.slot 6 (by decide) l6).trans (hpv 6 l6)
         refine wpOp_value (v := .string (((o ++ (⟨#[116, 97, 108, 108, 121, 32]⟩ : ByteArray)) ++ fr) ++ (⟨#[32]⟩ : ByteArray))) (W' := W) rfl rfl ?_ (hK _ _ (LKeep.refl _ _ _) rfl)
         go_simp
         all_goals (first | omega | (intro h9; omega) | (simp; omega))
        | 8, hoi, hom =>
         have z7 : ao.tmps[7]?.getD undef = .pointer (some ⟨gl, 0, none⟩) := hU.same 7 (by decide)
         refine wpOp_value (v := .pointer (some ⟨gl, 1, none⟩)) (W' := W) rfl rfl ?_ (hK _ _ (LKeep.refl _ _ _) rfl)
         go_simp
        | 9, hoi, hom =>
         have l8 := haft _ rfl ⟨8, .data⟩ (by simp) rfl
         have s8 : ao.tmps[57]?.getD undef = .pointer (some ⟨gl, 1, none⟩) := (hU.slot 8 (by decide) l8).trans (hpv 8 l8)
         have y0 := (hk.cell (b := gl) (o := 1) (zt) (fun h => h)).trans (t1)
         refine wpOp_value (v := .int .i64 hd) (W' := W) rfl rfl ?_ (hK _ _ (LKeep.refl _ _ _) rfl)
         go_simp
        | 10, hoi, hom =>
         have l9 := haft _ rfl ⟨9, .data⟩ (by simp) rfl
         have s9 : ao.tmps[58]?.getD undef = .int .i64 hd := (hU.slot 9 (by decide) l9).trans (hpv 9 l9)
         have hc := HDE.out W
         refine wpOp_enter (f := 114) (args := #[.int .i64 hd]) (W' := W) rfl rfl ?_ ((hc).mono (fun e w'' h => ?_))
         · go_simp
         · obtain ⟨he, rfl⟩ := h
           exact ⟨_, he, hK _ _ ((LKeep.refl _ _ _)) rfl⟩
        | 11, hoi, hom =>
         have l7 := haft _ rfl ⟨7, .data⟩ (by simp) rfl
         have s7 : ao.tmps[56]?.getD undef = .string (((o ++ (⟨#[116, 97, 108, 108, 121, 32]⟩ : ByteArray)) ++ fr) ++ (⟨#[32]⟩ : ByteArray)) := (hU.slot 7 (by decide) l7).trans (hpv 7 l7)
         have l10 := haft _ rfl ⟨10, .data⟩ (by simp) rfl
         have s10 : ao.tmps[59]?.getD undef = .string de := (hU.slot 10 (by decide) l10).trans (hpv 10 l10)
         refine wpOp_value (v := .string ((((o ++ (⟨#[116, 97, 108, 108, 121, 32]⟩ : ByteArray)) ++ fr) ++ (⟨#[32]⟩ : ByteArray)) ++ de)) (W' := W) rfl rfl ?_ (hK _ _ (LKeep.refl _ _ _) rfl)
         go_simp
         all_goals (first | omega | (intro h9; omega) | (simp; omega))
        | 12, hoi, hom =>
         have l11 := haft _ rfl ⟨11, .data⟩ (by simp) rfl
         have s11 : ao.tmps[60]?.getD undef = .string ((((o ++ (⟨#[116, 97, 108, 108, 121, 32]⟩ : ByteArray)) ++ fr) ++ (⟨#[32]⟩ : ByteArray)) ++ de) := (hU.slot 11 (by decide) l11).trans (hpv 11 l11)
         refine wpOp_value (v := .string (((((o ++ (⟨#[116, 97, 108, 108, 121, 32]⟩ : ByteArray)) ++ fr) ++ (⟨#[32]⟩ : ByteArray)) ++ de) ++ (⟨#[32]⟩ : ByteArray))) (W' := W) rfl rfl ?_ (hK _ _ (LKeep.refl _ _ _) rfl)
         go_simp
         all_goals (first | omega | (intro h9; omega) | (simp; omega))
        | 13, hoi, hom =>
         have z7 : ao.tmps[7]?.getD undef = .pointer (some ⟨gl, 0, none⟩) := hU.same 7 (by decide)
         refine wpOp_value (v := .pointer (some ⟨gl, 2, none⟩)) (W' := W) rfl rfl ?_ (hK _ _ (LKeep.refl _ _ _) rfl)
         go_simp
        | 14, hoi, hom =>
         have l13 := haft _ rfl ⟨13, .data⟩ (by simp) rfl
         have s13 : ao.tmps[62]?.getD undef = .pointer (some ⟨gl, 2, none⟩) := (hU.slot 13 (by decide) l13).trans (hpv 13 l13)
         have y0 := (hk.cell (b := gl) (o := 2) (zt) (fun h => h)).trans (t2)
         refine wpOp_value (v := .int .i64 of) (W' := W) rfl rfl ?_ (hK _ _ (LKeep.refl _ _ _) rfl)
         go_simp
        | 15, hoi, hom =>
         have l14 := haft _ rfl ⟨14, .data⟩ (by simp) rfl
         have s14 : ao.tmps[63]?.getD undef = .int .i64 of := (hU.slot 14 (by decide) l14).trans (hpv 14 l14)
         have hc := HDF.out W
         refine wpOp_enter (f := 114) (args := #[.int .i64 of]) (W' := W) rfl rfl ?_ ((hc).mono (fun e w'' h => ?_))
         · go_simp
         · obtain ⟨he, rfl⟩ := h
           exact ⟨_, he, hK _ _ ((LKeep.refl _ _ _)) rfl⟩
        | 16, hoi, hom =>
         have l12 := haft _ rfl ⟨12, .data⟩ (by simp) rfl
         have s12 : ao.tmps[61]?.getD undef = .string (((((o ++ (⟨#[116, 97, 108, 108, 121, 32]⟩ : ByteArray)) ++ fr) ++ (⟨#[32]⟩ : ByteArray)) ++ de) ++ (⟨#[32]⟩ : ByteArray)) := (hU.slot 12 (by decide) l12).trans (hpv 12 l12)
         have l15 := haft _ rfl ⟨15, .data⟩ (by simp) rfl
         have s15 : ao.tmps[64]?.getD undef = .string df := (hU.slot 15 (by decide) l15).trans (hpv 15 l15)
         refine wpOp_value (v := .string ((((((o ++ (⟨#[116, 97, 108, 108, 121, 32]⟩ : ByteArray)) ++ fr) ++ (⟨#[32]⟩ : ByteArray)) ++ de) ++ (⟨#[32]⟩ : ByteArray)) ++ df)) (W' := W) rfl rfl ?_ (hK _ _ (LKeep.refl _ _ _) rfl)
         go_simp
         all_goals (first | omega | (intro h9; omega) | (simp; omega))
        | 17, hoi, hom =>
         have l16 := haft _ rfl ⟨16, .data⟩ (by simp) rfl
         have s16 : ao.tmps[65]?.getD undef = .string ((((((o ++ (⟨#[116, 97, 108, 108, 121, 32]⟩ : ByteArray)) ++ fr) ++ (⟨#[32]⟩ : ByteArray)) ++ de) ++ (⟨#[32]⟩ : ByteArray)) ++ df) := (hU.slot 16 (by decide) l16).trans (hpv 16 l16)
         refine wpOp_value (v := .string (((((((o ++ (⟨#[116, 97, 108, 108, 121, 32]⟩ : ByteArray)) ++ fr) ++ (⟨#[32]⟩ : ByteArray)) ++ de) ++ (⟨#[32]⟩ : ByteArray)) ++ df) ++ (⟨#[10]⟩ : ByteArray))) (W' := W) rfl rfl ?_ (hK _ _ (LKeep.refl _ _ _) rfl)
         go_simp
         all_goals (first | omega | (intro h9; omega) | (simp; omega))
        | oi + 18, hoi, hom => exact absurd (of_decide_eq_true hom) (by omega)
       case hendt =>
        intro listed vs ao W hG hk0 hpv hpre
        have hkk := (LKeep.drew (fun _ => False) (M := fun _ => True) u1 (fun h => h)).trans hk0
        have hk := hkk.1
        have hkm := hkk.2
        clear hkk
        have hact := hG.act
        have hT := hG.lst hpre 0 #[true, true, true, true, true, true, true, true, true, true, true, true, true, true, true, true, true, true, false] rfl (by kernel_rfl) (hpre 0 (by decide) (by decide))
        rw [hG.ix hT (l := [0, 1, 2, 3, 4, 5, 6, 7, 8, 9, 10, 11, 12, 13, 14, 15, 16, 17]) (by kernel_rfl)] at hact
        rw [hG.lo hT (k := 1) (by kernel_rfl)]
        have hv0 : vs 0 = .string o := hpv 0 (hpre 0 (by decide) (by decide))
        have hv1 : vs 1 = .string (o ++ (⟨#[116, 97, 108, 108, 121, 32]⟩ : ByteArray)) := hpv 1 (hpre 1 (by decide) (by decide))
        have hv2 : vs 2 = bookVal b a := hpv 2 (hpre 2 (by decide) (by decide))
        have hv3 : vs 3 = .pointer (some ⟨gl, 0, none⟩) := hpv 3 (hpre 3 (by decide) (by decide))
        have hv4 : vs 4 = .int .i64 fi := hpv 4 (hpre 4 (by decide) (by decide))
        have hv5 : vs 5 = .string fr := hpv 5 (hpre 5 (by decide) (by decide))
        have hv6 : vs 6 = .string ((o ++ (⟨#[116, 97, 108, 108, 121, 32]⟩ : ByteArray)) ++ fr) := hpv 6 (hpre 6 (by decide) (by decide))
        have hv7 : vs 7 = .string (((o ++ (⟨#[116, 97, 108, 108, 121, 32]⟩ : ByteArray)) ++ fr) ++ (⟨#[32]⟩ : ByteArray)) := hpv 7 (hpre 7 (by decide) (by decide))
        have hv8 : vs 8 = .pointer (some ⟨gl, 1, none⟩) := hpv 8 (hpre 8 (by decide) (by decide))
        have hv9 : vs 9 = .int .i64 hd := hpv 9 (hpre 9 (by decide) (by decide))
        have hv10 : vs 10 = .string de := hpv 10 (hpre 10 (by decide) (by decide))
        have hv11 : vs 11 = .string ((((o ++ (⟨#[116, 97, 108, 108, 121, 32]⟩ : ByteArray)) ++ fr) ++ (⟨#[32]⟩ : ByteArray)) ++ de) := hpv 11 (hpre 11 (by decide) (by decide))
        have hv12 : vs 12 = .string (((((o ++ (⟨#[116, 97, 108, 108, 121, 32]⟩ : ByteArray)) ++ fr) ++ (⟨#[32]⟩ : ByteArray)) ++ de) ++ (⟨#[32]⟩ : ByteArray)) := hpv 12 (hpre 12 (by decide) (by decide))
        have hv13 : vs 13 = .pointer (some ⟨gl, 2, none⟩) := hpv 13 (hpre 13 (by decide) (by decide))
        have hv14 : vs 14 = .int .i64 of := hpv 14 (hpre 14 (by decide) (by decide))
        have hv15 : vs 15 = .string df := hpv 15 (hpre 15 (by decide) (by decide))
        have hv16 : vs 16 = .string ((((((o ++ (⟨#[116, 97, 108, 108, 121, 32]⟩ : ByteArray)) ++ fr) ++ (⟨#[32]⟩ : ByteArray)) ++ de) ++ (⟨#[32]⟩ : ByteArray)) ++ df) := hpv 16 (hpre 16 (by decide) (by decide))
        have hv17 : vs 17 = .string (((((((o ++ (⟨#[116, 97, 108, 108, 121, 32]⟩ : ByteArray)) ++ fr) ++ (⟨#[32]⟩ : ByteArray)) ++ de) ++ (⟨#[32]⟩ : ByteArray)) ++ df) ++ (⟨#[10]⟩ : ByteArray)) := hpv 17 (hpre 17 (by decide) (by decide))
        clear hpv hpre hG hk0
        obtain rfl : ao = _ := hact
        subst hT
        simp only [setAll, List.setIfInBounds_toArray, List.set_cons_succ, List.set_cons_zero, List.getD_cons_succ, List.getD_cons_zero]
        simp only [hv0, hv1, hv2, hv3, hv4, hv5, hv6, hv7, hv8, hv9, hv10, hv11, hv12, hv13, hv14, hv15, hv16, hv17]
        clear hv0 hv1 hv2 hv3 hv4 hv5 hv6 hv7 hv8 hv9 hv10 hv11 hv12 hv13 hv14 hv15 hv16 hv17
        refine wpAny_all (rs := [18]) (by kernel_rfl) (by simp) ?_
        intro i2 hi2
        obtain rfl : i2 = 18 := by simpa using hi2
        refine wpOp_value (v := .string (((((((o ++ (⟨#[116, 97, 108, 108, 121, 32]⟩ : ByteArray)) ++ fr) ++ (⟨#[32]⟩ : ByteArray)) ++ de) ++ (⟨#[32]⟩ : ByteArray)) ++ df) ++ (⟨#[10]⟩ : ByteArray))) (W' := W) rfl rfl ?_ ?_
        · go_simp
        refine wpAny_done (by kernel_rfl) ?_ _
        have hb9 := (hk.below (B := u1.heap.size) (fun k h => h.elim) (Nat.le_refl _))
        have HBZ := hide (HBW1.out.trans (hb9.mono HBW1.out.size))
        clear hk hkm
        go_wp2_with fail
        go_roundw
        case rel => exact ⟨k + 1, by omega, by go_num, by rw [HNX.out], HBZ⟩
        case measure => simp [intOf]; omega
     · obtain rfl : k = b.tallies.length := by omega
       have HE := hide (text_all b)
       go_wp2_with fail
       go_ret
       exact ⟨by rw [HE.out]; rfl, HB.out.trans (HBW.out.mono HB.out.size)⟩
set_option maxHeartbeats 1000000 in
set_option maxRecDepth 100000 in
theorem write12_any {b : Book} {a : BA} {w : World} (h : BookV w w.heap.size b a) :
 Calls Tryz.prog 34 #[bookVal b a] w fun e w' => e = .returned (.tuple #[.string (writeV b).1, .int .i64 (writeV b).2]) ∧ Below w.heap.size w w' := by
 have HX := hide (BoxB.made h)
 have HB := hide (show Below w.heap.size w (w.alloc (.cells (bookCells b a) 25)) from (Below.refl _ _).alloc (Nat.le_refl _) _)
 clear h
 go_enter Tryz.func34, Tryz.ntmps34
 go_upto_region 1 with (fail)
 generalize (w.alloc (.cells (bookCells b a) 25)) = v0 at *
 obtain ⟨gx, x0, x1⟩ := HX.out.cells
 go_upto_region 2 with (go_at_call 18; refine (check12_any HX.out.v).mono ?_; rintro e v1 ⟨rfl, hb⟩)
 have HX1 := hide (HX.out.next hb)
 have HB1 := hide (HB.out.trans (hb.mono HB.out.size))
 clear gx x0 x1 hb HX HB
 obtain ⟨gx, x0, x1⟩ := HX1.out.cells
 have HW := hide (show writeV b = if (checkM b).2.2 = 0 then (⟨(textL b).toArray⟩, 0) else (⟨#[]⟩, (checkM b).2.2) from rfl)
 by_cases hc : (checkM b).2.2 = 0
 · have HV := hide (valid_of hc)
   rw [if_pos hc] at HW
   rw [hc]
   clear hc
   go_wp2_with (go_at_call 79; refine (text12_any HX1.out.v HV.out).mono ?_; rintro e v2 ⟨rfl, hb⟩)
   go_ret2
   exact ⟨by rw [HW.out]; rfl, HB1.out.trans (hb.mono HB1.out.size)⟩
 · rw [if_neg hc] at HW
   generalize (checkM b).2.2 = E at *
   have hd : (E != 0) = true := by simp [hc]
   clear hc
   go_wp2_with fail
   go_ret2
   exact ⟨by rw [HW.out]; rfl, HB1.out⟩
end Go.Proofs.YtocdmkilnbpkdaaGreatDoor
