/- The law ClaimKnown. -/
import Derived.Test.YtllmahcanipcpaaLB
import Derived.Laws.StructEq
import Derived.OwnWalkIn
import Derived.TacticsInMore
import Derived.Deep.DeepCutAuto
set_option linter.unusedVariables false
set_option linter.unusedSimpArgs false
namespace Go.Proofs.Ytllmahcanipcpaa
open Go.RowKit
attribute [local go_sem ↓] Go.wp_at_zero Go.wp_at_succ
attribute [local go_sem] Oper.semAt_some

set_option maxHeartbeats 4000000 in
set_option maxRecDepth 100000 in
theorem claimKnown_any (w : World) : Calls Try.prog 4 #[] w fun e w' => e = .returned (.bool true) ∧ Below w.heap.size w w' := by
  obtain ⟨-, -, x1, x2⟩ := ex_who
  have X1 := hide x1
  have X2 := hide x2
  have X3 := hide ex_pays.2.2.2
  have X4 := hide ex_held.2
  have X5 := hide ex_owes.2.2
  have X6 := hide ex_open.2
  have X7 := hide ex_wrong.2
  clear x1 x2
  go_enter Try.func4, Try.ntmps4
  go_wp2_with fail
  refine (file_any (A := none) (B := 0) (c := 0) (ps := []) Row.nil_ (Nat.zero_le _) (by simp)).mono ?_
  rintro e v1 ⟨fa, rfl, hF1, hb1⟩
  have hF1 := hF1 v1 (Keep.refl _ _)
  have HB := hide hb1
  have HF1 := hide hF1
  clear hF1 hb1
  go_wp2_with fail
  refine (bothF_any _).mono ?_
  rintro e v3 ⟨ga, rfl, hF2, hb⟩
  have HF1 := hide (HF1.out.next hb)
  have HF2 := hide hF2
  have HB := hide (HB.out.trans (hb.mono HB.out.size))
  clear hF2 hb
  generalize lawF [] = f at *
  generalize lawF [⟨2, 0, 1⟩] = g at *
  go_upto_region 2 with (fail)
  have hb : Below v3.heap.size v3 ((v3.alloc (.cells (fileCells f fa) 28)).alloc (.cells (fileCells g ga) 28)) := ((Below.refl _ _).alloc (Nat.le_refl _) _).alloc (by simp) _
  have K1 : Hid (BoxF ((v3.alloc (.cells (fileCells f fa) 28)).alloc (.cells (fileCells g ga) 28)) v3.heap.size f fa) := hide ⟨HF1.out.next hb, Blk.made.alloc _⟩
  have K2 : Hid (BoxF ((v3.alloc (.cells (fileCells f fa) 28)).alloc (.cells (fileCells g ga) 28)) (v3.heap.size + 1) g ga) := hide ⟨HF2.out.next hb, Blk.made' (by simp)⟩
  have HB := hide (HB.out.trans (hb.mono HB.out.size))
  clear hb HF1 HF2
  generalize ((v3.alloc (.cells (fileCells f fa) 28)).alloc (.cells (fileCells g ga) 28)) = v0 at *
  obtain ⟨z, c1, c2, c3, c4, c5⟩ := K1.out.cells
  go_upto_region 3 with (go_at_call 10; refine (whoX K1.out.v 1 X1.out (n := 2) rfl (ys := [1, 2]) rfl).mono ?_; rintro e y1 ⟨A1, q1, rfl, hi, hb⟩)
  have K1 := hide (K1.out.next hb)
  have K2 := hide (K2.out.next hb)
  have HB := hide (HB.out.trans (hb.mono HB.out.size))
  clear hb
  have I1 := hide hi
  clear hi
  clear z c1 c2 c3 c4 c5
  obtain ⟨z, c1, c2, c3, c4, c5⟩ := K2.out.cells
  go_upto_region 4 with (go_at_call 10; refine (whoX K2.out.v 0 X2.out (n := 1) rfl (ys := [2]) rfl).mono ?_; rintro e y2 ⟨A2, q2, rfl, hi, hb⟩)
  have K1 := hide (K1.out.next hb)
  have K2 := hide (K2.out.next hb)
  have I1 := hide (I1.out.next hb)
  have HB := hide (HB.out.trans (hb.mono HB.out.size))
  clear hb
  have I2 := hide hi
  clear hi
  clear z c1 c2 c3 c4 c5
  obtain ⟨z, c1, c2, c3, c4, c5⟩ := K1.out.cells
  go_upto_region 5 with (go_at_call 16; refine (paysX K1.out.v 2 X3.out).mono ?_; rintro e y3 ⟨rfl, hb⟩)
  have K1 := hide (K1.out.next hb)
  have K2 := hide (K2.out.next hb)
  have I1 := hide (I1.out.next hb)
  have I2 := hide (I2.out.next hb)
  have HB := hide (HB.out.trans (hb.mono HB.out.size))
  clear hb
  clear z c1 c2 c3 c4 c5
  obtain ⟨z, c1, c2, c3, c4, c5⟩ := K2.out.cells
  go_upto_region 6 with (go_at_call 17; refine (heldX K2.out.v X4.out (n := 0) rfl (ys := []) rfl).mono ?_; rintro e y4 ⟨A4, q4, rfl, hi, hb⟩)
  have K1 := hide (K1.out.next hb)
  have K2 := hide (K2.out.next hb)
  have I1 := hide (I1.out.next hb)
  have I2 := hide (I2.out.next hb)
  have HB := hide (HB.out.trans (hb.mono HB.out.size))
  clear hb
  have I4 := hide hi
  clear hi
  clear z c1 c2 c3 c4 c5
  obtain ⟨z, c1, c2, c3, c4, c5⟩ := K1.out.cells
  go_upto_region 7 with (go_at_call 18; refine (owesX K1.out.v 3 X5.out).mono ?_; rintro e y5 ⟨rfl, hb⟩)
  have K1 := hide (K1.out.next hb)
  have K2 := hide (K2.out.next hb)
  have I1 := hide (I1.out.next hb)
  have I2 := hide (I2.out.next hb)
  have I4 := hide (I4.out.next hb)
  have HB := hide (HB.out.trans (hb.mono HB.out.size))
  clear hb
  clear z c1 c2 c3 c4 c5
  have hb : Below y5.heap.size y5 (y5.alloc (.cells #[.int .i64 0, .int .i64 40] 43)) := (Below.refl _ _).alloc (Nat.le_refl _) _
  have S5 : Hid (BoxS (y5.alloc (.cells #[.int .i64 0, .int .i64 40] 43)) y5.heap.size 0 40) := hide BoxS.made
  have K1 := hide (K1.out.next hb)
  have K2 := hide (K2.out.next hb)
  have I1 := hide (I1.out.next hb)
  have I2 := hide (I2.out.next hb)
  have I4 := hide (I4.out.next hb)
  have HB := hide (HB.out.trans (hb.mono HB.out.size))
  clear hb
  generalize (y5.alloc (.cells #[.int .i64 0, .int .i64 40] 43)) = s5 at *
  obtain ⟨z, c1, c2, c3, c4, c5⟩ := K2.out.cells
  go_upto_region 8 with (go_at_call 19; refine (openX K2.out.v X6.out (n := 0) rfl (ys := []) rfl).mono ?_; rintro e y6 ⟨A6, q6, rfl, hi, hb⟩)
  have K1 := hide (K1.out.next hb)
  have K2 := hide (K2.out.next hb)
  have I1 := hide (I1.out.next hb)
  have I2 := hide (I2.out.next hb)
  have I4 := hide (I4.out.next hb)
  have S5 := hide (S5.out.next hb)
  have HB := hide (HB.out.trans (hb.mono HB.out.size))
  clear hb
  have I6 := hide hi
  clear hi
  clear z c1 c2 c3 c4 c5
  obtain ⟨z, c1, c2, c3, c4, c5⟩ := K2.out.cells
  go_upto_region 9 with (go_at_call 20; refine (wrongX K2.out.v X7.out (n := 0) rfl (ys := []) rfl).mono ?_; rintro e y7 ⟨A7, q7, rfl, hi, hb⟩)
  have K1 := hide (K1.out.next hb)
  have K2 := hide (K2.out.next hb)
  have I1 := hide (I1.out.next hb)
  have I2 := hide (I2.out.next hb)
  have I4 := hide (I4.out.next hb)
  have S5 := hide (S5.out.next hb)
  have I6 := hide (I6.out.next hb)
  have HB := hide (HB.out.trans (hb.mono HB.out.size))
  clear hb
  have I7 := hide hi
  clear hi
  clear z c1 c2 c3 c4 c5
  have hgt : Try.prog.eqGuardType Try.prog.depth 43 = false := by kernel_rfl
  obtain ⟨zS, dS, eS⟩ := S5.out
  go_wp2_with fail
  simp only [List.append_eq, List.cons_append, List.nil_append]
  refine wp_post (fun a W => a.tmps[0]?.getD undef = .bool true ∧ a.defers = [] ∧ Keep (fun _ => False) y7 W) ?reg ?imp
  case reg =>
    refine wp_region_rel3 (dst := fun oi => [54, 55, 56, 57, 58, 59, 60, 61, 62, 63, 64, 65, 66, 67, 68, 69, 70, 71, 72, 73, 74, 75, 76, 77, 78, 79, 80, 81, 82, 83, 84, 85, 86, 87, 88, 89, 90, 91, 92, 93, 94, 95, 96, 97, 98, 99, 100, 101, 102, 103, 104, 105, 106, 107, 108, 109, 110, 111, 112, 113, 114, 115, 116, 0].getD oi 0) (mono := fun oi => decide (oi < 64)) (pre := fun oi => decide (oi < 64)) (R := LKeep (fun _ => False) (fun _ => True))
      (Pv := fun oi v W => match oi with
        | 0 => v = .int .i64 0
        | 1 => v = .bool true
        | 2 => v = .bool true
        | 3 => v = .int .i64 0
        | 4 => v = .bool true
        | 5 => v = .bool true
        | 6 => v = .bool true
        | 7 => v = .int .i64 0
        | 8 => v = .bool true
        | 9 => v = .bool true
        | 10 => v = .bool true
        | 11 => v = .int .i64 0
        | 12 => v = .bool true
        | 13 => v = .bool true
        | 14 => v = .bool true
        | 15 => v = .int .i64 0
        | 16 => v = .bool true
        | 17 => v = .bool true
        | 18 => v = .bool true
        | 19 => v = .int .i64 0
        | 20 => v = .bool true
        | 21 => v = .bool true
        | 22 => v = .bool true
        | 23 => v = .int .i64 0
        | 24 => v = .bool true
        | 25 => v = .bool true
        | 26 => v = .bool true
        | 27 => v = .slice A1 2 q1
        | 28 => ∃ gl cp, v = .slice gl 2 cp ∧ IntsS W W.heap.size gl 2 cp ([1, 2])
        | 29 => v = .bool true
        | 30 => v = .bool true
        | 31 => v = .bool true
        | 32 => v = .slice A2 1 q2
        | 33 => ∃ gl cp, v = .slice gl 1 cp ∧ IntsS W W.heap.size gl 1 cp ([2])
        | 34 => v = .bool true
        | 35 => v = .bool true
        | 36 => v = .bool true
        | 37 => v = .int .i64 2
        | 38 => v = .bool true
        | 39 => v = .bool true
        | 40 => v = .bool true
        | 41 => v = .slice A4 0 q4
        | 42 => v = .int .i64 (0 : Nat)
        | 43 => v = .bool true
        | 44 => v = .bool true
        | 45 => v = .bool true
        | 46 => v = .agg #[.int .i64 0, .int .i64 40]
        | 47 => v = .agg #[.int .i64 0, .int .i64 40]
        | 48 => v = .bool true
        | 49 => v = .bool true
        | 50 => v = .bool true
        | 51 => v = .slice A6 0 q6
        | 52 => v = .int .i64 (0 : Nat)
        | 53 => v = .bool true
        | 54 => v = .bool true
        | 55 => v = .bool true
        | 56 => v = .slice A7 0 q7
        | 57 => v = .int .i64 (0 : Nat)
        | 58 => v = .bool true
        | 59 => v = .bool true
        | 60 => v = .bool true
        | 61 => v = .bool true
        | 62 => v = .bool true
        | 63 => v = .bool true
        | _ => True) (by kernel_rfl) (by kernel_rfl) (LKeep.refl _ _) (fun _ _ _ h h' => h.trans h') ?hst ?hstep ?hend
    case hst =>
      intro oi v W W' h hk
      match oi, h with
      | 0, h => exact h
      | 1, h => exact h
      | 2, h => exact h
      | 3, h => exact h
      | 4, h => exact h
      | 5, h => exact h
      | 6, h => exact h
      | 7, h => exact h
      | 8, h => exact h
      | 9, h => exact h
      | 10, h => exact h
      | 11, h => exact h
      | 12, h => exact h
      | 13, h => exact h
      | 14, h => exact h
      | 15, h => exact h
      | 16, h => exact h
      | 17, h => exact h
      | 18, h => exact h
      | 19, h => exact h
      | 20, h => exact h
      | 21, h => exact h
      | 22, h => exact h
      | 23, h => exact h
      | 24, h => exact h
      | 25, h => exact h
      | 26, h => exact h
      | 27, h => exact h
      | 28, h => obtain ⟨gl, cp, h1, h2⟩ := h; exact ⟨gl, cp, h1, h2.next (hk.1.below (B := W.heap.size) (fun k h => h.elim) (Nat.le_refl _))⟩
      | 29, h => exact h
      | 30, h => exact h
      | 31, h => exact h
      | 32, h => exact h
      | 33, h => obtain ⟨gl, cp, h1, h2⟩ := h; exact ⟨gl, cp, h1, h2.next (hk.1.below (B := W.heap.size) (fun k h => h.elim) (Nat.le_refl _))⟩
      | 34, h => exact h
      | 35, h => exact h
      | 36, h => exact h
      | 37, h => exact h
      | 38, h => exact h
      | 39, h => exact h
      | 40, h => exact h
      | 41, h => exact h
      | 42, h => exact h
      | 43, h => exact h
      | 44, h => exact h
      | 45, h => exact h
      | 46, h => exact h
      | 47, h => exact h
      | 48, h => exact h
      | 49, h => exact h
      | 50, h => exact h
      | 51, h => exact h
      | 52, h => exact h
      | 53, h => exact h
      | 54, h => exact h
      | 55, h => exact h
      | 56, h => exact h
      | 57, h => exact h
      | 58, h => exact h
      | 59, h => exact h
      | 60, h => exact h
      | 61, h => exact h
      | 62, h => exact h
      | 63, h => exact h
      | oi + 64, h => exact trivial
    case hstep =>
      intro oi hoi hom listed vs ao W hU hk0 hpv haft Ko hK
      have hkk := (LKeep.drew (fun _ => False) (M := fun _ => True) y7 (fun h => h)).trans hk0
      have hk := hkk.1
      have hkm := hkk.2
      clear hkk
      match oi, hoi, hom with
      | 0, hoi, hom =>
        have z4 : ao.tmps[4]?.getD undef = .int .i64 0 := hU.same 4 (by decide)
        refine wpOp_value (v := .int .i64 0) (W' := W) rfl rfl ?_ (hK _ _ (LKeep.refl _ _ _) rfl)
        go_simp
      | 1, hoi, hom =>
        have l0 := haft _ rfl { on := 0, ground := .data } (by simp) rfl
        have hv0 : vs 0 = .int .i64 0 := hpv 0 l0
        have s0 : ao.tmps[54]?.getD undef = vs 0 := hU.slot 0 (by decide) l0
        rw [hv0] at s0
        refine wpOp_value (v := .bool true) (W' := W) rfl rfl ?_ (hK _ _ (LKeep.refl _ _ _) rfl)
        go_simp
      | 2, hoi, hom =>
        have l1 := haft _ rfl { on := 1, ground := .data } (by simp) rfl
        have hv1 : vs 1 = .bool true := hpv 1 l1
        have s1 : ao.tmps[55]?.getD undef = vs 1 := hU.slot 1 (by decide) l1
        rw [hv1] at s1
        refine wpOp_value (v := .bool true) (W' := W) rfl rfl ?_ (hK _ _ (LKeep.refl _ _ _) rfl)
        go_simp
      | 3, hoi, hom =>
        have l2 := haft _ rfl { on := 2, ground := .guard } (by simp) rfl
        have hv2 : vs 2 = .bool true := hpv 2 l2
        have s2 : ao.tmps[56]?.getD undef = vs 2 := hU.slot 2 (by decide) l2
        rw [hv2] at s2
        have z6 : ao.tmps[6]?.getD undef = .int .i64 0 := hU.same 6 (by decide)
        refine wpOp_wanted (v := .int .i64 0) (W' := W) rfl ?_ ?_ (hK _ _ (LKeep.refl _ _ _) rfl)
        · refine wanted_yes (j := 2) (d := 56) ?_ ?_ s2 <;> rfl
        go_simp
      | 4, hoi, hom =>
        have l2 := haft _ rfl { on := 2, ground := .guard } (by simp) rfl
        have hv2 : vs 2 = .bool true := hpv 2 l2
        have s2 : ao.tmps[56]?.getD undef = vs 2 := hU.slot 2 (by decide) l2
        rw [hv2] at s2
        have l3 := haft _ rfl { on := 3, ground := .data } (by simp) rfl
        have hv3 : vs 3 = .int .i64 0 := hpv 3 l3
        have s3 : ao.tmps[57]?.getD undef = vs 3 := hU.slot 3 (by decide) l3
        rw [hv3] at s3
        refine wpOp_wanted (v := .bool true) (W' := W) rfl ?_ ?_ (hK _ _ (LKeep.refl _ _ _) rfl)
        · refine wanted_yes (j := 2) (d := 56) ?_ ?_ s2 <;> rfl
        go_simp
      | 5, hoi, hom =>
        have l2 := haft _ rfl { on := 2, ground := .data } (by simp) rfl
        have hv2 : vs 2 = .bool true := hpv 2 l2
        have s2 : ao.tmps[56]?.getD undef = vs 2 := hU.slot 2 (by decide) l2
        rw [hv2] at s2
        have l4 := haft _ rfl { on := 4, ground := .data } (by simp) rfl
        have hv4 : vs 4 = .bool true := hpv 4 l4
        have s4 : ao.tmps[58]?.getD undef = vs 4 := hU.slot 4 (by decide) l4
        rw [hv4] at s4
        refine wpOp_value (v := .bool true) (W' := W) rfl rfl ?_ (hK _ _ (LKeep.refl _ _ _) rfl)
        go_simp
      | 6, hoi, hom =>
        have l5 := haft _ rfl { on := 5, ground := .data } (by simp) rfl
        have hv5 : vs 5 = .bool true := hpv 5 l5
        have s5 : ao.tmps[59]?.getD undef = vs 5 := hU.slot 5 (by decide) l5
        rw [hv5] at s5
        refine wpOp_value (v := .bool true) (W' := W) rfl rfl ?_ (hK _ _ (LKeep.refl _ _ _) rfl)
        go_simp
      | 7, hoi, hom =>
        have l6 := haft _ rfl { on := 6, ground := .guard } (by simp) rfl
        have hv6 : vs 6 = .bool true := hpv 6 l6
        have s6 : ao.tmps[60]?.getD undef = vs 6 := hU.slot 6 (by decide) l6
        rw [hv6] at s6
        have z8 : ao.tmps[8]?.getD undef = .int .i64 0 := hU.same 8 (by decide)
        refine wpOp_wanted (v := .int .i64 0) (W' := W) rfl ?_ ?_ (hK _ _ (LKeep.refl _ _ _) rfl)
        · refine wanted_yes (j := 6) (d := 60) ?_ ?_ s6 <;> rfl
        go_simp
      | 8, hoi, hom =>
        have l6 := haft _ rfl { on := 6, ground := .guard } (by simp) rfl
        have hv6 : vs 6 = .bool true := hpv 6 l6
        have s6 : ao.tmps[60]?.getD undef = vs 6 := hU.slot 6 (by decide) l6
        rw [hv6] at s6
        have l7 := haft _ rfl { on := 7, ground := .data } (by simp) rfl
        have hv7 : vs 7 = .int .i64 0 := hpv 7 l7
        have s7 : ao.tmps[61]?.getD undef = vs 7 := hU.slot 7 (by decide) l7
        rw [hv7] at s7
        refine wpOp_wanted (v := .bool true) (W' := W) rfl ?_ ?_ (hK _ _ (LKeep.refl _ _ _) rfl)
        · refine wanted_yes (j := 6) (d := 60) ?_ ?_ s6 <;> rfl
        go_simp
      | 9, hoi, hom =>
        have l6 := haft _ rfl { on := 6, ground := .data } (by simp) rfl
        have hv6 : vs 6 = .bool true := hpv 6 l6
        have s6 : ao.tmps[60]?.getD undef = vs 6 := hU.slot 6 (by decide) l6
        rw [hv6] at s6
        have l8 := haft _ rfl { on := 8, ground := .data } (by simp) rfl
        have hv8 : vs 8 = .bool true := hpv 8 l8
        have s8 : ao.tmps[62]?.getD undef = vs 8 := hU.slot 8 (by decide) l8
        rw [hv8] at s8
        refine wpOp_value (v := .bool true) (W' := W) rfl rfl ?_ (hK _ _ (LKeep.refl _ _ _) rfl)
        go_simp
      | 10, hoi, hom =>
        have l9 := haft _ rfl { on := 9, ground := .data } (by simp) rfl
        have hv9 : vs 9 = .bool true := hpv 9 l9
        have s9 : ao.tmps[63]?.getD undef = vs 9 := hU.slot 9 (by decide) l9
        rw [hv9] at s9
        refine wpOp_value (v := .bool true) (W' := W) rfl rfl ?_ (hK _ _ (LKeep.refl _ _ _) rfl)
        go_simp
      | 11, hoi, hom =>
        have l10 := haft _ rfl { on := 10, ground := .guard } (by simp) rfl
        have hv10 : vs 10 = .bool true := hpv 10 l10
        have s10 : ao.tmps[64]?.getD undef = vs 10 := hU.slot 10 (by decide) l10
        rw [hv10] at s10
        have z10 : ao.tmps[10]?.getD undef = .int .i64 0 := hU.same 10 (by decide)
        refine wpOp_wanted (v := .int .i64 0) (W' := W) rfl ?_ ?_ (hK _ _ (LKeep.refl _ _ _) rfl)
        · refine wanted_yes (j := 10) (d := 64) ?_ ?_ s10 <;> rfl
        go_simp
      | 12, hoi, hom =>
        have l10 := haft _ rfl { on := 10, ground := .guard } (by simp) rfl
        have hv10 : vs 10 = .bool true := hpv 10 l10
        have s10 : ao.tmps[64]?.getD undef = vs 10 := hU.slot 10 (by decide) l10
        rw [hv10] at s10
        have l11 := haft _ rfl { on := 11, ground := .data } (by simp) rfl
        have hv11 : vs 11 = .int .i64 0 := hpv 11 l11
        have s11 : ao.tmps[65]?.getD undef = vs 11 := hU.slot 11 (by decide) l11
        rw [hv11] at s11
        refine wpOp_wanted (v := .bool true) (W' := W) rfl ?_ ?_ (hK _ _ (LKeep.refl _ _ _) rfl)
        · refine wanted_yes (j := 10) (d := 64) ?_ ?_ s10 <;> rfl
        go_simp
      | 13, hoi, hom =>
        have l10 := haft _ rfl { on := 10, ground := .data } (by simp) rfl
        have hv10 : vs 10 = .bool true := hpv 10 l10
        have s10 : ao.tmps[64]?.getD undef = vs 10 := hU.slot 10 (by decide) l10
        rw [hv10] at s10
        have l12 := haft _ rfl { on := 12, ground := .data } (by simp) rfl
        have hv12 : vs 12 = .bool true := hpv 12 l12
        have s12 : ao.tmps[66]?.getD undef = vs 12 := hU.slot 12 (by decide) l12
        rw [hv12] at s12
        refine wpOp_value (v := .bool true) (W' := W) rfl rfl ?_ (hK _ _ (LKeep.refl _ _ _) rfl)
        go_simp
      | 14, hoi, hom =>
        have l13 := haft _ rfl { on := 13, ground := .data } (by simp) rfl
        have hv13 : vs 13 = .bool true := hpv 13 l13
        have s13 : ao.tmps[67]?.getD undef = vs 13 := hU.slot 13 (by decide) l13
        rw [hv13] at s13
        refine wpOp_value (v := .bool true) (W' := W) rfl rfl ?_ (hK _ _ (LKeep.refl _ _ _) rfl)
        go_simp
      | 15, hoi, hom =>
        have l14 := haft _ rfl { on := 14, ground := .guard } (by simp) rfl
        have hv14 : vs 14 = .bool true := hpv 14 l14
        have s14 : ao.tmps[68]?.getD undef = vs 14 := hU.slot 14 (by decide) l14
        rw [hv14] at s14
        have z12 : ao.tmps[12]?.getD undef = .int .i64 0 := hU.same 12 (by decide)
        refine wpOp_wanted (v := .int .i64 0) (W' := W) rfl ?_ ?_ (hK _ _ (LKeep.refl _ _ _) rfl)
        · refine wanted_yes (j := 14) (d := 68) ?_ ?_ s14 <;> rfl
        go_simp
      | 16, hoi, hom =>
        have l14 := haft _ rfl { on := 14, ground := .guard } (by simp) rfl
        have hv14 : vs 14 = .bool true := hpv 14 l14
        have s14 : ao.tmps[68]?.getD undef = vs 14 := hU.slot 14 (by decide) l14
        rw [hv14] at s14
        have l15 := haft _ rfl { on := 15, ground := .data } (by simp) rfl
        have hv15 : vs 15 = .int .i64 0 := hpv 15 l15
        have s15 : ao.tmps[69]?.getD undef = vs 15 := hU.slot 15 (by decide) l15
        rw [hv15] at s15
        refine wpOp_wanted (v := .bool true) (W' := W) rfl ?_ ?_ (hK _ _ (LKeep.refl _ _ _) rfl)
        · refine wanted_yes (j := 14) (d := 68) ?_ ?_ s14 <;> rfl
        go_simp
      | 17, hoi, hom =>
        have l14 := haft _ rfl { on := 14, ground := .data } (by simp) rfl
        have hv14 : vs 14 = .bool true := hpv 14 l14
        have s14 : ao.tmps[68]?.getD undef = vs 14 := hU.slot 14 (by decide) l14
        rw [hv14] at s14
        have l16 := haft _ rfl { on := 16, ground := .data } (by simp) rfl
        have hv16 : vs 16 = .bool true := hpv 16 l16
        have s16 : ao.tmps[70]?.getD undef = vs 16 := hU.slot 16 (by decide) l16
        rw [hv16] at s16
        refine wpOp_value (v := .bool true) (W' := W) rfl rfl ?_ (hK _ _ (LKeep.refl _ _ _) rfl)
        go_simp
      | 18, hoi, hom =>
        have l17 := haft _ rfl { on := 17, ground := .data } (by simp) rfl
        have hv17 : vs 17 = .bool true := hpv 17 l17
        have s17 : ao.tmps[71]?.getD undef = vs 17 := hU.slot 17 (by decide) l17
        rw [hv17] at s17
        refine wpOp_value (v := .bool true) (W' := W) rfl rfl ?_ (hK _ _ (LKeep.refl _ _ _) rfl)
        go_simp
      | 19, hoi, hom =>
        have l18 := haft _ rfl { on := 18, ground := .guard } (by simp) rfl
        have hv18 : vs 18 = .bool true := hpv 18 l18
        have s18 : ao.tmps[72]?.getD undef = vs 18 := hU.slot 18 (by decide) l18
        rw [hv18] at s18
        have z14 : ao.tmps[14]?.getD undef = .int .i64 0 := hU.same 14 (by decide)
        refine wpOp_wanted (v := .int .i64 0) (W' := W) rfl ?_ ?_ (hK _ _ (LKeep.refl _ _ _) rfl)
        · refine wanted_yes (j := 18) (d := 72) ?_ ?_ s18 <;> rfl
        go_simp
      | 20, hoi, hom =>
        have l18 := haft _ rfl { on := 18, ground := .guard } (by simp) rfl
        have hv18 : vs 18 = .bool true := hpv 18 l18
        have s18 : ao.tmps[72]?.getD undef = vs 18 := hU.slot 18 (by decide) l18
        rw [hv18] at s18
        have l19 := haft _ rfl { on := 19, ground := .data } (by simp) rfl
        have hv19 : vs 19 = .int .i64 0 := hpv 19 l19
        have s19 : ao.tmps[73]?.getD undef = vs 19 := hU.slot 19 (by decide) l19
        rw [hv19] at s19
        refine wpOp_wanted (v := .bool true) (W' := W) rfl ?_ ?_ (hK _ _ (LKeep.refl _ _ _) rfl)
        · refine wanted_yes (j := 18) (d := 72) ?_ ?_ s18 <;> rfl
        go_simp
      | 21, hoi, hom =>
        have l18 := haft _ rfl { on := 18, ground := .data } (by simp) rfl
        have hv18 : vs 18 = .bool true := hpv 18 l18
        have s18 : ao.tmps[72]?.getD undef = vs 18 := hU.slot 18 (by decide) l18
        rw [hv18] at s18
        have l20 := haft _ rfl { on := 20, ground := .data } (by simp) rfl
        have hv20 : vs 20 = .bool true := hpv 20 l20
        have s20 : ao.tmps[74]?.getD undef = vs 20 := hU.slot 20 (by decide) l20
        rw [hv20] at s20
        refine wpOp_value (v := .bool true) (W' := W) rfl rfl ?_ (hK _ _ (LKeep.refl _ _ _) rfl)
        go_simp
      | 22, hoi, hom =>
        have l21 := haft _ rfl { on := 21, ground := .data } (by simp) rfl
        have hv21 : vs 21 = .bool true := hpv 21 l21
        have s21 : ao.tmps[75]?.getD undef = vs 21 := hU.slot 21 (by decide) l21
        rw [hv21] at s21
        refine wpOp_value (v := .bool true) (W' := W) rfl rfl ?_ (hK _ _ (LKeep.refl _ _ _) rfl)
        go_simp
      | 23, hoi, hom =>
        have l22 := haft _ rfl { on := 22, ground := .guard } (by simp) rfl
        have hv22 : vs 22 = .bool true := hpv 22 l22
        have s22 : ao.tmps[76]?.getD undef = vs 22 := hU.slot 22 (by decide) l22
        rw [hv22] at s22
        have z16 : ao.tmps[16]?.getD undef = .int .i64 0 := hU.same 16 (by decide)
        refine wpOp_wanted (v := .int .i64 0) (W' := W) rfl ?_ ?_ (hK _ _ (LKeep.refl _ _ _) rfl)
        · refine wanted_yes (j := 22) (d := 76) ?_ ?_ s22 <;> rfl
        go_simp
      | 24, hoi, hom =>
        have l22 := haft _ rfl { on := 22, ground := .guard } (by simp) rfl
        have hv22 : vs 22 = .bool true := hpv 22 l22
        have s22 : ao.tmps[76]?.getD undef = vs 22 := hU.slot 22 (by decide) l22
        rw [hv22] at s22
        have l23 := haft _ rfl { on := 23, ground := .data } (by simp) rfl
        have hv23 : vs 23 = .int .i64 0 := hpv 23 l23
        have s23 : ao.tmps[77]?.getD undef = vs 23 := hU.slot 23 (by decide) l23
        rw [hv23] at s23
        refine wpOp_wanted (v := .bool true) (W' := W) rfl ?_ ?_ (hK _ _ (LKeep.refl _ _ _) rfl)
        · refine wanted_yes (j := 22) (d := 76) ?_ ?_ s22 <;> rfl
        go_simp
      | 25, hoi, hom =>
        have l22 := haft _ rfl { on := 22, ground := .data } (by simp) rfl
        have hv22 : vs 22 = .bool true := hpv 22 l22
        have s22 : ao.tmps[76]?.getD undef = vs 22 := hU.slot 22 (by decide) l22
        rw [hv22] at s22
        have l24 := haft _ rfl { on := 24, ground := .data } (by simp) rfl
        have hv24 : vs 24 = .bool true := hpv 24 l24
        have s24 : ao.tmps[78]?.getD undef = vs 24 := hU.slot 24 (by decide) l24
        rw [hv24] at s24
        refine wpOp_value (v := .bool true) (W' := W) rfl rfl ?_ (hK _ _ (LKeep.refl _ _ _) rfl)
        go_simp
      | 26, hoi, hom =>
        have l25 := haft _ rfl { on := 25, ground := .data } (by simp) rfl
        have hv25 : vs 25 = .bool true := hpv 25 l25
        have s25 : ao.tmps[79]?.getD undef = vs 25 := hU.slot 25 (by decide) l25
        rw [hv25] at s25
        refine wpOp_value (v := .bool true) (W' := W) rfl rfl ?_ (hK _ _ (LKeep.refl _ _ _) rfl)
        go_simp
      | 27, hoi, hom =>
        have l26 := haft _ rfl { on := 26, ground := .guard } (by simp) rfl
        have hv26 : vs 26 = .bool true := hpv 26 l26
        have s26 : ao.tmps[80]?.getD undef = vs 26 := hU.slot 26 (by decide) l26
        rw [hv26] at s26
        have z3 : ao.tmps[3]?.getD undef = .slice A1 2 q1 := hU.same 3 (by decide)
        refine wpOp_wanted (v := .slice A1 2 q1) (W' := W) rfl ?_ ?_ (hK _ _ (LKeep.refl _ _ _) rfl)
        · refine wanted_yes (j := 26) (d := 80) ?_ ?_ s26 <;> rfl
        go_simp
      | 28, hoi, hom =>
        have l26 := haft _ rfl { on := 26, ground := .guard } (by simp) rfl
        have hv26 : vs 26 = .bool true := hpv 26 l26
        have s26 : ao.tmps[80]?.getD undef = vs 26 := hU.slot 26 (by decide) l26
        rw [hv26] at s26
        refine wpOp_wanted (v := .slice (some ⟨W.heap.size, 0, none⟩) 2 2) (W' := (W.alloc (.cells #[.int .i64 1, .int .i64 2] 3))) rfl ?_ ?_ (hK _ _ (LKeep.below ((Below.refl _ _).alloc (Nat.le_refl _) _) (fun h => h)) ⟨_, _, rfl, (IntsS.lit2 rfl 1 2).more (by simp)⟩)
        · refine wanted_yes (j := 26) (d := 80) ?_ ?_ s26 <;> rfl
        go_simp
      | 29, hoi, hom =>
        have l26 := haft _ rfl { on := 26, ground := .guard } (by simp) rfl
        have hv26 : vs 26 = .bool true := hpv 26 l26
        have s26 : ao.tmps[80]?.getD undef = vs 26 := hU.slot 26 (by decide) l26
        rw [hv26] at s26
        have l27 := haft _ rfl { on := 27, ground := .data } (by simp) rfl
        have hv27 : vs 27 = .slice A1 2 q1 := hpv 27 l27
        have s27 : ao.tmps[81]?.getD undef = vs 27 := hU.slot 27 (by decide) l27
        rw [hv27] at s27
        have l28 := haft _ rfl { on := 28, ground := .data } (by simp) rfl
        obtain ⟨gl28, cp28, hv28, hi28⟩ := hpv 28 l28
        have s28 : ao.tmps[82]?.getD undef = vs 28 := hU.slot 28 (by decide) l28
        rw [hv28] at s28
        refine wpOp_enterW (f := 12) (args := #[.slice A1 2 q1, .slice gl28 2 cp28]) (W' := W) rfl ?_ ?_ (((ints_any (I1.out.next (hk.below (B := y7.heap.size) (fun k h => h.elim) (Nat.le_refl _))) hi28).mono (fun e w h => by rw [show intsB [1, 2] [1, 2] = true from by decide] at h; exact h)).mono (fun e w'' h => ?_))
        · refine wanted_yes (j := 26) (d := 80) ?_ ?_ s26 <;> rfl
        · go_simp
        · obtain ⟨he, hd⟩ := h
          exact ⟨_, he, hK _ _ (LKeep.below (hd.below _) (fun h => h)) rfl⟩
      | 30, hoi, hom =>
        have l26 := haft _ rfl { on := 26, ground := .data } (by simp) rfl
        have hv26 : vs 26 = .bool true := hpv 26 l26
        have s26 : ao.tmps[80]?.getD undef = vs 26 := hU.slot 26 (by decide) l26
        rw [hv26] at s26
        have l29 := haft _ rfl { on := 29, ground := .data } (by simp) rfl
        have hv29 : vs 29 = .bool true := hpv 29 l29
        have s29 : ao.tmps[83]?.getD undef = vs 29 := hU.slot 29 (by decide) l29
        rw [hv29] at s29
        refine wpOp_value (v := .bool true) (W' := W) rfl rfl ?_ (hK _ _ (LKeep.refl _ _ _) rfl)
        go_simp
      | 31, hoi, hom =>
        have l30 := haft _ rfl { on := 30, ground := .data } (by simp) rfl
        have hv30 : vs 30 = .bool true := hpv 30 l30
        have s30 : ao.tmps[84]?.getD undef = vs 30 := hU.slot 30 (by decide) l30
        rw [hv30] at s30
        refine wpOp_value (v := .bool true) (W' := W) rfl rfl ?_ (hK _ _ (LKeep.refl _ _ _) rfl)
        go_simp
      | 32, hoi, hom =>
        have l31 := haft _ rfl { on := 31, ground := .guard } (by simp) rfl
        have hv31 : vs 31 = .bool true := hpv 31 l31
        have s31 : ao.tmps[85]?.getD undef = vs 31 := hU.slot 31 (by decide) l31
        rw [hv31] at s31
        have z5 : ao.tmps[5]?.getD undef = .slice A2 1 q2 := hU.same 5 (by decide)
        refine wpOp_wanted (v := .slice A2 1 q2) (W' := W) rfl ?_ ?_ (hK _ _ (LKeep.refl _ _ _) rfl)
        · refine wanted_yes (j := 31) (d := 85) ?_ ?_ s31 <;> rfl
        go_simp
      | 33, hoi, hom =>
        have l31 := haft _ rfl { on := 31, ground := .guard } (by simp) rfl
        have hv31 : vs 31 = .bool true := hpv 31 l31
        have s31 : ao.tmps[85]?.getD undef = vs 31 := hU.slot 31 (by decide) l31
        rw [hv31] at s31
        refine wpOp_wanted (v := .slice (some ⟨W.heap.size, 0, none⟩) 1 1) (W' := (W.alloc (.cells #[.int .i64 2] 3))) rfl ?_ ?_ (hK _ _ (LKeep.below ((Below.refl _ _).alloc (Nat.le_refl _) _) (fun h => h)) ⟨_, _, rfl, (IntsS.lit1 rfl 2).more (by simp)⟩)
        · refine wanted_yes (j := 31) (d := 85) ?_ ?_ s31 <;> rfl
        go_simp
      | 34, hoi, hom =>
        have l31 := haft _ rfl { on := 31, ground := .guard } (by simp) rfl
        have hv31 : vs 31 = .bool true := hpv 31 l31
        have s31 : ao.tmps[85]?.getD undef = vs 31 := hU.slot 31 (by decide) l31
        rw [hv31] at s31
        have l32 := haft _ rfl { on := 32, ground := .data } (by simp) rfl
        have hv32 : vs 32 = .slice A2 1 q2 := hpv 32 l32
        have s32 : ao.tmps[86]?.getD undef = vs 32 := hU.slot 32 (by decide) l32
        rw [hv32] at s32
        have l33 := haft _ rfl { on := 33, ground := .data } (by simp) rfl
        obtain ⟨gl33, cp33, hv33, hi33⟩ := hpv 33 l33
        have s33 : ao.tmps[87]?.getD undef = vs 33 := hU.slot 33 (by decide) l33
        rw [hv33] at s33
        refine wpOp_enterW (f := 12) (args := #[.slice A2 1 q2, .slice gl33 1 cp33]) (W' := W) rfl ?_ ?_ (((ints_any (I2.out.next (hk.below (B := y7.heap.size) (fun k h => h.elim) (Nat.le_refl _))) hi33).mono (fun e w h => by rw [show intsB [2] [2] = true from by decide] at h; exact h)).mono (fun e w'' h => ?_))
        · refine wanted_yes (j := 31) (d := 85) ?_ ?_ s31 <;> rfl
        · go_simp
        · obtain ⟨he, hd⟩ := h
          exact ⟨_, he, hK _ _ (LKeep.below (hd.below _) (fun h => h)) rfl⟩
      | 35, hoi, hom =>
        have l31 := haft _ rfl { on := 31, ground := .data } (by simp) rfl
        have hv31 : vs 31 = .bool true := hpv 31 l31
        have s31 : ao.tmps[85]?.getD undef = vs 31 := hU.slot 31 (by decide) l31
        rw [hv31] at s31
        have l34 := haft _ rfl { on := 34, ground := .data } (by simp) rfl
        have hv34 : vs 34 = .bool true := hpv 34 l34
        have s34 : ao.tmps[88]?.getD undef = vs 34 := hU.slot 34 (by decide) l34
        rw [hv34] at s34
        refine wpOp_value (v := .bool true) (W' := W) rfl rfl ?_ (hK _ _ (LKeep.refl _ _ _) rfl)
        go_simp
      | 36, hoi, hom =>
        have l35 := haft _ rfl { on := 35, ground := .data } (by simp) rfl
        have hv35 : vs 35 = .bool true := hpv 35 l35
        have s35 : ao.tmps[89]?.getD undef = vs 35 := hU.slot 35 (by decide) l35
        rw [hv35] at s35
        refine wpOp_value (v := .bool true) (W' := W) rfl rfl ?_ (hK _ _ (LKeep.refl _ _ _) rfl)
        go_simp
      | 37, hoi, hom =>
        have l36 := haft _ rfl { on := 36, ground := .guard } (by simp) rfl
        have hv36 : vs 36 = .bool true := hpv 36 l36
        have s36 : ao.tmps[90]?.getD undef = vs 36 := hU.slot 36 (by decide) l36
        rw [hv36] at s36
        have z7 : ao.tmps[7]?.getD undef = .int .i64 2 := hU.same 7 (by decide)
        refine wpOp_wanted (v := .int .i64 2) (W' := W) rfl ?_ ?_ (hK _ _ (LKeep.refl _ _ _) rfl)
        · refine wanted_yes (j := 36) (d := 90) ?_ ?_ s36 <;> rfl
        go_simp
      | 38, hoi, hom =>
        have l36 := haft _ rfl { on := 36, ground := .guard } (by simp) rfl
        have hv36 : vs 36 = .bool true := hpv 36 l36
        have s36 : ao.tmps[90]?.getD undef = vs 36 := hU.slot 36 (by decide) l36
        rw [hv36] at s36
        have l37 := haft _ rfl { on := 37, ground := .data } (by simp) rfl
        have hv37 : vs 37 = .int .i64 2 := hpv 37 l37
        have s37 : ao.tmps[91]?.getD undef = vs 37 := hU.slot 37 (by decide) l37
        rw [hv37] at s37
        refine wpOp_wanted (v := .bool true) (W' := W) rfl ?_ ?_ (hK _ _ (LKeep.refl _ _ _) rfl)
        · refine wanted_yes (j := 36) (d := 90) ?_ ?_ s36 <;> rfl
        go_simp
      | 39, hoi, hom =>
        have l36 := haft _ rfl { on := 36, ground := .data } (by simp) rfl
        have hv36 : vs 36 = .bool true := hpv 36 l36
        have s36 : ao.tmps[90]?.getD undef = vs 36 := hU.slot 36 (by decide) l36
        rw [hv36] at s36
        have l38 := haft _ rfl { on := 38, ground := .data } (by simp) rfl
        have hv38 : vs 38 = .bool true := hpv 38 l38
        have s38 : ao.tmps[92]?.getD undef = vs 38 := hU.slot 38 (by decide) l38
        rw [hv38] at s38
        refine wpOp_value (v := .bool true) (W' := W) rfl rfl ?_ (hK _ _ (LKeep.refl _ _ _) rfl)
        go_simp
      | 40, hoi, hom =>
        have l39 := haft _ rfl { on := 39, ground := .data } (by simp) rfl
        have hv39 : vs 39 = .bool true := hpv 39 l39
        have s39 : ao.tmps[93]?.getD undef = vs 39 := hU.slot 39 (by decide) l39
        rw [hv39] at s39
        refine wpOp_value (v := .bool true) (W' := W) rfl rfl ?_ (hK _ _ (LKeep.refl _ _ _) rfl)
        go_simp
      | 41, hoi, hom =>
        have l40 := haft _ rfl { on := 40, ground := .guard } (by simp) rfl
        have hv40 : vs 40 = .bool true := hpv 40 l40
        have s40 : ao.tmps[94]?.getD undef = vs 40 := hU.slot 40 (by decide) l40
        rw [hv40] at s40
        have z9 : ao.tmps[9]?.getD undef = .slice A4 0 q4 := hU.same 9 (by decide)
        refine wpOp_wanted (v := .slice A4 0 q4) (W' := W) rfl ?_ ?_ (hK _ _ (LKeep.refl _ _ _) rfl)
        · refine wanted_yes (j := 40) (d := 94) ?_ ?_ s40 <;> rfl
        go_simp
      | 42, hoi, hom =>
        have l40 := haft _ rfl { on := 40, ground := .guard } (by simp) rfl
        have hv40 : vs 40 = .bool true := hpv 40 l40
        have s40 : ao.tmps[94]?.getD undef = vs 40 := hU.slot 40 (by decide) l40
        rw [hv40] at s40
        have l41 := haft _ rfl { on := 41, ground := .data } (by simp) rfl
        have hv41 : vs 41 = .slice A4 0 q4 := hpv 41 l41
        have s41 : ao.tmps[95]?.getD undef = vs 41 := hU.slot 41 (by decide) l41
        rw [hv41] at s41
        refine wpOp_wanted (v := .int .i64 (0 : Nat)) (W' := W) rfl ?_ ?_ (hK _ _ (LKeep.refl _ _ _) rfl)
        · refine wanted_yes (j := 40) (d := 94) ?_ ?_ s40 <;> rfl
        go_simp
      | 43, hoi, hom =>
        have l40 := haft _ rfl { on := 40, ground := .guard } (by simp) rfl
        have hv40 : vs 40 = .bool true := hpv 40 l40
        have s40 : ao.tmps[94]?.getD undef = vs 40 := hU.slot 40 (by decide) l40
        rw [hv40] at s40
        have l42 := haft _ rfl { on := 42, ground := .data } (by simp) rfl
        have hv42 : vs 42 = .int .i64 (0 : Nat) := hpv 42 l42
        have s42 : ao.tmps[96]?.getD undef = vs 42 := hU.slot 42 (by decide) l42
        rw [hv42] at s42
        refine wpOp_wanted (v := .bool true) (W' := W) rfl ?_ ?_ (hK _ _ (LKeep.refl _ _ _) rfl)
        · refine wanted_yes (j := 40) (d := 94) ?_ ?_ s40 <;> rfl
        go_simp
      | 44, hoi, hom =>
        have l40 := haft _ rfl { on := 40, ground := .data } (by simp) rfl
        have hv40 : vs 40 = .bool true := hpv 40 l40
        have s40 : ao.tmps[94]?.getD undef = vs 40 := hU.slot 40 (by decide) l40
        rw [hv40] at s40
        have l43 := haft _ rfl { on := 43, ground := .data } (by simp) rfl
        have hv43 : vs 43 = .bool true := hpv 43 l43
        have s43 : ao.tmps[97]?.getD undef = vs 43 := hU.slot 43 (by decide) l43
        rw [hv43] at s43
        refine wpOp_value (v := .bool true) (W' := W) rfl rfl ?_ (hK _ _ (LKeep.refl _ _ _) rfl)
        go_simp
      | 45, hoi, hom =>
        have l44 := haft _ rfl { on := 44, ground := .data } (by simp) rfl
        have hv44 : vs 44 = .bool true := hpv 44 l44
        have s44 : ao.tmps[98]?.getD undef = vs 44 := hU.slot 44 (by decide) l44
        rw [hv44] at s44
        refine wpOp_value (v := .bool true) (W' := W) rfl rfl ?_ (hK _ _ (LKeep.refl _ _ _) rfl)
        go_simp
      | 46, hoi, hom =>
        have l45 := haft _ rfl { on := 45, ground := .guard } (by simp) rfl
        have hv45 : vs 45 = .bool true := hpv 45 l45
        have s45 : ao.tmps[99]?.getD undef = vs 45 := hU.slot 45 (by decide) l45
        rw [hv45] at s45
        have z11 : ao.tmps[11]?.getD undef = .pointer (some ⟨y5.heap.size, 0, none⟩) := hU.same 11 (by decide)
        have y0 := (hk.cell (b := y5.heap.size) (o := 0) (zS) (fun h => h)).trans (dS)
        have y1 := (hk.cell (b := y5.heap.size) (o := 1) (zS) (fun h => h)).trans (eS)
        refine wpOp_wanted (v := .agg #[.int .i64 0, .int .i64 40]) (W' := W) rfl ?_ ?_ (hK _ _ (LKeep.refl _ _ _) rfl)
        · refine wanted_yes (j := 45) (d := 99) ?_ ?_ s45 <;> rfl
        go_simp
      | 47, hoi, hom =>
        have l45 := haft _ rfl { on := 45, ground := .guard } (by simp) rfl
        have hv45 : vs 45 = .bool true := hpv 45 l45
        have s45 : ao.tmps[99]?.getD undef = vs 45 := hU.slot 45 (by decide) l45
        rw [hv45] at s45
        refine wpOp_enterW (f := 21) (args := #[.int .i64 0, .int .i64 40]) (W' := W) rfl ?_ ?_ ((span_any 0 40 W).mono (fun e w'' h => ?_))
        · refine wanted_yes (j := 45) (d := 99) ?_ ?_ s45 <;> rfl
        · go_simp
        · obtain ⟨he, hbw⟩ := h
          exact ⟨_, he, hK _ _ (LKeep.below hbw (fun h => h)) rfl⟩
      | 48, hoi, hom =>
        have l45 := haft _ rfl { on := 45, ground := .guard } (by simp) rfl
        have hv45 : vs 45 = .bool true := hpv 45 l45
        have s45 : ao.tmps[99]?.getD undef = vs 45 := hU.slot 45 (by decide) l45
        rw [hv45] at s45
        have l46 := haft _ rfl { on := 46, ground := .data } (by simp) rfl
        have hv46 : vs 46 = .agg #[.int .i64 0, .int .i64 40] := hpv 46 l46
        have s46 : ao.tmps[100]?.getD undef = vs 46 := hU.slot 46 (by decide) l46
        rw [hv46] at s46
        have l47 := haft _ rfl { on := 47, ground := .data } (by simp) rfl
        have hv47 : vs 47 = .agg #[.int .i64 0, .int .i64 40] := hpv 47 l47
        have s47 : ao.tmps[101]?.getD undef = vs 47 := hU.slot 47 (by decide) l47
        rw [hv47] at s47
        refine wpOp_wanted (v := .bool true) (W' := W) rfl ?_ ?_ (hK _ _ (LKeep.refl _ _ _) rfl)
        · refine wanted_yes (j := 45) (d := 99) ?_ ?_ s45 <;> rfl
        go_simp
      | 49, hoi, hom =>
        have l45 := haft _ rfl { on := 45, ground := .data } (by simp) rfl
        have hv45 : vs 45 = .bool true := hpv 45 l45
        have s45 : ao.tmps[99]?.getD undef = vs 45 := hU.slot 45 (by decide) l45
        rw [hv45] at s45
        have l48 := haft _ rfl { on := 48, ground := .data } (by simp) rfl
        have hv48 : vs 48 = .bool true := hpv 48 l48
        have s48 : ao.tmps[102]?.getD undef = vs 48 := hU.slot 48 (by decide) l48
        rw [hv48] at s48
        refine wpOp_value (v := .bool true) (W' := W) rfl rfl ?_ (hK _ _ (LKeep.refl _ _ _) rfl)
        go_simp
      | 50, hoi, hom =>
        have l49 := haft _ rfl { on := 49, ground := .data } (by simp) rfl
        have hv49 : vs 49 = .bool true := hpv 49 l49
        have s49 : ao.tmps[103]?.getD undef = vs 49 := hU.slot 49 (by decide) l49
        rw [hv49] at s49
        refine wpOp_value (v := .bool true) (W' := W) rfl rfl ?_ (hK _ _ (LKeep.refl _ _ _) rfl)
        go_simp
      | 51, hoi, hom =>
        have l50 := haft _ rfl { on := 50, ground := .guard } (by simp) rfl
        have hv50 : vs 50 = .bool true := hpv 50 l50
        have s50 : ao.tmps[104]?.getD undef = vs 50 := hU.slot 50 (by decide) l50
        rw [hv50] at s50
        have z13 : ao.tmps[13]?.getD undef = .slice A6 0 q6 := hU.same 13 (by decide)
        refine wpOp_wanted (v := .slice A6 0 q6) (W' := W) rfl ?_ ?_ (hK _ _ (LKeep.refl _ _ _) rfl)
        · refine wanted_yes (j := 50) (d := 104) ?_ ?_ s50 <;> rfl
        go_simp
      | 52, hoi, hom =>
        have l50 := haft _ rfl { on := 50, ground := .guard } (by simp) rfl
        have hv50 : vs 50 = .bool true := hpv 50 l50
        have s50 : ao.tmps[104]?.getD undef = vs 50 := hU.slot 50 (by decide) l50
        rw [hv50] at s50
        have l51 := haft _ rfl { on := 51, ground := .data } (by simp) rfl
        have hv51 : vs 51 = .slice A6 0 q6 := hpv 51 l51
        have s51 : ao.tmps[105]?.getD undef = vs 51 := hU.slot 51 (by decide) l51
        rw [hv51] at s51
        refine wpOp_wanted (v := .int .i64 (0 : Nat)) (W' := W) rfl ?_ ?_ (hK _ _ (LKeep.refl _ _ _) rfl)
        · refine wanted_yes (j := 50) (d := 104) ?_ ?_ s50 <;> rfl
        go_simp
      | 53, hoi, hom =>
        have l50 := haft _ rfl { on := 50, ground := .guard } (by simp) rfl
        have hv50 : vs 50 = .bool true := hpv 50 l50
        have s50 : ao.tmps[104]?.getD undef = vs 50 := hU.slot 50 (by decide) l50
        rw [hv50] at s50
        have l52 := haft _ rfl { on := 52, ground := .data } (by simp) rfl
        have hv52 : vs 52 = .int .i64 (0 : Nat) := hpv 52 l52
        have s52 : ao.tmps[106]?.getD undef = vs 52 := hU.slot 52 (by decide) l52
        rw [hv52] at s52
        refine wpOp_wanted (v := .bool true) (W' := W) rfl ?_ ?_ (hK _ _ (LKeep.refl _ _ _) rfl)
        · refine wanted_yes (j := 50) (d := 104) ?_ ?_ s50 <;> rfl
        go_simp
      | 54, hoi, hom =>
        have l50 := haft _ rfl { on := 50, ground := .data } (by simp) rfl
        have hv50 : vs 50 = .bool true := hpv 50 l50
        have s50 : ao.tmps[104]?.getD undef = vs 50 := hU.slot 50 (by decide) l50
        rw [hv50] at s50
        have l53 := haft _ rfl { on := 53, ground := .data } (by simp) rfl
        have hv53 : vs 53 = .bool true := hpv 53 l53
        have s53 : ao.tmps[107]?.getD undef = vs 53 := hU.slot 53 (by decide) l53
        rw [hv53] at s53
        refine wpOp_value (v := .bool true) (W' := W) rfl rfl ?_ (hK _ _ (LKeep.refl _ _ _) rfl)
        go_simp
      | 55, hoi, hom =>
        have l54 := haft _ rfl { on := 54, ground := .data } (by simp) rfl
        have hv54 : vs 54 = .bool true := hpv 54 l54
        have s54 : ao.tmps[108]?.getD undef = vs 54 := hU.slot 54 (by decide) l54
        rw [hv54] at s54
        refine wpOp_value (v := .bool true) (W' := W) rfl rfl ?_ (hK _ _ (LKeep.refl _ _ _) rfl)
        go_simp
      | 56, hoi, hom =>
        have l55 := haft _ rfl { on := 55, ground := .guard } (by simp) rfl
        have hv55 : vs 55 = .bool true := hpv 55 l55
        have s55 : ao.tmps[109]?.getD undef = vs 55 := hU.slot 55 (by decide) l55
        rw [hv55] at s55
        have z15 : ao.tmps[15]?.getD undef = .slice A7 0 q7 := hU.same 15 (by decide)
        refine wpOp_wanted (v := .slice A7 0 q7) (W' := W) rfl ?_ ?_ (hK _ _ (LKeep.refl _ _ _) rfl)
        · refine wanted_yes (j := 55) (d := 109) ?_ ?_ s55 <;> rfl
        go_simp
      | 57, hoi, hom =>
        have l55 := haft _ rfl { on := 55, ground := .guard } (by simp) rfl
        have hv55 : vs 55 = .bool true := hpv 55 l55
        have s55 : ao.tmps[109]?.getD undef = vs 55 := hU.slot 55 (by decide) l55
        rw [hv55] at s55
        have l56 := haft _ rfl { on := 56, ground := .data } (by simp) rfl
        have hv56 : vs 56 = .slice A7 0 q7 := hpv 56 l56
        have s56 : ao.tmps[110]?.getD undef = vs 56 := hU.slot 56 (by decide) l56
        rw [hv56] at s56
        refine wpOp_wanted (v := .int .i64 (0 : Nat)) (W' := W) rfl ?_ ?_ (hK _ _ (LKeep.refl _ _ _) rfl)
        · refine wanted_yes (j := 55) (d := 109) ?_ ?_ s55 <;> rfl
        go_simp
      | 58, hoi, hom =>
        have l55 := haft _ rfl { on := 55, ground := .guard } (by simp) rfl
        have hv55 : vs 55 = .bool true := hpv 55 l55
        have s55 : ao.tmps[109]?.getD undef = vs 55 := hU.slot 55 (by decide) l55
        rw [hv55] at s55
        have l57 := haft _ rfl { on := 57, ground := .data } (by simp) rfl
        have hv57 : vs 57 = .int .i64 (0 : Nat) := hpv 57 l57
        have s57 : ao.tmps[111]?.getD undef = vs 57 := hU.slot 57 (by decide) l57
        rw [hv57] at s57
        refine wpOp_wanted (v := .bool true) (W' := W) rfl ?_ ?_ (hK _ _ (LKeep.refl _ _ _) rfl)
        · refine wanted_yes (j := 55) (d := 109) ?_ ?_ s55 <;> rfl
        go_simp
      | 59, hoi, hom =>
        have l55 := haft _ rfl { on := 55, ground := .data } (by simp) rfl
        have hv55 : vs 55 = .bool true := hpv 55 l55
        have s55 : ao.tmps[109]?.getD undef = vs 55 := hU.slot 55 (by decide) l55
        rw [hv55] at s55
        have l58 := haft _ rfl { on := 58, ground := .data } (by simp) rfl
        have hv58 : vs 58 = .bool true := hpv 58 l58
        have s58 : ao.tmps[112]?.getD undef = vs 58 := hU.slot 58 (by decide) l58
        rw [hv58] at s58
        refine wpOp_value (v := .bool true) (W' := W) rfl rfl ?_ (hK _ _ (LKeep.refl _ _ _) rfl)
        go_simp
      | 60, hoi, hom =>
        have l59 := haft _ rfl { on := 59, ground := .data } (by simp) rfl
        have hv59 : vs 59 = .bool true := hpv 59 l59
        have s59 : ao.tmps[113]?.getD undef = vs 59 := hU.slot 59 (by decide) l59
        rw [hv59] at s59
        refine wpOp_value (v := .bool true) (W' := W) rfl rfl ?_ (hK _ _ (LKeep.refl _ _ _) rfl)
        go_simp
      | 61, hoi, hom =>
        have l60 := haft _ rfl { on := 60, ground := .guard } (by simp) rfl
        have hv60 : vs 60 = .bool true := hpv 60 l60
        have s60 : ao.tmps[114]?.getD undef = vs 60 := hU.slot 60 (by decide) l60
        rw [hv60] at s60
        refine wpOp_enterW (f := 13) (args := #[]) (W' := W) rfl ?_ ?_ ((awake_any W).mono (fun e w'' h => ?_))
        · refine wanted_yes (j := 60) (d := 114) ?_ ?_ s60 <;> rfl
        · go_simp
        · obtain ⟨he, hbw⟩ := h
          exact ⟨_, he, hK _ _ (LKeep.below hbw (fun h => h)) rfl⟩
      | 62, hoi, hom =>
        have l60 := haft _ rfl { on := 60, ground := .data } (by simp) rfl
        have hv60 : vs 60 = .bool true := hpv 60 l60
        have s60 : ao.tmps[114]?.getD undef = vs 60 := hU.slot 60 (by decide) l60
        rw [hv60] at s60
        have l61 := haft _ rfl { on := 61, ground := .data } (by simp) rfl
        have hv61 : vs 61 = .bool true := hpv 61 l61
        have s61 : ao.tmps[115]?.getD undef = vs 61 := hU.slot 61 (by decide) l61
        rw [hv61] at s61
        refine wpOp_value (v := .bool true) (W' := W) rfl rfl ?_ (hK _ _ (LKeep.refl _ _ _) rfl)
        go_simp
      | 63, hoi, hom =>
        have l62 := haft _ rfl { on := 62, ground := .data } (by simp) rfl
        have hv62 : vs 62 = .bool true := hpv 62 l62
        have s62 : ao.tmps[116]?.getD undef = vs 62 := hU.slot 62 (by decide) l62
        rw [hv62] at s62
        refine wpOp_value (v := .bool true) (W' := W) rfl rfl ?_ (hK _ _ (LKeep.refl _ _ _) rfl)
        go_simp
      | oi + 64, hoi, hom => exact absurd (of_decide_eq_true hom) (by omega)
    case hend =>
      intro listed vs ao W hG hGU hk0 hpv hpre
      have hkk := (LKeep.drew (fun _ => False) (M := fun _ => True) y7 (fun h => h)).trans hk0
      have hk := hkk.1
      have hkm := hkk.2
      clear hkk
      have hT := hG.lst hpre 0 #[true, true, true, true, true, true, true, true, true, true, true, true, true, true, true, true, true, true, true, true, true, true, true, true, true, true, true, true, true, true, true, true, true, true, true, true, true, true, true, true, true, true, true, true, true, true, true, true, true, true, true, true, true, true, true, true, true, true, true, true, true, true, true, true] rfl (by kernel_rfl) (hpre 0 (by decide) (by decide))
      have h0 : ao.tmps[0]?.getD undef = vs 63 := hGU.slot 63 (by decide) (hpre 63 (by decide) (by decide))
      have hv : vs 63 = .bool true := hpv 63 (hpre 63 (by decide) (by decide))
      have hdf := hG.defers
      rw [hG.lo hT (k := 0) (by kernel_rfl)]
      subst hT
      refine wpAny_done (by kernel_rfl) ?_ _
      exact ⟨rfl, h0.trans hv, hdf, hk⟩
  case imp =>
    rintro ⟨tm, df⟩ W ⟨h0, hd, hk⟩
    simp only at h0 hd
    subst hd
    have HBZ := hide (HB.out.trans ((hk.below (B := y7.heap.size) (fun k h => h.elim) (Nat.le_refl _)).mono HB.out.size))
    clear hk
    go_wp2_with fail
    exact bodyPost_ret (v := .bool true) (by simp [results, Try.results4, go_sem, h0]) rfl ⟨rfl, HBZ.out⟩

end Go.Proofs.Ytllmahcanipcpaa
