/- The contract of the reference's With of chapter 07: a cargo with one more lot. -/
import Derived.Test.YtbkknliggnhpcaaBlk
import Derived.Test.YtbkknliggnhpcaaRefJ
import Derived.Test.YtbkknliggnhpcaaLawA
set_option linter.unusedVariables false
set_option linter.unusedSimpArgs false
namespace Go.Proofs.Ytbkknliggnhpcaa
open Go.RowKit
attribute [local go_sem ↓] Go.wp_at_zero Go.wp_at_succ

set_option maxHeartbeats 1000000 in
set_option maxRecDepth 100000 in
theorem with7_any {A1 A2 A3 A4 : Option Addr} {c1 c2 c3 c4 : Nat} {c : Cargo} {w : World} (h : CargoV w w.heap.size c A1 A2 A3 A4 c1 c2 c3 c4) (l : Lot) (hn : c.lots.length ≤ 1000000) :
    Calls Try.prog 98 #[cargoVal c A1 A2 A3 A4 c1 c2 c3 c4, .agg #[.int .i64 l.hold, .int .i64 l.frm, .int .i64 l.green.lo, .int .i64 l.green.hi]] w fun e w' =>
      ∃ A cp, e = .returned (cargoVal (withLot c l) A1 A2 A A4 c1 c2 cp c4) ∧ CargoV w' w'.heap.size (withLot c l) A1 A2 A A4 c1 c2 cp c4 ∧ Below w.heap.size w w' := by
  obtain ⟨i4, hi4, hz40, hz41, hz42⟩ := info_parts Try.infoLot
  have bb : Blk (((w.alloc (.cells #[.slice A1 c.heat.length c1, .int .i64 c.gas, .slice A2 c.holds.length c2, .slice A3 c.lots.length c3, .slice A4 c.seen.length c4] 27)).alloc (.cells #[.int .i64 l.hold, .int .i64 l.frm, .int .i64 l.green.lo, .int .i64 l.green.hi] 57)).alloc (.cells #[.slice none 0 0, .int .i64 0, .slice none 0 0, .slice none 0 0, .slice none 0 0] 27)) w.heap.size 27 #[.slice A1 c.heat.length c1, .int .i64 c.gas, .slice A2 c.holds.length c2, .slice A3 c.lots.length c3, .slice A4 c.seen.length c4] := (Blk.made.alloc _).alloc _
  have bl : Blk (((w.alloc (.cells #[.slice A1 c.heat.length c1, .int .i64 c.gas, .slice A2 c.holds.length c2, .slice A3 c.lots.length c3, .slice A4 c.seen.length c4] 27)).alloc (.cells #[.int .i64 l.hold, .int .i64 l.frm, .int .i64 l.green.lo, .int .i64 l.green.hi] 57)).alloc (.cells #[.slice none 0 0, .int .i64 0, .slice none 0 0, .slice none 0 0, .slice none 0 0] 27)) (w.heap.size + 1) 57 #[.int .i64 l.hold, .int .i64 l.frm, .int .i64 l.green.lo, .int .i64 l.green.hi] := (Blk.made' (by simp)).alloc _
  have br : Blk (((w.alloc (.cells #[.slice A1 c.heat.length c1, .int .i64 c.gas, .slice A2 c.holds.length c2, .slice A3 c.lots.length c3, .slice A4 c.seen.length c4] 27)).alloc (.cells #[.int .i64 l.hold, .int .i64 l.frm, .int .i64 l.green.lo, .int .i64 l.green.hi] 57)).alloc (.cells #[.slice none 0 0, .int .i64 0, .slice none 0 0, .slice none 0 0, .slice none 0 0] 27)) (w.heap.size + 1 + 1) 27 #[.slice none 0 0, .int .i64 0, .slice none 0 0, .slice none 0 0, .slice none 0 0] := Blk.made' (by simp)
  have hB0 : Below w.heap.size w (((w.alloc (.cells #[.slice A1 c.heat.length c1, .int .i64 c.gas, .slice A2 c.holds.length c2, .slice A3 c.lots.length c3, .slice A4 c.seen.length c4] 27)).alloc (.cells #[.int .i64 l.hold, .int .i64 l.frm, .int .i64 l.green.lo, .int .i64 l.green.hi] 57)).alloc (.cells #[.slice none 0 0, .int .i64 0, .slice none 0 0, .slice none 0 0, .slice none 0 0] 27)) := (((Below.refl _ _).alloc (Nat.le_refl _) _).alloc (by simp) _).alloc (by simp; omega) _
  have hs1 : (((w.alloc (.cells #[.slice A1 c.heat.length c1, .int .i64 c.gas, .slice A2 c.holds.length c2, .slice A3 c.lots.length c3, .slice A4 c.seen.length c4] 27)).alloc (.cells #[.int .i64 l.hold, .int .i64 l.frm, .int .i64 l.green.lo, .int .i64 l.green.hi] 57)).alloc (.cells #[.slice none 0 0, .int .i64 0, .slice none 0 0, .slice none 0 0, .slice none 0 0] 27)).heap.size = w.heap.size + 3 := by simp
  have BB := hide bb
  have BL := hide bl
  have BR := hide br
  have HB0 := hide hB0
  have HS1 := hide hs1
  have HC := hide h
  have HL := hide (h.lots.below hB0)
  clear bb bl br hB0 hs1 h
  go_enter Try.func98, Try.ntmps98
  go_upto_region 1 with (fail)
  generalize (((w.alloc (.cells #[.slice A1 c.heat.length c1, .int .i64 c.gas, .slice A2 c.holds.length c2, .slice A3 c.lots.length c3, .slice A4 c.seen.length c4] 27)).alloc (.cells #[.int .i64 l.hold, .int .i64 l.frm, .int .i64 l.green.lo, .int .i64 l.green.hi] 57)).alloc (.cells #[.slice none 0 0, .int .i64 0, .slice none 0 0, .slice none 0 0, .slice none 0 0] 27)) = w0 at *
  have pb3 : w0.cell? ⟨w.heap.size, 3, none⟩ = some (.slice A3 c.lots.length c3) := BB.out.at_ 3
  have pf3 := BB.out.free 3
  have pl0 : w0.cell? ⟨w.heap.size + 1, 0, none⟩ = some (.int .i64 l.hold) := BL.out.at_ 0
  have pl1 : w0.cell? ⟨w.heap.size + 1, 1, none⟩ = some (.int .i64 l.frm) := BL.out.at_ 1
  have pl2 : w0.cell? ⟨w.heap.size + 1, 2, none⟩ = some (.int .i64 l.green.lo) := BL.out.at_ 2
  have pl3 : w0.cell? ⟨w.heap.size + 1, 3, none⟩ = some (.int .i64 l.green.hi) := BL.out.at_ 3
  have z0 : w.heap.size < w0.heap.size := BB.out.lt
  have z1 : w.heap.size + 1 < w0.heap.size := BL.out.lt
  have z2 : w.heap.size + 1 + 1 < w0.heap.size := BR.out.lt
  refine wp_post0 (fun act0 a W => ∃ vs : Nat → Value, a = { tmps := setAll (fun i => [5, 6, 7, 8, 9, 10, 11, 12, 0].getD i 0) vs [0, 1, 2, 3, 4, 5, 6, 7] act0.tmps, defers := act0.defers } ∧ ∃ (W1 : World) (A : Option Addr) (cp : Nat), W = W1.setCell ⟨w.heap.size, 3, none⟩ (.slice A (c.lots.length + 1) cp) ∧ Below w0.heap.size w0 W1 ∧ W1.ownsRow w0.heap.size 57 4 (.slice A (c.lots.length + 1) cp) (c.lots.length + 1) ((List.range (c.lots.length * 4)).map (lotsF c.lots) ++ (List.range (1 * 4)).map (fun j => ([.int .i64 l.hold, .int .i64 l.frm, .int .i64 l.green.lo, .int .i64 l.green.hi] : List Value).getD j undef))) ?reg ?imp
  case reg =>
    have hST : Stab w0.heap.size (fun i v W => match i with | 0 => ∃ A cp, v = .slice A 0 cp ∧ W.ownsRow w0.heap.size 57 4 (.slice A 0 cp) 0 ([]) | 1 => v = .pointer (some ⟨w.heap.size, 3, none⟩) | 2 => v = .slice A3 c.lots.length c3 | 3 => ∃ A cp, v = .slice A c.lots.length cp ∧ W.ownsRow w0.heap.size 57 4 (.slice A c.lots.length cp) c.lots.length ((List.range (c.lots.length * 4)).map (lotsF c.lots)) | 4 => v = .agg #[.int .i64 l.hold, .int .i64 l.frm, .int .i64 l.green.lo, .int .i64 l.green.hi] | 5 => ∃ A cp, v = .slice A 1 cp ∧ W.ownsRow w0.heap.size 57 4 (.slice A 1 cp) 1 ([.int .i64 l.hold, .int .i64 l.frm, .int .i64 l.green.lo, .int .i64 l.green.hi]) | 6 => ∃ A cp, v = .slice A (c.lots.length + 1) cp ∧ W.ownsRow w0.heap.size 57 4 (.slice A (c.lots.length + 1) cp) (c.lots.length + 1) ((List.range (c.lots.length * 4)).map (lotsF c.lots) ++ (List.range (1 * 4)).map (fun j => [.int .i64 l.hold, .int .i64 l.frm, .int .i64 l.green.lo, .int .i64 l.green.hi].getD j undef)) | _ => True) (fun i v b => match i with | 0 => v.ownBlock = some b | 3 => v.ownBlock = some b | 5 => v.ownBlock = some b | 6 => v.ownBlock = some b | _ => False) := by
      intro i v W W' h hbs hz hk
      match i, h, hk with
      | 0, h, hk => obtain ⟨A, cp, rfl, h2⟩ := h; exact ⟨A, cp, rfl, own_stab h2 (fun b hb e => hk b hb (.inr e))⟩
      | 1, h, hk => exact h
      | 2, h, hk => exact h
      | 3, h, hk => obtain ⟨A, cp, rfl, h2⟩ := h; exact ⟨A, cp, rfl, own_stab h2 (fun b hb e => hk b hb (.inr e))⟩
      | 4, h, hk => exact h
      | 5, h, hk => obtain ⟨A, cp, rfl, h2⟩ := h; exact ⟨A, cp, rfl, own_stab h2 (fun b hb e => hk b hb (.inr e))⟩
      | 6, h, hk => obtain ⟨A, cp, rfl, h2⟩ := h; exact ⟨A, cp, rfl, own_stab h2 (fun b hb e => hk b hb (.inr e))⟩
      | i + 7, h, hk => exact trivial
    refine wp_region_inv (dst := fun i => [5, 6, 7, 8, 9, 10, 11, 12, 0].getD i 0) (mono := fun i => decide (i < 7)) (pre := fun i => decide (i < 7)) (G := Loose 9 w0.heap.size (fun i => match i with | 0 => 3 | 3 => 6 | _ => 9) (fun i v W => match i with | 0 => ∃ A cp, v = .slice A 0 cp ∧ W.ownsRow w0.heap.size 57 4 (.slice A 0 cp) 0 ([]) | 1 => v = .pointer (some ⟨w.heap.size, 3, none⟩) | 2 => v = .slice A3 c.lots.length c3 | 3 => ∃ A cp, v = .slice A c.lots.length cp ∧ W.ownsRow w0.heap.size 57 4 (.slice A c.lots.length cp) c.lots.length ((List.range (c.lots.length * 4)).map (lotsF c.lots)) | 4 => v = .agg #[.int .i64 l.hold, .int .i64 l.frm, .int .i64 l.green.lo, .int .i64 l.green.hi] | 5 => ∃ A cp, v = .slice A 1 cp ∧ W.ownsRow w0.heap.size 57 4 (.slice A 1 cp) 1 ([.int .i64 l.hold, .int .i64 l.frm, .int .i64 l.green.lo, .int .i64 l.green.hi]) | 6 => ∃ A cp, v = .slice A (c.lots.length + 1) cp ∧ W.ownsRow w0.heap.size 57 4 (.slice A (c.lots.length + 1) cp) (c.lots.length + 1) ((List.range (c.lots.length * 4)).map (lotsF c.lots) ++ (List.range (1 * 4)).map (fun j => [.int .i64 l.hold, .int .i64 l.frm, .int .i64 l.green.lo, .int .i64 l.green.hi].getD j undef)) | _ => True) (fun i v b => match i with | 0 => v.ownBlock = some b | 3 => v.ownBlock = some b | 5 => v.ownBlock = some b | 6 => v.ownBlock = some b | _ => False)) (by kernel_rfl) (by kernel_rfl) (Loose.start (Nat.le_refl _)) ?hstep ?hend
    case hstep =>
      intro i hi hm listed vs a W hU hsz hG hcl hl haft K hK
      have hb := ((Below.refl w0.heap.size w0).drew).trans hU.below
      have hF := Loose.stepF hU hG hST hi hK
      match i, hi, hm with
      | 0, hi, hm =>
        refine wpOp_value (v := .slice (some ⟨W.heap.size, 0, none⟩) 0 0) (W' := (W.alloc (.cells #[] 57))) rfl rfl ?_ (hF _ _ ((Below.refl _ _).alloc (Nat.le_refl _) _) (own_lit hG.base #[] 0 rfl (by simp [maxLen])) (fun b h => by rw [← own_new h]; exact ⟨by simp, .inl (Nat.le_refl _)⟩))
        go_simp
      | 1, hi, hm =>
        have z2 : a.tmps[2]?.getD undef = .pointer (some ⟨w.heap.size, 0, none⟩) := hU.same 2 (by decide)
        refine wpOp_value (v := .pointer (some ⟨w.heap.size, 3, none⟩)) (W' := W) rfl rfl ?_ (hF _ _ (Below.refl _ _) rfl (fun _ h => False.elim h))
        go_simp
      | 2, hi, hm =>
        have l1 := haft _ rfl { on := 1, ground := .data } (by simp) rfl
        have p1 := hG.pv 1 (by decide) (live_end hsz rfl l1)
        have s1 : a.tmps[6]?.getD undef = vs 1 := hU.slot 1 (by decide) l1
        have hv1 : vs 1 = .pointer (some ⟨w.heap.size, 3, none⟩) := p1
        rw [hv1] at s1
        have y0 := (hb.cell (p := ⟨w.heap.size, 3, none⟩) (z0)).trans (pb3)
        refine wpOp_value (v := .slice A3 c.lots.length c3) (W' := W) rfl rfl ?_ (hF _ _ (Below.refl _ _) rfl (fun _ h => False.elim h))
        go_simp
      | 3, hi, hm =>
        have l0 := haft _ rfl { on := 0, ground := .data } (by simp) rfl
        have p0 := hG.pv 0 (by decide) (⟨l0, hl⟩)
        have s0 : a.tmps[5]?.getD undef = vs 0 := hU.slot 0 (by decide) l0
        obtain ⟨PA0, kp0, hv0, hi0⟩ := p0
        rw [hv0] at s0
        have l2 := haft _ rfl { on := 2, ground := .data } (by simp) rfl
        have p2 := hG.pv 2 (by decide) (live_end hsz rfl l2)
        have s2 : a.tmps[7]?.getD undef = vs 2 := hU.slot 2 (by decide) l2
        have hv2 : vs 2 = .slice A3 c.lots.length c3 := p2
        rw [hv2] at s2
        have hA := Loose.stepA (p := 0) hU hG rfl hST hi hK (by decide) (by decide) rfl ⟨l0, hl⟩ (fun b h => h) (by rw [hv0]; exact hi0)
        obtain ⟨v', W', hrun, hown', hg, hblk⟩ := run_app_row (P := Try.prog) W w0.heap.size 24 24 57 i4 (.agg #[.int .i64 0, .int .i64 0, .int .i64 0, .int .i64 0]) 4 32 Try.underlying24 hi4 hz40 hz41 hz42 rfl (by decide) hi0 (HL.out.below (hb.mono (Nat.le_of_lt z0))) (fun _ _ => rfl) (by simp only [maxLen]; omega) (by omega) hG.base
        rw [Nat.zero_add, List.nil_append] at hown'
        exact wpOp_append (s := 5) (x := 7) (v' := v') (W' := W') rfl rfl rfl s0 s2 hrun (hA _ _ _ _ (by rw [hv0]; exact hg) hown' (by rw [hv0]; exact hblk) (own_ex hown') (fun b h => h))
      | 4, hi, hm =>
        have z3 : a.tmps[3]?.getD undef = .pointer (some ⟨w.heap.size + 1, 0, none⟩) := hU.same 3 (by decide)
        have y0 := (hb.cell (p := ⟨w.heap.size + 1, 0, none⟩) (z1)).trans (pl0)
        have y1 := (hb.cell (p := ⟨w.heap.size + 1, 1, none⟩) (z1)).trans (pl1)
        have y2 := (hb.cell (p := ⟨w.heap.size + 1, 2, none⟩) (z1)).trans (pl2)
        have y3 := (hb.cell (p := ⟨w.heap.size + 1, 3, none⟩) (z1)).trans (pl3)
        refine wpOp_value (v := .agg #[.int .i64 l.hold, .int .i64 l.frm, .int .i64 l.green.lo, .int .i64 l.green.hi]) (W' := W) rfl rfl ?_ (hF _ _ (Below.refl _ _) rfl (fun _ h => False.elim h))
        go_simp
      | 5, hi, hm =>
        have l4 := haft _ rfl { on := 4, ground := .data } (by simp) rfl
        have p4 := hG.pv 4 (by decide) (live_end hsz rfl l4)
        have s4 : a.tmps[9]?.getD undef = vs 4 := hU.slot 4 (by decide) l4
        have hv4 : vs 4 = .agg #[.int .i64 l.hold, .int .i64 l.frm, .int .i64 l.green.lo, .int .i64 l.green.hi] := p4
        rw [hv4] at s4
        refine wpOp_value (v := .slice (some ⟨W.heap.size, 0, none⟩) 1 1) (W' := (W.alloc (.cells #[.int .i64 l.hold, .int .i64 l.frm, .int .i64 l.green.lo, .int .i64 l.green.hi] 57))) rfl rfl ?_ (hF _ _ ((Below.refl _ _).alloc (Nat.le_refl _) _) (own_lit hG.base #[.int .i64 l.hold, .int .i64 l.frm, .int .i64 l.green.lo, .int .i64 l.green.hi] 1 rfl (by simp [maxLen])) (fun b h => by rw [← own_new h]; exact ⟨by simp, .inl (Nat.le_refl _)⟩))
        go_simp
      | 6, hi, hm =>
        have l3 := haft _ rfl { on := 3, ground := .data } (by simp) rfl
        have p3 := hG.pv 3 (by decide) (⟨l3, hl⟩)
        have s3 : a.tmps[8]?.getD undef = vs 3 := hU.slot 3 (by decide) l3
        obtain ⟨PA3, kp3, hv3, hi3⟩ := p3
        rw [hv3] at s3
        have l5 := haft _ rfl { on := 5, ground := .data } (by simp) rfl
        have p5 := hG.pv 5 (by decide) (live_end hsz rfl l5)
        have s5 : a.tmps[10]?.getD undef = vs 5 := hU.slot 5 (by decide) l5
        obtain ⟨PA5, kp5, hv5, hi5⟩ := p5
        rw [hv5] at s5
        obtain ⟨_, _, e5, _, _, hr5⟩ := row_own hi5
        obtain ⟨rfl, rfl⟩ : _ = PA5 ∧ _ = kp5 := by simp only [Value.slice.injEq, true_and] at e5; exact ⟨e5.1.symm, e5.2.symm⟩
        have hA := Loose.stepA (p := 3) hU hG rfl hST hi hK (by decide) (by decide) rfl ⟨l3, hl⟩ (fun b h => h) (by rw [hv3]; exact hi3)
        obtain ⟨v', W', hrun, hown', hg, hblk⟩ := run_app_row (P := Try.prog) W w0.heap.size 24 24 57 i4 (.agg #[.int .i64 0, .int .i64 0, .int .i64 0, .int .i64 0]) 4 32 Try.underlying24 hi4 hz40 hz41 hz42 rfl (by decide) hi3 hr5 (one4 _ _ _ _) (by simp only [maxLen]; omega) (by omega) hG.base
        exact wpOp_append (s := 8) (x := 10) (v' := v') (W' := W') rfl rfl rfl s3 s5 hrun (hA _ _ _ _ (by rw [hv3]; exact hg) hown' (by rw [hv3]; exact hblk) (own_ex hown') (fun b h => h))
      | i + 7, hi, hm => exact absurd (of_decide_eq_true hm) (by omega)
    case hend =>
      intro listed vs a W hG0 hG hpre
      have hb := ((Below.refl w0.heap.size w0).drew).trans hG0.below
      have hact := hG0.act
      have hT := hG0.lst hpre 0 #[true, true, true, true, true, true, true, false, false] rfl (by kernel_rfl) (hpre 0 (by decide) (by decide))
      rw [hG0.ix hT (l := [0, 1, 2, 3, 4, 5, 6]) (by kernel_rfl)] at hact
      rw [hG0.lo hT (k := 2) (by kernel_rfl)]
      have p6 := hG.pv 6 (by decide) (live_end hG.size rfl (hpre 6 (by decide) (by decide)))
      clear hpre hG hST
      obtain rfl : a = _ := hact
      subst hT
      obtain ⟨A, cp, hv6, hi6⟩ := p6
      have y3 := (hb.cell (p := ⟨w.heap.size, 3, none⟩) z0).trans pb3
      have f3 := (hb.frozen (p := ⟨w.heap.size, 3, none⟩) z0).trans pf3
      simp only [setAll, List.setIfInBounds_toArray, List.set_cons_succ, List.set_cons_zero, List.getD_cons_succ, List.getD_cons_zero]
      refine wpAny_all (rs := [7]) (by kernel_rfl) (by simp) ?_
      intro i hi
      obtain rfl : i = 7 := by simpa using hi
      refine wpOp_value (v := .pointer (some ⟨w.heap.size, 3, none⟩)) (W' := W) rfl rfl ?_ ?_
      · go_simp
      refine wpAny_all (rs := [8]) (by kernel_rfl) (by simp) ?_
      intro i hi
      obtain rfl : i = 8 := by simpa using hi
      refine wpOp_skip (W' := W.setCell ⟨w.heap.size, 3, none⟩ (.slice A (c.lots.length + 1) cp)) rfl rfl ?_ ?_
      · rw [hv6]; go_simp
      refine wpAny_done (by kernel_rfl) ?_ _
      exact ⟨rfl, fun j => if j = 7 then .pointer (some ⟨w.heap.size, 3, none⟩) else vs j, rfl, W, A, cp, rfl, hb, hi6⟩
  case imp =>
  rintro a w2 ⟨vs, rfl, W1, A, cp, rfl, hb1, hown⟩
  simp only [setAll, List.setIfInBounds_toArray, List.set_cons_succ, List.set_cons_zero, List.getD_cons_succ, List.getD_cons_zero]
  rw [lots_snoc] at hown
  have b0 := (BB.out.below hb1 z0).store 3 (.slice A (c.lots.length + 1) cp)
  have b2 := (BR.out.below hb1 z2).else_ (p := ⟨w.heap.size, 3, none⟩) (by show _ ≠ w.heap.size; omega) (.slice A (c.lots.length + 1) cp)
  have hk1 : Keep (fun q => q < w.heap.size + 3 ∧ w.heap.size ≤ q) W1 (W1.setCell ⟨w.heap.size, 3, none⟩ (.slice A (c.lots.length + 1) cp)) := Keep.setCell _ _ _ (fun q => q < w.heap.size + 3 ∧ w.heap.size ≤ q) (by show _ < _ ∧ _; simp)
  have hown2 := own_kept hown hk1 (fun b hb hS => by have := HS1.out; omega)
  have HOWN := hide hown2
  have HBW := hide ((HB0.out.trans (hb1.mono (Nat.le_of_lt z0))).setCell (p := ⟨w.heap.size, 3, none⟩) (Nat.le_refl _) (.slice A (c.lots.length + 1) cp))
  have hzz := hb1.size
  have hsz2 : (W1.setCell ⟨w.heap.size, 3, none⟩ (.slice A (c.lots.length + 1) cp)).heap.size = W1.heap.size := by simp
  have b0' : Blk (W1.setCell ⟨w.heap.size, 3, none⟩ (.slice A (c.lots.length + 1) cp)) w.heap.size 27 #[.slice A1 c.heat.length c1, .int .i64 c.gas, .slice A2 c.holds.length c2, .slice A (c.lots.length + 1) cp, .slice A4 c.seen.length c4] := b0
  clear pb3 pf3 pl0 pl1 pl2 pl3 hi4 hz40 hz41 hz42 hown hown2 hk1 hb1 b0
  generalize W1.setCell ⟨w.heap.size, 3, none⟩ (.slice A (c.lots.length + 1) cp) = W2 at *
  have d0 : W2.cell? ⟨w.heap.size, 0, none⟩ = some _ := b0'.at_ 0
  have d1 : W2.cell? ⟨w.heap.size, 1, none⟩ = some _ := b0'.at_ 1
  have d2 : W2.cell? ⟨w.heap.size, 2, none⟩ = some _ := b0'.at_ 2
  have d3 : W2.cell? ⟨w.heap.size, 3, none⟩ = some _ := b0'.at_ 3
  have d4 : W2.cell? ⟨w.heap.size, 4, none⟩ = some _ := b0'.at_ 4
  have e0 : W2.cell? ⟨w.heap.size + 1 + 1, 0, none⟩ = some _ := b2.at_ 0
  have e1 : W2.cell? ⟨w.heap.size + 1 + 1, 1, none⟩ = some _ := b2.at_ 1
  have e2 : W2.cell? ⟨w.heap.size + 1 + 1, 2, none⟩ = some _ := b2.at_ 2
  have e3 : W2.cell? ⟨w.heap.size + 1 + 1, 3, none⟩ = some _ := b2.at_ 3
  have e4 : W2.cell? ⟨w.heap.size + 1 + 1, 4, none⟩ = some _ := b2.at_ 4
  have f0 := b2.free 0
  have f1 := b2.free 1
  have f2 := b2.free 2
  have f3 := b2.free 3
  have f4 := b2.free 4
  clear b0' b2
  go_wp2_with fail
  have hkF := keep5 W2 (w.heap.size + 1 + 1) (.slice A1 c.heat.length c1) (.int .i64 c.gas) (.slice A2 c.holds.length c2) (.slice A (c.lots.length + 1) cp) (.slice A4 c.seen.length c4)
  have hBF := ((((HBW.out.setCell (p := ⟨w.heap.size + 1 + 1, 0, none⟩) (by show w.heap.size ≤ w.heap.size + 1 + 1; omega) (.slice A1 c.heat.length c1)).setCell (p := ⟨w.heap.size + 1 + 1, 1, none⟩) (by show w.heap.size ≤ w.heap.size + 1 + 1; omega) (.int .i64 c.gas)).setCell (p := ⟨w.heap.size + 1 + 1, 2, none⟩) (by show w.heap.size ≤ w.heap.size + 1 + 1; omega) (.slice A2 c.holds.length c2)).setCell (p := ⟨w.heap.size + 1 + 1, 3, none⟩) (by show w.heap.size ≤ w.heap.size + 1 + 1; omega) (.slice A (c.lots.length + 1) cp)).setCell (p := ⟨w.heap.size + 1 + 1, 4, none⟩) (by show w.heap.size ≤ w.heap.size + 1 + 1; omega) (.slice A4 c.seen.length c4)
  refine bodyPost_ret (v := .agg #[.slice A1 c.heat.length c1, .int .i64 c.gas, .slice A2 c.holds.length c2, .slice A (c.lots.length + 1) cp, .slice A4 c.seen.length c4]) ?_ rfl ?_
  · simp [results, Try.results98, go_sem, e0, e1, e2, e3, e4, f0, f1, f2, f3, f4]
  · have ho := own_kept HOWN.out hkF (fun b hb hS => by have := HS1.out; omega)
    obtain ⟨m1, m2, hr⟩ := row_fun (f := lotsF (c.lots ++ [l])) (m := c.lots.length + 1) (by simpa using ho)
    have hz := hBF.size
    refine ⟨A, cp, ?_, ⟨(HC.out.heat.below hBF).more hz, (HC.out.holds.below hBF).more hz, ?_, (HC.out.seen.below hBF).more hz, HC.out.m1, HC.out.m2, ?_, HC.out.m4⟩, hBF⟩
    · simp [cargoVal, withLot]
    · simpa [withLot] using hr
    · simpa [withLot] using ⟨m1, m2⟩
end Go.Proofs.Ytbkknliggnhpcaa
