/- The contract of turn's Turns. -/
import Derived.Test.YtbkknliggnhpcaaGG
import Derived.Deep.DeepCutAuto
set_option linter.unusedVariables false
set_option linter.unusedSimpArgs false
namespace Go.Proofs.Ytbkknliggnhpcaa
open Go.RowKit
attribute [local go_sem ↓] Go.wp_at_zero Go.wp_at_succ

def turnsV (c : Cargo) (lot : Int) : (List Int × Int) × Int :=
  let E := enterE c [(noneQ c.lots.length [lot], (4 : Int))]
  if E ≠ 0 then (([0, 0], 0), E) else
    let T := truthsS c (nth c.lots lot.toNat).hold.toNat 0
    (((spanL c lot.toNat T).2, settledM (cntB (turnsAns c lot.toNat) T) T.length), 0)

set_option maxHeartbeats 4000000 in
set_option maxRecDepth 100000 in
theorem turns_any {A1 A2 A3 A4 : Option Addr} {c1 c2 c3 c4 : Nat} {c : Cargo} {w : World} (h : CargoV w w.heap.size c A1 A2 A3 A4 c1 c2 c3 c4) (lot : Int) :
    Calls Try.prog 18 #[cargoVal c A1 A2 A3 A4 c1 c2 c3 c4, .int .i64 lot] w fun e w' => e = .returned (.tuple #[.agg #[.int .i64 (nth (turnsV c lot).1.1 0), .int .i64 (nth (turnsV c lot).1.1 1)], .int .i64 (turnsV c lot).1.2, .int .i64 (turnsV c lot).2]) ∧ Below w.heap.size w w' := by
  have hm3 := h.m3
  unfold maxLen at hm3
  go_enter Try.func18, Try.ntmps18
  go_wp2_with fail
  have hB0 : Below w.heap.size w (((w.alloc (.cells #[.slice A1 c.heat.length c1, .int .i64 c.gas, .slice A2 c.holds.length c2, .slice A3 c.lots.length c3, .slice A4 c.seen.length c4] 27)).alloc (.cells #[.int .i64 lot] 3)).alloc (.cells #[.int .i64 0, .int .i64 0] 32)) := (((Below.refl _ _).alloc (Nat.le_refl _) _).alloc (by simp) _).alloc (by simp; omega) _
  have hcl : ∀ o : Nat, (((w.alloc (.cells #[.slice A1 c.heat.length c1, .int .i64 c.gas, .slice A2 c.holds.length c2, .slice A3 c.lots.length c3, .slice A4 c.seen.length c4] 27)).alloc (.cells #[.int .i64 lot] 3)).alloc (.cells #[.int .i64 0, .int .i64 0] 32)).cell? ⟨w.heap.size, o, none⟩ = (#[Value.slice A1 c.heat.length c1, .int .i64 c.gas, .slice A2 c.holds.length c2, .slice A3 c.lots.length c3, .slice A4 c.seen.length c4])[o]? := fun o => by
    rw [World.cell?_alloc_past _ _ _ (by simp; omega), World.cell?_alloc_past _ _ _ (by simp), World.cell?_alloc_at _ _ _ _ rfl]
  have pl1 : (((w.alloc (.cells #[.slice A1 c.heat.length c1, .int .i64 c.gas, .slice A2 c.holds.length c2, .slice A3 c.lots.length c3, .slice A4 c.seen.length c4] 27)).alloc (.cells #[.int .i64 lot] 3)).alloc (.cells #[.int .i64 0, .int .i64 0] 32)).cell? ⟨w.heap.size + 1, 0, none⟩ = some (.int .i64 lot) := by
    rw [World.cell?_alloc_past _ _ _ (by simp), World.cell?_alloc_at _ _ _ _ (by simp)]; rfl
  have hsp : OwnE 32 (((w.alloc (.cells #[.slice A1 c.heat.length c1, .int .i64 c.gas, .slice A2 c.holds.length c2, .slice A3 c.lots.length c3, .slice A4 c.seen.length c4] 27)).alloc (.cells #[.int .i64 lot] 3)).alloc (.cells #[.int .i64 0, .int .i64 0] 32)) w.heap.size (w.heap.size + 1 + 1) 2 [0, 0] := by
    have := (OwnE.made2 ((w.alloc (.cells #[.slice A1 c.heat.length c1, .int .i64 c.gas, .slice A2 c.holds.length c2, .slice A3 c.lots.length c3, .slice A4 c.seen.length c4] 27)).alloc (.cells #[.int .i64 lot] 3)) 32 0 0).base (base' := w.heap.size) (by simp; omega)
    simpa using this
  have hz0 : (((w.alloc (.cells #[.slice A1 c.heat.length c1, .int .i64 c.gas, .slice A2 c.holds.length c2, .slice A3 c.lots.length c3, .slice A4 c.seen.length c4] 27)).alloc (.cells #[.int .i64 lot] 3)).alloc (.cells #[.int .i64 0, .int .i64 0] 32)).heap.size = w.heap.size + 1 + 1 + 1 := by simp
  generalize (((w.alloc (.cells #[.slice A1 c.heat.length c1, .int .i64 c.gas, .slice A2 c.holds.length c2, .slice A3 c.lots.length c3, .slice A4 c.seen.length c4] 27)).alloc (.cells #[.int .i64 lot] 3)).alloc (.cells #[.int .i64 0, .int .i64 0] 32)) = w0 at *
  have pb0 := hcl 0
  have pb1 := hcl 1
  have pb2 := hcl 2
  have pb3 := hcl 3
  have pb4 := hcl 4
  simp only [List.getElem?_toArray, List.getElem?_cons_succ, List.getElem?_cons_zero] at pb0 pb1 pb2 pb3 pb4
  have HB0 := hide hB0
  have HCV := hide h
  have HSP := hide hsp
  clear hcl h hB0 hsp
  refine wp_post (fun a W => ∃ (g : Nat) (p : Option Addr) (x0 x1 x2 x3 x4 x5 x6 x7 x8 x9 x10 x11 : Value), a = ⟨#[cargoVal c A1 A2 A3 A4 c1 c2 c3 c4, .int .i64 lot, .pointer (some ⟨w.heap.size, 0, none⟩), .pointer (some ⟨w.heap.size + 1, 0, none⟩), .pointer (some ⟨w.heap.size + 1 + 1, 0, none⟩), .int .i64 0, .int .i64 (enterE c [(noneQ c.lots.length [lot], (4 : Int))]), .pointer (some ⟨g, 0, none⟩), undef, x9, x0, x1, x2, x3, x4, x5, x6, x7, x8, x10, x11, undef, undef, undef, undef, undef, undef, undef, undef, undef, undef, undef, undef, undef, undef, undef, undef], []⟩ ∧ Below w0.heap.size w0 W ∧ EntryP W w.heap.size c A1 A2 A3 A4 c1 c2 c3 c4 [(noneQ c.lots.length [lot], (4 : Int))] p ∧ w0.heap.size ≤ g ∧ g < W.heap.size ∧ W.cell? ⟨g, 0, none⟩ = some (.pointer p) ∧ W.frozen? ⟨g, 0, none⟩ = false) ?reg ?imp
  case reg =>
    refine wp_region_grow2 (dst := fun i => [10, 11, 12, 13, 14, 15, 16, 17, 18, 9, 19, 20, 7].getD i 0) (mono := fun i => decide (i < 13)) (pre := fun i => decide (i < 13) && i != 11)
      (Pv := fun i v W => match i with
        | 0 => v = (.agg #[.slice A1 c.heat.length c1, .int .i64 c.gas, .slice A2 c.holds.length c2, .slice A3 c.lots.length c3, .slice A4 c.seen.length c4])
        | 1 => v = .pointer (some ⟨w.heap.size, 3, none⟩)
        | 2 => v = .slice A3 c.lots.length c3
        | 3 => v = .int .i64 (c.lots.length : Nat)
        | 4 => v = .int .i64 lot
        | 5 => ∃ A cp, v = .slice A 1 cp ∧ IntsS W W.heap.size A 1 cp [lot]
        | 6 => v = .agg #[.bool (noneQ c.lots.length [lot]), .int .i64 4]
        | 7 => ∃ A cp, v = .slice A 1 cp ∧ Row W W.heap.size A (1 * 2) (askedF [(noneQ c.lots.length [lot], (4 : Int))])
        | 8 => ∃ p, v = .tuple #[.pointer p, .int .i64 (enterE c [(noneQ c.lots.length [lot], (4 : Int))])] ∧ EntryP W w.heap.size c A1 A2 A3 A4 c1 c2 c3 c4 [(noneQ c.lots.length [lot], (4 : Int))] p
        | 9 => ∃ p, v = .tuple #[.pointer p, .int .i64 (enterE c [(noneQ c.lots.length [lot], (4 : Int))])] ∧ EntryP W w.heap.size c A1 A2 A3 A4 c1 c2 c3 c4 [(noneQ c.lots.length [lot], (4 : Int))] p
        | 10 => ∃ p, v = .pointer p ∧ EntryP W w.heap.size c A1 A2 A3 A4 c1 c2 c3 c4 [(noneQ c.lots.length [lot], (4 : Int))] p
        | 11 => v = .int .i64 (enterE c [(noneQ c.lots.length [lot], (4 : Int))])
        | 12 => ∃ g, v = .pointer (some ⟨g, 0, none⟩) ∧ w0.heap.size ≤ g ∧ g < W.heap.size ∧ W.cell? ⟨g, 0, none⟩ = some (.pointer none) ∧ W.frozen? ⟨g, 0, none⟩ = false
        | _ => True) (by kernel_rfl) (by kernel_rfl) ?hst ?hstep ?hend
    case hst =>
      intro i v W W' h hb
      match i, h with
      | 0, h => exact h
      | 1, h => exact h
      | 2, h => exact h
      | 3, h => exact h
      | 4, h => exact h
      | 5, h => (obtain ⟨A, cp, h1, h2⟩ := h; exact ⟨A, cp, h1, h2.next hb⟩)
      | 6, h => exact h
      | 7, h => (obtain ⟨A, cp, h1, h2⟩ := h; exact ⟨A, cp, h1, (h2.below hb).more hb.size⟩)
      | 8, h => (obtain ⟨p, h1, h2⟩ := h; exact ⟨p, h1, h2.below hb⟩)
      | 9, h => (obtain ⟨p, h1, h2⟩ := h; exact ⟨p, h1, h2.below hb⟩)
      | 10, h => (obtain ⟨p, h1, h2⟩ := h; exact ⟨p, h1, h2.below hb⟩)
      | 11, h => exact h
      | 12, h => (obtain ⟨g, h1, h2, h3, h4, h5⟩ := h; exact ⟨g, h1, h2, by have := hb.size; omega, (hb.cell (p := ⟨g, 0, none⟩) h3).trans h4, (hb.frozen (p := ⟨g, 0, none⟩) h3).trans h5⟩)
      | i + 13, h => exact trivial
    case hstep =>
      intro i hi hm listed vs a W hU haft K hK
      have hb := ((Below.refl w0.heap.size w0).drew).trans hU.below
      have hz : w.heap.size < w0.heap.size := by omega
      match i, hi, hm with
      | 0, hi, hm =>
        have z2 : a.tmps[2]?.getD undef = .pointer (some ⟨w.heap.size, 0, none⟩) := hU.same 2 (by decide)
        have y0 := (hb.cell (p := ⟨w.heap.size, 0, none⟩) hz).trans pb0
        have y1 := (hb.cell (p := ⟨w.heap.size, 1, none⟩) hz).trans pb1
        have y2 := (hb.cell (p := ⟨w.heap.size, 2, none⟩) hz).trans pb2
        have y3 := (hb.cell (p := ⟨w.heap.size, 3, none⟩) hz).trans pb3
        have y4 := (hb.cell (p := ⟨w.heap.size, 4, none⟩) hz).trans pb4
        refine wpOp_value (v := (.agg #[.slice A1 c.heat.length c1, .int .i64 c.gas, .slice A2 c.holds.length c2, .slice A3 c.lots.length c3, .slice A4 c.seen.length c4])) (W' := W) rfl rfl ?_ (hK _ _ (Below.refl _ _) rfl)
        go_simp
      | 1, hi, hm =>
        have z2 : a.tmps[2]?.getD undef = .pointer (some ⟨w.heap.size, 0, none⟩) := hU.same 2 (by decide)
        refine wpOp_value (v := .pointer (some ⟨w.heap.size, 3, none⟩)) (W' := W) rfl rfl ?_ (hK _ _ (Below.refl _ _) rfl)
        go_simp
      | 2, hi, hm =>
        have l1 := haft _ rfl { on := 1, ground := .data } (by simp) rfl
        have p1 := hU.pv 1 l1
        have s1 : a.tmps[11]?.getD undef = vs 1 := hU.slot 1 (by decide) l1
        have hv1 : vs 1 = .pointer (some ⟨w.heap.size, 3, none⟩) := p1
        rw [hv1] at s1
        have y3 := (hb.cell (p := ⟨w.heap.size, 3, none⟩) hz).trans pb3
        refine wpOp_value (v := .slice A3 c.lots.length c3) (W' := W) rfl rfl ?_ (hK _ _ (Below.refl _ _) rfl)
        go_simp
      | 3, hi, hm =>
        have l2 := haft _ rfl { on := 2, ground := .data } (by simp) rfl
        have p2 := hU.pv 2 l2
        have s2 : a.tmps[12]?.getD undef = vs 2 := hU.slot 2 (by decide) l2
        have hv2 : vs 2 = .slice A3 c.lots.length c3 := p2
        rw [hv2] at s2
        refine wpOp_value (v := .int .i64 (c.lots.length : Nat)) (W' := W) rfl rfl ?_ (hK _ _ (Below.refl _ _) rfl)
        go_simp
      | 4, hi, hm =>
        have z3 : a.tmps[3]?.getD undef = .pointer (some ⟨w.heap.size + 1, 0, none⟩) := hU.same 3 (by decide)
        have cl := (hb.cell (p := ⟨w.heap.size + 1, 0, none⟩) (by show w.heap.size + 1 < _; omega)).trans pl1
        refine wpOp_value (v := .int .i64 lot) (W' := W) rfl rfl ?_ (hK _ _ (Below.refl _ _) rfl)
        go_simp
      | 5, hi, hm =>
        have l4 := haft _ rfl { on := 4, ground := .data } (by simp) rfl
        have p4 := hU.pv 4 l4
        have s4 : a.tmps[14]?.getD undef = vs 4 := hU.slot 4 (by decide) l4
        have hv4 : vs 4 = .int .i64 lot := p4
        rw [hv4] at s4
        refine wpOp_value (v := .slice (some ⟨W.heap.size, 0, none⟩) 1 1) (W' := W.alloc (.cells #[.int .i64 lot] 3)) rfl rfl ?_ (hK _ _ ((Below.refl _ _).alloc (Nat.le_refl _) _) ⟨_, _, rfl, (IntsS.lit1 rfl lot).more (by simp)⟩)
        go_simp
      | 6, hi, hm =>
        have l3 := haft _ rfl { on := 3, ground := .data } (by simp) rfl
        have p3 := hU.pv 3 l3
        have s3 : a.tmps[13]?.getD undef = vs 3 := hU.slot 3 (by decide) l3
        have hv3 : vs 3 = .int .i64 (c.lots.length : Nat) := p3
        rw [hv3] at s3
        have l5 := haft _ rfl { on := 5, ground := .data } (by simp) rfl
        have p5 := hU.pv 5 l5
        have s5 : a.tmps[15]?.getD undef = vs 5 := hU.slot 5 (by decide) l5
        obtain ⟨A, cp, hv5, hi⟩ := p5
        rw [hv5] at s5
        refine wpOp_enter (f := 69) (args := #[.int .i64 (c.lots.length : Nat), .slice A 1 cp]) (W' := W) rfl rfl ?_ ((none_any hi (c.lots.length : Nat) (by omega)).mono (fun e w'' h => ?_))
        · go_simp
        · obtain ⟨he, hbw⟩ := h
          exact ⟨_, he, hK _ _ hbw rfl⟩
      | 7, hi, hm =>
        have l6 := haft _ rfl { on := 6, ground := .data } (by simp) rfl
        have p6 := hU.pv 6 l6
        have s6 : a.tmps[16]?.getD undef = vs 6 := hU.slot 6 (by decide) l6
        have hv6 : vs 6 = .agg #[.bool (noneQ c.lots.length [lot]), .int .i64 4] := p6
        rw [hv6] at s6
        refine wpOp_value (v := .slice (some ⟨W.heap.size, 0, none⟩) 1 1) (W' := W.alloc (.cells #[.bool (noneQ c.lots.length [lot]), .int .i64 4] 104)) rfl rfl ?_ (hK _ _ ((Below.refl _ _).alloc (Nat.le_refl _) _) ⟨_, _, rfl, askedRow1 (noneQ c.lots.length [lot], (4 : Int))⟩)
        go_simp
      | 8, hi, hm =>
        have l0 := haft _ rfl { on := 0, ground := .data } (by simp) rfl
        have p0 := hU.pv 0 l0
        have s0 : a.tmps[10]?.getD undef = vs 0 := hU.slot 0 (by decide) l0
        have hv0 : vs 0 = (.agg #[.slice A1 c.heat.length c1, .int .i64 c.gas, .slice A2 c.holds.length c2, .slice A3 c.lots.length c3, .slice A4 c.seen.length c4]) := p0
        rw [hv0] at s0
        have l7 := haft _ rfl { on := 7, ground := .data } (by simp) rfl
        have p7 := hU.pv 7 l7
        have s7 : a.tmps[17]?.getD undef = vs 7 := hU.slot 7 (by decide) l7
        obtain ⟨A, cp, hv7, hr⟩ := p7
        rw [hv7] at s7
        refine wpOp_enter (f := 68) (args := #[(.agg #[.slice A1 c.heat.length c1, .int .i64 c.gas, .slice A2 c.holds.length c2, .slice A3 c.lots.length c3, .slice A4 c.seen.length c4]), .slice A 1 cp]) (W' := W) rfl rfl ?_ ((enter_entry HCV.out (HB0.out.trans (hb.mono (by omega))) hr rfl (by omega) (fun j hj => match j, hj with | 0, _ => by simp [nth] | j + 1, hj => absurd hj (by omega))).mono (fun e w'' h => ?_))
        · go_simp
        · obtain ⟨p, he, h1, h2⟩ := h
          exact ⟨_, he, hK _ _ h2 ⟨p, rfl, h1⟩⟩
      | 9, hi, hm =>
        have l8 := haft _ rfl { on := 8, ground := .data } (by simp) rfl
        have p8 := hU.pv 8 l8
        have s8 : a.tmps[18]?.getD undef = vs 8 := hU.slot 8 (by decide) l8
        obtain ⟨p, hv8, hp⟩ := p8
        rw [hv8] at s8
        refine wpOp_value (v := .tuple #[.pointer p, .int .i64 (enterE c [(noneQ c.lots.length [lot], (4 : Int))])]) (W' := W) rfl rfl ?_ (hK _ _ (Below.refl _ _) ⟨p, rfl, hp⟩)
        go_simp
      | 10, hi, hm =>
        have l9 := haft _ rfl { on := 9, ground := .data } (by simp) rfl
        have p9 := hU.pv 9 l9
        have s9 : a.tmps[9]?.getD undef = vs 9 := hU.slot 9 (by decide) l9
        obtain ⟨p, hv9, hp⟩ := p9
        rw [hv9] at s9
        refine wpOp_value (v := .pointer p) (W' := W) rfl rfl ?_ (hK _ _ (Below.refl _ _) ⟨p, rfl, hp⟩)
        go_simp
      | 11, hi, hm =>
        have l9 := haft _ rfl { on := 9, ground := .data } (by simp) rfl
        have p9 := hU.pv 9 l9
        have s9 : a.tmps[9]?.getD undef = vs 9 := hU.slot 9 (by decide) l9
        obtain ⟨p, hv9, hp⟩ := p9
        rw [hv9] at s9
        refine wpOp_value (v := .int .i64 (enterE c [(noneQ c.lots.length [lot], (4 : Int))])) (W' := W) rfl rfl ?_ (hK _ _ (Below.refl _ _) rfl)
        go_simp
      | 12, hi, hm =>
        refine wpOp_value (v := .pointer (some ⟨W.heap.size, 0, none⟩)) (W' := W.alloc (.cells #[.pointer none] 100)) rfl rfl ?_ (hK _ _ ((Below.refl _ _).alloc (Nat.le_refl _) _) ⟨_, rfl, hb.size, by simp, by rw [World.cell?_alloc_at _ _ _ _ rfl]; rfl, World.frozen?_alloc_at _ _ _ _ rfl⟩)
        go_simp
      | i + 13, hi, hm => exact absurd (of_decide_eq_true hm) (by omega)
    case hend =>
      intro listed vs a W hG hpre
      have hb := ((Below.refl w0.heap.size w0).drew).trans hG.below
      obtain ⟨p, hvP, hp⟩ := hG.pv 10 (hpre 10 (by decide) (by decide))
      obtain ⟨g, hvC, g1, g2, g3, g4⟩ := hG.pv 12 (hpre 12 (by decide) (by decide))
      have hact := hG.act
      cases hl : listed.getD 11 false with
      | true =>
        have hvE : vs 11 = .int .i64 (enterE c [(noneQ c.lots.length [lot], (4 : Int))]) := hG.pv 11 hl
        have hT := hG.lst hpre 11 #[true, true, true, true, true, true, true, true, true, true, true, true, true, false, false] rfl (by kernel_rfl) (by rw [hl]; rfl)
        have hlo := hG.lo hT (k := 2) (by kernel_rfl)
        have hix := hG.ix hT (l := [0, 1, 2, 3, 4, 5, 6, 7, 8, 9, 10, 11, 12]) (by kernel_rfl)
        rw [hix] at hact
        obtain rfl : a = _ := hact
        rw [hlo]
        subst hT
        simp only [setAll, List.setIfInBounds_toArray, List.set_cons_succ, List.set_cons_zero, List.getD_cons_succ, List.getD_cons_zero, hvP, hvC, hvE]
        refine wpAny_all (rs := [13]) (by kernel_rfl) (by simp) ?_
        intro i hi
        obtain rfl : i = 13 := by simpa using hi
        refine wpOp_skip (W' := W.setCell ⟨g, 0, none⟩ (.pointer p)) rfl rfl ?_ ?_
        · go_simp
        refine wpAny_all (rs := [14]) (by kernel_rfl) (by simp) ?_
        intro i hi
        obtain rfl : i = 14 := by simpa using hi
        refine wpOp_value (v := .int .i64 (enterE c [(noneQ c.lots.length [lot], (4 : Int))])) (W' := W.setCell ⟨g, 0, none⟩ (.pointer p)) rfl rfl ?_ ?_
        · go_simp
        refine wpAny_done (by kernel_rfl) ?_ _
        refine ⟨rfl, g, p, _, _, _, _, _, _, _, _, _, _, _, _, rfl, hb.setCell g1 _, hp.store (by omega) g3 (fun _ _ _ h => by cases h), g1, by simpa using g2, ?_, ?_⟩
        · go_simp
        · go_simp
      | false =>
        have hT := hG.lst hpre 11 #[true, true, true, true, true, true, true, true, true, true, true, false, true, false, false] rfl (by kernel_rfl) (by rw [hl]; rfl)
        have hlo := hG.lo hT (k := 2 + 1) (by kernel_rfl)
        have hix := hG.ix hT (l := [0, 1, 2, 3, 4, 5, 6, 7, 8, 9, 10, 12]) (by kernel_rfl)
        rw [hix] at hact
        obtain rfl : a = _ := hact
        rw [hlo]
        subst hT
        obtain ⟨p', hv9, _⟩ := hG.pv 9 (hpre 9 (by decide) (by decide))
        simp only [setAll, List.setIfInBounds_toArray, List.set_cons_succ, List.set_cons_zero, List.getD_cons_succ, List.getD_cons_zero, hvP, hvC, hv9]
        refine wpAny_take (i := 11) (v := .int .i64 (enterE c [(noneQ c.lots.length [lot], (4 : Int))])) rfl (by kernel_rfl) (by kernel_rfl) (by kernel_rfl) (fun _ _ _ h => by cases h.1) (Or.inl ⟨by rfl, fun W => ?_⟩) ?_
        · go_simp
        try simp only [Act.put, List.setIfInBounds_toArray, List.set_cons_zero, List.set_cons_succ]
        refine wpAny_all (rs := [13]) (by kernel_rfl) (by simp) ?_
        intro i hi
        obtain rfl : i = 13 := by simpa using hi
        refine wpOp_skip (W' := W.setCell ⟨g, 0, none⟩ (.pointer p)) rfl rfl ?_ ?_
        · go_simp
        refine wpAny_all (rs := [14]) (by kernel_rfl) (by simp) ?_
        intro i hi
        obtain rfl : i = 14 := by simpa using hi
        refine wpOp_value (v := .int .i64 (enterE c [(noneQ c.lots.length [lot], (4 : Int))])) (W' := W.setCell ⟨g, 0, none⟩ (.pointer p)) rfl rfl ?_ ?_
        · go_simp
        refine wpAny_done (by kernel_rfl) ?_ _
        refine ⟨rfl, g, p, _, _, _, _, _, _, _, _, _, _, _, _, rfl, hb.setCell g1 _, hp.store (by omega) g3 (fun _ _ _ h => by cases h), g1, by simpa using g2, ?_, ?_⟩
        · go_simp
        · go_simp
  case imp =>
  rintro a w1 ⟨g, p, x0, x1, x2, x3, x4, x5, x6, x7, x8, x9, x10, x11, rfl, hB1, HP, hg1, hg2, hgc, hgf⟩
  have hz1 := hB1.size
  have HB1 := hide (HB0.out.trans (hB1.mono (by omega)))
  have HS1 := hide (HSP.out.below hB1 HSP.out.lt.2)
  have pl1 := (hB1.cell (p := ⟨w.heap.size + 1, 0, none⟩) (by show w.heap.size + 1 < _; omega)).trans pl1
  have pb3 := (hB1.cell (p := ⟨w.heap.size, 3, none⟩) (by show w.heap.size < _; omega)).trans pb3
  have HV1 := hide (HCV.out.below HB1.out)
  have hs0 := HS1.out.cell (i := 0) (by omega)
  have hs1 := HS1.out.cell (i := 1) (by omega)
  have hf0 := HS1.out.frozen 0
  have hf1 := HS1.out.frozen 1
  rw [nth2_0] at hs0
  rw [nth2_1] at hs1
  have HE := hide (show turnsV c lot = if enterE c [(noneQ c.lots.length [lot], (4 : Int))] ≠ 0 then (([0, 0], 0), enterE c [(noneQ c.lots.length [lot], (4 : Int))]) else
    (((spanL c lot.toNat (truthsS c (nth c.lots lot.toNat).hold.toNat 0)).2, settledM (cntB (turnsAns c lot.toNat) (truthsS c (nth c.lots lot.toNat).hold.toNat 0)) (truthsS c (nth c.lots lot.toNat).hold.toNat 0).length), 0) from rfl)
  have HP1 := hide HP
  have HF := hide (fun h => firstAsk_zero (c := c) (xs := [(noneQ c.lots.length [lot], (4 : Int))]) h (by simp))
  clear hB1 HB0 HSP pb0 pb1 pb2 pb4 HP
  unfold EntryP at HP1
  generalize enterE c [(noneQ c.lots.length [lot], (4 : Int))] = E at *
  clear HCV
  cases hce : (E != 0) with
  | true =>
    have HNE := hide (show E ≠ 0 by simpa using hce)
    go_wp2_with fail
    refine bodyPost_ret (v := .tuple #[.agg #[.int .i64 0, .int .i64 0], .int .i64 0, .int .i64 E]) ?_ rfl ?_
    · simp [results, Try.results18, go_sem, hs0, hs1, hf0, hf1]
    · have hR := HE.out
      rw [if_pos HNE.out] at hR
      rw [hR]
      exact ⟨rfl, (HB1.out.setCell (by simp; omega) _).setCell (by simp; omega) _⟩
  | false =>
    have hE : E = 0 := by simpa using hce
    obtain ⟨hv, b, bm, rfl, hb, hbm, hlk⟩ := HP1.out hE
    obtain ⟨hx, _⟩ := HF.out hE
    have hlot := noneQ_one (hx (noneQ c.lots.length [lot], 4) (by simp))
    obtain ⟨lot, rfl⟩ : ∃ k : Nat, lot = (k : Int) := ⟨lot.toNat, by omega⟩
    have hlt : lot < c.lots.length := by omega
    obtain ⟨bl, ol, rfl, hbl, t0, t1, t2, t3⟩ := HV1.out.lots.lots hlt
    have hval := hv.lot lot hlt
    have hR := HE.out
    rw [if_neg (by simp [hE]), Int.toNat_natCast] at hR
    have HR := hide hR
    have HLK := hide hlk
    have HV := hide hv
    have hbz := hlk.hb
    have hmz := hlk.hm
    have hgb : b ≠ g := by
      rintro rfl
      rw [hlk.q0] at hgc; cases hgc
    have hgm : g ≠ bm := hlk.k.ne hgc
    have hbx : w.heap.size + 1 ≠ bm := hlk.k.ne pl1
    have hbx0 : w.heap.size ≠ bm := hlk.k.ne pb3
    have hbs : w.heap.size + 1 + 1 ≠ bm := hlk.k.ne hs0
    have hbb : b ≠ w.heap.size + 1 + 1 := by
      rintro rfl
      rw [hlk.q0] at hs0; cases hs0
    have hlot5 := hv.lots
    have hholds := hv.holds
    clear hx hlk hv hR HE HF HP1
    go_upto_region 5 with (fail)
    have hA : Below w1.heap.size w1 (w1.alloc (.cells #[.bool true] 4)) := (Below.refl _ _).alloc (Nat.le_refl _) _
    have hfc : (w1.alloc (.cells #[.bool true] 4)).cell? ⟨w1.heap.size, 0, none⟩ = some (.bool true) := by rw [World.cell?_alloc_at _ _ _ _ rfl]; rfl
    have hff : (w1.alloc (.cells #[.bool true] 4)).frozen? ⟨w1.heap.size, 0, none⟩ = false := World.frozen?_alloc_at _ _ _ _ rfl
    have hz2 : (w1.alloc (.cells #[.bool true] 4)).heap.size = w1.heap.size + 1 := by simp
    generalize (w1.alloc (.cells #[.bool true] 4)) = w2 at *
    have hAd : Below w1.heap.size w1 w2.drew := hA.drew
    have u0 := (hA.cell (p := ⟨g, 0, none⟩) hg2).trans hgc
    have u1 := (hA.cell (p := ⟨w.heap.size, 3, none⟩) (by show w.heap.size < _; omega)).trans pb3
    have u2 := (hA.cell (p := ⟨w.heap.size + 1, 0, none⟩) (by show w.heap.size + 1 < _; omega)).trans pl1
    have u3 := (hA.cell (p := ⟨bl, ol + lot * 4, none⟩) (by show bl < _; omega)).trans t0
    have HL2 := hide (HLK.out.keep' (Keep.of_below' hAd (fun _ => False)) (fun _ h => h.elim))
    have hK0 : T1K (w.heap.size + 1) g w1.heap.size (w.heap.size + 1 + 1) b w.heap.size lot c [] w2.drew := ⟨u2, u0, hfc, hff, HS1.out.below hAd HS1.out.lt.2⟩
    have hspz := HS1.out.lt.2
    have hzd : w2.drew.heap.size = w1.heap.size + 1 := hz2
    have HQ := hide (turns_q (L := w.heap.size) (bm := bm) (hold := (nth c.lots lot).hold.toNat) (but := 0) (A1 := A1) (A2 := A2) (A3 := some ⟨bl, ol, none⟩) (A4 := A4) (c1 := c1) (c2 := c2) (c3 := c3) (c4 := c4) HV.out hlt hK0 ⟨hbx, hgm, by omega, hbs⟩ ⟨by omega, hbb⟩ (by omega) ⟨by omega, by omega⟩ ⟨by omega, by omega⟩ ⟨by omega, by omega⟩)
    have HB2 := hide (HB1.out.trans (hAd.mono (by omega)))
    clear hA hAd HLK hK0 hfc hff pb3 pl1 hgc hs0 hs1 hf0 hf1 hgf t0 t1 t2 t3 HB1 HS1
    have hh : ((nth c.lots lot).hold.toNat : Int) = (nth c.lots lot).hold := by omega
    have hask := ask_any HL2.out HV.out (by omega) (by omega) HQ.out
    rw [hh] at hask
    have HASK := hide hask
    clear hask
    have hl0 : (0 : Int) ≤ (lot : Int) := Int.natCast_nonneg _
    have hl1 : (lot : Int) < (c.lots.length : Int) := by omega
    obtain ⟨S, hSd⟩ : ∃ S : World → Prop, S = (fun W' : World => W'.cell? ⟨g, 0, none⟩ = some (.pointer (some ⟨b, 0, none⟩)) ∧ W'.cell? ⟨w.heap.size, 3, none⟩ = some (.slice (some ⟨bl, ol, none⟩) c.lots.length c3) ∧ W'.cell? ⟨w.heap.size + 1, 0, none⟩ = some (.int .i64 (lot : Int)) ∧ W'.cell? ⟨bl, ol + lot * 4, none⟩ = some (.int .i64 (nth c.lots lot).hold)) := ⟨_, rfl⟩
    have HSD := hide hSd
    clear hSd
    refine wp_region_held_drew (S := S) (by kernel_rfl) (by rw [HSD.out]; exact ⟨u0, u1, u2, u3⟩) (fun hHeld => ?_)
    clear u0 u1 u2 u3
    refine wpAnyH_take (i := 0) (v := ?_) rfl (by kernel_rfl) (by kernel_rfl) (by kernel_rfl) (fun _ _ _ h => h) (Or.inl ⟨by rfl, fun W hSw => ?_⟩) hHeld ?_
    rotate_left
    · rw [HSD.out] at hSw; obtain ⟨s0, s1, s2, s3⟩ := hSw; go_simp; try rfl
    simp only [Act.put, List.setIfInBounds_toArray, List.set_cons_zero, List.set_cons_succ]
    refine wpAnyH_take (i := 1) (v := ?_) rfl (by kernel_rfl) (by kernel_rfl) (by kernel_rfl) (fun _ _ _ h => h) (Or.inl ⟨by rfl, fun W hSw => ?_⟩) hHeld ?_
    rotate_left
    · rw [HSD.out] at hSw; obtain ⟨s0, s1, s2, s3⟩ := hSw; go_simp; try rfl
    simp only [Act.put, List.setIfInBounds_toArray, List.set_cons_zero, List.set_cons_succ]
    refine wpAnyH_take (i := 2) (v := ?_) rfl (by kernel_rfl) (by kernel_rfl) (by kernel_rfl) (fun _ _ _ h => h) (Or.inl ⟨by rfl, fun W hSw => ?_⟩) hHeld ?_
    rotate_left
    · rw [HSD.out] at hSw; obtain ⟨s0, s1, s2, s3⟩ := hSw; go_simp; try rfl
    simp only [Act.put, List.setIfInBounds_toArray, List.set_cons_zero, List.set_cons_succ]
    refine wpAnyH_take (i := 3) (v := ?_) rfl (by kernel_rfl) (by kernel_rfl) (by kernel_rfl) (fun _ _ _ h => h) (Or.inl ⟨by rfl, fun W hSw => ?_⟩) hHeld ?_
    rotate_left
    · rw [HSD.out] at hSw; obtain ⟨s0, s1, s2, s3⟩ := hSw; go_simp; try rfl
    simp only [Act.put, List.setIfInBounds_toArray, List.set_cons_zero, List.set_cons_succ]
    refine wpAnyH_take (i := 4) (v := ?_) rfl (by kernel_rfl) (by kernel_rfl) (by kernel_rfl) (fun _ _ _ h => h) (Or.inl ⟨by rfl, fun W hSw => ?_⟩) hHeld ?_
    rotate_left
    · rw [HSD.out] at hSw; obtain ⟨s0, s1, s2, s3⟩ := hSw; go_simp; try rfl
    simp only [Act.put, List.setIfInBounds_toArray, List.set_cons_zero, List.set_cons_succ]
    refine wpAnyH_take (i := 5) (v := ?_) rfl (by kernel_rfl) (by kernel_rfl) (by kernel_rfl) (fun _ _ _ h => h) (Or.inl ⟨by rfl, fun W hSw => ?_⟩) hHeld ?_
    rotate_left
    · rw [HSD.out] at hSw; obtain ⟨s0, s1, s2, s3⟩ := hSw; go_simp; try rfl
    simp only [Act.put, List.setIfInBounds_toArray, List.set_cons_zero, List.set_cons_succ]
    refine wpAnyH_take (i := 6) (v := ?_) rfl (by kernel_rfl) (by kernel_rfl) (by kernel_rfl) (fun _ _ _ h => h) (Or.inl ⟨by rfl, fun W hSw => ?_⟩) hHeld ?_
    rotate_left
    · rw [HSD.out] at hSw; obtain ⟨s0, s1, s2, s3⟩ := hSw; go_simp; try rfl
    simp only [Act.put, List.setIfInBounds_toArray, List.set_cons_zero, List.set_cons_succ]
    refine wpAnyH_take (i := 7) (v := ?_) rfl (by kernel_rfl) (by kernel_rfl) (by kernel_rfl) (fun _ _ _ h => h) (Or.inl ⟨by rfl, fun W hSw => ?_⟩) hHeld ?_
    rotate_left
    · rw [HSD.out] at hSw; obtain ⟨s0, s1, s2, s3⟩ := hSw; go_simp; try rfl
    simp only [Act.put, List.setIfInBounds_toArray, List.set_cons_zero, List.set_cons_succ]
    refine wpAnyH_take (i := 8) (v := ?_) rfl (by kernel_rfl) (by kernel_rfl) (by kernel_rfl) (fun _ _ _ h => h) (Or.inl ⟨by rfl, fun W hSw => ?_⟩) hHeld ?_
    rotate_left
    · rw [HSD.out] at hSw; obtain ⟨s0, s1, s2, s3⟩ := hSw; go_simp; try rfl
    simp only [Act.put, List.setIfInBounds_toArray, List.set_cons_zero, List.set_cons_succ]
    refine wpAnyH_ready (rs := [9]) (by kernel_rfl) (by simp) ?_
    refine AllReadyH.cons rfl (fun K hK => ?_) AllReadyH.nil
    go_simp
    go_at_call 70
    refine HASK.out.mono ?_
    rintro e w3 ⟨rfl, hk3, hn3, hK3⟩
    refine hK.out _ _ (by rw [HSD.out] at hHeld ⊢; obtain ⟨s0, s1, s2, s3⟩ := hHeld; exact ⟨(hk3.cell (cell_lt s0) (by omega)).trans s0, (hk3.cell (cell_lt s1) (by omega)).trans s1, (hk3.cell (cell_lt s2) (by omega)).trans s2, (hk3.cell (cell_lt s3) (by omega)).trans s3⟩) (fun hHeld => ?_)
    clear hK K
    try simp only [Act.put, List.setIfInBounds_toArray, List.set_cons_zero, List.set_cons_succ]
    refine wpAnyH_take (i := 10) (v := ?_) rfl (by kernel_rfl) (by kernel_rfl) (by kernel_rfl) (fun _ _ _ h => h) (Or.inl ⟨by rfl, fun W hSw => ?_⟩) hHeld ?_
    rotate_left
    · rw [HSD.out] at hSw; obtain ⟨s0, s1, s2, s3⟩ := hSw; go_simp; try rfl
    simp only [Act.put, List.setIfInBounds_toArray, List.set_cons_zero, List.set_cons_succ]
    refine wpAnyH_done (by kernel_rfl) ?_ _
    simp only [List.getElem_toArray, List.getElem_cons_succ, List.getElem_cons_zero, List.set_cons_zero, List.set_cons_succ]
    obtain ⟨lo, hi, e2⟩ : ∃ lo hi, (spanL c lot (truthsS c (nth c.lots lot).hold.toNat 0)).2 = [lo, hi] := by
      match h' : (spanL c lot (truthsS c (nth c.lots lot).hold.toNat 0)).2, hK3.xs.len with
      | [lo, hi], _ => exact ⟨lo, hi, rfl⟩
    have hxs := hK3.xs
    rw [e2] at hxs
    have v0 := hxs.cell (i := 0) (by omega)
    have v1 := hxs.cell (i := 1) (by omega)
    have vf0 := hxs.frozen 0
    have vf1 := hxs.frozen 1
    rw [nth2_0] at v0
    rw [nth2_1] at v1
    have hR := HR.out
    rw [e2] at hR
    have HR := hide hR
    have HB3 := hide (HB2.out.trans (hk3.below (B := w.heap.size) (fun k h => by omega) (by omega)))
    have hz3 := hk3.size
    have hspz3 : w.heap.size + 1 + 1 < w3.heap.size := by omega
    generalize settledM (cntB (turnsAns c lot) (truthsS c (nth c.lots lot).hold.toNat 0)) (truthsS c (nth c.lots lot).hold.toNat 0).length = how at *
    clear hHeld hK3 hxs HSD HASK HQ e2 hR hk3 hn3
    go_wp2_with fail
    refine bodyPost_ret (v := .tuple #[.agg #[.int .i64 lo, .int .i64 hi], .int .i64 how, .int .i64 0]) ?_ rfl ?_
    · simp [results, Try.results18, go_sem, v0, v1, vf0, vf1]
    · rw [HR.out]
      exact ⟨rfl, (HB3.out.setCell (by simp; omega) _).setCell (by simp; omega) _⟩
end Go.Proofs.Ytbkknliggnhpcaa
/- The contract of turn's First. -/
namespace Go.Proofs.Ytbkknliggnhpcaa
open Go.RowKit
attribute [local go_sem ↓] Go.wp_at_zero Go.wp_at_succ

def firstAns (c : Cargo) (lot : Nat) (s : St) : Bool := decide (nth (timesV c s) lot < (c.heat.length : Int) + 1) && decide (minTo (timesV c s) 4 = nth (timesV c s) lot)
theorem first_q {w : World} {L b bm bl g k hold : Nat} {c : Cargo} {A1 A2 A3 A4 : Option Addr} {c1 c2 c3 c4 but : Nat} (hv : Valid c) (hk : k < 5) (hl : w.cell? ⟨bl, 0, none⟩ = some (.int .i64 k)) (hg : w.cell? ⟨g, 0, none⟩ = some (.pointer (some ⟨b, 0, none⟩))) (hm : bl ≠ bm ∧ g ≠ bm) :
    QOk Try.prog 83 #[.pointer (some ⟨bl, 0, none⟩), .pointer (some ⟨g, 0, none⟩)] (firstAns c k) (fun k => k = bm) (fun _ V => V.cell? ⟨bl, 0, none⟩ = some (.int .i64 k) ∧ V.cell? ⟨g, 0, none⟩ = some (.pointer (some ⟨b, 0, none⟩)) ∧ bl < w.heap.size ∧ g < w.heap.size) w L bm b c A1 A2 A3 A4 c1 c2 c3 c4 but hold := by
  refine qok_simple (C := fun V => V.cell? ⟨bl, 0, none⟩ = some (.int .i64 k) ∧ V.cell? ⟨g, 0, none⟩ = some (.pointer (some ⟨b, 0, none⟩)) ∧ bl < w.heap.size ∧ g < w.heap.size) (enters_of Try.func83 (by kernel_rfl) rfl) ?_ ⟨hl, hg, cell_lt hl, cell_lt hg⟩ ?_
  · rintro V V' ⟨h1, h2, h3, h4⟩ hk
    exact ⟨(hk.cell (cell_lt h1) (by omega)).trans h1, (hk.cell (cell_lt h2) (by omega)).trans h2, h3, h4⟩
  · rintro s W _ hL ⟨h1, h2, h3, h4⟩
    refine (first1_any (s := s) (t := timesV c s) hk hv.hours h1 h2 hL.q0).mono ?_
    rintro e W' ⟨rfl, hb⟩
    exact ⟨rfl, Keep.of_below' hb _, hL.k.keep (Keep.of_below' hb (fun k => k = bm ∧ False)) (by simp)⟩

def firstIs (c : Cargo) (hold : Int) (i : Nat) : Bool := ((nth c.lots i).hold == hold) && (settledM (cntB (firstAns c i) (truthsS c hold.toNat 0)) (truthsS c hold.toNat 0).length != 2)
def firstTo (c : Cargo) (hold : Int) (k : Nat) : List Nat := (List.range k).filter (firstIs c hold)
theorem firstTo_succ (c : Cargo) (hold : Int) (k : Nat) : firstTo c hold (k + 1) = firstTo c hold k ++ if firstIs c hold k then [k] else [] := by
  simp only [firstTo, List.range_succ, List.filter_append, List.filter_cons, List.filter_nil]
def firstV (c : Cargo) (hold : Int) : List Nat × Int := if enterE c [(noneQ c.holds.length [hold], (4 : Int))] ≠ 0 then ([], enterE c [(noneQ c.holds.length [hold], (4 : Int))]) else (firstTo c hold c.lots.length, 0)

set_option maxHeartbeats 4000000 in
set_option maxRecDepth 100000 in
theorem first_any {A1 A2 A3 A4 : Option Addr} {c1 c2 c3 c4 : Nat} {c : Cargo} {w : World} (h : CargoV w w.heap.size c A1 A2 A3 A4 c1 c2 c3 c4) (hold : Int) :
    Calls Try.prog 24 #[cargoVal c A1 A2 A3 A4 c1 c2 c3 c4, .int .i64 hold] w fun e w' => ∃ A cp, e = .returned (.tuple #[.slice A (firstV c hold).1.length cp, .int .i64 (firstV c hold).2]) ∧ IntsS w' w'.heap.size A (firstV c hold).1.length cp (natInts (firstV c hold).1) ∧ Below w.heap.size w w' := by
  have hm3 := h.m3
  have hm2 := h.m2
  unfold maxLen at hm3 hm2
  go_enter Try.func24, Try.ntmps24
  go_wp2_with fail
  have hB0 : Below w.heap.size w (w.alloc (.cells #[.slice A1 c.heat.length c1, .int .i64 c.gas, .slice A2 c.holds.length c2, .slice A3 c.lots.length c3, .slice A4 c.seen.length c4] 27)) := (Below.refl _ _).alloc (Nat.le_refl _) _
  have hcl : ∀ o : Nat, (w.alloc (.cells #[.slice A1 c.heat.length c1, .int .i64 c.gas, .slice A2 c.holds.length c2, .slice A3 c.lots.length c3, .slice A4 c.seen.length c4] 27)).cell? ⟨w.heap.size, o, none⟩ = (#[Value.slice A1 c.heat.length c1, .int .i64 c.gas, .slice A2 c.holds.length c2, .slice A3 c.lots.length c3, .slice A4 c.seen.length c4])[o]? := fun o => by
    rw [World.cell?_alloc_at _ _ _ _ rfl]
  have hz0 : (w.alloc (.cells #[.slice A1 c.heat.length c1, .int .i64 c.gas, .slice A2 c.holds.length c2, .slice A3 c.lots.length c3, .slice A4 c.seen.length c4] 27)).heap.size = w.heap.size + 1 := by simp
  generalize (w.alloc (.cells #[.slice A1 c.heat.length c1, .int .i64 c.gas, .slice A2 c.holds.length c2, .slice A3 c.lots.length c3, .slice A4 c.seen.length c4] 27)) = w0 at *
  have pb0 := hcl 0
  have pb1 := hcl 1
  have pb2 := hcl 2
  have pb3 := hcl 3
  have pb4 := hcl 4
  simp only [List.getElem?_toArray, List.getElem?_cons_succ, List.getElem?_cons_zero] at pb0 pb1 pb2 pb3 pb4
  have HB0 := hide hB0
  have HCV := hide h
  clear hcl h hB0
  refine wp_post (fun a W => ∃ (g : Nat) (p : Option Addr) (x0 x1 x2 x3 x4 x5 x6 x7 x8 x9 x10 x11 : Value), a = ⟨#[cargoVal c A1 A2 A3 A4 c1 c2 c3 c4, .int .i64 hold, .pointer (some ⟨w.heap.size, 0, none⟩), undef, .slice none 0 0, .int .i64 (enterE c [(noneQ c.holds.length [hold], (4 : Int))]), .pointer (some ⟨g, 0, none⟩), undef, undef, undef, x9, x0, x1, x2, x3, x4, x5, x6, x7, x8, x10, x11, undef, undef, undef, undef, undef, undef, undef, undef, undef, undef, undef, undef, undef, undef, undef, undef, undef, undef, undef, undef, undef, undef, undef, undef, undef, undef, undef, undef, undef, undef], []⟩ ∧ Below w0.heap.size w0 W ∧ EntryP W w.heap.size c A1 A2 A3 A4 c1 c2 c3 c4 [(noneQ c.holds.length [hold], (4 : Int))] p ∧ w0.heap.size ≤ g ∧ g < W.heap.size ∧ W.cell? ⟨g, 0, none⟩ = some (.pointer p) ∧ W.frozen? ⟨g, 0, none⟩ = false) ?reg ?imp
  case reg =>
    refine wp_region_grow2 (dst := fun i => [11, 12, 13, 14, 15, 16, 17, 18, 19, 10, 20, 21, 6].getD i 0) (mono := fun i => decide (i < 13)) (pre := fun i => decide (i < 13) && i != 11)
      (Pv := fun i v W => match i with
        | 0 => v = (.agg #[.slice A1 c.heat.length c1, .int .i64 c.gas, .slice A2 c.holds.length c2, .slice A3 c.lots.length c3, .slice A4 c.seen.length c4])
        | 1 => v = .pointer (some ⟨w.heap.size, 2, none⟩)
        | 2 => v = .slice A2 c.holds.length c2
        | 3 => v = .int .i64 (c.holds.length : Nat)
        | 4 => v = .int .i64 hold
        | 5 => ∃ A cp, v = .slice A 1 cp ∧ IntsS W W.heap.size A 1 cp [hold]
        | 6 => v = .agg #[.bool (noneQ c.holds.length [hold]), .int .i64 4]
        | 7 => ∃ A cp, v = .slice A 1 cp ∧ Row W W.heap.size A (1 * 2) (askedF [(noneQ c.holds.length [hold], (4 : Int))])
        | 8 => ∃ p, v = .tuple #[.pointer p, .int .i64 (enterE c [(noneQ c.holds.length [hold], (4 : Int))])] ∧ EntryP W w.heap.size c A1 A2 A3 A4 c1 c2 c3 c4 [(noneQ c.holds.length [hold], (4 : Int))] p
        | 9 => ∃ p, v = .tuple #[.pointer p, .int .i64 (enterE c [(noneQ c.holds.length [hold], (4 : Int))])] ∧ EntryP W w.heap.size c A1 A2 A3 A4 c1 c2 c3 c4 [(noneQ c.holds.length [hold], (4 : Int))] p
        | 10 => ∃ p, v = .pointer p ∧ EntryP W w.heap.size c A1 A2 A3 A4 c1 c2 c3 c4 [(noneQ c.holds.length [hold], (4 : Int))] p
        | 11 => v = .int .i64 (enterE c [(noneQ c.holds.length [hold], (4 : Int))])
        | 12 => ∃ g, v = .pointer (some ⟨g, 0, none⟩) ∧ w0.heap.size ≤ g ∧ g < W.heap.size ∧ W.cell? ⟨g, 0, none⟩ = some (.pointer none) ∧ W.frozen? ⟨g, 0, none⟩ = false
        | _ => True) (by kernel_rfl) (by kernel_rfl) ?hst ?hstep ?hend
    case hst =>
      intro i v W W' h hb
      match i, h with
      | 0, h => exact h
      | 1, h => exact h
      | 2, h => exact h
      | 3, h => exact h
      | 4, h => exact h
      | 5, h => (obtain ⟨A, cp, h1, h2⟩ := h; exact ⟨A, cp, h1, h2.next hb⟩)
      | 6, h => exact h
      | 7, h => (obtain ⟨A, cp, h1, h2⟩ := h; exact ⟨A, cp, h1, (h2.below hb).more hb.size⟩)
      | 8, h => (obtain ⟨p, h1, h2⟩ := h; exact ⟨p, h1, h2.below hb⟩)
      | 9, h => (obtain ⟨p, h1, h2⟩ := h; exact ⟨p, h1, h2.below hb⟩)
      | 10, h => (obtain ⟨p, h1, h2⟩ := h; exact ⟨p, h1, h2.below hb⟩)
      | 11, h => exact h
      | 12, h => (obtain ⟨g, h1, h2, h3, h4, h5⟩ := h; exact ⟨g, h1, h2, by have := hb.size; omega, (hb.cell (p := ⟨g, 0, none⟩) h3).trans h4, (hb.frozen (p := ⟨g, 0, none⟩) h3).trans h5⟩)
      | i + 13, h => exact trivial
    case hstep =>
      intro i hi hm listed vs a W hU haft K hK
      have hb := ((Below.refl w0.heap.size w0).drew).trans hU.below
      have hz : w.heap.size < w0.heap.size := by omega
      match i, hi, hm with
      | 0, hi, hm =>
        have z2 : a.tmps[2]?.getD undef = .pointer (some ⟨w.heap.size, 0, none⟩) := hU.same 2 (by decide)
        have y0 := (hb.cell (p := ⟨w.heap.size, 0, none⟩) hz).trans pb0
        have y1 := (hb.cell (p := ⟨w.heap.size, 1, none⟩) hz).trans pb1
        have y2 := (hb.cell (p := ⟨w.heap.size, 2, none⟩) hz).trans pb2
        have y3 := (hb.cell (p := ⟨w.heap.size, 3, none⟩) hz).trans pb3
        have y4 := (hb.cell (p := ⟨w.heap.size, 4, none⟩) hz).trans pb4
        refine wpOp_value (v := (.agg #[.slice A1 c.heat.length c1, .int .i64 c.gas, .slice A2 c.holds.length c2, .slice A3 c.lots.length c3, .slice A4 c.seen.length c4])) (W' := W) rfl rfl ?_ (hK _ _ (Below.refl _ _) rfl)
        go_simp
      | 1, hi, hm =>
        have z2 : a.tmps[2]?.getD undef = .pointer (some ⟨w.heap.size, 0, none⟩) := hU.same 2 (by decide)
        refine wpOp_value (v := .pointer (some ⟨w.heap.size, 2, none⟩)) (W' := W) rfl rfl ?_ (hK _ _ (Below.refl _ _) rfl)
        go_simp
      | 2, hi, hm =>
        have l1 := haft _ rfl { on := 1, ground := .data } (by simp) rfl
        have p1 := hU.pv 1 l1
        have s1 : a.tmps[12]?.getD undef = vs 1 := hU.slot 1 (by decide) l1
        have hv1 : vs 1 = .pointer (some ⟨w.heap.size, 2, none⟩) := p1
        rw [hv1] at s1
        have y2 := (hb.cell (p := ⟨w.heap.size, 2, none⟩) hz).trans pb2
        refine wpOp_value (v := .slice A2 c.holds.length c2) (W' := W) rfl rfl ?_ (hK _ _ (Below.refl _ _) rfl)
        go_simp
      | 3, hi, hm =>
        have l2 := haft _ rfl { on := 2, ground := .data } (by simp) rfl
        have p2 := hU.pv 2 l2
        have s2 : a.tmps[13]?.getD undef = vs 2 := hU.slot 2 (by decide) l2
        have hv2 : vs 2 = .slice A2 c.holds.length c2 := p2
        rw [hv2] at s2
        refine wpOp_value (v := .int .i64 (c.holds.length : Nat)) (W' := W) rfl rfl ?_ (hK _ _ (Below.refl _ _) rfl)
        go_simp
      | 4, hi, hm =>
        have z1 : a.tmps[1]?.getD undef = .int .i64 hold := hU.same 1 (by decide)
        refine wpOp_value (v := .int .i64 hold) (W' := W) rfl rfl ?_ (hK _ _ (Below.refl _ _) rfl)
        go_simp
      | 5, hi, hm =>
        have l4 := haft _ rfl { on := 4, ground := .data } (by simp) rfl
        have p4 := hU.pv 4 l4
        have s4 : a.tmps[15]?.getD undef = vs 4 := hU.slot 4 (by decide) l4
        have hv4 : vs 4 = .int .i64 hold := p4
        rw [hv4] at s4
        refine wpOp_value (v := .slice (some ⟨W.heap.size, 0, none⟩) 1 1) (W' := W.alloc (.cells #[.int .i64 hold] 3)) rfl rfl ?_ (hK _ _ ((Below.refl _ _).alloc (Nat.le_refl _) _) ⟨_, _, rfl, (IntsS.lit1 rfl hold).more (by simp)⟩)
        go_simp
      | 6, hi, hm =>
        have l3 := haft _ rfl { on := 3, ground := .data } (by simp) rfl
        have p3 := hU.pv 3 l3
        have s3 : a.tmps[14]?.getD undef = vs 3 := hU.slot 3 (by decide) l3
        have hv3 : vs 3 = .int .i64 (c.holds.length : Nat) := p3
        rw [hv3] at s3
        have l5 := haft _ rfl { on := 5, ground := .data } (by simp) rfl
        have p5 := hU.pv 5 l5
        have s5 : a.tmps[16]?.getD undef = vs 5 := hU.slot 5 (by decide) l5
        obtain ⟨A, cp, hv5, hi⟩ := p5
        rw [hv5] at s5
        refine wpOp_enter (f := 69) (args := #[.int .i64 (c.holds.length : Nat), .slice A 1 cp]) (W' := W) rfl rfl ?_ ((none_any hi (c.holds.length : Nat) (by omega)).mono (fun e w'' h => ?_))
        · go_simp
        · obtain ⟨he, hbw⟩ := h
          exact ⟨_, he, hK _ _ hbw rfl⟩
      | 7, hi, hm =>
        have l6 := haft _ rfl { on := 6, ground := .data } (by simp) rfl
        have p6 := hU.pv 6 l6
        have s6 : a.tmps[17]?.getD undef = vs 6 := hU.slot 6 (by decide) l6
        have hv6 : vs 6 = .agg #[.bool (noneQ c.holds.length [hold]), .int .i64 4] := p6
        rw [hv6] at s6
        refine wpOp_value (v := .slice (some ⟨W.heap.size, 0, none⟩) 1 1) (W' := W.alloc (.cells #[.bool (noneQ c.holds.length [hold]), .int .i64 4] 104)) rfl rfl ?_ (hK _ _ ((Below.refl _ _).alloc (Nat.le_refl _) _) ⟨_, _, rfl, askedRow1 (noneQ c.holds.length [hold], (4 : Int))⟩)
        go_simp
      | 8, hi, hm =>
        have l0 := haft _ rfl { on := 0, ground := .data } (by simp) rfl
        have p0 := hU.pv 0 l0
        have s0 : a.tmps[11]?.getD undef = vs 0 := hU.slot 0 (by decide) l0
        have hv0 : vs 0 = (.agg #[.slice A1 c.heat.length c1, .int .i64 c.gas, .slice A2 c.holds.length c2, .slice A3 c.lots.length c3, .slice A4 c.seen.length c4]) := p0
        rw [hv0] at s0
        have l7 := haft _ rfl { on := 7, ground := .data } (by simp) rfl
        have p7 := hU.pv 7 l7
        have s7 : a.tmps[18]?.getD undef = vs 7 := hU.slot 7 (by decide) l7
        obtain ⟨A, cp, hv7, hr⟩ := p7
        rw [hv7] at s7
        refine wpOp_enter (f := 68) (args := #[(.agg #[.slice A1 c.heat.length c1, .int .i64 c.gas, .slice A2 c.holds.length c2, .slice A3 c.lots.length c3, .slice A4 c.seen.length c4]), .slice A 1 cp]) (W' := W) rfl rfl ?_ ((enter_entry HCV.out (HB0.out.trans (hb.mono (by omega))) hr rfl (by omega) (fun j hj => match j, hj with | 0, _ => by simp [nth] | j + 1, hj => absurd hj (by omega))).mono (fun e w'' h => ?_))
        · go_simp
        · obtain ⟨p, he, h1, h2⟩ := h
          exact ⟨_, he, hK _ _ h2 ⟨p, rfl, h1⟩⟩
      | 9, hi, hm =>
        have l8 := haft _ rfl { on := 8, ground := .data } (by simp) rfl
        have p8 := hU.pv 8 l8
        have s8 : a.tmps[19]?.getD undef = vs 8 := hU.slot 8 (by decide) l8
        obtain ⟨p, hv8, hp⟩ := p8
        rw [hv8] at s8
        refine wpOp_value (v := .tuple #[.pointer p, .int .i64 (enterE c [(noneQ c.holds.length [hold], (4 : Int))])]) (W' := W) rfl rfl ?_ (hK _ _ (Below.refl _ _) ⟨p, rfl, hp⟩)
        go_simp
      | 10, hi, hm =>
        have l9 := haft _ rfl { on := 9, ground := .data } (by simp) rfl
        have p9 := hU.pv 9 l9
        have s9 : a.tmps[10]?.getD undef = vs 9 := hU.slot 9 (by decide) l9
        obtain ⟨p, hv9, hp⟩ := p9
        rw [hv9] at s9
        refine wpOp_value (v := .pointer p) (W' := W) rfl rfl ?_ (hK _ _ (Below.refl _ _) ⟨p, rfl, hp⟩)
        go_simp
      | 11, hi, hm =>
        have l9 := haft _ rfl { on := 9, ground := .data } (by simp) rfl
        have p9 := hU.pv 9 l9
        have s9 : a.tmps[10]?.getD undef = vs 9 := hU.slot 9 (by decide) l9
        obtain ⟨p, hv9, hp⟩ := p9
        rw [hv9] at s9
        refine wpOp_value (v := .int .i64 (enterE c [(noneQ c.holds.length [hold], (4 : Int))])) (W' := W) rfl rfl ?_ (hK _ _ (Below.refl _ _) rfl)
        go_simp
      | 12, hi, hm =>
        refine wpOp_value (v := .pointer (some ⟨W.heap.size, 0, none⟩)) (W' := W.alloc (.cells #[.pointer none] 100)) rfl rfl ?_ (hK _ _ ((Below.refl _ _).alloc (Nat.le_refl _) _) ⟨_, rfl, hb.size, by simp, by rw [World.cell?_alloc_at _ _ _ _ rfl]; rfl, World.frozen?_alloc_at _ _ _ _ rfl⟩)
        go_simp
      | i + 13, hi, hm => exact absurd (of_decide_eq_true hm) (by omega)
    case hend =>
      intro listed vs a W hG hpre
      have hb := ((Below.refl w0.heap.size w0).drew).trans hG.below
      obtain ⟨p, hvP, hp⟩ := hG.pv 10 (hpre 10 (by decide) (by decide))
      obtain ⟨g, hvC, g1, g2, g3, g4⟩ := hG.pv 12 (hpre 12 (by decide) (by decide))
      have hact := hG.act
      cases hl : listed.getD 11 false with
      | true =>
        have hvE : vs 11 = .int .i64 (enterE c [(noneQ c.holds.length [hold], (4 : Int))]) := hG.pv 11 hl
        have hT := hG.lst hpre 11 #[true, true, true, true, true, true, true, true, true, true, true, true, true, false, false] rfl (by kernel_rfl) (by rw [hl]; rfl)
        subst hT
        obtain rfl : a = _ := hact
        show wpAny _ _ _ _ (leftOver #[true, true, true, true, true, true, true, true, true, true, true, true, true, false, false] 15) _ ⟨setAll _ _ (idxs #[true, true, true, true, true, true, true, true, true, true, true, true, true, false, false] 15) #[cargoVal c A1 A2 A3 A4 c1 c2 c3 c4, .int .i64 hold, .pointer (some ⟨w.heap.size, 0, none⟩), undef, .slice none 0 0, .int .i64 0, undef, undef, undef, undef, undef, undef, undef, undef, undef, undef, undef, undef, undef, undef, undef, undef, undef, undef, undef, undef, undef, undef, undef, undef, undef, undef, undef, undef, undef, undef, undef, undef, undef, undef, undef, undef, undef, undef, undef, undef, undef, undef, undef, undef, undef, undef], []⟩ _
        rw [show leftOver #[true, true, true, true, true, true, true, true, true, true, true, true, true, false, false] 15 = 2 by kernel_rfl, show idxs #[true, true, true, true, true, true, true, true, true, true, true, true, true, false, false] 15 = [0, 1, 2, 3, 4, 5, 6, 7, 8, 9, 10, 11, 12] by kernel_rfl]
        simp only [setAll, List.setIfInBounds_toArray, List.set_cons_succ, List.set_cons_zero, List.getD_cons_succ, List.getD_cons_zero, hvP, hvC, hvE]
        refine wpAny_all (rs := [13]) (by kernel_rfl) (by simp) ?_
        intro i hi
        obtain rfl : i = 13 := by simpa using hi
        refine wpOp_skip (W' := W.setCell ⟨g, 0, none⟩ (.pointer p)) rfl rfl ?_ ?_
        · go_simp
        refine wpAny_all (rs := [14]) (by kernel_rfl) (by simp) ?_
        intro i hi
        obtain rfl : i = 14 := by simpa using hi
        refine wpOp_value (v := .int .i64 (enterE c [(noneQ c.holds.length [hold], (4 : Int))])) (W' := W.setCell ⟨g, 0, none⟩ (.pointer p)) rfl rfl ?_ ?_
        · go_simp
        refine wpAny_done (by kernel_rfl) ?_ _
        refine ⟨rfl, g, p, _, _, _, _, _, _, _, _, _, _, _, _, rfl, hb.setCell g1 _, hp.store (by omega) g3 (fun _ _ _ h => by cases h), g1, by simpa using g2, ?_, ?_⟩
        · go_simp
        · go_simp
      | false =>
        have hT := hG.lst hpre 11 #[true, true, true, true, true, true, true, true, true, true, true, false, true, false, false] rfl (by kernel_rfl) (by rw [hl]; rfl)
        subst hT
        obtain rfl : a = _ := hact
        show wpAny _ _ _ _ (leftOver #[true, true, true, true, true, true, true, true, true, true, true, false, true, false, false] 15) _ ⟨setAll _ _ (idxs #[true, true, true, true, true, true, true, true, true, true, true, false, true, false, false] 15) #[cargoVal c A1 A2 A3 A4 c1 c2 c3 c4, .int .i64 hold, .pointer (some ⟨w.heap.size, 0, none⟩), undef, .slice none 0 0, .int .i64 0, undef, undef, undef, undef, undef, undef, undef, undef, undef, undef, undef, undef, undef, undef, undef, undef, undef, undef, undef, undef, undef, undef, undef, undef, undef, undef, undef, undef, undef, undef, undef, undef, undef, undef, undef, undef, undef, undef, undef, undef, undef, undef, undef, undef, undef, undef], []⟩ _
        rw [show leftOver #[true, true, true, true, true, true, true, true, true, true, true, false, true, false, false] 15 = 2 + 1 by kernel_rfl, show idxs #[true, true, true, true, true, true, true, true, true, true, true, false, true, false, false] 15 = [0, 1, 2, 3, 4, 5, 6, 7, 8, 9, 10, 12] by kernel_rfl]
        obtain ⟨p', hv9, _⟩ := hG.pv 9 (hpre 9 (by decide) (by decide))
        simp only [setAll, List.setIfInBounds_toArray, List.set_cons_succ, List.set_cons_zero, List.getD_cons_succ, List.getD_cons_zero, hvP, hvC, hv9]
        refine wpAny_take (i := 11) (v := .int .i64 (enterE c [(noneQ c.holds.length [hold], (4 : Int))])) rfl (by kernel_rfl) (by kernel_rfl) (by kernel_rfl) (fun _ _ _ h => by cases h.1) (Or.inl ⟨by rfl, fun W => ?_⟩) ?_
        · go_simp
        try simp only [Act.put, List.setIfInBounds_toArray, List.set_cons_zero, List.set_cons_succ]
        refine wpAny_all (rs := [13]) (by kernel_rfl) (by simp) ?_
        intro i hi
        obtain rfl : i = 13 := by simpa using hi
        refine wpOp_skip (W' := W.setCell ⟨g, 0, none⟩ (.pointer p)) rfl rfl ?_ ?_
        · go_simp
        refine wpAny_all (rs := [14]) (by kernel_rfl) (by simp) ?_
        intro i hi
        obtain rfl : i = 14 := by simpa using hi
        refine wpOp_value (v := .int .i64 (enterE c [(noneQ c.holds.length [hold], (4 : Int))])) (W' := W.setCell ⟨g, 0, none⟩ (.pointer p)) rfl rfl ?_ ?_
        · go_simp
        refine wpAny_done (by kernel_rfl) ?_ _
        refine ⟨rfl, g, p, _, _, _, _, _, _, _, _, _, _, _, _, rfl, hb.setCell g1 _, hp.store (by omega) g3 (fun _ _ _ h => by cases h), g1, by simpa using g2, ?_, ?_⟩
        · go_simp
        · go_simp
  case imp =>
  rintro a w1 ⟨g, p, x0, x1, x2, x3, x4, x5, x6, x7, x8, x9, x10, x11, rfl, hB1, HP, hg1, hg2, hgc, hgf⟩
  have hz1 := hB1.size
  have HB1 := hide (HB0.out.trans (hB1.mono (by omega)))
  have pb3 := (hB1.cell (p := ⟨w.heap.size, 3, none⟩) (by show w.heap.size < _; omega)).trans pb3
  have HV1 := hide (HCV.out.below HB1.out)
  have HE := hide (show firstV c hold = if enterE c [(noneQ c.holds.length [hold], (4 : Int))] ≠ 0 then ([], enterE c [(noneQ c.holds.length [hold], (4 : Int))]) else (firstTo c hold c.lots.length, 0) from rfl)
  have HP1 := hide HP
  have HF := hide (fun h => firstAsk_zero (c := c) (xs := [(noneQ c.holds.length [hold], (4 : Int))]) h (by simp))
  clear hB1 HB0 pb0 pb1 pb2 pb4 HP
  unfold EntryP at HP1
  generalize enterE c [(noneQ c.holds.length [hold], (4 : Int))] = E at *
  clear HCV
  cases hce : (E != 0) with
  | true =>
    have HNE := hide (show E ≠ 0 by simpa using hce)
    go_wp2_with fail
    go_ret2
    have hR := HE.out
    rw [if_pos HNE.out] at hR
    rw [hR]
    exact ⟨none, 0, rfl, ⟨rfl, Nat.le_refl _, by simp [maxLen], Row.nil_⟩, HB1.out⟩
  | false =>
    have hE : E = 0 := by simpa using hce
    obtain ⟨hv, b, bm, rfl, hb, hbm, hlk⟩ := HP1.out hE
    obtain ⟨hx, _⟩ := HF.out hE
    have hho := noneQ_one (hx (noneQ c.holds.length [hold], 4) (by simp))
    have hR := HE.out
    rw [if_neg (by simp [hE])] at hR
    have HR := hide hR
    have hbz := hlk.hb
    have hmz := hlk.hm
    have hbx0 : w.heap.size ≠ bm := hlk.k.ne pb3
    have hgm : g ≠ bm := hlk.k.ne hgc
    have hlot5 := hv.lots
    have hholds := hv.holds
    have HLK := hide hlk
    have HV := hide hv
    clear hlk hv hR HE HP1 hce hx HF
    subst hE
    have hsw1 : w.heap.size < w1.heap.size := by omega
    obtain ⟨i0, hi, hz0', hz1', hz2'⟩ := info_parts Try.infoInt
    go_wp2_with fail
    go_loopw [4, 28] (fun v i wr => ∃ j : Nat, j ≤ c.lots.length ∧ i = .int .i64 j ∧ Keep (fun k => k = bm) w1 wr ∧ Known wr bm (timesV c) ∧ wr.ownsRow w1.heap.size 3 1 v (firstTo c hold j).length ((firstTo c hold j).map fun n : Nat => .int .i64 n)) (fun _ i _ => c.lots.length - (intOf i).toNat)
    case atStart => exact ⟨0, Nat.zero_le _, rfl, Keep.refl _ _, HLK.out.k, World.ownsRow_nil _ _ _ _⟩
    case round =>
      obtain ⟨j, hj, rfl, hkp, hkn, hown⟩ := hrel
      have hj0 : (0 : Int) ≤ (j : Int) := Int.natCast_nonneg _
      have hzr := hkp.size
      have HKP := hide hkp
      have HLR := hide (HLK.out.keep hkp (fun k h => .inl h) hkn)
      by_cases hlt : j < c.lots.length
      · have hj1 : (j : Int) < (c.lots.length : Int) := by omega
        have hval := HV.out.lot j hlt
        obtain ⟨bl, ol, rfl, hbl, t0, t1, t2, t3⟩ := HLR.out.v.lots.lots hlt
        have r3 := (hkp.cell (cell_lt pb3) hbx0).trans pb3
        have r1 := (hkp.cell (cell_lt hgc) hgm).trans hgc
        have HKN := hide hkn
        have HOWN := hide hown
        clear hkp hkn hown
        go_upto_region 8 with (fail)
        have hA : Below wr.heap.size wr (((wr.alloc (.cells #[.int .i64 j] 3)).alloc (.cells #[.int .i64 (nth c.lots j).hold, .int .i64 (nth c.lots j).frm, .int .i64 (nth c.lots j).green.lo, .int .i64 (nth c.lots j).green.hi] 57)).alloc (.cells #[.func (.func 83) #[] #[.pointer (some ⟨wr.heap.size, 0, none⟩), .pointer (some ⟨g, 0, none⟩)]] 114)) := (((Below.refl _ _).alloc (Nat.le_refl _) _).alloc (by simp) _).alloc (by simp; omega) _
        have d0 : (((wr.alloc (.cells #[.int .i64 j] 3)).alloc (.cells #[.int .i64 (nth c.lots j).hold, .int .i64 (nth c.lots j).frm, .int .i64 (nth c.lots j).green.lo, .int .i64 (nth c.lots j).green.hi] 57)).alloc (.cells #[.func (.func 83) #[] #[.pointer (some ⟨wr.heap.size, 0, none⟩), .pointer (some ⟨g, 0, none⟩)]] 114)).cell? ⟨wr.heap.size, 0, none⟩ = some (.int .i64 j) := by
          rw [World.cell?_alloc_past _ _ _ (by simp; omega), World.cell?_alloc_past _ _ _ (by simp), World.cell?_alloc_at _ _ _ _ rfl]; rfl
        have d1 : (((wr.alloc (.cells #[.int .i64 j] 3)).alloc (.cells #[.int .i64 (nth c.lots j).hold, .int .i64 (nth c.lots j).frm, .int .i64 (nth c.lots j).green.lo, .int .i64 (nth c.lots j).green.hi] 57)).alloc (.cells #[.func (.func 83) #[] #[.pointer (some ⟨wr.heap.size, 0, none⟩), .pointer (some ⟨g, 0, none⟩)]] 114)).cell? ⟨wr.heap.size + 1, 0, none⟩ = some (.int .i64 (nth c.lots j).hold) := by
          rw [World.cell?_alloc_past _ _ _ (by simp), World.cell?_alloc_at _ _ _ _ (by simp)]; rfl
        have d2 : (((wr.alloc (.cells #[.int .i64 j] 3)).alloc (.cells #[.int .i64 (nth c.lots j).hold, .int .i64 (nth c.lots j).frm, .int .i64 (nth c.lots j).green.lo, .int .i64 (nth c.lots j).green.hi] 57)).alloc (.cells #[.func (.func 83) #[] #[.pointer (some ⟨wr.heap.size, 0, none⟩), .pointer (some ⟨g, 0, none⟩)]] 114)).cell? ⟨wr.heap.size + 1 + 1, 0, none⟩ = some (.func (.func 83) #[] #[.pointer (some ⟨wr.heap.size, 0, none⟩), .pointer (some ⟨g, 0, none⟩)]) := by
          rw [World.cell?_alloc_at _ _ _ _ (by simp)]; rfl
        have hz2 : (((wr.alloc (.cells #[.int .i64 j] 3)).alloc (.cells #[.int .i64 (nth c.lots j).hold, .int .i64 (nth c.lots j).frm, .int .i64 (nth c.lots j).green.lo, .int .i64 (nth c.lots j).green.hi] 57)).alloc (.cells #[.func (.func 83) #[] #[.pointer (some ⟨wr.heap.size, 0, none⟩), .pointer (some ⟨g, 0, none⟩)]] 114)).heap.size = wr.heap.size + 1 + 1 + 1 := by simp
        generalize (((wr.alloc (.cells #[.int .i64 j] 3)).alloc (.cells #[.int .i64 (nth c.lots j).hold, .int .i64 (nth c.lots j).frm, .int .i64 (nth c.lots j).green.lo, .int .i64 (nth c.lots j).green.hi] 57)).alloc (.cells #[.func (.func 83) #[] #[.pointer (some ⟨wr.heap.size, 0, none⟩), .pointer (some ⟨g, 0, none⟩)]] 114)) = w2 at *
        have r1 := (hA.cell (p := ⟨g, 0, none⟩) (cell_lt r1)).trans r1
        have HL2 := hide (HLR.out.keep' (Keep.of_below' hA (fun _ => False)) (fun _ h => h.elim))
        have HQ := hide (first_q (L := w.heap.size) (bm := bm) (b := b) (hold := hold.toNat) (but := 0) (c := c) (A1 := A1) (A2 := A2) (A3 := some ⟨bl, ol, none⟩) (A4 := A4) (c1 := c1) (c2 := c2) (c3 := c3) (c4 := c4) HV.out (show j < 5 by omega) d0 r1 ⟨by omega, hgm⟩)
        have hask := ask_any HL2.out HV.out (by omega) (by omega) HQ.out
        have hh : (hold.toNat : Int) = hold := by omega
        rw [hh] at hask
        have HASK := hide hask
        have HA := hide hA
        have HS := hide (firstTo_succ c hold j)
        have HSI := hide (show firstIs c hold j = (((nth c.lots j).hold == hold) && (settledM (cntB (firstAns c j) (truthsS c hold.toNat 0)) (truthsS c hold.toNat 0).length != 2)) from rfl)
        have hle : (firstTo c hold j).length ≤ j := by simpa [firstTo] using List.length_filter_le (firstIs c hold) (List.range j)
        clear hask hA t0 t1 t2 t3 hh
        generalize settledM (cntB (firstAns c j) (truthsS c hold.toNat 0)) (truthsS c hold.toNat 0).length = sv at *
        cases hfr : ((nth c.lots j).hold == hold) with
        | true =>
          cases hsv : (sv != 2) with
          | true =>
            have e : firstTo c hold (j + 1) = firstTo c hold j ++ [j] := by rw [HS.out, HSI.out, hfr, hsv]; rfl
            have HE := hide e
            clear e
            go_wp2_with (first
              | (go_at_call 70
                 refine HASK.out.mono ?_
                 rintro e w3 ⟨rfl, hk3, hn3, d3, -, -⟩
                 have hz3 := hk3.size
                 have hown3 := own_keep (w' := w3) (own_keep (w' := w2) HOWN.out (fun k hk hkw => HA.out.block k hkw)) (fun k hk hkw => hk3.block k hkw (by omega)))
              | (at_builtin
                 refine wpList_append_own _ rfl _ _ 22 rfl w1.heap.size 3 i0 (.int .i64 0) 1 8 Try.underlying22 hi hz0' hz1' hz2' rfl (by decide) _ _ _ rfl (hown3.alloc _) ⟨w3.heap.size, 0, none⟩ 1 1 [.int .i64 j] rfl rfl ?c1 ?c2 ?c3 ?c4 ?c5 ?_
                 case c1 => exact cell_one_new _ _ _
                 case c2 => simp [Value.oneCell']
                 case c3 => simp [maxLen]; omega
                 case c4 => omega
                 case c5 => simp; omega
                 intro v' w4 hown' hg _
                 have hb4 := app_below (base := w1.heap.size) (by omega) hown3 hg
                 clear hg))
            go_roundw
            case rel =>
              refine ⟨j + 1, by omega, by go_num, ?_, ?_, ?_⟩
              · exact (HKP.out.trans ((Keep.of_below' HA.out (fun k => k = bm)).trans (hk3.mono (fun k _ h => by rcases h with h | h <;> exact h)))).trans' (Keep.of_below hb4) (by omega)
              · exact hn3.keep ((Keep.of_below hb4).mono (S' := fun k => w1.heap.size ≤ k) (fun k _ h => h)) (by omega)
              · rw [HE.out]; simpa using hown'
            case measure => simp [intOf]; omega
          | false =>
            have e : firstTo c hold (j + 1) = firstTo c hold j := by rw [HS.out, HSI.out, hfr, hsv]; simp
            have HE := hide e
            clear e
            go_wp2_with (first
              | (go_at_call 70
                 refine HASK.out.mono ?_
                 rintro e w3 ⟨rfl, hk3, hn3, d3, -, -⟩
                 have hz3 := hk3.size
                 have hown3 := own_keep (w' := w3) (own_keep (w' := w2) HOWN.out (fun k hk hkw => HA.out.block k hkw)) (fun k hk hkw => hk3.block k hkw (by omega))))
            go_roundw
            case rel =>
              refine ⟨j + 1, by omega, by go_num, ?_, hn3, ?_⟩
              · exact (HKP.out.trans ((Keep.of_below' HA.out (fun k => k = bm)).trans (hk3.mono (fun k _ h => by rcases h with h | h <;> exact h))))
              · rw [HE.out]; exact hown3
            case measure => simp [intOf]; omega
        | false =>
          have e : firstTo c hold (j + 1) = firstTo c hold j := by rw [HS.out, HSI.out, hfr]; simp
          have HE := hide e
          clear e
          go_wp2_with fail
          go_roundw
          case rel =>
            refine ⟨j + 1, by omega, by go_num, ?_, HL2.out.k, ?_⟩
            · exact HKP.out.trans (Keep.of_below' HA.out (fun k => k = bm))
            · rw [HE.out]; exact own_keep HOWN.out (fun k hk hkw => HA.out.block k hkw)
          case measure => simp [intOf]; omega
      · obtain rfl : j = c.lots.length := by omega
        have hj1 : ¬ (c.lots.length : Int) < (c.lots.length : Int) := by omega
        have HKN := hide hkn
        have HOWN := hide hown
        clear hkp hkn hown
        go_wp2_with fail
        go_ret2
        rw [HR.out]
        obtain ⟨A', c', rfl, hs'⟩ := IntsS.of_own (xs := natInts (firstTo c hold c.lots.length)) (by rw [natInts_vals]; exact HOWN.out)
        exact ⟨A', c', rfl, hs', HB1.out.trans (HKP.out.below (fun k h => by omega) (by omega))⟩
end Go.Proofs.Ytbkknliggnhpcaa
/- The contract of turn's Spoils. -/
namespace Go.Proofs.Ytbkknliggnhpcaa
open Go.RowKit
attribute [local go_sem ↓] Go.wp_at_zero Go.wp_at_succ

def spoilsAns (c : Cargo) (by' lot : Nat) (s : St) : Bool := decide (nth (timesV c (dropSt s by')) lot > nth (timesV c s) lot)
theorem spoils_q {w : World} {L b bm bb bl g k by' hold : Nat} {c : Cargo} {A1 A2 A3 A4 : Option Addr} {c1 c2 c3 c4 but : Nat} (hv : Valid c) (hh : hold < c.holds.length) (hk : k < 5) (hj : by' < 5) (hb : w.cell? ⟨bb, 0, none⟩ = some (.int .i64 by')) (hl : w.cell? ⟨bl, 0, none⟩ = some (.int .i64 k)) (hg : w.cell? ⟨g, 0, none⟩ = some (.pointer (some ⟨b, 0, none⟩))) (hm : bb ≠ bm ∧ bl ≠ bm ∧ g ≠ bm) :
    QOk Try.prog 86 #[.pointer (some ⟨bb, 0, none⟩), .pointer (some ⟨g, 0, none⟩), .pointer (some ⟨bl, 0, none⟩)] (spoilsAns c by' k) (fun k => k = bm) (fun _ V => V.cell? ⟨bb, 0, none⟩ = some (.int .i64 by') ∧ V.cell? ⟨g, 0, none⟩ = some (.pointer (some ⟨b, 0, none⟩)) ∧ V.cell? ⟨bl, 0, none⟩ = some (.int .i64 k) ∧ bb < w.heap.size ∧ bl < w.heap.size ∧ g < w.heap.size) w L bm b c A1 A2 A3 A4 c1 c2 c3 c4 but hold := by
  refine qok_simple (C := fun V => V.cell? ⟨bb, 0, none⟩ = some (.int .i64 by') ∧ V.cell? ⟨g, 0, none⟩ = some (.pointer (some ⟨b, 0, none⟩)) ∧ V.cell? ⟨bl, 0, none⟩ = some (.int .i64 k) ∧ bb < w.heap.size ∧ bl < w.heap.size ∧ g < w.heap.size) (enters_of Try.func86 (by kernel_rfl) rfl) ?_ ⟨hb, hg, hl, cell_lt hb, cell_lt hl, cell_lt hg⟩ ?_
  · rintro V V' ⟨h1, h2, h3, h4, h5, h6⟩ hk
    exact ⟨(hk.cell (cell_lt h1) (by omega)).trans h1, (hk.cell (cell_lt h2) (by omega)).trans h2, (hk.cell (cell_lt h3) (by omega)).trans h3, h4, h5, h6⟩
  · rintro s W hs hL ⟨h1, h2, h3, h4, h5, h6⟩
    have hsx := (statesS_ok hv hh (List.mem_filter.1 hs).1).1
    refine (spoils1_any (s := s) (t := timesV c s) hL hv.small hsx hk hj h1 h2 h3).mono ?_
    rintro e W' ⟨rfl, hb, hn⟩
    exact ⟨rfl, hb, hn⟩

def spoilsV (c : Cargo) (by' lot : Int) : Int × Int := if enterE c [(noneQ c.lots.length [by', lot], (4 : Int)), (by' == lot, (2 : Int))] ≠ 0 then (0, enterE c [(noneQ c.lots.length [by', lot], (4 : Int)), (by' == lot, (2 : Int))]) else
  (settledM (cntB (spoilsAns c by'.toNat lot.toNat) (truthsS c (nth c.lots lot.toNat).hold.toNat 0)) (truthsS c (nth c.lots lot.toNat).hold.toNat 0).length, 0)
theorem noneQ_two {n x y : Int} (h : noneQ n [x, y] = false) : (0 ≤ x ∧ x < n) ∧ 0 ≤ y ∧ y < n := by
  unfold noneQ offP at h
  simp at h
  omega

set_option maxHeartbeats 4000000 in
set_option maxRecDepth 100000 in
theorem spoils_any {A1 A2 A3 A4 : Option Addr} {c1 c2 c3 c4 : Nat} {c : Cargo} {w : World} (h : CargoV w w.heap.size c A1 A2 A3 A4 c1 c2 c3 c4) (by' lot : Int) :
    Calls Try.prog 26 #[cargoVal c A1 A2 A3 A4 c1 c2 c3 c4, .int .i64 by', .int .i64 lot] w fun e w' => e = .returned (.tuple #[.int .i64 (spoilsV c by' lot).1, .int .i64 (spoilsV c by' lot).2]) ∧ Below w.heap.size w w' := by
  have hm3 := h.m3
  unfold maxLen at hm3
  go_enter Try.func26, Try.ntmps26
  go_wp2_with fail
  have hB0 : Below w.heap.size w (((w.alloc (.cells #[.slice A1 c.heat.length c1, .int .i64 c.gas, .slice A2 c.holds.length c2, .slice A3 c.lots.length c3, .slice A4 c.seen.length c4] 27)).alloc (.cells #[.int .i64 by'] 3)).alloc (.cells #[.int .i64 lot] 3)) := (((Below.refl _ _).alloc (Nat.le_refl _) _).alloc (by simp) _).alloc (by simp; omega) _
  have hcl : ∀ o : Nat, (((w.alloc (.cells #[.slice A1 c.heat.length c1, .int .i64 c.gas, .slice A2 c.holds.length c2, .slice A3 c.lots.length c3, .slice A4 c.seen.length c4] 27)).alloc (.cells #[.int .i64 by'] 3)).alloc (.cells #[.int .i64 lot] 3)).cell? ⟨w.heap.size, o, none⟩ = (#[Value.slice A1 c.heat.length c1, .int .i64 c.gas, .slice A2 c.holds.length c2, .slice A3 c.lots.length c3, .slice A4 c.seen.length c4])[o]? := fun o => by
    rw [World.cell?_alloc_past _ _ _ (by simp; omega), World.cell?_alloc_past _ _ _ (by simp), World.cell?_alloc_at _ _ _ _ rfl]
  have pl1 : (((w.alloc (.cells #[.slice A1 c.heat.length c1, .int .i64 c.gas, .slice A2 c.holds.length c2, .slice A3 c.lots.length c3, .slice A4 c.seen.length c4] 27)).alloc (.cells #[.int .i64 by'] 3)).alloc (.cells #[.int .i64 lot] 3)).cell? ⟨w.heap.size + 1, 0, none⟩ = some (.int .i64 by') := by
    rw [World.cell?_alloc_past _ _ _ (by simp), World.cell?_alloc_at _ _ _ _ (by simp)]; rfl
  have pl2 : (((w.alloc (.cells #[.slice A1 c.heat.length c1, .int .i64 c.gas, .slice A2 c.holds.length c2, .slice A3 c.lots.length c3, .slice A4 c.seen.length c4] 27)).alloc (.cells #[.int .i64 by'] 3)).alloc (.cells #[.int .i64 lot] 3)).cell? ⟨w.heap.size + 1 + 1, 0, none⟩ = some (.int .i64 lot) := by
    rw [World.cell?_alloc_at _ _ _ _ (by simp)]; rfl
  have hz0 : (((w.alloc (.cells #[.slice A1 c.heat.length c1, .int .i64 c.gas, .slice A2 c.holds.length c2, .slice A3 c.lots.length c3, .slice A4 c.seen.length c4] 27)).alloc (.cells #[.int .i64 by'] 3)).alloc (.cells #[.int .i64 lot] 3)).heap.size = w.heap.size + 1 + 1 + 1 := by simp
  generalize (((w.alloc (.cells #[.slice A1 c.heat.length c1, .int .i64 c.gas, .slice A2 c.holds.length c2, .slice A3 c.lots.length c3, .slice A4 c.seen.length c4] 27)).alloc (.cells #[.int .i64 by'] 3)).alloc (.cells #[.int .i64 lot] 3)) = w0 at *
  have pb0 := hcl 0
  have pb1 := hcl 1
  have pb2 := hcl 2
  have pb3 := hcl 3
  have pb4 := hcl 4
  simp only [List.getElem?_toArray, List.getElem?_cons_succ, List.getElem?_cons_zero] at pb0 pb1 pb2 pb3 pb4
  have HB0 := hide hB0
  have HCV := hide h
  clear hcl h hB0
  refine wp_post (fun a W => ∃ (g : Nat) (p : Option Addr) (x0 x1 x2 x3 x4 x5 x6 x7 x8 x9 x10 x11 x12 x13 x14 x15 x16 : Value), a = ⟨#[cargoVal c A1 A2 A3 A4 c1 c2 c3 c4, .int .i64 by', .int .i64 lot, .pointer (some ⟨w.heap.size, 0, none⟩), .pointer (some ⟨w.heap.size + 1, 0, none⟩), .pointer (some ⟨w.heap.size + 1 + 1, 0, none⟩), .int .i64 0, .int .i64 0, .pointer (some ⟨g, 0, none⟩), .int .i64 (enterE c [(noneQ c.lots.length [by', lot], (4 : Int)), (by' == lot, (2 : Int))]), x14, x0, x1, x2, x3, x4, x5, x6, x7, x8, x9, x10, x11, x12, x13, x15, x16, undef, undef, undef, undef, undef, undef, undef, undef, undef, undef, undef, undef, undef], []⟩ ∧ Below w0.heap.size w0 W ∧ EntryP W w.heap.size c A1 A2 A3 A4 c1 c2 c3 c4 [(noneQ c.lots.length [by', lot], (4 : Int)), (by' == lot, (2 : Int))] p ∧ w0.heap.size ≤ g ∧ g < W.heap.size ∧ W.cell? ⟨g, 0, none⟩ = some (.pointer p) ∧ W.frozen? ⟨g, 0, none⟩ = false) ?reg ?imp
  case reg =>
    refine wp_region_grow2 (dst := fun i => [11, 12, 13, 14, 15, 16, 17, 18, 19, 20, 21, 22, 23, 24, 10, 25, 26, 8].getD i 0) (mono := fun i => decide (i < 18)) (pre := fun i => decide (i < 18) && i != 16)
      (Pv := fun i v W => match i with
        | 0 => v = (.agg #[.slice A1 c.heat.length c1, .int .i64 c.gas, .slice A2 c.holds.length c2, .slice A3 c.lots.length c3, .slice A4 c.seen.length c4])
        | 1 => v = .pointer (some ⟨w.heap.size, 3, none⟩)
        | 2 => v = .slice A3 c.lots.length c3
        | 3 => v = .int .i64 (c.lots.length : Nat)
        | 4 => v = .int .i64 by'
        | 5 => v = .int .i64 lot
        | 6 => ∃ A cp, v = .slice A 2 cp ∧ IntsS W W.heap.size A 2 cp [by', lot]
        | 7 => v = .agg #[.bool (noneQ c.lots.length [by', lot]), .int .i64 4]
        | 8 => v = .int .i64 by'
        | 9 => v = .int .i64 lot
        | 10 => v = .bool (by' == lot)
        | 11 => v = .agg #[.bool (by' == lot), .int .i64 2]
        | 12 => ∃ A cp, v = .slice A 2 cp ∧ Row W W.heap.size A (2 * 2) (askedF [(noneQ c.lots.length [by', lot], (4 : Int)), (by' == lot, (2 : Int))])
        | 13 => ∃ p, v = .tuple #[.pointer p, .int .i64 (enterE c [(noneQ c.lots.length [by', lot], (4 : Int)), (by' == lot, (2 : Int))])] ∧ EntryP W w.heap.size c A1 A2 A3 A4 c1 c2 c3 c4 [(noneQ c.lots.length [by', lot], (4 : Int)), (by' == lot, (2 : Int))] p
        | 14 => ∃ p, v = .tuple #[.pointer p, .int .i64 (enterE c [(noneQ c.lots.length [by', lot], (4 : Int)), (by' == lot, (2 : Int))])] ∧ EntryP W w.heap.size c A1 A2 A3 A4 c1 c2 c3 c4 [(noneQ c.lots.length [by', lot], (4 : Int)), (by' == lot, (2 : Int))] p
        | 15 => ∃ p, v = .pointer p ∧ EntryP W w.heap.size c A1 A2 A3 A4 c1 c2 c3 c4 [(noneQ c.lots.length [by', lot], (4 : Int)), (by' == lot, (2 : Int))] p
        | 16 => v = .int .i64 (enterE c [(noneQ c.lots.length [by', lot], (4 : Int)), (by' == lot, (2 : Int))])
        | 17 => ∃ g, v = .pointer (some ⟨g, 0, none⟩) ∧ w0.heap.size ≤ g ∧ g < W.heap.size ∧ W.cell? ⟨g, 0, none⟩ = some (.pointer none) ∧ W.frozen? ⟨g, 0, none⟩ = false
        | _ => True) (by kernel_rfl) (by kernel_rfl) ?hst ?hstep ?hend
    case hst =>
      intro i v W W' h hb
      match i, h with
      | 0, h => exact h
      | 1, h => exact h
      | 2, h => exact h
      | 3, h => exact h
      | 4, h => exact h
      | 5, h => exact h
      | 6, h => (obtain ⟨A, cp, h1, h2⟩ := h; exact ⟨A, cp, h1, h2.next hb⟩)
      | 7, h => exact h
      | 8, h => exact h
      | 9, h => exact h
      | 10, h => exact h
      | 11, h => exact h
      | 12, h => (obtain ⟨A, cp, h1, h2⟩ := h; exact ⟨A, cp, h1, (h2.below hb).more hb.size⟩)
      | 13, h => (obtain ⟨p, h1, h2⟩ := h; exact ⟨p, h1, h2.below hb⟩)
      | 14, h => (obtain ⟨p, h1, h2⟩ := h; exact ⟨p, h1, h2.below hb⟩)
      | 15, h => (obtain ⟨p, h1, h2⟩ := h; exact ⟨p, h1, h2.below hb⟩)
      | 16, h => exact h
      | 17, h => (obtain ⟨g, h1, h2, h3, h4, h5⟩ := h; exact ⟨g, h1, h2, by have := hb.size; omega, (hb.cell (p := ⟨g, 0, none⟩) h3).trans h4, (hb.frozen (p := ⟨g, 0, none⟩) h3).trans h5⟩)
      | i + 18, h => exact trivial
    case hstep =>
      intro i hi hm listed vs a W hU haft K hK
      have hb := ((Below.refl w0.heap.size w0).drew).trans hU.below
      have hz : w.heap.size < w0.heap.size := by omega
      match i, hi, hm with
      | 0, hi, hm =>
        have z3 : a.tmps[3]?.getD undef = .pointer (some ⟨w.heap.size, 0, none⟩) := hU.same 3 (by decide)
        have y0 := (hb.cell (p := ⟨w.heap.size, 0, none⟩) hz).trans pb0
        have y1 := (hb.cell (p := ⟨w.heap.size, 1, none⟩) hz).trans pb1
        have y2 := (hb.cell (p := ⟨w.heap.size, 2, none⟩) hz).trans pb2
        have y3 := (hb.cell (p := ⟨w.heap.size, 3, none⟩) hz).trans pb3
        have y4 := (hb.cell (p := ⟨w.heap.size, 4, none⟩) hz).trans pb4
        refine wpOp_value (v := (.agg #[.slice A1 c.heat.length c1, .int .i64 c.gas, .slice A2 c.holds.length c2, .slice A3 c.lots.length c3, .slice A4 c.seen.length c4])) (W' := W) rfl rfl ?_ (hK _ _ (Below.refl _ _) rfl)
        go_simp
      | 1, hi, hm =>
        have z3 : a.tmps[3]?.getD undef = .pointer (some ⟨w.heap.size, 0, none⟩) := hU.same 3 (by decide)
        refine wpOp_value (v := .pointer (some ⟨w.heap.size, 3, none⟩)) (W' := W) rfl rfl ?_ (hK _ _ (Below.refl _ _) rfl)
        go_simp
      | 2, hi, hm =>
        have l1 := haft _ rfl { on := 1, ground := .data } (by simp) rfl
        have p1 := hU.pv 1 l1
        have s1 : a.tmps[12]?.getD undef = vs 1 := hU.slot 1 (by decide) l1
        have hv1 : vs 1 = .pointer (some ⟨w.heap.size, 3, none⟩) := p1
        rw [hv1] at s1
        have y3 := (hb.cell (p := ⟨w.heap.size, 3, none⟩) hz).trans pb3
        refine wpOp_value (v := .slice A3 c.lots.length c3) (W' := W) rfl rfl ?_ (hK _ _ (Below.refl _ _) rfl)
        go_simp
      | 3, hi, hm =>
        have l2 := haft _ rfl { on := 2, ground := .data } (by simp) rfl
        have p2 := hU.pv 2 l2
        have s2 : a.tmps[13]?.getD undef = vs 2 := hU.slot 2 (by decide) l2
        have hv2 : vs 2 = .slice A3 c.lots.length c3 := p2
        rw [hv2] at s2
        refine wpOp_value (v := .int .i64 (c.lots.length : Nat)) (W' := W) rfl rfl ?_ (hK _ _ (Below.refl _ _) rfl)
        go_simp
      | 4, hi, hm =>
        have z4 : a.tmps[4]?.getD undef = .pointer (some ⟨w.heap.size + 1, 0, none⟩) := hU.same 4 (by decide)
        have cl := (hb.cell (p := ⟨w.heap.size + 1, 0, none⟩) (by show w.heap.size + 1 < _; omega)).trans pl1
        refine wpOp_value (v := .int .i64 by') (W' := W) rfl rfl ?_ (hK _ _ (Below.refl _ _) rfl)
        go_simp
      | 5, hi, hm =>
        have z5 : a.tmps[5]?.getD undef = .pointer (some ⟨w.heap.size + 1 + 1, 0, none⟩) := hU.same 5 (by decide)
        have cl := (hb.cell (p := ⟨w.heap.size + 1 + 1, 0, none⟩) (by show w.heap.size + 1 + 1 < _; omega)).trans pl2
        refine wpOp_value (v := .int .i64 lot) (W' := W) rfl rfl ?_ (hK _ _ (Below.refl _ _) rfl)
        go_simp
      | 6, hi, hm =>
        have l4 := haft _ rfl { on := 4, ground := .data } (by simp) rfl
        have p4 := hU.pv 4 l4
        have s4 : a.tmps[15]?.getD undef = vs 4 := hU.slot 4 (by decide) l4
        have hv4 : vs 4 = .int .i64 by' := p4
        rw [hv4] at s4
        have l5 := haft _ rfl { on := 5, ground := .data } (by simp) rfl
        have p5 := hU.pv 5 l5
        have s5 : a.tmps[16]?.getD undef = vs 5 := hU.slot 5 (by decide) l5
        have hv5 : vs 5 = .int .i64 lot := p5
        rw [hv5] at s5
        refine wpOp_value (v := .slice (some ⟨W.heap.size, 0, none⟩) 2 2) (W' := W.alloc (.cells #[.int .i64 by', .int .i64 lot] 3)) rfl rfl ?_ (hK _ _ ((Below.refl _ _).alloc (Nat.le_refl _) _) ⟨_, _, rfl, (IntsS.lit2 rfl by' lot).more (by simp)⟩)
        go_simp
      | 7, hi, hm =>
        have l3 := haft _ rfl { on := 3, ground := .data } (by simp) rfl
        have p3 := hU.pv 3 l3
        have s3 : a.tmps[14]?.getD undef = vs 3 := hU.slot 3 (by decide) l3
        have hv3 : vs 3 = .int .i64 (c.lots.length : Nat) := p3
        rw [hv3] at s3
        have l6 := haft _ rfl { on := 6, ground := .data } (by simp) rfl
        have p6 := hU.pv 6 l6
        have s6 : a.tmps[17]?.getD undef = vs 6 := hU.slot 6 (by decide) l6
        obtain ⟨A, cp, hv6, hi⟩ := p6
        rw [hv6] at s6
        refine wpOp_enter (f := 69) (args := #[.int .i64 (c.lots.length : Nat), .slice A 2 cp]) (W' := W) rfl rfl ?_ ((none_any hi (c.lots.length : Nat) (by omega)).mono (fun e w'' h => ?_))
        · go_simp
        · obtain ⟨he, hbw⟩ := h
          exact ⟨_, he, hK _ _ hbw rfl⟩
      | 8, hi, hm =>
        have z4 : a.tmps[4]?.getD undef = .pointer (some ⟨w.heap.size + 1, 0, none⟩) := hU.same 4 (by decide)
        have cl := (hb.cell (p := ⟨w.heap.size + 1, 0, none⟩) (by show w.heap.size + 1 < _; omega)).trans pl1
        refine wpOp_value (v := .int .i64 by') (W' := W) rfl rfl ?_ (hK _ _ (Below.refl _ _) rfl)
        go_simp
      | 9, hi, hm =>
        have z5 : a.tmps[5]?.getD undef = .pointer (some ⟨w.heap.size + 1 + 1, 0, none⟩) := hU.same 5 (by decide)
        have cl := (hb.cell (p := ⟨w.heap.size + 1 + 1, 0, none⟩) (by show w.heap.size + 1 + 1 < _; omega)).trans pl2
        refine wpOp_value (v := .int .i64 lot) (W' := W) rfl rfl ?_ (hK _ _ (Below.refl _ _) rfl)
        go_simp
      | 10, hi, hm =>
        have l8 := haft _ rfl { on := 8, ground := .data } (by simp) rfl
        have p8 := hU.pv 8 l8
        have s8 : a.tmps[19]?.getD undef = vs 8 := hU.slot 8 (by decide) l8
        have hv8 : vs 8 = .int .i64 by' := p8
        rw [hv8] at s8
        have l9 := haft _ rfl { on := 9, ground := .data } (by simp) rfl
        have p9 := hU.pv 9 l9
        have s9 : a.tmps[20]?.getD undef = vs 9 := hU.slot 9 (by decide) l9
        have hv9 : vs 9 = .int .i64 lot := p9
        rw [hv9] at s9
        refine wpOp_value (v := .bool (by' == lot)) (W' := W) rfl rfl ?_ (hK _ _ (Below.refl _ _) rfl)
        go_simp
      | 11, hi, hm =>
        have l10 := haft _ rfl { on := 10, ground := .data } (by simp) rfl
        have p10 := hU.pv 10 l10
        have s10 : a.tmps[21]?.getD undef = vs 10 := hU.slot 10 (by decide) l10
        have hv10 : vs 10 = .bool (by' == lot) := p10
        rw [hv10] at s10
        refine wpOp_value (v := .agg #[.bool (by' == lot), .int .i64 2]) (W' := W) rfl rfl ?_ (hK _ _ (Below.refl _ _) rfl)
        go_simp
      | 12, hi, hm =>
        have l7 := haft _ rfl { on := 7, ground := .data } (by simp) rfl
        have p7 := hU.pv 7 l7
        have s7 : a.tmps[18]?.getD undef = vs 7 := hU.slot 7 (by decide) l7
        have hv7 : vs 7 = .agg #[.bool (noneQ c.lots.length [by', lot]), .int .i64 4] := p7
        rw [hv7] at s7
        have l11 := haft _ rfl { on := 11, ground := .data } (by simp) rfl
        have p11 := hU.pv 11 l11
        have s11 : a.tmps[22]?.getD undef = vs 11 := hU.slot 11 (by decide) l11
        have hv11 : vs 11 = .agg #[.bool (by' == lot), .int .i64 2] := p11
        rw [hv11] at s11
        refine wpOp_value (v := .slice (some ⟨W.heap.size, 0, none⟩) 2 2) (W' := W.alloc (.cells #[.bool (noneQ c.lots.length [by', lot]), .int .i64 4, .bool (by' == lot), .int .i64 2] 104)) rfl rfl ?_ (hK _ _ ((Below.refl _ _).alloc (Nat.le_refl _) _) ⟨_, _, rfl, askedRow2 (noneQ c.lots.length [by', lot], (4 : Int)) (by' == lot, (2 : Int))⟩)
        go_simp
      | 13, hi, hm =>
        have l0 := haft _ rfl { on := 0, ground := .data } (by simp) rfl
        have p0 := hU.pv 0 l0
        have s0 : a.tmps[11]?.getD undef = vs 0 := hU.slot 0 (by decide) l0
        have hv0 : vs 0 = (.agg #[.slice A1 c.heat.length c1, .int .i64 c.gas, .slice A2 c.holds.length c2, .slice A3 c.lots.length c3, .slice A4 c.seen.length c4]) := p0
        rw [hv0] at s0
        have l12 := haft _ rfl { on := 12, ground := .data } (by simp) rfl
        have p12 := hU.pv 12 l12
        have s12 : a.tmps[23]?.getD undef = vs 12 := hU.slot 12 (by decide) l12
        obtain ⟨A, cp, hv12, hr⟩ := p12
        rw [hv12] at s12
        refine wpOp_enter (f := 68) (args := #[(.agg #[.slice A1 c.heat.length c1, .int .i64 c.gas, .slice A2 c.holds.length c2, .slice A3 c.lots.length c3, .slice A4 c.seen.length c4]), .slice A 2 cp]) (W' := W) rfl rfl ?_ ((enter_entry HCV.out (HB0.out.trans (hb.mono (by omega))) hr rfl (by omega) (fun j hj => match j, hj with | 0, _ => by simp [nth] | 1, _ => by simp [nth] | j + 2, hj => absurd hj (by omega))).mono (fun e w'' h => ?_))
        · go_simp
        · obtain ⟨p, he, h1, h2⟩ := h
          exact ⟨_, he, hK _ _ h2 ⟨p, rfl, h1⟩⟩
      | 14, hi, hm =>
        have l13 := haft _ rfl { on := 13, ground := .data } (by simp) rfl
        have p13 := hU.pv 13 l13
        have s13 : a.tmps[24]?.getD undef = vs 13 := hU.slot 13 (by decide) l13
        obtain ⟨p, hv13, hp⟩ := p13
        rw [hv13] at s13
        refine wpOp_value (v := .tuple #[.pointer p, .int .i64 (enterE c [(noneQ c.lots.length [by', lot], (4 : Int)), (by' == lot, (2 : Int))])]) (W' := W) rfl rfl ?_ (hK _ _ (Below.refl _ _) ⟨p, rfl, hp⟩)
        go_simp
      | 15, hi, hm =>
        have l14 := haft _ rfl { on := 14, ground := .data } (by simp) rfl
        have p14 := hU.pv 14 l14
        have s14 : a.tmps[10]?.getD undef = vs 14 := hU.slot 14 (by decide) l14
        obtain ⟨p, hv14, hp⟩ := p14
        rw [hv14] at s14
        refine wpOp_value (v := .pointer p) (W' := W) rfl rfl ?_ (hK _ _ (Below.refl _ _) ⟨p, rfl, hp⟩)
        go_simp
      | 16, hi, hm =>
        have l14 := haft _ rfl { on := 14, ground := .data } (by simp) rfl
        have p14 := hU.pv 14 l14
        have s14 : a.tmps[10]?.getD undef = vs 14 := hU.slot 14 (by decide) l14
        obtain ⟨p, hv14, hp⟩ := p14
        rw [hv14] at s14
        refine wpOp_value (v := .int .i64 (enterE c [(noneQ c.lots.length [by', lot], (4 : Int)), (by' == lot, (2 : Int))])) (W' := W) rfl rfl ?_ (hK _ _ (Below.refl _ _) rfl)
        go_simp
      | 17, hi, hm =>
        refine wpOp_value (v := .pointer (some ⟨W.heap.size, 0, none⟩)) (W' := W.alloc (.cells #[.pointer none] 100)) rfl rfl ?_ (hK _ _ ((Below.refl _ _).alloc (Nat.le_refl _) _) ⟨_, rfl, hb.size, by simp, by rw [World.cell?_alloc_at _ _ _ _ rfl]; rfl, World.frozen?_alloc_at _ _ _ _ rfl⟩)
        go_simp
      | i + 18, hi, hm => exact absurd (of_decide_eq_true hm) (by omega)
    case hend =>
      intro listed vs a W hG hpre
      have hb := ((Below.refl w0.heap.size w0).drew).trans hG.below
      obtain ⟨p, hvP, hp⟩ := hG.pv 15 (hpre 15 (by decide) (by decide))
      obtain ⟨g, hvC, g1, g2, g3, g4⟩ := hG.pv 17 (hpre 17 (by decide) (by decide))
      have hact := hG.act
      cases hl : listed.getD 16 false with
      | true =>
        have hvE : vs 16 = .int .i64 (enterE c [(noneQ c.lots.length [by', lot], (4 : Int)), (by' == lot, (2 : Int))]) := hG.pv 16 hl
        have hT := hG.lst hpre 16 #[true, true, true, true, true, true, true, true, true, true, true, true, true, true, true, true, true, true, false, false] rfl (by kernel_rfl) (by rw [hl]; rfl)
        have hlo := hG.lo hT (k := 2) (by kernel_rfl)
        have hix := hG.ix hT (l := [0, 1, 2, 3, 4, 5, 6, 7, 8, 9, 10, 11, 12, 13, 14, 15, 16, 17]) (by kernel_rfl)
        rw [hix] at hact
        obtain rfl : a = _ := hact
        rw [hlo]
        subst hT
        simp only [setAll, List.setIfInBounds_toArray, List.set_cons_succ, List.set_cons_zero, List.getD_cons_succ, List.getD_cons_zero, hvP, hvC, hvE]
        refine wpAny_all (rs := [18]) (by kernel_rfl) (by simp) ?_
        intro i hi
        obtain rfl : i = 18 := by simpa using hi
        refine wpOp_skip (W' := W.setCell ⟨g, 0, none⟩ (.pointer p)) rfl rfl ?_ ?_
        · go_simp
        refine wpAny_all (rs := [19]) (by kernel_rfl) (by simp) ?_
        intro i hi
        obtain rfl : i = 19 := by simpa using hi
        refine wpOp_value (v := .int .i64 (enterE c [(noneQ c.lots.length [by', lot], (4 : Int)), (by' == lot, (2 : Int))])) (W' := W.setCell ⟨g, 0, none⟩ (.pointer p)) rfl rfl ?_ ?_
        · go_simp
        refine wpAny_done (by kernel_rfl) ?_ _
        refine ⟨rfl, g, p, _, _, _, _, _, _, _, _, _, _, _, _, _, _, _, _, _, rfl, hb.setCell g1 _, hp.store (by omega) g3 (fun _ _ _ h => by cases h), g1, by simpa using g2, ?_, ?_⟩
        · go_simp
        · go_simp
      | false =>
        have hT := hG.lst hpre 16 #[true, true, true, true, true, true, true, true, true, true, true, true, true, true, true, true, false, true, false, false] rfl (by kernel_rfl) (by rw [hl]; rfl)
        have hlo := hG.lo hT (k := 2 + 1) (by kernel_rfl)
        have hix := hG.ix hT (l := [0, 1, 2, 3, 4, 5, 6, 7, 8, 9, 10, 11, 12, 13, 14, 15, 17]) (by kernel_rfl)
        rw [hix] at hact
        obtain rfl : a = _ := hact
        rw [hlo]
        subst hT
        obtain ⟨p', hv9, _⟩ := hG.pv 14 (hpre 14 (by decide) (by decide))
        simp only [setAll, List.setIfInBounds_toArray, List.set_cons_succ, List.set_cons_zero, List.getD_cons_succ, List.getD_cons_zero, hvP, hvC, hv9]
        refine wpAny_take (i := 16) (v := .int .i64 (enterE c [(noneQ c.lots.length [by', lot], (4 : Int)), (by' == lot, (2 : Int))])) rfl (by kernel_rfl) (by kernel_rfl) (by kernel_rfl) (fun _ _ _ h => by cases h.1) (Or.inl ⟨by rfl, fun W => ?_⟩) ?_
        · go_simp
        try simp only [Act.put, List.setIfInBounds_toArray, List.set_cons_zero, List.set_cons_succ]
        refine wpAny_all (rs := [18]) (by kernel_rfl) (by simp) ?_
        intro i hi
        obtain rfl : i = 18 := by simpa using hi
        refine wpOp_skip (W' := W.setCell ⟨g, 0, none⟩ (.pointer p)) rfl rfl ?_ ?_
        · go_simp
        refine wpAny_all (rs := [19]) (by kernel_rfl) (by simp) ?_
        intro i hi
        obtain rfl : i = 19 := by simpa using hi
        refine wpOp_value (v := .int .i64 (enterE c [(noneQ c.lots.length [by', lot], (4 : Int)), (by' == lot, (2 : Int))])) (W' := W.setCell ⟨g, 0, none⟩ (.pointer p)) rfl rfl ?_ ?_
        · go_simp
        refine wpAny_done (by kernel_rfl) ?_ _
        refine ⟨rfl, g, p, _, _, _, _, _, _, _, _, _, _, _, _, _, _, _, _, _, rfl, hb.setCell g1 _, hp.store (by omega) g3 (fun _ _ _ h => by cases h), g1, by simpa using g2, ?_, ?_⟩
        · go_simp
        · go_simp
  case imp =>
  rintro a w1 ⟨g, p, x0, x1, x2, x3, x4, x5, x6, x7, x8, x9, x10, x11, x12, x13, x14, x15, x16, rfl, hB1, HP, hg1, hg2, hgc, hgf⟩
  have hz1 := hB1.size
  have HB1 := hide (HB0.out.trans (hB1.mono (by omega)))
  have pl1 := (hB1.cell (p := ⟨w.heap.size + 1, 0, none⟩) (by show w.heap.size + 1 < _; omega)).trans pl1
  have pl2 := (hB1.cell (p := ⟨w.heap.size + 1 + 1, 0, none⟩) (by show w.heap.size + 1 + 1 < _; omega)).trans pl2
  have pb3 := (hB1.cell (p := ⟨w.heap.size, 3, none⟩) (by show w.heap.size < _; omega)).trans pb3
  have HV1 := hide (HCV.out.below HB1.out)
  have HE := hide (show spoilsV c by' lot = if enterE c [(noneQ c.lots.length [by', lot], (4 : Int)), (by' == lot, (2 : Int))] ≠ 0 then (0, enterE c [(noneQ c.lots.length [by', lot], (4 : Int)), (by' == lot, (2 : Int))]) else
    (settledM (cntB (spoilsAns c by'.toNat lot.toNat) (truthsS c (nth c.lots lot.toNat).hold.toNat 0)) (truthsS c (nth c.lots lot.toNat).hold.toNat 0).length, 0) from rfl)
  have HP1 := hide HP
  have HF := hide (fun h => firstAsk_zero (c := c) (xs := [(noneQ c.lots.length [by', lot], (4 : Int)), (by' == lot, (2 : Int))]) h (by simp))
  clear hB1 HB0 pb0 pb1 pb2 pb4 HP
  unfold EntryP at HP1
  generalize enterE c [(noneQ c.lots.length [by', lot], (4 : Int)), (by' == lot, (2 : Int))] = E at *
  clear HCV
  cases hce : (E != 0) with
  | true =>
    have HNE := hide (show E ≠ 0 by simpa using hce)
    go_wp2_with fail
    go_ret2
    have hR := HE.out
    rw [if_pos HNE.out] at hR
    rw [hR]
    exact ⟨rfl, HB1.out⟩
  | false =>
    have hE : E = 0 := by simpa using hce
    obtain ⟨hv, b, bm, rfl, hb, hbm, hlk⟩ := HP1.out hE
    obtain ⟨hx, _⟩ := HF.out hE
    have hlot := noneQ_two (hx (noneQ c.lots.length [by', lot], 4) (by simp))
    obtain ⟨lot, rfl⟩ : ∃ k : Nat, lot = (k : Int) := ⟨lot.toNat, by omega⟩
    obtain ⟨by', rfl⟩ : ∃ k : Nat, by' = (k : Int) := ⟨by'.toNat, by omega⟩
    have hlt : lot < c.lots.length := by omega
    have hlt2 : by' < c.lots.length := by omega
    obtain ⟨bl, ol, rfl, hbl, t0, t1, t2, t3⟩ := HV1.out.lots.lots hlt
    have hval := hv.lot lot hlt
    have hR := HE.out
    rw [if_neg (by simp [hE]), Int.toNat_natCast, Int.toNat_natCast] at hR
    have HR := hide hR
    have HLK := hide hlk
    have HV := hide hv
    have hbz := hlk.hb
    have hmz := hlk.hm
    have hgm : g ≠ bm := hlk.k.ne hgc
    have hbx : w.heap.size + 1 ≠ bm := hlk.k.ne pl1
    have hbx2 : w.heap.size + 1 + 1 ≠ bm := hlk.k.ne pl2
    have hbx0 : w.heap.size ≠ bm := hlk.k.ne pb3
    have hlot5 := hv.lots
    have hholds := hv.holds
    clear hx hlk hv hR HE HF HP1 hce
    subst hE
    go_upto_region 4 with (fail)
    have HL2 := hide (HLK.out.keep' (Keep.of_below' ((Below.refl w1.heap.size w1).drew) (fun _ => False)) (fun _ h => h.elim))
    have HQ := hide (spoils_q (w := w1.drew) (L := w.heap.size) (bm := bm) (b := b) (hold := (nth c.lots lot).hold.toNat) (but := 0) (c := c) (A1 := A1) (A2 := A2) (A3 := some ⟨bl, ol, none⟩) (A4 := A4) (c1 := c1) (c2 := c2) (c3 := c3) (c4 := c4) (k := lot) (by' := by') HV.out (by omega) (by omega) (by omega) pl1 pl2 hgc ⟨hbx, hbx2, hgm⟩)
    have hask := ask_any HL2.out HV.out (by omega) (by omega) HQ.out
    have hh : ((nth c.lots lot).hold.toNat : Int) = (nth c.lots lot).hold := by omega
    rw [hh] at hask
    have HASK := hide hask
    clear hask
    have hl0 : (0 : Int) ≤ (lot : Int) := Int.natCast_nonneg _
    have hl1 : (lot : Int) < (c.lots.length : Int) := by omega
    have hzd : w1.drew.heap.size = w1.heap.size := rfl
    have HB2 := hide (HB1.out.trans ((Below.refl w1.heap.size w1).drew.mono (by omega)))
    obtain ⟨S, hSd⟩ : ∃ S : World → Prop, S = (fun W' : World => W'.cell? ⟨g, 0, none⟩ = some (.pointer (some ⟨b, 0, none⟩)) ∧ W'.cell? ⟨w.heap.size, 3, none⟩ = some (.slice (some ⟨bl, ol, none⟩) c.lots.length c3) ∧ W'.cell? ⟨w.heap.size + 1 + 1, 0, none⟩ = some (.int .i64 (lot : Int)) ∧ W'.cell? ⟨bl, ol + lot * 4, none⟩ = some (.int .i64 (nth c.lots lot).hold)) := ⟨_, rfl⟩
    have HSD := hide hSd
    clear hSd
    refine wp_region_held_drew (S := S) (by kernel_rfl) (by rw [HSD.out]; exact ⟨hgc, pb3, pl2, t0⟩) (fun hHeld => ?_)
    clear t1 t2 t3
    refine wpAnyH_take (i := 0) (v := ?_) rfl (by kernel_rfl) (by kernel_rfl) (by kernel_rfl) (fun _ _ _ h => h) (Or.inl ⟨by rfl, fun W hSw => ?_⟩) hHeld ?_
    rotate_left
    · rw [HSD.out] at hSw; obtain ⟨s0, s1, s2, s3⟩ := hSw; go_simp; try rfl
    simp only [Act.put, List.setIfInBounds_toArray, List.set_cons_zero, List.set_cons_succ]
    refine wpAnyH_take (i := 1) (v := ?_) rfl (by kernel_rfl) (by kernel_rfl) (by kernel_rfl) (fun _ _ _ h => h) (Or.inl ⟨by rfl, fun W hSw => ?_⟩) hHeld ?_
    rotate_left
    · rw [HSD.out] at hSw; obtain ⟨s0, s1, s2, s3⟩ := hSw; go_simp; try rfl
    simp only [Act.put, List.setIfInBounds_toArray, List.set_cons_zero, List.set_cons_succ]
    refine wpAnyH_take (i := 2) (v := ?_) rfl (by kernel_rfl) (by kernel_rfl) (by kernel_rfl) (fun _ _ _ h => h) (Or.inl ⟨by rfl, fun W hSw => ?_⟩) hHeld ?_
    rotate_left
    · rw [HSD.out] at hSw; obtain ⟨s0, s1, s2, s3⟩ := hSw; go_simp; try rfl
    simp only [Act.put, List.setIfInBounds_toArray, List.set_cons_zero, List.set_cons_succ]
    refine wpAnyH_take (i := 3) (v := ?_) rfl (by kernel_rfl) (by kernel_rfl) (by kernel_rfl) (fun _ _ _ h => h) (Or.inl ⟨by rfl, fun W hSw => ?_⟩) hHeld ?_
    rotate_left
    · rw [HSD.out] at hSw; obtain ⟨s0, s1, s2, s3⟩ := hSw; go_simp; try rfl
    simp only [Act.put, List.setIfInBounds_toArray, List.set_cons_zero, List.set_cons_succ]
    refine wpAnyH_take (i := 4) (v := ?_) rfl (by kernel_rfl) (by kernel_rfl) (by kernel_rfl) (fun _ _ _ h => h) (Or.inl ⟨by rfl, fun W hSw => ?_⟩) hHeld ?_
    rotate_left
    · rw [HSD.out] at hSw; obtain ⟨s0, s1, s2, s3⟩ := hSw; go_simp; try rfl
    simp only [Act.put, List.setIfInBounds_toArray, List.set_cons_zero, List.set_cons_succ]
    refine wpAnyH_take (i := 5) (v := ?_) rfl (by kernel_rfl) (by kernel_rfl) (by kernel_rfl) (fun _ _ _ h => h) (Or.inl ⟨by rfl, fun W hSw => ?_⟩) hHeld ?_
    rotate_left
    · rw [HSD.out] at hSw; obtain ⟨s0, s1, s2, s3⟩ := hSw; go_simp; try rfl
    simp only [Act.put, List.setIfInBounds_toArray, List.set_cons_zero, List.set_cons_succ]
    refine wpAnyH_take (i := 6) (v := ?_) rfl (by kernel_rfl) (by kernel_rfl) (by kernel_rfl) (fun _ _ _ h => h) (Or.inl ⟨by rfl, fun W hSw => ?_⟩) hHeld ?_
    rotate_left
    · rw [HSD.out] at hSw; obtain ⟨s0, s1, s2, s3⟩ := hSw; go_simp; try rfl
    simp only [Act.put, List.setIfInBounds_toArray, List.set_cons_zero, List.set_cons_succ]
    refine wpAnyH_take (i := 7) (v := ?_) rfl (by kernel_rfl) (by kernel_rfl) (by kernel_rfl) (fun _ _ _ h => h) (Or.inl ⟨by rfl, fun W hSw => ?_⟩) hHeld ?_
    rotate_left
    · rw [HSD.out] at hSw; obtain ⟨s0, s1, s2, s3⟩ := hSw; go_simp; try rfl
    simp only [Act.put, List.setIfInBounds_toArray, List.set_cons_zero, List.set_cons_succ]
    refine wpAnyH_take (i := 8) (v := ?_) rfl (by kernel_rfl) (by kernel_rfl) (by kernel_rfl) (fun _ _ _ h => h) (Or.inl ⟨by rfl, fun W hSw => ?_⟩) hHeld ?_
    rotate_left
    · rw [HSD.out] at hSw; obtain ⟨s0, s1, s2, s3⟩ := hSw; go_simp; try rfl
    simp only [Act.put, List.setIfInBounds_toArray, List.set_cons_zero, List.set_cons_succ]
    refine wpAnyH_ready (rs := [9]) (by kernel_rfl) (by simp) ?_
    refine AllReadyH.cons rfl (fun K hK => ?_) AllReadyH.nil
    go_simp
    go_at_call 70
    refine HASK.out.mono ?_
    rintro e w3 ⟨rfl, hk3, hn3, hK3⟩
    refine hK.out _ _ (by rw [HSD.out] at hHeld ⊢; obtain ⟨s0, s1, s2, s3⟩ := hHeld; exact ⟨(hk3.cell (cell_lt s0) (by omega)).trans s0, (hk3.cell (cell_lt s1) (by omega)).trans s1, (hk3.cell (cell_lt s2) (by omega)).trans s2, (hk3.cell (cell_lt s3) (by omega)).trans s3⟩) (fun hHeld => ?_)
    clear hK K
    try simp only [Act.put, List.setIfInBounds_toArray, List.set_cons_zero, List.set_cons_succ]
    refine wpAnyH_take (i := 10) (v := ?_) rfl (by kernel_rfl) (by kernel_rfl) (by kernel_rfl) (fun _ _ _ h => h) (Or.inl ⟨by rfl, fun W hSw => ?_⟩) hHeld ?_
    rotate_left
    · rw [HSD.out] at hSw; obtain ⟨s0, s1, s2, s3⟩ := hSw; go_simp; try rfl
    simp only [Act.put, List.setIfInBounds_toArray, List.set_cons_zero, List.set_cons_succ]
    refine wpAnyH_take (i := 11) (v := ?_) rfl (by kernel_rfl) (by kernel_rfl) (by kernel_rfl) (fun _ _ _ h => h) (Or.inl ⟨by rfl, fun W hSw => ?_⟩) hHeld ?_
    rotate_left
    · rw [HSD.out] at hSw; obtain ⟨s0, s1, s2, s3⟩ := hSw; go_simp; try rfl
    simp only [Act.put, List.setIfInBounds_toArray, List.set_cons_zero, List.set_cons_succ]
    refine wpAnyH_done (by kernel_rfl) ?_ _
    simp only [List.getElem_toArray, List.getElem_cons_succ, List.getElem_cons_zero, List.set_cons_zero, List.set_cons_succ]
    have hz3 := hk3.size
    clear hHeld hK3 HSD HASK HQ hn3
    go_wp2_with fail
    go_ret2
    rw [HR.out]
    exact ⟨rfl, HB2.out.trans (hk3.below (B := w.heap.size) (fun k h => by omega) (by omega))⟩
end Go.Proofs.Ytbkknliggnhpcaa
/- The contract of turn's Wrong. -/
namespace Go.Proofs.Ytbkknliggnhpcaa
open Go.RowKit
attribute [local go_sem ↓] Go.wp_at_zero Go.wp_at_succ

def boxCells (W : World) (x : Nat) (c : Cargo) (A1 A2 A3 A4 : Option Addr) (c1 c2 c3 c4 : Nat) : Prop :=
  W.cell? ⟨x, 0, none⟩ = some (.slice A1 c.heat.length c1) ∧ W.cell? ⟨x, 1, none⟩ = some (.int .i64 c.gas) ∧ W.cell? ⟨x, 2, none⟩ = some (.slice A2 c.holds.length c2) ∧ W.cell? ⟨x, 3, none⟩ = some (.slice A3 c.lots.length c3) ∧ W.cell? ⟨x, 4, none⟩ = some (.slice A4 c.seen.length c4)
theorem boxCells.keep {W W' : World} {S : Nat → Prop} {x : Nat} {c : Cargo} {A1 A2 A3 A4 : Option Addr} {c1 c2 c3 c4 : Nat} (h : boxCells W x c A1 A2 A3 A4 c1 c2 c3 c4) (hk : Keep S W W') (hS : ¬ S x) : boxCells W' x c A1 A2 A3 A4 c1 c2 c3 c4 := by
  obtain ⟨h0, h1, h2, h3, h4⟩ := h
  exact ⟨(hk.cell (cell_lt h0) hS).trans h0, (hk.cell (cell_lt h1) hS).trans h1, (hk.cell (cell_lt h2) hS).trans h2, (hk.cell (cell_lt h3) hS).trans h3, (hk.cell (cell_lt h4) hS).trans h4⟩

set_option maxHeartbeats 1600000 in
set_option maxRecDepth 100000 in
theorem wrong1_any {w : World} {x set : Nat} {c : Cargo} {A1 A2 A3 A4 : Option Addr} {c1 c2 c3 c4 : Nat} (h : CargoV w w.heap.size c A1 A2 A3 A4 c1 c2 c3 c4) (hv : Valid c) (hx : boxCells w x c A1 A2 A3 A4 c1 c2 c3 c4) (hs : set < 32) :
    Calls Try.prog 96 #[.int .i64 set, .pointer (some ⟨x, 0, none⟩)] w fun e w' => e = .returned (.bool (someS c set)) ∧ Below w.heap.size w w' := by
  obtain ⟨pb0, pb1, pb2, pb3, pb4⟩ := hx
  have HL := hide (look_any (but := (set : Nat)) h (timesV c))
  have HV := hide hv
  clear h hv
  go_enter Try.func96, Try.ntmps96
  go_wp2_with (first
    | (go_at_call 88; refine HL.out.mono ?_; rintro e w2 ⟨b, bm, rfl, hbb, hbm, hB2, hL2⟩)
    | (go_at_call 97; refine (someT_any (but := set) hL2.lookL HV.out hs).mono ?_; rintro e w3 ⟨rfl, hk3, hn3⟩))
  go_ret
  exact ⟨rfl, hB2.trans (hk3.below (fun k h => by omega) hB2.size)⟩

theorem wrong_f {w : World} {x many : Nat} {c : Cargo} {A1 A2 A3 A4 : Option Addr} {c1 c2 c3 c4 : Nat} (h : CargoV w w.heap.size c A1 A2 A3 A4 c1 c2 c3 c4) (hv : Valid c) (hx : boxCells w x c A1 A2 A3 A4 c1 c2 c3 c4) (hm : many ≤ 4) :
    FOk Try.prog 96 #[.pointer (some ⟨x, 0, none⟩)] (someS c) (fun _ => False) (fun V => CargoV V w.heap.size c A1 A2 A3 A4 c1 c2 c3 c4 ∧ boxCells V x c A1 A2 A3 A4 c1 c2 c3 c4) many w where
  enter := enters_of Try.func96 (by kernel_rfl) rfl
  cd _ h := h.elim
  keep V V' hK hb hz := ⟨hK.1.below (hb.mono hz), hK.2.keep (Keep.of_below' hb (fun _ => False)) (fun h => h)⟩
  start := ⟨h, hx⟩
  call set W hs hz hK := by
    have h16 : 2 ^ many ≤ 16 := Nat.pow_le_pow_right (by omega) hm
    refine (wrong1_any (set := set) (hK.1.more hz) hv hK.2 (by omega)).mono ?_
    rintro e W' ⟨rfl, hb⟩
    exact ⟨rfl, Keep.of_below' hb _, hK.1.below (hb.mono hz), hK.2.keep (Keep.of_below' hb (fun _ => False)) (fun h => h)⟩

def wrongV (c : Cargo) : List Nat × Int := if (checkM c).2.2 ≠ 0 then ([], (checkM c).2.2) else ((fwTo c.seen.length (someS c) (2 ^ c.seen.length)).getD [], 0)

set_option maxHeartbeats 1600000 in
set_option maxRecDepth 100000 in
theorem wrong_any {A1 A2 A3 A4 : Option Addr} {c1 c2 c3 c4 : Nat} {c : Cargo} {w : World} (h : CargoV w w.heap.size c A1 A2 A3 A4 c1 c2 c3 c4) :
    Calls Try.prog 32 #[cargoVal c A1 A2 A3 A4 c1 c2 c3 c4] w fun e w' => ∃ A cp, e = .returned (.tuple #[.slice A (wrongV c).1.length cp, .int .i64 (wrongV c).2]) ∧ IntsS w' w'.heap.size A (wrongV c).1.length cp (natInts (wrongV c).1) ∧ Below w.heap.size w w' := by
  have hB0 : Below w.heap.size w (w.alloc (.cells #[.slice A1 c.heat.length c1, .int .i64 c.gas, .slice A2 c.holds.length c2, .slice A3 c.lots.length c3, .slice A4 c.seen.length c4] 27)) := (Below.refl _ _).alloc (Nat.le_refl _) _
  have hcl : ∀ o : Nat, (w.alloc (.cells #[.slice A1 c.heat.length c1, .int .i64 c.gas, .slice A2 c.holds.length c2, .slice A3 c.lots.length c3, .slice A4 c.seen.length c4] 27)).cell? ⟨w.heap.size, o, none⟩ = (#[Value.slice A1 c.heat.length c1, .int .i64 c.gas, .slice A2 c.holds.length c2, .slice A3 c.lots.length c3, .slice A4 c.seen.length c4])[o]? := fun o => by
    rw [World.cell?_alloc_at _ _ _ _ rfl]
  have hs1 : (w.alloc (.cells #[.slice A1 c.heat.length c1, .int .i64 c.gas, .slice A2 c.holds.length c2, .slice A3 c.lots.length c3, .slice A4 c.seen.length c4] 27)).heap.size = w.heap.size + 1 := by simp
  have hm4 := h.m4
  unfold maxLen at hm4
  have HC0 := hide (h.next hB0)
  go_enter Try.func32, Try.ntmps32
  go_wp2_with fail
  generalize (w.alloc (.cells #[.slice A1 c.heat.length c1, .int .i64 c.gas, .slice A2 c.holds.length c2, .slice A3 c.lots.length c3, .slice A4 c.seen.length c4] 27)) = w0 at *
  have pb0 := hcl 0
  have pb1 := hcl 1
  have pb2 := hcl 2
  have pb3 := hcl 3
  have pb4 := hcl 4
  simp only [List.getElem?_toArray, List.getElem?_cons_succ, List.getElem?_cons_zero] at pb0 pb1 pb2 pb3 pb4
  have hbx : boxCells w0 w.heap.size c A1 A2 A3 A4 c1 c2 c3 c4 := ⟨pb0, pb1, pb2, pb3, pb4⟩
  have HBX := hide hbx
  have HB0 := hide hB0
  have HCV := hide h
  have HWV := hide (show wrongV c = if (checkM c).2.2 ≠ 0 then ([], (checkM c).2.2) else ((fwTo c.seen.length (someS c) (2 ^ c.seen.length)).getD [], 0) from rfl)
  have HVO := hide (fun h => valid_of (c := c) h)
  clear hcl h hB0 hbx
  have hck := check_any HC0.out
  have HCK := hide hck
  clear hck
  refine HCK.out.mono ?_
  rintro e w1 ⟨rfl, hb1⟩
  have hz1 := hb1.size
  have pb4 := (hb1.cell (p := ⟨w.heap.size, 4, none⟩) (by show w.heap.size < _; omega)).trans pb4
  have HB1 := hide (HB0.out.trans (hb1.mono (by omega)))
  have HC1 := hide (HC0.out.next hb1)
  have HBX1 := hide (HBX.out.keep (Keep.of_below' hb1 (fun _ => False)) (fun h => h))
  generalize (checkM c).2.2 = E at *
  clear hb1 pb0 pb1 pb2 pb3 HCK
  cases hce : (E != 0) with
  | true =>
    have HNE := hide (show E ≠ 0 by simpa using hce)
    go_wp2_with fail
    go_ret2
    have hR := HWV.out
    rw [if_pos HNE.out] at hR
    rw [hR]
    exact ⟨none, 0, rfl, ⟨rfl, Nat.le_refl _, by simp [maxLen], Row.nil_⟩, HB1.out⟩
  | false =>
    have hE : E = 0 := by simpa using hce
    have hv := HVO.out hE
    have hR := HWV.out
    rw [if_neg (by simp [hE])] at hR
    have HR := hide hR
    have hse := hv.seens
    have hf := fewest_any (wrong_f HC1.out hv HBX1.out (many := c.seen.length) hse) hse
    have HF := hide hf
    clear hv hR hf HWV HVO hce
    subst hE
    go_wp2_with (go_at_call 91; refine HF.out.mono ?_; rintro e w3 ⟨A, cp, rfl, hi3, hk3, -⟩)
    go_ret2
    rw [HR.out]
    exact ⟨A, cp, rfl, hi3, HB1.out.trans (hk3.below (fun k h => h.elim) (by omega))⟩
end Go.Proofs.Ytbkknliggnhpcaa
