/- The contract of claim's settled: what surely is paid, and what may be. -/
import Derived.Test.YtllmahcanipcpaaNK
import Derived.OwnWalkIn
import Derived.TacticsInMore
import Derived.Deep.DeepCutAuto
set_option linter.unusedVariables false
set_option linter.unusedSimpArgs false
namespace Go.Proofs.Ytllmahcanipcpaa
open Go.RowKit
attribute [local go_sem ↓] Go.wp_at_zero Go.wp_at_succ
attribute [local go_sem] Oper.semAt_some

set_option maxHeartbeats 4000000 in
set_option maxRecDepth 100000 in
theorem fsettled_any {w : World} {L b bm : Nat} {f : File} {a : FA} {but : Nat} (h : LookG w L b bm f a but (paidV f)) (hv : Valid f) (hbut : but < 32) :
    Calls Try.prog 58 #[.pointer (some ⟨b, 0, none⟩)] w fun e w' => e = .returned (.tuple #[.int .i64 (sureI f (truthsB f but)), .int .i64 (mayN f (truthsB f but) : Nat)]) ∧ Keep (fun k => k = bm) w w' ∧ Known w' bm (paidV f) := by
  have HH := hide h
  have HV := hide hv
  have hb0 := h.hb
  have hm0 := h.hm
  have hL0 := h.hL
  have hcl := hv.claims
  clear h hv
  refine (callsIn_wide (n := 0)).1 (callsIn_of_wp_marks Try.func58 rfl trivial ?_ rfl)
  refine (wpIn_wide (n := 0)).2 ?_
  simp only [Try.ntmps58, List.size_toArray, List.length_cons, List.length_nil, Nat.reduceAdd, Nat.reduceSub, Array.replicate_succ, Array.replicate_zero, List.push_toArray, List.append_toArray, List.nil_append, List.cons_append]
  go_wp2_with fail
  have q1 : Blk (((w.alloc (.cells #[.pointer (some ⟨b, 0, none⟩)] 79)).alloc (.cells #[.int .i64 (-1)] 3)).alloc (.cells #[.int .i64 0] 3)) w.heap.size 79 #[.pointer (some ⟨b, 0, none⟩)] := (Blk.made.alloc _).alloc _
  have q2 : Blk (((w.alloc (.cells #[.pointer (some ⟨b, 0, none⟩)] 79)).alloc (.cells #[.int .i64 (-1)] 3)).alloc (.cells #[.int .i64 0] 3)) (w.heap.size + 1) 3 #[.int .i64 (-1)] := (Blk.made' (by simp)).alloc _
  have q3 : Blk (((w.alloc (.cells #[.pointer (some ⟨b, 0, none⟩)] 79)).alloc (.cells #[.int .i64 (-1)] 3)).alloc (.cells #[.int .i64 0] 3)) (w.heap.size + 1 + 1) 3 #[.int .i64 0] := Blk.made' (by simp)
  have hB0 : Below w.heap.size w (((w.alloc (.cells #[.pointer (some ⟨b, 0, none⟩)] 79)).alloc (.cells #[.int .i64 (-1)] 3)).alloc (.cells #[.int .i64 0] 3)) := (((Below.refl _ _).alloc (Nat.le_refl _) _).alloc (by simp) _).alloc (by simp; omega) _
  generalize (((w.alloc (.cells #[.pointer (some ⟨b, 0, none⟩)] 79)).alloc (.cells #[.int .i64 (-1)] 3)).alloc (.cells #[.int .i64 0] 3)) = w0 at *
  refine truths_any.mono ?_
  rintro e w1 ⟨p1, rfl, hp1, hp1', e1, hB1⟩
  have hz0 := q3.lt
  have hz1 := hB1.size
  have n1 := q1.next hB1
  have n2 := q2.next hB1
  have n3 := q3.next hB1
  have hBw := hB0.trans (hB1.mono hB0.size)
  have HL1 := hide (HH.out.still hBw)
  have HBW := hide hBw
  clear q1 q2 q3 hB0 hB1 hBw
  go_wp2_with fail
  refine range_truths (f := f) (A := fun x g => { tmps := #[.pointer (some ⟨b, 0, none⟩), .pointer (some ⟨w.heap.size, 0, none⟩), .pointer (some ⟨w.heap.size + 1, 0, none⟩), .pointer (some ⟨w.heap.size + 1 + 1, 0, none⟩), .pointer (some ⟨g, 0, none⟩), .pointer (some ⟨b, 0, none⟩), .func (.func 77) #[] #[.pointer (some ⟨p1, 0, none⟩)], plVal x, undef, undef, undef, undef, undef, undef, undef, undef, undef, undef, undef, undef], defers := [] }) rfl rfl HL1.out HV.out hbut e1
    (fun k => k = w.heap.size + 1 ∨ k = w.heap.size + 1 + 1) (fun k hk => by omega)
    (fun pre W => Blk W w.heap.size 79 #[.pointer (some ⟨b, 0, none⟩)] ∧ Blk W (w.heap.size + 1) 3 #[.int .i64 (sureI f pre)] ∧ Blk W (w.heap.size + 1 + 1) 3 #[.int .i64 (mayN f pre : Nat)]) (fun _ _ _ => False) ?hI (fun _ _ _ _ h _ => h) ?h0 ?hass ?body ?done (fun _ _ _ _ _ _ _ h _ _ _ => h.elim)
  case hI =>
    rintro pre V V' ⟨i1, i2, i3⟩ hk
    exact ⟨i1.keep hk (by omega), i2.keep hk (by omega), i3.keep hk (by omega)⟩
  case h0 => exact ⟨n1, by rw [sureI, if_pos rfl]; exact n2, by rw [mayN_nil]; exact n3⟩
  case hass =>
    intro l x W1
    simp only [plVal, iv]
    gi_wp2
  case body =>
    rintro l pre x W3 g hg hl hx0 hx ⟨i1, i2, i3⟩ hL hp hz3
    refine wpIn_block (wpIn_seq ?_)
    have hgz := hp.lt
    have r1 := i1.at_ 0
    have r2 := i2.at_ 0
    have x0 := hp.at_ 0
    have x1 := hp.at_ 1
    have x2 := hp.at_ 2
    have x3 := hp.at_ 3
    simp only [List.getElem?_toArray, List.getElem?_cons_zero, List.getElem?_cons_succ] at r1 r2 x0 x1 x2 x3
    have HL := hide hL
    have HI1 := hide i1
    have HI2 := hide i2
    have HI3 := hide i3
    have HP := hide hp
    have HS1 := hide (sure_step hcl pre x)
    have HS2 := hide (may_step hcl pre x)
    have HLT := hide (⟨hL.hb, hL.hm, hL.hL, i1.lt, i2.lt, i3.lt⟩ : b < W3.heap.size ∧ bm < W3.heap.size ∧ L ≤ W3.heap.size ∧ w.heap.size < W3.heap.size ∧ w.heap.size + 1 < W3.heap.size ∧ w.heap.size + 1 + 1 < W3.heap.size)
    have hwz : w.heap.size + 1 + 1 < W3.heap.size := i3.lt
    clear i1 i2 i3 hL hp
    refine wpIn_round_rel (dst := fun i => [8, 9, 10, 11, 12, 0].getD i 0) (mono := fun i => decide (i < 5)) (pre := fun i => decide (i < 5)) (R := LKeep (fun k => k = bm) (fun W => Known W bm (paidV f)))
      (Pv := fun i v W => match i with
        | 0 => v = .int .i64 (sureI f pre)
        | 1 => v = .pointer (some ⟨b, 0, none⟩)
        | 2 => v = .agg #[.int .i64 (nth x 0), .int .i64 (nth x 1), .int .i64 (nth x 2), .int .i64 (nth x 3)]
        | 3 => v = .int .i64 (paidV f x)
        | 4 => v = .int .i64 (sureI f (pre ++ [x]))
        | _ => True) (by kernel_rfl) (by kernel_rfl) (by rintro ⟨a, w, h⟩; exact h) (by kernel_rfl) (LKeep.refl _ _) (fun _ _ _ h h' => h.trans h') ?hst ?hstep ?hend
    case hst =>
      intro i v W W' h hk
      match i, h with
      | 0, h => exact h
      | 1, h => exact h
      | 2, h => exact h
      | 3, h => exact h
      | 4, h => exact h
      | i + 5, h => exact trivial
    case hstep =>
      intro i hi hm listed vs a W hU hk0 hpv haft K hK
      have hkk := (LKeep.drew (fun k => k = bm) (M := fun W => Known W bm (paidV f)) W3 (fun h => h)).trans hk0
      have hk := hkk.1
      have hkm := hkk.2
      clear hkk
      match i, hi, hm with
      | 0, hi, hm =>
        have z2 : a.tmps[2]?.getD undef = .pointer (some ⟨w.heap.size + 1, 0, none⟩) := hU.same 2 (by decide)
        have y0 := (hk.cell (b := w.heap.size + 1) (o := 0) (by omega) (by omega)).trans (r2)
        refine wpOp_value (v := .int .i64 (sureI f pre)) (W' := W) rfl rfl ?_ (hK _ _ (LKeep.refl _ _ _) rfl)
        go_simp
      | 1, hi, hm =>
        have z1 : a.tmps[1]?.getD undef = .pointer (some ⟨w.heap.size, 0, none⟩) := hU.same 1 (by decide)
        have y0 := (hk.cell (b := w.heap.size) (o := 0) (by omega) (by omega)).trans (r1)
        refine wpOp_value (v := .pointer (some ⟨b, 0, none⟩)) (W' := W) rfl rfl ?_ (hK _ _ (LKeep.refl _ _ _) rfl)
        go_simp
      | 2, hi, hm =>
        have z4 : a.tmps[4]?.getD undef = .pointer (some ⟨g, 0, none⟩) := hU.same 4 (by decide)
        have y0 := (hk.cell (b := g) (o := 0) (hgz) (by omega)).trans (x0)
        have y1 := (hk.cell (b := g) (o := 1) (hgz) (by omega)).trans (x1)
        have y2 := (hk.cell (b := g) (o := 2) (hgz) (by omega)).trans (x2)
        have y3 := (hk.cell (b := g) (o := 3) (hgz) (by omega)).trans (x3)
        refine wpOp_value (v := .agg #[.int .i64 (nth x 0), .int .i64 (nth x 1), .int .i64 (nth x 2), .int .i64 (nth x 3)]) (W' := W) rfl rfl ?_ (hK _ _ (LKeep.refl _ _ _) rfl)
        go_simp
      | 3, hi, hm =>
        have l1 := haft _ rfl { on := 1, ground := .data } (by simp) rfl
        have hv1 : vs 1 = .pointer (some ⟨b, 0, none⟩) := hpv 1 l1
        have s1 : a.tmps[9]?.getD undef = vs 1 := hU.slot 1 (by decide) l1
        rw [hv1] at s1
        have l2 := haft _ rfl { on := 2, ground := .data } (by simp) rfl
        have hv2 : vs 2 = .agg #[.int .i64 (nth x 0), .int .i64 (nth x 1), .int .i64 (nth x 2), .int .i64 (nth x 3)] := hpv 2 l2
        have s2 : a.tmps[10]?.getD undef = vs 2 := hU.slot 2 (by decide) l2
        rw [hv2] at s2
        refine wpOp_enter (f := 59) (args := #[.pointer (some ⟨b, 0, none⟩), .agg #[.int .i64 (nth x 0), .int .i64 (nth x 1), .int .i64 (nth x 2), .int .i64 (nth x 3)]]) (W' := W) rfl rfl ?_ ((paid_any (HL.out.keep hk (fun k h => .inl h) (hkm HL.out.k)) HV.out hx).mono (fun e w'' h => ?_))
        · go_simp
        · obtain ⟨he, hkw, hn⟩ := h
          exact ⟨_, he, hK _ _ (⟨hkw, fun _ => hn⟩) rfl⟩
      | 4, hi, hm =>
        have l0 := haft _ rfl { on := 0, ground := .data } (by simp) rfl
        have hv0 : vs 0 = .int .i64 (sureI f pre) := hpv 0 l0
        have s0 : a.tmps[8]?.getD undef = vs 0 := hU.slot 0 (by decide) l0
        rw [hv0] at s0
        have l3 := haft _ rfl { on := 3, ground := .data } (by simp) rfl
        have hv3 : vs 3 = .int .i64 (paidV f x) := hpv 3 l3
        have s3 : a.tmps[11]?.getD undef = vs 3 := hU.slot 3 (by decide) l3
        rw [hv3] at s3
        have hbe := HS1.out
        refine wpOp_value (v := .int .i64 (sureI f (pre ++ [x]))) (W' := W) rfl rfl ?_ (hK _ _ (LKeep.refl _ _ _) rfl)
        go_simp
      | i + 5, hi, hm => exact absurd (of_decide_eq_true hm) (by omega)
    case hend =>
      intro listed vs a W hG hk0 hpv hpre
      have hkk := (LKeep.drew (fun k => k = bm) (M := fun W => Known W bm (paidV f)) W3 (fun h => h)).trans hk0
      have hk := hkk.1
      have hkm := hkk.2
      clear hkk
      have hact := hG.act
      have hT := hG.lst hpre 0 #[true, true, true, true, true, false] rfl (by kernel_rfl) (hpre 0 (by decide) (by decide))
      rw [hG.ix hT (l := [0, 1, 2, 3, 4]) (by kernel_rfl)] at hact
      rw [hG.lo hT (k := 1) (by kernel_rfl)]
      have hv0 : vs 0 = .int .i64 (sureI f pre) := hpv 0 (hpre 0 (by decide) (by decide))
      have hv1 : vs 1 = .pointer (some ⟨b, 0, none⟩) := hpv 1 (hpre 1 (by decide) (by decide))
      have hv2 : vs 2 = .agg #[.int .i64 (nth x 0), .int .i64 (nth x 1), .int .i64 (nth x 2), .int .i64 (nth x 3)] := hpv 2 (hpre 2 (by decide) (by decide))
      have hv3 : vs 3 = .int .i64 (paidV f x) := hpv 3 (hpre 3 (by decide) (by decide))
      have hv4 : vs 4 = .int .i64 (sureI f (pre ++ [x])) := hpv 4 (hpre 4 (by decide) (by decide))
      clear hpv hpre hG hk0
      obtain rfl : a = _ := hact
      subst hT
      simp only [setAll, List.setIfInBounds_toArray, List.set_cons_succ, List.set_cons_zero, List.getD_cons_succ, List.getD_cons_zero]
      simp only [hv0, hv1, hv2, hv3, hv4]
      clear hv0 hv1 hv2 hv3 hv4
      have n2 := HI2.out.keep hk (by omega)
      have r2' := n2.at_ 0
      have f2 := n2.free 0
      simp only [List.getElem?_toArray, List.getElem?_cons_zero] at r2'
      refine wpAny_all (rs := [5]) (by kernel_rfl) (by simp) ?_
      intro i2 hi2
      obtain rfl : i2 = 5 := by simpa using hi2
      refine wpOp_skip (W' := W.setCell ⟨w.heap.size + 1, 0, none⟩ (.int .i64 (sureI f (pre ++ [x])))) rfl rfl ?_ ?_
      · go_simp
      refine wpAny_done (by kernel_rfl) ?_ _
      have hs : Keep (fun k => k = w.heap.size + 1) W (W.setCell ⟨w.heap.size + 1, 0, none⟩ (.int .i64 (sureI f (pre ++ [x])))) := Keep.setCell _ _ _ _ rfl
      have b2 : Blk (W.setCell ⟨w.heap.size + 1, 0, none⟩ (.int .i64 (sureI f (pre ++ [x])))) (w.heap.size + 1) 3 #[.int .i64 (sureI f (pre ++ [x]))] := n2.store 0 _
      generalize W.setCell ⟨w.heap.size + 1, 0, none⟩ (.int .i64 (sureI f (pre ++ [x]))) = W4 at *
      have hL4 := (HL.out.keep hk (fun k h => .inl h) (hkm HL.out.k)).keep' hs (fun k h => by omega)
      have i1 := (HI1.out.keep hk (by omega)).keep hs (by omega)
      have i3 := (HI3.out.keep hk (by omega)).keep hs (by omega)
      have hp4 := (HP.out.keep hk (by omega)).keep hs (by omega)
      have HK4 := hide ((hk.mono (S' := fun k => k = bm ∨ k = w.heap.size + 1 ∨ k = w.heap.size + 1 + 1) (fun k _ h => .inl h)).trans (hs.mono (fun k _ h => .inr (.inl h))))
      clear n2 r2' f2 hkm hk hs r1 r2 x0 x1 x2 x3 hwz hgz
      have r1 := i1.at_ 0
      have r2 := i3.at_ 0
      have x0 := hp4.at_ 0
      have x1 := hp4.at_ 1
      have x2 := hp4.at_ 2
      have x3 := hp4.at_ 3
      simp only [List.getElem?_toArray, List.getElem?_cons_zero, List.getElem?_cons_succ] at r1 r2 x0 x1 x2 x3
      have hgz := hp4.lt
      have hwz : w.heap.size + 1 + 1 < W4.heap.size := i3.lt
      have HL4 := hide hL4
      have HI4 := hide i1
      have HI5 := hide b2
      have HI6 := hide i3
      clear hL4 i1 b2 i3 hp4 HS1
      refine wpIn_round_rel (dst := fun i => [13, 14, 15, 16, 17, 0].getD i 0) (mono := fun i => decide (i < 5)) (pre := fun i => decide (i < 5)) (R := LKeep (fun k => k = bm) (fun W => Known W bm (paidV f)))
        (Pv := fun i v W => match i with
          | 0 => v = .int .i64 (mayN f pre : Nat)
          | 1 => v = .pointer (some ⟨b, 0, none⟩)
          | 2 => v = .agg #[.int .i64 (nth x 0), .int .i64 (nth x 1), .int .i64 (nth x 2), .int .i64 (nth x 3)]
          | 3 => v = .int .i64 (paidV f x)
          | 4 => v = .int .i64 (mayN f (pre ++ [x]) : Nat)
          | _ => True) (by kernel_rfl) (by kernel_rfl) (by rintro ⟨a, w, h⟩; exact h) (by kernel_rfl) (LKeep.refl _ _) (fun _ _ _ h h' => h.trans h') ?hstB ?hstepB ?hendB
      case hstB =>
        intro i v W W' h hk
        match i, h with
        | 0, h => exact h
        | 1, h => exact h
        | 2, h => exact h
        | 3, h => exact h
        | 4, h => exact h
        | i + 5, h => exact trivial
      case hstepB =>
        intro i hi hm listed vs a W hU hk0 hpv haft K hK
        have hkk := (LKeep.drew (fun k => k = bm) (M := fun W => Known W bm (paidV f)) W4 (fun h => h)).trans hk0
        have hk := hkk.1
        have hkm := hkk.2
        clear hkk
        match i, hi, hm with
        | 0, hi, hm =>
          have z3 : a.tmps[3]?.getD undef = .pointer (some ⟨w.heap.size + 1 + 1, 0, none⟩) := hU.same 3 (by decide)
          have y0 := (hk.cell (b := w.heap.size + 1 + 1) (o := 0) (by omega) (by omega)).trans (r2)
          refine wpOp_value (v := .int .i64 (mayN f pre : Nat)) (W' := W) rfl rfl ?_ (hK _ _ (LKeep.refl _ _ _) rfl)
          go_simp
        | 1, hi, hm =>
          have z1 : a.tmps[1]?.getD undef = .pointer (some ⟨w.heap.size, 0, none⟩) := hU.same 1 (by decide)
          have y0 := (hk.cell (b := w.heap.size) (o := 0) (by omega) (by omega)).trans (r1)
          refine wpOp_value (v := .pointer (some ⟨b, 0, none⟩)) (W' := W) rfl rfl ?_ (hK _ _ (LKeep.refl _ _ _) rfl)
          go_simp
        | 2, hi, hm =>
          have z4 : a.tmps[4]?.getD undef = .pointer (some ⟨g, 0, none⟩) := hU.same 4 (by decide)
          have y0 := (hk.cell (b := g) (o := 0) (hgz) (by omega)).trans (x0)
          have y1 := (hk.cell (b := g) (o := 1) (hgz) (by omega)).trans (x1)
          have y2 := (hk.cell (b := g) (o := 2) (hgz) (by omega)).trans (x2)
          have y3 := (hk.cell (b := g) (o := 3) (hgz) (by omega)).trans (x3)
          refine wpOp_value (v := .agg #[.int .i64 (nth x 0), .int .i64 (nth x 1), .int .i64 (nth x 2), .int .i64 (nth x 3)]) (W' := W) rfl rfl ?_ (hK _ _ (LKeep.refl _ _ _) rfl)
          go_simp
        | 3, hi, hm =>
          have l1 := haft _ rfl { on := 1, ground := .data } (by simp) rfl
          have hv1 : vs 1 = .pointer (some ⟨b, 0, none⟩) := hpv 1 l1
          have s1 : a.tmps[14]?.getD undef = vs 1 := hU.slot 1 (by decide) l1
          rw [hv1] at s1
          have l2 := haft _ rfl { on := 2, ground := .data } (by simp) rfl
          have hv2 : vs 2 = .agg #[.int .i64 (nth x 0), .int .i64 (nth x 1), .int .i64 (nth x 2), .int .i64 (nth x 3)] := hpv 2 l2
          have s2 : a.tmps[15]?.getD undef = vs 2 := hU.slot 2 (by decide) l2
          rw [hv2] at s2
          refine wpOp_enter (f := 59) (args := #[.pointer (some ⟨b, 0, none⟩), .agg #[.int .i64 (nth x 0), .int .i64 (nth x 1), .int .i64 (nth x 2), .int .i64 (nth x 3)]]) (W' := W) rfl rfl ?_ ((paid_any (HL4.out.keep hk (fun k h => .inl h) (hkm HL4.out.k)) HV.out hx).mono (fun e w'' h => ?_))
          · go_simp
          · obtain ⟨he, hkw, hn⟩ := h
            exact ⟨_, he, hK _ _ (⟨hkw, fun _ => hn⟩) rfl⟩
        | 4, hi, hm =>
          have l0 := haft _ rfl { on := 0, ground := .data } (by simp) rfl
          have hv0 : vs 0 = .int .i64 (mayN f pre : Nat) := hpv 0 l0
          have s0 : a.tmps[13]?.getD undef = vs 0 := hU.slot 0 (by decide) l0
          rw [hv0] at s0
          have l3 := haft _ rfl { on := 3, ground := .data } (by simp) rfl
          have hv3 : vs 3 = .int .i64 (paidV f x) := hpv 3 l3
          have s3 : a.tmps[16]?.getD undef = vs 3 := hU.slot 3 (by decide) l3
          rw [hv3] at s3
          have hbe := HS2.out
          refine wpOp_value (v := .int .i64 (mayN f (pre ++ [x]) : Nat)) (W' := W) rfl rfl ?_ (hK _ _ (LKeep.refl _ _ _) rfl)
          go_simp
        | i + 5, hi, hm => exact absurd (of_decide_eq_true hm) (by omega)
      case hendB =>
        intro listed vs a W hG hk0 hpv hpre
        have hkk := (LKeep.drew (fun k => k = bm) (M := fun W => Known W bm (paidV f)) W4 (fun h => h)).trans hk0
        have hk := hkk.1
        have hkm := hkk.2
        clear hkk
        have hact := hG.act
        have hT := hG.lst hpre 0 #[true, true, true, true, true, false] rfl (by kernel_rfl) (hpre 0 (by decide) (by decide))
        rw [hG.ix hT (l := [0, 1, 2, 3, 4]) (by kernel_rfl)] at hact
        rw [hG.lo hT (k := 1) (by kernel_rfl)]
        have hv0 : vs 0 = .int .i64 (mayN f pre : Nat) := hpv 0 (hpre 0 (by decide) (by decide))
        have hv1 : vs 1 = .pointer (some ⟨b, 0, none⟩) := hpv 1 (hpre 1 (by decide) (by decide))
        have hv2 : vs 2 = .agg #[.int .i64 (nth x 0), .int .i64 (nth x 1), .int .i64 (nth x 2), .int .i64 (nth x 3)] := hpv 2 (hpre 2 (by decide) (by decide))
        have hv3 : vs 3 = .int .i64 (paidV f x) := hpv 3 (hpre 3 (by decide) (by decide))
        have hv4 : vs 4 = .int .i64 (mayN f (pre ++ [x]) : Nat) := hpv 4 (hpre 4 (by decide) (by decide))
        clear hpv hpre hG hk0
        obtain rfl : a = _ := hact
        subst hT
        simp only [setAll, List.setIfInBounds_toArray, List.set_cons_succ, List.set_cons_zero, List.getD_cons_succ, List.getD_cons_zero]
        simp only [hv0, hv1, hv2, hv3, hv4]
        clear hv0 hv1 hv2 hv3 hv4
        have n2 := HI6.out.keep hk (by omega)
        have r2' := n2.at_ 0
        have f2 := n2.free 0
        simp only [List.getElem?_toArray, List.getElem?_cons_zero] at r2'
        refine wpAny_all (rs := [5]) (by kernel_rfl) (by simp) ?_
        intro i2 hi2
        obtain rfl : i2 = 5 := by simpa using hi2
        refine wpOp_skip (W' := W.setCell ⟨w.heap.size + 1 + 1, 0, none⟩ (.int .i64 (mayN f (pre ++ [x]) : Nat))) rfl rfl ?_ ?_
        · go_simp
        refine wpAny_done (by kernel_rfl) ?_ _
        have hs : Keep (fun k => k = w.heap.size + 1 + 1) W (W.setCell ⟨w.heap.size + 1 + 1, 0, none⟩ (.int .i64 (mayN f (pre ++ [x]) : Nat))) := Keep.setCell _ _ _ _ rfl
        have b2 : Blk (W.setCell ⟨w.heap.size + 1 + 1, 0, none⟩ (.int .i64 (mayN f (pre ++ [x]) : Nat))) (w.heap.size + 1 + 1) 3 #[.int .i64 (mayN f (pre ++ [x]) : Nat)] := n2.store 0 _
        generalize W.setCell ⟨w.heap.size + 1 + 1, 0, none⟩ (.int .i64 (mayN f (pre ++ [x]) : Nat)) = W5 at *
        have hn := HL4.out.keep hk (fun k h => .inl h) (hkm HL4.out.k)
        exact ⟨HK4.out.trans ((hk.mono (fun k _ h => .inl h)).trans (hs.mono (fun k _ h => .inr (.inr h)))), (hn.keep' hs (fun k h => by omega)).k, (HI4.out.keep hk (by omega)).keep hs (by omega), (HI5.out.keep hk (by omega)).keep hs (by omega), b2⟩
  case done =>
    rintro D W' hD ⟨i1, i2, i3⟩ hL hk hd
    have HMS : Hid (MarksOk (w.heap.size + 1 + 1 + 1) [{ target := .collected D, args := #[] }] W') := ⟨⟨D, by omega, rfl, hd, by simp⟩, trivial⟩
    have HKK : Hid (Keep (fun k => k = bm ∨ w.heap.size ≤ k) w W') := (Keep.of_below' HBW.out _).trans (hk.mono (fun k _ h => h.imp id (fun h => by omega)))
    have HKN := hide hL.k
    have r2 := i2.at_ 0
    have r3 := i3.at_ 0
    have f2 := i2.free 0
    have f3 := i3.free 0
    simp only [List.getElem?_toArray, List.getElem?_cons_zero] at r2 r3
    have hz2 := i2.lt
    have hz3 := i3.lt
    have HI2 := hide i2
    have HI3 := hide i3
    generalize hsv : sureI f (truthsB f but) = sv at *
    generalize hmv : mayN f (truthsB f but) = mv at *
    have HSV := hide hsv
    have HMV := hide hmv
    clear hk hd hL i1 i2 i3 hsv hmv
    go_upto_region 6 with (fail)
    apply wp_one
    case h =>
      go_region
      all_goals exact ⟨rfl, rfl, rfl⟩
    case hq =>
    go_wp2_with fail
    have b2 := (HI2.out.store 0 (.int .i64 sv)).else_ (p := ⟨w.heap.size + 1 + 1, 0, none⟩) (by show w.heap.size + 1 ≠ w.heap.size + 1 + 1; omega) (.int .i64 mv)
    have b3 := (HI3.out.else_ (p := ⟨w.heap.size + 1, 0, none⟩) (by show w.heap.size + 1 + 1 ≠ w.heap.size + 1; omega) (.int .i64 sv)).store 0 (.int .i64 mv)
    have hks : Keep (fun k => k = w.heap.size + 1 ∨ k = w.heap.size + 1 + 1) W' ((W'.setCell ⟨w.heap.size + 1, 0, none⟩ (.int .i64 sv)).setCell ⟨w.heap.size + 1 + 1, 0, none⟩ (.int .i64 mv)).drew := ((Keep.setCell _ _ _ _ (.inl rfl)).trans (Keep.setCell _ _ _ _ (.inr rfl))).trans (Keep.of_below' ((Below.refl _ _).drew) _)
    replace b2 : Blk ((W'.setCell ⟨w.heap.size + 1, 0, none⟩ (.int .i64 sv)).setCell ⟨w.heap.size + 1 + 1, 0, none⟩ (.int .i64 mv)).drew (w.heap.size + 1) 3 #[.int .i64 sv] := b2
    replace b3 : Blk ((W'.setCell ⟨w.heap.size + 1, 0, none⟩ (.int .i64 sv)).setCell ⟨w.heap.size + 1 + 1, 0, none⟩ (.int .i64 mv)).drew (w.heap.size + 1 + 1) 3 #[.int .i64 mv] := b3
    generalize ((W'.setCell ⟨w.heap.size + 1, 0, none⟩ (.int .i64 sv)).setCell ⟨w.heap.size + 1 + 1, 0, none⟩ (.int .i64 mv)).drew = wz at *
    refine leaves_marks (B := w.heap.size + 1 + 1 + 1) (HMS.out.keep hks (by omega)) (fun w' hkw' => ?_)
    have r2 := (b2.keep hkw' (by omega)).at_ 0
    have r3 := (b3.keep hkw' (by omega)).at_ 0
    simp only [List.getElem?_toArray, List.getElem?_cons_zero] at r2 r3
    refine ⟨.tuple #[.int .i64 sv, .int .i64 (mv : Nat)], by simp [results, Try.results58, go_sem, r2, r3], by rw [HSV.out, HMV.out], ?_, ?_⟩
    · exact (HKK.out.trans (hks.mono (fun k _ h => .inr (by omega)))).fin (hkw'.mono (fun k _ h => by omega))
    · exact (HKN.out.keep hks (by omega)).keep hkw' (by omega)
end Go.Proofs.Ytllmahcanipcpaa
