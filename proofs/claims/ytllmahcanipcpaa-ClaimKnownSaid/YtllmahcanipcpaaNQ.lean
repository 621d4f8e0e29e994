/- The contract of claim's Owes: what a party pays, at least and at most. -/
import Derived.Test.YtllmahcanipcpaaNP
import Derived.OwnWalkIn
import Derived.TacticsInMore
import Derived.Deep.DeepCutAuto
set_option linter.unusedVariables false
set_option linter.unusedSimpArgs false
namespace Go.Proofs.Ytllmahcanipcpaa
open Go.RowKit
attribute [local go_sem ↓] Go.wp_at_zero Go.wp_at_succ
attribute [local go_sem] Oper.semAt_some

/-- What a claim is worth to a party. -/
def dueI (f : File) (party : Int) (i : Nat) : Int := if (nth f.claims i).against == party then (nth f.lots (nth f.claims i).lot.toNat).worth else 0
def dueL (f : File) (party : Int) : List Nat → Int
  | [] => 0
  | i :: l => dueI f party i + dueL f party l
theorem dueL_snoc (f : File) (party : Int) (i : Nat) : ∀ l, dueL f party (l ++ [i]) = dueL f party l + dueI f party i
  | [] => by simp [dueL]
  | j :: l => by rw [List.cons_append, dueL, dueL_snoc f party i l, dueL]; omega
theorem due_sum (f : File) (s : List Int) (party : Int) : dueL f party ((List.range f.claims.length).filter (paidB f s)) = sumM f s party := by
  have key : ∀ n, dueL f party ((List.range n).filter (paidB f s)) = sumTo f s party n := by
    intro n
    induction n with
    | zero => rfl
    | succ n ih =>
      rw [List.range_succ, List.filter_append, sumTo, ← ih]
      cases h : paidB f s n with
      | true => simp only [List.filter_cons, h, if_true, List.filter_nil, dueL_snoc, dueI, Bool.and_true]
      | false => simp [List.filter_cons, h]
  exact key _
theorem dueI_range {f : File} (hv : Valid f) (party : Int) {i : Nat} (hi : i < f.claims.length) : 0 ≤ dueI f party i ∧ dueI f party i ≤ 99 := by
  have h1 := hv.claim i hi
  have h2 := hv.lot (nth f.claims i).lot.toNat (by omega)
  rw [dueI]; split <;> omega
theorem dueL_range {f : File} (hv : Valid f) (party : Int) : ∀ l : List Nat, (∀ i ∈ l, i < f.claims.length) → 0 ≤ dueL f party l ∧ dueL f party l ≤ 99 * l.length
  | [], _ => by simp [dueL]
  | i :: l, h => by
    have h1 := dueI_range hv party (h i (by simp))
    have h2 := dueL_range hv party l (fun j hj => h j (by simp [hj]))
    rw [dueL, List.length_cons]; omega
def oweF (f : File) (party : Int) (acc : Option Span) (p : List Int) : Option Span := match acc with
  | none => some ⟨sumM f p party, sumM f p party⟩
  | some s => some ⟨min s.lo (sumM f p party), max s.hi (sumM f p party)⟩
def oweS (f : File) (party : Int) (T : List (List Int)) : Option Span := T.foldl (oweF f party) none
theorem oweS_snoc (f : File) (party : Int) (T : List (List Int)) (p : List Int) : oweS f party (T ++ [p]) = oweF f party (oweS f party T) p := by simp [oweS, List.foldl_append]
def oweP (f : File) (party : Int) (T : List (List Int)) : Span := (oweS f party T).getD ⟨0, 0⟩
def owesV (f : File) (party : Int) : Span × Int := if enterE f party f.parties.length 0 = 0 then (oweP f party (truthsB f 0), 0) else (⟨0, 0⟩, enterE f party f.parties.length 0)
set_option maxHeartbeats 4000000 in
set_option maxRecDepth 100000 in
theorem owes_any {w : World} {f : File} {fa : FA} (h : FileV w w.heap.size f fa) (party : Int) :
    Calls Try.prog 18 #[fileVal f fa, .int .i64 party] w fun e w' => e = .returned (.tuple #[.agg #[.int .i64 (owesV f party).1.lo, .int .i64 (owesV f party).1.hi], .int .i64 (owesV f party).2]) ∧ Below w.heap.size w w' := by
  have hB0 : Below w.heap.size w (((w.alloc (.cells (fileCells f fa) 28)).alloc (.cells #[.int .i64 party] 3)).alloc (.cells #[.int .i64 0, .int .i64 0] 43)) := (((Below.refl _ _).alloc (Nat.le_refl _) _).alloc (by simp) _).alloc (by simp; omega) _
  have q1 : Blk (((w.alloc (.cells (fileCells f fa) 28)).alloc (.cells #[.int .i64 party] 3)).alloc (.cells #[.int .i64 0, .int .i64 0] 43)) w.heap.size 28 (fileCells f fa) := (Blk.made.alloc _).alloc _
  have q2 : Blk (((w.alloc (.cells (fileCells f fa) 28)).alloc (.cells #[.int .i64 party] 3)).alloc (.cells #[.int .i64 0, .int .i64 0] 43)) (w.heap.size + 1) 3 #[.int .i64 party] := (Blk.made' (by simp)).alloc _
  have q3 : Blk (((w.alloc (.cells (fileCells f fa) 28)).alloc (.cells #[.int .i64 party] 3)).alloc (.cells #[.int .i64 0, .int .i64 0] 43)) (w.heap.size + 1 + 1) 43 #[.int .i64 0, .int .i64 0] := Blk.made' (by simp)
  have HC0 := hide (h.next hB0)
  have H00 := hide h
  have HQ1 := hide q1
  have HQ2 := hide q2
  have HQ3 := hide q3
  have HB0 := hide hB0
  clear h hB0 q1 q2 q3
  refine (callsIn_wide (n := 0)).1 (callsIn_of_wp_marks Try.func18 rfl trivial ?_ rfl)
  refine (wpIn_wide (n := 0)).2 ?_
  simp only [Try.ntmps18, List.size_toArray, List.length_cons, List.length_nil, Nat.reduceAdd, Nat.reduceSub, Array.replicate_succ, Array.replicate_zero, List.push_toArray, List.append_toArray, List.nil_append, List.cons_append]
  go_wp2_with fail
  generalize (((w.alloc (.cells (fileCells f fa) 28)).alloc (.cells #[.int .i64 party] 3)).alloc (.cells #[.int .i64 0, .int .i64 0] 43)) = w0 at *
  have hz00 := HQ3.out.lt
  refine (enter_any HC0.out party _ 0 (by have := HC0.out.m1; unfold maxLen at this; omega)).mono ?_
  rintro e w1 (⟨hE, hv, b, bm, rfl, hbb, hbm, hL, hB1⟩ | ⟨hE, rfl, hB1⟩)
  · have HX := hide (show owesV f party = (oweP f party (truthsB f 0), 0) by rw [owesV, if_pos hE])
    have hz01 := hB1.size
    have hB2 : Below w1.heap.size w1 ((w1.alloc (.cells #[.pointer (some ⟨b, 0, none⟩)] 79)).alloc (.cells #[.bool true] 4)) := ((Below.refl _ _).alloc (Nat.le_refl _) _).alloc (by simp) _
    have HV := hide hv
    have HB1 := hide (HB0.out.trans (hB1.mono HB0.out.size))
    have n1 := (HQ1.out.next hB1).next hB2
    have n2 := (HQ2.out.next hB1).next hB2
    have n3 := (HQ3.out.next hB1).next hB2
    have n4 : Blk ((w1.alloc (.cells #[.pointer (some ⟨b, 0, none⟩)] 79)).alloc (.cells #[.bool true] 4)) w1.heap.size 79 #[.pointer (some ⟨b, 0, none⟩)] := Blk.made.alloc _
    have n5 : Blk ((w1.alloc (.cells #[.pointer (some ⟨b, 0, none⟩)] 79)).alloc (.cells #[.bool true] 4)) (w1.heap.size + 1) 4 #[.bool true] := Blk.made' (by simp)
    have HL := hide ((hL.less (H00.out.below HB1.out) HB1.out.size).still hB2)
    have hcl := hv.claims
    have hb1 := hL.hb
    have hbm1 := hL.hm
    have HB2 := hide (HB1.out.trans (hB2.mono HB1.out.size))
    clear hE hv hL hB1 hB2
    go_wp2_with fail
    generalize ((w1.alloc (.cells #[.pointer (some ⟨b, 0, none⟩)] 79)).alloc (.cells #[.bool true] 4)) = w2 at *
    refine truths_any.mono ?_
    rintro e w3 ⟨p1, rfl, hp1, hp1', e1, hB3⟩
    have hz2 := n5.lt
    have hz3 := hB3.size
    have HL3 := hide (HL.out.still hB3)
    replace n1 := n1.next hB3
    replace n2 := n2.next hB3
    replace n3 := n3.next hB3
    replace n4 := n4.next hB3
    replace n5 := n5.next hB3
    have HB3 := hide (HB2.out.trans (hB3.mono HB2.out.size))
    clear hB3
    go_wp2_with fail
    refine range_truths (f := f) (A := fun x g => { tmps := #[fileVal f fa, .int .i64 party, .pointer (some ⟨w.heap.size, 0, none⟩), .pointer (some ⟨w.heap.size + 1, 0, none⟩), .pointer (some ⟨w.heap.size + 1 + 1, 0, none⟩), .int .i64 (0), .pointer (some ⟨w1.heap.size, 0, none⟩), .pointer (some ⟨w1.heap.size + 1, 0, none⟩), .pointer (some ⟨g, 0, none⟩), undef, undef, undef, .tuple #[.pointer (some ⟨b, 0, none⟩), .int .i64 (0)], fileVal f fa, .int .i64 party, .pointer (some ⟨w.heap.size, 0, none⟩), .slice fa.A1 f.parties.length fa.c1, .int .i64 (f.parties.length : Nat), .tuple #[.pointer (some ⟨b, 0, none⟩), .int .i64 (0)], .pointer (some ⟨b, 0, none⟩), .int .i64 (0), .int .i64 (0), .bool false, undef, undef, .pointer (some ⟨b, 0, none⟩), .func (.func 77) #[] #[.pointer (some ⟨p1, 0, none⟩)], plVal x, undef, undef, undef, undef, undef, undef, undef, undef, undef, undef, undef, undef, undef, undef, undef, undef, undef, undef, undef, undef, undef, undef, undef, undef, undef, undef, undef, undef, undef, undef, undef, undef, undef, undef, undef, undef, undef, undef, undef, undef, undef, undef, undef, undef, undef, undef, undef, undef], defers := [] }) rfl rfl HL3.out HV.out (by omega : 0 < 32) e1
      (fun k => k = w1.heap.size + 1 ∨ k = w.heap.size + 1 + 1) (fun k hk => by omega)
      (fun pre W => Blk W w.heap.size 28 (fileCells f fa) ∧ Blk W (w.heap.size + 1) 3 #[.int .i64 party] ∧ Blk W (w.heap.size + 1 + 1) 43 #[.int .i64 (oweP f party pre).lo, .int .i64 (oweP f party pre).hi] ∧ Blk W w1.heap.size 79 #[.pointer (some ⟨b, 0, none⟩)] ∧ Blk W (w1.heap.size + 1) 4 #[.bool (oweS f party pre).isNone]) (fun _ _ _ => False) ?hI (fun _ _ _ _ h _ => h) ?h0 ?hass ?body ?done (fun _ _ _ _ _ _ _ h _ _ _ => h.elim)
    case hI =>
      rintro pre V V' ⟨i1, i2, i3, i4, i5⟩ hk
      exact ⟨i1.keep hk (by omega), i2.keep hk (by omega), i3.keep hk (by omega), i4.keep hk (by omega), i5.keep hk (by omega)⟩
    case h0 => exact ⟨n1, n2, n3, n4, n5⟩
    case hass =>
      intro l x W1
      simp only [plVal, iv]
      gi_wp2
    case body =>
      rintro l pre x W3 g hg hl hx0 hx ⟨i1, i2, i3, i4, i5⟩ hLW hp hz4
      have hgz := hp.lt
      have r1 := i4.at_ 0
      have r4 := i1.at_ 4
      have x0 := hp.at_ 0
      have x1 := hp.at_ 1
      have x2 := hp.at_ 2
      have x3 := hp.at_ 3
      simp only [fileCells, List.getElem?_toArray, List.getElem?_cons_zero, List.getElem?_cons_succ] at r1 r4 x0 x1 x2 x3
      have HLW := hide hLW
      have HI1 := hide i1
      have HI2 := hide i2
      have HI3 := hide i3
      have HI4 := hide i4
      have HI5 := hide i5
      have hz34 := i4.lt
      have hz35 := i5.lt
      clear i1 i2 i3 i4 i5 hLW hp
      refine wpIn_block ?_
      simp only [plVal, iv]
      gi_wp2_with fail
      refine wpIn_round_rel (dst := fun i => [28, 29, 30, 31, 32, 33, 34, 35, 36].getD i 0) (mono := fun i => decide (i < 9)) (pre := fun i => decide (i < 9)) (R := LKeep (fun k => k = bm) (fun W => Known W bm (paidV f)))
        (Pv := fun i v W => match i with
          | 0 => v = .pointer (some ⟨b, 0, none⟩)
          | 1 => v = .agg #[.int .i64 (nth x 0), .int .i64 (nth x 1), .int .i64 (nth x 2), .int .i64 (nth x 3)]
          | 2 => v = .int .i64 (paidN f x f.claims.length : Nat)
          | 3 => v = .pointer (some ⟨w.heap.size, 4, none⟩)
          | 4 => v = .slice fa.A5 f.claims.length fa.c5
          | 5 => v = .int .i64 (f.claims.length : Nat)
          | 6 => ∃ gl cp, v = .slice (some ⟨gl, 0, none⟩) ((List.range f.claims.length).filter (paidB f x)).length cp ∧ W3.heap.size ≤ gl ∧ IntsS W W.heap.size (some ⟨gl, 0, none⟩) ((List.range f.claims.length).filter (paidB f x)).length cp (natInts ((List.range f.claims.length).filter (paidB f x)))
          | 7 => v = .int .i64 (((List.range f.claims.length).filter (paidB f x)).length : Nat)
          | 8 => v = .int .i64 0
          | _ => True) (by kernel_rfl) (by kernel_rfl) (by rintro ⟨a, w, h⟩; exact h) (by kernel_rfl) (LKeep.refl _ _) (fun _ _ _ h h' => h.trans h') ?hst ?hstep ?hend
      case hst =>
        intro i v W W' h hk
        match i, h with
        | 0, h => exact h
        | 1, h => exact h
        | 2, h => exact h
        | 3, h => exact h
        | 4, h => exact h
        | 5, h => exact h
        | 6, h => obtain ⟨gl, cp, h1, h2, h3⟩ := h; exact ⟨gl, cp, h1, h2, h3.stab hk.1.size (fun b o hb e _ => hk.1.block b hb (by simp only [Option.some.injEq, Addr.mk.injEq] at e; omega))⟩
        | 7, h => exact h
        | 8, h => exact h
        | i + 9, h => exact trivial
      case hstep =>
        intro i hi hm listed vs a W hU hk0 hpv haft K hK
        have hkk := (LKeep.drew (fun k => k = bm) (M := fun W => Known W bm (paidV f)) W3 (fun h => h)).trans hk0
        have hk := hkk.1
        have hkm := hkk.2
        clear hkk
        match i, hi, hm with
        | 0, hi, hm =>
          have z6 : a.tmps[6]?.getD undef = .pointer (some ⟨w1.heap.size, 0, none⟩) := hU.same 6 (by decide)
          have y0 := (hk.cell (b := w1.heap.size) (o := 0) (by omega) (by omega)).trans (r1)
          refine wpOp_value (v := .pointer (some ⟨b, 0, none⟩)) (W' := W) rfl rfl ?_ (hK _ _ (LKeep.refl _ _ _) rfl)
          go_simp
        | 1, hi, hm =>
          have z8 : a.tmps[8]?.getD undef = .pointer (some ⟨g, 0, none⟩) := hU.same 8 (by decide)
          have y0 := (hk.cell (b := g) (o := 0) (hgz) (by omega)).trans (x0)
          have y1 := (hk.cell (b := g) (o := 1) (hgz) (by omega)).trans (x1)
          have y2 := (hk.cell (b := g) (o := 2) (hgz) (by omega)).trans (x2)
          have y3 := (hk.cell (b := g) (o := 3) (hgz) (by omega)).trans (x3)
          refine wpOp_value (v := .agg #[.int .i64 (nth x 0), .int .i64 (nth x 1), .int .i64 (nth x 2), .int .i64 (nth x 3)]) (W' := W) rfl rfl ?_ (hK _ _ (LKeep.refl _ _ _) rfl)
          go_simp
        | 2, hi, hm =>
          have l0 := haft _ rfl { on := 0, ground := .data } (by simp) rfl
          have hv0 : vs 0 = .pointer (some ⟨b, 0, none⟩) := hpv 0 l0
          have s0 : a.tmps[28]?.getD undef = vs 0 := hU.slot 0 (by decide) l0
          rw [hv0] at s0
          have l1 := haft _ rfl { on := 1, ground := .data } (by simp) rfl
          have hv1 : vs 1 = .agg #[.int .i64 (nth x 0), .int .i64 (nth x 1), .int .i64 (nth x 2), .int .i64 (nth x 3)] := hpv 1 l1
          have s1 : a.tmps[29]?.getD undef = vs 1 := hU.slot 1 (by decide) l1
          rw [hv1] at s1
          refine wpOp_enter (f := 59) (args := #[.pointer (some ⟨b, 0, none⟩), .agg #[.int .i64 (nth x 0), .int .i64 (nth x 1), .int .i64 (nth x 2), .int .i64 (nth x 3)]]) (W' := W) rfl rfl ?_ ((paid_any (HLW.out.keep hk (fun k h => .inl h) (hkm HLW.out.k)) HV.out hx).mono (fun e w'' h => ?_))
          · go_simp
          · obtain ⟨he, hkw, hn⟩ := h
            exact ⟨_, he, hK _ _ (⟨hkw, fun _ => hn⟩) rfl⟩
        | 3, hi, hm =>
          have z2 : a.tmps[2]?.getD undef = .pointer (some ⟨w.heap.size, 0, none⟩) := hU.same 2 (by decide)
          refine wpOp_value (v := .pointer (some ⟨w.heap.size, 4, none⟩)) (W' := W) rfl rfl ?_ (hK _ _ (LKeep.refl _ _ _) rfl)
          go_simp
        | 4, hi, hm =>
          have l3 := haft _ rfl { on := 3, ground := .data } (by simp) rfl
          have hv3 : vs 3 = .pointer (some ⟨w.heap.size, 4, none⟩) := hpv 3 l3
          have s3 : a.tmps[31]?.getD undef = vs 3 := hU.slot 3 (by decide) l3
          rw [hv3] at s3
          have y0 := (hk.cell (b := w.heap.size) (o := 4) (by omega) (by omega)).trans (r4)
          refine wpOp_value (v := .slice fa.A5 f.claims.length fa.c5) (W' := W) rfl rfl ?_ (hK _ _ (LKeep.refl _ _ _) rfl)
          go_simp
        | 5, hi, hm =>
          have l4 := haft _ rfl { on := 4, ground := .data } (by simp) rfl
          have hv4 : vs 4 = .slice fa.A5 f.claims.length fa.c5 := hpv 4 l4
          have s4 : a.tmps[32]?.getD undef = vs 4 := hU.slot 4 (by decide) l4
          rw [hv4] at s4
          refine wpOp_value (v := .int .i64 (f.claims.length : Nat)) (W' := W) rfl rfl ?_ (hK _ _ (LKeep.refl _ _ _) rfl)
          go_simp
        | 6, hi, hm =>
          have l2 := haft _ rfl { on := 2, ground := .data } (by simp) rfl
          have hv2 : vs 2 = .int .i64 (paidN f x f.claims.length : Nat) := hpv 2 l2
          have s2 : a.tmps[30]?.getD undef = vs 2 := hU.slot 2 (by decide) l2
          rw [hv2] at s2
          have l5 := haft _ rfl { on := 5, ground := .data } (by simp) rfl
          have hv5 : vs 5 = .int .i64 (f.claims.length : Nat) := hpv 5 l5
          have s5 : a.tmps[33]?.getD undef = vs 5 := hU.slot 5 (by decide) l5
          rw [hv5] at s5
          refine wpOp_enter (f := 51) (args := #[.int .i64 (paidN f x f.claims.length : Nat), .int .i64 (f.claims.length : Nat)]) (W' := W) rfl rfl ?_ (((list_any (paidN_32 x hcl) hcl W).mono (fun e w h => by rw [pays_list] at h; exact h)).mono (fun e w'' h => ?_))
          · go_simp
          · obtain ⟨gl, cl, he, hi, hgl, hb5⟩ := h
            exact ⟨_, he, hK _ _ (LKeep.below hb5 (fun h => h.keep (Keep.of_below' hb5 (fun _ => False)) (fun h => h))) ⟨gl, cl, rfl, by have := hk.size; omega, hi⟩⟩
        | 7, hi, hm =>
          have l6 := haft _ rfl { on := 6, ground := .data } (by simp) rfl
          obtain ⟨gl6, cp6, hv6, hg6, hi6⟩ := hpv 6 l6
          have s6 : a.tmps[34]?.getD undef = vs 6 := hU.slot 6 (by decide) l6
          rw [hv6] at s6
          refine wpOp_value (v := .int .i64 (((List.range f.claims.length).filter (paidB f x)).length : Nat)) (W' := W) rfl rfl ?_ (hK _ _ (LKeep.refl _ _ _) rfl)
          go_simp
        | 8, hi, hm =>
          refine wpOp_value (v := .int .i64 0) (W' := W) rfl rfl ?_ (hK _ _ (LKeep.refl _ _ _) rfl)
          go_simp
        | i + 9, hi, hm => exact absurd (of_decide_eq_true hm) (by omega)
      case hend =>
        intro listed vs a W hG hk0 hpv hpre
        have hkk := (LKeep.drew (fun k => k = bm) (M := fun W => Known W bm (paidV f)) W3 (fun h => h)).trans hk0
        have hk := hkk.1
        have hkm := hkk.2
        clear hkk
        have hact := hG.act
        have hT := hG.lst hpre 0 #[true, true, true, true, true, true, true, true, true] rfl (by kernel_rfl) (hpre 0 (by decide) (by decide))
        rw [hG.ix hT (l := [0, 1, 2, 3, 4, 5, 6, 7, 8]) (by kernel_rfl)] at hact
        rw [hG.lo hT (k := 0) (by kernel_rfl)]
        have hv0 : vs 0 = .pointer (some ⟨b, 0, none⟩) := hpv 0 (hpre 0 (by decide) (by decide))
        have hv1 : vs 1 = .agg #[.int .i64 (nth x 0), .int .i64 (nth x 1), .int .i64 (nth x 2), .int .i64 (nth x 3)] := hpv 1 (hpre 1 (by decide) (by decide))
        have hv2 : vs 2 = .int .i64 (paidN f x f.claims.length : Nat) := hpv 2 (hpre 2 (by decide) (by decide))
        have hv3 : vs 3 = .pointer (some ⟨w.heap.size, 4, none⟩) := hpv 3 (hpre 3 (by decide) (by decide))
        have hv4 : vs 4 = .slice fa.A5 f.claims.length fa.c5 := hpv 4 (hpre 4 (by decide) (by decide))
        have hv5 : vs 5 = .int .i64 (f.claims.length : Nat) := hpv 5 (hpre 5 (by decide) (by decide))
        obtain ⟨gl6, cp6, hv6, hg6, hi6⟩ := hpv 6 (hpre 6 (by decide) (by decide))
        have hv7 : vs 7 = .int .i64 (((List.range f.claims.length).filter (paidB f x)).length : Nat) := hpv 7 (hpre 7 (by decide) (by decide))
        have hv8 : vs 8 = .int .i64 0 := hpv 8 (hpre 8 (by decide) (by decide))
        clear hpv hpre hG hk0
        obtain rfl : a = _ := hact
        subst hT
        simp only [setAll, List.setIfInBounds_toArray, List.set_cons_succ, List.set_cons_zero, List.getD_cons_succ, List.getD_cons_zero]
        simp only [hv0, hv1, hv2, hv3, hv4, hv5, hv6, hv7, hv8]
        clear hv0 hv1 hv2 hv3 hv4 hv5 hv6 hv7 hv8
        refine wpAny_done (by kernel_rfl) ?_ _
        have hLn : (List.range f.claims.length).filter (paidB f x) = (List.range f.claims.length).filter (paidB f x) := rfl
        have hLi : ∀ i ∈ (List.range f.claims.length).filter (paidB f x), i < f.claims.length := fun i hi => List.mem_range.1 (List.mem_filter.1 hi).1
        have hLl : ((List.range f.claims.length).filter (paidB f x)).length ≤ 5 := by have := List.length_filter_le (paidB f x) (List.range f.claims.length); rw [List.length_range] at this; omega
        have HDS := hide (due_sum f x party)
        generalize (List.range f.claims.length).filter (paidB f x) = Lx at *
        have HLI := hide hLi
        have HIL := hide hi6
        have HWK := hide hk
        have hn := HLW.out.keep hk (fun k h => .inl h) (hkm HLW.out.k)
        have HLV := hide hn
        have i1 := HI1.out.keep hk (by omega)
        have i2 := HI2.out.keep hk (by omega)
        have r4 := i1.at_ 4
        have r2 := i1.at_ 2
        have rp := i2.at_ 0
        simp only [fileCells, List.getElem?_toArray, List.getElem?_cons_zero, List.getElem?_cons_succ] at r4 r2 rp
        have hzw1 := i1.lt
        have hzw2 := i2.lt
        have hzWL := hn.hL
        have hzWb := hk.size
        have hm5 := hn.v.m5
        have hm3 := hn.v.m3
        unfold maxLen at hm5 hm3
        clear hLn hLi hk hkm hn hi6 r1 x0 x1 x2 x3 i1 i2
        obtain ⟨Wm, rfl⟩ : ∃ Wm : World, Wm = W := ⟨_, rfl⟩
        gi_wp2_with fail
        gi_loopw [9, 11, 36] (fun v9 _ v36 wr => ∃ m : Nat, m ≤ Lx.length ∧ v36 = .int .i64 m ∧ v9 = .int .i64 (dueL f party (Lx.take m)) ∧ Below Wm.heap.size Wm wr) (fun _ _ v36 _ => Lx.length - (intOf v36).toNat)
        case atStart => exact ⟨0, Nat.zero_le _, rfl, rfl, Below.refl _ _⟩
        case round =>
          obtain ⟨m, hm, rfl, rfl, hB⟩ := hrel
          have hm0 : (0 : Int) ≤ (m : Int) := Int.natCast_nonneg _
          have hzr := hB.size
          by_cases hlt : m < Lx.length
          · have hm1 : (m : Int) < (Lx.length : Int) := by omega
            obtain ⟨bq, oq, eq, hbq, hcq⟩ := HIL.out.at_ hlt
            obtain ⟨rfl, rfl⟩ : gl6 = bq ∧ 0 = oq := by simpa using eq
            have hci := HLI.out (nth Lx m) (by rw [nth_eq hlt]; exact List.getElem_mem _)
            have hni : nth (natInts Lx) m = (nth Lx m : Nat) := by simp [natInts, nth, List.getElem?_map, hlt]
            rw [hni] at hcq
            have HTK := hide (show dueL f party (Lx.take (m + 1)) = dueL f party (Lx.take m) + dueI f party (nth Lx m) by rw [take_nth hlt, dueL_snoc])
            have hdr := dueL_range HV.out party (Lx.take m) (fun i hi => HLI.out i (List.mem_of_mem_take hi))
            have hdl : (Lx.take m).length ≤ 5 := by have := List.length_take_le m Lx; omega
            generalize nth Lx m = ci at *
            generalize dueL f party (Lx.take m) = D at *
            have hD0 := hdr.1
            have hD1 : D ≤ 495 := by omega
            obtain ⟨bc, oc, hA5, hbc, g0, g1, g2⟩ := HLV.out.v.claims.claims hci
            have hcv := HV.out.claim ci hci
            have HDI := hide (show dueI f party ci = if (nth f.claims ci).against == party then (nth f.lots (nth f.claims ci).lot.toNat).worth else 0 from rfl)
            generalize nth f.claims ci = c at *
            obtain ⟨lk0, ag, cd⟩ := c
            obtain ⟨lk, rfl⟩ : ∃ lk : Nat, lk0 = (lk : Int) := ⟨lk0.toNat, by dsimp only at hcv; omega⟩
            dsimp only at g0 g1 hcv HDI
            rw [Int.toNat_natCast] at HDI
            have hlk : lk < f.lots.length := by omega
            obtain ⟨bl, ol, hA3, hbl, y0, y1, y2, g3⟩ := HLV.out.v.lots.lots hlk
            have hwo := HV.out.lot lk hlk
            generalize (nth f.lots lk).worth = wo at *
            have hw0 := hwo.2.2.2.1
            have hw1 := hwo.2.2.2.2
            rw [hA5] at r4
            rw [hA3] at r2
            have r4 := (hB.cell (p := ⟨w.heap.size, 4, none⟩) hzw1).trans r4
            have r2 := (hB.cell (p := ⟨w.heap.size, 2, none⟩) hzw1).trans r2
            have rp := (hB.cell (p := ⟨w.heap.size + 1, 0, none⟩) hzw2).trans rp
            have g0 := (hB.cell (p := ⟨bc, oc + ci * 3, none⟩) (by show bc < _; omega)).trans g0
            have g1 := (hB.cell (p := ⟨bc, oc + ci * 3 + 1, none⟩) (by show bc < _; omega)).trans g1
            have g3 := (hB.cell (p := ⟨bl, ol + lk * 4 + 3, none⟩) (by show bl < _; omega)).trans g3
            have hq := (hB.cell (p := ⟨gl6, 0 + m, none⟩) (by show gl6 < _; omega)).trans hcq
            rw [Nat.zero_add] at hq
            have hci0 : (0 : Int) ≤ (ci : Int) := Int.natCast_nonneg _
            have hci1 : (ci : Int) < (f.claims.length : Int) := by omega
            have hlk0 : (0 : Int) ≤ (lk : Int) := Int.natCast_nonneg _
            have hlk1 : (lk : Int) < (f.lots.length : Int) := by omega
            have hbcr : bc < wr.heap.size := by omega
            have hblr : bl < wr.heap.size := by omega
            have hglr : gl6 < wr.heap.size := by omega
            have HB := hide hB
            clear hcq y0 y1 y2 hA5 hA3 hwo hcv hdr g2 hni eq hB
            gi_wp2_with fail
            cases hag : (ag == party) with
            | true =>
              have HAG := hide hag
              refine wpIn_round_rel (dst := fun i => [40, 41, 42, 43, 44, 45, 46, 47].getD i 0) (mono := fun i => decide (i < 8)) (pre := fun i => decide (i < 8)) (R := LKeep (fun _ => False) (fun _ => True))
                (Pv := fun i v W => match i with
                  | 0 => v = .pointer (some ⟨w.heap.size, 4, none⟩)
                  | 1 => v = .slice (some ⟨bc, oc, none⟩) f.claims.length fa.c5
                  | 2 => v = .int .i64 (ci : Nat)
                  | 3 => v = .pointer (some ⟨bc, oc + ci * 3, none⟩)
                  | 4 => v = .pointer (some ⟨bc, oc + ci * 3 + 1, none⟩)
                  | 5 => v = .int .i64 ag
                  | 6 => v = .int .i64 party
                  | 7 => v = .bool true
                  | _ => True) (by kernel_rfl) (by kernel_rfl) (by rintro ⟨a, w, h⟩; exact h) (by kernel_rfl) (LKeep.refl _ _) (fun _ _ _ h h' => h.trans h') ?hstCt ?hstepCt ?hendCt
              case hstCt =>
                intro i v W W' h hk
                match i, h with
                | 0, h => exact h
                | 1, h => exact h
                | 2, h => exact h
                | 3, h => exact h
                | 4, h => exact h
                | 5, h => exact h
                | 6, h => exact h
                | 7, h => exact h
                | i + 8, h => exact trivial
              case hstepCt =>
                intro i hi hm listed vs a W hU hk0 hpv haft K hK
                have hkk := (LKeep.drew (fun _ => False) (M := fun _ => True) wr (fun h => h)).trans hk0
                have hk := hkk.1
                have hkm := hkk.2
                clear hkk
                match i, hi, hm with
                | 0, hi, hm =>
                  have z2 : a.tmps[2]?.getD undef = .pointer (some ⟨w.heap.size, 0, none⟩) := hU.same 2 (by decide)
                  refine wpOp_value (v := .pointer (some ⟨w.heap.size, 4, none⟩)) (W' := W) rfl rfl ?_ (hK _ _ (LKeep.refl _ _ _) rfl)
                  go_simp
                | 1, hi, hm =>
                  have l0 := haft _ rfl { on := 0, ground := .data } (by simp) rfl
                  have hv0 : vs 0 = .pointer (some ⟨w.heap.size, 4, none⟩) := hpv 0 l0
                  have s0 : a.tmps[40]?.getD undef = vs 0 := hU.slot 0 (by decide) l0
                  rw [hv0] at s0
                  have y0 := (hk.cell (b := w.heap.size) (o := 4) (by omega) (fun h => h)).trans (r4)
                  refine wpOp_value (v := .slice (some ⟨bc, oc, none⟩) f.claims.length fa.c5) (W' := W) rfl rfl ?_ (hK _ _ (LKeep.refl _ _ _) rfl)
                  go_simp
                | 2, hi, hm =>
                  have z11 : a.tmps[11]?.getD undef = .int .i64 (ci : Nat) := hU.same 11 (by decide)
                  refine wpOp_value (v := .int .i64 (ci : Nat)) (W' := W) rfl rfl ?_ (hK _ _ (LKeep.refl _ _ _) rfl)
                  go_simp
                | 3, hi, hm =>
                  have l1 := haft _ rfl { on := 1, ground := .data } (by simp) rfl
                  have hv1 : vs 1 = .slice (some ⟨bc, oc, none⟩) f.claims.length fa.c5 := hpv 1 l1
                  have s1 : a.tmps[41]?.getD undef = vs 1 := hU.slot 1 (by decide) l1
                  rw [hv1] at s1
                  have l2 := haft _ rfl { on := 2, ground := .data } (by simp) rfl
                  have hv2 : vs 2 = .int .i64 (ci : Nat) := hpv 2 l2
                  have s2 : a.tmps[42]?.getD undef = vs 2 := hU.slot 2 (by decide) l2
                  rw [hv2] at s2
                  refine wpOp_value (v := .pointer (some ⟨bc, oc + ci * 3, none⟩)) (W' := W) rfl rfl ?_ (hK _ _ (LKeep.refl _ _ _) rfl)
                  go_simp
                | 4, hi, hm =>
                  have l3 := haft _ rfl { on := 3, ground := .data } (by simp) rfl
                  have hv3 : vs 3 = .pointer (some ⟨bc, oc + ci * 3, none⟩) := hpv 3 l3
                  have s3 : a.tmps[43]?.getD undef = vs 3 := hU.slot 3 (by decide) l3
                  rw [hv3] at s3
                  refine wpOp_value (v := .pointer (some ⟨bc, oc + ci * 3 + 1, none⟩)) (W' := W) rfl rfl ?_ (hK _ _ (LKeep.refl _ _ _) rfl)
                  go_simp
                | 5, hi, hm =>
                  have l4 := haft _ rfl { on := 4, ground := .data } (by simp) rfl
                  have hv4 : vs 4 = .pointer (some ⟨bc, oc + ci * 3 + 1, none⟩) := hpv 4 l4
                  have s4 : a.tmps[44]?.getD undef = vs 4 := hU.slot 4 (by decide) l4
                  rw [hv4] at s4
                  have y0 := (hk.cell (b := bc) (o := oc + ci * 3 + 1) (by omega) (fun h => h)).trans (g1)
                  refine wpOp_value (v := .int .i64 ag) (W' := W) rfl rfl ?_ (hK _ _ (LKeep.refl _ _ _) rfl)
                  go_simp
                | 6, hi, hm =>
                  have z3 : a.tmps[3]?.getD undef = .pointer (some ⟨w.heap.size + 1, 0, none⟩) := hU.same 3 (by decide)
                  have y0 := (hk.cell (b := w.heap.size + 1) (o := 0) (by omega) (fun h => h)).trans (rp)
                  refine wpOp_value (v := .int .i64 party) (W' := W) rfl rfl ?_ (hK _ _ (LKeep.refl _ _ _) rfl)
                  go_simp
                | 7, hi, hm =>
                  have l5 := haft _ rfl { on := 5, ground := .data } (by simp) rfl
                  have hv5 : vs 5 = .int .i64 ag := hpv 5 l5
                  have s5 : a.tmps[45]?.getD undef = vs 5 := hU.slot 5 (by decide) l5
                  rw [hv5] at s5
                  have l6 := haft _ rfl { on := 6, ground := .data } (by simp) rfl
                  have hv6 : vs 6 = .int .i64 party := hpv 6 l6
                  have s6 : a.tmps[46]?.getD undef = vs 6 := hU.slot 6 (by decide) l6
                  rw [hv6] at s6
                  refine wpOp_value (v := .bool true) (W' := W) rfl rfl ?_ (hK _ _ (LKeep.refl _ _ _) rfl)
                  go_simp
                | i + 8, hi, hm => exact absurd (of_decide_eq_true hm) (by omega)
              case hendCt =>
                intro listed vs a W hG hk0 hpv hpre
                have hkk := (LKeep.drew (fun _ => False) (M := fun _ => True) wr (fun h => h)).trans hk0
                have hk := hkk.1
                have hkm := hkk.2
                clear hkk
                have hact := hG.act
                have hT := hG.lst hpre 0 #[true, true, true, true, true, true, true, true] rfl (by kernel_rfl) (hpre 0 (by decide) (by decide))
                rw [hG.ix hT (l := [0, 1, 2, 3, 4, 5, 6, 7]) (by kernel_rfl)] at hact
                rw [hG.lo hT (k := 0) (by kernel_rfl)]
                have hv0 : vs 0 = .pointer (some ⟨w.heap.size, 4, none⟩) := hpv 0 (hpre 0 (by decide) (by decide))
                have hv1 : vs 1 = .slice (some ⟨bc, oc, none⟩) f.claims.length fa.c5 := hpv 1 (hpre 1 (by decide) (by decide))
                have hv2 : vs 2 = .int .i64 (ci : Nat) := hpv 2 (hpre 2 (by decide) (by decide))
                have hv3 : vs 3 = .pointer (some ⟨bc, oc + ci * 3, none⟩) := hpv 3 (hpre 3 (by decide) (by decide))
                have hv4 : vs 4 = .pointer (some ⟨bc, oc + ci * 3 + 1, none⟩) := hpv 4 (hpre 4 (by decide) (by decide))
                have hv5 : vs 5 = .int .i64 ag := hpv 5 (hpre 5 (by decide) (by decide))
                have hv6 : vs 6 = .int .i64 party := hpv 6 (hpre 6 (by decide) (by decide))
                have hv7 : vs 7 = .bool true := hpv 7 (hpre 7 (by decide) (by decide))
                clear hpv hpre hG hk0
                obtain rfl : a = _ := hact
                subst hT
                simp only [setAll, List.setIfInBounds_toArray, List.set_cons_succ, List.set_cons_zero, List.getD_cons_succ, List.getD_cons_zero]
                simp only [hv0, hv1, hv2, hv3, hv4, hv5, hv6, hv7]
                clear hv0 hv1 hv2 hv3 hv4 hv5 hv6 hv7
                refine wpAny_done (by kernel_rfl) ?_ _
                have k_r4 := (hk.cell (b := w.heap.size) (o := 4) (by omega) (fun h => h)).trans r4
                have k_r2 := (hk.cell (b := w.heap.size) (o := 2) (by omega) (fun h => h)).trans r2
                have k_g0 := (hk.cell (b := bc) (o := oc + ci * 3) (by omega) (fun h => h)).trans g0
                have k_g3 := (hk.cell (b := bl) (o := ol + lk * 4 + 3) (by omega) (fun h => h)).trans g3
                have hzk := hk.size
                have hbz := hk.below (B := wr.heap.size) (fun k h => h.elim) (Nat.le_refl _)
                have HBZ := hide (HB.out.trans (hbz.mono HB.out.size))
                clear hk hkm hbz
                clear r4 r2 rp g0 g1 g3
                obtain ⟨wx, rfl⟩ : ∃ wx : World, wx = W := ⟨_, rfl⟩
                gi_wp2_with fail
                refine wpIn_round_rel (dst := fun i => [48, 49, 50, 51, 52, 53, 54, 55, 56, 57, 58, 59, 60, 0].getD i 0) (mono := fun i => decide (i < 13)) (pre := fun i => decide (i < 13)) (R := LKeep (fun _ => False) (fun _ => True))
                  (Pv := fun i v W => match i with
                    | 0 => v = .int .i64 D
                    | 1 => v = .pointer (some ⟨w.heap.size, 2, none⟩)
                    | 2 => v = .slice (some ⟨bl, ol, none⟩) f.lots.length fa.c3
                    | 3 => v = .pointer (some ⟨w.heap.size, 4, none⟩)
                    | 4 => v = .slice (some ⟨bc, oc, none⟩) f.claims.length fa.c5
                    | 5 => v = .int .i64 (ci : Nat)
                    | 6 => v = .pointer (some ⟨bc, oc + ci * 3, none⟩)
                    | 7 => v = .pointer (some ⟨bc, oc + ci * 3, none⟩)
                    | 8 => v = .int .i64 (lk : Nat)
                    | 9 => v = .pointer (some ⟨bl, ol + lk * 4, none⟩)
                    | 10 => v = .pointer (some ⟨bl, ol + lk * 4 + 3, none⟩)
                    | 11 => v = .int .i64 wo
                    | 12 => v = .int .i64 (D + wo)
                    | _ => True) (by kernel_rfl) (by kernel_rfl) (by rintro ⟨a, w, h⟩; exact h) (by kernel_rfl) (LKeep.refl _ _) (fun _ _ _ h h' => h.trans h') ?hstD ?hstepD ?hendD
                case hstD =>
                  intro i v W W' h hk
                  match i, h with
                  | 0, h => exact h
                  | 1, h => exact h
                  | 2, h => exact h
                  | 3, h => exact h
                  | 4, h => exact h
                  | 5, h => exact h
                  | 6, h => exact h
                  | 7, h => exact h
                  | 8, h => exact h
                  | 9, h => exact h
                  | 10, h => exact h
                  | 11, h => exact h
                  | 12, h => exact h
                  | i + 13, h => exact trivial
                case hstepD =>
                  intro i hi hm listed vs a W hU hk0 hpv haft K hK
                  have hkk := (LKeep.drew (fun _ => False) (M := fun _ => True) wx (fun h => h)).trans hk0
                  have hk := hkk.1
                  have hkm := hkk.2
                  clear hkk
                  match i, hi, hm with
                  | 0, hi, hm =>
                    have z9 : a.tmps[9]?.getD undef = .int .i64 D := hU.same 9 (by decide)
                    refine wpOp_value (v := .int .i64 D) (W' := W) rfl rfl ?_ (hK _ _ (LKeep.refl _ _ _) rfl)
                    go_simp
                  | 1, hi, hm =>
                    have z2 : a.tmps[2]?.getD undef = .pointer (some ⟨w.heap.size, 0, none⟩) := hU.same 2 (by decide)
                    refine wpOp_value (v := .pointer (some ⟨w.heap.size, 2, none⟩)) (W' := W) rfl rfl ?_ (hK _ _ (LKeep.refl _ _ _) rfl)
                    go_simp
                  | 2, hi, hm =>
                    have l1 := haft _ rfl { on := 1, ground := .data } (by simp) rfl
                    have hv1 : vs 1 = .pointer (some ⟨w.heap.size, 2, none⟩) := hpv 1 l1
                    have s1 : a.tmps[49]?.getD undef = vs 1 := hU.slot 1 (by decide) l1
                    rw [hv1] at s1
                    have y0 := (hk.cell (b := w.heap.size) (o := 2) (by omega) (fun h => h)).trans (k_r2)
                    refine wpOp_value (v := .slice (some ⟨bl, ol, none⟩) f.lots.length fa.c3) (W' := W) rfl rfl ?_ (hK _ _ (LKeep.refl _ _ _) rfl)
                    go_simp
                  | 3, hi, hm =>
                    have z2 : a.tmps[2]?.getD undef = .pointer (some ⟨w.heap.size, 0, none⟩) := hU.same 2 (by decide)
                    refine wpOp_value (v := .pointer (some ⟨w.heap.size, 4, none⟩)) (W' := W) rfl rfl ?_ (hK _ _ (LKeep.refl _ _ _) rfl)
                    go_simp
                  | 4, hi, hm =>
                    have l3 := haft _ rfl { on := 3, ground := .data } (by simp) rfl
                    have hv3 : vs 3 = .pointer (some ⟨w.heap.size, 4, none⟩) := hpv 3 l3
                    have s3 : a.tmps[51]?.getD undef = vs 3 := hU.slot 3 (by decide) l3
                    rw [hv3] at s3
                    have y0 := (hk.cell (b := w.heap.size) (o := 4) (by omega) (fun h => h)).trans (k_r4)
                    refine wpOp_value (v := .slice (some ⟨bc, oc, none⟩) f.claims.length fa.c5) (W' := W) rfl rfl ?_ (hK _ _ (LKeep.refl _ _ _) rfl)
                    go_simp
                  | 5, hi, hm =>
                    have z11 : a.tmps[11]?.getD undef = .int .i64 (ci : Nat) := hU.same 11 (by decide)
                    refine wpOp_value (v := .int .i64 (ci : Nat)) (W' := W) rfl rfl ?_ (hK _ _ (LKeep.refl _ _ _) rfl)
                    go_simp
                  | 6, hi, hm =>
                    have l4 := haft _ rfl { on := 4, ground := .data } (by simp) rfl
                    have hv4 : vs 4 = .slice (some ⟨bc, oc, none⟩) f.claims.length fa.c5 := hpv 4 l4
                    have s4 : a.tmps[52]?.getD undef = vs 4 := hU.slot 4 (by decide) l4
                    rw [hv4] at s4
                    have l5 := haft _ rfl { on := 5, ground := .data } (by simp) rfl
                    have hv5 : vs 5 = .int .i64 (ci : Nat) := hpv 5 l5
                    have s5 : a.tmps[53]?.getD undef = vs 5 := hU.slot 5 (by decide) l5
                    rw [hv5] at s5
                    refine wpOp_value (v := .pointer (some ⟨bc, oc + ci * 3, none⟩)) (W' := W) rfl rfl ?_ (hK _ _ (LKeep.refl _ _ _) rfl)
                    go_simp
                  | 7, hi, hm =>
                    have l6 := haft _ rfl { on := 6, ground := .data } (by simp) rfl
                    have hv6 : vs 6 = .pointer (some ⟨bc, oc + ci * 3, none⟩) := hpv 6 l6
                    have s6 : a.tmps[54]?.getD undef = vs 6 := hU.slot 6 (by decide) l6
                    rw [hv6] at s6
                    refine wpOp_value (v := .pointer (some ⟨bc, oc + ci * 3, none⟩)) (W' := W) rfl rfl ?_ (hK _ _ (LKeep.refl _ _ _) rfl)
                    go_simp
                  | 8, hi, hm =>
                    have l7 := haft _ rfl { on := 7, ground := .data } (by simp) rfl
                    have hv7 : vs 7 = .pointer (some ⟨bc, oc + ci * 3, none⟩) := hpv 7 l7
                    have s7 : a.tmps[55]?.getD undef = vs 7 := hU.slot 7 (by decide) l7
                    rw [hv7] at s7
                    have y0 := (hk.cell (b := bc) (o := oc + ci * 3) (by omega) (fun h => h)).trans (k_g0)
                    refine wpOp_value (v := .int .i64 (lk : Nat)) (W' := W) rfl rfl ?_ (hK _ _ (LKeep.refl _ _ _) rfl)
                    go_simp
                  | 9, hi, hm =>
                    have l2 := haft _ rfl { on := 2, ground := .data } (by simp) rfl
                    have hv2 : vs 2 = .slice (some ⟨bl, ol, none⟩) f.lots.length fa.c3 := hpv 2 l2
                    have s2 : a.tmps[50]?.getD undef = vs 2 := hU.slot 2 (by decide) l2
                    rw [hv2] at s2
                    have l8 := haft _ rfl { on := 8, ground := .data } (by simp) rfl
                    have hv8 : vs 8 = .int .i64 (lk : Nat) := hpv 8 l8
                    have s8 : a.tmps[56]?.getD undef = vs 8 := hU.slot 8 (by decide) l8
                    rw [hv8] at s8
                    refine wpOp_value (v := .pointer (some ⟨bl, ol + lk * 4, none⟩)) (W' := W) rfl rfl ?_ (hK _ _ (LKeep.refl _ _ _) rfl)
                    go_simp
                  | 10, hi, hm =>
                    have l9 := haft _ rfl { on := 9, ground := .data } (by simp) rfl
                    have hv9 : vs 9 = .pointer (some ⟨bl, ol + lk * 4, none⟩) := hpv 9 l9
                    have s9 : a.tmps[57]?.getD undef = vs 9 := hU.slot 9 (by decide) l9
                    rw [hv9] at s9
                    refine wpOp_value (v := .pointer (some ⟨bl, ol + lk * 4 + 3, none⟩)) (W' := W) rfl rfl ?_ (hK _ _ (LKeep.refl _ _ _) rfl)
                    go_simp
                  | 11, hi, hm =>
                    have l10 := haft _ rfl { on := 10, ground := .data } (by simp) rfl
                    have hv10 : vs 10 = .pointer (some ⟨bl, ol + lk * 4 + 3, none⟩) := hpv 10 l10
                    have s10 : a.tmps[58]?.getD undef = vs 10 := hU.slot 10 (by decide) l10
                    rw [hv10] at s10
                    have y0 := (hk.cell (b := bl) (o := ol + lk * 4 + 3) (by omega) (fun h => h)).trans (k_g3)
                    refine wpOp_value (v := .int .i64 wo) (W' := W) rfl rfl ?_ (hK _ _ (LKeep.refl _ _ _) rfl)
                    go_simp
                  | 12, hi, hm =>
                    have l0 := haft _ rfl { on := 0, ground := .data } (by simp) rfl
                    have hv0 : vs 0 = .int .i64 D := hpv 0 l0
                    have s0 : a.tmps[48]?.getD undef = vs 0 := hU.slot 0 (by decide) l0
                    rw [hv0] at s0
                    have l11 := haft _ rfl { on := 11, ground := .data } (by simp) rfl
                    have hv11 : vs 11 = .int .i64 wo := hpv 11 l11
                    have s11 : a.tmps[59]?.getD undef = vs 11 := hU.slot 11 (by decide) l11
                    rw [hv11] at s11
                    refine wpOp_value (v := .int .i64 (D + wo)) (W' := W) rfl rfl ?_ (hK _ _ (LKeep.refl _ _ _) rfl)
                    go_simp
                    exact IntWalk.i64_in _ (by omega)
                  | i + 13, hi, hm => exact absurd (of_decide_eq_true hm) (by omega)
                case hendD =>
                  intro listed vs a W hG hk0 hpv hpre
                  have hkk := (LKeep.drew (fun _ => False) (M := fun _ => True) wx (fun h => h)).trans hk0
                  have hk := hkk.1
                  have hkm := hkk.2
                  clear hkk
                  have hact := hG.act
                  have hT := hG.lst hpre 0 #[true, true, true, true, true, true, true, true, true, true, true, true, true, false] rfl (by kernel_rfl) (hpre 0 (by decide) (by decide))
                  rw [hG.ix hT (l := [0, 1, 2, 3, 4, 5, 6, 7, 8, 9, 10, 11, 12]) (by kernel_rfl)] at hact
                  rw [hG.lo hT (k := 1) (by kernel_rfl)]
                  have hv0 : vs 0 = .int .i64 D := hpv 0 (hpre 0 (by decide) (by decide))
                  have hv1 : vs 1 = .pointer (some ⟨w.heap.size, 2, none⟩) := hpv 1 (hpre 1 (by decide) (by decide))
                  have hv2 : vs 2 = .slice (some ⟨bl, ol, none⟩) f.lots.length fa.c3 := hpv 2 (hpre 2 (by decide) (by decide))
                  have hv3 : vs 3 = .pointer (some ⟨w.heap.size, 4, none⟩) := hpv 3 (hpre 3 (by decide) (by decide))
                  have hv4 : vs 4 = .slice (some ⟨bc, oc, none⟩) f.claims.length fa.c5 := hpv 4 (hpre 4 (by decide) (by decide))
                  have hv5 : vs 5 = .int .i64 (ci : Nat) := hpv 5 (hpre 5 (by decide) (by decide))
                  have hv6 : vs 6 = .pointer (some ⟨bc, oc + ci * 3, none⟩) := hpv 6 (hpre 6 (by decide) (by decide))
                  have hv7 : vs 7 = .pointer (some ⟨bc, oc + ci * 3, none⟩) := hpv 7 (hpre 7 (by decide) (by decide))
                  have hv8 : vs 8 = .int .i64 (lk : Nat) := hpv 8 (hpre 8 (by decide) (by decide))
                  have hv9 : vs 9 = .pointer (some ⟨bl, ol + lk * 4, none⟩) := hpv 9 (hpre 9 (by decide) (by decide))
                  have hv10 : vs 10 = .pointer (some ⟨bl, ol + lk * 4 + 3, none⟩) := hpv 10 (hpre 10 (by decide) (by decide))
                  have hv11 : vs 11 = .int .i64 wo := hpv 11 (hpre 11 (by decide) (by decide))
                  have hv12 : vs 12 = .int .i64 (D + wo) := hpv 12 (hpre 12 (by decide) (by decide))
                  clear hpv hpre hG hk0
                  obtain rfl : a = _ := hact
                  subst hT
                  simp only [setAll, List.setIfInBounds_toArray, List.set_cons_succ, List.set_cons_zero, List.getD_cons_succ, List.getD_cons_zero]
                  simp only [hv0, hv1, hv2, hv3, hv4, hv5, hv6, hv7, hv8, hv9, hv10, hv11, hv12]
                  clear hv0 hv1 hv2 hv3 hv4 hv5 hv6 hv7 hv8 hv9 hv10 hv11 hv12
                  refine wpAny_all (rs := [13]) (by kernel_rfl) (by simp) ?_
                  intro i2 hi2
                  obtain rfl : i2 = 13 := by simpa using hi2
                  refine wpOp_value (v := .int .i64 (D + wo)) (W' := W) rfl rfl ?_ ?_
                  · go_simp
                  try simp only [Act.put, List.setIfInBounds_toArray, List.set_cons_zero, List.set_cons_succ]
                  refine wpAny_done (by kernel_rfl) ?_ _
                  have hbz := hk.below (B := wx.heap.size) (fun k h => h.elim) (Nat.le_refl _)
                  have HBY := hide (HBZ.out.trans (hbz.mono HBZ.out.size))
                  clear hk hkm hbz
                  gi_wp2_with fail
                  exact ⟨⟨m + 1, by omega, by go_num, by rw [HTK.out, HDI.out, HAG.out]; simp, HBY.out⟩, by simp [intOf]; omega⟩
            | false =>
              have HAG := hide hag
              refine wpIn_round_rel (dst := fun i => [40, 41, 42, 43, 44, 45, 46, 47].getD i 0) (mono := fun i => decide (i < 8)) (pre := fun i => decide (i < 8)) (R := LKeep (fun _ => False) (fun _ => True))
                (Pv := fun i v W => match i with
                  | 0 => v = .pointer (some ⟨w.heap.size, 4, none⟩)
                  | 1 => v = .slice (some ⟨bc, oc, none⟩) f.claims.length fa.c5
                  | 2 => v = .int .i64 (ci : Nat)
                  | 3 => v = .pointer (some ⟨bc, oc + ci * 3, none⟩)
                  | 4 => v = .pointer (some ⟨bc, oc + ci * 3 + 1, none⟩)
                  | 5 => v = .int .i64 ag
                  | 6 => v = .int .i64 party
                  | 7 => v = .bool false
                  | _ => True) (by kernel_rfl) (by kernel_rfl) (by rintro ⟨a, w, h⟩; exact h) (by kernel_rfl) (LKeep.refl _ _) (fun _ _ _ h h' => h.trans h') ?hstCf ?hstepCf ?hendCf
              case hstCf =>
                intro i v W W' h hk
                match i, h with
                | 0, h => exact h
                | 1, h => exact h
                | 2, h => exact h
                | 3, h => exact h
                | 4, h => exact h
                | 5, h => exact h
                | 6, h => exact h
                | 7, h => exact h
                | i + 8, h => exact trivial
              case hstepCf =>
                intro i hi hm listed vs a W hU hk0 hpv haft K hK
                have hkk := (LKeep.drew (fun _ => False) (M := fun _ => True) wr (fun h => h)).trans hk0
                have hk := hkk.1
                have hkm := hkk.2
                clear hkk
                match i, hi, hm with
                | 0, hi, hm =>
                  have z2 : a.tmps[2]?.getD undef = .pointer (some ⟨w.heap.size, 0, none⟩) := hU.same 2 (by decide)
                  refine wpOp_value (v := .pointer (some ⟨w.heap.size, 4, none⟩)) (W' := W) rfl rfl ?_ (hK _ _ (LKeep.refl _ _ _) rfl)
                  go_simp
                | 1, hi, hm =>
                  have l0 := haft _ rfl { on := 0, ground := .data } (by simp) rfl
                  have hv0 : vs 0 = .pointer (some ⟨w.heap.size, 4, none⟩) := hpv 0 l0
                  have s0 : a.tmps[40]?.getD undef = vs 0 := hU.slot 0 (by decide) l0
                  rw [hv0] at s0
                  have y0 := (hk.cell (b := w.heap.size) (o := 4) (by omega) (fun h => h)).trans (r4)
                  refine wpOp_value (v := .slice (some ⟨bc, oc, none⟩) f.claims.length fa.c5) (W' := W) rfl rfl ?_ (hK _ _ (LKeep.refl _ _ _) rfl)
                  go_simp
                | 2, hi, hm =>
                  have z11 : a.tmps[11]?.getD undef = .int .i64 (ci : Nat) := hU.same 11 (by decide)
                  refine wpOp_value (v := .int .i64 (ci : Nat)) (W' := W) rfl rfl ?_ (hK _ _ (LKeep.refl _ _ _) rfl)
                  go_simp
                | 3, hi, hm =>
                  have l1 := haft _ rfl { on := 1, ground := .data } (by simp) rfl
                  have hv1 : vs 1 = .slice (some ⟨bc, oc, none⟩) f.claims.length fa.c5 := hpv 1 l1
                  have s1 : a.tmps[41]?.getD undef = vs 1 := hU.slot 1 (by decide) l1
                  rw [hv1] at s1
                  have l2 := haft _ rfl { on := 2, ground := .data } (by simp) rfl
                  have hv2 : vs 2 = .int .i64 (ci : Nat) := hpv 2 l2
                  have s2 : a.tmps[42]?.getD undef = vs 2 := hU.slot 2 (by decide) l2
                  rw [hv2] at s2
                  refine wpOp_value (v := .pointer (some ⟨bc, oc + ci * 3, none⟩)) (W' := W) rfl rfl ?_ (hK _ _ (LKeep.refl _ _ _) rfl)
                  go_simp
                | 4, hi, hm =>
                  have l3 := haft _ rfl { on := 3, ground := .data } (by simp) rfl
                  have hv3 : vs 3 = .pointer (some ⟨bc, oc + ci * 3, none⟩) := hpv 3 l3
                  have s3 : a.tmps[43]?.getD undef = vs 3 := hU.slot 3 (by decide) l3
                  rw [hv3] at s3
                  refine wpOp_value (v := .pointer (some ⟨bc, oc + ci * 3 + 1, none⟩)) (W' := W) rfl rfl ?_ (hK _ _ (LKeep.refl _ _ _) rfl)
                  go_simp
                | 5, hi, hm =>
                  have l4 := haft _ rfl { on := 4, ground := .data } (by simp) rfl
                  have hv4 : vs 4 = .pointer (some ⟨bc, oc + ci * 3 + 1, none⟩) := hpv 4 l4
                  have s4 : a.tmps[44]?.getD undef = vs 4 := hU.slot 4 (by decide) l4
                  rw [hv4] at s4
                  have y0 := (hk.cell (b := bc) (o := oc + ci * 3 + 1) (by omega) (fun h => h)).trans (g1)
                  refine wpOp_value (v := .int .i64 ag) (W' := W) rfl rfl ?_ (hK _ _ (LKeep.refl _ _ _) rfl)
                  go_simp
                | 6, hi, hm =>
                  have z3 : a.tmps[3]?.getD undef = .pointer (some ⟨w.heap.size + 1, 0, none⟩) := hU.same 3 (by decide)
                  have y0 := (hk.cell (b := w.heap.size + 1) (o := 0) (by omega) (fun h => h)).trans (rp)
                  refine wpOp_value (v := .int .i64 party) (W' := W) rfl rfl ?_ (hK _ _ (LKeep.refl _ _ _) rfl)
                  go_simp
                | 7, hi, hm =>
                  have l5 := haft _ rfl { on := 5, ground := .data } (by simp) rfl
                  have hv5 : vs 5 = .int .i64 ag := hpv 5 l5
                  have s5 : a.tmps[45]?.getD undef = vs 5 := hU.slot 5 (by decide) l5
                  rw [hv5] at s5
                  have l6 := haft _ rfl { on := 6, ground := .data } (by simp) rfl
                  have hv6 : vs 6 = .int .i64 party := hpv 6 l6
                  have s6 : a.tmps[46]?.getD undef = vs 6 := hU.slot 6 (by decide) l6
                  rw [hv6] at s6
                  refine wpOp_value (v := .bool false) (W' := W) rfl rfl ?_ (hK _ _ (LKeep.refl _ _ _) rfl)
                  go_simp
                | i + 8, hi, hm => exact absurd (of_decide_eq_true hm) (by omega)
              case hendCf =>
                intro listed vs a W hG hk0 hpv hpre
                have hkk := (LKeep.drew (fun _ => False) (M := fun _ => True) wr (fun h => h)).trans hk0
                have hk := hkk.1
                have hkm := hkk.2
                clear hkk
                have hact := hG.act
                have hT := hG.lst hpre 0 #[true, true, true, true, true, true, true, true] rfl (by kernel_rfl) (hpre 0 (by decide) (by decide))
                rw [hG.ix hT (l := [0, 1, 2, 3, 4, 5, 6, 7]) (by kernel_rfl)] at hact
                rw [hG.lo hT (k := 0) (by kernel_rfl)]
                have hv0 : vs 0 = .pointer (some ⟨w.heap.size, 4, none⟩) := hpv 0 (hpre 0 (by decide) (by decide))
                have hv1 : vs 1 = .slice (some ⟨bc, oc, none⟩) f.claims.length fa.c5 := hpv 1 (hpre 1 (by decide) (by decide))
                have hv2 : vs 2 = .int .i64 (ci : Nat) := hpv 2 (hpre 2 (by decide) (by decide))
                have hv3 : vs 3 = .pointer (some ⟨bc, oc + ci * 3, none⟩) := hpv 3 (hpre 3 (by decide) (by decide))
                have hv4 : vs 4 = .pointer (some ⟨bc, oc + ci * 3 + 1, none⟩) := hpv 4 (hpre 4 (by decide) (by decide))
                have hv5 : vs 5 = .int .i64 ag := hpv 5 (hpre 5 (by decide) (by decide))
                have hv6 : vs 6 = .int .i64 party := hpv 6 (hpre 6 (by decide) (by decide))
                have hv7 : vs 7 = .bool false := hpv 7 (hpre 7 (by decide) (by decide))
                clear hpv hpre hG hk0
                obtain rfl : a = _ := hact
                subst hT
                simp only [setAll, List.setIfInBounds_toArray, List.set_cons_succ, List.set_cons_zero, List.getD_cons_succ, List.getD_cons_zero]
                simp only [hv0, hv1, hv2, hv3, hv4, hv5, hv6, hv7]
                clear hv0 hv1 hv2 hv3 hv4 hv5 hv6 hv7
                refine wpAny_done (by kernel_rfl) ?_ _
                have k_r4 := (hk.cell (b := w.heap.size) (o := 4) (by omega) (fun h => h)).trans r4
                have k_r2 := (hk.cell (b := w.heap.size) (o := 2) (by omega) (fun h => h)).trans r2
                have k_g0 := (hk.cell (b := bc) (o := oc + ci * 3) (by omega) (fun h => h)).trans g0
                have k_g3 := (hk.cell (b := bl) (o := ol + lk * 4 + 3) (by omega) (fun h => h)).trans g3
                have hzk := hk.size
                have hbz := hk.below (B := wr.heap.size) (fun k h => h.elim) (Nat.le_refl _)
                have HBZ := hide (HB.out.trans (hbz.mono HB.out.size))
                clear hk hkm hbz
                gi_wp2_with fail
                exact ⟨⟨m + 1, by omega, by go_num, by rw [HTK.out, HDI.out, HAG.out]; simp, HBZ.out⟩, by simp [intOf]; omega⟩
          · obtain rfl : m = Lx.length := by omega
            have hds := HDS.out
            rw [List.take_length, hds]
            clear hds HDS
            have hBm := HWK.out.trans (Keep.of_below' hB (fun k => k = bm))
            have b3 := HI3.out.keep hBm (by omega)
            have b5 := HI5.out.keep hBm (by omega)
            have r5 := b5.at_ 0
            have s0 := b3.at_ 0
            have s1 := b3.at_ 1
            have f5 := b5.free 0
            have f0 := b3.free 0
            have f1 := b3.free 1
            simp only [List.getElem?_toArray, List.getElem?_cons_zero, List.getElem?_cons_succ] at r5 s0 s1
            have hz5' := b5.lt
            have hz3' := b3.lt
            have B3 := hide b3
            have B5 := hide b5
            have HSN := hide (oweS_snoc f party pre x)
            have HP0 := hide (show oweP f party pre = (oweS f party pre).getD ⟨0, 0⟩ from rfl)
            have HBM := hide hBm
            have HNR := hide (HLV.out.still hB).k
            clear r4 r2 rp hB b3 b5 hBm
            cases hos : oweS f party pre with
            | none =>
              rw [HP0.out, hos] at s0 s1
              rw [hos] at r5
              simp only [Option.getD_none, Option.isNone_none] at s0 s1 r5
              have HSM := hide (show oweS f party (pre ++ [x]) = some ⟨sumM f x party, sumM f x party⟩ by rw [HSN.out, hos]; rfl)
              clear hos HP0 HSN
              generalize sumM f x party = sx at *
              gi_wp2_with fail
              have hks : Keep (fun k => k = w1.heap.size + 1 ∨ k = w.heap.size + 1 + 1) wr (((((wr.setCell ⟨w.heap.size + 1 + 1, 0, none⟩ (.int .i64 sx)).setCell ⟨w.heap.size + 1 + 1, 1, none⟩ (.int .i64 sx)).setCell ⟨w1.heap.size + 1, 0, none⟩ (.bool false)).setCell ⟨w.heap.size + 1 + 1, 0, none⟩ (.int .i64 sx)).setCell ⟨w.heap.size + 1 + 1, 1, none⟩ (.int .i64 sx)) := ((((Keep.setCell _ _ _ _ (.inr rfl)).trans (Keep.setCell _ _ _ _ (.inr rfl))).trans (Keep.setCell _ _ _ _ (.inl rfl))).trans (Keep.setCell _ _ _ _ (.inr rfl))).trans (Keep.setCell _ _ _ _ (.inr rfl))
              have c3 := ((((B3.out.store 0 (.int .i64 sx)).store 1 (.int .i64 sx)).else_ (p := ⟨w1.heap.size + 1, 0, none⟩) (by show w.heap.size + 1 + 1 ≠ w1.heap.size + 1; omega) (.bool false)).store 0 (.int .i64 sx)).store 1 (.int .i64 sx)
              have c5 := ((((B5.out.else_ (p := ⟨w.heap.size + 1 + 1, 0, none⟩) (by show w1.heap.size + 1 ≠ w.heap.size + 1 + 1; omega) (.int .i64 sx)).else_ (p := ⟨w.heap.size + 1 + 1, 1, none⟩) (by show w1.heap.size + 1 ≠ w.heap.size + 1 + 1; omega) (.int .i64 sx)).store 0 (.bool false)).else_ (p := ⟨w.heap.size + 1 + 1, 0, none⟩) (by show w1.heap.size + 1 ≠ w.heap.size + 1 + 1; omega) (.int .i64 sx)).else_ (p := ⟨w.heap.size + 1 + 1, 1, none⟩) (by show w1.heap.size + 1 ≠ w.heap.size + 1 + 1; omega) (.int .i64 sx)
              exact ⟨(HBM.out.mono (fun k _ h => .inl h)).trans (hks.mono (fun k _ h => .inr h)), HNR.out.keep hks (by omega), (HI1.out.keep HBM.out (by omega)).keep hks (by omega), (HI2.out.keep HBM.out (by omega)).keep hks (by omega), by rw [oweP, HSM.out]; exact c3, (HI4.out.keep HBM.out (by omega)).keep hks (by omega), by rw [HSM.out]; exact c5⟩
            | some s =>
              rw [HP0.out, hos] at s0 s1
              rw [hos] at r5
              simp only [Option.getD_some, Option.isNone_some] at s0 s1 r5
              have HOS := hide hos
              have HSM := hide (show oweS f party (pre ++ [x]) = some ⟨min s.lo (sumM f x party), max s.hi (sumM f x party)⟩ by rw [HSN.out, hos]; rfl)
              clear hos HP0 HSN
              generalize sumM f x party = sx at *
              gi_wp2_with fail
              have hks : Keep (fun k => k = w1.heap.size + 1 ∨ k = w.heap.size + 1 + 1) wr ((wr.setCell ⟨w.heap.size + 1 + 1, 0, none⟩ (.int .i64 (min s.lo sx))).setCell ⟨w.heap.size + 1 + 1, 1, none⟩ (.int .i64 (max s.hi sx))) := (Keep.setCell _ _ _ _ (.inr rfl)).trans (Keep.setCell _ _ _ _ (.inr rfl))
              have c3 := (B3.out.store 0 (.int .i64 (min s.lo sx))).store 1 (.int .i64 (max s.hi sx))
              have c5 := (B5.out.else_ (p := ⟨w.heap.size + 1 + 1, 0, none⟩) (by show w1.heap.size + 1 ≠ w.heap.size + 1 + 1; omega) (.int .i64 (min s.lo sx))).else_ (p := ⟨w.heap.size + 1 + 1, 1, none⟩) (by show w1.heap.size + 1 ≠ w.heap.size + 1 + 1; omega) (.int .i64 (max s.hi sx))
              rw [HOS.out] at c5
              exact ⟨(HBM.out.mono (fun k _ h => .inl h)).trans (hks.mono (fun k _ h => .inr h)), HNR.out.keep hks (by omega), (HI1.out.keep HBM.out (by omega)).keep hks (by omega), (HI2.out.keep HBM.out (by omega)).keep hks (by omega), by rw [oweP, HSM.out]; exact c3, (HI4.out.keep HBM.out (by omega)).keep hks (by omega), by rw [HSM.out]; exact c5⟩
    case done =>
      rintro D W' hD ⟨i1, i2, i3, i4, i5⟩ hLW hk hd
      have HMS : Hid (MarksOk w.heap.size [{ target := .collected D, args := #[] }] W') := ⟨⟨D, by have := HB3.out.size; omega, rfl, hd, by simp⟩, trivial⟩
      have HBW := hide (HB3.out.trans (hk.below (fun k h => by omega) HB3.out.size))
      have s0 := i3.at_ 0
      have s1 := i3.at_ 1
      have f0 := i3.free 0
      have f1 := i3.free 1
      simp only [List.getElem?_toArray, List.getElem?_cons_zero, List.getElem?_cons_succ] at s0 s1
      have hzs := i3.lt
      have I3 := hide i3
      generalize oweP f party (truthsB f 0) = sp at *
      clear i1 i2 i3 i4 i5 hLW hk hd
      go_wp2_with fail
      have hks : Keep (fun k => k = w.heap.size + 1 + 1) W' ((W'.setCell ⟨w.heap.size + 1 + 1, 0, none⟩ (.int .i64 sp.lo)).setCell ⟨w.heap.size + 1 + 1, 1, none⟩ (.int .i64 sp.hi)) := (Keep.setCell _ _ _ (fun k => k = w.heap.size + 1 + 1) rfl).trans (Keep.setCell _ _ _ (fun k => k = w.heap.size + 1 + 1) rfl)
      have c3 := (I3.out.store 0 (.int .i64 sp.lo)).store 1 (.int .i64 sp.hi)
      have hms := MarksOk.keepO hks (fun k hk => by rw [hk]; exact I3.out.not_mark) HMS.out
      generalize (W'.setCell ⟨w.heap.size + 1 + 1, 0, none⟩ (.int .i64 sp.lo)).setCell ⟨w.heap.size + 1 + 1, 1, none⟩ (.int .i64 sp.hi) = wz at *
      refine leaves_marks2 hms (fun w' hkw' => ?_)
      have r0 := marks_cell hms hkw' (c3.at_ 0)
      have r1 := marks_cell hms hkw' (c3.at_ 1)
      refine ⟨.tuple #[.agg #[.int .i64 sp.lo, .int .i64 sp.hi], .int .i64 0], by simp [results, Try.results18, go_sem, r0, r1], by rw [HX.out], ?_⟩
      exact (HBW.out.trans (hks.below (fun k h => by omega) HBW.out.size)).trans (hkw'.below (fun k h => hms.ge h) (by have := HBW.out.size; have := hks.size; omega))
  · have HX := hide (show owesV f party = (⟨0, 0⟩, enterE f party f.parties.length 0) by rw [owesV, if_neg hE])
    generalize hEE : enterE f party f.parties.length 0 = E at *
    have hnb : (E != 0) = true := by simpa using hE
    have HB1 := hide (HB0.out.trans (hB1.mono HB0.out.size))
    have q3 := HQ3.out.next hB1
    have g0 := q3.free 0
    have g1 := q3.free 1
    have r0 := q3.at_ 0
    have r1 := q3.at_ 1
    simp only [List.getElem?_toArray, List.getElem?_cons_zero, List.getElem?_cons_succ] at r0 r1
    have hz1 := q3.lt
    clear hEE hE hB1
    go_wp2_with fail
    have hks : Keep (fun k => k = w.heap.size + 1 + 1) w1 ((w1.setCell ⟨w.heap.size + 1 + 1, 0, none⟩ (.int .i64 0)).setCell ⟨w.heap.size + 1 + 1, 1, none⟩ (.int .i64 0)) := (Keep.setCell _ _ _ (fun k => k = w.heap.size + 1 + 1) rfl).trans (Keep.setCell _ _ _ (fun k => k = w.heap.size + 1 + 1) rfl)
    have c3 := ((q3.store 0 (.int .i64 0)).store 1 (.int .i64 0)).alloc (.cells #[.pointer none] 79)
    have hbe := (HB1.out.trans (hks.below (fun k h => by omega) HB1.out.size)).alloc (by have := HB1.out.size; have := hks.size; omega) (.cells #[.pointer none] 79)
    generalize ((w1.setCell ⟨w.heap.size + 1 + 1, 0, none⟩ (.int .i64 0)).setCell ⟨w.heap.size + 1 + 1, 1, none⟩ (.int .i64 0)).alloc (.cells #[.pointer none] 79) = wz at *
    have hms : MarksOk 0 [] wz := trivial
    refine leaves_marks2 hms (fun w' hkw' => ?_)
    have r0 := marks_cell hms hkw' (c3.at_ 0)
    have r1 := marks_cell hms hkw' (c3.at_ 1)
    refine ⟨.tuple #[.agg #[.int .i64 0, .int .i64 0], .int .i64 E], by simp [results, Try.results18, go_sem, r0, r1], by rw [HX.out], ?_⟩
    exact hbe.trans (hkw'.below (fun k h => by simp at h) hbe.size)
end Go.Proofs.Ytllmahcanipcpaa
