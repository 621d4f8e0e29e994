/- The contract of claim's Who: with whom a lot can have turned. -/
import Derived.Test.YtllmahcanipcpaaNL
import Derived.OwnWalkIn
import Derived.TacticsInMore
import Derived.Deep.DeepCutAuto
set_option linter.unusedVariables false
set_option linter.unusedSimpArgs false
namespace Go.Proofs.Ytllmahcanipcpaa
open Go.RowKit
attribute [local go_sem ↓] Go.wp_at_zero Go.wp_at_succ
attribute [local go_sem] Oper.semAt_some

/-- With whom a lot turned in some truth. -/
def whoL (f : File) (lot : Nat) : List Nat := (List.range f.parties.length).filter fun i => (truthsB f 0).any fun p => withM f p lot == (i : Int)
def whoV (f : File) (lot : Int) : List Nat × Int := if enterE f lot f.lots.length 0 = 0 then (whoL f lot.toNat, 0) else ([], enterE f lot f.lots.length 0)
theorem who_list (f : File) (lot : Nat) : listN (whoN f lot (truthsB f 0)) f.parties.length = whoL f lot := listN_bits _ _
theorem enter_in {f : File} {n below other : Int} (h : enterE f n below other = 0) : 0 ≤ n ∧ n < below ∧ other = 0 ∧ someB f 0 = true := by
  unfold enterE at h
  split at h
  · rename_i h1; exact absurd h h1
  split at h
  · omega
  split at h
  · rename_i h1; exact absurd h h1
  split at h
  · rename_i h2 h3 h4
    have := offP_false.1 (by simpa using h2)
    exact ⟨by omega, by omega, by omega, h4⟩
  · omega
theorem with_range {f : File} (hv : Valid f) {s : List Int} (hs : PlB f s) {k : Nat} (hk : k < f.lots.length) : ∃ q : Nat, withM f s k = (q : Int) ∧ q < f.parties.length := by
  obtain ⟨j, hj, hjr, _⟩ := hs.at_ hv hk
  have := (hv.route k hk).2.1 j hjr
  refine ⟨(withM f s k).toNat, ?_, ?_⟩ <;> rw [withM, hj, Int.toNat_natCast] <;> omega
theorem plB_cells (s : List Int) {k : Nat} (hk : k < 4) : nth [nth s 0, nth s 1, nth s 2, nth s 3] k = nth s k := by
  match k, hk with
  | 0, _ | 1, _ | 2, _ | 3, _ => rfl
theorem withG_any {w : World} {L b bm : Nat} {f : File} {a : FA} {but : Int} {V : List Int → Int} (h : LookG w L b bm f a but V) (hv : Valid f) {s : List Int} (hs : PlB f s) {k : Nat} (hk : k < f.lots.length) :
    Calls Try.prog 50 #[.pointer (some ⟨b, 0, none⟩), .agg #[.int .i64 (nth s 0), .int .i64 (nth s 1), .int .i64 (nth s 2), .int .i64 (nth s 3)], .int .i64 (k : Int)] w fun e w' => e = .returned (.int .i64 (withM f s k)) ∧ Below w.heap.size w w' := by
  obtain ⟨j, hj, hjr, _⟩ := hs.at_ hv hk
  have hl := hv.lots
  have := with_any (h.v.more h.hL) h.q2 (nth s 0) (nth s 1) (nth s 2) (nth s 3) hk (by omega) ((plB_cells s (by omega)).trans hj) hjr
  rw [withM, hj, Int.toNat_natCast]
  exact this
set_option maxHeartbeats 4000000 in
set_option maxRecDepth 100000 in
theorem who_any {w : World} {f : File} {a : FA} (h : FileV w w.heap.size f a) (lot : Int) :
    Calls Try.prog 10 #[fileVal f a, .int .i64 lot] w fun e w' => ∃ A cp, e = .returned (.tuple #[.slice A (whoV f lot).1.length cp, .int .i64 (whoV f lot).2]) ∧ IntsS w' w'.heap.size A (whoV f lot).1.length cp (natInts (whoV f lot).1) ∧ Below w.heap.size w w' := by
  have hB0 : Below w.heap.size w ((w.alloc (.cells (fileCells f a) 28)).alloc (.cells #[.int .i64 lot] 3)) := ((Below.refl _ _).alloc (Nat.le_refl _) _).alloc (by simp) _
  have q1 : Blk ((w.alloc (.cells (fileCells f a) 28)).alloc (.cells #[.int .i64 lot] 3)) w.heap.size 28 (fileCells f a) := Blk.made.alloc _
  have q2 : Blk ((w.alloc (.cells (fileCells f a) 28)).alloc (.cells #[.int .i64 lot] 3)) (w.heap.size + 1) 3 #[.int .i64 lot] := Blk.made' (by simp)
  have HC0 := hide (h.next hB0)
  have HQ1 := hide q1
  have HQ2 := hide q2
  have HB0 := hide hB0
  clear h hB0 q1 q2
  refine (callsIn_wide (n := 0)).1 (callsIn_of_wp_marks Try.func10 rfl trivial ?_ rfl)
  refine (wpIn_wide (n := 0)).2 ?_
  simp only [Try.ntmps10, List.size_toArray, List.length_cons, List.length_nil, Nat.reduceAdd, Nat.reduceSub, Array.replicate_succ, Array.replicate_zero, List.push_toArray, List.append_toArray, List.nil_append, List.cons_append]
  go_wp2_with fail
  generalize ((w.alloc (.cells (fileCells f a) 28)).alloc (.cells #[.int .i64 lot] 3)) = w0 at *
  refine (enter_any HC0.out lot _ 0 (by have := HC0.out.m3; unfold maxLen at this; omega)).mono ?_
  rintro e w1 (⟨hE, hv, b, bm, rfl, hbb, hbm, hL, hB1⟩ | ⟨hE, rfl, hB1⟩)
  · obtain ⟨hl0, hl1, -, hso⟩ := enter_in hE
    have HX := hide (show whoV f lot = (whoL f lot.toNat, 0) by rw [whoV, if_pos hE])
    have hz00 := HQ2.out.lt
    have hz01 := hB1.size
    have HV := hide hv
    have HB1 := hide (HB0.out.trans (hB1.mono HB0.out.size))
    have HR1 := hide (HQ1.out.next hB1)
    have HR2 := hide (HQ2.out.next hB1)
    have HL := hide hL
    have hpl := hv.parties
    have hb1 := hL.hb
    have hbm1 := hL.hm
    clear hE hv hL hB1 hso
    obtain ⟨k, rfl⟩ : ∃ k : Nat, lot = (k : Int) := ⟨lot.toNat, by omega⟩
    rw [Int.toNat_natCast] at HX
    have hkl : k < f.lots.length := by omega
    go_wp2_with fail
    have n3 : Blk ((w1.alloc (.cells #[.pointer (some ⟨b, 0, none⟩)] 79)).alloc (.cells #[.int .i64 0] 3)) w1.heap.size 79 #[.pointer (some ⟨b, 0, none⟩)] := Blk.made.alloc _
    have n4 : Blk ((w1.alloc (.cells #[.pointer (some ⟨b, 0, none⟩)] 79)).alloc (.cells #[.int .i64 0] 3)) (w1.heap.size + 1) 3 #[.int .i64 0] := Blk.made' (by simp)
    have hB2 : Below w1.heap.size w1 ((w1.alloc (.cells #[.pointer (some ⟨b, 0, none⟩)] 79)).alloc (.cells #[.int .i64 0] 3)) := ((Below.refl _ _).alloc (Nat.le_refl _) _).alloc (by simp) _
    generalize ((w1.alloc (.cells #[.pointer (some ⟨b, 0, none⟩)] 79)).alloc (.cells #[.int .i64 0] 3)) = w2 at *
    refine truths_any.mono ?_
    rintro e w3 ⟨p1, rfl, hp1, hp1', e1, hB3⟩
    have hz2 := n4.lt
    have hz3 := hB3.size
    have hB13 := hB2.trans (hB3.mono hB2.size)
    have HL3 := hide (HL.out.still hB13)
    have n1 := HR1.out.next hB13
    have n2 := HR2.out.next hB13
    replace n3 := n3.next hB3
    replace n4 := n4.next hB3
    have HB3 := hide (HB1.out.trans (hB13.mono (by omega)))
    clear hB2 hB3 hB13
    go_wp2_with fail
    refine range_truths (f := f) (A := fun x g => { tmps := #[fileVal f a, .int .i64 (k), .pointer (some ⟨w.heap.size, 0, none⟩), .pointer (some ⟨w.heap.size + 1, 0, none⟩), .slice none 0 0, .int .i64 (0), .pointer (some ⟨w1.heap.size, 0, none⟩), .int .i64 (0), .pointer (some ⟨w1.heap.size + 1, 0, none⟩), .pointer (some ⟨g, 0, none⟩), .tuple #[.pointer (some ⟨b, 0, none⟩), .int .i64 (0)], fileVal f a, .int .i64 (k), .pointer (some ⟨w.heap.size, 2, none⟩), .slice a.A3 f.lots.length a.c3, .int .i64 (f.lots.length), .tuple #[.pointer (some ⟨b, 0, none⟩), .int .i64 (0)], .pointer (some ⟨b, 0, none⟩), .int .i64 (0), .int .i64 (0), .bool false, undef, .pointer (some ⟨b, 0, none⟩), .func (.func 77) #[] #[.pointer (some ⟨p1, 0, none⟩)], plVal x, undef, undef, undef, undef, undef, undef, undef, undef, undef, undef, undef, undef], defers := [] }) rfl rfl HL3.out HV.out (by omega : 0 < 32) e1
      (fun k => k = w1.heap.size + 1) (fun k hk => by omega)
      (fun pre W => Blk W w.heap.size 28 (fileCells f a) ∧ Blk W (w.heap.size + 1) 3 #[.int .i64 k] ∧ Blk W w1.heap.size 79 #[.pointer (some ⟨b, 0, none⟩)] ∧ Blk W (w1.heap.size + 1) 3 #[.int .i64 (whoN f k pre : Nat)]) (fun _ _ _ => False) ?hI (fun _ _ _ _ h _ => h) ?h0 ?hass ?body ?done (fun _ _ _ _ _ _ _ h _ _ _ => h.elim)
    case hI =>
      rintro pre V V' ⟨i1, i2, i3, i4⟩ hk
      exact ⟨i1.keep hk (by omega), i2.keep hk (by omega), i3.keep hk (by omega), i4.keep hk (by omega)⟩
    case h0 => exact ⟨n1, n2, n3, by rw [whoN_nil]; exact n4⟩
    case hass =>
      intro l x W1
      simp only [plVal, iv]
      gi_wp2
    case body =>
      rintro l pre x W3 g hg hl hx0 hx ⟨i1, i2, i3, i4⟩ hLW hp hz4
      have hgz := hp.lt
      have r1 := i3.at_ 0
      have r2 := i4.at_ 0
      have r3 := i2.at_ 0
      have x0 := hp.at_ 0
      have x1 := hp.at_ 1
      have x2 := hp.at_ 2
      have x3 := hp.at_ 3
      simp only [List.getElem?_toArray, List.getElem?_cons_zero, List.getElem?_cons_succ] at r1 r2 r3 x0 x1 x2 x3
      obtain ⟨q, hq, hqp⟩ := with_range HV.out hx hkl
      have HW := hide hq
      have HST := hide (who_step hpl k pre x hq hqp)
      have HLW := hide hLW
      have HI1 := hide i1
      have HI2 := hide i2
      have HI3 := hide i3
      have HI4 := hide i4
      have hwz : w1.heap.size + 1 < W3.heap.size := i4.lt
      clear i1 i2 i3 i4 hLW hp hq
      refine wpIn_block ?_
      refine wpIn_round_rel (dst := fun i => [25, 26, 27, 28, 29, 30, 31, 0].getD i 0) (mono := fun i => decide (i < 7)) (pre := fun i => decide (i < 7)) (R := LKeep (fun k => k = bm) (fun W => Known W bm (paidV f)))
        (Pv := fun i v W => match i with
          | 0 => v = .int .i64 (whoN f k pre : Nat)
          | 1 => v = .pointer (some ⟨b, 0, none⟩)
          | 2 => v = .agg #[.int .i64 (nth x 0), .int .i64 (nth x 1), .int .i64 (nth x 2), .int .i64 (nth x 3)]
          | 3 => v = .int .i64 (k : Nat)
          | 4 => v = .int .i64 (q : Nat)
          | 5 => v = .int .i64 (wrap64 (2 ^ q))
          | 6 => v = .int .i64 (whoN f k (pre ++ [x]) : Nat)
          | _ => True) (by kernel_rfl) (by kernel_rfl) (by rintro ⟨a, w, h⟩; exact h) (by kernel_rfl) (LKeep.refl _ _) (fun _ _ _ h h' => h.trans h') ?hst ?hstep ?hend
      case hst =>
        intro i v W W' h hk
        match i, h with
        | 0, h => exact h
        | 1, h => exact h
        | 2, h => exact h
        | 3, h => exact h
        | 4, h => exact h
        | 5, h => exact h
        | 6, h => exact h
        | i + 7, h => exact trivial
      case hstep =>
        intro i hi hm listed vs a W hU hk0 hpv haft K hK
        have hkk := (LKeep.drew (fun k => k = bm) (M := fun W => Known W bm (paidV f)) W3 (fun h => h)).trans hk0
        have hk := hkk.1
        have hkm := hkk.2
        clear hkk
        match i, hi, hm with
        | 0, hi, hm =>
          have z8 : a.tmps[8]?.getD undef = .pointer (some ⟨w1.heap.size + 1, 0, none⟩) := hU.same 8 (by decide)
          have y0 := (hk.cell (b := w1.heap.size + 1) (o := 0) (by omega) (by omega)).trans (r2)
          refine wpOp_value (v := .int .i64 (whoN f k pre : Nat)) (W' := W) rfl rfl ?_ (hK _ _ (LKeep.refl _ _ _) rfl)
          go_simp
        | 1, hi, hm =>
          have z6 : a.tmps[6]?.getD undef = .pointer (some ⟨w1.heap.size, 0, none⟩) := hU.same 6 (by decide)
          have y0 := (hk.cell (b := w1.heap.size) (o := 0) (by omega) (by omega)).trans (r1)
          refine wpOp_value (v := .pointer (some ⟨b, 0, none⟩)) (W' := W) rfl rfl ?_ (hK _ _ (LKeep.refl _ _ _) rfl)
          go_simp
        | 2, hi, hm =>
          have z9 : a.tmps[9]?.getD undef = .pointer (some ⟨g, 0, none⟩) := hU.same 9 (by decide)
          have y0 := (hk.cell (b := g) (o := 0) (hgz) (by omega)).trans (x0)
          have y1 := (hk.cell (b := g) (o := 1) (hgz) (by omega)).trans (x1)
          have y2 := (hk.cell (b := g) (o := 2) (hgz) (by omega)).trans (x2)
          have y3 := (hk.cell (b := g) (o := 3) (hgz) (by omega)).trans (x3)
          refine wpOp_value (v := .agg #[.int .i64 (nth x 0), .int .i64 (nth x 1), .int .i64 (nth x 2), .int .i64 (nth x 3)]) (W' := W) rfl rfl ?_ (hK _ _ (LKeep.refl _ _ _) rfl)
          go_simp
        | 3, hi, hm =>
          have z3 : a.tmps[3]?.getD undef = .pointer (some ⟨w.heap.size + 1, 0, none⟩) := hU.same 3 (by decide)
          have y0 := (hk.cell (b := w.heap.size + 1) (o := 0) (by omega) (by omega)).trans (r3)
          refine wpOp_value (v := .int .i64 (k : Nat)) (W' := W) rfl rfl ?_ (hK _ _ (LKeep.refl _ _ _) rfl)
          go_simp
        | 4, hi, hm =>
          have l1 := haft _ rfl { on := 1, ground := .data } (by simp) rfl
          have hv1 : vs 1 = .pointer (some ⟨b, 0, none⟩) := hpv 1 l1
          have s1 : a.tmps[26]?.getD undef = vs 1 := hU.slot 1 (by decide) l1
          rw [hv1] at s1
          have l2 := haft _ rfl { on := 2, ground := .data } (by simp) rfl
          have hv2 : vs 2 = .agg #[.int .i64 (nth x 0), .int .i64 (nth x 1), .int .i64 (nth x 2), .int .i64 (nth x 3)] := hpv 2 l2
          have s2 : a.tmps[27]?.getD undef = vs 2 := hU.slot 2 (by decide) l2
          rw [hv2] at s2
          have l3 := haft _ rfl { on := 3, ground := .data } (by simp) rfl
          have hv3 : vs 3 = .int .i64 (k : Nat) := hpv 3 l3
          have s3 : a.tmps[28]?.getD undef = vs 3 := hU.slot 3 (by decide) l3
          rw [hv3] at s3
          refine wpOp_enter (f := 50) (args := #[.pointer (some ⟨b, 0, none⟩), .agg #[.int .i64 (nth x 0), .int .i64 (nth x 1), .int .i64 (nth x 2), .int .i64 (nth x 3)], .int .i64 (k : Nat)]) (W' := W) rfl rfl ?_ (((withG_any (HLW.out.keep hk (fun k h => .inl h) (hkm HLW.out.k)) HV.out hx hkl).mono (fun e w h => by rw [HW.out] at h; exact h)).mono (fun e w'' h => ?_))
          · go_simp
          · obtain ⟨he, hbw⟩ := h
            exact ⟨_, he, hK _ _ (LKeep.below hbw (fun h => h.keep (Keep.of_below' hbw (fun _ => False)) (fun h => h))) rfl⟩
        | 5, hi, hm =>
          have l4 := haft _ rfl { on := 4, ground := .data } (by simp) rfl
          have hv4 : vs 4 = .int .i64 (q : Nat) := hpv 4 l4
          have s4 : a.tmps[29]?.getD undef = vs 4 := hU.slot 4 (by decide) l4
          rw [hv4] at s4
          have hq0 : (0 : Int) ≤ (q : Int) := Int.natCast_nonneg _
          refine wpOp_value (v := .int .i64 (wrap64 (2 ^ q))) (W' := W) rfl rfl ?_ (hK _ _ (LKeep.refl _ _ _) rfl)
          go_simp
          exact IntWalk.i64_left _
        | 6, hi, hm =>
          have l0 := haft _ rfl { on := 0, ground := .data } (by simp) rfl
          have hv0 : vs 0 = .int .i64 (whoN f k pre : Nat) := hpv 0 l0
          have s0 : a.tmps[25]?.getD undef = vs 0 := hU.slot 0 (by decide) l0
          rw [hv0] at s0
          have l5 := haft _ rfl { on := 5, ground := .data } (by simp) rfl
          have hv5 : vs 5 = .int .i64 (wrap64 (2 ^ q)) := hpv 5 l5
          have s5 : a.tmps[30]?.getD undef = vs 5 := hU.slot 5 (by decide) l5
          rw [hv5] at s5
          have hbe := HST.out
          refine wpOp_value (v := .int .i64 (whoN f k (pre ++ [x]) : Nat)) (W' := W) rfl rfl ?_ (hK _ _ (LKeep.refl _ _ _) rfl)
          go_simp
        | i + 7, hi, hm => exact absurd (of_decide_eq_true hm) (by omega)
      case hend =>
        intro listed vs a W hG hk0 hpv hpre
        have hkk := (LKeep.drew (fun k => k = bm) (M := fun W => Known W bm (paidV f)) W3 (fun h => h)).trans hk0
        have hk := hkk.1
        have hkm := hkk.2
        clear hkk
        have hact := hG.act
        have hT := hG.lst hpre 0 #[true, true, true, true, true, true, true, false] rfl (by kernel_rfl) (hpre 0 (by decide) (by decide))
        rw [hG.ix hT (l := [0, 1, 2, 3, 4, 5, 6]) (by kernel_rfl)] at hact
        rw [hG.lo hT (k := 1) (by kernel_rfl)]
        have hv0 : vs 0 = .int .i64 (whoN f k pre : Nat) := hpv 0 (hpre 0 (by decide) (by decide))
        have hv1 : vs 1 = .pointer (some ⟨b, 0, none⟩) := hpv 1 (hpre 1 (by decide) (by decide))
        have hv2 : vs 2 = .agg #[.int .i64 (nth x 0), .int .i64 (nth x 1), .int .i64 (nth x 2), .int .i64 (nth x 3)] := hpv 2 (hpre 2 (by decide) (by decide))
        have hv3 : vs 3 = .int .i64 (k : Nat) := hpv 3 (hpre 3 (by decide) (by decide))
        have hv4 : vs 4 = .int .i64 (q : Nat) := hpv 4 (hpre 4 (by decide) (by decide))
        have hv5 : vs 5 = .int .i64 (wrap64 (2 ^ q)) := hpv 5 (hpre 5 (by decide) (by decide))
        have hv6 : vs 6 = .int .i64 (whoN f k (pre ++ [x]) : Nat) := hpv 6 (hpre 6 (by decide) (by decide))
        clear hpv hpre hG hk0
        obtain rfl : a = _ := hact
        subst hT
        simp only [setAll, List.setIfInBounds_toArray, List.set_cons_succ, List.set_cons_zero, List.getD_cons_succ, List.getD_cons_zero]
        simp only [hv0, hv1, hv2, hv3, hv4, hv5, hv6]
        clear hv0 hv1 hv2 hv3 hv4 hv5 hv6
        have n2 := HI4.out.keep hk (by omega)
        have r2' := n2.at_ 0
        have f2 := n2.free 0
        simp only [List.getElem?_toArray, List.getElem?_cons_zero] at r2'
        refine wpAny_all (rs := [7]) (by kernel_rfl) (by simp) ?_
        intro i2 hi2
        obtain rfl : i2 = 7 := by simpa using hi2
        refine wpOp_skip (W' := W.setCell ⟨w1.heap.size + 1, 0, none⟩ (.int .i64 (whoN f k (pre ++ [x]) : Nat))) rfl rfl ?_ ?_
        · go_simp
        refine wpAny_done (by kernel_rfl) ?_ _
        have hs : Keep (fun k => k = w1.heap.size + 1) W (W.setCell ⟨w1.heap.size + 1, 0, none⟩ (.int .i64 (whoN f k (pre ++ [x]) : Nat))) := Keep.setCell _ _ _ _ rfl
        have b2 : Blk (W.setCell ⟨w1.heap.size + 1, 0, none⟩ (.int .i64 (whoN f k (pre ++ [x]) : Nat))) (w1.heap.size + 1) 3 #[.int .i64 (whoN f k (pre ++ [x]) : Nat)] := n2.store 0 _
        generalize W.setCell ⟨w1.heap.size + 1, 0, none⟩ (.int .i64 (whoN f k (pre ++ [x]) : Nat)) = W4 at *
        have hn := HLW.out.keep hk (fun k h => .inl h) (hkm HLW.out.k)
        exact ⟨(hk.mono (fun k _ h => .inl h)).trans (hs.mono (fun k _ h => .inr h)), (hn.keep' hs (fun k h => by omega)).k, (HI1.out.keep hk (by omega)).keep hs (by omega), (HI2.out.keep hk (by omega)).keep hs (by omega), (HI3.out.keep hk (by omega)).keep hs (by omega), b2⟩
    case done =>
      rintro D W' hD ⟨i1, i2, i3, i4⟩ hLW hk hd
      have HMS : Hid (MarksOk 0 [{ target := .collected D, args := #[] }] W') := ⟨⟨D, Nat.zero_le _, rfl, hd, by simp⟩, trivial⟩
      have hbw : Below w.heap.size w W' := HB3.out.trans (hk.below (fun k h => by omega) (by have := HB3.out.size; omega))
      have hDlt : D < W'.heap.size := HMS.out.lt (by simp)
      have r1 := i1.at_ 0
      have r4 := i4.at_ 0
      simp only [fileCells, List.getElem?_toArray, List.getElem?_cons_zero] at r1 r4
      have hz4 := i4.lt
      have HBW := hide hbw
      clear hk hd hLW hbw
      go_wp2_with (go_at_call 51; refine (list_any (set := whoN f k (truthsB f 0)) (bitsN_32 _ (by omega)) (by omega) _).mono ?_; rintro e w5 ⟨gl, cl, rfl, hi, hgl, hb5⟩)
      refine leaves_marks2 (B := 0) (HMS.out.keep (Keep.of_below' hb5 (fun _ => False)) (fun _ h => h.elim)) (fun w' hkw' => ?_)
      have hbe : Below w.heap.size w w' := (HBW.out.trans (hb5.mono HBW.out.size)).trans (hkw'.below (fun k h => by simp at h; omega) (by have := HBW.out.size; have := hb5.size; omega))
      refine ⟨.tuple #[.slice (some ⟨gl, 0, none⟩) (listN (whoN f k (truthsB f 0)) f.parties.length).length cl, .int .i64 0], by simp [results, Try.results10, go_sem], some ⟨gl, 0, none⟩, cl, ?_, ?_, hbe⟩
      · rw [HX.out, who_list]
      · rw [HX.out, ← who_list]
        exact hi.stab hkw'.size (fun b o hb e _ => by simp only [Option.some.injEq, Addr.mk.injEq] at e; exact hkw'.block b hb (fun h => by simp at h; omega))
  · have HX := hide (show whoV f lot = ([], enterE f lot f.lots.length 0) by rw [whoV, if_neg hE])
    generalize hEE : enterE f lot f.lots.length 0 = E at *
    have HEE := hide hEE
    have HNE := hide hE
    have HNB : Hid ((E != 0) = true) := by show (E != 0) = true; simpa using hE
    have hnb : (E != 0) = true := HNB.out
    have HB1 := hide (HB0.out.trans (hB1.mono HB0.out.size))
    clear hEE hE hB1
    go_wp2_with fail
    refine leaves_marks2 (B := 0) (ds := []) trivial (fun w' hkw' => ?_)
    refine ⟨.tuple #[.slice none 0 0, .int .i64 E], by simp [results, Try.results10, go_sem], none, 0, ?_, ?_, ?_⟩
    · rw [HX.out]; rfl
    · rw [HX.out]; exact IntsS.nil_
    · exact HB1.out.trans (((Below.refl w1.heap.size w1).alloc (Nat.le_refl _) _).mono HB1.out.size |>.trans (hkw'.below (fun k h => by simp at h) (by have := HB1.out.size; simp; omega)))
end Go.Proofs.Ytllmahcanipcpaa
