/- A law of ranges over claim's truths: what a round needs, what is left at the end. -/
import Derived.Test.YtllmahcanipcpaaNJ
import Derived.Test.YtllmahcanipcpaaVC
set_option linter.unusedVariables false
set_option linter.unusedSimpArgs false
namespace Go.Proofs.Ytllmahcanipcpaa
open Go.RowKit

abbrev plCells (s : List Int) : Array Value := #[.int .i64 (nth s 0), .int .i64 (nth s 1), .int .i64 (nth s 2), .int .i64 (nth s 3)]
theorem RPost.imp {α : Type} {C : Nat → Prop} {M : World → Prop} {I I' : List α → World → Prop} {Ix Ix' : Code → List α → World → Prop} {xs : List α} {W : World} {e : Exit} {a : Act} {W' : World}
    (hI : Keep C W W' → M W' → I xs W' → I' xs W') (hX : ∀ cd, Keep C W W' → M W' → Ix cd xs W' → Ix' cd xs W') (h : RPost C M I Ix xs W e a W') : RPost C M I' Ix' xs W e a W' := by
  cases e with
  | normal => exact ⟨h.1, h.2.1, hI h.1 h.2.1 h.2.2⟩
  | ret => exact ⟨h.1, h.2.1, hX _ h.1 h.2.1 h.2.2⟩
  | exit id => exact ⟨h.1, h.2.1, hX _ h.1 h.2.1 h.2.2⟩
  | goto t => exact ⟨h.1, h.2.1, hX _ h.1 h.2.1 h.2.2⟩
  | panic c => exact h
  | outgrown => exact h
theorem range_truths {Q : Exit → Act → World → Prop} {a : Act} {w : World} {gop : Operand} {ps : Array Tmp} {assign body : Code} {L b bm p1 : Nat} {f : File} {fa : FA} {but : Nat}
    (hg : a.eval gop = .func (.func 77) #[] #[.pointer (some ⟨p1, 0, none⟩)]) (hps : ps.size = 1) (h : LookG w L b bm f fa but (paidV f)) (hv : Valid f) (hbut : but < 32)
    (e1 : w.cell? ⟨p1, 0, none⟩ = some (.pointer (some ⟨b, 0, none⟩))) (own : Nat → Prop) (hown : ∀ k, own k → L ≤ k ∧ k ≠ b ∧ k < w.heap.size ∧ k ≠ p1)
    (I : List (List Int) → World → Prop) (Ix : Code → List (List Int) → World → Prop)
    (hI : ∀ pre V V', I pre V → Keep (fun k => k = bm ∨ w.heap.size ≤ k) V V' → I pre V') (hIx : ∀ cd pre V V', Ix cd pre V → Keep (fun k => k = w.heap.size + 1) V V' → Ix cd pre V')
    (h0 : I [] w) (A : List Int → Nat → Act)
    (hass : ∀ l x W1, assign.wpIn (Fence.wide.inRound l) 0 Try.prog (fun e a' v => e = .normal ∧ a' = A x W1.heap.size ∧ v = W1.alloc (.cells (plCells x) 86)) { tmps := (ps.zip #[plVal x]).foldl (fun t (p, v) => t.setIfInBounds p v) a.tmps, defers := [] } W1)
    (hbody : ∀ l pre x W3 g, w.heap.size + 2 ≤ g → l = w.heap.size + 1 → x ∈ truthsB f but → PlB f x → I pre W3 → LookG W3 L b bm f fa but (paidV f) → Blk W3 g 86 (plCells x) → w.heap.size + 2 ≤ W3.heap.size →
      body.wpIn (Fence.wide.inRound l) 0 Try.prog (RPost (fun k => k = bm ∨ own k) (fun W => Known W bm (paidV f)) I Ix (pre ++ [x]) W3) (A x g) W3)
    (hdone : ∀ D W', w.heap.size ≤ D → I (truthsB f but) W' → LookG W' L b bm f fa but (paidV f) → Keep (fun k => k = bm ∨ own k) w W' → W'.heap[D]? = some (.deferred (some [])) → Q .normal { a with defers := { target := .collected D, args := #[] } :: a.defers } W')
    (hstop : ∀ D cd q W', w.heap.size ≤ D → q ≠ [] → q <+: truthsB f but → Ix cd q W' → LookG W' L b bm f fa but (paidV f) → Keep (fun k => k = bm ∨ own k) w W' → W'.heap[D]? = some (.deferred (some [])) → cd.wpIn Fence.wide 0 Try.prog Q { a with defers := { target := .collected D, args := #[] } :: a.defers } W') :
    (Code.rangeFunc gop ps assign body).wp Try.prog Q a w := by
  have hb0 := h.hb
  have hm0 := h.hm
  have hL0 := h.hL
  have hS : ∀ k, (k = bm ∨ own k) → k = bm ∨ (L ≤ k ∧ k ≠ b) := fun k hk => hk.imp id (fun h => ⟨(hown k h).1, (hown k h).2.1⟩)
  have hT : ∀ k, (k = bm ∨ (k = bm ∨ own k)) → k = bm ∨ own k := fun k hk => hk.elim .inl id
  refine wp_range hg (enters_of Try.func77 (by kernel_rfl) rfl) hps (truths_iter (C := fun k => k = bm ∨ own k) hv hbut (fun k hk => hk.elim .inl (fun h1 => .inr ⟨⟨(hown k h1).1, (hown k h1).2.1⟩, (hown k h1).2.2.1, (hown k h1).2.2.2⟩)) h e1)
    (fun k hk => hk.elim (fun h1 => by omega) (fun h1 => (hown k h1).2.2.1)) (fun k h => by omega) (fun V V' h hk => h.keep hk (by omega))
    (fun pre W => LookG W L b bm f fa but (paidV f) ∧ I pre W ∧ w.heap.size ≤ W.heap.size) (fun cd pre W => LookG W L b bm f fa but (paidV f) ∧ Ix cd pre W) ?_ ?_ h.k ⟨h, h0, Nat.le_refl _⟩ ?_ ?_ ?_
  · rintro pre V V' ⟨i1, i2, i3⟩ hk hm
    exact ⟨i1.keep hk (fun k h => h.imp id (fun h => by omega)) hm, hI _ _ _ i2 hk, by have := hk.size; omega⟩
  · rintro cd pre V V' ⟨i1, i2⟩ hk
    exact ⟨i1.keep' hk (fun k h => by omega), hIx _ _ _ _ i2 hk⟩
  · rintro l pre x W1 hl hx ⟨i1, i2, i3⟩ hm hlt
    refine wpIn_one (hass l x W1) ?_
    have hkA : Keep (fun _ => False) W1 (W1.alloc (.cells (plCells x) 86)) := Keep.alloc _ _ _
    have hbA : Blk (W1.alloc (.cells (plCells x) 86)) W1.heap.size 86 (plCells x) := Blk.made
    generalize W1.alloc (.cells (plCells x) 86) = W2 at *
    have j1 := i1.keep' hkA (fun _ h => h.elim)
    refine ⟨hkA.mono (fun _ _ h => h.elim), j1.k, fun W3 hk3 => ?_⟩
    have hz2 := hkA.size
    have hz3 := hk3.size
    have j2 := j1.keep' hk3 (fun k h => by omega)
    refine wpIn_mono (hbody l pre x W3 W1.heap.size (by omega) hl hx (statesP_ok hv (List.mem_filter.1 hx).1).1 (hI _ _ _ (hI _ _ _ i2 (hkA.mono (fun _ _ h => h.elim))) (hk3.mono (fun k _ h => .inr (by omega)))) j2 (hbA.keep hk3 (by omega)) (by omega)) ?_
    intro e a' W' hr
    refine RPost.imp (fun hk hm hi => ⟨j2.keep hk hS hm, hi, by have := hk.size; omega⟩) (fun cd hk hm hi => ⟨j2.keep hk hS hm, hi⟩) hr
  · rintro D W' hD ⟨i1, i2, i3⟩ hm hk hd
    exact hdone D W' hD i2 i1 (hk.mono (fun k _ h => hT k h)) hd
  · rintro D cd q W' hD hq hqp ⟨i1, i2⟩ hm hk hd
    exact hstop D cd q W' hD hq hqp i2 i1 (hk.mono (fun k _ h => hT k h)) hd
end Go.Proofs.Ytllmahcanipcpaa
