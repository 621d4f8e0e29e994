/- A range over a function whose iterator keeps state: the law for a property of worlds that new blocks and loops' blocks do not turn. -/
import Derived.Test.YtkaahiddngmdbaaGreatDoorHA
set_option linter.unusedVariables false
set_option linter.unusedSimpArgs false
namespace Go.Proofs.YtkaahiddngmdbaaGreatDoor
open Go.RowKit

theorem wp_rangeM {α : Type} {P : Program} {g : Operand} {ps : Array Tmp} {assign body : Code} {Q : Exit → Act → World → Prop} {a : Act} {w : World} {gf : Nat} {lb : Array Value} {enc : α → Value} {C Sb : Nat → Prop} {M : World → Prop} {T : List α}
 (hg : a.eval g = .func (.func gf) #[] lb) (eg : ∀ args w, (callFunc gf args).run P w = .ok (.enter gf args) w) (hps : ps.size = 1) (hit : IterOk P gf lb enc C Sb M T w)
 (hC : ∀ k, C k → k < w.heap.size) (hSb : ∀ k, Sb k → k < w.heap.size) (hMn : ∀ V V', M V → Below V.heap.size V V' → M V') (hMl : ∀ V l r r', M V → V.heap[l]? = some (.loop r) → M (V.putObj l (.loop r')))
 (I : List α → World → Prop) (Ix : Code → List α → World → Prop) (hI : ∀ pre V V', I pre V → Keep (fun k => Sb k ∨ w.heap.size ≤ k) V V' → M V' → I pre V') (hIx : ∀ cd pre V V', Ix cd pre V → Keep (fun k => k = w.heap.size + 1) V V' → Ix cd pre V')
 (hM0 : M w) (h0 : I [] w)
 (hbody : ∀ l pre x W1, l = w.heap.size + 1 → x ∈ T → I pre W1 → M W1 → l < W1.heap.size →
  assign.wpIn (Fence.wide.inRound l) 0 P (Exit.then (fun a₁ W2 => Keep C W1 W2 ∧ M W2 ∧ ∀ W3, Keep (fun k => k = l) W2 W3 → M W3 → body.wpIn (Fence.wide.inRound l) 0 P (RPost C M I Ix (pre ++ [x]) W3) a₁ W3) (fun _ _ _ => False))
   { tmps := (ps.zip #[enc x]).foldl (fun t (p, v) => t.setIfInBounds p v) a.tmps, defers := [] } W1)
 (hdone : ∀ D W', w.heap.size ≤ D → I T W' → M W' → Keep (fun k => Sb k ∨ C k) w W' → W'.heap[D]? = some (.deferred (some [])) → Q .normal { a with defers := { target := .collected D, args := #[] } :: a.defers } W')
 (hstop : ∀ D cd q W', w.heap.size ≤ D → q ≠ [] → q <+: T → Ix cd q W' → M W' → Keep (fun k => Sb k ∨ C k) w W' → W'.heap[D]? = some (.deferred (some [])) → cd.wpIn Fence.wide 0 P Q { a with defers := { target := .collected D, args := #[] } :: a.defers } W') :
 (Code.rangeFunc g ps assign body).wp P Q a w := by
 refine (wpIn_wide (n := 0)).1 (wpIn_rangeFunc ?_)
 intro fn hfn
 obtain ⟨rec, hrec⟩ : ∃ rec : LoopState → Option Code → Loop, rec = fun st pe => { state := st, pending := pe, fn, tmps := a.tmps, params := ps, assign, body, defers := w.heap.size } := ⟨_, rfl⟩
 obtain ⟨W1, hW1⟩ : ∃ W1, (w.alloc (.deferred (some []))).alloc (.loop (rec .ready none)) = W1 := ⟨_, rfl⟩
 have hL1 : W1.heap[w.heap.size + 1]? = some (.loop (rec .ready none)) := by
  rw [← hW1]; have := World.alloc_heap_new (w.alloc (.deferred (some []))) (.loop (rec .ready none)); rwa [World.size_alloc] at this
 have hK1 : W1.heap[w.heap.size]? = some (.deferred (some [])) := by
  rw [← hW1]; exact (Below.heap_alloc _ _ _ (by simp)).trans (World.alloc_heap_new w _)
 have hB1 : Below w.heap.size w W1 := by
  rw [← hW1]; exact (((Below.refl _ w).alloc (Nat.le_refl _) _).alloc (by simp) _)
 have hz1 : W1.heap.size = w.heap.size + 1 + 1 := by rw [← hW1]; simp
 have hM1 : M W1 := hMn w W1 hM0 hB1
 have hI1 : I [] W1 := hI [] w W1 h0 (Keep.of_below' hB1 _) hM1
 refine ⟨w.heap.size + 1, [{ target := .collected w.heap.size, args := #[] }], W1, { target := .fn (.func gf) lb, args := #[.func (.yield (w.heap.size + 1)) #[] #[]] }, W1, gf,
  #[.func (.yield (w.heap.size + 1)) #[] #[]] ++ lb, W1, ?_, ?_, fun _ _ => trivial, ?_, (fun h => by cases h), ?_⟩
 · rw [← hW1, hrec]; exact run_enterLoop_outer _ _ _ _ _
 · simp only [resolve, hg]
   simp [go_sem]
 · simp [invoke, go_sem, eg]
 · refine callsIn_wide.2 ((hit (w.heap.size + 1) (fun k => C k ∨ k = w.heap.size + 1)
    (fun pre W => I pre W ∧ w.heap.size ≤ W.heap.size ∧ W.heap[w.heap.size + 1]? = some (.loop (rec .ready none)) ∧ W.heap[w.heap.size]? = some (.deferred (some [])))
    (fun pre W => ∃ cd, Ix cd pre W ∧ W.heap[w.heap.size + 1]? = some (.loop (rec .done (some cd))) ∧ W.heap[w.heap.size]? = some (.deferred (some [])))
    W1 hB1 (by omega) (by omega) (fun _ h => h) ?_ ?_ hM1 ⟨hI1, by omega, hL1, hK1⟩).mono ?_)
   · rintro pre V V' ⟨h1, hz, h2, h3⟩ hk hm
     have hlt2 := (Array.getElem?_eq_some_iff.1 h2).1
     have hlt3 := (Array.getElem?_eq_some_iff.1 h3).1
     have hn2 : ¬ (Sb (w.heap.size + 1) ∨ W1.heap.size ≤ w.heap.size + 1) := by
      rintro (h | h)
      · have := hSb _ h; omega
      · omega
     have hn3 : ¬ (Sb w.heap.size ∨ W1.heap.size ≤ w.heap.size) := by
      rintro (h | h)
      · have := hSb _ h; omega
      · omega
     exact ⟨hI pre V V' h1 (hk.mono (fun k _ h => h.imp id (fun h => by omega))) hm, Nat.le_trans hz hk.size, (hk.block _ hlt2 hn2).trans h2, (hk.block _ hlt3 hn3).trans h3⟩
   · -- ONE ROUND
     rintro pre x W hx ⟨hi, hz, hl, hk⟩ hm
     have hlt : w.heap.size + 1 < W.heap.size := (Array.getElem?_eq_some_iff.1 hl).1
     have hy := run_yield (P := P) (args := #[enc x]) hl (by rw [hrec]; simp [hps])
     rw [hrec] at hy
     refine ⟨fn, _, assign, body, hy, roundIn_of_wpIn hfn (wpIn_mono (hbody (w.heap.size + 1) pre x W rfl hx hi hm hlt) ?_)⟩
     clear hy
     intro e a₁ W2 h2
     cases e with
     | normal =>
      obtain ⟨hk2, hm2, hb2⟩ := h2
      have hnl : ¬ C (w.heap.size + 1) := fun h => by have := hC _ h; omega
      have hnd : ¬ C w.heap.size := fun h => by have := hC _ h; omega
      have hl2 := (hk2.block _ hlt hnl).trans hl
      have hd2 := (hk2.block _ (by omega) hnd).trans hk
      have hlt2 : w.heap.size + 1 < W2.heap.size := (Array.getElem?_eq_some_iff.1 hl2).1
      refine ⟨_, run_beginRound hl2 (by rw [hrec]), ?_⟩
      have hkb : Keep (fun k => k = w.heap.size + 1) W2 (W2.putObj (w.heap.size + 1) (.loop { rec .ready none with state := .busy })) := Keep.putObj _ _ _ rfl
      have hl3 : (W2.putObj (w.heap.size + 1) (.loop { rec .ready none with state := .busy })).heap[w.heap.size + 1]? = some (.loop { rec .ready none with state := .busy }) := World.putObj_heap_same hlt2
      have hd3 : (W2.putObj (w.heap.size + 1) (.loop { rec .ready none with state := .busy })).heap[w.heap.size]? = some (.deferred (some [])) := (World.putObj_heap_other (by omega)).trans hd2
      have hz3 : w.heap.size + 1 < (W2.putObj (w.heap.size + 1) (.loop { rec .ready none with state := .busy })).heap.size := (Array.getElem?_eq_some_iff.1 hl3).1
      have hbd := hb2 _ hkb (hMl _ _ _ _ hm2 hl2)
      generalize (W2.putObj (w.heap.size + 1) (.loop { rec .ready none with state := .busy })) = W3 at *
      have hall : Keep (fun k => C k ∨ k = w.heap.size + 1) W W3 := (hk2.mono (fun k _ h => .inl h)).trans (hkb.mono (fun k _ h => .inr h))
      refine wpIn_mono hbd ?_
      have fin : ∀ (jump : Option Code) (W4 : World), Keep C W3 W4 →
       (Instr.endRound (w.heap.size + 1) jump).run P W4 = .ok (.bool jump.isNone) (W4.putObj (w.heap.size + 1) (.loop (rec (if jump.isNone then .ready else .done) jump))) ∧
       (W4.putObj (w.heap.size + 1) (.loop (rec (if jump.isNone then .ready else .done) jump))).heap[w.heap.size + 1]? = some (.loop (rec (if jump.isNone then .ready else .done) jump)) ∧
       (W4.putObj (w.heap.size + 1) (.loop (rec (if jump.isNone then .ready else .done) jump))).heap[w.heap.size]? = some (.deferred (some [])) ∧
       Keep (fun k => C k ∨ k = w.heap.size + 1) W (W4.putObj (w.heap.size + 1) (.loop (rec (if jump.isNone then .ready else .done) jump))) := fun jump W4 hk4 => by
       have hl4 := (hk4.block _ hz3 hnl).trans hl3
       have hd4 := (hk4.block _ (by omega) hnd).trans hd3
       have hr := run_endRound (P := P) jump hl4
       have hr' : (Instr.endRound (w.heap.size + 1) jump).run P W4 = .ok (.bool jump.isNone) (W4.putObj (w.heap.size + 1) (.loop (rec (if jump.isNone then .ready else .done) jump))) := by rw [hr, hrec]
       exact ⟨hr', World.putObj_heap_same (Array.getElem?_eq_some_iff.1 hl4).1, (World.putObj_heap_other (by omega)).trans hd4, hall.trans ((hk4.mono (fun k _ h => .inl h)).trans (Keep.putObj _ _ _ (.inr rfl)))⟩
      have hpk : ∀ (W4 : World) (o : Obj), Keep (fun k => w.heap.size ≤ k) W4 (W4.putObj (w.heap.size + 1) o) := fun W4 o => Keep.putObj _ _ _ (by omega)
      have hpx : ∀ (W4 : World) (o : Obj), Keep (fun k => k = w.heap.size + 1) W4 (W4.putObj (w.heap.size + 1) o) := fun W4 o => Keep.putObj _ _ _ rfl
      rintro e a3 W4 hp
      cases e with
      | normal =>
       obtain ⟨hk4, hm4, hi4⟩ := hp
       obtain ⟨hr, hl5, hd5, hk5⟩ := fin none W4 hk4
       have hm5 := hMl _ _ _ (rec .ready none) hm4 ((hk4.block _ hz3 hnl).trans hl3)
       exact ⟨_, _, hr, hk5, hm5, .inl ⟨rfl, hI _ _ _ hi4 ((hpk W4 _).mono (fun k _ h => .inr h)) hm5, by have := hk5.size; omega, hl5, hd5⟩⟩
      | ret =>
       obtain ⟨hk4, hm4, hi4⟩ := hp
       obtain ⟨hr, hl5, hd5, hk5⟩ := fin (some .ret) W4 hk4
       exact ⟨_, _, hr, hk5, hMl _ _ _ _ hm4 ((hk4.block _ hz3 hnl).trans hl3), .inr ⟨rfl, .ret, hIx _ _ _ _ hi4 (hpx W4 _), hl5, hd5⟩⟩
      | exit id =>
       obtain ⟨hk4, hm4, hi4⟩ := hp
       obtain ⟨hr, hl5, hd5, hk5⟩ := fin (some (.exit id)) W4 hk4
       exact ⟨_, _, hr, hk5, hMl _ _ _ _ hm4 ((hk4.block _ hz3 hnl).trans hl3), .inr ⟨rfl, .exit id, hIx _ _ _ _ hi4 (hpx W4 _), hl5, hd5⟩⟩
      | goto t =>
       obtain ⟨hk4, hm4, hi4⟩ := hp
       obtain ⟨hr, hl5, hd5, hk5⟩ := fin (some (.goto t)) W4 hk4
       exact ⟨_, _, hr, hk5, hMl _ _ _ _ hm4 ((hk4.block _ hz3 hnl).trans hl3), .inr ⟨rfl, .goto t, hIx _ _ _ _ hi4 (hpx W4 _), hl5, hd5⟩⟩
      | panic ch => exact hp.elim
      | outgrown => exact hp.elim
     | ret => exact h2.elim
     | exit id => exact h2.elim
     | goto t => exact h2.elim
     | panic ch => exact h2.elim
     | outgrown => exact h2.elim
   · -- BEHIND THE ITERATOR
     have hpk : ∀ (W4 : World) (o : Obj), Keep (fun k => w.heap.size ≤ k) W4 (W4.putObj (w.heap.size + 1) o) := fun W4 o => Keep.putObj _ _ _ (by omega)
     have hpx : ∀ (W4 : World) (o : Obj), Keep (fun k => k = w.heap.size + 1) W4 (W4.putObj (w.heap.size + 1) o) := fun W4 o => Keep.putObj _ _ _ rfl
     have hkk : ∀ (W2 : World) (o : Obj), Keep (fun k => Sb k ∨ (C k ∨ k = w.heap.size + 1)) W1 W2 → Keep (fun k => Sb k ∨ C k) w (W2.putObj (w.heap.size + 1) o) := fun W2 o hk =>
      (((Keep.of_below' hB1 (fun k => Sb k ∨ (C k ∨ k = w.heap.size + 1))).trans hk).trans (Keep.putObj _ _ _ (.inr (.inr rfl)))).mono (fun k hk h => by
       rcases h with h | h | h
       · exact .inl h
       · exact .inr h
       · omega)
     rintro e W2 ⟨⟨v, rfl⟩, hm, hkw, (⟨hi, hz, hl, hd⟩ | ⟨q, hq0, hqp, cd, hi, hl, hd⟩)⟩
     · have hm5 := fun o => hMl _ _ _ o hm hl
       exact ⟨none, _, by have := run_endLoop (P := P) hl (by rw [hrec]; simp); rw [hrec] at this; exact this, hdone _ _ (Nat.le_refl _) (hI _ _ _ hi ((hpk W2 _).mono (fun k _ h => .inr h)) (hm5 _)) (hm5 _) (hkk W2 _ hkw) ((World.putObj_heap_other (by omega)).trans hd)⟩
     · exact ⟨some cd, _, by have := run_endLoop (P := P) hl (by rw [hrec]; simp); rw [hrec] at this; exact this, hstop _ cd q _ (Nat.le_refl _) hq0 hqp (hIx _ _ _ _ hi (hpx W2 _)) (hMl _ _ _ _ hm hl) (hkk W2 _ hkw) ((World.putObj_heap_other (by omega)).trans hd)⟩
end Go.Proofs.YtkaahiddngmdbaaGreatDoor
