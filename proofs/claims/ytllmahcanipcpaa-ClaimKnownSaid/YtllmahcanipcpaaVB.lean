/- Ranges over functions whose iterator keeps state; rounds; how a function leaves that has ranged over functions. -/
import Derived.Test.YtllmahcanipcpaaVA
import Derived.RangeFuncNested
import Derived.RangeFuncBound
import Derived.RangeFuncCalls
import Derived.RangeFuncLeaves
import Derived.OrdersIn
import Derived.Deep.RegionHeld3
set_option linter.unusedVariables false
set_option linter.unusedSimpArgs false
namespace Go.Proofs.Ytllmahcanipcpaa
open Go.RowKit

theorem Keep.putObj {W : World} (l : Nat) (o : Obj) (S : Nat → Prop) (h : S l) : Keep S W (W.putObj l o) :=
  ⟨rfl, rfl, rfl, by simp, fun k _ hk => World.putObj_heap_other (fun e => hk (e ▸ h))⟩

/-- How the body of a round is left. -/
def RPost {α : Type} (C : Nat → Prop) (M : World → Prop) (I : List α → World → Prop) (Ix : Code → List α → World → Prop) (xs : List α) (W : World) : Exit → Act → World → Prop
  | .normal, _, W' => Keep C W W' ∧ M W' ∧ I xs W'
  | .ret, _, W' => Keep C W W' ∧ M W' ∧ Ix .ret xs W'
  | .exit id, _, W' => Keep C W W' ∧ M W' ∧ Ix (.exit id) xs W'
  | .goto t, _, W' => Keep C W W' ∧ M W' ∧ Ix (.goto t) xs W'
  | .panic _, _, _ => False
  | .outgrown, _, _ => False

/-- What an iterator promises, when it is called in a world grown out of w: all of T comes, in order, or a round says 'no more'. -/
def IterOk {α : Type} (P : Program) (gf : Nat) (lb : Array Value) (enc : α → Value) (C Sb : Nat → Prop) (M : World → Prop) (T : List α) (w : World) : Prop :=
  ∀ (l : Nat) (C' : Nat → Prop) (J Jx : List α → World → Prop) (W : World), Below w.heap.size w W → w.heap.size ≤ l → l < W.heap.size → (∀ k, C' k → C k ∨ k = l) →
    (∀ pre V V', J pre V → Keep (fun k => Sb k ∨ W.heap.size ≤ k) V V' → M V' → J pre V') →
    (∀ pre x W1, x ∈ T → J pre W1 → M W1 → YieldAt Fence.wide 0 P l #[enc x] W1 fun e W' =>
      Keep C' W1 W' ∧ M W' ∧ ((e = .returned (.bool true) ∧ J (pre ++ [x]) W') ∨ (e = .returned (.bool false) ∧ Jx (pre ++ [x]) W'))) →
    M W → J [] W →
    Calls P gf (#[.func (.yield l) #[] #[]] ++ lb) W fun e W' => (∃ v, e = .returned v) ∧ M W' ∧ Keep (fun k => Sb k ∨ C' k) W W' ∧ (J T W' ∨ ∃ q, q ≠ [] ∧ q <+: T ∧ Jx q W')

theorem wpIn_one {F : Fence} {n : Nat} {P : Program} {cd : Code} {Q : Exit → Act → World → Prop} {a a0 : Act} {w w0 : World} (h : cd.wpIn F n P (fun e a v => e = .normal ∧ a = a0 ∧ v = w0) a w) (hq : Q .normal a0 w0) : cd.wpIn F n P Q a w :=
  wpIn_mono h fun _ _ _ ⟨h1, h2, h3⟩ => by rw [h1, h2, h3]; exact hq

theorem wp_range {α : Type} {P : Program} {g : Operand} {ps : Array Tmp} {assign body : Code} {Q : Exit → Act → World → Prop} {a : Act} {w : World} {gf : Nat} {lb : Array Value} {enc : α → Value} {C Sb : Nat → Prop} {M : World → Prop} {T : List α}
    (hg : a.eval g = .func (.func gf) #[] lb) (eg : ∀ args w, (callFunc gf args).run P w = .ok (.enter gf args) w) (hps : ps.size = 1) (hit : IterOk P gf lb enc C Sb M T w)
    (hC : ∀ k, C k → k < w.heap.size) (hSb : ∀ k, Sb k → k < w.heap.size) (hM : ∀ V V', M V → Keep (fun k => w.heap.size ≤ k) V V' → M V')
    (I : List α → World → Prop) (Ix : Code → List α → World → Prop) (hI : ∀ pre V V', I pre V → Keep (fun k => Sb k ∨ w.heap.size ≤ k) V V' → M V' → I pre V') (hIx : ∀ cd pre V V', Ix cd pre V → Keep (fun k => k = w.heap.size + 1) V V' → Ix cd pre V')
    (hM0 : M w) (h0 : I [] w)
    (hbody : ∀ l pre x W1, l = w.heap.size + 1 → x ∈ T → I pre W1 → M W1 → l < W1.heap.size →
      assign.wpIn (Fence.wide.inRound l) 0 P (Exit.then (fun a₁ W2 => Keep C W1 W2 ∧ M W2 ∧ ∀ W3, Keep (fun k => k = l) W2 W3 → body.wpIn (Fence.wide.inRound l) 0 P (RPost C M I Ix (pre ++ [x]) W3) a₁ W3) (fun _ _ _ => False))
        { tmps := (ps.zip #[enc x]).foldl (fun t (p, v) => t.setIfInBounds p v) a.tmps, defers := [] } W1)
    (hdone : ∀ D W', w.heap.size ≤ D → I T W' → M W' → Keep (fun k => Sb k ∨ C k) w W' → W'.heap[D]? = some (.deferred (some [])) → Q .normal { a with defers := { target := .collected D, args := #[] } :: a.defers } W')
    (hstop : ∀ D cd q W', w.heap.size ≤ D → q ≠ [] → q <+: T → Ix cd q W' → M W' → Keep (fun k => Sb k ∨ C k) w W' → W'.heap[D]? = some (.deferred (some [])) → cd.wpIn Fence.wide 0 P Q { a with defers := { target := .collected D, args := #[] } :: a.defers } W') :
    (Code.rangeFunc g ps assign body).wp P Q a w := by
  refine (wpIn_wide (n := 0)).1 (wpIn_rangeFunc ?_)
  intro fn hfn
  obtain ⟨rec, hrec⟩ : ∃ rec : LoopState → Option Code → Loop, rec = fun st pe => { state := st, pending := pe, fn, tmps := a.tmps, params := ps, assign, body, defers := w.heap.size } := ⟨_, rfl⟩
  obtain ⟨W1, hW1⟩ : ∃ W1, (w.alloc (.deferred (some []))).alloc (.loop (rec .ready none)) = W1 := ⟨_, rfl⟩
  have hL1 : W1.heap[w.heap.size + 1]? = some (.loop (rec .ready none)) := by
    rw [← hW1]; have := World.alloc_heap_new (w.alloc (.deferred (some []))) (.loop (rec .ready none)); rwa [World.size_alloc] at this
  have hK1 : W1.heap[w.heap.size]? = some (.deferred (some [])) := by
    rw [← hW1]; exact (Below.heap_alloc _ _ _ (by simp)).trans (World.alloc_heap_new w _)
  have hB1 : Below w.heap.size w W1 := by
    rw [← hW1]; exact (((Below.refl _ w).alloc (Nat.le_refl _) _).alloc (by simp) _)
  have hz1 : W1.heap.size = w.heap.size + 1 + 1 := by rw [← hW1]; simp
  have hM1 : M W1 := hM w W1 hM0 (Keep.of_below' hB1 _)
  have hI1 : I [] W1 := hI [] w W1 h0 (Keep.of_below' hB1 _) hM1
  refine ⟨w.heap.size + 1, [{ target := .collected w.heap.size, args := #[] }], W1, { target := .fn (.func gf) lb, args := #[.func (.yield (w.heap.size + 1)) #[] #[]] }, W1, gf,
    #[.func (.yield (w.heap.size + 1)) #[] #[]] ++ lb, W1, ?_, ?_, fun _ _ => trivial, ?_, (fun h => by cases h), ?_⟩
  · rw [← hW1, hrec]; exact run_enterLoop_outer _ _ _ _ _
  · simp only [resolve, hg]
    simp [go_sem]
  · simp [invoke, go_sem, eg]
  · refine callsIn_wide.2 ((hit (w.heap.size + 1) (fun k => C k ∨ k = w.heap.size + 1)
      (fun pre W => I pre W ∧ w.heap.size ≤ W.heap.size ∧ W.heap[w.heap.size + 1]? = some (.loop (rec .ready none)) ∧ W.heap[w.heap.size]? = some (.deferred (some [])))
      (fun pre W => ∃ cd, Ix cd pre W ∧ W.heap[w.heap.size + 1]? = some (.loop (rec .done (some cd))) ∧ W.heap[w.heap.size]? = some (.deferred (some [])))
      W1 hB1 (by omega) (by omega) (fun _ h => h) ?_ ?_ hM1 ⟨hI1, by omega, hL1, hK1⟩).mono ?_)
    · rintro pre V V' ⟨h1, hz, h2, h3⟩ hk hm
      have hlt2 := (Array.getElem?_eq_some_iff.1 h2).1
      have hlt3 := (Array.getElem?_eq_some_iff.1 h3).1
      have hn2 : ¬ (Sb (w.heap.size + 1) ∨ W1.heap.size ≤ w.heap.size + 1) := by
        rintro (h | h)
        · have := hSb _ h; omega
        · omega
      have hn3 : ¬ (Sb w.heap.size ∨ W1.heap.size ≤ w.heap.size) := by
        rintro (h | h)
        · have := hSb _ h; omega
        · omega
      exact ⟨hI pre V V' h1 (hk.mono (fun k _ h => h.imp id (fun h => by omega))) hm, Nat.le_trans hz hk.size, (hk.block _ hlt2 hn2).trans h2, (hk.block _ hlt3 hn3).trans h3⟩
    · -- ONE ROUND
      rintro pre x W hx ⟨hi, hz, hl, hk⟩ hm
      have hlt : w.heap.size + 1 < W.heap.size := (Array.getElem?_eq_some_iff.1 hl).1
      have hy := run_yield (P := P) (args := #[enc x]) hl (by rw [hrec]; simp [hps])
      rw [hrec] at hy
      refine ⟨fn, _, assign, body, hy, roundIn_of_wpIn hfn (wpIn_mono (hbody (w.heap.size + 1) pre x W rfl hx hi hm hlt) ?_)⟩
      clear hy
      intro e a₁ W2 h2
      cases e with
      | normal =>
        obtain ⟨hk2, hm2, hb2⟩ := h2
        have hnl : ¬ C (w.heap.size + 1) := fun h => by have := hC _ h; omega
        have hnd : ¬ C w.heap.size := fun h => by have := hC _ h; omega
        have hl2 := (hk2.block _ hlt hnl).trans hl
        have hd2 := (hk2.block _ (by omega) hnd).trans hk
        have hlt2 : w.heap.size + 1 < W2.heap.size := (Array.getElem?_eq_some_iff.1 hl2).1
        refine ⟨_, run_beginRound hl2 (by rw [hrec]), ?_⟩
        have hkb : Keep (fun k => k = w.heap.size + 1) W2 (W2.putObj (w.heap.size + 1) (.loop { rec .ready none with state := .busy })) := Keep.putObj _ _ _ rfl
        have hl3 : (W2.putObj (w.heap.size + 1) (.loop { rec .ready none with state := .busy })).heap[w.heap.size + 1]? = some (.loop { rec .ready none with state := .busy }) := World.putObj_heap_same hlt2
        have hd3 : (W2.putObj (w.heap.size + 1) (.loop { rec .ready none with state := .busy })).heap[w.heap.size]? = some (.deferred (some [])) := (World.putObj_heap_other (by omega)).trans hd2
        have hz3 : w.heap.size + 1 < (W2.putObj (w.heap.size + 1) (.loop { rec .ready none with state := .busy })).heap.size := (Array.getElem?_eq_some_iff.1 hl3).1
        have hbd := hb2 _ hkb
        generalize (W2.putObj (w.heap.size + 1) (.loop { rec .ready none with state := .busy })) = W3 at *
        have hall : Keep (fun k => C k ∨ k = w.heap.size + 1) W W3 := (hk2.mono (fun k _ h => .inl h)).trans (hkb.mono (fun k _ h => .inr h))
        refine wpIn_mono hbd ?_
        have fin : ∀ (jump : Option Code) (W4 : World), Keep C W3 W4 →
            (Instr.endRound (w.heap.size + 1) jump).run P W4 = .ok (.bool jump.isNone) (W4.putObj (w.heap.size + 1) (.loop (rec (if jump.isNone then .ready else .done) jump))) ∧
            (W4.putObj (w.heap.size + 1) (.loop (rec (if jump.isNone then .ready else .done) jump))).heap[w.heap.size + 1]? = some (.loop (rec (if jump.isNone then .ready else .done) jump)) ∧
            (W4.putObj (w.heap.size + 1) (.loop (rec (if jump.isNone then .ready else .done) jump))).heap[w.heap.size]? = some (.deferred (some [])) ∧
            Keep (fun k => C k ∨ k = w.heap.size + 1) W (W4.putObj (w.heap.size + 1) (.loop (rec (if jump.isNone then .ready else .done) jump))) := fun jump W4 hk4 => by
          have hl4 := (hk4.block _ hz3 hnl).trans hl3
          have hd4 := (hk4.block _ (by omega) hnd).trans hd3
          have hr := run_endRound (P := P) jump hl4
          have hr' : (Instr.endRound (w.heap.size + 1) jump).run P W4 = .ok (.bool jump.isNone) (W4.putObj (w.heap.size + 1) (.loop (rec (if jump.isNone then .ready else .done) jump))) := by rw [hr, hrec]
          exact ⟨hr', World.putObj_heap_same (Array.getElem?_eq_some_iff.1 hl4).1, (World.putObj_heap_other (by omega)).trans hd4, hall.trans ((hk4.mono (fun k _ h => .inl h)).trans (Keep.putObj _ _ _ (.inr rfl)))⟩
        have hpk : ∀ (W4 : World) (o : Obj), Keep (fun k => w.heap.size ≤ k) W4 (W4.putObj (w.heap.size + 1) o) := fun W4 o => Keep.putObj _ _ _ (by omega)
        have hpx : ∀ (W4 : World) (o : Obj), Keep (fun k => k = w.heap.size + 1) W4 (W4.putObj (w.heap.size + 1) o) := fun W4 o => Keep.putObj _ _ _ rfl
        rintro e a3 W4 hp
        cases e with
        | normal =>
          obtain ⟨hk4, hm4, hi4⟩ := hp
          obtain ⟨hr, hl5, hd5, hk5⟩ := fin none W4 hk4
          have hm5 := hM _ _ hm4 (hpk W4 (.loop (rec .ready none)))
          exact ⟨_, _, hr, hk5, hm5, .inl ⟨rfl, hI _ _ _ hi4 ((hpk W4 _).mono (fun k _ h => .inr h)) hm5, by have := hk5.size; omega, hl5, hd5⟩⟩
        | ret =>
          obtain ⟨hk4, hm4, hi4⟩ := hp
          obtain ⟨hr, hl5, hd5, hk5⟩ := fin (some .ret) W4 hk4
          exact ⟨_, _, hr, hk5, hM _ _ hm4 (hpk W4 _), .inr ⟨rfl, .ret, hIx _ _ _ _ hi4 (hpx W4 _), hl5, hd5⟩⟩
        | exit id =>
          obtain ⟨hk4, hm4, hi4⟩ := hp
          obtain ⟨hr, hl5, hd5, hk5⟩ := fin (some (.exit id)) W4 hk4
          exact ⟨_, _, hr, hk5, hM _ _ hm4 (hpk W4 _), .inr ⟨rfl, .exit id, hIx _ _ _ _ hi4 (hpx W4 _), hl5, hd5⟩⟩
        | goto t =>
          obtain ⟨hk4, hm4, hi4⟩ := hp
          obtain ⟨hr, hl5, hd5, hk5⟩ := fin (some (.goto t)) W4 hk4
          exact ⟨_, _, hr, hk5, hM _ _ hm4 (hpk W4 _), .inr ⟨rfl, .goto t, hIx _ _ _ _ hi4 (hpx W4 _), hl5, hd5⟩⟩
        | panic ch => exact hp.elim
        | outgrown => exact hp.elim
      | ret => exact h2.elim
      | exit id => exact h2.elim
      | goto t => exact h2.elim
      | panic ch => exact h2.elim
      | outgrown => exact h2.elim
    · -- BEHIND THE ITERATOR
      have hpk : ∀ (W4 : World) (o : Obj), Keep (fun k => w.heap.size ≤ k) W4 (W4.putObj (w.heap.size + 1) o) := fun W4 o => Keep.putObj _ _ _ (by omega)
      have hpx : ∀ (W4 : World) (o : Obj), Keep (fun k => k = w.heap.size + 1) W4 (W4.putObj (w.heap.size + 1) o) := fun W4 o => Keep.putObj _ _ _ rfl
      have hkk : ∀ (W2 : World) (o : Obj), Keep (fun k => Sb k ∨ (C k ∨ k = w.heap.size + 1)) W1 W2 → Keep (fun k => Sb k ∨ C k) w (W2.putObj (w.heap.size + 1) o) := fun W2 o hk =>
        (((Keep.of_below' hB1 (fun k => Sb k ∨ (C k ∨ k = w.heap.size + 1))).trans hk).trans (Keep.putObj _ _ _ (.inr (.inr rfl)))).mono (fun k hk h => by
          rcases h with h | h | h
          · exact .inl h
          · exact .inr h
          · omega)
      rintro e W2 ⟨⟨v, rfl⟩, hm, hkw, (⟨hi, hz, hl, hd⟩ | ⟨q, hq0, hqp, cd, hi, hl, hd⟩)⟩
      · have hm5 := fun o => hM _ _ hm (hpk W2 o)
        exact ⟨none, _, by have := run_endLoop (P := P) hl (by rw [hrec]; simp); rw [hrec] at this; exact this, hdone _ _ (Nat.le_refl _) (hI _ _ _ hi ((hpk W2 _).mono (fun k _ h => .inr h)) (hm5 _)) (hm5 _) (hkk W2 _ hkw) ((World.putObj_heap_other (by omega)).trans hd)⟩
      · exact ⟨some cd, _, by have := run_endLoop (P := P) hl (by rw [hrec]; simp); rw [hrec] at this; exact this, hstop _ cd q _ (Nat.le_refl _) hq0 hqp (hIx _ _ _ _ hi (hpx W2 _)) (hM _ _ hm (hpk W2 _)) (hkk W2 _ hkw) ((World.putObj_heap_other (by omega)).trans hd)⟩
/-- The same of an iterator that turns nothing itself, when it is called in a world grown out of w: all of T comes, in order, or a round says 'no more'. -/
def IterStill {α : Type} (P : Program) (gf : Nat) (lb : Array Value) (enc : α → Value) (C : Nat → Prop) (M : World → Prop) (T : List α) (w : World) : Prop :=
  ∀ (l : Nat) (C' : Nat → Prop) (J Jx : List α → World → Prop) (W : World), Below w.heap.size w W → w.heap.size ≤ l → l < W.heap.size → (∀ k, C' k → C k ∨ k = l) →
    (∀ pre V V', J pre V → Keep (fun _ => False) V V' → M V' → J pre V') →
    (∀ pre x W1, pre ++ [x] <+: T → J pre W1 → M W1 → YieldAt Fence.wide 0 P l #[enc x] W1 fun e W' =>
      Keep C' W1 W' ∧ M W' ∧ ((e = .returned (.bool true) ∧ J (pre ++ [x]) W') ∨ (e = .returned (.bool false) ∧ Jx (pre ++ [x]) W'))) →
    M W → J [] W →
    Calls P gf (#[.func (.yield l) #[] #[]] ++ lb) W fun e W' => (∃ v, e = .returned v) ∧ M W' ∧ Keep C' W W' ∧ (J T W' ∨ ∃ q, q ≠ [] ∧ q <+: T ∧ Jx q W')

theorem wp_range_still {α : Type} {P : Program} {g : Operand} {ps : Array Tmp} {assign body : Code} {Q : Exit → Act → World → Prop} {a : Act} {w : World} {gf : Nat} {lb : Array Value} {enc : α → Value} {C : Nat → Prop} {M : World → Prop} {T : List α}
    (hg : a.eval g = .func (.func gf) #[] lb) (eg : ∀ args w, (callFunc gf args).run P w = .ok (.enter gf args) w) (hps : ps.size = 1) (hit : IterStill P gf lb enc C M T w)
    (hC : ∀ k, C k → k ≠ w.heap.size ∧ k ≠ w.heap.size + 1) (hM : ∀ V V', M V → Keep (fun k => w.heap.size ≤ k) V V' → M V')
    (I : List α → World → Prop) (Ix : Code → List α → World → Prop) (hI : ∀ pre V V', I pre V → Keep (fun k => k = w.heap.size ∨ k = w.heap.size + 1) V V' → M V' → I pre V') (hIx : ∀ cd pre V V', Ix cd pre V → Keep (fun k => k = w.heap.size + 1) V V' → Ix cd pre V')
    (hM0 : M w) (h0 : I [] w)
    (hbody : ∀ l pre x W1, l = w.heap.size + 1 → pre ++ [x] <+: T → I pre W1 → M W1 → l < W1.heap.size →
      assign.wpIn (Fence.wide.inRound l) 0 P (Exit.then (fun a₁ W2 => Keep C W1 W2 ∧ M W2 ∧ ∀ W3, Keep (fun k => k = l) W2 W3 → body.wpIn (Fence.wide.inRound l) 0 P (RPost C M I Ix (pre ++ [x]) W3) a₁ W3) (fun _ _ _ => False))
        { tmps := (ps.zip #[enc x]).foldl (fun t (p, v) => t.setIfInBounds p v) a.tmps, defers := [] } W1)
    (hdone : ∀ D W', w.heap.size ≤ D → I T W' → M W' → Keep C w W' → W'.heap[D]? = some (.deferred (some [])) → Q .normal { a with defers := { target := .collected D, args := #[] } :: a.defers } W')
    (hstop : ∀ D cd q W', w.heap.size ≤ D → q ≠ [] → q <+: T → Ix cd q W' → M W' → Keep C w W' → W'.heap[D]? = some (.deferred (some [])) → cd.wpIn Fence.wide 0 P Q { a with defers := { target := .collected D, args := #[] } :: a.defers } W') :
    (Code.rangeFunc g ps assign body).wp P Q a w := by
  refine (wpIn_wide (n := 0)).1 (wpIn_rangeFunc ?_)
  intro fn hfn
  obtain ⟨rec, hrec⟩ : ∃ rec : LoopState → Option Code → Loop, rec = fun st pe => { state := st, pending := pe, fn, tmps := a.tmps, params := ps, assign, body, defers := w.heap.size } := ⟨_, rfl⟩
  obtain ⟨W1, hW1⟩ : ∃ W1, (w.alloc (.deferred (some []))).alloc (.loop (rec .ready none)) = W1 := ⟨_, rfl⟩
  have hL1 : W1.heap[w.heap.size + 1]? = some (.loop (rec .ready none)) := by
    rw [← hW1]; have := World.alloc_heap_new (w.alloc (.deferred (some []))) (.loop (rec .ready none)); rwa [World.size_alloc] at this
  have hK1 : W1.heap[w.heap.size]? = some (.deferred (some [])) := by
    rw [← hW1]; exact (Below.heap_alloc _ _ _ (by simp)).trans (World.alloc_heap_new w _)
  have hB1 : Below w.heap.size w W1 := by
    rw [← hW1]; exact (((Below.refl _ w).alloc (Nat.le_refl _) _).alloc (by simp) _)
  have hz1 : W1.heap.size = w.heap.size + 1 + 1 := by rw [← hW1]; simp
  have hM1 : M W1 := hM w W1 hM0 (Keep.of_below' hB1 _)
  have hI1 : I [] W1 := hI [] w W1 h0 (Keep.of_below' hB1 _) hM1
  refine ⟨w.heap.size + 1, [{ target := .collected w.heap.size, args := #[] }], W1, { target := .fn (.func gf) lb, args := #[.func (.yield (w.heap.size + 1)) #[] #[]] }, W1, gf,
    #[.func (.yield (w.heap.size + 1)) #[] #[]] ++ lb, W1, ?_, ?_, fun _ _ => trivial, ?_, (fun h => by cases h), ?_⟩
  · rw [← hW1, hrec]; exact run_enterLoop_outer _ _ _ _ _
  · simp only [resolve, hg]
    simp [go_sem]
  · simp [invoke, go_sem, eg]
  · refine callsIn_wide.2 ((hit (w.heap.size + 1) (fun k => C k ∨ k = w.heap.size + 1)
      (fun pre W => I pre W ∧ w.heap.size ≤ W.heap.size ∧ W.heap[w.heap.size + 1]? = some (.loop (rec .ready none)) ∧ W.heap[w.heap.size]? = some (.deferred (some [])))
      (fun pre W => ∃ cd, Ix cd pre W ∧ W.heap[w.heap.size + 1]? = some (.loop (rec .done (some cd))) ∧ W.heap[w.heap.size]? = some (.deferred (some [])))
      W1 hB1 (by omega) (by omega) (fun _ h => h) ?_ ?_ hM1 ⟨hI1, by omega, hL1, hK1⟩).mono ?_)
    · rintro pre V V' ⟨h1, hz, h2, h3⟩ hk hm
      have hlt2 := (Array.getElem?_eq_some_iff.1 h2).1
      have hlt3 := (Array.getElem?_eq_some_iff.1 h3).1
      exact ⟨hI pre V V' h1 (hk.mono (fun k _ h => h.elim)) hm, Nat.le_trans hz hk.size, (hk.block _ hlt2 (fun h => h)).trans h2, (hk.block _ hlt3 (fun h => h)).trans h3⟩
    · -- ONE ROUND
      rintro pre x W hx ⟨hi, hz, hl, hk⟩ hm
      have hlt : w.heap.size + 1 < W.heap.size := (Array.getElem?_eq_some_iff.1 hl).1
      have hy := run_yield (P := P) (args := #[enc x]) hl (by rw [hrec]; simp [hps])
      rw [hrec] at hy
      refine ⟨fn, _, assign, body, hy, roundIn_of_wpIn hfn (wpIn_mono (hbody (w.heap.size + 1) pre x W rfl hx hi hm hlt) ?_)⟩
      clear hy
      intro e a₁ W2 h2
      cases e with
      | normal =>
        obtain ⟨hk2, hm2, hb2⟩ := h2
        have hnl : ¬ C (w.heap.size + 1) := fun h => by have := hC _ h; omega
        have hnd : ¬ C w.heap.size := fun h => by have := hC _ h; omega
        have hl2 := (hk2.block _ hlt hnl).trans hl
        have hd2 := (hk2.block _ (by omega) hnd).trans hk
        have hlt2 : w.heap.size + 1 < W2.heap.size := (Array.getElem?_eq_some_iff.1 hl2).1
        refine ⟨_, run_beginRound hl2 (by rw [hrec]), ?_⟩
        have hkb : Keep (fun k => k = w.heap.size + 1) W2 (W2.putObj (w.heap.size + 1) (.loop { rec .ready none with state := .busy })) := Keep.putObj _ _ _ rfl
        have hl3 : (W2.putObj (w.heap.size + 1) (.loop { rec .ready none with state := .busy })).heap[w.heap.size + 1]? = some (.loop { rec .ready none with state := .busy }) := World.putObj_heap_same hlt2
        have hd3 : (W2.putObj (w.heap.size + 1) (.loop { rec .ready none with state := .busy })).heap[w.heap.size]? = some (.deferred (some [])) := (World.putObj_heap_other (by omega)).trans hd2
        have hz3 : w.heap.size + 1 < (W2.putObj (w.heap.size + 1) (.loop { rec .ready none with state := .busy })).heap.size := (Array.getElem?_eq_some_iff.1 hl3).1
        have hbd := hb2 _ hkb
        generalize (W2.putObj (w.heap.size + 1) (.loop { rec .ready none with state := .busy })) = W3 at *
        have hall : Keep (fun k => C k ∨ k = w.heap.size + 1) W W3 := (hk2.mono (fun k _ h => .inl h)).trans (hkb.mono (fun k _ h => .inr h))
        refine wpIn_mono hbd ?_
        have fin : ∀ (jump : Option Code) (W4 : World), Keep C W3 W4 →
            (Instr.endRound (w.heap.size + 1) jump).run P W4 = .ok (.bool jump.isNone) (W4.putObj (w.heap.size + 1) (.loop (rec (if jump.isNone then .ready else .done) jump))) ∧
            (W4.putObj (w.heap.size + 1) (.loop (rec (if jump.isNone then .ready else .done) jump))).heap[w.heap.size + 1]? = some (.loop (rec (if jump.isNone then .ready else .done) jump)) ∧
            (W4.putObj (w.heap.size + 1) (.loop (rec (if jump.isNone then .ready else .done) jump))).heap[w.heap.size]? = some (.deferred (some [])) ∧
            Keep (fun k => C k ∨ k = w.heap.size + 1) W (W4.putObj (w.heap.size + 1) (.loop (rec (if jump.isNone then .ready else .done) jump))) := fun jump W4 hk4 => by
          have hl4 := (hk4.block _ hz3 hnl).trans hl3
          have hd4 := (hk4.block _ (by omega) hnd).trans hd3
          have hr := run_endRound (P := P) jump hl4
          have hr' : (Instr.endRound (w.heap.size + 1) jump).run P W4 = .ok (.bool jump.isNone) (W4.putObj (w.heap.size + 1) (.loop (rec (if jump.isNone then .ready else .done) jump))) := by rw [hr, hrec]
          exact ⟨hr', World.putObj_heap_same (Array.getElem?_eq_some_iff.1 hl4).1, (World.putObj_heap_other (by omega)).trans hd4, hall.trans ((hk4.mono (fun k _ h => .inl h)).trans (Keep.putObj _ _ _ (.inr rfl)))⟩
        have hpk : ∀ (W4 : World) (o : Obj), Keep (fun k => w.heap.size ≤ k) W4 (W4.putObj (w.heap.size + 1) o) := fun W4 o => Keep.putObj _ _ _ (by omega)
        have hpx : ∀ (W4 : World) (o : Obj), Keep (fun k => k = w.heap.size + 1) W4 (W4.putObj (w.heap.size + 1) o) := fun W4 o => Keep.putObj _ _ _ rfl
        rintro e a3 W4 hp
        cases e with
        | normal =>
          obtain ⟨hk4, hm4, hi4⟩ := hp
          obtain ⟨hr, hl5, hd5, hk5⟩ := fin none W4 hk4
          have hm5 := hM _ _ hm4 (hpk W4 (.loop (rec .ready none)))
          exact ⟨_, _, hr, hk5, hm5, .inl ⟨rfl, hI _ _ _ hi4 (Keep.putObj _ _ _ (.inr rfl)) hm5, by have := hk5.size; omega, hl5, hd5⟩⟩
        | ret =>
          obtain ⟨hk4, hm4, hi4⟩ := hp
          obtain ⟨hr, hl5, hd5, hk5⟩ := fin (some .ret) W4 hk4
          exact ⟨_, _, hr, hk5, hM _ _ hm4 (hpk W4 _), .inr ⟨rfl, .ret, hIx _ _ _ _ hi4 (hpx W4 _), hl5, hd5⟩⟩
        | exit id =>
          obtain ⟨hk4, hm4, hi4⟩ := hp
          obtain ⟨hr, hl5, hd5, hk5⟩ := fin (some (.exit id)) W4 hk4
          exact ⟨_, _, hr, hk5, hM _ _ hm4 (hpk W4 _), .inr ⟨rfl, .exit id, hIx _ _ _ _ hi4 (hpx W4 _), hl5, hd5⟩⟩
        | goto t =>
          obtain ⟨hk4, hm4, hi4⟩ := hp
          obtain ⟨hr, hl5, hd5, hk5⟩ := fin (some (.goto t)) W4 hk4
          exact ⟨_, _, hr, hk5, hM _ _ hm4 (hpk W4 _), .inr ⟨rfl, .goto t, hIx _ _ _ _ hi4 (hpx W4 _), hl5, hd5⟩⟩
        | panic ch => exact hp.elim
        | outgrown => exact hp.elim
      | ret => exact h2.elim
      | exit id => exact h2.elim
      | goto t => exact h2.elim
      | panic ch => exact h2.elim
      | outgrown => exact h2.elim
    · -- BEHIND THE ITERATOR
      have hpk : ∀ (W4 : World) (o : Obj), Keep (fun k => w.heap.size ≤ k) W4 (W4.putObj (w.heap.size + 1) o) := fun W4 o => Keep.putObj _ _ _ (by omega)
      have hpx : ∀ (W4 : World) (o : Obj), Keep (fun k => k = w.heap.size + 1) W4 (W4.putObj (w.heap.size + 1) o) := fun W4 o => Keep.putObj _ _ _ rfl
      have hkk : ∀ (W2 : World) (o : Obj), Keep (fun k => C k ∨ k = w.heap.size + 1) W1 W2 → Keep C w (W2.putObj (w.heap.size + 1) o) := fun W2 o hk =>
        (((Keep.of_below' hB1 (fun k => C k ∨ k = w.heap.size + 1)).trans hk).trans (Keep.putObj _ _ _ (.inr rfl))).mono (fun k hk h => by
          rcases h with h | h
          · exact h
          · omega)
      rintro e W2 ⟨⟨v, rfl⟩, hm, hkw, (⟨hi, hz, hl, hd⟩ | ⟨q, hq0, hqp, cd, hi, hl, hd⟩)⟩
      · have hm5 := fun o => hM _ _ hm (hpk W2 o)
        exact ⟨none, _, by have := run_endLoop (P := P) hl (by rw [hrec]; simp); rw [hrec] at this; exact this, hdone _ _ (Nat.le_refl _) (hI _ _ _ hi (Keep.putObj _ _ _ (.inr rfl)) (hm5 _)) (hm5 _) (hkk W2 _ hkw) ((World.putObj_heap_other (by omega)).trans hd)⟩
      · exact ⟨some cd, _, by have := run_endLoop (P := P) hl (by rw [hrec]; simp); rw [hrec] at this; exact this, hstop _ cd q _ (Nat.le_refl _) hq0 hqp (hIx _ _ _ _ hi (hpx W2 _)) (hM _ _ hm (hpk W2 _)) (hkk W2 _ hkw) ((World.putObj_heap_other (by omega)).trans hd)⟩
section
variable {P : Program} {ops : Array Oper} {Q : Exit → Act → World → Prop} {md : Region.Mode} {l : Nat}
def noDefer (ops : Array Oper) : Bool := ops.all fun o => match o.op with | .defer _ => false | _ => true
theorem noDefer_at (h : noDefer ops = true) {i : Nat} {o : Oper} (ho : ops[i]? = some o) (c : Call) : o.op ≠ .defer c := fun e => by
  obtain ⟨hi, he⟩ := Array.getElem?_eq_some_iff.1 ho
  have := Array.all_eq_true.1 h i hi
  rw [he, e] at this
  cases this
theorem rows_round {row : String} {args : Array Value} {w : World} {R : Value → World → Prop} (h : Rows P row args w R) : RowsIn (Fence.wide.inRound l) 0 P row args w R := fun c cs _ => by
  obtain ⟨v, w', r, s⟩ := h c cs
  exact ⟨v, w', r, stepsIn_wide.2 s⟩
theorem wpIn_round_of {o : Oper} {a : Act} {w : World} {K K' : Act → World → Prop} (ho : ∀ c, o.op ≠ .defer c) (hQ : ¬ LetsOut Q) (hK : ∀ a w, K a w → K' a w) (h : o.wp P a w K Q) : o.wpIn (Fence.wide.inRound l) 0 P a w K' Q := by
  refine ⟨fun _ _ => trivial, ?_⟩
  rw [Fence.inRound_round, Oper.semAt_eq _ _ _ ho]
  unfold Oper.wp at h
  generalize (execOp a.eval o).run P w = r at *
  cases r with
  | ok n w' =>
    cases n <;> simp only [Oper.upon, Oper.uponIn] at h ⊢ <;>
      first
        | exact hK _ _ h
        | exact ⟨fun h => by simp [Fence.inRound, Fence.wide] at h, CallsIn.inRound l (callsIn_wide.2 (h.mono (fun e w'' he => by cases e <;> first | exact hK _ _ he | exact he)))⟩
        | exact ⟨fun h => by simp [Fence.inRound, Fence.wide] at h, rows_round (h.mono (fun _ _ he => hK _ _ he))⟩
        | exact h.elim
  | halt x w' => cases x <;> simp only [Oper.upon, Oper.uponIn] at h ⊢ <;> exact h
theorem wpAnyIn_of_any (hd : noDefer ops = true) (hQ : ¬ LetsOut Q) : ∀ (fuel : Nat) (listed : Array Bool) (a : Act) (w : World), wpAny P md ops Q fuel listed a w → wpAnyIn (Fence.wide.inRound l) 0 P md ops Q fuel listed a w
  | 0, _, _, _, h => h
  | fuel + 1, listed, a, w, h => by
    refine ⟨h.1, fun i hi => ?_⟩
    have h2 := h.2 i hi
    unfold wpOp at h2
    unfold wpOpIn
    cases ho : ops[i]? with
    | none => simp only [ho] at h2 ⊢; exact wpAnyIn_of_any hd hQ fuel _ _ _ h2
    | some o =>
      simp only [ho] at h2 ⊢
      split
      · rename_i hw
        simp only [hw, if_true] at h2
        rcases h2 with h2 | h2
        · exact wpIn_round_of (noDefer_at hd ho) hQ (fun a w => wpAnyIn_of_any hd hQ fuel _ a w) h2
        · exact absurd h2.2 hQ
      · rename_i hw
        simp only [hw] at h2
        exact ⟨fun _ _ => trivial, wpAnyIn_of_any hd hQ fuel _ _ _ h2⟩
/-- **A drawn region in a round: by the walk that holds S.** -/
theorem wpIn_round_held {id : Nat} {a : Act} {w : World} {S : World → Prop} (hm : P.follows .mixedOrders = true) (hd : noDefer ops = true) (hQ : ¬ LetsOut Q) (hS : S w.drew)
    (h : S w.drew → wpAnyH P .any ops Q S ops.size (Array.replicate ops.size false) a w.drew) : (Code.region id ops true).wpIn (Fence.wide.inRound l) 0 P Q a w :=
  wpIn_region_any hm (wpAnyIn_of_any hd hQ _ _ _ _ (wpAny_of_held _ _ _ _ (h hS)))
end
/-- The marks that ranges over functions leave among a frame's deferred calls. -/
def MarksOk (B : Nat) : List Deferred → World → Prop
  | [], _ => True
  | d :: ds, w => (∃ D, B ≤ D ∧ d = { target := .collected D, args := #[] } ∧ w.heap[D]? = some (.deferred (some [])) ∧ ∀ d' ∈ ds, d' ≠ d) ∧ MarksOk B ds w
theorem MarksOk.put {B D : Nat} {o : Obj} {w : World} : ∀ {ds : List Deferred}, MarksOk B ds w → (∀ d ∈ ds, d ≠ { target := .collected D, args := #[] }) → MarksOk B ds (w.putObj D o)
  | [], _, _ => trivial
  | d :: ds, ⟨⟨D', h1, h2, h3, h4⟩, h5⟩, hn => by
    have hne : D' ≠ D := fun e => hn d (by simp) (by rw [h2, e])
    exact ⟨⟨D', h1, h2, (World.putObj_heap_other hne).trans h3, h4⟩, h5.put (fun d hd => hn d (by simp [hd]))⟩
theorem MarksOk.keep {B : Nat} {S : Nat → Prop} {w w' : World} (hk : Keep S w w') (hS : ∀ k, S k → k < B) : ∀ {ds : List Deferred}, MarksOk B ds w → MarksOk B ds w'
  | [], _ => trivial
  | d :: ds, ⟨⟨D, h1, h2, h3, h4⟩, h5⟩ => ⟨⟨D, h1, h2, (hk.block D (Array.getElem?_eq_some_iff.1 h3).1 (fun hs => by have := hS D hs; omega)).trans h3, h4⟩, h5.keep hk hS⟩
theorem MarksOk.lt {B : Nat} {w : World} : ∀ {ds : List Deferred} {D : Nat}, MarksOk B ds w → ({ target := .collected D, args := #[] } : Deferred) ∈ ds → D < w.heap.size
  | d :: ds, D, ⟨⟨D', h1, h2, h3, h4⟩, h5⟩, hm => by
    rcases List.mem_cons.1 hm with e | hm
    · rw [h2] at e
      have e' : D = D' := by injection e with e1 e2; injection e1
      rw [e']; exact (Array.getElem?_eq_some_iff.1 h3).1
    · exact h5.lt hm
theorem MarksOk.is {B : Nat} {w : World} : ∀ {ds : List Deferred} {d : Deferred}, MarksOk B ds w → d ∈ ds → ∃ D, d = { target := .collected D, args := #[] }
  | d' :: ds, d, ⟨⟨D', h1, h2, h3, h4⟩, h5⟩, hm => by
    rcases List.mem_cons.1 hm with e | hm
    · exact ⟨D', e.trans h2⟩
    · exact h5.is hm
theorem MarksOk.cons {B D : Nat} {ds : List Deferred} {w w' : World} (h : MarksOk B ds w) (hk : MarksOk B ds w') (hD : w.heap.size ≤ D) (hB : B ≤ D) (hd : w'.heap[D]? = some (.deferred (some []))) : MarksOk B ({ target := .collected D, args := #[] } :: ds) w' :=
  ⟨⟨D, hB, rfl, hd, fun d' hd' e => by have := h.lt (e ▸ hd'); omega⟩, hk⟩
theorem leaves_marks {P : Program} {fn : Func} {tmps : Array Value} {R : Ending → World → Prop} {B : Nat} : ∀ {ds : List Deferred} {w : World}, MarksOk B ds w →
    (∀ w', Keep (fun k => B ≤ k) w w' → ∃ v, (results fn tmps).run P w' = .ok v w' ∧ R (.returned v) w') → LeavesInM Fence.wide 0 P fn tmps R ds .returning w
  | [], w, _, h => h w (Keep.refl _ _)
  | d :: ds, w, ⟨⟨D, h1, h2, h3, h4⟩, h5⟩, h => by
    refine ⟨by simp, .inl ⟨D, _, by rw [h2], run_takeDeferred h3, ?_⟩⟩
    exact leaves_marks (h5.put (fun d hd e => h4 d hd (e.trans h2.symm))) (fun w' hk => h w' ((Keep.putObj D _ _ h1).trans hk))

end Go.Proofs.Ytllmahcanipcpaa
