/- A range over a function whose iterator keeps state in cells of its own and may turn some old blocks: the statement's law, out of the iterator's contract and one walk of the body. -/
import Derived.Test.YtbkknliggnhpcaaGE
import Derived.RangeFuncNested
import Derived.RangeFuncBound
import Derived.RangeFuncCalls
import Derived.RangeFuncLeaves
import Derived.OwnWalkIn
import Derived.TacticsInMore
import Derived.OrdersIn
import Derived.Deep.RegionHeld3
import Derived.Laws.EntriesVeiled
set_option linter.unusedVariables false
set_option linter.unusedSimpArgs false
namespace Go.Proofs.Ytbkknliggnhpcaa
open Go.RowKit

theorem Keep.putObj {W : World} (l : Nat) (o : Obj) (S : Nat → Prop) (h : S l) : Keep S W (W.putObj l o) :=
  ⟨rfl, rfl, rfl, by simp, fun k _ hk => World.putObj_heap_other (fun e => hk (e ▸ h))⟩

/-- How the body of a round is left. -/
def RPost {α : Type} (C : Nat → Prop) (M : World → Prop) (I : List α → World → Prop) (Ix : Code → List α → World → Prop) (xs : List α) (W : World) : Exit → Act → World → Prop
  | .normal, _, W' => Keep C W W' ∧ M W' ∧ I xs W'
  | .ret, _, W' => Keep C W W' ∧ M W' ∧ Ix .ret xs W'
  | .exit id, _, W' => Keep C W W' ∧ M W' ∧ Ix (.exit id) xs W'
  | .goto t, _, W' => Keep C W W' ∧ M W' ∧ Ix (.goto t) xs W'
  | .panic _, _, _ => False
  | .outgrown, _, _ => False

/-- What an iterator promises, when it is called in a world grown out of w: all of T comes, in order, or a round says 'no more'. -/
def IterOk {α : Type} (P : Program) (gf : Nat) (lb : Array Value) (enc : α → Value) (C Sb : Nat → Prop) (M : World → Prop) (T : List α) (w : World) : Prop :=
  ∀ (l : Nat) (C' : Nat → Prop) (J Jx : List α → World → Prop) (W : World), Below w.heap.size w W → w.heap.size ≤ l → l < W.heap.size → (∀ k, C' k → C k ∨ k = l) →
    (∀ pre V V', J pre V → Keep (fun k => Sb k ∨ W.heap.size ≤ k) V V' → M V' → J pre V') →
    (∀ pre x W1, x ∈ T → J pre W1 → M W1 → YieldAt Fence.wide 0 P l #[enc x] W1 fun e W' =>
      Keep C' W1 W' ∧ M W' ∧ ((e = .returned (.bool true) ∧ J (pre ++ [x]) W') ∨ (e = .returned (.bool false) ∧ Jx (pre ++ [x]) W'))) →
    M W → J [] W →
    Calls P gf (#[.func (.yield l) #[] #[]] ++ lb) W fun e W' => (∃ v, e = .returned v) ∧ M W' ∧ Keep (fun k => Sb k ∨ C' k) W W' ∧ (J T W' ∨ ∃ q, q ≠ [] ∧ q <+: T ∧ Jx q W')

theorem wpIn_one {F : Fence} {n : Nat} {P : Program} {cd : Code} {Q : Exit → Act → World → Prop} {a a0 : Act} {w w0 : World} (h : cd.wpIn F n P (fun e a v => e = .normal ∧ a = a0 ∧ v = w0) a w) (hq : Q .normal a0 w0) : cd.wpIn F n P Q a w :=
  wpIn_mono h fun _ _ _ ⟨h1, h2, h3⟩ => by rw [h1, h2, h3]; exact hq

theorem wp_range {α : Type} {P : Program} {g : Operand} {ps : Array Tmp} {assign body : Code} {Q : Exit → Act → World → Prop} {a : Act} {w : World} {gf : Nat} {lb : Array Value} {enc : α → Value} {C Sb : Nat → Prop} {M : World → Prop} {T : List α}
    (hg : a.eval g = .func (.func gf) #[] lb) (eg : ∀ args w, (callFunc gf args).run P w = .ok (.enter gf args) w) (hps : ps.size = 1) (hit : IterOk P gf lb enc C Sb M T w)
    (hC : ∀ k, C k → k < w.heap.size) (hSb : ∀ k, Sb k → k < w.heap.size) (hM : ∀ V V', M V → Keep (fun k => w.heap.size ≤ k) V V' → M V')
    (I : List α → World → Prop) (Ix : Code → List α → World → Prop) (hI : ∀ pre V V', I pre V → Keep (fun k => Sb k ∨ w.heap.size ≤ k) V V' → M V' → I pre V') (hIx : ∀ cd pre V V', Ix cd pre V → Keep (fun k => w.heap.size ≤ k) V V' → Ix cd pre V')
    (hM0 : M w) (h0 : I [] w)
    (hbody : ∀ l pre x W1, w.heap.size ≤ l → x ∈ T → I pre W1 → M W1 → l < W1.heap.size →
      assign.wpIn (Fence.wide.inRound l) 0 P (Exit.then (fun a₁ W2 => Keep C W1 W2 ∧ M W2 ∧ ∀ W3, Keep (fun k => k = l) W2 W3 → body.wpIn (Fence.wide.inRound l) 0 P (RPost C M I Ix (pre ++ [x]) W3) a₁ W3) (fun _ _ _ => False))
        { tmps := (ps.zip #[enc x]).foldl (fun t (p, v) => t.setIfInBounds p v) a.tmps, defers := [] } W1)
    (hdone : ∀ D W', w.heap.size ≤ D → I T W' → M W' → Keep (fun k => Sb k ∨ C k) w W' → W'.heap[D]? = some (.deferred (some [])) → Q .normal { a with defers := { target := .collected D, args := #[] } :: a.defers } W')
    (hstop : ∀ D cd q W', w.heap.size ≤ D → q ≠ [] → q <+: T → Ix cd q W' → M W' → Keep (fun k => Sb k ∨ C k) w W' → W'.heap[D]? = some (.deferred (some [])) → cd.wpIn Fence.wide 0 P Q { a with defers := { target := .collected D, args := #[] } :: a.defers } W') :
    (Code.rangeFunc g ps assign body).wp P Q a w := by
  refine (wpIn_wide (n := 0)).1 (wpIn_rangeFunc ?_)
  intro fn hfn
  obtain ⟨rec, hrec⟩ : ∃ rec : LoopState → Option Code → Loop, rec = fun st pe => { state := st, pending := pe, fn, tmps := a.tmps, params := ps, assign, body, defers := w.heap.size } := ⟨_, rfl⟩
  obtain ⟨W1, hW1⟩ : ∃ W1, (w.alloc (.deferred (some []))).alloc (.loop (rec .ready none)) = W1 := ⟨_, rfl⟩
  have hL1 : W1.heap[w.heap.size + 1]? = some (.loop (rec .ready none)) := by
    rw [← hW1]; have := World.alloc_heap_new (w.alloc (.deferred (some []))) (.loop (rec .ready none)); rwa [World.size_alloc] at this
  have hK1 : W1.heap[w.heap.size]? = some (.deferred (some [])) := by
    rw [← hW1]; exact (Below.heap_alloc _ _ _ (by simp)).trans (World.alloc_heap_new w _)
  have hB1 : Below w.heap.size w W1 := by
    rw [← hW1]; exact (((Below.refl _ w).alloc (Nat.le_refl _) _).alloc (by simp) _)
  have hz1 : W1.heap.size = w.heap.size + 1 + 1 := by rw [← hW1]; simp
  have hM1 : M W1 := hM w W1 hM0 (Keep.of_below' hB1 _)
  have hI1 : I [] W1 := hI [] w W1 h0 (Keep.of_below' hB1 _) hM1
  refine ⟨w.heap.size + 1, [{ target := .collected w.heap.size, args := #[] }], W1, { target := .fn (.func gf) lb, args := #[.func (.yield (w.heap.size + 1)) #[] #[]] }, W1, gf,
    #[.func (.yield (w.heap.size + 1)) #[] #[]] ++ lb, W1, ?_, ?_, fun _ _ => trivial, ?_, (fun h => by cases h), ?_⟩
  · rw [← hW1, hrec]; exact run_enterLoop_outer _ _ _ _ _
  · simp only [resolve, hg]
    simp [go_sem]
  · simp [invoke, go_sem, eg]
  · refine callsIn_wide.2 ((hit (w.heap.size + 1) (fun k => C k ∨ k = w.heap.size + 1)
      (fun pre W => I pre W ∧ w.heap.size ≤ W.heap.size ∧ W.heap[w.heap.size + 1]? = some (.loop (rec .ready none)) ∧ W.heap[w.heap.size]? = some (.deferred (some [])))
      (fun pre W => ∃ cd, Ix cd pre W ∧ W.heap[w.heap.size + 1]? = some (.loop (rec .done (some cd))) ∧ W.heap[w.heap.size]? = some (.deferred (some [])))
      W1 hB1 (by omega) (by omega) (fun _ h => h) ?_ ?_ hM1 ⟨hI1, by omega, hL1, hK1⟩).mono ?_)
    · rintro pre V V' ⟨h1, hz, h2, h3⟩ hk hm
      have hlt2 := (Array.getElem?_eq_some_iff.1 h2).1
      have hlt3 := (Array.getElem?_eq_some_iff.1 h3).1
      have hn2 : ¬ (Sb (w.heap.size + 1) ∨ W1.heap.size ≤ w.heap.size + 1) := by
        rintro (h | h)
        · have := hSb _ h; omega
        · omega
      have hn3 : ¬ (Sb w.heap.size ∨ W1.heap.size ≤ w.heap.size) := by
        rintro (h | h)
        · have := hSb _ h; omega
        · omega
      exact ⟨hI pre V V' h1 (hk.mono (fun k _ h => h.imp id (fun h => by omega))) hm, Nat.le_trans hz hk.size, (hk.block _ hlt2 hn2).trans h2, (hk.block _ hlt3 hn3).trans h3⟩
    · -- ONE ROUND
      rintro pre x W hx ⟨hi, hz, hl, hk⟩ hm
      have hlt : w.heap.size + 1 < W.heap.size := (Array.getElem?_eq_some_iff.1 hl).1
      have hy := run_yield (P := P) (args := #[enc x]) hl (by rw [hrec]; simp [hps])
      rw [hrec] at hy
      refine ⟨fn, _, assign, body, hy, roundIn_of_wpIn hfn (wpIn_mono (hbody (w.heap.size + 1) pre x W (by omega) hx hi hm hlt) ?_)⟩
      clear hy
      intro e a₁ W2 h2
      cases e with
      | normal =>
        obtain ⟨hk2, hm2, hb2⟩ := h2
        have hnl : ¬ C (w.heap.size + 1) := fun h => by have := hC _ h; omega
        have hnd : ¬ C w.heap.size := fun h => by have := hC _ h; omega
        have hl2 := (hk2.block _ hlt hnl).trans hl
        have hd2 := (hk2.block _ (by omega) hnd).trans hk
        have hlt2 : w.heap.size + 1 < W2.heap.size := (Array.getElem?_eq_some_iff.1 hl2).1
        refine ⟨_, run_beginRound hl2 (by rw [hrec]), ?_⟩
        have hkb : Keep (fun k => k = w.heap.size + 1) W2 (W2.putObj (w.heap.size + 1) (.loop { rec .ready none with state := .busy })) := Keep.putObj _ _ _ rfl
        have hl3 : (W2.putObj (w.heap.size + 1) (.loop { rec .ready none with state := .busy })).heap[w.heap.size + 1]? = some (.loop { rec .ready none with state := .busy }) := World.putObj_heap_same hlt2
        have hd3 : (W2.putObj (w.heap.size + 1) (.loop { rec .ready none with state := .busy })).heap[w.heap.size]? = some (.deferred (some [])) := (World.putObj_heap_other (by omega)).trans hd2
        have hz3 : w.heap.size + 1 < (W2.putObj (w.heap.size + 1) (.loop { rec .ready none with state := .busy })).heap.size := (Array.getElem?_eq_some_iff.1 hl3).1
        have hbd := hb2 _ hkb
        generalize (W2.putObj (w.heap.size + 1) (.loop { rec .ready none with state := .busy })) = W3 at *
        have hall : Keep (fun k => C k ∨ k = w.heap.size + 1) W W3 := (hk2.mono (fun k _ h => .inl h)).trans (hkb.mono (fun k _ h => .inr h))
        refine wpIn_mono hbd ?_
        have fin : ∀ (jump : Option Code) (W4 : World), Keep C W3 W4 →
            (Instr.endRound (w.heap.size + 1) jump).run P W4 = .ok (.bool jump.isNone) (W4.putObj (w.heap.size + 1) (.loop (rec (if jump.isNone then .ready else .done) jump))) ∧
            (W4.putObj (w.heap.size + 1) (.loop (rec (if jump.isNone then .ready else .done) jump))).heap[w.heap.size + 1]? = some (.loop (rec (if jump.isNone then .ready else .done) jump)) ∧
            (W4.putObj (w.heap.size + 1) (.loop (rec (if jump.isNone then .ready else .done) jump))).heap[w.heap.size]? = some (.deferred (some [])) ∧
            Keep (fun k => C k ∨ k = w.heap.size + 1) W (W4.putObj (w.heap.size + 1) (.loop (rec (if jump.isNone then .ready else .done) jump))) := fun jump W4 hk4 => by
          have hl4 := (hk4.block _ hz3 hnl).trans hl3
          have hd4 := (hk4.block _ (by omega) hnd).trans hd3
          have hr := run_endRound (P := P) jump hl4
          have hr' : (Instr.endRound (w.heap.size + 1) jump).run P W4 = .ok (.bool jump.isNone) (W4.putObj (w.heap.size + 1) (.loop (rec (if jump.isNone then .ready else .done) jump))) := by rw [hr, hrec]
          exact ⟨hr', World.putObj_heap_same (Array.getElem?_eq_some_iff.1 hl4).1, (World.putObj_heap_other (by omega)).trans hd4, hall.trans ((hk4.mono (fun k _ h => .inl h)).trans (Keep.putObj _ _ _ (.inr rfl)))⟩
        have hpk : ∀ (W4 : World) (o : Obj), Keep (fun k => w.heap.size ≤ k) W4 (W4.putObj (w.heap.size + 1) o) := fun W4 o => Keep.putObj _ _ _ (by omega)
        rintro e a3 W4 hp
        cases e with
        | normal =>
          obtain ⟨hk4, hm4, hi4⟩ := hp
          obtain ⟨hr, hl5, hd5, hk5⟩ := fin none W4 hk4
          have hm5 := hM _ _ hm4 (hpk W4 (.loop (rec .ready none)))
          exact ⟨_, _, hr, hk5, hm5, .inl ⟨rfl, hI _ _ _ hi4 ((hpk W4 _).mono (fun k _ h => .inr h)) hm5, by have := hk5.size; omega, hl5, hd5⟩⟩
        | ret =>
          obtain ⟨hk4, hm4, hi4⟩ := hp
          obtain ⟨hr, hl5, hd5, hk5⟩ := fin (some .ret) W4 hk4
          exact ⟨_, _, hr, hk5, hM _ _ hm4 (hpk W4 _), .inr ⟨rfl, .ret, hIx _ _ _ _ hi4 (hpk W4 _), hl5, hd5⟩⟩
        | exit id =>
          obtain ⟨hk4, hm4, hi4⟩ := hp
          obtain ⟨hr, hl5, hd5, hk5⟩ := fin (some (.exit id)) W4 hk4
          exact ⟨_, _, hr, hk5, hM _ _ hm4 (hpk W4 _), .inr ⟨rfl, .exit id, hIx _ _ _ _ hi4 (hpk W4 _), hl5, hd5⟩⟩
        | goto t =>
          obtain ⟨hk4, hm4, hi4⟩ := hp
          obtain ⟨hr, hl5, hd5, hk5⟩ := fin (some (.goto t)) W4 hk4
          exact ⟨_, _, hr, hk5, hM _ _ hm4 (hpk W4 _), .inr ⟨rfl, .goto t, hIx _ _ _ _ hi4 (hpk W4 _), hl5, hd5⟩⟩
        | panic ch => exact hp.elim
        | outgrown => exact hp.elim
      | ret => exact h2.elim
      | exit id => exact h2.elim
      | goto t => exact h2.elim
      | panic ch => exact h2.elim
      | outgrown => exact h2.elim
    · -- BEHIND THE ITERATOR
      have hpk : ∀ (W4 : World) (o : Obj), Keep (fun k => w.heap.size ≤ k) W4 (W4.putObj (w.heap.size + 1) o) := fun W4 o => Keep.putObj _ _ _ (by omega)
      have hkk : ∀ (W2 : World) (o : Obj), Keep (fun k => Sb k ∨ (C k ∨ k = w.heap.size + 1)) W1 W2 → Keep (fun k => Sb k ∨ C k) w (W2.putObj (w.heap.size + 1) o) := fun W2 o hk =>
        (((Keep.of_below' hB1 (fun k => Sb k ∨ (C k ∨ k = w.heap.size + 1))).trans hk).trans (Keep.putObj _ _ _ (.inr (.inr rfl)))).mono (fun k hk h => by
          rcases h with h | h | h
          · exact .inl h
          · exact .inr h
          · omega)
      rintro e W2 ⟨⟨v, rfl⟩, hm, hkw, (⟨hi, hz, hl, hd⟩ | ⟨q, hq0, hqp, cd, hi, hl, hd⟩)⟩
      · have hm5 := fun o => hM _ _ hm (hpk W2 o)
        exact ⟨none, _, by have := run_endLoop (P := P) hl (by rw [hrec]; simp); rw [hrec] at this; exact this, hdone _ _ (Nat.le_refl _) (hI _ _ _ hi ((hpk W2 _).mono (fun k _ h => .inr h)) (hm5 _)) (hm5 _) (hkk W2 _ hkw) ((World.putObj_heap_other (by omega)).trans hd)⟩
      · exact ⟨some cd, _, by have := run_endLoop (P := P) hl (by rw [hrec]; simp); rw [hrec] at this; exact this, hstop _ cd q _ (Nat.le_refl _) hq0 hqp (hIx _ _ _ _ hi (hpk W2 _)) (hM _ _ hm (hpk W2 _)) (hkk W2 _ hkw) ((World.putObj_heap_other (by omega)).trans hd)⟩
end Go.Proofs.Ytbkknliggnhpcaa
/- Contracts of turn's truths and some; how a function leaves that has ranged over functions. -/
namespace Go.Proofs.Ytbkknliggnhpcaa
open Go.RowKit
attribute [local go_sem ↓] Go.wp_at_zero Go.wp_at_succ

/-- The marks that ranges over functions leave among a frame's deferred calls. -/
def MarksOk (B : Nat) : List Deferred → World → Prop
  | [], _ => True
  | d :: ds, w => (∃ D, B ≤ D ∧ d = { target := .collected D, args := #[] } ∧ w.heap[D]? = some (.deferred (some [])) ∧ ∀ d' ∈ ds, d' ≠ d) ∧ MarksOk B ds w
theorem MarksOk.put {B D : Nat} {o : Obj} {w : World} : ∀ {ds : List Deferred}, MarksOk B ds w → (∀ d ∈ ds, d ≠ { target := .collected D, args := #[] }) → MarksOk B ds (w.putObj D o)
  | [], _, _ => trivial
  | d :: ds, ⟨⟨D', h1, h2, h3, h4⟩, h5⟩, hn => by
    have hne : D' ≠ D := fun e => hn d (by simp) (by rw [h2, e])
    exact ⟨⟨D', h1, h2, (World.putObj_heap_other hne).trans h3, h4⟩, h5.put (fun d hd => hn d (by simp [hd]))⟩
theorem MarksOk.keep {B : Nat} {S : Nat → Prop} {w w' : World} (hk : Keep S w w') (hS : ∀ k, S k → k < B) : ∀ {ds : List Deferred}, MarksOk B ds w → MarksOk B ds w'
  | [], _ => trivial
  | d :: ds, ⟨⟨D, h1, h2, h3, h4⟩, h5⟩ => ⟨⟨D, h1, h2, (hk.block D (Array.getElem?_eq_some_iff.1 h3).1 (fun hs => by have := hS D hs; omega)).trans h3, h4⟩, h5.keep hk hS⟩
theorem MarksOk.lt {B : Nat} {w : World} : ∀ {ds : List Deferred} {D : Nat}, MarksOk B ds w → ({ target := .collected D, args := #[] } : Deferred) ∈ ds → D < w.heap.size
  | d :: ds, D, ⟨⟨D', h1, h2, h3, h4⟩, h5⟩, hm => by
    rcases List.mem_cons.1 hm with e | hm
    · rw [h2] at e
      have e' : D = D' := by injection e with e1 e2; injection e1
      rw [e']; exact (Array.getElem?_eq_some_iff.1 h3).1
    · exact h5.lt hm
theorem MarksOk.is {B : Nat} {w : World} : ∀ {ds : List Deferred} {d : Deferred}, MarksOk B ds w → d ∈ ds → ∃ D, d = { target := .collected D, args := #[] }
  | d' :: ds, d, ⟨⟨D', h1, h2, h3, h4⟩, h5⟩, hm => by
    rcases List.mem_cons.1 hm with e | hm
    · exact ⟨D', e.trans h2⟩
    · exact h5.is hm
theorem MarksOk.cons {B D : Nat} {ds : List Deferred} {w w' : World} (h : MarksOk B ds w) (hk : MarksOk B ds w') (hD : w.heap.size ≤ D) (hB : B ≤ D) (hd : w'.heap[D]? = some (.deferred (some []))) : MarksOk B ({ target := .collected D, args := #[] } :: ds) w' :=
  ⟨⟨D, hB, rfl, hd, fun d' hd' e => by have := h.lt (e ▸ hd'); omega⟩, hk⟩
theorem leaves_marks {P : Program} {fn : Func} {tmps : Array Value} {R : Ending → World → Prop} {B : Nat} : ∀ {ds : List Deferred} {w : World}, MarksOk B ds w →
    (∀ w', Keep (fun k => B ≤ k) w w' → ∃ v, (results fn tmps).run P w' = .ok v w' ∧ R (.returned v) w') → LeavesInM Fence.wide 0 P fn tmps R ds .returning w
  | [], w, _, h => h w (Keep.refl _ _)
  | d :: ds, w, ⟨⟨D, h1, h2, h3, h4⟩, h5⟩, h => by
    refine ⟨by simp, .inl ⟨D, _, by rw [h2], run_takeDeferred h3, ?_⟩⟩
    exact leaves_marks (h5.put (fun d hd e => h4 d hd (e.trans h2.symm))) (fun w' hk => h w' ((Keep.putObj D _ _ h1).trans hk))

set_option maxRecDepth 100000 in
theorem truths_any {w : World} {b : Nat} {hold : Nat} :
    Calls Try.prog 104 #[.pointer (some ⟨b, 0, none⟩), .int .i64 hold] w fun e w' => ∃ p1 ph, e = .returned (.func (.func 107) #[] #[.pointer (some ⟨p1, 0, none⟩), .pointer (some ⟨ph, 0, none⟩)]) ∧
      w.heap.size ≤ p1 ∧ w.heap.size ≤ ph ∧ p1 < w'.heap.size ∧ ph < w'.heap.size ∧ w'.cell? ⟨p1, 0, none⟩ = some (.pointer (some ⟨b, 0, none⟩)) ∧ w'.cell? ⟨ph, 0, none⟩ = some (.int .i64 hold) ∧ Below w.heap.size w w' := by
  go_enter Try.func104, Try.ntmps104
  go_wp2_with fail
  go_ret
  refine ⟨w.heap.size, w.heap.size + 1, rfl, by omega, by omega, by simp; omega, by simp, ?_, ?_, ((Below.refl _ _).alloc (Nat.le_refl _) _).alloc (by simp) _⟩
  · rw [World.cell?_alloc_past _ _ _ (by simp), World.cell?_alloc_at _ _ _ _ rfl]; rfl
  · rw [World.cell?_alloc_at _ _ _ _ (by simp)]; rfl

theorem truths_iter {C : Nat → Prop} {w : World} {L b bm p1 ph : Nat} {c : Cargo} {A1 A2 A3 A4 : Option Addr} {c1 c2 c3 c4 : Nat} {but hold : Nat}
    (hv : Valid c) (hbut : but < 32) (hh : hold < c.holds.length) (hC : ∀ k, C k → k = bm ∨ ((L ≤ k ∧ k ≠ b) ∧ k < w.heap.size ∧ k ≠ p1 ∧ k ≠ ph))
    (h : LookL w L b bm c A1 A2 A3 A4 c1 c2 c3 c4 but (timesV c)) (e1 : w.cell? ⟨p1, 0, none⟩ = some (.pointer (some ⟨b, 0, none⟩))) (eh : w.cell? ⟨ph, 0, none⟩ = some (.int .i64 hold)) :
    IterOk Try.prog 107 #[.pointer (some ⟨p1, 0, none⟩), .pointer (some ⟨ph, 0, none⟩)] stVal C (fun k => k = bm) (fun W => Known W bm (timesV c)) (truthsS c hold but) w := by
  intro l C' J Jx W hB hl hlW hC' hJ hY hM h0
  have z1 := cell_lt e1
  have zh := cell_lt eh
  have hsz := hB.size
  have hL : LookL W L b bm c A1 A2 A3 A4 c1 c2 c3 c4 but (timesV c) := h.keep' (Keep.of_below' hB (fun _ => False)) (fun _ h => h.elim)
  refine truths1_any (C := C') hv hbut hh (fun k hk => ?_) hJ (fun pre x W1 hx hj hl => hY pre x W1 hx hj hl.k) hL ((hB.cell (p := ⟨p1, 0, none⟩) z1).trans e1) ((hB.cell (p := ⟨ph, 0, none⟩) zh).trans eh) h0
  rcases hC' k hk with h1 | h1
  · rcases hC k h1 with h2 | h2
    · exact .inl h2
    · exact .inr ⟨h2.1, by omega, h2.2.2⟩
  · have := h.hL
    have := h.hb
    exact .inr ⟨⟨by omega, by omega⟩, by omega, by omega, by omega⟩
end Go.Proofs.Ytbkknliggnhpcaa
/- The contract of turn's some. -/
namespace Go.Proofs.Ytbkknliggnhpcaa
open Go.RowKit
attribute [local go_sem ↓] Go.wp_at_zero Go.wp_at_succ

def someToS (c : Cargo) (but j : Nat) : Bool := (List.range j).all fun hold => !(truthsS c hold but).isEmpty
def someS (c : Cargo) (but : Nat) : Bool := someToS c but c.holds.length
theorem someToS_succ (c : Cargo) (but j : Nat) : someToS c but (j + 1) = (someToS c but j && !(truthsS c j but).isEmpty) := by simp [someToS, List.range_succ]
theorem someToS_false {c : Cargo} {but j : Nat} (h : someToS c but j = false) (hj : j ≤ c.holds.length) : someS c but = false := by
  rw [someS, someToS, List.all_eq_false]
  rw [someToS, List.all_eq_false] at h
  obtain ⟨x, hx, h2⟩ := h
  exact ⟨x, by simp at hx ⊢; omega, h2⟩

set_option maxHeartbeats 4000000 in
set_option maxRecDepth 100000 in
theorem someT_any {w : World} {L b bm : Nat} {c : Cargo} {A1 A2 A3 A4 : Option Addr} {c1 c2 c3 c4 : Nat} {but : Nat} (h : LookL w L b bm c A1 A2 A3 A4 c1 c2 c3 c4 but (timesV c)) (hv : Valid c) (hbut : but < 32) :
    Calls Try.prog 97 #[.pointer (some ⟨b, 0, none⟩)] w fun e w' => e = .returned (.bool (someS c but)) ∧ Keep (fun k => k = bm) w w' ∧ Known w' bm (timesV c) := by
  have q2 := h.q2
  have hm2 := h.v.m2
  unfold maxLen at hm2
  have hh3 := hv.holds.2
  have HH := hide h
  have HV := hide hv
  clear h hv
  refine (callsIn_wide (n := 0)).1 (callsIn_of_wp_marks Try.func97 rfl trivial ?_ rfl)
  refine (wpIn_wide (n := 0)).2 ?_
  simp only [Try.ntmps97, List.size_toArray, List.length_cons, List.length_nil, Nat.reduceAdd, Nat.reduceSub, Array.replicate_succ, Array.replicate_zero, List.push_toArray, List.append_toArray, List.nil_append, List.cons_append]
  go_wp2_with fail
  go_step3
  go_wp2_with fail
  go_step3
  go_wp2_with fail
  refine wp_loop (fun a W => ∃ (k : Nat) (u3 u11 u12 u13 u14 u15 u16 u17 : Value) (ds : List Deferred), a = { tmps := #[.pointer (some ⟨b, 0, none⟩), undef, .bool false, u3, .pointer (some ⟨b, 0, none⟩), .pointer (some ⟨b, 0, none⟩), .pointer (some ⟨b, 0, none⟩), .pointer (some ⟨b, 2, none⟩), .slice A2 c.holds.length c2, .int .i64 (c.holds.length : Nat), .int .i64 k, u11, u12, u13, u14, u15, u16, u17], defers := ds } ∧
      k ≤ c.holds.length ∧ Hid (someToS c but k = true) ∧ MarksOk w.heap.size ds W ∧ Keep (fun k => k = bm) w W ∧ Known W bm (timesV c)) (fun a _ => c.holds.length - (intOf (a.tmps.getD 10 undef)).toNat) ?start ?round
  case start =>
    exact ⟨0, _, _, _, _, _, _, _, _, _, rfl, Nat.zero_le _, hide rfl, trivial, Keep.refl _ _, HH.out.k⟩
  case round =>
    rintro a W ⟨k, u3, u11, u12, u13, u14, u15, u16, u17, ds, rfl, hk, HSO, HMK, hkw, hkn⟩
    have hk0 : (0 : Int) ≤ (k : Int) := Int.natCast_nonneg _
    have hL := HH.out.keep hkw (fun k h => .inl h) hkn
    have HL := hide hL
    have HKW := hide hkw
    have HMK := hide HMK
    clear hL hkw hkn
    by_cases hlt : k < c.holds.length
    · have hk1 : (k : Int) < (c.holds.length : Int) := by omega
      go_wp2_with (refine truths_any.mono ?_; rintro e w1 ⟨p1, ph, rfl, hp1, hph, hp1', hph', e1, eh, hB1⟩)
      have hkW1 : Keep (fun _ => False) W w1 := Keep.of_below' hB1 _
      have hL1 := HL.out.keep' hkW1 (fun _ h => h.elim)
      have hbm : bm < w1.heap.size := hL1.k.lt
      have hLW := HL.out.hL
      have hwW := HKW.out.size
      have hSU := someToS_succ c but k
      rw [HSO.out] at hSU
      have HSU := hide hSU
      have HK1 := hide (HKW.out.trans (hkW1.mono (S' := fun k => k = bm) (fun _ _ h => h.elim)))
      have HM1 := hide (HMK.out.keep hkW1 (fun _ h => h.elim))
      clear hSU
      refine wp_range rfl (enters_of Try.func107 (by kernel_rfl) rfl) rfl (truths_iter (C := fun _ => False) HV.out hbut hlt (fun _ h => h.elim) hL1 e1 eh) (fun _ h => h.elim) (fun k h => by omega)
        (fun V V' h hk => h.keep hk (by omega)) (fun pre _ => pre = []) (fun cd _ _ => cd = .exit 1) (fun _ _ _ h _ _ => h) (fun _ _ _ _ h _ => h) hL1.k rfl ?body ?done ?stop
      case body =>
        intro l pre x W1 hl hx hi hm hz
        refine wpIn_skip ⟨Keep.refl _ _, hm, fun W3 hk3 => wpIn_block (wpIn_exit ?_)⟩
        exact ⟨Keep.refl _ _, hm.keep hk3 (by omega), rfl⟩
      case done =>
        intro D W' hD hT hm hk hd
        have hso : someS c but = false := someToS_false (j := k + 1) (by rw [HSU.out, hT]; rfl) (by omega)
        have HSS := hide hso
        have HMS := hide (HM1.out.cons (HM1.out.keep (B := w.heap.size) hk (fun q h => h.elim (fun h => by have := HH.out.k.lt; omega) False.elim)) hD (by omega) hd)
        have HKK := hide (HK1.out.trans (hk.mono (S' := fun k => k = bm) (fun q _ h => h.elim id False.elim)))
        have HKN := hide hm
        clear hso hk hT hd hm
        go_wp2_with fail
        rw [Exit.noGoto_ret]
        refine leaves_marks HMS.out (fun w' hkw' => ⟨_, results_tmp rfl _ _ _, ?_, ?_, ?_⟩)
        · rw [HSS.out]; rfl
        · exact HKK.out.trans' hkw' HKK.out.size
        · exact HKN.out.keep hkw' (by have := HH.out.k.lt; omega)
      case stop =>
        intro D cd q W' hD hq0 hqp hix hm hk hd
        subst hix
        have hne : (truthsS c k but).isEmpty = false := by
          obtain ⟨r, hr⟩ := hqp
          rw [← hr]
          cases q with
          | nil => exact absurd rfl hq0
          | cons a q => rfl
        have HX := hide (show someToS c but (k + 1) = true by rw [HSU.out, hne]; rfl)
        have HMS := hide (HM1.out.cons (HM1.out.keep (B := w.heap.size) hk (fun q h => h.elim (fun h => by have := HH.out.k.lt; omega) False.elim)) hD (by omega) hd)
        have HKK := hide (HK1.out.trans (hk.mono (S' := fun k => k = bm) (fun q _ h => h.elim id False.elim)))
        have HKN := hide hm
        clear hne hk hd hm hqp hq0
        refine wpIn_exit ?_
        go_wp2_with fail
        refine ⟨⟨k + 1, _, _, _, _, _, _, _, _, _, rfl, by omega, HX, HMS.out, HKK.out, HKN.out⟩, ?_⟩
        simp [intOf]; omega
    · have hso := HSO.out
      rw [show k = c.holds.length by omega] at hso
      have HSS := hide (show someS c but = true from hso)
      clear hso
      go_wp2_with fail
      rw [Exit.noGoto_ret]
      refine leaves_marks HMK.out (fun w' hkw' => ⟨_, results_tmp rfl _ _ _, ?_, ?_, ?_⟩)
      · rw [HSS.out]; rfl
      · exact HKW.out.trans' hkw' HKW.out.size
      · exact HL.out.k.keep hkw' (by have := HH.out.k.lt; omega)
end Go.Proofs.Ytbkknliggnhpcaa
/- A region that draws its order, walked in a round of a range over a function: out of the plain walk. -/
namespace Go.Proofs.Ytbkknliggnhpcaa
open Go.RowKit
section
variable {P : Program} {ops : Array Oper} {Q : Exit → Act → World → Prop} {md : Region.Mode} {l : Nat}
def noDefer (ops : Array Oper) : Bool := ops.all fun o => match o.op with | .defer _ => false | _ => true
theorem noDefer_at (h : noDefer ops = true) {i : Nat} {o : Oper} (ho : ops[i]? = some o) (c : Call) : o.op ≠ .defer c := fun e => by
  obtain ⟨hi, he⟩ := Array.getElem?_eq_some_iff.1 ho
  have := Array.all_eq_true.1 h i hi
  rw [he, e] at this
  cases this
theorem rows_round {row : String} {args : Array Value} {w : World} {R : Value → World → Prop} (h : Rows P row args w R) : RowsIn (Fence.wide.inRound l) 0 P row args w R := fun c cs _ => by
  obtain ⟨v, w', r, s⟩ := h c cs
  exact ⟨v, w', r, stepsIn_wide.2 s⟩
theorem wpIn_round_of {o : Oper} {a : Act} {w : World} {K K' : Act → World → Prop} (ho : ∀ c, o.op ≠ .defer c) (hQ : ¬ LetsOut Q) (hK : ∀ a w, K a w → K' a w) (h : o.wp P a w K Q) : o.wpIn (Fence.wide.inRound l) 0 P a w K' Q := by
  refine ⟨fun _ _ => trivial, ?_⟩
  rw [Fence.inRound_round, Oper.semAt_eq _ _ _ ho]
  unfold Oper.wp at h
  generalize (execOp a.eval o).run P w = r at *
  cases r with
  | ok n w' =>
    cases n <;> simp only [Oper.upon, Oper.uponIn] at h ⊢ <;>
      first
        | exact hK _ _ h
        | exact ⟨fun h => by simp [Fence.inRound, Fence.wide] at h, CallsIn.inRound l (callsIn_wide.2 (h.mono (fun e w'' he => by cases e <;> first | exact hK _ _ he | exact he)))⟩
        | exact ⟨fun h => by simp [Fence.inRound, Fence.wide] at h, rows_round (h.mono (fun _ _ he => hK _ _ he))⟩
        | exact h.elim
  | halt x w' => cases x <;> simp only [Oper.upon, Oper.uponIn] at h ⊢ <;> exact h
theorem wpAnyIn_of_any (hd : noDefer ops = true) (hQ : ¬ LetsOut Q) : ∀ (fuel : Nat) (listed : Array Bool) (a : Act) (w : World), wpAny P md ops Q fuel listed a w → wpAnyIn (Fence.wide.inRound l) 0 P md ops Q fuel listed a w
  | 0, _, _, _, h => h
  | fuel + 1, listed, a, w, h => by
    refine ⟨h.1, fun i hi => ?_⟩
    have h2 := h.2 i hi
    unfold wpOp at h2
    unfold wpOpIn
    cases ho : ops[i]? with
    | none => simp only [ho] at h2 ⊢; exact wpAnyIn_of_any hd hQ fuel _ _ _ h2
    | some o =>
      simp only [ho] at h2 ⊢
      split
      · rename_i hw
        simp only [hw, if_true] at h2
        rcases h2 with h2 | h2
        · exact wpIn_round_of (noDefer_at hd ho) hQ (fun a w => wpAnyIn_of_any hd hQ fuel _ a w) h2
        · exact absurd h2.2 hQ
      · rename_i hw
        simp only [hw] at h2
        exact ⟨fun _ _ => trivial, wpAnyIn_of_any hd hQ fuel _ _ _ h2⟩
/-- **A drawn region in a round: by the walk that holds S.** -/
theorem wpIn_round_held {id : Nat} {a : Act} {w : World} {S : World → Prop} (hm : P.follows .mixedOrders = true) (hd : noDefer ops = true) (hQ : ¬ LetsOut Q) (hS : S w.drew)
    (h : S w.drew → wpAnyH P .any ops Q S ops.size (Array.replicate ops.size false) a w.drew) : (Code.region id ops true).wpIn (Fence.wide.inRound l) 0 P Q a w :=
  wpIn_region_any hm (wpAnyIn_of_any hd hQ _ _ _ _ (wpAny_of_held _ _ _ _ (h hS)))
end
end Go.Proofs.Ytbkknliggnhpcaa
/- The contract of turn's ask: what is so in all truths, in none, or in some. -/
namespace Go.Proofs.Ytbkknliggnhpcaa
open Go.RowKit
attribute [local go_sem ↓] Go.wp_at_zero Go.wp_at_succ
attribute [local go_sem] Oper.semAt_some

def cntB (f : St → Bool) (l : List St) : Nat := (l.filter f).length
theorem cntB_snoc (f : St → Bool) (l : List St) (x : St) : cntB f (l ++ [x]) = cntB f l + if f x then 1 else 0 := by
  simp only [cntB, List.filter_append, List.length_append]
  cases h : f x <;> simp [List.filter_cons, h]
theorem wrap_wrap (a : Int) : wrap64 (wrap64 a + 1) = wrap64 (a + 1) := by unfold wrap64; omega
theorem OwnE.made1 (w : World) (e : TypeId) (a : Int) : OwnE e (w.alloc (.cells #[iv a] e)) w.heap.size w.heap.size 1 [a] := World.ownsRow_lit w #[iv a] 1 (Nat.le_refl _) (by simp [maxLen]) rfl
theorem nth1 {a : Int} : nth [a] 0 = a := rfl
theorem truthsS_len {c : Cargo} (hv : Valid c) {hold : Nat} (hh : hold < c.holds.length) {but : Nat} : (truthsS c hold but).length ≤ 1024 := by
  refine Nat.le_trans (List.length_filter_le _ _) ?_
  rw [statesS_map, List.length_map]; exact allM_len hv hh
/-- What a question may touch, and what its own memory says. -/
structure QOk (P : Program) (qF : Nat) (cap : Array Value) (ans : St → Bool) (Cq : Nat → Prop) (K : List St → World → Prop) (w : World) (L bm b : Nat) (c : Cargo) (A1 A2 A3 A4 : Option Addr) (c1 c2 c3 c4 : Nat) (but hold : Nat) : Prop where
  enter : ∀ args w, (callFunc qF args).run P w = .ok (.enter qF args) w
  cq : ∀ k, Cq k → k = bm ∨ ((L ≤ k ∧ k ≠ b) ∧ k < w.heap.size)
  keep : ∀ pre V V', K pre V → Keep (fun k => k = bm ∨ w.heap.size ≤ k) V V' → Known V' bm (timesV c) → K pre V'
  start : K [] w
  call : ∀ pre s W, s ∈ truthsS c hold but → LookL W L b bm c A1 A2 A3 A4 c1 c2 c3 c4 but (timesV c) → w.heap.size ≤ W.heap.size → K pre W →
    Calls P qF (#[stVal s, lotsVal (timesV c s)] ++ cap) W fun e W' => e = .returned (.bool (ans s)) ∧ Keep Cq W W' ∧ Known W' bm (timesV c) ∧ K (pre ++ [s]) W'

set_option maxHeartbeats 4000000 in
set_option maxRecDepth 100000 in
theorem ask_any {w : World} {L b bm : Nat} {c : Cargo} {A1 A2 A3 A4 : Option Addr} {c1 c2 c3 c4 : Nat} {but hold qF : Nat} {cap : Array Value} {ans : St → Bool} {Cq : Nat → Prop} {K : List St → World → Prop}
    (h : LookL w L b bm c A1 A2 A3 A4 c1 c2 c3 c4 but (timesV c)) (hv : Valid c) (hbut : but < 32) (hh : hold < c.holds.length) (hq : QOk Try.prog qF cap ans Cq K w L bm b c A1 A2 A3 A4 c1 c2 c3 c4 but hold) :
    Calls Try.prog 70 #[.pointer (some ⟨b, 0, none⟩), .int .i64 hold, .agg #[.func (.func qF) #[] cap]] w fun e w' => e = .returned (.int .i64 (settledM (cntB ans (truthsS c hold but)) (truthsS c hold but).length)) ∧
      Keep (fun k => k = bm ∨ Cq k) w w' ∧ Known w' bm (timesV c) ∧ K (truthsS c hold but) w' := by
  have HH := hide h
  have HV := hide hv
  have HQ := hide hq
  clear h hv hq
  refine (callsIn_wide (n := 0)).1 (callsIn_of_wp_marks Try.func70 rfl trivial ?_ rfl)
  refine (wpIn_wide (n := 0)).2 ?_
  simp only [Try.ntmps70, List.size_toArray, List.length_cons, List.length_nil, Nat.reduceAdd, Nat.reduceSub, Array.replicate_succ, Array.replicate_zero, List.push_toArray, List.append_toArray, List.nil_append, List.cons_append]
  go_wp2_with fail
  have hB0 : Below w.heap.size w ((((w.alloc (.cells #[.pointer (some ⟨b, 0, none⟩)] 100)).alloc (.cells #[.func (.func qF) #[] cap] 114)).alloc (.cells #[.int .i64 0] 3)).alloc (.cells #[.int .i64 0] 3)) := ((((Below.refl _ _).alloc (Nat.le_refl _) _).alloc (by simp) _).alloc (by simp; omega) _).alloc (by simp; omega) _
  have hz0 : ((((w.alloc (.cells #[.pointer (some ⟨b, 0, none⟩)] 100)).alloc (.cells #[.func (.func qF) #[] cap] 114)).alloc (.cells #[.int .i64 0] 3)).alloc (.cells #[.int .i64 0] 3)).heap.size = w.heap.size + 1 + 1 + 1 + 1 := by simp
  have a3 : ((((w.alloc (.cells #[.pointer (some ⟨b, 0, none⟩)] 100)).alloc (.cells #[.func (.func qF) #[] cap] 114)).alloc (.cells #[.int .i64 0] 3)).alloc (.cells #[.int .i64 0] 3)).cell? ⟨w.heap.size, 0, none⟩ = some (.pointer (some ⟨b, 0, none⟩)) := by
    rw [World.cell?_alloc_past _ _ _ (by simp; omega), World.cell?_alloc_past _ _ _ (by simp; omega), World.cell?_alloc_past _ _ _ (by simp), World.cell?_alloc_at _ _ _ _ rfl]; rfl
  have a5 : ((((w.alloc (.cells #[.pointer (some ⟨b, 0, none⟩)] 100)).alloc (.cells #[.func (.func qF) #[] cap] 114)).alloc (.cells #[.int .i64 0] 3)).alloc (.cells #[.int .i64 0] 3)).cell? ⟨w.heap.size + 1, 0, none⟩ = some (.func (.func qF) #[] cap) := by
    rw [World.cell?_alloc_past _ _ _ (by simp), World.cell?_alloc_past _ _ _ (by simp), World.cell?_alloc_at _ _ _ _ (by simp)]; rfl
  have a7 : OwnE 3 ((((w.alloc (.cells #[.pointer (some ⟨b, 0, none⟩)] 100)).alloc (.cells #[.func (.func qF) #[] cap] 114)).alloc (.cells #[.int .i64 0] 3)).alloc (.cells #[.int .i64 0] 3)) w.heap.size (w.heap.size + 1 + 1) 1 [0] := by
    have := (OwnE.made1 ((w.alloc (.cells #[.pointer (some ⟨b, 0, none⟩)] 100)).alloc (.cells #[.func (.func qF) #[] cap] 114)) 3 0).below ((Below.refl _ (((w.alloc (.cells #[.pointer (some ⟨b, 0, none⟩)] 100)).alloc (.cells #[.func (.func qF) #[] cap] 114)).alloc (.cells #[.int .i64 0] 3))).alloc (Nat.le_refl _) (.cells #[.int .i64 0] 3)) (by simp)
    have := this.base (base' := w.heap.size) (by simp; omega)
    simpa using this
  have a8 : OwnE 3 ((((w.alloc (.cells #[.pointer (some ⟨b, 0, none⟩)] 100)).alloc (.cells #[.func (.func qF) #[] cap] 114)).alloc (.cells #[.int .i64 0] 3)).alloc (.cells #[.int .i64 0] 3)) w.heap.size (w.heap.size + 1 + 1 + 1) 1 [0] := by
    have := (OwnE.made1 (((w.alloc (.cells #[.pointer (some ⟨b, 0, none⟩)] 100)).alloc (.cells #[.func (.func qF) #[] cap] 114)).alloc (.cells #[.int .i64 0] 3)) 3 0).base (base' := w.heap.size) (by simp; omega)
    simpa using this
  generalize ((((w.alloc (.cells #[.pointer (some ⟨b, 0, none⟩)] 100)).alloc (.cells #[.func (.func qF) #[] cap] 114)).alloc (.cells #[.int .i64 0] 3)).alloc (.cells #[.int .i64 0] 3)) = w0 at *
  refine truths_any.mono ?_
  rintro e w1 ⟨p1, ph, rfl, hp1, hph, hp1', hph', e1, eh, hB1⟩
  replace a3 := (hB1.cell (p := ⟨_, _, _⟩) (by show w.heap.size < _; omega)).trans a3
  replace a5 := (hB1.cell (p := ⟨_, _, _⟩) (by show w.heap.size + 1 < _; omega)).trans a5
  replace a7 := a7.below hB1 a7.lt.2
  replace a8 := a8.below hB1 a8.lt.2
  have hBw := hB0.trans (hB1.mono (by omega))
  have hL1 := HH.out.keep' (Keep.of_below' hBw (fun _ => False)) (fun _ h => h.elim)
  have hz1 := hB1.size
  have hLw := HH.out.hL
  have hbm := HH.out.hm
  have hbb := HH.out.hb
  have HBW := hide hBw
  have HL1 := hide hL1
  have HA3 := hide a3
  have HA5 := hide a5
  have HA7 := hide a7
  have HA8 := hide a8
  clear hBw hL1 a3 a5 a7 a8 hB0 hB1
  go_wp2_with fail
  refine wp_range rfl (enters_of Try.func107 (by kernel_rfl) rfl) rfl
    (truths_iter (C := fun k => k = w.heap.size + 1 + 1 ∨ k = w.heap.size + 1 + 1 + 1 ∨ (k = bm ∨ Cq k)) HV.out hbut hh (fun k hk => ?hC) HL1.out e1 eh)
    (fun k hk => ?hC2) (fun k h => by omega) (fun V V' h hk => h.keep hk (by omega))
    (fun pre W => LookL W L b bm c A1 A2 A3 A4 c1 c2 c3 c4 but (timesV c) ∧ W.cell? ⟨w.heap.size, 0, none⟩ = some (.pointer (some ⟨b, 0, none⟩)) ∧ W.cell? ⟨w.heap.size + 1, 0, none⟩ = some (.func (.func qF) #[] cap) ∧
      OwnE 3 W w.heap.size (w.heap.size + 1 + 1) 1 [wrap64 (cntB ans pre)] ∧ OwnE 3 W w.heap.size (w.heap.size + 1 + 1 + 1) 1 [wrap64 pre.length] ∧ w.heap.size ≤ W.heap.size ∧ K pre W)
    (fun _ _ _ => False) ?hI (fun _ _ _ _ h _ => h) HL1.out.k ?h0 ?body ?done (fun _ _ _ _ _ _ _ h _ _ _ => h.elim)
  case hC =>
    rcases hk with h | h | h | h
    · exact .inr ⟨⟨by omega, by omega⟩, by omega, by omega, by omega⟩
    · exact .inr ⟨⟨by omega, by omega⟩, by omega, by omega, by omega⟩
    · exact .inl h
    · rcases HQ.out.cq k h with h | h
      · exact .inl h
      · exact .inr ⟨h.1, by omega, by omega, by omega⟩
  case hC2 =>
    rcases hk with h | h | h | h
    · omega
    · omega
    · omega
    · rcases HQ.out.cq k h with h | h <;> omega
  case hI =>
    rintro pre V V' ⟨i1, i2, i3, i4, i5, i6, i7⟩ hk hm
    refine ⟨i1.keep hk (fun k h => h.imp id (fun h => by omega)) hm, (hk.cell (cell_lt i2) (by omega)).trans i2, (hk.cell (cell_lt i3) (by omega)).trans i3, i4.block (hk.block _ i4.lt.2 (by omega)), i5.block (hk.block _ i5.lt.2 (by omega)), by have := hk.size; omega,
      HQ.out.keep pre V V' i7 (hk.mono (fun k _ h => h.imp id (fun h => by omega))) hm⟩
  case h0 =>
    have e0 : wrap64 ((0 : Nat) : Int) = 0 := by unfold wrap64; omega
    exact ⟨HL1.out, HA3.out, HA5.out, by show OwnE _ _ _ _ 1 [wrap64 ((0 : Nat) : Int)]; rw [e0]; exact HA7.out, by show OwnE _ _ _ _ 1 [wrap64 ((0 : Nat) : Int)]; rw [e0]; exact HA8.out, by omega, HQ.out.keep [] w w1 HQ.out.start (Keep.of_below' HBW.out _) HL1.out.k⟩
  case body =>
    rintro l pre x W1 hl hx ⟨i1, i2, i3, i4, i5, i6, i7⟩ hm hlz
    simp only [stVal, iv]
    apply wpIn_one
    case h =>
      gi_wp2
      first | exact ⟨rfl, rfl, rfl⟩ | exact ⟨rfl, rfl⟩ | exact rfl
    case hq =>
    have hA : Below W1.heap.size W1 (W1.alloc (.cells #[.int .i64 x.hold, .int .i64 x.warm, .int .i64 (nth x.greens 0), .int .i64 (nth x.greens 1), .int .i64 (nth x.greens 2), .int .i64 (nth x.greens 3), .int .i64 (nth x.greens 4), .int .i64 x.there] 110)) := (Below.refl _ _).alloc (Nat.le_refl _) _
    have hx0 : OwnE 110 (W1.alloc (.cells #[.int .i64 x.hold, .int .i64 x.warm, .int .i64 (nth x.greens 0), .int .i64 (nth x.greens 1), .int .i64 (nth x.greens 2), .int .i64 (nth x.greens 3), .int .i64 (nth x.greens 4), .int .i64 x.there] 110)) W1.heap.size W1.heap.size 8 (stRow x) := OwnE.made8 W1 110 _ _ _ _ _ _ _ _
    have hkA : Keep (fun _ => False) W1 (W1.alloc (.cells #[.int .i64 x.hold, .int .i64 x.warm, .int .i64 (nth x.greens 0), .int .i64 (nth x.greens 1), .int .i64 (nth x.greens 2), .int .i64 (nth x.greens 3), .int .i64 (nth x.greens 4), .int .i64 x.there] 110)) := Keep.of_below' hA _
    generalize (W1.alloc (.cells #[.int .i64 x.hold, .int .i64 x.warm, .int .i64 (nth x.greens 0), .int .i64 (nth x.greens 1), .int .i64 (nth x.greens 2), .int .i64 (nth x.greens 3), .int .i64 (nth x.greens 4), .int .i64 x.there] 110)) = W2 at *
    have hmA : Known W2 bm (timesV c) := Known.keep (S := fun _ => False) hm hkA (fun h => h)
    refine ⟨hkA.mono (fun _ _ h => h.elim), hmA, fun W3 hk3 => ?_⟩
    have hz2 := hkA.size
    have hz3 := hk3.size
    have j1 := (i1.keep' hkA (fun _ h => h.elim)).keep' hk3 (fun k h => by omega)
    have j2 := (hk3.cell (b := w.heap.size) (o := 0) (by omega) (by omega)).trans ((hkA.cell (by omega) (fun h => h)).trans i2)
    have j3 := (hk3.cell (b := w.heap.size + 1) (o := 0) (by omega) (by omega)).trans ((hkA.cell (by omega) (fun h => h)).trans i3)
    have j4 := (i4.block (hkA.block _ i4.lt.2 (fun h => h))).block (hk3.block _ (Nat.lt_of_lt_of_le i4.lt.2 hkA.size) (by omega))
    have j5 := (i5.block (hkA.block _ i5.lt.2 (fun h => h))).block (hk3.block _ (Nat.lt_of_lt_of_le i5.lt.2 hkA.size) (by omega))
    have j7 := HQ.out.keep _ _ _ (HQ.out.keep _ _ _ i7 (hkA.mono (fun _ _ h => h.elim)) hmA) (hk3.mono (fun k _ h => .inr (by omega))) j1.k
    have jx := hx0.block (hk3.block _ hx0.lt.2 (by omega))
    clear hA hx0 i1 i2 i3 i4 i5 i7 hm hmA
    refine wpIn_block (wpIn_seq ?_)
    have r8 := j5.cell (i := 0) (by omega)
    have g8 := j5.frozen 0
    rw [nth1] at r8
    apply wpIn_one
    case h =>
      gi_wp2
      first | exact ⟨rfl, rfl, rfl⟩ | exact ⟨rfl, rfl⟩ | exact rfl
    case hq =>
    have k5 := j5.set 0 (wrap64 (wrap64 (pre.length : Int) + 1))
    simp only [List.set_cons_zero] at k5
    have hk4 : Keep (fun k => k = w.heap.size + 1 + 1 + 1) W3 (W3.setCell ⟨w.heap.size + 1 + 1 + 1, 0, none⟩ (.int .i64 (wrap64 (wrap64 (pre.length : Int) + 1)))) := Keep.setCell _ _ _ _ rfl
    generalize (W3.setCell ⟨w.heap.size + 1 + 1 + 1, 0, none⟩ (.int .i64 (wrap64 (wrap64 (pre.length : Int) + 1)))) = W4 at *
    have ek : wrap64 (wrap64 (pre.length : Int) + 1) = wrap64 ((pre ++ [x]).length : Nat) := by
      rw [wrap_wrap]; congr 1; simp
    rw [ek] at k5
    clear ek
    have hkd : Keep (fun _ => False) W4 W4.drew := Keep.of_below' (Below.refl _ _).drew _
    have m1 := (j1.keep' hk4 (fun k h => by omega)).keep' hkd (fun _ h => h.elim)
    have m2 := (hk4.cell (cell_lt j2) (by omega)).trans j2
    have m3 := (hk4.cell (cell_lt j3) (by omega)).trans j3
    have m4 := j4.block (hk4.block _ j4.lt.2 (by omega))
    have mx := jx.block (hk4.block _ jx.lt.2 (by omega))
    have m7 := HQ.out.keep _ _ _ (HQ.out.keep _ _ _ j7 (hk4.mono (fun k _ h => .inr (by omega))) (j1.keep' hk4 (fun k h => by omega)).k) (hkd.mono (fun _ _ h => h.elim)) m1.k
    have hz4 := hk4.size
    have hsx := (statesS_ok HV.out hh (List.mem_filter.1 hx).1).1
    have x0 := mx.cell (i := 0) (by omega)
    have x1 := mx.cell (i := 1) (by omega)
    have x2 := mx.cell (i := 2) (by omega)
    have x3 := mx.cell (i := 3) (by omega)
    have x4 := mx.cell (i := 4) (by omega)
    have x5 := mx.cell (i := 5) (by omega)
    have x6 := mx.cell (i := 6) (by omega)
    have x7 := mx.cell (i := 7) (by omega)
    simp only [stRow, nth8_0, nth8_1, nth8_2, nth8_3, nth8_4, nth8_5, nth8_6, nth8_7] at x0 x1 x2 x3 x4 x5 x6 x7
    have hEn := HQ.out.enter
    have M1 := hide m1
    have M7 := hide m7
    have K5 := hide k5
    have M4 := hide m4
    have HK := hide ((hk4.mono (S' := fun k => k = w.heap.size + 1 + 1 ∨ k = w.heap.size + 1 + 1 + 1 ∨ (k = bm ∨ Cq k)) (fun k _ h => .inr (.inl h))).trans (hkd.mono (fun _ _ h => h.elim)))
    clear j1 j2 j3 j4 j5 j7 jx r8 g8 m1 m4 m7 k5 hk4 mx hk3 hkA
    refine wpIn_seq ?_
    obtain ⟨S, hSd⟩ : ∃ S : World → Prop, S = fun w' => (w'.cell? ⟨w.heap.size, 0, none⟩ = some (.pointer (some ⟨b, 0, none⟩)) ∧ w'.cell? ⟨w.heap.size + 1, 0, none⟩ = some (.func (.func qF) #[] cap) ∧ w'.cell? ⟨W1.heap.size, 0, none⟩ = some (.int .i64 x.hold) ∧ w'.cell? ⟨W1.heap.size, 1, none⟩ = some (.int .i64 x.warm) ∧ w'.cell? ⟨W1.heap.size, 2, none⟩ = some (.int .i64 (nth x.greens 0)) ∧ w'.cell? ⟨W1.heap.size, 3, none⟩ = some (.int .i64 (nth x.greens 1)) ∧ w'.cell? ⟨W1.heap.size, 4, none⟩ = some (.int .i64 (nth x.greens 2)) ∧ w'.cell? ⟨W1.heap.size, 5, none⟩ = some (.int .i64 (nth x.greens 3)) ∧ w'.cell? ⟨W1.heap.size, 6, none⟩ = some (.int .i64 (nth x.greens 4)) ∧ w'.cell? ⟨W1.heap.size, 7, none⟩ = some (.int .i64 x.there)) := ⟨_, rfl⟩
    have HSD := hide hSd
    clear hSd
    refine wpIn_round_held (S := S) (by kernel_rfl) (by kernel_rfl) (by rintro ⟨a, w, h⟩; exact h) (by rw [HSD.out]; exact ⟨m2, m3, x0, x1, x2, x3, x4, x5, x6, x7⟩) (fun hHeld => ?_)
    refine wpAnyH_take (i := 0) (v := ?_) rfl (by kernel_rfl) (by kernel_rfl) (by kernel_rfl) (fun _ _ _ h => h) (Or.inl ⟨by rfl, fun W hSw => ?_⟩) hHeld ?_
    rotate_left
    · rw [HSD.out] at hSw; obtain ⟨y3, y5, x0, x1, x2, x3, x4, x5, x6, x7⟩ := hSw; go_simp; try rfl
    try simp only [Act.put, List.setIfInBounds_toArray, List.set_cons_zero, List.set_cons_succ]
    refine wpAnyH_take (i := 1) (v := ?_) rfl (by kernel_rfl) (by kernel_rfl) (by kernel_rfl) (fun _ _ _ h => h) (Or.inl ⟨by rfl, fun W hSw => ?_⟩) hHeld ?_
    rotate_left
    · rw [HSD.out] at hSw; obtain ⟨y3, y5, x0, x1, x2, x3, x4, x5, x6, x7⟩ := hSw; go_simp; try rfl
    try simp only [Act.put, List.setIfInBounds_toArray, List.set_cons_zero, List.set_cons_succ]
    refine wpAnyH_take (i := 2) (v := ?_) rfl (by kernel_rfl) (by kernel_rfl) (by kernel_rfl) (fun _ _ _ h => h) (Or.inl ⟨by rfl, fun W hSw => ?_⟩) hHeld ?_
    rotate_left
    · rw [HSD.out] at hSw; obtain ⟨y3, y5, x0, x1, x2, x3, x4, x5, x6, x7⟩ := hSw; go_simp; try rfl
    try simp only [Act.put, List.setIfInBounds_toArray, List.set_cons_zero, List.set_cons_succ]
    refine wpAnyH_take (i := 3) (v := ?_) rfl (by kernel_rfl) (by kernel_rfl) (by kernel_rfl) (fun _ _ _ h => h) (Or.inl ⟨by rfl, fun W hSw => ?_⟩) hHeld ?_
    rotate_left
    · rw [HSD.out] at hSw; obtain ⟨y3, y5, x0, x1, x2, x3, x4, x5, x6, x7⟩ := hSw; go_simp; try rfl
    try simp only [Act.put, List.setIfInBounds_toArray, List.set_cons_zero, List.set_cons_succ]
    refine wpAnyH_take (i := 4) (v := ?_) rfl (by kernel_rfl) (by kernel_rfl) (by kernel_rfl) (fun _ _ _ h => h) (Or.inl ⟨by rfl, fun W hSw => ?_⟩) hHeld ?_
    rotate_left
    · rw [HSD.out] at hSw; obtain ⟨y3, y5, x0, x1, x2, x3, x4, x5, x6, x7⟩ := hSw; go_simp; try rfl
    try simp only [Act.put, List.setIfInBounds_toArray, List.set_cons_zero, List.set_cons_succ]
    refine wpAnyH_ready (rs := [5]) (by kernel_rfl) (by simp) ?_
    refine AllReadyH.cons rfl (fun K' hK => ?_) AllReadyH.nil
    go_simp
    go_at_call 87
    refine (times_L M1.out HV.out.small x hsx).mono ?_
    rintro e w5 ⟨rfl, hk5, hn5⟩
    have hL5 := M1.out.keep hk5 (fun k h => .inl h) hn5
    have hK5 := HQ.out.keep _ _ _ M7.out (hk5.mono (fun k _ h => .inl h)) hn5
    have hz5 := hk5.size
    have hd5 : W4.drew.heap.size = W4.heap.size := rfl
    refine hK.out _ _ (by rw [HSD.out]; exact ⟨(hk5.cell (cell_lt m2) (by omega)).trans m2, (hk5.cell (cell_lt m3) (by omega)).trans m3, (hk5.cell (cell_lt x0) (by omega)).trans x0, (hk5.cell (cell_lt x1) (by omega)).trans x1, (hk5.cell (cell_lt x2) (by omega)).trans x2, (hk5.cell (cell_lt x3) (by omega)).trans x3, (hk5.cell (cell_lt x4) (by omega)).trans x4, (hk5.cell (cell_lt x5) (by omega)).trans x5, (hk5.cell (cell_lt x6) (by omega)).trans x6, (hk5.cell (cell_lt x7) (by omega)).trans x7⟩) (fun hHeld => ?_)
    clear hK K'
    try simp only [Act.put, List.setIfInBounds_toArray, List.set_cons_zero, List.set_cons_succ]
    refine wpAnyH_ready (rs := [6]) (by kernel_rfl) (by simp) ?_
    refine AllReadyH.cons rfl (fun K' hK => ?_) AllReadyH.nil
    go_simp
    have hnq : ∀ k, w.heap.size ≤ k → ¬ Cq k := fun k hk h => by rcases HQ.out.cq k h with h | h <;> omega
    refine (HQ.out.call pre x w5 hx hL5 (by omega) hK5).mono ?_
    rintro e w6 ⟨rfl, hk6, hn6, hK6⟩
    refine hK.out _ _ (by rw [HSD.out] at hHeld ⊢; obtain ⟨y3, y5, x0, x1, x2, x3, x4, x5, x6, x7⟩ := hHeld; exact ⟨(hk6.cell (cell_lt y3) (hnq _ (by omega))).trans y3, (hk6.cell (cell_lt y5) (hnq _ (by omega))).trans y5, (hk6.cell (cell_lt x0) (hnq _ (by omega))).trans x0, (hk6.cell (cell_lt x1) (hnq _ (by omega))).trans x1, (hk6.cell (cell_lt x2) (hnq _ (by omega))).trans x2, (hk6.cell (cell_lt x3) (hnq _ (by omega))).trans x3, (hk6.cell (cell_lt x4) (hnq _ (by omega))).trans x4, (hk6.cell (cell_lt x5) (hnq _ (by omega))).trans x5, (hk6.cell (cell_lt x6) (hnq _ (by omega))).trans x6, (hk6.cell (cell_lt x7) (hnq _ (by omega))).trans x7⟩) (fun hHeld => ?_)
    clear hK K'
    try simp only [Act.put, List.setIfInBounds_toArray, List.set_cons_zero, List.set_cons_succ]
    refine wpAnyH_done (by kernel_rfl) ?_ _
    have hL6 := hL5.keep hk6 (fun k h => (HQ.out.cq k h).imp id (fun h => h.1)) hn6
    have b4 : w.heap.size + 1 + 1 < W4.heap.size := M4.out.lt.2
    have b5 : w.heap.size + 1 + 1 + 1 < W4.heap.size := K5.out.lt.2
    have n4 := (M4.out.block (w' := w5) (hk5.block _ b4 (by omega))).block (hk6.block _ (by omega) (hnq _ (by omega)))
    have n5 := (K5.out.block (w' := w5) (hk5.block _ b5 (by omega))).block (hk6.block _ (by omega) (hnq _ (by omega)))
    have n2 := (hk6.cell (b := w.heap.size) (o := 0) (by omega) (hnq _ (by omega))).trans ((hk5.cell (cell_lt m2) (by omega)).trans m2)
    have n3 := (hk6.cell (b := w.heap.size + 1) (o := 0) (by omega) (hnq _ (by omega))).trans ((hk5.cell (cell_lt m3) (by omega)).trans m3)
    have hz6 := hk6.size
    have HK6 := hide (HK.out.trans ((hk5.mono (S' := fun k => k = w.heap.size + 1 + 1 ∨ k = w.heap.size + 1 + 1 + 1 ∨ (k = bm ∨ Cq k)) (fun k _ h => .inr (.inr (.inl h)))).trans (hk6.mono (fun k _ h => .inr (.inr (.inr h))))))
    have HL6 := hide hL6
    have HKK6 := hide hK6
    have N5 := hide n5
    have HN6 := hide hn6
    have hcs := cntB_snoc ans pre x
    have HCS := hide hcs
    clear hL6 hK6 hn6 hcs hk5 hk6 hK5 hL5 hn5 m2 m3 x0 x1 x2 x3 x4 x5 x6 x7 hnq n5
    cases hans : ans x with
    | false =>
      refine wpIn_cond (t := false) rfl (wpIn_skip ?_)
      refine ⟨HK6.out, HN6.out, HL6.out, n2, n3, ?_, N5.out, by omega, HKK6.out⟩
      rw [HCS.out, hans]; exact n4
    | true =>
      refine wpIn_cond (t := true) rfl ?_
      have r7 := n4.cell (i := 0) (by omega)
      have g7 := n4.frozen 0
      rw [nth1] at r7
      apply wpIn_one
      case h =>
        gi_wp2
        first | exact ⟨rfl, rfl, rfl⟩ | exact ⟨rfl, rfl⟩ | exact rfl
      case hq =>
      have k4 := n4.set 0 (wrap64 (wrap64 (cntB ans pre : Int) + 1))
      simp only [List.set_cons_zero] at k4
      have hk7 : Keep (fun k => k = w.heap.size + 1 + 1) w6 (w6.setCell ⟨w.heap.size + 1 + 1, 0, none⟩ (.int .i64 (wrap64 (wrap64 (cntB ans pre : Int) + 1)))) := Keep.setCell _ _ _ _ rfl
      generalize (w6.setCell ⟨w.heap.size + 1 + 1, 0, none⟩ (.int .i64 (wrap64 (wrap64 (cntB ans pre : Int) + 1)))) = w7 at *
      have hz7 := hk7.size
      have hn7 := HN6.out.keep hk7 (by omega)
      refine ⟨HK6.out.trans (hk7.mono (fun k _ h => .inl h)), hn7, HL6.out.keep' hk7 (fun k h => by omega), (hk7.cell (cell_lt n2) (by omega)).trans n2, (hk7.cell (cell_lt n3) (by omega)).trans n3, ?_, N5.out.block (hk7.block _ N5.out.lt.2 (by omega)), by omega,
        HQ.out.keep _ _ _ HKK6.out (hk7.mono (fun k _ h => .inr (by omega))) hn7⟩
      rw [HCS.out, hans]
      have e : wrap64 (((cntB ans pre + if true = true then 1 else 0 : Nat)) : Int) = wrap64 (wrap64 (cntB ans pre : Int) + 1) := by rw [wrap_wrap]; congr 1
      rw [e]; exact k4
  case done =>
    rintro D W' hD ⟨i1, i2, i3, i4, i5, i6, i7⟩ hm hk hd
    have hlen := truthsS_len HV.out hh (but := but)
    have hcle : cntB ans (truthsS c hold but) ≤ (truthsS c hold but).length := List.length_filter_le _ _
    rw [IntWalk.wrap64_in _ (by omega)] at i4 i5
    have r7 := i4.cell (i := 0) (by omega)
    have r8 := i5.cell (i := 0) (by omega)
    rw [nth1] at r7 r8
    have hMK : MarksOk w.heap.size [{ target := .collected D, args := #[] }] W' := ⟨⟨D, by omega, rfl, hd, fun _ h => by cases h⟩, trivial⟩
    have HMK := hide hMK
    have HK2 := hide hk
    have HK7 := hide i7
    have HM := hide hm
    have hfin : ∀ w', Keep (fun k => w.heap.size ≤ k) W' w' → Keep (fun k => k = bm ∨ Cq k) w w' ∧ Known w' bm (timesV c) ∧ K (truthsS c hold but) w' := fun w' hkw' => by
      have hw : Keep (fun k => k = bm ∨ Cq k) w W' := by
        refine ((Keep.of_below' HBW.out (fun k => (k = w.heap.size + 1 + 1 ∨ k = w.heap.size + 1 + 1 + 1) ∨ (k = bm ∨ Cq k))).trans (HK2.out.mono (fun k _ h => ?_))).mono (fun k hk h => ?_)
        · rcases h with h | h | h | h
          · exact .inr (.inl h)
          · exact .inl (.inl h)
          · exact .inl (.inr h)
          · exact .inr h
        · rcases h with (h | h) | h
          · omega
          · omega
          · exact h
      have hmw := HM.out.keep hkw' (by omega)
      exact ⟨hw.trans' hkw' hw.size, hmw, HQ.out.keep _ _ _ HK7.out (hkw'.mono (fun k _ h => .inr h)) hmw⟩
    have HFIN := hide hfin
    obtain ⟨y, hy⟩ : ∃ y, y = cntB ans (truthsS c hold but) := ⟨_, rfl⟩
    obtain ⟨n, hn⟩ : ∃ n, n = (truthsS c hold but).length := ⟨_, rfl⟩
    rw [← hy] at r7 hcle
    rw [← hn] at r8 hlen hcle
    have HYE := hide hy
    have HNE := hide hn
    clear hfin i1 i2 i3 i4 i5 i7 hm hk hd hMK hy hn
    by_cases h1 : y = n
    · have hb : ((y : Int) == (n : Int)) = true := by rw [beq_iff_eq]; omega
      have hs : settledM y n = 1 := by rw [settledM, if_pos (by omega)]
      have HS := hide hs
      clear hs h1
      go_wp2_with fail
      refine leaves_marks HMK.out (fun w' hkw' => ⟨_, results_tmp rfl _ _ _, ?_, HFIN.out w' hkw'⟩)
      rw [← HYE.out, ← HNE.out, HS.out]; rfl
    · have hb : ((y : Int) == (n : Int)) = false := by rw [beq_eq_false_iff_ne]; omega
      by_cases h2 : y = 0
      · have hb2 : ((y : Int) == 0) = true := by rw [beq_iff_eq]; omega
        have hs : settledM y n = 2 := by rw [settledM, if_neg (by omega), if_pos (by omega)]
        have HS := hide hs
        clear hs h1 h2
        go_wp2_with fail
        refine leaves_marks HMK.out (fun w' hkw' => ⟨_, results_tmp rfl _ _ _, ?_, HFIN.out w' hkw'⟩)
        rw [← HYE.out, ← HNE.out, HS.out]; rfl
      · have hb2 : ((y : Int) == 0) = false := by rw [beq_eq_false_iff_ne]; omega
        have hs : settledM y n = 0 := by rw [settledM, if_neg (by omega), if_neg (by omega)]
        have HS := hide hs
        clear hs h1 h2
        go_wp2_with fail
        refine leaves_marks HMK.out (fun w' hkw' => ⟨_, results_tmp rfl _ _ _, ?_, HFIN.out w' hkw'⟩)
        rw [← HYE.out, ← HNE.out, HS.out]; rfl
end Go.Proofs.Ytbkknliggnhpcaa
/- Contracts of turn's none, hours, enter. -/
namespace Go.Proofs.Ytbkknliggnhpcaa
open Go.RowKit
attribute [local go_sem ↓] Go.wp_at_zero Go.wp_at_succ

def askedF (xs : List (Bool × Int)) (j : Nat) : Value := if j % 2 = 0 then .bool (nth xs (j / 2)).1 else .int .i64 (nth xs (j / 2)).2
theorem Row.asked {w : World} {B n : Nat} {A : Option Addr} {xs : List (Bool × Int)} (h : Row w B A (n * 2) (askedF xs)) {i : Nat} (hi : i < n) :
    ∃ b off, A = some ⟨b, off, none⟩ ∧ b < B ∧ w.cell? ⟨b, off + i * 2, none⟩ = some (.bool (nth xs i).1) ∧ w.cell? ⟨b, off + i * 2 + 1, none⟩ = some (.int .i64 (nth xs i).2) := by
  obtain ⟨b, off, e, hb, hc⟩ := h (by omega)
  refine ⟨b, off, e, hb, ?_, ?_⟩
  · rw [hc (i * 2) (by omega), askedF, if_pos (by omega), show i * 2 / 2 = i by omega]
  · rw [Nat.add_assoc, hc (i * 2 + 1) (by omega), askedF, if_neg (by omega), show (i * 2 + 1) / 2 = i by omega]
def firstAsk (xs : List (Bool × Int)) : Option (Bool × Int) := xs.find? fun x => x.1
theorem firstAsk_some {xs : List (Bool × Int)} {k : Nat} (hk : k < xs.length) (h : ∀ j, j < k → (nth xs j).1 = false) (h1 : (nth xs k).1 = true) : firstAsk xs = some (nth xs k) := by
  induction xs generalizing k with
  | nil => simp at hk
  | cons a l ih =>
    cases k with
    | zero => simp [nth] at h1; simp [firstAsk, nth, h1]
    | succ k =>
      have h0 := h 0 (by omega)
      simp [nth] at h0
      have := ih (k := k) (by simpa using hk) (fun j hj => by have := h (j + 1) (by omega); simpa [nth] using this) (by simpa [nth] using h1)
      simp only [firstAsk, List.find?_cons, h0] at this ⊢
      simpa [nth] using this
theorem firstAsk_none {xs : List (Bool × Int)} (h : ∀ j, j < xs.length → (nth xs j).1 = false) : firstAsk xs = none := by
  rw [firstAsk, List.find?_eq_none]
  intro x hx
  obtain ⟨i, hi, rfl⟩ := List.getElem_of_mem hx
  have := h i hi
  rw [nth_eq hi] at this
  simp [this]
def enterE (c : Cargo) (xs : List (Bool × Int)) : Int := if (checkM c).2.2 ≠ 0 then (checkM c).2.2 else match firstAsk xs with | some x => x.2 | none => if someS c 0 then 0 else 8

set_option maxRecDepth 100000 in
theorem none_any {A : Option Addr} {n cp : Nat} {xs : List Int} {w : World} (h : IntsS w w.heap.size A n cp xs) (below : Int) (hb : 0 ≤ below ∧ below ≤ 9223372036854775807) :
    Calls Try.prog 69 #[.int .i64 below, .slice A n cp] w fun e w' => e = .returned (.agg #[.bool (xs.any (offP 0 (below - 1))), .int .i64 4]) ∧ Below w.heap.size w w' := by
  have hB0 : Below w.heap.size w (w.alloc (.cells #[.bool false, .int .i64 0] 104)) := (Below.refl _ _).alloc (Nat.le_refl _) _
  have HB := hide hB0
  have HO := hide (off_any (h.next hB0) 0 (below - 1))
  clear h hB0
  go_enter Try.func69, Try.ntmps69
  go_wp2_with fail
  refine HO.out.mono ?_
  rintro e w1 ⟨rfl, hb1⟩
  have c0 := (hb1.cell (p := ⟨w.heap.size, 0, none⟩) (by simp)).trans (by rw [World.cell?_alloc_at _ _ _ _ rfl]; rfl : _ = some (Value.bool false))
  have c1 := (hb1.cell (p := ⟨w.heap.size, 1, none⟩) (by simp)).trans (by rw [World.cell?_alloc_at _ _ _ _ rfl]; rfl : _ = some (Value.int .i64 0))
  have f0 := (hb1.frozen (p := ⟨w.heap.size, 0, none⟩) (by simp)).trans (World.frozen?_alloc_at _ _ _ _ rfl)
  have f1 := (hb1.frozen (p := ⟨w.heap.size, 1, none⟩) (by simp)).trans (World.frozen?_alloc_at _ _ _ _ rfl)
  have hz : w.heap.size < w1.heap.size := by have := hb1.size; simp at this; omega
  have HB1 := hide (HB.out.trans (hb1.mono (by simp)))
  clear hb1
  go_wp2_with fail
  refine bodyPost_ret (v := .agg #[.bool (xs.any (offP 0 (below - 1))), .int .i64 4]) ?_ rfl ⟨rfl, (HB1.out.setCell (by simp) _).setCell (by simp) _⟩
  simp [results, Try.results69, go_sem, c0, c1]

set_option maxRecDepth 100000 in
theorem hoursT_any {A A1 A2 A3 A4 : Option Addr} {n cp c1 c2 c3 c4 : Nat} {xs : List Int} {c : Cargo} {w : World} (h : IntsS w w.heap.size A n cp xs) (hm : c.heat.length ≤ 9223372036854775807) :
    Calls Try.prog 78 #[cargoVal c A1 A2 A3 A4 c1 c2 c3 c4, .slice A n cp] w fun e w' => e = .returned (.agg #[.bool (xs.any (offP 0 c.heat.length)), .int .i64 7]) ∧ Below w.heap.size w w' := by
  have hB0 : Below w.heap.size w ((w.alloc (.cells #[.slice A1 c.heat.length c1, .int .i64 c.gas, .slice A2 c.holds.length c2, .slice A3 c.lots.length c3, .slice A4 c.seen.length c4] 27)).alloc (.cells #[.bool false, .int .i64 0] 104)) := ((Below.refl _ _).alloc (Nat.le_refl _) _).alloc (by simp) _
  have HB := hide hB0
  have HO := hide (off_any (h.next hB0) 0 c.heat.length)
  clear h hB0
  go_enter Try.func78, Try.ntmps78
  go_wp2_with fail
  refine HO.out.mono ?_
  rintro e w1 ⟨rfl, hb1⟩
  have c0 := (hb1.cell (p := ⟨w.heap.size + 1, 0, none⟩) (by simp)).trans (by rw [World.cell?_alloc_at _ _ _ _ (by simp)]; rfl : _ = some (Value.bool false))
  have c1 := (hb1.cell (p := ⟨w.heap.size + 1, 1, none⟩) (by simp)).trans (by rw [World.cell?_alloc_at _ _ _ _ (by simp)]; rfl : _ = some (Value.int .i64 0))
  have f0 := (hb1.frozen (p := ⟨w.heap.size + 1, 0, none⟩) (by simp)).trans (World.frozen?_alloc_at _ _ _ _ (by simp))
  have f1 := (hb1.frozen (p := ⟨w.heap.size + 1, 1, none⟩) (by simp)).trans (World.frozen?_alloc_at _ _ _ _ (by simp))
  have hz : w.heap.size + 1 < w1.heap.size := by have := hb1.size; simp at this; omega
  have HB1 := hide (HB.out.trans (hb1.mono (by simp; omega)))
  clear hb1
  go_wp2_with fail
  refine bodyPost_ret (v := .agg #[.bool (xs.any (offP 0 c.heat.length)), .int .i64 7]) ?_ rfl ⟨rfl, (HB1.out.setCell (by simp) _).setCell (by simp) _⟩
  simp [results, Try.results78, go_sem, c0, c1]

set_option maxHeartbeats 1600000 in
set_option maxRecDepth 100000 in
theorem enter_any {A A1 A2 A3 A4 : Option Addr} {n cp c1 c2 c3 c4 : Nat} {xs : List (Bool × Int)} {c : Cargo} {w : World} (h : CargoV w w.heap.size c A1 A2 A3 A4 c1 c2 c3 c4) (hx : Row w w.heap.size A (n * 2) (askedF xs)) (hn : xs.length = n) (hn4 : n ≤ 100) (hx0 : ∀ j, j < n → (nth xs j).1 = true → (nth xs j).2 ≠ 0) :
    Calls Try.prog 68 #[cargoVal c A1 A2 A3 A4 c1 c2 c3 c4, .slice A n cp] w fun e w' =>
      (enterE c xs = 0 ∧ Valid c ∧ ∃ b bm, e = .returned (.tuple #[.pointer (some ⟨b, 0, none⟩), .int .i64 0]) ∧ w.heap.size ≤ b ∧ w.heap.size ≤ bm ∧ LookL w' w'.heap.size b bm c A1 A2 A3 A4 c1 c2 c3 c4 (0 : Nat) (timesV c) ∧ Below w.heap.size w w') ∨
      (enterE c xs ≠ 0 ∧ e = .returned (.tuple #[.pointer none, .int .i64 (enterE c xs)]) ∧ Below w.heap.size w w') := by
  have hB0 : Below w.heap.size w (w.alloc (.cells #[.slice A1 c.heat.length c1, .int .i64 c.gas, .slice A2 c.holds.length c2, .slice A3 c.lots.length c3, .slice A4 c.seen.length c4] 27)) := (Below.refl _ _).alloc (Nat.le_refl _) _
  have hcl : ∀ o : Nat, (w.alloc (.cells #[.slice A1 c.heat.length c1, .int .i64 c.gas, .slice A2 c.holds.length c2, .slice A3 c.lots.length c3, .slice A4 c.seen.length c4] 27)).cell? ⟨w.heap.size, o, none⟩ = (#[Value.slice A1 c.heat.length c1, .int .i64 c.gas, .slice A2 c.holds.length c2, .slice A3 c.lots.length c3, .slice A4 c.seen.length c4])[o]? := fun o => by
    rw [World.cell?_alloc_at _ _ _ _ rfl]
  have hs1 : (w.alloc (.cells #[.slice A1 c.heat.length c1, .int .i64 c.gas, .slice A2 c.holds.length c2, .slice A3 c.lots.length c3, .slice A4 c.seen.length c4] 27)).heap.size = w.heap.size + 1 := by simp
  have HB0 := hide hB0
  have HCL := hide hcl
  have HS1 := hide hs1
  have HC0 := hide (h.next hB0)
  have HX := hide (hx.below hB0)
  have HN := hide hn
  have HX0 := hide hx0
  clear hB0 hcl hs1 h hx hn hx0
  go_enter Try.func68, Try.ntmps68
  go_wp2_with fail
  generalize (w.alloc (.cells #[.slice A1 c.heat.length c1, .int .i64 c.gas, .slice A2 c.holds.length c2, .slice A3 c.lots.length c3, .slice A4 c.seen.length c4] 27)) = w0 at *
  have pb0 := HCL.out 0
  have pb1 := HCL.out 1
  have pb2 := HCL.out 2
  have pb3 := HCL.out 3
  have pb4 := HCL.out 4
  simp only [List.getElem?_toArray, List.getElem?_cons_succ, List.getElem?_cons_zero] at pb0 pb1 pb2 pb3 pb4
  have hsw : w.heap.size < w0.heap.size := by have := HS1.out; omega
  cases hce : ((checkM c).2.2 != 0) with
  | true =>
    have hne : (checkM c).2.2 ≠ 0 := by simpa using hce
    have HE := hide (show enterE c xs = (checkM c).2.2 by rw [enterE, if_pos hne])
    have HNE := hide hne
    clear hne
    go_wp2_with (refine (check_any HC0.out).mono ?_; rintro e w1 ⟨rfl, hb1⟩)
    go_ret2
    refine .inr ⟨by rw [HE.out]; exact HNE.out, by rw [HE.out]; rfl, HB0.out.trans (hb1.mono (by omega))⟩
  | false =>
    have hne : (checkM c).2.2 = 0 := by simpa using hce
    have HV := hide (valid_of hne)
    have HE := hide (show enterE c xs = match firstAsk xs with | some x => x.2 | none => if someS c 0 then 0 else 8 by rw [enterE, if_neg (by simp [hne])])
    clear hne
    go_wp2_with fail
    refine (check_any HC0.out).mono ?_
    rintro e w1 ⟨rfl, hb1⟩
    have HC1 := hide (HC0.out.next hb1)
    have HB1 := hide (HB0.out.trans (hb1.mono (by omega)))
    have HX1 := hide (HX.out.below (hb1.mono (by omega)))
    have p0 := (hb1.cell (p := ⟨w.heap.size, 0, none⟩) hsw).trans pb0
    have p1 := (hb1.cell (p := ⟨w.heap.size, 1, none⟩) hsw).trans pb1
    have p2 := (hb1.cell (p := ⟨w.heap.size, 2, none⟩) hsw).trans pb2
    have p3 := (hb1.cell (p := ⟨w.heap.size, 3, none⟩) hsw).trans pb3
    have p4 := (hb1.cell (p := ⟨w.heap.size, 4, none⟩) hsw).trans pb4
    have hsw1 : w.heap.size < w1.heap.size := by have := hb1.size; omega
    clear hb1 pb0 pb1 pb2 pb3 pb4
    go_wp2_with fail
    go_loopw [23] (fun v23 wr => ∃ k : Nat, k ≤ n ∧ v23 = .int .i64 k ∧ Hid (∀ j, j < k → (nth xs j).1 = false) ∧ Below w1.heap.size w1 wr) (fun v23 _ => n - (intOf v23).toNat)
    case atStart => exact ⟨0, Nat.zero_le _, rfl, hide (fun j hj => absurd hj (Nat.not_lt_zero _)), Below.refl _ _⟩
    case round =>
      obtain ⟨k, hk, rfl, HJ, hB⟩ := hrel
      obtain ⟨k1, f1⟩ := bcell hB
      by_cases hlt : k < n
      · obtain ⟨ba, oa, rfl, hba, g0, g1⟩ := HX1.out.asked hlt
        have hk0 : (0 : Int) ≤ (k : Int) := Int.natCast_nonneg _
        have hk1 : (k : Int) < (n : Int) := by omega
        have hba1 : ba < w1.heap.size := by omega
        have hbar : ba < wr.heap.size := by have := hB.size; omega
        cases hso : (nth xs k).1 with
        | true =>
          have hfa : firstAsk xs = some (nth xs k) := firstAsk_some (by rw [HN.out]; exact hlt) HJ.out hso
          have HEE := hide (show enterE c xs = (nth xs k).2 by rw [HE.out, hfa])
          clear hfa
          rw [hso] at g0
          go_wp2_with fail
          go_quiet (fail)
          go_wp2
          go_ret2
          refine .inr ⟨by rw [HEE.out]; exact HX0.out k hlt hso, by rw [HEE.out]; rfl, HB1.out.trans ((below_drewN (hB.alloc hB.size _) _).mono (by omega))⟩
        | false =>
          have HJJ := hide (show ∀ j, j < k + 1 → (nth xs j).1 = false from fun j hj => by
            rcases Nat.lt_or_ge j k with h | h
            · exact HJ.out j h
            · rw [show j = k by omega]; exact hso)
          rw [hso] at g0
          go_wp2_with fail
          go_roundw
          case rel => exact ⟨k + 1, by omega, by go_num, HJJ, hB.alloc hB.size _⟩
          case measure => simp [intOf]; omega
      · have hfa : firstAsk xs = none := firstAsk_none (fun j hj => HJ.out j (by have := HN.out; omega))
        have HEE := hide (show enterE c xs = if someS c 0 then 0 else 8 by rw [HE.out, hfa])
        clear hfa
        have HL0 := hide (look_any (but := (0 : Nat)) (HC1.out.next hB) (timesV c))
        have hsr : w.heap.size < wr.heap.size := by have := hB.size; omega
        cases hso : someS c 0 with
        | true =>
          have HE2 := hide (show enterE c xs = 0 by rw [HEE.out, hso]; rfl)
          go_wp2_with (first
            | (go_at_call 88; refine HL0.out.mono ?_; rintro e w2 ⟨b, bm, rfl, hbb, hbm, hB2, hL2⟩)
            | (go_at_call 97; refine (someT_any (but := 0) hL2.lookL HV.out (by omega)).mono ?_; rintro e w3 ⟨rfl, hk3, hn3⟩; rw [hso]))
          go_ret2
          refine .inl ⟨HE2.out, HV.out, b, bm, rfl, by omega, by omega, (hL2.lookL.keep hk3 (fun k h => .inl h) hn3).more hk3.size (Nat.le_refl _), ?_⟩
          exact HB1.out.trans ((hB.mono (by omega)).trans ((hB2.mono (by omega)).trans (hk3.below (fun k h => by omega) (by have := hB2.size; omega))))
        | false =>
          have HE2 := hide (show enterE c xs = 8 by rw [HEE.out, hso]; rfl)
          go_wp2_with (first
            | (go_at_call 88; refine HL0.out.mono ?_; rintro e w2 ⟨b, bm, rfl, hbb, hbm, hB2, hL2⟩)
            | (go_at_call 97; refine (someT_any (but := 0) hL2.lookL HV.out (by omega)).mono ?_; rintro e w3 ⟨rfl, hk3, hn3⟩; rw [hso]))
          go_ret2
          refine .inr ⟨by rw [HE2.out]; decide, by rw [HE2.out]; rfl, ?_⟩
          exact HB1.out.trans ((hB.mono (by omega)).trans ((hB2.mono (by omega)).trans (hk3.below (fun k h => by omega) (by have := hB2.size; omega))))
end Go.Proofs.Ytbkknliggnhpcaa
