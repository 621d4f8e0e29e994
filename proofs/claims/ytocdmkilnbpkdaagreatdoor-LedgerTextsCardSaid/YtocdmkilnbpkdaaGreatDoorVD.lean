/- Ranges over functions whose rounds may panic; the panic goes up through the iterator to the function that ranges. -/
import Derived.Test.YtocdmkilnbpkdaaGreatDoorHA
import Derived.AtR
import Derived.Scope
set_option linter.unusedVariables false
set_option linter.unusedSimpArgs false
namespace Go.Proofs.YtocdmkilnbpkdaaGreatDoor
open Go.RowKit

/-- A round that ends as its body does, or panics. -/
theorem roundIn_panics {P : Program} {l : Nat} {f : FuncId} {tmps : Array Value} {assign body : Code} {w : World} {R : Ending → World → Prop} (hfun : ∃ fn, P.funcs[f]? = some fn)
 (h : assign.wpIn (Fence.wide.inRound l) 0 P (Exit.then (fun a₁ w₁ => ∃ w₂, (Instr.beginRound l).run P w₁ = .ok () w₂ ∧ body.wpIn (Fence.wide.inRound l) 0 P (fun e a w => match e with
  | .normal => ∃ v w', (Instr.endRound l none).run P w = .ok v w' ∧ R (.returned v) w'
  | .panic ch => a.defers = [] ∧ R (.panicked ch) w
  | _ => False) a₁ w₂) (fun _ _ _ => False)) { tmps := tmps, defers := [] } w) :
 RoundIn Fence.wide 0 P l f tmps assign body w R := by
 refine ⟨trivial, fun c cs _ => ?_⟩
 obtain ⟨b, hb⟩ : ∃ b : Frame, b = { (default : Frame) with fn := f, kind := .normal, roundOf := some l } := ⟨_, rfl⟩
 have hro : b.roundOf = some l := by rw [hb]
 have hbf : b.fn = f := by rw [hb]
 have hk : b.kind = .normal := by rw [hb]
 have hcalm : ∀ m : Machine, m.fenced P Fence.wide := fun m => fenced_wide P m
 have hstart : Frame.round l f tmps assign body .normal = b.atR { tmps := tmps, defers := [] } [.code assign, .beginRound, .code body] := by rw [hb]; simp [Frame.round, Frame.atR]
 obtain ⟨e, a₁, w₁, hq, s1⟩ := h b [.beginRound, .code body] (c :: cs) hro trivial (fun _ h => by simp [Fence.wide, Fence.inRound] at h)
 rw [← hstart] at s1
 cases e with
 | normal =>
  obtain ⟨w₂, hbr, hbody⟩ := hq
  obtain ⟨e₂, a₂, w₃, hq₂, s3⟩ := hbody b [] (c :: cs) hro trivial (fun _ h => by simp [Fence.wide, Fence.inRound] at h)
  have s2 := StepsIn.trans s1 (.one (hcalm _) (stepR_beginRound hro hbr))
  cases e₂ with
  | normal =>
   obtain ⟨v, w₄, hend, hR⟩ := hq₂
   exact ⟨.returned v, w₄, hR, StepsIn.trans s2 (StepsIn.trans s3 (.one (hcalm _) (stepR_round_end hro hk hend)))⟩
  | panic ch =>
   obtain ⟨hd, hR⟩ := hq₂
   obtain ⟨todo, s4⟩ := s3
   obtain ⟨fn, hfn⟩ := hfun
   have hl : Frame.leaving P { b.atR a₂ todo with mode := .panicking ch } w₃ (.panicked ch) := ⟨rfl, hd, fn, by show P.funcs[b.fn]? = _; rw [hbf]; exact hfn⟩
   exact ⟨.panicked ch, w₃, hR, StepsIn.trans s2 (StepsIn.trans s4 (.one (hcalm _) (step_leave_panicked hl)))⟩
  | exit id => exact hq₂.elim
  | goto t => exact hq₂.elim
  | ret => exact hq₂.elim
  | outgrown => exact hq₂.elim
 | exit id => exact hq.elim
 | goto t => exact hq.elim
 | ret => exact hq.elim
 | panic ch => exact hq.elim
 | outgrown => exact hq.elim

/-- The walk of the activations of ONE function, f. -/
def wpF (P : Program) (f : FuncId) (c : Code) (Q : Exit → Act → World → Prop) (a : Act) (w : World) : Prop :=
 ∀ (b : Frame) (k : List Item) (cs : List Frame), b.roundOf = none → b.fn = f →
  ∃ e a' w', Q e a' w' ∧ ArrivesIn (Machine.fenced P Fence.wide) P (lone (b.atR a (.code c :: k)) cs w) b k cs e a' w'
section
variable {P : Program} {f : FuncId} {Q : Exit → Act → World → Prop} {a : Act} {w : World}
theorem wpF_of {c : Code} (h : c.wp P Q a w) : wpF P f c Q a w := fun b k cs hr _ => (wpIn_wide (n := 0)).2 h b k cs hr trivial (room_wide _)
theorem wpF_mono {c : Code} {Q' : Exit → Act → World → Prop} (h : wpF P f c Q a w) (hq : ∀ e a w, Q e a w → Q' e a w) : wpF P f c Q' a w := fun b k cs hr hf => by
 obtain ⟨e, a', w', q, s⟩ := h b k cs hr hf
 exact ⟨e, a', w', hq _ _ _ q, s⟩
theorem wpF_seq {x y : Code} (h : wpF P f x (Exit.then (wpF P f y Q) Q) a w) : wpF P f (.seq x y) Q a w := by
 intro b k cs hr hf
 obtain ⟨e, a₁, w₁, hq, s⟩ := h b (.code y :: k) cs hr hf
 have one : StepsIn (Machine.fenced P Fence.wide) P (lone (b.atR a (.code (.seq x y) :: k)) cs w) (lone (b.atR a (.code x :: .code y :: k)) cs w) := .one (fenced_wide P _) stepR_seq
 by_cases hn : e = .normal
 · subst hn
   obtain ⟨e₂, a₂, w₂, hq₂, s₂⟩ := hq b k cs hr hf
   exact ⟨e₂, a₂, w₂, hq₂, .of_steps (StepsIn.trans one s) s₂⟩
 · have hQ : Q e a₁ w₁ := by cases e <;> first | exact absurd rfl hn | exact hq
   exact ⟨e, a₁, w₁, hQ, .of_steps one (.pass (x := .code y) rfl (fun _ _ => .inl hn) s)⟩
theorem wpF_block {id : Nat} {c : Code} (h : wpF P f c (fun e a w => match e with | .exit _ => False | .goto _ => False | e => Q e a w) a w) : wpF P f (.block id c) Q a w := by
 intro b k cs hr hf
 obtain ⟨e, a₁, w₁, hq, s⟩ := h b (.inBlock id :: k) cs hr hf
 have one : StepsIn (Machine.fenced P Fence.wide) P (lone (b.atR a (.code (.block id c) :: k)) cs w) (lone (b.atR a (.code c :: .inBlock id :: k)) cs w) := .one (fenced_wide P _) stepR_block
 cases e with
 | normal => exact ⟨.normal, a₁, w₁, hq, StepsIn.trans one (StepsIn.trans s (.one (fenced_wide P _) stepR_inBlock))⟩
 | exit id' => exact hq.elim
 | goto t => exact hq.elim
 | ret => exact ⟨.ret, a₁, w₁, hq, .of_steps one s⟩
 | panic ch => exact ⟨.panic ch, a₁, w₁, hq, .of_steps one s⟩
 | outgrown => exact ⟨.outgrown, a₁, w₁, hq, .of_steps one s⟩

theorem wpF_scope {c : Code} (h : wpF P f c (fun e a w => match e with | .exit _ => False | .goto _ => False | e => Q e a w) a w) : wpF P f (.scope c) Q a w := by
 intro b k cs hr hf
 obtain ⟨e, a₁, w₁, hq, s⟩ := h b (.inScope c :: k) cs hr hf
 have at_ : ∀ (a : Act) (k : List Item), b.atR a k = b.at a k := fun a k => by rw [Frame.atR_of_none hr]
 have one : StepsIn (Machine.fenced P Fence.wide) P (lone (b.atR a (.code (.scope c) :: k)) cs w) (lone (b.atR a (.code c :: .inScope c :: k)) cs w) := .one (fenced_wide P _) (by rw [at_, at_]; exact step_scope)
 cases e with
 | normal => exact ⟨.normal, a₁, w₁, hq, StepsIn.trans one (StepsIn.trans s (.one (fenced_wide P _) (by rw [at_, at_]; exact step_inScope)))⟩
 | exit id' => exact hq.elim
 | goto t => exact hq.elim
 | ret => exact ⟨.ret, a₁, w₁, hq, .of_steps one s⟩
 | panic ch => exact ⟨.panic ch, a₁, w₁, hq, .of_steps one s⟩
 | outgrown => exact ⟨.outgrown, a₁, w₁, hq, .of_steps one s⟩

/-- How the body of a round is left: at its end, or by the panic ch. -/
def RPostP {α : Type} (C : Nat → Prop) (I : List α → World → Prop) (chn : List PanicEntry) (Ip : List α → Prop) (xs : List α) (W : World) : Exit → Act → World → Prop
 | .normal, _, W' => Keep C W W' ∧ I xs W'
 | .panic ch, a, W' => a.defers = [] ∧ ch = chn ∧ Keep C W W' ∧ Ip xs
 | _, _, _ => False

/-- What an iterator promises whose rounds may panic (it turns the blocks of Sb, no others): all of T comes, in order, or a round's panic goes up. -/
def IterP {α : Type} (P : Program) (gf : Nat) (lb : Array Value) (enc : α → Value) (Sb : Nat → Prop) (chn : List PanicEntry) (T : List α) (w : World) : Prop :=
 ∀ (l : Nat) (C' : Nat → Prop) (J : List α → World → Prop) (Jp : List α → Prop) (W : World), Below w.heap.size w W → (∀ k, C' k → ¬ Sb k) →
  (∀ pre V V', J pre V → Keep Sb V V' → J pre V') →
  (∀ pre x W1, pre ++ [x] <+: T → J pre W1 → YieldAt Fence.wide 0 P l #[enc x] W1 fun e W' =>
   Keep C' W1 W' ∧ ((e = .returned (.bool true) ∧ J (pre ++ [x]) W') ∨ (e = .panicked chn ∧ Jp (pre ++ [x])))) →
  J [] W →
  Calls P gf (#[.func (.yield l) #[] #[]] ++ lb) W fun e W' => Keep (fun k => Sb k ∨ C' k) W W' ∧ (((∃ v, e = .returned v) ∧ J T W') ∨ (e = .panicked chn ∧ ∃ q, q <+: T ∧ Jp q))

theorem wpF_range {α : Type} {g : Operand} {ps : Array Tmp} {assign body : Code} {gf : Nat} {lb : Array Value} {enc : α → Value} {C Sb : Nat → Prop} {chn : List PanicEntry} {T : List α}
 (hfun : ∃ fn, P.funcs[f]? = some fn) (hg : a.eval g = .func (.func gf) #[] lb) (eg : ∀ args w, (callFunc gf args).run P w = .ok (.enter gf args) w) (hps : ps.size = 1) (hit : IterP P gf lb enc Sb chn T w)
 (hC : ∀ k, C k → k < w.heap.size ∧ ¬ Sb k) (hSb : ∀ k, Sb k → k < w.heap.size)
 (I : List α → World → Prop) (Ip : List α → Prop) (hI : ∀ pre V V', I pre V → Keep (fun k => Sb k ∨ k = w.heap.size ∨ k = w.heap.size + 1) V V' → I pre V')
 (h0 : I [] w)
 (hbody : ∀ l pre x W1, l = w.heap.size + 1 → pre ++ [x] <+: T → I pre W1 → l < W1.heap.size →
  assign.wpIn (Fence.wide.inRound l) 0 P (Exit.then (fun a₁ W2 => Keep C W1 W2 ∧ ∀ W3, Keep (fun k => k = l) W2 W3 → body.wpIn (Fence.wide.inRound l) 0 P (RPostP C I chn Ip (pre ++ [x]) W3) a₁ W3) (fun _ _ _ => False))
   { tmps := (ps.zip #[enc x]).foldl (fun t (p, v) => t.setIfInBounds p v) a.tmps, defers := [] } W1)
 (hdone : ∀ D W', D = w.heap.size → I T W' → Keep (fun k => Sb k ∨ C k) w W' → W'.heap[D]? = some (.deferred (some [])) → Q .normal { a with defers := { target := .collected D, args := #[] } :: a.defers } W')
 (hpanic : ∀ D q W', D = w.heap.size → q <+: T → Ip q → Keep (fun k => Sb k ∨ C k) w W' → W'.heap[D]? = some (.deferred (some [])) → Q (.panic chn) { a with defers := { target := .collected D, args := #[] } :: a.defers } W') :
 wpF P f (.rangeFunc g ps assign body) Q a w := by
 intro b k cs hro hbf
 obtain ⟨rec, hrec⟩ : ∃ rec : LoopState → Option Code → Loop, rec = fun st pe => { state := st, pending := pe, fn := f, tmps := a.tmps, params := ps, assign, body, defers := w.heap.size } := ⟨_, rfl⟩
 obtain ⟨W1, hW1⟩ : ∃ W1, (w.alloc (.deferred (some []))).alloc (.loop (rec .ready none)) = W1 := ⟨_, rfl⟩
 have hL1 : W1.heap[w.heap.size + 1]? = some (.loop (rec .ready none)) := by
  rw [← hW1]; have := World.alloc_heap_new (w.alloc (.deferred (some []))) (.loop (rec .ready none)); rwa [World.size_alloc] at this
 have hK1 : W1.heap[w.heap.size]? = some (.deferred (some [])) := by
  rw [← hW1]; exact (Below.heap_alloc _ _ _ (by simp)).trans (World.alloc_heap_new w _)
 have hB1 : Below w.heap.size w W1 := by
  rw [← hW1]; exact (((Below.refl _ w).alloc (Nat.le_refl _) _).alloc (by simp) _)
 have hz1 : W1.heap.size = w.heap.size + 1 + 1 := by rw [← hW1]; simp
 have hI1 : I [] W1 := hI [] w W1 h0 (Keep.of_below' hB1 _)
 have hnl : ¬ C (w.heap.size + 1) := fun h => by have := (hC _ h).1; omega
 have hnd : ¬ C w.heap.size := fun h => by have := (hC _ h).1; omega
 have hsl : ¬ Sb (w.heap.size + 1) := fun h => by have := hSb _ h; omega
 have hsd : ¬ Sb w.heap.size := fun h => by have := hSb _ h; omega
 have hcall := hit (w.heap.size + 1) (fun k => C k ∨ k = w.heap.size + 1)
  (fun pre W => I pre W ∧ W.heap[w.heap.size + 1]? = some (.loop (rec .ready none)) ∧ W.heap[w.heap.size]? = some (.deferred (some []))) Ip W1 hB1
  (fun k h => h.elim (fun h => (hC k h).2) (fun h => by rw [h]; exact hsl)) ?stay ?round ⟨hI1, hL1, hK1⟩
 case stay =>
  rintro pre V V' ⟨h1, h2, h3⟩ hk
  exact ⟨hI pre V V' h1 (hk.mono (fun k _ h => .inl h)), (hk.block _ (Array.getElem?_eq_some_iff.1 h2).1 hsl).trans h2, (hk.block _ (Array.getElem?_eq_some_iff.1 h3).1 hsd).trans h3⟩
 case round =>
  rintro pre x W hx ⟨hi, hl, hk⟩
  have hlt : w.heap.size + 1 < W.heap.size := (Array.getElem?_eq_some_iff.1 hl).1
  have hy := run_yield (P := P) (args := #[enc x]) hl (by rw [hrec]; simp [hps])
  rw [hrec] at hy
  refine ⟨f, _, assign, body, hy, roundIn_panics hfun (wpIn_mono (hbody (w.heap.size + 1) pre x W rfl hx hi hlt) ?_)⟩
  clear hy
  intro e a₁ W2 h2
  cases e with
  | normal =>
   obtain ⟨hk2, hb2⟩ := h2
   have hl2 := (hk2.block _ hlt hnl).trans hl
   have hd2 := (hk2.block _ (by omega) hnd).trans hk
   have hlt2 : w.heap.size + 1 < W2.heap.size := (Array.getElem?_eq_some_iff.1 hl2).1
   refine ⟨_, run_beginRound hl2 (by rw [hrec]), ?_⟩
   have hkb : Keep (fun k => k = w.heap.size + 1) W2 (W2.putObj (w.heap.size + 1) (.loop { rec .ready none with state := .busy })) := Keep.putObj _ _ _ rfl
   have hl3 : (W2.putObj (w.heap.size + 1) (.loop { rec .ready none with state := .busy })).heap[w.heap.size + 1]? = some (.loop { rec .ready none with state := .busy }) := World.putObj_heap_same hlt2
   have hd3 : (W2.putObj (w.heap.size + 1) (.loop { rec .ready none with state := .busy })).heap[w.heap.size]? = some (.deferred (some [])) := (World.putObj_heap_other (by omega)).trans hd2
   have hz3 : w.heap.size + 1 < (W2.putObj (w.heap.size + 1) (.loop { rec .ready none with state := .busy })).heap.size := (Array.getElem?_eq_some_iff.1 hl3).1
   have hbd := hb2 _ hkb
   generalize (W2.putObj (w.heap.size + 1) (.loop { rec .ready none with state := .busy })) = W3 at *
   have hall : Keep (fun k => C k ∨ k = w.heap.size + 1) W W3 := (hk2.mono (fun k _ h => .inl h)).trans (hkb.mono (fun k _ h => .inr h))
   refine wpIn_mono hbd ?_
   rintro e a3 W4 hp
   cases e with
   | normal =>
    obtain ⟨hk4, hi4⟩ := hp
    have hl4 := (hk4.block _ hz3 hnl).trans hl3
    have hd4 := (hk4.block _ (by omega) hnd).trans hd3
    have hr := run_endRound (P := P) none hl4
    have hr' : (Instr.endRound (w.heap.size + 1) none).run P W4 = .ok (.bool true) (W4.putObj (w.heap.size + 1) (.loop (rec .ready none))) := by rw [hr, hrec]; rfl
    exact ⟨_, _, hr', hall.trans ((hk4.mono (fun k _ h => .inl h)).trans (Keep.putObj _ _ _ (.inr rfl))), .inl ⟨rfl, hI _ _ _ hi4 (Keep.putObj _ _ _ (.inr (.inr rfl))), World.putObj_heap_same (Array.getElem?_eq_some_iff.1 hl4).1, (World.putObj_heap_other (by omega)).trans hd4⟩⟩
   | panic ch =>
    obtain ⟨hdf, rfl, hk4, hi4⟩ := hp
    exact ⟨hdf, hall.trans (hk4.mono (fun k _ h => .inl h)), .inr ⟨rfl, hi4⟩⟩
   | ret => exact hp.elim
   | exit id => exact hp.elim
   | goto t => exact hp.elim
   | outgrown => exact hp.elim
  | ret => exact h2.elim
  | exit id => exact h2.elim
  | goto t => exact h2.elim
  | panic ch => exact h2.elim
  | outgrown => exact h2.elim
 have henter : (Instr.enterLoop b.fn a.tmps ps assign body b.roundOf).run P w = .ok (w.heap.size + 1, [{ target := .collected w.heap.size, args := #[] }]) W1 := by
  rw [hbf, hro, ← hW1, hrec]; exact run_enterLoop_outer _ _ _ _ _
 have hstep := stepR_rangeFunc (P := P) (g := g) (l := w.heap.size + 1) (b := b) (a := a) (k := k) (cs := cs) (w := w) (d := { target := .fn (.func gf) lb, args := #[.func (.yield (w.heap.size + 1)) #[] #[]] }) (w₁' := W1) (f := gf)
  (args := #[.func (.yield (w.heap.size + 1)) #[] #[]] ++ lb) (w₂ := W1) henter (by simp only [resolve, hg]; simp [go_sem]) (by simp [invoke, go_sem, eg])
 obtain ⟨e, W2, fr, ⟨hkw, hR⟩, hcomes, hfn, hleave⟩ := hcall (b.atR { a with defers := [{ target := .collected w.heap.size, args := #[] }] ++ a.defers } (.inRangeFunc (w.heap.size + 1) :: k) :: cs)
 have hkk : ∀ o : Obj, Keep (fun k => Sb k ∨ C k) w (W2.putObj (w.heap.size + 1) o) := fun o =>
  (((Keep.of_below' hB1 (fun k => Sb k ∨ (C k ∨ k = w.heap.size + 1))).trans hkw).trans (Keep.putObj _ _ _ (.inr (.inr rfl)))).mono (fun k hk h => by
   rcases h with h | h | h
   · exact .inl h
   · exact .inr h
   · omega)
 have first : StepsIn (Machine.fenced P Fence.wide) P (lone (b.atR a (.code (.rangeFunc g ps assign body) :: k)) cs w) _ := .one (fenced_wide P _) hstep
 rcases hR with ⟨⟨v, rfl⟩, hi, hl, hd⟩ | ⟨rfl, q, hq, hp⟩
 · obtain ⟨ox, hend⟩ : ∃ ox, (Instr.endLoop (w.heap.size + 1)).run P W2 = .ok none (W2.putObj (w.heap.size + 1) ox) := ⟨_, by have := run_endLoop (P := P) hl (by rw [hrec]; simp); rw [hrec] at this; exact this⟩
   have sback := stepR_endRangeFunc (P := P) (b := b) (a := { a with defers := [{ target := .collected w.heap.size, args := #[] }] ++ a.defers }) (k := k) (cs := cs) hend
   refine ⟨.normal, _, _, hdone w.heap.size (W2.putObj (w.heap.size + 1) ox) rfl (hI _ _ _ hi (Keep.putObj _ _ _ (.inr (.inr rfl)))) (hkk ox) ((World.putObj_heap_other (by omega)).trans hd), ?_⟩
   refine StepsIn.trans first (StepsIn.trans (stepsIn_wide.2 hcomes) (.head (fenced_wide P _) ?_ (.one (fenced_wide P _) sback)))
   rw [← finish_atR_inRangeFunc (w.heap.size + 1) v]
   exact step_leave_returned hleave
 · have hd : W2.heap[w.heap.size]? = some (.deferred (some [])) := (hkw.block _ (by omega) (fun h => by rcases h with h | h | h; exact hsd h; exact hnd h; omega)).trans hK1
   refine ⟨.panic chn, _, W2, hpanic w.heap.size q W2 rfl hq hp (((Keep.of_below' hB1 (fun k => Sb k ∨ (C k ∨ k = w.heap.size + 1))).trans hkw).mono (fun k hk h => by
    rcases h with h | h | h
    · exact .inl h
    · exact .inr h
    · omega)) hd, .inRangeFunc (w.heap.size + 1) :: k, ?_⟩
   refine StepsIn.trans first (StepsIn.trans (stepsIn_wide.2 hcomes) (.one (fenced_wide P _) ?_))
   rw [← Frame.raise_atR]
   exact step_leave_panicked hleave
end
end Go.Proofs.YtocdmkilnbpkdaaGreatDoor
