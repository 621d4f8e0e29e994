/- The plain law of chapter 12: a book as a way of steps. -/
import Derived.Test.YtocdmkilnbpkdaaGreatDoorYD
import Derived.Test.YtocdmkilnbpkdaaGreatDoorZA
set_option linter.unusedVariables false
set_option linter.unusedSimpArgs false
namespace Go.Proofs.YtocdmkilnbpkdaaGreatDoor
open Go.RowKit

def wayOf (b : Book) : Way := ⟨b.steps.length, fun k => (nth b.steps k).from_.toNat, fun k => (nth b.steps k).loss⟩
/-- What looking at a book leans on: its steps are as stated, its tallies in range (however many). -/
structure Good (b : Book) : Prop where
 pos : 0 < b.steps.length
 six : b.steps.length ≤ 6
 first : (nth b.steps 0).from_ = -1
 from_ : ∀ i, 0 < i → i < b.steps.length → 0 ≤ (nth b.steps i).from_ ∧ (nth b.steps i).from_ < i
 loss : ∀ i, i < b.steps.length → 0 ≤ (nth b.steps i).loss ∧ (nth b.steps i).loss ≤ 20
 tally : ∀ i, i < b.tallies.length → (0 ≤ (nth b.tallies i).step ∧ (nth b.tallies i).step < b.steps.length) ∧ (0 ≤ (nth b.tallies i).hands ∧ (nth b.tallies i).hands ≤ 99) ∧ 0 ≤ (nth b.tallies i).off ∧ (nth b.tallies i).off ≤ 9
theorem Valid.good {b : Book} (h : Valid b) : Good b := ⟨h.pos, h.steps, h.first, h.from_, h.loss, h.tally⟩
theorem Good.way {b : Book} (h : Good b) : (wayOf b).Ok := ⟨h.pos, h.six, fun k h0 hk => by
 have := h.from_ k h0 hk
 show (nth b.steps k).from_.toNat < k
 omega, h.loss⟩
/-- The steps behind a step. -/
def behindB (b : Book) (i : Nat) : List Nat := (List.range b.steps.length).filter fun k => (nth b.steps k).from_ == (i : Int)
theorem behind_kids {b : Book} (h : Good b) (i : Nat) : behindB b i = (wayOf b).kids i := by
 refine List.filter_congr fun k hk => ?_
 have hk' := List.mem_range.1 hk
 show ((nth b.steps k).from_ == (i : Int)) = (decide (0 < k) && decide ((nth b.steps k).from_.toNat = i))
 rw [Bool.eq_iff_iff, Bool.and_eq_true, beq_iff_eq, decide_eq_true_eq, decide_eq_true_eq]
 by_cases h0 : k = 0
 · subst h0
   have := h.first
   omega
 · have := h.from_ k (by omega) hk'
   omega
/-- What can be at each step by its tallies, but for some. -/
def tallC (b : Book) (but : Nat → Bool) : Nat → Nat → Span
 | 0 => fun i => if i < b.steps.length then ⟨0, 99⟩ else ⟨0, 0⟩
 | j + 1 => if but j then tallC b but j else upd (tallC b but j) (nth b.tallies j).step.toNat (both (tallC b but j (nth b.tallies j).step.toNat) ⟨(nth b.tallies j).hands - (nth b.tallies j).off, (nth b.tallies j).hands + (nth b.tallies j).off⟩)
def cB (b : Book) (but : Nat → Bool) : Nat → Span := tallC b but b.tallies.length
theorem tall_99 {b : Book} (but : Nat → Bool) : ∀ j i, i < b.steps.length → 0 ≤ (tallC b but j i).lo ∧ (tallC b but j i).hi ≤ 99
 | 0, i, hi => by simp [tallC, hi]
 | j + 1, i, hi => by
  have ih := tall_99 but j i hi
  rw [tallC]
  split
  · exact ih
  · by_cases e : i = (nth b.tallies j).step.toNat
    · rw [e]; rw [e] at ih
      rw [upd_at]; simp only [both]; omega
    · rw [upd_ne _ _ e]; exact ih
theorem cB_99 (b : Book) (but : Nat → Bool) : In99 (wayOf b) (cB b but) := fun i hi => tall_99 but _ i hi
theorem tall_out {b : Book} (h : Good b) (but : Nat → Bool) : ∀ j, j ≤ b.tallies.length → ∀ i, b.steps.length ≤ i → tallC b but j i = ⟨0, 0⟩
 | 0, _, i, hi => by simp [tallC]; omega
 | j + 1, hj, i, hi => by
  have ih := tall_out h but j (by omega) i hi
  have := h.tally j (by omega)
  rw [tallC]
  split
  · exact ih
  · rw [upd_ne _ _ (by omega)]; exact ih
/-- Which numbers a tally allows. -/
def tallyOk (t : Tally) (n : Int) : Bool := decide (0 - t.off ≤ n - t.hands ∧ n - t.hands ≤ t.off)
theorem setOf_tall {b : Book} (h : Good b) (but : Nat → Bool) {i : Nat} (hi : i < b.steps.length) : ∀ j, j ≤ b.tallies.length → ∀ t : Nat, t ≤ 99 →
 setOf (tallC b but j i) t = (List.range j).all fun q => but q || !((nth b.tallies q).step == (i : Int)) || tallyOk (nth b.tallies q) t
 | 0, _, t, ht => by
  simp [tallC, hi, setOf]; omega
 | j + 1, hj, t, ht => by
  have ih := setOf_tall h but hi j (by omega) t ht
  have hs := h.tally j (by omega)
  rw [List.range_succ, List.all_append, ← ih, tallC]
  cases hb : but j with
  | true => simp [hb]
  | false =>
   simp only [hb, Bool.false_eq_true, if_false, List.all_cons, List.all_nil, Bool.and_true, Bool.false_or]
   by_cases e : i = (nth b.tallies j).step.toNat
   · have e2 : ((nth b.tallies j).step == (i : Int)) = true := by rw [beq_iff_eq]; omega
     rw [e2, ← e, upd_at, setOf_both]
     congr 1
     rw [Bool.eq_iff_iff, setOf_iff, tallyOk]
     simp only [Bool.not_true, Bool.false_or, decide_eq_true_eq]
     omega
   · have e2 : ((nth b.tallies j).step == (i : Int)) = false := by rw [beq_eq_false_iff_ne]; omega
     rw [e2, upd_ne _ _ e]; simp
def someB (b : Book) (but : Nat → Bool) : Bool := neB ((wayOf b).u (cB b but) 0)
def handsB (b : Book) (but : Nat → Bool) (i : Nat) : Span := (wayOf b).d (cB b but) i
def lostB (b : Book) (i : Nat) : Span := (wayOf b).lost (cB b fun _ => false) i
/-- A book with one more tally. -/
def tellB (b : Book) (t : Tally) : Book := { b with tallies := b.tallies ++ [t] }
theorem way_tell (b : Book) (t : Tally) : wayOf (tellB b t) = wayOf b := rfl
theorem tall_ext {b b' : Book} {but but' : Nat → Bool} (hs : b'.steps.length = b.steps.length) : ∀ j, (∀ q, q < j → nth b'.tallies q = nth b.tallies q ∧ but' q = but q) → tallC b' but' j = tallC b but j
 | 0, _ => by funext i; rw [tallC, tallC, hs]
 | j + 1, h => by
  have ih := tall_ext (but := but) (but' := but') hs j fun q hq => h q (by omega)
  rw [tallC, tallC, ih, (h j (by omega)).1, (h j (by omega)).2]
theorem cB_tell (b : Book) (t : Tally) (but : Nat → Bool) : cB (tellB b t) but = if but b.tallies.length then cB b but else upd (cB b but) t.step.toNat (both (cB b but t.step.toNat) ⟨t.hands - t.off, t.hands + t.off⟩) := by
 have hl : (tellB b t).tallies.length = b.tallies.length + 1 := by simp [tellB]
 have e : nth (tellB b t).tallies b.tallies.length = t := by simp [tellB, nth]
 have e2 : tallC (tellB b t) but b.tallies.length = tallC b but b.tallies.length := tall_ext (b := b) (b' := tellB b t) (but := but) (but' := but) rfl _ fun q hq => ⟨by
  show nth (b.tallies ++ [t]) q = _
  unfold nth; rw [List.getD_eq_getElem?_getD, List.getD_eq_getElem?_getD, List.getElem?_append_left hq], rfl⟩
 rw [cB, hl, tallC, e, e2]
 rfl
theorem cB_one (b : Book) (i : Nat) (n : Int) : cB (tellB b ⟨i, n, 0⟩) (fun _ => false) = fixC (cB b fun _ => false) i n := by
 rw [cB_tell, if_neg (by simp), fixC]
 simp
theorem Good.tell {b : Book} (h : Good b) {t : Tally} (ht : (0 ≤ t.step ∧ t.step < b.steps.length) ∧ (0 ≤ t.hands ∧ t.hands ≤ 99) ∧ 0 ≤ t.off ∧ t.off ≤ 9) : Good (tellB b t) :=
 ⟨h.pos, h.six, h.first, h.from_, h.loss, fun i hi => by
  have hi' : i < b.tallies.length + 1 := by simpa [tellB] using hi
  by_cases e : i < b.tallies.length
  · rw [show nth (tellB b t).tallies i = nth b.tallies i by show nth (b.tallies ++ [t]) i = _; unfold nth; rw [List.getD_eq_getElem?_getD, List.getD_eq_getElem?_getD, List.getElem?_append_left e]]
    exact h.tally i e
  · obtain rfl : i = b.tallies.length := by omega
    rw [show nth (tellB b t).tallies b.tallies.length = t by simp [tellB, nth]]
    exact ht⟩
/-- The first truth, step by step. -/
def firstB (b : Book) (i : Nat) : Int := (wayOf b).first (cB b fun _ => false) i
def tellsB (b : Book) : Nat → Book
 | 0 => b
 | i + 1 => tellB (tellsB b i) ⟨i, firstB b i, 0⟩
theorem tells_steps (b : Book) : ∀ i, (tellsB b i).steps = b.steps
 | 0 => rfl
 | i + 1 => tells_steps b i
theorem tells_len (b : Book) : ∀ i, (tellsB b i).tallies.length = b.tallies.length + i
 | 0 => rfl
 | i + 1 => by rw [tellsB, tellB, List.length_append, tells_len b i]; rfl
theorem tells_c (b : Book) : ∀ i, cB (tellsB b i) (fun _ => false) = (wayOf b).firstC (cB b fun _ => false) i
 | 0 => rfl
 | i + 1 => by
  rw [tellsB, cB_one, tells_c b i, Way.firstC]
  rfl
theorem way_tells (b : Book) (i : Nat) : wayOf (tellsB b i) = wayOf b := by rw [wayOf, tells_steps, wayOf]
theorem hands_99 {b : Book} (h : Good b) {but : Nat → Bool} (hs : someB b but = true) {i : Nat} (hi : i < b.steps.length) : 0 ≤ (handsB b but i).lo ∧ (handsB b but i).lo ≤ (handsB b but i).hi ∧ (handsB b but i).hi ≤ 99 := d_tame h.way (cB_99 b but) (u_ne h.way hs) i hi
theorem first_99B {b : Book} (h : Good b) (hs : someB b (fun _ => false) = true) {i : Nat} (hi : i < b.steps.length) : 0 ≤ firstB b i ∧ firstB b i ≤ 99 := by
 have hn := u_ne h.way (first_ne h.way hs i (by show i ≤ b.steps.length; omega))
 have := d_tame h.way (first_99 (cB_99 b _) i) hn i hi
 unfold firstB Way.first
 omega
theorem tells_good {b : Book} (h : Good b) (hs : someB b (fun _ => false) = true) : ∀ i, i ≤ b.steps.length → Good (tellsB b i)
 | 0, _ => h
 | i + 1, hi => (tells_good h hs i (by omega)).tell ⟨by rw [tells_steps]; simp only; omega, first_99B h hs (by omega), by simp only; omega⟩
theorem tells_some {b : Book} (h : Good b) (hs : someB b (fun _ => false) = true) {i : Nat} (hi : i ≤ b.steps.length) : someB (tellsB b i) (fun _ => false) = true := by
 rw [someB, way_tells, tells_c]
 exact first_ne h.way hs i hi
theorem tells_hands (b : Book) (i : Nat) : (handsB (tellsB b i) (fun _ => false) i).lo = firstB b i := by
 rw [handsB, way_tells, tells_c]; rfl
end Go.Proofs.YtocdmkilnbpkdaaGreatDoor
