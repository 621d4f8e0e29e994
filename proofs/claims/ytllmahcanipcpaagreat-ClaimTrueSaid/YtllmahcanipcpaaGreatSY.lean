/- The plain law of chapter 11: sums over claims, lots and parties. -/
import Derived.Test.YtllmahcanipcpaaGreatSX
set_option linter.unusedVariables false
set_option linter.unusedSimpArgs false
namespace Go.Proofs.YtllmahcanipcpaaGreat

/-- The sum of the first n. -/
def S (F : Nat → Int) : Nat → Int
  | 0 => 0
  | n + 1 => S F n + F n
theorem S_ext {F G : Nat → Int} : ∀ n, (∀ i, i < n → F i = G i) → S F n = S G n
  | 0, _ => rfl
  | n + 1, h => by rw [S, S, S_ext n (fun i hi => h i (by omega)), h n (by omega)]
theorem S_zero : ∀ n, S (fun _ => 0) n = 0
  | 0 => rfl
  | n + 1 => by rw [S, S_zero n]; rfl
theorem S_add (F G : Nat → Int) : ∀ n, S (fun i => F i + G i) n = S F n + S G n
  | 0 => rfl
  | n + 1 => by rw [S, S, S, S_add F G n]; omega
theorem S_swap (F : Nat → Nat → Int) (m : Nat) : ∀ n, S (fun i => S (fun j => F i j) m) n = S (fun j => S (fun i => F i j) n) m
  | 0 => by
    show 0 = S (fun j => 0) m
    rw [S_zero]
  | n + 1 => by
    rw [S, S_swap F m n, ← S_add]
    rfl
theorem S_one {F : Nat → Int} {k : Nat} : ∀ n, k < n → (∀ i, i < n → i ≠ k → F i = 0) → S F n = F k
  | 0, h, _ => absurd h (Nat.not_lt_zero _)
  | n + 1, h, hz => by
    rw [S]
    by_cases hk : k = n
    · subst hk
      rw [S_ext (G := fun _ => 0) k (fun i hi => hz i (by omega) (by omega)), S_zero]; omega
    · rw [S_one n (by omega) (fun i hi hik => hz i (by omega) hik), hz n (by omega) (fun e => hk e.symm)]; omega
theorem S_none {F : Nat → Int} (n : Nat) (hz : ∀ i, i < n → F i = 0) : S F n = 0 := by rw [S_ext (G := fun _ => 0) n hz, S_zero]
/-- A sum over things, by where they lie. -/
theorem S_by {F : Nat → Int} {L : Nat → Nat} {n m : Nat} (hL : ∀ i, i < n → L i < m) : S F n = S (fun l => S (fun i => if L i = l then F i else 0) n) m := by
  rw [← S_swap]
  refine S_ext n fun i hi => ?_
  rw [S_one m (hL i hi) (fun l _ hl => if_neg fun e => hl e.symm), if_pos rfl]
theorem S_pos {F : Nat → Int} : ∀ n, (∀ i, i < n → 0 ≤ F i) → 0 ≤ S F n
  | 0, _ => Int.le_refl _
  | n + 1, h => by
    have := S_pos n (fun i hi => h i (by omega))
    have := h n (by omega)
    rw [S]; omega
theorem S_le {F G : Nat → Int} : ∀ n, (∀ i, i < n → F i ≤ G i) → S F n ≤ S G n
  | 0, _ => Int.le_refl _
  | n + 1, h => by
    have := S_le n (fun i hi => h i (by omega))
    have := h n (by omega)
    rw [S, S]; omega
theorem sumTo_S (f : File) (g : List Int) (party : Int) : ∀ k, sumTo f g party k = S (fun i => if (nth f.claims i).against == party && paidB f g i then (nth f.lots (nth f.claims i).lot.toNat).worth else 0) k
  | 0 => rfl
  | k + 1 => by rw [sumTo, S, sumTo_S f g party k]
theorem paid_unique {f : File} {g : List Int} {n m : Nat} (hn : n < f.claims.length) (hm : m < f.claims.length) (h : paidB f g n = true) (h' : paidB f g m = true) (hl : (nth f.claims n).lot = (nth f.claims m).lot) : n = m := by
  simp only [paidB, Bool.and_eq_true, beq_iff_eq, decide_eq_true_eq] at h h'
  obtain ⟨⟨a1, _⟩, a2⟩ := h
  obtain ⟨⟨b1, _⟩, b2⟩ := h'
  rw [hl] at a1
  have ha : (nth f.claims n).against = (nth f.claims m).against := a1.symm.trans b1
  rw [firstB, List.all_eq_true] at a2 b2
  have x := a2 m (List.mem_range.2 hm)
  have y := b2 n (List.mem_range.2 hn)
  rw [hl, ha] at x y
  simp only [beq_self_eq_true, Bool.true_and, Bool.not_eq_true', Bool.or_eq_false_iff, decide_eq_false_iff_not, Bool.and_eq_false_iff, beq_eq_false_iff_ne] at x y
  omega
theorem paid_with {f : File} {g : List Int} {n : Nat} (h : paidB f g n = true) : (nth f.claims n).against = withM f g (nth f.claims n).lot.toNat := by
  simp only [paidB, Bool.and_eq_true, beq_iff_eq, decide_eq_true_eq] at h
  exact h.1.1.symm
theorem settles_paid {f : File} {g : List Int} {l : Int} : settlesB f g l = true ↔ ∃ n, n < f.claims.length ∧ (nth f.claims n).lot = l ∧ paidB f g n = true := by
  rw [settlesB, List.any_eq_true]
  constructor
  · rintro ⟨n, hn, h⟩
    rw [Bool.and_eq_true, beq_iff_eq] at h
    exact ⟨n, List.mem_range.1 hn, h.1, h.2⟩
  · rintro ⟨n, hn, h1, h2⟩
    exact ⟨n, List.mem_range.2 hn, by rw [Bool.and_eq_true, beq_iff_eq]; exact ⟨h1, h2⟩⟩
/-- What claims of a lot bring, if it brings x to be paid. -/
theorem S_lot {f : File} (hv : Fair f) (g : List Int) (q : Int → Bool) (l : Nat) (x : Int) :
    S (fun n => if (nth f.claims n).lot.toNat = l then (if q (nth f.claims n).against && paidB f g n then x else 0) else 0) f.claims.length = if q (withM f g l) && settlesB f g l then x else 0 := by
  cases hs : settlesB f g (l : Int) with
  | false =>
    rw [Bool.and_false, if_neg (by simp)]
    refine S_none _ fun i hi => ?_
    by_cases hl : (nth f.claims i).lot.toNat = l
    · rw [if_pos hl]
      cases hp : paidB f g i with
      | false => rw [Bool.and_false, if_neg (by simp)]
      | true =>
        have : settlesB f g (l : Int) = true := settles_paid.2 ⟨i, hi, by have := (hv.claim i hi).1; omega, hp⟩
        rw [hs] at this; cases this
    · rw [if_neg hl]
  | true =>
    obtain ⟨n, hn, h1, h2⟩ := settles_paid.1 hs
    have hw := paid_with h2
    rw [S_one (k := n) _ hn (fun i hi hin => ?_), if_pos (by omega), h2, hw, h1, Int.toNat_natCast]
    by_cases hl : (nth f.claims i).lot.toNat = l
    · rw [if_pos hl]
      cases hp : paidB f g i with
      | false => rw [Bool.and_false, if_neg (by simp)]
      | true => exact absurd (paid_unique hi hn hp h2 (by have := (hv.claim i hi).1; omega)) hin
    · rw [if_neg hl]
theorem sum_lots {f : File} (hv : Fair f) (g : List Int) (party : Int) : sumM f g party = S (fun l => if (withM f g l == party) && settlesB f g l then (nth f.lots l).worth else 0) f.lots.length := by
  rw [sumM, sumTo_S, S_by (L := fun i => (nth f.claims i).lot.toNat) (m := f.lots.length) (fun i hi => by have := hv.claim i hi; omega)]
  refine S_ext _ fun l _ => ?_
  have := S_lot hv g (fun a => a == party) l (nth f.lots l).worth
  rw [← this]
  refine S_ext _ fun n _ => ?_
  by_cases hl : (nth f.claims n).lot.toNat = l
  · rw [if_pos hl, if_pos hl, hl]
  · rw [if_neg hl, if_neg hl]
theorem sum_all {f : File} (hv : Fair f) (g : List Int) : S (fun n => if paidB f g n then (nth f.lots (nth f.claims n).lot.toNat).worth else 0) f.claims.length = S (fun l => if settlesB f g l then (nth f.lots l).worth else 0) f.lots.length := by
  rw [S_by (L := fun i => (nth f.claims i).lot.toNat) (m := f.lots.length) (fun i hi => by have := hv.claim i hi; omega)]
  refine S_ext _ fun l _ => ?_
  have := S_lot hv g (fun _ => true) l (nth f.lots l).worth
  simp only [Bool.true_and] at this
  rw [← this]
  refine S_ext _ fun n _ => ?_
  by_cases hl : (nth f.claims n).lot.toNat = l
  · rw [if_pos hl, if_pos hl, hl]
  · rw [if_neg hl, if_neg hl]
theorem cnt_lot {f : File} (hv : Fair f) (g : List Int) (l : Nat) : S (fun n => if (nth f.claims n).lot.toNat = l then (if paidB f g n then 1 else 0) else 0) f.claims.length = if settlesB f g l then 1 else 0 := by
  have := S_lot hv g (fun _ => true) l 1
  simp only [Bool.true_and] at this
  exact this
/-- What all parties pay is what all paid lots are worth. -/
theorem sum_parties {f : File} (hv : Fair f) (g : List Int) (hw : ∀ l, l < f.lots.length → 0 ≤ withM f g l ∧ withM f g l < f.parties.length) : S (fun p => sumM f g p) f.parties.length = S (fun l => if settlesB f g l then (nth f.lots l).worth else 0) f.lots.length := by
  rw [S_ext (G := fun p => S (fun l => if (withM f g l == (p : Int)) && settlesB f g l then (nth f.lots l).worth else 0) f.lots.length) _ (fun p _ => sum_lots hv g p), S_swap]
  refine S_ext _ fun l hl => ?_
  have h := hw l hl
  rw [S_one (k := (withM f g l).toNat) _ (by omega) (fun p _ hp => ?_)]
  · rw [show (withM f g l == (((withM f g l).toNat : Nat) : Int)) = true by rw [beq_iff_eq]; omega, Bool.true_and]
  · rw [show (withM f g l == ((p : Nat) : Int)) = false by rw [beq_eq_false_iff_ne]; omega, Bool.false_and, if_neg (by simp)]
theorem with_in {f : File} (hv : Valid f) {g : List Int} (hP : Pl f g) {l : Nat} (hl : l < f.lots.length) : 0 ≤ withM f g l ∧ withM f g l < f.parties.length := by
  have := hP.2 l hl
  exact (hv.route l hl).2.1 (nth g l).toNat (by omega)
end Go.Proofs.YtllmahcanipcpaaGreat
