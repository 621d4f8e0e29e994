/- The plain law of ClaimOnce: in any truth a lot is paid once at most, by whom it turned with. -/
import Derived.Test.YtllmahcanipcpaaGreatSY
set_option linter.unusedVariables false
set_option linter.unusedSimpArgs false
namespace Go.Proofs.YtllmahcanipcpaaGreat

def denB (how : Int) (is : Bool) : Bool := (how == 1 && !is) || (how == 2 && is)
theorem den_told {T : List (List Int)} {q : List Int → Bool} {t : List Int} (ht : t ∈ T) : denB (told3 T q) (q t) = false := by
  have hne : T ≠ [] := fun e => by rw [e] at ht; simp at ht
  obtain ⟨h1, h2⟩ := told3_must (q := q) hne
  unfold denB
  cases hq : q t with
  | true =>
    rw [Bool.or_eq_false_iff]
    refine ⟨by simp, ?_⟩
    rw [Bool.and_true, beq_eq_false_iff_ne]
    intro e
    have := h2.1 e
    rw [List.any_eq_false] at this
    exact this t ht hq
  | false =>
    rw [Bool.or_eq_false_iff]
    refine ⟨?_, by simp⟩
    rw [Bool.not_false, Bool.and_true, beq_eq_false_iff_ne]
    intro e
    have := h1.1 e
    rw [List.all_eq_true] at this
    rw [this t ht] at hq; cases hq
theorem told_may3 {T : List (List Int)} {q : List Int → Bool} (h : T ≠ []) : (told3 T q == 0) = (T.any q && !T.all q) := by
  unfold told3
  cases ha : T.all q <;> cases hb : T.any q <;> simp
def paidTo (f : File) (t : List Int) (l k : Nat) : Int := S (fun n => if (nth f.claims n).lot.toNat = l then (if paidB f t n then 1 else 0) else 0) k
def sumsTo (f : File) (t : List Int) (k : Nat) : Int := S (fun n => if paidB f t n then (nth f.lots (nth f.claims n).lot.toNat).worth else 0) k
def worthTo (f : File) (t : List Int) (l : Nat) : Int := S (fun l => paidTo f t l f.claims.length * (nth f.lots l).worth) l
def owedTo (f : File) (t : List Int) (p : Nat) : Int := S (fun p => sumM f t p) p
theorem once_laws {f : File} (h : someT f = true) {t : List Int} (ht : t ∈ truthsM f []) : ∃ (hh : List Nat) (pp : Nat → Int) (ss : Nat → Span), heldV f = (hh, 0) ∧ risingB (natInts hh) (-1) f.claims.length = true ∧
    (∀ n, n < f.claims.length → payV f n = (pp n, 0) ∧ denB (pp n) (paidB f t n) = false ∧ (pp n == 0) = hasInt (natInts hh) n ∧ (paidB f t n = true → (nth f.claims n).against = withM f t (nth f.claims n).lot.toNat)) ∧
    (∀ l, l < f.lots.length → 0 ≤ paidTo f t l f.claims.length ∧ paidTo f t l f.claims.length ≤ 1) ∧
    (∀ p, p < f.parties.length → owesV f p = (ss p, 0) ∧ inB (sumM f t p) (ss p).lo (ss p).hi = true) ∧
    sumsTo f t f.claims.length = worthTo f t f.lots.length ∧ owedTo f t f.parties.length = worthTo f t f.lots.length := by
  obtain ⟨hv, _, hne⟩ := some_ok h
  have hP := truthsM_pl hv ht
  have hcnt : ∀ l, paidTo f t l f.claims.length = if settlesB f t l then 1 else 0 := fun l => cnt_lot hv.fair t l
  have hwo : worthTo f t f.lots.length = S (fun l => if settlesB f t l then (nth f.lots l).worth else 0) f.lots.length := by
    refine S_ext _ fun l _ => ?_
    rw [hcnt]
    split <;> omega
  refine ⟨_, fun n => told3 (truthsM f []) fun g => paidB f g n, fun p => (owesV f p).1, held_ok h, rising_sel _ _, fun n hn => ⟨pay_ok h hn, ?_, ?_, fun hp => paid_with hp⟩, fun l _ => ?_, fun p hp => ?_, ?_, ?_⟩
  · exact den_told (q := fun g => paidB f g n) ht
  · rw [has_sel, decide_eq_true hn, Bool.true_and]
    exact told_may3 hne
  · rw [hcnt]; split <;> omega
  · obtain ⟨s, e, o, _⟩ := owes_ok h hp
    simp only [e]
    have := o t ht
    exact ⟨trivial, by rw [inB, decide_eq_true_eq]; exact this⟩
  · rw [hwo]; exact sum_all hv.fair t
  · rw [hwo]; exact sum_parties hv.fair t (fun l hl => with_in hv hP hl)
theorem S_bd {F : Nat → Int} {b : Int} : ∀ n, (∀ i, i < n → 0 ≤ F i ∧ F i ≤ b) → 0 ≤ S F n ∧ S F n ≤ b * n
  | 0, _ => ⟨Int.le_refl _, by simp [S]⟩
  | n + 1, h => by
    have h1 := S_bd n (fun i hi => h i (by omega))
    have h2 := h n (by omega)
    rw [S]
    have : b * ((n + 1 : Nat) : Int) = b * n + b := by rw [Int.natCast_add, Int.mul_add]; simp
    omega
end Go.Proofs.YtllmahcanipcpaaGreat
