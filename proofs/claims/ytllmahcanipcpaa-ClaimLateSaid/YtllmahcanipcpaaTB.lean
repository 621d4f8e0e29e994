/- The plain law of ClaimLate: a claim that is late, or not the first one, or against a party that cannot be, is never paid. -/
import Derived.Test.YtllmahcanipcpaaSX
set_option linter.unusedVariables false
set_option linter.unusedSimpArgs false
namespace Go.Proofs.Ytllmahcanipcpaa

theorem any_and {α : Type} (l : List α) (q : α → Bool) (b : Bool) : l.any (fun x => q x && b) = (l.any q && b) := by
  induction l with
  | nil => cases b <;> rfl
  | cons x l ih => rw [List.any_cons, List.any_cons, ih]; cases b <;> simp
theorem late_laws {f : File} (h : someT f = true) {n : Nat} (hn : n < f.claims.length) : ∃ (how : Int) (who opn : List Nat),
    payV f n = (how, 0) ∧ whoV f (nth f.claims n).lot = (who, 0) ∧ openV f = (opn, 0) ∧
    (decide ((nth f.claims n).day > nth f.untils (nth f.claims n).against.toNat) || (!firstB f n || !hasInt (natInts who) (nth f.claims n).against)) = (how == 2) ∧
    (decide ((nth f.claims n).day > nth f.untils (nth f.claims n).against.toNat) = false → intsB (natInts who) [(nth f.claims n).against] = true → hasInt (natInts opn) (nth f.claims n).lot = false) := by
  obtain ⟨hv, _, hne⟩ := some_ok h
  obtain ⟨c1, c2, c3, c4, c5, c6⟩ := hv.claim n hn
  have hw := who_ok h (show (nth f.claims n).lot.toNat < f.lots.length by omega)
  rw [show (((nth f.claims n).lot.toNat : Nat) : Int) = (nth f.claims n).lot by omega] at hw
  have hag : (((nth f.claims n).against.toNat : Nat) : Int) = (nth f.claims n).against := by omega
  have hlo : (((nth f.claims n).lot.toNat : Nat) : Int) = (nth f.claims n).lot := by omega
  have hp : (fun g => paidB f g n) = fun g => (withM f g (nth f.claims n).lot.toNat == (nth f.claims n).against) && (decide ((nth f.claims n).day ≤ nth f.untils (nth f.claims n).against.toNat) && firstB f n) := by
    funext g; rw [paidB, Bool.and_assoc]
  have hT := (told3_must (q := fun g => paidB f g n) hne).2
  refine ⟨_, _, _, pay_ok h hn, hw, open_ok h, ?_, fun hl hi => ?_⟩
  · have hhas : hasInt (natInts (selN f.parties.length fun p => (truthsM f []).any fun g => withM f g (nth f.claims n).lot.toNat == (p : Int))) (nth f.claims n).against = (truthsM f []).any (fun g => withM f g (nth f.claims n).lot.toNat == (nth f.claims n).against) := by
      have := has_sel (q := fun p => (truthsM f []).any fun g => withM f g (nth f.claims n).lot.toNat == (p : Int)) (n := f.parties.length) (i := (nth f.claims n).against.toNat)
      rw [hag] at this
      rw [this, decide_eq_true (by omega), Bool.true_and]
    rw [hhas]
    rw [hp, any_and] at hT
    have hd : decide ((nth f.claims n).day > nth f.untils (nth f.claims n).against.toNat) = !decide ((nth f.claims n).day ≤ nth f.untils (nth f.claims n).against.toNat) := by
      rw [Bool.eq_iff_iff]; simp; 
    rw [hd, hp]
    rw [Bool.eq_iff_iff, beq_iff_eq, hT]
    cases decide ((nth f.claims n).day ≤ nth f.untils (nth f.claims n).against.toNat) <;> cases firstB f n <;> cases (truthsM f []).any (fun g => withM f g (nth f.claims n).lot.toNat == (nth f.claims n).against) <;> simp
  · have hall : (truthsM f []).all (fun g => settlesB f g ((nth f.claims n).lot.toNat : Nat)) = true := by
      rw [List.all_eq_true]
      intro g hg
      rw [settles_due hv.fair, List.any_eq_true]
      refine ⟨nth f.claims n, by rw [nth_eq hn]; exact List.getElem_mem hn, ?_⟩
      have hwi : withM f g (nth f.claims n).lot.toNat = (nth f.claims n).against := by
        rw [intsB_iff] at hi
        have hPl := truthsM_pl hv hg
        have hr := (hv.route (nth f.claims n).lot.toNat (by omega)).2.1 (nth g (nth f.claims n).lot.toNat).toNat (by have := hPl.2 (nth f.claims n).lot.toNat (by omega); omega)
        have := has_sel (q := fun p => (truthsM f []).any fun g => withM f g (nth f.claims n).lot.toNat == (p : Int)) (n := f.parties.length) (i := (withM f g (nth f.claims n).lot.toNat).toNat)
        have hx : hasInt (natInts (selN f.parties.length fun p => (truthsM f []).any fun g => withM f g (nth f.claims n).lot.toNat == (p : Int))) (((withM f g (nth f.claims n).lot.toNat).toNat : Nat) : Int) = true := by
          rw [this, Bool.and_eq_true]
          have e : (((withM f g (nth f.claims n).lot.toNat).toNat : Nat) : Int) = withM f g (nth f.claims n).lot.toNat := by rw [withM]; omega
          refine ⟨decide_eq_true (by rw [withM] at e ⊢; omega), List.any_eq_true.2 ⟨g, hg, by rw [e]; simp⟩⟩
        rw [hi] at hx
        simp only [hasInt, List.any_cons, List.any_nil, Bool.or_false, beq_iff_eq] at hx
        rw [hx, withM]; omega
      rw [decide_eq_false_iff_not] at hl
      simp only [dueB, Int.toNat_natCast, hwi, hlo, beq_self_eq_true, Bool.true_and, decide_eq_true_eq]
      omega
    have := has_sel (q := fun l => !(truthsM f []).all fun g => settlesB f g (l : Nat)) (n := f.lots.length) (i := (nth f.claims n).lot.toNat)
    rw [hlo] at this
    rw [this, hlo] at *
    rw [hall]; simp
end Go.Proofs.Ytllmahcanipcpaa
