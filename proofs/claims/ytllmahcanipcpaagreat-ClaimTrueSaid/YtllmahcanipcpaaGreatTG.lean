/- The plain law of ClaimTrue: of what is so nothing is denied. -/
import Derived.Test.YtllmahcanipcpaaGreatSZ
import Derived.Test.YtllmahcanipcpaaGreatTC
set_option linter.unusedVariables false
set_option linter.unusedSimpArgs false
namespace Go.Proofs.YtllmahcanipcpaaGreat

theorem true_laws {f : File} (hc : (checkM f).2.2 = 0) {g : List Int} (hg : g ∈ allP f) : wrongV (toldF f g) = ([], 0) ∧ ∃ (oo : List Nat) (ww : Nat → List Nat) (ss : Nat → Span) (pp : Nat → Int), openV (toldF f g) = (oo, 0) ∧
    (∀ l, l < f.lots.length → whoV (toldF f g) l = (ww l, 0) ∧ hasInt (natInts (ww l)) (withM (toldF f g) g l) = true ∧ (settlesB (toldF f g) g l = false → hasInt (natInts oo) l = true)) ∧
    (∀ p, p < f.parties.length → owesV (toldF f g) p = (ss p, 0) ∧ inB (sumM (toldF f g) g p) (ss p).lo (ss p).hi = true) ∧
    (∀ n, n < f.claims.length → payV (toldF f g) n = (pp n, 0) ∧ denB (pp n) (paidB (toldF f g) g n) = false) := by
  obtain ⟨hck, ht⟩ := told_ok hc hg
  have h := told_some hc hg
  have hv := valid_of hck
  have hP : Pl (toldF f g) g := truthsM_pl hv ht
  refine ⟨wrong_some h, _, fun l => (whoV (toldF f g) l).1, fun p => (owesV (toldF f g) p).1, fun n => (payV (toldF f g) n).1, open_ok h, fun l hl => ?_, fun p hp => ?_, fun n hn => ?_⟩
  · have hw := who_ok h (l := l) hl
    have hin := with_in hv hP (l := l) hl
    simp only [hw]
    refine ⟨trivial, ?_, fun hs => ?_⟩
    · have := has_sel (q := fun p => (truthsM (toldF f g) []).any fun x => withM (toldF f g) x l == (p : Int)) (n := (toldF f g).parties.length) (i := (withM (toldF f g) g l).toNat)
      rw [show (((withM (toldF f g) g l).toNat : Nat) : Int) = withM (toldF f g) g l by omega] at this
      rw [this, decide_eq_true (by omega), Bool.true_and, List.any_eq_true]
      exact ⟨g, ht, by simp⟩
    · rw [has_sel, decide_eq_true (show l < (toldF f g).lots.length from hl), Bool.true_and, Bool.not_eq_true', List.all_eq_false]
      exact ⟨g, ht, by rw [hs]; simp⟩
  · obtain ⟨s, e, o, _⟩ := owes_ok h (p := p) hp
    simp only [e]
    have := o g ht
    exact ⟨trivial, by rw [inB, decide_eq_true_eq]; exact this⟩
  · simp only [pay_ok h (n := n) hn]
    exact ⟨trivial, den_told (q := fun x => paidB (toldF f g) x n) ht⟩
end Go.Proofs.YtllmahcanipcpaaGreat
