/- The plain law of ClaimClaim: with one more claim no lot more is open, and no party owes less. -/
import Derived.Test.YtllmahcanipcpaaGreatSY
import Derived.Test.YtllmahcanipcpaaGreatSZ
set_option linter.unusedVariables false
set_option linter.unusedSimpArgs false
namespace Go.Proofs.YtllmahcanipcpaaGreat

theorem truths_moreF (f : File) (c : Claim) (but : List Int) : truthsM (moreF f c) but = truthsM f but := by
  rw [truthsM, truthsM, allP_lots (show (moreF f c).lots = f.lots from rfl)]; rfl
theorem nth_more {f : File} {c : Claim} {i : Nat} (hi : i < f.claims.length) : nth (moreF f c).claims i = nth f.claims i := by simp [moreF, nth, List.getElem?_append_left hi]
theorem nth_more_last (f : File) (c : Claim) : nth (moreF f c).claims f.claims.length = c := by simp [moreF, nth]
theorem more_check {f : File} (h : (checkM f).2.2 = 0) {c : Claim} (hl : f.claims.length < 5) (hc : 0 ≤ c.lot ∧ c.lot < f.lots.length ∧ 0 ≤ c.against ∧ c.against < f.parties.length ∧ 0 ≤ c.day ∧ c.day ≤ 60) : (checkM (moreF f c)).2.2 = 0 := by
  obtain ⟨h1, h2, h3, h4, h5, h6⟩ := check_parts h
  refine check_mk ⟨h1, h2, h3, h4, h5, failM_ok (by simp [moreF]; omega) (fun j hj => ?_)⟩
  have hj' : j < f.claims.length + 1 := by simpa [moreF] using hj
  by_cases hjl : j < f.claims.length
  · rw [nth_more hjl]; exact (failM_zero h6).2 j hjl
  · obtain rfl : j = f.claims.length := by omega
    rw [nth_more_last]
    show claimE f 0 c = 0
    rw [claimE, if_neg, if_neg]
    · rw [offP_false.2 ⟨by omega, by omega⟩]; simp
    · rw [offP_false.2 ⟨by omega, by omega⟩, offP_false.2 ⟨by omega, by omega⟩]; simp
theorem more_some {f : File} {c : Claim} (h : someT f = true) (hc : (checkM (moreF f c)).2.2 = 0) : someT (moreF f c) = true := some_mk hc (by rw [truths_moreF]; exact (some_ok h).2.2)
theorem open_more {f : File} {c : Claim} (h : someT f = true) (hz : someT (moreF f c) = true) : ∃ oo oz : List Nat, openV f = (oo, 0) ∧ openV (moreF f c) = (oz, 0) ∧ (natInts oz).all (hasInt (natInts oo)) = true ∧
    oo = selN f.lots.length fun l => !(truthsM f []).all fun g => settlesB f g l := by
  refine ⟨_, _, open_ok h, open_ok hz, sub_sel (Nat.le_refl _) fun l _ hl => ?_, rfl⟩
  rw [Bool.not_eq_true', List.all_eq_false] at hl ⊢
  rw [truths_moreF] at hl
  obtain ⟨g, hg, h2⟩ := hl
  refine ⟨g, hg, fun h3 => h2 ?_⟩
  rw [settles_more (some_ok h).1.fair (some_ok hz).1.fair, h3]; rfl
def claimedTo (f : File) (p : Int) (k : Nat) : Bool := (List.range k).any fun n => (nth f.claims n).against == p
theorem claimedTo_succ (f : File) (p : Int) (k : Nat) : claimedTo f p (k + 1) = (claimedTo f p k || (nth f.claims k).against == p) := by simp [claimedTo, List.range_succ]
theorem claim_laws {f : File} {c : Claim} (h : someT f = true) (hz : someT (moreF f c) = true) : ∃ (ss sz : Nat → Span), ∀ p : Nat, p < f.parties.length → owesV f p = (ss p, 0) ∧ owesV (moreF f c) p = (sz p, 0) ∧
    (claimedTo f p f.claims.length = false → ss p = ⟨0, 0⟩) ∧ ((p : Int) ≠ c.against → ss p = sz p) ∧ ¬ (sz p).hi < (ss p).hi ∧ ¬ (sz p).lo < (ss p).lo := by
  have hF := (some_ok h).1.fair
  have hZ := (some_ok hz).1.fair
  refine ⟨fun p => (owesV f p).1, fun p => (owesV (moreF f c) p).1, fun p hp => ?_⟩
  obtain ⟨s, e1, o1⟩ := owes_ok h hp
  obtain ⟨z, e2, o2⟩ := owes_ok hz (p := p) hp
  rw [truths_moreF] at o2
  have hle : ∀ g, sumM f g p ≤ sumM (moreF f c) g p := fun g => by
    rw [sum_lots hF, sum_lots hZ]
    refine S_le _ fun l hl => ?_
    rw [settles_more hF hZ]
    have hw := ((some_ok h).1.lot l hl).2.2.2.1
    show (if (withM f g l == (p : Int) && settlesB f g l) = true then (nth f.lots l).worth else 0) ≤ if (withM f g l == (p : Int) && (settlesB f g l || dueB f g l c)) = true then (nth f.lots l).worth else 0
    cases withM f g l == (p : Int) <;> cases settlesB f g l <;> cases dueB f g l c <;> simp <;> omega
  simp only [e1, e2]
  refine ⟨trivial, trivial, fun hcl => ?_, fun hne => ?_, ?_, ?_⟩
  · have hz : ∀ g, sumM f g p = 0 := fun g => by
      rw [sum_lots hF]
      refine S_none _ fun l _ => if_neg fun hh => ?_
      rw [Bool.and_eq_true, beq_iff_eq] at hh
      obtain ⟨n, hn, h1, h2⟩ := settles_paid.1 hh.2
      have hw := paid_with h2
      rw [h1, Int.toNat_natCast, hh.1] at hw
      rw [claimedTo, List.any_eq_false] at hcl
      exact hcl n (List.mem_range.2 hn) (by rw [hw]; simp)
    obtain ⟨_, ⟨g1, _, h1⟩, g2, _, h2⟩ := o1
    rw [hz] at h1 h2
    obtain ⟨lo, hi⟩ := s
    simp only at h1 h2
    rw [h1, h2]
  · have he : ∀ g, sumM (moreF f c) g p = sumM f g p := fun g => by
      rw [sum_lots hF, sum_lots hZ]
      refine S_ext _ fun l _ => ?_
      rw [settles_more hF hZ]
      show (if (withM f g l == (p : Int) && (settlesB f g l || dueB f g l c)) = true then (nth f.lots l).worth else 0) = if (withM f g l == (p : Int) && settlesB f g l) = true then (nth f.lots l).worth else 0
      cases hw : withM f g l == (p : Int) with
      | false => rfl
      | true =>
        cases hd : dueB f g l c with
        | false => simp
        | true =>
          exfalso
          simp only [dueB, Bool.and_eq_true, beq_iff_eq, Int.toNat_natCast] at hd hw
          exact hne (hw.symm.trans hd.2.1.symm)
    exact o1.unique o2 (fun g hg => ⟨g, hg, he g⟩) (fun g hg => ⟨g, hg, (he g).symm⟩)
  · obtain ⟨_, _, g, hg, hi⟩ := o1
    have := (o2.1 g hg).2
    have := hle g
    omega
  · obtain ⟨_, ⟨g, hg, hi⟩, _⟩ := o2
    have := (o1.1 g hg).1
    have := hle g
    omega
end Go.Proofs.YtllmahcanipcpaaGreat
