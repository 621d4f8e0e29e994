/- The plain law of ClaimNext: a claim as Next says is paid in as many truths as it says. -/
import Derived.Test.YtllmahcanipcpaaGreatTD
import Derived.Test.YtllmahcanipcpaaGreatSW
set_option linter.unusedVariables false
set_option linter.unusedSimpArgs false
namespace Go.Proofs.YtllmahcanipcpaaGreat

theorem bestI_spec {c : Nat → Int} (h0 : ∀ i, 0 ≤ c i) : ∀ k, (∀ i, i < k → c i ≤ (bestI c k).2) ∧ ((bestI c k).2 ≠ 0 → ∃ p : Nat, p < k ∧ (bestI c k).1 = p ∧ c p = (bestI c k).2 ∧ ∀ i, i < p → c i < c p)
  | 0 => ⟨fun i hi => absurd hi (Nat.not_lt_zero _), fun h => absurd rfl h⟩
  | k + 1 => by
    obtain ⟨h1, h2⟩ := bestI_spec h0 k
    rw [bestI]
    split
    · rename_i hlt
      refine ⟨fun i hi => ?_, fun _ => ⟨k, by omega, rfl, rfl, fun i hi => ?_⟩⟩
      · show c i ≤ c k
        by_cases hik : i = k
        · rw [hik]; exact Int.le_refl _
        · have := h1 i (by omega); omega
      · have := h1 i hi; omega
    · rename_i hlt
      refine ⟨fun i hi => ?_, fun hn => ?_⟩
      · by_cases hik : i = k
        · rw [hik]; omega
        · exact h1 i (by omega)
      · obtain ⟨p, hp, a, b, d⟩ := h2 hn
        exact ⟨p, by omega, a, b, d⟩
theorem told3_cnt {T : List (List Int)} {q : List Int → Bool} (h : T ≠ []) : (told3 T q == 1) = ((cntP q T : Nat) == T.length) ∧ (cntP q T ≠ 0 → told3 T q ≠ 2) := by
  obtain ⟨h1, h2⟩ := told3_must (q := q) h
  refine ⟨?_, fun hc e => hc ?_⟩
  · rw [Bool.eq_iff_iff, beq_iff_eq, beq_iff_eq, h1, cntP, List.all_eq_true]
    exact List.length_filter_eq_length_iff.symm
  · have := h2.1 e
    rw [List.any_eq_false] at this
    rw [cntP, List.length_eq_zero_iff, List.filter_eq_nil_iff]
    exact this
theorem next_laws {f : File} (h : someT f = true) {l : Nat} (hl : l < f.lots.length) {day : Int} (hd : 0 ≤ day ∧ day ≤ 60) {other : Nat} (ho : other < f.parties.length) :
    (nextV f l day = ((0, 0), 9) ∧ helpsM f ⟨l, other, day⟩ (truthsM f []) = 0) ∨
    ∃ party helps : Nat, party < f.parties.length ∧ 1 ≤ helps ∧ nextV f l day = (((party : Int), (helps : Int)), 0) ∧ helpsM f ⟨l, party, day⟩ (truthsM f []) = helps ∧ helpsM f ⟨l, other, day⟩ (truthsM f []) ≤ helps ∧
      (helpsM f ⟨l, other, day⟩ (truthsM f []) = helps → party ≤ other) ∧
      (f.claims.length < 5 → ∃ (how : Int) (oo oz : List Nat), payV (moreF f ⟨l, party, day⟩) f.claims.length = (how, 0) ∧ openV f = (oo, 0) ∧ openV (moreF f ⟨l, party, day⟩) = (oz, 0) ∧ how ≠ 2 ∧ (how == 1) = (helps == (truthsM f []).length) ∧
        hasInt (natInts oo) (l : Nat) = true ∧ (natInts oz).all (hasInt (natInts oo)) = true) := by
  obtain ⟨hv, hck, hne⟩ := some_ok h
  have hF := hv.fair
  have hE : nextE f l day = 0 := by
    have hi : indexM f l f.lots.length = 0 := by
      rw [indexM, if_neg fun hh => ?_]; · exact hck
      have := hh.2
      rw [offP_false.2 ⟨by omega, by omega⟩] at this; cases this
    rw [nextE, if_neg fun hh => ?_]; · exact hi
    have := hh.2
    rw [offP_false.2 ⟨hd.1, hd.2⟩] at this; cases this
  have hK : errK f (nextE f l day) = 0 := by
    rw [hE, errK, if_neg (by simp), if_neg (fun e => hne (List.length_eq_zero_iff.1 e))]
  have hV : nextV f l day = if (bestI (nextC7 f l day) f.parties.length).2 = 0 then ((0, 0), 9) else (bestI (nextC7 f l day) f.parties.length, 0) := by
    rw [next_eq, nextR, if_pos hK]
  obtain ⟨b1, b2⟩ := bestI_spec (c := nextC7 f l day) (fun i => by rw [nextC7]; omega) f.parties.length
  have hco : nextC7 f l day other = (helpsM f ⟨l, other, day⟩ (truthsM f []) : Nat) := rfl
  by_cases hz : (bestI (nextC7 f l day) f.parties.length).2 = 0
  · left
    refine ⟨by rw [hV, if_pos hz], ?_⟩
    have := b1 other ho
    omega
  · right
    obtain ⟨party, hp, e1, e2, e3⟩ := b2 hz
    have hcp : nextC7 f l day party = (helpsM f ⟨l, party, day⟩ (truthsM f []) : Nat) := rfl
    have hbo := b1 other ho
    refine ⟨party, helpsM f ⟨l, party, day⟩ (truthsM f []), hp, by omega, ?_, rfl, by omega, fun he => ?_, fun hcl => ?_⟩
    · rw [hV, if_neg hz, ← hcp, e2, ← e1]
    · by_cases hlt : other < party
      · have := e3 other hlt; omega
      · omega
    · have hcin : 0 ≤ (⟨l, party, day⟩ : Claim).lot ∧ (⟨l, party, day⟩ : Claim).lot < f.lots.length ∧ 0 ≤ (⟨l, party, day⟩ : Claim).against ∧ (⟨l, party, day⟩ : Claim).against < f.parties.length ∧ 0 ≤ (⟨l, party, day⟩ : Claim).day ∧ (⟨l, party, day⟩ : Claim).day ≤ 60 := claim_in ⟨by omega, by omega⟩ hd hp
      have hZs := more_some h (more_check hck hcl hcin)
      have hZ := (some_ok hZs).1.fair
      obtain ⟨oo, oz, o1, o2, o3, o4⟩ := open_more h hZs
      have hbq := fun g => helpB_eq hF hZ g
      -- some truth in which it helps
      obtain ⟨g0, hg0, hh0⟩ : ∃ g0 ∈ truthsM f [], helpB f ⟨l, party, day⟩ g0 = true := by
        have : (truthsM f []).filter (helpB f ⟨l, party, day⟩) ≠ [] := fun e => by
          have : helpsM f ⟨l, party, day⟩ (truthsM f []) = 0 := by rw [helpsM, cntP, e]; rfl
          omega
        obtain ⟨g, hg⟩ := List.exists_mem_of_ne_nil _ this
        exact ⟨g, (List.mem_filter.1 hg).1, (List.mem_filter.1 hg).2⟩
      have hh1 := hh0
      rw [hbq] at hh1
      simp only [Bool.and_eq_true, Bool.not_eq_true', beq_iff_eq, decide_eq_true_eq, Int.toNat_natCast] at hh1
      obtain ⟨s0, w0, d0⟩ := hh1
      rw [← w0] at d0
      have s0' := s0
      rw [settles_due hF, List.any_eq_false] at s0'
      have hno : ∀ i, i < f.claims.length → ¬ ((nth f.claims i).lot = (l : Int) ∧ (nth f.claims i).against = (party : Int) ∧ (nth f.claims i).day ≤ nth f.untils ((party : Int)).toNat) := fun i hi hh => by
        refine s0' (nth f.claims i) (by rw [nth_eq hi]; exact List.getElem_mem hi) ?_
        simp only [dueB, Int.toNat_natCast, ← w0, Bool.and_eq_true, beq_iff_eq, decide_eq_true_eq]
        exact hh
      have hsame : ∀ g, withM f g l = (party : Int) → settlesB f g (l : Nat) = false := fun g hg => by
        rw [settles_due hF, List.any_eq_false]
        intro c hc hh
        obtain ⟨i, hi, rfl⟩ := List.getElem_of_mem hc
        rw [← nth_eq hi] at hh
        simp only [dueB, Int.toNat_natCast, hg, Bool.and_eq_true, beq_iff_eq, decide_eq_true_eq] at hh
        exact hno i hi hh
      have hpq : (fun g => paidB (moreF f ⟨l, party, day⟩) g f.claims.length) = helpB f ⟨l, party, day⟩ := by
        funext g
        rw [hbq]
        have hfb : firstB (moreF f ⟨l, party, day⟩) f.claims.length = true := by
          rw [firstB, List.all_eq_true]
          intro i hi
          have hi' : i < f.claims.length + 1 := by simpa [moreF] using hi
          rw [nth_more_last]
          by_cases hil : i < f.claims.length
          · rw [nth_more hil]
            have := hno i hil
            rw [Bool.not_eq_true', Bool.eq_false_iff]
            intro hh
            simp only [Bool.and_eq_true, Bool.or_eq_true, beq_iff_eq, decide_eq_true_eq] at hh
            exact this ⟨hh.1.1, hh.1.2, by rcases hh.2 with hx | hx <;> omega⟩
          · obtain rfl : i = f.claims.length := by omega
            rw [nth_more_last]
            simp
        rw [paidB, nth_more_last, hfb, Bool.and_true]
        show (withM f g (l : Int).toNat == (party : Int) && decide (day ≤ nth f.untils ((party : Int)).toNat)) = _
        rw [Int.toNat_natCast]
        cases hw : withM f g l == (party : Int) with
        | false =>
          have : ((party : Int) == withM f g l) = false := by rw [beq_eq_false_iff_ne] at hw ⊢; exact fun e => hw e.symm
          simp [this]
        | true =>
          rw [beq_iff_eq] at hw
          rw [hsame g hw, hw]
          simp
      refine ⟨_, oo, oz, pay_ok hZs (by simp [moreF]), o1, o2, ?_, ?_, ?_, o3⟩
      · rw [truths_moreF, hpq]
        refine (told3_cnt hne).2 ?_
        have : helpsM f ⟨l, party, day⟩ (truthsM f []) = cntP (helpB f ⟨l, party, day⟩) (truthsM f []) := rfl
        omega
      · rw [truths_moreF, hpq]
        exact (told3_cnt hne).1
      · rw [o4, has_sel, decide_eq_true hl, Bool.true_and, Bool.not_eq_true', List.all_eq_false]
        exact ⟨g0, hg0, by rw [s0]; simp⟩
end Go.Proofs.YtllmahcanipcpaaGreat
