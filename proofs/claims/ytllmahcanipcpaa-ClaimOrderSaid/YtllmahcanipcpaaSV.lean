/- The plain law of chapter 11: Wrong of the program answers as the reference's; what one more claim does. -/
import Derived.Test.YtllmahcanipcpaaSQ
import Derived.Test.YtllmahcanipcpaaJA
import Derived.Test.YtllmahcanipcpaaSH
set_option linter.unusedVariables false
set_option linter.unusedSimpArgs false
namespace Go.Proofs.Ytllmahcanipcpaa

theorem spanVals_ne {s : Span} (h : s.lo ≤ s.hi) : spanVals s ≠ [] := by
  intro e
  have : (spanVals s).length = 0 := by rw [e]; rfl
  simp only [spanVals, List.length_map, List.length_range] at this
  omega
theorem flat_ne {α β : Type} {l : List α} {f : α → List β} (h : l ≠ []) (hf : ∀ x, f x ≠ []) : l.flatMap f ≠ [] := by
  cases l with
  | nil => exact absurd rfl h
  | cons a t =>
    rw [List.flatMap_cons]
    intro e
    exact hf a (List.append_eq_nil_iff.1 e).1
theorem allTo_ne {f : File} (hv : Valid f) : ∀ i, i ≤ f.lots.length → allTo f i ≠ []
  | 0, _ => by rw [allTo]; simp
  | i + 1, hi => by
    rw [allTo]
    exact flat_ne (allTo_ne hv i (by omega)) fun g e => spanVals_ne (hv.lot i (by omega)).2.1 (List.map_eq_nil_iff.1 e)
theorem allP_ne {f : File} (hv : Valid f) : allP f ≠ [] := allTo_ne hv _ (Nat.le_refl _)
theorem truths_drop {f : File} {but : List Int} (hb : ∀ k : Nat, k < f.papers.length → hasInt but k = true) : truthsM f but = allP f :=
  List.filter_eq_self.2 fun p _ => by
    rw [soM, soTo, List.all_eq_true]
    intro i hi
    rw [hb i (List.mem_range.1 hi)]; rfl
theorem empty_last {f : File} (hv : Valid f) : emptyB f (natInts (listN (2 ^ f.papers.length - 1) f.papers.length)) = false := by
  have hn := hv.papers
  have hp : 0 < 2 ^ f.papers.length := Nat.pow_pos (by omega)
  rw [emptyB, truths_drop fun i hi => by
    rw [← (ri_both hn (show 2 ^ f.papers.length - 1 < 2 ^ f.papers.length by omega)).2 i hi, Nat.testBit_two_pow_sub_one]; simpa using hi]
  have := allP_ne hv
  cases h : allP f with
  | nil => exact absurd h this
  | cons _ _ => rfl
theorem wrong_find {f : File} (hv : Valid f) : (flatC f.papers.length (f.papers.length + 1)).find? (fun b => !emptyB f b) = some (wrongL f) := by
  have hl := (fl_facts hv.papers).2.2.2
  have he := empty_last hv
  rw [flatC_succ, List.find?_append, wrongL]
  cases h : (flatC f.papers.length f.papers.length).find? (fun b => !emptyB f b) with
  | some l => rfl
  | none => rw [hl, Option.none_or, List.find?_cons, he]; rfl
theorem adj_inj : ∀ {F : List (List Int)} {x y : List Int}, adjB F = true → x ∈ F → y ∈ F → rkI x = rkI y → x = y
  | [], _, _, _, h, _, _ => by cases h
  | z :: l, x, y, ha, hx, hy, e => by
    rcases List.mem_cons.1 hx with h1 | h1
    · rcases List.mem_cons.1 hy with h2 | h2
      · rw [h1, h2]
      · have := adjB_lt ha y h2; rw [h1] at e; omega
    · rcases List.mem_cons.1 hy with h2 | h2
      · have := adjB_lt ha x h1; rw [h2] at e; omega
      · exact adj_inj (adjB_tail ha) h1 h2 e
theorem wrong_least {f : File} (hv : Valid f) : ∃ s, s < 2 ^ f.papers.length ∧ wrongL f = natInts (listN s f.papers.length) ∧ emptyB f (wrongL f) = false ∧ ∀ t, t < 2 ^ f.papers.length → emptyB f (natInts (listN t f.papers.length)) = false → rk (listN s f.papers.length) ≤ rk (listN t f.papers.length) := by
  obtain ⟨ha, h1, h2, _⟩ := fl_facts hv.papers
  obtain ⟨p1, p2, p3⟩ := find_least _ ha (wrong_find hv)
  obtain ⟨s, hs, e⟩ := h1 _ p2
  refine ⟨s, hs, e, by simpa using p1, fun t ht hte => ?_⟩
  have := p3 _ (h2 t ht) (by simpa using hte)
  rwa [e, rkI_nat, rkI_nat] at this
theorem some_empty {f : File} (hv : Valid f) {s : Nat} (hs : s < 2 ^ f.papers.length) : someB f s = !emptyB f (natInts (listN s f.papers.length)) := by
  rw [someB, truthsB_eq (ri_both hv.papers hs).2, emptyB]
  cases truthsM f (natInts (listN s f.papers.length)) <;> simp
theorem wrong_eq (f : File) : natInts (wrongV f).1 = (wrongR f).1 ∧ (wrongV f).2 = (wrongR f).2 := by
  rw [wrongV, wrongR]
  by_cases hc : (checkM f).2.2 = 0
  · rw [if_neg (by simp [hc]), if_pos hc]
    have hv := valid_of hc
    obtain ⟨s, hs, e, he, hl⟩ := wrong_least hv
    have hf := fwTo_least (ans := someB f) hv.papers (2 ^ f.papers.length) (Nat.le_refl _)
    cases ho : fwTo f.papers.length (someB f) (2 ^ f.papers.length) with
    | none =>
      rw [ho] at hf
      have := hf s hs
      rw [some_empty hv hs, ← e, he] at this
      cases this
    | some l =>
      rw [ho] at hf
      obtain ⟨u, hu, ha, rfl, hm⟩ := hf
      rw [some_empty hv hu] at ha
      have h1 := hm s hs (by rw [some_empty hv hs, ← e, he]; rfl)
      have h2 := hl u hu (by simpa using ha)
      obtain ⟨had, _, h4, _⟩ := fl_facts hv.papers
      refine ⟨?_, rfl⟩
      show natInts (listN u _) = wrongL f
      rw [e]
      exact adj_inj had (h4 u hu) (h4 s hs) (by rw [rkI_nat, rkI_nat]; omega)
  · rw [if_pos hc, if_neg hc]; exact ⟨rfl, rfl⟩
theorem wrong_len (f : File) : (wrongV f).1.length = (wrongR f).1.length := by rw [← (wrong_eq f).1, natInts_length]
/-- Among the claims for a lot against a party there is a first one. -/
theorem first_ex {f : File} (hv : Fair f) : ∀ (m i : Nat), i < f.claims.length → (nth f.claims i).day.toNat * (f.claims.length + 1) + i ≤ m →
    ∃ j, j < f.claims.length ∧ (nth f.claims j).lot = (nth f.claims i).lot ∧ (nth f.claims j).against = (nth f.claims i).against ∧ (nth f.claims j).day ≤ (nth f.claims i).day ∧ firstB f j = true := by
  intro m
  induction m with
  | zero =>
    intro i hi h
    refine ⟨i, hi, rfl, rfl, Int.le_refl _, ?_⟩
    have h0 : (nth f.claims i).day.toNat = 0 ∧ i = 0 := by
      refine ⟨?_, by omega⟩
      cases hd : (nth f.claims i).day.toNat with
      | zero => rfl
      | succ n => rw [hd, Nat.succ_mul] at h; omega
    rw [firstB, List.all_eq_true]
    intro k hk
    have hk2 := (hv.claim k (List.mem_range.1 hk)).2.2.2.2.1
    have hi2 := (hv.claim i hi).2.2.2.2.1
    rw [Bool.not_eq_true', Bool.and_eq_false_iff]
    right
    simp only [Bool.or_eq_false_iff, decide_eq_false_iff_not, Bool.and_eq_false_iff]
    exact ⟨by omega, Or.inr (by omega)⟩
  | succ m ih =>
    intro i hi h
    cases hf : firstB f i with
    | true => exact ⟨i, hi, rfl, rfl, Int.le_refl _, hf⟩
    | false =>
      rw [firstB, List.all_eq_false] at hf
      obtain ⟨k, hk, h2⟩ := hf
      have hk' := List.mem_range.1 hk
      have hk2 := (hv.claim k hk').2.2.2.2.1
      have hi2 := (hv.claim i hi).2.2.2.2.1
      simp only [Bool.not_eq_true, Bool.not_eq_false', Bool.and_eq_true, Bool.or_eq_true, beq_iff_eq, decide_eq_true_eq] at h2
      obtain ⟨⟨e1, e2⟩, h3⟩ := h2
      have hm : (nth f.claims k).day.toNat * (f.claims.length + 1) + k ≤ m := by
        rcases h3 with h3 | ⟨h3, h4⟩
        · have : (nth f.claims k).day.toNat + 1 ≤ (nth f.claims i).day.toNat := by omega
          have := Nat.mul_le_mul_right (f.claims.length + 1) this
          rw [Nat.succ_mul] at this
          omega
        · rw [h3] at *; omega
      obtain ⟨j, hj, a, b, c, d⟩ := ih k hk' hm
      exact ⟨j, hj, a.trans e1, b.trans e2, by rcases h3 with h3 | ⟨h3, _⟩ <;> omega, d⟩
/-- A lot is paid if some claim for it is against whom it turned with, and in time. -/
def dueB (f : File) (g : List Int) (l : Int) (c : Claim) : Bool := c.lot == l && (c.against == withM f g l.toNat && decide (c.day ≤ nth f.untils (withM f g l.toNat).toNat))
theorem settles_due {f : File} (hv : Fair f) (g : List Int) (l : Int) : settlesB f g l = f.claims.any (dueB f g l) := by
  rw [Bool.eq_iff_iff, settlesB, List.any_eq_true, List.any_eq_true]
  constructor
  · rintro ⟨i, hi, h⟩
    have hi' := List.mem_range.1 hi
    simp only [Bool.and_eq_true, beq_iff_eq, paidB, decide_eq_true_eq] at h
    obtain ⟨h1, ⟨h2, h3⟩, _⟩ := h
    refine ⟨nth f.claims i, by rw [nth_eq hi']; exact List.getElem_mem hi', ?_⟩
    rw [h1] at h2
    simp only [dueB, h1, h2, beq_self_eq_true, Bool.true_and, decide_eq_true_eq]
    exact h3
  · rintro ⟨c, hc, h⟩
    obtain ⟨i, hi, rfl⟩ := List.getElem_of_mem hc
    rw [← nth_eq hi] at h
    simp only [dueB, Bool.and_eq_true, beq_iff_eq, decide_eq_true_eq] at h
    obtain ⟨h1, h2, h3⟩ := h
    obtain ⟨j, hj, a, b, d, e⟩ := first_ex hv _ i hi (Nat.le_refl _)
    refine ⟨j, List.mem_range.2 hj, ?_⟩
    simp only [Bool.and_eq_true, beq_iff_eq, paidB, decide_eq_true_eq]
    refine ⟨a.trans h1, ⟨?_, ?_⟩, e⟩
    · rw [a, h1, b, h2]
    · rw [b, h2]; omega
/-- A file with one more claim. -/
def moreF (f : File) (c : Claim) : File := { f with claims := f.claims ++ [c] }
theorem withM_more (f : File) (c : Claim) (g : List Int) (l : Nat) : withM (moreF f c) g l = withM f g l := rfl
theorem Fair.more {f : File} (h : Fair f) {c : Claim} (hc : 0 ≤ c.lot ∧ c.lot < f.lots.length ∧ 0 ≤ c.against ∧ c.against < f.parties.length ∧ 0 ≤ c.day ∧ c.day ≤ 60) : Fair (moreF f c) :=
  ⟨h.untils, fun i hi => by
    have hi' : i < f.claims.length + 1 := by simpa [moreF] using hi
    by_cases hl : i < f.claims.length
    · rw [show nth (moreF f c).claims i = nth f.claims i by simp [moreF, nth, List.getElem?_append_left hl]]; exact h.claim i hl
    · obtain rfl : i = f.claims.length := by omega
      rw [show nth (moreF f c).claims f.claims.length = c by simp [moreF, nth]]; exact hc⟩
theorem settles_more {f : File} {c : Claim} (hv : Fair f) (hm : Fair (moreF f c)) (g : List Int) (l : Int) : settlesB (moreF f c) g l = (settlesB f g l || dueB f g l c) := by
  rw [settles_due hm, settles_due hv]
  show (f.claims ++ [c]).any (dueB f g l) = _
  rw [List.any_append]
  simp
def helpB (f : File) (c : Claim) (g : List Int) : Bool := !settlesB f g c.lot && settlesB (moreF f c) g c.lot
theorem helpB_eq {f : File} {c : Claim} (hv : Fair f) (hm : Fair (moreF f c)) (g : List Int) : helpB f c g = (!settlesB f g c.lot && (c.against == withM f g c.lot.toNat && decide (c.day ≤ nth f.untils (withM f g c.lot.toNat).toNat))) := by
  rw [helpB, settles_more hv hm, dueB]
  cases settlesB f g c.lot <;> simp
end Go.Proofs.Ytllmahcanipcpaa
