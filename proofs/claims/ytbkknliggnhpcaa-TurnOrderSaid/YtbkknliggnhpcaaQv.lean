/- Plain laws for the statements of chapter 07 that do not compare with the reference: what is valid passes Check; what can be of a hold; lists in order. -/
import Derived.Test.YtbkknliggnhpcaaPb
import Derived.Test.YtbkknliggnhpcaaPh
set_option linter.unusedVariables false
set_option linter.unusedSimpArgs false
set_option linter.unusedSectionVars false
namespace Go.Proofs.Ytbkknliggnhpcaa

theorem offP_ok {lo hi n : Int} (h : lo ≤ n ∧ n ≤ hi) : offP lo hi n = false := offP_false.2 h
theorem firstE_ok {α : Type} [Inhabited α] {f : α → Int} : ∀ (xs : List α) (i : Nat), (∀ j, j < xs.length → f (nth xs j) = 0) → firstE f xs i = (0, 0)
  | [], _, _ => rfl
  | x :: l, i, h => by
    have h0 : f x = 0 := by have := h 0 (by simp); simpa [nth] using this
    rw [firstE, if_pos h0]
    refine firstE_ok l (i + 1) fun j hj => ?_
    have := h (j + 1) (by simpa using hj)
    simpa [nth] using this
theorem failM_ok {α : Type} [Inhabited α] {f : α → Int} {xs : List α} {least most : Int} (h1 : least ≤ xs.length ∧ (xs.length : Int) ≤ most) (h2 : ∀ j, j < xs.length → f (nth xs j) = 0) : failM f xs least most = (0, 0) := by
  rw [failM, offP_ok h1, if_neg (by simp)]
  exact firstE_ok xs 0 h2
theorem widthM_ok {s : Span} {most : Int} (h : 0 ≤ s.lo ∧ s.lo ≤ s.hi ∧ s.hi ≤ most ∧ s.hi - s.lo ≤ 3) : widthM s most = 0 := by
  rw [widthM, offP_ok (by omega), offP_ok (by omega), offP_ok (by omega)]; rfl
/-- What is valid passes Check. -/
theorem valid_check {c : Cargo} (h : Valid c) : (checkM c).2.2 = 0 := by
  have h1 := h.hours
  have h3 := h.holds
  have h4 := h.lots
  have h5 := h.seens
  have e1 : failM heatE c.heat 0 8 = (0, 0) := failM_ok (by omega) fun j _ => by rw [heatE, offP_ok (h.heat j)]; rfl
  have e3 : failM (fun s => widthM s 6) c.holds 1 3 = (0, 0) := failM_ok (by omega) fun j hj => widthM_ok (by have := h.warm j hj; omega)
  have e4 : failM (lotE c) c.lots 0 4 = (0, 0) := failM_ok (by omega) fun j hj => by
    have := h.lot j hj
    rw [lotE, offP_ok (by omega), offP_ok (by omega), widthM_ok (by omega)]; rfl
  have e5 : failM (seenE c) c.seen 0 4 = (0, 0) := failM_ok (by omega) fun j hj => by
    have := h.seen j hj
    rw [seenE, offP_ok (by omega), offP_ok (by omega)]; rfl
  simp [checkM, e1, e3, e4, e5, offP_ok h.gas]
theorem valid_iff (c : Cargo) : (checkM c).2.2 = 0 ↔ Valid c := ⟨valid_of, valid_check⟩
section
variable {c : Cargo} {l : List Nat} {warm : Int} {g g' : List Int}
/-- When lots turn depends on the greens of these lots alone. -/
theorem left_congr_in (hl : ∀ i ∈ l, i < g.length) (hl' : ∀ i ∈ l, i < g'.length) (he : ∀ i ∈ l, nth g i = nth g' i) : ∀ h, ∀ i ∈ l, nth (leftL c l warm g h) i = nth (leftL c l warm g' h) i
  | 0, i, hi => he i hi
  | h + 1, i, hi => by
    have ih := left_congr_in hl hl' he h
    have hg : gasB c l h (leftL c l warm g h) = gasB c l h (leftL c l warm g' h) := by
      rw [Bool.eq_iff_iff, gasB, gasB, List.any_eq_true, List.any_eq_true]
      exact ⟨fun ⟨x, hx, ht⟩ => ⟨x, hx, by rw [turnedB, ← ih x hx]; exact ht⟩, fun ⟨x, hx, ht⟩ => ⟨x, hx, by rw [turnedB, ih x hx]; exact ht⟩⟩
    rw [leftL_succ (hl i hi), leftL_succ (hl' i hi), takeAt, takeAt, ih i hi, hg]
theorem timesM_congr_in (hl : ∀ i ∈ l, i < g.length) (hl' : ∀ i ∈ l, i < g'.length) (he : ∀ i ∈ l, nth g i = nth g' i) : timesM c l warm g = timesM c l warm g' := by
  rw [timesM, timesM]
  refine List.map_congr_left fun i _ => ?_
  by_cases hc : l.contains i = true
  · rw [if_pos hc, if_pos hc]
    have hi : i ∈ l := by simpa using hc
    have e : (fun k => turnedB c k (leftL c l warm g k) i) = (fun k => turnedB c k (leftL c l warm g' k) i) := by
      funext k
      rw [turnedB, turnedB, left_congr_in hl hl' he k i hi]
    rw [outAt, outAt, e]
  · rw [if_neg hc, if_neg hc]
end
theorem timesM_cargo {c c' : Cargo} (h1 : c.heat = c'.heat) (h2 : c.gas = c'.gas) (h3 : c.lots = c'.lots) (l : List Nat) (w : Int) (g : List Int) : timesM c l w g = timesM c' l w g := by
  have h4 : ∀ i, (nth c.lots i).frm = (nth c'.lots i).frm := fun i => by rw [h3]
  rw [timesM, timesM, h3]
  exact List.map_congr_left fun i _ => by rw [outAt_cargo h1 h2 h4, h1]
theorem greensTo_iff {c : Cargo} {hold : Int} : ∀ {n : Nat} {g : List Int}, g ∈ greensTo c hold n ↔ g.length = n ∧ ∀ i, i < n → nth g i ∈ spanVals (lotSpan c hold i)
  | 0, g => by
    rw [greensTo, List.mem_singleton]
    exact ⟨fun h => by subst h; exact ⟨rfl, fun i hi => absurd hi (Nat.not_lt_zero i)⟩, fun h => List.eq_nil_of_length_eq_zero h.1⟩
  | n + 1, g => by
    rw [greensTo, List.mem_flatMap]
    constructor
    · rintro ⟨g0, h0, h1⟩
      obtain ⟨x, hx, rfl⟩ := List.mem_map.1 h1
      obtain ⟨h2, h3⟩ := greensTo_iff.1 h0
      refine ⟨by simp [h2], fun i hi => ?_⟩
      rw [nth_app]
      by_cases h4 : i < n
      · rw [if_pos (by omega)]; exact h3 i h4
      · obtain rfl : i = n := by omega
        rw [if_neg (by omega), h2, Nat.sub_self]; exact hx
    · rintro ⟨h1, h2⟩
      refine ⟨g.take n, greensTo_iff.2 ⟨by simp [h1], fun i hi => ?_⟩, List.mem_map.2 ⟨nth g n, h2 n (Nat.lt_succ_self n), ?_⟩⟩
      · have : nth (g.take n) i = nth g i := by simp [nth, hi]
        rw [this]; exact h2 i (by omega)
      · rw [← take_nth (by omega), List.take_of_length_le (by omega)]
theorem allM_iff {c : Cargo} {hold : Nat} {p : Int × List Int} : p ∈ allM c hold ↔ p.1 ∈ spanVals (nth c.holds hold) ∧ p.2.length = c.lots.length ∧ ∀ i, i < c.lots.length → nth p.2 i ∈ spanVals (lotSpan c hold i) := by
  rw [allM, List.mem_flatMap, ← greensTo_iff]
  constructor
  · rintro ⟨w, hw, h1⟩
    obtain ⟨g, hg, rfl⟩ := List.mem_map.1 h1
    exact ⟨hw, hg⟩
  · rintro ⟨h1, h2⟩
    exact ⟨p.1, h1, List.mem_map.2 ⟨p.2, h2, rfl⟩⟩
/-- The list of those below n that do, told in order. -/
theorem rising_filter (p : Nat → Bool) (n : Nat) : ∀ k last : Int, k = k → ∀ m : Nat, last < (m : Int) → risingB (natInts (((List.range n).drop m).filter p)) last n = true := by
  intro k last _ m
  by_cases hm : n ≤ m
  · intro _
    rw [List.drop_of_length_le (by simpa using hm)]; rfl
  · intro hl
    have hm' : m < n := by omega
    have e : (List.range n).drop m = m :: (List.range n).drop (m + 1) := by
      rw [List.drop_eq_getElem_cons (by simpa using hm')]; simp
    have ih := fun last' => rising_filter p n 0 last' rfl (m + 1)
    rw [e, List.filter_cons]
    by_cases hp : p m = true
    · rw [if_pos hp]
      show risingB ((m : Int) :: natInts _) last n = true
      rw [risingB, if_neg (by omega)]
      exact ih _ (by omega)
    · rw [if_neg hp]
      exact ih _ (by omega)
termination_by _ _ _ m => n - m
theorem rising_range (p : Nat → Bool) (n : Nat) : risingB (natInts ((List.range n).filter p)) (-1) n = true := by
  have := rising_filter p n 0 (-1) rfl 0 (by omega)
  simpa using this
theorem has_filter {p : Nat → Bool} {n i : Nat} : hasInt (natInts ((List.range n).filter p)) i = (decide (i < n) && p i) := by
  rw [Bool.eq_iff_iff, hasInt, List.any_eq_true]
  simp only [natInts, List.mem_map, List.mem_filter, List.mem_range, beq_iff_eq, Bool.and_eq_true, decide_eq_true_eq]
  constructor
  · rintro ⟨x, ⟨k, hk, rfl⟩, e⟩
    obtain rfl : k = i := by omega
    exact hk
  · intro h; exact ⟨_, ⟨i, h, rfl⟩, rfl⟩
end Go.Proofs.Ytbkknliggnhpcaa
