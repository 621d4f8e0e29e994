/- The plain law of TurnPut: what Put says of a lot that is put in holds in the way that made the looks. -/
import Derived.Test.YtbkknliggnhpcaaQa
import Derived.Test.YtbkknliggnhpcaaPg
set_option linter.unusedVariables false
set_option linter.unusedSimpArgs false
namespace Go.Proofs.Ytbkknliggnhpcaa

theorem nth_snoc {a : List Int} {x : Int} {i : Nat} : nth (a ++ [x]) i = if i < a.length then nth a i else if i = a.length then x else 0 := by
  rw [nth_app]
  split
  · rfl
  · split
    · rename_i h; rw [h, Nat.sub_self]; rfl
    · rw [nth_out (by simp; omega)]; rfl
theorem ofL_more_iff {c : Cargo} {hd : Nat} {n frm : Int} {i : Nat} : i ∈ ofL (moreC c hd n frm) (hd : Int) [] ↔ i ∈ ofL c (hd : Int) [] ∨ i = c.lots.length := by
  rw [← List.contains_iff_mem, ← List.contains_iff_mem, ofL_mem, ofL_mem, moreC, nth_more]
  have hl : (withLot c ⟨hd, frm, ⟨n, n⟩⟩).lots.length = c.lots.length + 1 := by simp [withLot]
  rw [hl]
  by_cases h : i < c.lots.length
  · rw [if_pos h]; simp [h, Nat.lt_succ_of_lt h, Nat.ne_of_lt h]
  · rw [if_neg h]
    by_cases e : i = c.lots.length
    · subst e; simp [hasInt_nil]
    · rw [if_neg e]; simp [h, e]; intro h'; omega
/-- Whether a lot fits depends on the greens of the hold's own lots alone. -/
theorem fitsB_congr {c : Cargo} {hd : Nat} {n frm un wm : Int} {g g' : List Int} (h1 : g.length = c.lots.length) (h2 : g'.length = c.lots.length) (he : ∀ i ∈ ofL c (hd : Int) [], nth g i = nth g' i) : fitsB c hd n frm un (wm, g) = fitsB c hd n frm un (wm, g') := by
  have e1 : timesM c (ofL c hd []) wm g = timesM c (ofL c hd []) wm g' := timesM_congr_in (fun i hi => by rw [h1]; exact ofL_lt i hi) (fun i hi => by rw [h2]; exact ofL_lt i hi) he
  have e2 : thenM c hd n frm wm g = thenM c hd n frm wm g' := by
    rw [thenM, thenM]
    refine timesM_congr_in (fun i hi => ?_) (fun i hi => ?_) (fun i hi => ?_)
    · rcases ofL_more_iff.1 hi with h | h
      · have := ofL_lt i h; simp [h1]; omega
      · simp [h1, h]
    · rcases ofL_more_iff.1 hi with h | h
      · have := ofL_lt i h; simp [h2]; omega
      · simp [h2, h]
    · rw [nth_snoc, nth_snoc, h1, h2]
      rcases ofL_more_iff.1 hi with h | h
      · have := ofL_lt i h
        rw [if_pos this, if_pos this]; exact he i h
      · simp [h]
  rw [fitsB, fitsB]
  simp only
  rw [e1, e2]
structure PutAt (z : Cargo) (l : List Int) (lo hi frm un : Int) : Prop where
  err : (putR z lo hi frm un).2 ≠ 0 → (putR z lo hi frm un).1 = [] ∧ ((putR z lo hi frm un).2 = 2 ∨ (putR z lo hi frm un).2 = 7)
  width : (putR z lo hi frm un).2 = 0 → frm < un ∧ 0 ≤ lo ∧ lo ≤ hi ∧ hi ≤ 40 ∧ hi - lo ≤ 3
  rising : (putR z lo hi frm un).2 = 0 → risingB (natInts (putR z lo hi frm un).1) (-1) z.holds.length = true
  has : (putR z lo hi frm un).2 = 0 → ∀ hd, hd < z.holds.length → hasInt (natInts (putR z lo hi frm un).1) hd = putIs7 z lo hi frm un hd
  fits : ∀ hd, hd < z.holds.length → putIs7 z lo hi frm un hd = true → ∀ n, lo ≤ n → n ≤ hi → fitsB z hd n frm un (warmX z l hd, greensX z l z.lots.length) = true
theorem widthM_three (s : Span) (most : Int) : widthM s most = 0 ∨ widthM s most = 2 ∨ widthM s most = 7 := by
  unfold widthM
  split
  · exact .inr (.inr rfl)
  · split
    · exact .inr (.inl rfl)
    · exact .inl rfl
theorem put_at {c : Cargo} {l : List Int} (hv0 : Valid c) (lo hi : Int) {frm un : Int} (hf : 0 ≤ frm ∧ frm ≤ c.heat.length) (hu : 0 ≤ un ∧ un ≤ c.heat.length) : PutAt (toldC c l) l lo hi frm un := by
  have hv := toldC_valid (l := l) hv0
  have hs := told_some (l := l) hv0
  have hw : ∀ hd, hd < (toldC c l).holds.length → wayX (toldC c l) l hd ∈ waysM (toldC c l) hd [] := fun hd hh => wayX_ways hv0 hh
  have hf' : 0 ≤ frm ∧ frm ≤ (toldC c l).heat.length := hf
  have hu' : 0 ≤ un ∧ un ≤ (toldC c l).heat.length := hu
  generalize toldC c l = z at *
  have hck := valid_check hv
  have h1 : hourE z un (hourE z frm (checkM z).2.2) = 0 := by
    have hh : ∀ n : Int, 0 ≤ n ∧ n ≤ z.heat.length → hourE z n 0 = 0 := fun n h => by rw [hourE, if_neg (fun h' => by rw [offP_ok h] at h'; simp at h')]
    rw [hck, hh _ hf', hh _ hu']
  have htr : ∀ e : Int, truthE z e = e := fun e => by rw [truthE, if_neg (fun h => by rw [hs] at h; simp at h)]
  have hE : putE7 z lo hi frm un = putA z lo hi frm un := by rw [putE7, htr]
  have hA : putA z lo hi frm un = if widthM ⟨lo, hi⟩ 40 = 7 then 7 else if un ≤ frm ∨ widthM ⟨lo, hi⟩ 40 ≠ 0 then 2 else 0 := by
    unfold putA
    simp only [h1, true_and]
    by_cases h7 : widthM ⟨lo, hi⟩ 40 = 7
    · simp [h7]
    · simp [h7]
  have hR2 : (putR z lo hi frm un).2 = putA z lo hi frm un := by
    rw [putR, hE]; split
    · rfl
    · rename_i h; simpa using (Classical.not_not.1 h).symm
  have hR1 : putA z lo hi frm un = 0 → (putR z lo hi frm un).1 = (List.range z.holds.length).filter (putIs7 z lo hi frm un) := fun h => by
    rw [putR, hE, if_neg (by simpa using h)]
  refine ⟨fun h => ?_, fun h => ?_, fun h => ?_, fun h hd hh => ?_, fun hd hh hp n hn1 hn2 => ?_⟩
  · rw [hR2] at h ⊢
    refine ⟨by rw [putR, hE, if_pos h], ?_⟩
    rw [hA] at h ⊢
    split
    · exact .inr rfl
    · rename_i h7
      rw [if_neg h7] at h
      split
      · exact .inl rfl
      · rename_i h8; rw [if_neg h8] at h; exact absurd rfl h
  · rw [hR2, hA] at h
    split at h
    · omega
    · split at h
      · omega
      · rename_i h8
        have h9 : widthM ⟨lo, hi⟩ 40 = 0 := Classical.byContradiction fun e => h8 (.inr e)
        have := widthM_zero h9
        exact ⟨by have : ¬ un ≤ frm := fun e => h8 (.inl e); omega, this⟩
  · rw [hR1 (by rw [← hR2]; exact h)]; exact rising_range _ _
  · rw [hR1 (by rw [← hR2]; exact h), has_filter]; simp [hh]
  · rw [putIs7, List.all_eq_true] at hp
    have h3 := hp _ (hw hd hh)
    rw [fitsAll, List.all_eq_true] at h3
    have h4 := h3 n (mem_spanVals.2 ⟨hn1, hn2⟩)
    have e : fitsB z hd n frm un (warmX z l hd, greensX z l z.lots.length) = fitsB z hd n frm un (wayX z l hd) := by
      refine fitsB_congr (greensX_length _ _ _) (by simp) fun i hi => ?_
      have h5 := ofL_lt i hi
      have h6 := ofL_mem (c := z) (hold := (hd : Int)) (but := []) (i := i)
      rw [List.contains_iff_mem.2 hi] at h6
      have h7 : (nth z.lots i).hold = hd := by
        have := h6.symm
        simp only [Bool.and_eq_true, beq_iff_eq] at this
        exact this.2.1
      rw [greensX, nth_map_range _ h5, nth_map_range _ h5, if_pos h7]
    rw [e]; exact h4
theorem put_bad {c : Cargo} (hc : (checkM c).2.2 ≠ 0) (lo hi frm un : Int) : putR c lo hi frm un = ([], (checkM c).2.2) := by
  have e0 : ∀ n : Int, hourE c n (checkM c).2.2 = (checkM c).2.2 := fun n => by rw [hourE, if_neg (fun h => hc h.1)]
  have hA : putA c lo hi frm un = (checkM c).2.2 := by
    unfold putA
    simp only [e0]
    simp [hc]
  have hE : putE7 c lo hi frm un = (checkM c).2.2 := by rw [putE7, hA, truthE, if_neg (fun h => hc h.1)]
  rw [putR, hE, if_pos hc]
end Go.Proofs.Ytbkknliggnhpcaa
