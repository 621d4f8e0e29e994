/- The plain law of TurnLater: greener, hotter, or at an earlier hour. -/
import Derived.Test.YtbkknliggnhpcaaQp
set_option linter.unusedVariables false
set_option linter.unusedSimpArgs false
set_option linter.unusedSectionVars false
namespace Go.Proofs.Ytbkknliggnhpcaa

theorem nth_setG {α : Type} [Inhabited α] {l : List α} {i k : Nat} (hi : i < l.length) (u : α) : nth (l.set i u) k = if k = i then u else nth l k := by
  by_cases h : k = i
  · subst h; simp [nth, hi]
  · simp [nth, List.getElem?_set, Ne.symm h, h]
def greenL (l : Lot) (k : Int) : Lot := { l with green := ⟨min 40 (l.green.lo + k), min 40 (l.green.hi + k)⟩ }
def greenC (c : Cargo) (n : Nat) (k : Int) : Cargo := { c with lots := c.lots.set n (greenL (nth c.lots n) k), seen := [] }
def hotC (c : Cargo) (g : Int) (a : Nat) : Cargo := { c with gas := min 3 (c.gas + g), heat := c.heat.set a (min 3 (nth c.heat a + 1)), seen := [] }
section
variable {c : Cargo} (hv : Valid c)
include hv
theorem greenC_nth {n : Nat} {k : Int} (hn : n < c.lots.length) (i : Nat) : nth (greenC c n k).lots i = if i = n then greenL (nth c.lots n) k else nth c.lots i := nth_setG hn _
theorem greenC_valid {n : Nat} {k : Int} (hn : n < c.lots.length) (hk : 0 ≤ k) : Valid (greenC c n k) := by
  have hl : (greenC c n k).lots.length = c.lots.length := by simp [greenC]
  refine ⟨hv.hours, hv.heat, hv.gas, hv.holds, hv.warm, by rw [hl]; exact hv.lots, fun i hi => ?_, by simp [greenC], fun i hi => by simp [greenC] at hi⟩
  rw [hl] at hi
  have h1 := hv.lot i hi
  rw [greenC_nth hv hn]
  by_cases h : i = n
  · rw [if_pos h, ← h]
    show 0 ≤ (nth c.lots i).hold ∧ (nth c.lots i).hold < c.holds.length ∧ 0 ≤ (nth c.lots i).frm ∧ (nth c.lots i).frm ≤ c.heat.length ∧
      0 ≤ min 40 ((nth c.lots i).green.lo + k) ∧ min 40 ((nth c.lots i).green.lo + k) ≤ min 40 ((nth c.lots i).green.hi + k) ∧ min 40 ((nth c.lots i).green.hi + k) ≤ 40 ∧ min 40 ((nth c.lots i).green.hi + k) - min 40 ((nth c.lots i).green.lo + k) ≤ 3
    omega
  · rw [if_neg h]; exact h1
theorem hotC_heat (g : Int) (a k : Nat) : 0 ≤ nth (hotC c g a).heat k ∧ nth (hotC c g a).heat k ≤ 3 ∧ nth c.heat k ≤ nth (hotC c g a).heat k := by
  have h1 := hv.heat k
  have h2 := hv.heat a
  show 0 ≤ nth (c.heat.set a (min 3 (nth c.heat a + 1))) k ∧ nth (c.heat.set a (min 3 (nth c.heat a + 1))) k ≤ 3 ∧ nth c.heat k ≤ nth (c.heat.set a (min 3 (nth c.heat a + 1))) k
  by_cases ha : a < c.heat.length
  · rw [nth_setG ha]
    split
    · rename_i h; subst h; omega
    · omega
  · rw [List.set_eq_of_length_le (by omega)]; omega
theorem hotC_valid {g : Int} (hg : 0 ≤ g) (a : Nat) : Valid (hotC c g a) := by
  have hl : (hotC c g a).heat.length = c.heat.length := by simp [hotC]
  have h2 := hv.gas
  refine ⟨by rw [hl]; exact hv.hours, fun k => ⟨(hotC_heat hv g a k).1, (hotC_heat hv g a k).2.1⟩, ?_, hv.holds, hv.warm, hv.lots, fun i hi => by rw [hl]; exact hv.lot i hi, by simp [hotC], fun i hi => by simp [hotC] at hi⟩
  show 0 ≤ min 3 (c.gas + g) ∧ min 3 (c.gas + g) ≤ 3
  omega
structure LaterOk (c : Cargo) (n : Nat) (k g : Int) (a i : Nat) : Prop where
  e0 : (turnsR (bareC c) i).2 = 0
  e1 : (turnsR (greenC c n k) i).2 = 0
  e2 : (turnsR (hotC c g a) i).2 = 0
  l1 : laterT (turnsR (greenC c n k) i).1 (turnsR (bareC c) i).1 = true
  l2 : laterT (turnsR (bareC c) i).1 (turnsR (hotC c g a) i).1 = true
theorem later_ok {n : Nat} {k g : Int} (hn : n < c.lots.length) (hk : 0 ≤ k) (hg : 0 ≤ g) (a : Nat) {i : Nat} (hi : i < c.lots.length) : LaterOk c n k g a i := by
  have v0 := bare_valid hv
  have v1 := greenC_valid hv (k := k) hn hk
  have v2 := hotC_valid hv (g := g) hg a
  have hi1 : i < (greenC c n k).lots.length := by simpa [greenC] using hi
  have hgl := fun i => greenC_nth hv (k := k) hn i
  have h2 := hv.gas
  refine ⟨(turnsR_parts v0 (some_bare v0 rfl) hi).1, (turnsR_parts v1 (some_bare v1 rfl) hi1).1, (turnsR_parts v2 (some_bare v2 rfl) hi).1, ?_, ?_⟩
  · have hs : ∀ j, j < (greenC c n k).lots.length → (nth c.lots j).hold = (nth (greenC c n k).lots j).hold ∧ (nth c.lots j).frm = (nth (greenC c n k).lots j).frm ∧ (nth c.lots j).green.lo ≤ (nth (greenC c n k).lots j).green.lo ∧ (nth c.lots j).green.hi ≤ (nth (greenC c n k).lots j).green.hi ∧ (nth c.lots j).green.lo ≤ (nth c.lots j).green.hi ∧ (nth (greenC c n k).lots j).green.lo ≤ (nth (greenC c n k).lots j).green.hi := fun j hj => by
      have hj' : j < c.lots.length := by simpa [greenC] using hj
      have hh := hv.lot j hj'
      rw [hgl]
      by_cases h : j = n
      · subst h
        rw [if_pos rfl]
        refine ⟨rfl, rfl, ?_⟩
        show _ ≤ min 40 (_ + k) ∧ _ ≤ min 40 (_ + k) ∧ _ ≤ _ ∧ min 40 (_ + k) ≤ min 40 (_ + k)
        omega
      · rw [if_neg h]
        exact ⟨rfl, rfl, Int.le_refl _, Int.le_refl _, by omega, by omega⟩
    exact Twin.later (σ := id) v0 v1 rfl rfl hi1 ⟨rfl, fun j hj => show j < c.lots.length by simpa [greenC] using hj, fun _ _ _ _ e => e, fun j hj => (hs j hj).1, fun j hj => (hs j hj).2.1⟩ rfl (fun _ => Int.le_refl _) (Int.le_refl _)
      (fun j hj x hx => by
        have h3 := hs j hj
        rw [mem_spanVals] at hx
        exact ⟨(nth c.lots j).green.lo, mem_spanVals.2 ⟨Int.le_refl _, h3.2.2.2.2.1⟩, by omega⟩)
      (fun j hj y hy => by
        have h3 := hs j hj
        have hy' : y ∈ spanVals (nth c.lots j).green := hy
        rw [mem_spanVals] at hy'
        exact ⟨_, mem_spanVals.2 ⟨h3.2.2.2.2.2, Int.le_refl _⟩, by omega⟩)
  · exact Twin.later (σ := id) v2 v0 rfl rfl hi ⟨rfl, fun j hj => hj, fun _ _ _ _ e => e, fun _ _ => rfl, fun _ _ => rfl⟩ (by simp [hotC, bareC]) (fun j => (hotC_heat hv g a j).2.2) (by show c.gas ≤ min 3 (c.gas + g); omega)
      (fun j _ x hx => ⟨x, hx, Int.le_refl _⟩) (fun j _ y hy => ⟨y, hy, Int.le_refl _⟩)
end
structure SoonerOk (c : Cargo) (mx mn : Int) : Prop where
  e1 : safeE c mx = 0
  e2 : safeE c mn = 0
  rising : risingB (natInts (safeR c mx)) (-1) c.lots.length = true
  has : ∀ k ∈ safeR c mx, k < c.lots.length ∧ ((nth c.lots k).frm ≤ mn → hasInt (natInts (safeR c mn)) (k : Int) = true)
theorem sooner_ok {c : Cargo} (hv : Valid c) (hs : someM c [] = true) {mx mn : Int} (h0 : 0 ≤ mn) (h1 : mn ≤ mx) (h2 : mx ≤ c.heat.length) : SoonerOk c mx mn := by
  have ha : 0 ≤ mx ∧ mx ≤ c.heat.length := ⟨by omega, h2⟩
  have hb : 0 ≤ mn ∧ mn ≤ c.heat.length := ⟨h0, by omega⟩
  refine ⟨safeE_ok hv hs ha, safeE_ok hv hs hb, safeR_rising hv hs ha, fun k hk => ?_⟩
  have hkl : k < c.lots.length := by
    rw [safeR, if_pos (safeE_ok hv hs ha), safeM, safeTo] at hk
    exact List.mem_range.1 (List.mem_filter.1 hk).1
  refine ⟨hkl, fun hf => ?_⟩
  have h3 : hasInt (natInts (safeR c mx)) (k : Int) = true := by rw [hasInt, List.any_eq_true]; exact ⟨(k : Int), List.mem_map.2 ⟨k, hk, rfl⟩, by simp⟩
  rw [safeR_has hv hs ha hkl, greenM, greenTo, List.take_length, Bool.and_eq_true, List.all_eq_true] at h3
  rw [safeR_has hv hs hb hkl, greenM, greenTo, List.take_length, Bool.and_eq_true, List.all_eq_true]
  refine ⟨by simpa using hf, fun x hx => ?_⟩
  have := h3.2 x hx
  rw [decide_eq_true_eq] at this ⊢
  omega
end Go.Proofs.Ytbkknliggnhpcaa
