/- Plain laws of when lots turn: hotter, less green, or with more lots: no later; and what Turns says of hours that are no sooner than others. -/
import Derived.Test.YtbkknliggnhpcaaQm
set_option linter.unusedVariables false
set_option linter.unusedSimpArgs false
namespace Go.Proofs.Ytbkknliggnhpcaa

/-- Lots of d (the cool one) beside lots of c (the hot one). -/
structure Sim (c d : Cargo) (lc ld : List Nat) (gc gd : List Int) (σ : Nat → Nat) : Prop where
  len : c.heat.length = d.heat.length
  heat : ∀ h, nth d.heat h ≤ nth c.heat h
  gas : 0 ≤ d.gas ∧ d.gas ≤ c.gas
  frm : ∀ i ∈ ld, σ i ∈ lc → (nth c.lots (σ i)).frm = (nth d.lots i).frm
  green : ∀ i ∈ ld, σ i ∈ lc → nth gc (σ i) ≤ nth gd i
  inD : ∀ i ∈ ld, i < gd.length
  inC : ∀ i ∈ lc, i < gc.length
  all : (∀ i ∈ ld, σ i ∈ lc) ∨ d.gas = 0
section
variable {c d : Cargo} {lc ld : List Nat} {gc gd : List Int} {σ : Nat → Nat} {w : Int}
theorem Sim.left (s : Sim c d lc ld gc gd σ) : ∀ h, ∀ i ∈ ld, σ i ∈ lc → nth (leftL c lc w gc h) (σ i) ≤ nth (leftL d ld w gd h) i ∨ turnedB c h (leftL c lc w gc h) (σ i) = true
  | 0, i, hi, hc => .inl (s.green i hi hc)
  | h + 1, i, hi, hc => by
    have ih := fun j hj hcj => s.left h j hj hcj
    have hg : gasB d ld h (leftL d ld w gd h) = true → d.gas = 0 ∨ gasB c lc h (leftL c lc w gc h) = true := fun hg => by
      rcases s.all with ha | ha
      · right
        rw [gasB, List.any_eq_true] at hg ⊢
        obtain ⟨k, hk, ht⟩ := hg
        refine ⟨σ k, ha k hk, ?_⟩
        rcases ih k hk (ha k hk) with h1 | h1
        · rw [turnedB, Bool.and_eq_true, decide_eq_true_eq, decide_eq_true_eq] at ht ⊢
          rw [s.frm k hk (ha k hk)]
          exact ⟨ht.1, Int.le_trans h1 ht.2⟩
        · exact h1
      · exact .inl ha
    have i1 := ih i hi hc
    have hf := s.frm i hi hc
    have hh := s.heat h
    have hgs := s.gas
    rw [leftL_succ (s.inC _ hc), leftL_succ (s.inD i hi)]
    have e1 : lc.contains (σ i) = true := by simpa using hc
    have e2 : ld.contains i = true := by simpa using hi
    have ht : turnedB c (h + 1) (leftL c lc w gc (h + 1)) (σ i) = (decide ((nth c.lots (σ i)).frm ≤ (h + 1 : Nat)) && decide (takeAt c lc w h (leftL c lc w gc h) (σ i) ≤ 0)) := by
      rw [turnedB, leftL_succ (s.inC _ hc)]
    rw [ht]
    clear ht ih
    rw [turnedB] at i1
    rw [takeAt, takeAt, e1, e2, hf]
    rw [hf] at i1
    generalize nth (leftL c lc w gc h) (σ i) = x at *
    generalize nth (leftL d ld w gd h) i = y at *
    generalize (nth d.lots i).frm = f at *
    simp only [Bool.true_and, Bool.and_eq_true, decide_eq_true_eq] at *
    by_cases h1 : f ≤ (h : Int)
    · by_cases h2 : 0 < x
      · have h3 : x ≤ y := by rcases i1 with h3 | h3 <;> omega
        rw [if_pos (show f ≤ (h : Int) ∧ 0 < x from ⟨h1, h2⟩), if_pos (show f ≤ (h : Int) ∧ 0 < y from ⟨h1, by omega⟩)]
        left
        by_cases h4 : gasB d ld h (leftL d ld w gd h) = true
        · rw [if_pos h4]
          rcases hg h4 with h5 | h5
          · split <;> omega
          · rw [if_pos h5]; omega
        · rw [if_neg h4]; split <;> omega
      · right
        rw [if_neg (show ¬ (f ≤ (h : Int) ∧ 0 < x) by omega)]
        omega
    · rw [if_neg (show ¬ (f ≤ (h : Int) ∧ 0 < x) by omega), if_neg (show ¬ (f ≤ (h : Int) ∧ 0 < y) by omega)]
      left; omega
theorem Sim.out (s : Sim c d lc ld gc gd σ) {i : Nat} (hi : i ∈ ld) (hc : σ i ∈ lc) : outAt c lc w gc (c.heat.length + 1) (σ i) ≤ outAt d ld w gd (d.heat.length + 1) i := by
  have hb := (outAt_bd (c := c) (l := lc) (warm := w) (g := gc) (i := σ i) (c.heat.length + 1) (Nat.le_refl _)).2
  rw [outAt.eq_def d]
  split
  · rename_i k e
    obtain ⟨h1, h2⟩ := find_lt e
    have h3 : turnedB c k (leftL c lc w gc k) (σ i) = true := by
      rcases s.left (w := w) k i hi hc with h | h
      · rw [turnedB, Bool.and_eq_true, decide_eq_true_eq, decide_eq_true_eq] at h2 ⊢
        rw [s.frm i hi hc]
        exact ⟨h2.1, Int.le_trans h h2.2⟩
      · exact h
    rw [outAt]
    split
    · rename_i k' e'
      have h4 := (List.find?_range_eq_some.1 e').2.2
      have : ¬ k < k' := fun hk => by have := h4 k hk; rw [h3] at this; cases this
      omega
    · rename_i e'
      have := List.find?_eq_none.1 e' k (by have := s.len; rw [List.mem_range]; omega)
      exact absurd h3 this
  · have := s.len; omega
theorem Sim.times (s : Sim c d lc ld gc gd σ) {i : Nat} (hi : i ∈ ld) (hc : σ i ∈ lc) (h1 : i < d.lots.length) (h2 : σ i < c.lots.length) : nth (timesM c lc w gc) (σ i) ≤ nth (timesM d ld w gd) i := by
  rw [timesM, timesM, nth_map_range _ h1, nth_map_range _ h2, if_pos (by simpa using hc), if_pos (by simpa using hi)]
  exact s.out hi hc
end
/-- What the law's later says. -/
def laterB (p0 p1 m q0 q1 n : Int) : Bool := if n = 2 then m == 2 else (m == 2 || ((m != 1 || n == 1) && decide (q0 ≤ p0) && (m != 1 || decide (q1 ≤ p1))))
def spanH (n : Nat) (H : List Int) : List Int := (H.foldl (spanStep n) (true, [0, 0])).2
def setH (n : Nat) (H : List Int) : Int := settledM (turnedH n H).length H.length
theorem later_dom {n : Nat} {H H' : List Int} (h0 : H ≠ []) (h0' : H' ≠ []) (hb : ∀ x ∈ H, x ≤ (n : Int) + 1) (hb' : ∀ x ∈ H', x ≤ (n : Int) + 1) (d1 : ∀ x ∈ H, ∃ y ∈ H', y ≤ x) (d2 : ∀ y ∈ H', ∃ x ∈ H, y ≤ x) :
    laterB (nth (spanH n H) 0) (nth (spanH n H) 1) (setH n H) (nth (spanH n H') 0) (nth (spanH n H') 1) (setH n H') = true := by
  obtain ⟨a1, a2⟩ := settled_some (n := n) h0
  obtain ⟨b1, b2⟩ := settled_some (n := n) h0'
  obtain ⟨lo, hi, e1, _, e3, e4⟩ := span_fold (n := n) H (true, [0, 0]) 0 0 rfl
  obtain ⟨lo', hi', f1, _, f3, f4⟩ := span_fold (n := n) H' (true, [0, 0]) 0 0 rfl
  rw [spanH, spanH, e1, f1]
  show laterB lo hi (setH n H) lo' hi' (setH n H') = true
  rw [laterB]
  by_cases h2 : setH n H' = 2
  · rw [if_pos h2, beq_iff_eq]
    refine a2.2 fun x hx => ?_
    obtain ⟨y, hy, hl⟩ := d1 x hx
    have := b2.1 h2 y hy
    have := hb x hx
    omega
  · rw [if_neg h2, Bool.or_eq_true]
    by_cases h3 : setH n H = 2
    · left; simpa using h3
    · right
      have hs : setH n H = 1 → ∀ x ∈ H, x ≠ (n : Int) + 1 := a1.1
      have hs' : setH n H = 1 → setH n H' = 1 := fun h => b1.2 fun y hy he => by
        obtain ⟨x, hx, hl⟩ := d2 y hy
        have := hs h x hx
        have := hb x hx
        omega
      rcases e4 with ⟨_, e4⟩ | ⟨e4, e5⟩
      · exact absurd (a2.2 e4) h3
      · rcases f4 with ⟨_, f4⟩ | ⟨f4, f5⟩
        · exact absurd (b2.2 f4) h2
        · have g1 : lo ∈ H ∧ lo ≠ (n : Int) + 1 := by rcases e4 with h | h; exact h; exact absurd h.1 (by simp)
          have g2 : hi' ∈ H' ∧ hi' ≠ (n : Int) + 1 := by rcases f5 with h | h; exact h; exact absurd h.1 (by simp)
          have k1 : lo' ≤ lo := by
            obtain ⟨y, hy, hl⟩ := d1 lo g1.1
            have := hb lo g1.1
            have := (f3 y hy (by omega)).1
            omega
          simp only [Bool.and_eq_true, Bool.or_eq_true, bne_iff_ne, beq_iff_eq, decide_eq_true_eq, ne_eq]
          by_cases h4 : setH n H = 1
          · refine ⟨⟨.inr (hs' h4), k1⟩, .inr ?_⟩
            obtain ⟨x, hx, hl⟩ := d2 hi' g2.1
            have := (e3 x hx (hs h4 x hx)).2
            omega
          · exact ⟨⟨.inl h4, k1⟩, .inl h4⟩
end Go.Proofs.Ytbkknliggnhpcaa
