/- The plain law of chapter 11's Wrong: what the program finds is the least of the sets of papers without which there is a truth, and the first one of the reference's choices. -/
import Derived.Test.YtllmahcanipcpaaHH
import Derived.Test.YtllmahcanipcpaaSG
set_option linter.unusedVariables false
set_option linter.unusedSimpArgs false
namespace Go.Proofs.Ytllmahcanipcpaa

theorem listN_more {s n : Nat} (hs : s < 2 ^ n) : ∀ d, listN s (n + d) = listN s n
  | 0 => rfl
  | d + 1 => by rw [← Nat.add_assoc, listN_succ, listN_more hs d, Nat.testBit_lt_two_pow (Nat.lt_of_lt_of_le hs (Nat.pow_le_pow_right (by omega) (by omega)))]; simp
theorem listN_five {s n : Nat} (hn : n ≤ 5) (hs : s < 2 ^ n) : listN s n = listN s 5 := by
  have := listN_more hs (5 - n)
  rw [show n + (5 - n) = 5 by omega] at this
  exact this.symm
/-- The rank of a list of numbers below 5: by how many, then in order. -/
def rk (l : List Nat) : Nat := l.length * 32 + (31 - (l.map fun i => 2 ^ (4 - i)).sum)
def rkFact : Bool := (List.range 32).all fun s => (List.range 32).all fun t =>
  (worse (listN s 5) (listN t 5) == decide (rk (listN t 5) < rk (listN s 5))) && (fewerB (natInts (listN s 5)) (natInts (listN t 5)) == decide (rk (listN s 5) < rk (listN t 5)))
theorem rkFact_true : rkFact = true := by kernel_rfl
theorem pow_32 {n s : Nat} (hn : n ≤ 5) (hs : s < 2 ^ n) : s < 32 := Nat.lt_of_lt_of_le hs (Nat.pow_le_pow_right (show 0 < 2 by omega) hn)
theorem rk_both {n s t : Nat} (hn : n ≤ 5) (hs : s < 2 ^ n) (ht : t < 2 ^ n) :
    worse (listN s n) (listN t n) = decide (rk (listN t n) < rk (listN s n)) ∧ fewerB (natInts (listN s n)) (natInts (listN t n)) = decide (rk (listN s n) < rk (listN t n)) := by
  have h := rkFact_true
  rw [rkFact, List.all_eq_true] at h
  have h2 := h s (List.mem_range.2 (pow_32 hn hs))
  rw [List.all_eq_true] at h2
  have h3 := h2 t (List.mem_range.2 (pow_32 hn ht))
  rw [Bool.and_eq_true, beq_iff_eq, beq_iff_eq] at h3
  rw [listN_five hn hs, listN_five hn ht]
  exact h3
def riFact : Bool := (List.range 6).all fun n => (List.range (2 ^ n)).all fun s => risingB (natInts (listN s n)) (-1) n && (List.range n).all fun i => s.testBit i == hasInt (natInts (listN s n)) i
theorem riFact_true : riFact = true := by kernel_rfl
theorem ri_both {n s : Nat} (hn : n ≤ 5) (hs : s < 2 ^ n) : risingB (natInts (listN s n)) (-1) n = true ∧ ∀ i, i < n → s.testBit i = hasInt (natInts (listN s n)) i := by
  have h := riFact_true
  rw [riFact, List.all_eq_true] at h
  have h1 := h n (List.mem_range.2 (by omega))
  rw [List.all_eq_true] at h1
  have h2 := h1 s (List.mem_range.2 hs)
  rw [Bool.and_eq_true, List.all_eq_true] at h2
  exact ⟨h2.1, fun i hi => by simpa using h2.2 i (List.mem_range.2 hi)⟩
theorem fwTo_least {n : Nat} {ans : Nat → Bool} (hn : n ≤ 5) : ∀ k, k ≤ 2 ^ n → match fwTo n ans k with
    | none => ∀ j, j < k → ans j = false
    | some b => ∃ s, s < k ∧ ans s = true ∧ b = listN s n ∧ ∀ j, j < k → ans j = true → rk b ≤ rk (listN j n)
  | 0, _ => fun j hj => absurd hj (Nat.not_lt_zero j)
  | k + 1, hk => by
    have ih := fwTo_least (ans := ans) hn k (by omega)
    rw [fwTo]
    cases ho : fwTo n ans k with
    | none =>
      rw [ho] at ih
      simp only at ih ⊢
      cases ha : ans k with
      | true =>
        rw [if_pos rfl]
        refine ⟨k, by omega, ha, rfl, fun j hj hj2 => ?_⟩
        by_cases hjk : j = k
        · rw [hjk]; exact Nat.le_refl _
        · have := ih j (by omega); rw [this] at hj2; cases hj2
      | false =>
        rw [if_neg (by simp)]
        intro j hj
        by_cases hjk : j = k
        · rw [hjk]; exact ha
        · exact ih j (by omega)
    | some b =>
      rw [ho] at ih
      simp only at ih ⊢
      obtain ⟨s, hs, ha, rfl, hl⟩ := ih
      have hw := (rk_both hn (show k < 2 ^ n by omega) (show s < 2 ^ n by omega)).1
      rw [hw]
      by_cases hr : rk (listN s n) < rk (listN k n)
      · rw [if_pos (by simpa using hr)]
        refine ⟨s, by omega, ha, rfl, fun j hj hj2 => ?_⟩
        by_cases hjk : j = k
        · rw [hjk]; exact Nat.le_of_lt hr
        · exact hl j (by omega) hj2
      · rw [if_neg (by simpa using hr)]
        cases hk2 : ans k with
        | true =>
          rw [if_pos rfl]
          refine ⟨k, by omega, hk2, rfl, fun j hj hj2 => ?_⟩
          by_cases hjk : j = k
          · rw [hjk]; exact Nat.le_refl _
          · have := hl j (by omega) hj2; omega
        | false =>
          rw [if_neg (by simp)]
          refine ⟨s, by omega, ha, rfl, fun j hj hj2 => ?_⟩
          by_cases hjk : j = k
          · rw [hjk, hk2] at hj2; cases hj2
          · exact hl j (by omega) hj2
/-- The reference's lists of i ascending numbers below n, in order. -/
def leastC (i : Nat) (g : List Int) : Int := if i = 0 then 0 else nth g (i - 1) + 1
def nextC (n i : Nat) (g : List Int) : List (List Int) := (spanVals ⟨leastC i g, (n : Int) - 1⟩).map fun x => g ++ [x]
def chTo (n : Nat) : Nat → List (List Int)
  | 0 => [[]]
  | i + 1 => (chTo n i).flatMap (nextC n i)
def flatC (n m : Nat) : List (List Int) := (List.range m).flatMap (chTo n)
theorem flatC_succ (n m : Nat) : flatC n (m + 1) = flatC n m ++ chTo n m := by simp [flatC, List.range_succ, List.flatMap_append]
theorem flatC_more (n j : Nat) : ∀ d, ∃ X, flatC n (j + d) = flatC n j ++ X
  | 0 => ⟨[], by simp⟩
  | d + 1 => by
    obtain ⟨X, h⟩ := flatC_more n j d
    exact ⟨X ++ chTo n (j + d), by rw [← Nat.add_assoc, flatC_succ, h, List.append_assoc]⟩
def rkI (l : List Int) : Nat := rk (l.map Int.toNat)
def adjB : List (List Int) → Bool
  | x :: y :: l => decide (rkI x < rkI y) && adjB (y :: l)
  | _ => true
theorem adjB_lt : ∀ {l : List (List Int)} {x : List Int}, adjB (x :: l) = true → ∀ y ∈ l, rkI x < rkI y
  | [], _, _ => by simp
  | y :: l, x, h => by
    rw [adjB, Bool.and_eq_true, decide_eq_true_eq] at h
    intro z hz
    rcases List.mem_cons.1 hz with rfl | hz
    · exact h.1
    · exact Nat.lt_trans h.1 (adjB_lt h.2 z hz)
theorem adjB_tail {l : List (List Int)} {x : List Int} (h : adjB (x :: l) = true) : adjB l = true := by
  cases l with
  | nil => rfl
  | cons y l => rw [adjB, Bool.and_eq_true] at h; exact h.2
theorem find_least (p : List Int → Bool) : ∀ {F : List (List Int)} {b : List Int}, adjB F = true → F.find? p = some b → p b = true ∧ b ∈ F ∧ ∀ x ∈ F, p x = true → rkI b ≤ rkI x
  | [], _, _, h => by cases h
  | x :: l, b, ha, h => by
    rw [List.find?_cons] at h
    cases hp : p x with
    | true =>
      rw [hp] at h
      cases h
      refine ⟨hp, List.mem_cons_self .., fun y hy _ => ?_⟩
      rcases List.mem_cons.1 hy with rfl | hy
      · exact Nat.le_refl _
      · exact Nat.le_of_lt (adjB_lt ha y hy)
    | false =>
      rw [hp] at h
      obtain ⟨h1, h2, h3⟩ := find_least p (adjB_tail ha) h
      refine ⟨h1, List.mem_cons_of_mem _ h2, fun y hy hpy => ?_⟩
      rcases List.mem_cons.1 hy with rfl | hy
      · rw [hp] at hpy; cases hpy
      · exact h3 y hy hpy
def chFact : Bool := (List.range 6).all fun n => (List.range 6).all fun i => decide ((chTo n i).length ≤ 10) && (chTo n i).all fun g =>
  g.length == i && g.all (fun x => decide (0 ≤ x) && decide (x < n)) && decide (leastC i g ≤ n) && decide (0 ≤ leastC i g) && decide ((spanVals ⟨leastC i g, (n : Int) - 1⟩).length ≤ 5)
theorem chFact_true : chFact = true := by kernel_rfl
theorem ch_facts {n i : Nat} (hn : n ≤ 5) (hi : i ≤ 5) : (chTo n i).length ≤ 256 ∧ ∀ g ∈ chTo n i, g.length = i ∧ (∀ x ∈ g, 0 ≤ x ∧ x < n) ∧ leastC i g ≤ n ∧ 0 ≤ leastC i g ∧ (spanVals ⟨leastC i g, (n : Int) - 1⟩).length ≤ 5 := by
  have h := chFact_true
  rw [chFact, List.all_eq_true] at h
  have h1 := h n (List.mem_range.2 (by omega))
  rw [List.all_eq_true] at h1
  have h2 := h1 i (List.mem_range.2 (by omega))
  rw [Bool.and_eq_true, List.all_eq_true] at h2
  refine ⟨Nat.le_trans (of_decide_eq_true h2.1) (by decide), fun g hg => ?_⟩
  have h3 := h2.2 g hg
  simp only [Bool.and_eq_true, beq_iff_eq, decide_eq_true_eq, List.all_eq_true] at h3
  obtain ⟨⟨⟨⟨a, b⟩, d⟩, e⟩, f⟩ := h3
  exact ⟨a, b, d, e, f⟩
def flFact : Bool := (List.range 6).all fun n => adjB (flatC n (n + 1)) && ((flatC n (n + 1)).all fun l => (List.range (2 ^ n)).any fun s => natInts (listN s n) == l) && ((List.range (2 ^ n)).all fun s => (flatC n (n + 1)).any fun l => natInts (listN s n) == l) && decide (chTo n n = [natInts (listN (2 ^ n - 1) n)])
theorem flFact_true : flFact = true := by kernel_rfl
theorem fl_facts {n : Nat} (hn : n ≤ 5) : adjB (flatC n (n + 1)) = true ∧ (∀ l ∈ flatC n (n + 1), ∃ s, s < 2 ^ n ∧ l = natInts (listN s n)) ∧ (∀ s, s < 2 ^ n → natInts (listN s n) ∈ flatC n (n + 1)) ∧ chTo n n = [natInts (listN (2 ^ n - 1) n)] := by
  have h := flFact_true
  rw [flFact, List.all_eq_true] at h
  have h1 := h n (List.mem_range.2 (by omega))
  simp only [Bool.and_eq_true, List.all_eq_true, List.any_eq_true, beq_iff_eq, decide_eq_true_eq, List.mem_range] at h1
  obtain ⟨⟨⟨a, b⟩, c⟩, d⟩ := h1
  refine ⟨a, fun l hl => ?_, fun s hs => ?_, d⟩
  · obtain ⟨s, hs, e⟩ := b l hl; exact ⟨s, hs, e.symm⟩
  · obtain ⟨l, hl, e⟩ := c s hs; rw [e]; exact hl
theorem rkI_nat (l : List Nat) : rkI (natInts l) = rk l := by rw [rkI, natInts, List.map_map]; congr 1; exact (List.map_congr_left fun x _ => by simp).trans (List.map_id _)
/-- What the reference's Wrong answers: the first choice without which there is a truth, but the last. -/
def emptyB (f : File) (b : List Int) : Bool := decide ((truthsM f b).length = 0)
def wrongL (f : File) : List Int := match (flatC f.papers.length f.papers.length).find? (fun b => !emptyB f b) with | some l => l | none => nth (chTo f.papers.length f.papers.length) 0
def wrongR (f : File) : List Int × Int := if (checkM f).2.2 = 0 then (wrongL f, 0) else ([], (checkM f).2.2)
theorem find_hit {F G X : List (List Int)} {p : List Int → Bool} {k : Nat} (hF : ∀ b ∈ F, p b = false) (hk : k < G.length) (hG : ∀ q, q < k → p (nth G q) = false) (hp : p (nth G k) = true) : (F ++ G ++ X).find? p = some (nth G k) := by
  have e : G = G.take k ++ nth G k :: G.drop (k + 1) := by rw [← drop_nth hk, List.take_append_drop]
  have h1 : F.find? p = none := List.find?_eq_none.2 fun b hb => by rw [hF b hb]; simp
  have h2 : (G.take k).find? p = none := List.find?_eq_none.2 fun b hb => by
    obtain ⟨q, hq, rfl⟩ := List.getElem_of_mem hb
    have hq2 : q < k := by simp at hq; omega
    have := hG q hq2
    rw [nth_eq (by omega)] at this
    rw [List.getElem_take, this]; simp
  rw [List.append_assoc, List.find?_append, h1, Option.none_or]
  rw [show (G ++ X).find? p = ((G.take k ++ nth G k :: G.drop (k + 1)) ++ X).find? p by rw [← e]]
  rw [List.append_assoc, List.find?_append, h2, Option.none_or, List.cons_append, List.find?_cons, hp]
theorem wrong_hit {f : File} {j k : Nat} (hj : j < f.papers.length) (hk : k < (chTo f.papers.length j).length) (hF : ∀ b ∈ flatC f.papers.length j, emptyB f b = true) (hG : ∀ q, q < k → emptyB f (nth (chTo f.papers.length j) q) = true) (hp : emptyB f (nth (chTo f.papers.length j) k) = false) : wrongL f = nth (chTo f.papers.length j) k := by
  obtain ⟨d, hd⟩ : ∃ d, f.papers.length = j + 1 + d := ⟨f.papers.length - (j + 1), by omega⟩
  obtain ⟨X, hX⟩ := flatC_more f.papers.length (j + 1) d
  rw [flatC_succ, ← hd] at hX
  rw [wrongL, hX, find_hit (p := fun b => !emptyB f b) (k := k) (fun b hb => by rw [hF b hb]; rfl) hk (fun q hq => by rw [hG q hq]; rfl) (by rw [hp]; rfl)]
theorem wrong_none {f : File} (hF : ∀ b ∈ flatC f.papers.length f.papers.length, emptyB f b = true) : wrongL f = nth (chTo f.papers.length f.papers.length) 0 := by
  rw [wrongL, List.find?_eq_none.2 fun b hb => by rw [hF b hb]; simp]
end Go.Proofs.Ytllmahcanipcpaa
