/- The plain law of Wrong: what fewest finds is the least of the sets without which there is a truth. -/
import Derived.Test.YtbkknliggnhpcaaPa
import Derived.Test.YtbkknliggnhpcaaGH
set_option linter.unusedVariables false
set_option linter.unusedSimpArgs false
namespace Go.Proofs.Ytbkknliggnhpcaa

/-- The rank of a list of numbers below 5: by how many, then in order. -/
def rk (l : List Nat) : Nat := l.length * 32 + (31 - (l.map fun i => 2 ^ (4 - i)).sum)
def rkFact : Bool := (List.range 5).all fun n => (List.range 16).all fun s => (List.range 16).all fun t =>
  (worse (listN s n) (listN t n) == decide (rk (listN t n) < rk (listN s n))) && (fewerB (natInts (listN s n)) (natInts (listN t n)) == decide (rk (listN s n) < rk (listN t n)))
theorem rkFact_true : rkFact = true := by kernel_rfl
theorem rk_both {n s t : Nat} (hn : n ≤ 4) (hs : s < 2 ^ n) (ht : t < 2 ^ n) :
    worse (listN s n) (listN t n) = decide (rk (listN t n) < rk (listN s n)) ∧ fewerB (natInts (listN s n)) (natInts (listN t n)) = decide (rk (listN s n) < rk (listN t n)) := by
  have h := rkFact_true
  have h16 : 2 ^ n ≤ 16 := Nat.pow_le_pow_right (by omega) hn
  rw [rkFact, List.all_eq_true] at h
  have h1 := h n (List.mem_range.2 (by omega))
  rw [List.all_eq_true] at h1
  have h2 := h1 s (List.mem_range.2 (by omega))
  rw [List.all_eq_true] at h2
  have h3 := h2 t (List.mem_range.2 (by omega))
  rw [Bool.and_eq_true, beq_iff_eq, beq_iff_eq] at h3
  exact h3
def riFact : Bool := (List.range 5).all fun n => (List.range 16).all fun s => risingB (natInts (listN s n)) (-1) n && (List.range n).all fun i => s.testBit i == hasInt (natInts (listN s n)) i
theorem riFact_true : riFact = true := by kernel_rfl
theorem ri_both {n s : Nat} (hn : n ≤ 4) (hs : s < 16) : risingB (natInts (listN s n)) (-1) n = true ∧ ∀ i, i < n → s.testBit i = hasInt (natInts (listN s n)) i := by
  have h := riFact_true
  rw [riFact, List.all_eq_true] at h
  have h1 := h n (List.mem_range.2 (by omega))
  rw [List.all_eq_true] at h1
  have h2 := h1 s (List.mem_range.2 hs)
  rw [Bool.and_eq_true, List.all_eq_true] at h2
  exact ⟨h2.1, fun i hi => by simpa using h2.2 i (List.mem_range.2 hi)⟩

theorem fwTo_least {n : Nat} {ans : Nat → Bool} (hn : n ≤ 4) : ∀ k, k ≤ 2 ^ n → match fwTo n ans k with
    | none => ∀ j, j < k → ans j = false
    | some b => ∃ s, s < k ∧ ans s = true ∧ b = listN s n ∧ ∀ j, j < k → ans j = true → rk b ≤ rk (listN j n)
  | 0, _ => fun j hj => absurd hj (Nat.not_lt_zero j)
  | k + 1, hk => by
    have ih := fwTo_least (ans := ans) hn k (by omega)
    rw [fwTo]
    cases ho : fwTo n ans k with
    | none =>
      rw [ho] at ih
      simp only at ih ⊢
      cases ha : ans k with
      | true =>
        rw [if_pos rfl]
        refine ⟨k, by omega, ha, rfl, fun j hj hj2 => ?_⟩
        by_cases hjk : j = k
        · rw [hjk]; exact Nat.le_refl _
        · have := ih j (by omega); rw [this] at hj2; cases hj2
      | false =>
        rw [if_neg (by simp)]
        intro j hj
        by_cases hjk : j = k
        · rw [hjk]; exact ha
        · exact ih j (by omega)
    | some b =>
      rw [ho] at ih
      simp only at ih ⊢
      obtain ⟨s, hs, ha, rfl, hl⟩ := ih
      have hw := (rk_both hn (show k < 2 ^ n by omega) (show s < 2 ^ n by omega)).1
      rw [hw]
      by_cases hr : rk (listN s n) < rk (listN k n)
      · rw [if_pos (by simpa using hr)]
        refine ⟨s, by omega, ha, rfl, fun j hj hj2 => ?_⟩
        by_cases hjk : j = k
        · rw [hjk]; exact Nat.le_of_lt hr
        · exact hl j (by omega) hj2
      · rw [if_neg (by simpa using hr)]
        cases hk2 : ans k with
        | true =>
          rw [if_pos rfl]
          refine ⟨k, by omega, hk2, rfl, fun j hj hj2 => ?_⟩
          by_cases hjk : j = k
          · rw [hjk]; exact Nat.le_refl _
          · have := hl j (by omega) hj2; omega
        | false =>
          rw [if_neg (by simp)]
          refine ⟨s, by omega, ha, rfl, fun j hj hj2 => ?_⟩
          by_cases hjk : j = k
          · rw [hjk, hk2] at hj2; cases hj2
          · exact hl j (by omega) hj2

theorem someS_list {c : Cargo} (hv : Valid c) {s : Nat} (hs : s < 16) : someS c s = someM c (natInts (listN s c.seen.length)) := someS_eq hv (ri_both hv.seens hs).2
theorem spanVals_ne {s : Span} (h : s.lo ≤ s.hi) : spanVals s ≠ [] := by
  intro e
  have : (spanVals s).length = 0 := by rw [e]; rfl
  simp only [spanVals, List.length_map, List.length_range] at this
  omega
theorem flat_ne {α β : Type} {l : List α} {f : α → List β} (h : l ≠ []) (hf : ∀ x, f x ≠ []) : l.flatMap f ≠ [] := by
  cases l with
  | nil => exact absurd rfl h
  | cons a t =>
    rw [List.flatMap_cons]
    intro e
    exact hf a (List.append_eq_nil_iff.1 e).1
theorem greensTo_ne {c : Cargo} (hv : Valid c) (hold : Int) : ∀ i, i ≤ c.lots.length → greensTo c hold i ≠ []
  | 0, _ => by rw [greensTo]; simp
  | i + 1, hi => by
    rw [greensTo]
    exact flat_ne (greensTo_ne hv hold i (by omega)) fun g e => spanVals_ne (lotSpan_ok hv hold (show i < c.lots.length by omega)).2.1 (List.map_eq_nil_iff.1 e)
theorem allM_ne {c : Cargo} (hv : Valid c) {hold : Nat} (hh : hold < c.holds.length) : allM c hold ≠ [] := by
  rw [allM]
  exact flat_ne (spanVals_ne (hv.warm hold hh).2.1) fun wm e => greensTo_ne hv hold _ (Nat.le_refl _) (List.map_eq_nil_iff.1 e)
theorem someM_drop {c : Cargo} (hv : Valid c) {but : List Int} (hb : ∀ i : Nat, i < c.seen.length → hasInt but i = true) : someM c but = true := by
  rw [someM, someTo, List.all_eq_true]
  intro hold hh
  have hh2 := List.mem_range.1 hh
  have : waysM c hold but = allM c hold := by
    rw [waysM]
    refine List.filter_eq_self.2 fun p _ => ?_
    rw [wayB, soM, soTo, List.all_eq_true]
    intro i hi
    rw [lookB, hb i (List.mem_range.1 hi)]
    simp
  rw [this]
  have := allM_ne hv hh2
  cases ha : allM c hold with
  | nil => exact absurd ha this
  | cons _ _ => rfl

/-- The list of the looks that bits name. -/
def bitsL (b : Int) (n : Nat) : List Int := ((List.range n).filter fun i => bitB i b).map fun i : Nat => (i : Int)
def biFact : Bool := (List.range 5).all fun n => (List.range 256).all fun b => bitsL b n == natInts (listN (b % 2 ^ n) n)
theorem biFact_true : biFact = true := by kernel_rfl
theorem bitsL_list {n : Nat} {b : Int} (hn : n ≤ 4) (h0 : 0 ≤ b) (hb : b ≤ 255) : ∃ s, s < 2 ^ n ∧ bitsL b n = natInts (listN s n) := by
  have h := biFact_true
  rw [biFact, List.all_eq_true] at h
  have h1 := h n (List.mem_range.2 (by omega))
  rw [List.all_eq_true] at h1
  have h2 := h1 b.toNat (List.mem_range.2 (by omega))
  rw [beq_iff_eq, show ((b.toNat : Nat) : Int) = b by omega] at h2
  exact ⟨b.toNat % 2 ^ n, Nat.mod_lt _ (Nat.pow_pos (by omega)), h2⟩

theorem wrong_laws {c : Cargo} (hv : Valid c) (hc : (checkM c).2.2 = 0) {b : Int} (h0 : 0 ≤ b) (hb : b ≤ 255) :
    (wrongV c).2 = 0 ∧ risingB (natInts (wrongV c).1) (-1) c.seen.length = true ∧ someM c (natInts (wrongV c).1) = true ∧
    (someM c (bitsL b c.seen.length) = true → fewerB (bitsL b c.seen.length) (natInts (wrongV c).1) = false) := by
  have hn := hv.seens
  have h16 : 2 ^ c.seen.length ≤ 16 := Nat.pow_le_pow_right (by omega) hn
  have hp : 0 < 2 ^ c.seen.length := Nat.pow_pos (by omega)
  rw [wrongV, if_neg (by simp [hc])]
  have hl := fwTo_least (ans := someS c) hn (2 ^ c.seen.length) (Nat.le_refl _)
  cases ho : fwTo c.seen.length (someS c) (2 ^ c.seen.length) with
  | none =>
    rw [ho] at hl
    have := hl (2 ^ c.seen.length - 1) (by omega)
    rw [someS_list hv (by omega), someM_drop hv fun i hi => by
      rw [← (ri_both hn (show 2 ^ c.seen.length - 1 < 16 by omega)).2 i hi, Nat.testBit_two_pow_sub_one]; simpa using hi] at this
    cases this
  | some l =>
    rw [ho] at hl
    obtain ⟨s, hs, ha, rfl, hm⟩ := hl
    refine ⟨rfl, (ri_both hn (by omega)).1, by rw [Option.getD_some, ← someS_list hv (by omega)]; exact ha, fun hso => ?_⟩
    obtain ⟨t, ht, e⟩ := bitsL_list hn h0 hb
    rw [e] at hso ⊢
    rw [← someS_list hv (by omega)] at hso
    have := hm t ht hso
    rw [Option.getD_some, (rk_both hn ht hs).2]
    simpa using this
end Go.Proofs.Ytbkknliggnhpcaa
