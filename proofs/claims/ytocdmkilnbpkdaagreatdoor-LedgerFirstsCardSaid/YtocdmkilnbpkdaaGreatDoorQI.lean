/- Ranks of sets of tallies; LedgerFewest. -/
import Derived.Test.YtocdmkilnbpkdaaGreatDoorQG
import Derived.Test.YtocdmkilnbpkdaaGreatDoorZZ
import Derived.OwnWalkIn
import Derived.OwnWalk
import Derived.Laws.AppendOwn
import Derived.Laws.StructEq
import Derived.TacticsInMore
import Derived.Deep.DeepCutAuto
set_option linter.unusedVariables false
set_option linter.unusedSimpArgs false
namespace Go.Proofs.YtocdmkilnbpkdaaGreatDoor
open Go.RowKit
attribute [local go_sem] Oper.semAt_some
theorem listN_more {s n : Nat} (hs : s < 2 ^ n) : ∀ d, listN s (n + d) = listN s n
 | 0 => rfl
 | d + 1 => by rw [← Nat.add_assoc, listN_succ, listN_more hs d, Nat.testBit_lt_two_pow (Nat.lt_of_lt_of_le hs (Nat.pow_le_pow_right (by omega) (by omega)))]; simp
theorem listN_six {s n : Nat} (hn : n ≤ 6) (hs : s < 2 ^ n) : listN s n = listN s 6 := by
 have := listN_more hs (6 - n)
 rw [show n + (6 - n) = 6 by omega] at this
 exact this.symm
/-- The rank of a list of numbers below 6: by how many, then in order. -/
def rk (l : List Nat) : Nat := l.length * 64 + (63 - (l.map fun i => 2 ^ (5 - i)).sum)
def rkFact : Bool := (List.range 64).all fun s => (List.range 64).all fun t =>
 (worse (listN s 6) (listN t 6) == decide (rk (listN t 6) < rk (listN s 6))) && (fewerB (natInts (listN s 6)) (natInts (listN t 6)) == decide (rk (listN s 6) < rk (listN t 6)))
theorem rkFact_true : rkFact = true := by kernel_rfl
theorem pow_64 {n s : Nat} (hn : n ≤ 6) (hs : s < 2 ^ n) : s < 64 := Nat.lt_of_lt_of_le hs (Nat.pow_le_pow_right (show 0 < 2 by omega) hn)
theorem rk_both {n s t : Nat} (hn : n ≤ 6) (hs : s < 2 ^ n) (ht : t < 2 ^ n) :
 worse (listN s n) (listN t n) = decide (rk (listN t n) < rk (listN s n)) ∧ fewerB (natInts (listN s n)) (natInts (listN t n)) = decide (rk (listN s n) < rk (listN t n)) := by
 have h := rkFact_true
 rw [rkFact, List.all_eq_true] at h
 have h2 := h s (List.mem_range.2 (pow_64 hn hs))
 rw [List.all_eq_true] at h2
 have h3 := h2 t (List.mem_range.2 (pow_64 hn ht))
 rw [Bool.and_eq_true, beq_iff_eq, beq_iff_eq] at h3
 rw [listN_six hn hs, listN_six hn ht]
 exact h3
def riFact : Bool := (List.range 7).all fun n => (List.range (2 ^ n)).all fun s => risingB (natInts (listN s n)) (-1) n && (List.range n).all fun i => s.testBit i == hasInt (natInts (listN s n)) i
theorem riFact_true : riFact = true := by kernel_rfl
theorem ri_both {n s : Nat} (hn : n ≤ 6) (hs : s < 2 ^ n) : risingB (natInts (listN s n)) (-1) n = true ∧ ∀ i, i < n → s.testBit i = hasInt (natInts (listN s n)) i := by
 have h := riFact_true
 rw [riFact, List.all_eq_true] at h
 have h1 := h n (List.mem_range.2 (by omega))
 rw [List.all_eq_true] at h1
 have h2 := h1 s (List.mem_range.2 hs)
 rw [Bool.and_eq_true, List.all_eq_true] at h2
 exact ⟨h2.1, fun i hi => by simpa using h2.2 i (List.mem_range.2 hi)⟩
theorem fwTo_least {n : Nat} {ans : Nat → Bool} (hn : n ≤ 6) : ∀ k, k ≤ 2 ^ n → (match fwTo n ans k with
 | none => ∀ j, j < k → ans j = false
 | some b => ∃ s, s < k ∧ ans s = true ∧ b = listN s n ∧ ∀ j, j < k → ans j = true → rk b ≤ rk (listN j n))
 | 0, _ => fun j hj => absurd hj (Nat.not_lt_zero j)
 | k + 1, hk => by
  have ih := fwTo_least (ans := ans) hn k (by omega)
  rw [fwTo]
  cases ho : fwTo n ans k with
  | none =>
   rw [ho] at ih
   simp only at ih ⊢
   cases ha : ans k with
   | true =>
    rw [if_pos rfl]
    refine ⟨k, by omega, ha, rfl, fun j hj hj2 => ?_⟩
    by_cases hjk : j = k
    · rw [hjk]; exact Nat.le_refl _
    · have := ih j (by omega); rw [this] at hj2; cases hj2
   | false =>
    rw [if_neg (by simp)]
    intro j hj
    by_cases hjk : j = k
    · rw [hjk]; exact ha
    · exact ih j (by omega)
  | some b =>
   rw [ho] at ih
   simp only at ih ⊢
   obtain ⟨s, hs, ha, rfl, hl⟩ := ih
   have hw := (rk_both hn (show k < 2 ^ n by omega) (show s < 2 ^ n by omega)).1
   rw [hw]
   by_cases hr : rk (listN s n) < rk (listN k n)
   · rw [if_pos (by simpa using hr)]
     refine ⟨s, by omega, ha, rfl, fun j hj hj2 => ?_⟩
     by_cases hjk : j = k
     · rw [hjk]; exact Nat.le_of_lt hr
     · exact hl j (by omega) hj2
   · rw [if_neg (by simpa using hr)]
     cases hk2 : ans k with
     | true =>
      rw [if_pos rfl]
      refine ⟨k, by omega, hk2, rfl, fun j hj hj2 => ?_⟩
      by_cases hjk : j = k
      · rw [hjk]; exact Nat.le_refl _
      · have := hl j (by omega) hj2; omega
     | false =>
      rw [if_neg (by simp)]
      refine ⟨s, by omega, ha, rfl, fun j hj hj2 => ?_⟩
      by_cases hjk : j = k
      · rw [hjk, hk2] at hj2; cases hj2
      · exact hl j (by omega) hj2
theorem some_ext {b : Book} {p q : Nat → Bool} (h : ∀ i, i < b.tallies.length → p i = q i) : someB b p = someB b q := by
 have e : cB b p = cB b q := tall_ext rfl _ fun k hk => ⟨rfl, h k hk⟩
 rw [someB, someB, e]
theorem some_set {b : Book} (h6 : b.tallies.length ≤ 6) {s : Nat} (hs : s < 2 ^ b.tallies.length) : someB b (hasInt (natInts (listN s b.tallies.length)) ·) = someB b (fun i => s.testBit i) :=
 some_ext fun i hi => ((ri_both h6 hs).2 i hi).symm
/-- Without any tally there is a truth. -/
theorem some_all {b : Book} (hg : Good b) {p : Nat → Bool} (hp : ∀ i, i < b.tallies.length → p i = true) : someB b p = true := by
 have hc : ∀ j, j ≤ b.tallies.length → tallC b p j = tallC b p 0 := fun j => by
  induction j with
  | zero => intro _; rfl
  | succ j ih =>
   intro hj
   have e : tallC b p (j + 1) = tallC b p j := by rw [tallC]; exact if_pos (hp j (by omega))
   rw [e, ih (by omega)]
 have z : ∀ l : List Nat, sumL (fun _ => 0) l = 0 := fun l => by
  induction l with
  | nil => rfl
  | cons x l ih => simp [sumL, ih]
 refine truth_ne hg.way (cB_99 b p) (x := fun _ => 0) ⟨fun i hi => ?_, fun i hi _ => ?_⟩
 · have hi' : i < b.steps.length := hi
   rw [cB, hc _ (Nat.le_refl _)]
   show (tallC b p 0 i).lo ≤ 0 ∧ 0 ≤ (tallC b p 0 i).hi
   have e : tallC b p 0 i = ⟨0, 99⟩ := if_pos hi'
   rw [e]; simp
 · rw [z]; have := hg.way.loss i hi; dsimp only; omega
theorem wrong_of {b : Book} (hc : (checkM b).2.2 = 0) : ∃ s, s < 2 ^ b.tallies.length ∧ wrongV b = (listN s b.tallies.length, 0) ∧ someB b (fun i => s.testBit i) = true ∧ ∀ j, j < 2 ^ b.tallies.length → someB b (fun i => j.testBit i) = true → rk (listN s b.tallies.length) ≤ rk (listN j b.tallies.length) := by
 have hv := valid_of hc
 have hn := hv.tallies
 have hl := fwTo_least (ans := fun k => someB b (fun i => k.testBit i)) hn (2 ^ b.tallies.length) (Nat.le_refl _)
 have hw : wrongV b = ((fwTo b.tallies.length (fun k => someB b (fun i => k.testBit i)) (2 ^ b.tallies.length)).getD [], 0) := by rw [wrongV, if_neg (by rw [hc]; simp)]
 cases ho : fwTo b.tallies.length (fun k => someB b (fun i => k.testBit i)) (2 ^ b.tallies.length) with
 | none =>
  rw [ho] at hl
  have hp : 0 < 2 ^ b.tallies.length := Nat.pow_pos (by omega)
  have h1 := hl (2 ^ b.tallies.length - 1) (by omega)
  have h2 : someB b (fun i => (2 ^ b.tallies.length - 1).testBit i) = true := some_all hv.good fun i hi => by rw [Nat.testBit_two_pow_sub_one]; simpa using hi
  rw [h2] at h1; cases h1
 | some l =>
  rw [ho] at hl hw
  obtain ⟨s, hs, ha, rfl, hle⟩ := hl
  exact ⟨s, hs, hw, ha, hle⟩
end Go.Proofs.YtocdmkilnbpkdaaGreatDoor
