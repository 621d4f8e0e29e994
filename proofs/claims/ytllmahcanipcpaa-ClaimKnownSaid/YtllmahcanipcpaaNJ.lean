/- The plain law of chapter 11: sets as bits; what the program's questions answer. -/
import Derived.Test.YtllmahcanipcpaaNI
set_option linter.unusedVariables false
set_option linter.unusedSimpArgs false
namespace Go.Proofs.Ytllmahcanipcpaa
open Go.RowKit

/-- The bits of what is so below n. -/
def bitsN (q : Nat → Bool) : Nat → Nat
  | 0 => 0
  | n + 1 => if q n then bitsN q n ||| 2 ^ n else bitsN q n
theorem bitsN_test (q : Nat → Bool) : ∀ n i, (bitsN q n).testBit i = (decide (i < n) && q i)
  | 0, i => by simp [bitsN]
  | n + 1, i => by
    have ih := bitsN_test q n i
    rw [bitsN]
    split
    · rename_i hq
      rw [Nat.testBit_or, ih, Nat.testBit_two_pow]
      by_cases h : n = i
      · subst h; simp [hq]
      · have : decide (i < n + 1) = decide (i < n) := by simp; omega
        simp [h, this]
    · rename_i hq
      rw [ih]
      by_cases h : n = i
      · subst h; simp [hq]
      · have : decide (i < n + 1) = decide (i < n) := by simp; omega
        rw [this]
theorem bitsN_lt (q : Nat → Bool) : ∀ n, bitsN q n < 2 ^ n
  | 0 => by simp [bitsN]
  | k + 1 => by
    have ih := bitsN_lt q k
    rw [bitsN]
    split
    · exact Nat.or_lt_two_pow (by rw [Nat.pow_succ]; omega) (Nat.pow_lt_pow_right (by omega) (by omega))
    · rw [Nat.pow_succ]; omega
theorem bitsN_32 (q : Nat → Bool) {k : Nat} (hk : k ≤ 5) : bitsN q k < 32 := Nat.lt_of_lt_of_le (bitsN_lt q k) (Nat.le_trans (Nat.pow_le_pow_right (by omega) hk) (by decide))
theorem bitsN_ext {m n : Nat} {q : Nat → Bool} (h : ∀ i, m.testBit i = (decide (i < n) && q i)) : m = bitsN q n := Nat.eq_of_testBit_eq fun i => by rw [h, bitsN_test]
theorem bitsN_congr {q r : Nat → Bool} {n : Nat} (h : ∀ i, i < n → q i = r i) : bitsN q n = bitsN r n := bitsN_ext fun i => by
  rw [bitsN_test]
  by_cases hi : i < n
  · rw [h i hi]
  · simp [hi]
theorem bitsN_and (q r : Nat → Bool) (n : Nat) : bitsN q n &&& bitsN r n = bitsN (fun i => q i && r i) n := bitsN_ext fun i => by
  rw [Nat.testBit_and, bitsN_test, bitsN_test]; cases decide (i < n) <;> simp
theorem bitsN_or (q r : Nat → Bool) (n : Nat) : bitsN q n ||| bitsN r n = bitsN (fun i => q i || r i) n := bitsN_ext fun i => by
  rw [Nat.testBit_or, bitsN_test, bitsN_test]; cases decide (i < n) <;> simp
theorem bitsN_one {k n : Nat} (hk : k < n) : 2 ^ k = bitsN (fun i => k == i) n := bitsN_ext fun i => by
  rw [Nat.testBit_two_pow]
  by_cases h : k = i
  · subst h; simp [hk]
  · simp [h]
theorem listN_bits (q : Nat → Bool) (n : Nat) : listN (bitsN q n) n = (List.range n).filter q := by
  rw [listN]
  exact List.filter_congr fun i hi => by rw [bitsN_test, decide_eq_true (List.mem_range.1 hi), Bool.true_and]
theorem paidN_bits (f : File) (s : List Int) : ∀ n, paidN f s n = bitsN (paidB f s) n
  | 0 => rfl
  | n + 1 => by rw [paidN, bitsN, paidN_bits f s n]
set_option maxRecDepth 100000 in
theorem bits_orN {m k : Nat} (hm : m < 32) (hk : k < 32) : bits BinOp.or .i64 (m : Int) (k : Int) = ((m ||| k : Nat) : Int) := by
  have h : ∀ m : Fin 32, ∀ j : Fin 32, bits BinOp.or .i64 ((m : Nat) : Int) ((j : Nat) : Int) = (((m : Nat) ||| (j : Nat) : Nat) : Int) := of_decide_eq_true (by kernel_rfl)
  exact h ⟨m, hm⟩ ⟨k, hk⟩
set_option maxRecDepth 100000 in
theorem bits_andN {m k : Nat} (hm : m < 32) (hk : k < 32) : bits BinOp.and .i64 (m : Int) (k : Int) = ((m &&& k : Nat) : Int) := by
  have h : ∀ m : Fin 32, ∀ j : Fin 32, bits BinOp.and .i64 ((m : Nat) : Int) ((j : Nat) : Int) = (((m : Nat) &&& (j : Nat) : Nat) : Int) := of_decide_eq_true (by kernel_rfl)
  exact h ⟨m, hm⟩ ⟨k, hk⟩
set_option maxRecDepth 100000 in
theorem bits_and1 {k : Nat} (hk : k < 32) : bits BinOp.and .i64 (-1) (k : Int) = (k : Int) := by
  have h : ∀ j : Fin 32, bits BinOp.and .i64 (-1) ((j : Nat) : Int) = ((j : Nat) : Int) := of_decide_eq_true (by kernel_rfl)
  exact h ⟨k, hk⟩
/-- What surely is so, behind some truths: the program's bits. -/
def sureI (f : File) (T : List (List Int)) : Int := if T = [] then -1 else (bitsN (fun i => T.all fun p => paidB f p i) f.claims.length : Nat)
def mayN (f : File) (T : List (List Int)) : Nat := bitsN (fun i => T.any fun p => paidB f p i) f.claims.length
theorem sure_step {f : File} (hc : f.claims.length ≤ 5) (T : List (List Int)) (p : List Int) : bits BinOp.and .i64 (sureI f T) (paidV f p) = sureI f (T ++ [p]) := by
  rw [sureI, sureI, paidV, paidN_bits, if_neg (by simp : ¬ T ++ [p] = [])]
  split
  · rename_i h; subst h
    rw [bits_and1 (bitsN_32 _ hc)]
    simp
  · rw [bits_andN (bitsN_32 _ hc) (bitsN_32 _ hc), bitsN_and]
    simp
theorem may_step {f : File} (hc : f.claims.length ≤ 5) (T : List (List Int)) (p : List Int) : bits BinOp.or .i64 (mayN f T : Nat) (paidV f p) = (mayN f (T ++ [p]) : Nat) := by
  rw [mayN, mayN, paidV, paidN_bits, bits_orN (bitsN_32 _ hc) (bitsN_32 _ hc), bitsN_or]
  simp
theorem mayN_nil (f : File) : mayN f [] = 0 := by
  rw [mayN]
  exact (bitsN_ext (m := 0) fun i => by simp).symm
def whoN (f : File) (lot : Nat) (T : List (List Int)) : Nat := bitsN (fun i => T.any fun p => withM f p lot == (i : Int)) f.parties.length
theorem who_step {f : File} (hp : f.parties.length ≤ 4) (lot : Nat) (T : List (List Int)) (p : List Int) {k : Nat} (hk : withM f p lot = (k : Int)) (hk2 : k < f.parties.length) : bits BinOp.or .i64 (whoN f lot T : Nat) (wrap64 (2 ^ k)) = (whoN f lot (T ++ [p]) : Nat) := by
  rw [whoN, whoN, bits_or (bitsN_32 _ (by omega)) (by omega), bitsN_one hk2, bitsN_or]
  congr 2
  funext i
  rw [List.any_append, List.any_cons, List.any_nil, Bool.or_false, hk]
  congr 1
  rw [Bool.eq_iff_iff, beq_iff_eq, beq_iff_eq]; omega
theorem whoN_nil (f : File) (lot : Nat) : whoN f lot [] = 0 := by
  rw [whoN]
  exact (bitsN_ext (m := 0) fun i => by simp).symm
end Go.Proofs.Ytllmahcanipcpaa
