/- digit, Text and Number of the reference. -/
import Derived.Test.YtocdmkilnbpkdaaGreatDoorQA
import Derived.OwnWalkIn
import Derived.OwnWalk
import Derived.TacticsInMore
import Derived.Deep.DeepCutAuto
set_option linter.unusedVariables false
set_option linter.unusedSimpArgs false
namespace Go.Proofs.YtocdmkilnbpkdaaGreatDoor
open Go.RowKit

def digS (n : Nat) : ByteArray := ⟨#[UInt8.ofNat (48 + n)]⟩
set_option maxRecDepth 100000 in
theorem digit12_any {n : Nat} (hn : n < 10) (w : World) : Calls Tryz.prog 133 #[.int .i64 n] w fun e w' => e = .returned (.string (digS n)) ∧ w = w' := by
 obtain rfl | rfl | rfl | rfl | rfl | rfl | rfl | rfl | rfl | rfl : n = 0 ∨ n = 1 ∨ n = 2 ∨ n = 3 ∨ n = 4 ∨ n = 5 ∨ n = 6 ∨ n = 7 ∨ n = 8 ∨ n = 9 := by omega
 all_goals
  go_enter Tryz.func133, Tryz.ntmps133
  go_wp2
  go_ret
  exact ⟨rfl, rfl⟩
theorem dec_one {n : Nat} (h : n < 10) : decB (n : Int) = digS n := by
 rw [decB, Int.toNat_natCast, Lib.decDigits, dif_pos h]; rfl
theorem dec_two {n : Nat} (h : ¬ n < 10) (h9 : n ≤ 99) : decB (n : Int) = digS (n / 10) ++ digS (n % 10) := by
 rw [decB, Int.toNat_natCast, Lib.decDigits, dif_neg h, Lib.decDigits, dif_pos (by omega)]; rfl
theorem str_nil (s : ByteArray) : s ++ (⟨#[]⟩ : ByteArray) = s := by
 apply ByteArray.ext
 rw [ByteArray.data_append]; simp
theorem nil_str (s : ByteArray) : (⟨#[]⟩ : ByteArray) ++ s = s := by
 apply ByteArray.ext
 rw [ByteArray.data_append]; simp
set_option maxHeartbeats 1000000 in
set_option maxRecDepth 100000 in
theorem text1_any {n : Nat} (hn : n ≤ 99) (w : World) : Calls Tryz.prog 114 #[.int .i64 n] w fun e w' => e = .returned (.string (decB n)) ∧ w = w' := by
 have hn0 : (0 : Int) ≤ (n : Int) := Int.natCast_nonneg _
 have hng : ¬ (n : Int) < 0 := by omega
 have HD1 := hide (fun h : n < 10 => dec_one h)
 have HD2 := hide (fun h : ¬ n < 10 => dec_two h hn)
 go_enter Tryz.func114, Tryz.ntmps114
 go_wp2_with fail
 go_loopw [0, 4, 7, 8, 9, 10, 11, 12, 13, 14, 15, 16, 17, 18, 19, 20, 21, 22, 23] (fun v0 v4 _ _ _ _ _ _ _ _ _ _ _ _ _ _ _ _ _ wr => (∃ (m : Nat) (s : ByteArray), v0 = .int .i64 (m : Nat) ∧ v4 = .string s ∧ ((m = n ∧ s = ⟨#[]⟩) ∨ (10 ≤ n ∧ m = n / 10 ∧ s = digS (n % 10)))) ∧ wr = w) (fun v0 _ _ _ _ _ _ _ _ _ _ _ _ _ _ _ _ _ _ _ => (intOf v0).toNat)
 case atStart => exact ⟨⟨n, _, rfl, rfl, .inl ⟨rfl, rfl⟩⟩, rfl⟩
 case round =>
  obtain ⟨⟨m, s, rfl, rfl, hc⟩, rfl⟩ := hrel
  have hm0 : (0 : Int) ≤ (m : Int) := Int.natCast_nonneg _
  have hm9 : m ≤ 99 := by omega
  by_cases h : m < 10
  · have h1 : ¬ (m : Int) ≤ -10 := by omega
    have h2 : ¬ (10 : Int) ≤ (m : Int) := by omega
    have hw1 : IntKind.i64.wrap (-(m : Int)) = -(m : Int) := IntWalk.i64_in _ (by omega)
    have hM : max (m : Int) (-(m : Int)) = (m : Int) := by omega
    have hM1 : (if (m : Int) < -(m : Int) then -(m : Int) else (m : Int)) = (m : Int) := by split <;> omega
    have HR := hide (show decB n = digS m ++ s from by
     rcases hc with ⟨rfl, rfl⟩ | ⟨h10, rfl, rfl⟩
     · rw [HD1.out h, str_nil]
     · exact HD2.out (by omega))
    have hz0 : s.size ≤ 1 := by
     rcases hc with ⟨_, rfl⟩ | ⟨_, _, rfl⟩
     · decide
     · exact Nat.le_refl 1
    have hz1 : ¬ 9223372036854775807 < (digS m).size := by show ¬ 9223372036854775807 < 1; omega
    have hz2 : ¬ 9223372036854775807 < (digS m).size + s.size := by show ¬ 9223372036854775807 < 1 + s.size; omega
    have hz3 : ¬ 9223372036854775807 < (digS m ++ s).size := by rw [ByteArray.size_append]; exact hz2
    clear hc
    go_wp2_with (go_at_call 133; refine (digit12_any h _).mono ?_; rintro e w9 ⟨rfl, rfl⟩)
    go_ret
    exact ⟨by rw [HR.out, ← nil_str (digS m)]; rfl, rfl⟩
  · have h1 : ¬ (m : Int) ≤ -10 := by omega
    have h2 : (10 : Int) ≤ (m : Int) := by omega
    have hmn : m = n ∧ s = ⟨#[]⟩ := by
     rcases hc with h | h
     · exact h
     · omega
    obtain ⟨rfl, rfl⟩ := hmn
    clear hc
    have hr1 : (m : Int).tmod 10 = ((m % 10 : Nat) : Int) := by rw [Int.tmod_eq_emod_of_nonneg hm0]; simp
    have hr2 : (m : Int).tdiv 10 = ((m / 10 : Nat) : Int) := by rw [Int.tdiv_eq_ediv_of_nonneg hm0]; simp
    have hq : m % 10 < 10 := Nat.mod_lt _ (by omega)
    have hdl : m / 10 < m := by omega
    have HDL := hide hdl
    have h10 : 10 ≤ m := by omega
    have HEQ := hide (⟨rfl, rfl⟩ : m % 10 = m % 10 ∧ m / 10 = m / 10)
    generalize hR : m % 10 = r at *
    generalize hQ : m / 10 = q at *
    have HRR := hide hR
    have HQQ := hide hQ
    clear hR hQ HEQ
    have hr0 : (0 : Int) ≤ (r : Int) := Int.natCast_nonneg _
    have hw1 : IntKind.i64.wrap (r : Int) = (r : Int) := IntWalk.i64_in _ (by omega)
    have hw2 : IntKind.i64.wrap (-(r : Int)) = -(r : Int) := IntWalk.i64_in _ (by omega)
    have hw3 : IntKind.i64.wrap (q : Int) = (q : Int) := IntWalk.i64_in _ (by omega)
    have hM : max (r : Int) (-(r : Int)) = (r : Int) := by omega
    have hM1 : (if (r : Int) < -(r : Int) then -(r : Int) else (r : Int)) = (r : Int) := by split <;> omega
    have hz1 : ¬ 9223372036854775807 < (digS r).size := by show ¬ 9223372036854775807 < 1; omega
    go_wp2_with (go_at_call 133; refine (digit12_any hq _).mono ?_; rintro e w9 ⟨rfl, rfl⟩)
    go_roundw
    case rel => exact ⟨⟨q, digS r, rfl, by rw [str_nil], .inr ⟨h10, rfl, rfl⟩⟩, trivial⟩
    case measure => have := HDL.out; simp [intOf]; omega
/-- The number of which a string is the text. -/
def numR (s : ByteArray) : Int := match (List.range 100).find? (fun k => eqS (decB (k : Nat)) s) with | some k => (k : Int) | none => -1
theorem find_range {p : Nat → Bool} {n k : Nat} (hk : k < n) (hp : p k = true) (h : ∀ j, j < k → p j = false) : (List.range n).find? p = some k := by
 obtain ⟨d, rfl⟩ : ∃ d, n = k + 1 + d := ⟨n - (k + 1), by omega⟩
 rw [List.range_add, List.range_succ, List.find?_append, List.find?_append, List.find?_eq_none.2 (fun x hx => by rw [h x (List.mem_range.1 hx)]; simp), Option.none_or, List.find?_cons, hp]
 rfl
theorem numR_hit {s : ByteArray} {k : Nat} (hk : k < 100) (hp : eqS (decB (k : Nat)) s = true) (h : ∀ j, j < k → eqS (decB (j : Nat)) s = false) : numR s = k := by
 rw [numR, find_range hk hp h]
theorem numR_none {s : ByteArray} (h : ∀ j, j < 100 → eqS (decB (j : Nat)) s = false) : numR s = -1 := by
 rw [numR, List.find?_eq_none.2 fun x hx => by rw [h x (List.mem_range.1 hx)]; simp]
set_option maxHeartbeats 1000000 in
set_option maxRecDepth 100000 in
theorem number1_any (s : ByteArray) (w : World) : Calls Tryz.prog 87 #[.string s, .int .i64 99] w fun e w' => e = .returned (.int .i64 (numR s)) ∧ w = w' := by
 go_enter Tryz.func87, Tryz.ntmps87
 go_wp2_with fail
 go_loopw [5, 6, 7, 8, 9, 10, 11, 12, 13, 14, 15, 16, 17, 18, 19, 20] (fun v5 v6 _ _ _ _ _ _ _ _ _ _ _ _ _ _ wr => ((∃ k : Nat, k ≤ 100 ∧ v6 = .int .i64 (k : Nat) ∧ v5 = .int .i64 (-1) ∧ Hid (∀ j, j < k → eqS (decB (j : Nat)) s = false)) ∨ (∃ k : Nat, k < 100 ∧ v6 = .int .i64 ((k : Nat) + 1) ∧ v5 = .int .i64 (k : Nat) ∧ Hid (numR s = k))) ∧ wr = w) (fun _ v6 _ _ _ _ _ _ _ _ _ _ _ _ _ _ _ => (101 - intOf v6).toNat)
 case atStart => exact ⟨.inl ⟨0, Nat.zero_le _, rfl, rfl, hide (fun j hj => absurd hj (Nat.not_lt_zero _))⟩, rfl⟩
 case round =>
  obtain ⟨hc, rfl⟩ := hrel
  rcases hc with ⟨k, hk, rfl, rfl, HN⟩ | ⟨k, hk, rfl, rfl, HN⟩
  · have hk0 : (0 : Int) ≤ (k : Int) := Int.natCast_nonneg _
    by_cases h : k < 100
    · have hk1 : (k : Int) ≤ 99 := by omega
      cases he : eqS (decB (k : Nat)) s with
      | true =>
       have HH := hide (numR_hit h he HN.out)
       have hes : ((decB (k : Nat)).toList == s.toList) = true := he
       clear he
       go_wp2_with (go_at_call 114; refine (text1_any (n := k) (by omega) _).mono ?_; rintro e w9 ⟨rfl, rfl⟩)
       go_roundw
       case rel => exact ⟨.inr ⟨k, h, by go_num, rfl, HH⟩, trivial⟩
       case measure => simp [intOf]; omega
      | false =>
       have HH := hide he
       have hes : ((decB (k : Nat)).toList == s.toList) = false := he
       clear he
       go_wp2_with (go_at_call 114; refine (text1_any (n := k) (by omega) _).mono ?_; rintro e w9 ⟨rfl, rfl⟩)
       go_roundw
       case rel => exact ⟨.inl ⟨k + 1, by omega, by go_num, rfl, hide (fun j hj => by
        by_cases e : j = k
        · rw [e]; exact HH.out
        · exact HN.out j (by omega))⟩, trivial⟩
       case measure => simp [intOf]; omega
    · obtain rfl : k = 100 := by omega
      have HH := hide (numR_none HN.out)
      go_wp2_with fail
      go_ret
      exact ⟨by rw [HH.out]; rfl, rfl⟩
  · have hk0 : (0 : Int) ≤ (k : Int) := Int.natCast_nonneg _
    have hk1 : ¬ (k : Int) < 0 := by omega
    go_wp2_with fail
    all_goals
     go_ret
     exact ⟨by rw [HN.out]; rfl, rfl⟩
end Go.Proofs.YtocdmkilnbpkdaaGreatDoor
