/- Contracts of the small helpers of the reference package 01: In, Inside, Ends, Join, Settled, Bit, Has, Less, Ints, Fewer, Rising. -/
import Derived.Test.YtocdmkilnbpkdaaGreatDoorHA
import Derived.Deep.QuietTactic
import Derived.BigQuiet
set_option linter.unusedVariables false
set_option linter.unusedSimpArgs false
namespace Go.Proofs.YtocdmkilnbpkdaaGreatDoor
open Go.RowKit
theorem ret_b {a b : Bool} (h : a = b) : Ending.returned (.bool a) = Ending.returned (.bool b) := by rw [h]
theorem ret_i {a b : Int} (h : a = b) : Ending.returned (.int .i64 a) = Ending.returned (.int .i64 b) := by rw [h]

def inB (n lo hi : Int) : Bool := decide (lo ≤ n ∧ n ≤ hi)
set_option maxHeartbeats 400000 in
theorem in_any (n lo hi : Int) (w : World) : Calls Tryz.prog 56 #[.int .i64 n, .int .i64 lo, .int .i64 hi] w fun e w' => e = .returned (.bool (inB n lo hi)) ∧ w = w' := by
 go_enter Tryz.func56, Tryz.ntmps56
 by_cases h : lo ≤ n <;> by_cases h2 : n ≤ hi
 all_goals
  go_wp2
  go_ret
  exact ⟨ret_b (by simp [inB]; omega), rfl⟩
set_option maxHeartbeats 400000 in
theorem inside_any (n lo hi : Int) (w : World) : Calls Tryz.prog 45 #[.int .i64 n, .agg #[.int .i64 lo, .int .i64 hi]] w fun e w' => e = .returned (.bool (inB n lo hi)) ∧ Below w.heap.size w w' := by
 go_enter Tryz.func45, Tryz.ntmps45
 go_wp2_with (go_at_call 56; refine (in_any _ _ _ _).mono ?_; rintro e w' ⟨rfl, rfl⟩)
 go_ret
 exact ⟨rfl, (Below.refl _ _).alloc (Nat.le_refl _) _⟩
def endsE (s : Span) (lo hi : Int) : Int := if inB s.lo lo hi && inB s.hi lo hi then (if s.hi < s.lo then 2 else 0) else 7
set_option maxHeartbeats 400000 in
theorem join_any (s : Span) (n : Int) (w : World) : Calls Tryz.prog 97 #[.agg #[.int .i64 s.lo, .int .i64 s.hi], .int .i64 n] w fun e w' => e = .returned (.agg #[.int .i64 (min s.lo n), .int .i64 (max s.hi n)]) ∧ Below w.heap.size w w' := by
 go_enter Tryz.func97, Tryz.ntmps97
 go_wp2
 all_goals exact bodyPost_ret (v := .agg #[.int .i64 (min s.lo n), .int .i64 (max s.hi n)]) (by simp [results, Tryz.results97, go_sem]; omega) rfl ⟨rfl, ((Below.refl _ _).alloc (Nat.le_refl _) _).alloc (by simp) _⟩
def settledM (some all : Int) : Int := if some = all then 1 else if some = 0 then 2 else 0
def hasInt (xs : List Int) (k : Int) : Bool := xs.any (· == k)
theorem hasInt_snoc (xs : List Int) (j : Nat) (k : Int) (h : j < xs.length) : hasInt (xs.take (j + 1)) k = (hasInt (xs.take j) k || nth xs j == k) := by
 rw [take_nth h]; simp [hasInt]
set_option maxHeartbeats 400000 in
theorem has_any {A : Option Addr} {n c B : Nat} {xs : List Int} {w : World} (h : IntsS w B A n c xs) (k : Int) :
 Calls Tryz.prog 46 #[.slice A n c, .int .i64 k] w fun e w' => e = .returned (.bool (hasInt xs k)) ∧ w = w' := by
 have hm := h.bd
 have HL := hide h.len
 go_enter Tryz.func46, Tryz.ntmps46
 go_wp2
 go_loop [5, 6] (fun m i => ∃ j : Nat, j ≤ n ∧ i = .int .i64 j ∧ m = .bool (hasInt (xs.take j) k)) (fun _ i => n - (intOf i).toNat)
 case atStart => exact ⟨0, Nat.zero_le _, rfl, rfl⟩
 case round =>
  obtain ⟨j, hj, rfl, rfl⟩ := hrel
  by_cases hlt : j < n
  · obtain ⟨b, off, rfl, hb, hc⟩ := h.at_ hlt
    have HS := hide (hasInt_snoc xs j k (by rw [HL.out]; exact hlt))
    go_wp2
    all_goals
     go_round
     case rel => exact ⟨j + 1, by omega, by go_num, by rw [HS.out]; simp_all⟩
     case measure => simp [intOf]; omega
  · go_wp2
    go_ret
    exact ⟨by rw [List.take_of_length_le (by rw [HL.out]; omega)]; rfl, rfl⟩
def lessB : List Int → List Int → Bool
 | _, [] => false
 | [], _ :: _ => true
 | x :: a, y :: b => if x = y then lessB a b else decide (x < y)
theorem lessB_same (a b : List Int) : ∀ j, j ≤ a.length → j ≤ b.length → (∀ k, k < j → nth a k = nth b k) → lessB a b = lessB (a.drop j) (b.drop j) := by
 intro j
 induction j generalizing a b with
 | zero => intros; rfl
 | succ j ih =>
  intro h1 h2 h
  cases a with
  | nil => simp at h1
  | cons x a =>
   cases b with
   | nil => simp at h2
   | cons y b =>
    have h0 := h 0 (by omega)
    simp only [nth, List.getD_cons_zero] at h0
    subst h0
    simp only [lessB, if_true, List.drop_succ_cons]
    exact ih a b (by simpa using h1) (by simpa using h2) (fun k hk => by have := h (k + 1) (by omega); simpa [nth] using this)
theorem drop_nth {α : Type} [Inhabited α] {l : List α} {j : Nat} (h : j < l.length) : l.drop j = nth l j :: l.drop (j + 1) := by
 rw [List.drop_eq_getElem_cons h, nth_eq h]
set_option maxHeartbeats 400000 in
theorem less_any {A A' : Option Addr} {n n' c c' B B' : Nat} {xs ys : List Int} {w : World} (h : IntsS w B A n c xs) (h' : IntsS w B' A' n' c' ys) :
 Calls Tryz.prog 49 #[.slice A n c, .slice A' n' c'] w fun e w' => e = .returned (.bool (lessB xs ys)) ∧ Dr w w' := by
 have hm := h.bd
 have hm' := h'.bd
 have HL := hide h.len
 have HL' := hide h'.len
 go_enter Tryz.func49, Tryz.ntmps49
 go_wp2
 go_loopw [5] (fun i wr => ∃ j q : Nat, j ≤ n ∧ j ≤ n' ∧ i = .int .i64 j ∧ wr = w.drewN q ∧ Hid (∀ k, k < j → nth xs k = nth ys k)) (fun i _ => n - (intOf i).toNat)
 case atStart => exact ⟨0, 0, Nat.zero_le _, Nat.zero_le _, rfl, rfl, fun k hk => by omega⟩
 case round =>
  obtain ⟨j, q, hj, hj', rfl, rfl, H⟩ := hrel
  by_cases hlt : j < n
  · by_cases hlt' : j < n'
    · obtain ⟨b, off, rfl, hb, hc⟩ := h.at_ hlt
      obtain ⟨b', off', rfl, hb', hc'⟩ := h'.at_ hlt'
      by_cases he : nth xs j = nth ys j
      · have hd : (nth xs j == nth ys j) = true := by simpa using he
        have HE := hide he
        clear he
        go_wp2_with fail
        go_quiet (fail)
        go_wp2
        go_roundw
        case rel => exact ⟨j + 1, _, by omega, by omega, by go_num, rfl, fun k hk => by
         rcases Nat.lt_or_ge k j with h1 | h1
         · exact H.out k h1
         · rw [show k = j by omega]; exact HE.out⟩
        case measure => simp [intOf]; omega
      · have hd : (nth xs j == nth ys j) = false := by simpa using he
        have hg : ((j : Int) == (n : Int)) = false := by simp; omega
        have HE := hide he
        clear he
        go_wp2_with fail
        go_quiet (fail)
        go_wp2_with fail
        go_quiet (fail)
        go_wp2
        go_ret
        exact ⟨ret_b (by rw [lessB_same xs ys j (by rw [HL.out]; exact hj) (by rw [HL'.out]; exact hj') H.out, drop_nth (l := xs) (by rw [HL.out]; exact hlt), drop_nth (l := ys) (by rw [HL'.out]; exact hlt'), lessB, if_neg HE.out]), by repeat (first | exact Dr.refl _ | refine Dr.drewN ?_ _)⟩
    · go_wp2_with fail
      go_quiet (fail)
      go_wp2
      go_ret
      exact ⟨ret_b (by rw [lessB_same xs ys j (by rw [HL.out]; exact hj) (by rw [HL'.out]; exact hj') H.out, List.drop_of_length_le (by rw [HL'.out]; omega : ys.length ≤ j)]; simp [lessB]), by repeat (first | exact Dr.refl _ | refine Dr.drewN ?_ _)⟩
  · have hg : ((j : Int) == (n : Int)) = true := by simp; omega
    by_cases hlt' : j < n'
    · go_wp2_with fail
      go_quiet (fail)
      go_wp2_with fail
      go_quiet (fail)
      go_wp2
      go_ret
      exact ⟨ret_b (by rw [lessB_same xs ys j (by rw [HL.out]; exact hj) (by rw [HL'.out]; exact hj') H.out, List.drop_of_length_le (by rw [HL.out]; omega : xs.length ≤ j), drop_nth (l := ys) (by rw [HL'.out]; exact hlt')]; simp [lessB]), by repeat (first | exact Dr.refl _ | refine Dr.drewN ?_ _)⟩
    · go_wp2_with fail
      go_quiet (fail)
      go_wp2
      go_ret
      exact ⟨ret_b (by rw [lessB_same xs ys j (by rw [HL.out]; exact hj) (by rw [HL'.out]; exact hj') H.out, List.drop_of_length_le (by rw [HL'.out]; omega : ys.length ≤ j)]; simp [lessB]), by repeat (first | exact Dr.refl _ | refine Dr.drewN ?_ _)⟩
def intsB (a b : List Int) : Bool := a.length == b.length && !lessB a b && !lessB b a
theorem lessB_irrefl (a : List Int) : lessB a a = false := by induction a <;> simp_all [lessB]
theorem lessB_tri (a b : List Int) : a.length = b.length → lessB a b = false → lessB b a = false → a = b := by
 induction a generalizing b with
 | nil => intro h _ _; exact (List.eq_nil_of_length_eq_zero (by simpa using h.symm)).symm
 | cons x a ih =>
  cases b with
  | nil => intro h; simp at h
  | cons y b =>
   intro h h1 h2
   by_cases hxy : x = y
   · subst hxy
     simp only [lessB, if_true] at h1 h2
     rw [ih b (by simpa using h) h1 h2]
   · rw [lessB, if_neg hxy] at h1
     rw [lessB, if_neg (Ne.symm hxy)] at h2
     simp only [decide_eq_false_iff_not] at h1 h2
     omega
theorem intsB_iff (a b : List Int) : intsB a b = true ↔ a = b := by
 simp only [intsB, Bool.and_eq_true, beq_iff_eq, Bool.not_eq_true']
 constructor
 · rintro ⟨⟨h, h1⟩, h2⟩; exact lessB_tri a b h h1 h2
 · rintro rfl; exact ⟨⟨rfl, lessB_irrefl a⟩, lessB_irrefl a⟩
set_option maxHeartbeats 400000 in
set_option maxRecDepth 100000 in
theorem ints_any {A A' : Option Addr} {n n' c c' B B' : Nat} {xs ys : List Int} {w : World} (h : IntsS w B A n c xs) (h' : IntsS w B' A' n' c' ys) :
 Calls Tryz.prog 26 #[.slice A n c, .slice A' n' c'] w fun e w' => e = .returned (.bool (intsB xs ys)) ∧ Dr w w' := by
 have hm := h.bd
 have hm' := h'.bd
 have HL := hide h.len
 have HL' := hide h'.len
 by_cases hn : n = n'
 · subst hn
   go_enter Tryz.func26, Tryz.ntmps26
   go_wp2_with (go_at_call 49; refine (less_any (by first | exact h | exact h'.drewN _) (by first | exact h' | exact h.drewN _)).mono ?_; rintro e w' ⟨rfl, n1, rfl⟩)
   all_goals go_ret
   all_goals refine ⟨ret_b ?_, by repeat (first | exact Dr.refl _ | refine Dr.drewN ?_ _)⟩
   all_goals simp_all [intsB, HL.out, HL'.out]
 · have hd : ((n : Int) == (n' : Int)) = false := by simp; omega
   go_enter Tryz.func26, Tryz.ntmps26
   go_wp2
   go_ret
   exact ⟨ret_b (by simp [intsB, HL.out, HL'.out, hn]), Dr.refl _⟩
def fewerB (xs ys : List Int) : Bool := if xs.length = ys.length then lessB xs ys else decide (xs.length < ys.length)
set_option maxHeartbeats 400000 in
theorem fewer_any {A A' : Option Addr} {n n' c c' B B' : Nat} {xs ys : List Int} {w : World} (h : IntsS w B A n c xs) (h' : IntsS w B' A' n' c' ys) :
 Calls Tryz.prog 53 #[.slice A n c, .slice A' n' c'] w fun e w' => e = .returned (.bool (fewerB xs ys)) ∧ Dr w w' := by
 have hm := h.bd
 have hm' := h'.bd
 have HL := hide h.len
 have HL' := hide h'.len
 by_cases hn : n = n'
 · subst hn
   go_enter Tryz.func53, Tryz.ntmps53
   go_wp2_with (go_at_call 49; refine (less_any h h').mono ?_; rintro e w' ⟨rfl, n1, rfl⟩)
   all_goals go_ret
   exact ⟨ret_b (by simp [fewerB, HL.out, HL'.out]), Dr.drewN (Dr.refl _) _⟩
 · have hd : ((n : Int) != (n' : Int)) = true := by simp; omega
   go_enter Tryz.func53, Tryz.ntmps53
   go_wp2
   go_ret
   exact ⟨ret_b (by simp [fewerB, HL.out, HL'.out, hn]), Dr.refl _⟩
def bitB : Nat → Int → Bool
 | 0, b => b.tmod 2 == 1
 | n + 1, b => bitB n (b.tdiv 2)
/-- Bit, for bits not below 0. -/
theorem bitB_succ (n : Nat) (b : Int) : bitB (n + 1) b = bitB n (b.tdiv 2) := rfl
set_option maxHeartbeats 400000 in
theorem bit_any (b : Int) (n : Nat) (w : World) (hb : 0 ≤ b) (hb2 : b ≤ 9223372036854775807) (hn : n ≤ 9223372036854775807) :
 Calls Tryz.prog 50 #[.int .i64 b, .int .i64 n] w fun e w' => e = .returned (.bool (bitB n b)) ∧ w = w' := by
 go_enter Tryz.func50, Tryz.ntmps50
 go_wp2
 go_loop [0, 5] (fun x i => ∃ (j : Nat) (y : Int), j ≤ n ∧ i = .int .i64 j ∧ x = .int .i64 y ∧ 0 ≤ y ∧ y ≤ 9223372036854775807 ∧ Hid (bitB n b = bitB (n - j) y)) (fun _ i => n - (intOf i).toNat)
 case atStart => exact ⟨0, b, Nat.zero_le _, rfl, rfl, hb, hb2, rfl⟩
 case round =>
  obtain ⟨j, y, hj, rfl, rfl, hy, hy2, H⟩ := hrel
  by_cases hlt : j < n
  · go_wp2
    go_round
    case rel => exact ⟨j + 1, _, by omega, by go_num, rfl, by omega, by omega, by
     show _ = _
     rw [H.out, show n - j = (n - (j + 1)) + 1 by omega, bitB_succ, Int.tdiv_eq_ediv_of_nonneg hy]⟩
    case measure => simp [intOf]; omega
  · go_wp2
    go_ret
    exact ⟨ret_b (by rw [H.out, show n - j = 0 by omega, bitB, Int.tmod_eq_emod_of_nonneg hy]), rfl⟩
def risingB : List Int → Int → Int → Bool
 | [], _, _ => true
 | x :: l, last, below => if x ≤ last ∨ below ≤ x then false else risingB l x below
set_option maxHeartbeats 400000 in
theorem rising_any {A : Option Addr} {n c B : Nat} {xs : List Int} {w : World} (h : IntsS w B A n c xs) (below : Int) :
 Calls Tryz.prog 51 #[.slice A n c, .int .i64 below] w fun e w' => e = .returned (.bool (risingB xs (-1) below)) ∧ w = w' := by
 have hm := h.bd
 have HL := hide h.len
 go_enter Tryz.func51, Tryz.ntmps51
 go_wp2
 go_loop [5, 6] (fun x i => ∃ (j : Nat) (y : Int), j ≤ n ∧ i = .int .i64 j ∧ x = .int .i64 y ∧ Hid (risingB xs (-1) below = risingB (xs.drop j) y below)) (fun _ i => n - (intOf i).toNat)
 case atStart => exact ⟨0, -1, Nat.zero_le _, rfl, rfl, rfl⟩
 case round =>
  obtain ⟨j, y, hj, rfl, rfl, H⟩ := hrel
  by_cases hlt : j < n
  · obtain ⟨b, off, rfl, hb, hc⟩ := h.at_ hlt
    have HD := hide (drop_nth (l := xs) (j := j) (by rw [HL.out]; exact hlt))
    by_cases hc1 : nth xs j ≤ y
    · go_wp2
      go_ret
      exact ⟨ret_b (by rw [H.out, HD.out, risingB, if_pos (.inl hc1)]), rfl⟩
    · by_cases hc2 : below ≤ nth xs j
      · go_wp2
        go_ret
        exact ⟨ret_b (by rw [H.out, HD.out, risingB, if_pos (.inr hc2)]), rfl⟩
      · go_wp2
        go_round
        case rel => exact ⟨j + 1, _, by omega, by go_num, rfl, by show _ = _; rw [H.out, HD.out, risingB, if_neg (by omega)]⟩
        case measure => simp [intOf]; omega
  · go_wp2
    go_ret
    exact ⟨ret_b (by rw [H.out, List.drop_of_length_le (by rw [HL.out]; omega), risingB]), rfl⟩
end Go.Proofs.YtocdmkilnbpkdaaGreatDoor
