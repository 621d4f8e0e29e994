/- Contracts of the small helpers of the reference package 01: In, Inside, Ends, Join, Settled, Bit, Has, Less, Ints, Fewer, Rising. -/
import Derived.Test.YtbkknliggnhpcaaGA
import Derived.Deep.QuietTactic
import Derived.BigQuiet
import Derived.Shelf.Abstract
import Derived.Deep.RegionHeld3
import Derived.Deep.DrawnRows
import Derived.Maps.AppendAt
set_option linter.unusedVariables false
set_option linter.unusedSimpArgs false
namespace Go.Proofs.Ytbkknliggnhpcaa
open Go.RowKit

theorem ret_b {a b : Bool} (h : a = b) : Ending.returned (.bool a) = Ending.returned (.bool b) := by rw [h]
theorem ret_i {a b : Int} (h : a = b) : Ending.returned (.int .i64 a) = Ending.returned (.int .i64 b) := by rw [h]

def inB (n lo hi : Int) : Bool := decide (lo ≤ n ∧ n ≤ hi)
set_option maxHeartbeats 400000 in
theorem in_any (n lo hi : Int) (w : World) : Calls Try.prog 65 #[.int .i64 n, .int .i64 lo, .int .i64 hi] w fun e w' => e = .returned (.bool (inB n lo hi)) ∧ w = w' := by
  go_enter Try.func65, Try.ntmps65
  by_cases h : lo ≤ n <;> by_cases h2 : n ≤ hi
  all_goals
    go_wp2
    go_ret
    exact ⟨ret_b (by simp [inB]; omega), rfl⟩

set_option maxHeartbeats 400000 in
theorem inside_any (n lo hi : Int) (w : World) : Calls Try.prog 40 #[.int .i64 n, .agg #[.int .i64 lo, .int .i64 hi]] w fun e w' => e = .returned (.bool (inB n lo hi)) ∧ Below w.heap.size w w' := by
  go_enter Try.func40, Try.ntmps40
  go_wp2_with (go_at_call 65; refine (in_any _ _ _ _).mono ?_; rintro e w' ⟨rfl, rfl⟩)
  go_ret
  exact ⟨rfl, (Below.refl _ _).alloc (Nat.le_refl _) _⟩

def endsE (s : Span) (lo hi : Int) : Int := if inB s.lo lo hi && inB s.hi lo hi then (if s.hi < s.lo then 2 else 0) else 7
set_option maxHeartbeats 400000 in
theorem ends_any (s : Span) (lo hi : Int) (w : World) : Calls Try.prog 103 #[.agg #[.int .i64 s.lo, .int .i64 s.hi], .int .i64 lo, .int .i64 hi] w fun e w' => e = .returned (.int .i64 (endsE s lo hi)) ∧ Below w.heap.size w w' := by
  go_enter Try.func103, Try.ntmps103
  go_wp2_with (go_at_call 65; refine (in_any _ _ _ _).mono ?_; rintro e w' ⟨rfl, rfl⟩)
  all_goals
    go_ret
    exact ⟨ret_i (by simp_all [endsE]), (Below.refl _ _).alloc (Nat.le_refl _) _⟩

set_option maxHeartbeats 400000 in
theorem join_any (s : Span) (n : Int) (w : World) : Calls Try.prog 76 #[.agg #[.int .i64 s.lo, .int .i64 s.hi], .int .i64 n] w fun e w' => e = .returned (.agg #[.int .i64 (min s.lo n), .int .i64 (max s.hi n)]) ∧ Below w.heap.size w w' := by
  go_enter Try.func76, Try.ntmps76
  go_wp2
  all_goals exact bodyPost_ret (v := .agg #[.int .i64 (min s.lo n), .int .i64 (max s.hi n)]) (by simp [results, Try.results76, go_sem]; omega) rfl ⟨rfl, ((Below.refl _ _).alloc (Nat.le_refl _) _).alloc (by simp) _⟩

def settledM (some all : Int) : Int := if some = all then 1 else if some = 0 then 2 else 0
set_option maxHeartbeats 400000 in
theorem settled_any (a b : Int) (w : World) : Calls Try.prog 77 #[.int .i64 a, .int .i64 b] w fun e w' => e = .returned (.int .i64 (settledM a b)) ∧ w = w' := by
  go_enter Try.func77, Try.ntmps77
  go_wp2
  all_goals
    go_ret
    exact ⟨ret_i (by simp_all [settledM]), rfl⟩

def hasInt (xs : List Int) (k : Int) : Bool := xs.any (· == k)
theorem hasInt_snoc (xs : List Int) (j : Nat) (k : Int) (h : j < xs.length) : hasInt (xs.take (j + 1)) k = (hasInt (xs.take j) k || nth xs j == k) := by
  rw [take_nth h]; simp [hasInt]
set_option maxHeartbeats 400000 in
theorem has_any {A : Option Addr} {n c B : Nat} {xs : List Int} {w : World} (h : IntsS w B A n c xs) (k : Int) :
    Calls Try.prog 38 #[.slice A n c, .int .i64 k] w fun e w' => e = .returned (.bool (hasInt xs k)) ∧ w = w' := by
  have hm := h.bd
  have HL := hide h.len
  go_enter Try.func38, Try.ntmps38
  go_wp2
  go_loop [5, 6] (fun m i => ∃ j : Nat, j ≤ n ∧ i = .int .i64 j ∧ m = .bool (hasInt (xs.take j) k)) (fun _ i => n - (intOf i).toNat)
  case atStart => exact ⟨0, Nat.zero_le _, rfl, rfl⟩
  case round =>
    obtain ⟨j, hj, rfl, rfl⟩ := hrel
    by_cases hlt : j < n
    · obtain ⟨b, off, rfl, hb, hc⟩ := h.at_ hlt
      have HS := hide (hasInt_snoc xs j k (by rw [HL.out]; exact hlt))
      go_wp2
      all_goals
        go_round
        case rel => exact ⟨j + 1, by omega, by go_num, by rw [HS.out]; simp_all⟩
        case measure => simp [intOf]; omega
    · go_wp2
      go_ret
      exact ⟨by rw [List.take_of_length_le (by rw [HL.out]; omega)]; rfl, rfl⟩

def lessB : List Int → List Int → Bool
  | _, [] => false
  | [], _ :: _ => true
  | x :: a, y :: b => if x = y then lessB a b else decide (x < y)
theorem lessB_same (a b : List Int) : ∀ j, j ≤ a.length → j ≤ b.length → (∀ k, k < j → nth a k = nth b k) → lessB a b = lessB (a.drop j) (b.drop j) := by
  intro j
  induction j generalizing a b with
  | zero => intros; rfl
  | succ j ih =>
    intro h1 h2 h
    cases a with
    | nil => simp at h1
    | cons x a =>
      cases b with
      | nil => simp at h2
      | cons y b =>
        have h0 := h 0 (by omega)
        simp only [nth, List.getD_cons_zero] at h0
        subst h0
        simp only [lessB, if_true, List.drop_succ_cons]
        exact ih a b (by simpa using h1) (by simpa using h2) (fun k hk => by have := h (k + 1) (by omega); simpa [nth] using this)
theorem drop_nth {α : Type} [Inhabited α] {l : List α} {j : Nat} (h : j < l.length) : l.drop j = nth l j :: l.drop (j + 1) := by
  rw [List.drop_eq_getElem_cons h, nth_eq h]
set_option maxHeartbeats 400000 in
theorem less_any {A A' : Option Addr} {n n' c c' B B' : Nat} {xs ys : List Int} {w : World} (h : IntsS w B A n c xs) (h' : IntsS w B' A' n' c' ys) :
    Calls Try.prog 82 #[.slice A n c, .slice A' n' c'] w fun e w' => e = .returned (.bool (lessB xs ys)) ∧ Dr w w' := by
  have hm := h.bd
  have hm' := h'.bd
  have HL := hide h.len
  have HL' := hide h'.len
  go_enter Try.func82, Try.ntmps82
  go_wp2
  go_loopw [5] (fun i wr => ∃ j q : Nat, j ≤ n ∧ j ≤ n' ∧ i = .int .i64 j ∧ wr = w.drewN q ∧ Hid (∀ k, k < j → nth xs k = nth ys k)) (fun i _ => n - (intOf i).toNat)
  case atStart => exact ⟨0, 0, Nat.zero_le _, Nat.zero_le _, rfl, rfl, fun k hk => by omega⟩
  case round =>
    obtain ⟨j, q, hj, hj', rfl, rfl, H⟩ := hrel
    by_cases hlt : j < n
    · by_cases hlt' : j < n'
      · obtain ⟨b, off, rfl, hb, hc⟩ := h.at_ hlt
        obtain ⟨b', off', rfl, hb', hc'⟩ := h'.at_ hlt'
        by_cases he : nth xs j = nth ys j
        · have hd : (nth xs j == nth ys j) = true := by simpa using he
          have HE := hide he
          clear he
          go_wp2_with fail
          go_quiet (fail)
          go_wp2
          go_roundw
          case rel => exact ⟨j + 1, _, by omega, by omega, by go_num, rfl, fun k hk => by
            rcases Nat.lt_or_ge k j with h1 | h1
            · exact H.out k h1
            · rw [show k = j by omega]; exact HE.out⟩
          case measure => simp [intOf]; omega
        · have hd : (nth xs j == nth ys j) = false := by simpa using he
          have hg : ((j : Int) == (n : Int)) = false := by simp; omega
          have HE := hide he
          clear he
          go_wp2_with fail
          go_quiet (fail)
          go_wp2_with fail
          go_quiet (fail)
          go_wp2
          go_ret
          exact ⟨ret_b (by rw [lessB_same xs ys j (by rw [HL.out]; exact hj) (by rw [HL'.out]; exact hj') H.out, drop_nth (l := xs) (by rw [HL.out]; exact hlt), drop_nth (l := ys) (by rw [HL'.out]; exact hlt'), lessB, if_neg HE.out]), by repeat (first | exact Dr.refl _ | refine Dr.drewN ?_ _)⟩
      · go_wp2_with fail
        go_quiet (fail)
        go_wp2
        go_ret
        exact ⟨ret_b (by rw [lessB_same xs ys j (by rw [HL.out]; exact hj) (by rw [HL'.out]; exact hj') H.out, List.drop_of_length_le (by rw [HL'.out]; omega : ys.length ≤ j)]; simp [lessB]), by repeat (first | exact Dr.refl _ | refine Dr.drewN ?_ _)⟩
    · have hg : ((j : Int) == (n : Int)) = true := by simp; omega
      by_cases hlt' : j < n'
      · go_wp2_with fail
        go_quiet (fail)
        go_wp2_with fail
        go_quiet (fail)
        go_wp2
        go_ret
        exact ⟨ret_b (by rw [lessB_same xs ys j (by rw [HL.out]; exact hj) (by rw [HL'.out]; exact hj') H.out, List.drop_of_length_le (by rw [HL.out]; omega : xs.length ≤ j), drop_nth (l := ys) (by rw [HL'.out]; exact hlt')]; simp [lessB]), by repeat (first | exact Dr.refl _ | refine Dr.drewN ?_ _)⟩
      · go_wp2_with fail
        go_quiet (fail)
        go_wp2
        go_ret
        exact ⟨ret_b (by rw [lessB_same xs ys j (by rw [HL.out]; exact hj) (by rw [HL'.out]; exact hj') H.out, List.drop_of_length_le (by rw [HL'.out]; omega : ys.length ≤ j)]; simp [lessB]), by repeat (first | exact Dr.refl _ | refine Dr.drewN ?_ _)⟩

def intsB (a b : List Int) : Bool := a.length == b.length && !lessB a b && !lessB b a
theorem lessB_irrefl (a : List Int) : lessB a a = false := by induction a <;> simp_all [lessB]
theorem lessB_tri (a b : List Int) : a.length = b.length → lessB a b = false → lessB b a = false → a = b := by
  induction a generalizing b with
  | nil => intro h _ _; exact (List.eq_nil_of_length_eq_zero (by simpa using h.symm)).symm
  | cons x a ih =>
    cases b with
    | nil => intro h; simp at h
    | cons y b =>
      intro h h1 h2
      by_cases hxy : x = y
      · subst hxy
        simp only [lessB, if_true] at h1 h2
        rw [ih b (by simpa using h) h1 h2]
      · rw [lessB, if_neg hxy] at h1
        rw [lessB, if_neg (Ne.symm hxy)] at h2
        simp only [decide_eq_false_iff_not] at h1 h2
        omega
theorem intsB_iff (a b : List Int) : intsB a b = true ↔ a = b := by
  simp only [intsB, Bool.and_eq_true, beq_iff_eq, Bool.not_eq_true']
  constructor
  · rintro ⟨⟨h, h1⟩, h2⟩; exact lessB_tri a b h h1 h2
  · rintro rfl; exact ⟨⟨rfl, lessB_irrefl a⟩, lessB_irrefl a⟩
set_option maxHeartbeats 400000 in
set_option maxRecDepth 100000 in
theorem ints_any {A A' : Option Addr} {n n' c c' B B' : Nat} {xs ys : List Int} {w : World} (h : IntsS w B A n c xs) (h' : IntsS w B' A' n' c' ys) :
    Calls Try.prog 22 #[.slice A n c, .slice A' n' c'] w fun e w' => e = .returned (.bool (intsB xs ys)) ∧ Dr w w' := by
  have hm := h.bd
  have hm' := h'.bd
  have HL := hide h.len
  have HL' := hide h'.len
  by_cases hn : n = n'
  · subst hn
    go_enter Try.func22, Try.ntmps22
    go_wp2_with (go_at_call 82; refine (less_any (by first | exact h | exact h'.drewN _) (by first | exact h' | exact h.drewN _)).mono ?_; rintro e w' ⟨rfl, n1, rfl⟩)
    all_goals go_ret
    all_goals refine ⟨ret_b ?_, by repeat (first | exact Dr.refl _ | refine Dr.drewN ?_ _)⟩
    all_goals simp_all [intsB, HL.out, HL'.out]
  · have hd : ((n : Int) == (n' : Int)) = false := by simp; omega
    go_enter Try.func22, Try.ntmps22
    go_wp2
    go_ret
    exact ⟨ret_b (by simp [intsB, HL.out, HL'.out, hn]), Dr.refl _⟩

def fewerB (xs ys : List Int) : Bool := if xs.length = ys.length then lessB xs ys else decide (xs.length < ys.length)
set_option maxHeartbeats 400000 in
theorem fewer_any {A A' : Option Addr} {n n' c c' B B' : Nat} {xs ys : List Int} {w : World} (h : IntsS w B A n c xs) (h' : IntsS w B' A' n' c' ys) :
    Calls Try.prog 49 #[.slice A n c, .slice A' n' c'] w fun e w' => e = .returned (.bool (fewerB xs ys)) ∧ Dr w w' := by
  have hm := h.bd
  have hm' := h'.bd
  have HL := hide h.len
  have HL' := hide h'.len
  by_cases hn : n = n'
  · subst hn
    go_enter Try.func49, Try.ntmps49
    go_wp2_with (go_at_call 82; refine (less_any h h').mono ?_; rintro e w' ⟨rfl, n1, rfl⟩)
    all_goals go_ret
    exact ⟨ret_b (by simp [fewerB, HL.out, HL'.out]), Dr.drewN (Dr.refl _) _⟩
  · have hd : ((n : Int) != (n' : Int)) = true := by simp; omega
    go_enter Try.func49, Try.ntmps49
    go_wp2
    go_ret
    exact ⟨ret_b (by simp [fewerB, HL.out, HL'.out, hn]), Dr.refl _⟩

def bitB : Nat → Int → Bool
  | 0, b => b.tmod 2 == 1
  | n + 1, b => bitB n (b.tdiv 2)
/-- Bit, for bits not below 0. -/
theorem bitB_succ (n : Nat) (b : Int) : bitB (n + 1) b = bitB n (b.tdiv 2) := rfl
set_option maxHeartbeats 400000 in
theorem bit_any (b : Int) (n : Nat) (w : World) (hb : 0 ≤ b) (hb2 : b ≤ 9223372036854775807) (hn : n ≤ 9223372036854775807) :
    Calls Try.prog 46 #[.int .i64 b, .int .i64 n] w fun e w' => e = .returned (.bool (bitB n b)) ∧ w = w' := by
  go_enter Try.func46, Try.ntmps46
  go_wp2
  go_loop [0, 5] (fun x i => ∃ (j : Nat) (y : Int), j ≤ n ∧ i = .int .i64 j ∧ x = .int .i64 y ∧ 0 ≤ y ∧ y ≤ 9223372036854775807 ∧ Hid (bitB n b = bitB (n - j) y)) (fun _ i => n - (intOf i).toNat)
  case atStart => exact ⟨0, b, Nat.zero_le _, rfl, rfl, hb, hb2, rfl⟩
  case round =>
    obtain ⟨j, y, hj, rfl, rfl, hy, hy2, H⟩ := hrel
    by_cases hlt : j < n
    · go_wp2
      go_round
      case rel => exact ⟨j + 1, _, by omega, by go_num, rfl, by omega, by omega, by
        show _ = _
        rw [H.out, show n - j = (n - (j + 1)) + 1 by omega, bitB_succ, Int.tdiv_eq_ediv_of_nonneg hy]⟩
      case measure => simp [intOf]; omega
    · go_wp2
      go_ret
      exact ⟨ret_b (by rw [H.out, show n - j = 0 by omega, bitB, Int.tmod_eq_emod_of_nonneg hy]), rfl⟩

def risingB : List Int → Int → Int → Bool
  | [], _, _ => true
  | x :: l, last, below => if x ≤ last ∨ below ≤ x then false else risingB l x below
set_option maxHeartbeats 400000 in
theorem rising_any {A : Option Addr} {n c B : Nat} {xs : List Int} {w : World} (h : IntsS w B A n c xs) (below : Int) :
    Calls Try.prog 37 #[.slice A n c, .int .i64 below] w fun e w' => e = .returned (.bool (risingB xs (-1) below)) ∧ w = w' := by
  have hm := h.bd
  have HL := hide h.len
  go_enter Try.func37, Try.ntmps37
  go_wp2
  go_loop [5, 6] (fun x i => ∃ (j : Nat) (y : Int), j ≤ n ∧ i = .int .i64 j ∧ x = .int .i64 y ∧ Hid (risingB xs (-1) below = risingB (xs.drop j) y below)) (fun _ i => n - (intOf i).toNat)
  case atStart => exact ⟨0, -1, Nat.zero_le _, rfl, rfl, rfl⟩
  case round =>
    obtain ⟨j, y, hj, rfl, rfl, H⟩ := hrel
    by_cases hlt : j < n
    · obtain ⟨b, off, rfl, hb, hc⟩ := h.at_ hlt
      have HD := hide (drop_nth (l := xs) (j := j) (by rw [HL.out]; exact hlt))
      by_cases hc1 : nth xs j ≤ y
      · go_wp2
        go_ret
        exact ⟨ret_b (by rw [H.out, HD.out, risingB, if_pos (.inl hc1)]), rfl⟩
      · by_cases hc2 : below ≤ nth xs j
        · go_wp2
          go_ret
          exact ⟨ret_b (by rw [H.out, HD.out, risingB, if_pos (.inr hc2)]), rfl⟩
        · go_wp2
          go_round
          case rel => exact ⟨j + 1, _, by omega, by go_num, rfl, by show _ = _; rw [H.out, HD.out, risingB, if_neg (by omega)]⟩
          case measure => simp [intOf]; omega
    · go_wp2
      go_ret
      exact ⟨ret_b (by rw [H.out, List.drop_of_length_le (by rw [HL.out]; omega), risingB]), rfl⟩
end Go.Proofs.Ytbkknliggnhpcaa
/- Contracts of the program's small functions of package turn, and of the library's IndexFunc and ContainsFunc at lists of integers. -/
namespace Go.Proofs.Ytbkknliggnhpcaa
open Go.RowKit

/-- A function value that answers, for each integer, in every world that has grown out of w, and leaves the world alone. -/
def PredOn (g : FuncId) (lb : Array Value) (p : Int → Bool) (w : World) : Prop :=
  ∀ (x : Int) (W : World), Below w.heap.size w W → Calls Try.prog g (#[.int .i64 x] ++ lb) W fun e w' => e = .returned (.bool (p x)) ∧ W = w'

def idxOf (p : Int → Bool) (xs : List Int) : Int := match xs.findIdx? p with | some i => (i : Int) | none => -1
theorem idxOf_hit {p : Int → Bool} {xs : List Int} {j : Nat} (hj : j < xs.length) (h : p (nth xs j) = true) (hk : ∀ k, k < j → p (nth xs k) = false) : idxOf p xs = j := by
  have : xs.findIdx? p = some j := by
    rw [List.findIdx?_eq_some_iff_getElem]
    refine ⟨hj, by rw [← nth_eq hj]; exact h, fun k hk' => ?_⟩
    rw [← nth_eq (by omega), hk k hk']; simp
  simp [idxOf, this]
theorem idxOf_miss {p : Int → Bool} {xs : List Int} (hk : ∀ k, k < xs.length → p (nth xs k) = false) : idxOf p xs = -1 := by
  have : xs.findIdx? p = none := by
    rw [List.findIdx?_eq_none_iff]
    intro x hx
    obtain ⟨k, hk', rfl⟩ := List.getElem_of_mem hx
    rw [← nth_eq hk']; exact hk k hk'
  simp [idxOf, this]
theorem idxOf_any (p : Int → Bool) (xs : List Int) : decide (0 ≤ idxOf p xs) = xs.any p := by
  unfold idxOf
  cases h : xs.findIdx? p with
  | none =>
    have : xs.any p = false := by
      rw [List.findIdx?_eq_none_iff] at h
      rw [List.any_eq_false]
      intro x hx; simpa using h x hx
    simp [this]
  | some i =>
    have : xs.any p = true := by
      rw [List.findIdx?_eq_some_iff_getElem] at h
      obtain ⟨hi, hp, _⟩ := h
      exact List.any_eq_true.2 ⟨_, List.getElem_mem hi, hp⟩
    simp [this]
set_option maxHeartbeats 400000 in
set_option maxRecDepth 100000 in
theorem indexFunc_any {A : Option Addr} {n c B : Nat} {xs : List Int} {w : World} (h : IntsS w B A n c xs) (g : FuncId) (lb : Array Value) (p : Int → Bool) (hp : PredOn g lb p w) (eg : Enters Try.prog g) :
    Calls Try.prog 106 #[.slice A n c, .func (.func g) #[] lb] w fun e w' => e = .returned (.int .i64 (idxOf p xs)) ∧ w = w' := by
  have hm := h.bd
  have HL := hide h.len
  have eg' : ∀ (args : Array Value) (w : World), (callFunc g args).run Try.prog w = .ok (.enter g args) w := eg
  clear eg
  go_enter Try.func106, Try.ntmps106
  go_wp2_with fail
  go_loop [5, 8] (fun _ i => ∃ j : Nat, j ≤ n ∧ i = .int .i64 j ∧ Hid (∀ k, k < j → p (nth xs k) = false)) (fun _ i => n - (intOf i).toNat)
  case atStart => exact ⟨0, Nat.zero_le _, rfl, fun k hk => by omega⟩
  case round =>
    obtain ⟨j, hj, rfl, H⟩ := hrel
    by_cases hlt : j < n
    · obtain ⟨b, off, rfl, hb, hc⟩ := h.at_ hlt
      have hcall := hp (nth xs j) w (Below.refl _ _)
      clear hp
      cases hq : p (nth xs j) with
      | true =>
        rw [hq] at hcall
        have HQ := hide hq
        clear hq
        go_wp2_with (go_at_fn g; refine hcall.mono ?_; rintro e w' ⟨rfl, rfl⟩)
        go_ret
        exact ⟨ret_i (idxOf_hit (by rw [HL.out]; exact hlt) HQ.out H.out).symm, rfl⟩
      | false =>
        rw [hq] at hcall
        have HQ := hide hq
        clear hq
        go_wp2_with (go_at_fn g; refine hcall.mono ?_; rintro e w' ⟨rfl, rfl⟩)
        go_round
        case rel => exact ⟨j + 1, by omega, by go_num, fun k hk => by
          rcases Nat.lt_or_ge k j with h1 | h1
          · exact H.out k h1
          · rw [show k = j by omega]; exact HQ.out⟩
        case measure => simp [intOf]; omega
    · go_wp2
      go_ret
      exact ⟨ret_i (idxOf_miss (fun k hk => H.out k (by rw [HL.out] at hk; omega))).symm, rfl⟩
set_option maxHeartbeats 400000 in
theorem containsFunc_any {A : Option Addr} {n c B : Nat} {xs : List Int} {w : World} (h : IntsS w B A n c xs) (g : FuncId) (lb : Array Value) (p : Int → Bool) (hp : PredOn g lb p w) (eg : Enters Try.prog g) :
    Calls Try.prog 101 #[.slice A n c, .func (.func g) #[] lb] w fun e w' => e = .returned (.bool (xs.any p)) ∧ w = w' := by
  have H := hide (indexFunc_any h g lb p hp eg)
  clear hp eg
  go_enter Try.func101, Try.ntmps101
  go_wp2_with (go_at_call 106; refine H.out.mono ?_; rintro e w' ⟨rfl, rfl⟩)
  go_ret
  exact ⟨ret_b (idxOf_any _ _), rfl⟩

def offP (lo hi n : Int) : Bool := decide (n < lo) || decide (hi < n)
set_option maxHeartbeats 400000 in
theorem off1_any (lo hi n : Int) (b b' : Nat) (w : World) (h1 : w.cell? ⟨b, 0, none⟩ = some (.int .i64 lo)) (h2 : w.cell? ⟨b', 0, none⟩ = some (.int .i64 hi)) :
    Calls Try.prog 102 #[.int .i64 n, .pointer (some ⟨b, 0, none⟩), .pointer (some ⟨b', 0, none⟩)] w fun e w' => e = .returned (.bool (offP lo hi n)) ∧ w = w' := by
  go_enter Try.func102, Try.ntmps102
  by_cases h3 : n < lo <;> by_cases h4 : hi < n
  all_goals
    go_wp2
    go_ret
    exact ⟨ret_b (by simp [offP]; omega), rfl⟩
set_option maxHeartbeats 400000 in
theorem off_any {A : Option Addr} {n c : Nat} {xs : List Int} {w : World} (h : IntsS w w.heap.size A n c xs) (lo hi : Int) :
    Calls Try.prog 57 #[.int .i64 lo, .int .i64 hi, .slice A n c] w fun e w' => e = .returned (.bool (xs.any (offP lo hi))) ∧ Below w.heap.size w w' := by
  have hb : Below w.heap.size w ((w.alloc (.cells #[.int .i64 lo] 3)).alloc (.cells #[.int .i64 hi] 3)) := ((Below.refl _ _).alloc (Nat.le_refl _) _).alloc (by simp) _
  have H := hide (containsFunc_any (h.below hb) 102 #[.pointer (some ⟨w.heap.size, 0, none⟩), .pointer (some ⟨w.heap.size + 1, 0, none⟩)] (offP lo hi)
    (fun x W hW => off1_any lo hi x _ _ W (by rw [hW.cell (by simp; omega), World.cell?_alloc_past _ _ _ (by simp), World.cell?_alloc_at _ _ _ _ rfl]; rfl) (by rw [hW.cell (by simp), World.cell?_alloc_at _ _ _ _ (by simp)]; rfl))
    (enters_of Try.func102 (by kernel_rfl) rfl))
  go_enter Try.func57, Try.ntmps57
  go_wp2_with (go_at_call 101; refine H.out.mono ?_; rintro e w' ⟨rfl, rfl⟩)
  go_ret
  exact ⟨rfl, hb⟩
theorem off_1 {w : World} {b : Nat} (hb : w.heap.size = b) (lo hi x : Int) :
    Calls Try.prog 57 #[.int .i64 lo, .int .i64 hi, .slice (some ⟨b, 0, none⟩) 1 1] (w.alloc (.cells #[.int .i64 x] 3)) fun e w' => e = .returned (.bool (offP lo hi x)) ∧ Below w.heap.size w w' :=
  (off_any ((IntsS.lit1 hb x).more (by simp [← hb])) lo hi).mono fun _ _ ⟨he, h⟩ => ⟨he.trans (by simp), ((Below.refl _ w).alloc (Nat.le_refl _) _).trans (h.mono (by simp))⟩
theorem off_2 {w : World} {b : Nat} (hb : w.heap.size = b) (lo hi x y : Int) :
    Calls Try.prog 57 #[.int .i64 lo, .int .i64 hi, .slice (some ⟨b, 0, none⟩) 2 2] (w.alloc (.cells #[.int .i64 x, .int .i64 y] 3)) fun e w' => e = .returned (.bool (offP lo hi x || offP lo hi y)) ∧ Below w.heap.size w w' :=
  (off_any ((IntsS.lit2 hb x y).more (by simp [← hb])) lo hi).mono fun _ _ ⟨he, h⟩ => ⟨he.trans (by simp), ((Below.refl _ w).alloc (Nat.le_refl _) _).trans (h.mono (by simp))⟩

theorem off_1d {w : World} {b : Nat} (hb : w.heap.size = b) (lo hi x : Int) :
    Calls Try.prog 57 #[.int .i64 lo, .int .i64 hi, .slice (some ⟨b, 0, none⟩) 1 1] (w.alloc (.cells #[.int .i64 x] 3)).drew fun e w' => e = .returned (.bool (offP lo hi x)) ∧ Below w.heap.size w w' :=
  (off_1 (w := w.drew) hb lo hi x).mono fun _ _ ⟨he, h⟩ => ⟨he, ((Below.refl _ w).drew).trans h⟩
def widthM (s : Span) (most : Int) : Int := if offP 0 most s.lo || offP 0 most s.hi then 7 else if offP 0 3 (s.hi - s.lo) then 2 else 0
set_option maxHeartbeats 400000 in
theorem width_any (s : Span) (most : Int) (w : World) (hm : 0 ≤ most) (hm2 : most ≤ 1000) :
    Calls Try.prog 60 #[.agg #[.int .i64 s.lo, .int .i64 s.hi], .int .i64 most] w fun e w' => e = .returned (.int .i64 (widthM s most)) ∧ Below w.heap.size w w' := by
  cases h1 : offP 0 most s.lo || offP 0 most s.hi with
  | true =>
    have H := hide h1
    go_enter Try.func60, Try.ntmps60
    go_wp2_with (go_at_call 57; refine (off_2 (by simp) _ _ _ _).mono ?_; rintro e w' ⟨rfl, hb⟩; rw [H.out])
    go_ret
    exact ⟨ret_i (by simp [widthM, H.out]), ((Below.refl _ _).alloc (Nat.le_refl _) _).trans (hb.mono (by simp))⟩
  | false =>
    have H := hide h1
    have hlo : 0 ≤ s.lo ∧ s.lo ≤ 1000 ∧ 0 ≤ s.hi ∧ s.hi ≤ 1000 := by simp [offP] at h1; omega
    clear h1
    go_enter Try.func60, Try.ntmps60
    go_wp2_with (first
      | (go_at_call 57; (with_reducible refine (off_2 (by simp) _ _ _ _).mono ?_); rintro e w' ⟨rfl, hb⟩; rw [H.out]; obtain ⟨hc, hf⟩ := bcell hb)
      | (go_at_call 57; (with_reducible refine (off_1 (by simp) _ _ _).mono ?_); rintro e w'' ⟨rfl, hb'⟩))
    all_goals go_ret
    all_goals
      refine ⟨ret_i (by simp_all [widthM, H.out]), ((Below.refl _ _).alloc (Nat.le_refl _) _).trans ((hb.mono (by simp)).trans (hb'.mono ?_))⟩
      have := hb.size; simp at this; omega
end Go.Proofs.Ytbkknliggnhpcaa
/- Contracts of the program's failing (at four types), of Check's function literals, and of Check of package turn. -/
namespace Go.Proofs.Ytbkknliggnhpcaa
open Go.RowKit
attribute [local go_sem ↓] Go.wp_at_zero Go.wp_at_succ

/-- The first thing with an error: its index, and the error. -/
def firstE {α : Type} (f : α → Int) : List α → Nat → Int × Int
  | [], _ => (0, 0)
  | x :: l, i => if f x = 0 then firstE f l (i + 1) else (i, f x)
def failM {α : Type} (f : α → Int) (l : List α) (least most : Int) : Int × Int := if offP least most l.length then (0, 3) else firstE f l 0
theorem ret_t2 {a b c d : Int} (h : a = c) (h' : b = d) : Ending.returned (.tuple #[.int .i64 a, .int .i64 b]) = Ending.returned (.tuple #[.int .i64 c, .int .i64 d]) := by rw [h, h']
theorem ret_t3 {a b c d e f : Int} (h : a = d) (h' : b = e) (h'' : c = f) : Ending.returned (.tuple #[.int .i64 a, .int .i64 b, .int .i64 c]) = Ending.returned (.tuple #[.int .i64 d, .int .i64 e, .int .i64 f]) := by rw [h, h', h'']

/-- A function value that says the error of each number, in every world that has grown out of w. -/
def ErrOnI (g : FuncId) (lb : Array Value) (f : Int → Int) (w : World) : Prop :=
  ∀ (x : Int) (W : World), Below w.heap.size w W → Calls Try.prog g (#[.int .i64 x] ++ lb) W fun e w' => e = .returned (.int .i64 (f x)) ∧ Below W.heap.size W w'
set_option maxHeartbeats 800000 in
set_option maxRecDepth 100000 in
theorem failingI_any {A : Option Addr} {c : Nat} {xs : List Int} {w : World} (h : Row w w.heap.size A (xs.length) (intsF xs)) (hm : xs.length ≤ c ∧ c ≤ maxLen) (least most : Int) (g : FuncId) (lb : Array Value) (f : Int → Int)
    (hf : ErrOnI g lb f w) (eg : Enters Try.prog g) :
    Calls Try.prog 55 #[.slice A xs.length c, .int .i64 least, .int .i64 most, .func (.func g) #[] lb] w fun e w' =>
      e = .returned (.tuple #[.int .i64 (failM f xs least most).1, .int .i64 (failM f xs least most).2]) ∧ Below w.heap.size w w' := by
  have eg' : ∀ (args : Array Value) (w : World), (callFunc g args).run Try.prog w = .ok (.enter g args) w := eg
  clear eg
  unfold maxLen at hm
  cases h1 : offP least most xs.length with
  | true =>
    have H := hide h1
    clear h1
    go_enter Try.func55, Try.ntmps55
    go_wp2_with (go_at_call 57; refine (off_1 (by simp) _ _ _).mono ?_; rintro e w' ⟨rfl, hb⟩; rw [H.out])
    go_ret2
    exact ⟨ret_t2 (by simp [failM, H.out]) (by simp [failM, H.out]), hb⟩
  | false =>
    have H := hide h1
    clear h1
    go_enter Try.func55, Try.ntmps55
    go_wp2_with (go_at_call 57; refine (off_1 (by simp) _ _ _).mono ?_; rintro e w1 ⟨rfl, hb1⟩; rw [H.out])
    go_loopw [10, 11, 12, 21] (fun _ _ _ i wr => ∃ j : Nat, j ≤ xs.length ∧ i = .int .i64 j ∧ Below w.heap.size w wr ∧ Hid (firstE f xs 0 = firstE f (xs.drop j) j)) (fun _ _ _ i _ => xs.length - (intOf i).toNat)
    case atStart => exact ⟨0, Nat.zero_le _, rfl, hb1, rfl⟩
    case round =>
      obtain ⟨j, hj, rfl, hB, HF⟩ := hrel
      by_cases hlt : j < xs.length
      · obtain ⟨b, off, rfl, hbb, h0⟩ := (h.below hB).ints hlt
        have HD := hide (drop_nth (l := xs) hlt)
        have hsz := hB.size
        have hcall : ∀ W, Below w.heap.size w W → Calls Try.prog g (#[.int .i64 (nth xs j)] ++ lb) W fun e w' => e = .returned (.int .i64 (f (nth xs j))) ∧ Below W.heap.size W w' := fun W hW => hf (nth xs j) W hW
        have HC := hide hcall
        clear hcall hf
        cases hq : (f (nth xs j) != 0) with
        | true =>
          have hq' : ¬ f (nth xs j) = 0 := by simpa using hq
          have HQ := hide hq'
          clear hq'
          go_wp2_with (go_at_fn g; refine (HC.out _ hB).mono ?_; rintro e w2 ⟨rfl, hb2⟩)
          go_ret2
          refine ⟨ret_t2 ?_ ?_, hB.trans (hb2.mono hB.size)⟩
          · rw [failM, if_neg (by rw [H.out]; simp), HF.out, HD.out, firstE, if_neg HQ.out]
          · rw [failM, if_neg (by rw [H.out]; simp), HF.out, HD.out, firstE, if_neg HQ.out]
        | false =>
          have hq' : f (nth xs j) = 0 := by simpa using hq
          have HQ := hide hq'
          clear hq'
          go_wp2_with (go_at_fn g; refine (HC.out _ hB).mono ?_; rintro e w2 ⟨rfl, hb2⟩)
          go_roundw
          case rel => exact ⟨j + 1, by omega, by go_num, hB.trans (hb2.mono hB.size), by show _ = _; rw [HF.out, HD.out, firstE, if_pos HQ.out]⟩
          case measure => simp [intOf]; omega
      · go_wp2
        go_ret2
        refine ⟨ret_t2 ?_ ?_, hB⟩
        · rw [failM, if_neg (by rw [H.out]; simp), HF.out, List.drop_of_length_le (by omega), firstE]
        · rw [failM, if_neg (by rw [H.out]; simp), HF.out, List.drop_of_length_le (by omega), firstE]

/-- A function value that says the error of each span, in every world that has grown out of w. -/
def ErrOnS (g : FuncId) (lb : Array Value) (f : Span → Int) (w : World) : Prop :=
  ∀ (x : Span) (W : World), Below w.heap.size w W → Calls Try.prog g (#[.agg #[.int .i64 x.lo, .int .i64 x.hi]] ++ lb) W fun e w' => e = .returned (.int .i64 (f x)) ∧ Below W.heap.size W w'
set_option maxHeartbeats 800000 in
set_option maxRecDepth 100000 in
theorem failingS_any {A : Option Addr} {c : Nat} {xs : List Span} {w : World} (h : Row w w.heap.size A (xs.length * 2) (spansF xs)) (hm : xs.length ≤ c ∧ c ≤ maxLen) (least most : Int) (g : FuncId) (lb : Array Value) (f : Span → Int)
    (hf : ErrOnS g lb f w) (eg : Enters Try.prog g) :
    Calls Try.prog 58 #[.slice A xs.length c, .int .i64 least, .int .i64 most, .func (.func g) #[] lb] w fun e w' =>
      e = .returned (.tuple #[.int .i64 (failM f xs least most).1, .int .i64 (failM f xs least most).2]) ∧ Below w.heap.size w w' := by
  have eg' : ∀ (args : Array Value) (w : World), (callFunc g args).run Try.prog w = .ok (.enter g args) w := eg
  clear eg
  unfold maxLen at hm
  cases h1 : offP least most xs.length with
  | true =>
    have H := hide h1
    clear h1
    go_enter Try.func58, Try.ntmps58
    go_wp2_with (go_at_call 57; refine (off_1 (by simp) _ _ _).mono ?_; rintro e w' ⟨rfl, hb⟩; rw [H.out])
    go_ret2
    exact ⟨ret_t2 (by simp [failM, H.out]) (by simp [failM, H.out]), hb⟩
  | false =>
    have H := hide h1
    clear h1
    go_enter Try.func58, Try.ntmps58
    go_wp2_with (go_at_call 57; refine (off_1 (by simp) _ _ _).mono ?_; rintro e w1 ⟨rfl, hb1⟩; rw [H.out])
    go_loopw [10, 11, 12, 21] (fun _ _ _ i wr => ∃ j : Nat, j ≤ xs.length ∧ i = .int .i64 j ∧ Below w.heap.size w wr ∧ Hid (firstE f xs 0 = firstE f (xs.drop j) j)) (fun _ _ _ i _ => xs.length - (intOf i).toNat)
    case atStart => exact ⟨0, Nat.zero_le _, rfl, hb1, rfl⟩
    case round =>
      obtain ⟨j, hj, rfl, hB, HF⟩ := hrel
      by_cases hlt : j < xs.length
      · obtain ⟨b, off, rfl, hbb, h0, h1⟩ := (h.below hB).spans hlt
        have HD := hide (drop_nth (l := xs) hlt)
        have hsz := hB.size
        have hcall : ∀ W, Below w.heap.size w W → Calls Try.prog g (#[.agg #[.int .i64 (nth xs j).lo, .int .i64 (nth xs j).hi]] ++ lb) W fun e w' => e = .returned (.int .i64 (f (nth xs j))) ∧ Below W.heap.size W w' := fun W hW => hf (nth xs j) W hW
        have HC := hide hcall
        clear hcall hf
        cases hq : (f (nth xs j) != 0) with
        | true =>
          have hq' : ¬ f (nth xs j) = 0 := by simpa using hq
          have HQ := hide hq'
          clear hq'
          go_wp2_with (go_at_fn g; refine (HC.out _ (hB.alloc hsz _)).mono ?_; rintro e w2 ⟨rfl, hb2⟩)
          go_ret2
          refine ⟨ret_t2 ?_ ?_, (hB.alloc hsz _).trans (hb2.mono (by simp; omega))⟩
          · rw [failM, if_neg (by rw [H.out]; simp), HF.out, HD.out, firstE, if_neg HQ.out]
          · rw [failM, if_neg (by rw [H.out]; simp), HF.out, HD.out, firstE, if_neg HQ.out]
        | false =>
          have hq' : f (nth xs j) = 0 := by simpa using hq
          have HQ := hide hq'
          clear hq'
          go_wp2_with (go_at_fn g; refine (HC.out _ (hB.alloc hsz _)).mono ?_; rintro e w2 ⟨rfl, hb2⟩)
          go_roundw
          case rel => exact ⟨j + 1, by omega, by go_num, (hB.alloc hsz _).trans (hb2.mono (by simp; omega)), by show _ = _; rw [HF.out, HD.out, firstE, if_pos HQ.out]⟩
          case measure => simp [intOf]; omega
      · go_wp2
        go_ret2
        refine ⟨ret_t2 ?_ ?_, hB⟩
        · rw [failM, if_neg (by rw [H.out]; simp), HF.out, List.drop_of_length_le (by omega), firstE]
        · rw [failM, if_neg (by rw [H.out]; simp), HF.out, List.drop_of_length_le (by omega), firstE]

/-- A function value that says the error of each lot, in every world that has grown out of w. -/
def ErrOnL (g : FuncId) (lb : Array Value) (f : Lot → Int) (w : World) : Prop :=
  ∀ (x : Lot) (W : World), Below w.heap.size w W → Calls Try.prog g (#[.agg #[.int .i64 x.hold, .int .i64 x.frm, .int .i64 x.green.lo, .int .i64 x.green.hi]] ++ lb) W fun e w' => e = .returned (.int .i64 (f x)) ∧ Below W.heap.size W w'
set_option maxHeartbeats 800000 in
set_option maxRecDepth 100000 in
theorem failingL_any {A : Option Addr} {c : Nat} {xs : List Lot} {w : World} (h : Row w w.heap.size A (xs.length * 4) (lotsF xs)) (hm : xs.length ≤ c ∧ c ≤ maxLen) (least most : Int) (g : FuncId) (lb : Array Value) (f : Lot → Int)
    (hf : ErrOnL g lb f w) (eg : Enters Try.prog g) :
    Calls Try.prog 61 #[.slice A xs.length c, .int .i64 least, .int .i64 most, .func (.func g) #[] lb] w fun e w' =>
      e = .returned (.tuple #[.int .i64 (failM f xs least most).1, .int .i64 (failM f xs least most).2]) ∧ Below w.heap.size w w' := by
  have eg' : ∀ (args : Array Value) (w : World), (callFunc g args).run Try.prog w = .ok (.enter g args) w := eg
  clear eg
  unfold maxLen at hm
  cases h1 : offP least most xs.length with
  | true =>
    have H := hide h1
    clear h1
    go_enter Try.func61, Try.ntmps61
    go_wp2_with (go_at_call 57; refine (off_1 (by simp) _ _ _).mono ?_; rintro e w' ⟨rfl, hb⟩; rw [H.out])
    go_ret2
    exact ⟨ret_t2 (by simp [failM, H.out]) (by simp [failM, H.out]), hb⟩
  | false =>
    have H := hide h1
    clear h1
    go_enter Try.func61, Try.ntmps61
    go_wp2_with (go_at_call 57; refine (off_1 (by simp) _ _ _).mono ?_; rintro e w1 ⟨rfl, hb1⟩; rw [H.out])
    go_loopw [10, 11, 12, 21] (fun _ _ _ i wr => ∃ j : Nat, j ≤ xs.length ∧ i = .int .i64 j ∧ Below w.heap.size w wr ∧ Hid (firstE f xs 0 = firstE f (xs.drop j) j)) (fun _ _ _ i _ => xs.length - (intOf i).toNat)
    case atStart => exact ⟨0, Nat.zero_le _, rfl, hb1, rfl⟩
    case round =>
      obtain ⟨j, hj, rfl, hB, HF⟩ := hrel
      by_cases hlt : j < xs.length
      · obtain ⟨b, off, rfl, hbb, h0, h1, h2, h3⟩ := (h.below hB).lots hlt
        have HD := hide (drop_nth (l := xs) hlt)
        have hsz := hB.size
        have hcall : ∀ W, Below w.heap.size w W → Calls Try.prog g (#[.agg #[.int .i64 (nth xs j).hold, .int .i64 (nth xs j).frm, .int .i64 (nth xs j).green.lo, .int .i64 (nth xs j).green.hi]] ++ lb) W fun e w' => e = .returned (.int .i64 (f (nth xs j))) ∧ Below W.heap.size W w' := fun W hW => hf (nth xs j) W hW
        have HC := hide hcall
        clear hcall hf
        cases hq : (f (nth xs j) != 0) with
        | true =>
          have hq' : ¬ f (nth xs j) = 0 := by simpa using hq
          have HQ := hide hq'
          clear hq'
          go_wp2_with (go_at_fn g; refine (HC.out _ (hB.alloc hsz _)).mono ?_; rintro e w2 ⟨rfl, hb2⟩)
          go_ret2
          refine ⟨ret_t2 ?_ ?_, (hB.alloc hsz _).trans (hb2.mono (by simp; omega))⟩
          · rw [failM, if_neg (by rw [H.out]; simp), HF.out, HD.out, firstE, if_neg HQ.out]
          · rw [failM, if_neg (by rw [H.out]; simp), HF.out, HD.out, firstE, if_neg HQ.out]
        | false =>
          have hq' : f (nth xs j) = 0 := by simpa using hq
          have HQ := hide hq'
          clear hq'
          go_wp2_with (go_at_fn g; refine (HC.out _ (hB.alloc hsz _)).mono ?_; rintro e w2 ⟨rfl, hb2⟩)
          go_roundw
          case rel => exact ⟨j + 1, by omega, by go_num, (hB.alloc hsz _).trans (hb2.mono (by simp; omega)), by show _ = _; rw [HF.out, HD.out, firstE, if_pos HQ.out]⟩
          case measure => simp [intOf]; omega
      · go_wp2
        go_ret2
        refine ⟨ret_t2 ?_ ?_, hB⟩
        · rw [failM, if_neg (by rw [H.out]; simp), HF.out, List.drop_of_length_le (by omega), firstE]
        · rw [failM, if_neg (by rw [H.out]; simp), HF.out, List.drop_of_length_le (by omega), firstE]

/-- A function value that says the error of each look, in every world that has grown out of w. -/
def ErrOnN (g : FuncId) (lb : Array Value) (f : Seen → Int) (w : World) : Prop :=
  ∀ (x : Seen) (W : World), Below w.heap.size w W → Calls Try.prog g (#[.agg #[.int .i64 x.lot, .int .i64 x.hour, .bool x.turned]] ++ lb) W fun e w' => e = .returned (.int .i64 (f x)) ∧ Below W.heap.size W w'
set_option maxHeartbeats 800000 in
set_option maxRecDepth 100000 in
theorem failingN_any {A : Option Addr} {c : Nat} {xs : List Seen} {w : World} (h : Row w w.heap.size A (xs.length * 3) (seenF xs)) (hm : xs.length ≤ c ∧ c ≤ maxLen) (least most : Int) (g : FuncId) (lb : Array Value) (f : Seen → Int)
    (hf : ErrOnN g lb f w) (eg : Enters Try.prog g) :
    Calls Try.prog 63 #[.slice A xs.length c, .int .i64 least, .int .i64 most, .func (.func g) #[] lb] w fun e w' =>
      e = .returned (.tuple #[.int .i64 (failM f xs least most).1, .int .i64 (failM f xs least most).2]) ∧ Below w.heap.size w w' := by
  have eg' : ∀ (args : Array Value) (w : World), (callFunc g args).run Try.prog w = .ok (.enter g args) w := eg
  clear eg
  unfold maxLen at hm
  cases h1 : offP least most xs.length with
  | true =>
    have H := hide h1
    clear h1
    go_enter Try.func63, Try.ntmps63
    go_wp2_with (go_at_call 57; refine (off_1 (by simp) _ _ _).mono ?_; rintro e w' ⟨rfl, hb⟩; rw [H.out])
    go_ret2
    exact ⟨ret_t2 (by simp [failM, H.out]) (by simp [failM, H.out]), hb⟩
  | false =>
    have H := hide h1
    clear h1
    go_enter Try.func63, Try.ntmps63
    go_wp2_with (go_at_call 57; refine (off_1 (by simp) _ _ _).mono ?_; rintro e w1 ⟨rfl, hb1⟩; rw [H.out])
    go_loopw [10, 11, 12, 21] (fun _ _ _ i wr => ∃ j : Nat, j ≤ xs.length ∧ i = .int .i64 j ∧ Below w.heap.size w wr ∧ Hid (firstE f xs 0 = firstE f (xs.drop j) j)) (fun _ _ _ i _ => xs.length - (intOf i).toNat)
    case atStart => exact ⟨0, Nat.zero_le _, rfl, hb1, rfl⟩
    case round =>
      obtain ⟨j, hj, rfl, hB, HF⟩ := hrel
      by_cases hlt : j < xs.length
      · obtain ⟨b, off, rfl, hbb, h0, h1, h2⟩ := (h.below hB).seen hlt
        have HD := hide (drop_nth (l := xs) hlt)
        have hsz := hB.size
        have hcall : ∀ W, Below w.heap.size w W → Calls Try.prog g (#[.agg #[.int .i64 (nth xs j).lot, .int .i64 (nth xs j).hour, .bool (nth xs j).turned]] ++ lb) W fun e w' => e = .returned (.int .i64 (f (nth xs j))) ∧ Below W.heap.size W w' := fun W hW => hf (nth xs j) W hW
        have HC := hide hcall
        clear hcall hf
        cases hq : (f (nth xs j) != 0) with
        | true =>
          have hq' : ¬ f (nth xs j) = 0 := by simpa using hq
          have HQ := hide hq'
          clear hq'
          go_wp2_with (go_at_fn g; refine (HC.out _ (hB.alloc hsz _)).mono ?_; rintro e w2 ⟨rfl, hb2⟩)
          go_ret2
          refine ⟨ret_t2 ?_ ?_, (hB.alloc hsz _).trans (hb2.mono (by simp; omega))⟩
          · rw [failM, if_neg (by rw [H.out]; simp), HF.out, HD.out, firstE, if_neg HQ.out]
          · rw [failM, if_neg (by rw [H.out]; simp), HF.out, HD.out, firstE, if_neg HQ.out]
        | false =>
          have hq' : f (nth xs j) = 0 := by simpa using hq
          have HQ := hide hq'
          clear hq'
          go_wp2_with (go_at_fn g; refine (HC.out _ (hB.alloc hsz _)).mono ?_; rintro e w2 ⟨rfl, hb2⟩)
          go_roundw
          case rel => exact ⟨j + 1, by omega, by go_num, (hB.alloc hsz _).trans (hb2.mono (by simp; omega)), by show _ = _; rw [HF.out, HD.out, firstE, if_pos HQ.out]⟩
          case measure => simp [intOf]; omega
      · go_wp2
        go_ret2
        refine ⟨ret_t2 ?_ ?_, hB⟩
        · rw [failM, if_neg (by rw [H.out]; simp), HF.out, List.drop_of_length_le (by omega), firstE]
        · rw [failM, if_neg (by rw [H.out]; simp), HF.out, List.drop_of_length_le (by omega), firstE]
end Go.Proofs.Ytbkknliggnhpcaa
/- Contracts of Check's function literals and of Check of package turn. -/
namespace Go.Proofs.Ytbkknliggnhpcaa
open Go.RowKit
attribute [local go_sem ↓] Go.wp_at_zero Go.wp_at_succ

def heatE (n : Int) : Int := if offP 0 3 n then 7 else 0
set_option maxHeartbeats 400000 in
theorem check1_any (n : Int) (w : World) : Calls Try.prog 56 #[.int .i64 n] w fun e w' => e = .returned (.int .i64 (heatE n)) ∧ Below w.heap.size w w' := by
  go_enter Try.func56, Try.ntmps56
  go_wp2_with (go_at_call 57; refine (off_1 (by simp) _ _ _).mono ?_; rintro e w' ⟨rfl, hb⟩)
  all_goals
    go_ret
    exact ⟨ret_i (by simp_all [heatE]), hb⟩
set_option maxHeartbeats 400000 in
theorem check2_any (s : Span) (w : World) : Calls Try.prog 59 #[.agg #[.int .i64 s.lo, .int .i64 s.hi]] w fun e w' => e = .returned (.int .i64 (widthM s 6)) ∧ Below w.heap.size w w' := by
  go_enter Try.func59, Try.ntmps59
  go_wp2_with (go_at_call 60; refine (width_any s 6 _ (by omega) (by omega)).mono ?_; rintro e w' ⟨rfl, hb⟩)
  go_ret
  exact ⟨rfl, ((Below.refl _ _).alloc (Nat.le_refl _) _).trans (hb.mono (by simp))⟩

def lotE (c : Cargo) (l : Lot) : Int := if offP 0 ((c.holds.length : Int) - 1) l.hold then 4 else if offP 0 c.heat.length l.frm then 7 else widthM l.green 40
set_option maxHeartbeats 800000 in
set_option maxRecDepth 100000 in
theorem check3_any {A1 A2 : Option Addr} {c1 c2 : Nat} {c : Cargo} {w : World} {g : Nat} (hm1 : c.heat.length ≤ 9223372036854775807) (hm2 : c.holds.length ≤ 9223372036854775807) (hg : g < w.heap.size)
    (h0 : w.cell? ⟨g, 0, none⟩ = some (.slice A1 c.heat.length c1)) (h2 : w.cell? ⟨g, 2, none⟩ = some (.slice A2 c.holds.length c2)) (l : Lot) :
    Calls Try.prog 62 #[.agg #[.int .i64 l.hold, .int .i64 l.frm, .int .i64 l.green.lo, .int .i64 l.green.hi], .pointer (some ⟨g, 0, none⟩)] w fun e w' => e = .returned (.int .i64 (lotE c l)) ∧ Below w.heap.size w w' := by
  go_enter Try.func62, Try.ntmps62
  cases h1 : offP 0 ((c.holds.length : Int) - 1) l.hold with
  | true =>
    have H := hide h1
    clear h1
    go_wp2_with (go_at_call 57; refine (off_1 (by simp) _ _ _).mono ?_; rintro e w1 ⟨rfl, hb1⟩; rw [H.out])
    go_ret
    exact ⟨ret_i (by simp [lotE, H.out]), ((Below.refl _ _).alloc (Nat.le_refl _) _).trans (hb1.mono (by simp))⟩
  | false =>
    have H := hide h1
    clear h1
    go_wp2_with (first
      | (go_at_call 57; refine (off_1 (by simp) _ _ _).mono ?_; rintro e w1 ⟨rfl, hb1⟩; rw [H.out]; obtain ⟨hc, hf⟩ := bcell hb1; have hs1 := hb1.size; simp at hs1)
      | (go_at_call 57; refine (off_1 (by simp) _ _ _).mono ?_; rintro e w2 ⟨rfl, hb2⟩; have hb12 := hb1.trans (hb2.mono hb1.size); obtain ⟨hc2, hf2⟩ := bcell hb12; have hs2 := hb2.size)
      | (go_at_call 60; refine (width_any l.green 40 _ (by omega) (by omega)).mono ?_; rintro e w3 ⟨rfl, hb3⟩))
    all_goals go_ret
    · exact ⟨ret_i (by simp_all [lotE, H.out]), ((Below.refl _ _).alloc (Nat.le_refl _) _).trans ((hb1.mono (by simp)).trans (hb2.mono (by omega)))⟩
    · exact ⟨ret_i (by simp_all [lotE, H.out]), ((Below.refl _ _).alloc (Nat.le_refl _) _).trans ((hb1.mono (by simp)).trans ((hb2.mono (by omega)).trans (hb3.mono (by omega))))⟩

def seenE (c : Cargo) (s : Seen) : Int := if offP 0 ((c.lots.length : Int) - 1) s.lot then 4 else if offP (nth c.lots s.lot.toNat).frm c.heat.length s.hour then 7 else 0
set_option maxHeartbeats 800000 in
set_option maxRecDepth 100000 in
theorem check4_any {A1 A2 A3 A4 : Option Addr} {c1 c2 c3 c4 : Nat} {c : Cargo} {w : World} {B g : Nat} (h : CargoV w B c A1 A2 A3 A4 c1 c2 c3 c4) (hB : B ≤ w.heap.size) (hg : g < w.heap.size)
    (h0 : w.cell? ⟨g, 0, none⟩ = some (.slice A1 c.heat.length c1)) (h3 : w.cell? ⟨g, 3, none⟩ = some (.slice A3 c.lots.length c3)) (lot hour : Int) (turned : Bool) :
    Calls Try.prog 64 #[.agg #[.int .i64 lot, .int .i64 hour, .bool turned], .pointer (some ⟨g, 0, none⟩)] w fun e w' => e = .returned (.int .i64 (seenE c ⟨lot, hour, turned⟩)) ∧ Below w.heap.size w w' := by
  have hm3 := h.m3
  have hm1 := h.m1
  unfold maxLen at hm3 hm1
  cases h1 : offP 0 ((c.lots.length : Int) - 1) lot with
  | true =>
    have H := hide h1
    clear h1
    go_enter Try.func64, Try.ntmps64
    go_wp2_with (go_at_call 57; refine (off_1 (by simp) _ _ _).mono ?_; rintro e w' ⟨rfl, hb⟩; rw [H.out])
    go_ret
    exact ⟨ret_i (by simp [seenE, H.out]), ((Below.refl _ _).alloc (Nat.le_refl _) _).trans (hb.mono (by simp))⟩
  | false =>
    have H := hide h1
    have hlo : 0 ≤ lot ∧ lot < c.lots.length := by simp [offP] at h1; omega
    clear h1
    obtain ⟨k, rfl⟩ : ∃ k : Nat, lot = k := ⟨lot.toNat, by omega⟩
    have hkl : k < c.lots.length := by omega
    obtain ⟨b, off, rfl, hbB, -, hfr, -, -⟩ := h.lots.lots hkl
    have hbw : b < w.heap.size := by omega
    go_enter Try.func64, Try.ntmps64
    go_wp2_with (go_at_call 57; refine (off_1 (by simp) _ _ _).mono ?_; rintro e w1 ⟨rfl, hb⟩; rw [H.out])
    have hs1 := hb.size
    simp at hs1
    have q0 : w1.cell? ⟨g, 0, none⟩ = some (.slice A1 c.heat.length c1) := by rw [hb.cell (by simp; omega), World.cell?_alloc_past _ _ _ hg]; exact h0
    have q3 : w1.cell? ⟨g, 3, none⟩ = some (.slice (some ⟨b, off, none⟩) c.lots.length c3) := by rw [hb.cell (by simp; omega), World.cell?_alloc_past _ _ _ hg]; exact h3
    have ql : w1.cell? ⟨b, off + k * 4 + 1, none⟩ = some (.int .i64 (nth c.lots k).frm) := by rw [hb.cell (by simp; omega), World.cell?_alloc_past _ _ _ hbw]; exact hfr
    have qs0 : w1.cell? ⟨w.heap.size, 0, none⟩ = some (.int .i64 k) := by rw [hb.cell (by simp), World.cell?_alloc_at _ _ _ _ rfl]; rfl
    have qs1 : w1.cell? ⟨w.heap.size, 1, none⟩ = some (.int .i64 hour) := by rw [hb.cell (by simp), World.cell?_alloc_at _ _ _ _ rfl]; rfl
    have hk0 : (0 : Int) ≤ (k : Int) := Int.natCast_nonneg _
    have hk1 : (k : Int) < (c.lots.length : Int) := by omega
    have z1 : g < w1.heap.size := by omega
    have z2 : b < w1.heap.size := by omega
    have z3 : w.heap.size < w1.heap.size := by omega
    clear hs1
    go_region_held3 (fun w' => w'.cell? ⟨g, 0, none⟩ = some (.slice A1 c.heat.length c1) ∧ w'.cell? ⟨g, 3, none⟩ = some (.slice (some ⟨b, off, none⟩) c.lots.length c3) ∧ w'.cell? ⟨b, off + k * 4 + 1, none⟩ = some (.int .i64 (nth c.lots k).frm)
      ∧ w'.cell? ⟨w.heap.size, 0, none⟩ = some (.int .i64 k) ∧ w'.cell? ⟨w.heap.size, 1, none⟩ = some (.int .i64 hour)) (first | exact ⟨(hb2.cell (p := ⟨_, _, _⟩) z1).trans q0, (hb2.cell (p := ⟨_, _, _⟩) z1).trans q3, (hb2.cell (p := ⟨_, _, _⟩) z2).trans ql, (hb2.cell (p := ⟨_, _, _⟩) z3).trans qs0, (hb2.cell (p := ⟨_, _, _⟩) z3).trans qs1⟩ | go_keep)
      (first | (go_at_call 57; refine (off_1d rfl _ _ _).mono ?_; rintro e w2 ⟨rfl, hb2⟩))
    all_goals go_wp2
    all_goals
      go_ret
      refine ⟨ret_i (by simp_all [seenE, H.out]), ((Below.refl _ _).alloc (Nat.le_refl _) _).trans ((hb.mono (by simp)).trans ?_)⟩
      have := hb.size
      simp at this
      exact hb2.mono (by omega)

def checkM (c : Cargo) : Int × Int × Int :=
  if (failM heatE c.heat 0 8).2 ≠ 0 then (1, failM heatE c.heat 0 8) else if offP 0 3 c.gas then (2, 0, 7) else
  if (failM (fun s => widthM s 6) c.holds 1 3).2 ≠ 0 then (3, failM (fun s => widthM s 6) c.holds 1 3) else
  if (failM (lotE c) c.lots 0 4).2 ≠ 0 then (4, failM (lotE c) c.lots 0 4) else
  if (failM (seenE c) c.seen 0 4).2 ≠ 0 then (5, failM (seenE c) c.seen 0 4) else (0, 0, 0)
set_option maxHeartbeats 800000 in
set_option maxRecDepth 100000 in
theorem check_any {A1 A2 A3 A4 : Option Addr} {c1 c2 c3 c4 : Nat} {c : Cargo} {w : World} (h : CargoV w w.heap.size c A1 A2 A3 A4 c1 c2 c3 c4) :
    Calls Try.prog 16 #[cargoVal c A1 A2 A3 A4 c1 c2 c3 c4] w fun e w' => e = .returned (.tuple #[.int .i64 (checkM c).1, .int .i64 (checkM c).2.1, .int .i64 (checkM c).2.2]) ∧ Below w.heap.size w w' := by
  have hm1 := h.m1
  have hm2 := h.m2
  have hm3 := h.m3
  have hm4 := h.m4
  unfold maxLen at hm1 hm2 hm3 hm4
  obtain ⟨ob, hob⟩ : ∃ ob, ob = (w.alloc (.cells #[.slice A1 c.heat.length c1, .int .i64 c.gas, .slice A2 c.holds.length c2, .slice A3 c.lots.length c3, .slice A4 c.seen.length c4] 27)) := ⟨_, rfl⟩
  have hB0 : Below w.heap.size w ob := by rw [hob]; exact (Below.refl _ _).alloc (Nat.le_refl _) _
  have hs0 : ob.heap.size = w.heap.size + 1 := by rw [hob]; simp
  have q0 : ob.cell? ⟨w.heap.size, 0, none⟩ = some (.slice A1 c.heat.length c1) := by rw [hob, World.cell?_alloc_at _ _ _ _ rfl]; rfl
  have q2 : ob.cell? ⟨w.heap.size, 2, none⟩ = some (.slice A2 c.holds.length c2) := by rw [hob, World.cell?_alloc_at _ _ _ _ rfl]; rfl
  have q3 : ob.cell? ⟨w.heap.size, 3, none⟩ = some (.slice A3 c.lots.length c3) := by rw [hob, World.cell?_alloc_at _ _ _ _ rfl]; rfl
  have h0 := (h.next hB0)
  have e1 : ∀ W, Below ob.heap.size ob W → ErrOnI 56 #[] heatE W := fun W _ x W' _ => check1_any x W'
  have e2 : ∀ W, Below ob.heap.size ob W → ErrOnS 59 #[] (fun s => widthM s 6) W := fun W _ x W' _ => check2_any x W'
  have e3 : ∀ W, Below ob.heap.size ob W → ErrOnL 62 #[.pointer (some ⟨w.heap.size, 0, none⟩)] (lotE c) W := fun W hW x W' hW' => by
    have hh := hW.trans (hW'.mono hW.size)
    have hz := hh.size
    exact check3_any (by omega) (by omega) (by omega) ((hh.cell (p := ⟨_, _, _⟩) (by simp; omega)).trans q0) ((hh.cell (p := ⟨_, _, _⟩) (by simp; omega)).trans q2) x
  have e4 : ∀ W, Below ob.heap.size ob W → ErrOnN 64 #[.pointer (some ⟨w.heap.size, 0, none⟩)] (seenE c) W := fun W hW x W' hW' => by
    have hh := hW.trans (hW'.mono hW.size)
    have hz := hh.size
    exact check4_any ((h0.below hh).more hz) (Nat.le_refl _) (by omega) ((hh.cell (p := ⟨_, _, _⟩) (by simp; omega)).trans q0) ((hh.cell (p := ⟨_, _, _⟩) (by simp; omega)).trans q3) x.lot x.hour x.turned
  have E1 := hide e1
  have E2 := hide e2
  have E3 := hide e3
  have E4 := hide e4
  clear e1 e2 e3 e4
  subst hob
  go_enter Try.func16, Try.ntmps16
  go_wp2_with (first
    | (go_at_call 55; refine (failingI_any h0.heat h.m1 0 8 _ _ _ (E1.out _ (Below.refl _ _)) (enters_of Try.func56 (by kernel_rfl) rfl)).mono ?_; rintro e w1 ⟨rfl, hb1⟩; obtain ⟨hc1, hf1⟩ := bcell hb1)
    | (go_at_call 57; refine (off_1 (by simp) _ _ _).mono ?_; rintro e w2 ⟨rfl, hb2⟩; have hB2 := hb1.trans (hb2.mono hb1.size); obtain ⟨hc2, hf2⟩ := bcell hB2)
    | (go_at_call 58; refine (failingS_any ((h0.below hB2).more hB2.size).holds h.m2 1 3 _ _ _ (E2.out _ hB2) (enters_of Try.func59 (by kernel_rfl) rfl)).mono ?_; rintro e w3 ⟨rfl, hb3⟩; have hB3 := hB2.trans (hb3.mono hB2.size); obtain ⟨hc3, hf3⟩ := bcell hB3)
    | (go_at_call 61; refine (failingL_any ((h0.below hB3).more hB3.size).lots h.m3 0 4 _ _ _ (E3.out _ hB3) (enters_of Try.func62 (by kernel_rfl) rfl)).mono ?_; rintro e w4 ⟨rfl, hb4⟩; have hB4 := hB3.trans (hb4.mono hB3.size); obtain ⟨hc4, hf4⟩ := bcell hB4)
    | (go_at_call 63; refine (failingN_any ((h0.below hB4).more hB4.size).seen h.m4 0 4 _ _ _ (E4.out _ hB4) (enters_of Try.func64 (by kernel_rfl) rfl)).mono ?_; rintro e w5 ⟨rfl, hb5⟩; have hB5 := hB4.trans (hb5.mono hB4.size)))
  all_goals go_ret3
  all_goals
    refine ⟨ret_t3 ?_ ?_ ?_, hB0.trans (Below.mono (by first | exact hB5 | exact hB4 | exact hB3 | exact hB2 | exact hb1) (by simp))⟩
    all_goals (clear hb1; simp_all [checkM])
end Go.Proofs.Ytbkknliggnhpcaa
/- Contracts of the reference's ends, lot, Never and Check of chapter 07: the same answers as the program's. -/
namespace Go.Proofs.Ytbkknliggnhpcaa
open Go.RowKit
attribute [local go_sem ↓] Go.wp_at_zero Go.wp_at_succ

theorem inB_off (n lo hi : Int) : inB n lo hi = !offP lo hi n := by simp [inB, offP]; rw [Bool.eq_iff_iff]; simp
theorem endsE_width (s : Span) (most : Int) : widthM s most = if endsE s 0 most = 0 ∧ 3 < s.hi - s.lo then 2 else endsE s 0 most := by
  unfold widthM endsE
  simp only [inB_off]
  cases offP 0 most s.lo <;> cases offP 0 most s.hi <;> simp [offP]
  split <;> split <;> simp_all <;> omega
set_option maxHeartbeats 400000 in
theorem ends7_any (s : Span) (most : Int) (w : World) (hm : 0 ≤ most) (hm2 : most ≤ 1000) :
    Calls Try.prog 66 #[.agg #[.int .i64 s.lo, .int .i64 s.hi], .int .i64 most] w fun e w' => e = .returned (.int .i64 (widthM s most)) ∧ Below w.heap.size w w' := by
  have hb : ∀ w1, Below (w.heap.size + 1) (w.alloc (.cells #[.int .i64 s.lo, .int .i64 s.hi] 32)) w1 → Below w.heap.size w w1 := fun w1 h => ((Below.refl _ _).alloc (Nat.le_refl _) _).trans (h.mono (by omega))
  have HB := hide hb
  clear hb
  cases h0 : (endsE s 0 most == 0) with
  | true =>
    have h1 : endsE s 0 most = 0 := by simpa using h0
    have hr : 0 ≤ s.lo ∧ s.hi ≤ 1000 ∧ s.lo ≤ s.hi := by
      unfold endsE at h1
      by_cases ha : 0 ≤ s.lo ∧ s.lo ≤ most
      · by_cases hb : 0 ≤ s.hi ∧ s.hi ≤ most
        · by_cases hc : s.hi < s.lo
          · simp [inB, ha, hb, hc] at h1
          · omega
        · simp [inB, ha, hb] at h1
      · simp [inB, ha] at h1
    have H1 := hide h1
    clear h1
    by_cases h3 : 3 < s.hi - s.lo
    all_goals
      go_enter Try.func66, Try.ntmps66
      go_wp2_with (go_at_call 103; refine (ends_any s 0 most _).mono ?_; rintro e w1 ⟨rfl, hb1⟩; simp only [World.size_alloc] at hb1; obtain ⟨hc1, hf1⟩ := bcell hb1)
      go_ret
      exact ⟨ret_i (by rw [endsE_width, H1.out]; simp; omega), HB.out _ hb1⟩
  | false =>
    have h1 : ¬ endsE s 0 most = 0 := by simpa using h0
    have H1 := hide h1
    clear h1
    go_enter Try.func66, Try.ntmps66
    go_wp2_with (go_at_call 103; refine (ends_any s 0 most _).mono ?_; rintro e w1 ⟨rfl, hb1⟩; simp only [World.size_alloc] at hb1; obtain ⟨hc1, hf1⟩ := bcell hb1)
    go_ret
    exact ⟨ret_i (by rw [endsE_width, if_neg (fun h => H1.out h.1)]), HB.out _ hb1⟩

set_option maxHeartbeats 400000 in
theorem never_any {A1 A2 A3 A4 : Option Addr} {c1 c2 c3 c4 : Nat} (c : Cargo) (w : World) (h1 : c.heat.length ≤ 1000000) :
    Calls Try.prog 39 #[cargoVal c A1 A2 A3 A4 c1 c2 c3 c4] w fun e w' => e = .returned (.int .i64 ((c.heat.length : Int) + 1)) ∧ Below w.heap.size w w' := by
  go_enter Try.func39, Try.ntmps39
  go_wp2
  go_ret
  exact ⟨rfl, (Below.refl _ _).alloc (Nat.le_refl _) _⟩

set_option maxHeartbeats 400000 in
theorem lot7_any {A1 A2 A3 A4 : Option Addr} {c1 c2 c3 c4 : Nat} {c : Cargo} {w : World} (h1 : c.heat.length ≤ 9223372036854775807) (h2 : c.holds.length ≤ 9223372036854775807) (l : Lot) :
    Calls Try.prog 67 #[cargoVal c A1 A2 A3 A4 c1 c2 c3 c4, .agg #[.int .i64 l.hold, .int .i64 l.frm, .int .i64 l.green.lo, .int .i64 l.green.hi]] w fun e w' =>
      e = .returned (.int .i64 (lotE c l)) ∧ Below w.heap.size w w' := by
  go_enter Try.func67, Try.ntmps67
  cases h3 : offP 0 ((c.holds.length : Int) - 1) l.hold <;> cases h4 : offP 0 c.heat.length l.frm
  all_goals
    have H3 := hide h3
    have H4 := hide h4
    clear h3 h4
    go_wp2_with (first
      | (go_at_call 65; refine (in_any _ _ _ _).mono ?_; rintro e w' ⟨rfl, rfl⟩; rw [inB_off]; first | rw [H3.out] | rw [H4.out])
      | (go_at_call 66; refine (ends7_any l.green 40 _ (by omega) (by omega)).mono ?_; rintro e w1 ⟨rfl, hb1⟩))
    go_ret
    refine ⟨ret_i (by simp [lotE, H3.out, H4.out]), ?_⟩
    first
      | exact (((Below.refl _ _).alloc (Nat.le_refl _) _).alloc (by simp) _).trans (hb1.mono (by simp; omega))
      | exact ((Below.refl _ _).alloc (Nat.le_refl _) _).alloc (by simp) _

theorem fail_hit {α : Type} [Inhabited α] {f : α → Int} {xs : List α} {least most : Int} {j : Nat} (h : offP least most xs.length = false) (hk : firstE f xs 0 = firstE f (xs.drop j) j) (hj : j < xs.length) (hf : f (nth xs j) ≠ 0) :
    failM f xs least most = ((j : Int), f (nth xs j)) := by
  rw [failM, if_neg (by rw [h]; simp), hk, drop_nth hj, firstE, if_neg hf]
theorem fail_done {α : Type} [Inhabited α] {f : α → Int} {xs : List α} {least most : Int} (h : offP least most xs.length = false) (hk : firstE f xs 0 = firstE f (xs.drop xs.length) xs.length) :
    failM f xs least most = (0, 0) := by
  rw [failM, if_neg (by rw [h]; simp), hk, List.drop_length, firstE]
theorem fail_step {α : Type} [Inhabited α] {f : α → Int} {xs : List α} {j : Nat} (hk : firstE f xs 0 = firstE f (xs.drop j) j) (hj : j < xs.length) (hf : f (nth xs j) = 0) : firstE f xs 0 = firstE f (xs.drop (j + 1)) (j + 1) := by
  rw [hk, drop_nth hj, firstE, if_pos hf]
theorem fail_long {α : Type} {f : α → Int} {xs : List α} {least most : Int} (h : offP least most xs.length = true) : failM f xs least most = (0, 3) := by
  rw [failM, if_pos h]

set_option maxHeartbeats 1600000 in
set_option maxRecDepth 100000 in
theorem check7_any {A1 A2 A3 A4 : Option Addr} {c1 c2 c3 c4 : Nat} {c : Cargo} {w : World} (h : CargoV w w.heap.size c A1 A2 A3 A4 c1 c2 c3 c4) :
    Calls Try.prog 17 #[cargoVal c A1 A2 A3 A4 c1 c2 c3 c4] w fun e w' => e = .returned (.tuple #[.int .i64 (checkM c).1, .int .i64 (checkM c).2.1, .int .i64 (checkM c).2.2]) ∧ Below w.heap.size w w' := by
  have hm1 := h.m1
  have hm2 := h.m2
  have hm3 := h.m3
  have hm4 := h.m4
  unfold maxLen at hm1 hm2 hm3 hm4
  have hB0 : Below w.heap.size w (w.alloc (.cells #[.slice A1 c.heat.length c1, .int .i64 c.gas, .slice A2 c.holds.length c2, .slice A3 c.lots.length c3, .slice A4 c.seen.length c4] 27)) := (Below.refl _ _).alloc (Nat.le_refl _) _
  go_enter Try.func17, Try.ntmps17
  by_cases hl1 : 8 < c.heat.length
  · go_wp2
    go_ret3
    have e := fail_long (f := heatE) (xs := c.heat) (least := 0) (most := 8) (by simp [offP]; omega)
    exact ⟨ret_t3 (by simp [checkM, e]) (by simp [checkM, e]) (by simp [checkM, e]), hB0⟩
  have hdl1 : decide ((8 : Int) < (c.heat.length : Int)) = false := by simp; omega
  have HO1 := hide (show offP 0 8 c.heat.length = false by simp [offP]; omega)
  go_wp2_with fail
  go_loopw [5] (fun i wr => ∃ j : Nat, j ≤ c.heat.length ∧ i = .int .i64 j ∧ wr = (w.alloc (.cells #[.slice A1 c.heat.length c1, .int .i64 c.gas, .slice A2 c.holds.length c2, .slice A3 c.lots.length c3, .slice A4 c.seen.length c4] 27)) ∧ Hid (firstE heatE c.heat 0 = firstE heatE (c.heat.drop j) j)) (fun i _ => c.heat.length - (intOf i).toNat)
  case atStart => exact ⟨0, Nat.zero_le _, rfl, rfl, rfl⟩
  case round =>
    obtain ⟨j, hj, rfl, rfl, HF⟩ := hrel
    by_cases hlt : j < c.heat.length
    · obtain ⟨b, off, rfl, hbb, hh⟩ := h.heat.ints hlt
      cases hq : offP 0 3 (nth c.heat j) with
      | true =>
        have HQ := hide hq
        clear hq
        go_wp2_with (go_at_call 65; refine (in_any _ _ _ _).mono ?_; rintro e w' ⟨rfl, rfl⟩; rw [inB_off, HQ.out])
        go_ret3
        have e := fail_hit (f := heatE) HO1.out HF.out hlt (by simp [heatE, HQ.out])
        exact ⟨ret_t3 (by simp [checkM, e, heatE, HQ.out]) (by simp [checkM, e, heatE, HQ.out]) (by simp [checkM, e, heatE, HQ.out]), hB0⟩
      | false =>
        have HQ := hide hq
        clear hq
        go_wp2_with (go_at_call 65; refine (in_any _ _ _ _).mono ?_; rintro e w' ⟨rfl, rfl⟩; rw [inB_off, HQ.out])
        go_roundw
        case rel => exact ⟨j + 1, by omega, by go_num, trivial, fail_step HF.out hlt (by simp [heatE, HQ.out])⟩
        case measure => simp [intOf]; omega
    · have HE1 := hide (fail_done (f := heatE) HO1.out (by have := HF.out; rwa [show j = c.heat.length by omega] at this))
      have hge : c.heat.length ≤ j := by omega
      have hdd1 : decide (j < c.heat.length) = false := by simp; omega
      clear hlt
      cases hq2 : offP 0 3 c.gas with
      | true =>
        have HQ2 := hide hq2
        clear hq2
        go_wp2_with (go_at_call 65; refine (in_any _ _ _ _).mono ?_; rintro e w' ⟨rfl, rfl⟩; rw [inB_off, HQ2.out])
        go_ret3
        exact ⟨ret_t3 (by simp [checkM, HE1.out, HQ2.out]) (by simp [checkM, HE1.out, HQ2.out]) (by simp [checkM, HE1.out, HQ2.out]), hB0⟩
      | false =>
        have HQ2 := hide hq2
        clear hq2
        cases hq3 : offP 1 3 c.holds.length with
        | true =>
          have HQ3 := hide hq3
          clear hq3
          have HE3 := hide (fail_long (f := fun s => widthM s 6) HQ3.out)
          go_wp2_with (go_at_call 65; refine (in_any _ _ _ _).mono ?_; rintro e w' ⟨rfl, rfl⟩; rw [inB_off]; first | rw [HQ2.out] | rw [HQ3.out])
          go_ret3
          exact ⟨ret_t3 (by simp [checkM, HE1.out, HQ2.out, HE3.out]) (by simp [checkM, HE1.out, HQ2.out, HE3.out]) (by simp [checkM, HE1.out, HQ2.out, HE3.out]), hB0⟩
        | false =>
          have HQ3 := hide hq3
          clear hq3
          go_wp2_with (go_at_call 65; refine (in_any _ _ _ _).mono ?_; rintro e w' ⟨rfl, rfl⟩; rw [inB_off]; first | rw [HQ2.out] | rw [HQ3.out])
          have q0 : (w.alloc (.cells #[.slice A1 c.heat.length c1, .int .i64 c.gas, .slice A2 c.holds.length c2, .slice A3 c.lots.length c3, .slice A4 c.seen.length c4] 27)).cell? ⟨w.heap.size, 0, none⟩ = some (.slice A1 c.heat.length c1) := by rw [World.cell?_alloc_at _ _ _ _ rfl]; rfl
          have q1 : (w.alloc (.cells #[.slice A1 c.heat.length c1, .int .i64 c.gas, .slice A2 c.holds.length c2, .slice A3 c.lots.length c3, .slice A4 c.seen.length c4] 27)).cell? ⟨w.heap.size, 1, none⟩ = some (.int .i64 c.gas) := by rw [World.cell?_alloc_at _ _ _ _ rfl]; rfl
          have q2 : (w.alloc (.cells #[.slice A1 c.heat.length c1, .int .i64 c.gas, .slice A2 c.holds.length c2, .slice A3 c.lots.length c3, .slice A4 c.seen.length c4] 27)).cell? ⟨w.heap.size, 2, none⟩ = some (.slice A2 c.holds.length c2) := by rw [World.cell?_alloc_at _ _ _ _ rfl]; rfl
          have q3 : (w.alloc (.cells #[.slice A1 c.heat.length c1, .int .i64 c.gas, .slice A2 c.holds.length c2, .slice A3 c.lots.length c3, .slice A4 c.seen.length c4] 27)).cell? ⟨w.heap.size, 3, none⟩ = some (.slice A3 c.lots.length c3) := by rw [World.cell?_alloc_at _ _ _ _ rfl]; rfl
          have q4 : (w.alloc (.cells #[.slice A1 c.heat.length c1, .int .i64 c.gas, .slice A2 c.holds.length c2, .slice A3 c.lots.length c3, .slice A4 c.seen.length c4] 27)).cell? ⟨w.heap.size, 4, none⟩ = some (.slice A4 c.seen.length c4) := by rw [World.cell?_alloc_at _ _ _ _ rfl]; rfl
          have hs0 : (w.alloc (.cells #[.slice A1 c.heat.length c1, .int .i64 c.gas, .slice A2 c.holds.length c2, .slice A3 c.lots.length c3, .slice A4 c.seen.length c4] 27)).heap.size = w.heap.size + 1 := by simp
          have h0 := (h.next hB0)
          rw [hs0] at h0
          have HH := hide h0
          have hB0' := hB0
          have hs0' := Nat.le_of_eq hs0.symm
          clear h0 h hs0 hB0
          generalize (w.alloc (.cells #[.slice A1 c.heat.length c1, .int .i64 c.gas, .slice A2 c.holds.length c2, .slice A3 c.lots.length c3, .slice A4 c.seen.length c4] 27)) = w0 at *
          have keep : ∀ wr, Below (w.heap.size + 1) w0 wr → Below w.heap.size w wr := fun wr hk => hB0'.trans (hk.mono (by omega))
          have KEEP := hide keep
          clear keep hB0'
          go_loopw [6, 7] (fun i _ wr => ∃ j : Nat, j ≤ c.holds.length ∧ i = .int .i64 j ∧ Below (w.heap.size + 1) w0 wr ∧ w.heap.size + 1 ≤ wr.heap.size ∧ Hid (firstE (fun s => widthM s 6) c.holds 0 = firstE (fun s => widthM s 6) (c.holds.drop j) j)) (fun i _ _ => c.holds.length - (intOf i).toNat)
          case atStart => exact ⟨0, Nat.zero_le _, rfl, Below.refl _ _, by omega, rfl⟩
          case round =>
            obtain ⟨j2, hj2, rfl, hB2, hz2, HF2⟩ := hrel
            obtain ⟨k2, f2⟩ := bcell hB2
            by_cases hlt2 : j2 < c.holds.length
            · obtain ⟨b, off, rfl, hbb, hh, hh'⟩ := HH.out.holds.spans hlt2
              cases hq : (widthM (nth c.holds j2) 6 != 0) with
              | true =>
                have HQ := hide (show widthM (nth c.holds j2) 6 ≠ 0 by simpa using hq)
                go_wp2_with (go_at_call 66; refine (ends7_any (nth c.holds j2) 6 _ (by omega) (by omega)).mono ?_; rintro e w' ⟨rfl, hb3⟩)
                go_ret3
                have e := fail_hit (f := fun s => widthM s 6) HQ3.out HF2.out hlt2 HQ.out
                exact ⟨ret_t3 (by simp [checkM, HE1.out, HQ2.out, e, HQ.out]) (by simp [checkM, HE1.out, HQ2.out, e, HQ.out]) (by simp [checkM, HE1.out, HQ2.out, e, HQ.out]), KEEP.out _ (hB2.trans (hb3.mono hz2))⟩
              | false =>
                have HQ := hide (show widthM (nth c.holds j2) 6 = 0 by simpa using hq)
                go_wp2_with (go_at_call 66; refine (ends7_any (nth c.holds j2) 6 _ (by omega) (by omega)).mono ?_; rintro e w' ⟨rfl, hb3⟩)
                go_roundw
                case rel => exact ⟨j2 + 1, by omega, by go_num, hB2.trans (hb3.mono hz2), Nat.le_trans hz2 hb3.size, fail_step HF2.out hlt2 HQ.out⟩
                case measure => simp [intOf]; omega
            · have HE3 := hide (fail_done (f := fun s => widthM s 6) HQ3.out (by have := HF2.out; rwa [show j2 = c.holds.length by omega] at this))
              have hge2 : c.holds.length ≤ j2 := by omega
              have hdd2 : decide (j2 < c.holds.length) = false := by simp; omega
              clear hlt2
              by_cases hl4 : 4 < c.lots.length
              · have HE4 := hide (fail_long (f := lotE c) (xs := c.lots) (least := 0) (most := 4) (by simp [offP]; omega))
                go_wp2
                go_ret3
                exact ⟨ret_t3 (by simp [checkM, HE1.out, HQ2.out, HE3.out, HE4.out]) (by simp [checkM, HE1.out, HQ2.out, HE3.out, HE4.out]) (by simp [checkM, HE1.out, HQ2.out, HE3.out, HE4.out]), KEEP.out _ hB2⟩
              have hdl4 : decide ((4 : Int) < (c.lots.length : Int)) = false := by simp; omega
              have HO4 := hide (show offP 0 4 c.lots.length = false by simp [offP]; omega)
              go_wp2_with fail
              go_loopw [8, 9] (fun i _ wr => ∃ j : Nat, j ≤ c.lots.length ∧ i = .int .i64 j ∧ Below (w.heap.size + 1) w0 wr ∧ w.heap.size + 1 ≤ wr.heap.size ∧ Hid (firstE (lotE c) c.lots 0 = firstE (lotE c) (c.lots.drop j) j)) (fun i _ _ => c.lots.length - (intOf i).toNat)
              case atStart => exact ⟨0, Nat.zero_le _, rfl, hB2, hz2, rfl⟩
              case round =>
                clear hB2 hz2 k2 f2 HF2
                obtain ⟨j4, hj4, rfl, hB4, hz4, HF4⟩ := hrel
                obtain ⟨k4, f4⟩ := bcell hB4
                by_cases hlt4 : j4 < c.lots.length
                · obtain ⟨b, off, rfl, hbb, hh0, hh1, hh2, hh3⟩ := HH.out.lots.lots hlt4
                  have hj0 : (0 : Int) ≤ (j4 : Int) := Int.natCast_nonneg _
                  have hj1 : (j4 : Int) < (c.lots.length : Int) := by omega
                  have hbz : b < wr.heap.size := by omega
                  have hwz : w.heap.size < wr.heap.size := by omega
                  go_wp2_with fail
                  refine wp_region_grow (by kernel_rfl) (by kernel_rfl) ?_
                  have hgc := @grow_cell
                  repeat (first | go_big_quiet_step ((go_at_call 67; exact Calls.grow_of (lot7_any (by omega) (by omega) (nth c.lots j4)))) | quiet_step ((go_at_call 67; exact Calls.grow_of (lot7_any (by omega) (by omega) (nth c.lots j4)))))
                  refine wpQuiet_nil ?_
                  rintro _ ⟨t, rfl⟩
                  have hbt := hB4.trans ((grow_below (w := wr) (t := t)).mono hz4)
                  have hzt := Nat.le_trans hz4 (grow_size (w := wr) (t := t))
                  clear hgc
                  generalize grow wr t = wt at *
                  cases hq : (lotE c (nth c.lots j4) != 0) with
                  | true =>
                    have HQ := hide (show lotE c (nth c.lots j4) ≠ 0 by simpa using hq)
                    go_wp2
                    go_ret3
                    have e := fail_hit (f := lotE c) HO4.out HF4.out hlt4 HQ.out
                    exact ⟨ret_t3 (by simp [checkM, HE1.out, HQ2.out, HE3.out, e, HQ.out]) (by simp [checkM, HE1.out, HQ2.out, HE3.out, e, HQ.out]) (by simp [checkM, HE1.out, HQ2.out, HE3.out, e, HQ.out]), KEEP.out _ hbt⟩
                  | false =>
                    have HQ := hide (show lotE c (nth c.lots j4) = 0 by simpa using hq)
                    go_wp2
                    go_roundw
                    case rel => exact ⟨j4 + 1, by omega, by go_num, hbt, hzt, fail_step HF4.out hlt4 HQ.out⟩
                    case measure => simp [intOf]; omega
                · have HE4 := hide (fail_done (f := lotE c) HO4.out (by have := HF4.out; rwa [show j4 = c.lots.length by omega] at this))
                  have hge4 : c.lots.length ≤ j4 := by omega
                  have hdd4 : decide (j4 < c.lots.length) = false := by simp; omega
                  clear hlt4
                  by_cases hl5 : 4 < c.seen.length
                  · have HE5 := hide (fail_long (f := seenE c) (xs := c.seen) (least := 0) (most := 4) (by simp [offP]; omega))
                    go_wp2
                    go_ret3
                    exact ⟨ret_t3 (by simp [checkM, HE1.out, HQ2.out, HE3.out, HE4.out, HE5.out]) (by simp [checkM, HE1.out, HQ2.out, HE3.out, HE4.out, HE5.out]) (by simp [checkM, HE1.out, HQ2.out, HE3.out, HE4.out, HE5.out]), KEEP.out _ hB4⟩
                  have hdl5 : decide ((4 : Int) < (c.seen.length : Int)) = false := by simp; omega
                  have HO5 := hide (show offP 0 4 c.seen.length = false by simp [offP]; omega)
                  go_wp2_with fail
                  go_loopw [10, 11] (fun i _ wr => ∃ j : Nat, j ≤ c.seen.length ∧ i = .int .i64 j ∧ Below (w.heap.size + 1) w0 wr ∧ w.heap.size + 1 ≤ wr.heap.size ∧ Hid (firstE (seenE c) c.seen 0 = firstE (seenE c) (c.seen.drop j) j)) (fun i _ _ => c.seen.length - (intOf i).toNat)
                  case atStart => exact ⟨0, Nat.zero_le _, rfl, hB4, hz4, rfl⟩
                  case round =>
                    clear hB4 hz4 k4 f4 HF4
                    obtain ⟨j5, hj5, rfl, hB5, hz5, HF5⟩ := hrel
                    obtain ⟨k5, f5⟩ := bcell hB5
                    by_cases hlt5 : j5 < c.seen.length
                    · obtain ⟨b, off, rfl, hbb, hh0, hh1, hh2⟩ := HH.out.seen.seen hlt5
                      have hwz : w.heap.size < wr.heap.size := by omega
                      have hbz : b < wr.heap.size := by omega
                      cases hq5 : offP 0 ((c.lots.length : Int) - 1) (nth c.seen j5).lot with
                      | true =>
                        have HQ := hide hq5
                        clear hq5
                        go_wp2_with (go_at_call 65; refine (in_any _ _ _ _).mono ?_; rintro e w' ⟨rfl, rfl⟩; rw [inB_off, HQ.out])
                        go_ret3
                        have e := fail_hit (f := seenE c) HO5.out HF5.out hlt5 (by simp [seenE, HQ.out])
                        exact ⟨ret_t3 (by simp [checkM, HE1.out, HQ2.out, HE3.out, HE4.out, e, seenE, HQ.out]) (by simp [checkM, HE1.out, HQ2.out, HE3.out, HE4.out, e, seenE, HQ.out]) (by simp [checkM, HE1.out, HQ2.out, HE3.out, HE4.out, e, seenE, HQ.out]), KEEP.out _ (hB5.alloc hz5 _)⟩
                      | false =>
                        have HQ := hide hq5
                        have hlr : 0 ≤ (nth c.seen j5).lot ∧ (nth c.seen j5).lot < c.lots.length := by simp [offP] at hq5; omega
                        clear hq5
                        have HSE : Hid (∀ q : Bool, offP (nth c.lots (nth c.seen j5).lot.toNat).frm c.heat.length (nth c.seen j5).hour = q → seenE c (nth c.seen j5) = if q then 7 else 0) := fun q hq => by simp [seenE, HQ.out, hq]
                        generalize hkk : (nth c.seen j5).lot = lt at *
                        obtain ⟨k, rfl⟩ : ∃ k : Nat, lt = k := ⟨lt.toNat, by omega⟩
                        clear hkk
                        obtain ⟨bl, offl, rfl, hbl, -, hfr, -, -⟩ := HH.out.lots.lots (i := k) (by omega)
                        simp only [Int.toNat_natCast] at HSE
                        have hj0 : (0 : Int) ≤ (k : Int) := Int.natCast_nonneg _
                        have hj1 : (k : Int) < (c.lots.length : Int) := by omega
                        go_wp2_with (go_at_call 65; refine (in_any _ _ _ _).mono ?_; rintro e w' ⟨rfl, rfl⟩; rw [inB_off, HQ.out])
                        have hblz : bl < wr.heap.size + 1 := by omega
                        have hblw : bl < wr.heap.size := by omega
                        have hwz1 : w.heap.size < wr.heap.size + 1 := by omega
                        have hin := fun W => in_any (nth c.seen j5).hour (nth c.lots k).frm c.heat.length W
                        simp only [inB_off] at hin
                        cases hq6 : offP (nth c.lots k).frm c.heat.length (nth c.seen j5).hour with
                        | true =>
                          have HS := hide (HSE.out _ hq6)
                          have hcall := hin
                          rw [hq6] at hcall
                          clear hq6 hin
                          refine wp_region_grow (by kernel_rfl) (by kernel_rfl) ?_
                          have hgc := @grow_cell
                          repeat (first | go_big_quiet_step ((go_at_call 65; exact Calls.grow_of_same (hcall _))) | quiet_step ((go_at_call 65; exact Calls.grow_of_same (hcall _))))
                          refine wpQuiet_nil ?_
                          rintro _ ⟨t, rfl⟩
                          have hbt := (hB5.alloc hz5 _).trans ((grow_below (t := t)).mono (by simp; omega))
                          have hzt := Nat.le_trans hz5 (Nat.le_trans (by simp) (grow_size (t := t)))
                          clear hgc hcall
                          generalize grow _ t = wt at *
                          go_wp2
                          go_ret3
                          have e := fail_hit (f := seenE c) HO5.out HF5.out hlt5 (by rw [HS.out]; simp)
                          exact ⟨ret_t3 (by simp [checkM, HE1.out, HQ2.out, HE3.out, HE4.out, e, HS.out]) (by simp [checkM, HE1.out, HQ2.out, HE3.out, HE4.out, e, HS.out]) (by simp [checkM, HE1.out, HQ2.out, HE3.out, HE4.out, e, HS.out]), KEEP.out _ hbt⟩
                        | false =>
                          have HS := hide (HSE.out _ hq6)
                          have hcall := hin
                          rw [hq6] at hcall
                          clear hq6 hin
                          refine wp_region_grow (by kernel_rfl) (by kernel_rfl) ?_
                          have hgc := @grow_cell
                          repeat (first | go_big_quiet_step ((go_at_call 65; exact Calls.grow_of_same (hcall _))) | quiet_step ((go_at_call 65; exact Calls.grow_of_same (hcall _))))
                          refine wpQuiet_nil ?_
                          rintro _ ⟨t, rfl⟩
                          have hbt := (hB5.alloc hz5 _).trans ((grow_below (t := t)).mono (by simp; omega))
                          have hzt := Nat.le_trans hz5 (Nat.le_trans (by simp) (grow_size (t := t)))
                          clear hgc hcall
                          generalize grow _ t = wt at *
                          go_wp2
                          go_roundw
                          case rel => exact ⟨j5 + 1, by omega, by go_num, hbt, hzt, fail_step HF5.out hlt5 (by rw [HS.out]; simp)⟩
                          case measure => simp [intOf]; omega
                    · have HE5 := hide (fail_done (f := seenE c) HO5.out (by have := HF5.out; rwa [show j5 = c.seen.length by omega] at this))
                      go_wp2
                      go_ret3
                      exact ⟨ret_t3 (by simp [checkM, HE1.out, HQ2.out, HE3.out, HE4.out, HE5.out]) (by simp [checkM, HE1.out, HQ2.out, HE3.out, HE4.out, HE5.out]) (by simp [checkM, HE1.out, HQ2.out, HE3.out, HE4.out, HE5.out]), KEEP.out _ hB5⟩
end Go.Proofs.Ytbkknliggnhpcaa
/- Rows of integers that a call owns; append onto them; the reference's Of of chapter 07. -/
namespace Go.Proofs.Ytbkknliggnhpcaa
open Go.RowKit

/-- Block g is a row of the call's own: n integers xs, room for cap. -/
def OwnI (w : World) (base g n cap : Nat) (xs : List Int) : Prop := w.ownsRow base 3 1 (.slice (some ⟨g, 0, none⟩) n cap) n (xs.map (Value.int .i64))
section
variable {w w' : World} {base g n cap B : Nat} {xs : List Int}
theorem OwnI.len (h : OwnI w base g n cap xs) : xs.length = n := by have := h.1; simpa using this
theorem OwnI.lt (h : OwnI w base g n cap xs) : base ≤ g ∧ g < w.heap.size := World.ownsRow.lt h g rfl
theorem OwnI.cell (h : OwnI w base g n cap xs) {i : Nat} (hi : i < n) : w.cell? ⟨g, i, none⟩ = some (.int .i64 (nth xs i)) := by
  have hl := h.len
  rw [World.ownsRow.cellAt h i (by omega)]
  simp [nth, hl, hi]
theorem OwnI.frozen (h : OwnI w base g n cap xs) (i : Nat) : w.frozen? ⟨g, i, none⟩ = false := World.ownsRow.frozenAt h i
theorem OwnI.set (h : OwnI w base g n cap xs) (i : Nat) (u : Int) : OwnI (w.setCell ⟨g, i, none⟩ (.int .i64 u)) base g n cap (xs.set i u) := by
  have := (World.ownsRow.stored h i (.int .i64 u)).1
  unfold OwnI
  rw [List.map_set]
  exact this
theorem OwnI.block (h : OwnI w base g n cap xs) (hk : w'.heap[g]? = w.heap[g]?) : OwnI w' base g n cap xs := by
  obtain ⟨h1, h2⟩ := h
  refine ⟨h1, ?_⟩
  rcases h2 with ⟨h', _⟩ | ⟨g', cap', cur, h', hb, hg, r⟩
  · simp at h'
  · have hgg : g' = g := by
      simp only [Value.slice.injEq, Option.some.injEq, Addr.mk.injEq, and_true, true_and] at h'
      exact h'.1.symm
    subst hgg
    exact .inr ⟨g', cap', cur, h', hb, by rw [hk]; exact hg, r⟩
theorem OwnI.below (h : OwnI w base g n cap xs) (hb : Below B w w') (hg : g < B) : OwnI w' base g n cap xs := h.block (hb.block g hg)
theorem OwnI.far (h : OwnI w base g n cap xs) {a : Addr} (ha : g ≠ a.block) (u : Value) : OwnI (w.setCell a u) base g n cap xs := h.block (Below.heap_setCell w a u g ha)
theorem OwnI.ints (h : OwnI w base g n cap xs) : IntsS w w.heap.size (some ⟨g, 0, none⟩) n cap xs := by
  obtain ⟨A, c, e, hs⟩ := IntsS.of_own h
  simp only [Value.slice.injEq, true_and] at e
  obtain ⟨rfl, rfl⟩ := e
  exact hs
end

theorem run_append_of_nil {P : Program} (w : World) (base : Nat) (t ty e : TypeId) (i : TypeInfo) (size : Nat) (ht : P.underlying t = some (.slice e)) (hi : P.info? e = some i)
    (v : Value) (n : Nat) (xs : List Value) (hown : w.ownsRow base e size v n xs) (c : Nat) : (Builtin.append_ #[t, t] ty #[v, .slice none 0 c]).run P w = .ok v w := by
  rcases hown.2 with ⟨rfl, rfl⟩ | ⟨g, cap, cur, rfl, _, _, hnc, _⟩
  · simp [Builtin.append_, run_underlying ht, sizeOf, typeInfo, hi, Builtin.lenOf, Builtin.firstCells]
  · simp [Builtin.append_, run_underlying ht, sizeOf, typeInfo, hi, Builtin.lenOf, Builtin.firstCells, hnc, storeCells]
/-- append of integers that came in, nil or not, onto a row of the call's own. -/
theorem run_app_ints (w : World) {base : Nat} {v : Value} {n : Nat} {xs ys : List Int} (hown : w.ownsRow base 3 1 v n (xs.map (Value.int .i64))) {B m c : Nat} {A : Option Addr} (h : IntsS w B A m c ys)
    (hn : n + m ≤ 17592186044416) (hbase : base ≤ w.heap.size) (ty : TypeId) :
    ∃ v' w', (Builtin.append_ #[22, 22] ty #[v, .slice A m c]).run Try.prog w = .ok v' w' ∧ w'.ownsRow base 3 1 v' (n + m) ((xs ++ ys).map (Value.int .i64)) ∧ w.grownBy w' v.ownBlock ∧
      (v'.ownBlock = v.ownBlock ∨ v'.ownBlock = some w.heap.size) := by
  obtain ⟨i0, hi, hz0, hz1, hz2⟩ := info_parts Try.infoInt
  have hl := h.len
  rcases Nat.eq_zero_or_pos m with h0 | h0
  · subst h0
    obtain rfl : ys = [] := List.eq_nil_of_length_eq_zero hl
    cases A with
    | none => exact ⟨v, w, run_append_of_nil w base _ ty _ i0 1 Try.underlying22 hi v n _ hown c, by simpa using hown, World.grownBy.refl w _, .inl rfl⟩
    | some ad =>
      obtain ⟨v', w', hrun, h2, h3, _, h5⟩ := run_append_own_at (P := Try.prog) w base 22 ty 3 i0 (.int .i64 0) 1 8 Try.underlying22 hi hz0 hz1 hz2 rfl (by omega) v n _ hown ad 0 c [] rfl (by simp) (by simp) (by simp [maxLen]; omega) (by omega) hbase
      exact ⟨v', w', hrun, by simpa using h2, h3, h5⟩
  · obtain ⟨b, off, rfl, hb, hc⟩ := h.row h0
    obtain ⟨v', w', hrun, h2, h3, _, h5⟩ := run_append_own_at (P := Try.prog) w base 22 ty 3 i0 (.int .i64 0) 1 8 Try.underlying22 hi hz0 hz1 hz2 rfl (by omega) v n _ hown ⟨b, off, none⟩ m c (ys.map (Value.int .i64)) (by simp [hl])
      (fun j u hu => by
        have hj : j < m := by
          rcases Nat.lt_or_ge j m with h | h
          · exact h
          · rw [List.getElem?_eq_none (by simp [hl]; exact h)] at hu; cases hu
        rw [Addr.add_lit, hc j hj]
        simp [hl, hj] at hu
        rw [← hu, intsF, nth_eq (by omega)]) (by simp [Value.oneCell']) (by simp [maxLen]; omega) (by omega) hbase
    exact ⟨v', w', hrun, by simpa using h2, h3, h5⟩
theorem wpList_app_ints {ops : Array Oper} {rest : List Oper} {o : Oper} {a : Act} {Q : Exit → Act → World → Prop} (w : World) (hgd : o.guard = none) (s x : Operand)
    (ho : o.op = .call { callee := .builtin .append, args := #[s, x], argTypes := #[22, 22] }) (base : Nat) (v : Value) (n : Nat) (xs : List Int) (hs : a.eval s = v) (hown : w.ownsRow base 3 1 v n (xs.map (Value.int .i64)))
    (A : Option Addr) (m c B : Nat) (ys : List Int) (hx : a.eval x = .slice A m c) (h : IntsS w B A m c ys) (hn : n + m ≤ 17592186044416) (hbase : base ≤ w.heap.size)
    (hk : ∀ v' w', w'.ownsRow base 3 1 v' (n + m) ((xs ++ ys).map (Value.int .i64)) → w.grownBy w' v.ownBlock → (v'.ownBlock = v.ownBlock ∨ v'.ownBlock = some w.heap.size) → wpList Try.prog ops Q rest (a.put o.dst v') w') : wpList Try.prog ops Q (o :: rest) a w := by
  obtain ⟨v', w', hrun, h2, h3, h4⟩ := run_app_ints w hown h hn hbase o.type
  refine wpList_plain hgd fun K hK => ?_
  unfold Oper.wp execOp
  simp only [ho, resolve, invoke, builtin, Sem.run_bind, Sem.run_pure, Result.andThen_ok, List.map_toArray, List.map_cons, List.map_nil, hs, hx, hrun]
  exact hK _ _ (hk v' w' h2 h3 h4)

def ofTo (c : Cargo) (hold : Int) (but : List Int) (j : Nat) : List Nat := (List.range j).filter fun i => (nth c.lots i).hold == hold && !hasInt but i
def ofL (c : Cargo) (hold : Int) (but : List Int) : List Nat := ofTo c hold but c.lots.length
theorem ofTo_succ (c : Cargo) (hold : Int) (but : List Int) (j : Nat) : ofTo c hold but (j + 1) = ofTo c hold but j ++ if (nth c.lots j).hold == hold && !hasInt but j then [j] else [] := by
  simp only [ofTo, List.range_succ, List.filter_append, List.filter_cons, List.filter_nil]
theorem ofTo_le (c : Cargo) (hold : Int) (but : List Int) (j : Nat) : (ofTo c hold but j).length ≤ j := by
  simpa [ofTo] using List.length_filter_le (fun i => (nth c.lots i).hold == hold && !hasInt but i) (List.range j)

theorem own_base {w : World} {base base' : Nat} {e : TypeId} {size n : Nat} {v : Value} {xs : List Value} (h : w.ownsRow base e size v n xs) (hb : base' ≤ base) : w.ownsRow base' e size v n xs := by
  refine ⟨h.1, ?_⟩
  rcases h.2 with h2 | ⟨g, cap, cur, h1, h2, r⟩
  · exact .inl h2
  · exact .inr ⟨g, cap, cur, h1, Nat.le_trans hb h2, r⟩
theorem own_ex {w : World} {base e size m : Nat} {v : Value} {vs : List Value} (h : w.ownsRow base e size v m vs) : ∃ A c, v = .slice A m c ∧ w.ownsRow base e size (.slice A m c) m vs := by
  rcases h.2 with ⟨rfl, h0⟩ | ⟨g, cap, cur, rfl, _⟩
  · subst h0; exact ⟨_, _, rfl, h⟩
  · exact ⟨_, _, rfl, h⟩
theorem ints_own {w : World} {base n c : Nat} {A : Option Addr} {xs : List Int} (h : w.ownsRow base 3 1 (.slice A n c) n (xs.map (Value.int .i64))) : IntsS w w.heap.size A n c xs := by
  obtain ⟨A', c', e, hs⟩ := IntsS.of_own h
  simp only [Value.slice.injEq, true_and] at e
  obtain ⟨rfl, rfl⟩ := e
  exact hs

set_option maxHeartbeats 400000 in
set_option maxRecDepth 100000 in
theorem of_own {A1 A2 A3 A4 A : Option Addr} {c1 c2 c3 c4 m nb : Nat} {c : Cargo} {but : List Int} {w : World} (h : CargoV w w.heap.size c A1 A2 A3 A4 c1 c2 c3 c4) (hold : Int)
   (hb : IntsS w w.heap.size A nb m but) (hsz : c.lots.length ≤ 1000000) :
    Calls Try.prog 45 #[cargoVal c A1 A2 A3 A4 c1 c2 c3 c4, .int .i64 hold, .slice A nb m] w fun e w' =>
      ∃ A' c', e = .returned (.slice A' (ofL c hold but).length c') ∧ w'.ownsRow w.heap.size 3 1 (.slice A' (ofL c hold but).length c') (ofL c hold but).length ((natInts (ofL c hold but)).map (Value.int .i64)) ∧ Below w.heap.size w w' := by
  have hm := h.m3
  obtain ⟨i0, hi, hz0, hz1, hz2⟩ := info_parts Try.infoInt
  unfold maxLen at hm
  go_enter Try.func45, Try.ntmps45
  go_wp2_with fail
  go_loopw [7, 8] (fun v i wr => ∃ (j : Nat), j ≤ c.lots.length ∧ i = .int .i64 j ∧ Below w.heap.size w wr ∧ w.heap.size + 1 ≤ wr.heap.size ∧ wr.cell? ⟨w.heap.size, 3, none⟩ = some (.slice A3 c.lots.length c3) ∧
     wr.ownsRow (w.heap.size + 1) 3 1 v (ofTo c hold but j).length ((ofTo c hold but j).map fun n : Nat => .int .i64 n)) (fun _ i _ => c.lots.length - (intOf i).toNat)
  case atStart => exact ⟨0, Nat.zero_le _, rfl, (Below.refl _ _).alloc (Nat.le_refl _) _, by simp, by go_simp, World.ownsRow_nil _ _ _ _⟩
  case round =>
    obtain ⟨j, hj, rfl, hB, hsz1, hl, hown⟩ := hrel
    by_cases hlt : j < c.lots.length
    · obtain ⟨b, off, rfl, hbb, h0, -, -, -⟩ := (h.below hB).lots.lots hlt
      have hle := ofTo_le c hold but j
      have HS := hide (ofTo_succ c hold but j)
      go_wp2_with (first
        | (go_at_call 38; refine (has_any (hb.below hB) j).mono ?_; rintro e w' ⟨rfl, rfl⟩)
        | (at_builtin
           refine wpList_append_own _ rfl _ _ 22 rfl (w.heap.size + 1) 3 i0 (.int .i64 0) 1 8 Try.underlying22 hi hz0 hz1 hz2 rfl (by decide) _ _ _ rfl (hown.alloc _) ⟨wr.heap.size, 0, none⟩ 1 1 [.int .i64 j] rfl rfl ?c1 ?c2 ?c3 ?c4 ?c5 ?_
           case c1 => exact cell_one_new _ _ _
           case c2 => simp [Value.oneCell']
           case c3 => simp [maxLen]; omega
           case c4 => omega
           case c5 => simp; omega
           intro v' w1 hown' hg _
           have hb1 := app_below hsz1 hown hg
           clear hg))
      all_goals clear hi hz0 hz1 hz2
      · go_roundw
        case rel =>
          have e : ofTo c hold but (j + 1) = ofTo c hold but j ++ [j] := by rw [HS.out]; simp_all
          exact ⟨j + 1, by omega, by go_num, hB.trans (hb1.mono (by omega)), Nat.le_trans hsz1 hb1.size, (hb1.cell (p := ⟨_, _, _⟩) (by simp)).trans hl, by rw [e]; simpa using hown'⟩
        case measure => simp [intOf]; omega
      all_goals
        go_roundw
        case rel =>
          have e : ofTo c hold but (j + 1) = ofTo c hold but j := by rw [HS.out]; simp_all
          exact ⟨j + 1, by omega, by go_num, hB, hsz1, hl, by rw [e]; exact hown⟩
        case measure => simp [intOf]; omega
    · go_wp2
      go_ret
      have : j = c.lots.length := by omega
      subst this
      obtain ⟨A', c', rfl, hs⟩ := own_ex (own_base hown (Nat.le_succ w.heap.size))
      exact ⟨A', c', rfl, by rw [natInts_vals]; exact hs, hB⟩
theorem of_any {A1 A2 A3 A4 A : Option Addr} {c1 c2 c3 c4 m nb : Nat} {c : Cargo} {but : List Int} {w : World} (h : CargoV w w.heap.size c A1 A2 A3 A4 c1 c2 c3 c4) (hold : Int)
   (hb : IntsS w w.heap.size A nb m but) (hsz : c.lots.length ≤ 1000000) :
    Calls Try.prog 45 #[cargoVal c A1 A2 A3 A4 c1 c2 c3 c4, .int .i64 hold, .slice A nb m] w fun e w' =>
      ∃ A' c', e = .returned (.slice A' (ofL c hold but).length c') ∧ IntsS w' w'.heap.size A' (ofL c hold but).length c' (natInts (ofL c hold but)) ∧ Below w.heap.size w w' :=
  (of_own h hold hb hsz).mono fun _ _ ⟨A', c', h1, h2, h3⟩ => ⟨A', c', h1, ints_own h2, h3⟩
end Go.Proofs.Ytbkknliggnhpcaa
