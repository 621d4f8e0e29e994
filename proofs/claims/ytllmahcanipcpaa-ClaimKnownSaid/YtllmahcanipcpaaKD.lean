/- Contracts of failing (package claim), at its five types. -/
import Derived.Test.YtllmahcanipcpaaKC
set_option linter.unusedVariables false
set_option linter.unusedSimpArgs false
namespace Go.Proofs.Ytllmahcanipcpaa
open Go.RowKit

theorem ret_t2 {a b c d : Int} (h : a = c) (h' : b = d) : Ending.returned (.tuple #[.int .i64 a, .int .i64 b]) = Ending.returned (.tuple #[.int .i64 c, .int .i64 d]) := by rw [h, h']
theorem ret_t3 {a b c d e f : Int} (h : a = d) (h' : b = e) (h'' : c = f) : Ending.returned (.tuple #[.int .i64 a, .int .i64 b, .int .i64 c]) = Ending.returned (.tuple #[.int .i64 d, .int .i64 e, .int .i64 f]) := by rw [h, h', h'']
/-- A function value that says the error of each thing of a list, in every world that has grown out of w. -/
def ErrOn {α : Type} (g : FuncId) (lb : Array Value) (n : Nat) (ev : Nat → Value) (xs : Nat → α) (f : Nat → α → Int) (w : World) : Prop :=
  ∀ (j : Nat) (W : World), j < n → Below w.heap.size w W → Calls Try.prog g (#[.int .i64 (j : Int), ev j] ++ lb) W fun e w' => e = .returned (.int .i64 (f j (xs j))) ∧ Below W.heap.size W w'
set_option maxHeartbeats 800000 in
set_option maxRecDepth 100000 in
theorem failingS_any {A : Option Addr} {c : Nat} {xs : List ByteArray} {w : World} (h : Row w w.heap.size A (xs.length) (strsF xs)) (hm : xs.length ≤ c ∧ c ≤ maxLen) (most : Int) (g : FuncId) (lb : Array Value) (f : Nat → ByteArray → Int)
    (hf : ErrOn g lb xs.length (fun j => .string (nth xs j)) (nth xs) f w) (eg : Enters Try.prog g) :
    Calls Try.prog 27 #[.slice A xs.length c, .int .i64 most, .func (.func g) #[] lb] w fun e w' =>
      e = .returned (.tuple #[.int .i64 (failM f xs most).1, .int .i64 (failM f xs most).2]) ∧ Below w.heap.size w w' := by
  have eg' : ∀ (args : Array Value) (w : World), (callFunc g args).run Try.prog w = .ok (.enter g args) w := eg
  clear eg
  unfold maxLen at hm
  have hl0 : (0 : Int) ≤ (xs.length : Int) := Int.natCast_nonneg _
  by_cases h1 : most < (xs.length : Int)
  · have H := hide h1
    have h1' : decide ((xs.length : Int) > most) = true := decide_eq_true h1
    go_enter Try.func27, Try.ntmps27
    go_wp2_with fail
    go_ret2
    exact ⟨ret_t2 (by rw [failM, if_pos H.out]) (by rw [failM, if_pos H.out]), Below.refl _ _⟩
  · have H := hide (show failM f xs most = firstE f xs 0 from if_neg h1)
    have h1' : decide ((xs.length : Int) > most) = false := decide_eq_false h1
    go_enter Try.func27, Try.ntmps27
    go_wp2_with fail
    clear h1 h1'
    go_loopw [8, 9, 10, 17] (fun _ _ _ i wr => ∃ j : Nat, j ≤ xs.length ∧ i = .int .i64 j ∧ Below w.heap.size w wr ∧ Hid (firstE f xs 0 = firstE f (xs.drop j) j)) (fun _ _ _ i _ => xs.length - (intOf i).toNat)
    case atStart => exact ⟨0, Nat.zero_le _, rfl, Below.refl _ _, rfl⟩
    case round =>
      obtain ⟨j, hj, rfl, hB, HF⟩ := hrel
      by_cases hlt : j < xs.length
      · obtain ⟨b, off, rfl, hbb, h0⟩ := (h.below hB).strs hlt
        have HD := hide (drop_nth (l := xs) hlt)
        have hsz := hB.size
        have HC := hide (fun W (hW : Below w.heap.size w W) => hf j W hlt hW)
        clear hf
        cases hq : (f j (nth xs j) != 0) with
        | true =>
          have hq' : ¬ f j (nth xs j) = 0 := by simpa using hq
          have HQ := hide hq'
          clear hq'
          go_wp2_with (go_at_fn g; refine (HC.out _ hB).mono ?_; rintro e w2 ⟨rfl, hb2⟩)
          go_ret2
          refine ⟨ret_t2 ?_ ?_, hB.trans (hb2.mono hB.size)⟩
          all_goals rw [H.out, HF.out, HD.out, firstE, if_neg HQ.out]
        | false =>
          have hq' : f j (nth xs j) = 0 := by simpa using hq
          have HQ := hide hq'
          clear hq'
          go_wp2_with (go_at_fn g; refine (HC.out _ hB).mono ?_; rintro e w2 ⟨rfl, hb2⟩)
          go_roundw
          case rel => exact ⟨j + 1, by omega, by go_num, hB.trans (hb2.mono hB.size), by show _ = _; rw [HF.out, HD.out, firstE, if_pos HQ.out]⟩
          case measure => simp [intOf]; omega
      · go_wp2
        go_ret2
        refine ⟨ret_t2 ?_ ?_, hB⟩
        all_goals rw [H.out, HF.out, List.drop_of_length_le (by omega), firstE]
set_option maxHeartbeats 800000 in
set_option maxRecDepth 100000 in
theorem failingI_any {A : Option Addr} {c : Nat} {xs : List Int} {w : World} (h : Row w w.heap.size A (xs.length) (intsF xs)) (hm : xs.length ≤ c ∧ c ≤ maxLen) (most : Int) (g : FuncId) (lb : Array Value) (f : Nat → Int → Int)
    (hf : ErrOn g lb xs.length (fun j => .int .i64 (nth xs j)) (nth xs) f w) (eg : Enters Try.prog g) :
    Calls Try.prog 31 #[.slice A xs.length c, .int .i64 most, .func (.func g) #[] lb] w fun e w' =>
      e = .returned (.tuple #[.int .i64 (failM f xs most).1, .int .i64 (failM f xs most).2]) ∧ Below w.heap.size w w' := by
  have eg' : ∀ (args : Array Value) (w : World), (callFunc g args).run Try.prog w = .ok (.enter g args) w := eg
  clear eg
  unfold maxLen at hm
  have hl0 : (0 : Int) ≤ (xs.length : Int) := Int.natCast_nonneg _
  by_cases h1 : most < (xs.length : Int)
  · have H := hide h1
    have h1' : decide ((xs.length : Int) > most) = true := decide_eq_true h1
    go_enter Try.func31, Try.ntmps31
    go_wp2_with fail
    go_ret2
    exact ⟨ret_t2 (by rw [failM, if_pos H.out]) (by rw [failM, if_pos H.out]), Below.refl _ _⟩
  · have H := hide (show failM f xs most = firstE f xs 0 from if_neg h1)
    have h1' : decide ((xs.length : Int) > most) = false := decide_eq_false h1
    go_enter Try.func31, Try.ntmps31
    go_wp2_with fail
    clear h1 h1'
    go_loopw [8, 9, 10, 17] (fun _ _ _ i wr => ∃ j : Nat, j ≤ xs.length ∧ i = .int .i64 j ∧ Below w.heap.size w wr ∧ Hid (firstE f xs 0 = firstE f (xs.drop j) j)) (fun _ _ _ i _ => xs.length - (intOf i).toNat)
    case atStart => exact ⟨0, Nat.zero_le _, rfl, Below.refl _ _, rfl⟩
    case round =>
      obtain ⟨j, hj, rfl, hB, HF⟩ := hrel
      by_cases hlt : j < xs.length
      · obtain ⟨b, off, rfl, hbb, h0⟩ := (h.below hB).ints hlt
        have HD := hide (drop_nth (l := xs) hlt)
        have hsz := hB.size
        have HC := hide (fun W (hW : Below w.heap.size w W) => hf j W hlt hW)
        clear hf
        cases hq : (f j (nth xs j) != 0) with
        | true =>
          have hq' : ¬ f j (nth xs j) = 0 := by simpa using hq
          have HQ := hide hq'
          clear hq'
          go_wp2_with (go_at_fn g; refine (HC.out _ hB).mono ?_; rintro e w2 ⟨rfl, hb2⟩)
          go_ret2
          refine ⟨ret_t2 ?_ ?_, hB.trans (hb2.mono hB.size)⟩
          all_goals rw [H.out, HF.out, HD.out, firstE, if_neg HQ.out]
        | false =>
          have hq' : f j (nth xs j) = 0 := by simpa using hq
          have HQ := hide hq'
          clear hq'
          go_wp2_with (go_at_fn g; refine (HC.out _ hB).mono ?_; rintro e w2 ⟨rfl, hb2⟩)
          go_roundw
          case rel => exact ⟨j + 1, by omega, by go_num, hB.trans (hb2.mono hB.size), by show _ = _; rw [HF.out, HD.out, firstE, if_pos HQ.out]⟩
          case measure => simp [intOf]; omega
      · go_wp2
        go_ret2
        refine ⟨ret_t2 ?_ ?_, hB⟩
        all_goals rw [H.out, HF.out, List.drop_of_length_le (by omega), firstE]
set_option maxHeartbeats 800000 in
set_option maxRecDepth 100000 in
theorem failingL_any {A : Option Addr} {c : Nat} {xs : List Lot} {R : Nat → Option Addr} {K : Nat → Nat} {w : World} (h : Row w w.heap.size A (xs.length * 4) (lotsF xs R K)) (hm : xs.length ≤ c ∧ c ≤ maxLen) (most : Int) (g : FuncId) (lb : Array Value) (f : Nat → Lot → Int)
    (hf : ErrOn g lb xs.length (fun j => .agg #[.slice (R j) (nth xs j).route.length (K j), .int .i64 (nth xs j).turned.lo, .int .i64 (nth xs j).turned.hi, .int .i64 (nth xs j).worth]) (nth xs) f w) (eg : Enters Try.prog g) :
    Calls Try.prog 34 #[.slice A xs.length c, .int .i64 most, .func (.func g) #[] lb] w fun e w' =>
      e = .returned (.tuple #[.int .i64 (failM f xs most).1, .int .i64 (failM f xs most).2]) ∧ Below w.heap.size w w' := by
  have eg' : ∀ (args : Array Value) (w : World), (callFunc g args).run Try.prog w = .ok (.enter g args) w := eg
  clear eg
  unfold maxLen at hm
  have hl0 : (0 : Int) ≤ (xs.length : Int) := Int.natCast_nonneg _
  by_cases h1 : most < (xs.length : Int)
  · have H := hide h1
    have h1' : decide ((xs.length : Int) > most) = true := decide_eq_true h1
    go_enter Try.func34, Try.ntmps34
    go_wp2_with fail
    go_ret2
    exact ⟨ret_t2 (by rw [failM, if_pos H.out]) (by rw [failM, if_pos H.out]), Below.refl _ _⟩
  · have H := hide (show failM f xs most = firstE f xs 0 from if_neg h1)
    have h1' : decide ((xs.length : Int) > most) = false := decide_eq_false h1
    go_enter Try.func34, Try.ntmps34
    go_wp2_with fail
    clear h1 h1'
    go_loopw [8, 9, 10, 17] (fun _ _ _ i wr => ∃ j : Nat, j ≤ xs.length ∧ i = .int .i64 j ∧ Below w.heap.size w wr ∧ Hid (firstE f xs 0 = firstE f (xs.drop j) j)) (fun _ _ _ i _ => xs.length - (intOf i).toNat)
    case atStart => exact ⟨0, Nat.zero_le _, rfl, Below.refl _ _, rfl⟩
    case round =>
      obtain ⟨j, hj, rfl, hB, HF⟩ := hrel
      by_cases hlt : j < xs.length
      · obtain ⟨b, off, rfl, hbb, h0, h1, h2, h3⟩ := (h.below hB).lots hlt
        have HD := hide (drop_nth (l := xs) hlt)
        have hsz := hB.size
        have HC := hide (fun W (hW : Below w.heap.size w W) => hf j W hlt hW)
        clear hf
        cases hq : (f j (nth xs j) != 0) with
        | true =>
          have hq' : ¬ f j (nth xs j) = 0 := by simpa using hq
          have HQ := hide hq'
          clear hq'
          go_wp2_with (go_at_fn g; refine (HC.out _ (hB.alloc hsz _)).mono ?_; rintro e w2 ⟨rfl, hb2⟩)
          go_ret2
          refine ⟨ret_t2 ?_ ?_, (hB.alloc hsz _).trans (hb2.mono (by simp; omega))⟩
          all_goals rw [H.out, HF.out, HD.out, firstE, if_neg HQ.out]
        | false =>
          have hq' : f j (nth xs j) = 0 := by simpa using hq
          have HQ := hide hq'
          clear hq'
          go_wp2_with (go_at_fn g; refine (HC.out _ (hB.alloc hsz _)).mono ?_; rintro e w2 ⟨rfl, hb2⟩)
          go_roundw
          case rel => exact ⟨j + 1, by omega, by go_num, (hB.alloc hsz _).trans (hb2.mono (by simp; omega)), by show _ = _; rw [HF.out, HD.out, firstE, if_pos HQ.out]⟩
          case measure => simp [intOf]; omega
      · go_wp2
        go_ret2
        refine ⟨ret_t2 ?_ ?_, hB⟩
        all_goals rw [H.out, HF.out, List.drop_of_length_le (by omega), firstE]
set_option maxHeartbeats 800000 in
set_option maxRecDepth 100000 in
theorem failingP_any {A : Option Addr} {c : Nat} {xs : List Paper} {w : World} (h : Row w w.heap.size A (xs.length * 3) (papersF xs)) (hm : xs.length ≤ c ∧ c ≤ maxLen) (most : Int) (g : FuncId) (lb : Array Value) (f : Nat → Paper → Int)
    (hf : ErrOn g lb xs.length (fun j => .agg #[.int .i64 (nth xs j).says, .int .i64 (nth xs j).lot, .int .i64 (nth xs j).of_]) (nth xs) f w) (eg : Enters Try.prog g) :
    Calls Try.prog 39 #[.slice A xs.length c, .int .i64 most, .func (.func g) #[] lb] w fun e w' =>
      e = .returned (.tuple #[.int .i64 (failM f xs most).1, .int .i64 (failM f xs most).2]) ∧ Below w.heap.size w w' := by
  have eg' : ∀ (args : Array Value) (w : World), (callFunc g args).run Try.prog w = .ok (.enter g args) w := eg
  clear eg
  unfold maxLen at hm
  have hl0 : (0 : Int) ≤ (xs.length : Int) := Int.natCast_nonneg _
  by_cases h1 : most < (xs.length : Int)
  · have H := hide h1
    have h1' : decide ((xs.length : Int) > most) = true := decide_eq_true h1
    go_enter Try.func39, Try.ntmps39
    go_wp2_with fail
    go_ret2
    exact ⟨ret_t2 (by rw [failM, if_pos H.out]) (by rw [failM, if_pos H.out]), Below.refl _ _⟩
  · have H := hide (show failM f xs most = firstE f xs 0 from if_neg h1)
    have h1' : decide ((xs.length : Int) > most) = false := decide_eq_false h1
    go_enter Try.func39, Try.ntmps39
    go_wp2_with fail
    clear h1 h1'
    go_loopw [8, 9, 10, 17] (fun _ _ _ i wr => ∃ j : Nat, j ≤ xs.length ∧ i = .int .i64 j ∧ Below w.heap.size w wr ∧ Hid (firstE f xs 0 = firstE f (xs.drop j) j)) (fun _ _ _ i _ => xs.length - (intOf i).toNat)
    case atStart => exact ⟨0, Nat.zero_le _, rfl, Below.refl _ _, rfl⟩
    case round =>
      obtain ⟨j, hj, rfl, hB, HF⟩ := hrel
      by_cases hlt : j < xs.length
      · obtain ⟨b, off, rfl, hbb, h0, h1, h2⟩ := (h.below hB).papers hlt
        have HD := hide (drop_nth (l := xs) hlt)
        have hsz := hB.size
        have HC := hide (fun W (hW : Below w.heap.size w W) => hf j W hlt hW)
        clear hf
        cases hq : (f j (nth xs j) != 0) with
        | true =>
          have hq' : ¬ f j (nth xs j) = 0 := by simpa using hq
          have HQ := hide hq'
          clear hq'
          go_wp2_with (go_at_fn g; refine (HC.out _ (hB.alloc hsz _)).mono ?_; rintro e w2 ⟨rfl, hb2⟩)
          go_ret2
          refine ⟨ret_t2 ?_ ?_, (hB.alloc hsz _).trans (hb2.mono (by simp; omega))⟩
          all_goals rw [H.out, HF.out, HD.out, firstE, if_neg HQ.out]
        | false =>
          have hq' : f j (nth xs j) = 0 := by simpa using hq
          have HQ := hide hq'
          clear hq'
          go_wp2_with (go_at_fn g; refine (HC.out _ (hB.alloc hsz _)).mono ?_; rintro e w2 ⟨rfl, hb2⟩)
          go_roundw
          case rel => exact ⟨j + 1, by omega, by go_num, (hB.alloc hsz _).trans (hb2.mono (by simp; omega)), by show _ = _; rw [HF.out, HD.out, firstE, if_pos HQ.out]⟩
          case measure => simp [intOf]; omega
      · go_wp2
        go_ret2
        refine ⟨ret_t2 ?_ ?_, hB⟩
        all_goals rw [H.out, HF.out, List.drop_of_length_le (by omega), firstE]
set_option maxHeartbeats 800000 in
set_option maxRecDepth 100000 in
theorem failingC_any {A : Option Addr} {c : Nat} {xs : List Claim} {w : World} (h : Row w w.heap.size A (xs.length * 3) (claimsF xs)) (hm : xs.length ≤ c ∧ c ≤ maxLen) (most : Int) (g : FuncId) (lb : Array Value) (f : Nat → Claim → Int)
    (hf : ErrOn g lb xs.length (fun j => .agg #[.int .i64 (nth xs j).lot, .int .i64 (nth xs j).against, .int .i64 (nth xs j).day]) (nth xs) f w) (eg : Enters Try.prog g) :
    Calls Try.prog 42 #[.slice A xs.length c, .int .i64 most, .func (.func g) #[] lb] w fun e w' =>
      e = .returned (.tuple #[.int .i64 (failM f xs most).1, .int .i64 (failM f xs most).2]) ∧ Below w.heap.size w w' := by
  have eg' : ∀ (args : Array Value) (w : World), (callFunc g args).run Try.prog w = .ok (.enter g args) w := eg
  clear eg
  unfold maxLen at hm
  have hl0 : (0 : Int) ≤ (xs.length : Int) := Int.natCast_nonneg _
  by_cases h1 : most < (xs.length : Int)
  · have H := hide h1
    have h1' : decide ((xs.length : Int) > most) = true := decide_eq_true h1
    go_enter Try.func42, Try.ntmps42
    go_wp2_with fail
    go_ret2
    exact ⟨ret_t2 (by rw [failM, if_pos H.out]) (by rw [failM, if_pos H.out]), Below.refl _ _⟩
  · have H := hide (show failM f xs most = firstE f xs 0 from if_neg h1)
    have h1' : decide ((xs.length : Int) > most) = false := decide_eq_false h1
    go_enter Try.func42, Try.ntmps42
    go_wp2_with fail
    clear h1 h1'
    go_loopw [8, 9, 10, 17] (fun _ _ _ i wr => ∃ j : Nat, j ≤ xs.length ∧ i = .int .i64 j ∧ Below w.heap.size w wr ∧ Hid (firstE f xs 0 = firstE f (xs.drop j) j)) (fun _ _ _ i _ => xs.length - (intOf i).toNat)
    case atStart => exact ⟨0, Nat.zero_le _, rfl, Below.refl _ _, rfl⟩
    case round =>
      obtain ⟨j, hj, rfl, hB, HF⟩ := hrel
      by_cases hlt : j < xs.length
      · obtain ⟨b, off, rfl, hbb, h0, h1, h2⟩ := (h.below hB).claims hlt
        have HD := hide (drop_nth (l := xs) hlt)
        have hsz := hB.size
        have HC := hide (fun W (hW : Below w.heap.size w W) => hf j W hlt hW)
        clear hf
        cases hq : (f j (nth xs j) != 0) with
        | true =>
          have hq' : ¬ f j (nth xs j) = 0 := by simpa using hq
          have HQ := hide hq'
          clear hq'
          go_wp2_with (go_at_fn g; refine (HC.out _ (hB.alloc hsz _)).mono ?_; rintro e w2 ⟨rfl, hb2⟩)
          go_ret2
          refine ⟨ret_t2 ?_ ?_, (hB.alloc hsz _).trans (hb2.mono (by simp; omega))⟩
          all_goals rw [H.out, HF.out, HD.out, firstE, if_neg HQ.out]
        | false =>
          have hq' : f j (nth xs j) = 0 := by simpa using hq
          have HQ := hide hq'
          clear hq'
          go_wp2_with (go_at_fn g; refine (HC.out _ (hB.alloc hsz _)).mono ?_; rintro e w2 ⟨rfl, hb2⟩)
          go_roundw
          case rel => exact ⟨j + 1, by omega, by go_num, (hB.alloc hsz _).trans (hb2.mono (by simp; omega)), by show _ = _; rw [HF.out, HD.out, firstE, if_pos HQ.out]⟩
          case measure => simp [intOf]; omega
      · go_wp2
        go_ret2
        refine ⟨ret_t2 ?_ ?_, hB⟩
        all_goals rw [H.out, HF.out, List.drop_of_length_le (by omega), firstE]
end Go.Proofs.Ytllmahcanipcpaa
