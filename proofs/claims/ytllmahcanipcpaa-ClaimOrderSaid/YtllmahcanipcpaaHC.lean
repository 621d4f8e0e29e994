/- Contracts of failing (package claim), at its five types. -/
import Derived.Test.YtllmahcanipcpaaHB
import Derived.Deep.DeepCutAuto
import Derived.Shelf.Sort.Plain
import Derived.Sort.OwnSortedInts
import Derived.Test.YtllmahcanipcpaaHA
import Derived.Deep.DrawnRows
import Derived.OwnWalkIn
import Derived.RangeFuncBox
import Derived.TacticsInMore
import Derived.Shelf.Slices.CompactI
import Derived.Shelf.Slices.In.SortNone
import Derived.Deep.RegionHeld3
set_option linter.unusedVariables false
set_option linter.unusedSimpArgs false
namespace Go.Proofs.Ytllmahcanipcpaa
open Go.RowKit

theorem ret_t2 {a b c d : Int} (h : a = c) (h' : b = d) : Ending.returned (.tuple #[.int .i64 a, .int .i64 b]) = Ending.returned (.tuple #[.int .i64 c, .int .i64 d]) := by rw [h, h']
theorem ret_t3 {a b c d e f : Int} (h : a = d) (h' : b = e) (h'' : c = f) : Ending.returned (.tuple #[.int .i64 a, .int .i64 b, .int .i64 c]) = Ending.returned (.tuple #[.int .i64 d, .int .i64 e, .int .i64 f]) := by rw [h, h', h'']
/-- A function value that says the error of each thing of a list, in every world that has grown out of w. -/
def ErrOn {α : Type} (g : FuncId) (lb : Array Value) (n : Nat) (ev : Nat → Value) (xs : Nat → α) (f : Nat → α → Int) (w : World) : Prop :=
  ∀ (j : Nat) (W : World), j < n → Below w.heap.size w W → Calls Try.prog g (#[.int .i64 (j : Int), ev j] ++ lb) W fun e w' => e = .returned (.int .i64 (f j (xs j))) ∧ Below W.heap.size W w'
set_option maxHeartbeats 800000 in
set_option maxRecDepth 100000 in
theorem failingS_any {A : Option Addr} {c : Nat} {xs : List ByteArray} {w : World} (h : Row w w.heap.size A (xs.length) (strsF xs)) (hm : xs.length ≤ c ∧ c ≤ maxLen) (most : Int) (g : FuncId) (lb : Array Value) (f : Nat → ByteArray → Int)
    (hf : ErrOn g lb xs.length (fun j => .string (nth xs j)) (nth xs) f w) (eg : Enters Try.prog g) :
    Calls Try.prog 27 #[.slice A xs.length c, .int .i64 most, .func (.func g) #[] lb] w fun e w' =>
      e = .returned (.tuple #[.int .i64 (failM f xs most).1, .int .i64 (failM f xs most).2]) ∧ Below w.heap.size w w' := by
  have eg' : ∀ (args : Array Value) (w : World), (callFunc g args).run Try.prog w = .ok (.enter g args) w := eg
  clear eg
  unfold maxLen at hm
  have hl0 : (0 : Int) ≤ (xs.length : Int) := Int.natCast_nonneg _
  by_cases h1 : most < (xs.length : Int)
  · have H := hide h1
    have h1' : decide ((xs.length : Int) > most) = true := decide_eq_true h1
    go_enter Try.func27, Try.ntmps27
    go_wp2_with fail
    go_ret2
    exact ⟨ret_t2 (by rw [failM, if_pos H.out]) (by rw [failM, if_pos H.out]), Below.refl _ _⟩
  · have H := hide (show failM f xs most = firstE f xs 0 from if_neg h1)
    have h1' : decide ((xs.length : Int) > most) = false := decide_eq_false h1
    go_enter Try.func27, Try.ntmps27
    go_wp2_with fail
    clear h1 h1'
    go_loopw [8, 9, 10, 17] (fun _ _ _ i wr => ∃ j : Nat, j ≤ xs.length ∧ i = .int .i64 j ∧ Below w.heap.size w wr ∧ Hid (firstE f xs 0 = firstE f (xs.drop j) j)) (fun _ _ _ i _ => xs.length - (intOf i).toNat)
    case atStart => exact ⟨0, Nat.zero_le _, rfl, Below.refl _ _, rfl⟩
    case round =>
      obtain ⟨j, hj, rfl, hB, HF⟩ := hrel
      by_cases hlt : j < xs.length
      · obtain ⟨b, off, rfl, hbb, h0⟩ := (h.below hB).strs hlt
        have HD := hide (drop_nth (l := xs) hlt)
        have hsz := hB.size
        have HC := hide (fun W (hW : Below w.heap.size w W) => hf j W hlt hW)
        clear hf
        cases hq : (f j (nth xs j) != 0) with
        | true =>
          have hq' : ¬ f j (nth xs j) = 0 := by simpa using hq
          have HQ := hide hq'
          clear hq'
          go_wp2_with (go_at_fn g; refine (HC.out _ hB).mono ?_; rintro e w2 ⟨rfl, hb2⟩)
          go_ret2
          refine ⟨ret_t2 ?_ ?_, hB.trans (hb2.mono hB.size)⟩
          all_goals rw [H.out, HF.out, HD.out, firstE, if_neg HQ.out]
        | false =>
          have hq' : f j (nth xs j) = 0 := by simpa using hq
          have HQ := hide hq'
          clear hq'
          go_wp2_with (go_at_fn g; refine (HC.out _ hB).mono ?_; rintro e w2 ⟨rfl, hb2⟩)
          go_roundw
          case rel => exact ⟨j + 1, by omega, by go_num, hB.trans (hb2.mono hB.size), by show _ = _; rw [HF.out, HD.out, firstE, if_pos HQ.out]⟩
          case measure => simp [intOf]; omega
      · go_wp2
        go_ret2
        refine ⟨ret_t2 ?_ ?_, hB⟩
        all_goals rw [H.out, HF.out, List.drop_of_length_le (by omega), firstE]
set_option maxHeartbeats 800000 in
set_option maxRecDepth 100000 in
theorem failingI_any {A : Option Addr} {c : Nat} {xs : List Int} {w : World} (h : Row w w.heap.size A (xs.length) (intsF xs)) (hm : xs.length ≤ c ∧ c ≤ maxLen) (most : Int) (g : FuncId) (lb : Array Value) (f : Nat → Int → Int)
    (hf : ErrOn g lb xs.length (fun j => .int .i64 (nth xs j)) (nth xs) f w) (eg : Enters Try.prog g) :
    Calls Try.prog 31 #[.slice A xs.length c, .int .i64 most, .func (.func g) #[] lb] w fun e w' =>
      e = .returned (.tuple #[.int .i64 (failM f xs most).1, .int .i64 (failM f xs most).2]) ∧ Below w.heap.size w w' := by
  have eg' : ∀ (args : Array Value) (w : World), (callFunc g args).run Try.prog w = .ok (.enter g args) w := eg
  clear eg
  unfold maxLen at hm
  have hl0 : (0 : Int) ≤ (xs.length : Int) := Int.natCast_nonneg _
  by_cases h1 : most < (xs.length : Int)
  · have H := hide h1
    have h1' : decide ((xs.length : Int) > most) = true := decide_eq_true h1
    go_enter Try.func31, Try.ntmps31
    go_wp2_with fail
    go_ret2
    exact ⟨ret_t2 (by rw [failM, if_pos H.out]) (by rw [failM, if_pos H.out]), Below.refl _ _⟩
  · have H := hide (show failM f xs most = firstE f xs 0 from if_neg h1)
    have h1' : decide ((xs.length : Int) > most) = false := decide_eq_false h1
    go_enter Try.func31, Try.ntmps31
    go_wp2_with fail
    clear h1 h1'
    go_loopw [8, 9, 10, 17] (fun _ _ _ i wr => ∃ j : Nat, j ≤ xs.length ∧ i = .int .i64 j ∧ Below w.heap.size w wr ∧ Hid (firstE f xs 0 = firstE f (xs.drop j) j)) (fun _ _ _ i _ => xs.length - (intOf i).toNat)
    case atStart => exact ⟨0, Nat.zero_le _, rfl, Below.refl _ _, rfl⟩
    case round =>
      obtain ⟨j, hj, rfl, hB, HF⟩ := hrel
      by_cases hlt : j < xs.length
      · obtain ⟨b, off, rfl, hbb, h0⟩ := (h.below hB).ints hlt
        have HD := hide (drop_nth (l := xs) hlt)
        have hsz := hB.size
        have HC := hide (fun W (hW : Below w.heap.size w W) => hf j W hlt hW)
        clear hf
        cases hq : (f j (nth xs j) != 0) with
        | true =>
          have hq' : ¬ f j (nth xs j) = 0 := by simpa using hq
          have HQ := hide hq'
          clear hq'
          go_wp2_with (go_at_fn g; refine (HC.out _ hB).mono ?_; rintro e w2 ⟨rfl, hb2⟩)
          go_ret2
          refine ⟨ret_t2 ?_ ?_, hB.trans (hb2.mono hB.size)⟩
          all_goals rw [H.out, HF.out, HD.out, firstE, if_neg HQ.out]
        | false =>
          have hq' : f j (nth xs j) = 0 := by simpa using hq
          have HQ := hide hq'
          clear hq'
          go_wp2_with (go_at_fn g; refine (HC.out _ hB).mono ?_; rintro e w2 ⟨rfl, hb2⟩)
          go_roundw
          case rel => exact ⟨j + 1, by omega, by go_num, hB.trans (hb2.mono hB.size), by show _ = _; rw [HF.out, HD.out, firstE, if_pos HQ.out]⟩
          case measure => simp [intOf]; omega
      · go_wp2
        go_ret2
        refine ⟨ret_t2 ?_ ?_, hB⟩
        all_goals rw [H.out, HF.out, List.drop_of_length_le (by omega), firstE]
set_option maxHeartbeats 800000 in
set_option maxRecDepth 100000 in
theorem failingL_any {A : Option Addr} {c : Nat} {xs : List Lot} {R : Nat → Option Addr} {K : Nat → Nat} {w : World} (h : Row w w.heap.size A (xs.length * 4) (lotsF xs R K)) (hm : xs.length ≤ c ∧ c ≤ maxLen) (most : Int) (g : FuncId) (lb : Array Value) (f : Nat → Lot → Int)
    (hf : ErrOn g lb xs.length (fun j => .agg #[.slice (R j) (nth xs j).route.length (K j), .int .i64 (nth xs j).turned.lo, .int .i64 (nth xs j).turned.hi, .int .i64 (nth xs j).worth]) (nth xs) f w) (eg : Enters Try.prog g) :
    Calls Try.prog 34 #[.slice A xs.length c, .int .i64 most, .func (.func g) #[] lb] w fun e w' =>
      e = .returned (.tuple #[.int .i64 (failM f xs most).1, .int .i64 (failM f xs most).2]) ∧ Below w.heap.size w w' := by
  have eg' : ∀ (args : Array Value) (w : World), (callFunc g args).run Try.prog w = .ok (.enter g args) w := eg
  clear eg
  unfold maxLen at hm
  have hl0 : (0 : Int) ≤ (xs.length : Int) := Int.natCast_nonneg _
  by_cases h1 : most < (xs.length : Int)
  · have H := hide h1
    have h1' : decide ((xs.length : Int) > most) = true := decide_eq_true h1
    go_enter Try.func34, Try.ntmps34
    go_wp2_with fail
    go_ret2
    exact ⟨ret_t2 (by rw [failM, if_pos H.out]) (by rw [failM, if_pos H.out]), Below.refl _ _⟩
  · have H := hide (show failM f xs most = firstE f xs 0 from if_neg h1)
    have h1' : decide ((xs.length : Int) > most) = false := decide_eq_false h1
    go_enter Try.func34, Try.ntmps34
    go_wp2_with fail
    clear h1 h1'
    go_loopw [8, 9, 10, 17] (fun _ _ _ i wr => ∃ j : Nat, j ≤ xs.length ∧ i = .int .i64 j ∧ Below w.heap.size w wr ∧ Hid (firstE f xs 0 = firstE f (xs.drop j) j)) (fun _ _ _ i _ => xs.length - (intOf i).toNat)
    case atStart => exact ⟨0, Nat.zero_le _, rfl, Below.refl _ _, rfl⟩
    case round =>
      obtain ⟨j, hj, rfl, hB, HF⟩ := hrel
      by_cases hlt : j < xs.length
      · obtain ⟨b, off, rfl, hbb, h0, h1, h2, h3⟩ := (h.below hB).lots hlt
        have HD := hide (drop_nth (l := xs) hlt)
        have hsz := hB.size
        have HC := hide (fun W (hW : Below w.heap.size w W) => hf j W hlt hW)
        clear hf
        cases hq : (f j (nth xs j) != 0) with
        | true =>
          have hq' : ¬ f j (nth xs j) = 0 := by simpa using hq
          have HQ := hide hq'
          clear hq'
          go_wp2_with (go_at_fn g; refine (HC.out _ (hB.alloc hsz _)).mono ?_; rintro e w2 ⟨rfl, hb2⟩)
          go_ret2
          refine ⟨ret_t2 ?_ ?_, (hB.alloc hsz _).trans (hb2.mono (by simp; omega))⟩
          all_goals rw [H.out, HF.out, HD.out, firstE, if_neg HQ.out]
        | false =>
          have hq' : f j (nth xs j) = 0 := by simpa using hq
          have HQ := hide hq'
          clear hq'
          go_wp2_with (go_at_fn g; refine (HC.out _ (hB.alloc hsz _)).mono ?_; rintro e w2 ⟨rfl, hb2⟩)
          go_roundw
          case rel => exact ⟨j + 1, by omega, by go_num, (hB.alloc hsz _).trans (hb2.mono (by simp; omega)), by show _ = _; rw [HF.out, HD.out, firstE, if_pos HQ.out]⟩
          case measure => simp [intOf]; omega
      · go_wp2
        go_ret2
        refine ⟨ret_t2 ?_ ?_, hB⟩
        all_goals rw [H.out, HF.out, List.drop_of_length_le (by omega), firstE]
set_option maxHeartbeats 800000 in
set_option maxRecDepth 100000 in
theorem failingP_any {A : Option Addr} {c : Nat} {xs : List Paper} {w : World} (h : Row w w.heap.size A (xs.length * 3) (papersF xs)) (hm : xs.length ≤ c ∧ c ≤ maxLen) (most : Int) (g : FuncId) (lb : Array Value) (f : Nat → Paper → Int)
    (hf : ErrOn g lb xs.length (fun j => .agg #[.int .i64 (nth xs j).says, .int .i64 (nth xs j).lot, .int .i64 (nth xs j).of_]) (nth xs) f w) (eg : Enters Try.prog g) :
    Calls Try.prog 39 #[.slice A xs.length c, .int .i64 most, .func (.func g) #[] lb] w fun e w' =>
      e = .returned (.tuple #[.int .i64 (failM f xs most).1, .int .i64 (failM f xs most).2]) ∧ Below w.heap.size w w' := by
  have eg' : ∀ (args : Array Value) (w : World), (callFunc g args).run Try.prog w = .ok (.enter g args) w := eg
  clear eg
  unfold maxLen at hm
  have hl0 : (0 : Int) ≤ (xs.length : Int) := Int.natCast_nonneg _
  by_cases h1 : most < (xs.length : Int)
  · have H := hide h1
    have h1' : decide ((xs.length : Int) > most) = true := decide_eq_true h1
    go_enter Try.func39, Try.ntmps39
    go_wp2_with fail
    go_ret2
    exact ⟨ret_t2 (by rw [failM, if_pos H.out]) (by rw [failM, if_pos H.out]), Below.refl _ _⟩
  · have H := hide (show failM f xs most = firstE f xs 0 from if_neg h1)
    have h1' : decide ((xs.length : Int) > most) = false := decide_eq_false h1
    go_enter Try.func39, Try.ntmps39
    go_wp2_with fail
    clear h1 h1'
    go_loopw [8, 9, 10, 17] (fun _ _ _ i wr => ∃ j : Nat, j ≤ xs.length ∧ i = .int .i64 j ∧ Below w.heap.size w wr ∧ Hid (firstE f xs 0 = firstE f (xs.drop j) j)) (fun _ _ _ i _ => xs.length - (intOf i).toNat)
    case atStart => exact ⟨0, Nat.zero_le _, rfl, Below.refl _ _, rfl⟩
    case round =>
      obtain ⟨j, hj, rfl, hB, HF⟩ := hrel
      by_cases hlt : j < xs.length
      · obtain ⟨b, off, rfl, hbb, h0, h1, h2⟩ := (h.below hB).papers hlt
        have HD := hide (drop_nth (l := xs) hlt)
        have hsz := hB.size
        have HC := hide (fun W (hW : Below w.heap.size w W) => hf j W hlt hW)
        clear hf
        cases hq : (f j (nth xs j) != 0) with
        | true =>
          have hq' : ¬ f j (nth xs j) = 0 := by simpa using hq
          have HQ := hide hq'
          clear hq'
          go_wp2_with (go_at_fn g; refine (HC.out _ (hB.alloc hsz _)).mono ?_; rintro e w2 ⟨rfl, hb2⟩)
          go_ret2
          refine ⟨ret_t2 ?_ ?_, (hB.alloc hsz _).trans (hb2.mono (by simp; omega))⟩
          all_goals rw [H.out, HF.out, HD.out, firstE, if_neg HQ.out]
        | false =>
          have hq' : f j (nth xs j) = 0 := by simpa using hq
          have HQ := hide hq'
          clear hq'
          go_wp2_with (go_at_fn g; refine (HC.out _ (hB.alloc hsz _)).mono ?_; rintro e w2 ⟨rfl, hb2⟩)
          go_roundw
          case rel => exact ⟨j + 1, by omega, by go_num, (hB.alloc hsz _).trans (hb2.mono (by simp; omega)), by show _ = _; rw [HF.out, HD.out, firstE, if_pos HQ.out]⟩
          case measure => simp [intOf]; omega
      · go_wp2
        go_ret2
        refine ⟨ret_t2 ?_ ?_, hB⟩
        all_goals rw [H.out, HF.out, List.drop_of_length_le (by omega), firstE]
set_option maxHeartbeats 800000 in
set_option maxRecDepth 100000 in
theorem failingC_any {A : Option Addr} {c : Nat} {xs : List Claim} {w : World} (h : Row w w.heap.size A (xs.length * 3) (claimsF xs)) (hm : xs.length ≤ c ∧ c ≤ maxLen) (most : Int) (g : FuncId) (lb : Array Value) (f : Nat → Claim → Int)
    (hf : ErrOn g lb xs.length (fun j => .agg #[.int .i64 (nth xs j).lot, .int .i64 (nth xs j).against, .int .i64 (nth xs j).day]) (nth xs) f w) (eg : Enters Try.prog g) :
    Calls Try.prog 42 #[.slice A xs.length c, .int .i64 most, .func (.func g) #[] lb] w fun e w' =>
      e = .returned (.tuple #[.int .i64 (failM f xs most).1, .int .i64 (failM f xs most).2]) ∧ Below w.heap.size w w' := by
  have eg' : ∀ (args : Array Value) (w : World), (callFunc g args).run Try.prog w = .ok (.enter g args) w := eg
  clear eg
  unfold maxLen at hm
  have hl0 : (0 : Int) ≤ (xs.length : Int) := Int.natCast_nonneg _
  by_cases h1 : most < (xs.length : Int)
  · have H := hide h1
    have h1' : decide ((xs.length : Int) > most) = true := decide_eq_true h1
    go_enter Try.func42, Try.ntmps42
    go_wp2_with fail
    go_ret2
    exact ⟨ret_t2 (by rw [failM, if_pos H.out]) (by rw [failM, if_pos H.out]), Below.refl _ _⟩
  · have H := hide (show failM f xs most = firstE f xs 0 from if_neg h1)
    have h1' : decide ((xs.length : Int) > most) = false := decide_eq_false h1
    go_enter Try.func42, Try.ntmps42
    go_wp2_with fail
    clear h1 h1'
    go_loopw [8, 9, 10, 17] (fun _ _ _ i wr => ∃ j : Nat, j ≤ xs.length ∧ i = .int .i64 j ∧ Below w.heap.size w wr ∧ Hid (firstE f xs 0 = firstE f (xs.drop j) j)) (fun _ _ _ i _ => xs.length - (intOf i).toNat)
    case atStart => exact ⟨0, Nat.zero_le _, rfl, Below.refl _ _, rfl⟩
    case round =>
      obtain ⟨j, hj, rfl, hB, HF⟩ := hrel
      by_cases hlt : j < xs.length
      · obtain ⟨b, off, rfl, hbb, h0, h1, h2⟩ := (h.below hB).claims hlt
        have HD := hide (drop_nth (l := xs) hlt)
        have hsz := hB.size
        have HC := hide (fun W (hW : Below w.heap.size w W) => hf j W hlt hW)
        clear hf
        cases hq : (f j (nth xs j) != 0) with
        | true =>
          have hq' : ¬ f j (nth xs j) = 0 := by simpa using hq
          have HQ := hide hq'
          clear hq'
          go_wp2_with (go_at_fn g; refine (HC.out _ (hB.alloc hsz _)).mono ?_; rintro e w2 ⟨rfl, hb2⟩)
          go_ret2
          refine ⟨ret_t2 ?_ ?_, (hB.alloc hsz _).trans (hb2.mono (by simp; omega))⟩
          all_goals rw [H.out, HF.out, HD.out, firstE, if_neg HQ.out]
        | false =>
          have hq' : f j (nth xs j) = 0 := by simpa using hq
          have HQ := hide hq'
          clear hq'
          go_wp2_with (go_at_fn g; refine (HC.out _ (hB.alloc hsz _)).mono ?_; rintro e w2 ⟨rfl, hb2⟩)
          go_roundw
          case rel => exact ⟨j + 1, by omega, by go_num, (hB.alloc hsz _).trans (hb2.mono (by simp; omega)), by show _ = _; rw [HF.out, HD.out, firstE, if_pos HQ.out]⟩
          case measure => simp [intOf]; omega
      · go_wp2
        go_ret2
        refine ⟨ret_t2 ?_ ?_, hB⟩
        all_goals rw [H.out, HF.out, List.drop_of_length_le (by omega), firstE]
end Go.Proofs.Ytllmahcanipcpaa
/- Contracts of Check's function literals of package claim: of a party, of a day, of a claim. -/
namespace Go.Proofs.Ytllmahcanipcpaa
open Go.RowKit

theorem row_pre {w : World} {B n k : Nat} {A : Option Addr} {f : Nat → Value} (h : Row w B A n f) (hk : k ≤ n) : Row w B A k f := fun h0 => by
  obtain ⟨b, o, e, hb, hc⟩ := h (by omega)
  exact ⟨b, o, e, hb, fun j hj => hc j (by omega)⟩
set_option maxHeartbeats 1000000 in
set_option maxRecDepth 100000 in
theorem party_any {g i : Nat} {f : File} {a : FA} {w : World} (h : BoxF w g f a) (hi : i < f.parties.length) :
    Calls Try.prog 28 #[.int .i64 (i : Int), .string (nth f.parties i), .pointer (some ⟨g, 0, none⟩)] w fun e w' => e = .returned (.int .i64 (partyE f i (nth f.parties i))) ∧ Below w.heap.size w w' := by
  obtain ⟨z, x0, _, _, _, _⟩ := h.cells
  have hm := h.v.m1
  have hmm := hm
  unfold maxLen at hmm
  obtain ⟨b, off, hA, hbb, _⟩ := h.v.parties.strs hi
  have HR := hide h.v.parties
  have HPE := hide (show partyE f i (nth f.parties i) = if nameB (nth f.parties i) then (if (f.parties.take i).any (eqS (nth f.parties i)) then 5 else 0) else 6 from rfl)
  have HN := hide (name_any (nth f.parties i))
  have hi0 : (0 : Int) ≤ (i : Int) := Int.natCast_nonneg _
  have hi1 : (i : Int) ≤ (f.parties.length : Int) := by omega
  have hi2 : (i : Int) ≤ (a.c1 : Int) := by omega
  have hi3 : i ≤ a.c1 := by omega
  rw [hA] at x0 HR
  clear h hA
  generalize (nth f.parties i) = v at *
  generalize a.c1 = c1 at *
  cases hb : nameB v
  all_goals have HB := hide hb
  all_goals rw [hb] at HPE
  all_goals clear hb
  · go_enter Try.func28, Try.ntmps28
    go_wp2_with (go_at_call 29; refine (HN.out _).mono ?_; rintro e w1 ⟨rfl, hb⟩; rw [HB.out])
    go_ret
    exact ⟨ret_i (by rw [HPE.out]; rfl), hb⟩
  · cases hc : (f.parties.take i).any (eqS v)
    all_goals have HC := hide hc
    all_goals rw [hc] at HPE
    all_goals clear hc
    all_goals
      go_enter Try.func28, Try.ntmps28
      go_wp2_with (first
        | (go_at_call 29; refine (HN.out _).mono ?_; rintro e w1 ⟨rfl, hb⟩; rw [HB.out]; have y0 := (hb.cell (p := ⟨g, 0, none⟩) z).trans x0)
        | (go_at_call 30; refine (containsS_any (row_pre (HR.out.below hb) (Nat.le_of_lt hi)) (Nat.le_of_lt hi) (by omega) v).mono ?_; rintro e w2 ⟨rfl, rfl⟩; rw [HC.out]))
      go_ret
      exact ⟨ret_i (by rw [HPE.out]; rfl), hb⟩
set_option maxHeartbeats 400000 in
theorem day_any (i d : Int) (w : World) : Calls Try.prog 32 #[.int .i64 i, .int .i64 d] w fun e w' => e = .returned (.int .i64 (dayE 0 d)) ∧ Below w.heap.size w w' := by
  have HD := hide (show dayE 0 d = if offP 0 60 d then 7 else 0 from rfl)
  cases h1 : offP 0 60 d
  all_goals have H := hide h1
  all_goals rw [h1] at HD
  all_goals clear h1
  all_goals
    go_enter Try.func32, Try.ntmps32
    go_wp2_with (go_at_call 33; refine (off_1 (by simp) _ _ _).mono ?_; rintro e w1 ⟨rfl, hb⟩; rw [H.out])
    go_ret
    exact ⟨ret_i (by rw [HD.out]; rfl), hb⟩
set_option maxHeartbeats 2000000 in
set_option maxRecDepth 100000 in
theorem claimE_any {g : Nat} {f : File} {a : FA} {w : World} (h : BoxF w g f a) (i : Nat) (c : Claim) :
    Calls Try.prog 43 #[.int .i64 (i : Int), .agg #[.int .i64 c.lot, .int .i64 c.against, .int .i64 c.day], .pointer (some ⟨g, 0, none⟩)] w fun e w' => e = .returned (.int .i64 (claimE f i c)) ∧ Below w.heap.size w w' := by
  obtain ⟨z, x0, _, x2, _, _⟩ := h.cells
  have hm1 := h.v.m1
  have hm3 := h.v.m3
  unfold maxLen at hm1 hm3
  have HPE := hide (show claimE f i c = if offP 0 ((f.lots.length : Int) - 1) c.lot || offP 0 ((f.parties.length : Int) - 1) c.against then 4 else if offP 0 60 c.day then 7 else 0 from rfl)
  have hA : Below w.heap.size w (w.alloc (.cells #[.int .i64 c.lot, .int .i64 c.against, .int .i64 c.day] 52)) := (Below.refl _ _).alloc (Nat.le_refl _) _
  have bk : Blk (w.alloc (.cells #[.int .i64 c.lot, .int .i64 c.against, .int .i64 c.day] 52)) w.heap.size 52 #[.int .i64 c.lot, .int .i64 c.against, .int .i64 c.day] := Blk.made
  have HX := hide (h.next hA)
  have HB := hide hA
  have HK := hide bk
  have hw1 : IntKind.i64.wrap ((f.lots.length : Int) - 1) = (f.lots.length : Int) - 1 := IntWalk.i64_in _ (by omega)
  have hw2 : IntKind.i64.wrap ((f.parties.length : Int) - 1) = (f.parties.length : Int) - 1 := IntWalk.i64_in _ (by omega)
  clear h hA bk z x0 x2
  generalize hq1 : offP 0 ((f.lots.length : Int) - 1) c.lot = q1 at *
  generalize hq2 : offP 0 ((f.parties.length : Int) - 1) c.against = q2 at *
  generalize hq3 : offP 0 60 c.day = q3 at *
  have Q1 := hide hq1
  have Q2 := hide hq2
  have Q3 := hide hq3
  clear hq1 hq2 hq3
  go_enter Try.func43, Try.ntmps43
  go_upto_region 1 with (fail)
  generalize (w.alloc (.cells #[.int .i64 c.lot, .int .i64 c.against, .int .i64 c.day] 52)) = v0 at *
  obtain ⟨z, x0, x1, x2, x3, x4⟩ := HX.out.cells
  have k0 : v0.cell? ⟨w.heap.size, 0, none⟩ = some (.int .i64 c.lot) := HK.out.at_ 0
  have k1 : v0.cell? ⟨w.heap.size, 1, none⟩ = some (.int .i64 c.against) := HK.out.at_ 1
  have k2 : v0.cell? ⟨w.heap.size, 2, none⟩ = some (.int .i64 c.day) := HK.out.at_ 2
  have zk := HK.out.lt
  cases q1
  · cases q2
    · cases q3
      all_goals
        go_upto_region 3 with (first
          | (go_at_call 33; (with_reducible refine (off_1 (by simp) 0 ((f.lots.length : Int) - 1) c.lot).mono ?_); rintro e v1 ⟨rfl, hb⟩; rw [Q1.out]; have HB := hide (HB.out.trans (hb.mono HB.out.size)); have HX := hide (HX.out.next hb); have HK := hide (HK.out.next hb); clear hb z x0 x1 x2 x3 x4 k0 k1 k2 zk; obtain ⟨z, x0, x1, x2, x3, x4⟩ := HX.out.cells; have k1 : v1.cell? ⟨w.heap.size, 1, none⟩ = some (.int .i64 c.against) := HK.out.at_ 1)
          | (go_at_call 33; (with_reducible refine (off_1 (by simp) 0 ((f.parties.length : Int) - 1) c.against).mono ?_); rintro e v2 ⟨rfl, hb⟩; rw [Q2.out]; have HB := hide (HB.out.trans (hb.mono HB.out.size)); have HK := hide (HK.out.next hb); clear hb z x0 x1 x2 x3 x4 k1))
        have k2 : v2.cell? ⟨w.heap.size, 2, none⟩ = some (.int .i64 c.day) := HK.out.at_ 2
        go_wp2_with (go_at_call 33; refine (off_1 (by simp) _ _ _).mono ?_; rintro e v3 ⟨rfl, hb⟩; rw [Q3.out])
        go_ret
        exact ⟨ret_i (by rw [HPE.out]; rfl), HB.out.trans (hb.mono HB.out.size)⟩
    · go_wp2_with (first
        | (go_at_call 33; (with_reducible refine (off_1 (by simp) 0 ((f.lots.length : Int) - 1) c.lot).mono ?_); rintro e v1 ⟨rfl, hb⟩; rw [Q1.out]; have HB := hide (HB.out.trans (hb.mono HB.out.size)); have HX := hide (HX.out.next hb); have HK := hide (HK.out.next hb); clear hb z x0 x1 x2 x3 x4 k0 k1 k2 zk; obtain ⟨z, x0, x1, x2, x3, x4⟩ := HX.out.cells; have k1 : v1.cell? ⟨w.heap.size, 1, none⟩ = some (.int .i64 c.against) := HK.out.at_ 1)
        | (go_at_call 33; (with_reducible refine (off_1 (by simp) 0 ((f.parties.length : Int) - 1) c.against).mono ?_); rintro e v2 ⟨rfl, hb⟩; rw [Q2.out]; have HB := hide (HB.out.trans (hb.mono HB.out.size)); clear hb))
      go_ret
      exact ⟨ret_i (by rw [HPE.out]; rfl), HB.out⟩
  · go_wp2_with (go_at_call 33; refine (off_1 (by simp) _ _ _).mono ?_; rintro e v1 ⟨rfl, hb⟩; rw [Q1.out])
    go_ret
    exact ⟨ret_i (by rw [HPE.out]; rfl), HB.out.trans (hb.mono HB.out.size)⟩
end Go.Proofs.Ytllmahcanipcpaa
/- The library's sort at lists of integers: the kit's contract, laid at this program; in words of rows that a call owns. -/
namespace Go.Proofs.Ytllmahcanipcpaa
open Go.RowKit Go.Shelf

def Try.sortL_ren : Go.Shelf.Ren := ⟨fun | 189 => 70 | 125 => 88 | 257 => 87 | 128 => 100 | 129 => 101 | 294 => 91 | 295 => 92 | 296 => 93 | 297 => 94 | 298 => 95 | 299 => 96 | 216 => 97 | 300 => 98 | 301 => 99 | 328 => 106 | 329 => 107 | 330 => 108 | 331 => 109 | 332 => 110 | 215 => 90 | 343 => 111 | n => n, fun | 28 => 23 | 3 => 3 | 46 => 120 | 0 => 0 | 51 => 134 | 53 => 136 | 4 => 4 | 183 => 128 | 182 => 127 | 131 => 112 | 5 => 5 | 9 => 9 | 218 => 137 | 222 => 141 | 228 => 143 | 229 => 95 | n => n, fun | n => n⟩
theorem Try.sortL : Go.Proofs.Lays.n189 Try.prog Try.sortL_ren := {
  mixed := by kernel_rfl
  f125 := Try.func88.trans (congrArg some (by kernel_rfl))
  f128 := Try.func100.trans (congrArg some (by kernel_rfl))
  f129 := Try.func101.trans (congrArg some (by kernel_rfl))
  f189 := Try.func70.trans (congrArg some (by kernel_rfl))
  f215 := Try.func90.trans (congrArg some (by kernel_rfl))
  f216 := Try.func97.trans (congrArg some (by kernel_rfl))
  f257 := Try.func87.trans (congrArg some (by kernel_rfl))
  f294 := Try.func91.trans (congrArg some (by kernel_rfl))
  f295 := Try.func92.trans (congrArg some (by kernel_rfl))
  f296 := Try.func93.trans (congrArg some (by kernel_rfl))
  f297 := Try.func94.trans (congrArg some (by kernel_rfl))
  f298 := Try.func95.trans (congrArg some (by kernel_rfl))
  f299 := Try.func96.trans (congrArg some (by kernel_rfl))
  f300 := Try.func98.trans (congrArg some (by kernel_rfl))
  f301 := Try.func99.trans (congrArg some (by kernel_rfl))
  f328 := Try.func106.trans (congrArg some (by kernel_rfl))
  f329 := Try.func107.trans (congrArg some (by kernel_rfl))
  f330 := Try.func108.trans (congrArg some (by kernel_rfl))
  f331 := Try.func109.trans (congrArg some (by kernel_rfl))
  f332 := Try.func110.trans (congrArg some (by kernel_rfl))
  f343 := Try.func111.trans (congrArg some (by kernel_rfl))
  t0 := Try.underlying0
  a0 := Try.isAgg0
  z0 := Try.sizeOf0
  v0 := Try.zeroValue0
  t3 := Try.underlying3
  a3 := Try.isAgg3
  z3 := Try.sizeOf3
  v3 := Try.zeroValue3
  t4 := Try.underlying4
  a4 := Try.isAgg4
  z4 := Try.sizeOf4
  v4 := Try.zeroValue4
  t5 := Try.underlying5
  a5 := Try.isAgg5
  z5 := Try.sizeOf5
  v5 := Try.zeroValue5
  t9 := Try.underlying9
  a9 := Try.isAgg9
  z9 := Try.sizeOf9
  v9 := Try.zeroValue9
  t28 := Try.underlying23
  a28 := Try.isAgg23
  z28 := Try.sizeOf23
  v28 := Try.zeroValue23
  t46 := Try.underlying120
  a46 := Try.isAgg120
  z46 := Try.sizeOf120
  v46 := Try.zeroValue120
  t51 := Try.underlying134
  a51 := Try.isAgg134
  z51 := Try.sizeOf134
  v51 := Try.zeroValue134
  t53 := Try.underlying136
  a53 := Try.isAgg136
  z53 := Try.sizeOf136
  v53 := Try.zeroValue136
  t131 := Try.underlying112
  a131 := Try.isAgg112
  z131 := Try.sizeOf112
  v131 := Try.zeroValue112
  t182 := Try.underlying127
  a182 := Try.isAgg127
  z182 := Try.sizeOf127
  v182 := Try.zeroValue127
  t183 := Try.underlying128
  a183 := Try.isAgg128
  z183 := Try.sizeOf128
  v183 := Try.zeroValue128
  t218 := Try.underlying137
  a218 := Try.isAgg137
  z218 := Try.sizeOf137
  v218 := Try.zeroValue137
  t222 := Try.underlying141
  a222 := Try.isAgg141
  z222 := Try.sizeOf141
  v222 := Try.zeroValue141
  t228 := Try.underlying143
  a228 := Try.isAgg143
  z228 := Try.sizeOf143
  v228 := Try.zeroValue143
  t229 := Try.underlying95
  a229 := Try.isAgg95
  z229 := Try.sizeOf95
  v229 := Try.zeroValue95 }
/-- A list in order. -/
def sortM (xs : List Int) : List Int := xs.mergeSort fun x y => decide (x ≤ y)
theorem sortM_length (xs : List Int) : (sortM xs).length = xs.length := by simp [sortM]
theorem sort_any {w : World} {base g n cap : Nat} {xs : List Int} (h : OwnI w base g n cap xs) (hz : n < 4611686018427387904) :
    Calls Try.prog 70 #[.slice (some ⟨g, 0, none⟩) n cap] w fun e w' => e = .returned (.tuple #[]) ∧ OwnI w' base g n cap (sortM xs) ∧ w.grownBy w' (some g) := by
  have hl := h.len
  have hlt := h.lt
  rcases h.2 with ⟨hn, _⟩ | ⟨g', cap', cur, e, hb, hgg, h1, h2, h3, h4⟩
  · cases hn
  · simp only [Value.slice.injEq, Option.some.injEq, Addr.mk.injEq, true_and, and_true] at e
    obtain ⟨rfl, rfl⟩ := e
    subst hl
    have hc := Go.Proofs.Any.slices_Sort_int Try.sortL g 0 cap xs w (holds_of_blockI hgg (by simpa using h4)) hlt.2 hz
    refine hc.mono ?_
    rintro e w' ⟨rfl, k, os, rfl⟩
    exact ⟨rfl, ownsRow_sortedI (by simp [sortM]) hb hgg h1 h2 (by simpa using h3), grownBy_sortedI _⟩
end Go.Proofs.Ytllmahcanipcpaa
/- The library's Values, AppendSeq, Collect, Sorted at lists of integers. -/
namespace Go.Proofs.Ytllmahcanipcpaa
open Go.RowKit
attribute [local go_sem ↓] Go.wp_at_zero Go.wp_at_succ
attribute [local go_sem] Oper.semAt_some

set_option maxRecDepth 100000 in
theorem values_any {w : World} {A : Option Addr} {n c : Nat} :
    Calls Try.prog 37 #[.slice A n c] w fun e w' => ∃ p, e = .returned (.func (.func 71) #[] #[.pointer (some ⟨p, 0, none⟩)]) ∧
      w.heap.size ≤ p ∧ p < w'.heap.size ∧ w'.cell? ⟨p, 0, none⟩ = some (.slice A n c) ∧ Below w.heap.size w w' := by
  go_enter Try.func37, Try.ntmps37
  go_wp2_with fail
  go_ret
  refine ⟨w.heap.size, rfl, by omega, by simp, ?_, (Below.refl _ _).alloc (Nat.le_refl _) _⟩
  rw [World.cell?_alloc_at _ _ _ _ (by simp)]; rfl

theorem IntsS.keep {w w' : World} {B : Nat} {S : Nat → Prop} {A : Option Addr} {n c : Nat} {xs : List Int} (h : IntsS w B A n c xs) (hk : Keep S w w') (hB : B ≤ w.heap.size) (hS : ∀ k, S k → B ≤ k) : IntsS w' B A n c xs :=
  ⟨h.len, h.cap, h.max, h.row.keep fun b o hb => hk.cell (by omega) (fun hs => by have := hS b hs; omega)⟩

set_option maxHeartbeats 1000000 in
set_option maxRecDepth 100000 in
theorem values_iter {C : Nat → Prop} {M : World → Prop} {w : World} {B p : Nat} {A : Option Addr} {n c : Nat} {xs : List Int}
    (hp : p < w.heap.size) (e1 : w.cell? ⟨p, 0, none⟩ = some (.slice A n c)) (h : IntsS w B A n c xs) (hB : B ≤ w.heap.size) (hC : ∀ k, C k → B ≤ k ∧ k ≠ p) :
    IterStill Try.prog 71 #[.pointer (some ⟨p, 0, none⟩)] iv C M xs w := by
  intro l C' J Jx W hBW hl hlW hC' _ hY hM h0
  have hsz := hBW.size
  have hpW : p < W.heap.size := by omega
  have e2 : W.cell? ⟨p, 0, none⟩ = some (.slice A n c) := (hBW.cell (p := ⟨p, 0, none⟩) hp).trans e1
  have h2 : IntsS W B A n c xs := h.keep (Keep.of_below' hBW (fun _ => False)) hB (fun _ h => h.elim)
  have hC2 : ∀ k, C' k → B ≤ k ∧ k ≠ p := fun k hk => by
    rcases hC' k hk with h1 | h1
    · exact hC k h1
    · omega
  have HM := hide hM
  have H0 := hide h0
  have HL := hide h2.len
  have hbd := h2.bd
  clear hC hC' hBW hl e1 h hM h0
  go_enter Try.func71, Try.ntmps71
  go_wp2_with fail
  obtain ⟨W0, HW0⟩ : ∃ W0, Hid (W0 = W) := ⟨W, hide rfl⟩
  go_loopw [4, 7] (fun _ vi wr => ∃ j : Nat, j ≤ n ∧ vi = .int .i64 j ∧ Hid (M wr) ∧ Hid (J (xs.take j) wr) ∧ Hid (Keep C' W wr)) (fun _ i _ => n - (intOf i).toNat)
  case atStart => exact ⟨0, Nat.zero_le _, rfl, HM, hide (by simpa using H0.out), hide (Keep.refl _ _)⟩
  case round =>
    obtain ⟨j, hj, rfl, HMr, HJr, HKr⟩ := hrel
    by_cases hlt : j < n
    · obtain ⟨b, off, rfl, hb, hc⟩ := (h2.keep HKr.out (by omega) (fun k hk => (hC2 k hk).1)).at_ hlt
      obtain ⟨fn, tmps, asg, body, hy, hR⟩ := hY (xs.take j) (nth xs j) wr (by rw [← take_nth (by have := HL.out; omega)]; exact List.take_prefix _ _) HJr.out HMr.out
      have HR := hide hR
      clear hR hY
      refine (wpIn_wide (n := 0)).1 ?_
      gi_wp2
      refine ⟨rfl, HR.out.mono ?_⟩
      rintro e W' ⟨hkC, hm', (⟨rfl, hIW⟩ | ⟨rfl, hIxW⟩)⟩
      · gi_wp2
        go_roundw
        · exact ⟨j + 1, hlt, by simp, hide hm', hide (by rw [take_nth (by have := HL.out; omega)]; exact hIW), hide (HKr.out.trans hkC)⟩
        · simp [intOf]; omega
      · gi_wp2
        refine bodyPost_ret (results_none rfl _ _ _) rfl ?_
        refine ⟨⟨_, rfl⟩, hm', HKr.out.trans hkC, .inr ⟨xs.take (j + 1), ?_, List.take_prefix _ _, ?_⟩⟩
        · intro e0
          have h1 := congrArg List.length e0
          have h2 := HL.out
          rw [List.length_take, List.length_nil] at h1
          omega
        · rw [take_nth (by have := HL.out; omega)]; exact hIxW
    · have hjn : j = n := by omega
      subst hjn
      go_wp2
      go_end0
      refine ⟨⟨_, rfl⟩, HMr.out, HKr.out, .inl ?_⟩
      have e0 := HJr.out
      rwa [List.take_of_length_le (by rw [HL.out]; exact Nat.le_refl _)] at e0
theorem leaves_mark {P : Program} {fn : Func} {tmps : Array Value} {R : Ending → World → Prop} {D : Nat} {w : World} (hd : w.heap[D]? = some (.deferred (some [])))
    (h : ∀ o, ∃ v, (results fn tmps).run P (w.putObj D o) = .ok v (w.putObj D o) ∧ R (.returned v) (w.putObj D o)) : LeavesInM Fence.wide 0 P fn tmps R [{ target := .collected D, args := #[] }] .returning w := by
  refine ⟨by simp, .inl ⟨D, _, rfl, run_takeDeferred hd, ?_⟩⟩
  exact h _
theorem IterStill.next {α : Type} {P : Program} {gf : Nat} {lb : Array Value} {enc : α → Value} {C : Nat → Prop} {M : World → Prop} {T : List α} {w w1 : World} (h : IterStill P gf lb enc C M T w) (hb : Below w.heap.size w w1) : IterStill P gf lb enc C M T w1 := by
  intro l C' J Jx W hBW hl hlW hC' hJ hY hM h0
  have := hb.size
  exact h l C' J Jx W (hb.trans (hBW.mono this)) (by omega) hlW hC' hJ hY hM h0

set_option maxHeartbeats 1000000 in
set_option maxRecDepth 100000 in
theorem appendSeq_any {w : World} {gf : Nat} {lb : Array Value} {xs : List Int} (eg : ∀ args w, (callFunc gf args).run Try.prog w = .ok (.enter gf args) w)
    (hit : ∀ C : Nat → Prop, (∀ k, C k → w.heap.size ≤ k) → IterStill Try.prog gf lb iv C (fun _ => True) xs w) (hfit : xs.length * 8 ≤ 140737488355328) :
    Calls Try.prog 86 #[.slice none 0 0, .func (.func gf) #[] lb] w fun e w' => ∃ v, e = .returned v ∧ w'.ownsRow w.heap.size 3 1 v xs.length (xs.map (Value.int .i64)) ∧ Below w.heap.size w w' := by
  refine (callsIn_wide (n := 0)).1 (callsIn_of_wp_marks Try.func86 rfl trivial ?_ rfl)
  refine (wpIn_wide (n := 0)).2 ?_
  simp only [Try.ntmps86, List.size_toArray, List.length_cons, List.length_nil, Nat.reduceAdd, Nat.reduceSub, Array.replicate_succ, Array.replicate_zero, List.push_toArray, List.append_toArray, List.nil_append, List.cons_append]
  go_wp2_with fail
  have hB1 : Below w.heap.size w (w.alloc (.cells #[.slice none 0 0] 23)) := (Below.refl _ _).alloc (Nat.le_refl _) _
  have hK1 : Blk (w.alloc (.cells #[.slice none 0 0] 23)) w.heap.size 23 #[.slice none 0 0] := Blk.made
  have hz1 : (w.alloc (.cells #[.slice none 0 0] 23)).heap.size = w.heap.size + 1 := by simp
  generalize (w.alloc (.cells #[.slice none 0 0] 23)) = w1 at *
  refine wp_range_still rfl eg rfl ((hit (fun k => k = w.heap.size ∨ w1.heap.size + 2 ≤ k) (fun k hk => by omega)).next hB1) (fun k hk => by omega) (fun _ _ _ _ => trivial)
    (fun pre W => ∃ v, Blk W w.heap.size 23 #[v] ∧ W.ownsRow (w1.heap.size + 2) 3 1 v pre.length (pre.map (Value.int .i64)) ∧ Below w.heap.size w W) (fun _ _ _ => False) ?hI (fun _ _ _ _ h _ => h) trivial ?h0 ?body ?done ?stop
  case hI =>
    rintro pre V V' ⟨v, h1, h2, h3⟩ hk _
    exact ⟨v, h1.keep hk (by omega), own_kept h2 hk (fun b hb => by omega), h3.trans (hk.below (B := w.heap.size) (fun k hk => by omega) h3.size)⟩
  case h0 => exact ⟨_, hK1, ⟨rfl, .inl ⟨rfl, rfl⟩⟩, hB1⟩
  case body =>
    rintro l pre x W1 hl hx ⟨v, h1, h2, h3⟩ _ hlt
    have hpl : pre.length + 1 ≤ xs.length := by have := hx.length_le; simpa using this
    have hg0 := h1.free 0
    have HX := hide hx
    have HB := hide h3
    have HZ := hide hz1
    clear hx hit hK1 hB1 h3 hz1
    gi_wp2
    refine ⟨Keep.refl _ _, trivial, fun W3 hk3 => ?_⟩
    have h1' : Blk W3 w.heap.size 23 #[v] := h1.keep hk3 (by have := HZ.out; omega)
    have h2' := own_kept h2 hk3 (fun b hb => by omega)
    have e1 := h1'.at_ 0
    have g0 := h1'.free 0
    have hz3 := hk3.size
    clear h1 h2
    have hvb : ∀ b, v.ownBlock = some b → w1.heap.size + 2 ≤ b := fun b hb => (World.ownsRow.lt h2' b hb).1
    obtain ⟨i0, hi, hz0, hz1, hz2⟩ := info_parts Try.infoInt
    have HZS := hide (show w1.heap.size + 2 ≤ W3.heap.size by omega)
    refine wpIn_block ?_
    gi_wp2_with (gi_at_builtin; refine wpListIn_append_own _ rfl _ _ 23 rfl (w1.heap.size + 2) 3 i0 (.int .i64 0) 1 8 Try.underlying23 hi hz0 hz1 hz2 rfl (by decide) _ _ _ rfl (h2'.alloc _) ⟨W3.heap.size, 0, none⟩ 1 1 [.int .i64 x] rfl rfl (cell_one_new _ _ _) (by simp [Value.oneCell']) (by unfold maxLen at *; omega) (by omega) (by have := HZS.out; simp; omega) ?_; intro v' w4 hown' hgrow _; obtain ⟨g', cap', rfl⟩ := ownsRow_succ hown'; have hb4 := (h1'.alloc (.cells #[iv x] 3)).keep (Keep.of_grown hgrow) (fun e => by have := hvb _ e.symm; have := HZ.out; omega); have c4 := hb4.at_ 0; have f4 := hb4.free 0)
    have hlt4 := World.ownsRow.lt hown' g' rfl
    have hk4 : Keep (fun k => k = w.heap.size ∨ w1.heap.size + 2 ≤ k) W3 w4 := (Keep.alloc W3 _ _).trans ((Keep.of_grown hgrow).mono (fun k _ h => .inr (hvb k h.symm)))
    refine ⟨hk4.trans (Keep.setCell _ _ _ _ (.inl rfl)), trivial, _, hb4.store 0 _, ?_, ?_⟩
    · have h5 := own_kept hown' (Keep.setCell w4 ⟨w.heap.size, 0, none⟩ (.slice (some ⟨g', 0, none⟩) (pre.length + 1) cap') (fun k => k = w.heap.size) rfl) (fun b hb => by have := HZ.out; omega)
      simpa using h5
    · exact HB.out.trans (((hk3.mono (S' := fun k => w.heap.size ≤ k) (fun k _ h => by have := HZ.out; omega)).trans ((hk4.trans (Keep.setCell _ _ _ _ (.inl rfl))).mono (fun k _ h => by have := HZ.out; omega))).below (fun k h => h) HB.out.size)
  case done =>
    rintro D W' hD ⟨v, h1, h2, h3⟩ _ hk hd
    have HB := hide h3
    have HO := hide h2
    have e1 := h1.at_ 0
    have HD := hide hd
    have HZ := hide hz1
    clear h1 h2 h3 hk hd hit hK1 hB1
    go_wp2_with fail
    refine leaves_mark HD.out (fun o => ⟨_, results_tmp rfl _ _ _, v, rfl, own_base (ownsRow_putObj HO.out o HD.out rfl) (by have := HZ.out; omega), HB.out.trans ((Keep.putObj D o (fun k => w1.heap.size ≤ k) hD).below (fun k hk => by have := HZ.out; omega) HB.out.size)⟩)
  case stop =>
    intro D cd q W' hD hq0 hqp hix hm hk hd
    exact hix.elim
end Go.Proofs.Ytllmahcanipcpaa
/- The library's Collect, Sorted, Compact at lists of integers; what they say of doubles. -/
namespace Go.Proofs.Ytllmahcanipcpaa
open Go.RowKit Go.Shelf

def Try.compL_ren : Go.Shelf.Ren := ⟨fun | 20 => 38 | n => n, fun | 22 => 23 | 3 => 3 | 4 => 4 | 0 => 0 | n => n, fun | n => n⟩
theorem Try.compL : Go.Proofs.Lays2.n20 Try.prog Try.compL_ren where
  mixed := by kernel_rfl
  f20 := Try.func38.trans (congrArg some (by kernel_rfl))
  t0 := Try.underlying0
  a0 := Try.isAgg0
  z0 := Try.sizeOf0
  v0 := Try.zeroValue0
  t3 := Try.underlying3
  a3 := Try.isAgg3
  z3 := Try.sizeOf3
  v3 := Try.zeroValue3
  t4 := Try.underlying4
  a4 := Try.isAgg4
  z4 := Try.sizeOf4
  v4 := Try.zeroValue4
  t22 := Try.underlying23
  a22 := Try.isAgg23
  z22 := Try.sizeOf23
  v22 := Try.zeroValue23
  i3 := by kernel_rfl

theorem dup_nodup : ∀ xs : List Int, dupB xs = false ↔ xs.Nodup
  | [] => by simp [dupB]
  | x :: l => by
    have := dup_nodup l
    simp only [dupB, Bool.or_eq_false_iff, List.nodup_cons, this, hasInt]
    simp
    exact fun _ => ⟨fun h hm => h x hm rfl, fun h y hy e => h (e ▸ hy)⟩
theorem sortM_perm (xs : List Int) : (sortM xs).Perm xs := List.mergeSort_perm _ _
theorem sortM_pair (xs : List Int) : (sortM xs).Pairwise (· ≤ ·) := by
  have := List.pairwise_mergeSort (le := fun x y : Int => decide (x ≤ y)) (fun a b c h1 h2 => by simp at *; omega) (fun a b => by simp; omega) xs
  simpa [sortM] using this
theorem dup_compact (xs : List Int) : decide ((Lib.compact (sortM xs)).length < xs.length) = dupB xs := by
  have hl := sortM_length xs
  have hd : dupB xs = false ↔ (sortM xs).Nodup := by rw [dup_nodup]; exact (sortM_perm xs).symm.nodup_iff
  have hs := sortM_pair xs
  rw [← hl]
  generalize sortM xs = ys at *
  clear hl
  have hg : ∀ j, j < ys.length → ys.toArray[j]! = nth ys j := fun j hj => by simp [nth, hj]
  have hk : ∀ j, j < ys.length → (Lib.keeps ys.toArray j = true ↔ j = 0 ∨ nth ys j ≠ nth ys (j - 1)) := fun j hj => by
    unfold Lib.keeps
    rw [decide_eq_true_iff, hg j hj, hg (j - 1) (by omega)]
  have hp : ∀ i j, i < j → j < ys.length → nth ys i ≤ nth ys j := fun i j hij hj => by
    rw [nth_eq hj, nth_eq (by omega)]
    exact (List.pairwise_iff_getElem.1 hs) i j (by omega) hj hij
  cases hb : dupB xs with
  | false =>
    rw [decide_eq_false_iff_not]
    have hn := hd.1 hb
    have : Lib.compact ys = ys := Lib.compact_all ys fun j hj => (hk j hj).2 (by
      by_cases h0 : j = 0
      · exact .inl h0
      · right
        rw [nth_eq hj, nth_eq (by omega)]
        intro e
        have := (List.getElem_inj hn).1 e
        omega)
    rw [this]; omega
  | true =>
    rw [decide_eq_true_iff]
    refine Classical.byContradiction fun hc => ?_
    have hall : ∀ j, j < ys.length → Lib.keeps ys.toArray j = true := fun j hj => by
      have hc' : ¬ ((List.range ys.length).filter (Lib.keeps ys.toArray)).length < (List.range ys.length).length := by
        simpa [Lib.compact, Lib.compactUpTo] using hc
      have h1 := List.length_filter_le (Lib.keeps ys.toArray) (List.range ys.length)
      have h2 := List.length_filter_eq_length_iff.1 (Nat.le_antisymm h1 (by omega))
      exact h2 j (List.mem_range.2 hj)
    have hn : ys.Nodup := by
      rw [List.nodup_iff_pairwise_ne, List.pairwise_iff_getElem]
      intro i j hi hj hij e
      rw [← nth_eq hi, ← nth_eq hj] at e
      have h1 := (hk j hj).1 (hall j hj)
      have h2 : nth ys i ≤ nth ys (j - 1) := by
        rcases Nat.lt_or_ge i (j - 1) with h | h
        · exact hp i (j - 1) h (by omega)
        · rw [show i = j - 1 by omega]; exact Int.le_refl _
      have h3 := hp (j - 1) j (by omega) hj
      rcases h1 with h1 | h1
      · omega
      · omega
    rw [hd.2 hn] at hb
    cases hb
theorem grownBy_put {w : World} {g q : Nat} (d : Array Int) : w.grownBy (Sort.putRow (Value.int .i64) (Sort.ahead w q) g 0 d) (some g) := by
  have h := @grownBy_sortedI w g q #[] d
  simp only [Sort.grow, Array.append_empty] at h
  exact h
theorem compact_any {w : World} {base : Nat} {v : Value} {xs : List Int} (h : w.ownsRow base 3 1 v xs.length (xs.map (Value.int .i64))) :
    Calls Try.prog 38 #[v] w fun e w' => ∃ A c, e = .returned (.slice A (Lib.compact xs).length c) ∧ w.grownBy w' v.ownBlock := by
  rcases h.2 with ⟨rfl, hn⟩ | ⟨g, cap, cur, rfl, hb, hgg, h1, h2, h3, h4⟩
  · have hx : xs = [] := List.eq_nil_of_length_eq_zero hn
    subst hx
    refine (Any.slices_Compact_int_empty Try.compL none 0 w).mono ?_
    rintro e w' ⟨rfl, rfl⟩
    exact ⟨none, 0, rfl, ⟨rfl, rfl, rfl, Nat.le_refl _, fun _ _ _ => rfl⟩⟩
  · refine (Any.slices_Compact_int Try.compL g 0 cap xs w (holds_of_blockI hgg (by simpa using h4)) (by unfold maxLen at h2; omega) h1).mono ?_
    rintro e w' ⟨rfl, q, rfl⟩
    exact ⟨_, _, rfl, grownBy_put _⟩
set_option maxRecDepth 100000 in
theorem collect_any {w : World} {gf : Nat} {lb : Array Value} {xs : List Int} (eg : ∀ args w, (callFunc gf args).run Try.prog w = .ok (.enter gf args) w)
    (hit : ∀ C : Nat → Prop, (∀ k, C k → w.heap.size ≤ k) → IterStill Try.prog gf lb iv C (fun _ => True) xs w) (hfit : xs.length * 8 ≤ 140737488355328) :
    Calls Try.prog 69 #[.func (.func gf) #[] lb] w fun e w' => ∃ v, e = .returned v ∧ w'.ownsRow w.heap.size 3 1 v xs.length (xs.map (Value.int .i64)) ∧ Below w.heap.size w w' := by
  go_enter Try.func69, Try.ntmps69
  go_wp2_with (go_at_call 86; refine (appendSeq_any eg hit hfit).mono ?_; rintro e w1 ⟨v, rfl, h1, h2⟩)
  go_ret
  exact ⟨v, rfl, h1, h2⟩
theorem sort_own {w : World} {base : Nat} {v : Value} {xs : List Int} (h : w.ownsRow base 3 1 v xs.length (xs.map (Value.int .i64))) (hz : xs.length < 4611686018427387904) :
    Calls Try.prog 70 #[v] w fun e w' => e = .returned (.tuple #[]) ∧ w'.ownsRow base 3 1 v xs.length ((sortM xs).map (Value.int .i64)) ∧ w.grownBy w' v.ownBlock := by
  rcases h.2 with ⟨rfl, hn⟩ | ⟨g, cap, cur, rfl, hb, hgg, h1, h2, h3, h4⟩
  · have hx : xs = [] := List.eq_nil_of_length_eq_zero hn
    subst hx
    refine (Any.slices_Sort_int_none Try.sortL none 0 w).mono ?_
    rintro e w' ⟨rfl, rfl⟩
    exact ⟨rfl, by simpa [sortM] using h, ⟨rfl, rfl, rfl, Nat.le_refl _, fun _ _ _ => rfl⟩⟩
  · exact sort_any h hz
set_option maxRecDepth 100000 in
theorem sorted_any {w : World} {gf : Nat} {lb : Array Value} {xs : List Int} (eg : ∀ args w, (callFunc gf args).run Try.prog w = .ok (.enter gf args) w)
    (hit : ∀ C : Nat → Prop, (∀ k, C k → w.heap.size ≤ k) → IterStill Try.prog gf lb iv C (fun _ => True) xs w) (hfit : xs.length * 8 ≤ 140737488355328) :
    Calls Try.prog 36 #[.func (.func gf) #[] lb] w fun e w' => ∃ v, e = .returned v ∧ w'.ownsRow w.heap.size 3 1 v xs.length ((sortM xs).map (Value.int .i64)) ∧ Below w.heap.size w w' := by
  go_enter Try.func36, Try.ntmps36
  go_wp2_with (first
    | (go_at_call 69; refine (collect_any eg hit hfit).mono ?_; rintro e w1 ⟨v, rfl, h1, h2⟩)
    | (go_at_call 70; refine (sort_own h1 (by omega)).mono ?_; rintro e w2 ⟨rfl, h3, h4⟩))
  go_ret
  exact ⟨v, rfl, h3, h2.trans ((Keep.of_grown h4).below (fun k hk => (World.ownsRow.lt h1 k hk.symm).1) h2.size)⟩
end Go.Proofs.Ytllmahcanipcpaa
/- The contract of Check's function literal for a lot. -/
namespace Go.Proofs.Ytllmahcanipcpaa
open Go.RowKit

set_option maxHeartbeats 2000000 in
set_option maxRecDepth 100000 in
theorem lot_any {g c : Nat} {A : Option Addr} {f : File} {a : FA} {w : World} (h : BoxF w g f a) (i : Nat) (l : Lot) (hr : IntsS w w.heap.size A l.route.length c l.route) (hfit : l.route.length * 8 ≤ 140737488355328) :
    Calls Try.prog 35 #[.int .i64 (i : Int), .agg #[.slice A l.route.length c, .int .i64 l.turned.lo, .int .i64 l.turned.hi, .int .i64 l.worth], .pointer (some ⟨g, 0, none⟩)] w fun e w' => e = .returned (.int .i64 (lotE f i l)) ∧ Below w.heap.size w w' := by
  obtain ⟨z, x0, _, _, _, _⟩ := h.cells
  have hm1 := h.v.m1
  unfold maxLen at hm1
  have HPE := hide (show lotE f i l = if offP 1 4 l.route.length then 3 else if l.route.any (offP 0 ((f.parties.length : Int) - 1)) then 4 else if dupB l.route then 5 else if offP 0 ((l.route.length : Int) - 1) l.turned.lo || offP 0 ((l.route.length : Int) - 1) l.turned.hi || offP 1 99 l.worth then 7 else if l.turned.hi < l.turned.lo then 2 else 0 from rfl)
  have hA : Below w.heap.size w (w.alloc (.cells #[.slice A l.route.length c, .int .i64 l.turned.lo, .int .i64 l.turned.hi, .int .i64 l.worth] 56)) := (Below.refl _ _).alloc (Nat.le_refl _) _
  have bk : Blk (w.alloc (.cells #[.slice A l.route.length c, .int .i64 l.turned.lo, .int .i64 l.turned.hi, .int .i64 l.worth] 56)) w.heap.size 56 #[.slice A l.route.length c, .int .i64 l.turned.lo, .int .i64 l.turned.hi, .int .i64 l.worth] := Blk.made
  have HX := hide (h.next hA)
  have HB := hide hA
  have HK := hide bk
  have HR := hide (hr.next hA)
  have hw1 : IntKind.i64.wrap ((f.parties.length : Int) - 1) = (f.parties.length : Int) - 1 := IntWalk.i64_in _ (by omega)
  have hw2 : IntKind.i64.wrap ((l.route.length : Int) - 1) = (l.route.length : Int) - 1 := IntWalk.i64_in _ (by omega)
  have HSL := hide (sortM_length l.route)
  have HDC := hide (dup_compact l.route)
  have HAN := hide (show (sortM l.route).any (offP 0 ((f.parties.length : Int) - 1)) = l.route.any (offP 0 ((f.parties.length : Int) - 1)) from (sortM_perm l.route).any_eq)
  clear h hA bk z x0 hr
  go_enter Try.func35, Try.ntmps35
  go_upto_region 1 with (fail)
  generalize (w.alloc (.cells #[.slice A l.route.length c, .int .i64 l.turned.lo, .int .i64 l.turned.hi, .int .i64 l.worth] 56)) = v0 at *
  have k0 : v0.cell? ⟨w.heap.size, 0, none⟩ = some (.slice A l.route.length c) := HK.out.at_ 0
  have zk := HK.out.lt
  go_upto_region 2 with (first
    | (go_at_call 37; refine values_any.mono ?_; rintro e v1 ⟨p, rfl, hp1, hp2, hpc, hb1⟩)
    | (go_at_call 36; refine (sorted_any (enters_of Try.func71 (by kernel_rfl) rfl) (fun C hC => values_iter hp2 hpc (HR.out.next hb1) (Nat.le_refl _) (fun k hk => ⟨hC k hk, by have := hC k hk; omega⟩)) hfit).mono ?_; rintro e v2 ⟨s, rfl, hs, hb2⟩))
  obtain ⟨As, cs, rfl, hs⟩ := own_ex hs
  have hlt1 : w.heap.size < v1.heap.size := by have := hb1.size; omega
  have HS := hide hs
  have HB := hide (HB.out.trans ((hb1.mono HB.out.size).trans (hb2.mono (by omega))))
  have HK := hide ((HK.out.next hb1).next hb2)
  have HX := hide ((HX.out.next hb1).next hb2)
  clear hb1 hb2 hs hp1 hp2 hpc k0 zk
  generalize v1.heap.size = B1 at *
  generalize hq1 : offP 1 4 l.route.length = q1 at *
  generalize hq2 : l.route.any (offP 0 ((f.parties.length : Int) - 1)) = q2 at *
  generalize hq3 : dupB l.route = q3 at *
  generalize hq4 : (offP 0 ((l.route.length : Int) - 1) l.turned.lo || offP 0 ((l.route.length : Int) - 1) l.turned.hi) = q4 at *
  generalize hq5 : offP 1 99 l.worth = q5 at *
  have Q1 := hide hq1
  have Q4 := hide hq4
  have Q5 := hide hq5
  clear hq1 hq2 hq3 hq4 hq5
  cases q1
  · go_upto_region 4 with (go_at_call 33; refine (off_1 (by simp) _ _ _).mono ?_; rintro e v3 ⟨rfl, hb⟩; rw [Q1.out])
    have HS := hide (own_kept HS.out (Keep.of_below' hb (fun _ => False)) (fun _ _ h => h))
    have HB := hide (HB.out.trans (hb.mono HB.out.size))
    have HK := hide (HK.out.next hb)
    have HX := hide (HX.out.next hb)
    clear hb
    obtain ⟨z, x0, _, _, _, _⟩ := HX.out.cells
    cases q2
    · go_upto_region 6 with (go_at_call 33; refine (off_any (ints_own HS.out) _ _).mono ?_; rintro e v4 ⟨rfl, hb⟩; rw [HAN.out])
      have HS := hide (own_kept HS.out (Keep.of_below' hb (fun _ => False)) (fun _ _ h => h))
      have HB := hide (HB.out.trans (hb.mono HB.out.size))
      have HK := hide (HK.out.next hb)
      have HX := hide (HX.out.next hb)
      clear hb z x0
      have k0 : v4.cell? ⟨w.heap.size, 0, none⟩ = some (.slice A l.route.length c) := HK.out.at_ 0
      have zk := HK.out.lt
      have hlc : decide ((Lib.compact (sortM l.route)).length < l.route.length) = q3 := HDC.out
      generalize hcn : (Lib.compact (sortM l.route)).length = cn at *
      have HCN := hide hcn
      clear hcn
      have HS1 := hide (show v4.ownsRow B1 3 1 (.slice As l.route.length cs) (sortM l.route).length ((sortM l.route).map (Value.int .i64)) by rw [HSL.out]; exact HS.out)
      have hno : ∀ k, some k = (Value.slice As l.route.length cs).ownBlock → B1 ≤ k := fun k hk => (World.ownsRow.lt HS.out k hk.symm).1
      have HNO := hide hno
      clear hno
      cases q3
      all_goals
        go_region_held3 (fun w' => w'.cell? ⟨w.heap.size, 0, none⟩ = some (.slice A l.route.length c))
          (first | exact (hk5.cell zk (fun e => by have := HNO.out _ e; omega)).trans k0 | go_keep)
          (first | (go_at_call 38; refine (compact_any (World.ownsRow.drew HS1.out)).mono ?_; rintro e v5 ⟨A5, c5, rfl, hg⟩; rw [HCN.out]; have hk5 := Keep.of_grown hg))
        clear hlc
        have HB := hide (HB.out.drew.trans (hk5.below (B := w.heap.size) (fun k hk => by have := HNO.out k hk; omega) (by have := HB.out.size; exact this)))
        have HK := hide ((show Blk v4.drew _ _ _ from HK.out).keep hk5 (fun e => by have := HNO.out _ e; omega))
        clear hk5 hg k0 zk HS1 HNO HS
        have k0 : v5.cell? ⟨w.heap.size, 0, none⟩ = some (.slice A l.route.length c) := HK.out.at_ 0
        have k1 : v5.cell? ⟨w.heap.size, 1, none⟩ = some (.int .i64 l.turned.lo) := HK.out.at_ 1
        have k2 : v5.cell? ⟨w.heap.size, 2, none⟩ = some (.int .i64 l.turned.hi) := HK.out.at_ 2
        have zk := HK.out.lt
      · cases q4
        · cases q5
          · by_cases hlh : l.turned.hi < l.turned.lo
            all_goals
              have HLH := hide hlh
              clear hlh
              go_upto_region 10 with (first
              | (go_at_call 33; (with_reducible refine (off_2 (by simp) 0 ((l.route.length : Int) - 1) l.turned.lo l.turned.hi).mono ?_); rintro e v6 ⟨rfl, hb⟩; rw [Q4.out]; have HB := hide (HB.out.trans (hb.mono HB.out.size)); have HK := hide (HK.out.next hb); clear hb k0 k1 k2 zk; have k3 : v6.cell? ⟨w.heap.size, 3, none⟩ = some (.int .i64 l.worth) := HK.out.at_ 3; have zk := HK.out.lt)
              | (go_at_call 33; (with_reducible refine (off_1 (by simp) 1 99 l.worth).mono ?_); rintro e v7 ⟨rfl, hb⟩; rw [Q5.out]))
              have HB := hide (HB.out.trans (hb.mono HB.out.size))
              have HK := hide (HK.out.next hb)
              clear hb k3 zk
              have k1 : v7.cell? ⟨w.heap.size, 1, none⟩ = some (.int .i64 l.turned.lo) := HK.out.at_ 1
              have k2 : v7.cell? ⟨w.heap.size, 2, none⟩ = some (.int .i64 l.turned.hi) := HK.out.at_ 2
              have zk := HK.out.lt
            · have hd : decide (l.turned.hi < l.turned.lo) = true := decide_eq_true HLH.out
              go_wp2_with fail
              go_ret
              exact ⟨ret_i (by rw [HPE.out, if_pos HLH.out]; rfl), HB.out⟩
            · have hd : decide (l.turned.hi < l.turned.lo) = false := decide_eq_false (Int.not_lt.2 HLH.out)
              go_wp2_with fail
              go_ret
              exact ⟨ret_i (by rw [HPE.out, if_neg (Int.not_lt.2 HLH.out)]; rfl), HB.out⟩
          · go_wp2_with (first
              | (go_at_call 33; (with_reducible refine (off_2 (by simp) 0 ((l.route.length : Int) - 1) l.turned.lo l.turned.hi).mono ?_); rintro e v6 ⟨rfl, hb⟩; rw [Q4.out]; have HB := hide (HB.out.trans (hb.mono HB.out.size)); have HK := hide (HK.out.next hb); clear hb k0 k1 k2 zk; have k3 : v6.cell? ⟨w.heap.size, 3, none⟩ = some (.int .i64 l.worth) := HK.out.at_ 3; have zk := HK.out.lt)
              | (go_at_call 33; (with_reducible refine (off_1 (by simp) 1 99 l.worth).mono ?_); rintro e v7 ⟨rfl, hb⟩; rw [Q5.out]))
            go_ret
            exact ⟨ret_i (by rw [HPE.out]; rfl), HB.out.trans (hb.mono HB.out.size)⟩
        · go_wp2_with (go_at_call 33; refine (off_2 (by simp) _ _ _ _).mono ?_; rintro e v6 ⟨rfl, hb⟩; rw [Q4.out])
          go_ret
          exact ⟨ret_i (by rw [HPE.out]; rfl), HB.out.trans (hb.mono HB.out.size)⟩
      · go_wp2_with fail
        go_ret
        exact ⟨ret_i (by rw [HPE.out]; rfl), HB.out⟩
    · go_wp2_with (go_at_call 33; refine (off_any (ints_own HS.out) _ _).mono ?_; rintro e v4 ⟨rfl, hb⟩; rw [HAN.out])
      go_ret
      exact ⟨ret_i (by rw [HPE.out]; rfl), HB.out.trans (hb.mono HB.out.size)⟩
  · go_wp2_with (go_at_call 33; refine (off_1 (by simp) _ _ _).mono ?_; rintro e v3 ⟨rfl, hb⟩; rw [Q1.out])
    go_ret
    exact ⟨ret_i (by rw [HPE.out]; rfl), HB.out.trans (hb.mono HB.out.size)⟩
end Go.Proofs.Ytllmahcanipcpaa
