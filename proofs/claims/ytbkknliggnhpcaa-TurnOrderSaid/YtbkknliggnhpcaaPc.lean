/- The plain laws of chapter 07 that join the program's First and Spoils with the reference's. -/
import Derived.Test.YtbkknliggnhpcaaPb
import Derived.Test.YtbkknliggnhpcaaGH
import Derived.Test.YtbkknliggnhpcaaRefK
set_option linter.unusedVariables false
set_option linter.unusedSimpArgs false
namespace Go.Proofs.Ytbkknliggnhpcaa

theorem minTo_le {xs : List Int} : ∀ {j i : Nat}, i ≤ j → minTo xs j ≤ nth xs i
  | 0, i, h => by obtain rfl : i = 0 := by omega
                  exact Int.le_refl _
  | j + 1, i, h => by
    rw [minTo]
    rcases Nat.lt_or_ge i (j + 1) with h1 | h1
    · have := minTo_le (xs := xs) (show i ≤ j by omega); omega
    · obtain rfl : i = j + 1 := by omega
      omega
theorem minTo_at {xs : List Int} : ∀ j : Nat, ∃ i, i ≤ j ∧ minTo xs j = nth xs i
  | 0 => ⟨0, Nat.le_refl _, rfl⟩
  | j + 1 => by
    obtain ⟨i, h1, h2⟩ := minTo_at (xs := xs) j
    rw [minTo]
    rcases Int.le_total (minTo xs j) (nth xs (j + 1)) with h | h
    · exact ⟨i, by omega, by rw [Int.min_eq_left h, h2]⟩
    · exact ⟨j + 1, Nat.le_refl _, Int.min_eq_right h⟩
theorem firstE_eq (c : Cargo) (hold : Int) : enterE c [(noneQ c.holds.length [hold], (4 : Int))] = firstE7 c hold := by
  rw [enterE_eq (by simp), firstE7, askE, firstAsk_cons, firstAsk_nil, noneQ_off, indexE]
  congr 1
  by_cases h : (checkM c).2.2 = 0
  · rw [if_pos h, if_pos h]; cases offP 0 ((c.holds.length : Int) - 1) hold <;> simp
  · rw [if_neg h, if_neg h]
theorem firstAns_eq {c : Cargo} (hv : Valid c) {hold : Nat} (hh : hold < c.holds.length) {p : Int × List Int} (hp : p ∈ waysM c hold []) {q : Nat} (hq : q ∈ ofL c hold []) : firstAns c q (stW c hold p) = firstB c hold q p := by
  have hn := hv.lots
  have hql := ofL_lt q hq
  have ht : ∀ i, i < c.lots.length → nth (timesV c (stW c hold p)) i = nth (timesW c hold p) i := fun i hi => nth_timesW hv hh hp hi
  unfold firstAns firstB
  rw [ht q hql]
  by_cases h1 : nth (timesW c hold p) q < (c.heat.length : Int) + 1
  · simp only [h1, decide_true, Bool.true_and]
    rw [Bool.eq_iff_iff, decide_eq_true_eq, List.all_eq_true]
    constructor
    · intro h i hi
      have := minTo_le (xs := timesV c (stW c hold p)) (show i ≤ 4 by have := ofL_lt i hi; omega)
      rw [h, ht i (ofL_lt i hi)] at this
      simpa using this
    · intro h
      obtain ⟨i, hi, he⟩ := minTo_at (xs := timesV c (stW c hold p)) 4
      have hle := minTo_le (xs := timesV c (stW c hold p)) (show q ≤ 4 by omega)
      rw [ht q hql] at hle
      by_cases hm : i ∈ ofL c hold []
      · have := h i hm
        rw [he, ht i (ofL_lt i hm)] at hle ⊢
        simp at this
        omega
      · have hx : nth (timesV c (stW c hold p)) i = (c.heat.length : Int) + 1 := timesV_out (by
          rw [stW, mk_there]
          simpa using hm) (by omega)
        rw [he, hx] at hle
        omega
  · simp [h1]
theorem firstIs_eq {c : Cargo} (hv : Valid c) (hs : someM c [] = true) {hold : Nat} (hh : hold < c.holds.length) {q : Nat} (hq : q < c.lots.length) : firstIs c hold q = ((ofL c hold []).contains q && (waysM c hold []).any (firstB c hold q)) := by
  unfold firstIs
  rw [Int.toNat_natCast, cntB, settled_any' (by rw [truths_zero hv hh]; simpa using some_ways hs hh), truths_zero hv hh, List.any_map, ofL_mem]
  simp only [hq, decide_true, hasInt_nil, Bool.not_false, Bool.true_and, Bool.and_true]
  cases hx : ((nth c.lots q).hold == (hold : Int)) with
  | false => simp
  | true =>
    simp only [Bool.true_and]
    refine any_congr (fun p hp h => ⟨p, hp, ?_⟩) (fun p hp h => ⟨p, hp, ?_⟩)
    · rw [← firstAns_eq hv hh hp]
      · exact h
      · have := ofL_mem (c := c) (hold := (hold : Int)) (but := []) (i := q); rw [hx] at this; simpa [hq, hasInt_nil] using this
    · show firstAns c q (stW c hold p) = true
      rw [firstAns_eq hv hh hp]
      · exact h
      · have := ofL_mem (c := c) (hold := (hold : Int)) (but := []) (i := q); rw [hx] at this; simpa [hq, hasInt_nil] using this
theorem firstV_eq (c : Cargo) (hold : Int) : firstV c hold = (firstR c hold, firstE7 c hold) := by
  unfold firstV firstR
  rw [firstE_eq]
  by_cases h : firstE7 c hold = 0
  · obtain ⟨hv, hs, h1, h2⟩ := firstE7_valid h
    obtain ⟨hold, rfl⟩ : ∃ k : Nat, hold = (k : Int) := ⟨hold.toNat, by omega⟩
    rw [if_neg (by simpa using h), if_neg (by simpa using h), h]
    refine congrArg (·, (0 : Int)) ?_
    rw [firstTo, Int.toNat_natCast]
    have hh : hold < c.holds.length := by omega
    rw [filter_range_congr (fun q hq => firstIs_eq hv hs hh hq)]
    rw [ofL, ofTo, List.filter_filter]
    refine filter_range_congr fun q hq => ?_
    have := ofL_mem (c := c) (hold := (hold : Int)) (but := []) (i := q)
    rw [ofL, ofTo] at this
    rw [this, Bool.and_comm]
    simp [hq]
  · rw [if_pos h, if_pos h]
/-- Spoils. -/
theorem spoilsE_eq (c : Cargo) (b lot : Int) : enterE c [(noneQ c.lots.length [b, lot], (4 : Int)), (b == lot, (2 : Int))] = spoilsE7 c b lot := by
  rw [enterE_eq (by simp), spoilsE7, askE, firstAsk_cons, firstAsk_cons, firstAsk_nil, noneQ_off2, askIdx2, indexE, indexE]
  congr 1
  by_cases h : (checkM c).2.2 = 0
  · rw [if_pos h, if_pos h, if_pos h]
    cases offP 0 ((c.lots.length : Int) - 1) b <;> cases offP 0 ((c.lots.length : Int) - 1) lot <;> by_cases he : b = lot <;> simp [he]
  · simp only [if_neg h]
    rw [if_neg (fun h' => h h'.1)]
theorem bit_drop {m j i : Nat} (hm : m < 32) (hj : j < 5) : (m &&& (31 - 2 ^ j)).testBit i = (m.testBit i && decide (i ≠ j)) := by
  rw [Nat.testBit_and]
  by_cases hi : i < 5
  · congr 1
    have h5 : ∀ j, j < 5 → ∀ i, i < 5 → (31 - 2 ^ j).testBit i = decide (i ≠ j) := by decide
    exact h5 j hj i hi
  · have h0 : m.testBit i = false := Nat.testBit_lt_two_pow (Nat.lt_of_lt_of_le (show m < 2 ^ 5 by omega) (Nat.pow_le_pow_right (by omega) (show 5 ≤ i by omega)))
    rw [h0]; simp
theorem drop_there {c : Cargo} (hn : c.lots.length ≤ 4) {hold wm : Int} {g : List Int} {j : Nat} (hj : j < c.lots.length) (i : Nat) : (setL (dropSt (mkSt c hold wm g) j).there.toNat c.lots.length).contains i = (ofL c hold [(j : Int)]).contains i := by
  have hb := ofB_lt c hold c.lots.length
  have hp2 : 2 ^ c.lots.length ≤ 2 ^ 4 := Nat.pow_le_pow_right (by omega) hn
  rw [setL_mem, ofL_mem]
  show (decide (i < c.lots.length) && ((((ofB c hold c.lots.length : Nat) : Int).toNat &&& (31 - 2 ^ j) : Nat) : Int).toNat.testBit i) = _
  have hp16 : (2 : Nat) ^ 4 = 16 := rfl
  rw [Int.toNat_natCast, Int.toNat_natCast, bit_drop (m := ofB c hold c.lots.length) (j := j) (by omega) (by omega)]
  by_cases hi : i < c.lots.length
  · rw [there_bit c hold _ _ hi]
    have : hasInt [(j : Int)] (i : Int) = decide (i = j) := by rw [Bool.eq_iff_iff]; simp only [hasInt, List.any_cons, List.any_nil, Bool.or_false, beq_iff_eq, decide_eq_true_eq]; omega
    rw [this]
    simp [hi]
    rfl
  · simp [hi]
theorem spoilsAns_eq {c : Cargo} (hv : Valid c) {hold : Nat} (hh : hold < c.holds.length) {p : Int × List Int} (hp : p ∈ waysM c hold []) {b q : Nat} (hb : b < c.lots.length) (hq : q < c.lots.length) : spoilsAns c b q (stW c hold p) = spoilsB c hold b q p := by
  have hn := hv.lots
  obtain ⟨_, h2, _⟩ := waysM_mem hv hh hp
  unfold spoilsAns spoilsB
  rw [nth_timesW hv hh hp hq, timesV_eq (s := dropSt (stW c hold p) b) (l := ofL c hold [(b : Int)]) (g := p.2) (by omega) h2 (mk_len (c := c) (hold := (hold : Int)) (wm := p.1) (by omega) h2) (fun i hi => show nth (mkSt c hold p.1 p.2).greens i = nth p.2 i from mk_greens h2 hi) (fun i => drop_there hn hb i) hq]
  rfl
theorem spoilsV_eq (c : Cargo) (b lot : Int) : spoilsV c b lot = spoilsR c b lot := by
  unfold spoilsV spoilsR
  rw [spoilsE_eq]
  by_cases h : spoilsE7 c b lot = 0
  · obtain ⟨hv, _, h1, h2, h3, h4, _⟩ := spoilsE7_valid h
    rw [if_neg (by simpa using h), if_neg (by simpa using h)]
    have hi : lot.toNat < c.lots.length := by omega
    obtain ⟨hh, _⟩ := lot_hold hv hi
    rw [truths_zero hv hh, cntB_map, List.length_map]
    rw [List.filter_congr (fun p hp => spoilsAns_eq hv hh hp (show b.toNat < c.lots.length by omega) hi)]
  · rw [if_pos h, if_pos h]
end Go.Proofs.Ytbkknliggnhpcaa
