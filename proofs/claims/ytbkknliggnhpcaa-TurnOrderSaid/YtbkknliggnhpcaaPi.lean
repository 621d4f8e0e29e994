/- The plain law of Out (part one): its errors, and what it asks of a set of lots. -/
import Derived.Test.YtbkknliggnhpcaaRefN
import Derived.Test.YtbkknliggnhpcaaOd
import Derived.Test.YtbkknliggnhpcaaPc
import Derived.Test.YtbkknliggnhpcaaPd
import Derived.Test.YtbkknliggnhpcaaGI
set_option linter.unusedVariables false
set_option linter.unusedSimpArgs false
namespace Go.Proofs.Ytbkknliggnhpcaa

theorem outE_eq (c : Cargo) (hold un : Int) : enterE c [(noneQ c.holds.length [hold], (4 : Int)), (noneQ (c.heat.length + 1) [un], (7 : Int))] = outE7 c hold un := by
  rw [enterE_eq (by simp), outE7, askE, firstAsk_cons, firstAsk_cons, firstAsk_nil, noneQ_off, noneQ_off, hourE, indexE, show (c.heat.length : Int) + 1 - 1 = c.heat.length by omega]
  congr 1
  by_cases h : (checkM c).2.2 = 0
  · cases h1 : offP 0 ((c.holds.length : Int) - 1) hold <;> cases h2 : offP 0 (c.heat.length : Int) un <;> simp [h]
  · simp [h]
theorem bit_dropSet {m s i : Nat} (hm : m < 32) (hs : s < 16) : (m &&& (31 - s)).testBit i = (m.testBit i && !s.testBit i) := by
  rw [Nat.testBit_and]
  by_cases hi : i < 5
  · congr 1
    have h5 : ∀ s, s < 16 → ∀ i, i < 5 → (31 - s).testBit i = !s.testBit i := by decide
    exact h5 s hs i hi
  · have h0 : m.testBit i = false := Nat.testBit_lt_two_pow (Nat.lt_of_lt_of_le (show m < 2 ^ 5 by omega) (Nat.pow_le_pow_right (by omega) (show 5 ≤ i by omega)))
    rw [h0]; simp
theorem dropSet_there {c : Cargo} (hn : c.lots.length ≤ 4) {hold wm : Int} {g : List Int} {s : Nat} (hs : s < 16) (i : Nat) : (setL (dropSet (mkSt c hold wm g) s).there.toNat c.lots.length).contains i = (ofL c hold (natInts (listN s c.lots.length))).contains i := by
  have hb := ofB_lt c hold c.lots.length
  have hp2 : 2 ^ c.lots.length ≤ 2 ^ 4 := Nat.pow_le_pow_right (by omega) hn
  rw [setL_mem, ofL_mem]
  show (decide (i < c.lots.length) && ((((ofB c hold c.lots.length : Nat) : Int).toNat &&& (31 - s) : Nat) : Int).toNat.testBit i) = _
  have hp16 : (2 : Nat) ^ 4 = 16 := rfl
  rw [Int.toNat_natCast, Int.toNat_natCast, bit_dropSet (m := ofB c hold c.lots.length) (s := s) (by omega) hs]
  by_cases hi : i < c.lots.length
  · rw [there_bit c hold _ _ hi, (ri_both hn hs).2 i hi]
    simp [hi]
    rfl
  · simp [hi]
/-- What is asked of a set in a truth. -/
theorem outAns_eq {c : Cargo} (hv : Valid c) {hold : Nat} (hh : hold < c.holds.length) {p : Int × List Int} (hp : p ∈ waysM c hold []) {s : Nat} (hs : s < 16) (un : Int) :
    outAns c un s (stW c hold p) = (ofL c hold (natInts (listN s c.lots.length))).all (lastB c un (timesM c (ofL c hold (natInts (listN s c.lots.length))) p.1 p.2)) := by
  have hn := hv.lots
  obtain ⟨_, h2, _⟩ := waysM_mem hv hh hp
  have ht := fun q (hq : q < c.lots.length) => timesV_eq (s := dropSet (stW c hold p) s) (l := ofL c hold (natInts (listN s c.lots.length))) (g := p.2) (by omega) h2 (mk_len (c := c) (hold := (hold : Int)) (wm := p.1) (by omega) h2) (fun i hi => show nth (mkSt c hold p.1 p.2).greens i = nth p.2 i from mk_greens h2 hi) (fun i => dropSet_there hn hs i) hq
  have hm := fun i => dropSet_there (wm := p.1) (g := p.2) hn (hold := (hold : Int)) hs i
  rw [outAns, Bool.eq_iff_iff, List.all_eq_true, List.all_eq_true]
  have key : ∀ q, q < c.lots.length → (!lotBad c un (timesV c (dropSet (stW c hold p) s)) q) = lastB c un (timesM c (ofL c hold (natInts (listN s c.lots.length))) p.1 p.2) q := fun q hq => by
    rw [lotBad, lastB, ht q hq, Bool.eq_iff_iff]
    show _ ↔ _
    simp only [Bool.not_eq_true', Bool.and_eq_false_iff, decide_eq_false_iff_not, Bool.or_eq_true, decide_eq_true_eq]
    constructor
    · rintro (h | h)
      · exact .inl (by omega)
      · exact .inr (by have : (dropSet (stW c hold p) s).warm = p.1 := rfl; rw [this] at h; omega)
    · rintro (h | h)
      · exact .inl (by omega)
      · exact .inr (by have : (dropSet (stW c hold p) s).warm = p.1 := rfl; rw [this]; omega)
  constructor
  · intro h q hq
    have hq2 := ofL_lt q hq
    rw [← key q hq2]
    refine h q ?_
    have := hm q
    rw [List.contains_iff_mem.2 hq] at this
    exact List.contains_iff_mem.1 this
  · intro h q hq
    have hq2 : q < c.lots.length := List.mem_range.1 (List.mem_filter.1 hq).1
    rw [key q hq2]
    refine h q ?_
    have := hm q
    rw [show (setL (dropSet (mkSt c (hold : Int) p.1 p.2) s).there.toNat c.lots.length).contains q = true from List.contains_iff_mem.2 hq] at this
    exact List.contains_iff_mem.1 this.symm
theorem sub_zero {s a : Nat} (hs : s < 16) (ha : a < 16) : ((s &&& (31 - a)) == 0) = (List.range 4).all fun i => !s.testBit i || a.testBit i := by
  have h : ∀ s : Fin 16, ∀ a : Fin 16, ((((s : Nat) &&& (31 - (a : Nat))) == 0) = (List.range 4).all fun i => !(s : Nat).testBit i || (a : Nat).testBit i) := of_decide_eq_true (by kernel_rfl)
  exact h ⟨s, hs⟩ ⟨a, ha⟩
/-- What is asked of a set. -/
theorem outDo_eq {c : Cargo} (hv : Valid c) {hold : Nat} (hh : hold < c.holds.length) {s : Nat} (hs : s < 16) (un : Int) :
    outDo c un (ofB c hold c.lots.length) hold s = (((s &&& (31 - ofB c hold c.lots.length)) == 0) && lastsR c hold un (natInts (listN s c.lots.length))) := by
  rw [outDo, truths_zero hv hh, cntB_map, List.length_map, settled_all]
  congr 1
  rw [lastsR, Bool.eq_iff_iff, List.all_eq_true, List.all_eq_true]
  exact ⟨fun h p hp => by rw [← outAns_eq hv hh hp hs un]; exact h p hp, fun h p hp => by rw [outAns_eq hv hh hp hs un]; exact h p hp⟩
theorem ofL_listN (c : Cargo) (hold : Int) (hn : c.lots.length ≤ 4) : ofL c hold [] = listN (ofB c hold c.lots.length) c.lots.length := by
  rw [ofL, ofTo, listN]
  refine filter_range_congr fun i hi => ?_
  rw [there_bit c hold _ _ hi]
  simp [hasInt]
  rfl
/-- Without all its lots a hold lasts. -/
theorem lasts_all (c : Cargo) (hold : Nat) (un : Int) : lastsR c hold un (natInts (ofL c hold [])) = true := by
  have h : ofL c hold (natInts (ofL c hold [])) = [] := by
    cases he : ofL c hold (natInts (ofL c hold [])) with
    | nil => rfl
    | cons q t =>
      have hq : (ofL c hold (natInts (ofL c hold []))).contains q = true := by rw [he]; simp
      rw [ofL_mem] at hq
      simp only [Bool.and_eq_true, decide_eq_true_eq, Bool.not_eq_true'] at hq
      have h2 : (ofL c hold []).contains q = true := by rw [ofL_mem]; simp [hq.1, hq.2.1, hasInt_nil]
      have h3 : hasInt (natInts (ofL c hold [])) q = true := by
        rw [hasInt, List.any_eq_true]
        exact ⟨(q : Int), by rw [natInts]; exact List.mem_map.2 ⟨q, List.contains_iff_mem.1 h2, rfl⟩, by simp⟩
      rw [h3] at hq
      exact absurd hq.2.2 (by simp)
  rw [lastsR, h]
  simp
end Go.Proofs.Ytbkknliggnhpcaa
