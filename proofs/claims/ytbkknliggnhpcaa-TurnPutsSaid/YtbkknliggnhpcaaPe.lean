/- The plain law of Out (part one): its errors, and what it asks of a set of lots. -/
import Derived.Test.YtbkknliggnhpcaaRefO
import Derived.Test.YtbkknliggnhpcaaPc
import Derived.Test.YtbkknliggnhpcaaGI
set_option linter.unusedVariables false
set_option linter.unusedSimpArgs false
namespace Go.Proofs.Ytbkknliggnhpcaa

theorem outE_eq (c : Cargo) (hold un : Int) : enterE c [(noneQ c.holds.length [hold], (4 : Int)), (noneQ (c.heat.length + 1) [un], (7 : Int))] = outE7 c hold un := by
  rw [enterE_eq (by simp), outE7, askE, firstAsk_cons, firstAsk_cons, firstAsk_nil, noneQ_off, noneQ_off, hourE, indexE, show (c.heat.length : Int) + 1 - 1 = c.heat.length by omega]
  congr 1
  by_cases h : (checkM c).2.2 = 0
  · cases h1 : offP 0 ((c.holds.length : Int) - 1) hold <;> cases h2 : offP 0 (c.heat.length : Int) un <;> simp [h]
  · simp [h]
theorem bit_dropSet {m s i : Nat} (hm : m < 32) (hs : s < 16) : (m &&& (31 - s)).testBit i = (m.testBit i && !s.testBit i) := by
  rw [Nat.testBit_and]
  by_cases hi : i < 5
  · congr 1
    have h5 : ∀ s, s < 16 → ∀ i, i < 5 → (31 - s).testBit i = !s.testBit i := by decide
    exact h5 s hs i hi
  · have h0 : m.testBit i = false := Nat.testBit_lt_two_pow (Nat.lt_of_lt_of_le (show m < 2 ^ 5 by omega) (Nat.pow_le_pow_right (by omega) (show 5 ≤ i by omega)))
    rw [h0]; simp
theorem dropSet_there {c : Cargo} (hn : c.lots.length ≤ 4) {hold wm : Int} {g : List Int} {s : Nat} (hs : s < 16) (i : Nat) : (setL (dropSet (mkSt c hold wm g) s).there.toNat c.lots.length).contains i = (ofL c hold (natInts (listN s c.lots.length))).contains i := by
  have hb := ofB_lt c hold c.lots.length
  have hp2 : 2 ^ c.lots.length ≤ 2 ^ 4 := Nat.pow_le_pow_right (by omega) hn
  rw [setL_mem, ofL_mem]
  show (decide (i < c.lots.length) && ((((ofB c hold c.lots.length : Nat) : Int).toNat &&& (31 - s) : Nat) : Int).toNat.testBit i) = _
  have hp16 : (2 : Nat) ^ 4 = 16 := rfl
  rw [Int.toNat_natCast, Int.toNat_natCast, bit_dropSet (m := ofB c hold c.lots.length) (s := s) (by omega) hs]
  by_cases hi : i < c.lots.length
  · rw [there_bit c hold _ _ hi, (ri_both hn hs).2 i hi]
    simp [hi]
    rfl
  · simp [hi]
/-- What is asked of a set in a truth. -/
theorem outAns_eq {c : Cargo} (hv : Valid c) {hold : Nat} (hh : hold < c.holds.length) {p : Int × List Int} (hp : p ∈ waysM c hold []) {s : Nat} (hs : s < 16) (un : Int) :
    outAns c un s (stW c hold p) = (ofL c hold (natInts (listN s c.lots.length))).all (lastB c un (timesM c (ofL c hold (natInts (listN s c.lots.length))) p.1 p.2)) := by
  have hn := hv.lots
  obtain ⟨_, h2, _⟩ := waysM_mem hv hh hp
  have ht := fun q (hq : q < c.lots.length) => timesV_eq (s := dropSet (stW c hold p) s) (l := ofL c hold (natInts (listN s c.lots.length))) (g := p.2) (by omega) h2 (mk_len (c := c) (hold := (hold : Int)) (wm := p.1) (by omega) h2) (fun i hi => show nth (mkSt c hold p.1 p.2).greens i = nth p.2 i from mk_greens h2 hi) (fun i => dropSet_there hn hs i) hq
  have hm := fun i => dropSet_there (wm := p.1) (g := p.2) hn (hold := (hold : Int)) hs i
  rw [outAns, Bool.eq_iff_iff, List.all_eq_true, List.all_eq_true]
  have key : ∀ q, q < c.lots.length → (!lotBad c un (timesV c (dropSet (stW c hold p) s)) q) = lastB c un (timesM c (ofL c hold (natInts (listN s c.lots.length))) p.1 p.2) q := fun q hq => by
    rw [lotBad, lastB, ht q hq, Bool.eq_iff_iff]
    show _ ↔ _
    simp only [Bool.not_eq_true', Bool.and_eq_false_iff, decide_eq_false_iff_not, Bool.or_eq_true, decide_eq_true_eq]
    constructor
    · rintro (h | h)
      · exact .inl (by omega)
      · exact .inr (by have : (dropSet (stW c hold p) s).warm = p.1 := rfl; rw [this] at h; omega)
    · rintro (h | h)
      · exact .inl (by omega)
      · exact .inr (by have : (dropSet (stW c hold p) s).warm = p.1 := rfl; rw [this]; omega)
  constructor
  · intro h q hq
    have hq2 := ofL_lt q hq
    rw [← key q hq2]
    refine h q ?_
    have := hm q
    rw [List.contains_iff_mem.2 hq] at this
    exact List.contains_iff_mem.1 this
  · intro h q hq
    have hq2 : q < c.lots.length := List.mem_range.1 (List.mem_filter.1 hq).1
    rw [key q hq2]
    refine h q ?_
    have := hm q
    rw [show (setL (dropSet (mkSt c (hold : Int) p.1 p.2) s).there.toNat c.lots.length).contains q = true from List.contains_iff_mem.2 hq] at this
    exact List.contains_iff_mem.1 this.symm
theorem sub_zero {s a : Nat} (hs : s < 16) (ha : a < 16) : ((s &&& (31 - a)) == 0) = (List.range 4).all fun i => !s.testBit i || a.testBit i := by
  have h : ∀ s : Fin 16, ∀ a : Fin 16, ((((s : Nat) &&& (31 - (a : Nat))) == 0) = (List.range 4).all fun i => !(s : Nat).testBit i || (a : Nat).testBit i) := of_decide_eq_true (by kernel_rfl)
  exact h ⟨s, hs⟩ ⟨a, ha⟩
/-- What is asked of a set. -/
theorem outDo_eq {c : Cargo} (hv : Valid c) {hold : Nat} (hh : hold < c.holds.length) {s : Nat} (hs : s < 16) (un : Int) :
    outDo c un (ofB c hold c.lots.length) hold s = (((s &&& (31 - ofB c hold c.lots.length)) == 0) && lastsR c hold un (natInts (listN s c.lots.length))) := by
  rw [outDo, truths_zero hv hh, cntB_map, List.length_map, settled_all]
  congr 1
  rw [lastsR, Bool.eq_iff_iff, List.all_eq_true, List.all_eq_true]
  exact ⟨fun h p hp => by rw [← outAns_eq hv hh hp hs un]; exact h p hp, fun h p hp => by rw [outAns_eq hv hh hp hs un]; exact h p hp⟩
theorem ofL_listN (c : Cargo) (hold : Int) (hn : c.lots.length ≤ 4) : ofL c hold [] = listN (ofB c hold c.lots.length) c.lots.length := by
  rw [ofL, ofTo, listN]
  refine filter_range_congr fun i hi => ?_
  rw [there_bit c hold _ _ hi]
  simp [hasInt]
  rfl
def subFact : Bool := (List.range 5).all fun n => (List.range (2 ^ n)).all fun a => (List.range 5).all fun i => (List.range 8).all fun k =>
  decide ((listN a n).length < i) || decide ((chTo (listN a n).length i).length ≤ k) ||
  (List.range (2 ^ n)).any fun s => ownC (listN a n) (nth (chTo (listN a n).length i) k) == natInts (listN s n) && ((s &&& (31 - a)) == 0) && (List.range (2 ^ n)).all fun t => !((t &&& (31 - a)) == 0) || decide (rk (listN s n) < rk (listN t n)) || listN s n == listN t n ||
    decide ((listN t n).length < i) && (List.range 8).any (fun q => decide (q < (chTo (listN a n).length (listN t n).length).length) && ownC (listN a n) (nth (chTo (listN a n).length (listN t n).length) q) == natInts (listN t n)) ||
    ((listN t n).length == i && (List.range k).any fun q => ownC (listN a n) (nth (chTo (listN a n).length i) q) == natInts (listN t n))
theorem subFact_true : subFact = true := by kernel_rfl
theorem sub_facts {n a i k : Nat} (hn : n ≤ 4) (ha : a < 2 ^ n) (hi : i ≤ (listN a n).length) (hk : k < (chTo (listN a n).length i).length) : ∃ s, s < 2 ^ n ∧ ownC (listN a n) (nth (chTo (listN a n).length i) k) = natInts (listN s n) ∧ ((s &&& (31 - a)) == 0) = true ∧ ∀ t, t < 2 ^ n → ((t &&& (31 - a)) == 0) = true →
    rk (listN s n) < rk (listN t n) ∨ listN s n = listN t n ∨ (∃ j q, j < i ∧ q < (chTo (listN a n).length j).length ∧ ownC (listN a n) (nth (chTo (listN a n).length j) q) = natInts (listN t n)) ∨ ∃ q, q < k ∧ ownC (listN a n) (nth (chTo (listN a n).length i) q) = natInts (listN t n) := by
  have h := subFact_true
  have hle := listN_le a n
  have hl := (len_facts (n := (listN a n).length) (i := i) (by omega) (by omega)).1
  rw [subFact, List.all_eq_true] at h
  have h0 := h n (List.mem_range.2 (by omega))
  rw [List.all_eq_true] at h0
  have h1 := h0 a (List.mem_range.2 ha)
  rw [List.all_eq_true] at h1
  have h2 := h1 i (List.mem_range.2 (by omega))
  rw [List.all_eq_true] at h2
  have h3 := h2 k (List.mem_range.2 (by omega))
  rw [decide_eq_false (show ¬ (listN a n).length < i by omega), decide_eq_false (show ¬ (chTo (listN a n).length i).length ≤ k by omega), Bool.false_or, Bool.false_or, List.any_eq_true] at h3
  obtain ⟨s, hs, h4⟩ := h3
  rw [Bool.and_eq_true, Bool.and_eq_true, beq_iff_eq, List.all_eq_true] at h4
  refine ⟨s, List.mem_range.1 hs, h4.1.1, h4.1.2, fun t ht hts => ?_⟩
  have h5 := h4.2 t (List.mem_range.2 ht)
  rw [hts] at h5
  simp only [Bool.not_true, Bool.false_or, Bool.or_eq_true, Bool.and_eq_true, decide_eq_true_eq, beq_iff_eq, List.any_eq_true, List.mem_range] at h5
  rcases h5 with ((h5 | h5) | ⟨h5, q, hq, hq2, hq3⟩) | ⟨h5, q, hq, hq2⟩
  · exact .inl h5
  · exact .inr (.inl h5)
  · exact .inr (.inr (.inl ⟨_, q, h5, hq2, hq3⟩))
  · exact .inr (.inr (.inr ⟨q, hq, hq2⟩))
def allFact : Bool := (List.range 5).all fun n => (List.range (2 ^ n)).all fun a => ownC (listN a n) (nth (chTo (listN a n).length (listN a n).length) 0) == natInts (listN a n)
theorem allFact_true : allFact = true := by kernel_rfl
theorem all_facts {n a : Nat} (hn : n ≤ 4) (ha : a < 2 ^ n) : ownC (listN a n) (nth (chTo (listN a n).length (listN a n).length) 0) = natInts (listN a n) := by
  have h := allFact_true
  rw [allFact, List.all_eq_true] at h
  have h0 := h n (List.mem_range.2 (by omega))
  rw [List.all_eq_true] at h0
  have h1 := h0 a (List.mem_range.2 ha)
  rw [beq_iff_eq] at h1
  exact h1
/-- Without all its lots a hold lasts. -/
theorem lasts_all (c : Cargo) (hold : Nat) (un : Int) : lastsR c hold un (natInts (ofL c hold [])) = true := by
  have h : ofL c hold (natInts (ofL c hold [])) = [] := by
    cases he : ofL c hold (natInts (ofL c hold [])) with
    | nil => rfl
    | cons q t =>
      have hq : (ofL c hold (natInts (ofL c hold []))).contains q = true := by rw [he]; simp
      rw [ofL_mem] at hq
      simp only [Bool.and_eq_true, decide_eq_true_eq, Bool.not_eq_true'] at hq
      have h2 : (ofL c hold []).contains q = true := by rw [ofL_mem]; simp [hq.1, hq.2.1, hasInt_nil]
      have h3 : hasInt (natInts (ofL c hold [])) q = true := by
        rw [hasInt, List.any_eq_true]
        exact ⟨(q : Int), by rw [natInts]; exact List.mem_map.2 ⟨q, List.contains_iff_mem.1 h2, rfl⟩, by simp⟩
      rw [h3] at hq
      exact absurd hq.2.2 (by simp)
  rw [lastsR, h]
  simp
/-- What the reference's Out finds is what turn's Out finds. -/
theorem outV_spec {c : Cargo} {hold un : Int} {r : List Int} (h0 : outE7 c hold un = 0 → OutSpec c hold.toNat un r) (h1 : outE7 c hold un ≠ 0 → r = []) : natInts (outV c hold un).1 = r ∧ (outV c hold un).1.length = r.length ∧ (outV c hold un).2 = outE7 c hold un := by
  rw [outV, outE_eq]
  by_cases h : outE7 c hold un = 0
  · rw [if_neg (by simpa using h), h]
    obtain ⟨hv, -, hh0, hh1, -, -⟩ := outE7_valid h
    obtain ⟨hd, rfl⟩ : ∃ k : Nat, hold = (k : Int) := ⟨hold.toNat, by omega⟩
    have hh : hd < c.holds.length := by omega
    have hn := hv.lots
    have h16 : 2 ^ c.lots.length ≤ 16 := Nat.pow_le_pow_right (by omega) hn
    have ha := ofB_lt c (hd : Int) c.lots.length
    have hsp := h0 h
    rw [Int.toNat_natCast] at hsp ⊢
    have hLe := ofL_listN c (hd : Int) hn
    have hall := lasts_all c hd un
    -- one shape for both ends
    have huni : ∃ i k, i ≤ (ofL c (hd : Int) []).length ∧ k < (chTo (ofL c (hd : Int) []).length i).length ∧ r = ownC (ofL c (hd : Int) []) (nth (chTo (ofL c (hd : Int) []).length i) k) ∧ lastsR c hd un r = true ∧
        (∀ j, j < i → ∀ q, q < (chTo (ofL c (hd : Int) []).length j).length → lastsR c hd un (ownC (ofL c (hd : Int) []) (nth (chTo (ofL c (hd : Int) []).length j) q)) = false) ∧ ∀ q, q < k → lastsR c hd un (ownC (ofL c (hd : Int) []) (nth (chTo (ofL c (hd : Int) []).length i) q)) = false := by
      rcases hsp with ⟨i, k, a1, a2, a3, a4, a5, a6⟩ | ⟨a1, a2⟩
      · exact ⟨i, k, by omega, a2, a3, a4, a5, a6⟩
      · have hle := listN_le (ofB c (hd : Int) c.lots.length) c.lots.length
        refine ⟨(ofL c (hd : Int) []).length, 0, Nat.le_refl _, ?_, ?_, by rw [a1]; exact hall, a2, fun q hq => absurd hq (Nat.not_lt_zero _)⟩
        · rw [hLe, (len_facts (n := (listN (ofB c (hd : Int) c.lots.length) c.lots.length).length) (i := 0) (by omega) (by omega)).2.1]; omega
        · rw [a1, hLe, all_facts hn ha]
    rw [hLe] at huni
    obtain ⟨i, k, a1, a2, a3, a4, a5, a6⟩ := huni
    obtain ⟨s, hs, e1, e2, e3⟩ := sub_facts hn ha a1 a2
    have hans := fun t (ht : t < 2 ^ c.lots.length) => outDo_eq hv hh (s := t) (by omega) un
    have hl := fwTo_least (ans := outDo c un (ofB c (hd : Int) c.lots.length) hd) hn (2 ^ c.lots.length) (Nat.le_refl _)
    have hs1 : outDo c un (ofB c (hd : Int) c.lots.length) hd s = true := by rw [hans s hs, e2, ← e1, ← a3, a4]; rfl
    cases ho : fwTo c.lots.length (outDo c un (ofB c (hd : Int) c.lots.length) hd) (2 ^ c.lots.length) with
    | none =>
      rw [ho] at hl
      have := hl s hs
      rw [hs1] at this
      cases this
    | some l =>
      rw [ho] at hl
      obtain ⟨u, hu, hua, rfl, hm⟩ := hl
      have h2 := hm s hs hs1
      rw [hans u hu, Bool.and_eq_true] at hua
      have h3 : listN s c.lots.length = listN u c.lots.length := by
        rcases e3 u hu hua.1 with h | h | ⟨j, q, hj, hq, e⟩ | ⟨q, hq, e⟩
        · omega
        · exact h
        · have := a5 j hj q hq; rw [e, hua.2] at this; cases this
        · have := a6 q hq; rw [e, hua.2] at this; cases this
      rw [Option.getD_some, a3, e1, h3]
      exact ⟨rfl, (natInts_length _).symm, rfl⟩
  · rw [if_pos (by simpa using h), h1 h]
    exact ⟨rfl, rfl, rfl⟩
end Go.Proofs.Ytbkknliggnhpcaa
