/- The plain law of TurnTrue: if looks are such as a way makes them, nothing of this way is denied. -/
import Derived.Test.YtbkknliggnhpcaaQs
import Derived.Test.YtbkknliggnhpcaaQw
import Derived.Test.YtbkknliggnhpcaaPc
set_option linter.unusedVariables false
set_option linter.unusedSimpArgs false
namespace Go.Proofs.Ytbkknliggnhpcaa

theorem hourE_ok {c : Cargo} {n : Int} (h : 0 ≤ n ∧ n ≤ c.heat.length) : hourE c n 0 = 0 := by
  rw [hourE, if_neg (fun h' => by rw [offP_ok h] at h'; simp at h')]
theorem truthE_ok {c : Cargo} (h : someM c [] = true) : truthE c 0 = 0 := by
  rw [truthE, if_neg (fun h' => by rw [h] at h'; simp at h')]
theorem indexE_ok {c : Cargo} (hv : Valid c) {n below : Int} (h : 0 ≤ n ∧ n < below) : indexE c n below = 0 := by
  rw [indexE, if_pos (valid_check hv), offP_ok (by omega)]; rfl
theorem safeE_ok {c : Cargo} (hv : Valid c) (hs : someM c [] = true) {at_ : Int} (h : 0 ≤ at_ ∧ at_ ≤ c.heat.length) : safeE c at_ = 0 := by
  rw [safeE, valid_check hv, hourE_ok h, truthE_ok hs]
theorem turnsE_ok {c : Cargo} (hv : Valid c) (hs : someM c [] = true) {i : Nat} (h : i < c.lots.length) : turnsE c i = 0 := by
  rw [turnsE, indexE_ok hv (by omega), truthE_ok hs]
theorem firstE_ok7 {c : Cargo} (hv : Valid c) (hs : someM c [] = true) {hd : Nat} (h : hd < c.holds.length) : firstE7 c hd = 0 := by
  rw [firstE7, indexE_ok hv (by omega), truthE_ok hs]
theorem turnsR_ok {c : Cargo} (hv : Valid c) (hs : someM c [] = true) {i : Nat} (h : i < c.lots.length) :
    turnsR c i = ((((hoursM c i).foldl (spanStep c.heat.length) (true, [0, 0])).2, settledM (turnedH c.heat.length (hoursM c i)).length (hoursM c i).length), 0) := by
  rw [turnsR, if_neg (by rw [turnsE_ok hv hs h]; simp), Int.toNat_natCast]
theorem safeR_has {c : Cargo} (hv : Valid c) (hs : someM c [] = true) {at_ : Int} (h : 0 ≤ at_ ∧ at_ ≤ c.heat.length) {i : Nat} (hi : i < c.lots.length) : hasInt (natInts (safeR c at_)) i = greenM c i at_ := by
  rw [safeR, if_pos (safeE_ok hv hs h), safeM, safeTo, has_filter]; simp [hi]
theorem safeR_rising {c : Cargo} (hv : Valid c) (hs : someM c [] = true) {at_ : Int} (h : 0 ≤ at_ ∧ at_ ≤ c.heat.length) : risingB (natInts (safeR c at_)) (-1) c.lots.length = true := by
  rw [safeR, if_pos (safeE_ok hv hs h), safeM, safeTo]; exact rising_range _ _
/-- The hour of the way is among those of Turns. -/
theorem told_hour {c : Cargo} {l : List Int} (hv : Valid c) {i : Nat} (hi : i < c.lots.length) : nth (trulyM c l []) i ∈ hoursM (toldC c l) i := by
  obtain ⟨h1, h2⟩ := lot_hold hv hi
  rw [hoursM]
  refine List.mem_map.2 ⟨wayX c l (nth c.lots i).hold.toNat, wayX_ways hv h1, ?_⟩
  show nth (timesW (toldC c l) (nth c.lots i).hold.toNat _) i = _
  rw [toldC_timesW, wayX_times hv l, truly_at hv l hi]
structure TrueAt (z : Cargo) (T : List Int) (at_ : Int) (i : Nat) : Prop where
  turns : (turnsR z i).2 = 0
  first : (firstE7 z (nth z.lots i).hold) = 0
  safe : hasInt (natInts (safeR z at_)) i = true → at_ < nth T i
  never : nth T i = (z.heat.length : Int) + 1 → (turnsR z i).1.2 ≠ 1
  hour : nth T i ≠ (z.heat.length : Int) + 1 → (turnsR z i).1.2 ≠ 2 ∧ inB (nth T i) (nth (turnsR z i).1.1 0) (nth (turnsR z i).1.1 1) = true
  least : nth T i ≠ (z.heat.length : Int) + 1 → (∀ k, k < z.lots.length → (nth z.lots k).hold = (nth z.lots i).hold → nth T i ≤ nth T k) → hasInt (natInts (firstR z (nth z.lots i).hold)) i = true
theorem true_at {c : Cargo} {l : List Int} (hv : Valid c) {at_ : Int} (ha : 0 ≤ at_ ∧ at_ ≤ c.heat.length) {i : Nat} (hi : i < c.lots.length) : TrueAt (toldC c l) (trulyM c l []) at_ i := by
  have hv' := toldC_valid (l := l) hv
  have hs := told_some (l := l) hv
  have hm := told_hour (l := l) hv hi
  have hpos : 0 < (hoursM (toldC c l) i).length := List.length_pos_of_mem hm
  obtain ⟨hh1, hh2⟩ := lot_hold hv hi
  have htr := turnsR_ok hv' hs (show i < (toldC c l).lots.length from hi)
  have hhold : (nth (toldC c l).lots i).hold = (((nth c.lots i).hold.toNat : Nat) : Int) := hh2.symm
  refine ⟨by rw [htr], ?_, fun h => ?_, fun h => ?_, fun h => ⟨?_, ?_⟩, fun h hle => ?_⟩
  · rw [hhold]; exact firstE_ok7 hv' hs hh1
  · rw [safeR_has hv' hs ha hi, greenM, greenTo, List.take_length, Bool.and_eq_true, List.all_eq_true] at h
    have := h.2 _ hm
    simpa using this
  · rw [htr]
    intro h1
    rw [settled_one] at h1
    have h2 : (turnedH (toldC c l).heat.length (hoursM (toldC c l) i)) = hoursM (toldC c l) i := List.filter_sublist.eq_of_length h1
    have h3 := List.filter_eq_self.1 h2 _ hm
    simp [h] at h3
  · rw [htr]
    intro h1
    rw [settled_two hpos, List.length_eq_zero_iff, turnedH, List.filter_eq_nil_iff] at h1
    have := h1 _ hm
    simp [h] at this
  · rw [htr]
    obtain ⟨lo, hi2, e1, _, e3, _⟩ := span_fold (n := (toldC c l).heat.length) (hoursM (toldC c l) i) (true, [0, 0]) 0 0 rfl
    simp only
    rw [e1]
    have := e3 _ hm h
    rw [inB, decide_eq_true_eq]
    exact this
  · rw [hhold, firstR, if_neg (by rw [firstE_ok7 hv' hs hh1]; simp), Int.toNat_natCast]
    have hof : i ∈ ofL (toldC c l) ((nth c.lots i).hold.toNat : Nat) [] := by
      have := ofL_mem (c := toldC c l) (hold := (((nth c.lots i).hold.toNat : Nat) : Int)) (but := []) (i := i)
      rw [← List.contains_iff_mem, this]
      have h1 : i < (toldC c l).lots.length := hi
      rw [decide_eq_true h1, Bool.true_and, hasInt_nil, hhold]; simp
    rw [hasInt, List.any_eq_true]
    refine ⟨(i : Int), List.mem_map.2 ⟨i, List.mem_filter.2 ⟨hof, ?_⟩, rfl⟩, by simp⟩
    rw [List.any_eq_true]
    refine ⟨wayX c l (nth c.lots i).hold.toNat, wayX_ways hv hh1, ?_⟩
    rw [firstB, toldC_timesW, wayX_times hv l, ← truly_at hv l hi, Bool.and_eq_true, List.all_eq_true, decide_eq_true_eq]
    have hb : nth (trulyM c l []) i ≤ (c.heat.length : Int) + 1 := by
      rw [truly_at hv l hi, holdT]; exact (timesM_bd hi).2
    have h' : nth (trulyM c l []) i ≠ (c.heat.length : Int) + 1 := h
    refine ⟨by show _ < (c.heat.length : Int) + 1; omega, fun k hk => ?_⟩
    have hkl : k < c.lots.length := ofL_lt (c := toldC c l) k hk
    have hkh : (nth c.lots k).hold = (nth c.lots i).hold := by
      have := ofL_mem (c := toldC c l) (hold := (((nth c.lots i).hold.toNat : Nat) : Int)) (but := []) (i := k)
      rw [List.contains_iff_mem.2 hk] at this
      have := this.symm
      simp only [Bool.and_eq_true, beq_iff_eq] at this
      exact this.2.1.trans hhold.symm
    have := hle k hkl hkh
    rw [decide_eq_true_eq]
    have e2 : nth (trulyM c l []) k = nth (holdT c l [] (nth c.lots i).hold.toNat) k := by rw [truly_at hv l hkl, hkh]
    rw [← e2]; exact this
end Go.Proofs.Ytbkknliggnhpcaa
