/- The plain laws of chapter 07 that join the program's Turns, Safe, First and Spoils with the reference's. -/
import Derived.Test.YtbkknliggnhpcaaPa
import Derived.Test.YtbkknliggnhpcaaGH
import Derived.Test.YtbkknliggnhpcaaGG
import Derived.Test.YtbkknliggnhpcaaRefI
set_option linter.unusedVariables false
set_option linter.unusedSimpArgs false
namespace Go.Proofs.Ytbkknliggnhpcaa

/-- What is asked ahead of whether there is a truth. -/
def askE (c : Cargo) (xs : List (Bool × Int)) : Int := if (checkM c).2.2 = 0 then (match firstAsk xs with | some x => x.2 | none => 0) else (checkM c).2.2
theorem firstAsk_mem {xs : List (Bool × Int)} {x : Bool × Int} (h : firstAsk xs = some x) : x ∈ xs := List.mem_of_find?_eq_some h
theorem enterE_eq {c : Cargo} {xs : List (Bool × Int)} (hx : ∀ x ∈ xs, x.2 ≠ 0) : enterE c xs = truthE c (askE c xs) := by
  unfold enterE askE truthE
  by_cases h : (checkM c).2.2 = 0
  · rw [if_neg (by simpa using h), if_pos h]
    cases hf : firstAsk xs with
    | some x =>
      have := hx x (firstAsk_mem hf)
      simp only
      rw [if_neg (fun h => this h.1)]
    | none =>
      simp only [true_and]
      rw [someS_zero (valid_of h)]
      cases someM c [] <;> simp
  · rw [if_pos h, if_neg h, if_neg (fun h' => h h'.1)]
theorem cntB_map (f : St → Bool) (k : Int × List Int → St) (l : List (Int × List Int)) : cntB f (l.map k) = (l.filter fun p => f (k p)).length := by
  rw [cntB, List.filter_map, List.length_map]; rfl
theorem firstAsk_cons (b : Bool) (e : Int) (xs : List (Bool × Int)) : firstAsk ((b, e) :: xs) = if b then some (b, e) else firstAsk xs := by
  unfold firstAsk
  cases b <;> simp [List.find?_cons]
theorem firstAsk_nil : firstAsk [] = none := rfl
theorem noneQ_off (n x : Int) : noneQ n [x] = offP 0 (n - 1) x := by simp [noneQ]
theorem noneQ_off2 (n x y : Int) : noneQ n [x, y] = (offP 0 (n - 1) x || offP 0 (n - 1) y) := by simp [noneQ]
theorem settled_all {α : Type} (l : List α) (f : α → Bool) : (settledM ((l.filter f).length : Nat) (l.length : Nat) == 1) = l.all f := by
  rw [Bool.eq_iff_iff, beq_iff_eq, List.all_eq_true]
  unfold settledM
  constructor
  · intro h
    split at h
    · rename_i h1
      exact List.filter_eq_self.1 (List.filter_sublist.eq_of_length (by omega))
    · split at h <;> omega
  · intro h
    rw [List.filter_eq_self.2 h, if_pos rfl]
theorem settled_any' {α : Type} {l : List α} (hl : l ≠ []) (f : α → Bool) : (settledM ((l.filter f).length : Nat) (l.length : Nat) != 2) = l.any f := by
  rw [Bool.eq_iff_iff, bne_iff_ne, List.any_eq_true]
  have h0 : 0 < l.length := List.length_pos_iff.2 hl
  unfold settledM
  constructor
  · intro h
    have h1 : 0 < (l.filter f).length := by
      split at h
      · omega
      · split at h <;> omega
    obtain ⟨x, hx⟩ := List.exists_mem_of_length_pos h1
    exact ⟨x, (List.mem_filter.1 hx).1, (List.mem_filter.1 hx).2⟩
  · rintro ⟨x, hx, h⟩
    have : 0 < (l.filter f).length := List.length_pos_iff.2 (List.ne_nil_of_mem (List.mem_filter.2 ⟨hx, h⟩))
    split
    · omega
    · rw [if_neg (by omega)]; omega
theorem some_ways {c : Cargo} (h : someM c [] = true) {hold : Nat} (hh : hold < c.holds.length) : waysM c hold [] ≠ [] := by
  unfold someM someTo at h
  rw [List.all_eq_true] at h
  have := h hold (List.mem_range.2 hh)
  intro e; rw [e] at this; simp at this
theorem safeE_eq (c : Cargo) (hour : Int) : enterE c [(noneQ (c.heat.length + 1) [hour], (7 : Int))] = safeE c hour := by
  rw [enterE_eq (by simp), safeE, askE, firstAsk_cons, firstAsk_nil, noneQ_off, hourE]
  congr 1
  rw [show (c.heat.length : Int) + 1 - 1 = c.heat.length by omega]
  by_cases h : (checkM c).2.2 = 0
  · rw [if_pos h, h]; cases offP 0 (c.heat.length : Int) hour <;> simp
  · rw [if_neg h, if_neg (fun h' => h h'.1)]
theorem lot_hold {c : Cargo} (hv : Valid c) {i : Nat} (hi : i < c.lots.length) : (nth c.lots i).hold.toNat < c.holds.length ∧ (((nth c.lots i).hold.toNat : Nat) : Int) = (nth c.lots i).hold := by
  have := hv.lot i hi; omega
theorem ways_hours {c : Cargo} (hv : Valid c) {i : Nat} (hi : i < c.lots.length) : (truthsS c (nth c.lots i).hold.toNat 0).map (fun s => nth (timesV c s) i) = hoursM c i := by
  obtain ⟨h1, _⟩ := lot_hold hv hi
  rw [truths_zero hv h1, List.map_map, hoursM]
  exact List.map_congr_left fun p hp => nth_timesW hv h1 hp hi
theorem safeIs_eq {c : Cargo} (hv : Valid c) (hour : Int) {i : Nat} (hi : i < c.lots.length) : safeIs c hour i = greenM c i hour := by
  unfold safeIs greenM greenTo cntB
  rw [settled_all, List.take_length, ← ways_hours hv hi, List.all_map]
  rfl
theorem filter_range_congr {n : Nat} {p q : Nat → Bool} (h : ∀ i, i < n → p i = q i) : (List.range n).filter p = (List.range n).filter q :=
  List.filter_congr fun i hi => h i (List.mem_range.1 hi)
theorem safeV_eq (c : Cargo) (hour : Int) : safeV c hour = (safeR c hour, safeE c hour) := by
  unfold safeV safeR
  rw [safeE_eq]
  by_cases h : safeE c hour = 0
  · rw [if_neg (by simpa using h), if_pos h, h]
    have hv := (safeE_valid h).1
    exact congrArg (·, (0 : Int)) (filter_range_congr fun i hi => safeIs_eq hv hour hi)
  · rw [if_pos h, if_neg h]
/-- Turns. -/
theorem turnsE_eq (c : Cargo) (lot : Int) : enterE c [(noneQ c.lots.length [lot], (4 : Int))] = turnsE c lot := by
  rw [enterE_eq (by simp), turnsE, askE, firstAsk_cons, firstAsk_nil, noneQ_off, indexE]
  congr 1
  by_cases h : (checkM c).2.2 = 0
  · rw [if_pos h, if_pos h]; cases offP 0 ((c.lots.length : Int) - 1) lot <;> simp
  · rw [if_neg h, if_neg h]
theorem turnsV_eq (c : Cargo) (lot : Int) : turnsV c lot = turnsR c lot := by
  unfold turnsV turnsR
  simp only
  rw [turnsE_eq]
  by_cases h : turnsE c lot = 0
  · rw [if_neg (by simpa using h), if_neg (by simpa using h)]
    obtain ⟨hv, _, h1, h2⟩ := turnsE_valid h
    have hi : lot.toNat < c.lots.length := by omega
    have hw := ways_hours hv hi
    rw [spanL, hw]
    have e : cntB (turnsAns c lot.toNat) (truthsS c (nth c.lots lot.toNat).hold.toNat 0) = (turnedH c.heat.length (hoursM c lot.toNat)).length := by
      rw [← hw, turnedH, List.filter_map, List.length_map, cntB]; rfl
    have e2 : (truthsS c (nth c.lots lot.toNat).hold.toNat 0).length = (hoursM c lot.toNat).length := by rw [← hw, List.length_map]
    rw [e, e2]
  · rw [if_pos h, if_pos h]
end Go.Proofs.Ytbkknliggnhpcaa
