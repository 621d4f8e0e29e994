/- The plain law of TurnMore: with one more look there are no further ways. -/
import Derived.Test.YtbkknliggnhpcaaQx
set_option linter.unusedVariables false
set_option linter.unusedSimpArgs false
namespace Go.Proofs.Ytbkknliggnhpcaa

def moreS (c : Cargo) (s : Seen) : Cargo := { c with seen := c.seen ++ [s] }
section
variable {c : Cargo} {s : Seen}
theorem moreS_all (h : Nat) : allM (moreS c s) h = allM c h := by
  have e : ∀ i, greensTo (moreS c s) h i = greensTo c h i := fun i => by
    induction i with
    | zero => rfl
    | succ i ih => rw [greensTo, greensTo, ih]; rfl
  rw [allM, allM, e]; rfl
theorem moreS_times (l : List Nat) (w : Int) (g : List Int) : timesM (moreS c s) l w g = timesM c l w g := timesM_cargo (c := moreS c s) (c' := c) rfl rfl rfl l w g
theorem moreS_ways {h : Nat} {p : Int × List Int} (hp : p ∈ waysM (moreS c s) h []) : p ∈ waysM c h [] := by
  rw [waysM, List.mem_filter] at hp ⊢
  rw [moreS_all] at hp
  refine ⟨hp.1, ?_⟩
  have h2 := hp.2
  rw [wayB, moreS_times, soM, soTo, List.all_eq_true] at h2
  rw [wayB, soM, soTo, List.all_eq_true]
  intro i hi
  have hi' := List.mem_range.1 hi
  have h3 := h2 i (List.mem_range.2 (by simp [moreS]; omega))
  have e : nth (moreS c s).seen i = nth c.seen i := by simp [moreS, nth, List.getElem?_append_left hi']
  rw [lookB, e] at h3
  exact h3
theorem moreS_hours {i : Nat} {x : Int} (hx : x ∈ hoursM (moreS c s) i) : x ∈ hoursM c i := by
  rw [hoursM, List.mem_map] at hx ⊢
  obtain ⟨p, hp, e⟩ := hx
  refine ⟨p, moreS_ways hp, ?_⟩
  rw [← e]
  show nth (timesM c (ofL c _ []) p.1 p.2) i = nth (timesM (moreS c s) (ofL c _ []) p.1 p.2) i
  rw [moreS_times]; rfl
end
theorem settled_some {H : List Int} {n : Nat} (h0 : H ≠ []) : (settledM (turnedH n H).length H.length = 1 ↔ ∀ x ∈ H, x ≠ (n : Int) + 1) ∧ (settledM (turnedH n H).length H.length = 2 ↔ ∀ x ∈ H, x = (n : Int) + 1) := by
  have hp : 0 < H.length := List.length_pos_iff.2 h0
  rw [settled_one, settled_two hp]
  constructor
  · constructor
    · intro h x hx
      have h1 : turnedH n H = H := List.filter_sublist.eq_of_length h
      have := List.filter_eq_self.1 h1 x hx
      simpa using this
    · intro h
      rw [turnedH, List.filter_eq_self.2 (fun x hx => by simpa using h x hx)]
  · rw [List.length_eq_zero_iff, turnedH, List.filter_eq_nil_iff]
    constructor
    · intro h x hx; have := h x hx; simpa using this
    · intro h x hx; have := h x hx; simpa using this
structure MoreAt (p m q n : Int × Int) : Prop where
  sure : m.1 ≠ 0 → m.1 = n.1
  lo : n.1 ≠ 2 → p.1 ≤ q.1
  hi : n.1 ≠ 2 → q.2 ≤ p.2
theorem hours_ne {c : Cargo} (hv : Valid c) (hs : someM c [] = true) {i : Nat} (hi : i < c.lots.length) : hoursM c i ≠ [] := by
  obtain ⟨h1, _⟩ := lot_hold hv hi
  have := some_ways hs h1
  rw [hoursM]
  simpa using this
/-- What Turns says of fewer hours. -/
theorem turns_sub {n : Nat} {H H' : List Int} (h0 : H ≠ []) (h0' : H' ≠ []) (hs : ∀ x ∈ H', x ∈ H) :
    (settledM (turnedH n H).length H.length ≠ 0 → settledM (turnedH n H).length H.length = settledM (turnedH n H').length H'.length) ∧
    (settledM (turnedH n H').length H'.length ≠ 2 → nth ((H.foldl (spanStep n) (true, [0, 0])).2) 0 ≤ nth ((H'.foldl (spanStep n) (true, [0, 0])).2) 0 ∧ nth ((H'.foldl (spanStep n) (true, [0, 0])).2) 1 ≤ nth ((H.foldl (spanStep n) (true, [0, 0])).2) 1) := by
  obtain ⟨a1, a2⟩ := settled_some (n := n) h0
  obtain ⟨b1, b2⟩ := settled_some (n := n) h0'
  constructor
  · intro h
    have h3 : settledM (turnedH n H).length H.length = 1 ∨ settledM (turnedH n H).length H.length = 2 := by
      unfold settledM at h ⊢
      split
      · exact .inl rfl
      · split
        · exact .inr rfl
        · rename_i x y; rw [if_neg x, if_neg y] at h; exact absurd rfl h
    rcases h3 with h3 | h3
    · rw [h3, b1.2 (fun x hx => a1.1 h3 x (hs x hx))]
    · rw [h3, b2.2 (fun x hx => a2.1 h3 x (hs x hx))]
  · intro h
    obtain ⟨lo, hi, e1, _, e3, _⟩ := span_fold (n := n) H (true, [0, 0]) 0 0 rfl
    obtain ⟨lo', hi', f1, _, _, f4⟩ := span_fold (n := n) H' (true, [0, 0]) 0 0 rfl
    rw [e1, f1]
    show lo ≤ lo' ∧ hi' ≤ hi
    rcases f4 with ⟨_, f4⟩ | ⟨f4, f5⟩
    · exact absurd (b2.2 f4) h
    · constructor
      · rcases f4 with f4 | f4
        · exact (e3 _ (hs _ f4.1) f4.2).1
        · exact absurd f4.1 (by simp)
      · rcases f5 with f5 | f5
        · exact (e3 _ (hs _ f5.1) f5.2).2
        · exact absurd f5.1 (by simp)
structure MoreOk (c d : Cargo) (at_ : Int) : Prop where
  turns : ∀ i, i < c.lots.length → (turnsR c i).2 = 0 ∧ (turnsR d i).2 = 0 ∧ ((turnsR c i).1.2 ≠ 0 → (turnsR c i).1.2 = (turnsR d i).1.2) ∧
    ((turnsR d i).1.2 ≠ 2 → nth (turnsR c i).1.1 0 ≤ nth (turnsR d i).1.1 0 ∧ nth (turnsR d i).1.1 1 ≤ nth (turnsR c i).1.1 1)
  safe0 : safeE c at_ = 0
  safe1 : safeE d at_ = 0
  sub : ∀ k ∈ natInts (safeR c at_), hasInt (natInts (safeR d at_)) k = true
theorem more_ok {c : Cargo} {s : Seen} (hv : Valid c) (hs : someM c [] = true) (hv' : Valid (moreS c s)) (hs' : someM (moreS c s) [] = true) {at_ : Int} (ha : 0 ≤ at_ ∧ at_ ≤ c.heat.length) : MoreOk c (moreS c s) at_ := by
  have ha' : 0 ≤ at_ ∧ at_ ≤ (moreS c s).heat.length := ha
  refine ⟨fun i hi => ?_, safeE_ok hv hs ha, safeE_ok hv' hs' ha', fun k hk => ?_⟩
  · have hi' : i < (moreS c s).lots.length := hi
    rw [turnsR_ok hv hs hi, turnsR_ok hv' hs' hi']
    obtain ⟨h1, h2⟩ := turns_sub (n := c.heat.length) (hours_ne hv hs hi) (hours_ne hv' hs' hi') (fun x hx => moreS_hours hx)
    exact ⟨rfl, rfl, h1, h2⟩
  · obtain ⟨i, hi, rfl⟩ := List.mem_map.1 hk
    have h1 : hasInt (natInts (safeR c at_)) (i : Int) = true := by rw [hasInt, List.any_eq_true]; exact ⟨_, hk, by simp⟩
    have hil : i < c.lots.length := by
      rw [safeR, if_pos (safeE_ok hv hs ha), safeM, safeTo] at hi
      exact List.mem_range.1 (List.mem_filter.1 hi).1
    have hil' : i < (moreS c s).lots.length := hil
    rw [safeR_has hv hs ha hil, greenM, greenTo, List.take_length, Bool.and_eq_true, List.all_eq_true] at h1
    rw [safeR_has hv' hs' ha' hil', greenM, greenTo, List.take_length, Bool.and_eq_true, List.all_eq_true]
    exact ⟨h1.1, fun x hx => h1.2 x (moreS_hours hx)⟩
/-- What the law's some says. -/
def someL (c : Cargo) : Bool := decide ((checkM c).2.2 = 0) && someM c []
theorem someL_true {c : Cargo} (h : someL c = true) : Valid c ∧ someM c [] = true := by
  rw [someL, Bool.and_eq_true, decide_eq_true_eq] at h
  exact ⟨valid_of h.1, h.2⟩
def subB (a b : List Int) : Bool := a.all (hasInt b)
end Go.Proofs.Ytbkknliggnhpcaa
