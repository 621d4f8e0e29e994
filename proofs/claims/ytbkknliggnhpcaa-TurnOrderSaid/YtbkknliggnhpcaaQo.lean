/- Plain laws: the hours of two cargos whose lots belong together. -/
import Derived.Test.YtbkknliggnhpcaaQn
set_option linter.unusedVariables false
set_option linter.unusedSimpArgs false
namespace Go.Proofs.Ytbkknliggnhpcaa

theorem list_each : ∀ {n : Nat} {P : Nat → Int → Prop}, (∀ i, i < n → ∃ y, P i y) → ∃ l : List Int, l.length = n ∧ ∀ i, i < n → P i (nth l i)
  | 0, _, _ => ⟨[], rfl, fun i hi => absurd hi (Nat.not_lt_zero i)⟩
  | n + 1, P, h => by
    obtain ⟨l, h1, h2⟩ := list_each (n := n) (P := P) fun i hi => h i (by omega)
    obtain ⟨y, hy⟩ := h n (by omega)
    refine ⟨l ++ [y], by simp [h1], fun i hi => ?_⟩
    rw [nth_app]
    by_cases h3 : i < n
    · rw [if_pos (by omega)]; exact h2 i h3
    · obtain rfl : i = n := by omega
      rw [if_neg (by omega), h1, Nat.sub_self]; exact hy
/-- Lots of d are lots of c. -/
structure Twin (c d : Cargo) (σ : Nat → Nat) (h : Nat) : Prop where
  warm : nth c.holds h = nth d.holds h
  rng : ∀ i, i < d.lots.length → σ i < c.lots.length
  inj : ∀ i j, i < d.lots.length → j < d.lots.length → σ i = σ j → i = j
  hold : ∀ i, i < d.lots.length → (nth c.lots (σ i)).hold = (nth d.lots i).hold
  frm : ∀ i, i < d.lots.length → (nth c.lots (σ i)).frm = (nth d.lots i).frm
section
variable {c d : Cargo} {σ τ : Nat → Nat} {h : Nat}
theorem ofL_iff {hold : Int} {i : Nat} : i ∈ ofL c hold [] ↔ i < c.lots.length ∧ (nth c.lots i).hold = hold := by
  rw [← List.contains_iff_mem, ofL_mem]; simp [hasInt]
theorem lotSpan_in {hold : Int} {i : Nat} (e : (nth c.lots i).hold = hold) : lotSpan c hold i = (nth c.lots i).green := by rw [lotSpan, if_pos e]
theorem lotSpan_lo (hv : Valid c) (hold : Int) {i : Nat} (hi : i < c.lots.length) : (nth c.lots i).green.lo ∈ spanVals (lotSpan c hold i) := by
  have := hv.lot i hi
  rw [mem_spanVals, lotSpan]
  split
  · omega
  · simp
theorem Twin.lift (t : Twin c d σ h) (hv : Valid c) {R : Int → Int → Prop} (hR : ∀ i, i < d.lots.length → (nth d.lots i).hold = h → ∀ x ∈ spanVals (nth d.lots i).green, ∃ y ∈ spanVals (nth c.lots (σ i)).green, R y x)
    {p : Int × List Int} (hp : p ∈ allM d h) : ∃ q ∈ allM c h, q.1 = p.1 ∧ ∀ i, i < d.lots.length → (nth d.lots i).hold = h → R (nth q.2 (σ i)) (nth p.2 i) := by
  obtain ⟨h1, h2, h3⟩ := allM_iff.1 hp
  obtain ⟨g, hg, hg2⟩ := list_each (n := c.lots.length) (P := fun j y => y ∈ spanVals (lotSpan c h j) ∧ ∀ i, i < d.lots.length → σ i = j → (nth d.lots i).hold = h → R y (nth p.2 i)) fun j hj => by
    by_cases he : ∃ i, i < d.lots.length ∧ σ i = j ∧ (nth d.lots i).hold = h
    · obtain ⟨i, hi, rfl, hh⟩ := he
      have hx := h3 i hi
      rw [lotSpan_in hh] at hx
      obtain ⟨y, hy, hr⟩ := hR i hi hh _ hx
      refine ⟨y, ?_, fun i' hi' e _ => ?_⟩
      · rw [lotSpan_in ((t.hold i hi).trans hh)]; exact hy
      · rw [t.inj i' i hi' hi e]; exact hr
    · exact ⟨_, lotSpan_lo hv h hj, fun i hi e hh => absurd ⟨i, hi, e, hh⟩ he⟩
  exact ⟨(p.1, g), allM_iff.2 ⟨by rw [t.warm]; exact h1, hg, fun j hj => (hg2 j hj).1⟩, rfl, fun i hi hh => (hg2 _ (t.rng i hi)).2 i hi rfl hh⟩
theorem Twin.down (t : Twin c d σ h) (hv : Valid d) {R : Int → Int → Prop} (hR : ∀ i, i < d.lots.length → (nth d.lots i).hold = h → ∀ y ∈ spanVals (nth c.lots (σ i)).green, ∃ x ∈ spanVals (nth d.lots i).green, R y x)
    {q : Int × List Int} (hq : q ∈ allM c h) : ∃ p ∈ allM d h, p.1 = q.1 ∧ ∀ i, i < d.lots.length → (nth d.lots i).hold = h → R (nth q.2 (σ i)) (nth p.2 i) := by
  obtain ⟨h1, h2, h3⟩ := allM_iff.1 hq
  obtain ⟨g, hg, hg2⟩ := list_each (n := d.lots.length) (P := fun i x => x ∈ spanVals (lotSpan d h i) ∧ ((nth d.lots i).hold = h → R (nth q.2 (σ i)) x)) fun i hi => by
    by_cases hh : (nth d.lots i).hold = h
    · have hy := h3 _ (t.rng i hi)
      rw [lotSpan_in ((t.hold i hi).trans hh)] at hy
      obtain ⟨x, hx, hr⟩ := hR i hi hh _ hy
      exact ⟨x, by rw [lotSpan_in hh]; exact hx, fun _ => hr⟩
    · exact ⟨_, lotSpan_lo hv h hi, fun e => absurd e hh⟩
  exact ⟨(q.1, g), allM_iff.2 ⟨by rw [← t.warm]; exact h1, hg, fun i hi => (hg2 i hi).1⟩, rfl, fun i hi hh => (hg2 i hi).2 hh⟩
theorem Twin.mem (t : Twin c d σ h) {i : Nat} (hi : i ∈ ofL d h []) : σ i ∈ ofL c h [] := by
  rw [ofL_iff] at hi ⊢
  exact ⟨t.rng i hi.1, (t.hold i hi.1).trans hi.2⟩
theorem Twin.sim (t : Twin c d σ h) (hl : c.heat.length = d.heat.length) (hh : ∀ k, nth d.heat k ≤ nth c.heat k) (hg : 0 ≤ d.gas ∧ d.gas ≤ c.gas) {g g' : List Int} (e : g.length = c.lots.length) (e' : g'.length = d.lots.length)
    (hr : ∀ i, i < d.lots.length → (nth d.lots i).hold = h → nth g (σ i) ≤ nth g' i) : Sim c d (ofL c h []) (ofL d h []) g g' σ where
  len := hl
  heat := hh
  gas := hg
  frm := fun i hi _ => t.frm i (ofL_iff.1 hi).1
  green := fun i hi _ => hr i (ofL_iff.1 hi).1 (ofL_iff.1 hi).2
  inD := fun i hi => by rw [e']; exact (ofL_iff.1 hi).1
  inC := fun i hi => by rw [e]; exact (ofL_iff.1 hi).1
  all := .inl fun i hi => t.mem hi
/-- The hours of the cooler one are no sooner. -/
theorem Twin.dom (t : Twin c d σ h) (hv : Valid c) (hv' : Valid d) (hl : c.heat.length = d.heat.length) (hh : ∀ k, nth d.heat k ≤ nth c.heat k) (hg : d.gas ≤ c.gas)
    (up : ∀ i, i < d.lots.length → (nth d.lots i).hold = h → ∀ x ∈ spanVals (nth d.lots i).green, ∃ y ∈ spanVals (nth c.lots (σ i)).green, y ≤ x)
    (dn : ∀ i, i < d.lots.length → (nth d.lots i).hold = h → ∀ y ∈ spanVals (nth c.lots (σ i)).green, ∃ x ∈ spanVals (nth d.lots i).green, y ≤ x) {i : Nat} (hi : i ∈ ofL d h []) :
    (∀ p ∈ allM d h, ∃ q ∈ allM c h, nth (timesW c h q) (σ i) ≤ nth (timesW d h p) i) ∧ (∀ q ∈ allM c h, ∃ p ∈ allM d h, nth (timesW c h q) (σ i) ≤ nth (timesW d h p) i) := by
  have hil := (ofL_iff.1 hi).1
  refine ⟨fun p hp => ?_, fun q hq => ?_⟩
  · obtain ⟨q, hq, e, hr⟩ := t.lift hv up hp
    refine ⟨q, hq, ?_⟩
    rw [timesW, timesW, e]
    exact (t.sim hl hh ⟨hv'.gas.1, hg⟩ (allM_iff.1 hq).2.1 (allM_iff.1 hp).2.1 hr).times hi (t.mem hi) hil (t.rng i hil)
  · obtain ⟨p, hp, e, hr⟩ := t.down hv' dn hq
    refine ⟨p, hp, ?_⟩
    rw [timesW, timesW, e]
    exact (t.sim hl hh ⟨hv'.gas.1, hg⟩ (allM_iff.1 hq).2.1 (allM_iff.1 hp).2.1 hr).times hi (t.mem hi) hil (t.rng i hil)
/-- Lots that turn at the same hours. -/
theorem Twin.eq_ (t : Twin c d σ h) (hl : c.heat = d.heat) (hg : c.gas = d.gas) (hg0 : 0 ≤ c.gas) (back : ∀ j ∈ ofL c h [], τ j ∈ ofL d h [] → σ (τ j) = j) (inv : ∀ i, i < d.lots.length → τ (σ i) = i)
    (all : (∀ j ∈ ofL c h [], τ j ∈ ofL d h []) ∨ c.gas = 0) {p q : Int × List Int} (hp : p ∈ allM d h) (hq : q ∈ allM c h) (e : q.1 = p.1) (hr : ∀ i, i < d.lots.length → (nth d.lots i).hold = h → nth q.2 (σ i) = nth p.2 i)
    {i : Nat} (hi : i ∈ ofL d h []) : nth (timesW c h q) (σ i) = nth (timesW d h p) i := by
  have hil := (ofL_iff.1 hi).1
  rw [timesW, timesW, e]
  have s1 := (t.sim (by rw [hl]) (fun k => by rw [hl]; exact Int.le_refl _) ⟨by rw [← hg]; exact hg0, by rw [hg]; exact Int.le_refl _⟩ (allM_iff.1 hq).2.1 (allM_iff.1 hp).2.1 (fun i hi hh => by rw [hr i hi hh]; exact Int.le_refl _)).times (w := p.1) hi (t.mem hi) hil (t.rng i hil)
  have s2 : Sim d c (ofL d h []) (ofL c h []) p.2 q.2 τ :=
    { len := by rw [hl]
      heat := fun k => by rw [hl]; exact Int.le_refl _
      gas := ⟨hg0, by rw [hg]; exact Int.le_refl _⟩
      frm := fun j hj hk => by have := t.frm _ (ofL_iff.1 hk).1; rw [back j hj hk] at this; exact this.symm
      green := fun j hj hk => by have := hr _ (ofL_iff.1 hk).1 (ofL_iff.1 hk).2; rw [back j hj hk] at this; rw [this]; exact Int.le_refl _
      inD := fun j hj => by rw [(allM_iff.1 hq).2.1]; exact (ofL_iff.1 hj).1
      inC := fun j hj => by rw [(allM_iff.1 hp).2.1]; exact (ofL_iff.1 hj).1
      all := all }
  have s3 := s2.times (w := p.1) (t.mem hi) (by rw [inv i hil]; exact hi) (t.rng i hil) (by rw [inv i hil]; exact hil)
  rw [inv i hil] at s3
  omega
end
/-- Without looks all can be. -/
theorem ways_bare {c : Cargo} (hs : c.seen = []) (h : Nat) : waysM c h [] = allM c h := by
  rw [waysM]
  refine List.filter_eq_self.2 fun p _ => ?_
  rw [wayB, soM, hs]; rfl
theorem some_bare {c : Cargo} (hv : Valid c) (hs : c.seen = []) : someM c [] = true := by
  rw [someM, someTo, List.all_eq_true]
  intro h hh
  have hh' := List.mem_range.1 hh
  have : ((nth c.holds h).lo, (List.range c.lots.length).map fun i => (lotSpan c h i).lo) ∈ allM c h := allM_iff.2 ⟨mem_spanVals.2 ⟨Int.le_refl _, by have := hv.warm h hh'; omega⟩, by simp, fun i hi => by
    have := lotSpan_ok hv (h : Int) hi
    rw [nth_map_range _ hi, mem_spanVals]; omega⟩
  rw [ways_bare hs]
  cases hw : allM c h with
  | nil => rw [hw] at this; cases this
  | cons a t => rfl
theorem hours_bd {c : Cargo} {i : Nat} (hi : i < c.lots.length) : ∀ x ∈ hoursM c i, x ≤ (c.heat.length : Int) + 1 := by
  intro x hx
  rw [hoursM, List.mem_map] at hx
  obtain ⟨p, _, rfl⟩ := hx
  rw [timesW, timesM, nth_map_range _ hi]
  split
  · exact (outAt_bd _ (Nat.le_refl _)).2
  · exact Int.le_refl _
/-- What Turns says of a valid cargo that has a truth. -/
theorem turnsR_parts {c : Cargo} (hv : Valid c) (hs : someM c [] = true) {i : Nat} (hi : i < c.lots.length) : (turnsR c i).2 = 0 ∧ (turnsR c i).1 = (spanH c.heat.length (hoursM c i), setH c.heat.length (hoursM c i)) := by
  rw [turnsR_ok hv hs hi]; exact ⟨rfl, rfl⟩
def laterT (P Q : List Int × Int) : Bool := laterB (nth P.1 0) (nth P.1 1) P.2 (nth Q.1 0) (nth Q.1 1) Q.2
/-- The cooler one turns no sooner. -/
theorem Twin.later {c d : Cargo} {σ : Nat → Nat} {i : Nat} (hv : Valid c) (hv' : Valid d) (hs : c.seen = []) (hs' : d.seen = []) (hi : i < d.lots.length) (t : Twin c d σ (nth d.lots i).hold.toNat) (hl : c.heat.length = d.heat.length) (hh : ∀ k, nth d.heat k ≤ nth c.heat k) (hg : d.gas ≤ c.gas)
    (up : ∀ i, i < d.lots.length → ∀ x ∈ spanVals (nth d.lots i).green, ∃ y ∈ spanVals (nth c.lots (σ i)).green, y ≤ x)
    (dn : ∀ i, i < d.lots.length → ∀ y ∈ spanVals (nth c.lots (σ i)).green, ∃ x ∈ spanVals (nth d.lots i).green, y ≤ x) :
    laterT (turnsR d i).1 (turnsR c (σ i)).1 = true := by
  have hic := t.rng i hi
  have hd := hv'.lot i hi
  have hmem : i ∈ ofL d (nth d.lots i).hold.toNat [] := ofL_iff.2 ⟨hi, by omega⟩
  have ec : (nth c.lots (σ i)).hold = (nth d.lots i).hold := t.hold i hi
  obtain ⟨d1, d2⟩ := t.dom hv hv' hl hh hg (fun i hi _ => up i hi) (fun i hi _ => dn i hi) hmem
  rw [(turnsR_parts hv (some_bare hv hs) hic).2, (turnsR_parts hv' (some_bare hv' hs') hi).2]
  show laterB _ _ _ _ _ _ = true
  rw [hl]
  refine later_dom (hours_ne hv' (some_bare hv' hs') hi) (hours_ne hv (some_bare hv hs) hic) (hours_bd hi) (by have := hours_bd hic; rwa [hl] at this) (fun x hx => ?_) (fun y hy => ?_)
  · rw [hoursM, List.mem_map, ways_bare hs'] at hx
    obtain ⟨p, hp, rfl⟩ := hx
    obtain ⟨q, hq, hle⟩ := d1 p hp
    refine ⟨_, ?_, hle⟩
    rw [hoursM, List.mem_map, ways_bare hs, ec]
    exact ⟨q, hq, rfl⟩
  · rw [hoursM, List.mem_map, ways_bare hs, ec] at hy
    obtain ⟨q, hq, rfl⟩ := hy
    obtain ⟨p, hp, hle⟩ := d2 q hq
    refine ⟨_, ?_, hle⟩
    rw [hoursM, List.mem_map, ways_bare hs']
    exact ⟨p, hp, rfl⟩
end Go.Proofs.Ytbkknliggnhpcaa
