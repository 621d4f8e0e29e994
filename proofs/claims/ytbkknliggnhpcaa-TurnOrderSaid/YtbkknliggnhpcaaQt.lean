/- The plain law of TurnOrder: lots told the other way round. -/
import Derived.Test.YtbkknliggnhpcaaQp
import Derived.Test.YtbkknliggnhpcaaQy
set_option linter.unusedVariables false
set_option linter.unusedSimpArgs false
namespace Go.Proofs.Ytbkknliggnhpcaa

def backS (n : Nat) (s : Seen) : Seen := { s with lot := (n : Int) - 1 - s.lot }
def backC (c : Cargo) : Cargo := { c with lots := c.lots.reverse, seen := c.seen.map (backS c.lots.length) }
def rvI (c : Cargo) (i : Nat) : Nat := c.lots.length - 1 - i
def revP (p : Int × List Int) : Int × List Int := (p.1, p.2.reverse)
theorem backS_two (n : Nat) (s : Seen) : backS n (backS n s) = s := by
  have : (n : Int) - 1 - ((n : Int) - 1 - s.lot) = s.lot := by omega
  cases s; simp only [backS] at *; rw [this]
theorem back_back (c : Cargo) : backC (backC c) = c := by
  show ({ c with lots := c.lots.reverse.reverse, seen := (c.seen.map (backS c.lots.length)).map (backS c.lots.reverse.length) } : Cargo) = c
  rw [List.reverse_reverse, List.length_reverse, List.map_map, show backS c.lots.length ∘ backS c.lots.length = id from funext fun s => backS_two _ s, List.map_id]
theorem back_len (c : Cargo) : (backC c).lots.length = c.lots.length := by simp [backC]
theorem rv_back (c : Cargo) (i : Nat) : rvI (backC c) i = rvI c i := by rw [rvI, back_len]; rfl
theorem nth_rev {α : Type} [Inhabited α] {l : List α} {i : Nat} (h : i < l.length) : nth l.reverse i = nth l (l.length - 1 - i) := by
  rw [nth_eq (by simpa using h), nth_eq (show l.length - 1 - i < l.length by omega), List.getElem_reverse]
theorem revP_two (p : Int × List Int) : revP (revP p) = p := by simp [revP]
section
variable {c : Cargo}
theorem back_lot {i : Nat} (h : i < c.lots.length) : nth (backC c).lots i = nth c.lots (rvI c i) := nth_rev h
theorem back_seen {i : Nat} (h : i < c.seen.length) : nth (backC c).seen i = backS c.lots.length (nth c.seen i) := by
  show nth (c.seen.map _) i = _
  rw [nth_eq (by simpa using h), nth_eq h, List.getElem_map]
theorem rv_lt {i : Nat} (h : i < c.lots.length) : rvI c i < c.lots.length ∧ rvI c (rvI c i) = i := by simp only [rvI]; omega
theorem back_valid (hv : Valid c) : Valid (backC c) := by
  refine ⟨hv.hours, hv.heat, hv.gas, hv.holds, hv.warm, by rw [back_len]; exact hv.lots, fun i hi => ?_, by simpa [backC] using hv.seens, fun i hi => ?_⟩
  · rw [back_len] at hi
    rw [back_lot hi]; exact hv.lot _ (rv_lt hi).1
  · have hi' : i < c.seen.length := by simpa [backC] using hi
    obtain ⟨h1, h2, h3, h4⟩ := hv.seen i hi'
    rw [back_seen hi', back_len]
    have e : ((c.lots.length : Int) - 1 - (nth c.seen i).lot).toNat < c.lots.length := by omega
    refine ⟨by show 0 ≤ (c.lots.length : Int) - 1 - _; omega, by show (c.lots.length : Int) - 1 - _ < _; omega, ?_, h4⟩
    show (nth (backC c).lots ((c.lots.length : Int) - 1 - (nth c.seen i).lot).toNat).frm ≤ (nth c.seen i).hour
    rw [back_lot e, show rvI c ((c.lots.length : Int) - 1 - (nth c.seen i).lot).toNat = (nth c.seen i).lot.toNat by rw [rvI]; omega]
    exact h3
theorem back_mem {h : Int} {but but' : List Int} (hb : ∀ i, i < c.lots.length → hasInt but' (i : Int) = hasInt but ((rvI c i : Nat) : Int)) {i : Nat} (hi : i < c.lots.length) : (ofL (backC c) h but').contains i = (ofL c h but).contains (rvI c i) := by
  rw [ofL_mem, ofL_mem, back_lot hi, hb i hi, back_len, decide_eq_true hi, decide_eq_true (rv_lt hi).1]
theorem back_sim (hv : Valid c) {h : Int} {but but' : List Int} (hb : ∀ i, i < c.lots.length → hasInt but' (i : Int) = hasInt but ((rvI c i : Nat) : Int)) {g g' : List Int} (hg : g.length = c.lots.length) (hg' : g'.length = c.lots.length) (e : ∀ i, i < c.lots.length → nth g' i = nth g (rvI c i)) :
    Sim c (backC c) (ofL c h but) (ofL (backC c) h but') g g' (rvI c) := by
  have hl : ∀ i ∈ ofL (backC c) h but', i < c.lots.length := fun i hi => by have := ofL_lt i hi; rwa [back_len] at this
  refine ⟨rfl, fun _ => Int.le_refl _, ⟨hv.gas.1, Int.le_refl _⟩, fun i hi _ => by rw [back_lot (hl i hi)], fun i hi _ => by rw [e i (hl i hi)]; exact Int.le_refl _, fun i hi => by rw [hg']; exact hl i hi, fun i hi => by rw [hg]; exact ofL_lt i hi, .inl fun i hi => ?_⟩
  have := back_mem (h := h) hb (hl i hi)
  rw [List.contains_iff_mem.2 hi] at this
  exact List.contains_iff_mem.1 this.symm
theorem back_times (hv : Valid c) {h : Int} {but but' : List Int} (hb : ∀ i, i < c.lots.length → hasInt but' (i : Int) = hasInt but ((rvI c i : Nat) : Int)) {w : Int} {g g' : List Int} (hg : g.length = c.lots.length) (hg' : g'.length = c.lots.length) (e : ∀ i, i < c.lots.length → nth g' i = nth g (rvI c i))
    {i : Nat} (hi : i < c.lots.length) : nth (timesM (backC c) (ofL (backC c) h but') w g') i = nth (timesM c (ofL c h but) w g) (rvI c i) := by
  have hm := back_mem (h := h) hb hi
  obtain ⟨r1, r2⟩ := rv_lt hi
  have hi' : i < (backC c).lots.length := by rw [back_len]; exact hi
  cases hc : (ofL c h but).contains (rvI c i) with
  | false => rw [hc] at hm; rw [timesM_out hc r1, timesM_out hm hi']; rfl
  | true =>
    rw [hc] at hm
    have m1 := List.contains_iff_mem.1 hc
    have m2 := List.contains_iff_mem.1 hm
    have s1 := (back_sim hv hb hg hg' e (h := h)).times (w := w) m2 m1 hi' r1
    have hb2 : ∀ i, i < (backC c).lots.length → hasInt but (i : Int) = hasInt but' ((rvI (backC c) i : Nat) : Int) := fun j hj => by
      rw [back_len] at hj
      rw [rv_back, hb _ (rv_lt hj).1, (rv_lt hj).2]
    have s2 := back_sim (c := backC c) (back_valid hv) hb2 (h := h) (g := g') (g' := g) (by rw [hg', back_len]) (by rw [hg, back_len]) (fun j hj => by
      rw [back_len] at hj
      rw [rv_back, e _ (rv_lt hj).1, (rv_lt hj).2])
    rw [back_back] at s2
    have e3 : rvI (backC c) (rvI c i) = i := by rw [rv_back, r2]
    have s3 := s2.times (w := w) (i := rvI c i) m1 (by rw [e3]; exact m2) r1 (by rw [e3]; exact hi')
    rw [e3] at s3
    omega
theorem back_all {h : Nat} {p : Int × List Int} (hp : p ∈ allM c h) : revP p ∈ allM (backC c) h := by
  obtain ⟨h1, h2, h3⟩ := allM_iff.1 hp
  refine allM_iff.2 ⟨h1, by show p.2.reverse.length = _; rw [List.length_reverse, back_len, h2], fun i hi => ?_⟩
  rw [back_len] at hi
  show nth p.2.reverse i ∈ _
  rw [nth_rev (by omega), lotSpan, back_lot hi, h2]
  exact h3 _ (rv_lt hi).1
theorem back_timesB (hv : Valid c) {h : Int} {but but' : List Int} (hb : ∀ i, i < c.lots.length → hasInt but' (i : Int) = hasInt but ((rvI c i : Nat) : Int)) {p : Int × List Int} (hp : p.2.length = c.lots.length) {i : Nat} (hi : i < c.lots.length) :
    nth (timesM (backC c) (ofL (backC c) h but') (revP p).1 (revP p).2) i = nth (timesM c (ofL c h but) p.1 p.2) (rvI c i) :=
  back_times hv hb hp (by show p.2.reverse.length = _; rw [List.length_reverse, hp]) (fun j hj => by show nth p.2.reverse j = _; rw [nth_rev (by omega), hp]; rfl) hi
theorem back_timesW (hv : Valid c) {h : Nat} {p : Int × List Int} (hp : p.2.length = c.lots.length) {i : Nat} (hi : i < c.lots.length) : nth (timesW (backC c) h (revP p)) i = nth (timesW c h p) (rvI c i) :=
  back_timesB hv (fun _ _ => rfl) hp hi
theorem back_ways (hv : Valid c) {h : Nat} {p : Int × List Int} (hp : p ∈ waysM c h []) : revP p ∈ waysM (backC c) h [] := by
  rw [waysM, List.mem_filter] at hp ⊢
  refine ⟨back_all hp.1, ?_⟩
  have hl := (allM_iff.1 hp.1).2.1
  have h2 := hp.2
  rw [wayB, soM, soTo, List.all_eq_true] at h2 ⊢
  intro i hi
  have hi' : i < c.seen.length := by simpa [backC] using hi
  have h3 := h2 i (List.mem_range.2 hi')
  obtain ⟨a1, a2, a3, a4⟩ := hv.seen i hi'
  have hk : ((c.lots.length : Int) - 1 - (nth c.seen i).lot).toNat < c.lots.length := by omega
  have hr : rvI c ((c.lots.length : Int) - 1 - (nth c.seen i).lot).toNat = (nth c.seen i).lot.toNat := by rw [rvI]; omega
  rw [lookB] at h3 ⊢
  rw [back_seen hi']
  show (!(decide ((nth (backC c).lots ((c.lots.length : Int) - 1 - (nth c.seen i).lot).toNat).hold = h) && !hasInt [] i) || (decide (nth (timesW (backC c) h (revP p)) ((c.lots.length : Int) - 1 - (nth c.seen i).lot).toNat ≤ (nth c.seen i).hour) == (nth c.seen i).turned)) = true
  rw [back_lot hk, back_timesW hv hl hk, hr]
  exact h3
theorem back_hours (hv : Valid c) {i : Nat} (hi : i < c.lots.length) {x : Int} (hx : x ∈ hoursM c (rvI c i)) : x ∈ hoursM (backC c) i := by
  rw [hoursM, List.mem_map] at hx ⊢
  obtain ⟨p, hp, rfl⟩ := hx
  rw [back_lot hi]
  have hl := (allM_iff.1 (List.mem_filter.1 hp).1).2.1
  exact ⟨revP p, back_ways hv hp, back_timesW hv hl hi⟩
theorem hours_back (hv : Valid c) {i : Nat} (hi : i < c.lots.length) {x : Int} : x ∈ hoursM (backC c) i ↔ x ∈ hoursM c (rvI c i) := by
  refine ⟨fun hx => ?_, back_hours hv hi⟩
  have := back_hours (c := backC c) (i := rvI c i) (back_valid hv) (by rw [back_len]; exact (rv_lt hi).1) (x := x) (by rw [rv_back, (rv_lt hi).2]; exact hx)
  rwa [back_back] at this
theorem back_some (hv : Valid c) (hs : someM c [] = true) : someM (backC c) [] = true := by
  rw [someM, someTo, List.all_eq_true] at hs ⊢
  intro h hh
  have h1 := hs h hh
  cases hw : waysM c h [] with
  | nil => rw [hw] at h1; cases h1
  | cons p t =>
    have := back_ways (h := h) hv (p := p) (by rw [hw]; simp)
    cases hw2 : waysM (backC c) h [] with
    | nil => rw [hw2] at this; cases this
    | cons q u => rfl
theorem back_turns (hv : Valid c) (hs : someM c [] = true) {i : Nat} (hi : i < c.lots.length) : turnsR (backC c) (rvI c i) = turnsR c i := by
  obtain ⟨r1, r2⟩ := rv_lt hi
  have hv' := back_valid hv
  have hs' := back_some hv hs
  have r1' : rvI c i < (backC c).lots.length := by rw [back_len]; exact r1
  obtain ⟨a1, a2⟩ := turnsR_parts hv hs hi
  obtain ⟨b1, b2⟩ := turnsR_parts hv' hs' r1'
  obtain ⟨e1, e2⟩ := span_set (n := c.heat.length) (hours_ne hv' hs' r1') (hours_ne hv hs hi) (fun x hx => by have := (hours_back hv r1).1 hx; rwa [r2] at this) (fun x hx => (hours_back hv r1).2 (by rw [r2]; exact hx))
  refine Prod.ext ?_ (by rw [a1, b1])
  rw [a2, b2]
  show (spanH c.heat.length _, setH c.heat.length _) = _
  rw [e1, e2]
theorem green_back (hv : Valid c) {at_ : Int} {i : Nat} (hi : i < c.lots.length) : greenM (backC c) i at_ = greenM c (rvI c i) at_ := by
  rw [greenM, greenTo, List.take_length, greenM, greenTo, List.take_length, back_lot hi]
  congr 1
  rw [Bool.eq_iff_iff, List.all_eq_true, List.all_eq_true]
  exact ⟨fun h x hx => h x ((hours_back hv hi).2 hx), fun h x hx => h x ((hours_back hv hi).1 hx)⟩
end
theorem filt_rev {n : Nat} {p q : Nat → Bool} (h : ∀ i, i < n → p i = q (n - 1 - i)) : ((List.range n).filter p).length = ((List.range n).filter q).length := by
  have e : (List.range n).reverse = (List.range n).map fun i => n - 1 - i := by
    apply List.ext_getElem (by simp)
    intro i h1 h2
    simp
  have e2 : ((List.range n).filter q).length = ((List.range n).reverse.filter q).length := by rw [List.filter_reverse, List.length_reverse]
  rw [e2, e, List.filter_map, List.length_map]
  congr 1
  exact List.filter_congr fun i hi => h i (List.mem_range.1 hi)
theorem hasInt_nat (l : List Nat) (i : Nat) : hasInt (natInts l) (i : Int) = l.contains i := by
  rw [Bool.eq_iff_iff, hasInt, List.any_eq_true, List.contains_iff_mem]
  simp only [natInts, List.mem_map, beq_iff_eq]
  constructor
  · rintro ⟨x, ⟨k, hk, rfl⟩, e⟩
    obtain rfl : k = i := by omega
    exact hk
  · intro h; exact ⟨_, ⟨i, h, rfl⟩, rfl⟩
section
variable {c : Cargo}
theorem first_one (hv : Valid c) {h : Nat} {i : Nat} (hi : i < c.lots.length) (hx : (waysM c h []).any (firstB c h (rvI c i)) = true) : (waysM (backC c) h []).any (firstB (backC c) h i) = true := by
  rw [List.any_eq_true] at hx ⊢
  obtain ⟨p, hp, hf⟩ := hx
  have hl := (allM_iff.1 (List.mem_filter.1 hp).1).2.1
  refine ⟨revP p, back_ways hv hp, ?_⟩
  rw [firstB, Bool.and_eq_true, List.all_eq_true, decide_eq_true_eq] at hf ⊢
  rw [back_timesW hv hl hi]
  refine ⟨hf.1, fun k hk => ?_⟩
  have hk1 : k < c.lots.length := by have := ofL_lt k hk; rwa [back_len] at this
  rw [back_timesW hv hl hk1]
  refine hf.2 _ ?_
  have := back_mem (c := c) (h := h) (but := []) (but' := []) (fun _ _ => rfl) hk1
  rw [List.contains_iff_mem.2 hk] at this
  exact List.contains_iff_mem.1 this.symm
theorem first_any_back (hv : Valid c) {h : Nat} {i : Nat} (hi : i < c.lots.length) : (waysM (backC c) h []).any (firstB (backC c) h i) = (waysM c h []).any (firstB c h (rvI c i)) := by
  rw [Bool.eq_iff_iff]
  refine ⟨fun hx => ?_, first_one hv hi⟩
  have := first_one (c := backC c) (i := rvI c i) (back_valid hv) (by rw [back_len]; exact (rv_lt hi).1) (h := h) (by rw [rv_back, (rv_lt hi).2]; exact hx)
  rwa [back_back] at this
theorem firstR_ok (hv : Valid c) (hs : someM c [] = true) {hd : Nat} (hh : hd < c.holds.length) : firstR c hd = (List.range c.lots.length).filter fun q => (ofL c hd []).contains q && (waysM c hd []).any (firstB c hd q) := by
  rw [firstR, if_neg (by rw [firstE_ok7 hv hs hh]; simp), Int.toNat_natCast, ofL, ofTo, List.filter_filter]
  refine List.filter_congr fun q hq => ?_
  rw [Bool.and_comm]
  congr 1
  have := ofL_mem (c := c) (hold := (hd : Int)) (but := []) (i := q)
  rw [ofL, ofTo] at this
  rw [this, decide_eq_true (List.mem_range.1 hq), Bool.true_and, hasInt_nil]
theorem back_first (hv : Valid c) (hs : someM c [] = true) {hd : Nat} (hh : hd < c.holds.length) : (firstR (backC c) hd).length = (firstR c hd).length ∧ ∀ i, i < c.lots.length → hasInt (natInts (firstR c hd)) (i : Int) = hasInt (natInts (firstR (backC c) hd)) ((rvI c i : Nat) : Int) := by
  have hk : ∀ i, i < c.lots.length → ((ofL (backC c) hd []).contains i && (waysM (backC c) hd []).any (firstB (backC c) hd i)) = ((ofL c hd []).contains (rvI c i) && (waysM c hd []).any (firstB c hd (rvI c i))) := fun i hi => by
    rw [back_mem (c := c) (h := hd) (but := []) (but' := []) (fun _ _ => rfl) hi, first_any_back hv hi]
  rw [firstR_ok hv hs hh, firstR_ok (back_valid hv) (back_some hv hs) (show hd < (backC c).holds.length from hh), back_len]
  refine ⟨filt_rev hk, fun i hi => ?_⟩
  obtain ⟨r1, r2⟩ := rv_lt hi
  have := hk _ r1
  rw [r2] at this
  rw [has_filter, has_filter, decide_eq_true hi, decide_eq_true r1, this]
theorem back_safe (hv : Valid c) (hs : someM c [] = true) {at_ : Int} (h : 0 ≤ at_ ∧ at_ ≤ c.heat.length) : (safeR (backC c) at_).length = (safeR c at_).length ∧ ∀ i, i < c.lots.length → hasInt (natInts (safeR c at_)) (i : Int) = hasInt (natInts (safeR (backC c) at_)) ((rvI c i : Nat) : Int) := by
  have hv' := back_valid hv
  have hs' := back_some hv hs
  have h' : 0 ≤ at_ ∧ at_ ≤ (backC c).heat.length := h
  constructor
  · rw [safeR, if_pos (safeE_ok hv' hs' h'), safeM, safeTo, safeR, if_pos (safeE_ok hv hs h), safeM, safeTo, back_len]
    exact filt_rev fun i hi => green_back hv hi
  · intro i hi
    obtain ⟨r1, r2⟩ := rv_lt hi
    rw [safeR_has hv hs h hi, safeR_has hv' hs' h' (by rw [back_len]; exact r1), green_back hv r1, r2]
theorem lasts_one (hv : Valid c) {hd : Nat} {un : Int} {but but' : List Int} (hb : ∀ i, i < c.lots.length → hasInt but' (i : Int) = hasInt but ((rvI c i : Nat) : Int)) (hx : lastsR c hd un but = true) : lastsR (backC c) hd un but' = true := by
  rw [lastsR, List.all_eq_true] at hx ⊢
  intro p hp
  have hl := (allM_iff.1 (List.mem_filter.1 hp).1).2.1
  rw [back_len] at hl
  have h1 := back_ways (c := backC c) (back_valid hv) hp
  rw [back_back] at h1
  have h2 := hx _ h1
  rw [List.all_eq_true] at h2 ⊢
  intro q hq
  have hq1 : q < c.lots.length := by have := ofL_lt q hq; rwa [back_len] at this
  have hm := back_mem (c := c) (h := hd) hb hq1
  rw [List.contains_iff_mem.2 hq] at hm
  have h3 := h2 _ (List.contains_iff_mem.1 hm.symm)
  have ht := back_timesB (h := hd) (p := revP p) hv hb (by show p.2.reverse.length = _; rw [List.length_reverse, hl]) hq1
  rw [revP_two] at ht
  rw [lastB] at h3 ⊢
  rw [back_lot hq1, ht]
  exact h3
def rvFact : Bool := (List.range 5).all fun n => (List.range (2 ^ n)).all fun s => (List.range (2 ^ n)).any fun t => (List.range n).all fun i => t.testBit i == s.testBit (n - 1 - i)
theorem rvFact_true : rvFact = true := by kernel_rfl
theorem rv_bits {n s : Nat} (hn : n ≤ 4) (hs : s < 2 ^ n) : ∃ t, t < 2 ^ n ∧ ∀ i, i < n → t.testBit i = s.testBit (n - 1 - i) := by
  have h := rvFact_true
  rw [rvFact, List.all_eq_true] at h
  have h1 := h n (List.mem_range.2 (by omega))
  rw [List.all_eq_true] at h1
  have h2 := h1 s (List.mem_range.2 hs)
  rw [List.any_eq_true] at h2
  obtain ⟨t, ht, h3⟩ := h2
  rw [List.all_eq_true] at h3
  exact ⟨t, List.mem_range.1 ht, fun i hi => by simpa using h3 i (List.mem_range.2 hi)⟩
theorem sub_of_mem (hn : c.lots.length ≤ 4) {hd s : Nat} (hs : s < 2 ^ c.lots.length) (h : ∀ q ∈ listN s c.lots.length, q ∈ ofL c hd []) : ((s &&& (31 - ofB c (hd : Int) c.lots.length)) == 0) = true := by
  have h16 : 2 ^ c.lots.length ≤ 16 := Nat.pow_le_pow_right (by omega) hn
  have ha := ofB_lt c (hd : Int) c.lots.length
  rw [sub_zero (by omega) (by omega), List.all_eq_true]
  intro i _
  by_cases hb : s.testBit i = true
  · have hi : i < c.lots.length := Classical.byContradiction fun hge => by
      rw [Nat.testBit_lt_two_pow (Nat.lt_of_lt_of_le hs (Nat.pow_le_pow_right (by omega) (Nat.le_of_not_lt hge)))] at hb
      cases hb
    have h1 := h i (List.mem_filter.2 ⟨List.mem_range.2 hi, by simpa using hb⟩)
    rw [ofL_listN c hd hn, listN, List.mem_filter] at h1
    have : (ofB c (hd : Int) c.lots.length).testBit i = true := by simpa using h1.2
    rw [this]; simp
  · have : s.testBit i = false := by simpa using hb
    rw [this]; rfl
/-- What Out says. -/
theorem out_parts (hv : Valid c) (hs : someM c [] = true) {hd : Nat} (hh : hd < c.holds.length) {un : Int} (hu : 0 ≤ un ∧ un ≤ c.heat.length) : (outV c hd un).2 = 0 ∧ ∃ s, s < 2 ^ c.lots.length ∧ (outV c hd un).1 = listN s c.lots.length ∧ (∀ q ∈ listN s c.lots.length, q ∈ ofL c hd []) ∧ lastsR c hd un (natInts (listN s c.lots.length)) = true ∧
    ∀ t, t < 2 ^ c.lots.length → (∀ q ∈ listN t c.lots.length, q ∈ ofL c hd []) → lastsR c hd un (natInts (listN t c.lots.length)) = true → (listN s c.lots.length).length ≤ (listN t c.lots.length).length := by
  have hn := hv.lots
  have h16 : 2 ^ c.lots.length ≤ 16 := Nat.pow_le_pow_right (by omega) hn
  have ha := ofB_lt c (hd : Int) c.lots.length
  have hE := outE_ok hv hs hh hu
  have hans := fun t (ht : t < 2 ^ c.lots.length) => outDo_eq hv hh (s := t) (by omega) un
  have hL := ofL_listN c (hd : Int) hn
  have hV : outV c hd un = ((fwTo c.lots.length (outDo c un (ofB c hd c.lots.length) hd) (2 ^ c.lots.length)).getD [], 0) := by
    rw [outV, outE_eq, hE, if_neg (by simp), Int.toNat_natCast]
  have hl := fwTo_least (ans := outDo c un (ofB c (hd : Int) c.lots.length) hd) hn (2 ^ c.lots.length) (Nat.le_refl _)
  have ha2 : outDo c un (ofB c (hd : Int) c.lots.length) hd (ofB c (hd : Int) c.lots.length) = true := by
    rw [hans _ ha, ← hL, lasts_all c hd un, Bool.and_true]
    have : ∀ a : Fin 16, (((a : Nat) &&& (31 - (a : Nat))) == 0) = true := of_decide_eq_true (by kernel_rfl)
    exact this ⟨_, by omega⟩
  cases ho : fwTo c.lots.length (outDo c un (ofB c (hd : Int) c.lots.length) hd) (2 ^ c.lots.length) with
  | none => rw [ho] at hl; have := hl _ ha; rw [ha2] at this; cases this
  | some r =>
    rw [ho] at hl hV
    obtain ⟨s, hs2, hsa, rfl, hm⟩ := hl
    rw [hans s hs2, Bool.and_eq_true] at hsa
    refine ⟨by rw [hV], s, hs2, by rw [hV]; rfl, fun q hq => mem_of_sub hn hs2 hsa.1 hq, hsa.2, fun t ht h1 h2 => ?_⟩
    have := hm t ht (by rw [hans t ht, sub_of_mem hn ht h1, h2]; rfl)
    rw [rk, rk] at this
    omega
theorem out_one (hv : Valid c) (hs : someM c [] = true) {hd : Nat} (hh : hd < c.holds.length) {un : Int} (hu : 0 ≤ un ∧ un ≤ c.heat.length) : (outV (backC c) hd un).1.length ≤ (outV c hd un).1.length := by
  obtain ⟨-, s, h1, h2, h3, h4, -⟩ := out_parts hv hs hh hu
  obtain ⟨-, s', k1, k2, -, -, k5⟩ := out_parts (back_valid hv) (back_some hv hs) (hd := hd) hh (un := un) hu
  rw [back_len] at k1 k2 k5
  obtain ⟨t, t1, t2⟩ := rv_bits hv.lots h1
  have e : ∀ i, i < c.lots.length → hasInt (natInts (listN t c.lots.length)) (i : Int) = hasInt (natInts (listN s c.lots.length)) ((rvI c i : Nat) : Int) := fun i hi => by
    rw [listN, listN, has_filter, has_filter, decide_eq_true hi, decide_eq_true (rv_lt hi).1, t2 i hi]; rfl
  have hlen : (listN t c.lots.length).length = (listN s c.lots.length).length := by rw [listN, listN]; exact filt_rev t2
  rw [h2, k2, ← hlen]
  refine k5 t t1 (fun q hq => ?_) (lasts_one hv e h4)
  rw [listN, List.mem_filter, List.mem_range] at hq
  have hq2 : s.testBit (rvI c q) = true := by have := t2 q hq.1; rw [show t.testBit q = true by simpa using hq.2] at this; exact this.symm
  have hm := back_mem (c := c) (h := hd) (but := []) (but' := []) (fun _ _ => rfl) hq.1
  rw [List.contains_iff_mem.2 (h3 _ (List.mem_filter.2 ⟨List.mem_range.2 (rv_lt hq.1).1, by simpa using hq2⟩))] at hm
  exact List.contains_iff_mem.1 hm
structure OrderOk (c : Cargo) (hd : Nat) (at_ : Int) : Prop where
  safe0 : safeE c at_ = 0
  safe1 : safeE (backC c) at_ = 0
  first0 : firstE7 c hd = 0
  first1 : firstE7 (backC c) hd = 0
  out0 : (outV c hd at_).2 = 0
  out1 : (outV (backC c) hd at_).2 = 0
  safeN : (safeR (backC c) at_).length = (safeR c at_).length
  firstN : (firstR (backC c) hd).length = (firstR c hd).length
  outN : (outV (backC c) hd at_).1.length = (outV c hd at_).1.length
  each : ∀ i, i < c.lots.length → turnsR (backC c) (rvI c i) = turnsR c i ∧ hasInt (natInts (safeR c at_)) (i : Int) = hasInt (natInts (safeR (backC c) at_)) ((rvI c i : Nat) : Int) ∧ hasInt (natInts (firstR c hd)) (i : Int) = hasInt (natInts (firstR (backC c) hd)) ((rvI c i : Nat) : Int)
theorem order_ok (hv : Valid c) (hs : someM c [] = true) {hd : Nat} (hh : hd < c.holds.length) {at_ : Int} (h : 0 ≤ at_ ∧ at_ ≤ c.heat.length) : OrderOk c hd at_ := by
  have hv' := back_valid hv
  have hs' := back_some hv hs
  obtain ⟨a1, a2⟩ := back_safe hv hs h
  obtain ⟨b1, b2⟩ := back_first hv hs hh
  have o1 := out_one hv hs hh h
  have o2 := out_one (c := backC c) hv' hs' (hd := hd) hh (un := at_) h
  rw [back_back] at o2
  exact ⟨safeE_ok hv hs h, safeE_ok hv' hs' h, firstE_ok7 hv hs hh, firstE_ok7 hv' hs' hh, (out_parts hv hs hh h).1, (out_parts hv' hs' (hd := hd) hh (un := at_) h).1, a1, b1, by omega, fun i hi => ⟨back_turns hv hs hi, a2 i hi, b2 i hi⟩⟩
end
end Go.Proofs.Ytbkknliggnhpcaa
