/- The plain law of chapter 12: what looking leaves; what got lost; sets of the reference. -/
import Derived.Test.YtocdmkilnbpkdaaGreatDoorYC
set_option linter.unusedVariables false
set_option linter.unusedSimpArgs false
namespace Go.Proofs.YtocdmkilnbpkdaaGreatDoor
open Go.RowKit

/-- What the program says got lost, and what the reference does. -/
def Way.lostW (T : Way) (h : Nat → Span) (i : Nat) : Span := if T.kids i = [] then ⟨0, 0⟩ else both (lessW (h i) (T.outW h i)) ⟨0, T.loss i⟩
def Way.lost (T : Way) (c : Nat → Span) (i : Nat) : Span := if T.kids i = [] then ⟨0, 0⟩ else ⟨max ((T.d c i).lo - sHi (T.u c) (T.kids i)) 0, min ((T.d c i).hi - sLo (T.u c) (T.kids i)) (T.loss i)⟩
section
variable {T : Way} {c : Nat → Span}
theorem d_tame (ht : T.Ok) (hc : In99 T c) (hn : NeS T (T.u c)) : Tame T (T.d c) := fun i hi => by
 have h1 := d_sub (c := c) ht i hi
 have h2 := u_facts ht hn hi
 have h3 := hc i hi
 have h4 := d_ne ht hn i hi
 omega
theorem lost_eq (ht : T.Ok) (hc : In99 T c) (hn : NeS T (T.u c)) {h : Nat → Span} (hh : ∀ i, i < T.n → h i = T.d c i) {i : Nat} (hi : i < T.n) : T.lostW h i = T.lost c i := by
 unfold Way.lostW Way.lost
 by_cases hk : T.kids i = []
 · rw [if_pos hk, if_pos hk]
 · rw [if_neg hk, if_neg hk]
   have hd := d_tame ht hc hn
   have hT : Tame T h := fun j hj => by rw [hh j hj]; exact hd j hj
   have hs := d_sub (c := c) ht
   have hl := ht.loss i hi
   have hsd := sum_tame hd (fun x hx => (kid_gt ht hx).2) (kids_len ht i)
   have e1 : sLo h (T.kids i) = sLo (T.d c) (T.kids i) := sumL_ext fun k hk => by rw [hh k (kid_gt ht hk).2]
   have e2 : sHi h (T.kids i) = sHi (T.d c) (T.kids i) := sumL_ext fun k hk => by rw [hh k (kid_gt ht hk).2]
   rw [outW_tame ht hT, hh i hi, e1, e2]
   have hdi := hd i hi
   have hlo : ∀ k ∈ T.kids i, (T.u c k).lo ≤ (T.d c k).lo := fun k hk => (hs k (kid_gt ht hk).2).1
   have hhi : ∀ k ∈ T.kids i, (T.d c k).hi ≤ (T.u c k).hi := fun k hk => (hs k (kid_gt ht hk).2).2
   have hlh : ∀ k ∈ T.kids i, (T.d c k).lo ≤ (T.u c k).hi := fun k hk => Int.le_trans (hd k (kid_gt ht hk).2).2.1 (hhi k hk)
   have hhl : ∀ k ∈ T.kids i, (T.u c k).lo ≤ (T.d c k).hi := fun k hk => Int.le_trans (hlo k hk) (hd k (kid_gt ht hk).2).2.1
   have a1 : max ((T.d c i).lo - sHi (T.d c) (T.kids i)) 0 = max ((T.d c i).lo - sHi (T.u c) (T.kids i)) 0 := by
    unfold sHi
    by_cases h : ∃ k ∈ T.kids i, (T.d c k).hi ≠ (T.u c k).hi
    · obtain ⟨k, hk, hne⟩ := h
      obtain ⟨_, h1⟩ := d_kid (c := c) ht hk
      have := sumL_less (f := fun k => (T.u c k).lo) (g := fun k => (T.d c k).hi) hk hhl
      have := sumL_le (f := fun k => (T.d c k).hi) (g := fun k => (T.u c k).hi) hhi
      unfold sLo at h1
      omega
    · rw [sumL_ext fun k hk => Classical.not_not.1 fun hne => h ⟨k, hk, hne⟩]
   have a2 : min ((T.d c i).hi - sLo (T.d c) (T.kids i)) (T.loss i) = min ((T.d c i).hi - sLo (T.u c) (T.kids i)) (T.loss i) := by
    unfold sLo
    by_cases h : ∃ k ∈ T.kids i, (T.d c k).lo ≠ (T.u c k).lo
    · obtain ⟨k, hk, hne⟩ := h
      obtain ⟨h1, _⟩ := d_kid (c := c) ht hk
      have := sumL_less (f := fun k => (T.d c k).lo) (g := fun k => (T.u c k).hi) hk hlh
      have := sumL_le (f := fun k => (T.u c k).lo) (g := fun k => (T.d c k).lo) hlo
      unfold sHi at h1
      omega
    · rw [sumL_ext fun k hk => Classical.not_not.1 fun hne => h ⟨k, hk, hne⟩]
   unfold lessW both
   simp only
   rw [wrap_id (by omega), wrap_id (by omega), a1, a2]
/-- What looking at a book leaves: passes, from what can be by itself. -/
inductive Reach (T : Way) (c : Nat → Span) : (Nat → Span) → Prop
 | base : Reach T c c
 | pass {h : Nat → Span} : Reach T c h → Reach T c (T.passW h)
theorem reach_keep (ht : T.Ok) (hc : In99 T c) {h : Nat → Span} (hr : Reach T c h) : (∀ j, (c j).lo ≤ (h j).lo ∧ (h j).hi ≤ (c j).hi) ∧ (neB (T.u c 0) = true → SubS T (T.d c) h) := by
 induction hr with
 | base => exact ⟨fun _ => ⟨Int.le_refl _, Int.le_refl _⟩, fun hn i hi => by
  have h1 := d_sub (c := c) ht i hi
  have h2 := u_facts ht (u_ne ht hn) hi
  omega⟩
 | pass hr ih =>
  rename_i h
  have hnp := nar_pass T h
  refine ⟨fun j => ?_, fun hn => ?_⟩
  · have a := ih.1 j
    have b := hnp j
    omega
  · refine (keep_pass ht (d_tame ht hc (u_ne ht hn)) (d_closed ht (u_ne ht hn)) (fun j hj => ?_) (ih.2 hn)).2
    have a := ih.1 j
    have b := hc j hj
    omega
/-- Behind the last pass: nothing is told any more, or there is a step with no number. -/
def Looked (T : Way) (c h : Nat → Span) (ok : Bool) : Prop :=
 Reach T c h ∧ (ok = true → (∀ i, i < T.n → (h i).lo ≤ (h i).hi) ∧ (T.passW h = h ∨ ∀ i, i < T.n → h i = ⟨0, 0⟩)) ∧ (ok = false → ∃ i, i < T.n ∧ (h i).hi < (h i).lo)
theorem looked (ht : T.Ok) (hc : In99 T c) {h : Nat → Span} {ok : Bool} (hl : Looked T c h ok) : ok = neB (T.u c 0) ∧ (ok = true → ∀ i, i < T.n → h i = T.d c i) := by
 obtain ⟨hr, h1, h2⟩ := hl
 obtain ⟨k1, k2⟩ := reach_keep ht hc hr
 have h99 : ∀ i, i < T.n → 0 ≤ (h i).lo ∧ (h i).hi ≤ 99 := fun i hi => by
  have a := k1 i
  have b := hc i hi
  omega
 cases ok with
 | false =>
  obtain ⟨i, hi, he⟩ := h2 rfl
  refine ⟨?_, fun h => by cases h⟩
  cases hn : neB (T.u c 0) with
  | false => rfl
  | true =>
   have a := k2 hn i hi
   have b := d_ne ht (u_ne ht hn) i hi
   omega
 | true =>
  obtain ⟨g1, g2⟩ := h1 rfl
  have hT : Tame T h := fun i hi => by
   have a := h99 i hi
   have b := g1 i hi
   omega
  have hcl : ClosedS T h := by
   rcases g2 with g2 | g2
   · exact fix_closed ht hT g2
   · intro i hi hk
     have hl := ht.loss i hi
     have z : ∀ l : List Nat, sumL (fun _ => 0) l = 0 := fun l => by
      induction l with
      | nil => rfl
      | cons x l ih => simp [sumL, ih]
     have e1 : sLo h (T.kids i) = 0 := (sumL_ext (g := fun _ => 0) fun k hk => by rw [g2 k (kid_gt ht hk).2]).trans (z _)
     have e2 : sHi h (T.kids i) = 0 := (sumL_ext (g := fun _ => 0) fun k hk => by rw [g2 k (kid_gt ht hk).2]).trans (z _)
     rw [e1, e2, g2 i hi]
     refine ⟨by simp only; omega, fun k hk2 => ?_⟩
     rw [g2 k (kid_gt ht hk2).2]
     simp only; omega
  have hsc : SubS T h c := fun i _ => k1 i
  have hu : neB (T.u c 0) = true := by
   have a := u_of_sub g1 (in_u ht g1 hcl hsc h99) 0 ht.pos
   exact decide_eq_true a
  exact ⟨hu.symm, fun _ => is_d ht g1 hcl hsc h99 (k2 hu)⟩
end
/-- Sets of numbers up to 99. -/
def setOf (s : Span) (t : Nat) : Bool := decide (s.lo ≤ t) && decide ((t : Int) ≤ s.hi)
def sumS (a b : Nat → Bool) (t : Nat) : Bool := (List.range (t + 1)).any fun n => a n && b (t - n)
theorem sumS_iff {a b : Nat → Bool} {t : Nat} : sumS a b t = true ↔ ∃ n m, n + m = t ∧ a n = true ∧ b m = true := by
 rw [sumS, List.any_eq_true]
 constructor
 · rintro ⟨n, hn, h⟩
   have := List.mem_range.1 hn
   rw [Bool.and_eq_true] at h
   exact ⟨n, t - n, by omega, h.1, h.2⟩
 · rintro ⟨n, m, e, h1, h2⟩
   exact ⟨n, List.mem_range.2 (by omega), by rw [Bool.and_eq_true, show t - n = m by omega]; exact ⟨h1, h2⟩⟩
theorem setOf_iff {s : Span} {t : Nat} : setOf s t = true ↔ s.lo ≤ t ∧ (t : Int) ≤ s.hi := by rw [setOf, Bool.and_eq_true, decide_eq_true_eq, decide_eq_true_eq]
theorem sum_setOf {a b : Span} (ha : 0 ≤ a.lo ∧ a.lo ≤ a.hi) (hb : 0 ≤ b.lo ∧ b.lo ≤ b.hi) (t : Nat) : sumS (setOf a) (setOf b) t = setOf ⟨a.lo + b.lo, a.hi + b.hi⟩ t := by
 rw [Bool.eq_iff_iff, sumS_iff, setOf_iff]
 simp only [setOf_iff]
 constructor
 · rintro ⟨n, m, e, h1, h2⟩; omega
 · intro h
   exact ⟨(max a.lo (t - b.hi)).toNat, t - (max a.lo (t - b.hi)).toNat, by omega, by omega, by omega⟩
theorem sum_none {a b : Nat → Bool} {t : Nat} (h : ∀ m, m ≤ t → b m = false) : sumS a b t = false := by
 rw [Bool.eq_false_iff]
 intro e
 obtain ⟨n, m, e1, _, e2⟩ := sumS_iff.1 e
 rw [h m (by omega)] at e2; cases e2
theorem sum_ext {a b a' b' : Nat → Bool} {t : Nat} (ha : ∀ m, m ≤ t → a m = a' m) (hb : ∀ m, m ≤ t → b m = b' m) : sumS a b t = sumS a' b' t := by
 rw [Bool.eq_iff_iff, sumS_iff, sumS_iff]
 constructor
 · rintro ⟨n, m, e, h1, h2⟩; exact ⟨n, m, e, by rw [← ha n (by omega)]; exact h1, by rw [← hb m (by omega)]; exact h2⟩
 · rintro ⟨n, m, e, h1, h2⟩; exact ⟨n, m, e, by rw [ha n (by omega)]; exact h1, by rw [hb m (by omega)]; exact h2⟩
/-- Sums over steps, in order. -/
def sumsS (x : Nat → Bool) (s : Nat → Nat → Bool) : List Nat → Nat → Bool
 | [] => x
 | k :: l => sumsS (sumS x (s k)) s l
theorem sums_ext {s s' : Nat → Nat → Bool} {t : Nat} : ∀ {l : List Nat} {x x' : Nat → Bool}, (∀ m, m ≤ t → x m = x' m) → (∀ k ∈ l, ∀ m, m ≤ t → s k m = s' k m) → sumsS x s l t = sumsS x' s' l t
 | [], _, _, hx, _ => hx t (Nat.le_refl _)
 | k :: l, _, _, hx, hs => by
  rw [sumsS, sumsS]
  exact sums_ext (fun m hm => sum_ext (fun q hq => hx q (by omega)) fun q hq => hs k (List.mem_cons_self ..) q (by omega)) fun k2 hk2 => hs k2 (List.mem_cons_of_mem _ hk2)
theorem sums_setOf {h : Nat → Span} : ∀ {l : List Nat} {x : Span} (t : Nat), 0 ≤ x.lo ∧ x.lo ≤ x.hi → (∀ k ∈ l, 0 ≤ (h k).lo ∧ (h k).lo ≤ (h k).hi) → sumsS (setOf x) (fun k => setOf (h k)) l t = setOf ⟨x.lo + sLo h l, x.hi + sHi h l⟩ t
 | [], x, t, _, _ => by cases x; simp [sumsS, sLo, sHi, sumL]
 | k :: l, x, t, hx, hl => by
  have hk := hl k (List.mem_cons_self ..)
  have e : sumsS (sumS (setOf x) (setOf (h k))) (fun k => setOf (h k)) l t = sumsS (setOf ⟨x.lo + (h k).lo, x.hi + (h k).hi⟩) (fun k => setOf (h k)) l t :=
   sums_ext (fun m _ => sum_setOf hx hk m) fun _ _ _ _ => rfl
  rw [sumsS, e, sums_setOf t (by simp only; omega) fun k2 hk2 => hl k2 (List.mem_cons_of_mem _ hk2)]
  simp only [sLo, sHi, sumL, Int.add_assoc]
theorem sums_none {s : Nat → Nat → Bool} {t : Nat} : ∀ {l : List Nat} {x : Nat → Bool}, ((∀ m, m ≤ t → x m = false) ∨ ∃ k ∈ l, ∀ m, m ≤ t → s k m = false) → sumsS x s l t = false
 | [], _, h => by
  rcases h with h | ⟨k, hk, _⟩
  · exact h t (Nat.le_refl _)
  · cases hk
 | k :: l, x, h => by
  rw [sumsS]
  apply sums_none
  rcases h with h | ⟨k2, hk2, h⟩
  · left
    intro m hm
    rw [Bool.eq_false_iff]
    intro e
    obtain ⟨n, q, e1, e2, _⟩ := sumS_iff.1 e
    rw [h n (by omega)] at e2; cases e2
  · rcases List.mem_cons.1 hk2 with rfl | hk2
    · exact .inl fun m hm => sum_none fun q hq => h q (by omega)
    · exact .inr ⟨k2, hk2, h⟩
section
variable {T : Way} {c : Nat → Span}
/-- The reference's numbers of hands, by what is behind a step. -/
theorem setOf_both (a b : Span) (t : Nat) : setOf (both a b) t = (setOf a t && setOf b t) := by
 rw [Bool.eq_iff_iff, Bool.and_eq_true, setOf_iff, setOf_iff, setOf_iff]
 simp only [both]
 omega
theorem setOf_val (ht : T.Ok) (hc : In99 T c) {h : Nat → Span} {i : Nat} (hi : i < T.n) (hh : ∀ k ∈ T.kids i, 0 ≤ (h k).lo) {t : Nat} (ht9 : t ≤ 99) :
 setOf (T.val c h i) t = ((if T.kids i = [] then true else sumsS (setOf ⟨0, T.loss i⟩) (fun k => setOf (h k)) (T.kids i) t) && setOf (c i) t) := by
 have hl := ht.loss i hi
 have hci := hc i hi
 unfold Way.val
 by_cases ha : (T.kids i).all (fun k => neB (h k)) = true
 · rw [if_pos ha, setOf_both, Bool.and_comm]
   congr 1
   by_cases hk : T.kids i = []
   · rw [if_pos hk, if_pos hk, setOf_iff]; simp only; omega
   · rw [if_neg hk, if_neg hk, sums_setOf t (by simp only; omega) fun k hk => ⟨hh k hk, of_decide_eq_true (List.all_eq_true.1 ha k hk)⟩]
     simp only [Int.zero_add, Int.add_comm]
 · rw [if_neg ha]
   have hk : T.kids i ≠ [] := fun e => ha (by rw [e]; rfl)
   rw [if_neg hk]
   have : ∃ k ∈ T.kids i, ∀ m, m ≤ t → setOf (h k) m = false := by
    rw [Bool.not_eq_true, List.all_eq_false] at ha
    obtain ⟨k, hk, h2⟩ := ha
    refine ⟨k, hk, fun m _ => ?_⟩
    have h3 : ¬ (h k).lo ≤ (h k).hi := fun e => h2 (decide_eq_true e)
    rw [Bool.eq_false_iff]
    intro e
    rw [setOf_iff] at e
    omega
   rw [sums_none (.inr this), Bool.false_and, Bool.eq_false_iff]
   intro e
   rw [setOf_iff] at e
   simp only at e
   omega
theorem u_pos (ht : T.Ok) (hc : In99 T c) : ∀ i, i < T.n → 0 ≤ (T.u c i).lo ∧ (T.u c i).hi ≤ 99 := fun i hi => by
 have := hc i hi
 rw [u_eq ht c hi, Way.val]
 split
 · simp only [both]; omega
 · simp only; omega
/-- The numbers of hands at a step with some behind it in truths: of two sums. -/
theorem setOf_d (ht : T.Ok) (hc : In99 T c) (hn : NeS T (T.u c)) {i p : Nat} (hk : i ∈ T.kids p) {rest : Nat → Bool} {t : Nat}
 (hr : ∀ m, rest m = setOf ⟨sLo (T.u c) (T.kids p) - (T.u c i).lo, T.loss p + sHi (T.u c) (T.kids p) - (T.u c i).hi⟩ m) :
 setOf (T.d c i) t = (setOf (T.u c i) t && (List.range (100 - t)).any fun m => rest m && setOf (T.d c p) (t + m)) := by
 obtain ⟨h1, h2⟩ := d_kid (c := c) ht hk
 have hg := kid_gt ht hk
 have hd := d_tame ht hc hn p (by omega)
 have hs := sumL_less (f := fun k => (T.u c k).lo) (g := fun k => (T.u c k).hi) hk fun x hx => hn x (kid_gt ht hx).2
 have hz := sumL_less (f := fun _ => 0) (g := fun k => (T.u c k).lo) hk fun x hx => (u_pos ht hc x (kid_gt ht hx).2).1
 have z : ∀ l : List Nat, sumL (fun _ => 0) l = 0 := fun l => by
  induction l with
  | nil => rfl
  | cons x l ih => simp [sumL, ih]
 rw [z] at hz
 have hl := ht.loss p (by omega)
 rw [Bool.eq_iff_iff, Bool.and_eq_true, List.any_eq_true, setOf_iff, setOf_iff]
 unfold sLo sHi at *
 constructor
 · intro h
   refine ⟨by omega, (max ((T.d c p).lo - t) (sumL (fun k => (T.u c k).lo) (T.kids p) - (T.u c i).lo)).toNat, List.mem_range.2 (by omega), ?_⟩
   rw [Bool.and_eq_true, hr, setOf_iff, setOf_iff]
   simp only
   omega
 · rintro ⟨h3, m, hm, h4⟩
   have := List.mem_range.1 hm
   rw [Bool.and_eq_true, hr, setOf_iff, setOf_iff] at h4
   simp only at h4
   omega
/-- The numbers that got lost. -/
theorem setOf_lost (ht : T.Ok) (hc : In99 T c) (hn : NeS T (T.u c)) {i : Nat} (hi : i < T.n) (hk : T.kids i ≠ []) {sum : Nat → Bool} (hs : ∀ m, sum m = setOf ⟨sLo (T.u c) (T.kids i), sHi (T.u c) (T.kids i)⟩ m) {t : Nat} :
 setOf (T.lost c i) t = (decide ((t : Int) ≤ T.loss i) && (List.range (100 - t)).any fun m => sum m && setOf (T.d c i) (t + m)) := by
 have hd := d_tame ht hc hn i hi
 have hsm := sumL_le (f := fun k => (T.u c k).lo) (g := fun k => (T.u c k).hi) (l := T.kids i) fun x hx => hn x (kid_gt ht hx).2
 have hz := sumL_le (f := fun _ => 0) (g := fun k => (T.u c k).lo) (l := T.kids i) fun x hx => (u_pos ht hc x (kid_gt ht hx).2).1
 have z : ∀ l : List Nat, sumL (fun _ => 0) l = 0 := fun l => by
  induction l with
  | nil => rfl
  | cons x l ih => simp [sumL, ih]
 rw [z] at hz
 rw [Way.lost, if_neg hk, Bool.eq_iff_iff, Bool.and_eq_true, List.any_eq_true, setOf_iff, decide_eq_true_eq]
 unfold sLo sHi at *
 simp only
 constructor
 · intro h
   refine ⟨by omega, (max ((T.d c i).lo - t) (sumL (fun k => (T.u c k).lo) (T.kids i))).toNat, List.mem_range.2 (by omega), ?_⟩
   rw [Bool.and_eq_true, hs, setOf_iff, setOf_iff]
   simp only
   omega
 · rintro ⟨h3, m, hm, h4⟩
   have := List.mem_range.1 hm
   rw [Bool.and_eq_true, hs, setOf_iff, setOf_iff] at h4
   simp only at h4
   omega
theorem lost_in (ht : T.Ok) (hc : In99 T c) (hn : NeS T (T.u c)) {i : Nat} (hi : i < T.n) : 0 ≤ (T.lost c i).lo ∧ (T.lost c i).lo ≤ (T.lost c i).hi ∧ (T.lost c i).hi ≤ T.loss i := by
 have hl := ht.loss i hi
 unfold Way.lost
 by_cases hk : T.kids i = []
 · rw [if_pos hk]; simp only; omega
 · rw [if_neg hk]
   have hd := d_tame ht hc hn i hi
   have hu := (u_facts ht hn hi).2.2 hk
   have hs := d_sub (c := c) ht i hi
   have hsm := sumL_le (f := fun k => (T.u c k).lo) (g := fun k => (T.u c k).hi) (l := T.kids i) fun x hx => hn x (kid_gt ht hx).2
   unfold sLo sHi at *
   simp only at hsm ⊢
   omega
end
end Go.Proofs.YtocdmkilnbpkdaaGreatDoor
