/- The plain law of chapter 12: what the program tells from step to step. -/
import Derived.Test.YtocdmkilnbpkdaaGreatDoorYA
set_option linter.unusedVariables false
set_option linter.unusedSimpArgs false
namespace Go.Proofs.YtocdmkilnbpkdaaGreatDoor
open Go.RowKit

/-- What is closed lies within what there is in truths. -/
theorem in_u {T : Way} (ht : T.Ok) {c h : Nat → Span} (hn : NeS T h) (hc : ClosedS T h) (hs : SubS T h c) (h99 : ∀ i, i < T.n → 0 ≤ (h i).lo ∧ (h i).hi ≤ 99) : SubS T h (T.u c) := by
 have key : ∀ m i, i < T.n → T.n ≤ i + m → (T.u c i).lo ≤ (h i).lo ∧ (h i).hi ≤ (T.u c i).hi := by
  intro m
  induction m with
  | zero => intro i hi hm; omega
  | succ m ih =>
   intro i hi hm
   have hk : ∀ k ∈ T.kids i, (T.u c k).lo ≤ (h k).lo ∧ (h k).hi ≤ (T.u c k).hi := fun k hk => by
    have := kid_gt ht hk
    exact ih k this.2 (by omega)
   have ha : (T.kids i).all (fun k => neB (T.u c k)) = true := List.all_eq_true.2 fun k hkk => decide_eq_true (by
    have h1 := hk k hkk
    have h2 := hn k (kid_gt ht hkk).2
    omega)
   have hu := u_eq ht c hi
   rw [Way.val, if_pos ha] at hu
   have h1 : (T.u c i).lo = max (c i).lo (if T.kids i = [] then (⟨0, 99⟩ : Span) else ⟨sLo (T.u c) (T.kids i), sHi (T.u c) (T.kids i) + T.loss i⟩).lo := congrArg Span.lo hu
   have h2 : (T.u c i).hi = min (c i).hi (if T.kids i = [] then (⟨0, 99⟩ : Span) else ⟨sLo (T.u c) (T.kids i), sHi (T.u c) (T.kids i) + T.loss i⟩).hi := congrArg Span.hi hu
   have h3 := hs i hi
   have h4 := h99 i hi
   by_cases hki : T.kids i = []
   · rw [if_pos hki] at h1 h2
     simp only at h1 h2
     omega
   · rw [if_neg hki] at h1 h2
     simp only at h1 h2
     have h5 := (hc i hi hki).1
     have h6 : sLo (T.u c) (T.kids i) ≤ sLo h (T.kids i) := sumL_le fun k hkk => (hk k hkk).1
     have h7 : sHi h (T.kids i) ≤ sHi (T.u c) (T.kids i) := sumL_le fun k hkk => (hk k hkk).2
     omega
 exact fun i hi => key T.n i hi (by omega)
theorem u_of_sub {T : Way} {h u : Nat → Span} (hn : NeS T h) (hs : SubS T h u) : NeS T u := fun i hi => by
 have h1 := hs i hi
 have h2 := hn i hi
 omega
theorem in_d {T : Way} (ht : T.Ok) {c h : Nat → Span} (hn : NeS T h) (hc : ClosedS T h) (hs : SubS T h c) (h99 : ∀ i, i < T.n → 0 ≤ (h i).lo ∧ (h i).hi ≤ 99) : SubS T h (T.d c) := by
 have hu := in_u ht hn hc hs h99
 have key : ∀ m i, i ≤ m → i < T.n → (T.d c i).lo ≤ (h i).lo ∧ (h i).hi ≤ (T.d c i).hi := by
  intro m
  induction m with
  | zero => intro i hi hn'; obtain rfl : i = 0 := by omega
            rw [d_zero ht]; exact hu 0 hn'
  | succ m ih =>
   intro i hi hin
   by_cases h0 : i = 0
   · rw [h0, d_zero ht]; exact hu 0 ht.pos
   · have hp := ht.par i (by omega) hin
     have hk : i ∈ T.kids (T.par i) := kid.2 ⟨hin, by omega, rfl⟩
     obtain ⟨h1, h2⟩ := d_kid (c := c) ht hk
     have h3 := ih (T.par i) (by omega) (by omega)
     have h4 := (hc (T.par i) (by omega) (List.ne_nil_of_mem hk)).2 i hk
     have h5 := hu i hin
     have h6 := sumL_less (f := fun k => (h k).hi) (g := fun k => (T.u c k).hi) hk fun x hx => (hu x (kid_gt ht hx).2).2
     have h7 := sumL_less (f := fun k => (T.u c k).lo) (g := fun k => (h k).lo) hk fun x hx => (hu x (kid_gt ht hx).2).1
     unfold sLo sHi at *
     omega
 exact fun i hi => key i i (Nat.le_refl _) hi
/-- What is closed, as wide as can be, is what there is in truths. -/
theorem is_d {T : Way} (ht : T.Ok) {c h : Nat → Span} (hn : NeS T h) (hc : ClosedS T h) (hs : SubS T h c) (h99 : ∀ i, i < T.n → 0 ≤ (h i).lo ∧ (h i).hi ≤ 99) (hd : SubS T (T.d c) h) : ∀ i, i < T.n → h i = T.d c i := fun i hi => by
 have h1 := in_d ht hn hc hs h99 i hi
 have h2 := hd i hi
 have e1 : (h i).lo = (T.d c i).lo := by omega
 have e2 : (h i).hi = (T.d c i).hi := by omega
 cases hh : h i
 cases hd : T.d c i
 rw [hh, hd] at e1 e2
 simp only at e1 e2
 rw [e1, e2]
/-- What the program does with a step: it tells of those behind it, and these of it. -/
def Way.outW (T : Way) (h : Nat → Span) (i : Nat) : Span := (T.kids i).foldl (fun s k => plusW s (h k)) ⟨0, 0⟩
def Way.kidF (T : Way) (i : Nat) (s : (Nat → Span) × Span) (k : Nat) : (Nat → Span) × Span :=
 (upd s.1 k (both (s.1 k) (lessW (s.1 i) (plusW ⟨wrap64 (s.2.lo - (s.1 k).lo), wrap64 (s.2.hi - (s.1 k).hi)⟩ ⟨0, T.loss i⟩))),
  plusW ⟨wrap64 (s.2.lo - (s.1 k).lo), wrap64 (s.2.hi - (s.1 k).hi)⟩ (both (s.1 k) (lessW (s.1 i) (plusW ⟨wrap64 (s.2.lo - (s.1 k).lo), wrap64 (s.2.hi - (s.1 k).hi)⟩ ⟨0, T.loss i⟩))))
def Way.stepS (T : Way) (h : Nat → Span) (i : Nat) : (Nat → Span) × Span := (upd h i (both (h i) (plusW (T.outW h i) ⟨0, T.loss i⟩)), T.outW h i)
def Way.stepW (T : Way) (h : Nat → Span) (i : Nat) : Nat → Span := if T.kids i = [] then h else ((T.kids i).foldl (T.kidF i) (T.stepS h i)).1
def Way.passW (T : Way) (h : Nat → Span) : Nat → Span := (List.range T.n).foldl T.stepW h
def Nar (g h : Nat → Span) : Prop := ∀ j, (h j).lo ≤ (g j).lo ∧ (g j).hi ≤ (h j).hi
theorem Nar.refl (h : Nat → Span) : Nar h h := fun _ => ⟨Int.le_refl _, Int.le_refl _⟩
theorem Nar.trans {f g h : Nat → Span} (a : Nar f g) (b : Nar g h) : Nar f h := fun j => ⟨Int.le_trans (b j).1 (a j).1, Int.le_trans (a j).2 (b j).2⟩
theorem nar_upd (h : Nat → Span) (i : Nat) (s : Span) : Nar (upd h i (both (h i) s)) h := fun j => by
 by_cases e : j = i
 · rw [e, upd_at]; simp only [both]; omega
 · rw [upd_ne _ _ e]; omega
theorem nar_fold {α : Type} (F : α → Nat → α) (p : α → Nat → Span) (hF : ∀ s k, Nar (p (F s k)) (p s)) : ∀ (l : List Nat) (s : α), Nar (p (l.foldl F s)) (p s)
 | [], s => Nar.refl _
 | k :: l, s => (nar_fold F p hF l (F s k)).trans (hF s k)
theorem nar_kid (T : Way) (i : Nat) (s : (Nat → Span) × Span) (k : Nat) : Nar (T.kidF i s k).1 s.1 := nar_upd _ _ _
theorem nar_step (T : Way) (h : Nat → Span) (i : Nat) : Nar (T.stepW h i) h := by
 unfold Way.stepW
 split
 · exact Nar.refl _
 · exact (nar_fold (T.kidF i) (·.1) (nar_kid T i) _ _).trans (nar_upd _ _ _)
theorem nar_pass (T : Way) (h : Nat → Span) : Nar (T.passW h) h := nar_fold T.stepW id (nar_step T) _ _
theorem nar_eq {g h : Nat → Span} (a : Nar g h) (b : Nar h g) : g = h := by
 funext j
 have h1 := a j
 have h2 := b j
 have e1 : (g j).lo = (h j).lo := by omega
 have e2 : (g j).hi = (h j).hi := by omega
 cases hg : g j
 cases hh : h j
 rw [hg, hh] at e1 e2
 simp only at e1 e2
 rw [e1, e2]
/-- Spans that are as they can be: not empty, from 0 to 99. -/
def Tame (T : Way) (h : Nat → Span) : Prop := ∀ i, i < T.n → 0 ≤ (h i).lo ∧ (h i).lo ≤ (h i).hi ∧ (h i).hi ≤ 99
theorem kids_len {T : Way} (ht : T.Ok) (i : Nat) : (T.kids i).length ≤ 6 := by
 have h := List.length_filter_le (fun k => decide (0 < k) && decide (T.par k = i)) (List.range T.n)
 rw [List.length_range] at h
 have := ht.six
 exact Nat.le_trans h this
theorem sum_tame {T : Way} {h : Nat → Span} (hT : Tame T h) {l : List Nat} (hl : ∀ k ∈ l, k < T.n) (hlen : l.length ≤ 6) : (0 ≤ sLo h l ∧ sLo h l ≤ 594) ∧ 0 ≤ sHi h l ∧ sHi h l ≤ 594 := by
 have h1 := sumL_bd (f := fun k => (h k).lo) (a := 0) (b := 99) (l := l) fun k hk => by have := hT k (hl k hk); omega
 have h2 := sumL_bd (f := fun k => (h k).hi) (a := 0) (b := 99) (l := l) fun k hk => by have := hT k (hl k hk); omega
 unfold sLo sHi
 omega
theorem outW_fold {h : Nat → Span} : ∀ (l : List Nat) (s : Span), (∀ k ∈ l, (0 ≤ (h k).lo ∧ (h k).lo ≤ 99) ∧ 0 ≤ (h k).hi ∧ (h k).hi ≤ 99) → 0 ≤ s.lo ∧ s.lo + 99 * l.length ≤ 1000 → 0 ≤ s.hi ∧ s.hi + 99 * l.length ≤ 1000 →
 l.foldl (fun s k => plusW s (h k)) s = ⟨s.lo + sLo h l, s.hi + sHi h l⟩
 | [], s, _, _, _ => by cases s; simp [sLo, sHi, sumL]
 | k :: l, s, hk, h1, h2 => by
  have hk0 := hk k (List.mem_cons_self ..)
  simp only [List.length_cons, Int.natCast_add, Int.natCast_one] at h1 h2
  have e : plusW s (h k) = ⟨s.lo + (h k).lo, s.hi + (h k).hi⟩ := by
   unfold plusW; rw [wrap_id (by omega), wrap_id (by omega)]
  rw [List.foldl_cons, e, outW_fold l _ (fun x hx => hk x (List.mem_cons_of_mem _ hx)) (by simp only; omega) (by simp only; omega)]
  simp only [sLo, sHi, sumL, Int.add_assoc]
theorem outW_tame {T : Way} (ht : T.Ok) {h : Nat → Span} (hT : Tame T h) (i : Nat) : T.outW h i = ⟨sLo h (T.kids i), sHi h (T.kids i)⟩ := by
 have hl := kids_len ht i
 rw [Way.outW, outW_fold _ _ (fun k hk => by have := hT k (kid_gt ht hk).2; omega) (by simp only; omega) (by simp only; omega)]
 simp
/-- A step of those behind it, as long as all is tame: no sum is too large. -/
theorem kid_tame {T : Way} (ht : T.Ok) {h : Nat → Span} (hT : Tame T h) {i k : Nat} (hi : i < T.n) (hk : k ∈ T.kids i) :
 plusW ⟨wrap64 (sLo h (T.kids i) - (h k).lo), wrap64 (sHi h (T.kids i) - (h k).hi)⟩ ⟨0, T.loss i⟩ = ⟨sLo h (T.kids i) - (h k).lo, sHi h (T.kids i) - (h k).hi + T.loss i⟩ ∧
 lessW (h i) ⟨sLo h (T.kids i) - (h k).lo, sHi h (T.kids i) - (h k).hi + T.loss i⟩ = ⟨(h i).lo - (sHi h (T.kids i) - (h k).hi + T.loss i), (h i).hi - (sLo h (T.kids i) - (h k).lo)⟩ := by
 have h1 := sum_tame hT (fun x hx => (kid_gt ht hx).2) (kids_len ht i)
 have h2 := hT k (kid_gt ht hk).2
 have h3 := ht.loss i hi
 have h4 := hT i hi
 constructor
 · unfold plusW; simp only; rw [wrap_id (n := sLo h (T.kids i) - (h k).lo) (by omega), wrap_id (n := sHi h (T.kids i) - (h k).hi) (by omega), wrap_id (by omega), wrap_id (by omega)]; simp
 · unfold lessW; simp only; rw [wrap_id (by omega), wrap_id (by omega)]
theorem step_tame {T : Way} (ht : T.Ok) {h : Nat → Span} (hT : Tame T h) {i : Nat} (hi : i < T.n) : plusW (T.outW h i) ⟨0, T.loss i⟩ = ⟨sLo h (T.kids i), sHi h (T.kids i) + T.loss i⟩ := by
 have h1 := sum_tame hT (fun x hx => (kid_gt ht hx).2) (kids_len ht i)
 have h3 := ht.loss i hi
 rw [outW_tame ht hT]
 unfold plusW; simp only; rw [wrap_id (by omega), wrap_id (by omega)]; simp
/-- As long as D is within, D stays within: of any D that is closed and tame. -/
theorem keep_kids {T : Way} (ht : T.Ok) {D : Nat → Span} (hD : Tame T D) (hc : ClosedS T D) {i : Nat} (hi : i < T.n) : ∀ (l : List Nat) (s : (Nat → Span) × Span), (∀ k ∈ l, k ∈ T.kids i) → (∀ j, j < T.n → 0 ≤ (s.1 j).lo ∧ (s.1 j).hi ≤ 99) → SubS T D s.1 → s.2 = ⟨sLo s.1 (T.kids i), sHi s.1 (T.kids i)⟩ →
 (∀ j, j < T.n → 0 ≤ ((l.foldl (T.kidF i) s).1 j).lo ∧ ((l.foldl (T.kidF i) s).1 j).hi ≤ 99) ∧ SubS T D (l.foldl (T.kidF i) s).1
 | [], s, _, h1, h2, _ => ⟨h1, h2⟩
 | k :: l, s, hl, h1, h2, h3 => by
  have hk := hl k (List.mem_cons_self ..)
  have hkn := kid_gt ht hk
  have hT : Tame T s.1 := fun j hj => by
   have a := h1 j hj
   have b := h2 j hj
   have c := hD j hj
   omega
  obtain ⟨e1, e2⟩ := kid_tame ht hT hi hk
  have hcl := (hc i hi (List.ne_nil_of_mem hk)).2 k hk
  have h5 := sumL_less (f := fun k => (D k).hi) (g := fun k => (s.1 k).hi) hk fun x hx => (h2 x (kid_gt ht hx).2).2
  have h6 := sumL_less (f := fun k => (s.1 k).lo) (g := fun k => (D k).lo) hk fun x hx => (h2 x (kid_gt ht hx).2).1
  have h7 := h2 i hi
  have h8 := h2 k hkn.2
  have h9 := hT k hkn.2
  have h9i := hT i hi
  have hDk := hD k hkn.2
  have hs := sum_tame hT (fun x hx => (kid_gt ht hx).2) (kids_len ht i)
  have hls := ht.loss i hi
  have hv : both (s.1 k) (lessW (s.1 i) (plusW ⟨wrap64 (s.2.lo - (s.1 k).lo), wrap64 (s.2.hi - (s.1 k).hi)⟩ ⟨0, T.loss i⟩)) =
   both (s.1 k) ⟨(s.1 i).lo - (sHi s.1 (T.kids i) - (s.1 k).hi + T.loss i), (s.1 i).hi - (sLo s.1 (T.kids i) - (s.1 k).lo)⟩ := by
   rw [h3]; simp only; rw [e1, e2]
  rw [List.foldl_cons]
  have hw := sumL_less (f := fun k => (s.1 k).lo) (g := fun k => (s.1 k).hi) hk fun x hx => (hT x (kid_gt ht hx).2).2.1
  have hm : 0 ≤ sumL (fun k => (s.1 k).lo) (T.kids i) - (s.1 k).lo := by
   have := sumL_less (f := fun _ => 0) (g := fun k => (s.1 k).lo) hk fun x hx => (hT x (kid_gt ht hx).2).1
   have z : ∀ l : List Nat, sumL (fun _ => 0) l = 0 := fun l => by
    induction l with
    | nil => rfl
    | cons x l ih => simp [sumL, ih]
   rw [z] at this
   omega
  generalize hV : both (s.1 k) ⟨(s.1 i).lo - (sHi s.1 (T.kids i) - (s.1 k).hi + T.loss i), (s.1 i).hi - (sLo s.1 (T.kids i) - (s.1 k).lo)⟩ = V at hv
  have v1 : V.lo = max (s.1 k).lo ((s.1 i).lo - (sHi s.1 (T.kids i) - (s.1 k).hi + T.loss i)) := by rw [← hV]; rfl
  have v2 : V.hi = min (s.1 k).hi ((s.1 i).hi - (sLo s.1 (T.kids i) - (s.1 k).lo)) := by rw [← hV]; rfl
  have hvD : V.lo ≤ (D k).lo ∧ (D k).hi ≤ V.hi := by unfold sLo sHi at *; omega
  have hF : T.kidF i s k = (upd s.1 k V, plusW ⟨wrap64 (s.2.lo - (s.1 k).lo), wrap64 (s.2.hi - (s.1 k).hi)⟩ V) := by unfold Way.kidF; rw [hv]
  rw [hF]
  refine keep_kids ht hD hc hi l _ (fun x hx => hl x (List.mem_cons_of_mem _ hx)) (fun j hj => ?_) (fun j hj => ?_) ?_
  · by_cases e : j = k
    · rw [e]; simp only [upd_at]; omega
    · simp only [upd_ne _ _ e]; exact h1 j hj
  · by_cases e : j = k
    · rw [e]; simp only [upd_at]; exact hvD
    · simp only [upd_ne _ _ e]; exact h2 j hj
  · have a1 := sumL_but (f := fun j => ((upd s.1 k V) j).lo) (g := fun j => (s.1 j).lo) (kids_nodup T i) hk fun j _ hjk => by simp only [upd_ne _ _ hjk]
    have a2 := sumL_but (f := fun j => ((upd s.1 k V) j).hi) (g := fun j => (s.1 j).hi) (kids_nodup T i) hk fun j _ hjk => by simp only [upd_ne _ _ hjk]
    simp only [upd_at] at a1 a2
    rw [h3]
    unfold plusW
    simp only
    unfold sLo sHi at *
    rw [wrap_id (n := sumL (fun k => (s.1 k).lo) (T.kids i) - (s.1 k).lo) (by omega), wrap_id (n := sumL (fun k => (s.1 k).hi) (T.kids i) - (s.1 k).hi) (by omega), wrap_id (by omega), wrap_id (by omega)]
    congr 1 <;> omega
theorem keep_step {T : Way} (ht : T.Ok) {D : Nat → Span} (hD : Tame T D) (hc : ClosedS T D) {i : Nat} (hi : i < T.n) {h : Nat → Span} (h1 : ∀ j, j < T.n → 0 ≤ (h j).lo ∧ (h j).hi ≤ 99) (h2 : SubS T D h) :
 (∀ j, j < T.n → 0 ≤ ((T.stepW h i) j).lo ∧ ((T.stepW h i) j).hi ≤ 99) ∧ SubS T D (T.stepW h i) := by
 unfold Way.stepW
 split
 · exact ⟨h1, h2⟩
 · rename_i hk
   have hT : Tame T h := fun j hj => by
    have a := h1 j hj
    have b := h2 j hj
    have c := hD j hj
    omega
   have hcl := (hc i hi hk).1
   have hs := sum_tame hT (fun x hx => (kid_gt ht hx).2) (kids_len ht i)
   have h5 : sumL (fun k => (h k).lo) (T.kids i) ≤ sumL (fun k => (D k).lo) (T.kids i) := sumL_le fun x hx => (h2 x (kid_gt ht hx).2).1
   have h6 : sumL (fun k => (D k).hi) (T.kids i) ≤ sumL (fun k => (h k).hi) (T.kids i) := sumL_le fun x hx => (h2 x (kid_gt ht hx).2).2
   have hni : i ∉ T.kids i := fun h => by have := kid_gt ht h; omega
   have he : ∀ s, sLo (upd h i s) (T.kids i) = sLo h (T.kids i) ∧ sHi (upd h i s) (T.kids i) = sHi h (T.kids i) := fun s => ⟨sumL_ext fun j hj => by rw [upd_ne h s (fun (e : j = i) => hni (e ▸ hj))], sumL_ext fun j hj => by rw [upd_ne h s (fun (e : j = i) => hni (e ▸ hj))]⟩
   have hst := step_tame ht hT hi
   refine keep_kids ht hD hc hi _ _ (fun k hk => hk) (fun j hj => ?_) (fun j hj => ?_) ?_
   · by_cases e : j = i
     · rw [e]; simp only [Way.stepS, upd_at, hst, both]
       have := h1 i hi
       omega
     · simp only [Way.stepS, upd_ne _ _ e]; exact h1 j hj
   · by_cases e : j = i
     · rw [e]; simp only [Way.stepS, upd_at, hst, both]
       have := h2 i hi
       unfold sLo sHi at *
       omega
     · simp only [Way.stepS, upd_ne _ _ e]; exact h2 j hj
   · simp only [Way.stepS, (he _).1, (he _).2, outW_tame ht hT]
theorem keep_pass {T : Way} (ht : T.Ok) {D : Nat → Span} (hD : Tame T D) (hc : ClosedS T D) {h : Nat → Span} (h1 : ∀ j, j < T.n → 0 ≤ (h j).lo ∧ (h j).hi ≤ 99) (h2 : SubS T D h) :
 (∀ j, j < T.n → 0 ≤ ((T.passW h) j).lo ∧ ((T.passW h) j).hi ≤ 99) ∧ SubS T D (T.passW h) := by
 have key : ∀ (l : List Nat) (h : Nat → Span), (∀ i ∈ l, i < T.n) → (∀ j, j < T.n → 0 ≤ (h j).lo ∧ (h j).hi ≤ 99) → SubS T D h →
  (∀ j, j < T.n → 0 ≤ ((l.foldl T.stepW h) j).lo ∧ ((l.foldl T.stepW h) j).hi ≤ 99) ∧ SubS T D (l.foldl T.stepW h) := by
  intro l
  induction l with
  | nil => intro h _ a b; exact ⟨a, b⟩
  | cons i l ih =>
   intro h hl a b
   obtain ⟨c, d⟩ := keep_step ht hD hc (hl i (List.mem_cons_self ..)) a b
   exact ih _ (fun x hx => hl x (List.mem_cons_of_mem _ hx)) c d
 exact key _ h (fun i hi => List.mem_range.1 hi) h1 h2
/-- What a pass leaves as it is, is closed. -/
theorem fix_closed {T : Way} (ht : T.Ok) {h : Nat → Span} (hT : Tame T h) (hp : T.passW h = h) : ClosedS T h := by
 have fold_fix : ∀ (α : Type) (F : α → Nat → α) (p : α → Nat → Span) (hF : ∀ s k, Nar (p (F s k)) (p s)) (l : List Nat) (s : α), p (l.foldl F s) = p s → ∀ l1 k l2, l = l1 ++ k :: l2 → p ((l1 ++ [k]).foldl F s) = p s ∧ p (l1.foldl F s) = p s := by
  intro α F p hF l s he l1 k l2 hl
  have n1 := nar_fold F p hF l1 s
  have n2 := nar_fold F p hF (l1 ++ [k]) s
  have n3 : Nar (p (l.foldl F s)) (p ((l1 ++ [k]).foldl F s)) := by
   rw [hl, show l1 ++ k :: l2 = (l1 ++ [k]) ++ l2 by simp, List.foldl_append]
   exact nar_fold F p hF l2 _
  have n4 : Nar (p ((l1 ++ [k]).foldl F s)) (p (l1.foldl F s)) := by
   rw [List.foldl_append]
   exact nar_fold F p hF [k] _
  rw [he] at n3
  exact ⟨nar_eq n2 n3, nar_eq n1 (n3.trans n4)⟩
 have hstep : ∀ i, i < T.n → T.stepW h i = h := fun i hi => by
  have hsplit : List.range T.n = List.range i ++ i :: (List.range T.n).drop (i + 1) := by
   have h1 : (List.range T.n).drop i = i :: (List.range T.n).drop (i + 1) := by
    rw [List.drop_eq_getElem_cons (by simpa using hi)]; simp
   have h2 := List.take_append_drop i (List.range T.n)
   have h3 : (List.range T.n).take i = List.range i := by rw [List.take_range, Nat.min_eq_left (Nat.le_of_lt hi)]
   rw [h1, h3] at h2
   exact h2.symm
  obtain ⟨a, b⟩ := fold_fix _ T.stepW id (nar_step T) _ h hp _ _ _ hsplit
  simp only [id] at a b
  rw [List.foldl_append, b] at a
  exact a
 intro i hi hk
 have hs := hstep i hi
 rw [Way.stepW, if_neg hk] at hs
 have n0 : Nar (T.stepS h i).1 h := nar_upd _ _ _
 have n1 := nar_fold (T.kidF i) (·.1) (nar_kid T i) (T.kids i) (T.stepS h i)
 rw [hs] at n1
 have e0 : (T.stepS h i).1 = h := nar_eq n0 n1
 have hst := step_tame ht hT hi
 have e1 := congrFun e0 i
 simp only [Way.stepS, upd_at, hst] at e1
 have e1l : max (h i).lo (sLo h (T.kids i)) = (h i).lo := congrArg Span.lo e1
 have e1h : min (h i).hi (sHi h (T.kids i) + T.loss i) = (h i).hi := congrArg Span.hi e1
 refine ⟨by omega, ?_⟩
 have hs0 : T.stepS h i = (h, ⟨sLo h (T.kids i), sHi h (T.kids i)⟩) := by
  rw [← outW_tame ht hT]
  exact Prod.ext e0 rfl
 rw [hs0] at hs
 have cut : ∀ n (hn : n < (T.kids i).length), T.kids i = (T.kids i).take n ++ (T.kids i)[n] :: (T.kids i).drop (n + 1) := fun n hn => by
  have h1 := List.take_append_drop n (T.kids i)
  rw [List.drop_eq_getElem_cons hn] at h1
  exact h1.symm
 have key : ∀ n, n ≤ (T.kids i).length → ((T.kids i).take n).foldl (T.kidF i) (h, ⟨sLo h (T.kids i), sHi h (T.kids i)⟩) = (h, ⟨sLo h (T.kids i), sHi h (T.kids i)⟩) := by
  intro n
  induction n with
  | zero => intro _; rfl
  | succ n ih =>
   intro hn
   have hn' : n < (T.kids i).length := hn
   have hl' := cut n hn'
   obtain ⟨k, hkk⟩ : ∃ k, k = (T.kids i)[n] := ⟨_, rfl⟩
   have hk2 : k ∈ T.kids i := by rw [hkk]; exact List.getElem_mem hn'
   obtain ⟨a, _⟩ := fold_fix _ (T.kidF i) (·.1) (nar_kid T i) (T.kids i) (h, ⟨sLo h (T.kids i), sHi h (T.kids i)⟩) hs _ _ _ hl'
   rw [← hkk, List.foldl_append, ih (Nat.le_of_lt hn'), List.foldl_cons, List.foldl_nil] at a
   rw [List.take_succ_eq_append_getElem hn', ← hkk, List.foldl_append, ih (Nat.le_of_lt hn'), List.foldl_cons, List.foldl_nil]
   refine Prod.ext a ?_
   have hv : (T.kidF i (h, ⟨sLo h (T.kids i), sHi h (T.kids i)⟩) k).1 k = h k := by rw [a]
   simp only [Way.kidF, upd_at] at hv ⊢
   rw [hv]
   have h1 := sum_tame hT (fun x hx => (kid_gt ht hx).2) (kids_len ht i)
   have h2 := hT k (kid_gt ht hk2).2
   unfold plusW
   simp only
   rw [wrap_id (n := sLo h (T.kids i) - (h k).lo) (by omega), wrap_id (n := sHi h (T.kids i) - (h k).hi) (by omega), wrap_id (by omega), wrap_id (by omega)]
   congr 1 <;> omega
 intro k hk2
 obtain ⟨n, hn, hkk⟩ := List.getElem_of_mem hk2
 obtain ⟨a, _⟩ := fold_fix _ (T.kidF i) (·.1) (nar_kid T i) (T.kids i) (h, ⟨sLo h (T.kids i), sHi h (T.kids i)⟩) hs _ _ _ (cut n hn)
 rw [hkk, List.foldl_append, key n (Nat.le_of_lt hn), List.foldl_cons, List.foldl_nil] at a
 have a1 := congrFun a k
 obtain ⟨t1, t2⟩ := kid_tame ht hT hi hk2
 simp only [Way.kidF, upd_at, t1, t2] at a1
 have a2 : max (h k).lo ((h i).lo - (sHi h (T.kids i) - (h k).hi + T.loss i)) = (h k).lo := congrArg Span.lo a1
 have a3 : min (h k).hi ((h i).hi - (sLo h (T.kids i) - (h k).lo)) = (h k).hi := congrArg Span.hi a1
 omega
end Go.Proofs.YtocdmkilnbpkdaaGreatDoor
