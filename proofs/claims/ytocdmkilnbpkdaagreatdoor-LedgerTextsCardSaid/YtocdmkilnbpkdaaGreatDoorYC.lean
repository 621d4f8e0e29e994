/- The plain law of chapter 12: truths. -/
import Derived.Test.YtocdmkilnbpkdaaGreatDoorYB
set_option linter.unusedVariables false
set_option linter.unusedSimpArgs false
namespace Go.Proofs.YtocdmkilnbpkdaaGreatDoor
open Go.RowKit

/-- A truth: hands of all steps, each as it can be by itself, with what got lost as it can be. -/
def Truth (T : Way) (c : Nat → Span) (x : Nat → Int) : Prop :=
 (∀ i, i < T.n → (c i).lo ≤ x i ∧ x i ≤ (c i).hi) ∧ ∀ i, i < T.n → T.kids i ≠ [] → sumL x (T.kids i) ≤ x i ∧ x i ≤ sumL x (T.kids i) + T.loss i
def In99 (T : Way) (c : Nat → Span) : Prop := ∀ i, i < T.n → 0 ≤ (c i).lo ∧ (c i).hi ≤ 99
section
variable {T : Way} {c : Nat → Span}
theorem truth_in (ht : T.Ok) (hc : In99 T c) {x : Nat → Int} (h : Truth T c x) : ∀ i, i < T.n → (T.d c i).lo ≤ x i ∧ x i ≤ (T.d c i).hi := by
 have hn : NeS T (fun i => ⟨x i, x i⟩) := fun i _ => Int.le_refl _
 have hcl : ClosedS T (fun i => ⟨x i, x i⟩) := fun i hi hk => by
  have h2 := h.2 i hi hk
  have h3 := ht.loss i hi
  unfold sLo sHi
  refine ⟨h2, fun k hk => ?_⟩
  show x i - (sumL x (T.kids i) - x k) - T.loss i ≤ x k ∧ x k ≤ x i - (sumL x (T.kids i) - x k)
  omega
 exact in_d ht hn hcl h.1 fun i hi => by
  have h1 := h.1 i hi
  have h2 := hc i hi
  simp only
  omega
theorem truth_ne (ht : T.Ok) (hc : In99 T c) {x : Nat → Int} (h : Truth T c x) : neB (T.u c 0) = true := by
 have h1 := truth_in ht hc h 0 ht.pos
 rw [d_zero ht] at h1
 exact decide_eq_true (by omega)
/-- The steps from one back to the first one. -/
def Way.back (T : Way) (i : Nat) : Nat → Nat
 | 0 => i
 | m + 1 => if T.back i m = 0 then 0 else T.par (T.back i m)
theorem back_lt (ht : T.Ok) {i : Nat} (hi : i < T.n) : ∀ m, T.back i m < T.n ∧ T.back i m + m ≤ max i m
 | 0 => ⟨hi, by simp [Way.back]⟩
 | m + 1 => by
  have ih := back_lt ht hi m
  rw [Way.back]
  split
  · exact ⟨ht.pos, by omega⟩
  · rename_i h
    have := ht.par _ (Nat.pos_of_ne_zero h) ih.1
    omega
theorem back_anti (ht : T.Ok) {i : Nat} (hi : i < T.n) (m : Nat) : ∀ d, T.back i (m + d) ≤ T.back i m
 | 0 => Nat.le_refl _
 | d + 1 => by
  have ih := back_anti ht hi m d
  have hl := (back_lt ht hi (m + d)).1
  rw [← Nat.add_assoc, Way.back]
  split
  · exact Nat.zero_le _
  · rename_i h
    have := ht.par _ (Nat.pos_of_ne_zero h) hl
    omega
theorem back_kid (ht : T.Ok) {i : Nat} (hi : i < T.n) {a b k k' j : Nat} (hk : k ∈ T.kids j) (hk' : k' ∈ T.kids j) (ha : T.back i a = k) (hb : T.back i b = k') : k = k' := by
 have h1 := kid.1 hk
 have h2 := kid.1 hk'
 have g1 := kid_gt ht hk
 have g2 := kid_gt ht hk'
 have nxt : ∀ {a k : Nat}, T.back i a = k → k ≠ 0 → T.back i (a + 1) = T.par k := fun {a k} e hz => by rw [Way.back, e, if_neg hz]
 rcases Nat.lt_trichotomy a b with h | h | h
 · have e := nxt ha (by omega)
   have := back_anti ht hi (a + 1) (b - (a + 1))
   rw [show a + 1 + (b - (a + 1)) = b by omega, hb, e, h1.2.2] at this
   omega
 · rw [← ha, ← hb, h]
 · have e := nxt hb (by omega)
   have := back_anti ht hi (b + 1) (a - (b + 1))
   rw [show b + 1 + (a - (b + 1)) = a by omega, ha, e, h2.2.2] at this
   omega
/-- A step is told to have so many. -/
def fixC (c : Nat → Span) (i : Nat) (v : Int) : Nat → Span := upd c i (both (c i) ⟨v, v⟩)
theorem fix_else (ht : T.Ok) {i : Nat} (v : Int) : ∀ (m k : Nat), k < T.n → T.n ≤ k + m → (∀ a, T.back i a ≠ k) → T.u (fixC c i v) k = T.u c k
 | 0, k, h1, h2, _ => by omega
 | m + 1, k, h1, h2, h3 => by
  rw [u_eq ht _ h1, u_eq ht _ h1]
  have e : ∀ k2 ∈ T.kids k, T.u (fixC c i v) k2 = T.u c k2 := fun k2 hk => by
   have g := kid_gt ht hk
   refine fix_else ht v m k2 g.2 (by omega) fun a ha => h3 (a + 1) ?_
   rw [Way.back, ha, if_neg (by omega)]
   exact (kid.1 hk).2.2
  rw [val_ext e, Way.val, Way.val, show fixC c i v k = c k from upd_ne _ _ fun h => h3 0 h.symm]
theorem fix_path (ht : T.Ok) (hn : NeS T (T.u c)) {i : Nat} (hi : i < T.n) {v : Int} (hv : (T.d c i).lo ≤ v ∧ v ≤ (T.d c i).hi) :
 ∀ m, ∃ y, ((T.d c (T.back i m)).lo ≤ y ∧ y ≤ (T.d c (T.back i m)).hi) ∧ (T.u (fixC c i v) (T.back i m)).lo ≤ y ∧ y ≤ (T.u (fixC c i v) (T.back i m)).hi
 | 0 => by
  refine ⟨v, hv, ?_⟩
  show (T.u (fixC c i v) i).lo ≤ v ∧ v ≤ (T.u (fixC c i v) i).hi
  have hs := d_sub (c := c) ht i hi
  have e : ∀ k ∈ T.kids i, T.u (fixC c i v) k = T.u c k := fun k hk => by
   have g := kid_gt ht hk
   refine fix_else ht v T.n k g.2 (by omega) fun a ha => ?_
   have := back_anti ht hi 0 a
   rw [Nat.zero_add, ha] at this
   exact absurd this (by show ¬ k ≤ i; omega)
  have h1 := u_val ht hn hi
  have h2 := u_eq ht (fixC c i v) hi
  have ha : (T.kids i).all (fun k => neB (T.u c k)) = true := List.all_eq_true.2 fun k hk => decide_eq_true (hn k (kid_gt ht hk).2)
  rw [val_ext e, Way.val, if_pos ha, show fixC c i v i = both (c i) ⟨v, v⟩ from upd_at _ _ _] at h2
  generalize (if T.kids i = [] then (⟨0, 99⟩ : Span) else ⟨sLo (T.u c) (T.kids i), sHi (T.u c) (T.kids i) + T.loss i⟩) = z at h1 h2
  rw [h1] at hs
  rw [h2]
  simp only [both] at hs ⊢
  omega
 | m + 1 => by
  obtain ⟨y, hy1, hy2⟩ := fix_path ht hn hi hv m
  have hl := (back_lt ht hi m).1
  rw [Way.back]
  split
  · rename_i h
    rw [h] at hy1 hy2
    exact ⟨y, hy1, hy2⟩
  · rename_i h
    have hk : T.back i m ∈ T.kids (T.par (T.back i m)) := kid.2 ⟨hl, by omega, rfl⟩
    have hp := ht.par _ (Nat.pos_of_ne_zero h) hl
    have hpi : T.par (T.back i m) < i := by
     have := back_anti ht hi 0 m
     rw [Nat.zero_add] at this
     have h0 : T.back i 0 = i := rfl
     omega
    have hoth : ∀ k2 ∈ T.kids (T.par (T.back i m)), k2 ≠ T.back i m → T.u (fixC c i v) k2 = T.u c k2 := fun k2 hk2 hne =>
     fix_else ht v T.n k2 (kid_gt ht hk2).2 (by omega) fun a ha => hne (back_kid ht hi hk2 hk ha rfl)
    generalize T.back i m = k at *
    have ha : (T.kids (T.par k)).all (fun k => neB (T.u (fixC c i v) k)) = true := List.all_eq_true.2 fun k2 hk2 => decide_eq_true (by
     by_cases e : k2 = k
     · rw [e]; omega
     · rw [hoth k2 hk2 e]; exact hn k2 (kid_gt ht hk2).2)
    have h2 := u_eq ht (fixC c i v) (i := T.par k) (by omega)
    rw [Way.val, if_pos ha, if_neg (List.ne_nil_of_mem hk), show fixC c i v (T.par k) = c (T.par k) from upd_ne _ _ (by omega)] at h2
    have h3 : (T.u (fixC c i v) (T.par k)).lo = max (c (T.par k)).lo (sLo (T.u (fixC c i v)) (T.kids (T.par k))) := congrArg Span.lo h2
    have h4 : (T.u (fixC c i v) (T.par k)).hi = min (c (T.par k)).hi (sHi (T.u (fixC c i v)) (T.kids (T.par k)) + T.loss (T.par k)) := congrArg Span.hi h2
    have h5 := sumL_but (f := fun j => (T.u (fixC c i v) j).lo) (g := fun j => (T.u c j).lo) (kids_nodup T _) hk fun j hj hjk => by rw [hoth j hj hjk]
    have h6 := sumL_but (f := fun j => (T.u (fixC c i v) j).hi) (g := fun j => (T.u c j).hi) (kids_nodup T _) hk fun j hj hjk => by rw [hoth j hj hjk]
    obtain ⟨h7, h8⟩ := d_kid (c := c) ht hk
    have h9 := sumL_less (f := fun j => (T.u c j).lo) (g := fun j => (T.u c j).hi) hk fun x hx => hn x (kid_gt ht hx).2
    have hdp := d_ne ht hn (T.par k) (by omega)
    have hds := d_sub (c := c) ht (T.par k) (by omega)
    have huc := u_facts ht hn (i := T.par k) (by omega)
    have hls := ht.loss (T.par k) (by omega)
    unfold sLo sHi at *

    refine ⟨max (T.d c (T.par k)).lo (sumL (fun j => (T.u c j).lo) (T.kids (T.par k)) - (T.u c k).lo + y), ⟨by omega, by omega⟩, by omega, by omega⟩
theorem fix_ne (ht : T.Ok) (hn : NeS T (T.u c)) {i : Nat} (hi : i < T.n) {v : Int} (hv : (T.d c i).lo ≤ v ∧ v ≤ (T.d c i).hi) : neB (T.u (fixC c i v) 0) = true := by
 obtain ⟨y, _, h⟩ := fix_path ht hn hi hv i
 have h0 : T.back i i = 0 := by
  have := (back_lt ht hi i).2
  omega
 rw [h0] at h
 exact decide_eq_true (by omega)
theorem fix_99 {i : Nat} {v : Int} (hc : In99 T c) : In99 T (fixC c i v) := fun j hj => by
 have := hc j hj
 by_cases e : j = i
 · rw [e]; rw [e] at this
   rw [fixC, upd_at]; simp only [both]; omega
 · rw [fixC, upd_ne _ _ e]; exact this
theorem fix_sub {i : Nat} (v : Int) : ∀ j, (c j).lo ≤ (fixC c i v j).lo ∧ (fixC c i v j).hi ≤ (c j).hi := fun j => by
 by_cases e : j = i
 · rw [e, fixC, upd_at]; simp only [both]; omega
 · rw [fixC, upd_ne _ _ e]; omega
theorem truth_fix {i : Nat} {v : Int} {x : Nat → Int} : Truth T (fixC c i v) x ↔ Truth T c x ∧ (i < T.n → x i = v) := by
 constructor
 · rintro ⟨h1, h2⟩
   refine ⟨⟨fun j hj => ?_, h2⟩, fun hi => ?_⟩
   · have a := h1 j hj
     have b := fix_sub (c := c) (i := i) v j
     omega
   · have a := h1 i hi
     rw [fixC, upd_at] at a
     simp only [both] at a
     omega
 · rintro ⟨⟨h1, h2⟩, h3⟩
   refine ⟨fun j hj => ?_, h2⟩
   have a := h1 j hj
   by_cases e : j = i
   · have := h3 (e ▸ hj)
     rw [e] at a ⊢
     rw [fixC, upd_at]; simp only [both]; omega
   · rw [fixC, upd_ne _ _ e]; exact a
/-- Step by step the least hands that there can be, with those of the steps before it. -/
def Way.firstC (T : Way) (c : Nat → Span) : Nat → Nat → Span
 | 0 => c
 | j + 1 => fixC (T.firstC c j) j (T.d (T.firstC c j) j).lo
def Way.first (T : Way) (c : Nat → Span) (i : Nat) : Int := (T.d (T.firstC c i) i).lo
theorem first_99 (hc : In99 T c) : ∀ j, In99 T (T.firstC c j)
 | 0 => hc
 | j + 1 => fix_99 (first_99 hc j)
theorem first_ne (ht : T.Ok) (hn : neB (T.u c 0) = true) : ∀ j, j ≤ T.n → neB (T.u (T.firstC c j) 0) = true
 | 0, _ => hn
 | j + 1, h => by
  have ih := u_ne ht (first_ne ht hn j (by omega))
  exact fix_ne ht ih (by omega) ⟨Int.le_refl _, d_ne ht ih j (by omega)⟩
theorem truth_firstC {x : Nat → Int} : ∀ {j : Nat}, j ≤ T.n → (Truth T (T.firstC c j) x ↔ Truth T c x ∧ ∀ i, i < j → x i = T.first c i)
 | 0, _ => ⟨fun h => ⟨h, fun i hi => absurd hi (Nat.not_lt_zero _)⟩, fun h => h.1⟩
 | j + 1, hj => by
  rw [Way.firstC, truth_fix, truth_firstC (j := j) (by omega)]
  constructor
  · rintro ⟨⟨a, b⟩, d⟩
    refine ⟨a, fun i hi => ?_⟩
    by_cases e : i = j
    · rw [e]; exact d (by omega)
    · exact b i (by omega)
  · rintro ⟨a, b⟩
    exact ⟨⟨a, fun i hi => b i (by omega)⟩, fun _ => b j (by omega)⟩
/-- It is a truth. -/
theorem first_truth (ht : T.Ok) (hn : neB (T.u c 0) = true) : Truth T c (T.first c) := by
 have hn2 := u_ne ht (first_ne ht hn T.n (Nat.le_refl _))
 have hd := d_ne ht hn2
 have hcl := d_closed ht hn2
 have hv : ∀ i, i < T.n → (T.d (T.firstC c T.n) i).lo = T.first c i ∧ (T.d (T.firstC c T.n) i).hi = T.first c i := fun i hi => by
  have key : ∀ m, i + 1 ≤ m → m ≤ T.n → T.first c i ≤ (T.firstC c m i).lo ∧ (T.firstC c m i).hi ≤ T.first c i := by
   intro m
   induction m with
   | zero => intro h; omega
   | succ m ih =>
    intro h1 h2
    rw [Way.firstC]
    by_cases e : i = m
    · rw [e, fixC, upd_at]; simp only [both, Way.first]; omega
    · have := ih (by omega) (by omega)
      rw [fixC, upd_ne _ _ e]; exact this
  have h1 := key T.n (by omega) (Nat.le_refl _)
  have h2 := d_sub (c := T.firstC c T.n) ht i hi
  have h3 := u_facts ht hn2 hi
  have h4 := hd i hi
  omega
 refine ((truth_firstC (c := c) (j := T.n) (Nat.le_refl _)).1 ⟨fun i hi => ?_, fun i hi hk => ?_⟩).1
 · have h2 := d_sub (c := T.firstC c T.n) ht i hi
   have h3 := u_facts ht hn2 hi
   have h4 := hv i hi
   omega
 · have h1 := (hcl i hi hk).1
   have h2 := hv i hi
   have e1 : sLo (T.d (T.firstC c T.n)) (T.kids i) = sumL (T.first c) (T.kids i) := sumL_ext fun k hk => (hv k (kid_gt ht hk).2).1
   have e2 : sHi (T.d (T.firstC c T.n)) (T.kids i) = sumL (T.first c) (T.kids i) := sumL_ext fun k hk => (hv k (kid_gt ht hk).2).2
   omega
/-- No truth comes before it. -/
theorem first_least (ht : T.Ok) (hc : In99 T c) {x : Nat → Int} (h : Truth T c x) {j : Nat} (hj : j < T.n) (he : ∀ i, i < j → x i = T.first c i) : T.first c j ≤ x j :=
 (truth_in ht (first_99 hc j) ((truth_firstC (by omega)).2 ⟨h, he⟩) j hj).1
/-- What there is in truths, is in one. -/
theorem truth_at (ht : T.Ok) (hn : neB (T.u c 0) = true) {i : Nat} (hi : i < T.n) {v : Int} (hv : (T.d c i).lo ≤ v ∧ v ≤ (T.d c i).hi) : ∃ x, Truth T c x ∧ x i = v := by
 have := first_truth ht (fix_ne ht (u_ne ht hn) hi hv)
 rw [truth_fix] at this
 exact ⟨_, this.1, this.2 hi⟩
end
end Go.Proofs.YtocdmkilnbpkdaaGreatDoor
