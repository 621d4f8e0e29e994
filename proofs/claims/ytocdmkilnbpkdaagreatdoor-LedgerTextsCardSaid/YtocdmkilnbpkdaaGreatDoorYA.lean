/- The plain law of chapter 12: spans of hands at steps: what can be by what is behind, and in truths. -/
import Derived.Test.YtocdmkilnbpkdaaGreatDoorHA
set_option linter.unusedVariables false
set_option linter.unusedSimpArgs false
namespace Go.Proofs.YtocdmkilnbpkdaaGreatDoor
open Go.RowKit

theorem wrap_id {n : Int} (h : -1000000 ≤ n ∧ n ≤ 1000000) : wrap64 n = n := by unfold wrap64; omega
def upd (h : Nat → Span) (i : Nat) (s : Span) : Nat → Span := fun j => if j = i then s else h j
theorem upd_at (h : Nat → Span) (i : Nat) (s : Span) : upd h i s i = s := if_pos rfl
theorem upd_ne (h : Nat → Span) {i j : Nat} (s : Span) (e : j ≠ i) : upd h i s j = h j := if_neg e
def both (a b : Span) : Span := ⟨max a.lo b.lo, min a.hi b.hi⟩
def plusW (a b : Span) : Span := ⟨wrap64 (a.lo + b.lo), wrap64 (a.hi + b.hi)⟩
def lessW (a b : Span) : Span := ⟨wrap64 (a.lo - b.hi), wrap64 (a.hi - b.lo)⟩
/-- A way of steps: how many, from which each comes, how much can get lost. -/
structure Way where
 n : Nat
 par : Nat → Nat
 loss : Nat → Int
def Way.kids (T : Way) (i : Nat) : List Nat := (List.range T.n).filter fun k => decide (0 < k) && decide (T.par k = i)
structure Way.Ok (T : Way) : Prop where
 pos : 0 < T.n
 six : T.n ≤ 6
 par : ∀ k, 0 < k → k < T.n → T.par k < k
 loss : ∀ k, k < T.n → 0 ≤ T.loss k ∧ T.loss k ≤ 20
theorem kid {T : Way} {i k : Nat} : k ∈ T.kids i ↔ k < T.n ∧ 0 < k ∧ T.par k = i := by
 simp [Way.kids]
theorem kid_gt {T : Way} (ht : T.Ok) {i k : Nat} (h : k ∈ T.kids i) : i < k ∧ k < T.n := by
 obtain ⟨h1, h2, h3⟩ := kid.1 h
 have := ht.par k h2 h1
 omega
def sumL (f : Nat → Int) : List Nat → Int
 | [] => 0
 | k :: l => f k + sumL f l
theorem sumL_le {f g : Nat → Int} : ∀ {l : List Nat}, (∀ k ∈ l, f k ≤ g k) → sumL f l ≤ sumL g l
 | [], _ => Int.le_refl _
 | k :: l, h => by
  have h1 := h k (List.mem_cons_self ..)
  have h2 := sumL_le (l := l) fun x hx => h x (List.mem_cons_of_mem _ hx)
  simp only [sumL]; omega
theorem sumL_less {f g : Nat → Int} {k : Nat} : ∀ {l : List Nat}, k ∈ l → (∀ k ∈ l, f k ≤ g k) → sumL f l - f k ≤ sumL g l - g k
 | [], h, _ => by cases h
 | x :: l, h, ha => by
  have h1 := ha x (List.mem_cons_self ..)
  have h2 := sumL_le (l := l) fun y hy => ha y (List.mem_cons_of_mem _ hy)
  simp only [sumL]
  rcases List.mem_cons.1 h with rfl | h
  · omega
  · have := sumL_less h fun y hy => ha y (List.mem_cons_of_mem _ hy)
    omega
theorem sumL_ext {f g : Nat → Int} {l : List Nat} (h : ∀ k ∈ l, f k = g k) : sumL f l = sumL g l :=
 Int.le_antisymm (sumL_le fun k hk => by rw [h k hk]; exact Int.le_refl _) (sumL_le fun k hk => by rw [h k hk]; exact Int.le_refl _)
/-- Two of the list: what the others have. -/
theorem sumL_two {f g : Nat → Int} {k j : Nat} (hkj : k ≠ j) : ∀ {l : List Nat}, k ∈ l → j ∈ l → (∀ k ∈ l, f k ≤ g k) → sumL f l - f k - f j ≤ sumL g l - g k - g j
 | [], h, _, _ => by cases h
 | x :: l, hk, hj, ha => by
  have ht : ∀ y ∈ l, f y ≤ g y := fun y hy => ha y (List.mem_cons_of_mem _ hy)
  have h1 := ha x (List.mem_cons_self ..)
  simp only [sumL]
  rcases List.mem_cons.1 hk with e1 | hk
  · rcases List.mem_cons.1 hj with e2 | hj
    · exact absurd (e1.trans e2.symm) hkj
    · have := sumL_less (f := f) (g := g) hj ht; rw [e1]; omega
  · rcases List.mem_cons.1 hj with e2 | hj
    · have := sumL_less (f := f) (g := g) hk ht; rw [e2]; omega
    · have := sumL_two hkj hk hj ht; omega
theorem sumL_bd {f : Nat → Int} {a b : Int} : ∀ {l : List Nat}, (∀ k ∈ l, a ≤ f k ∧ f k ≤ b) → a * l.length ≤ sumL f l ∧ sumL f l ≤ b * l.length
 | [], _ => by simp [sumL]
 | x :: l, h => by
  have h1 := h x (List.mem_cons_self ..)
  have h2 := sumL_bd (l := l) fun y hy => h y (List.mem_cons_of_mem _ hy)
  simp only [sumL, List.length_cons, Int.natCast_add, Int.mul_add]
  omega
/-- Two that differ at one alone differ by it. -/
theorem sumL_but {f g : Nat → Int} {k : Nat} : ∀ {l : List Nat}, l.Nodup → k ∈ l → (∀ j ∈ l, j ≠ k → f j = g j) → sumL f l - f k = sumL g l - g k
 | [], _, h, _ => by cases h
 | x :: l, hnd, hk, he => by
  have hnd2 := List.nodup_cons.1 hnd
  simp only [sumL]
  rcases List.mem_cons.1 hk with e | hk
  · have : sumL f l = sumL g l := sumL_ext fun j hj => he j (List.mem_cons_of_mem _ hj) fun h2 => hnd2.1 (by rw [← e, ← h2]; exact hj)
    rw [e]; omega
  · have h1 := sumL_but hnd2.2 hk fun j hj => he j (List.mem_cons_of_mem _ hj)
    have h2 := he x (List.mem_cons_self ..) fun h2 => hnd2.1 (by rw [h2]; exact hk)
    omega
theorem kids_nodup (T : Way) (i : Nat) : (T.kids i).Nodup := List.Pairwise.filter _ List.nodup_range
def sLo (h : Nat → Span) (l : List Nat) : Int := sumL (fun k => (h k).lo) l
def sHi (h : Nat → Span) (l : List Nat) : Int := sumL (fun k => (h k).hi) l
def neB (s : Span) : Bool := decide (s.lo ≤ s.hi)
/-- The numbers of hands that can be at a step, by all that is behind it. -/
def Way.val (T : Way) (c h : Nat → Span) (i : Nat) : Span :=
 if (T.kids i).all fun k => neB (h k) then both (c i) (if T.kids i = [] then ⟨0, 99⟩ else ⟨sLo h (T.kids i), sHi h (T.kids i) + T.loss i⟩) else ⟨1, 0⟩
def Way.upS (T : Way) (c : Nat → Span) : Nat → Nat → Span
 | 0 => fun _ => ⟨0, 0⟩
 | j + 1 => upd (T.upS c j) (T.n - 1 - j) (T.val c (T.upS c j) (T.n - 1 - j))
def Way.u (T : Way) (c : Nat → Span) : Nat → Span := T.upS c T.n
def Way.valD (T : Way) (u d : Nat → Span) (i : Nat) : Span :=
 if i = 0 then u 0 else both (u i) ⟨(d (T.par i)).lo - (sHi u (T.kids (T.par i)) - (u i).hi) - T.loss (T.par i), (d (T.par i)).hi - (sLo u (T.kids (T.par i)) - (u i).lo)⟩
def Way.dnS (T : Way) (u : Nat → Span) : Nat → Nat → Span
 | 0 => fun _ => ⟨0, 0⟩
 | j + 1 => upd (T.dnS u j) j (T.valD u (T.dnS u j) j)
/-- The numbers of hands that there are at a step in truths. -/
def Way.d (T : Way) (c : Nat → Span) : Nat → Span := T.dnS (T.u c) T.n
theorem val_ext {T : Way} {c h g : Nat → Span} {i : Nat} (e : ∀ k ∈ T.kids i, h k = g k) : T.val c h i = T.val c g i := by
 have h1 : (T.kids i).all (fun k => neB (h k)) = (T.kids i).all fun k => neB (g k) := by
  rw [Bool.eq_iff_iff, List.all_eq_true, List.all_eq_true]
  exact forall_congr' fun k => imp_congr_right fun hk => by rw [e k hk]
 have h2 : sLo h (T.kids i) = sLo g (T.kids i) := sumL_ext fun k hk => by rw [e k hk]
 have h3 : sHi h (T.kids i) = sHi g (T.kids i) := sumL_ext fun k hk => by rw [e k hk]
 rw [Way.val, Way.val, h1, h2, h3]
theorem upS_stay (T : Way) (c : Nat → Span) {i : Nat} : ∀ {j m : Nat}, j ≤ m → m ≤ T.n → T.n - j ≤ i → T.upS c m i = T.upS c j i
 | j, 0, h, _, _ => by obtain rfl : j = 0 := by omega
                       rfl
 | j, m + 1, h, hm, hi => by
  by_cases e : j = m + 1
  · rw [e]
  · rw [Way.upS, upd_ne _ _ (by omega)]
    exact upS_stay T c (by omega) (by omega) hi
theorem u_eq {T : Way} (ht : T.Ok) (c : Nat → Span) {i : Nat} (hi : i < T.n) : T.u c i = T.val c (T.u c) i := by
 have h1 : T.u c i = T.upS c (T.n - i) i := upS_stay T c (by omega) (Nat.le_refl _) (by omega)
 rw [h1, show T.n - i = (T.n - 1 - i) + 1 by omega, Way.upS, show T.n - 1 - (T.n - 1 - i) = i by omega, upd_at]
 refine val_ext fun k hk => ?_
 have := kid_gt ht hk
 exact (upS_stay T c (j := T.n - 1 - i) (by omega) (Nat.le_refl _) (by omega)).symm
theorem dnS_stay (T : Way) (u : Nat → Span) {i : Nat} : ∀ {j m : Nat}, j ≤ m → i < j → T.dnS u m i = T.dnS u j i
 | j, 0, h, hi => by omega
 | j, m + 1, h, hi => by
  by_cases e : j = m + 1
  · rw [e]
  · rw [Way.dnS, upd_ne _ _ (by omega)]
    exact dnS_stay T u (by omega) hi
theorem d_eq {T : Way} (ht : T.Ok) (c : Nat → Span) {i : Nat} (hi : i < T.n) : T.d c i = T.valD (T.u c) (T.d c) i := by
 have h1 : T.d c i = T.dnS (T.u c) (i + 1) i := dnS_stay T _ (by omega) (by omega)
 rw [h1, Way.dnS, upd_at]
 unfold Way.valD
 by_cases h0 : i = 0
 · rw [if_pos h0, if_pos h0]
 · rw [if_neg h0, if_neg h0]
   have hp := ht.par i (by omega) hi
   rw [show T.d c (T.par i) = T.dnS (T.u c) i (T.par i) from dnS_stay T _ (by omega) hp]
def NeS (T : Way) (h : Nat → Span) : Prop := ∀ i, i < T.n → (h i).lo ≤ (h i).hi
def SubS (T : Way) (h g : Nat → Span) : Prop := ∀ i, i < T.n → (g i).lo ≤ (h i).lo ∧ (h i).hi ≤ (g i).hi
/-- Nothing is told any more. -/
def ClosedS (T : Way) (h : Nat → Span) : Prop := ∀ i, i < T.n → T.kids i ≠ [] →
 (sLo h (T.kids i) ≤ (h i).lo ∧ (h i).hi ≤ sHi h (T.kids i) + T.loss i) ∧
 ∀ k ∈ T.kids i, (h i).lo - (sHi h (T.kids i) - (h k).hi) - T.loss i ≤ (h k).lo ∧ (h k).hi ≤ (h i).hi - (sLo h (T.kids i) - (h k).lo)
theorem u_ne {T : Way} (ht : T.Ok) {c : Nat → Span} (h0 : neB (T.u c 0) = true) : NeS T (T.u c) := by
 have key : ∀ m i, i ≤ m → i < T.n → neB (T.u c i) = true := by
  intro m
  induction m with
  | zero => intro i hi _; obtain rfl : i = 0 := by omega
            exact h0
  | succ m ih =>
   intro i hi hn
   by_cases hz : i = 0
   · rw [hz]; exact h0
   · have hp := ht.par i (by omega) hn
     have h1 := ih (T.par i) (by omega) (by omega)
     rw [u_eq ht c (by omega), Way.val] at h1
     split at h1
     · rename_i ha
       rw [List.all_eq_true] at ha
       exact ha i (kid.2 ⟨hn, by omega, rfl⟩)
     · exact absurd h1 (by decide)
 intro i hi
 exact of_decide_eq_true (key i i (Nat.le_refl _) hi)
theorem u_val {T : Way} (ht : T.Ok) {c : Nat → Span} (hn : NeS T (T.u c)) {i : Nat} (hi : i < T.n) : T.u c i = both (c i) (if T.kids i = [] then ⟨0, 99⟩ else ⟨sLo (T.u c) (T.kids i), sHi (T.u c) (T.kids i) + T.loss i⟩) := by
 have := u_eq ht c hi
 have ha : (T.kids i).all (fun k => neB (T.u c k)) = true := List.all_eq_true.2 fun k hk => decide_eq_true (hn k (kid_gt ht hk).2)
 rw [Way.val, if_pos ha] at this
 exact this
theorem u_facts {T : Way} (ht : T.Ok) {c : Nat → Span} (hn : NeS T (T.u c)) {i : Nat} (hi : i < T.n) : (c i).lo ≤ (T.u c i).lo ∧ (T.u c i).hi ≤ (c i).hi ∧ (T.kids i ≠ [] → sLo (T.u c) (T.kids i) ≤ (T.u c i).lo ∧ (T.u c i).hi ≤ sHi (T.u c) (T.kids i) + T.loss i) := by
 have h := u_val ht hn hi
 have h1 : (T.u c i).lo = max (c i).lo (if T.kids i = [] then (⟨0, 99⟩ : Span) else ⟨sLo (T.u c) (T.kids i), sHi (T.u c) (T.kids i) + T.loss i⟩).lo := congrArg Span.lo h
 have h2 : (T.u c i).hi = min (c i).hi (if T.kids i = [] then (⟨0, 99⟩ : Span) else ⟨sLo (T.u c) (T.kids i), sHi (T.u c) (T.kids i) + T.loss i⟩).hi := congrArg Span.hi h
 refine ⟨by rw [h1]; omega, by rw [h2]; omega, fun hk => ?_⟩
 rw [if_neg hk] at h1 h2
 simp only at h1 h2
 omega
section
variable {T : Way} {c : Nat → Span}
theorem d_zero (ht : T.Ok) : T.d c 0 = T.u c 0 := by rw [d_eq ht c ht.pos, Way.valD, if_pos rfl]
theorem d_kid (ht : T.Ok) {i k : Nat} (hk : k ∈ T.kids i) : (T.d c k).lo = max (T.u c k).lo ((T.d c i).lo - (sHi (T.u c) (T.kids i) - (T.u c k).hi) - T.loss i) ∧ (T.d c k).hi = min (T.u c k).hi ((T.d c i).hi - (sLo (T.u c) (T.kids i) - (T.u c k).lo)) := by
 obtain ⟨h1, h2, h3⟩ := kid.1 hk
 have := d_eq ht c h1
 rw [Way.valD, if_neg (by omega), h3] at this
 exact ⟨congrArg Span.lo this, congrArg Span.hi this⟩
theorem d_sub (ht : T.Ok) : SubS T (T.d c) (T.u c) := by
 intro i hi
 by_cases h0 : i = 0
 · rw [h0, d_zero ht]; exact ⟨Int.le_refl _, Int.le_refl _⟩
 · have := d_kid (c := c) ht (kid.2 ⟨hi, by omega, rfl⟩)
   omega
theorem d_ne (ht : T.Ok) (hn : NeS T (T.u c)) : NeS T (T.d c) := by
 have key : ∀ m i, i ≤ m → i < T.n → (T.d c i).lo ≤ (T.d c i).hi := by
  intro m
  induction m with
  | zero => intro i hi hn'; obtain rfl : i = 0 := by omega
            rw [d_zero ht]; exact hn 0 hn'
  | succ m ih =>
   intro i hi hin
   by_cases h0 : i = 0
   · rw [h0, d_zero ht]; exact hn 0 ht.pos
   · have hp := ht.par i (by omega) hin
     have hk : i ∈ T.kids (T.par i) := kid.2 ⟨hin, by omega, rfl⟩
     obtain ⟨h1, h2⟩ := d_kid (c := c) ht hk
     have h3 := ih (T.par i) (by omega) (by omega)
     have h4 := d_sub (c := c) ht (T.par i) (by omega)
     have h5 := (u_facts ht hn (i := T.par i) (by omega)).2.2 (List.ne_nil_of_mem hk)
     have h6 := hn i hin
     have h7 : sumL (fun k => (T.u c k).lo) (T.kids (T.par i)) - (T.u c i).lo ≤ sumL (fun k => (T.u c k).hi) (T.kids (T.par i)) - (T.u c i).hi := sumL_less (f := fun k => (T.u c k).lo) (g := fun k => (T.u c k).hi) hk fun x hx => hn x (kid_gt ht hx).2
     have h8 := ht.loss (T.par i) (by omega)
     unfold sLo sHi at *
     omega
 exact fun i hi => key i i (Nat.le_refl _) hi
theorem d_closed (ht : T.Ok) (hn : NeS T (T.u c)) : ClosedS T (T.d c) := by
 intro i hi hki
 have hd := d_ne ht hn
 have hs := d_sub (c := c) ht
 have hl := ht.loss i hi
 have hu := (u_facts ht hn hi).2.2 hki
 have hdi := hs i hi
 have hdn := hd i hi
 have hmem : ∀ k ∈ T.kids i, k < T.n := fun k hk => (kid_gt ht hk).2
 have hlo : ∀ k ∈ T.kids i, (T.u c k).lo ≤ (T.d c k).lo := fun k hk => (hs k (hmem k hk)).1
 have hhi : ∀ k ∈ T.kids i, (T.d c k).hi ≤ (T.u c k).hi := fun k hk => (hs k (hmem k hk)).2
 have hlh : ∀ k ∈ T.kids i, (T.d c k).lo ≤ (T.u c k).hi := fun k hk => Int.le_trans (hd k (hmem k hk)) (hhi k hk)
 have hhl : ∀ k ∈ T.kids i, (T.u c k).lo ≤ (T.d c k).hi := fun k hk => Int.le_trans (hlo k hk) (hd k (hmem k hk))
 unfold sLo sHi at *
 refine ⟨⟨?_, ?_⟩, fun k hk => ⟨?_, ?_⟩⟩
 · by_cases h : ∃ k ∈ T.kids i, (T.d c k).lo ≠ (T.u c k).lo
   · obtain ⟨k, hk, hne⟩ := h
     obtain ⟨h1, _⟩ := d_kid (c := c) ht hk
     have := sumL_less (f := fun k => (T.d c k).lo) (g := fun k => (T.u c k).hi) hk hlh
     unfold sHi at h1
     omega
   · have : sumL (fun k => (T.d c k).lo) (T.kids i) = sumL (fun k => (T.u c k).lo) (T.kids i) := sumL_ext fun k hk => Classical.not_not.1 fun hne => h ⟨k, hk, hne⟩
     omega
 · by_cases h : ∃ k ∈ T.kids i, (T.d c k).hi ≠ (T.u c k).hi
   · obtain ⟨k, hk, hne⟩ := h
     obtain ⟨_, h1⟩ := d_kid (c := c) ht hk
     have := sumL_less (f := fun k => (T.u c k).lo) (g := fun k => (T.d c k).hi) hk hhl
     unfold sLo at h1
     omega
   · have : sumL (fun k => (T.d c k).hi) (T.kids i) = sumL (fun k => (T.u c k).hi) (T.kids i) := sumL_ext fun k hk => Classical.not_not.1 fun hne => h ⟨k, hk, hne⟩
     omega
 · obtain ⟨h1, h2⟩ := d_kid (c := c) ht hk
   unfold sHi at h1
   have hk1 := hlo k hk
   by_cases h : ∃ j ∈ T.kids i, j ≠ k ∧ (T.d c j).hi ≠ (T.u c j).hi
   · obtain ⟨j, hj, hjk, hne⟩ := h
     obtain ⟨_, h3⟩ := d_kid (c := c) ht hj
     unfold sLo at h3
     have := sumL_two (f := fun k => (T.u c k).lo) (g := fun k => (T.d c k).hi) hjk.symm hk hj hhl
     omega
   · have := sumL_but (f := fun k => (T.d c k).hi) (g := fun k => (T.u c k).hi) (kids_nodup T i) hk fun j hj hjk => Classical.not_not.1 fun hne => h ⟨j, hj, hjk, hne⟩
     omega
 · obtain ⟨h1, h2⟩ := d_kid (c := c) ht hk
   unfold sLo at h2
   have hk1 := hhi k hk
   by_cases h : ∃ j ∈ T.kids i, j ≠ k ∧ (T.d c j).lo ≠ (T.u c j).lo
   · obtain ⟨j, hj, hjk, hne⟩ := h
     obtain ⟨h3, _⟩ := d_kid (c := c) ht hj
     unfold sHi at h3
     have := sumL_two (f := fun k => (T.d c k).lo) (g := fun k => (T.u c k).hi) hjk.symm hk hj hlh
     omega
   · have := sumL_but (f := fun k => (T.d c k).lo) (g := fun k => (T.u c k).lo) (kids_nodup T i) hk fun j hj hjk => Classical.not_not.1 fun hne => h ⟨j, hj, hjk, hne⟩
     omega
end
end Go.Proofs.YtocdmkilnbpkdaaGreatDoor
