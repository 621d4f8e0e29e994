/- Plain laws of wider books; a further tally. -/
import Derived.Test.YtocdmkilnbpkdaaGreatDoorQG
import Derived.Test.YtocdmkilnbpkdaaGreatDoorZT
set_option linter.unusedVariables false
set_option linter.unusedSimpArgs false
namespace Go.Proofs.YtocdmkilnbpkdaaGreatDoor
/-- Wider ways: more can get lost, and more can be at each step by itself. -/
structure Wider (T T' : Way) (c c' : Nat → Span) : Prop where
 n : T'.n = T.n
 par : T'.par = T.par
 loss : ∀ i, i < T.n → T.loss i ≤ T'.loss i
 c : ∀ i, i < T.n → (c' i).lo ≤ (c i).lo ∧ (c i).hi ≤ (c' i).hi
section
variable {T T' : Way} {c c' : Nat → Span}
theorem Wider.kids (h : Wider T T' c c') (i : Nat) : T'.kids i = T.kids i := by unfold Way.kids; rw [h.n, h.par]
theorem u_mono (ht : T.Ok) (ht' : T'.Ok) (h : Wider T T' c c') (hn : NeS T (T.u c)) : ∀ m i, i < T.n → T.n ≤ i + m → (T'.u c' i).lo ≤ (T.u c i).lo ∧ (T.u c i).hi ≤ (T'.u c' i).hi
 | 0, i, h1, h2 => by omega
 | m + 1, i, h1, h2 => by
  have hk : ∀ k ∈ T.kids i, (T'.u c' k).lo ≤ (T.u c k).lo ∧ (T.u c k).hi ≤ (T'.u c' k).hi := fun k hk => by
   have g := kid_gt ht hk
   exact u_mono ht ht' h hn m k g.2 (by omega)
  have ha : (T'.kids i).all (fun k => neB (T'.u c' k)) = true := List.all_eq_true.2 fun k hkk => by
   rw [h.kids] at hkk
   have h1 := hk k hkk
   have h2 := hn k (kid_gt ht hkk).2
   exact decide_eq_true (by omega)
  have e1 := u_eq ht' c' (i := i) (by rw [h.n]; exact h1)
  rw [Way.val, if_pos ha, h.kids] at e1
  have e2 := u_val ht hn h1
  have s1 : sLo (T'.u c') (T.kids i) ≤ sLo (T.u c) (T.kids i) := sumL_le fun k hkk => (hk k hkk).1
  have s2 : sHi (T.u c) (T.kids i) ≤ sHi (T'.u c') (T.kids i) := sumL_le fun k hkk => (hk k hkk).2
  have hc := h.c i h1
  have hl := h.loss i h1
  rw [e1, e2]
  by_cases hk0 : T.kids i = []
  · rw [if_pos hk0, if_pos hk0]; simp only [both]; omega
  · rw [if_neg hk0, if_neg hk0]; simp only [both]; omega
theorem u_wide (ht : T.Ok) (ht' : T'.Ok) (h : Wider T T' c c') (hn : NeS T (T.u c)) {i : Nat} (hi : i < T.n) : (T'.u c' i).lo ≤ (T.u c i).lo ∧ (T.u c i).hi ≤ (T'.u c' i).hi := u_mono ht ht' h hn T.n i hi (by omega)
theorem ne_wide (ht : T.Ok) (ht' : T'.Ok) (h : Wider T T' c c') (hs : neB (T.u c 0) = true) : neB (T'.u c' 0) = true := by
 have h1 := u_wide ht ht' h (u_ne ht hs) ht.pos
 have h2 := of_decide_eq_true hs
 exact decide_eq_true (by omega)
theorem d_wide (ht : T.Ok) (ht' : T'.Ok) (h : Wider T T' c c') (hs : neB (T.u c 0) = true) : ∀ m i, i ≤ m → i < T.n → (T'.d c' i).lo ≤ (T.d c i).lo ∧ (T.d c i).hi ≤ (T'.d c' i).hi := by
 have hn := u_ne ht hs
 have hu := fun i (hi : i < T.n) => u_wide ht ht' h hn hi
 intro m
 induction m with
 | zero =>
  intro i hi _
  obtain rfl : i = 0 := by omega
  rw [d_zero ht, d_zero ht']
  exact hu 0 ht.pos
 | succ m ih =>
  intro i hi hin
  by_cases h0 : i = 0
  · rw [h0, d_zero ht, d_zero ht']; exact hu 0 ht.pos
  · have hp := ht.par i (by omega) hin
    have hk : i ∈ T.kids (T.par i) := kid.2 ⟨hin, by omega, rfl⟩
    have hk' : i ∈ T'.kids (T.par i) := by rw [h.kids]; exact hk
    obtain ⟨a1, a2⟩ := d_kid (c := c) ht hk
    obtain ⟨b1, b2⟩ := d_kid (c := c') ht' hk'
    have hd := ih (T.par i) (by omega) (by omega)
    have hl := h.loss (T.par i) (by omega)
    have hui := hu i hin
    rw [h.kids] at b1 b2
    have s1 := sumL_less (f := fun k => (T'.u c' k).lo) (g := fun k => (T.u c k).lo) hk fun x hx => (hu x (kid_gt ht hx).2).1
    have s2 := sumL_less (f := fun k => (T.u c k).hi) (g := fun k => (T'.u c' k).hi) hk fun x hx => (hu x (kid_gt ht hx).2).2
    unfold sLo sHi at *
    omega
theorem lost_wide (ht : T.Ok) (ht' : T'.Ok) (h : Wider T T' c c') (hs : neB (T.u c 0) = true) {i : Nat} (hi : i < T.n) : (T'.lost c' i).lo ≤ (T.lost c i).lo ∧ (T.lost c i).hi ≤ (T'.lost c' i).hi := by
 have hn := u_ne ht hs
 have hd := d_wide ht ht' h hs i i (Nat.le_refl _) hi
 have hl := h.loss i hi
 have s1 : sLo (T'.u c') (T.kids i) ≤ sLo (T.u c) (T.kids i) := sumL_le fun k hk => (u_wide ht ht' h hn (kid_gt ht hk).2).1
 have s2 : sHi (T.u c) (T.kids i) ≤ sHi (T'.u c') (T.kids i) := sumL_le fun k hk => (u_wide ht ht' h hn (kid_gt ht hk).2).2
 rw [Way.lost, Way.lost, h.kids]
 by_cases hk : T.kids i = []
 · rw [if_pos hk, if_pos hk]; exact ⟨Int.le_refl _, Int.le_refl _⟩
 · rw [if_neg hk, if_neg hk]; simp only; omega
end

theorem lessB_no {xs ys : List Int} (hl : xs.length = ys.length) (h : ∀ j, j < ys.length → (∀ i, i < j → nth xs i = nth ys i) → nth ys j ≤ nth xs j) : lessB xs ys = false := by
 induction xs generalizing ys with
 | nil =>
  cases ys with
  | nil => rfl
  | cons y c => simp at hl
 | cons x a ih =>
  cases ys with
  | nil => simp at hl
  | cons y c =>
   have h0 := h 0 (by simp) (fun i hi => absurd hi (Nat.not_lt_zero i))
   change y ≤ x at h0
   rw [lessB]
   by_cases e : x = y
   · rw [if_pos e]
     exact ih (by simpa using hl) fun j hj hq => h (j + 1) (by simp; omega) fun i hi => by
      cases i with
      | zero => exact e
      | succ i => exact hq i (by omega)
   · rw [if_neg e]; exact decide_eq_false (by omega)
theorem firstL_nth {b : Book} {n i : Nat} (hi : i < n) : nth (firstL b n) i = firstB b i := by
 rw [nth_eq (by simpa [firstL] using hi)]; simp [firstL]
def subB (a b : List Int) : Bool := a.all fun x => hasInt b x
def withB (a b : Span) : Bool := decide (b.lo ≤ a.lo) && decide (a.hi ≤ b.hi)
theorem withB_iff {a b : Span} : withB a b = true ↔ b.lo ≤ a.lo ∧ a.hi ≤ b.hi := by simp [withB]
theorem sub_filter {p q : Nat → Bool} {n : Nat} (h : ∀ i, i < n → p i = true → q i = true) : subB (natInts ((List.range n).filter p)) (natInts ((List.range n).filter q)) = true := by
 rw [subB, List.all_eq_true]
 intro y hy
 rw [natInts, List.mem_map] at hy
 obtain ⟨i, hi, rfl⟩ := hy
 rw [List.mem_filter, List.mem_range] at hi
 exact (has_filter q hi.1).trans (h i hi.1 hi.2)
theorem tell_wider (b : Book) (x : Tally) : Wider (wayOf b) (wayOf b) (cB (tellB b x) fun _ => false) (cB b fun _ => false) := ⟨rfl, rfl, fun _ _ => Int.le_refl _, fun i _ => by
 rw [cB_tell, if_neg (by simp)]
 by_cases e : i = x.step.toNat
 · rw [e, upd_at]; unfold both; simp only; omega
 · rw [upd_ne _ _ e]; exact ⟨Int.le_refl _, Int.le_refl _⟩⟩
structure MoreF (b : Book) (x : Tally) (n : Nat) : Prop where
 hands : ∀ i, i < n → withB (handsB (tellB b x) (fun _ => false) i) (handsB b (fun _ => false) i) = true
 lost : ∀ i, i < n → withB (lostB (tellB b x) i) (lostB b i) = true
 sure : subB (natInts (sureTo b n)) (natInts (sureTo (tellB b x) n)) = true
 may : subB (natInts (mayTo (tellB b x) n)) (natInts (mayTo b n)) = true
 first : lessB (firstL (tellB b x) n) (firstL b n) = false
theorem more_facts {b : Book} {x : Tally} (h : someV b = true) (h' : someV (tellB b x) = true) : MoreF b x b.steps.length := by
 obtain ⟨hg, hs⟩ := some_good h
 obtain ⟨hg', hs'⟩ := some_good h'
 have hw := hg.way
 have hW := tell_wider b x
 have hl : ∀ i, i < b.steps.length → (lostB b i).lo ≤ (lostB (tellB b x) i).lo ∧ (lostB (tellB b x) i).hi ≤ (lostB b i).hi := fun i hi => lost_wide hw hw hW hs' hi
 refine ⟨fun i hi => withB_iff.2 (d_wide hw hw hW hs' i i (Nat.le_refl _) hi), fun i hi => withB_iff.2 (hl i hi), ?_, ?_, ?_⟩
 · exact sub_filter fun i hi hp => by
    have := hl i hi
    have hp := of_decide_eq_true hp
    exact decide_eq_true (by omega)
 · have e : ∀ {c : Book}, someV c = true → mayTo c c.steps.length = (List.range c.steps.length).filter fun i => decide (0 < (lostB c i).hi) := fun {c} hc => List.filter_congr fun i hi => by
    have hf := lost_facts hc (List.mem_range.1 hi)
    rw [Bool.eq_iff_iff]
    simp only [spanB, Bool.not_eq_true', decide_eq_true_eq]
    generalize lostB c i = z at *
    obtain ⟨z1, z2⟩ := z
    simp only [Bool.and_eq_false_iff, beq_eq_false_iff_ne] at *
    omega
   have e1 := e h'
   rw [show (tellB b x).steps.length = b.steps.length from rfl] at e1
   rw [e h, e1]
   exact sub_filter fun i hi hp => by
    have := hl i hi
    have hp := of_decide_eq_true hp
    exact decide_eq_true (by omega)
 · have hl1 : ∀ c : Book, (firstL c b.steps.length).length = b.steps.length := fun c => by simp [firstL]
   refine lessB_no ((hl1 _).trans (hl1 _).symm) fun j hj he => ?_
   rw [hl1] at hj
   rw [firstL_nth hj, firstL_nth hj]
   have ht := first_truth hw hs'
   have ht2 : Truth (wayOf b) (cB b fun _ => false) ((wayOf b).first (cB (tellB b x) fun _ => false)) := ⟨fun i hi => by
    have h1 := ht.1 i hi
    have h2 := hW.c i hi
    omega, ht.2⟩
   exact first_least hw (cB_99 b _) ht2 hj fun i hi => by
    have := he i hi
    rw [firstL_nth (by omega), firstL_nth (by omega)] at this
    exact this
end Go.Proofs.YtocdmkilnbpkdaaGreatDoor
