/- Plain laws: a further step at which no hands were. -/
import Derived.Test.YtocdmkilnbpkdaaGreatDoorQG
set_option linter.unusedVariables false
set_option linter.unusedSimpArgs false
namespace Go.Proofs.YtocdmkilnbpkdaaGreatDoor
/-- A further step at which no hands were. -/
structure More1 (T T' : Way) (c c' : Nat → Span) (p : Nat) : Prop where
 n : T'.n = T.n + 1
 par : ∀ k, k < T.n → T'.par k = T.par k
 loss : ∀ k, k < T.n → T'.loss k = T.loss k
 new : T'.par T.n = p
 c : ∀ k, k < T.n → c' k = c k
 zero : c' T.n = ⟨0, 0⟩
 at_ : p < T.n
 some : T.kids p ≠ []
theorem sumL_app (f : Nat → Int) (l : List Nat) (k : Nat) : sumL f (l ++ [k]) = sumL f l + f k := by
 induction l with
 | nil => simp [sumL]
 | cons x l ih => rw [List.cons_append, sumL, sumL, ih]; omega
section
variable {T T' : Way} {c c' : Nat → Span} {p : Nat}
theorem More1.kids (ht : T.Ok) (h : More1 T T' c c' p) {i : Nat} : T'.kids i = if i = p then T.kids i ++ [T.n] else T.kids i := by
 unfold Way.kids
 rw [h.n, List.range_succ, List.filter_append]
 have e : (List.range T.n).filter (fun k => decide (0 < k) && decide (T'.par k = i)) = (List.range T.n).filter (fun k => decide (0 < k) && decide (T.par k = i)) :=
  List.filter_congr fun k hk => by rw [h.par k (List.mem_range.1 hk)]
 rw [e]
 have hp := ht.pos
 by_cases hi : i = p
 · rw [if_pos hi]; simp [h.new, hi, hp]
 · rw [if_neg hi]
   have : ¬ p = i := fun e => hi e.symm
   simp [h.new, this]
theorem More1.kids_new (ht : T.Ok) (h : More1 T T' c c' p) : T'.kids T.n = [] := by
 have h1 := h.at_
 rw [h.kids ht, if_neg (by omega)]
 unfold Way.kids
 rw [List.filter_eq_nil_iff]
 intro k hk
 have hk := List.mem_range.1 hk
 by_cases h0 : 0 < k
 · have := ht.par k h0 hk
   have : ¬ T.par k = T.n := by omega
   simp [this]
 · simp [h0]
theorem More1.u_new (ht : T.Ok) (ht' : T'.Ok) (h : More1 T T' c c' p) : T'.u c' T.n = ⟨0, 0⟩ := by
 have e := u_eq ht' c' (i := T.n) (by rw [h.n]; omega)
 rw [Way.val, h.kids_new ht, h.zero] at e
 rw [e]; rfl
theorem More1.u_old (ht : T.Ok) (ht' : T'.Ok) (h : More1 T T' c c' p) : ∀ m i, i < T.n → T.n ≤ i + m → T'.u c' i = T.u c i
 | 0, i, h1, h2 => by omega
 | m + 1, i, h1, h2 => by
  have hk : ∀ k ∈ T.kids i, T'.u c' k = T.u c k := fun k hk => h.u_old ht ht' m k (kid_gt ht hk).2 (by have := kid_gt ht hk; omega)
  rw [u_eq ht' c' (i := i) (by rw [h.n]; omega), u_eq ht c h1, Way.val, Way.val, h.c i h1, h.loss i h1, h.kids ht]
  have ea : (T.kids i).all (fun k => neB (T'.u c' k)) = (T.kids i).all (fun k => neB (T.u c k)) := by
   rw [Bool.eq_iff_iff, List.all_eq_true, List.all_eq_true]
   exact forall_congr' fun k => imp_congr_right fun hkk => by rw [hk k hkk]
  have e1 : sLo (T'.u c') (T.kids i) = sLo (T.u c) (T.kids i) := sumL_ext fun k hkk => by rw [hk k hkk]
  have e2 : sHi (T'.u c') (T.kids i) = sHi (T.u c) (T.kids i) := sumL_ext fun k hkk => by rw [hk k hkk]
  by_cases hi : i = p
  · rw [if_pos hi]
    have hs := h.some
    rw [← hi] at hs
    have e3 : sLo (T'.u c') (T.kids i ++ [T.n]) = sLo (T.u c) (T.kids i) := by
     rw [← e1]; unfold sLo; rw [sumL_app, h.u_new ht ht']; simp
    have e4 : sHi (T'.u c') (T.kids i ++ [T.n]) = sHi (T.u c) (T.kids i) := by
     rw [← e2]; unfold sHi; rw [sumL_app, h.u_new ht ht']; simp
    rw [List.all_append, ea, e3, e4, if_neg hs, if_neg (show ¬ T.kids i ++ [T.n] = [] by simp)]
    have : ([T.n].all fun k => neB (T'.u c' k)) = true := by
     rw [List.all_cons, h.u_new ht ht']; rfl
    rw [this, Bool.and_true]
  · rw [if_neg hi, ea, e1, e2]
theorem More1.u_at (ht : T.Ok) (ht' : T'.Ok) (h : More1 T T' c c' p) {i : Nat} (hi : i < T.n) : T'.u c' i = T.u c i := h.u_old ht ht' T.n i hi (by omega)
theorem More1.sLo_ (ht : T.Ok) (ht' : T'.Ok) (h : More1 T T' c c' p) (i : Nat) : sLo (T'.u c') (T'.kids i) = sLo (T.u c) (T.kids i) := by
 have e1 : sLo (T'.u c') (T.kids i) = sLo (T.u c) (T.kids i) := sumL_ext fun k hk => by rw [h.u_at ht ht' (kid_gt ht hk).2]
 rw [h.kids ht]
 split
 · rw [← e1]; unfold sLo; rw [sumL_app, h.u_new ht ht']; simp
 · exact e1
theorem More1.sHi_ (ht : T.Ok) (ht' : T'.Ok) (h : More1 T T' c c' p) (i : Nat) : sHi (T'.u c') (T'.kids i) = sHi (T.u c) (T.kids i) := by
 have e1 : sHi (T'.u c') (T.kids i) = sHi (T.u c) (T.kids i) := sumL_ext fun k hk => by rw [h.u_at ht ht' (kid_gt ht hk).2]
 rw [h.kids ht]
 split
 · rw [← e1]; unfold sHi; rw [sumL_app, h.u_new ht ht']; simp
 · exact e1
theorem More1.d_at (ht : T.Ok) (ht' : T'.Ok) (h : More1 T T' c c' p) : ∀ m i, i ≤ m → i < T.n → T'.d c' i = T.d c i := by
 intro m
 induction m with
 | zero =>
  intro i hi _
  obtain rfl : i = 0 := by omega
  rw [d_zero ht, d_zero ht', h.u_at ht ht' ht.pos]
 | succ m ih =>
  intro i hi hin
  by_cases h0 : i = 0
  · rw [h0, d_zero ht, d_zero ht', h.u_at ht ht' ht.pos]
  · have hp := ht.par i (by omega) hin
    rw [d_eq ht' c' (i := i) (by rw [h.n]; omega), d_eq ht c hin, Way.valD, Way.valD, if_neg h0, if_neg h0, h.par i hin, ih (T.par i) (by omega) (by omega), h.sLo_ ht ht', h.sHi_ ht ht', h.u_at ht ht' hin, h.loss (T.par i) (by omega)]
theorem More1.lost_at (ht : T.Ok) (ht' : T'.Ok) (h : More1 T T' c c' p) {i : Nat} (hi : i < T.n) : T'.lost c' i = T.lost c i := by
 have hk : T'.kids i = [] ↔ T.kids i = [] := by
  rw [h.kids ht]
  split
  · rename_i e
    have := h.some
    rw [← e] at this
    simp [this]
  · exact Iff.rfl
 rw [Way.lost, Way.lost, h.d_at ht ht' i i (Nat.le_refl _) hi, h.sLo_ ht ht', h.sHi_ ht ht', h.loss i hi]
 by_cases hk0 : T.kids i = []
 · rw [if_pos hk0, if_pos (hk.2 hk0)]
 · rw [if_neg hk0, if_neg fun e => hk0 (hk.1 e)]
theorem More1.d_new (ht : T.Ok) (ht' : T'.Ok) (h : More1 T T' c c' p) (hs : neB (T.u c 0) = true) : T'.d c' T.n = ⟨0, 0⟩ := by
 have hp := h.at_
 have hn := u_ne ht hs
 have e := d_eq ht' c' (i := T.n) (by rw [h.n]; omega)
 rw [Way.valD, if_neg (by omega), h.new, h.d_at ht ht' p p (Nat.le_refl _) hp, h.sLo_ ht ht', h.sHi_ ht ht', h.u_new ht ht', h.loss p hp] at e
 have h1 := (u_facts ht hn hp).2.2 h.some
 have h2 := d_sub (c := c) ht p hp
 have h3 := d_ne ht hn p hp
 have hl := ht.loss p hp
 rw [e]
 simp only [both]
 congr 1 <;> omega
end

/-- A book with one more step, behind one, at which no hands were. -/
def newStep (b : Book) (p : Nat) (s : ByteArray) : Book := ⟨b.steps ++ [⟨s, p, 0⟩], b.tallies ++ [⟨b.steps.length, 0, 0⟩]⟩
section
variable {b : Book} {p : Nat} {s : ByteArray}
theorem nth_old {α : Type} [Inhabited α] {l : List α} {x : α} {i : Nat} (h : i < l.length) : nth (l ++ [x]) i = nth l i := by simp [nth, List.getElem?_append_left h]
theorem nth_end {α : Type} [Inhabited α] {l : List α} {x : α} : nth (l ++ [x]) l.length = x := by simp [nth]
theorem newStep_len : (newStep b p s).steps.length = b.steps.length + 1 := by simp [newStep]
theorem newStep_tall (hg : Good b) : ∀ j, j ≤ b.tallies.length → (∀ i, i < b.steps.length → tallC (newStep b p s) (fun _ => false) j i = tallC b (fun _ => false) j i) ∧ tallC (newStep b p s) (fun _ => false) j b.steps.length = ⟨0, 99⟩
 | 0, _ => by
  refine ⟨fun i hi => ?_, ?_⟩
  · rw [tallC, tallC, newStep_len]; dsimp only; rw [if_pos hi, if_pos (by omega)]
  · rw [tallC, newStep_len]; dsimp only; rw [if_pos (by omega)]
 | j + 1, hj => by
  obtain ⟨h1, h2⟩ := newStep_tall hg j (by omega)
  have ht := (hg.tally j (by omega)).1
  have e : nth (newStep b p s).tallies j = nth b.tallies j := nth_old (show j < b.tallies.length by omega)
  have hq : (nth b.tallies j).step.toNat < b.steps.length := by omega
  refine ⟨fun i hi => ?_, ?_⟩
  · rw [tallC, tallC, if_neg (by simp), if_neg (by simp), e]
    by_cases ei : i = (nth b.tallies j).step.toNat
    · rw [← ei, upd_at, upd_at, h1 i hi]
    · rw [upd_ne _ _ ei, upd_ne _ _ ei, h1 i hi]
  · rw [tallC, if_neg (by simp), e, upd_ne _ _ (by omega), h2]
theorem newStep_more (hg : Good b) (hp : p < b.steps.length) (hk : behindB b p ≠ []) : More1 (wayOf b) (wayOf (newStep b p s)) (cB b fun _ => false) (cB (newStep b p s) fun _ => false) p := by
 obtain ⟨h1, h2⟩ := newStep_tall (p := p) (s := s) hg b.tallies.length (Nat.le_refl _)
 have hl : (newStep b p s).tallies.length = b.tallies.length + 1 := by simp [newStep]
 have e : nth (newStep b p s).tallies b.tallies.length = ⟨b.steps.length, 0, 0⟩ := nth_end
 have ec : cB (newStep b p s) (fun _ => false) = upd (tallC (newStep b p s) (fun _ => false) b.tallies.length) b.steps.length (both ⟨0, 99⟩ ⟨0, 0⟩) := by
  rw [cB, hl, tallC, if_neg (by simp), e]
  show upd _ ((b.steps.length : Int).toNat) (both (tallC _ _ _ ((b.steps.length : Int).toNat)) ⟨(0 : Int) - 0, (0 : Int) + 0⟩) = _
  rw [Int.toNat_natCast, h2]; rfl
 have es : ∀ k, k < b.steps.length → nth (newStep b p s).steps k = nth b.steps k := fun k hk => nth_old hk
 have en : nth (newStep b p s).steps b.steps.length = ⟨s, p, 0⟩ := nth_end
 refine ⟨newStep_len, fun k hk => ?_, fun k hk => ?_, ?_, fun k hk => ?_, ?_, hp, by rw [← behind_kids hg]; exact hk⟩
 · show (nth (newStep b p s).steps k).from_.toNat = _
   rw [es k hk]; rfl
 · show (nth (newStep b p s).steps k).loss = _
   rw [es k hk]; rfl
 · show (nth (newStep b p s).steps b.steps.length).from_.toNat = _
   rw [en]; rfl
 · have hk' : k < b.steps.length := hk
   rw [ec, upd_ne _ _ (by omega), h1 k hk']; rfl
 · show cB (newStep b p s) (fun _ => false) b.steps.length = _
   rw [ec, upd_at]; rfl
structure StepF (b b' : Book) (n : Nat) : Prop where
 some : someV b' = someV b
 hands : ∀ i, i < n → handsB b' (fun _ => false) i = handsB b (fun _ => false) i
 lost : ∀ i, i < n → lostB b' i = lostB b i
 new : someV b = true → handsB b' (fun _ => false) n = ⟨0, 0⟩
theorem step_facts (hc : (checkM b).2.2 = 0) (hc' : (checkM (newStep b p s)).2.2 = 0) (hp : p < b.steps.length) (hk : behindB b p ≠ []) : StepF b (newStep b p s) b.steps.length := by
 have hg := (valid_of hc).good
 have hw := hg.way
 have hw' := (valid_of hc').good.way
 have h := newStep_more (s := s) hg hp hk
 have es : someB (newStep b p s) (fun _ => false) = someB b (fun _ => false) := by
  rw [someB, someB, h.u_at hw hw' hw.pos]
 refine ⟨by rw [someV, someV, hc, hc', es], fun i hi => h.d_at hw hw' i i (Nat.le_refl _) hi, fun i hi => h.lost_at hw hw' hi, fun hs => h.d_new hw hw' (some_good hs).2⟩
theorem enter_of {b : Book} (hc : (checkM b).2.2 = 0) {i : Nat} (hi : i < b.steps.length) : enterK b i = if someV b then 0 else 8 := by
 have ho : offP 0 ((b.steps.length : Int) - 1) (i : Int) = false := offP_false.2 (by omega)
 rw [enterK_eq, if_neg (by rw [hc]; simp), if_neg (by rw [ho]; simp), someV, hc]
 simp
end
end Go.Proofs.YtocdmkilnbpkdaaGreatDoor
