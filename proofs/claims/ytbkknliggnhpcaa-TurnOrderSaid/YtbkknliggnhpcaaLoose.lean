/- A region that draws its order, in which one operation may write on behind a row that another one made (append onto an append): whatever the order, each operation has yielded what it should. -/
import Derived.Test.YtbkknliggnhpcaaGG
import Derived.Maps.AppendAt
set_option linter.unusedVariables false
set_option linter.unusedSimpArgs false
namespace Go.Proofs.Ytbkknliggnhpcaa
open Go.RowKit

section
variable {P : Program} {ops : Array Oper} {Q : Exit → Act → World → Prop} {a0 : Act} {w : World} {dst : Nat → Tmp} {mono pre : Nat → Bool} {G : Array Bool → (Nat → Value) → World → Prop}
def NoPv : Nat → Value → World → Prop := fun _ _ _ => True
theorem Grown.next0 {n : Nat} {listed : Array Bool} {vs : Nat → Value} {a : Act} {W W' : World} {i : Nat} {v : Value} (h : Grown n a0 w dst mono NoPv listed vs a W) (hi : i < n) (hl : listed.getD i false = false) (hm : mono i = true)
    (hd : ∀ i, i < n → mono i = true → dst i < a0.tmps.size) (hinj : ∀ i, i < n → mono i = true → ∀ j, j < n → mono j = true → dst i = dst j → i = j) (hb : Below w.heap.size W W') :
    Grown n a0 w dst mono NoPv (listed.setIfInBounds i true) (fun j => if j = i then v else vs j) (a.put (some (dst i)) v) W' := by
  have r := h.next (v := v) hi hl hm hd hinj (fun _ _ _ _ _ _ => trivial) (Below.refl _ W) trivial
  exact ⟨h.below.trans hb, r.defers, r.tmps, r.size, r.mono, fun _ _ => trivial⟩
theorem wpAny_inv (hok : growOk ops dst mono pre a0.tmps.size = true)
    (hstep : ∀ i, i < ops.size → mono i = true → ∀ listed vs a W, GrownU ops.size a0 w dst NoPv listed vs a W → listed.size = ops.size → G listed vs W → (∀ j, listed.getD j false = true → ∀ o, ops[j]? = some o → ∀ e ∈ o.after, Region.binds .any e = true → listed.getD e.on false = true) → listed.getD i false = false → (∀ o, ops[i]? = some o → ∀ e ∈ o.after, Region.binds .any e = true → listed.getD e.on false = true) →
      ∀ K : Act → World → Prop, (∀ v W', Below w.heap.size W W' → G (listed.setIfInBounds i true) (fun j => if j = i then v else vs j) W' → K (a.put (some (dst i)) v) W') → wpOp P ops Q i K a W)
    (hend : ∀ listed vs a W, Grown ops.size a0 w dst mono NoPv listed vs a W → G listed vs W → (∀ i, i < ops.size → pre i = true → listed.getD i false = true) → wpAny P .any ops Q (leftOver listed ops.size) listed a W) :
    ∀ (fuel : Nat) (listed : Array Bool) (vs : Nat → Value) (a : Act) (W : World), Grown ops.size a0 w dst mono NoPv listed vs a W → G listed vs W → (∀ j, listed.getD j false = true → ∀ o, ops[j]? = some o → ∀ e ∈ o.after, Region.binds .any e = true → listed.getD e.on false = true) → fuel = leftOver listed ops.size → wpAny P .any ops Q fuel listed a W
  | 0, listed, vs, a, W, h, hG, _, hf => by
    rw [hf]
    exact hend listed vs a W h hG (fun i hi _ => leftOver_zero hf.symm hi)
  | fuel + 1, listed, vs, a, W, h, hG, hcl, hf => by
    by_cases hall : ∀ i, i < ops.size → pre i = true → listed.getD i false = true
    · rw [hf]; exact hend listed vs a W h hG hall
    · have hfacts := fun i (hi : i < ops.size) => any_some (List.all_eq_true.1 hok i (List.mem_range.2 hi))
      obtain ⟨hd, hinj⟩ := grow_facts hok
      have hex : ∃ i, i < ops.size ∧ pre i = true ∧ listed.getD i false = false ∧ ∀ j, j < i → pre j = true → listed.getD j false = true := by
        apply Classical.byContradiction
        intro hno
        apply hall
        intro i
        induction i using Nat.strongRecOn with
        | _ i ih =>
          intro hi hp
          cases hl : listed.getD i false with
          | true => rfl
          | false => exact absurd ⟨i, hi, hp, hl, fun j hj hpj => ih j hj (by omega) hpj⟩ hno
      refine ⟨fun hr => ?_, fun i hi => ?_⟩
      · exfalso
        obtain ⟨i, hi, hp, hl, hbef⟩ := hex
        obtain ⟨o, ho, h2⟩ := hfacts i hi
        simp only [hp, Bool.not_true, Bool.false_or, Bool.and_eq_true] at h2
        have hmem : i ∈ Region.ready .any ops listed := by
          rw [Region.ready, List.mem_filter]
          refine ⟨List.mem_range.2 hi, ?_⟩
          have hl2 : listed.getD i true = false := by
            rw [Array.getD_eq_getD_getElem?] at hl ⊢
            rw [Array.getElem?_eq_getElem (by rw [h.size]; exact hi)] at hl ⊢
            exact hl
          rw [hl2, ho]
          simp only [Bool.not_false, Bool.true_and, Option.map_some, Option.getD_some]
          rw [Array.all_eq_true_iff_forall_mem]
          intro e he
          have h3 := Array.all_eq_true_iff_forall_mem.1 h2.1.2.2 e he
          cases hb : Region.binds .any e with
          | false => rfl
          | true =>
            rw [hb] at h3
            simp only [Bool.not_true, Bool.false_or, Bool.and_eq_true, decide_eq_true_eq] at h3
            simpa using hbef e.on h3.1 h3.2
        rw [hr] at hmem
        cases hmem
      · rw [Region.ready, List.mem_filter] at hi
        obtain ⟨hi, hr⟩ := hi
        have hi := List.mem_range.1 hi
        obtain ⟨o, ho, h2⟩ := hfacts i hi
        rw [ho] at hr
        simp only [Option.map_some, Option.getD_some, Bool.and_eq_true, Bool.not_eq_true'] at hr
        have hl : listed.getD i false = false := by
          have := hr.1
          rw [Array.getD_eq_getD_getElem?] at this ⊢
          rw [Array.getElem?_eq_getElem (by rw [h.size]; exact hi)] at this ⊢
          exact this
        have haft : ∀ e ∈ o.after, Region.binds .any e = true → listed.getD e.on false = true := fun e he hb => by
          have := Array.all_eq_true_iff_forall_mem.1 hr.2 e he
          rw [hb] at this
          simpa using this
        have hm : mono i = true := by
          cases hm : mono i with
          | true => rfl
          | false =>
            exfalso
            simp only [hm, Bool.false_or, Bool.and_eq_true] at h2
            apply hall
            intro j hj hp
            have h3 := List.all_eq_true.1 h2.2 j (List.mem_range.2 hj)
            rw [hp] at h3
            simp only [Bool.not_true, Bool.false_or] at h3
            rw [← Array.any_toList, List.any_eq_true] at h3
            obtain ⟨e, he, h4⟩ := h3
            have he : e ∈ o.after := by simpa using he
            simp only [Bool.and_eq_true, beq_iff_eq] at h4
            rw [← h4.2]
            exact haft e he h4.1
        refine hstep i hi hm listed vs a W (h.user hd hinj) h.size hG hcl hl (fun o' ho' => by rw [ho] at ho'; cases ho'; exact haft) _ (fun v W' hb hv => ?_)
        refine wpAny_inv hok hstep hend fuel _ _ _ _ (h.next0 hi hl hm hd hinj hb) hv (fun j hj o' ho' e he hbi => ?_) (by have := leftOver_set h.size hi hl; omega)
        rw [getD_set (by rw [h.size]; exact hi)] at hj ⊢
        split
        · rfl
        · split at hj
          · rename_i e1
            subst e1
            rw [ho] at ho'; cases ho'
            exact haft e he hbi
          · exact hcl j hj o' ho' e he hbi
theorem wp_region_inv {id : Nat} (hm : P.follows .mixedOrders = true) (hok : growOk ops dst mono pre a0.tmps.size = true)
    (h0 : G (Array.replicate ops.size false) (fun _ => undef) w.drew)
    (hstep : ∀ i, i < ops.size → mono i = true → ∀ listed vs a W, GrownU ops.size a0 w.drew dst NoPv listed vs a W → listed.size = ops.size → G listed vs W → (∀ j, listed.getD j false = true → ∀ o, ops[j]? = some o → ∀ e ∈ o.after, Region.binds .any e = true → listed.getD e.on false = true) → listed.getD i false = false → (∀ o, ops[i]? = some o → ∀ e ∈ o.after, Region.binds .any e = true → listed.getD e.on false = true) →
      ∀ K : Act → World → Prop, (∀ v W', Below w.heap.size W W' → G (listed.setIfInBounds i true) (fun j => if j = i then v else vs j) W' → K (a.put (some (dst i)) v) W') → wpOp P ops Q i K a W)
    (hend : ∀ listed vs a W, Grown ops.size a0 w.drew dst mono NoPv listed vs a W → G listed vs W → (∀ i, i < ops.size → pre i = true → listed.getD i false = true) → wpAny P .any ops Q (leftOver listed ops.size) listed a W) :
    (Code.region id ops true).wp P Q a0 w := by
  have hz : ∀ i, (Array.replicate ops.size false).getD i false = false := fun i => by
    rw [Array.getD_eq_getD_getElem?, Array.getElem?_replicate]; split <;> rfl
  have hix : idxs (Array.replicate ops.size false) ops.size = [] := by
    rw [idxs, List.filter_eq_nil_iff]; intro i _; rw [hz]; simp
  refine wp_region_any hm (wpAny_inv hok hstep hend _ _ (fun _ => undef) a0 w.drew ⟨Below.refl _ _, rfl, by rw [hix]; rfl, by simp, (fun i h => by rw [hz] at h; cases h), (fun i h => by rw [hz] at h; cases h)⟩ h0 (fun j h => by rw [hz] at h; cases h) ?_)
  rw [leftOver, List.filter_eq_self.2 (fun i _ => by rw [hz]; rfl), List.length_range]
end

/-- Operation j is over, and its row has not been handed on. -/
def Live (cs : Nat → Nat) (listed : Array Bool) (j : Nat) : Prop := listed.getD j false = true ∧ listed.getD (cs j) false = false
/-- What is so of the operations that are over: each has what it should; a row that is to be handed on is nobody else's. cs j: the operation to which j's row is handed on (n: none). ft: the blocks that a value leans on. -/
structure Loose (n base : Nat) (cs : Nat → Nat) (Pv : Nat → Value → World → Prop) (ft : Nat → Value → Nat → Prop) (listed : Array Bool) (vs : Nat → Value) (W : World) : Prop where
  size : listed.size = n
  base : base ≤ W.heap.size
  pv : ∀ j, j < n → Live cs listed j → Pv j (vs j) W
  lt : ∀ j, j < n → Live cs listed j → ∀ b, ft j (vs j) b → b < W.heap.size
  apart : ∀ j k, j < n → k < n → j ≠ k → cs j < n → Live cs listed j → Live cs listed k → ∀ b, ft j (vs j) b → ¬ ft k (vs k) b
/-- What Pv says of a value stays while the blocks that it leans on stay. -/
def Stab (base : Nat) (Pv : Nat → Value → World → Prop) (ft : Nat → Value → Nat → Prop) : Prop :=
  ∀ i v W W', Pv i v W → base ≤ W.heap.size → W.heap.size ≤ W'.heap.size → (∀ b, b < W.heap.size → (b < base ∨ ft i v b) → W'.heap[b]? = W.heap[b]?) → Pv i v W'
section
variable {n base : Nat} {cs : Nat → Nat} {Pv : Nat → Value → World → Prop} {ft : Nat → Value → Nat → Prop} {listed : Array Bool} {vs : Nat → Value} {W W' : World} {i p : Nat} {v : Value}
theorem Loose.start {w : World} (hb : base ≤ w.heap.size) : Loose n base cs Pv ft (Array.replicate n false) vs w := by
  have hz : ∀ i, (Array.replicate n false).getD i false = false := fun i => by
    rw [Array.getD_eq_getD_getElem?, Array.getElem?_replicate]; split <;> rfl
  have hno : ∀ j, ¬ Live cs (Array.replicate n false) j := fun j h => by have h1 := h.1; rw [hz] at h1; cases h1
  exact ⟨by simp, hb, fun j _ h => absurd h (hno j), fun j _ h => absurd h (hno j), fun j _ _ _ _ _ h => absurd h (hno j)⟩
theorem live_set (hs : listed.size = n) (hi : i < n) {j : Nat} (hj : j ≠ i) (h : Live cs (listed.setIfInBounds i true) j) : Live cs listed j ∧ cs j ≠ i := by
  obtain ⟨h1, h2⟩ := h
  rw [getD_set (by omega), if_neg hj] at h1
  rw [getD_set (by omega)] at h2
  split at h2
  · cases h2
  · rename_i hne; exact ⟨⟨h1, h2⟩, hne⟩
/-- An operation that makes something new, or reads. -/
theorem Loose.fresh (h : Loose n base cs Pv ft listed vs W) (hst : Stab base Pv ft) (hi : i < n) (hb : Below W.heap.size W W') (hv : Pv i v W')
    (hf : ∀ b, ft i v b → b < W'.heap.size ∧ (W.heap.size ≤ b ∨ (n ≤ cs i ∧ ∃ j, j < n ∧ j ≠ i ∧ Live cs listed j ∧ n ≤ cs j ∧ ft j (vs j) b))) :
    Loose n base cs Pv ft (listed.setIfInBounds i true) (fun j => if j = i then v else vs j) W' := by
  refine ⟨by rw [Array.size_setIfInBounds]; exact h.size, Nat.le_trans h.base hb.size, fun j hj hl => ?_, fun j hj hl b => ?_, fun j k hj hk hne hc hlj hlk b => ?_⟩
  · show Pv j (if j = i then v else vs j) W'
    split
    · rename_i e; rw [e]; exact hv
    · rename_i e
      exact hst _ _ _ _ (h.pv j hj (live_set h.size hi e hl).1) h.base hb.size (fun b hb2 _ => hb.block b hb2)
  · show ft j (if j = i then v else vs j) b → _
    split
    · rename_i e; rw [e]; exact fun hb2 => (hf b hb2).1
    · rename_i e; exact fun hb2 => Nat.lt_of_lt_of_le (h.lt j hj (live_set h.size hi e hl).1 b hb2) hb.size
  · show ft j (if j = i then v else vs j) b → ¬ ft k (if k = i then v else vs k) b
    by_cases e : j = i
    · rw [if_pos e, if_neg (by omega)]
      intro hb2 hb3
      have hk' := h.lt k hk (live_set h.size hi (by omega) hlk).1 b hb3
      subst e
      rcases (hf b hb2).2 with h1 | ⟨h1, _⟩ <;> omega
    · rw [if_neg e]
      have hj' := (live_set h.size hi e hlj).1
      by_cases e2 : k = i
      · rw [if_pos e2]
        subst e2
        intro hb2 hb3
        have hjb := h.lt j hj hj' b hb2
        rcases (hf b hb3).2 with h1 | ⟨_, q, hq, _, hql, hqc, hqb⟩
        · omega
        · exact h.apart j q hj hq (fun e => by subst e; omega) hc hj' hql b hb2 hqb
      · rw [if_neg e2]
        exact h.apart j k hj hk hne hc hj' (live_set h.size hi e2 hlk).1 b
/-- The same where no row is to be handed on any more. -/
theorem Loose.freshAll (h : Loose n base cs Pv ft listed vs W) (hst : Stab base Pv ft) (hi : i < n) (hci : n ≤ cs i) (hno : ∀ j, j < n → cs j < n → ¬ Live cs listed j) (hb : Below W.heap.size W W') (hv : Pv i v W')
    (hf : ∀ b, ft i v b → b < W'.heap.size) :
    Loose n base cs Pv ft (listed.setIfInBounds i true) (fun j => if j = i then v else vs j) W' := by
  refine ⟨by rw [Array.size_setIfInBounds]; exact h.size, Nat.le_trans h.base hb.size, fun j hj hl => ?_, fun j hj hl b => ?_, fun j k hj hk hne hc hlj hlk b => ?_⟩
  · show Pv j (if j = i then v else vs j) W'
    split
    · rename_i e; rw [e]; exact hv
    · rename_i e
      exact hst _ _ _ _ (h.pv j hj (live_set h.size hi e hl).1) h.base hb.size (fun b hb2 _ => hb.block b hb2)
  · show ft j (if j = i then v else vs j) b → _
    split
    · rename_i e; rw [e]; exact hf b
    · rename_i e; exact fun hb2 => Nat.lt_of_lt_of_le (h.lt j hj (live_set h.size hi e hl).1 b hb2) hb.size
  · exfalso
    by_cases e : j = i
    · subst e; omega
    · exact hno j hj hc (live_set h.size hi e hlj).1
/-- An operation to which p's row is handed on. -/
theorem Loose.take (h : Loose n base cs Pv ft listed vs W) (hst : Stab base Pv ft) (hi : i < n) (hp : p < n) (hpi : p ≠ i) (hcp : cs p = i) (hl : Live cs listed p) (hg : W.grownBy W' (vs p).ownBlock)
    (hfp : ∀ b, (vs p).ownBlock = some b → ft p (vs p) b ∧ base ≤ b) (hv : Pv i v W') (hf : ∀ b, ft i v b → b < W'.heap.size ∧ (ft p (vs p) b ∨ W.heap.size ≤ b)) :
    Loose n base cs Pv ft (listed.setIfInBounds i true) (fun j => if j = i then v else vs j) W' := by
  have hnp : ∀ {j}, j ≠ i → Live cs (listed.setIfInBounds i true) j → j ≠ p := fun {j} e hlj e2 => by
    subst e2; exact (live_set h.size hi e hlj).2 hcp
  refine ⟨by rw [Array.size_setIfInBounds]; exact h.size, Nat.le_trans h.base hg.size, fun j hj hl' => ?_, fun j hj hl' b => ?_, fun j k hj hk hne hc hlj hlk b => ?_⟩
  · show Pv j (if j = i then v else vs j) W'
    split
    · rename_i e; rw [e]; exact hv
    · rename_i e
      have hlo := (live_set h.size hi e hl').1
      have hjp := hnp e hl'
      refine hst _ _ _ _ (h.pv j hj hlo) h.base hg.size (fun b hb2 hb3 => hg.block b hb2 (fun e3 => ?_))
      obtain ⟨h1, h2⟩ := hfp b e3.symm
      rcases hb3 with hb3 | hb3
      · omega
      · exact h.apart p j hp hj (Ne.symm hjp) (by omega) hl hlo b h1 hb3
  · show ft j (if j = i then v else vs j) b → _
    split
    · rename_i e; rw [e]; exact fun hb2 => (hf b hb2).1
    · rename_i e; exact fun hb2 => Nat.lt_of_lt_of_le (h.lt j hj (live_set h.size hi e hl').1 b hb2) hg.size
  · show ft j (if j = i then v else vs j) b → ¬ ft k (if k = i then v else vs k) b
    by_cases e : j = i
    · rw [if_pos e, if_neg (by omega)]
      intro hb2 hb3
      have hk0 : k ≠ i := by omega
      have hk' := (live_set h.size hi hk0 hlk).1
      have hkb := h.lt k hk hk' b hb3
      rw [e] at hb2
      rcases (hf b hb2).2 with h1 | h1
      · exact h.apart p k hp hk (Ne.symm (hnp hk0 hlk)) (by omega) hl hk' b h1 hb3
      · omega
    · rw [if_neg e]
      have hj' := (live_set h.size hi e hlj).1
      by_cases e2 : k = i
      · rw [if_pos e2]
        intro hb2 hb3
        have hjb := h.lt j hj hj' b hb2
        rw [e2] at hb3
        rcases (hf b hb3).2 with h1 | h1
        · exact h.apart p j hp hj (Ne.symm (hnp e hlj)) (by omega) hl hj' b h1 hb2
        · omega
      · rw [if_neg e2]
        exact h.apart j k hj hk hne hc hj' (live_set h.size hi e2 hlk).1 b
end
theorem own_new {g o m c b : Nat} (h : (Value.slice (some ⟨g, o, none⟩) m c).ownBlock = some b) : g = b := Option.some.inj h
section
variable {w w' : World} {B n c : Nat} {A : Option Addr} {xs : List Int}
theorem Row.stab {m : Nat} {f : Nat → Value} (h : Row w w.heap.size A m f) (hz : w.heap.size ≤ w'.heap.size) (hk : ∀ b o, b < w.heap.size → A = some ⟨b, o, none⟩ → 0 < m → w'.heap[b]? = w.heap[b]?) : Row w' w'.heap.size A m f := fun hm => by
  obtain ⟨b, off, e, hb, hc⟩ := h hm
  exact ⟨b, off, e, by omega, fun j hj => (World.cell?_of_block (a := ⟨b, off + j, none⟩) (hk b off hb e hm)).trans (hc j hj)⟩
theorem IntsS.stab (h : IntsS w w.heap.size A n c xs) (hz : w.heap.size ≤ w'.heap.size) (hk : ∀ b o, b < w.heap.size → A = some ⟨b, o, none⟩ → 0 < n → w'.heap[b]? = w.heap[b]?) : IntsS w' w'.heap.size A n c xs :=
  ⟨h.len, h.cap, h.max, h.row.stab hz hk⟩
theorem IntsS.foot (h : IntsS w w.heap.size A n c xs) {b : Nat} (hb : (Value.slice A n c).ownBlock = some b ∧ 0 < n) : b < w.heap.size := by
  obtain ⟨b', o, rfl, h2, _⟩ := h.row hb.2
  rw [← own_new hb.1]; exact h2
theorem own_stab {base e size m : Nat} {v : Value} {vs : List Value} (h : w.ownsRow base e size v m vs) (hk : ∀ b, b < w.heap.size → v.ownBlock = some b → w'.heap[b]? = w.heap[b]?) : w'.ownsRow base e size v m vs := by
  refine ⟨h.1, ?_⟩
  rcases h.2 with hn | ⟨g, cap, cur, rfl, hb, hgg, rest⟩
  · exact .inl hn
  · refine .inr ⟨g, cap, cur, rfl, hb, ?_, rest⟩
    rw [hk g (Array.getElem?_eq_some_iff.1 hgg).1 rfl]
    exact hgg
end
/-- A row that a call owns reads as a row of values. -/
theorem row_own {w : World} {base e size m : Nat} {v : Value} {vs : List Value} (h : w.ownsRow base e size v m vs) : ∃ A c, v = .slice A m c ∧ m ≤ c ∧ c ≤ maxLen ∧ Row w w.heap.size A (m * size) (fun j => vs.getD j undef) := by
  have hl := h.1
  rcases h.2 with ⟨rfl, h0⟩ | ⟨g, cap, cur, rfl, hg, hh, h1, h2, h3, h4⟩
  · subst h0
    exact ⟨none, 0, rfl, Nat.le_refl _, by simp [maxLen], by rw [Nat.zero_mul]; exact Row.nil_⟩
  · refine ⟨_, cap, rfl, h1, h2, fun hm => ⟨g, 0, rfl, (Array.getElem?_eq_some_iff.1 hh).1, fun j hj => ?_⟩⟩
    have := h.cells (g := g) rfl j (vs.getD j undef) (by rw [List.getD_eq_getElem?_getD, List.getElem?_eq_getElem (by omega)]; rfl)
    rwa [Addr.add_lit] at this
/-- append of a row that came in, nil or not, onto a row of the call's own. -/
theorem run_app_row {P : Program} (w : World) (base : Nat) (t ty e : TypeId) (i : TypeInfo) (z : Value) (size bytes : Nat) (ht : P.underlying t = some (.slice e)) (hi : P.info? e = some i) (hz : i.zero = some z)
    (hsize : i.size = size) (hby : i.bytes = bytes) (hzs : z.cells.size = size) (hsz : 0 < size)
    {v : Value} {n : Nat} {xs : List Value} (hown : w.ownsRow base e size v n xs) {B m c : Nat} {A : Option Addr} {f : Nat → Value} (h : Row w B A (m * size) f) (h1 : ∀ j, j < m * size → (f j).oneCell' = true)
    (h63 : n + m ≤ maxLen) (hbytes : (n + m) * bytes ≤ 140737488355328) (hbase : base ≤ w.heap.size) :
    ∃ v' w', (Builtin.append_ #[t, t] ty #[v, .slice A m c]).run P w = .ok v' w' ∧ w'.ownsRow base e size v' (n + m) (xs ++ (List.range (m * size)).map f) ∧ w.grownBy w' v.ownBlock ∧ (v'.ownBlock = v.ownBlock ∨ v'.ownBlock = some w.heap.size) := by
  rcases Nat.eq_zero_or_pos m with h0 | h0
  · subst h0
    rw [Nat.zero_mul] at *
    cases A with
    | none => exact ⟨v, w, run_append_of_nil w base t ty e i size ht hi v n xs hown c, by simpa using hown, World.grownBy.refl w _, .inl rfl⟩
    | some ad =>
      obtain ⟨v', w', hrun, h2, h3, _, h5⟩ := run_append_own_at (P := P) w base t ty e i z size bytes ht hi hz hsize hby hzs hsz v n xs hown ad 0 c [] (by simp) (by simp) (by simp) (by omega) (by omega) hbase
      exact ⟨v', w', hrun, by simpa using h2, h3, h5⟩
  · obtain ⟨b, off, rfl, hb, hc⟩ := h (Nat.mul_pos h0 hsz)
    obtain ⟨v', w', hrun, h2, h3, _, h5⟩ := run_append_own_at (P := P) w base t ty e i z size bytes ht hi hz hsize hby hzs hsz v n xs hown ⟨b, off, none⟩ m c ((List.range (m * size)).map f) (by simp)
      (fun j u hu => by
        rw [Addr.add_lit]
        rw [List.getElem?_map] at hu
        rcases Nat.lt_or_ge j (m * size) with hj | hj
        · rw [List.getElem?_range hj] at hu
          simp only [Option.map_some, Option.some.injEq] at hu
          rw [hc j hj, hu]
        · rw [List.getElem?_eq_none (by simpa using hj)] at hu; cases hu) (by
        intro u hu
        obtain ⟨j, hj, rfl⟩ := List.mem_map.1 hu
        exact h1 j (List.mem_range.1 hj)) h63 hbytes hbase
    exact ⟨v', w', hrun, h2, h3, h5⟩
theorem wpOp_append {P : Program} {ops : Array Oper} {Q : Exit → Act → World → Prop} {i : Nat} {o : Oper} {K : Act → World → Prop} {a : Act} {W W' : World} {s x : Tmp} {T : TypeId} {v u v' : Value} (ho : ops[i]? = some o) (hg : o.guard = none)
    (hop : o.op = .call { callee := .builtin .append, args := #[.tmp s, .tmp x], argTypes := #[T, T] }) (hs : a.tmps[s]?.getD undef = v) (hx : a.tmps[x]?.getD undef = u)
    (hrun : (Builtin.append_ #[T, T] o.type #[v, u]).run P W = .ok v' W') (hk : K (a.put o.dst v') W') : wpOp P ops Q i K a W := by
  refine wpOp_value ho hg ?_ hk
  have hs' : a.eval (.tmp s) = v := by show a.tmps.getD s undef = v; rw [Array.getD_eq_getD_getElem?]; exact hs
  have hx' : a.eval (.tmp x) = u := by show a.tmps.getD x undef = u; rw [Array.getD_eq_getD_getElem?]; exact hx
  unfold execOp
  simp only [hop, resolve, invoke, builtin, Sem.run_bind, Sem.run_pure, Result.andThen_ok, List.map_toArray, List.map_cons, List.map_nil, hs', hx', hrun]
section
variable {a0 : Act} {w : World} {dst : Nat → Tmp} {n base : Nat} {cs : Nat → Nat} {Pv : Nat → Value → World → Prop} {ft : Nat → Value → Nat → Prop} {listed : Array Bool} {vs : Nat → Value} {a : Act} {W : World} {K : Act → World → Prop} {i p : Nat}
theorem live_end {j : Nat} (hs : listed.size = n) (hc : cs j = n) (h : listed.getD j false = true) : Live cs listed j :=
  ⟨h, by rw [hc, Array.getD_eq_getD_getElem?, Array.getElem?_eq_none (by omega)]; rfl⟩
theorem Loose.stepF (hU : GrownU n a0 w dst NoPv listed vs a W) (hG : Loose n base cs Pv ft listed vs W) (hst : Stab base Pv ft) (hi : i < n)
    (hK : ∀ v W', Below w.heap.size W W' → Loose n base cs Pv ft (listed.setIfInBounds i true) (fun j => if j = i then v else vs j) W' → K (a.put (some (dst i)) v) W') :
    ∀ v W', Below W.heap.size W W' → Pv i v W' → (∀ b, ft i v b → b < W'.heap.size ∧ (W.heap.size ≤ b ∨ (n ≤ cs i ∧ ∃ j, j < n ∧ j ≠ i ∧ Live cs listed j ∧ n ≤ cs j ∧ ft j (vs j) b))) → K (a.put (some (dst i)) v) W' :=
  fun v W' hb hv hf => hK v W' (hb.mono hU.below.size) (hG.fresh hst hi hb hv hf)
theorem Loose.stepN (hU : GrownU n a0 w dst NoPv listed vs a W) (hG : Loose n base cs Pv ft listed vs W) (hst : Stab base Pv ft) (hi : i < n)
    (hK : ∀ v W', Below w.heap.size W W' → Loose n base cs Pv ft (listed.setIfInBounds i true) (fun j => if j = i then v else vs j) W' → K (a.put (some (dst i)) v) W')
    (hci : n ≤ cs i) (hno : ∀ j, j < n → cs j < n → ¬ Live cs listed j) :
    ∀ v W', Below W.heap.size W W' → Pv i v W' → (∀ b, ft i v b → b < W'.heap.size) → K (a.put (some (dst i)) v) W' :=
  fun v W' hb hv hf => hK v W' (hb.mono hU.below.size) (hG.freshAll hst hi hci hno hb hv hf)
theorem Loose.stepA (hU : GrownU n a0 w dst NoPv listed vs a W) (hG : Loose n base cs Pv ft listed vs W) (hwb : base = w.heap.size) (hst : Stab base Pv ft) (hi : i < n)
    (hK : ∀ v W', Below w.heap.size W W' → Loose n base cs Pv ft (listed.setIfInBounds i true) (fun j => if j = i then v else vs j) W' → K (a.put (some (dst i)) v) W')
    (hp : p < n) (hpi : p ≠ i) (hcp : cs p = i) (hl : Live cs listed p) (hfp : ∀ b, (vs p).ownBlock = some b → ft p (vs p) b)
    {e size m : Nat} {xs : List Value} (hown : W.ownsRow base e size (vs p) m xs) :
    ∀ v W' m' xs', W.grownBy W' (vs p).ownBlock → W'.ownsRow base e size v m' xs' → (v.ownBlock = (vs p).ownBlock ∨ v.ownBlock = some W.heap.size) → Pv i v W' → (∀ b, ft i v b → v.ownBlock = some b) → K (a.put (some (dst i)) v) W' := by
  intro v W' m' xs' hg hown' hblk hv hfi
  have hbb : ∀ b, (vs p).ownBlock = some b → base ≤ b := fun b hb => (hown.lt b hb).1
  refine hK v W' ((Below.refl _ _).grown hg hU.below.size (fun k hk => by rw [← hwb]; exact hbb k hk)) (hG.take hst hi hp hpi hcp hl hg (fun b hb => ⟨hfp b hb, hbb b hb⟩) hv (fun b hb => ?_))
  have hb2 := hfi b hb
  refine ⟨(hown'.lt b hb2).2, ?_⟩
  rcases hblk with h | h
  · exact .inl (hfp b (by rw [← h]; exact hb2))
  · rw [h] at hb2
    exact .inr (Nat.le_of_eq (Option.some.inj hb2))
end
theorem own_lit {base : Nat} {W : World} {T : TypeId} {size : Nat} (hb : base ≤ W.heap.size) (cells : Array Value) (m : Nat) (hm : cells.size = m * size) (hx : m ≤ maxLen) :
    ∃ A cp, Value.slice (some ⟨W.heap.size, 0, none⟩) m m = .slice A m cp ∧ (W.alloc (.cells cells T)).ownsRow base T size (.slice A m cp) m cells.toList :=
  ⟨_, _, rfl, World.ownsRow_lit W cells m hb hx hm⟩
end Go.Proofs.Ytbkknliggnhpcaa
