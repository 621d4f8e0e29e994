/- Drawn regions of which a call may end the function by a panic. -/
import Derived.Test.YtocdmkilnbpkdaaGreatDoorZV
set_option linter.unusedVariables false
set_option linter.unusedSimpArgs false
namespace Go.Proofs.YtocdmkilnbpkdaaGreatDoor
open Go.RowKit

structure GrownV (n : Nat) (a0 : Act) (w : World) (dst : Nat → Tmp) (Pv : Nat → Value → World → Prop) (listed : Array Bool) (vs : Nat → Value) (a : Act) (W : World) : Prop extends GrownU n a0 w dst Pv listed vs a W where
 defers : a.defers = a0.defers
theorem wpOp_enterP {P : Program} {ops : Array Oper} {Q : Exit → Act → World → Prop} {i : Nat} {o : Oper} {K : Act → World → Prop} {a : Act} {W W' : World} {f : FuncId} {args : Array Value} (ho : ops[i]? = some o) (hg : o.guard = none) (hr : (execOp a.eval o).run P W = .ok (.enter f args) W')
 (hc : Calls P f args W' fun e w'' => (∃ v, e = .returned v ∧ K (a.put o.dst v) w'') ∨ ∃ ch, e = .panicked ch ∧ Q (.panic ch) a w'') : wpOp P ops Q i K a W := by
 unfold wpOp
 simp only [ho, Region.wanted, hg, if_true]
 left
 unfold Oper.wp
 rw [hr]
 refine hc.mono (fun e w'' h => ?_)
 rcases h with ⟨v, he, hk⟩ | ⟨ch, he, hk⟩
 · rw [he]; exact hk
 · rw [he]; exact hk
section
variable {P : Program} {ops : Array Oper} {Q : Exit → Act → World → Prop} {a0 : Act} {w : World} {dst : Nat → Tmp} {mono pre : Nat → Bool} {G : Array Bool → (Nat → Value) → World → Prop}
theorem wpAny_inv5 (hok : growOk4 ops dst mono pre a0.tmps.size = true)
 (hstep : ∀ i, i < ops.size → mono i = true → ∀ listed vs a W, GrownV ops.size a0 W dst NoPv listed vs a W → listed.size = ops.size → G listed vs W → (∀ j, listed.getD j false = true → ∀ o, ops[j]? = some o → ∀ e ∈ o.after, Region.binds .any e = true → listed.getD e.on false = true) → listed.getD i false = false → (∀ o, ops[i]? = some o → ∀ e ∈ o.after, Region.binds .any e = true → listed.getD e.on false = true) →
  ∀ K : Act → World → Prop, (∀ v W', G (listed.setIfInBounds i true) (fun j => if j = i then v else vs j) W' → K (a.put (some (dst i)) v) W') → wpOp P ops Q i K a W)
 (hend : ∀ listed vs a W, Grown ops.size a0 W dst mono NoPv listed vs a W → G listed vs W → (∀ i, i < ops.size → pre i = true → listed.getD i false = true) → wpAny P .any ops Q (leftOver listed ops.size) listed a W) :
 ∀ (fuel : Nat) (listed : Array Bool) (vs : Nat → Value) (a : Act) (W : World), Grown ops.size a0 W dst mono NoPv listed vs a W → G listed vs W → (∀ j, listed.getD j false = true → ∀ o, ops[j]? = some o → ∀ e ∈ o.after, Region.binds .any e = true → listed.getD e.on false = true) → fuel = leftOver listed ops.size → wpAny P .any ops Q fuel listed a W
 | 0, listed, vs, a, W, h, hG, _, hf => by
  rw [hf]
  exact hend listed vs a W h hG (fun i hi _ => leftOver_zero hf.symm hi)
 | fuel + 1, listed, vs, a, W, h, hG, hcl, hf => by
  by_cases hall : ∀ i, i < ops.size → pre i = true → listed.getD i false = true
  · rw [hf]; exact hend listed vs a W h hG hall
  · have hfacts := fun i (hi : i < ops.size) => any_some (List.all_eq_true.1 hok i (List.mem_range.2 hi))
    obtain ⟨hd, hinj⟩ := grow_facts4 hok
    have hex : ∃ i, i < ops.size ∧ pre i = true ∧ listed.getD i false = false ∧ ∀ j, j < i → pre j = true → listed.getD j false = true := by
     apply Classical.byContradiction
     intro hno
     apply hall
     intro i
     induction i using Nat.strongRecOn with
     | _ i ih =>
      intro hi hp
      cases hl : listed.getD i false with
      | true => rfl
      | false => exact absurd ⟨i, hi, hp, hl, fun j hj hpj => ih j hj (by omega) hpj⟩ hno
    refine ⟨fun hr => ?_, fun i hi => ?_⟩
    · exfalso
      obtain ⟨i, hi, hp, hl, hbef⟩ := hex
      obtain ⟨o, ho, h2⟩ := hfacts i hi
      simp only [hp, Bool.not_true, Bool.false_or, Bool.and_eq_true] at h2
      have hmem : i ∈ Region.ready .any ops listed := by
       rw [Region.ready, List.mem_filter]
       refine ⟨List.mem_range.2 hi, ?_⟩
       have hl2 : listed.getD i true = false := by
        rw [Array.getD_eq_getD_getElem?] at hl ⊢
        rw [Array.getElem?_eq_getElem (by rw [h.size]; exact hi)] at hl ⊢
        exact hl
       rw [hl2, ho]
       simp only [Bool.not_false, Bool.true_and, Option.map_some, Option.getD_some]
       rw [Array.all_eq_true_iff_forall_mem]
       intro e he
       have h3 := Array.all_eq_true_iff_forall_mem.1 h2.1.2.2 e he
       cases hb : Region.binds .any e with
       | false => rfl
       | true =>
        rw [hb] at h3
        simp only [Bool.not_true, Bool.false_or, Bool.and_eq_true, decide_eq_true_eq] at h3
        simpa using hbef e.on h3.1 h3.2
      rw [hr] at hmem
      cases hmem
    · rw [Region.ready, List.mem_filter] at hi
      obtain ⟨hi, hr⟩ := hi
      have hi := List.mem_range.1 hi
      obtain ⟨o, ho, h2⟩ := hfacts i hi
      rw [ho] at hr
      simp only [Option.map_some, Option.getD_some, Bool.and_eq_true, Bool.not_eq_true'] at hr
      have hl : listed.getD i false = false := by
       have := hr.1
       rw [Array.getD_eq_getD_getElem?] at this ⊢
       rw [Array.getElem?_eq_getElem (by rw [h.size]; exact hi)] at this ⊢
       exact this
      have haft : ∀ e ∈ o.after, Region.binds .any e = true → listed.getD e.on false = true := fun e he hb => by
       have := Array.all_eq_true_iff_forall_mem.1 hr.2 e he
       rw [hb] at this
       simpa using this
      have hm : mono i = true := by
       cases hm : mono i with
       | true => rfl
       | false =>
        exfalso
        simp only [hm, Bool.false_or, Bool.and_eq_true] at h2
        apply hall
        intro j hj hp
        have h3 := List.all_eq_true.1 h2.2 j (List.mem_range.2 hj)
        rw [hp] at h3
        simp only [Bool.not_true, Bool.false_or] at h3
        exact via_listed (listed := listed) hcl 8 i o ho haft j h3
      refine hstep i hi hm listed vs a W ⟨h.user hd hinj, h.defers⟩ h.size hG hcl hl (fun o' ho' => by rw [ho] at ho'; cases ho'; exact haft) _ (fun v W' hv => ?_)
      refine wpAny_inv5 hok hstep hend fuel _ _ _ _ (let r := h.next0 (v := v) hi hl hm hd hinj (Below.refl _ W); ⟨Below.refl _ _, r.defers, r.tmps, r.size, r.mono, fun _ _ => trivial⟩) hv (fun j hj o' ho' e he hbi => ?_) (by have := leftOver_set h.size hi hl; omega)
      rw [getD_set (by rw [h.size]; exact hi)] at hj ⊢
      split
      · rfl
      · split at hj
        · rename_i e1
          subst e1
          rw [ho] at ho'; cases ho'
          exact haft e he hbi
        · exact hcl j hj o' ho' e he hbi
variable {R : World → World → Prop} {Pv : Nat → Value → World → Prop}
theorem wpAny_rel5 (hok : growOk4 ops dst mono pre a0.tmps.size = true) (hR0 : ∀ W, R W W) (hRt : ∀ W W' W'', R W W' → R W' W'' → R W W'') (hst : ∀ i v W W', Pv i v W → R W W' → Pv i v W')
 (hstep : ∀ i, i < ops.size → mono i = true → ∀ listed vs a W, GrownV ops.size a0 W dst NoPv listed vs a W → R w W → (∀ i, listed.getD i false = true → Pv i (vs i) W) → (∀ o, ops[i]? = some o → ∀ e ∈ o.after, Region.binds .any e = true → listed.getD e.on false = true) →
  ∀ K : Act → World → Prop, (∀ v W', R W W' → Pv i v W' → K (a.put (some (dst i)) v) W') → wpOp P ops Q i K a W)
 (hend : ∀ listed vs a W, Grown ops.size a0 W dst mono NoPv listed vs a W → R w W → (∀ i, listed.getD i false = true → Pv i (vs i) W) → (∀ i, i < ops.size → pre i = true → listed.getD i false = true) → wpAny P .any ops Q (leftOver listed ops.size) listed a W) :
 wpAny P .any ops Q ops.size (Array.replicate ops.size false) a0 w := by
 have hz : ∀ i, (Array.replicate ops.size false).getD i false = false := fun i => by
  rw [Array.getD_eq_getD_getElem?, Array.getElem?_replicate]; split <;> rfl
 have hix : idxs (Array.replicate ops.size false) ops.size = [] := by
  rw [idxs, List.filter_eq_nil_iff]; intro i _; rw [hz]; simp
 refine wpAny_inv5 (G := RelG ops.size R Pv w) hok (fun i hi hm listed vs a W hU _ hG _ hl haft K hK => ?_) (fun listed vs a W hG0 hG hpre => hend listed vs a W hG0 hG.2.1 hG.2.2 hpre) _ _ (fun _ => undef) a0 w
  ⟨Below.refl _ _, rfl, by rw [hix]; rfl, by simp, (fun i h => by rw [hz] at h; cases h), (fun i h => by rw [hz] at h; cases h)⟩ ⟨by simp, hR0 w, (fun i h => by rw [hz] at h; cases h)⟩ (fun j h => by rw [hz] at h; cases h) ?_
 · refine hstep i hi hm listed vs a W hU hG.2.1 hG.2.2 haft K (fun v W' hr hv => hK v W' ⟨by rw [Array.size_setIfInBounds]; exact hG.1, hRt _ _ _ hG.2.1 hr, fun j hj => ?_⟩)
   rw [getD_set (by rw [hG.1]; exact hi)] at hj
   split at hj
   · rename_i e; simp only [e, if_true]; exact hv
   · rename_i e; simp only [e, if_false]; exact hst _ _ _ _ (hG.2.2 j hj) hr
 · rw [leftOver, List.filter_eq_self.2 (fun i _ => by rw [hz]; rfl), List.length_range]
theorem wp_region_rel5 {id : Nat} (hm : P.follows .mixedOrders = true) (hok : growOk4 ops dst mono pre a0.tmps.size = true) (hR0 : ∀ W, R W W) (hRt : ∀ W W' W'', R W W' → R W' W'' → R W W'') (hst : ∀ i v W W', Pv i v W → R W W' → Pv i v W')
 (hstep : ∀ i, i < ops.size → mono i = true → ∀ listed vs a W, GrownV ops.size a0 W dst NoPv listed vs a W → R w.drew W → (∀ i, listed.getD i false = true → Pv i (vs i) W) → (∀ o, ops[i]? = some o → ∀ e ∈ o.after, Region.binds .any e = true → listed.getD e.on false = true) →
  ∀ K : Act → World → Prop, (∀ v W', R W W' → Pv i v W' → K (a.put (some (dst i)) v) W') → wpOp P ops Q i K a W)
 (hend : ∀ listed vs a W, Grown ops.size a0 W dst mono NoPv listed vs a W → R w.drew W → (∀ i, listed.getD i false = true → Pv i (vs i) W) → (∀ i, i < ops.size → pre i = true → listed.getD i false = true) → wpAny P .any ops Q (leftOver listed ops.size) listed a W) :
 (Code.region id ops true).wp P Q a0 w := wp_region_any hm (wpAny_rel5 hok hR0 hRt hst hstep hend)
theorem wpIn_round_rel5 {id l : Nat} (hm : P.follows .mixedOrders = true) (hd : noDefer ops = true) (hQ : ¬ LetsOut Q) (hok : growOk4 ops dst mono pre a0.tmps.size = true) (hR0 : ∀ W, R W W) (hRt : ∀ W W' W'', R W W' → R W' W'' → R W W'') (hst : ∀ i v W W', Pv i v W → R W W' → Pv i v W')
 (hstep : ∀ i, i < ops.size → mono i = true → ∀ listed vs a W, GrownV ops.size a0 W dst NoPv listed vs a W → R w.drew W → (∀ i, listed.getD i false = true → Pv i (vs i) W) → (∀ o, ops[i]? = some o → ∀ e ∈ o.after, Region.binds .any e = true → listed.getD e.on false = true) →
  ∀ K : Act → World → Prop, (∀ v W', R W W' → Pv i v W' → K (a.put (some (dst i)) v) W') → wpOp P ops Q i K a W)
 (hend : ∀ listed vs a W, Grown ops.size a0 W dst mono NoPv listed vs a W → R w.drew W → (∀ i, listed.getD i false = true → Pv i (vs i) W) → (∀ i, i < ops.size → pre i = true → listed.getD i false = true) → wpAny P .any ops Q (leftOver listed ops.size) listed a W) :
 (Code.region id ops true).wpIn (Fence.wide.inRound l) 0 P Q a0 w := wpIn_region_any hm (wpAnyIn_of_any hd hQ _ _ _ _ (wpAny_rel5 hok hR0 hRt hst hstep hend))
end
end Go.Proofs.YtocdmkilnbpkdaaGreatDoor
