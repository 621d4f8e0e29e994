/- Words for drawn regions that append onto rows of their own. -/
import Derived.Test.YtocdmkilnbpkdaaGreatDoorHA
set_option linter.unusedVariables false
set_option linter.unusedSimpArgs false
namespace Go.Proofs.YtocdmkilnbpkdaaGreatDoor
open Go.RowKit
open Go.RowKit
section
variable {w w' : World} {B B' m : Nat} {A : Option Addr} {f : Nat → Value}
end
section
variable {w : World} {t : Later w}
end
section
variable {w : World} {B n : Nat} {A : Option Addr}
end
section
variable {w w' : World} {B B' n c : Nat} {A : Option Addr} {xs : List Int}
end
section
variable {w : World} {b : Nat} (hb : w.heap.size = b)
end
theorem nth_setG {α : Type} [Inhabited α] {l : List α} {i k : Nat} (hi : i < l.length) (u : α) : nth (l.set i u) k = if k = i then u else nth l k := by
 by_cases h : k = i
 · subst h; simp [nth, hi]
 · simp [nth, List.getElem?_set, Ne.symm h, h]
section
variable {P : Program}
end
section
variable {P : Program} {ops : Array Oper} {Q : Exit → Act → World → Prop} {a0 : Act} {w : World} {dst : Nat → Tmp} {mono pre : Nat → Bool} {Pv : Nat → Value → World → Prop}
end
section
variable {P : Program} {ops : Array Oper} {Q : Exit → Act → World → Prop} {i : Nat} {o : Oper} {K : Act → World → Prop} {a : Act} {W W' : World}
end
section
variable {P : Program} {ops : Array Oper} {Q : Exit → Act → World → Prop} {a0 : Act} {w : World} {dst : Nat → Tmp} {mono pre : Nat → Bool} {Pv : Nat → Value → World → Prop}
variable {i : Nat} {o : Oper} {K : Act → World → Prop} {a : Act} {W W' : World}
theorem wpOp_unwanted (ho : ops[i]? = some o) (hg : Region.wanted o (yielded ops a.tmps) = false) (hk : K (a.put o.dst undef) W) : wpOp P ops Q i K a W := by
 unfold wpOp
 simp only [ho, hg]
 exact hk
end
section
variable {w w' : World} {base g n cap B : Nat} {xs : List Int}
end
theorem own_base {w : World} {base base' : Nat} {e : TypeId} {size n : Nat} {v : Value} {xs : List Value} (h : w.ownsRow base e size v n xs) (hb : base' ≤ base) : w.ownsRow base' e size v n xs := by
 refine ⟨h.1, ?_⟩
 rcases h.2 with h2 | ⟨g, cap, cur, h1, h2, r⟩
 · exact .inl h2
 · exact .inr ⟨g, cap, cur, h1, Nat.le_trans hb h2, r⟩
section
variable {P : Program} {ops : Array Oper} {Q : Exit → Act → World → Prop} {a0 : Act} {w : World} {dst : Nat → Tmp} {mono pre : Nat → Bool} {G : Array Bool → (Nat → Value) → World → Prop}
theorem wpAny_inv (hok : growOk ops dst mono pre a0.tmps.size = true)
 (hstep : ∀ i, i < ops.size → mono i = true → ∀ listed vs a W, GrownU ops.size a0 w dst NoPv listed vs a W → listed.size = ops.size → G listed vs W → (∀ j, listed.getD j false = true → ∀ o, ops[j]? = some o → ∀ e ∈ o.after, Region.binds .any e = true → listed.getD e.on false = true) → listed.getD i false = false → (∀ o, ops[i]? = some o → ∀ e ∈ o.after, Region.binds .any e = true → listed.getD e.on false = true) →
  ∀ K : Act → World → Prop, (∀ v W', Below w.heap.size W W' → G (listed.setIfInBounds i true) (fun j => if j = i then v else vs j) W' → K (a.put (some (dst i)) v) W') → wpOp P ops Q i K a W)
 (hend : ∀ listed vs a W, Grown ops.size a0 w dst mono NoPv listed vs a W → G listed vs W → (∀ i, i < ops.size → pre i = true → listed.getD i false = true) → wpAny P .any ops Q (leftOver listed ops.size) listed a W) :
 ∀ (fuel : Nat) (listed : Array Bool) (vs : Nat → Value) (a : Act) (W : World), Grown ops.size a0 w dst mono NoPv listed vs a W → G listed vs W → (∀ j, listed.getD j false = true → ∀ o, ops[j]? = some o → ∀ e ∈ o.after, Region.binds .any e = true → listed.getD e.on false = true) → fuel = leftOver listed ops.size → wpAny P .any ops Q fuel listed a W
 | 0, listed, vs, a, W, h, hG, _, hf => by
  rw [hf]
  exact hend listed vs a W h hG (fun i hi _ => leftOver_zero hf.symm hi)
 | fuel + 1, listed, vs, a, W, h, hG, hcl, hf => by
  by_cases hall : ∀ i, i < ops.size → pre i = true → listed.getD i false = true
  · rw [hf]; exact hend listed vs a W h hG hall
  · have hfacts := fun i (hi : i < ops.size) => any_some (List.all_eq_true.1 hok i (List.mem_range.2 hi))
    obtain ⟨hd, hinj⟩ := grow_facts hok
    have hex : ∃ i, i < ops.size ∧ pre i = true ∧ listed.getD i false = false ∧ ∀ j, j < i → pre j = true → listed.getD j false = true := by
     apply Classical.byContradiction
     intro hno
     apply hall
     intro i
     induction i using Nat.strongRecOn with
     | _ i ih =>
      intro hi hp
      cases hl : listed.getD i false with
      | true => rfl
      | false => exact absurd ⟨i, hi, hp, hl, fun j hj hpj => ih j hj (by omega) hpj⟩ hno
    refine ⟨fun hr => ?_, fun i hi => ?_⟩
    · exfalso
      obtain ⟨i, hi, hp, hl, hbef⟩ := hex
      obtain ⟨o, ho, h2⟩ := hfacts i hi
      simp only [hp, Bool.not_true, Bool.false_or, Bool.and_eq_true] at h2
      have hmem : i ∈ Region.ready .any ops listed := by
       rw [Region.ready, List.mem_filter]
       refine ⟨List.mem_range.2 hi, ?_⟩
       have hl2 : listed.getD i true = false := by
        rw [Array.getD_eq_getD_getElem?] at hl ⊢
        rw [Array.getElem?_eq_getElem (by rw [h.size]; exact hi)] at hl ⊢
        exact hl
       rw [hl2, ho]
       simp only [Bool.not_false, Bool.true_and, Option.map_some, Option.getD_some]
       rw [Array.all_eq_true_iff_forall_mem]
       intro e he
       have h3 := Array.all_eq_true_iff_forall_mem.1 h2.1.2.2 e he
       cases hb : Region.binds .any e with
       | false => rfl
       | true =>
        rw [hb] at h3
        simp only [Bool.not_true, Bool.false_or, Bool.and_eq_true, decide_eq_true_eq] at h3
        simpa using hbef e.on h3.1 h3.2
      rw [hr] at hmem
      cases hmem
    · rw [Region.ready, List.mem_filter] at hi
      obtain ⟨hi, hr⟩ := hi
      have hi := List.mem_range.1 hi
      obtain ⟨o, ho, h2⟩ := hfacts i hi
      rw [ho] at hr
      simp only [Option.map_some, Option.getD_some, Bool.and_eq_true, Bool.not_eq_true'] at hr
      have hl : listed.getD i false = false := by
       have := hr.1
       rw [Array.getD_eq_getD_getElem?] at this ⊢
       rw [Array.getElem?_eq_getElem (by rw [h.size]; exact hi)] at this ⊢
       exact this
      have haft : ∀ e ∈ o.after, Region.binds .any e = true → listed.getD e.on false = true := fun e he hb => by
       have := Array.all_eq_true_iff_forall_mem.1 hr.2 e he
       rw [hb] at this
       simpa using this
      have hm : mono i = true := by
       cases hm : mono i with
       | true => rfl
       | false =>
        exfalso
        simp only [hm, Bool.false_or, Bool.and_eq_true] at h2
        apply hall
        intro j hj hp
        have h3 := List.all_eq_true.1 h2.2 j (List.mem_range.2 hj)
        rw [hp] at h3
        simp only [Bool.not_true, Bool.false_or] at h3
        rw [← Array.any_toList, List.any_eq_true] at h3
        obtain ⟨e, he, h4⟩ := h3
        have he : e ∈ o.after := by simpa using he
        simp only [Bool.and_eq_true, beq_iff_eq] at h4
        rw [← h4.2]
        exact haft e he h4.1
      refine hstep i hi hm listed vs a W (h.user hd hinj) h.size hG hcl hl (fun o' ho' => by rw [ho] at ho'; cases ho'; exact haft) _ (fun v W' hb hv => ?_)
      refine wpAny_inv hok hstep hend fuel _ _ _ _ (h.next0 hi hl hm hd hinj hb) hv (fun j hj o' ho' e he hbi => ?_) (by have := leftOver_set h.size hi hl; omega)
      rw [getD_set (by rw [h.size]; exact hi)] at hj ⊢
      split
      · rfl
      · split at hj
        · rename_i e1
          subst e1
          rw [ho] at ho'; cases ho'
          exact haft e he hbi
        · exact hcl j hj o' ho' e he hbi
theorem wp_region_inv {id : Nat} (hm : P.follows .mixedOrders = true) (hok : growOk ops dst mono pre a0.tmps.size = true)
 (h0 : G (Array.replicate ops.size false) (fun _ => undef) w.drew)
 (hstep : ∀ i, i < ops.size → mono i = true → ∀ listed vs a W, GrownU ops.size a0 w.drew dst NoPv listed vs a W → listed.size = ops.size → G listed vs W → (∀ j, listed.getD j false = true → ∀ o, ops[j]? = some o → ∀ e ∈ o.after, Region.binds .any e = true → listed.getD e.on false = true) → listed.getD i false = false → (∀ o, ops[i]? = some o → ∀ e ∈ o.after, Region.binds .any e = true → listed.getD e.on false = true) →
  ∀ K : Act → World → Prop, (∀ v W', Below w.heap.size W W' → G (listed.setIfInBounds i true) (fun j => if j = i then v else vs j) W' → K (a.put (some (dst i)) v) W') → wpOp P ops Q i K a W)
 (hend : ∀ listed vs a W, Grown ops.size a0 w.drew dst mono NoPv listed vs a W → G listed vs W → (∀ i, i < ops.size → pre i = true → listed.getD i false = true) → wpAny P .any ops Q (leftOver listed ops.size) listed a W) :
 (Code.region id ops true).wp P Q a0 w := by
 have hz : ∀ i, (Array.replicate ops.size false).getD i false = false := fun i => by
  rw [Array.getD_eq_getD_getElem?, Array.getElem?_replicate]; split <;> rfl
 have hix : idxs (Array.replicate ops.size false) ops.size = [] := by
  rw [idxs, List.filter_eq_nil_iff]; intro i _; rw [hz]; simp
 refine wp_region_any hm (wpAny_inv hok hstep hend _ _ (fun _ => undef) a0 w.drew ⟨Below.refl _ _, rfl, by rw [hix]; rfl, by simp, (fun i h => by rw [hz] at h; cases h), (fun i h => by rw [hz] at h; cases h)⟩ h0 (fun j h => by rw [hz] at h; cases h) ?_)
 rw [leftOver, List.filter_eq_self.2 (fun i _ => by rw [hz]; rfl), List.length_range]
end
section
variable {n base : Nat} {cs : Nat → Nat} {Pv : Nat → Value → World → Prop} {ft : Nat → Value → Nat → Prop} {listed : Array Bool} {vs : Nat → Value} {W W' : World} {i p : Nat} {v : Value}
/-- The same where no row is to be handed on any more. -/
theorem Loose.freshAll (h : Loose n base cs Pv ft listed vs W) (hst : Stab base Pv ft) (hi : i < n) (hci : n ≤ cs i) (hno : ∀ j, j < n → cs j < n → ¬ Live cs listed j) (hb : Below W.heap.size W W') (hv : Pv i v W')
 (hf : ∀ b, ft i v b → b < W'.heap.size) :
 Loose n base cs Pv ft (listed.setIfInBounds i true) (fun j => if j = i then v else vs j) W' := by
 refine ⟨by rw [Array.size_setIfInBounds]; exact h.size, Nat.le_trans h.base hb.size, fun j hj hl => ?_, fun j hj hl b => ?_, fun j k hj hk hne hc hlj hlk b => ?_⟩
 · show Pv j (if j = i then v else vs j) W'
   split
   · rename_i e; rw [e]; exact hv
   · rename_i e
     exact hst _ _ _ _ (h.pv j hj (live_set h.size hi e hl).1) h.base hb.size (fun b hb2 _ => hb.block b hb2)
 · show ft j (if j = i then v else vs j) b → _
   split
   · rename_i e; rw [e]; exact hf b
   · rename_i e; exact fun hb2 => Nat.lt_of_lt_of_le (h.lt j hj (live_set h.size hi e hl).1 b hb2) hb.size
 · exfalso
   by_cases e : j = i
   · subst e; omega
   · exact hno j hj hc (live_set h.size hi e hlj).1
end
section
variable {w w' : World} {B n c : Nat} {A : Option Addr} {xs : List Int}
theorem IntsS.foot (h : IntsS w w.heap.size A n c xs) {b : Nat} (hb : (Value.slice A n c).ownBlock = some b ∧ 0 < n) : b < w.heap.size := by
 obtain ⟨b', o, rfl, h2, _⟩ := h.row hb.2
 rw [← own_new hb.1]; exact h2
end
section
variable {a0 : Act} {w : World} {dst : Nat → Tmp} {n base : Nat} {cs : Nat → Nat} {Pv : Nat → Value → World → Prop} {ft : Nat → Value → Nat → Prop} {listed : Array Bool} {vs : Nat → Value} {a : Act} {W : World} {K : Act → World → Prop} {i p : Nat}
theorem live_end {j : Nat} (hs : listed.size = n) (hc : cs j = n) (h : listed.getD j false = true) : Live cs listed j :=
 ⟨h, by rw [hc, Array.getD_eq_getD_getElem?, Array.getElem?_eq_none (by omega)]; rfl⟩
theorem Loose.stepF (hU : GrownU n a0 w dst NoPv listed vs a W) (hG : Loose n base cs Pv ft listed vs W) (hst : Stab base Pv ft) (hi : i < n)
 (hK : ∀ v W', Below w.heap.size W W' → Loose n base cs Pv ft (listed.setIfInBounds i true) (fun j => if j = i then v else vs j) W' → K (a.put (some (dst i)) v) W') :
 ∀ v W', Below W.heap.size W W' → Pv i v W' → (∀ b, ft i v b → b < W'.heap.size ∧ (W.heap.size ≤ b ∨ (n ≤ cs i ∧ ∃ j, j < n ∧ j ≠ i ∧ Live cs listed j ∧ n ≤ cs j ∧ ft j (vs j) b))) → K (a.put (some (dst i)) v) W' :=
 fun v W' hb hv hf => hK v W' (hb.mono hU.below.size) (hG.fresh hst hi hb hv hf)
theorem Loose.stepN (hU : GrownU n a0 w dst NoPv listed vs a W) (hG : Loose n base cs Pv ft listed vs W) (hst : Stab base Pv ft) (hi : i < n)
 (hK : ∀ v W', Below w.heap.size W W' → Loose n base cs Pv ft (listed.setIfInBounds i true) (fun j => if j = i then v else vs j) W' → K (a.put (some (dst i)) v) W')
 (hci : n ≤ cs i) (hno : ∀ j, j < n → cs j < n → ¬ Live cs listed j) :
 ∀ v W', Below W.heap.size W W' → Pv i v W' → (∀ b, ft i v b → b < W'.heap.size) → K (a.put (some (dst i)) v) W' :=
 fun v W' hb hv hf => hK v W' (hb.mono hU.below.size) (hG.freshAll hst hi hci hno hb hv hf)
theorem Loose.stepA (hU : GrownU n a0 w dst NoPv listed vs a W) (hG : Loose n base cs Pv ft listed vs W) (hwb : base = w.heap.size) (hst : Stab base Pv ft) (hi : i < n)
 (hK : ∀ v W', Below w.heap.size W W' → Loose n base cs Pv ft (listed.setIfInBounds i true) (fun j => if j = i then v else vs j) W' → K (a.put (some (dst i)) v) W')
 (hp : p < n) (hpi : p ≠ i) (hcp : cs p = i) (hl : Live cs listed p) (hfp : ∀ b, (vs p).ownBlock = some b → ft p (vs p) b)
 {e size m : Nat} {xs : List Value} (hown : W.ownsRow base e size (vs p) m xs) :
 ∀ v W' m' xs', W.grownBy W' (vs p).ownBlock → W'.ownsRow base e size v m' xs' → (v.ownBlock = (vs p).ownBlock ∨ v.ownBlock = some W.heap.size) → Pv i v W' → (∀ b, ft i v b → v.ownBlock = some b) → K (a.put (some (dst i)) v) W' := by
 intro v W' m' xs' hg hown' hblk hv hfi
 have hbb : ∀ b, (vs p).ownBlock = some b → base ≤ b := fun b hb => (hown.lt b hb).1
 refine hK v W' ((Below.refl _ _).grown hg hU.below.size (fun k hk => by rw [← hwb]; exact hbb k hk)) (hG.take hst hi hp hpi hcp hl hg (fun b hb => ⟨hfp b hb, hbb b hb⟩) hv (fun b hb => ?_))
 have hb2 := hfi b hb
 refine ⟨(hown'.lt b hb2).2, ?_⟩
 rcases hblk with h | h
 · exact .inl (hfp b (by rw [← h]; exact hb2))
 · rw [h] at hb2
   exact .inr (Nat.le_of_eq (Option.some.inj hb2))
end
theorem own_lit {base : Nat} {W : World} {T : TypeId} {size : Nat} (hb : base ≤ W.heap.size) (cells : Array Value) (m : Nat) (hm : cells.size = m * size) (hx : m ≤ maxLen) :
 ∃ A cp, Value.slice (some ⟨W.heap.size, 0, none⟩) m m = .slice A m cp ∧ (W.alloc (.cells cells T)).ownsRow base T size (.slice A m cp) m cells.toList :=
 ⟨_, _, rfl, World.ownsRow_lit W cells m hb hx hm⟩
section
variable {w w' : World} {e : TypeId} {base g n B : Nat} {xs : List Int}
end
section
variable {S S' : Nat → Prop} {w w' w'' : World} {B : Nat}
end
theorem wp_ex {P : Program} {cd : Code} {Q : Exit → Act → World → Prop} {a : Act} {w : World} {A : Nat → Act} (R : Nat → World → Prop) (h : cd.wp P (fun e a' v => ∃ g, e = .normal ∧ a' = A g ∧ R g v) a w) (hq : ∀ g v, R g v → Q .normal (A g) v) : cd.wp P Q a w :=
 Code.wp_mono (fun _ _ _ ⟨g, h1, h2, h3⟩ => by rw [h1, h2]; exact hq g _ h3) h
theorem wp_post0 {P : Program} {cd : Code} {Q : Exit → Act → World → Prop} {a : Act} {w : World} (R : Act → Act → World → Prop) (h : cd.wp P (fun e a' v => e = .normal ∧ R a a' v) a w) (hq : ∀ a' v, R a a' v → Q .normal a' v) : cd.wp P Q a w :=
 Code.wp_mono (fun _ _ _ ⟨h1, h2⟩ => by rw [h1]; exact hq _ _ h2) h
section
variable {w w' : World} {g : Nat} {T : TypeId} {vs : Array Value}
end
theorem own_kept {S : Nat → Prop} {w w' : World} {base e size m : Nat} {v : Value} {vs : List Value} (h : w.ownsRow base e size v m vs) (hk : Keep S w w') (hS : ∀ b, base ≤ b → ¬ S b) : w'.ownsRow base e size v m vs :=
 own_stab h (fun b hb e => hk.block b hb (hS b (h.lt b e).1))
/-- A row that a call owns, of values that a function says. -/
theorem row_fun {w : World} {base e size m c : Nat} {A : Option Addr} {f : Nat → Value} (h : w.ownsRow base e size (.slice A m c) m ((List.range (m * size)).map f)) : m ≤ c ∧ c ≤ maxLen ∧ Row w w.heap.size A (m * size) f := by
 obtain ⟨A', c', e, h1, h2, h3⟩ := row_own h
 simp only [Value.slice.injEq, true_and] at e
 obtain ⟨rfl, rfl⟩ := e
 refine ⟨h1, h2, fun hm => ?_⟩
 obtain ⟨b, off, e2, hb, hc⟩ := h3 hm
 refine ⟨b, off, e2, hb, fun j hj => ?_⟩
 rw [hc j hj]
 simp [hj]
theorem range3 (n : Nat) : List.range ((n + 1) * 3) = List.range (n * 3) ++ [n * 3, n * 3 + 1, n * 3 + 2] := by
 rw [show (n + 1) * 3 = n * 3 + 1 + 1 + 1 by omega, List.range_succ, List.range_succ, List.range_succ]
 simp
theorem own_set {w : World} {base g n cap : Nat} {T : TypeId} {size : Nat} {vs : List Value} (h : w.ownsRow base T size (.slice (some ⟨g, 0, none⟩) n cap) n vs) (i : Nat) (u : Value) : (w.setCell ⟨g, i, none⟩ u).ownsRow base T size (.slice (some ⟨g, 0, none⟩) n cap) n (vs.set i u) :=
 (World.ownsRow.stored h i u).1
end Go.Proofs.YtocdmkilnbpkdaaGreatDoor
