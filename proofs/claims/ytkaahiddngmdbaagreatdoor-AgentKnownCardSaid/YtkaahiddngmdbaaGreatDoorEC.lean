/- An evaluator of calls, and its soundness (EC). -/
import Derived.Test.YtkaahiddngmdbaaGreatDoorEB
import Derived.RangeFuncIn
import Derived.OrdersIn
set_option linter.unusedVariables false
set_option linter.unusedSimpArgs false
namespace Go.Ev

section
variable {P : Program} {M : Nat → Prop} {e : Env} {s s' : St} {w : World} {eqT : List Nat} {meths : List (Nat × String × Nat)} {t : T AV} {ρ : Operand → Value}

def Both (P : Program) (M : Nat → Prop) (e : Env) (s : St) (w : World) (m : Sem Next) (r : OR) : Prop := OpOk P M e s w m r ∧ OExt s r

theorem both_fail {m : Sem Next} : Both P M e s w m OR.fail := ⟨trivial, trivial⟩
theorem both_V {m : Sem Value} {v : Option AV} (hr : Rel e s M w) (h : ∀ u, v = some u → ∃ z, m.run P w = .ok z w ∧ VRel e u z) : Both P M e s w (do pure (Next.value (← m))) (orV s v) := ⟨orV_ok hr h, orV_ext⟩
theorem both_M {m : Sem Value} {v : Option (AV × St)} (h : ∀ u, v = some u → (∀ i, u.2.X.testBit i = true → M i) → VOk P M m e s w u.1 u.2) (hx : ∀ u, v = some u → Ext s u.2) : Both P M e s w (do pure (Next.value (← m))) (orM v) := ⟨orM_ok h, orM_ext hx⟩
theorem both_U {m : Sem Unit} {v : Option St} (h : ∀ u, v = some u → (∀ i, u.X.testBit i = true → M i) → UOk P M m e s w u) (hx : ∀ u, v = some u → Ext s u) : Both P M e s w (do m; pure Next.skip) (orU v) := ⟨orU_ok h, orU_ext hx⟩

theorem bit_new {B : Blk} : (s.new B).X.testBit s.next = true := orB_same _ _
theorem allocA_new {ty : TypeId} {r : AV × St} (h : allocA P ty s = some r) : ∃ B, r.2 = s.new B := by
 unfold allocA at h
 split at h <;> first | (cases h; done) | (cases h; exact ⟨_, rfl⟩)
theorem buildSliceA_new {ty : TypeId} {len : Nat} {parts : List (Nat × AV)} {r : AV × St} (h : buildSliceA P ty len parts s = some r) : ∃ B, r.2 = s.new B := by
 unfold buildSliceA at h
 split at h <;> first | (cases h; done) | skip
 split at h <;> first | (cases h; done) | skip
 obtain ⟨_, h⟩ := brec_some h
 split at h <;> first | (cases h; done) | skip
 obtain ⟨_, h⟩ := brec_some h
 split at h <;> first | (cases h; done) | (cases h; exact ⟨_, rfl⟩)
theorem makeSliceA_new {ty : TypeId} {l c : AV} {r : AV × St} (h : makeSliceA P ty l c s = some r) : ∃ B, r.2 = s.new B := by
 unfold makeSliceA at h
 split at h <;> first | (cases h; done) | skip
 split at h <;> first | (cases h; done) | skip
 obtain ⟨_, h⟩ := brec_some h
 obtain ⟨_, h⟩ := brec_some h
 obtain ⟨_, h⟩ := brec_some h
 split at h <;> first | (cases h; done) | (cases h; exact ⟨_, rfl⟩)
theorem toBytesA_new {src dst : TypeId} {x : AV} {r : AV × St} (h : toBytesA P src dst x s = some r) : ∃ B, r.2 = s.new B := by
 unfold toBytesA at h
 split at h <;> first | (cases h; done) | skip
 split at h <;> first | (cases h; done) | skip
 obtain ⟨_, h⟩ := brec_some h
 cases h; exact ⟨_, rfl⟩
theorem rangeA_new {ty : TypeId} {x : AV} {r : AV × St} (h : rangeA P ty x s = some r) : ∃ B, r.2 = s.new B := by
 unfold rangeA at h
 split at h <;> first | (cases h; done) | (cases h; exact ⟨_, rfl⟩)
theorem covers {r : St} (h : ∃ B, r = s.new B) (hM : ∀ i, r.X.testBit i = true → M i) : M s.next := by
 obtain ⟨B, rfl⟩ := h; exact hM _ bit_new

theorem callB_ok (hr : Rel e s M w) (hw : Wf s) {b : Builtin} {args : Array Operand} {tys : Array TypeId} {ty : TypeId} (ho : ORho e t ρ) :
 Both P M e s w (do let d ← resolve ρ { callee := .builtin b, args, argTypes := tys } ty; invoke d.target d.args) (hCallB P b tys args t s) := by
 unfold hCallB
 refine orec_ok (Q := fun r => Both P M e s w _ r) (fun _ => both_fail) fun vs hvs => ?_
 obtain ⟨xs, hxs, hl⟩ := opds_rel ho hvs
 have hres : ∀ r, Both P M e s w (builtin b tys ty (args.map fun | .const _ => true | _ => false) xs.toArray) r → Both P M e s w (do let d ← resolve ρ { callee := .builtin b, args, argTypes := tys } ty; invoke d.target d.args) r := by
  intro r h
  have e1 : (do let d ← resolve ρ { callee := .builtin b, args, argTypes := tys } ty; invoke d.target d.args : Sem Next) = builtin b tys ty (args.map fun | .const _ => true | _ => false) xs.toArray := by
   simp only [resolve, hxs, pure_bind, invoke]
   rfl
  rw [e1]; exact h
 refine hres _ ?_
 unfold builtF
 split <;> first | exact both_fail | skip
 · rename_i x tx htys
   have htys : tys = #[tx] := by rw [← Array.toArray_toList (xs := tys), htys]
   subst htys
   obtain ⟨X, Xs, rfl, hX, hXs⟩ := hl.of_cons
   rw [hXs.of_nil]
   exact both_M (fun u hu hM => lenA_ok hu hr hM hX) (fun u hu => lenA_ext hu)
 · rename_i x y tx ty' htys
   have htys : tys = #[tx, ty'] := by rw [← Array.toArray_toList (xs := tys), htys]
   subst htys
   obtain ⟨X, Xs, rfl, hX, hXs⟩ := hl.of_cons
   obtain ⟨Y, Ys, rfl, hY, hYs⟩ := hXs.of_cons
   rw [hYs.of_nil]
   exact both_M (fun u hu hM => appendA_ok hu hr hw hM hX hY) (fun u hu => appendA_ext hu)
 · rename_i x y tx ty' htys
   have htys : tys = #[tx, ty'] := by rw [← Array.toArray_toList (xs := tys), htys]
   subst htys
   obtain ⟨X, Xs, rfl, hX, hXs⟩ := hl.of_cons
   obtain ⟨Y, Ys, rfl, hY, hYs⟩ := hXs.of_cons
   rw [hYs.of_nil]
   exact both_M (fun u hu hM => copyA_ok hu hr hM hX hY) (fun u hu => copyA_ext hu)
 · refine both_V hr fun u hu => ?_
   have := minA_run (P := P) (w := w) (mx := false) (t := ty) (tys := tys) hu hl
   simpa using this
 · refine both_V hr fun u hu => ?_
   have := minA_run (P := P) (w := w) (mx := true) (t := ty) (tys := tys) hu hl
   simpa using this
 · exact ⟨rfl, rfl⟩

theorem call_ok (hN : Named P) (hMe : MethOk P meths) (hr : Rel e s M w) (hw : Wf s) {c : Call} {ty : TypeId} (ho : ORho e t ρ) :
 Both P M e s w (do let d ← resolve ρ c ty; invoke d.target d.args) (hCall P meths c t s) := by
 obtain ⟨callee, args, tys⟩ := c
 cases callee with
 | value f => exact callV_ok hN ho
 | invoke r m => exact callI_ok hMe ho
 | builtin b => exact callB_ok hr hw ho

theorem defer_ok (hN : Named P) {c : Call} {ty : TypeId} (ho : ORho e t ρ) : Both P M e s w (do pure (.defer (← resolve ρ c ty))) (hDefer P c t s) := by
 unfold hDefer
 split <;> first | exact both_fail | skip
 rename_i f hc
 refine with1_ok (Q := fun r => Both P M e s w _ r) both_fail fun F hF => ?_
 split <;> first | exact both_fail | skip
 rename_i vs hvs
 have hf := ho f F hF
 obtain ⟨xs, hxs, hl⟩ := opds_rel ho hvs
 refine orec_ok (Q := fun r => Both P M e s w _ r) (fun _ => both_fail) fun g hg => ?_
 refine brec_ok (Q := fun r => Both P M e s w _ r) (fun _ => both_fail) fun hen => ⟨?_, rfl⟩
 rw [selF_ok hg] at hf
 simp only [VRel] at hf
 obtain ⟨as, cs, hfe, h1, h2⟩ := hf
 refine ⟨cs.toArray, as.toArray ++ xs.toArray, ?_, ?_, fun w => callFunc_run hN hen _ w⟩
 · simp only [resolve, hc, hfe, hxs, Deferred.ofValue, Sem.run_bind, Sem.run_pure, Result.andThen_ok]
 · rw [lapp_eq, lapp_eq]
   have := h1.append (hl.append h2)
   simpa using this

theorem makeFunc_ok (hr : Rel e s M w) (ho : ORho e t ρ) {fn : Fn} {a b : Array Operand} : Both P M e s w (do pure (Next.value (← Instr.makeFunc fn (a.map ρ) (b.map ρ)))) (hFunc fn a b t s) := by
 unfold hFunc
 split <;> first | exact both_fail | skip
 rename_i f
 split <;> first | exact both_fail | skip
 rename_i va vb ha hb
 obtain ⟨xs, hxs, hl⟩ := opds_rel ho ha
 obtain ⟨ys, hys, hl'⟩ := opds_rel ho hb
 refine ⟨fun _ => ⟨e, w, .func (.func f) xs.toArray ys.toArray, ?_, by simp only [VRel]; exact ⟨xs, ys, rfl, hl, hl'⟩, hr, .refl _ _ _⟩, Ext.refl s⟩
 simp [Instr.makeFunc, hxs, hys]

theorem makeMap_ok (hr : Rel e s M w) (ho : ORho e t ρ) {ty : TypeId} {r : Option Operand} : Both P M e s w (do pure (Next.value (← Instr.makeMap ty (r.map ρ)))) (hMakeMap P ty r t s) := by
 have fin : ∀ R, (Instr.makeMap ty R).run P w = .ok (.map (some w.heap.size)) { w with heap := w.heap.push (.map #[] 0) } → Both P M e s w (do pure (Next.value (← Instr.makeMap ty R))) (.val (.map s.next) (s.new (.map [] 0))) := fun R hR => by
  refine ⟨fun hM => ?_, new_ext _ _⟩
  obtain ⟨t1, t2⟩ := new_ok (B := .map [] 0) (z := 0) hr (hM _ bit_new) (laid_push w (.map #[] 0)) ⟨[], push_new w _, rfl⟩
  exact ⟨_, _, _, vnext hR, by simp only [VRel]; exact ⟨_, e.ext_same _ _, rfl⟩, t1, t2⟩
 unfold hMakeMap
 split <;> first | exact both_fail | skip
 · rename_i hr'
   have := opdO_rel ho hr'
   have hrn : r.map ρ = none := this
   simp only [hrn]
   exact fin _ (by simp [Instr.makeMap])
 · rename_i k n hr'
   obtain ⟨y, hy, hv⟩ := opdO_rel ho hr'
   simp only [VRel] at hv
   subst hv
   split <;> first | exact both_fail | skip
   rename_i a b hu
   simp only [hy]
   exact fin _ (by simp [Instr.makeMap, run_underlying hu, asInt, asIntOf])

theorem slice_ok (hr : Rel e s M w) (ho : ORho e t ρ) {ty : TypeId} {x : Operand} {lo hi mx : Option Operand} : Both P M e s w (do pure (Next.value (← Instr.sliceAt ty (ρ x) (lo.map ρ) (hi.map ρ) (mx.map ρ)))) (hSlice P ty x lo hi mx t s) := by
 refine with1_ok (Q := fun r => Both P M e s w _ r) both_fail fun a ha => ?_
 refine orec_ok (Q := fun r => Both P M e s w _ r) (fun _ => both_fail) fun l hl => ?_
 refine orec_ok (Q := fun r => Both P M e s w _ r) (fun _ => both_fail) fun h hh => ?_
 refine orec_ok (Q := fun r => Both P M e s w _ r) (fun _ => both_fail) fun m hm => ?_
 have ea := ho _ _ ha
 have el := opdO_rel ho hl
 have eh := opdO_rel ho hh
 have em := opdO_rel ho hm
 have plain : ∀ D, P.underlying ty = some D → (∀ n el, D ≠ .array n el) → ∀ z, (Instr.slice ty (ρ x) (lo.map ρ) (hi.map ρ) (mx.map ρ)).run P w = .ok z w → (Instr.sliceAt ty (ρ x) (lo.map ρ) (hi.map ρ) (mx.map ρ)).run P w = .ok z w := fun D hu hD z hz => by
  unfold Instr.sliceAt
  simp only [Sem.run_bind, run_underlying hu, Result.andThen_ok]
  cases D <;> first | exact hz | exact absurd rfl (hD _ _)
 unfold slF
 split <;> first | exact both_fail | skip
 · rename_i l' hu
   have hm0 : mx.map ρ = none := em
   refine both_V hr fun u hu' => ?_
   simp only [VRel] at ea
   obtain ⟨z, hz, hv⟩ := strSl_run (w := w) hu hu' el eh
   exact ⟨z, plain _ hu (fun _ _ hh => by cases hh) z (by rw [ea, hm0]; exact hz), hv⟩
 · rename_i el' hu
   refine both_V hr fun u hu' => ?_
   obtain ⟨z, hz, hv⟩ := cutA_run (w := w) hu' ea el eh em
   exact ⟨z, plain _ hu (fun _ _ hh => by cases hh) z hz, hv⟩
 · exact both_M (fun u hu' hM => cutArr_ok hu' hr hM ea el eh em) (fun u hu' => cutArr_ext hu')

theorem panic_ok (ho : ORho e t ρ) {x : Operand} : Both P M e s w (do pure (Next.value (← Instr.panic (ρ x)))) (hPanic x t s) := by
 refine with1_ok (Q := fun r => Both P M e s w _ r) both_fail fun a ha => ?_
 split <;> first | exact both_fail | skip
 rename_i ty v
 have hv := ho _ _ ha
 have hv0 := hv
 simp only [VRel] at hv
 obtain ⟨y, hy, _⟩ := hv
 refine ⟨⟨ρ x, ?_, hv0⟩, rfl⟩
 simp only [Sem.run_bind, hy, Instr.panic, run_goPanic, Result.andThen_halt]

theorem exec_ok (hT : EqT P eqT) (hN : Named P) (hMe : MethOk P meths) (hr : Rel e s M w) (hw : Wf s) (ho : ORho e t ρ) (o : Oper) :
 Both P M e s w (execOp ρ o) (exec P eqT meths o.op t s) := by
 unfold execOp
 cases hop : o.op with
 | move x => exact orec_ok (Q := fun r => Both P M e s w _ r) (fun _ => both_fail) fun v hv => ⟨fun _ => ⟨e, w, _, rfl, ho _ _ hv, hr, .refl _ _ _⟩, Ext.refl s⟩
 | assign x => exact orec_ok (Q := fun r => Both P M e s w _ r) (fun _ => both_fail) fun v hv => ⟨fun _ => ⟨e, w, _, rfl, ho _ _ hv, hr, .refl _ _ _⟩, Ext.refl s⟩
 | pick c a b =>
  refine with1_ok (Q := fun r => Both P M e s w _ r) both_fail fun C hC => ?_
  refine orec_ok (Q := fun r => Both P M e s w _ r) (fun _ => both_fail) fun x hx => ?_
  have hc := ho c C hC
  rw [selB_ok hx] at hc
  simp only [VRel] at hc
  refine brec_ok (Q := fun r => Both P M e s w _ r) (fun hb => ?_) fun hb => ?_
  · subst hb
    refine orec_ok (Q := fun r => Both P M e s w _ r) (fun _ => both_fail) fun v hv => ⟨fun _ => ⟨e, w, ρ b, ?_, ho _ _ hv, hr, .refl _ _ _⟩, Ext.refl s⟩
    simp [hc, asBool]
  · subst hb
    refine orec_ok (Q := fun r => Both P M e s w _ r) (fun _ => both_fail) fun v hv => ⟨fun _ => ⟨e, w, ρ a, ?_, ho _ _ hv, hr, .refl _ _ _⟩, Ext.refl s⟩
    simp [hc, asBool]
 | alloc el => exact both_M (fun u hu hM => allocA_ok hu hr (covers (allocA_new hu) hM)) (fun u hu => by obtain ⟨B, hB⟩ := allocA_new hu; rw [hB]; exact new_ext _ _)
 | box el x =>
  refine with1_ok (Q := fun r => Both P M e s w _ r) both_fail fun a ha => ?_
  refine ⟨fun hM => ?_, new_ext _ _⟩
  obtain ⟨e', w', z, h1, h2⟩ := boxA_ok (P := P) (elem := el) hr (hM _ bit_new) (ho _ _ ha)
  exact ⟨e', w', z, vnext h1, h2⟩
 | build ty parts =>
  refine orec_ok (Q := fun r => Both P M e s w _ r) (fun _ => both_fail) fun ps hps => ?_
  obtain ⟨xs, hxs, hp⟩ := opdP_rel ho hps
  simp only [hxs]
  exact both_V hr fun u hu => buildA_run hu hr.one hp
 | buildSlice ty len parts =>
  refine orec_ok (Q := fun r => Both P M e s w _ r) (fun _ => both_fail) fun ps hps => ?_
  obtain ⟨xs, hxs, hp⟩ := opdP_rel ho hps
  simp only [hxs]
  exact both_M (fun u hu hM => buildSliceA_ok hu hr (covers (buildSliceA_new hu) hM) hp) (fun u hu => buildSliceA_ext hu)
 | insert ty m k v =>
  refine with1_ok (Q := fun r => Both P M e s w _ r) both_fail fun m' hm => ?_
  refine with1_ok (Q := fun r => Both P M e s w _ r) both_fail fun k' hk => ?_
  refine with1_ok (Q := fun r => Both P M e s w _ r) both_fail fun v' hv => ?_
  exact both_U (fun u hu hM => updateA_ok hT hu hr hM (ho _ _ hm) (ho _ _ hk) (ho _ _ hv)) (fun u hu => updateA_ext hu)
 | load ty a =>
  refine with1_ok (Q := fun r => Both P M e s w _ r) both_fail fun a' ha => ?_
  exact both_M (fun u hu hM => loadA_ok hu hr hM (ho _ _ ha)) (fun u hu => loadA_ext hu)
 | store ty a x =>
  refine with1_ok (Q := fun r => Both P M e s w _ r) both_fail fun a' ha => ?_
  refine with1_ok (Q := fun r => Both P M e s w _ r) both_fail fun x' hx => ?_
  exact both_U (fun u hu hM => storeA_ok hu hr hM (ho _ _ ha) (ho _ _ hx)) (fun u hu => storeA_ext hu)
 | ready g => exact both_fail
 | waits g => exact both_fail
 | nilCheck x =>
  refine with1_ok (Q := fun r => Both P M e s w _ r) both_fail fun a ha => ?_
  refine brec_ok (Q := fun r => Both P M e s w _ r) (fun _ => both_fail) fun hn => ⟨fun _ => ⟨e, w, ρ x, nilChk_run hn (ho _ _ ha), ho _ _ ha, hr, .refl _ _ _⟩, Ext.refl s⟩
 | binOp op ty x y _ =>
  refine with1_ok (Q := fun r => Both P M e s w _ r) both_fail fun a ha => ?_
  refine with1_ok (Q := fun r => Both P M e s w _ r) both_fail fun b hb => ?_
  exact both_V hr fun u hu => binF_run hT hu (ho _ _ ha) (ho _ _ hb)
 | unOp op _ x =>
  refine with1_ok (Q := fun r => Both P M e s w _ r) both_fail fun a ha => ?_
  exact both_V hr fun u hu => unA_run hu (ho _ _ ha)
 | convert src dst x =>
  refine with1_ok (Q := fun r => Both P M e s w _ r) both_fail fun a ha => ?_
  refine orec_ok (Q := fun r => Both P M e s w _ r) (fun _ => ?_) fun v hv => ?_
  · refine orec_ok (Q := fun r => Both P M e s w _ r) (fun _ => ?_) fun u hu => ?_
    · exact both_M (fun u hu hM => toStrA_ok hu hr hM (ho _ _ ha)) (fun u hu => toStrA_ext hu)
    · refine ⟨fun hM => ?_, toBytesA_ext hu⟩
      obtain ⟨e', w', z, h1, h2⟩ := toBytesA_ok hu hr (covers (toBytesA_new hu) hM) (ho _ _ ha)
      exact ⟨e', w', z, vnext h1, h2⟩
  · obtain ⟨z, hz, hvz⟩ := convV_run (w := w) hv (ho _ _ ha)
    exact ⟨fun _ => ⟨e, w, z, vnext hz, hvz, hr, .refl _ _ _⟩, Ext.refl s⟩
 | sliceToArrayPointer a b => exact both_fail
 | makeInterface ty x =>
  refine with1_ok (Q := fun r => Both P M e s w _ r) both_fail fun a ha => ?_
  exact both_V hr fun u hu => ifaceV_run hu (ho _ _ ha)
 | makeFunc fn a b => exact makeFunc_ok hr ho
 | makeMap ty r => exact makeMap_ok hr ho
 | makeChan a b => exact both_fail
 | makeSlice ty l c =>
  refine with1_ok (Q := fun r => Both P M e s w _ r) both_fail fun a ha => ?_
  refine with1_ok (Q := fun r => Both P M e s w _ r) both_fail fun b hb => ?_
  exact both_M (fun u hu hM => makeSliceA_ok hu hr (covers (makeSliceA_new hu) hM) (ho _ _ ha) (ho _ _ hb)) (fun u hu => makeSliceA_ext hu)
 | slice ty x lo hi mx => exact slice_ok hr ho
 | fieldAddr ty x f =>
  refine with1_ok (Q := fun r => Both P M e s w _ r) both_fail fun a ha => ?_
  exact both_V hr fun u hu => fieldAddrA_run hu (ho _ _ ha)
 | field ty x f =>
  refine with1_ok (Q := fun r => Both P M e s w _ r) both_fail fun a ha => ?_
  exact both_V hr fun u hu => fieldV_run hu (ho _ _ ha)
 | indexAddr ty x i =>
  refine with1_ok (Q := fun r => Both P M e s w _ r) both_fail fun a ha => ?_
  refine with1_ok (Q := fun r => Both P M e s w _ r) both_fail fun b hb => ?_
  exact both_V hr fun u hu => indexAddrA_run hu (ho _ _ ha) (ho _ _ hb)
 | index ty x i =>
  refine with1_ok (Q := fun r => Both P M e s w _ r) both_fail fun a ha => ?_
  refine with1_ok (Q := fun r => Both P M e s w _ r) both_fail fun b hb => ?_
  exact both_V hr fun u hu => indexV_run hu (ho _ _ ha) (ho _ _ hb)
 | lookup ty m k ok =>
  refine with1_ok (Q := fun r => Both P M e s w _ r) both_fail fun m' hm => ?_
  refine with1_ok (Q := fun r => Both P M e s w _ r) both_fail fun k' hk => ?_
  exact both_M (fun u hu hM => lookupA_ok hT hu hr hM (ho _ _ hm) (ho _ _ hk)) (fun u hu => lookupA_ext hu)
 | mapUpdate ty m k v =>
  refine with1_ok (Q := fun r => Both P M e s w _ r) both_fail fun m' hm => ?_
  refine with1_ok (Q := fun r => Both P M e s w _ r) both_fail fun k' hk => ?_
  refine with1_ok (Q := fun r => Both P M e s w _ r) both_fail fun v' hv => ?_
  exact both_U (fun u hu hM => updateA_ok hT hu hr hM (ho _ _ hm) (ho _ _ hk) (ho _ _ hv)) (fun u hu => updateA_ext hu)
 | mapEntry a b c => exact both_fail
 | entryStore a b c d => exact both_fail
 | range ty x =>
  refine with1_ok (Q := fun r => Both P M e s w _ r) both_fail fun a ha => ?_
  exact both_M (fun u hu hM => rangeA_ok hu hr (covers (rangeA_new hu) hM) (ho _ _ ha)) (fun u hu => rangeA_ext hu)
 | next it b =>
  refine with1_ok (Q := fun r => Both P M e s w _ r) both_fail fun a ha => ?_
  exact both_M (fun u hu hM => nextA_ok hu hr hM (ho _ _ ha)) (fun u hu => nextA_ext hu)
 | entry a => exact both_fail
 | typeAssert x xt ty ok =>
  refine with1_ok (Q := fun r => Both P M e s w _ r) both_fail fun a ha => ?_
  exact both_V hr fun u hu => assertV_run hu (ho _ _ ha)
 | extract x i =>
  refine with1_ok (Q := fun r => Both P M e s w _ r) both_fail fun a ha => ?_
  exact both_V hr fun u hu => extractA_run hu (ho _ _ ha)
 | call c => exact call_ok hN hMe hr hw ho
 | go c => exact both_fail
 | defer c => exact defer_ok hN ho
 | panic x => exact panic_ok ho
 | send a b => exact both_fail
 | recv a b c => exact both_fail
 | select a b => exact both_fail
end
end Go.Ev
namespace Go.Ev

inductive Out where
 | norm
 | exit (id : Nat)
 | ret
 | panic (v : AV)
inductive DE where
 | mark (b : Nat)
 | fn (f : Nat) (args : List AV)
inductive RC where
 | fail
 | mk (o : Out) (t : T AV) (d : List DE) (s : St)
inductive RV where
 | fail
 | ret (v : AV) (s : St)
 | panic (v : AV) (s : St)
/-- how the activation below a deferred call stands: it returns; it panics; its panic has been taken -/
inductive RM where
 | ret
 | pan (v : AV)
 | took
/-- a deferred call's code: recover may be called -/
inductive RS where
 | fail
 | mk (o : Out) (t : T AV) (m : RM) (s : St)
structure EvF where
 code : Option Nat → Nat → Code → T AV → List DE → St → RC
 call : Nat → List AV → St → RV
 round : Nat → List AV → St → RV

noncomputable def ev0 : EvF := ⟨fun _ _ _ _ _ _ => .fail, fun _ _ _ => .fail, fun _ _ _ => .fail⟩
/-- a drawn region of a deferred call -/
noncomputable def drawS (m : RM) (r : RC) : RS := RC.rec .fail (fun o t d s => Out.rec (List.rec (.mk .norm t m s) (fun _ _ _ => .fail) d) (fun _ => .fail) .fail (fun _ => .fail) o) r

noncomputable def putV (N : Nat) (dst : Option Nat) (v : AV) (t : T AV) (d : List DE) (s : St) (k : T AV → List DE → St → RC) : RC :=
 Option.rec (k t d s) (fun i => Bool.rec .fail (k (t.set i v) d s) (Nat.ble (Nat.succ i) N)) dst
noncomputable def putK {β : Type} (fail : β) (N : Nat) (dst : Option Nat) (v : AV) (t : T AV) (k : T AV → β) : β :=
 Option.rec (k t) (fun i => Bool.rec fail (k (t.set i v)) (Nat.ble (Nat.succ i) N)) dst
noncomputable def undefA : AV := .tuple []
noncomputable def wantedG (all : List Oper) (g : Nat × Bool) (t : T AV) : Option Bool :=
 Option.rec none (fun oj => Option.rec (some false) (fun d => Option.rec none (fun v =>
  Option.rec (Option.rec none (fun _ => some false) (selT v)) (fun b => some (eqB b g.2)) (selB v)) (t.get d)) oj.dst) (lnth all g.1)
noncomputable def setArgs (params : List Nat) (args : List AV) (N : Nat) (t : T AV) : Option (T AV) :=
 List.rec (motive := fun _ => List AV → T AV → Option (T AV)) (fun args t => List.rec (some t) (fun _ _ _ => none) args)
  (fun p _ ih args t => List.rec none (fun a args _ => Bool.rec none (ih args (t.set p a)) (Nat.ble (Nat.succ p) N)) args) params args t
noncomputable def frame (args : List AV) : T AV :=
 List.rec (motive := fun _ => Nat → T AV → T AV) (fun _ t => t) (fun a _ ih i t => ih (Nat.succ i) (t.set i a)) args 0 .leaf
/-- the same state, reckoned out -/
noncomputable def forceS (s : St) (k : St → RC) : RC := forceN s.next fun n => forceN s.X fun X => forceN s.W fun W => k ⟨s.mem, n, X, W⟩
theorem forceS_eq (s : St) (k : St → RC) : forceS s k = k s := by unfold forceS; rw [forceN_eq, forceN_eq, forceN_eq]

section
variable (ex : Op → T AV → St → OR) (P : Program) (ih : EvF)

/-- one operation of a region, and what then follows -/
noncomputable def evOther (rd : Option Nat) (N : Nat) (t : T AV) (d : List DE) (dst : Option Nat) (k : T AV → List DE → St → RC) (r : OR2) : RC :=
 OR2.rec .fail (fun s => putV N dst undefA t d s k)
  (fun f args s => RV.rec .fail (fun v s => putV N dst v t d s k) (fun v s => .mk (.panic v) t d s) (ih.call f args s))
  (fun l args s => RV.rec .fail (fun v s => putV N dst v t d s k) (fun _ _ => .fail) (ih.round l args s))
  (fun f args s => Option.rec (putV N dst undefA t (.fn f args :: d) s k) (fun _ => .fail) rd)
  (fun _ => .fail)
  (fun v s => .mk (.panic v) t d s) r
noncomputable def evOp (rd : Option Nat) (N : Nat) (t : T AV) (d : List DE) (s : St) (o : Oper) (k : T AV → List DE → St → RC) : RC :=
 OR.rec (fun v s => putV N o.dst v t d s k) (fun r => evOther ih rd N t d o.dst k r) (ex o.op t s)
noncomputable def evGuard (rd : Option Nat) (N : Nat) (all : List Oper) (g : Nat × Bool) (t : T AV) (d : List DE) (s : St) (o : Oper) (k : T AV → List DE → St → RC) : RC :=
 Option.rec .fail (fun b => Bool.rec (putV N o.dst undefA t d s k) (evOp ex ih rd N t d s o k) b) (wantedG all g t)
noncomputable def evOps (rd : Option Nat) (N : Nat) (all l : List Oper) : T AV → List DE → St → RC :=
 List.rec (motive := fun _ => T AV → List DE → St → RC) (fun t d s => .mk .norm t d s)
  (fun o _ k t d s => Option.rec (evOp ex ih rd N t d s o k) (fun g => evGuard ex ih rd N all g t d s o k) o.guard) l

/-! drawn regions -/
noncomputable def tmpMask (x : Operand) (m : Nat) : Nat := Operand.rec (fun i => orB m i) (fun _ => m) (fun _ => m) (fun _ => m) x
noncomputable def dstMask (o : Oper) : Nat := Option.rec 0 (fun d => orB 0 d) o.dst
noncomputable def readMask (all : List Oper) (o : Oper) : Nat :=
 List.rec (motive := fun _ => Nat) (Option.rec 0 (fun g => Option.rec 0 (fun oj => dstMask oj) (lnth all g.1)) o.guard) (fun x _ m => tmpMask x m) o.op.operands.toList
noncomputable def bindsA (e : Edge) : Bool := Ground.rec true true true true (fun _ => false) (fun _ => false) e.ground
noncomputable def befOf (bef : List Nat) (o : Oper) : Nat :=
 List.rec (motive := fun _ => Nat) 0 (fun e _ m => Bool.rec m (Option.rec (orB m e.on) (fun b => Nat.lor (orB m e.on) b) (lnth bef e.on)) (bindsA e)) o.after.toList
structure Foot where
 X : Nat
 W : Nat
 R : Nat
 D : Nat
noncomputable def disj (a b : Nat) : Bool := Nat.beq (Nat.land a b) 0
noncomputable def apartF (a b : Foot) : Bool := Bool.and (disj a.W b.X) (Bool.and (disj a.X b.W) (Bool.and (disj a.R b.D) (Bool.and (disj a.D b.R) (disj a.D b.D))))
/-- apart from all that it need not wait for (fs: the latest first; i: how many) -/
noncomputable def apartAll (f : Foot) (b : Nat) (fs : List Foot) : Nat → Bool :=
 List.rec (motive := fun _ => Nat → Bool) (fun _ => true) (fun g _ ih i => Bool.rec (Bool.rec false (ih (Nat.pred i)) (apartF f g)) (ih (Nat.pred i)) (Nat.testBit b (Nat.pred i))) fs
/-- what comes behind waits for i -/
noncomputable def allWait (bef : List Nat) (i : Nat) (l : List Oper) : Bool :=
 List.rec (motive := fun _ => List Nat → Bool) (fun _ => true) (fun o _ ih bef => Bool.rec false (ih (lapp bef [befOf bef o])) (Nat.testBit (befOf bef o) i)) l bef
noncomputable def drawK (all rest : List Oper) (k : Nat → List Nat → List Foot → T AV → List DE → St → RC) (i : Nat) (bef : List Nat) (fs : List Foot) (d : List DE) (s : St) (o : Oper) (r : RC) : RC :=
 match r with
 | .mk .norm t1 [] s1 => Bool.rec .fail (Bool.rec .fail (k (Nat.succ i) (lapp bef [befOf bef o]) (⟨s1.X, s1.W, readMask all o, dstMask o⟩ :: fs) t1 d ⟨s1.mem, s1.next, Nat.lor s.X s1.X, Nat.lor s.W s1.W⟩)
  (apartAll ⟨s1.X, s1.W, readMask all o, dstMask o⟩ (befOf bef o) fs i)) (Nat.ble (Nat.succ (befOf bef o)) (Nat.pow 2 i))
 | .mk (.panic v) t1 [] s1 => Bool.rec .fail (.mk (.panic v) t1 d ⟨s1.mem, s1.next, Nat.lor s.X s1.X, Nat.lor s.W s1.W⟩)
  (Bool.and (Nat.beq (befOf bef o) (Nat.pred (Nat.pow 2 i))) (allWait (lapp bef [befOf bef o]) i rest))
 | _ => .fail
noncomputable def evDraw (rd : Option Nat) (N : Nat) (all l : List Oper) : Nat → List Nat → List Foot → T AV → List DE → St → RC :=
 List.rec (motive := fun _ => Nat → List Nat → List Foot → T AV → List DE → St → RC) (fun _ _ _ t d s => .mk .norm t d s)
  (fun o rest k i bef fs t d s => drawK all rest k i bef fs d s o
   (Option.rec (evOp ex ih rd N t [] ⟨s.mem, s.next, 0, 0⟩ o (fun t d s => forceS s fun s => .mk .norm t d s))
    (fun g => evGuard ex ih rd N all g t [] ⟨s.mem, s.next, 0, 0⟩ o (fun t d s => forceS s fun s => .mk .norm t d s)) o.guard)) l

/-! rounds -/
noncomputable def evRound (l : Nat) (args : List AV) (s : St) : RV :=
 match s.mem.get l with
 | some (.loop .ready none t N params assign body d) => (match setArgs params args N t with
  | some t1 => (match ih.code (some l) N assign t1 [] (s.touch l) with
   | .mk .norm t2 [] s2 => (match s2.mem.get l with
    | some (.loop .ready none t' N' p' a' b' d') => (match ih.code (some l) N body t2 [] (s2.put l (.loop .busy none t' N' p' a' b' d')) with
     | .mk o _ [] s3 => (match s3.mem.get l with
      | some (.loop _ _ t' N' p' a' b' d') => (match o with
       | .norm => .ret (.bool true) (s3.put l (.loop .ready none t' N' p' a' b' d'))
       | .ret => .ret (.bool false) (s3.put l (.loop .done (some .ret) t' N' p' a' b' d'))
       | .exit id => .ret (.bool false) (s3.put l (.loop .done (some (.exit id)) t' N' p' a' b' d'))
       | .panic _ => .fail)
      | _ => .fail)
     | _ => .fail)
    | _ => .fail)
   | _ => .fail)
  | none => .fail)
 | _ => .fail

noncomputable def evRange (rd : Option Nat) (N : Nat) (f : Operand) (params : Array Nat) (assign body : Code) (t : T AV) (d : List DE) (s : St) (dl : Nat) (mark : List DE) : RC :=
 match opd t f with
 | some (.func g first captured) => Bool.rec .fail
  (match ih.call g (lapp first (.yield s.next :: captured)) (s.new (.loop .ready none t N params.toList assign body dl)) with
  | .ret _ s2 => (match s2.mem.get s.next with
   | some (.loop .ready none t' N' p' a' b' d') => .mk .norm t (lapp mark d) (s2.put s.next (.loop .exhausted none t' N' p' a' b' d'))
   | some (.loop .done (some c) t' N' p' a' b' d') => ih.code rd N c t (lapp mark d) (s2.put s.next (.loop .exhausted (some c) t' N' p' a' b' d'))
   | _ => .fail)
  | .panic v s2 => .mk (.panic v) t (lapp mark d) s2
  | .fail => .fail) (enters P g)
 | _ => .fail

noncomputable def seqK (r : RC) (k : T AV → List DE → St → RC) : RC :=
 RC.rec .fail (fun o t d s => Out.rec (k t d s) (fun i => .mk (.exit i) t d s) (.mk .ret t d s) (fun v => .mk (.panic v) t d s) o) r
noncomputable def blockK (id : Nat) (r : RC) : RC :=
 RC.rec .fail (fun o t d s => Out.rec (.mk .norm t d s) (fun j => Bool.rec (.mk (.exit j) t d s) (.mk .norm t d s) (Nat.beq j id)) (.mk .ret t d s) (fun v => .mk (.panic v) t d s) o) r
noncomputable def cRegion (ops : Array Oper) (draw : Bool) (rd : Option Nat) (N : Nat) (t : T AV) (d : List DE) (s : St) : RC :=
 forceS s fun s => Bool.rec (evOps ex ih rd N ops.toList ops.toList t d s) (evDraw ex ih rd N ops.toList ops.toList 0 [] [] t d s) draw
noncomputable def cCond (c : Operand) (a b : Code) (rd : Option Nat) (N : Nat) (t : T AV) (d : List DE) (s : St) : RC :=
 Option.rec .fail (fun v => Option.rec .fail (fun x => Bool.rec (ih.code rd N b t d s) (ih.code rd N a t d s) x) (selB v)) (opd t c)
noncomputable def cRange (f : Operand) (params : Array Nat) (assign body : Code) (rd : Option Nat) (N : Nat) (t : T AV) (d : List DE) (s : St) : RC :=
 match rd with
 | none => evRange P ih rd N f params assign body t d (s.new (.defs true)) s.next [.mark s.next]
 | some l => (match s.mem.get l with
  | some (.loop _ _ _ _ _ _ _ dl) => evRange P ih rd N f params assign body t d (s.touch l) dl []
  | _ => .fail)
noncomputable def evCode (rd : Option Nat) (N : Nat) (c : Code) (t : T AV) (d : List DE) (s : St) : RC :=
 Code.rec (motive := fun _ => RC)
  (.mk .norm t d s)
  (fun _ ops draw => cRegion ex ih ops draw rd N t d s)
  (fun a b _ _ => seqK (ih.code rd N a t d s) fun t d s => ih.code rd N b t d s)
  (fun c a b _ _ => cCond ih c a b rd N t d s)
  (fun id b _ => blockK id (ih.code rd N b t d s))
  (fun b _ => seqK (ih.code rd N b t d s) fun t d s => ih.code rd N (.loop b) t d s)
  (fun f params assign body _ _ => cRange P ih f params assign body rd N t d s)
  (fun id => .mk (.exit id) t d s)
  (fun b _ => ih.code rd N b t d s)
  (fun _ => .mk .norm t d s)
  (fun _ => .fail)
  (.mk .ret t d s)
  (fun _ => .fail) c

/-! results; the way out -/
noncomputable def resA (t : T AV) (s : St) (l : List ResultVar) : Option (List AV × St) :=
 List.rec (motive := fun _ => St → Option (List AV × St)) (fun s => some ([], s)) (fun r _ ih s => match r with
  | .tmp i => (match t.get i with
   | some v => (match ih s with | some (l, s) => some (v :: l, s) | none => none)
   | none => none)
  | .cell i ty => (match t.get i with
   | some a => (match loadA P ty a s with
    | some (v, s) => (match ih s with | some (l, s) => some (v :: l, s) | none => none)
    | none => none)
   | none => none)) l s
noncomputable def retA (fn : Func) (t : T AV) (s : St) : RV :=
 match resA P t s fn.results.toList with
 | some ([v], s) => .ret v s
 | some (l, s) => .ret (.tuple l) s
 | none => .fail

noncomputable def evSOps (N : Nat) (all l : List Oper) : T AV → RM → St → RS :=
 List.rec (motive := fun _ => T AV → RM → St → RS) (fun t m s => .mk .norm t m s)
  (fun o _ k t m s => Option.rec .fail (fun b => Bool.rec (putK .fail N o.dst undefA t fun t => k t m s)
   (match ex o.op t s with
    | .val v s => putK .fail N o.dst v t fun t => k t m s
    | .other (.recov s) => (match m with
     | .pan v => putK .fail N o.dst v t fun t => k t .took s
     | _ => putK .fail N o.dst .nili t fun t => k t m s)
    | .other (.skip s) => putK .fail N o.dst undefA t fun t => k t m s
    | _ => .fail) b) (Option.rec (some true) (fun g => wantedG all g t) o.guard)) l
noncomputable def evS (N : Nat) (c : Code) : T AV → RM → St → RS :=
 Code.rec (motive := fun _ => T AV → RM → St → RS)
  (fun t m s => .mk .norm t m s)
  (fun _ ops draw t m s => Bool.rec (evSOps ex N ops.toList ops.toList t m s) (drawS m (evDraw ex ev0 none N ops.toList ops.toList 0 [] [] t [] s)) draw)
  (fun _ _ ha hb t m s => match ha t m s with
   | .mk .norm t m s => hb t m s
   | r => r)
  (fun c _ _ ha hb t m s => match opd t c with
   | some (.bool x) => Bool.rec (hb t m s) (ha t m s) x
   | _ => .fail)
  (fun _ _ _ _ _ _ => .fail) (fun _ _ _ _ _ => .fail) (fun _ _ _ _ _ _ _ _ _ => .fail) (fun _ _ _ _ => .fail) (fun _ _ _ _ _ => .fail) (fun _ t m s => .mk .norm t m s) (fun _ _ _ _ => .fail)
  (fun t m s => .mk .ret t m s) (fun _ _ _ _ => .fail) c
noncomputable def frameSz (args : List AV) (fn : Func) : Nat := forceN (Bool.rec (llen args) fn.ntmps (Nat.ble (llen args) fn.ntmps)) fun n => n
noncomputable def evDeferred (f : Nat) (args : List AV) (m : RM) (s : St) : Option (RM × St) :=
 match P.funcs[f]? with
 | some fn => (match fn.body with
  | some c => (match evS ex (frameSz args fn) c (frame args) m s with
   | .mk .norm t m s | .mk .ret t m s => (match resA P t s fn.results.toList with | some (_, s) => some (m, s) | none => none)
   | _ => none)
  | none => none)
 | none => none

noncomputable def evLeave (fn : Func) (t : T AV) (d : List DE) : RM → St → RV :=
 List.rec (motive := fun _ => RM → St → RV)
  (fun m s => match m with | .ret => retA P fn t s | .pan v => .panic v s | .took => .fail)
  (fun x _ k m s => match x with
   | .mark b => (match s.mem.get b with
    | some (.defs true) => k m (s.put b (.defs false))
    | _ => .fail)
   | .fn f args => (match evDeferred ex P f args m s with
    | some (.took, s) => k .ret s
    | some (m, s) => k m s
    | none => .fail)) d
noncomputable def evCall (f : Nat) (args : List AV) (s : St) : RV :=
 Option.rec .fail (fun fn => Option.rec .fail (fun c =>
  RC.rec .fail (fun o t d s => Out.rec (evLeave ex P fn t d .ret s) (fun _ => .fail) (evLeave ex P fn t d .ret s) (fun v => evLeave ex P fn t d (.pan v) s) o)
   (ih.code none (frameSz args fn) c (frame args) [] s)) fn.body) (P.funcs[f]?)
end

/-- the evaluator: n: how deep; K: calls that are known otherwise -/
noncomputable def evStep (ex : Op → T AV → St → OR) (P : Program) (K : Nat → List AV → St → Option RV) (ih : EvF) : EvF :=
 ⟨evCode ex P ih, fun f args s => Option.rec (evCall ex P ih f args s) (fun r => r) (K f args s), evRound ih⟩
noncomputable def ev (ex : Op → T AV → St → OR) (P : Program) (K : Nat → List AV → St → Option RV) (n : Nat) : EvF :=
 Nat.rec ev0 (fun _ ih => evStep ex P K ih) n
end Go.Ev
namespace Go.Ev

/-- the fence of all functions, in a round or in none -/
def fence (r : Option Nat) : Fence := { Fence.wide with round := r }
theorem fence_fn (r : Option Nat) (f : FuncId) : (fence r).fn f := trivial
theorem fence_room (r : Option Nat) (n : Nat) : (fence r).room n := fun _ h => by cases h

def DRel (P : Program) (e : Env) : List DE → List Deferred → Prop
 | [], ds => ds = []
 | .mark b :: l, ds => ∃ r ds', ds = { target := .collected r, args := #[] } :: ds' ∧ (∃ z, e.at_ b = some (r, z)) ∧ DRel P e l ds'
 | .fn f args :: l, ds => ∃ cap dargs ds', ds = { target := .fn (.func f) cap, args := dargs } :: ds' ∧ LRel e args (dargs ++ cap).toList ∧ (∀ w, (callFunc f (dargs ++ cap)).run P w = .ok (.enter f (dargs ++ cap)) w) ∧ DRel P e l ds'
theorem DRel.mono {P : Program} {e e' : Env} (h : e.le e') : ∀ {l : List DE} {ds : List Deferred}, DRel P e l ds → DRel P e' l ds
 | [], _, hd => hd
 | .mark _ :: _, _, ⟨r, ds', h1, ⟨z, h2⟩, h3⟩ => ⟨r, ds', h1, ⟨z, h.1 _ _ h2⟩, h3.mono h⟩
 | .fn _ _ :: _, _, ⟨c, da, ds', h1, h2, h3, h4⟩ => ⟨c, da, ds', h1, h2.mono h, h3, h4.mono h⟩

def XRel (e : Env) : Out → Exit → Prop
 | .norm, x => x = .normal
 | .exit id, x => x = .exit id
 | .ret, x => x = .ret
 | .panic v, x => ∃ y, x = .panic [{ v := y, recovered := false }] ∧ VRel e v y

/-- what is so behind a piece of code that was begun at e0, s0, w0 -/
def PostQ (P : Program) (M : Nat → Prop) (N : Nat) (e0 : Env) (s0 : St) (w0 : World) (o : Out) (t : T AV) (d : List DE) (s : St) : Exit → Act → World → Prop :=
 fun ex a w => ∃ e, XRel e o ex ∧ FRel e N t a.tmps ∧ DRel P e d a.defers ∧ Rel e s M w ∧ Trans e0 s0 w0 e s w

def EndR (M : Nat → Prop) (e0 : Env) (s0 : St) (w0 : World) : RV → Ending → World → Prop
 | .ret v s, .returned x, w => ∃ e, VRel e v x ∧ Rel e s M w ∧ Trans e0 s0 w0 e s w
 | .panic v s, .panicked chain, w => ∃ e y, chain = [{ v := y, recovered := false }] ∧ VRel e v y ∧ Rel e s M w ∧ Trans e0 s0 w0 e s w
 | _, _, _ => False
def RV.st : RV → Option St
 | .fail => none
 | .ret _ s => some s
 | .panic _ s => some s

def CallOkR (P : Program) (f : Nat) (args : List AV) (s : St) (r : RV) : Prop :=
 ∀ s', r.st = some s' → Ext s s' ∧ ∀ (M : Nat → Prop) e w xs, Wf s → Rel e s M w → (∀ i, s'.X.testBit i = true → M i) → LRel e args xs → CallsIn Fence.wide 0 P f xs.toArray w (EndR M e s w r)
def RdRel (e : Env) : Option Nat → Option Nat → Prop
 | none, r => r = none
 | some l, r => ∃ p, e.at_ l = some p ∧ r = some p.1
theorem RdRel.mono {e e' : Env} (h : e.le e') {a b : Option Nat} (hr : RdRel e a b) : RdRel e' a b := by
 cases a with
 | none => exact hr
 | some l => obtain ⟨p, h1, h2⟩ := hr; exact ⟨p, h.1 _ _ h1, h2⟩
structure IhOk (P : Program) (ih : EvF) : Prop where
 code : ∀ rd N c t d s o t' d' s', ih.code rd N c t d s = .mk o t' d' s' → Ext s s' ∧ ∀ (M : Nat → Prop) e w a r, Wf s → Rel e s M w → (∀ i, s'.X.testBit i = true → M i) → FRel e N t a.tmps → DRel P e d a.defers → RdRel e rd r →
  c.wpIn (fence r) 0 P (PostQ P M N e s w o t' d' s') a w
 call : ∀ f args s, CallOkR P f args s (ih.call f args s)
 round : ∀ l args s v s', ih.round l args s = .ret v s' → Ext s s' ∧ ∀ (M : Nat → Prop) e w xs p, Wf s → Rel e s M w → (∀ i, s'.X.testBit i = true → M i) → e.at_ l = some p → LRel e args xs →
  ∃ fn tmps assign body, (Instr.yield p.1 xs.toArray).run P w = .ok (.round p.1 fn tmps assign body) w ∧ RoundIn Fence.wide 0 P p.1 fn tmps assign body w (EndR M e s w (.ret v s'))

theorem FRel.put {e : Env} {N : Nat} {t : T AV} {tmps : Array Value} {i : Nat} {v : AV} {x : Value} (h : FRel e N t tmps) (hi : i < N) (hv : VRel e v x) : FRel e N (t.set i v) (tmps.setIfInBounds i x) := by
 refine ⟨by simp [h.1], fun j u hj => ?_⟩
 rw [T.get_set] at hj
 by_cases e1 : j = i
 · rw [if_pos e1] at hj; cases hj; subst e1
   exact ⟨x, by have h1 := h.1; simp [Array.getElem?_setIfInBounds, h1, hi], hv⟩
 · rw [if_neg e1] at hj
   obtain ⟨y, hy, hvy⟩ := h.2 j u hj
   exact ⟨y, by rw [Array.getElem?_setIfInBounds_ne (fun h => e1 h.symm)]; exact hy, hvy⟩
theorem putV_ok {N : Nat} {dst : Option Nat} {v : AV} {t : T AV} {d : List DE} {s : St} {k : T AV → List DE → St → RC} {o : Out} {t1 : T AV} {d1 : List DE} {s1 : St} (h : putV N dst v t d s k = .mk o t1 d1 s1) :
 ∃ t', k t' d s = .mk o t1 d1 s1 ∧ ∀ e (a : Act) x, FRel e N t a.tmps → VRel e v x → FRel e N t' (a.put dst x).tmps ∧ (a.put dst x).defers = a.defers := by
 unfold putV at h
 cases dst with
 | none => exact ⟨t, h, fun e a x hf _ => ⟨hf, rfl⟩⟩
 | some i =>
  dsimp only at h
  cases hb : Nat.ble (Nat.succ i) N with
  | false => rw [hb] at h; cases h
  | true =>
   rw [hb] at h
   exact ⟨_, h, fun e a x hf hv => ⟨hf.put (Nat.le_of_ble_eq_true hb) hv, rfl⟩⟩
theorem undef_rel (e : Env) : VRel e undefA undef := by unfold undefA undef; simp only [VRel]; exact ⟨[], rfl, .nil_⟩

section
variable {P : Program} {ex : Op → T AV → St → OR} {ih : EvF}

structure ExOk (P : Program) (ex : Op → T AV → St → OR) : Prop where
 op : ∀ (M : Nat → Prop) e s w t ρ (o : Oper), Rel e s M w → Wf s → ORho e t ρ → OpOk P M e s w (execOp ρ o) (ex o.op t s)
 ext : ∀ s t o, OExt s (ex o t s)
 dfr : ∀ s t c, ex (.defer c) t s = OR.fail ∨ ∃ f a s', ex (.defer c) t s = .other (.defer f a s')

theorem CallsIn.fence_ {r : Option Nat} {f : Nat} {args : Array Value} {w : World} {R : Ending → World → Prop} (h : CallsIn Fence.wide 0 P f args w R) : CallsIn (fence r) 0 P f args w R := h
theorem RoundIn.fence_ {r : Option Nat} {l f : Nat} {tmps : Array Value} {a b : Code} {w : World} {R : Ending → World → Prop} (h : RoundIn Fence.wide 0 P l f tmps a b w R) : RoundIn (fence r) 0 P l f tmps a b w R := h


theorem wpOpIn_of {r : Option Nat} {ops : Array Oper} {Q : Exit → Act → World → Prop} {K : Act → World → Prop} {i : Nat} {o : Oper} {a : Act} {w : World} (ho : ops[i]? = some o) (hw : Region.wanted o (yielded ops a.tmps) = true)
 (h : o.uponIn (fence r) 0 P a K Q ((o.semAt r a.eval).run P w)) : wpOpIn (fence r) 0 P ops Q i K a w := by
 unfold wpOpIn
 rw [ho]
 simp only [hw, if_true]
 exact ⟨fun _ _ => trivial, h⟩

/-- one operation: what then follows (k) is led from what it leaves -/
theorem evOp_ok (hE : ExOk P ex) (hI : IhOk P ih) {rd : Option Nat} {N : Nat} {t : T AV} {d : List DE} {s : St} {o : Oper} {k : T AV → List DE → St → RC} {oo : Out} {t1 : T AV} {d1 : List DE} {s1 : St}
 (h : evOp ex ih rd N t d s o k = .mk oo t1 d1 s1) (hk : ∀ t' d' s', k t' d' s' = .mk oo t1 d1 s1 → Ext s' s1) :
 Ext s s1 ∧ ∀ (M : Nat → Prop) r e w a (ops : Array Oper) (i : Nat) (Q : Exit → Act → World → Prop) (K : Act → World → Prop), ops[i]? = some o → Region.wanted o (yielded ops a.tmps) = true → Wf s → Rel e s M w → (∀ i, s1.X.testBit i = true → M i) → FRel e N t a.tmps → DRel P e d a.defers →
  RdRel e rd r →
  (∀ e' a' w' t' d' s', k t' d' s' = .mk oo t1 d1 s1 → Ext s s' → Wf s' → Rel e' s' M w' → FRel e' N t' a'.tmps → DRel P e' d' a'.defers → Trans e s w e' s' w' → K a' w') →
  (∀ e' w' v y, oo = .panic v → t1 = t → d1 = d → VRel e' v y → Rel e' s1 M w' → Trans e s w e' s1 w' → Q (.panic [{ v := y, recovered := false }]) a w') →
  wpOpIn (fence r) 0 P ops Q i K a w := by
 have hx := hE.ext s t o.op
 have hop := fun (M : Nat → Prop) e w ρ (hr : Rel e s M w) (hw : Wf s) (ho : ORho e t ρ) => hE.op M e s w t ρ o hr hw ho
 have hsem : ∀ {r : Option Nat} (a : Act), (r = none ∨ ∀ c, o.op ≠ .defer c) → o.semAt r a.eval = execOp a.eval o := fun {r} a hh => by
  rcases hh with rfl | hh
  · rfl
  · exact Oper.semAt_eq _ _ _ hh
 have hdf := hE.dfr s t
 unfold evOp at h
 cases hres : ex o.op t s with
 | val v s2 =>
  rw [hres] at h hx
  simp only [hres] at hop
  obtain ⟨t', hkt, hput⟩ := putV_ok h
  have hx2 := hk _ _ _ hkt
  refine ⟨Ext.trans hx hx2, fun M r e w a ops i Q K ho hwt hwf hr hM hf hd hrd hK _ => wpOpIn_of ho hwt ?_⟩
  obtain ⟨e', w', x, h1, h2, h3, h4⟩ := hop M e w a.eval hr hwf (orho_eval hf) (fun i hi => hM i (hx2.X i hi))
  rw [hsem a (.inr fun c hc => by rcases hdf c with hh | ⟨_, _, _, hh⟩ <;> (rw [← hc, hres] at hh; cases hh)), h1]
  obtain ⟨g1, g2⟩ := hput e' a x (hf.mono h4.le) h2
  exact hK e' _ _ t' d s2 hkt hx (hx.wf hwf) h3 g1 (by rw [g2]; exact hd.mono h4.le) h4
 | other r2 =>
  rw [hres] at h hx
  simp only [hres] at hop
  have ndf : (∀ f a s', r2 ≠ .defer f a s') → r2 ≠ .fail → ∀ c, o.op ≠ .defer c := fun h1 h2 c hc => by
   rcases hdf c with hh | ⟨f, a, s', hh⟩
   · rw [← hc, hres] at hh
     have := OR.other.inj hh
     exact h2 this
   · rw [← hc, hres] at hh
     exact h1 f a s' (OR.other.inj hh)
  cases r2 with
  | fail => cases h
  | recov s2 => cases h
  | skip s2 =>
   obtain ⟨t', hkt, hput⟩ := putV_ok h
   have hx2 := hk _ _ _ hkt
   refine ⟨Ext.trans hx hx2, fun M r e w a ops i Q K ho hwt hwf hr hM hf hd hrd hK _ => wpOpIn_of ho hwt ?_⟩
   obtain ⟨e', w', h1, h3, h4⟩ := hop M e w a.eval hr hwf (orho_eval hf) (fun i hi => hM i (hx2.X i hi))
   rw [hsem a (.inr (ndf (fun _ _ _ hh => by cases hh) (fun hh => by cases hh))), h1]
   obtain ⟨g1, g2⟩ := hput e' a undef (hf.mono h4.le) (undef_rel e')
   exact hK e' _ _ t' d s2 hkt hx (hx.wf hwf) h3 g1 (by rw [g2]; exact hd.mono h4.le) h4
  | panic v s2 =>
   cases h
   have hx : s1 = s := hx
   subst hx
   refine ⟨Ext.refl _, fun M r e w a ops i Q K ho hwt hwf hr hM hf hd hrd _ hQ => wpOpIn_of ho hwt ?_⟩
   obtain ⟨x, h1, h2⟩ := hop M e w a.eval hr hwf (orho_eval hf)
   rw [hsem a (.inr (ndf (fun _ _ _ hh => by cases hh) (fun hh => by cases hh))), h1]
   exact hQ e w v x rfl rfl rfl h2 hr (Trans.refl _ _ _)
  | defer f args s2 =>
   have hx : s2 = s := hx
   subst hx
   cases rd with
   | some l => cases h
   | none =>
    obtain ⟨t', hkt, hput⟩ := putV_ok h
    have hx2 := hk _ _ _ hkt
    refine ⟨hx2, fun M r e w a ops i Q K ho hwt hwf hr hM hf hd hrd hK _ => wpOpIn_of ho hwt ?_⟩
    have hrd : r = none := hrd
    subst hrd
    obtain ⟨cap, dargs, h1, h2, h3⟩ := hop M e w a.eval hr hwf (orho_eval hf)
    rw [hsem a (.inl rfl), h1]
    obtain ⟨g1, g2⟩ := hput e { a with defers := { target := .fn (.func f) cap, args := dargs } :: a.defers } undef hf (undef_rel e)
    exact hK e _ _ t' _ s2 hkt (Ext.refl _) hwf hr g1 (by rw [g2]; exact ⟨cap, dargs, _, rfl, h2, h3, hd⟩) (Trans.refl _ _ _)
  | call f args s2 =>
   have hx : s2 = s := hx
   subst hx
   have hC := hI.call f args s2
   have h : (RV.rec .fail (fun v s => putV N o.dst v t d s k) (fun v s => .mk (.panic v) t d s) (ih.call f args s2) : RC) = .mk oo t1 d1 s1 := h
   cases hcr : ih.call f args s2 with
   | fail => rw [hcr] at h; cases h
   | ret v s3 =>
    rw [hcr] at h hC
    obtain ⟨t', hkt, hput⟩ := putV_ok h
    have hx2 := hk _ _ _ hkt
    obtain ⟨hx3, hC⟩ := hC s3 rfl
    refine ⟨Ext.trans hx3 hx2, fun M r e w a ops i Q K ho hwt hwf hr hM hf hd hrd hK _ => wpOpIn_of ho hwt ?_⟩
    obtain ⟨xs, h1, h2⟩ := hop M e w a.eval hr hwf (orho_eval hf)
    rw [hsem a (.inr (ndf (fun _ _ _ hh => by cases hh) (fun hh => by cases hh))), h1]
    refine ⟨fun hh => (by cases hh), CallsIn.fence_ ((hC M e w xs hwf hr (fun i hi => hM i (hx2.X i hi)) h2).mono ?_)⟩
    intro en w' hen
    cases en with
    | outgrown => exact hen.elim
    | panicked c => exact hen.elim
    | returned x =>
     obtain ⟨e', h2, h3, h4⟩ := hen
     obtain ⟨g1, g2⟩ := hput e' a x (hf.mono h4.le) h2
     exact hK e' _ _ t' d s3 hkt hx3 (hx3.wf hwf) h3 g1 (by rw [g2]; exact hd.mono h4.le) h4
   | panic v s3 =>
    rw [hcr] at h hC
    cases h
    obtain ⟨hx3, hC⟩ := hC s1 rfl
    refine ⟨hx3, fun M r e w a ops i Q K ho hwt hwf hr hM hf hd hrd _ hQ => wpOpIn_of ho hwt ?_⟩
    obtain ⟨xs, h1, h2⟩ := hop M e w a.eval hr hwf (orho_eval hf)
    rw [hsem a (.inr (ndf (fun _ _ _ hh => by cases hh) (fun hh => by cases hh))), h1]
    refine ⟨fun hh => (by cases hh), CallsIn.fence_ ((hC M e w xs hwf hr hM h2).mono ?_)⟩
    intro en w' hen
    cases en with
    | outgrown => exact hen.elim
    | returned x => exact hen.elim
    | panicked c =>
     obtain ⟨e', y, rfl, h2, h3, h4⟩ := hen
     exact hQ e' w' v y rfl rfl rfl h2 h3 h4
  | round l args s2 =>
   have hx : s2 = s := hx
   subst hx
   have h : (RV.rec .fail (fun v s => putV N o.dst v t d s k) (fun _ _ => .fail) (ih.round l args s2) : RC) = .mk oo t1 d1 s1 := h
   cases hcr : ih.round l args s2 with
   | fail => rw [hcr] at h; cases h
   | panic v s3 => rw [hcr] at h; cases h
   | ret v s3 =>
    rw [hcr] at h
    obtain ⟨t', hkt, hput⟩ := putV_ok h
    have hx2 := hk _ _ _ hkt
    obtain ⟨hx3, hC⟩ := hI.round l args s2 v s3 hcr
    refine ⟨Ext.trans hx3 hx2, fun M r e w a ops i Q K ho hwt hwf hr hM hf hd hrd hK _ => wpOpIn_of ho hwt ?_⟩
    obtain ⟨xs, p, hp, h1, h2⟩ := hop M e w a.eval hr hwf (orho_eval hf)
    obtain ⟨fn, tmps, assign, body, g1, g2⟩ := hC M e w xs p hwf hr (fun i hi => hM i (hx2.X i hi)) hp h1
    rw [hsem a (.inr (ndf (fun _ _ _ hh => by cases hh) (fun hh => by cases hh))), h2, g1]
    refine ⟨fun hh => (by cases hh), RoundIn.fence_ (g2.mono ?_)⟩
    intro en w' hen
    cases en with
    | outgrown => exact hen.elim
    | panicked c => exact hen.elim
    | returned x =>
     obtain ⟨e', h2, h3, h4⟩ := hen
     obtain ⟨g1, g2⟩ := hput e' a x (hf.mono h4.le) h2
     exact hK e' _ _ t' d s3 hkt hx3 (hx3.wf hwf) h3 g1 (by rw [g2]; exact hd.mono h4.le) h4
end
end Go.Ev
namespace Go.Ev
section
variable {P : Program} {ex : Op → T AV → St → OR} {ih : EvF}

theorem wantedG_ok {e : Env} {N : Nat} {ops : Array Oper} {o : Oper} {g : Nat × Bool} {t : T AV} {tmps : Array Value} {b : Bool} (hg : o.guard = some g) (h : wantedG ops.toList g t = some b) (hf : FRel e N t tmps) :
 Region.wanted o (yielded ops tmps) = b := by
 obtain ⟨oj, ho, h⟩ := orec h
 rw [lnth_eq] at ho
 have ho' : ops[g.1]? = some oj := by simpa using ho
 obtain ⟨j, want⟩ := g
 have hw : Region.wanted o (yielded ops tmps) = (yielded ops tmps j == some want) := by unfold Region.wanted; rw [hg]
 rw [hw]
 cases hd : oj.dst with
 | none =>
  rw [hd] at h; cases h
  unfold yielded; simp [ho', hd]
 | some dd =>
  rw [hd] at h
  obtain ⟨v, hv, h⟩ := orec h
  obtain ⟨x, hx, hvx⟩ := hf.2 dd v hv
  cases hb : selB v with
  | some b' =>
   rw [hb] at h
   cases h
   rw [selB_ok hb] at hvx
   simp only [VRel] at hvx
   subst hvx
   unfold yielded
   simp only [ho', hd, Option.bind_some, hx, eqB_eq]
   rfl
  | none =>
   rw [hb] at h
   dsimp only at h
   obtain ⟨l, hl, h⟩ := orec h
   cases h
   rw [selT_ok hl] at hvx
   simp only [VRel] at hvx
   obtain ⟨ys, rfl, _⟩ := hvx
   unfold yielded
   simp [ho', hd, hx]
theorem wpOpIn_skip {r : Option Nat} {ops : Array Oper} {Q : Exit → Act → World → Prop} {K : Act → World → Prop} {i : Nat} {o : Oper} {a : Act} {w : World} (ho : ops[i]? = some o) (hw : Region.wanted o (yielded ops a.tmps) = false)
 (h : K (a.put o.dst undef) w) : wpOpIn (fence r) 0 P ops Q i K a w := by
 unfold wpOpIn
 rw [ho]
 simp only [hw, Bool.false_eq_true, if_false]
 exact ⟨fun _ _ => trivial, h⟩

/-- one operation, its guard looked at -/
noncomputable def evOne (ex : Op → T AV → St → OR) (ih : EvF) (rd : Option Nat) (N : Nat) (all : List Oper) (t : T AV) (d : List DE) (s : St) (o : Oper) (k : T AV → List DE → St → RC) : RC :=
 Option.rec (evOp ex ih rd N t d s o k) (fun g => evGuard ex ih rd N all g t d s o k) o.guard
theorem evOne_ok (hE : ExOk P ex) (hI : IhOk P ih) {rd : Option Nat} {N : Nat} {all : List Oper} {t : T AV} {d : List DE} {s : St} {o : Oper} {k : T AV → List DE → St → RC} {oo : Out} {t1 : T AV} {d1 : List DE} {s1 : St}
 (h : evOne ex ih rd N all t d s o k = .mk oo t1 d1 s1) (hk : ∀ t' d' s', k t' d' s' = .mk oo t1 d1 s1 → Ext s' s1) :
 Ext s s1 ∧ ∀ (M : Nat → Prop) r e w a (ops : Array Oper) (i : Nat) (Q : Exit → Act → World → Prop) (K : Act → World → Prop), ops.toList = all → ops[i]? = some o → Wf s → Rel e s M w → (∀ i, s1.X.testBit i = true → M i) → FRel e N t a.tmps → DRel P e d a.defers →
  RdRel e rd r →
  (∀ e' a' w' t' d' s', k t' d' s' = .mk oo t1 d1 s1 → Ext s s' → Wf s' → Rel e' s' M w' → FRel e' N t' a'.tmps → DRel P e' d' a'.defers → Trans e s w e' s' w' → K a' w') →
  (∀ e' w' v y, oo = .panic v → t1 = t → d1 = d → VRel e' v y → Rel e' s1 M w' → Trans e s w e' s1 w' → Q (.panic [{ v := y, recovered := false }]) a w') →
  wpOpIn (fence r) 0 P ops Q i K a w := by
 unfold evOne at h
 cases hg : o.guard with
 | none =>
  rw [hg] at h
  obtain ⟨h1, h2⟩ := evOp_ok hE hI h hk
  exact ⟨h1, fun M r e w a ops i Q K _ ho => h2 M r e w a ops i Q K ho (by unfold Region.wanted; rw [hg])⟩
 | some g =>
  rw [hg] at h
  have h : evGuard ex ih rd N all g t d s o k = .mk oo t1 d1 s1 := h
  unfold evGuard at h
  cases hw : wantedG all g t with
  | none => rw [hw] at h; cases h
  | some b =>
   rw [hw] at h
   cases b with
   | true =>
    obtain ⟨h1, h2⟩ := evOp_ok hE hI h hk
    refine ⟨h1, fun M r e w a ops i Q K hall ho hwf hr hM hf => ?_⟩
    subst hall
    exact h2 M r e w a ops i Q K ho (wantedG_ok hg hw hf) hwf hr hM hf
   | false =>
    obtain ⟨t', hkt, hput⟩ := putV_ok h
    have hx2 := hk _ _ _ hkt
    refine ⟨hx2, fun M r e w a ops i Q K hall ho hwf hr hM hf hd hrd hK _ => ?_⟩
    subst hall
    obtain ⟨g1, g2⟩ := hput e a undef hf (undef_rel e)
    exact wpOpIn_skip ho (wantedG_ok hg hw hf) (hK e _ w t' d s hkt (Ext.refl _) hwf hr g1 (by rw [g2]; exact hd) (Trans.refl _ _ _))

theorem post_panic {M : Nat → Prop} {N : Nat} {e0 e e' : Env} {s0 s s1 : St} {w0 w w' : World} {a : Act} {t t1 : T AV} {d d1 : List DE} {oo : Out} {v : AV} {y : Value} (hx0 : Ext s0 s) (hx : Ext s s1) (ht0 : Trans e0 s0 w0 e s w) (hf : FRel e N t a.tmps) (hd : DRel P e d a.defers)
 (ho : oo = .panic v) (h1 : t1 = t) (h2 : d1 = d) (hv : VRel e' v y) (hr : Rel e' s1 M w') (ht : Trans e s w e' s1 w') : PostQ P M N e0 s0 w0 oo t1 d1 s1 (.panic [{ v := y, recovered := false }]) a w' := by
 subst ho; subst h1; subst h2
 exact ⟨e', ⟨y, rfl, hv⟩, hf.mono ht.le, hd.mono ht.le, hr, ht0.trans hx0 hx ht⟩

theorem evOps_ok (hE : ExOk P ex) (hI : IhOk P ih) {rd : Option Nat} {N : Nat} {all : List Oper} : ∀ {l : List Oper} {t : T AV} {d : List DE} {s : St} {oo : Out} {t1 : T AV} {d1 : List DE} {s1 : St}, evOps ex ih rd N all l t d s = .mk oo t1 d1 s1 →
 Ext s s1 ∧ ∀ (M : Nat → Prop) r e0 s0 w0 e w a (ops : Array Oper) (i : Nat), ops.toList = all → all.drop i = l → Ext s0 s → Trans e0 s0 w0 e s w → Wf s → Rel e s M w → (∀ i, s1.X.testBit i = true → M i) → FRel e N t a.tmps → DRel P e d a.defers →
  RdRel e rd r → wpOpsIn (fence r) 0 P ops (PostQ P M N e0 s0 w0 oo t1 d1 s1) (List.range' i l.length) a w := by
 intro l
 induction l with
 | nil =>
  intro t d s oo t1 d1 s1 h
  cases h
  exact ⟨Ext.refl _, fun M r e0 s0 w0 e w a ops i _ _ hx0 ht0 _ hr _ hf hd _ => ⟨e, rfl, hf, hd, hr, ht0⟩⟩
 | cons o l ihl =>
  intro t d s oo t1 d1 s1 h
  have h : evOne ex ih rd N all t d s o (evOps ex ih rd N all l) = .mk oo t1 d1 s1 := h
  obtain ⟨h1, h2⟩ := evOne_ok hE hI h (fun t' d' s' hk => (ihl hk).1)
  refine ⟨h1, fun M r e0 s0 w0 e w a ops i hall hi hx0 ht0 hwf hr hM hf hd hrd => ?_⟩
  have ho : ops[i]? = some o := by
   have : all[i]? = some o := by rw [← List.head?_drop, hi]; rfl
   rw [← hall] at this; simpa using this
  have hi2 : all.drop (i + 1) = l := by rw [← List.drop_drop, hi]; rfl
  rw [List.length_cons, List.range'_succ, wpOpsIn_cons]
  refine h2 M r e w a ops i _ _ hall ho hwf hr hM hf hd hrd ?_ ?_
  · intro e' a' w' t' d' s' hk hx hwf' hr' hf' hd' ht'
    exact (ihl hk).2 M r e0 s0 w0 e' w' a' ops (i + 1) hall hi2 (hx0.trans hx) (ht0.trans hx0 hx ht') hwf' hr' hM hf' hd' (hrd.mono ht'.le)
  · intro e' w' v y g1 g2 g3 g4 g5 g6
    exact post_panic hx0 h1 ht0 hf hd g1 g2 g3 g4 g5 g6

theorem region_ok (hE : ExOk P ex) (hI : IhOk P ih) {rd : Option Nat} {N id : Nat} {ops : Array Oper} {t : T AV} {d : List DE} {s : St} {oo : Out} {t1 : T AV} {d1 : List DE} {s1 : St} (h : evOps ex ih rd N ops.toList ops.toList t d s = .mk oo t1 d1 s1) :
 Ext s s1 ∧ ∀ (M : Nat → Prop) e w a r, Wf s → Rel e s M w → (∀ i, s1.X.testBit i = true → M i) → FRel e N t a.tmps → DRel P e d a.defers → RdRel e rd r →
  (Code.region id ops false).wpIn (fence r) 0 P (PostQ P M N e s w oo t1 d1 s1) a w := by
 obtain ⟨h1, h2⟩ := evOps_ok hE hI h
 refine ⟨h1, fun M e w a r hwf hr hM hf hd hrd => wpIn_region ?_⟩
 have := h2 M r e s w e w a ops 0 rfl rfl (Ext.refl _) (Trans.refl _ _ _) hwf hr hM hf hd hrd
 rw [Array.length_toList] at this
 rw [List.range_eq_range']
 exact this
end
end Go.Ev
namespace Go.Ev

/-- nothing jumps to a label, and nothing outgrows -/
def Firm (Q : Exit → Act → World → Prop) : Prop := ∀ e a w, Q e a w → (∀ l, e ≠ .goto l) ∧ e ≠ .outgrown

section
variable {F : Fence} {n : Nat} {P : Program} {Q : Exit → Act → World → Prop} {a : Act} {w : World}

theorem stepR_scope {b : Frame} {k : List Item} {cs : List Frame} {c : Code} : step P (lone (b.atR a (.code (.scope c) :: k)) cs w) = .next (lone (b.atR a (.code c :: .inScope c :: k)) cs w) :=
 step_lone_go (by simp [stepG, stepG.exec, Frame.atR])
theorem stepR_inScope {b : Frame} {k : List Item} {cs : List Frame} {c : Code} : step P (lone (b.atR a (.inScope c :: k)) cs w) = .next (lone (b.atR a k) cs w) :=
 step_lone_go (by simp [stepG, stepG.exec, Frame.atR])
theorem wpIn_scope {c : Code} (hQ : Firm Q) (h : c.wpIn F n P Q a w) : (Code.scope c).wpIn F n P Q a w := by
 intro b k cs hro hb hr
 have h0 : (lone (b.atR a (.code (.scope c) :: k)) cs w).fenced P F := fenced_calm hb hr rfl
 obtain ⟨e, a₁, w₁, hq, harr⟩ := h b (.inScope c :: k) cs hro hb hr
 cases e with
 | normal => exact ⟨.normal, a₁, w₁, hq, .head h0 stepR_scope (StepsIn.trans harr (.one (fenced_calm hb hr rfl) stepR_inScope))⟩
 | exit id =>
  have hx : exitTo id (.inScope c :: k) = exitTo id k := by simp [exitTo]
  exact ⟨.exit id, a₁, w₁, hq, fun k' hk => .head h0 stepR_scope (harr.1 k' (by rw [hx]; exact hk)),
   fun hr' hk => let ⟨k₁, h1, h2⟩ := harr.2 hr' (by rw [hx]; exact hk); ⟨k₁, h1, .head h0 stepR_scope h2⟩⟩
 | goto l => exact absurd rfl ((hQ _ _ _ hq).1 l)
 | ret => exact ⟨_, a₁, w₁, hq, .of_steps (.one h0 stepR_scope) harr⟩
 | panic ch => exact ⟨_, a₁, w₁, hq, .of_steps (.one h0 stepR_scope) harr⟩
 | outgrown => exact absurd rfl (hQ _ _ _ hq).2

theorem exitTo_le {id : Nat} : ∀ {k k' : List Item}, exitTo id k = some k' → k'.length ≤ k.length
 | [], _, h => by simp [exitTo] at h
 | x :: k, k', h => by
  have key : exitTo id k = some k' → k'.length ≤ (x :: k).length := fun h => Nat.le_trans (exitTo_le h) (by simp)
  cases x with
  | inBlock id' =>
   simp only [exitTo] at h
   split at h
   · cases h; simp
   · exact key h
  | _ => exact key (by simpa [exitTo] using h)

theorem StepsIn.behind {I : Machine → Prop} {m m1 m2 : Machine} (h : StepsIn I P m m2) (hs : step P m = .next m1) (hne : m ≠ m2) : StepsIn I P m1 m2 := by
 cases h with
 | refl => exact absurd rfl hne
 | head hI hs' h' => rw [hs] at hs'; cases hs'; exact h'

theorem lone_inj {fr fr' : Frame} {cs : List Frame} {w w' : World} (h : lone fr cs w = lone fr' cs w') : fr = fr' := by
 simp only [lone] at h
 injection h with h1 h2 h3
 simpa using h2
theorem ne_len {b b' : Frame} {a a' : Act} {k k' : List Item} {x : Item} {cs : List Frame} {w w' : World} (hk : k'.length ≤ k.length) : lone (b.atR a (x :: k)) cs w ≠ lone (b'.atR a' k') cs w' := fun he => by
 have h1 := congrArg List.length (congrArg Frame.todo (lone_inj he))
 simp [Frame.atR] at h1
 omega
theorem ne_code {b b' : Frame} {a a' : Act} {k k' : List Item} {c c' : Code} {cs : List Frame} {w w' : World} (hk : c ≠ c') : lone (b.atR a (.code c :: k)) cs w ≠ lone (b'.atR a' (.code c' :: k')) cs w' := fun he => by
 have h1 := congrArg Frame.todo (lone_inj he)
 simp [Frame.atR] at h1
 exact hk h1.1
theorem ne_mode {b b' : Frame} {a a' : Act} {k k' : List Item} {m : FrameMode} {cs : List Frame} {w w' : World} (hk : m ≠ .run) : lone (b.atR a k) cs w ≠ lone { b'.atR a' k' with mode := m } cs w' := fun he => by
 have h1 := congrArg Frame.mode (lone_inj he)
 exact hk h1.symm

theorem wpIn_loop_unroll {c : Code} (hQ : Firm Q) (h : c.wpIn F n P (Exit.then ((Code.loop c).wpIn F n P Q) Q) a w) : (Code.loop c).wpIn F n P Q a w := by
 intro b k cs hro hb hr
 have h0 : (lone (b.atR a (.code (.loop c) :: k)) cs w).fenced P F := fenced_calm hb hr rfl
 obtain ⟨e, a₁, w₁, hq, harr⟩ := h b (.inLoop c :: k) cs hro hb hr
 cases e with
 | normal =>
  obtain ⟨e₂, a₂, w₂, hq₂, harr₂⟩ := hq b k cs hro hb hr
  refine ⟨e₂, a₂, w₂, hq₂, .of_steps (.head h0 stepR_loop (StepsIn.trans harr (.one (fenced_calm hb hr rfl) stepR_inLoop))) ?_⟩
  cases e₂ with
  | normal => exact StepsIn.behind harr₂ stepR_loop (ne_len (Nat.le_refl _))
  | exit id =>
   exact ⟨fun k' hk => StepsIn.behind (harr₂.1 k' hk) stepR_loop (ne_len (exitTo_le hk)),
    fun hr' hk => let ⟨k₁, h1, h2⟩ := harr₂.2 hr' hk; ⟨k₁, h1, StepsIn.behind h2 stepR_loop (ne_code (fun h => by cases h))⟩⟩
  | goto l => exact absurd rfl ((hQ _ _ _ hq₂).1 l)
  | ret =>
   exact ⟨fun hr' => let ⟨todo, hs⟩ := harr₂.1 hr'; ⟨todo, StepsIn.behind hs stepR_loop (ne_mode (fun h => by cases h))⟩,
    fun hr' => let ⟨k₁, hs⟩ := harr₂.2 hr'; ⟨k₁, StepsIn.behind hs stepR_loop (ne_code (fun h => by cases h))⟩⟩
  | panic ch =>
   obtain ⟨todo, hs⟩ := harr₂
   exact ⟨todo, StepsIn.behind hs stepR_loop (ne_mode (fun h => by cases h))⟩
  | outgrown => exact absurd rfl (hQ _ _ _ hq₂).2
 | exit id => exact ⟨_, a₁, w₁, hq, .of_steps (.one h0 stepR_loop) (.pass (x := .inLoop c) rfl (fun _ _ => .inl (by simp)) harr)⟩
 | goto l => exact absurd rfl ((hQ _ _ _ hq).1 l)
 | ret => exact ⟨_, a₁, w₁, hq, .of_steps (.one h0 stepR_loop) (.pass (x := .inLoop c) rfl (fun _ _ => .inl (by simp)) harr)⟩
 | panic ch => exact ⟨_, a₁, w₁, hq, .of_steps (.one h0 stepR_loop) (.pass (x := .inLoop c) rfl (fun _ _ => .inl (by simp)) harr)⟩
 | outgrown => exact absurd rfl (hQ _ _ _ hq).2
end
end Go.Ev
namespace Go.Ev
def ExLoc (ex : Op → T AV → St → OR) : Prop := ∀ o t t' s, (∀ x ∈ o.operands, opd t x = opd t' x) → ex o t s = ex o t' s

section
variable {t t' : T AV} {s : St}
theorem opds_congr {l : Array Operand} (h : ∀ x ∈ l, opd t x = opd t' x) : opds t l = opds t' l := by
 unfold opds
 have : ∀ l : List Operand, (∀ x ∈ l, opd t x = opd t' x) → lseq (opd t) l = lseq (opd t') l := by
  intro l
  induction l with
  | nil => intro _; rfl
  | cons x l ih =>
   intro h
   have h1 := h x (by simp)
   have h2 := ih fun y hy => h y (by simp [hy])
   unfold lseq at h2 ⊢
   dsimp only
   rw [h1, h2]
 exact this _ fun x hx => h x (by simpa using hx)
theorem opdO_congr {o : Option Operand} (h : ∀ x ∈ o.toArray, opd t x = opd t' x) : opdO t o = opdO t' o := by
 cases o with
 | none => rfl
 | some x => unfold opdO; simp only [h x (by simp)]
theorem opdP_congr {l : Array (Nat × Operand)} (h : ∀ x ∈ (l.toList.map (·.2)).toArray, opd t x = opd t' x) : opdP t l = opdP t' l := by
 unfold opdP
 have : ∀ l : List (Nat × Operand), (∀ x ∈ l.map (·.2), opd t x = opd t' x) → (List.rec (motive := fun _ => Option (List (Nat × AV))) (some []) (fun p _ ih => match opd t p.2, ih with
  | some v, some r => some ((p.1, v) :: r)
  | _, _ => none) l : Option (List (Nat × AV))) = List.rec (motive := fun _ => Option (List (Nat × AV))) (some []) (fun p _ ih => match opd t' p.2, ih with
  | some v, some r => some ((p.1, v) :: r)
  | _, _ => none) l := by
  intro l
  induction l with
  | nil => intro _; rfl
  | cons x l ih =>
   intro h
   have h1 := h x.2 (by simp)
   have h2 := ih fun y hy => h y (by simp only [List.map_cons, List.mem_cons]; exact .inr hy)
   dsimp only
   rw [h1, h2]
 exact this _ fun x hx => h x (by simpa using hx)
theorem with1_congr {x : Operand} {k k' : AV → OR} (h : opd t x = opd t' x) (hk : ∀ v, k v = k' v) : with1 t x k = with1 t' x k' := by
 rw [show k = k' from funext hk]; unfold with1; rw [h]
theorem exec_loc {P : Program} {eqT : List Nat} {meths : List (Nat × String × Nat)} : ExLoc (exec P eqT meths) := by
 intro o t t' s h
 cases o with
 | move x | assign x => exact congrArg _ (h x (by simp [Op.operands]))
 | pick c a b =>
  refine with1_congr (h c (by simp [Op.operands])) fun v => ?_
  have ha : hMove a t s = hMove a t' s := congrArg _ (h a (by simp [Op.operands]))
  have hb : hMove b t s = hMove b t' s := congrArg _ (h b (by simp [Op.operands]))
  rw [ha, hb]
 | build ty ps => exact congrArg _ (opdP_congr h)
 | buildSlice ty len ps => exact congrArg _ (opdP_congr h)
 | makeFunc fn first captured =>
  show hFunc fn first captured t s = hFunc fn first captured t' s
  unfold hFunc
  rw [opds_congr (l := first) fun x hx => h x (by simp [Op.operands, hx]), opds_congr (l := captured) fun x hx => h x (by simp [Op.operands, hx])]
 | makeMap ty r =>
  show hMakeMap P ty r t s = hMakeMap P ty r t' s
  unfold hMakeMap
  rw [opdO_congr h]
 | slice ty x lo hi mx =>
  refine with1_congr (h x (by simp [Op.operands])) fun v => ?_
  rw [opdO_congr (o := lo) fun y hy => h y (by simp only [Op.operands, Array.mem_append]; exact .inl (.inl (.inr hy))), opdO_congr (o := hi) fun y hy => h y (by simp only [Op.operands, Array.mem_append]; exact .inl (.inr hy)),
   opdO_congr (o := mx) fun y hy => h y (by simp only [Op.operands, Array.mem_append]; exact .inr hy)]
 | call c =>
  obtain ⟨callee, args, tys⟩ := c
  have ha : opds t args = opds t' args := opds_congr fun x hx => h x (by simp [Op.operands, Call.operands, hx])
  show hCall P meths _ t s = hCall P meths _ t' s
  cases callee with
  | value f => refine with1_congr (h f (by simp [Op.operands, Call.operands])) fun v => ?_; rw [ha]
  | invoke r m => refine with1_congr (h r (by simp [Op.operands, Call.operands])) fun v => ?_; rw [ha]
  | builtin b => exact congrArg _ ha
 | defer c =>
  obtain ⟨callee, args, tys⟩ := c
  have ha : opds t args = opds t' args := opds_congr fun x hx => h x (by simp [Op.operands, Call.operands, hx])
  show hDefer P _ t s = hDefer P _ t' s
  cases callee with
  | value f =>
   refine with1_congr (h f (by simp [Op.operands, Call.operands])) fun v => ?_
   dsimp only
   rw [ha]
  | invoke r m => rfl
  | builtin b => rfl
 | alloc _ | waits _ | ready _ => rfl
 | _ =>
  first
  | rfl
  | exact with1_congr (h _ (by simp [Op.operands])) fun _ => rfl
  | exact with1_congr (h _ (by simp [Op.operands])) fun _ => with1_congr (h _ (by simp [Op.operands])) fun _ => rfl
  | exact with1_congr (h _ (by simp [Op.operands])) fun _ => with1_congr (h _ (by simp [Op.operands])) fun _ => with1_congr (h _ (by simp [Op.operands])) fun _ => rfl
end
end Go.Ev
namespace Go.Ev

theorem brec_some' {b : Bool} {x : RC} {o : Out} {t : T AV} {d : List DE} {s : St} (h : (Bool.rec .fail x b : RC) = .mk o t d s) : b = true ∧ x = .mk o t d s := by
 cases b
 · cases h
 · exact ⟨rfl, h⟩
noncomputable def kk : T AV → List DE → St → RC := fun t d s => forceS s fun s => .mk .norm t d s
theorem kk_eq {t : T AV} {d : List DE} {s : St} : kk t d s = .mk .norm t d s := forceS_eq _ _
noncomputable def putT (dst : Option Nat) (v : AV) (t : T AV) : T AV := match dst with | none => t | some i => t.set i v

theorem putV_loc {N : Nat} {dst : Option Nat} {v : AV} {t : T AV} {d0 d1 : List DE} {s s1 : St} {oo : Out} {t1 : T AV} (h : putV N dst v t d0 s kk = .mk oo t1 d1 s1) :
 d1 = d0 ∧ oo = .norm ∧ t1 = putT dst v t ∧ s1 = s ∧ ∀ t' d, putV N dst v t' d s kk = .mk .norm (putT dst v t') d s := by
 unfold putV at h ⊢
 cases dst with
 | none =>
  dsimp only at h ⊢
  rw [kk_eq] at h
  cases h
  exact ⟨rfl, rfl, rfl, rfl, fun t' d => kk_eq⟩
 | some i =>
  dsimp only at h ⊢
  cases hb : Nat.ble (Nat.succ i) N with
  | false => rw [hb] at h; cases h
  | true =>
   rw [hb] at h
   dsimp only at h
   rw [kk_eq] at h
   cases h
   exact ⟨rfl, rfl, rfl, rfl, fun t' d => kk_eq⟩

theorem tmpMask_mono {x : Operand} {m i : Nat} (h : m.testBit i = true) : (tmpMask x m).testBit i = true := by
 cases x <;> first | exact h | exact orB_old h
theorem readMask_fold {i : Nat} {m : Nat} : ∀ {l : List Operand}, m.testBit i = true → (List.rec (motive := fun _ => Nat) m (fun x _ m => tmpMask x m) l : Nat).testBit i = true
 | [], h => h
 | _ :: l, h => tmpMask_mono (readMask_fold (l := l) h)
theorem readMask_mem {i : Nat} {m : Nat} : ∀ {l : List Operand}, Operand.tmp i ∈ l → (List.rec (motive := fun _ => Nat) m (fun x _ m => tmpMask x m) l : Nat).testBit i = true
 | x :: l, h => by
  rcases List.mem_cons.1 h with h | h
  · subst h; exact orB_same _ _
  · exact tmpMask_mono (readMask_mem h)
theorem readMask_op {all : List Oper} {o : Oper} {i : Nat} (h : Operand.tmp i ∈ o.op.operands) : (readMask all o).testBit i = true := readMask_mem (by simpa using h)
theorem readMask_guard {all : List Oper} {o oj : Oper} {g : Nat × Bool} {d : Nat} (h : o.guard = some g) (h1 : lnth all g.1 = some oj) (h2 : oj.dst = some d) : (readMask all o).testBit d = true := by
 refine readMask_fold ?_
 rw [h]
 dsimp only
 rw [h1]
 dsimp only
 unfold dstMask
 rw [h2]
 exact orB_same _ _

section
variable {ex : Op → T AV → St → OR} {ih : EvF} {rd : Option Nat} {N : Nat} {all : List Oper}

theorem evOp_loc (hL : ExLoc ex) {t t' : T AV} {d : List DE} {s s1 : St} {o : Oper} {oo : Out} {t1 : T AV} (hR : ∀ x, (readMask all o).testBit x = true → t.get x = t'.get x) (h : evOp ex ih rd N t [] s o kk = .mk oo t1 [] s1) :
 ∃ t1', evOp ex ih rd N t' d s o kk = .mk oo t1' d s1 ∧ ((∃ v, oo = .panic v ∧ t1 = t ∧ t1' = t') ∨ (oo = .norm ∧ ∃ v, t1 = putT o.dst v t ∧ t1' = putT o.dst v t')) := by
 have hx : ex o.op t' s = ex o.op t s := (hL _ _ _ _ fun x hx => by
  cases x with
  | tmp i => exact hR i (readMask_op hx)
  | _ => rfl).symm
 have put : ∀ {v : AV} {s2 : St}, putV N o.dst v t [] s2 kk = .mk oo t1 [] s1 → ∃ t1', putV N o.dst v t' d s2 kk = .mk oo t1' d s1 ∧ ((∃ v, oo = .panic v ∧ t1 = t ∧ t1' = t') ∨ (oo = .norm ∧ ∃ v, t1 = putT o.dst v t ∧ t1' = putT o.dst v t')) := fun {v s2} h => by
  obtain ⟨_, h2, h3, h4, h5⟩ := putV_loc h
  subst h4
  exact ⟨_, by rw [h5, h2], .inr ⟨h2, v, h3, rfl⟩⟩
 unfold evOp at h ⊢
 rw [hx]
 cases hres : ex o.op t s with
 | val v s2 => rw [hres] at h; exact put h
 | other r2 =>
  rw [hres] at h
  cases r2 with
  | fail => cases h
  | recov s2 => cases h
  | skip s2 => exact put h
  | panic v s2 => cases h; exact ⟨t', rfl, .inl ⟨v, rfl, rfl, rfl⟩⟩
  | defer f args s2 =>
   cases rd with
   | some l => cases h
   | none => exact absurd (putV_loc h).1 (by simp)
  | call f args s2 =>
   have h : (RV.rec .fail (fun v s => putV N o.dst v t [] s kk) (fun v s => .mk (.panic v) t [] s) (ih.call f args s2) : RC) = .mk oo t1 [] s1 := h
   show ∃ t1', (RV.rec .fail (fun v s => putV N o.dst v t' d s kk) (fun v s => .mk (.panic v) t' d s) (ih.call f args s2) : RC) = .mk oo t1' d s1 ∧ _
   cases hcr : ih.call f args s2 with
   | fail => rw [hcr] at h; cases h
   | ret v s3 => rw [hcr] at h; exact put h
   | panic v s3 => rw [hcr] at h; cases h; exact ⟨t', rfl, .inl ⟨v, rfl, rfl, rfl⟩⟩
  | round l args s2 =>
   have h : (RV.rec .fail (fun v s => putV N o.dst v t [] s kk) (fun _ _ => .fail) (ih.round l args s2) : RC) = .mk oo t1 [] s1 := h
   show ∃ t1', (RV.rec .fail (fun v s => putV N o.dst v t' d s kk) (fun _ _ => .fail) (ih.round l args s2) : RC) = .mk oo t1' d s1 ∧ _
   cases hcr : ih.round l args s2 with
   | fail => rw [hcr] at h; cases h
   | ret v s3 => rw [hcr] at h; exact put h
   | panic v s3 => rw [hcr] at h; cases h

theorem wantedG_loc {t t' : T AV} {o : Oper} {g : Nat × Bool} (hg : o.guard = some g) (hR : ∀ x, (readMask all o).testBit x = true → t.get x = t'.get x) : wantedG all g t' = wantedG all g t := by
 unfold wantedG
 cases h1 : lnth all g.1 with
 | none => rfl
 | some oj =>
  dsimp only
  cases h2 : oj.dst with
  | none => rfl
  | some dd =>
   dsimp only
   rw [hR dd (readMask_guard hg h1 h2)]

theorem evOne_loc (hL : ExLoc ex) {t t' : T AV} {d : List DE} {s s1 : St} {o : Oper} {oo : Out} {t1 : T AV} (hR : ∀ x, (readMask all o).testBit x = true → t.get x = t'.get x) (h : evOne ex ih rd N all t [] s o kk = .mk oo t1 [] s1) :
 ∃ t1', evOne ex ih rd N all t' d s o kk = .mk oo t1' d s1 ∧ ((∃ v, oo = .panic v ∧ t1 = t ∧ t1' = t') ∨ (oo = .norm ∧ ∃ v, t1 = putT o.dst v t ∧ t1' = putT o.dst v t')) := by
 unfold evOne at h ⊢
 cases hg : o.guard with
 | none => rw [hg] at h; exact evOp_loc hL hR h
 | some g =>
  rw [hg] at h
  dsimp only at h ⊢
  unfold evGuard at h ⊢
  rw [wantedG_loc hg hR]
  cases hw : wantedG all g t with
  | none => rw [hw] at h; cases h
  | some b =>
   rw [hw] at h
   cases b with
   | true => exact evOp_loc hL hR h
   | false =>
    obtain ⟨_, h2, h3, h4, h5⟩ := putV_loc h
    subst h4
    exact ⟨_, by rw [h2]; exact h5 _ _, .inr ⟨h2, _, h3, rfl⟩⟩
end

/-! the run -/
section
variable (ex : Op → T AV → St → OR) (ih : EvF) (rd : Option Nat) (N : Nat) (all : List Oper) (t0 : T AV) (s0 : St)
noncomputable def oN (i : Nat) : Oper := (all[i]?).getD default
noncomputable def bl (n : Nat) : List Nat := Nat.rec [] (fun i l => lapp l [befOf l (oN all i)]) n
noncomputable def bf (i : Nat) : Nat := befOf (bl all i) (oN all i)
noncomputable def rs1 (t : T AV) (s : St) (o : Oper) : RC := evOne ex ih rd N all t [] ⟨s.mem, s.next, 0, 0⟩ o kk
noncomputable def nextC (c : T AV × St) (r : RC) : T AV × St := match r with
 | .mk _ t1 _ s1 => (t1, ⟨s1.mem, s1.next, Nat.lor c.2.X s1.X, Nat.lor c.2.W s1.W⟩)
 | .fail => c
noncomputable def cn (n : Nat) : T AV × St := Nat.rec (t0, s0) (fun i c => nextC c (rs1 ex ih rd N all c.1 c.2 (oN all i))) n
noncomputable def rs (i : Nat) : RC := rs1 ex ih rd N all (cn ex ih rd N all t0 s0 i).1 (cn ex ih rd N all t0 s0 i).2 (oN all i)
noncomputable def ft (i : Nat) : Foot := match rs ex ih rd N all t0 s0 i with
 | .mk _ _ _ s1 => ⟨s1.X, s1.W, readMask all (oN all i), dstMask (oN all i)⟩
 | .fail => ⟨0, 0, 0, 0⟩
noncomputable def fs (n : Nat) : List Foot := Nat.rec [] (fun i l => ft ex ih rd N all t0 s0 i :: l) n

structure Good (i : Nat) : Prop where
 run : ∃ oo t1 s1, rs ex ih rd N all t0 s0 i = .mk oo t1 [] s1
 apart : ∀ j, j < i → (bf all i).testBit j = false → apartF (ft ex ih rd N all t0 s0 i) (ft ex ih rd N all t0 s0 j) = true
 small : ∀ j, (bf all i).testBit j = true → j < i
end
section
variable {ex : Op → T AV → St → OR} {ih : EvF} {rd : Option Nat} {N : Nat} {all : List Oper} {t0 : T AV} {s0 : St}

theorem apartAll_ok {f : Foot} {b : Nat} : ∀ {i : Nat}, apartAll f b (fs ex ih rd N all t0 s0 i) i = true → ∀ j, j < i → b.testBit j = false → apartF f (ft ex ih rd N all t0 s0 j) = true
 | 0, _, j, hj, _ => absurd hj (Nat.not_lt_zero _)
 | i + 1, h, j, hj, hb => by
  have h : (Bool.rec (Bool.rec false (apartAll f b (fs ex ih rd N all t0 s0 i) i) (apartF f (ft ex ih rd N all t0 s0 i))) (apartAll f b (fs ex ih rd N all t0 s0 i) i) (Nat.testBit b i) : Bool) = true := h
  rcases Nat.lt_succ_iff_lt_or_eq.1 hj with hl | he
  · refine apartAll_ok (i := i) ?_ j hl hb
    cases h1 : Nat.testBit b i with
    | true => rw [h1] at h; exact h
    | false =>
     rw [h1] at h
     dsimp only at h
     cases h2 : apartF f (ft ex ih rd N all t0 s0 i) with
     | true => rw [h2] at h; exact h
     | false => rw [h2] at h; cases h
  · subst he
    rw [hb] at h
    dsimp only at h
    cases h2 : apartF f (ft ex ih rd N all t0 s0 j) with
    | true => rfl
    | false => rw [h2] at h; cases h
theorem allWait_ok {p : Nat} : ∀ {l : List Oper} {q : Nat}, all.drop q = l → allWait (bl all q) p l = true → ∀ k, q ≤ k → k < all.length → (bf all k).testBit p = true := by
 intro l
 induction l with
 | nil => intro q h _ k hk hl; have := congrArg List.length h; simp at this; omega
 | cons o l ihl =>
  intro q h hw k hk hl
  have ho : oN all q = o := by
   have : all[q]? = some o := by rw [← List.head?_drop, h]; rfl
   unfold oN; rw [this]; rfl
  have hw : (Bool.rec false (allWait (lapp (bl all q) [befOf (bl all q) o]) p l) (Nat.testBit (befOf (bl all q) o) p) : Bool) = true := hw
  have e1 : befOf (bl all q) o = bf all q := by unfold bf; rw [ho]
  have e2 : lapp (bl all q) [befOf (bl all q) o] = bl all (q + 1) := by rw [← ho]; rfl
  rw [e2, e1] at hw
  cases h1 : Nat.testBit (bf all q) p with
  | false => rw [h1] at hw; cases hw
  | true =>
   rw [h1] at hw
   rcases Nat.lt_or_eq_of_le hk with hlt | he
   · exact ihl (q := q + 1) (by rw [← List.drop_drop, h]; rfl) hw k hlt hl
   · rw [← he]; exact h1

theorem evDraw_run {d : List DE} {oo : Out} {t1 : T AV} {d1 : List DE} {s1 : St} : ∀ {l : List Oper} {i : Nat}, i ≤ all.length → all.drop i = l → (∀ j, j < i → Good ex ih rd N all t0 s0 j ∧ ∃ t s, rs ex ih rd N all t0 s0 j = .mk .norm t [] s) →
 evDraw ex ih rd N all l i (bl all i) (fs ex ih rd N all t0 s0 i) (cn ex ih rd N all t0 s0 i).1 d (cn ex ih rd N all t0 s0 i).2 = .mk oo t1 d1 s1 →
 ∃ L, L ≤ all.length ∧ (∀ j, j < L → Good ex ih rd N all t0 s0 j) ∧ d1 = d ∧ t1 = (cn ex ih rd N all t0 s0 L).1 ∧ s1 = (cn ex ih rd N all t0 s0 L).2 ∧
  ((oo = .norm ∧ L = all.length ∧ ∀ j, j < L → ∃ t s, rs ex ih rd N all t0 s0 j = .mk .norm t [] s) ∨
   (∃ p v, L = p + 1 ∧ (∀ j, j < p → ∃ t s, rs ex ih rd N all t0 s0 j = .mk .norm t [] s) ∧ (∃ t s, rs ex ih rd N all t0 s0 p = .mk (.panic v) t [] s) ∧ oo = .panic v ∧ (∀ j, j < p → (bf all p).testBit j = true) ∧
    ∀ k, p < k → k < all.length → (bf all k).testBit p = true)) := by
 intro l
 induction l with
 | nil =>
  intro i hi hl hg h
  cases h
  have : i = all.length := by have := congrArg List.length hl; simp at this; omega
  subst this
  exact ⟨_, Nat.le_refl _, fun j hj => (hg j hj).1, rfl, rfl, rfl, .inl ⟨rfl, rfl, fun j hj => (hg j hj).2⟩⟩
 | cons o l ihl =>
  intro i hi hl hg h
  have hlt : i < all.length := by have := congrArg List.length hl; simp at this; omega
  have hl' : all.drop (i + 1) = l := by rw [← List.drop_drop, hl]; rfl
  have ho : oN all i = o := by
   have : all[i]? = some o := by rw [← List.head?_drop, hl]; rfl
   unfold oN; rw [this]; rfl
  have h : drawK all l (evDraw ex ih rd N all l) i (bl all i) (fs ex ih rd N all t0 s0 i) d (cn ex ih rd N all t0 s0 i).2 o (rs ex ih rd N all t0 s0 i) = .mk oo t1 d1 s1 := by
   rw [show rs ex ih rd N all t0 s0 i = rs1 ex ih rd N all (cn ex ih rd N all t0 s0 i).1 (cn ex ih rd N all t0 s0 i).2 o by rw [← ho]; rfl]
   exact h
  have e1 : befOf (bl all i) o = bf all i := by unfold bf; rw [ho]
  have e2 : lapp (bl all i) [befOf (bl all i) o] = bl all (i + 1) := by rw [← ho]; rfl
  unfold drawK at h
  rw [e2, e1] at h
  split at h
  · rename_i t2 s2 hr
    have ef : ft ex ih rd N all t0 s0 i = ⟨s2.X, s2.W, readMask all o, dstMask o⟩ := by unfold ft; rw [hr, ho]
    have ec : cn ex ih rd N all t0 s0 (i + 1) = (t2, ⟨s2.mem, s2.next, Nat.lor (cn ex ih rd N all t0 s0 i).2.X s2.X, Nat.lor (cn ex ih rd N all t0 s0 i).2.W s2.W⟩) := by
     show nextC _ (rs ex ih rd N all t0 s0 i) = _
     rw [hr]; rfl
    have es : fs ex ih rd N all t0 s0 (i + 1) = ⟨s2.X, s2.W, readMask all o, dstMask o⟩ :: fs ex ih rd N all t0 s0 i := by rw [← ef]; rfl
    obtain ⟨hb, h⟩ := brec_some' h
    obtain ⟨hap, h⟩ := brec_some' h
    have hsm : bf all i < 2 ^ i := Nat.le_of_ble_eq_true hb
    refine ihl (i := i + 1) hlt hl' ?_ ?_
    · intro j hj
      rcases Nat.lt_succ_iff_lt_or_eq.1 hj with hjl | rfl
      · exact hg j hjl
      · exact ⟨⟨⟨_, _, _, hr⟩, fun k hk hkb => apartAll_ok (by rw [ef]; exact hap) k hk hkb, fun k hk => Nat.lt_of_not_le fun hge => by
         rw [Nat.testBit_lt_two_pow (Nat.lt_of_lt_of_le hsm (Nat.pow_le_pow_right (by decide) hge))] at hk; cases hk⟩, _, _, hr⟩
    · rw [ec, es]; exact h
  · rename_i v t2 s2 hr
    obtain ⟨hb, h⟩ := brec_some' h
    have hb := Bool.and_eq_true_iff.1 hb
    have heq : bf all i = 2 ^ i - 1 := Nat.eq_of_beq_eq_true hb.1
    have bits : ∀ j, (bf all i).testBit j = true ↔ j < i := fun j => by rw [heq, Nat.testBit_two_pow_sub_one]; simp
    have ec : cn ex ih rd N all t0 s0 (i + 1) = (t2, ⟨s2.mem, s2.next, Nat.lor (cn ex ih rd N all t0 s0 i).2.X s2.X, Nat.lor (cn ex ih rd N all t0 s0 i).2.W s2.W⟩) := by
     show nextC _ (rs ex ih rd N all t0 s0 i) = _
     rw [hr]; rfl
    cases h
    refine ⟨i + 1, hlt, ?_, rfl, by rw [ec], by rw [ec], .inr ⟨i, v, rfl, fun j hj => (hg j hj).2, ⟨_, _, hr⟩, rfl, fun j hj => (bits j).2 hj, fun k hk hkl => allWait_ok hl' hb.2 k hk hkl⟩⟩
    intro j hj
    rcases Nat.lt_succ_iff_lt_or_eq.1 hj with hjl | rfl
    · exact (hg j hjl).1
    · exact ⟨⟨_, _, _, hr⟩, fun k hk hkb => (by rw [(bits k).2 hk] at hkb; cases hkb), fun k hk => (bits k).1 hk⟩
  · cases h
end
end Go.Ev
namespace Go.Ev

theorem disj_ok {a b : Nat} (h : disj a b = true) (i : Nat) (h1 : a.testBit i = true) (h2 : b.testBit i = true) : False := land_zero (Nat.eq_of_beq_eq_true h) i h1 h2
theorem apartF_ok {a b : Foot} (h : apartF a b = true) : (∀ i, a.W.testBit i = true → b.X.testBit i = true → False) ∧ (∀ i, a.X.testBit i = true → b.W.testBit i = true → False) ∧
 (∀ i, a.R.testBit i = true → b.D.testBit i = true → False) ∧ (∀ i, a.D.testBit i = true → b.R.testBit i = true → False) ∧ (∀ i, a.D.testBit i = true → b.D.testBit i = true → False) := by
 unfold apartF at h
 obtain ⟨h1, h⟩ := Bool.and_eq_true_iff.1 h
 obtain ⟨h2, h⟩ := Bool.and_eq_true_iff.1 h
 obtain ⟨h3, h⟩ := Bool.and_eq_true_iff.1 h
 obtain ⟨h4, h5⟩ := Bool.and_eq_true_iff.1 h
 exact ⟨disj_ok h1, disj_ok h2, disj_ok h3, disj_ok h4, disj_ok h5⟩

theorem wf0 {m : T Blk} {n : Nat} (h : ∀ b B, m.get b = some B → b < n) : Wf ⟨m, n, 0, 0⟩ :=
 ⟨h, ⟨fun i hi => (by dsimp only at hi; rw [Nat.zero_testBit] at hi; cases hi), fun i hi => (by dsimp only at hi; rw [Nat.zero_testBit] at hi; cases hi)⟩⟩
/-- m parts the writers that are done from the others -/
def Sep (L : Nat) (wr : Nat → Prop) (D : Nat → Prop) (m : Nat) : Prop := m ≤ L ∧ ∀ k, k < L → wr k → (k < m ↔ D k)

section
variable {P : Program} {ex : Op → T AV → St → OR} {ih : EvF} {rd : Option Nat} {N : Nat} {all : List Oper} {t0 : T AV} {s0 : St}

structure StepF (ex : Op → T AV → St → OR) (ih : EvF) (rd : Option Nat) (N : Nat) (all : List Oper) (t0 : T AV) (s0 : St) (i : Nat) (oo : Out) (t1 : T AV) (s1 : St) : Prop where
 run : evOne ex ih rd N all (cn ex ih rd N all t0 s0 i).1 [] ⟨(cn ex ih rd N all t0 s0 i).2.mem, (cn ex ih rd N all t0 s0 i).2.next, 0, 0⟩ (oN all i) kk = .mk oo t1 [] s1
 ext : Ext ⟨(cn ex ih rd N all t0 s0 i).2.mem, (cn ex ih rd N all t0 s0 i).2.next, 0, 0⟩ s1
 mem : (cn ex ih rd N all t0 s0 (i + 1)).2.mem = s1.mem
 next : (cn ex ih rd N all t0 s0 (i + 1)).2.next = s1.next
 XX : (cn ex ih rd N all t0 s0 (i + 1)).2.X = Nat.lor (cn ex ih rd N all t0 s0 i).2.X s1.X
 WW : (cn ex ih rd N all t0 s0 (i + 1)).2.W = Nat.lor (cn ex ih rd N all t0 s0 i).2.W s1.W
 X : (ft ex ih rd N all t0 s0 i).X = s1.X
 W : (ft ex ih rd N all t0 s0 i).W = s1.W
 R : (ft ex ih rd N all t0 s0 i).R = readMask all (oN all i)
 D : (ft ex ih rd N all t0 s0 i).D = dstMask (oN all i)
 t : (cn ex ih rd N all t0 s0 (i + 1)).1 = t1

theorem Good.step (hE : ExOk P ex) (hI : IhOk P ih) {i : Nat} (h : (Good ex ih rd N all t0 s0) i) : ∃ oo t1 s1, StepF ex ih rd N all t0 s0 i oo t1 s1 := by
 obtain ⟨oo, t1, s1, hr⟩ := h.run
 have ec : (cn ex ih rd N all t0 s0) (i + 1) = (t1, ⟨s1.mem, s1.next, Nat.lor ((cn ex ih rd N all t0 s0) i).2.X s1.X, Nat.lor ((cn ex ih rd N all t0 s0) i).2.W s1.W⟩) := by
  show nextC _ ((rs ex ih rd N all t0 s0) i) = _
  rw [hr]; rfl
 have ef : (ft ex ih rd N all t0 s0) i = ⟨s1.X, s1.W, readMask all (oN all i), dstMask (oN all i)⟩ := by unfold ft; rw [hr]
 refine ⟨oo, t1, s1, ⟨hr, ?_, by rw [ec], by rw [ec], by rw [ec], by rw [ec], by rw [ef], by rw [ef], by rw [ef], by rw [ef], by rw [ec]⟩⟩
 exact (evOne_ok hE hI hr (fun t' d' s' hk => by rw [kk_eq] at hk; cases hk; exact Ext.refl _)).1

theorem Ext.lor {m m' : T Blk} {n n' X W X' W' : Nat} (h : Ext ⟨m, n, 0, 0⟩ ⟨m', n', X', W'⟩) : Ext ⟨m, n, X, W⟩ ⟨m', n', Nat.lor X X', Nat.lor W W'⟩ where
 next := h.next
 X i hi := by rw [testBit_lor, hi]; rfl
 W i hi := by rw [testBit_lor, hi]; rfl
 wf hw := by
  have h1 := h.wf (wf0 hw.1)
  refine ⟨h1.1, fun i hi => ?_, fun i hi => ?_⟩
  · dsimp only at hi ⊢
    rw [testBit_lor, Bool.or_eq_true] at hi
    exact hi.elim (fun hi => Nat.lt_of_lt_of_le (hw.2.1 i hi) h.next) (h1.2.1 i)
  · dsimp only at hi ⊢
    rw [testBit_lor, Bool.or_eq_true] at hi ⊢
    exact hi.imp (hw.2.2 i) (h1.2.2 i)
 newW i h1 h2 := by dsimp only; rw [testBit_lor, Bool.or_eq_true]; exact .inr (h.newW i h1 h2)
 mem b hb := h.mem b (by dsimp only at hb ⊢; rw [testBit_lor, Bool.or_eq_false_iff] at hb; exact hb.2)
 dead := h.dead
 live b h1 h2 h3 := by
  dsimp only at h3
  rw [testBit_lor, Bool.or_eq_true] at h3
  exact h3.elim id fun h3 => by
   have := h.live b h1 h2 h3
   dsimp only at this
   rw [Nat.zero_testBit] at this; cases this
theorem StepF.extC {i : Nat} {oo : Out} {t1 : T AV} {s1 : St} (h : StepF ex ih rd N all t0 s0 i oo t1 s1) : Ext ((cn ex ih rd N all t0 s0) i).2 ((cn ex ih rd N all t0 s0) (i + 1)).2 := by
 have h1 := h.ext
 obtain ⟨m', n', X', W'⟩ := s1
 have h2 := Ext.lor (X := ((cn ex ih rd N all t0 s0) i).2.X) (W := ((cn ex ih rd N all t0 s0) i).2.W) h1
 have e : ((cn ex ih rd N all t0 s0) (i + 1)).2 = ⟨m', n', Nat.lor ((cn ex ih rd N all t0 s0) i).2.X X', Nat.lor ((cn ex ih rd N all t0 s0) i).2.W W'⟩ := by
  have a1 := h.mem; have a2 := h.next; have a3 := h.XX; have a4 := h.WW
  dsimp only at a1 a2 a3 a4
  rw [← a1, ← a2, ← a3, ← a4]
 rw [e]; exact h2
theorem extL (hE : ExOk P ex) (hI : IhOk P ih) {L : Nat} (hg : ∀ j, j < L → (Good ex ih rd N all t0 s0) j) {i : Nat} : ∀ {m : Nat}, i ≤ m → m ≤ L → Ext ((cn ex ih rd N all t0 s0) i).2 ((cn ex ih rd N all t0 s0) m).2 := by
 intro m
 induction m with
 | zero => intro h _; rw [Nat.le_zero.1 h]; exact Ext.refl _
 | succ m ihm =>
  intro h hm
  rcases Nat.lt_or_eq_of_le h with hlt | he
  · obtain ⟨_, _, _, hs⟩ := (hg m hm).step hE hI
    exact (ihm (Nat.le_of_lt_succ hlt) (Nat.le_of_lt hm)).trans hs.extC
  · rw [he]; exact Ext.refl _
theorem wfL (hE : ExOk P ex) (hI : IhOk P ih) {L : Nat} (hg : ∀ j, j < L → (Good ex ih rd N all t0 s0) j) (hw : Wf s0) {i : Nat} (hi : i ≤ L) : Wf ((cn ex ih rd N all t0 s0) i).2 := (extL hE hI hg (Nat.zero_le i) hi).wf hw
theorem wfS (hE : ExOk P ex) (hI : IhOk P ih) {L : Nat} (hg : ∀ j, j < L → (Good ex ih rd N all t0 s0) j) (hw : Wf s0) {i : Nat} (hi : i ≤ L) : Wf ⟨((cn ex ih rd N all t0 s0) i).2.mem, ((cn ex ih rd N all t0 s0) i).2.next, 0, 0⟩ :=
 wf0 (wfL hE hI hg hw hi).1

/-- between two writers a block stays -/
theorem mem_same (hE : ExOk P ex) (hI : IhOk P ih) {L : Nat} (hg : ∀ j, j < L → (Good ex ih rd N all t0 s0) j) {b i : Nat} : ∀ {m : Nat}, i ≤ m → m ≤ L → (∀ k, i ≤ k → k < m → ((ft ex ih rd N all t0 s0) k).W.testBit b = false) → ((cn ex ih rd N all t0 s0) m).2.mem.get b = ((cn ex ih rd N all t0 s0) i).2.mem.get b := by
 intro m
 induction m with
 | zero => intro h _ _; rw [Nat.le_zero.1 h]
 | succ m ihm =>
  intro h hm hk
  rcases Nat.lt_or_eq_of_le h with hlt | he
  · obtain ⟨_, _, _, hs⟩ := (hg m hm).step hE hI
    rw [hs.mem, hs.ext.mem b (by rw [← hs.W]; exact hk m (Nat.le_of_lt_succ hlt) (Nat.lt_succ_self _))]
    exact ihm (Nat.le_of_lt_succ hlt) (Nat.le_of_lt hm) fun k h1 h2 => hk k h1 (Nat.lt_succ_of_lt h2)
  · rw [he]
theorem dstMask_iff {o : Oper} {x : Nat} : (dstMask o).testBit x = true ↔ o.dst = some x := by
 unfold dstMask
 cases h : o.dst with
 | none => simp
 | some d => dsimp only; rw [orB_iff]; simp [eq_comm]
theorem putT_get {dst : Option Nat} {v : AV} {t : T AV} {x : Nat} (h : dst ≠ some x) : (putT dst v t).get x = t.get x := by
 cases dst with
 | none => rfl
 | some d => unfold putT; dsimp only; rw [T.get_set, if_neg (fun e => h (by rw [e]))]
theorem tmp_same (hE : ExOk P ex) (hI : IhOk P ih) (hL : ExLoc ex) {L : Nat} (hg : ∀ j, j < L → (Good ex ih rd N all t0 s0) j) {x i : Nat} : ∀ {m : Nat}, i ≤ m → m ≤ L → (∀ k, i ≤ k → k < m → ((ft ex ih rd N all t0 s0) k).D.testBit x = false) → ((cn ex ih rd N all t0 s0) m).1.get x = ((cn ex ih rd N all t0 s0) i).1.get x := by
 intro m
 induction m with
 | zero => intro h _ _; rw [Nat.le_zero.1 h]
 | succ m ihm =>
  intro h hm hk
  rcases Nat.lt_or_eq_of_le h with hlt | he
  · obtain ⟨_, _, _, hs⟩ := (hg m hm).step hE hI
    obtain ⟨_, _, hc⟩ := evOne_loc (d := []) hL (fun _ _ => rfl) hs.run
    have hd : (oN all m).dst ≠ some x := fun hd => by
     have := hk m (Nat.le_of_lt_succ hlt) (Nat.lt_succ_self _)
     rw [hs.D, dstMask_iff.2 hd] at this; cases this
    rw [hs.t, ← ihm (Nat.le_of_lt_succ hlt) (Nat.le_of_lt hm) fun k h1 h2 => hk k h1 (Nat.lt_succ_of_lt h2)]
    rcases hc with ⟨_, _, h1, _⟩ | ⟨_, v, h1, _⟩
    · rw [h1]
    · rw [h1, putT_get hd]
  · rw [he]
theorem dead_L (hE : ExOk P ex) (hI : IhOk P ih) {L : Nat} (hg : ∀ j, j < L → (Good ex ih rd N all t0 s0) j) {i m b : Nat} (h : i ≤ m) (hm : m ≤ L) (hb : b < ((cn ex ih rd N all t0 s0) i).2.next) (hd : ((cn ex ih rd N all t0 s0) i).2.mem.get b = none) : ((cn ex ih rd N all t0 s0) m).2.mem.get b = none :=
 (extL hE hI hg h hm).dead b hb hd
theorem next_L (hE : ExOk P ex) (hI : IhOk P ih) {L : Nat} (hg : ∀ j, j < L → (Good ex ih rd N all t0 s0) j) {i m : Nat} (h : i ≤ m) (hm : m ≤ L) : ((cn ex ih rd N all t0 s0) i).2.next ≤ ((cn ex ih rd N all t0 s0) m).2.next := (extL hE hI hg h hm).next

/-- who is not apart waits -/
theorem waits_X {L : Nat} (hg : ∀ j, j < L → (Good ex ih rd N all t0 s0) j) {i k b : Nat} (hi : i < L) (hk : k < L) (hne : i ≠ k) (h1 : ((ft ex ih rd N all t0 s0) k).W.testBit b = true) (h2 : ((ft ex ih rd N all t0 s0) i).X.testBit b = true) :
 (k < i ∧ (bf all i).testBit k = true) ∨ (i < k ∧ (bf all k).testBit i = true) := by
 rcases Nat.lt_or_gt_of_ne hne with h | h
 · refine .inr ⟨h, ?_⟩
   cases hb : (bf all k).testBit i with
   | true => rfl
   | false => exact ((apartF_ok ((hg k hk).apart i h hb)).1 b h1 h2).elim
 · refine .inl ⟨h, ?_⟩
   cases hb : (bf all i).testBit k with
   | true => rfl
   | false => exact ((apartF_ok ((hg i hi).apart k h hb)).2.1 b h2 h1).elim
theorem waits_D {L : Nat} (hg : ∀ j, j < L → (Good ex ih rd N all t0 s0) j) {i k x : Nat} (hi : i < L) (hk : k < L) (hne : i ≠ k) (h1 : ((ft ex ih rd N all t0 s0) k).D.testBit x = true) (h2 : ((ft ex ih rd N all t0 s0) i).R.testBit x = true ∨ ((ft ex ih rd N all t0 s0) i).D.testBit x = true) :
 (k < i ∧ (bf all i).testBit k = true) ∨ (i < k ∧ (bf all k).testBit i = true) := by
 rcases Nat.lt_or_gt_of_ne hne with h | h
 · refine .inr ⟨h, ?_⟩
   cases hb : (bf all k).testBit i with
   | true => rfl
   | false =>
    have := apartF_ok ((hg k hk).apart i h hb)
    exact (h2.elim (this.2.2.2.1 x h1) (this.2.2.2.2 x h1)).elim
 · refine .inl ⟨h, ?_⟩
   cases hb : (bf all i).testBit k with
   | true => rfl
   | false =>
    have := apartF_ok ((hg i hi).apart k h hb)
    exact (h2.elim (fun h2 => this.2.2.1 x h2 h1) (fun h2 => this.2.2.2.2 x h2 h1)).elim

/-- who is done had nobody to wait for any more -/
def Down (all : List Oper) (L : Nat) (D : Nat → Prop) : Prop := ∀ i, i < L → D i → ∀ k, (bf all i).testBit k = true → D k
theorem sep_X {L : Nat} (hg : ∀ j, j < L → (Good ex ih rd N all t0 s0) j) {D : Nat → Prop} (hD : Down all L D) {j b : Nat} (hj : j < L) (hn : ¬ D j) (hb : ∀ k, (bf all j).testBit k = true → D k) (hX : ((ft ex ih rd N all t0 s0) j).X.testBit b = true) : Sep L (fun k => ((ft ex ih rd N all t0 s0) k).W.testBit b = true) D j := by
 refine ⟨Nat.le_of_lt hj, fun k hk hw => ⟨fun hlt => ?_, fun hd => ?_⟩⟩
 · rcases waits_X hg hj hk (by omega) hw hX with ⟨_, h⟩ | ⟨h, _⟩
   · exact hb k h
   · omega
 · refine Nat.lt_of_not_le fun hge => ?_
   rcases Nat.lt_or_eq_of_le hge with hlt | he
   · rcases waits_X hg hj hk (by omega) hw hX with ⟨h, _⟩ | ⟨_, h⟩
     · omega
     · exact hn (hD k hk hd j h)
   · subst he; exact hn hd
theorem sep_D {L : Nat} (hg : ∀ j, j < L → (Good ex ih rd N all t0 s0) j) {D : Nat → Prop} (hD : Down all L D) {j x : Nat} (hj : j < L) (hn : ¬ D j) (hb : ∀ k, (bf all j).testBit k = true → D k) (hX : ((ft ex ih rd N all t0 s0) j).R.testBit x = true ∨ ((ft ex ih rd N all t0 s0) j).D.testBit x = true) : Sep L (fun k => ((ft ex ih rd N all t0 s0) k).D.testBit x = true) D j := by
 refine ⟨Nat.le_of_lt hj, fun k hk hw => ⟨fun hlt => ?_, fun hd => ?_⟩⟩
 · rcases waits_D hg hj hk (by omega) hw hX with ⟨_, h⟩ | ⟨h, _⟩
   · exact hb k h
   · omega
 · refine Nat.lt_of_not_le fun hge => ?_
   rcases Nat.lt_or_eq_of_le hge with hlt | he
   · rcases waits_D hg hj hk (by omega) hw hX with ⟨h, _⟩ | ⟨_, h⟩
     · omega
     · exact hn (hD k hk hd j h)
   · subst he; exact hn hd
end
end Go.Ev
namespace Go.Ev
section
variable {P : Program} {ex : Op → T AV → St → OR} {ih : EvF} {rd : Option Nat} {N : Nat} {all : List Oper} {t0 : T AV} {s0 : St}

structure WInv (ex : Op → T AV → St → OR) (ih : EvF) (rd : Option Nat) (N : Nat) (all : List Oper) (t0 : T AV) (s0 : St) (M : Nat → Prop) (e0 : Env) (w0 : World) (L : Nat) (D : Nat → Prop) (e : Env) (w : World) : Prop where
 blk : ∀ b m B, M b → Sep L (fun k => (ft ex ih rd N all t0 s0 k).W.testBit b = true) D m → (cn ex ih rd N all t0 s0 m).2.mem.get b = some B → ∃ p, e.at_ b = some p ∧ BRel e w p B
 inj : ∀ b b' m m' B B' p p', M b → M b' → Sep L (fun k => (ft ex ih rd N all t0 s0 k).W.testBit b = true) D m → Sep L (fun k => (ft ex ih rd N all t0 s0 k).W.testBit b' = true) D m' →
  (cn ex ih rd N all t0 s0 m).2.mem.get b = some B → (cn ex ih rd N all t0 s0 m').2.mem.get b' = some B' → e.at_ b = some p → e.at_ b' = some p' → p.1 = p'.1 → b = b'
 new : ∀ b, M b → s0.next ≤ b → e.at_ b ≠ none → ∃ k, k < L ∧ D k ∧ (cn ex ih rd N all t0 s0 k).2.next ≤ b ∧ b < (cn ex ih rd N all t0 s0 (k + 1)).2.next
 one : ∀ k, (e.sym k).oneCell' = true
 glob : GOk e w
 le : e0.le e
 dom : ∀ b, e0.at_ b = none → e.at_ b ≠ none → s0.next ≤ b ∧ b < (cn ex ih rd N all t0 s0 L).2.next
 size : w0.heap.size ≤ w.heap.size
 keep : ∀ k, k < w0.heap.size → (∀ b p, (∃ j, j < L ∧ D j ∧ (ft ex ih rd N all t0 s0 j).W.testBit b = true) → e0.at_ b = some p → p.1 ≠ k) → w.heap[k]? = w0.heap[k]?
 fresh : ∀ b p, e0.at_ b = none → e.at_ b = some p → w0.heap.size ≤ p.1 ∨ ∃ b0 q, b0 < (cn ex ih rd N all t0 s0 L).2.next ∧ (∃ j, j < L ∧ D j ∧ (ft ex ih rd N all t0 s0 j).W.testBit b0 = true) ∧ e0.at_ b0 = some q ∧ q.1 = p.1 ∧
  (cn ex ih rd N all t0 s0 L).2.mem.get b0 = none
 same : Same w0 w

theorem next_le_of (hE : ExOk P ex) (hI : IhOk P ih) {L : Nat} (hg : ∀ j, j < L → (Good ex ih rd N all t0 s0) j) {k j b : Nat} (hk : k < L) (hj : j < L) (h1 : ((cn ex ih rd N all t0 s0) k).2.next ≤ b) (h2 : b < ((cn ex ih rd N all t0 s0) (k + 1)).2.next) (h3 : ((cn ex ih rd N all t0 s0) j).2.next ≤ b) (h4 : b < ((cn ex ih rd N all t0 s0) (j + 1)).2.next) : k = j := by
 rcases Nat.lt_trichotomy k j with h | h | h
 · have := next_L hE hI hg (i := k + 1) (m := j) h (Nat.le_of_lt hj); omega
 · exact h
 · have := next_L hE hI hg (i := j + 1) (m := k) h (Nat.le_of_lt hk); omega

theorem WInv.fresh_none (hE : ExOk P ex) (hI : IhOk P ih) {L : Nat} (hg : ∀ j, j < L → (Good ex ih rd N all t0 s0) j) (hw : Wf s0) {M : Nat → Prop} (hXM : ∀ i b, i < L → ((ft ex ih rd N all t0 s0) i).X.testBit b = true → M b) {e0 e : Env} {w0 w : World} {D : Nat → Prop} (h : WInv ex ih rd N all t0 s0 M e0 w0 L D e w)
 {j : Nat} (hj : j < L) (hn : ¬ D j) {b : Nat} (hX : ((ft ex ih rd N all t0 s0) j).X.testBit b = true) (hb : ((cn ex ih rd N all t0 s0) j).2.next ≤ b) : e.at_ b = none := by
 obtain ⟨oo, t1, s1, hs⟩ := (hg j hj).step hE hI
 cases hab : e.at_ b with
 | none => rfl
 | some p =>
  have hb0 : s0.next ≤ b := Nat.le_trans (next_L hE hI hg (i := 0) (Nat.zero_le j) (Nat.le_of_lt hj)) hb
  obtain ⟨k, hk, hDk, h1, h2⟩ := h.new b (hXM j b hj hX) hb0 (by rw [hab]; simp)
  have hlt : b < ((cn ex ih rd N all t0 s0) (j + 1)).2.next := by
   rw [hs.next]
   exact (hs.ext.wf (wfS hE hI hg hw (Nat.le_of_lt hj))).2.1 b (by rw [← hs.X]; exact hX)
  have := next_le_of hE hI hg hk hj h1 h2 hb hlt
  subst this
  exact absurd hDk hn

theorem WInv.pre (hE : ExOk P ex) (hI : IhOk P ih) {L : Nat} (hg : ∀ j, j < L → (Good ex ih rd N all t0 s0) j) (hw : Wf s0) {M : Nat → Prop} (hXM : ∀ i b, i < L → ((ft ex ih rd N all t0 s0) i).X.testBit b = true → M b) {e0 e : Env} {w0 w : World} {D : Nat → Prop} (h : WInv ex ih rd N all t0 s0 M e0 w0 L D e w)
 {j : Nat} (hj : j < L) (hn : ¬ D j) (hD : Down all L D) (hb : ∀ k, (bf all j).testBit k = true → D k) : Rel e ⟨((cn ex ih rd N all t0 s0) j).2.mem, ((cn ex ih rd N all t0 s0) j).2.next, 0, 0⟩ (fun b => ((ft ex ih rd N all t0 s0) j).X.testBit b = true) w where
 blk b B hX hB := h.blk b j B (hXM j b hj hX) (sep_X hg hD hj hn hb hX) hB
 inj b b' B B' p p' hX hX' hB hB' hp hp' he := h.inj b b' j j B B' p p' (hXM j b hj hX) (hXM j b' hj hX') (sep_X hg hD hj hn hb hX) (sep_X hg hD hj hn hb hX') hB hB' hp hp' he
 new b hX hb' := h.fresh_none hE hI hg hw hXM hj hn hX hb'
 one := h.one
 glob := h.glob

theorem sep_keep {L : Nat} {D : Nat → Prop} {j m : Nat} {wr : Nat → Prop} (h : Sep L wr (fun k => D k ∨ k = j) m) (hj : ¬ wr j) : Sep L wr D m :=
 ⟨h.1, fun k hk hw => (h.2 k hk hw).trans ⟨fun hd => hd.elim id fun e => absurd (e ▸ hw) hj, .inl⟩⟩
theorem sep_W (hE : ExOk P ex) (hI : IhOk P ih) {L : Nat} (hg : ∀ j, j < L → (Good ex ih rd N all t0 s0) j) (hw : Wf s0) {D : Nat → Prop} {j m b : Nat} (hj : j < L) (hn : ¬ D j) (hD : Down all L D) (hW : ((ft ex ih rd N all t0 s0) j).W.testBit b = true)
 (h : Sep L (fun k => ((ft ex ih rd N all t0 s0) k).W.testBit b = true) (fun k => D k ∨ k = j) m) : ((cn ex ih rd N all t0 s0) m).2.mem.get b = ((cn ex ih rd N all t0 s0) (j + 1)).2.mem.get b := by
 obtain ⟨oo, t1, s1, hs⟩ := (hg j hj).step hE hI
 have hX : ((ft ex ih rd N all t0 s0) j).X.testBit b = true := by
  rw [hs.X]; exact (hs.ext.wf (wfS hE hI hg hw (Nat.le_of_lt hj))).2.2 b (by rw [← hs.W]; exact hW)
 have hjm : j < m := (h.2 j hj hW).2 (.inr rfl)
 refine mem_same hE hI hg hjm h.1 fun k h1 h2 => ?_
 cases hk : ((ft ex ih rd N all t0 s0) k).W.testBit b with
 | false => rfl
 | true =>
  have hkL : k < L := Nat.lt_of_lt_of_le h2 h.1
  have hDk : D k := ((h.2 k hkL hk).1 h2).elim id fun e => by omega
  rcases waits_X hg hj hkL (by omega) hk hX with ⟨h3, _⟩ | ⟨_, h3⟩
  · omega
  · exact absurd (hD k hkL hDk j h3) hn

theorem WInv.step (hE : ExOk P ex) (hI : IhOk P ih) {L : Nat} (hg : ∀ j, j < L → (Good ex ih rd N all t0 s0) j) (hw : Wf s0) {M : Nat → Prop} (hXM : ∀ i b, i < L → ((ft ex ih rd N all t0 s0) i).X.testBit b = true → M b) {e0 e e' : Env} {w0 w w' : World} {D : Nat → Prop} (h : WInv ex ih rd N all t0 s0 M e0 w0 L D e w)
 {j : Nat} (hj : j < L) (hn : ¬ D j) (hD : Down all L D) (hb : ∀ k, (bf all j).testBit k = true → D k) {oo : Out} {t1 : T AV} {s1 : St} (hs : StepF ex ih rd N all t0 s0 j oo t1 s1)
 (hr : Rel e' s1 (fun b => ((ft ex ih rd N all t0 s0) j).X.testBit b = true) w') (ht : Trans e ⟨((cn ex ih rd N all t0 s0) j).2.mem, ((cn ex ih rd N all t0 s0) j).2.next, 0, 0⟩ w e' s1 w') : WInv ex ih rd N all t0 s0 M e0 w0 L (fun k => D k ∨ k = j) e' w' := by
 have hjL := Nat.le_of_lt hj
 have hwf1 := hs.ext.wf (wfS hE hI hg hw hjL)
 have WX : ∀ {b}, ((ft ex ih rd N all t0 s0) j).W.testBit b = true → ((ft ex ih rd N all t0 s0) j).X.testBit b = true := fun {b} hb => by rw [hs.X]; exact hwf1.2.2 b (by rw [← hs.W]; exact hb)
 have hn0 : s0.next ≤ ((cn ex ih rd N all t0 s0) j).2.next := next_L hE hI hg (i := 0) (Nat.zero_le j) hjL
 have hnL : ((cn ex ih rd N all t0 s0) (j + 1)).2.next ≤ ((cn ex ih rd N all t0 s0) L).2.next := next_L hE hI hg (i := j + 1) hj (Nat.le_refl _)
 -- what j writes lies elsewhere
 have apart : ∀ b m B p b2 p2, M b → Sep L (fun k => ((ft ex ih rd N all t0 s0) k).W.testBit b = true) D m → ((ft ex ih rd N all t0 s0) j).W.testBit b = false → ((cn ex ih rd N all t0 s0) m).2.mem.get b = some B → e.at_ b = some p → ((ft ex ih rd N all t0 s0) j).W.testBit b2 = true → e.at_ b2 = some p2 → p2.1 ≠ p.1 := by
  intro b m B p b2 p2 hM hsep hWb hB hp hW2 hp2 he
  have hX2 := WX hW2
  cases hB2 : ((cn ex ih rd N all t0 s0) j).2.mem.get b2 with
  | none =>
   rcases Nat.lt_or_ge b2 ((cn ex ih rd N all t0 s0) j).2.next with hlt | hge
   · have := hs.ext.live b2 hlt hB2 (by rw [← hs.W]; exact hW2)
     dsimp only at this
     rw [Nat.zero_testBit] at this; cases this
   · rw [h.fresh_none hE hI hg hw hXM hj hn hX2 hge] at hp2; cases hp2
  | some B2 =>
   have := h.inj b2 b j m B2 B p2 p (hXM j b2 hj hX2) hM (sep_X hg hD hj hn hb hX2) hsep hB2 hB hp2 hp he
   rw [this, hWb] at hW2; cases hW2
 have stay : ∀ b m B, M b → Sep L (fun k => ((ft ex ih rd N all t0 s0) k).W.testBit b = true) (fun k => D k ∨ k = j) m → ((ft ex ih rd N all t0 s0) j).W.testBit b = false → ((cn ex ih rd N all t0 s0) m).2.mem.get b = some B → ∃ p, e.at_ b = some p ∧ e'.at_ b = some p ∧ p.1 < w.heap.size ∧ BRel e' w' p B := by
  intro b m B hM hsep hWb hB
  have hsep' := sep_keep hsep (by rw [hWb]; simp)
  obtain ⟨p, hp, hBR⟩ := h.blk b m B hM hsep' hB
  exact ⟨p, hp, ht.le.1 b p hp, hBR.lt, hBR.keep ht.le (ht.keep p.1 hBR.lt fun b2 p2 hW2 hp2 => apart b m B p b2 p2 hM hsep' hWb hB hp (by rw [hs.W]; exact hW2) hp2)⟩
 have mine : ∀ b m B, M b → Sep L (fun k => ((ft ex ih rd N all t0 s0) k).W.testBit b = true) (fun k => D k ∨ k = j) m → ((ft ex ih rd N all t0 s0) j).W.testBit b = true → ((cn ex ih rd N all t0 s0) m).2.mem.get b = some B → s1.mem.get b = some B := by
  intro b m B hM hsep hWb hB
  rw [sep_W hE hI hg hw hj hn hD hWb hsep, hs.mem] at hB
  exact hB
 have cross : ∀ b m B p b' m' B' p', M b → M b' → Sep L (fun k => ((ft ex ih rd N all t0 s0) k).W.testBit b = true) (fun k => D k ∨ k = j) m → Sep L (fun k => ((ft ex ih rd N all t0 s0) k).W.testBit b' = true) (fun k => D k ∨ k = j) m' →
  ((cn ex ih rd N all t0 s0) m).2.mem.get b = some B → ((cn ex ih rd N all t0 s0) m').2.mem.get b' = some B' → ((ft ex ih rd N all t0 s0) j).W.testBit b = true → ((ft ex ih rd N all t0 s0) j).W.testBit b' = false → e'.at_ b = some p → e'.at_ b' = some p' → p.1 ≠ p'.1 := by
  intro b m B p b' m' B' p' hM hM' hsep hsep' hB hB' hW hW' hp hp' he
  obtain ⟨q, hq, hq', hlt, _⟩ := stay b' m' B' hM' hsep' hW' hB'
  rw [hp'] at hq'; cases hq'
  have hk := sep_keep hsep' (by rw [hW']; simp)
  cases h0 : e.at_ b with
  | some q =>
   have := ht.le.1 b q h0
   rw [hp] at this; cases this
   exact apart b' m' B' p' b p hM' hk hW' hB' hq hW h0 he
  | none =>
   rcases ht.fresh b p h0 hp with hl | ⟨b0, q, _, a2, a3, a4, _⟩
   · omega
   · exact apart b' m' B' p' b0 q hM' hk hW' hB' hq (by rw [hs.W]; exact a2) a3 (a4.trans he)
 refine ⟨fun b m B hM hsep hB => ?_, fun b b' m m' B B' p p' hM hM' hsep hsep' hB hB' hp hp' he => ?_, fun b hM hb0 hne => ?_, fun k => ?_, hr.glob, Env.le_trans h.le ht.le, fun b h0 hne => ?_, Nat.le_trans h.size ht.size, fun k hk hW => ?_, fun b p h0 hp => ?_, h.same.trans ht.same⟩
 · cases hWb : ((ft ex ih rd N all t0 s0) j).W.testBit b with
   | true => exact hr.blk b B (WX hWb) (mine b m B hM hsep hWb hB)
   | false =>
    obtain ⟨p, _, h2, _, h3⟩ := stay b m B hM hsep hWb hB
    exact ⟨p, h2, h3⟩
 · cases hWb : ((ft ex ih rd N all t0 s0) j).W.testBit b with
   | true =>
    cases hWb' : ((ft ex ih rd N all t0 s0) j).W.testBit b' with
    | true => exact hr.inj b b' B B' p p' (WX hWb) (WX hWb') (mine b m B hM hsep hWb hB) (mine b' m' B' hM' hsep' hWb' hB') hp hp' he
    | false => exact absurd he (cross b m B p b' m' B' p' hM hM' hsep hsep' hB hB' hWb hWb' hp hp')
   | false =>
    cases hWb' : ((ft ex ih rd N all t0 s0) j).W.testBit b' with
    | true => exact absurd he.symm (cross b' m' B' p' b m B p hM' hM hsep' hsep hB' hB hWb' hWb hp' hp)
    | false =>
     obtain ⟨q, hq, hq2, _⟩ := stay b m B hM hsep hWb hB
     obtain ⟨q', hq', hq2', _⟩ := stay b' m' B' hM' hsep' hWb' hB'
     rw [hp] at hq2; cases hq2
     rw [hp'] at hq2'; cases hq2'
     exact h.inj b b' m m' B B' p p' hM hM' (sep_keep hsep (by rw [hWb]; simp)) (sep_keep hsep' (by rw [hWb']; simp)) hB hB' hq hq' he
 · cases h1 : e.at_ b with
   | some q =>
    obtain ⟨k, a1, a2, a3⟩ := h.new b hM hb0 (by rw [h1]; simp)
    exact ⟨k, a1, .inl a2, a3⟩
   | none =>
    obtain ⟨a1, a2⟩ := ht.dom b h1 hne
    exact ⟨j, hj, .inr rfl, a1, by rw [hs.next]; exact a2⟩
 · rw [ht.le.2.1]; exact h.one k
 · cases h1 : e.at_ b with
   | some q => exact h.dom b h0 (by rw [h1]; simp)
   | none =>
    obtain ⟨a1, a2⟩ := ht.dom b h1 hne
    exact ⟨Nat.le_trans hn0 a1, Nat.lt_of_lt_of_le (by rw [hs.next]; exact a2) hnL⟩
 · have k1 := h.keep k hk fun b p ⟨i, a1, a2, a3⟩ hp => hW b p ⟨i, a1, .inl a2, a3⟩ hp
   refine (ht.keep k (Nat.lt_of_lt_of_le hk h.size) fun b p hb hp => ?_).trans k1
   have hb : ((ft ex ih rd N all t0 s0) j).W.testBit b = true := by rw [hs.W]; exact hb
   cases h0 : e0.at_ b with
   | some q => have := h.le.1 b q h0; rw [hp] at this; cases this; exact hW b p ⟨j, hj, .inr rfl, hb⟩ h0
   | none =>
    rcases h.fresh b p h0 hp with hl | ⟨b0, q, _, ⟨i, a1, a2, a3⟩, h2, h3, _⟩
    · omega
    · rw [← h3]; exact hW b0 q ⟨i, a1, .inl a2, a3⟩ h2
 · have old : ∀ b p, e0.at_ b = none → e.at_ b = some p → w0.heap.size ≤ p.1 ∨ ∃ b0 q, b0 < ((cn ex ih rd N all t0 s0) L).2.next ∧ (∃ i, i < L ∧ (D i ∨ i = j) ∧ ((ft ex ih rd N all t0 s0) i).W.testBit b0 = true) ∧ e0.at_ b0 = some q ∧ q.1 = p.1 ∧ ((cn ex ih rd N all t0 s0) L).2.mem.get b0 = none := fun b p h0 h1 => by
    rcases h.fresh b p h0 h1 with hl | ⟨b0, q, a1, ⟨i, c1, c2, c3⟩, a3⟩
    · exact .inl hl
    · exact .inr ⟨b0, q, a1, ⟨i, c1, .inl c2, c3⟩, a3⟩
   cases h1 : e.at_ b with
   | some q => have := ht.le.1 b q h1; rw [hp] at this; cases this; exact old b p h0 h1
   | none =>
    rcases ht.fresh b p h1 hp with hl | ⟨b0, q, a1, a2, a3, a4, a5⟩
    · exact .inl (Nat.le_trans h.size hl)
    · cases h2 : e0.at_ b0 with
      | some q' =>
       have := h.le.1 b0 q' h2; rw [a3] at this; cases this
       have a1' : b0 < ((cn ex ih rd N all t0 s0) (j + 1)).2.next := by rw [hs.next]; exact a1
       exact .inr ⟨b0, q, Nat.lt_of_lt_of_le a1' hnL, ⟨j, hj, .inr rfl, by rw [hs.W]; exact a2⟩, h2, a4, dead_L hE hI hg (i := j + 1) hj (Nat.le_refl _) a1' (by rw [hs.mem]; exact a5)⟩
      | none => rw [← a4]; exact old b0 q h2 a3

theorem masks_L (hE : ExOk P ex) (hI : IhOk P ih) {L : Nat} (hg : ∀ j, j < L → (Good ex ih rd N all t0 s0) j) {j b : Nat} (hj : j < L) : (((ft ex ih rd N all t0 s0) j).X.testBit b = true → ((cn ex ih rd N all t0 s0) L).2.X.testBit b = true) ∧ (((ft ex ih rd N all t0 s0) j).W.testBit b = true → ((cn ex ih rd N all t0 s0) L).2.W.testBit b = true) := by
 obtain ⟨oo, t1, s1, hs⟩ := (hg j hj).step hE hI
 have hx := extL hE hI hg (i := j + 1) hj (Nat.le_refl L)
 exact ⟨fun h => hx.X b (by rw [hs.XX, testBit_lor, ← hs.X, h, Bool.or_true]), fun h => hx.W b (by rw [hs.WW, testBit_lor, ← hs.W, h, Bool.or_true])⟩

theorem WInv.init {M : Nat → Prop} {e0 : Env} {w0 : World} {L : Nat} (hE : ExOk P ex) (hI : IhOk P ih) (hg : ∀ j, j < L → (Good ex ih rd N all t0 s0) j) (hr : Rel e0 s0 M w0) : WInv ex ih rd N all t0 s0 M e0 w0 L (fun _ => False) e0 w0 := by
 have back : ∀ {b m}, Sep L (fun k => ((ft ex ih rd N all t0 s0) k).W.testBit b = true) (fun _ => False) m → ((cn ex ih rd N all t0 s0) m).2.mem.get b = s0.mem.get b := fun {b m} h =>
  mem_same hE hI hg (i := 0) (Nat.zero_le m) h.1 fun k _ hk => by
   cases hW : ((ft ex ih rd N all t0 s0) k).W.testBit b with
   | false => rfl
   | true => exact ((h.2 k (Nat.lt_of_lt_of_le hk h.1) hW).1 hk).elim
 exact ⟨fun b m B hM hs hB => hr.blk b B hM (by rw [← back hs]; exact hB), fun b b' m m' B B' p p' hM hM' hs hs' hB hB' => hr.inj b b' B B' p p' hM hM' (by rw [← back hs]; exact hB) (by rw [← back hs']; exact hB'),
  fun b hM hb hne => absurd (hr.new b hM hb) hne, hr.one, hr.glob, e0.le_refl, fun b h h' => absurd h h', Nat.le_refl _, fun _ _ _ => rfl, fun b p h h' => (by rw [h] at h'; cases h'), .refl _⟩
theorem WInv.fin (hE : ExOk P ex) (hI : IhOk P ih) {L : Nat} (hg : ∀ j, j < L → (Good ex ih rd N all t0 s0) j) {M : Nat → Prop} {e0 e : Env} {w0 w : World} {D : Nat → Prop} (h : WInv ex ih rd N all t0 s0 M e0 w0 L D e w) (hD : ∀ k, k < L → D k) :
 Rel e ((cn ex ih rd N all t0 s0) L).2 M w ∧ Trans e0 s0 w0 e ((cn ex ih rd N all t0 s0) L).2 w := by
 have sepL : ∀ {wr : Nat → Prop}, Sep L wr D L := ⟨Nat.le_refl _, fun k hk _ => ⟨fun _ => hD k hk, fun _ => hk⟩⟩
 refine ⟨⟨fun b B hM hB => h.blk b L B hM sepL hB, fun b b' B B' p p' hM hM' hB hB' => h.inj b b' L L B B' p p' hM hM' sepL sepL hB hB', fun b hM hb => ?_, h.one, h.glob⟩, ⟨h.le, h.dom, h.size, fun k hk hW => ?_, fun b p h0 hp => ?_, h.same⟩⟩
 · cases h1 : e.at_ b with
   | none => rfl
   | some q =>
    have hb0 : s0.next ≤ b := Nat.le_trans (next_L hE hI hg (i := 0) (Nat.zero_le L) (Nat.le_refl _)) hb
    obtain ⟨k, a1, _, _, a3⟩ := h.new b hM hb0 (by rw [h1]; simp)
    have := next_L hE hI hg (i := k + 1) a1 (Nat.le_refl L)
    omega
 · exact h.keep k hk fun b p ⟨j, a1, _, a3⟩ hp => hW b p ((masks_L hE hI hg a1).2 a3) hp
 · rcases h.fresh b p h0 hp with hl | ⟨b0, q, a1, ⟨i, c1, _, c3⟩, a3⟩
   · exact .inl hl
   · exact .inr ⟨b0, q, a1, (masks_L hE hI hg c1).2 c3, a3⟩
end
end Go.Ev
namespace Go.Ev

theorem bindsA_eq (e : Edge) : bindsA e = Region.binds .any e := by
 unfold bindsA Region.binds
 cases e.ground <;> rfl
theorem befOf_fold {l : List Nat} {j : Nat} : ∀ {es : List Edge}, (List.rec (motive := fun _ => Nat) 0 (fun e _ m => Bool.rec m (Option.rec (orB m e.on) (fun b => Nat.lor (orB m e.on) b) (lnth l e.on)) (bindsA e)) es : Nat).testBit j = true ↔
 ∃ e, e ∈ es ∧ bindsA e = true ∧ (j = e.on ∨ ∃ b, lnth l e.on = some b ∧ b.testBit j = true)
 | [] => by simp
 | e :: es => by
  have ih := befOf_fold (l := l) (j := j) (es := es)
  dsimp only
  cases hb : bindsA e with
  | false =>
   dsimp only
   rw [ih]
   constructor
   · rintro ⟨e', h1, h2, h3⟩; exact ⟨e', List.mem_cons_of_mem _ h1, h2, h3⟩
   · rintro ⟨e', h1, h2, h3⟩
     rcases List.mem_cons.1 h1 with rfl | h1
     · rw [hb] at h2; cases h2
     · exact ⟨e', h1, h2, h3⟩
  | true =>
   have key : ∀ m : Nat, (Option.rec (orB m e.on) (fun b => Nat.lor (orB m e.on) b) (lnth l e.on) : Nat).testBit j = true ↔ m.testBit j = true ∨ j = e.on ∨ ∃ b, lnth l e.on = some b ∧ b.testBit j = true := fun m => by
    cases hn : lnth l e.on with
    | none => dsimp only; rw [orB_iff]; simp
    | some b => dsimp only; rw [testBit_lor, Bool.or_eq_true, orB_iff]; simp [or_assoc]
   dsimp only
   rw [key, ih]
   constructor
   · rintro (⟨e', h1, h2, h3⟩ | h3)
     · exact ⟨e', List.mem_cons_of_mem _ h1, h2, h3⟩
     · exact ⟨e, List.mem_cons_self, hb, h3⟩
   · rintro ⟨e', h1, h2, h3⟩
     rcases List.mem_cons.1 h1 with rfl | h1
     · exact .inr h3
     · exact .inl ⟨e', h1, h2, h3⟩
theorem bl_get (all : List Oper) : ∀ n k, (bl all n)[k]? = if k < n then some (bf all k) else none
 | 0, k => by show ([] : List Nat)[k]? = _; simp
 | n + 1, k => by
  have h : bl all (n + 1) = bl all n ++ [bf all n] := lapp_eq _ _
  have hl : (bl all n).length = n := by
   have ih := bl_get all n
   rcases Nat.lt_trichotomy (bl all n).length n with h | h | h
   · have := ih (bl all n).length; rw [if_pos h] at this; simp at this
   · exact h
   · have := ih n; rw [if_neg (Nat.lt_irrefl _)] at this; simp at this; omega
  rw [h, List.getElem?_append, hl]
  split
  · rw [bl_get all n k]; rename_i hk; simp [hk, Nat.lt_succ_of_lt hk]
  · rename_i hk
    rcases Nat.lt_or_eq_of_le (Nat.le_of_not_lt hk) with h1 | h1
    · rw [if_neg (by omega)]; simp; omega
    · subst h1; simp
theorem bf_spec (all : List Oper) (i j : Nat) : (bf all i).testBit j = true ↔ ∃ e, e ∈ (oN all i).after ∧ Region.binds .any e = true ∧ (j = e.on ∨ (e.on < i ∧ (bf all e.on).testBit j = true)) := by
 unfold bf
 rw [show befOf (bl all i) (oN all i) = _ from rfl]
 refine (befOf_fold (es := (oN all i).after.toList)).trans ?_
 constructor
 · rintro ⟨e, h1, h2, h3⟩
   refine ⟨e, by simpa using h1, by rw [← bindsA_eq]; exact h2, h3.imp id ?_⟩
   rintro ⟨b, h4, h5⟩
   rw [lnth_eq, bl_get] at h4
   split at h4
   · rename_i hl; cases h4; exact ⟨hl, h5⟩
   · cases h4
 · rintro ⟨e, h1, h2, h3⟩
   refine ⟨e, by simpa using h1, by rw [bindsA_eq]; exact h2, h3.imp id ?_⟩
   rintro ⟨h4, h5⟩
   exact ⟨_, by rw [lnth_eq, bl_get, if_pos h4]; rfl, h5⟩

/-- how many are not listed -/
def un (f : Nat → Bool) : Nat → Nat
 | 0 => 0
 | n + 1 => un f n + if f n then 0 else 1
theorem un_zero {f : Nat → Bool} : ∀ {n : Nat}, un f n = 0 → ∀ k, k < n → f k = true
 | 0, _, k, hk => absurd hk (Nat.not_lt_zero _)
 | n + 1, h, k, hk => by
  unfold un at h
  rcases Nat.lt_succ_iff_lt_or_eq.1 hk with h1 | rfl
  · exact un_zero (n := n) (by omega) k h1
  · cases hf : f k with
    | true => rfl
    | false => rw [hf] at h; simp at h
theorem un_le (f : Nat → Bool) : ∀ n, un f n ≤ n
 | 0 => Nat.le_refl _
 | n + 1 => by unfold un; have := un_le f n; split <;> omega
theorem un_same {f g : Nat → Bool} : ∀ {n : Nat}, (∀ k, k < n → f k = g k) → un f n = un g n
 | 0, _ => rfl
 | n + 1, h => by unfold un; rw [un_same (n := n) fun k hk => h k (Nat.lt_succ_of_lt hk), h n (Nat.lt_succ_self _)]
theorem un_set {f g : Nat → Bool} {i : Nat} (hf : f i = false) (hg : g i = true) (ho : ∀ k, k ≠ i → g k = f k) : ∀ {n : Nat}, i < n → un g n + 1 = un f n
 | 0, hi => absurd hi (Nat.not_lt_zero _)
 | n + 1, hi => by
  unfold un
  rcases Nat.lt_succ_iff_lt_or_eq.1 hi with h1 | rfl
  · have := un_set hf hg ho (n := n) h1
    rw [ho n (by omega)]; omega
  · rw [hf, hg, un_same (f := g) (g := f) fun k hk => ho k (by omega)]; simp

theorem FRel.same {e : Env} {N : Nat} {t t' : T AV} {tmps : Array Value} (h : FRel e N t tmps) (he : ∀ x, t.get x = t'.get x) : FRel e N t' tmps := ⟨h.1, fun i v hi => h.2 i v ((he i).trans hi)⟩

section
variable {P : Program} {ex : Op → T AV → St → OR} {ih : EvF} {rd : Option Nat} {N : Nat} {all : List Oper} {t0 : T AV} {s0 : St}

/-- who is listed -/
def Don (listed : Array Bool) (k : Nat) : Prop := listed.getD k false = true
theorem don_set {listed : Array Bool} {i : Nat} (hi : i < listed.size) : Don (listed.setIfInBounds i true) = fun k => Don listed k ∨ k = i := by
 funext k
 unfold Don
 refine propext ?_
 rw [Array.getD_eq_getD_getElem?, Array.getD_eq_getD_getElem?, Array.getElem?_setIfInBounds]
 by_cases h : i = k
 · subst h; simp [hi]
 · rw [if_neg h]; simp [Ne.symm h]

theorem sep_T (hE : ExOk P ex) (hI : IhOk P ih) (hL : ExLoc ex) {L : Nat} (hg : ∀ j, j < L → (Good ex ih rd N all t0 s0) j) {D : Nat → Prop} {j m x : Nat} (hj : j < L) (hn : ¬ D j) (hD : Down all L D) (hW : ((ft ex ih rd N all t0 s0) j).D.testBit x = true)
 (h : Sep L (fun k => ((ft ex ih rd N all t0 s0) k).D.testBit x = true) (fun k => D k ∨ k = j) m) : ((cn ex ih rd N all t0 s0) m).1.get x = ((cn ex ih rd N all t0 s0) (j + 1)).1.get x := by
 have hjm : j < m := (h.2 j hj hW).2 (.inr rfl)
 refine tmp_same hE hI hL hg hjm h.1 fun k h1 h2 => ?_
 cases hk : ((ft ex ih rd N all t0 s0) k).D.testBit x with
 | false => rfl
 | true =>
  have hkL : k < L := Nat.lt_of_lt_of_le h2 h.1
  have hDk : D k := ((h.2 k hkL hk).1 h2).elim id fun e => by omega
  rcases waits_D hg hj hkL (by omega) hk (.inr hW) with ⟨h3, _⟩ | ⟨_, h3⟩
  · omega
  · exact absurd (hD k hkL hDk j h3) hn

/-- how the run ends -/
def Ends (ex : Op → T AV → St → OR) (ih : EvF) (rd : Option Nat) (N : Nat) (all : List Oper) (t0 : T AV) (s0 : St) (oo : Out) (L : Nat) : Prop :=
 (oo = .norm ∧ L = all.length ∧ ∀ j, j < L → ∃ t s, rs ex ih rd N all t0 s0 j = .mk .norm t [] s) ∨
 (∃ p v, L = p + 1 ∧ (∀ j, j < p → ∃ t s, rs ex ih rd N all t0 s0 j = .mk .norm t [] s) ∧ (∃ t s, rs ex ih rd N all t0 s0 p = .mk (.panic v) t [] s) ∧ oo = .panic v ∧ (∀ j, j < p → (bf all p).testBit j = true) ∧
  ∀ k, p < k → k < all.length → (bf all k).testBit p = true)

theorem listing (hE : ExOk P ex) (hI : IhOk P ih) (hL : ExLoc ex) {L : Nat} (hLn : L ≤ all.length) (hg : ∀ j, j < L → (Good ex ih rd N all t0 s0) j) (hw : Wf s0) {M : Nat → Prop} (hM : ∀ b, ((cn ex ih rd N all t0 s0) L).2.X.testBit b = true → M b) {oo : Out} (hend : Ends ex ih rd N all t0 s0 oo L)
 {ops : Array Oper} (hops : ops.toList = all) {e0 : Env} {w0 : World} {d : List DE} {r : Option Nat} : ∀ (fuel : Nat) (listed : Array Bool) (a : Act) (w : World) (e : Env) (t' : T AV), listed.size = all.length → un (fun k => listed.getD k false) all.length ≤ fuel →
  Down all all.length (Don listed) → (∀ k, k < all.length → Don listed k → ∃ t s, (rs ex ih rd N all t0 s0) k = .mk .norm t [] s) → WInv ex ih rd N all t0 s0 M e0 w0 L (Don listed) e w → FRel e N t' a.tmps → (∀ x m, Sep L (fun k => ((ft ex ih rd N all t0 s0) k).D.testBit x = true) (Don listed) m → t'.get x = ((cn ex ih rd N all t0 s0) m).1.get x) →
  DRel P e d a.defers → RdRel e rd r → wpAnyIn (fence r) 0 P .any ops (PostQ P M N e0 s0 w0 oo ((cn ex ih rd N all t0 s0) L).1 d ((cn ex ih rd N all t0 s0) L).2) fuel listed a w := by
 have hXM : ∀ i b, i < L → ((ft ex ih rd N all t0 s0) i).X.testBit b = true → M b := fun i b hi hX => hM b ((masks_L hE hI hg hi).1 hX)
 have hsz : ops.size = all.length := by rw [← hops]; simp
 have hoN : ∀ {i : Nat} {o : Oper}, ops[i]? = some o → oN all i = o := fun {i o} ho => by unfold oN; rw [← hops]; simp [ho]
 -- when none is ready all are done
 have done : ∀ listed : Array Bool, listed.size = all.length → Region.ready .any ops listed = [] → ∀ k, k < L → Don listed k := by
  intro listed hls hr k
  induction k using Nat.strongRecOn with
  | _ k ihk =>
   intro hk
   cases hd : listed.getD k false with
   | true => exact hd
   | false =>
    have hkn : k < ops.size := by omega
    have : k ∈ Region.ready .any ops listed := mem_ready.2 ⟨by rw [Array.getD_eq_getD_getElem?] at hd ⊢; simp [show k < listed.size by omega] at hd ⊢; exact hd, ops[k], by simp [hkn], fun ed hed hb => by
     have ho : oN all k = ops[k] := hoN (by simp [hkn])
     have hlt : ed.on < k := (hg k hk).small _ ((bf_spec all k _).2 ⟨ed, by rw [ho]; exact hed, hb, .inl rfl⟩)
     exact ihk ed.on hlt (Nat.lt_trans hlt hk)⟩
    rw [hr] at this; cases this
 have finish : ∀ (listed : Array Bool) (a : Act) (w : World) (e : Env) (t' : T AV), (∀ k, k < L → Don listed k) → (∀ k, k < all.length → Don listed k → ∃ t s, (rs ex ih rd N all t0 s0) k = .mk .norm t [] s) → WInv ex ih rd N all t0 s0 M e0 w0 L (Don listed) e w → FRel e N t' a.tmps →
  (∀ x m, Sep L (fun k => ((ft ex ih rd N all t0 s0) k).D.testBit x = true) (Don listed) m → t'.get x = ((cn ex ih rd N all t0 s0) m).1.get x) → DRel P e d a.defers → PostQ P M N e0 s0 w0 oo ((cn ex ih rd N all t0 s0) L).1 d ((cn ex ih rd N all t0 s0) L).2 .normal a w := by
  intro listed a w e t' hall hsafe hinv hf ht hd
  rcases hend with ⟨rfl, _, _⟩ | ⟨p, v, rfl, _, ⟨t1, s1, hp⟩, _⟩
  · obtain ⟨h1, h2⟩ := hinv.fin hE hI hg hall
    exact ⟨e, rfl, hf.same fun x => ht x L ⟨Nat.le_refl _, fun k hk _ => ⟨fun _ => hall k hk, fun _ => hk⟩⟩, hd, h1, h2⟩
  · obtain ⟨t, s, h⟩ := hsafe p hLn (hall p (Nat.lt_succ_self _))
    rw [hp] at h; cases h
 intro fuel
 induction fuel with
 | zero =>
  intro listed a w e t' hls hun hdown hsafe hinv hf ht hd hrd
  have hall := un_zero (Nat.le_zero.1 hun)
  refine ⟨?_, finish listed a w e t' (fun k hk => hall k (by omega)) hsafe hinv hf ht hd⟩
  refine List.eq_nil_iff_forall_not_mem.2 fun i hi => ?_
  obtain ⟨h0, o, ho, _⟩ := mem_ready.1 hi
  have hlt := (Array.getElem?_eq_some_iff.1 ho).1
  have := hall i (by omega)
  rw [Array.getD_eq_getD_getElem?] at this h0
  simp [show i < listed.size by omega] at this h0
  rw [this] at h0; cases h0
 | succ fuel ihf =>
  intro listed a w e t' hls hun hdown hsafe hinv hf ht hd hrd
  refine ⟨fun hr => finish listed a w e t' (done listed hls hr) hsafe hinv hf ht hd, fun i hi => ?_⟩
  obtain ⟨h0, o, ho, hedges⟩ := mem_ready.1 hi
  have hin : i < all.length := by have := (Array.getElem?_eq_some_iff.1 ho).1; omega
  have hnd : listed.getD i false = false := by
   rw [Array.getD_eq_getD_getElem?] at h0 ⊢
   simp [show i < listed.size by omega] at h0 ⊢; exact h0
  have hn : ¬ Don listed i := by unfold Don; rw [hnd]; simp
  have hoi := hoN ho
  have hbf : ∀ k, (bf all i).testBit k = true → Don listed k := fun k hk => by
   obtain ⟨ed, h1, h2, h3⟩ := (bf_spec all i k).1 hk
   rw [hoi] at h1
   have hon : Don listed ed.on := hedges ed h1 h2
   rcases h3 with rfl | ⟨h4, h5⟩
   · exact hon
   · exact hdown ed.on (by omega) hon k h5
  have hiL : i < L := by
   rcases hend with ⟨_, hLe, _⟩ | ⟨p, v, hLe, _, ⟨t1, s1, hp⟩, _, _, hlate⟩
   · omega
   · refine Nat.lt_of_not_le fun hge => ?_
     obtain ⟨t, s, h⟩ := hsafe p (by omega) (hbf p (hlate i (by omega) hin))
     rw [hp] at h; cases h
  have hdL : Down all L (Don listed) := fun k hk => hdown k (by omega)
  obtain ⟨oi, t1, s1, hs⟩ := (hg i hiL).step hE hI
  have hRS : (rs ex ih rd N all t0 s0) i = .mk oi t1 [] s1 := hs.run
  obtain ⟨t1', hloc, hcase⟩ := evOne_loc (t' := t') (d := d) hL (fun x hx => (ht x i (sep_D hg hdL hiL hn hbf (.inl (by rw [hs.R]; exact hx)))).symm) hs.run
  rw [hoi] at hloc hcase
  have hk : ∀ t' d' s', kk t' d' s' = .mk oi t1' d s1 → Ext s' s1 := fun _ _ _ hk => by rw [kk_eq] at hk; cases hk; exact Ext.refl _
  refine (evOne_ok hE hI hloc hk).2 (fun b => ((ft ex ih rd N all t0 s0) i).X.testBit b = true) r e w a ops i _ _ hops ho (wfS hE hI hg hw (Nat.le_of_lt hiL)) (hinv.pre hE hI hg hw hXM hiL hn hdL hbf) (fun b hb => by rw [hs.X]; exact hb) hf hd hrd ?_ ?_
  · intro e' a' w' t2 d2 s2 hk2 _ _ hr2 hf2 hd2 ht2
    rw [kk_eq] at hk2
    cases hk2
    have hset := don_set (listed := listed) (i := i) (by omega)
    have hinv' := hinv.step hE hI hg hw hXM hiL hn hdL hbf hs hr2 ht2
    refine ihf _ a' w' e' t1' (by simp [hls]) ?_ ?_ ?_ (by rw [hset]; exact hinv') hf2 ?_ hd2 (hrd.mono ht2.le)
    · have hg1 : (listed.setIfInBounds i true).getD i false = true := by
       have : Don (listed.setIfInBounds i true) i := by rw [hset]; exact .inr rfl
       exact this
      have := un_set (f := fun k => listed.getD k false) (g := fun k => (listed.setIfInBounds i true).getD k false) (i := i) hnd hg1
       (fun k hki => by rw [Array.getD_eq_getD_getElem?, Array.getD_eq_getD_getElem?, Array.getElem?_setIfInBounds_ne (fun h => hki h.symm)]) (n := all.length) hin
      omega
    · intro k hkn hkd j hjb
      rw [hset] at hkd ⊢
      rcases hkd with hkd | rfl
      · exact .inl (hdown k hkn hkd j hjb)
      · exact .inl (hbf j hjb)
    · intro k hkn hkd
      rw [hset] at hkd
      rcases hkd with hkd | rfl
      · exact hsafe k hkn hkd
      · exact ⟨_, _, hRS⟩
    · intro x m hsep
      rw [hset] at hsep
      rcases hcase with ⟨_, hh, _⟩ | ⟨_, v, h1, h2⟩
      · cases hh
      · cases hD : ((ft ex ih rd N all t0 s0) i).D.testBit x with
        | true =>
         have hdst : o.dst = some x := by rw [hs.D, hoi] at hD; exact dstMask_iff.1 hD
         rw [sep_T hE hI hL hg hiL hn hdL hD hsep, hs.t, h1, h2, hdst]
         unfold putT
         simp [T.get_set]
        | false =>
         have hdst : o.dst ≠ some x := fun h => by rw [hs.D, hoi, dstMask_iff.2 h] at hD; cases hD
         rw [h2, putT_get hdst]
         exact ht x m (sep_keep hsep (by rw [hD]; simp))
  · intro e' w' v y hoo ht1 _ hv hr2 ht2
    subst hoo
    rcases hend with ⟨_, _, hnorm⟩ | ⟨p, v', hLe, hnorm, ⟨t3, s3, hp⟩, hoo, hwait, _⟩
    · obtain ⟨t, s, h⟩ := hnorm i hiL
      rw [hRS] at h; cases h
    · have hip : i = p := by
       refine Nat.le_antisymm (by omega) (Nat.le_of_not_lt fun hlt => ?_)
       obtain ⟨t, s, h⟩ := hnorm i hlt
       rw [hRS] at h; cases h
      subst hip
      rw [hRS] at hp
      cases hp
      have hinv' := hinv.step hE hI hg hw hXM hiL hn hdL hbf hs hr2 ht2
      obtain ⟨g1, g2⟩ := hinv'.fin hE hI hg (fun k hk => by
       rcases Nat.lt_or_eq_of_le (Nat.le_of_lt_succ (hLe ▸ hk)) with h | h
       · exact .inl (hbf k (hwait k h))
       · exact .inr h)
      subst hoo
      refine ⟨e', ⟨y, rfl, hv⟩, ?_, hd.mono ht2.le, g1, g2⟩
      refine FRel.same (hf.mono ht2.le) fun x => ?_
      have e1 : ((cn ex ih rd N all t0 s0) L).1 = ((cn ex ih rd N all t0 s0) i).1 := by
       rw [hLe, hs.t]
       rcases hcase with ⟨_, _, h1, _⟩ | ⟨hh, _⟩
       · exact h1
       · cases hh
      rw [e1]
      refine ht x i ⟨Nat.le_of_lt hiL, fun k hk _ => ⟨fun h => hbf k (hwait k h), fun h => ?_⟩⟩
      rcases Nat.lt_or_eq_of_le (Nat.le_of_lt_succ (hLe ▸ hk)) with h1 | h1
      · exact h1
      · subst h1; exact absurd h hn

theorem draw_ok (hE : ExOk P ex) (hI : IhOk P ih) (hL : ExLoc ex) (hmix : P.follows .mixedOrders = true) {id : Nat} {ops : Array Oper} {t : T AV} {d : List DE} {s : St} {oo : Out} {t1 : T AV} {d1 : List DE} {s1 : St}
 (h : evDraw ex ih rd N ops.toList ops.toList 0 [] [] t d s = .mk oo t1 d1 s1) :
 Ext s s1 ∧ ∀ (M : Nat → Prop) e w a r, Wf s → Rel e s M w → (∀ i, s1.X.testBit i = true → M i) → FRel e N t a.tmps → DRel P e d a.defers → RdRel e rd r →
  (Code.region id ops true).wpIn (fence r) 0 P (PostQ P M N e s w oo t1 d1 s1) a w := by
 obtain ⟨L, hLn, hg, hd1, ht1, hs1, hend⟩ := evDraw_run (t0 := t) (s0 := s) (all := ops.toList) (i := 0) (Nat.zero_le _) rfl (fun j hj => absurd hj (Nat.not_lt_zero _)) h
 subst hd1; subst ht1; subst hs1
 refine ⟨extL hE hI hg (Nat.zero_le L) (Nat.le_refl _), fun M e w a r hwf hr hM hf hd hrd => wpIn_region_any hmix ?_⟩
 have hr' : Rel e s M { w with drawn := w.drawn + 1 } := ⟨fun b B hb hB => by obtain ⟨p, h1, h2⟩ := hr.blk b B hb hB; exact ⟨p, h1, h2.keep e.le_refl rfl⟩, hr.inj, hr.new, hr.one, hr.glob.step rfl (fun _ _ h => .inl h) (fun _ _ => rfl) (Nat.le_refl _)⟩
 have hzero : Don (Array.replicate ops.size false) = fun _ => False := by
  funext k; unfold Don; refine propext ?_
  rw [Array.getD_eq_getD_getElem?, Array.getElem?_replicate]
  split <;> simp
 have hi0 := WInv.init (P := P) (N := N) (rd := rd) (t0 := t) hE hI hg hr'
 have hinv : WInv ex ih rd N ops.toList t s M e w L (fun _ => False) e { w with drawn := w.drawn + 1 } := ⟨hi0.blk, hi0.inj, hi0.new, hi0.one, hi0.glob, hi0.le, hi0.dom, hi0.size, hi0.keep, hi0.fresh, ⟨rfl, rfl, rfl⟩⟩
 have key := listing hE hI hL hLn hg hwf hM hend rfl (e0 := e) (w0 := w) (d := d1) (r := r) ops.size (Array.replicate ops.size false) a { w with drawn := w.drawn + 1 } e t (by simp) (by have := un_le (fun k => (Array.replicate ops.size false).getD k false) ops.toList.length; simpa using this)
  (fun k _ hk => by rw [hzero] at hk; exact hk.elim) (fun k _ hk => by rw [hzero] at hk; exact hk.elim) (by rw [hzero]; exact hinv) hf
  (fun x m hsep => by
   rw [hzero] at hsep
   refine (tmp_same hE hI hL hg (i := 0) (Nat.zero_le m) hsep.1 fun k _ hk => ?_).symm
   cases hD : (ft ex ih rd N ops.toList t s k).D.testBit x with
   | false => rfl
   | true => exact ((hsep.2 k (Nat.lt_of_lt_of_le hk hsep.1) hD).1 hk).elim) hd hrd
 exact key
end
end Go.Ev
