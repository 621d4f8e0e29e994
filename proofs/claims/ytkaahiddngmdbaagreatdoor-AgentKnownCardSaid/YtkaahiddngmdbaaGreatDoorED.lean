/- An evaluator of calls, and its soundness (ED). -/
import Derived.Test.YtkaahiddngmdbaaGreatDoorEC
import Derived.RangeFuncNested
import Derived.RecoverIn
set_option linter.unusedVariables false
set_option linter.unusedSimpArgs false
namespace Go.Ev
section
variable {P : Program} {ex : Op → T AV → St → OR} {ih : EvF} {rd : Option Nat} {N : Nat}

theorem firm_post {M : Nat → Prop} {e0 : Env} {s0 : St} {w0 : World} {o : Out} {t : T AV} {d : List DE} {s : St} : Firm (PostQ P M N e0 s0 w0 o t d s) := by
 rintro x a w ⟨e, hx, _⟩
 cases o with
 | norm => cases hx; exact ⟨fun _ h => (by cases h), fun h => (by cases h)⟩
 | exit id => cases hx; exact ⟨fun _ h => (by cases h), fun h => (by cases h)⟩
 | ret => cases hx; exact ⟨fun _ h => (by cases h), fun h => (by cases h)⟩
 | panic v => obtain ⟨y, rfl, _⟩ := hx; exact ⟨fun _ h => (by cases h), fun h => (by cases h)⟩
theorem PostQ.behind {M : Nat → Prop} {e0 e1 : Env} {s0 s1 : St} {w0 w1 : World} {o : Out} {t : T AV} {d : List DE} {s : St} (x0 : Ext s0 s1) (x1 : Ext s1 s) (ht : Trans e0 s0 w0 e1 s1 w1) {x : Exit} {a : Act} {w : World} (h : PostQ P M N e1 s1 w1 o t d s x a w) :
 PostQ P M N e0 s0 w0 o t d s x a w := by
 obtain ⟨e, h1, h2, h3, h4, h5⟩ := h
 exact ⟨e, h1, h2, h3, h4, ht.trans x0 x1 h5⟩
theorem post_now {M : Nat → Prop} {e : Env} {s : St} {w : World} {o : Out} {t : T AV} {d : List DE} {a : Act} {x : Exit} (hx : XRel e o x) (hr : Rel e s M w) (hf : FRel e N t a.tmps) (hd : DRel P e d a.defers) : PostQ P M N e s w o t d s x a w :=
 ⟨e, hx, hf, hd, hr, Trans.refl _ _ _⟩

/-- what a piece of code says of the code -/
def CodeOk (P : Program) (rd : Option Nat) (N : Nat) (c : Code) (t : T AV) (d : List DE) (s : St) (o : Out) (t1 : T AV) (d1 : List DE) (s1 : St) : Prop :=
 Ext s s1 ∧ ∀ (M : Nat → Prop) e w a r, Wf s → Rel e s M w → (∀ i, s1.X.testBit i = true → M i) → FRel e N t a.tmps → DRel P e d a.defers → RdRel e rd r →
  c.wpIn (fence r) 0 P (PostQ P M N e s w o t1 d1 s1) a w

theorem then_ok (hI : IhOk P ih) {x : Code} {k : T AV → List DE → St → RC} {t : T AV} {d : List DE} {s : St} {o : Out} {t1 : T AV} {d1 : List DE} {s1 : St} (h : seqK (ih.code rd N x t d s) k = .mk o t1 d1 s1)
 (hk : ∀ t2 d2 s2, k t2 d2 s2 = .mk o t1 d1 s1 → Ext s2 s1) :
 Ext s s1 ∧ ∀ (M : Nat → Prop) e w a r (K : Act → World → Prop), Wf s → Rel e s M w → (∀ i, s1.X.testBit i = true → M i) → FRel e N t a.tmps → DRel P e d a.defers → RdRel e rd r →
  (∀ e2 w2 a2 t2 d2 s2, k t2 d2 s2 = .mk o t1 d1 s1 → Ext s s2 → Trans e s w e2 s2 w2 → Wf s2 → Rel e2 s2 M w2 → FRel e2 N t2 a2.tmps → DRel P e2 d2 a2.defers → RdRel e2 rd r → K a2 w2) →
  x.wpIn (fence r) 0 P (Exit.then K (PostQ P M N e s w o t1 d1 s1)) a w := by
 cases hc : ih.code rd N x t d s with
 | fail => rw [hc] at h; cases h
 | mk o2 t2 d2 s2 =>
  rw [hc] at h
  obtain ⟨hx, hwp⟩ := hI.code rd N x t d s o2 t2 d2 s2 hc
  cases o2 with
  | norm =>
   have h : k t2 d2 s2 = .mk o t1 d1 s1 := h
   have hx2 := hk _ _ _ h
   refine ⟨hx.trans hx2, fun M e w a r K hw hr hM hf hd hrd hK => wpIn_mono (hwp M e w a r hw hr (fun i hi => hM i (hx2.X i hi)) hf hd hrd) ?_⟩
   rintro y a' w' ⟨e', h1, h2, h3, h4, h5⟩
   cases h1
   exact hK e' w' a' t2 d2 s2 h hx h5 (hx.wf hw) h4 h2 h3 (hrd.mono h5.le)
  | exit id =>
   cases h
   refine ⟨hx, fun M e w a r K hw hr hM hf hd hrd _ => wpIn_mono (hwp M e w a r hw hr hM hf hd hrd) ?_⟩
   rintro y a' w' ⟨e', h1, h2⟩
   cases h1
   exact ⟨e', rfl, h2⟩
  | ret =>
   cases h
   refine ⟨hx, fun M e w a r K hw hr hM hf hd hrd _ => wpIn_mono (hwp M e w a r hw hr hM hf hd hrd) ?_⟩
   rintro y a' w' ⟨e', h1, h2⟩
   cases h1
   exact ⟨e', rfl, h2⟩
  | panic v =>
   cases h
   refine ⟨hx, fun M e w a r K hw hr hM hf hd hrd _ => wpIn_mono (hwp M e w a r hw hr hM hf hd hrd) ?_⟩
   rintro y a' w' ⟨e', ⟨z, rfl, h1⟩, h2⟩
   exact ⟨e', ⟨z, rfl, h1⟩, h2⟩

theorem seq_ok (hI : IhOk P ih) {x y : Code} {t : T AV} {d : List DE} {s : St} {o : Out} {t1 : T AV} {d1 : List DE} {s1 : St} (h : seqK (ih.code rd N x t d s) (fun t d s => ih.code rd N y t d s) = .mk o t1 d1 s1) : CodeOk P rd N (.seq x y) t d s o t1 d1 s1 := by
 obtain ⟨h1, h2⟩ := then_ok hI h (fun t2 d2 s2 hk => (hI.code _ _ _ _ _ _ _ _ _ _ hk).1)
 refine ⟨h1, fun M e w a r hw hr hM hf hd hrd => wpIn_seq (h2 M e w a r _ hw hr hM hf hd hrd ?_)⟩
 intro e2 w2 a2 t2 d2 s2 hk hx ht hw2 hr2 hf2 hd2 hrd2
 obtain ⟨g1, g2⟩ := hI.code _ _ _ _ _ _ _ _ _ _ hk
 exact wpIn_mono (g2 M e2 w2 a2 r hw2 hr2 hM hf2 hd2 hrd2) fun _ _ _ hq => hq.behind hx g1 ht
theorem loop_ok (hI : IhOk P ih) {x : Code} {t : T AV} {d : List DE} {s : St} {o : Out} {t1 : T AV} {d1 : List DE} {s1 : St} (h : seqK (ih.code rd N x t d s) (fun t d s => ih.code rd N (.loop x) t d s) = .mk o t1 d1 s1) : CodeOk P rd N (.loop x) t d s o t1 d1 s1 := by
 obtain ⟨h1, h2⟩ := then_ok hI h (fun t2 d2 s2 hk => (hI.code _ _ _ _ _ _ _ _ _ _ hk).1)
 refine ⟨h1, fun M e w a r hw hr hM hf hd hrd => wpIn_loop_unroll firm_post (h2 M e w a r _ hw hr hM hf hd hrd ?_)⟩
 intro e2 w2 a2 t2 d2 s2 hk hx ht hw2 hr2 hf2 hd2 hrd2
 obtain ⟨g1, g2⟩ := hI.code _ _ _ _ _ _ _ _ _ _ hk
 exact wpIn_mono (g2 M e2 w2 a2 r hw2 hr2 hM hf2 hd2 hrd2) fun _ _ _ hq => hq.behind hx g1 ht
theorem block_ok (hI : IhOk P ih) {id : Nat} {x : Code} {t : T AV} {d : List DE} {s : St} {o : Out} {t1 : T AV} {d1 : List DE} {s1 : St} (h : blockK id (ih.code rd N x t d s) = .mk o t1 d1 s1) : CodeOk P rd N (.block id x) t d s o t1 d1 s1 := by
 cases hc : ih.code rd N x t d s with
 | fail => rw [hc] at h; cases h
 | mk o2 t2 d2 s2 =>
  rw [hc] at h
  obtain ⟨hx, hwp⟩ := hI.code rd N x t d s o2 t2 d2 s2 hc
  cases o2 with
  | norm =>
   cases h
   refine ⟨hx, fun M e w a r hw hr hM hf hd hrd => wpIn_block (wpIn_mono (hwp M e w a r hw hr hM hf hd hrd) ?_)⟩
   rintro y a' w' ⟨e', h1, h2⟩
   cases h1
   exact ⟨e', rfl, h2⟩
  | exit j =>
   have h : (Bool.rec (.mk (.exit j) t2 d2 s2) (.mk .norm t2 d2 s2) (Nat.beq j id) : RC) = .mk o t1 d1 s1 := h
   cases hb : Nat.beq j id with
   | true =>
    rw [hb] at h
    have hj := Nat.eq_of_beq_eq_true hb
    clear hb
    cases h
    refine ⟨hx, fun M e w a r hw hr hM hf hd hrd => wpIn_block (wpIn_mono (hwp M e w a r hw hr hM hf hd hrd) ?_)⟩
    rintro y a' w' ⟨e', h1, h2⟩
    cases h1
    simp only [Exit.inBlock, if_pos hj]
    exact ⟨e', rfl, h2⟩
   | false =>
    rw [hb] at h
    have hj := Nat.ne_of_beq_eq_false hb
    cases h
    refine ⟨hx, fun M e w a r hw hr hM hf hd hrd => wpIn_block (wpIn_mono (hwp M e w a r hw hr hM hf hd hrd) ?_)⟩
    rintro y a' w' ⟨e', h1, h2⟩
    cases h1
    simp only [Exit.inBlock, if_neg hj]
    exact ⟨e', rfl, h2⟩
  | ret =>
   cases h
   refine ⟨hx, fun M e w a r hw hr hM hf hd hrd => wpIn_block (wpIn_mono (hwp M e w a r hw hr hM hf hd hrd) ?_)⟩
   rintro y a' w' ⟨e', h1, h2⟩
   cases h1
   exact ⟨e', rfl, h2⟩
  | panic v =>
   cases h
   refine ⟨hx, fun M e w a r hw hr hM hf hd hrd => wpIn_block (wpIn_mono (hwp M e w a r hw hr hM hf hd hrd) ?_)⟩
   rintro y a' w' ⟨e', ⟨z, rfl, h1⟩, h2⟩
   exact ⟨e', ⟨z, rfl, h1⟩, h2⟩
theorem cond_ok (hI : IhOk P ih) {c : Operand} {x y : Code} {t : T AV} {d : List DE} {s : St} {o : Out} {t1 : T AV} {d1 : List DE} {s1 : St} (h : cCond ih c x y rd N t d s = .mk o t1 d1 s1) : CodeOk P rd N (.cond c x y) t d s o t1 d1 s1 := by
 unfold cCond at h
 cases ho : opd t c with
 | none => rw [ho] at h; cases h
 | some v =>
  rw [ho] at h
  dsimp only at h
  cases hb : selB v with
  | none => rw [hb] at h; cases h
  | some b =>
   rw [hb] at h
   dsimp only at h
   have hv := selB_ok hb
   subst hv
   have ev : ∀ {e : Env} {a : Act}, FRel e N t a.tmps → a.eval c = .bool b := fun hf => by
    have := orho_eval hf c _ ho
    simpa only [VRel] using this
   cases b with
   | true => obtain ⟨g1, g2⟩ := hI.code _ _ _ _ _ _ _ _ _ _ h; exact ⟨g1, fun M e w a r hw hr hM hf hd hrd => wpIn_cond_true (ev hf) (g2 M e w a r hw hr hM hf hd hrd)⟩
   | false => obtain ⟨g1, g2⟩ := hI.code _ _ _ _ _ _ _ _ _ _ h; exact ⟨g1, fun M e w a r hw hr hM hf hd hrd => wpIn_cond_false (ev hf) (g2 M e w a r hw hr hM hf hd hrd)⟩

theorem evCode_ok' (hE : ExOk P ex) (hI : IhOk P ih) (hL : ExLoc ex) (hmix : P.follows .mixedOrders = true)
 (hrange : ∀ f params assign body t d s o t1 d1 s1, cRange P ih f params assign body rd N t d s = .mk o t1 d1 s1 → CodeOk P rd N (.rangeFunc f params assign body) t d s o t1 d1 s1)
 {c : Code} {t : T AV} {d : List DE} {s : St} {o : Out} {t1 : T AV} {d1 : List DE} {s1 : St} (h : evCode ex P ih rd N c t d s = .mk o t1 d1 s1) : CodeOk P rd N c t d s o t1 d1 s1 := by
 cases c with
 | skip => cases h; exact ⟨Ext.refl _, fun M e w a r hw hr hM hf hd hrd => wpIn_skip (post_now rfl hr hf hd)⟩
 | label l => cases h; exact ⟨Ext.refl _, fun M e w a r hw hr hM hf hd hrd => wpIn_label (post_now rfl hr hf hd)⟩
 | exit id => cases h; exact ⟨Ext.refl _, fun M e w a r hw hr hM hf hd hrd => wpIn_exit (post_now rfl hr hf hd)⟩
 | ret => cases h; exact ⟨Ext.refl _, fun M e w a r hw hr hM hf hd hrd => wpIn_ret (post_now rfl hr hf hd)⟩
 | region id ops draw =>
  have h : cRegion ex ih ops draw rd N t d s = .mk o t1 d1 s1 := h
  unfold cRegion at h
  rw [forceS_eq] at h
  cases draw with
  | true => exact draw_ok hE hI hL hmix h
  | false => exact region_ok hE hI h
 | seq x y => exact seq_ok hI h
 | cond c x y => exact cond_ok hI h
 | block id x => exact block_ok hI h
 | loop x => exact loop_ok hI h
 | scope x =>
  obtain ⟨g1, g2⟩ := hI.code rd N x t d s o t1 d1 s1 h
  exact ⟨g1, fun M e w a r hw hr hM hf hd hrd => wpIn_scope firm_post (g2 M e w a r hw hr hM hf hd hrd)⟩
 | rangeFunc f params assign body => exact hrange _ _ _ _ _ _ _ _ _ _ _ h
 | _ => cases h
end
end Go.Ev
namespace Go.Ev
section
variable {P : Program} {ex : Op → T AV → St → OR} {ih : EvF} {rd : Option Nat} {N : Nat}

theorem laid_alloc (w : World) (o : Obj) : Laid w (w.alloc o) := ⟨World.size_alloc w o, fun i hi => by show (w.heap.push o)[i]? = _; rw [Array.getElem?_push]; simp [Nat.ne_of_lt hi], ⟨rfl, rfl, rfl⟩⟩
theorem putObj_one {w : World} {r : Nat} {o : Obj} (hk : r < w.heap.size) : One r w (w.putObj r o) ∧ (w.putObj r o).heap[r]? = some o := setObj_one hk

/-- what a call has ended with -/
def EndV (e : Env) : RV → Ending → Prop
 | .ret v _, .returned x => VRel e v x
 | .panic v _, .panicked chain => ∃ y, chain = [{ v := y, recovered := false }] ∧ VRel e v y
 | _, _ => False
theorem endR_parts {M : Nat → Prop} {e : Env} {s s2 : St} {w w' : World} {rv : RV} {en : Ending} (hst : rv.st = some s2) (h : EndR M e s w rv en w') : ∃ e2, EndV e2 rv en ∧ Rel e2 s2 M w' ∧ Trans e s w e2 s2 w' := by
 cases rv with
 | fail => cases hst
 | ret v s3 =>
  cases hst
  cases en with
  | returned x => obtain ⟨e2, h1, h2, h3⟩ := h; exact ⟨e2, h1, h2, h3⟩
  | panicked c => exact h.elim
  | outgrown => exact h.elim
 | panic v s3 =>
  cases hst
  cases en with
  | returned x => exact h.elim
  | panicked c => obtain ⟨e2, y, h0, h1, h2, h3⟩ := h; exact ⟨e2, ⟨y, h0, h1⟩, h2, h3⟩
  | outgrown => exact h.elim

/-- the record is laid; the function is called -/
theorem range_call (hI : IhOk P ih) (hN : Named P) {f : Operand} {params : Array Nat} {assign body : Code} {t : T AV} {s s2 : St} {dl g : Nat} {first captured : List AV} {rv : RV} (hop : opd t f = some (.func g first captured)) (hen : enters P g = true)
 (hrv : ih.call g (lapp first (.yield s.next :: captured)) (s.new (.loop .ready none t N params.toList assign body dl)) = rv) (hst : rv.st = some s2) :
 Ext s s2 ∧ (s2.X.testBit s.next = true) ∧ ∀ (M : Nat → Prop) (e : Env) (w : World) (a : Act) (q z fn : Nat), Wf s → Rel e s M w → (∀ i, s2.X.testBit i = true → M i) → FRel e N t a.tmps → e.at_ dl = some (q, z) →
  ∃ (dd : Deferred) (w1' : World) (args : Array Value) (w2 : World),
   (resolve a.eval (rangeCall f w.heap.size) 0).run P (w.alloc (.loop { state := .ready, pending := none, fn := fn, tmps := a.tmps, params := params, assign := assign, body := body, defers := q })) = .ok dd w1' ∧
   (invoke dd.target dd.args).run P w1' = .ok (.enter g args) w2 ∧
   ∀ (R : Ending → World → Prop), (∀ en w3, (∃ e2, EndV e2 rv en ∧ Rel e2 s2 M w3 ∧ Trans e s w e2 s2 w3 ∧ e2.at_ s.next = some (w.heap.size, 0)) → R en w3) → CallsIn Fence.wide 0 P g args w2 R := by
 have hxn := new_ext s (.loop .ready none t N params.toList assign body dl)
 have hC := hI.call g (lapp first (.yield s.next :: captured)) (s.new (.loop .ready none t N params.toList assign body dl))
 rw [hrv] at hC
 obtain ⟨hxc, hC⟩ := hC s2 hst
 refine ⟨hxn.trans hxc, hxc.X _ (orB_same _ _), fun M e w a q z fn hw hr hM hf hq => ?_⟩
 have hMn : M s.next := hM _ (hxc.X _ (orB_same _ _))
 have hnone : e.at_ s.next = none := hr.new _ hMn (Nat.le_refl _)
 have hle := Env.ext_le hnone (w.heap.size, 0)
 obtain ⟨hr1, ht1⟩ := new_ok (z := 0) hr hMn (laid_alloc w (.loop { state := .ready, pending := none, fn := fn, tmps := a.tmps, params := params, assign := assign, body := body, defers := q }))
  (B := .loop .ready none t N params.toList assign body dl) ⟨fn, a.tmps, q, by rw [World.alloc_heap_new], hf.mono hle, z, hle.1 _ _ hq⟩
 have hfv := orho_eval hf f _ hop
 simp only [VRel] at hfv
 obtain ⟨xs, ys, hfe, hl1, hl2⟩ := hfv
 have hargs : LRel (e.ext s.next (w.heap.size, 0)) (lapp first (.yield s.next :: captured)) (xs ++ (.func (.yield w.heap.size) #[] #[] :: ys)) := by
  rw [lapp_eq]
  refine (hl1.mono hle).append (.cons_ ?_ (hl2.mono hle))
  simp only [VRel]
  exact ⟨_, Env.ext_same _ _ _, rfl⟩
 have hcall := hC M _ _ _ (hxn.wf hw) hr1 hM hargs
 refine ⟨{ target := .fn (.func g) ys.toArray, args := xs.toArray ++ #[.func (.yield w.heap.size) #[] #[]] }, w.alloc (.loop { state := .ready, pending := none, fn := fn, tmps := a.tmps, params := params, assign := assign, body := body, defers := q }), (xs ++ (.func (.yield w.heap.size) #[] #[] :: ys)).toArray, w.alloc (.loop { state := .ready, pending := none, fn := fn, tmps := a.tmps, params := params, assign := assign, body := body, defers := q }), ?_, ?_, fun R hR => hcall.mono ?_⟩
 · simp only [resolve, hfe, Deferred.ofValue, Sem.run_bind, Sem.run_pure, Result.andThen_ok]
   simp [Act.eval]
 · dsimp only
   rw [invoke_func hN hen]
   simp
 · intro en w3 hEnd
   obtain ⟨e2, g1, g2, g3⟩ := endR_parts hst hEnd
   exact hR en w3 ⟨e2, g1, g2, ht1.trans hxn hxc g3, g3.le.1 _ _ (Env.ext_same _ _ _)⟩

theorem loop_block {M : Nat → Prop} {e : Env} {s : St} {w : World} {b k z : Nat} {st : LoopState} {c : Option Code} {t : T AV} {n : Nat} {ps : List Nat} {assign body : Code} {d : Nat} (hr : Rel e s M w) (hM : M b) (hb : s.mem.get b = some (.loop st c t n ps assign body d)) (hat : e.at_ b = some (k, z)) :
 ∃ fn tmps q zz, w.heap[k]? = some (.loop { state := st, pending := c, fn, tmps, params := ps.toArray, assign, body, defers := q }) ∧ FRel e n t tmps ∧ e.at_ d = some (q, zz) ∧ k < w.heap.size := by
 obtain ⟨p, hp, hB⟩ := hr.blk b _ hM hb
 have hlt := hB.lt
 rw [hat] at hp; cases hp
 obtain ⟨fn, tmps, q, h1, h2, zz, h3⟩ := hB
 exact ⟨fn, tmps, q, zz, h1, h2, h3, hlt⟩
/-- the record is written anew -/
theorem loop_put {M : Nat → Prop} {e : Env} {s : St} {w : World} {b k z : Nat} {B0 : Blk} {st : LoopState} {c : Option Code} {t : T AV} {n : Nat} {ps : List Nat} {assign body : Code} {d fn q zz : Nat} {tmps : Array Value} (hr : Rel e s M w) (hM : M b) (hb : s.mem.get b = some B0) (hat : e.at_ b = some (k, z))
 (hf : FRel e n t tmps) (hd : e.at_ d = some (q, zz)) (hk : k < w.heap.size) :
 Rel e (s.put b (.loop st c t n ps assign body d)) M (w.putObj k (.loop { state := st, pending := c, fn, tmps, params := ps.toArray, assign, body, defers := q })) ∧
  Trans e s w e (s.put b (.loop st c t n ps assign body d)) (w.putObj k (.loop { state := st, pending := c, fn, tmps, params := ps.toArray, assign, body, defers := q })) := by
 obtain ⟨h1, h2⟩ := putObj_one (w := w) (r := k) (o := .loop { state := st, pending := c, fn, tmps, params := ps.toArray, assign, body, defers := q }) hk
 exact put_ok (p := (k, z)) hr hM hb hat h1 ⟨fn, tmps, q, h2, hf, zz, hd⟩

theorem evRange_ok (hI : IhOk P ih) (hN : Named P) {f : Operand} {params : Array Nat} {assign body : Code} {t : T AV} {d : List DE} {s : St} {dl : Nat} {mark : List DE} {o : Out} {t1 : T AV} {d1 : List DE} {s1 : St}
 (h : evRange P ih rd N f params assign body t d s dl mark = .mk o t1 d1 s1) :
 Ext s s1 ∧ ∀ (M : Nat → Prop) (e : Env) (w : World) (a : Act) (r : Option Nat) (q z : Nat) (mk : List Deferred) (fn : Nat), Wf s → Rel e s M w → (∀ i, s1.X.testBit i = true → M i) → FRel e N t a.tmps → RdRel e rd r → e.at_ dl = some (q, z) → DRel P e (lapp mark d) (mk ++ a.defers) →
  ∃ (dd : Deferred) (w1' : World) (g : Nat) (args : Array Value) (w2 : World),
   (resolve a.eval (rangeCall f w.heap.size) 0).run P (w.alloc (.loop { state := .ready, pending := none, fn := fn, tmps := a.tmps, params := params, assign := assign, body := body, defers := q })) = .ok dd w1' ∧
   (invoke dd.target dd.args).run P w1' = .ok (.enter g args) w2 ∧
   CallsIn (fence r) 0 P g args w2 (rangePost (fence r) 0 P w.heap.size (PostQ P M N e s w o t1 d1 s1) { a with defers := mk ++ a.defers }) := by
 unfold evRange at h
 split at h
 case h_2 => cases h
 rename_i g first captured hop
 obtain ⟨hen, h⟩ := brec_some' h
 split at h
 · rename_i v s2 hcall
   obtain ⟨hx2, hb2, hgo⟩ := range_call (N := N) hI hN hop hen hcall rfl
   split at h
   · rename_i t' N' p' a' b' d' hmem
     cases h
     have hxp := put_ext (B' := Blk.loop .exhausted none t' N' p' a' b' d') hmem
     refine ⟨hx2.trans hxp, fun M e w a r q z mk fn hw hr hM hf hrd hq hd => ?_⟩
     have hM2 : ∀ i, s2.X.testBit i = true → M i := fun i hi => hM i (hxp.X i hi)
     obtain ⟨dd, w1', args, w2, h1, h2, h3⟩ := hgo M e w a q z fn hw hr hM2 hf hq
     refine ⟨dd, w1', g, args, w2, h1, h2, CallsIn.fence_ (h3 _ ?_)⟩
     rintro en w3 ⟨e2, hv, hr2, ht2, hat⟩
     cases en with
     | panicked c => exact hv.elim
     | outgrown => exact hv.elim
     | returned x =>
      obtain ⟨fn2, tmps2, q2, zz, k1, k2, k3, k4⟩ := loop_block hr2 (hM2 _ hb2) hmem hat
      obtain ⟨g1, g2⟩ := loop_put (st := .exhausted) (c := none) (ps := p') (assign := a') (body := b') (fn := fn2) hr2 (hM2 _ hb2) hmem hat k2 k3 k4
      exact ⟨none, _, run_endLoop k1 (fun h => by cases h), e2, rfl, hf.mono ht2.le, hd.mono ht2.le, g1, ht2.trans hx2 hxp g2⟩
   · rename_i c t' N' p' a' b' d' hmem
     have hxp := put_ext (B' := Blk.loop .exhausted (some c) t' N' p' a' b' d') hmem
     obtain ⟨hxc, hwp⟩ := hI.code _ _ _ _ _ _ _ _ _ _ h
     refine ⟨hx2.trans (hxp.trans hxc), fun M e w a r q z mk fn hw hr hM hf hrd hq hd => ?_⟩
     have hM3 := fun i hi => hM i (hxc.X i hi)
     have hM2 : ∀ i, s2.X.testBit i = true → M i := fun i hi => hM3 i (hxp.X i hi)
     obtain ⟨dd, w1', args, w2, h1, h2, h3⟩ := hgo M e w a q z fn hw hr hM2 hf hq
     refine ⟨dd, w1', g, args, w2, h1, h2, CallsIn.fence_ (h3 _ ?_)⟩
     rintro en w3 ⟨e2, hv, hr2, ht2, hat⟩
     cases en with
     | panicked c => exact hv.elim
     | outgrown => exact hv.elim
     | returned x =>
      obtain ⟨fn2, tmps2, q2, zz, k1, k2, k3, k4⟩ := loop_block hr2 (hM2 _ hb2) hmem hat
      obtain ⟨g1, g2⟩ := loop_put (st := .exhausted) (c := some c) (ps := p') (assign := a') (body := b') (fn := fn2) hr2 (hM2 _ hb2) hmem hat k2 k3 k4
      refine ⟨some c, _, run_endLoop k1 (fun h => by cases h), ?_⟩
      exact wpIn_mono (hwp M e2 _ { a with defers := mk ++ a.defers } r (hxp.wf (hx2.wf hw)) g1 hM (hf.mono ht2.le) (hd.mono ht2.le) (hrd.mono ht2.le)) fun _ _ _ hq => hq.behind (hx2.trans hxp) hxc (ht2.trans hx2 hxp g2)
   · cases h
 · rename_i v s2 hcall
   cases h
   obtain ⟨hx2, hb2, hgo⟩ := range_call (N := N) hI hN hop hen hcall rfl
   refine ⟨hx2, fun M e w a r q z mk fn hw hr hM hf hrd hq hd => ?_⟩
   obtain ⟨dd, w1', args, w2, h1, h2, h3⟩ := hgo M e w a q z fn hw hr hM hf hq
   refine ⟨dd, w1', g, args, w2, h1, h2, CallsIn.fence_ (h3 _ ?_)⟩
   rintro en w3 ⟨e2, hv, hr2, ht2, hat⟩
   cases en with
   | returned x => exact hv.elim
   | outgrown => exact hv.elim
   | panicked c =>
    obtain ⟨y, rfl, hv⟩ := hv
    exact ⟨e2, ⟨y, rfl, hv⟩, hf.mono ht2.le, hd.mono ht2.le, hr2, ht2⟩
 · cases h

theorem cRange_ok (hI : IhOk P ih) (hN : Named P) {f : Operand} {params : Array Nat} {assign body : Code} {t : T AV} {d : List DE} {s : St} {o : Out} {t1 : T AV} {d1 : List DE} {s1 : St} (h : cRange P ih f params assign body rd N t d s = .mk o t1 d1 s1) :
 CodeOk P rd N (.rangeFunc f params assign body) t d s o t1 d1 s1 := by
 unfold cRange at h
 cases rd with
 | none =>
  have h : evRange P ih none N f params assign body t d (s.new (.defs true)) s.next [.mark s.next] = .mk o t1 d1 s1 := h
  obtain ⟨hx, hgo⟩ := evRange_ok hI hN h
  have hxn := new_ext s (.defs true)
  refine ⟨hxn.trans hx, fun M e w a r hw hr hM hf hd hrd => wpIn_rangeFunc fun fn _ => ?_⟩
  have hrd : r = none := hrd
  subst hrd
  have hMn : M s.next := hM _ (hx.X _ (orB_same _ _))
  have hnone : e.at_ s.next = none := hr.new _ hMn (Nat.le_refl _)
  have hle := Env.ext_le hnone (w.heap.size, 0)
  obtain ⟨hr1, ht1⟩ := new_ok (z := 0) hr hMn (laid_alloc w (.deferred (some []))) (B := .defs true) (World.alloc_heap_new _ _)
  obtain ⟨dd, w1', g, args, w2, h1, h2, h3⟩ := hgo M (e.ext s.next (w.heap.size, 0)) (w.alloc (.deferred (some []))) a none w.heap.size 0 [{ target := .collected w.heap.size, args := #[] }] fn (hxn.wf hw) hr1 hM (hf.mono hle) rfl (Env.ext_same _ _ _)
   ⟨_, _, rfl, ⟨0, Env.ext_same _ _ _⟩, hd.mono hle⟩
  rw [World.size_alloc] at h1 h3
  refine ⟨w.heap.size + 1, [{ target := .collected w.heap.size, args := #[] }], _, dd, w1', g, args, w2, run_enterLoop_outer fn a.tmps params assign body, h1, fun _ _ => trivial, h2, fun hh => (by cases hh), h3.mono ?_⟩
  intro en w3 hen
  cases en with
  | returned x =>
   obtain ⟨jump, w4, g1, g2⟩ := hen
   refine ⟨jump, w4, g1, ?_⟩
   cases jump with
   | none => exact PostQ.behind hxn hx ht1 g2
   | some c => exact wpIn_mono g2 fun _ _ _ hq => PostQ.behind hxn hx ht1 hq
  | panicked c => exact PostQ.behind hxn hx ht1 hen
  | outgrown => exact absurd rfl (firm_post _ _ _ hen.choose_spec.choose_spec).2
 | some l =>
  dsimp only at h
  split at h
  case h_2 => cases h
  rename_i st c t' N' p' a' b' dl hmem
  obtain ⟨hx, hgo⟩ := evRange_ok hI hN h
  have hxt := touch_ext hmem
  refine ⟨hxt.trans hx, fun M e w a r hw hr hM hf hd hrd => wpIn_rangeFunc fun fn _ => ?_⟩
  obtain ⟨p, hp, hrp⟩ := hrd
  subst hrp
  have hMl : M l := hM _ (hx.X _ (orB_same _ _))
  obtain ⟨fn2, tmps2, q, zz, k1, k2, k3, k4⟩ := loop_block hr hMl hmem hp
  obtain ⟨hr1, ht1⟩ := touch_ok (b := l) hr
  obtain ⟨dd, w1', g, args, w2, h1, h2, h3⟩ := hgo M e w a (some p.1) q zz [] fn (hxt.wf hw) hr1 hM hf ⟨p, hp, rfl⟩ k3 hd
  refine ⟨w.heap.size, [], _, dd, w1', g, args, w2, run_enterLoop_inner k1 fn a.tmps params assign body, h1, fun _ _ => trivial, h2, fun hh => (by cases hh), h3.mono ?_⟩
  intro en w3 hen
  cases en with
  | returned x =>
   obtain ⟨jump, w4, g1, g2⟩ := hen
   refine ⟨jump, w4, g1, ?_⟩
   cases jump with
   | none => exact PostQ.behind hxt hx ht1 g2
   | some c => exact wpIn_mono g2 fun _ _ _ hq => PostQ.behind hxt hx ht1 hq
  | panicked c => exact PostQ.behind hxt hx ht1 hen
  | outgrown => exact absurd rfl (firm_post _ _ _ hen.choose_spec.choose_spec).2
end
end Go.Ev
namespace Go.Ev
section
variable {P : Program} {ex : Op → T AV → St → OR} {ih : EvF}

theorem setArgs_ok {e : Env} {N : Nat} : ∀ {ps : List Nat} {args : List AV} {t t1 : T AV} {xs : List Value} {tmps : Array Value}, setArgs ps args N t = some t1 → FRel e N t tmps → LRel e args xs →
 ps.length = xs.length ∧ FRel e N t1 ((ps.zip xs).foldl (fun (tmps : Array Value) (q : Nat × Value) => tmps.setIfInBounds q.1 q.2) tmps)
 | [], args, t, t1, xs, tmps, h, hf, hl => by
  cases args with
  | nil => cases h; rw [LRel.of_nil hl]; exact ⟨rfl, hf⟩
  | cons a args => cases h
 | p :: ps, args, t, t1, xs, tmps, h, hf, hl => by
  cases args with
  | nil => cases h
  | cons a args =>
   have h : (Bool.rec none (setArgs ps args N (t.set p a)) (Nat.ble (Nat.succ p) N) : Option (T AV)) = some t1 := h
   obtain ⟨hb, h2⟩ := brec_some h
   clear h
   obtain ⟨y, ys, rfl, hv, hl'⟩ := LRel.of_cons hl
   obtain ⟨g1, g2⟩ := setArgs_ok h2 (hf.put (Nat.le_of_ble_eq_true hb) hv) hl'
   exact ⟨by simp [g1], g2⟩

theorem evRound_ok (hI : IhOk P ih) {l : Nat} {args : List AV} {s s' : St} {v : AV} (h : evRound ih l args s = .ret v s') :
 Ext s s' ∧ ∀ (M : Nat → Prop) e w xs p, Wf s → Rel e s M w → (∀ i, s'.X.testBit i = true → M i) → e.at_ l = some p → LRel e args xs →
  ∃ fn tmps assign body, (Instr.yield p.1 xs.toArray).run P w = .ok (.round p.1 fn tmps assign body) w ∧ RoundIn Fence.wide 0 P p.1 fn tmps assign body w (EndR M e s w (.ret v s')) := by
 unfold evRound at h
 split at h
 case h_2 => cases h
 rename_i t N params assign body dl hmem
 split at h
 case h_2 => cases h
 rename_i t1 hset
 split at h
 case h_2 => cases h
 rename_i t2 s2 hcode
 split at h
 case h_2 => cases h
 rename_i t3 N3 p3 a3 b3 d3 hmem2
 split at h
 case h_2 => cases h
 rename_i o t4 s3 hcode2
 split at h
 case h_2 => cases h
 rename_i st5 c5 t5 N5 p5 a5 b5 d5 hmem3
 have hxt := touch_ext hmem
 obtain ⟨hx1, hwp1⟩ := hI.code _ _ _ _ _ _ _ _ _ _ hcode
 have hxp := put_ext (B' := Blk.loop .busy none t3 N3 p3 a3 b3 d3) hmem2
 obtain ⟨hx2, hwp2⟩ := hI.code _ _ _ _ _ _ _ _ _ _ hcode2
 have hx3 : Ext s s3 := hxt.trans (hx1.trans (hxp.trans hx2))
 -- the end of the round
 have fin : ∀ (b : Bool) (st : LoopState) (c : Option Code), v = .bool b → s' = s3.put l (.loop st c t5 N5 p5 a5 b5 d5) → c.isNone = b → st = (if c.isNone then .ready else .done) →
  (∀ x, (∃ e, XRel e o x) → (match x with | .normal => c = none | .ret => c = some .ret | .exit id => c = some (.exit id) | _ => False)) → Ext s s' ∧ ∀ (M : Nat → Prop) e w xs p, Wf s → Rel e s M w → (∀ i, s'.X.testBit i = true → M i) → e.at_ l = some p → LRel e args xs →
  ∃ fn tmps assign body, (Instr.yield p.1 xs.toArray).run P w = .ok (.round p.1 fn tmps assign body) w ∧ RoundIn Fence.wide 0 P p.1 fn tmps assign body w (EndR M e s w (.ret v s')) := by
  intro b st c hv hs' hc hst hx
  subst hv; subst hs'; subst hst; subst hc
  have hxq := put_ext (B' := Blk.loop (if c.isNone then .ready else .done) c t5 N5 p5 a5 b5 d5) hmem3
  refine ⟨hx3.trans hxq, fun M e w xs p hw hr hM hp hl => ?_⟩
  have hM3 : ∀ i, s3.X.testBit i = true → M i := fun i hi => hM i (hxq.X i hi)
  have hM2 : ∀ i, s2.X.testBit i = true → M i := fun i hi => hM3 i (hx2.X i (hxp.X i hi))
  have hMl : M l := hM _ (orB_same _ _)
  obtain ⟨fn, tmps, q, zz, k1, k2, k3, k4⟩ := loop_block hr hMl hmem hp
  obtain ⟨j1, j2⟩ := setArgs_ok hset k2 hl
  refine ⟨fn, (params.zip xs).foldl (fun (tmps : Array Value) (q : Nat × Value) => tmps.setIfInBounds q.1 q.2) tmps, assign, body, ?_, ?_⟩
  · rw [run_yield k1 (by simp [j1])]
    simp
  · obtain ⟨hr1, ht1⟩ := touch_ok (b := l) hr
    refine roundIn_of_wpIn trivial (wpIn_mono (hwp1 M e w { tmps := _, defers := [] } (some p.1) (hxt.wf hw) hr1 hM2 j2 rfl ⟨p, hp, rfl⟩) ?_)
    rintro x a1 w1 ⟨e1, g1, g2, g3, g4, g5⟩
    cases g1
    have hp1 := g5.le.1 _ _ hp
    obtain ⟨fn2, tmps2, q2, zz2, m1, m2, m3, m4⟩ := loop_block g4 hMl hmem2 hp1
    obtain ⟨n1, n2⟩ := loop_put (st := .busy) (c := none) (ps := p3) (assign := a3) (body := b3) (fn := fn2) g4 hMl hmem2 hp1 m2 m3 m4
    refine ⟨_, run_beginRound m1 rfl, wpIn_mono (hwp2 M e1 _ a1 (some p.1) (hxp.wf (hx1.wf (hxt.wf hw))) n1 hM3 g2 g3 ⟨p, hp1, rfl⟩) ?_⟩
    rintro x a2 w3 ⟨e3, y1, y2, y3, y4, y5⟩
    have hp3 := y5.le.1 _ _ hp1
    obtain ⟨fn3, tmps3, q3, zz3, z1, z2, z3, z4⟩ := loop_block y4 hMl hmem3 hp3
    obtain ⟨u1, u2⟩ := loop_put (st := if c.isNone then .ready else .done) (c := c) (ps := p5) (assign := a5) (body := b5) (fn := fn3) y4 hMl hmem3 hp3 z2 z3 z4
    have htr := (((ht1.trans hxt hx1 g5).trans (hxt.trans hx1) hxp n2).trans (hxt.trans (hx1.trans hxp)) hx2 y5).trans hx3 hxq u2
    have hend := run_endRound (P := P) c z1
    have hxx := hx x ⟨_, y1⟩
    have hR : EndR M e s w (.ret (.bool c.isNone) (s3.put l (.loop (if c.isNone then .ready else .done) c t5 N5 p5 a5 b5 d5))) (.returned (.bool c.isNone)) _ := ⟨e3, by simp only [VRel], u1, htr⟩
    cases x with
    | normal => dsimp only at hxx; subst hxx; exact ⟨_, _, hend, hR⟩
    | ret => dsimp only at hxx; subst hxx; exact ⟨_, _, hend, hR⟩
    | exit id => dsimp only at hxx; subst hxx; exact ⟨_, _, hend, hR⟩
    | goto g => exact hxx.elim
    | panic ch => exact hxx.elim
    | outgrown => exact hxx.elim
 cases o with
 | norm =>
  cases h
  exact fin true .ready none rfl rfl rfl rfl (fun x ⟨e, hx⟩ => by cases hx; rfl)
 | ret =>
  cases h
  exact fin false .done (some .ret) rfl rfl rfl rfl (fun x ⟨e, hx⟩ => by cases hx; rfl)
 | exit id =>
  cases h
  exact fin false .done (some (.exit id)) rfl rfl rfl rfl (fun x ⟨e, hx⟩ => by cases hx; rfl)
 | panic v => cases h
end
end Go.Ev
namespace Go.Ev
section
variable {P : Program} {e : Env} {M : Nat → Prop} {w : World} {N : Nat} {t : T AV} {tmps : Array Value}

noncomputable def resOf (P : Program) (t : T AV) (l : List ResultVar) : St → Option (List AV × St) := fun s => resA P t s l
/-- what the machine does with one result -/
def resM (tmps : Array Value) : ResultVar → Sem Value
 | .tmp t => pure (tmps.getD t undef)
 | .cell a t => do loadVar t (← asAddr (tmps.getD a undef))
theorem resA_ok : ∀ {l : List ResultVar} {s : St} {r : List AV × St}, resA P t s l = some r → Ext s r.2 ∧ (Rel e s M w → (∀ i, r.2.X.testBit i = true → M i) → FRel e N t tmps →
 ∃ xs, (l.mapM (resM tmps)).run P w = .ok xs w ∧ LRel e r.1 xs ∧ Rel e r.2 M w ∧ Trans e s w e r.2 w)
 | [], s, r, h => by
  cases h
  exact ⟨Ext.refl _, fun hr _ _ => ⟨[], rfl, .nil_, hr, .refl _ _ _⟩⟩
 | .tmp i :: l, s, r, h => by
  have h : (match t.get i with
   | some v => (match resA P t s l with | some (l, s) => some (v :: l, s) | none => none)
   | none => none : Option (List AV × St)) = some r := h
  split at h <;> first | (cases h; done) | skip
  rename_i v hv
  split at h <;> first | (cases h; done) | skip
  rename_i l' s' hl
  cases h
  obtain ⟨h1, h2⟩ := resA_ok hl
  refine ⟨h1, fun hr hM hf => ?_⟩
  obtain ⟨xs, g1, g2, g3, g4⟩ := h2 hr hM hf
  obtain ⟨x, hx, hvx⟩ := hf.2 i v hv
  refine ⟨x :: xs, ?_, .cons_ hvx g2, g3, g4⟩
  have e1 : tmps.getD i undef = x := by rw [Array.getD_eq_getD_getElem?, hx]; rfl
  simp only [List.mapM_cons, resM, e1, Sem.run_bind, Sem.run_pure, Result.andThen_ok, g1]
 | .cell i ty :: l, s, r, h => by
  have h : (match t.get i with
   | some a => (match loadA P ty a s with
    | some (v, s) => (match resA P t s l with | some (l, s) => some (v :: l, s) | none => none)
    | none => none)
   | none => none : Option (List AV × St)) = some r := h
  split at h <;> first | (cases h; done) | skip
  rename_i a ha
  split at h <;> first | (cases h; done) | skip
  rename_i v s1 hld
  split at h <;> first | (cases h; done) | skip
  rename_i l' s' hl
  cases h
  obtain ⟨h1, h2⟩ := resA_ok hl
  have hx1 := loadA_ext hld
  refine ⟨hx1.trans h1, fun hr hM hf => ?_⟩
  obtain ⟨b, o, row, ex, v', rfl, hb, hv, hv'⟩ := loadA_spec hld
  cases hv'
  have hMb : M b := hM _ (h1.X b (orB_same _ _))
  obtain ⟨p, hp, hB⟩ := hr.blk b _ hMb hb
  obtain ⟨x, hx, hvx⟩ := loadR_ok (P := P) hv hB
  obtain ⟨hr1, ht1⟩ := touch_ok (b := b) hr
  obtain ⟨xs, g1, g2, g3, g4⟩ := h2 hr1 hM hf
  obtain ⟨y, hy, hvy⟩ := hf.2 i _ ha
  simp only [VRel] at hvy
  obtain ⟨p', hp', rfl⟩ := hvy
  rw [hp] at hp'; cases hp'
  refine ⟨x :: xs, ?_, .cons_ hvx g2, g3, ht1.trans hx1 h1 g4⟩
  have e1 : tmps.getD i undef = .pointer (some ⟨p.1, o, none⟩) := by rw [Array.getD_eq_getD_getElem?, hy]; rfl
  simp only [List.mapM_cons, resM, e1, asAddr, Sem.run_bind, Sem.run_pure, Result.andThen_ok, hx, g1]

theorem results_eq (fn : Func) (tmps : Array Value) (xs : List Value) (h : (fn.results.toList.mapM (resM tmps)).run P w = .ok xs w) :
 (results fn tmps).run P w = .ok (if h : xs.toArray.size = 1 then xs.toArray[0] else .tuple xs.toArray) w := by
 have e1 : results fn tmps = (do let vs ← fn.results.mapM (resM tmps); pure (if h : vs.size = 1 then vs[0] else .tuple vs)) := by
  unfold results
  congr 1
 have e2 : fn.results.mapM (resM tmps) = (Functor.map List.toArray (fn.results.toList.mapM (resM tmps)) : Sem _) := by rw [Array.mapM_eq_mapM_toList]
 rw [e1, e2]
 simp only [map_eq_pure_bind, Sem.run_bind, Result.andThen_ok, Sem.run_pure, h]

theorem retA_ok {fn : Func} {s : St} {rv : RV} (h : retA P fn t s = rv) (hne : rv ≠ .fail) : ∃ v s2, rv = .ret v s2 ∧ Ext s s2 ∧ (Rel e s M w → (∀ i, s2.X.testBit i = true → M i) → FRel e N t tmps →
 ∃ x, (results fn tmps).run P w = .ok x w ∧ VRel e v x ∧ Rel e s2 M w ∧ Trans e s w e s2 w) := by
 unfold retA at h
 split at h
 · rename_i v s2 hres
   subst h
   refine ⟨v, s2, rfl, (resA_ok (e := e) (M := M) (w := w) (N := N) (tmps := tmps) hres).1, fun hr hM hf => ?_⟩
   obtain ⟨xs, g1, g2, g3, g4⟩ := (resA_ok (e := e) (M := M) (w := w) (N := N) (tmps := tmps) hres).2 hr hM hf
   obtain ⟨y, ys, rfl, hv, hl⟩ := LRel.of_cons g2
   have := LRel.of_nil hl
   subst this
   exact ⟨y, by rw [results_eq fn tmps _ g1]; rfl, hv, g3, g4⟩
 · rename_i l s2 hno hres
   subst h
   refine ⟨.tuple l, s2, rfl, (resA_ok (e := e) (M := M) (w := w) (N := N) (tmps := tmps) hres).1, fun hr hM hf => ?_⟩
   obtain ⟨xs, g1, g2, g3, g4⟩ := (resA_ok (e := e) (M := M) (w := w) (N := N) (tmps := tmps) hres).2 hr hM hf
   have hlen := LRel.length g2
   have hl1 : xs.toArray.size ≠ 1 := fun h1 => by
    simp at h1
    rw [h1] at hlen
    obtain ⟨v, rfl⟩ := List.length_eq_one_iff.1 hlen.symm
    exact hno v rfl
   refine ⟨.tuple xs.toArray, by rw [results_eq fn tmps _ g1, dif_neg hl1], ?_, g3, g4⟩
   simp only [VRel]
   exact ⟨xs, rfl, g2⟩
 · exact absurd h.symm hne
end
end Go.Ev
namespace Go.Ev
section
variable {P : Program} {ex : Op → T AV → St → OR} {N : Nat}

/-- how the frame below stands -/
def MRel (e : Env) : RM → FrameMode → Prop
 | .ret, u => u = .returning
 | .pan v, u => ∃ y, u = .panicking [{ v := y, recovered := false }] ∧ VRel e v y
 | .took, u => ∃ y, u = .panicking [{ v := y, recovered := true }]
theorem MRel.mono {e e' : Env} (h : e.le e') {m : RM} {u : FrameMode} (hm : MRel e m u) : MRel e' m u := by
 cases m with
 | ret => exact hm
 | pan v => obtain ⟨y, h1, h2⟩ := hm; exact ⟨y, h1, h2.mono h⟩
 | took => exact hm
def XS : Out → Exit → Prop
 | .norm, x => x = .normal
 | .ret, x => x = .ret
 | _, _ => False
def PostS (M : Nat → Prop) (N : Nat) (e0 : Env) (s0 : St) (w0 : World) (c₀ : Frame) (cs : List Frame) (o : Out) (t : T AV) (m : RM) (s : St) : Exit → Act → List Frame → World → Prop :=
 fun x a cs' w => ∃ e u, XS o x ∧ FRel e N t a.tmps ∧ a.defers = [] ∧ Rel e s M w ∧ Trans e0 s0 w0 e s w ∧ cs' = { c₀ with mode := u } :: cs ∧ MRel e m u
theorem PostS.behind {M : Nat → Prop} {e0 e1 : Env} {s0 s1 : St} {w0 w1 : World} {c₀ : Frame} {cs : List Frame} {o : Out} {t : T AV} {m : RM} {s : St} (x0 : Ext s0 s1) (x1 : Ext s1 s) (ht : Trans e0 s0 w0 e1 s1 w1) {x : Exit} {a : Act} {cs' : List Frame} {w : World}
 (h : PostS M N e1 s1 w1 c₀ cs o t m s x a cs' w) : PostS M N e0 s0 w0 c₀ cs o t m s x a cs' w := by
 obtain ⟨e, u, h1, h2, h3, h4, h5, h6⟩ := h
 exact ⟨e, u, h1, h2, h3, h4, ht.trans x0 x1 h5, h6⟩
theorem putK_ok {dst : Option Nat} {v : AV} {t : T AV} {k : T AV → RS} {o : Out} {t1 : T AV} {m1 : RM} {s1 : St} (h : putK .fail N dst v t k = .mk o t1 m1 s1) :
 ∃ t', k t' = .mk o t1 m1 s1 ∧ ∀ e (a : Act) x, FRel e N t a.tmps → VRel e v x → FRel e N t' (a.put dst x).tmps ∧ (a.put dst x).defers = a.defers := by
 unfold putK at h
 cases dst with
 | none => exact ⟨t, h, fun e a x hf _ => ⟨hf, rfl⟩⟩
 | some i =>
  dsimp only at h
  cases hb : Nat.ble (Nat.succ i) N with
  | false => rw [hb] at h; cases h
  | true =>
   rw [hb] at h
   exact ⟨_, h, fun e a x hf hv => ⟨hf.put (Nat.le_of_ble_eq_true hb) hv, rfl⟩⟩
theorem recoverD_mode {e : Env} {m : RM} {u : FrameMode} {c₀ : Frame} {cs : List Frame} (h : MRel e m u) :
 (∃ v y, m = .pan v ∧ VRel e v y ∧ recoverD ({ c₀ with mode := u } :: cs) = some (y, { c₀ with mode := .panicking [{ v := y, recovered := true }] } :: cs)) ∨
 ((∀ v, m ≠ .pan v) ∧ recoverD ({ c₀ with mode := u } :: cs) = none) := by
 cases m with
 | ret => cases h; exact .inr ⟨fun _ h => (by cases h), rfl⟩
 | pan v => obtain ⟨y, rfl, hv⟩ := h; exact .inl ⟨v, y, rfl, hv, rfl⟩
 | took => obtain ⟨y, rfl⟩ := h; exact .inr ⟨fun _ h => (by cases h), rfl⟩

theorem evSOps_cons {all : List Oper} {o : Oper} {l : List Oper} {t : T AV} {m : RM} {s : St} : evSOps ex N all (o :: l) t m s = (Option.rec .fail (fun b => Bool.rec (putK .fail N o.dst undefA t fun t => evSOps ex N all l t m s)
 (match ex o.op t s with
  | .val v s => putK .fail N o.dst v t fun t => evSOps ex N all l t m s
  | .other (.recov s) => (match m with
   | .pan v => putK .fail N o.dst v t fun t => evSOps ex N all l t .took s
   | _ => putK .fail N o.dst .nili t fun t => evSOps ex N all l t m s)
  | .other (.skip s) => putK .fail N o.dst undefA t fun t => evSOps ex N all l t m s
  | _ => .fail) b) (Option.rec (some true) (fun g => wantedG all g t) o.guard : Option Bool) : RS) := rfl
theorem evSOps_ok (hE : ExOk P ex) {all : List Oper} : ∀ {l : List Oper} {t : T AV} {m : RM} {s : St} {o : Out} {t1 : T AV} {m1 : RM} {s1 : St}, evSOps ex N all l t m s = .mk o t1 m1 s1 →
 Ext s s1 ∧ ∀ (M : Nat → Prop) e0 s0 w0 e w (a : Act) (c₀ : Frame) (cs : List Frame) u (ops : Array Oper) (i : Nat), ops.toList = all → all.drop i = l → Ext s0 s → Trans e0 s0 w0 e s w → Wf s → Rel e s M w → (∀ i, s1.X.testBit i = true → M i) → FRel e N t a.tmps → a.defers = [] → MRel e m u →
  wpOpsSIn Fence.wide 0 P ops (PostS M N e0 s0 w0 c₀ cs o t1 m1 s1) (List.range' i l.length) a ({ c₀ with mode := u } :: cs) w := by
 intro l
 induction l with
 | nil =>
  intro t m s o t1 m1 s1 h
  cases h
  exact ⟨Ext.refl _, fun M e0 s0 w0 e w a c₀ cs u ops i _ _ hx0 ht0 _ hr _ hf hd hm => ⟨e, u, rfl, hf, hd, hr, ht0, rfl, hm⟩⟩
 | cons o l ihl =>
  intro t m s oo t1 m1 s1 h
  rw [evSOps_cons] at h
  -- the guard
  cases hgw : (Option.rec (some true) (fun g => wantedG all g t) o.guard : Option Bool) with
  | none => rw [hgw] at h; cases h
  | some b =>
   rw [hgw] at h
   have guard : ∀ {e : Env} {a : Act} {ops : Array Oper}, ops.toList = all → FRel e N t a.tmps → Region.wanted o (yielded ops a.tmps) = b := by
    intro e a ops hops hf
    cases hg : o.guard with
    | none => rw [hg] at hgw; cases hgw; unfold Region.wanted; rw [hg]
    | some g => rw [hg] at hgw; subst hops; exact wantedG_ok hg hgw hf
   have head : ∀ {ops : Array Oper} {i : Nat}, ops.toList = all → all.drop i = o :: l → ops[i]? = some o ∧ all.drop (i + 1) = l := by
    intro ops i hops hi
    have : all[i]? = some o := by rw [← List.head?_drop, hi]; rfl
    exact ⟨by rw [← hops] at this; simpa using this, by rw [← List.drop_drop, hi]; rfl⟩
   cases b with
   | false =>
    obtain ⟨t', hk, hput⟩ := putK_ok h
    obtain ⟨g1, g2⟩ := ihl hk
    refine ⟨g1, fun M e0 s0 w0 e w a c₀ cs u ops i hops hi hx0 ht0 hw hr hM hf hd hm => ?_⟩
    obtain ⟨ho, hi2⟩ := head hops hi
    obtain ⟨p1, p2⟩ := hput e a undef hf (undef_rel e)
    rw [List.length_cons, List.range'_succ]
    unfold wpOpsSIn
    rw [ho]
    simp only [guard hops hf, Bool.false_eq_true, if_false]
    exact ⟨fun _ _ => trivial, g2 M e0 s0 w0 e w _ c₀ cs u ops (i + 1) hops hi2 hx0 ht0 hw hr hM p1 (p2.trans hd) hm⟩
   | true =>
    have hx := hE.ext s t o.op
    have hop := fun (M : Nat → Prop) e w ρ (hr : Rel e s M w) (hw : Wf s) (ho : ORho e t ρ) => hE.op M e s w t ρ o hr hw ho
    dsimp only at h
    cases hres : ex o.op t s with
    | val v s2 =>
     rw [hres] at h hx
     simp only [hres] at hop
     obtain ⟨t', hk, hput⟩ := putK_ok h
     obtain ⟨g1, g2⟩ := ihl hk
     have hx : Ext s s2 := hx
     refine ⟨hx.trans g1, fun M e0 s0 w0 e w a c₀ cs u ops i hops hi hx0 ht0 hw hr hM hf hd hm => ?_⟩
     obtain ⟨ho, hi2⟩ := head hops hi
     obtain ⟨e', w', x, k1, k2, k3, k4⟩ := hop M e w a.eval hr hw (orho_eval hf) (fun i hi => hM i (g1.X i hi))
     obtain ⟨p1, p2⟩ := hput e' a x (hf.mono k4.le) k2
     rw [List.length_cons, List.range'_succ]
     unfold wpOpsSIn
     rw [ho]
     simp only [guard hops hf, if_true, k1]
     exact ⟨fun _ _ => trivial, g2 M e0 s0 w0 e' w' _ c₀ cs u ops (i + 1) hops hi2 (hx0.trans hx) (ht0.trans hx0 hx k4) (hx.wf hw) k3 hM p1 (p2.trans hd) (hm.mono k4.le)⟩
    | other r2 =>
     rw [hres] at h hx
     simp only [hres] at hop
     cases r2 with
     | skip s2 =>
      obtain ⟨t', hk, hput⟩ := putK_ok h
      obtain ⟨g1, g2⟩ := ihl hk
      have hx : Ext s s2 := hx
      refine ⟨hx.trans g1, fun M e0 s0 w0 e w a c₀ cs u ops i hops hi hx0 ht0 hw hr hM hf hd hm => ?_⟩
      obtain ⟨ho, hi2⟩ := head hops hi
      obtain ⟨e', w', k1, k3, k4⟩ := hop M e w a.eval hr hw (orho_eval hf) (fun i hi => hM i (g1.X i hi))
      obtain ⟨p1, p2⟩ := hput e' a undef (hf.mono k4.le) (undef_rel e')
      rw [List.length_cons, List.range'_succ]
      unfold wpOpsSIn
      rw [ho]
      simp only [guard hops hf, if_true, k1]
      exact ⟨fun _ _ => trivial, g2 M e0 s0 w0 e' w' _ c₀ cs u ops (i + 1) hops hi2 (hx0.trans hx) (ht0.trans hx0 hx k4) (hx.wf hw) k3 hM p1 (p2.trans hd) (hm.mono k4.le)⟩
     | recov s2 =>
      have hx : s2 = s := hx
      subst hx
      have hm0 : ∀ {e : Env} {u : FrameMode} {c₀ : Frame} {cs : List Frame}, MRel e m u → _ := fun {e u c₀ cs} hm => recoverD_mode (c₀ := c₀) (cs := cs) hm
      cases m with
      | pan v =>
       obtain ⟨t', hk, hput⟩ := putK_ok h
       obtain ⟨g1, g2⟩ := ihl hk
       refine ⟨g1, fun M e0 s0 w0 e w a c₀ cs u ops i hops hi hx0 ht0 hw hr hM hf hd hm => ?_⟩
       obtain ⟨ho, hi2⟩ := head hops hi
       have k1 := hop M e w a.eval hr hw (orho_eval hf)
       rw [List.length_cons, List.range'_succ]
       unfold wpOpsSIn
       rw [ho]
       rcases hm0 (c₀ := c₀) (cs := cs) hm with ⟨v', y, hv', hvy, hrec⟩ | ⟨hno, _⟩
       · cases hv'
         simp only [guard hops hf, if_true, show (execOp a.eval o).run P w = _ from k1, hrec]
         obtain ⟨p1, p2⟩ := hput e a y hf hvy
         exact ⟨fun _ _ => trivial, g2 M e0 s0 w0 e w _ c₀ cs _ ops (i + 1) hops hi2 hx0 ht0 hw hr hM p1 (p2.trans hd) ⟨y, rfl⟩⟩
       · exact absurd rfl (hno v)
      | ret =>
       obtain ⟨t', hk, hput⟩ := putK_ok h
       obtain ⟨g1, g2⟩ := ihl hk
       refine ⟨g1, fun M e0 s0 w0 e w a c₀ cs u ops i hops hi hx0 ht0 hw hr hM hf hd hm => ?_⟩
       obtain ⟨ho, hi2⟩ := head hops hi
       have k1 := hop M e w a.eval hr hw (orho_eval hf)
       rw [List.length_cons, List.range'_succ]
       unfold wpOpsSIn
       rw [ho]
       rcases hm0 (c₀ := c₀) (cs := cs) hm with ⟨v', y, hv', _⟩ | ⟨_, hrec⟩
       · cases hv'
       · simp only [guard hops hf, if_true, show (execOp a.eval o).run P w = _ from k1, hrec]
         obtain ⟨p1, p2⟩ := hput e a .nilIface hf (by simp only [VRel])
         exact ⟨fun _ _ => trivial, g2 M e0 s0 w0 e w _ c₀ cs _ ops (i + 1) hops hi2 hx0 ht0 hw hr hM p1 (p2.trans hd) hm⟩
      | took =>
       obtain ⟨t', hk, hput⟩ := putK_ok h
       obtain ⟨g1, g2⟩ := ihl hk
       refine ⟨g1, fun M e0 s0 w0 e w a c₀ cs u ops i hops hi hx0 ht0 hw hr hM hf hd hm => ?_⟩
       obtain ⟨ho, hi2⟩ := head hops hi
       have k1 := hop M e w a.eval hr hw (orho_eval hf)
       rw [List.length_cons, List.range'_succ]
       unfold wpOpsSIn
       rw [ho]
       rcases hm0 (c₀ := c₀) (cs := cs) hm with ⟨v', y, hv', _⟩ | ⟨_, hrec⟩
       · cases hv'
       · simp only [guard hops hf, if_true, show (execOp a.eval o).run P w = _ from k1, hrec]
         obtain ⟨p1, p2⟩ := hput e a .nilIface hf (by simp only [VRel])
         exact ⟨fun _ _ => trivial, g2 M e0 s0 w0 e w _ c₀ cs _ ops (i + 1) hops hi2 hx0 ht0 hw hr hM p1 (p2.trans hd) hm⟩
     | fail => cases h
     | call f args s2 => cases h
     | round l args s2 => cases h
     | defer f args s2 => cases h
     | panic v s2 => cases h

theorem xs_only {M : Nat → Prop} {e0 : Env} {s0 : St} {w0 : World} {c₀ : Frame} {cs : List Frame} {o : Out} {t : T AV} {m : RM} {s : St} {K : Act → List Frame → World → Prop}
 (hK : o = .norm → ∀ a cs' w, PostS M N e0 s0 w0 c₀ cs o t m s .normal a cs' w → K a cs' w) {Q : Exit → Act → List Frame → World → Prop} (hQ : o = .ret → ∀ a cs' w, PostS M N e0 s0 w0 c₀ cs o t m s .ret a cs' w → Q .ret a cs' w) :
 ∀ x a cs' w, PostS M N e0 s0 w0 c₀ cs o t m s x a cs' w → Exit.thenS K Q x a cs' w := by
 intro x a cs' w h
 have h' := h
 obtain ⟨e, u, h1, _⟩ := h
 cases o with
 | norm => cases h1; exact hK rfl _ _ _ h'
 | ret => cases h1; exact hQ rfl _ _ _ h'
 | exit id => exact h1.elim
 | panic v => exact h1.elim

theorem wpSIn_mono {F : Fence} {n : Nat} {c : Code} {Q Q' : Exit → Act → List Frame → World → Prop} {a : Act} {cs : List Frame} {w : World} (h : c.wpSIn F n P Q a cs w) (hq : ∀ e a cs w, Q e a cs w → Q' e a cs w) : c.wpSIn F n P Q' a cs w :=
 fun b k hk hro hb hr => let ⟨e, a', cs', w', l, q, r⟩ := h b k hk hro hb hr; ⟨e, a', cs', w', l, hq _ _ _ _ q, r⟩

theorem ev0_ok : IhOk P ev0 where
 code rd N c t d s o t' d' s' h := by cases h
 call f args s := fun s' h => by cases h
 round l args s v s' h := by cases h
theorem drawS_ok {m : RM} {r : RC} {o : Out} {t1 : T AV} {m1 : RM} {s1 : St} (h : drawS m r = .mk o t1 m1 s1) : r = .mk .norm t1 [] s1 ∧ o = .norm ∧ m1 = m := by
 cases r with
 | fail => cases h
 | mk o' t d s =>
  cases o' with
  | norm =>
   cases d with
   | nil => cases h; exact ⟨rfl, rfl, rfl⟩
   | cons x l => cases h
  | exit i => cases h
  | ret => cases h
  | panic v => cases h
theorem evS_ok (hE : ExOk P ex) (hL : ExLoc ex) (hmix : P.follows .mixedOrders = true) : ∀ {c : Code} {t : T AV} {m : RM} {s : St} {o : Out} {t1 : T AV} {m1 : RM} {s1 : St}, evS ex N c t m s = .mk o t1 m1 s1 →
 Ext s s1 ∧ ∀ (M : Nat → Prop) e w (a : Act) (c₀ : Frame) (cs : List Frame) u, Wf s → Rel e s M w → (∀ i, s1.X.testBit i = true → M i) → FRel e N t a.tmps → a.defers = [] → MRel e m u →
  c.wpSIn Fence.wide 0 P (PostS M N e s w c₀ cs o t1 m1 s1) a ({ c₀ with mode := u } :: cs) w := by
 intro c
 induction c with
 | skip =>
  intro t m s o t1 m1 s1 h
  cases h
  exact ⟨Ext.refl _, fun M e w a c₀ cs u hw hr hM hf hd hm => wpSIn_of_wpIn rfl (wpIn_skip ⟨e, u, rfl, hf, hd, hr, .refl _ _ _, rfl, hm⟩)⟩
 | label l =>
  intro t m s o t1 m1 s1 h
  cases h
  exact ⟨Ext.refl _, fun M e w a c₀ cs u hw hr hM hf hd hm => wpSIn_of_wpIn rfl (wpIn_label ⟨e, u, rfl, hf, hd, hr, .refl _ _ _, rfl, hm⟩)⟩
 | ret =>
  intro t m s o t1 m1 s1 h
  cases h
  exact ⟨Ext.refl _, fun M e w a c₀ cs u hw hr hM hf hd hm => wpSIn_of_wpIn rfl (wpIn_ret ⟨e, u, rfl, hf, hd, hr, .refl _ _ _, rfl, hm⟩)⟩
 | region id ops draw =>
  intro t m s o t1 m1 s1 h
  have h : (Bool.rec (evSOps ex N ops.toList ops.toList t m s) (drawS m (evDraw ex ev0 none N ops.toList ops.toList 0 [] [] t [] s)) draw : RS) = .mk o t1 m1 s1 := h
  cases draw with
  | true =>
   obtain ⟨h1, rfl, rfl⟩ := drawS_ok h
   obtain ⟨g1, g2⟩ := draw_ok (id := id) hE ev0_ok hL hmix h1
   refine ⟨g1, fun M e w a c₀ cs u hw hr hM hf hd hm => wpSIn_of_wpIn rfl (wpIn_mono (g2 M e w a none hw hr hM hf hd rfl) ?_)⟩
   rintro x a' w' ⟨e', p1, p2, p3, p4, p5⟩
   exact ⟨e', u, p1, p2, p3, p4, p5, rfl, hm.mono p5.le⟩
  | false =>
   obtain ⟨g1, g2⟩ := evSOps_ok hE h
   refine ⟨g1, fun M e w a c₀ cs u hw hr hM hf hd hm => wpSIn_region ?_⟩
   have := g2 M e s w e w a c₀ cs u ops 0 rfl rfl (Ext.refl _) (.refl _ _ _) hw hr hM hf hd hm
   rw [Array.length_toList] at this
   rw [List.range_eq_range']
   exact this
 | seq x y ihx ihy =>
  intro t m s o t1 m1 s1 h
  have h : (match evS ex N x t m s with
   | .mk .norm t m s => evS ex N y t m s
   | r => r : RS) = .mk o t1 m1 s1 := h
  split at h
  · rename_i t2 m2 s2 hx
    obtain ⟨g1, g2⟩ := ihx hx
    obtain ⟨k1, k2⟩ := ihy h
    refine ⟨g1.trans k1, fun M e w a c₀ cs u hw hr hM hf hd hm => wpSIn_seq (wpSIn_mono (g2 M e w a c₀ cs u hw hr (fun i hi => hM i (k1.X i hi)) hf hd hm) (xs_only ?_ (fun h => by cases h)))⟩
    rintro _ a' cs' w' ⟨e', u', _, p1, p2, p3, p4, rfl, p5⟩
    exact wpSIn_mono (k2 M e' w' a' c₀ cs u' (g1.wf hw) p3 hM p1 p2 p5) fun _ _ _ _ hq => hq.behind g1 k1 p4
  · rename_i hno
    obtain ⟨g1, g2⟩ := ihx h
    refine ⟨g1, fun M e w a c₀ cs u hw hr hM hf hd hm => wpSIn_seq (wpSIn_mono (g2 M e w a c₀ cs u hw hr hM hf hd hm) (xs_only (fun ho => ?_) (fun _ _ _ _ hq => hq)))⟩
    subst ho
    exact absurd h (hno _ _ _)
 | cond c x y ihx ihy =>
  intro t m s o t1 m1 s1 h
  have h : (match opd t c with
   | some (.bool b) => Bool.rec (evS ex N y t m s) (evS ex N x t m s) b
   | _ => .fail : RS) = .mk o t1 m1 s1 := h
  split at h
  · rename_i b ho
    have ev : ∀ {e : Env} {a : Act}, FRel e N t a.tmps → a.eval c = .bool b := fun hf => by
     have := orho_eval hf c _ ho
     simpa only [VRel] using this
    cases b with
    | true => obtain ⟨g1, g2⟩ := ihx h; exact ⟨g1, fun M e w a c₀ cs u hw hr hM hf hd hm => wpSIn_cond (ev hf) (g2 M e w a c₀ cs u hw hr hM hf hd hm)⟩
    | false => obtain ⟨g1, g2⟩ := ihy h; exact ⟨g1, fun M e w a c₀ cs u hw hr hM hf hd hm => wpSIn_cond (ev hf) (g2 M e w a c₀ cs u hw hr hM hf hd hm)⟩
  · cases h
 | _ => intro t m s o t1 m1 s1 h; cases h
end
end Go.Ev
namespace Go.Ev
section
variable {P : Program} {eqT : List Nat} {meths : List (Nat × String × Nat)} {t : T AV} {s : St}
theorem ofail_ext : OExt s OR.fail := trivial
theorem orec_ext {α : Type} {o : Option α} {k : α → OR} (h : ∀ v, o = some v → OExt s (k v)) : OExt s (Option.rec OR.fail k o : OR) := by cases o with | none => trivial | some v => exact h v rfl
theorem brec_ext {b : Bool} {r : OR} (h : b = true → OExt s r) : OExt s (Bool.rec OR.fail r b : OR) := by cases b with | false => trivial | true => exact h rfl
theorem with1_ext {x : Operand} {k : AV → OR} (h : ∀ v, OExt s (k v)) : OExt s (with1 t x k) := orec_ext fun v _ => h v
theorem hMove_ext {x : Operand} : OExt s (hMove x t s) := orec_ext fun _ _ => Ext.refl s
theorem hCallV_ext {f : Operand} {args : Array Operand} : OExt s (hCallV P f args t s) := by
 refine with1_ext fun F => orec_ext fun vs _ => ?_
 unfold callF
 cases selF F with
 | none => exact orec_ext fun l _ => rfl
 | some g => exact brec_ext fun _ => rfl
theorem hCallI_ext {r : Operand} {m : String} {args : Array Operand} : OExt s (hCallI P meths r m args t s) := by
 refine with1_ext fun F => orec_ext fun vs _ => ?_
 cases F <;> first | trivial | skip
 exact orec_ext fun f _ => brec_ext fun _ => rfl
theorem hCallB_ext {b : Builtin} {tys : Array TypeId} {args : Array Operand} : OExt s (hCallB P b tys args t s) := by
 refine orec_ext fun vs _ => ?_
 unfold builtF
 split
 · exact orM_ext fun u hu => lenA_ext hu
 · exact orM_ext fun u hu => appendA_ext hu
 · exact orM_ext fun u hu => copyA_ext hu
 · exact orV_ext
 · exact orV_ext
 · rfl
 · trivial
theorem exec_ext (o : Op) : OExt s (exec P eqT meths o t s) := by
 cases o with
 | move x => exact hMove_ext
 | assign x => exact hMove_ext
 | pick c a b =>
  refine with1_ext fun c => orec_ext fun x _ => ?_
  cases x
  · exact hMove_ext
  · exact hMove_ext
 | alloc el => exact orM_ext fun u hu => by obtain ⟨B, hB⟩ := allocA_new hu; rw [hB]; exact new_ext _ _
 | box ty x => exact with1_ext fun v => new_ext _ _
 | build ty ps => exact orec_ext fun _ _ => orV_ext
 | buildSlice ty len ps => exact orec_ext fun _ _ => orM_ext fun u hu => buildSliceA_ext hu
 | load ty a => exact with1_ext fun a => orM_ext fun u hu => loadA_ext hu
 | store ty a x => exact with1_ext fun a => with1_ext fun x => orU_ext fun u hu => storeA_ext hu
 | nilCheck x => exact with1_ext fun x => brec_ext fun _ => Ext.refl s
 | binOp op ty x y yt => exact with1_ext fun a => with1_ext fun b => orV_ext
 | unOp op ty x => exact with1_ext fun a => orV_ext
 | convert src dst x =>
  refine with1_ext fun a => ?_
  cases convV P src dst a with
  | some v => exact Ext.refl s
  | none =>
   dsimp only
   cases hb : toBytesA P src dst a s with
   | some r => exact toBytesA_ext hb
   | none => exact orM_ext fun u hu => toStrA_ext hu
 | makeInterface ty x => exact with1_ext fun a => orV_ext
 | makeFunc fn first captured =>
  show OExt s (hFunc fn first captured t s)
  unfold hFunc
  split
  · split
    · exact Ext.refl s
    · trivial
  · trivial
 | makeMap ty r =>
  show OExt s (hMakeMap P ty r t s)
  unfold hMakeMap
  split
  · exact new_ext _ _
  · split
    · exact new_ext _ _
    · trivial
  · trivial
 | makeSlice ty l c => exact with1_ext fun l => with1_ext fun c => orM_ext fun u hu => makeSliceA_ext hu
 | slice ty x lo hi mx =>
  refine with1_ext fun x => orec_ext fun lo _ => orec_ext fun hi _ => orec_ext fun mx _ => ?_
  unfold slF
  split
  · exact orV_ext
  · exact orV_ext
  · exact orM_ext fun u hu => cutArr_ext hu
  · trivial
 | fieldAddr ty x f => exact with1_ext fun x => orV_ext
 | field ty x f => exact with1_ext fun x => orV_ext
 | indexAddr ty x i => exact with1_ext fun x => with1_ext fun i => orV_ext
 | index ty x i => exact with1_ext fun x => with1_ext fun i => orV_ext
 | lookup ty m k ok => exact with1_ext fun m => with1_ext fun k => orM_ext fun u hu => lookupA_ext hu
 | mapUpdate ty m k v => exact with1_ext fun m => with1_ext fun k => with1_ext fun v => orU_ext fun u hu => updateA_ext hu
 | insert ty m k v => exact with1_ext fun m => with1_ext fun k => with1_ext fun v => orU_ext fun u hu => updateA_ext hu
 | range ty x => exact with1_ext fun x => orM_ext fun u hu => rangeA_ext hu
 | next it b => exact with1_ext fun x => orM_ext fun u hu => nextA_ext hu
 | typeAssert x a b c => exact with1_ext fun x => orV_ext
 | extract x i => exact with1_ext fun x => orV_ext
 | call c =>
  obtain ⟨callee, args, tys⟩ := c
  cases callee with
  | value f => exact hCallV_ext
  | invoke r m => exact hCallI_ext
  | builtin b => exact hCallB_ext
 | defer c =>
  obtain ⟨callee, args, tys⟩ := c
  cases callee with
  | value f =>
   refine with1_ext fun f => ?_
   dsimp only
   split
   · exact orec_ext fun g _ => brec_ext fun _ => rfl
   · trivial
  | invoke r m => trivial
  | builtin b => trivial
 | panic x =>
  refine with1_ext fun x => ?_
  cases x <;> first | trivial | rfl
 | _ => trivial
theorem exec_dfr (c : Call) : exec P eqT meths (.defer c) t s = OR.fail ∨ ∃ f a s', exec P eqT meths (.defer c) t s = .other (.defer f a s') := by
 obtain ⟨callee, args, tys⟩ := c
 cases callee with
 | value f =>
  show with1 t f _ = _ ∨ ∃ f' a s', with1 t f _ = _
  unfold with1
  cases opd t f with
  | none => exact .inl rfl
  | some v =>
   dsimp only
   split
   · cases selF v with
     | none => exact .inl rfl
     | some g =>
      dsimp only
      cases enters P g.f with
      | false => exact .inl rfl
      | true => exact .inr ⟨_, _, _, rfl⟩
   · exact .inl rfl
 | invoke r m => exact .inl rfl
 | builtin b => exact .inl rfl
end
end Go.Ev
namespace Go.Ev
section
variable {P : Program} {ex : Op → T AV → St → OR} {ih : EvF}

noncomputable def frameGo (args : List AV) : Nat → T AV → T AV :=
 List.rec (motive := fun _ => Nat → T AV → T AV) (fun _ t => t) (fun a _ ih i t => ih (Nat.succ i) (t.set i a)) args
theorem frameGo_get : ∀ {args : List AV} {k : Nat} {t : T AV} {j : Nat} {v : AV}, (frameGo args k t).get j = some v → (k ≤ j ∧ args[j - k]? = some v) ∨ t.get j = some v
 | [], _, _, _, _, h => .inr h
 | a :: args, k, t, j, v, h => by
  have h : (frameGo args (Nat.succ k) (t.set k a)).get j = some v := h
  rcases frameGo_get h with ⟨h1, h2⟩ | h1
  · refine .inl ⟨by omega, ?_⟩
    rw [show j - k = (j - Nat.succ k) + 1 by omega]
    simpa using h2
  · rw [T.get_set] at h1
    by_cases e : j = k
    · rw [if_pos e] at h1; cases h1; subst e; exact .inl ⟨Nat.le_refl _, by simp⟩
    · rw [if_neg e] at h1; exact .inr h1
theorem frame_ok {e : Env} {args : List AV} {xs : List Value} {fn : Func} (hl : LRel e args xs) : FRel e (frameSz args fn) (frame args) (xs.toArray ++ Array.replicate (fn.ntmps - xs.toArray.size) undef) := by
 have hlen := LRel.length hl
 refine ⟨?_, fun i v hi => ?_⟩
 · unfold frameSz
   rw [forceN_eq, llen_eq]
   simp only [Array.size_append, List.size_toArray, Array.size_replicate, hlen]
   cases hb : Nat.ble args.length fn.ntmps with
   | true => have := Nat.le_of_ble_eq_true hb; dsimp only; omega
   | false => have := Nat.lt_of_not_le (fun h => by rw [Nat.ble_eq_true_of_le h] at hb; cases hb); dsimp only; omega
 · have hi : (frameGo args 0 .leaf).get i = some v := hi
   rcases frameGo_get hi with ⟨_, h⟩ | h
   · obtain ⟨x, hx, hv⟩ := LRel.get hl h
     rw [Nat.sub_zero] at hx
     have hlt : i < xs.length := (List.getElem?_eq_some_iff.1 hx).1
     exact ⟨x, by rw [Array.getElem?_append, if_pos (by simpa using hlt)]; simpa using hx, hv⟩
   · rw [T.get_leaf] at h; cases h

theorem evDeferred_ok (hE : ExOk P ex) (hL : ExLoc ex) (hmix : P.follows .mixedOrders = true) {f : Nat} {args : List AV} {m m1 : RM} {s s1 : St} (h : evDeferred ex P f args m s = some (m1, s1)) :
 Ext s s1 ∧ ∀ (M : Nat → Prop) e w xs u, Wf s → Rel e s M w → (∀ i, s1.X.testBit i = true → M i) → LRel e args xs → MRel e m u →
  CallsDIn Fence.wide 0 P f xs.toArray u w (fun en u' w' => ∃ e' x, en = .returned x ∧ MRel e' m1 u' ∧ Rel e' s1 M w' ∧ Trans e s w e' s1 w') := by
 unfold evDeferred at h
 split at h
 case h_2 => cases h
 rename_i fn hf
 split at h
 case h_2 => cases h
 rename_i c hb
 have key : ∀ {o : Out} {t : T AV} {m2 : RM} {s2 : St}, (o = .norm ∨ o = .ret) → evS ex (frameSz args fn) c (frame args) m s = .mk o t m2 s2 → (match resA P t s2 fn.results.toList with | some (_, s) => some (m2, s) | none => none) = some (m1, s1) →
  Ext s s1 ∧ ∀ (M : Nat → Prop) e w xs u, Wf s → Rel e s M w → (∀ i, s1.X.testBit i = true → M i) → LRel e args xs → MRel e m u →
  CallsDIn Fence.wide 0 P f xs.toArray u w (fun en u' w' => ∃ e' x, en = .returned x ∧ MRel e' m1 u' ∧ Rel e' s1 M w' ∧ Trans e s w e' s1 w') := by
  intro o t m2 s2 ho hS hres
  split at hres
  case h_2 => cases hres
  rename_i vs s3 hr3
  cases hres
  obtain ⟨g1, g2⟩ := evS_ok hE hL hmix hS
  have hx3 : Ext s2 s1 := (resA_ok (e := ⟨fun _ => none, fun _ => undef, gS⟩) (M := fun _ => True) (w := default) (N := 0) (tmps := #[]) hr3).1
  refine ⟨g1.trans hx3, fun M e w xs u hw hr hM hl hm => callsDIn_of_wpSIn hf hb trivial fun c₀ cs hu => ?_⟩
  have hc : ({ c₀ with mode := u } : Frame) = c₀ := by subst hu; rfl
  have := g2 M e w { tmps := xs.toArray ++ Array.replicate (fn.ntmps - xs.toArray.size) undef, defers := [] } c₀ cs u hw hr (fun i hi => hM i (hx3.X i hi)) (frame_ok hl) rfl hm
  rw [hc] at this
  refine wpSIn_mono this ?_
  rintro x a' cs' w' ⟨e', u', p0, p1, p2, p3, p4, rfl, p5⟩
  obtain ⟨ys, k1, k2, k3, k4⟩ := (resA_ok (e := e') (M := M) (w := w') hr3).2 p3 hM p1
  have hR : ∃ u'', { c₀ with mode := u' } :: cs = { c₀ with mode := u'' } :: cs ∧ ∃ v, (results fn a'.tmps).run P w' = .ok v w' ∧ ∃ e'' x, Ending.returned v = .returned x ∧ MRel e'' m1 u'' ∧ Rel e'' s1 M w' ∧ Trans e s w e'' s1 w' :=
   ⟨u', rfl, _, results_eq fn _ _ k1, e', _, rfl, p5, k3, p4.trans g1 hx3 k4⟩
  rcases ho with rfl | rfl
  · cases p0; exact ⟨p2, hR⟩
  · cases p0; exact ⟨p2, hR⟩
 split at h
 · rename_i t m2 s2 hS; exact key (.inl rfl) hS h
 · rename_i t m2 s2 hS; exact key (.inr rfl) hS h
 · cases h

theorem EndR.st_ {M : Nat → Prop} {e : Env} {s : St} {w w' : World} {v : AV} {s2 : St} {e' : Env} {x : Value} (h1 : VRel e' v x) (h2 : Rel e' s2 M w') (h3 : Trans e s w e' s2 w') : EndR M e s w (.ret v s2) (.returned x) w' := ⟨e', h1, h2, h3⟩

theorem evLeave_ok (hE : ExOk P ex) (hL : ExLoc ex) (hmix : P.follows .mixedOrders = true) {fn : Func} {N : Nat} {t : T AV} {rv : RV} {s2 : St} (hst : rv.st = some s2) : ∀ {d : List DE} {m : RM} {s : St}, evLeave ex P fn t d m s = rv → m ≠ .took →
 Ext s s2 ∧ ∀ (M : Nat → Prop) e0 s0 w0 e w tmps ds u, Ext s0 s → Trans e0 s0 w0 e s w → Wf s → Rel e s M w → (∀ i, s2.X.testBit i = true → M i) → FRel e N t tmps → DRel P e d ds → MRel e m u →
  LeavesInM Fence.wide 0 P fn tmps (EndR M e0 s0 w0 rv) ds u w := by
 intro d
 induction d with
 | nil =>
  intro m s h hm0
  cases m with
  | took => exact absurd rfl hm0
  | pan v =>
   have h : RV.panic v s = rv := h
   subst h
   cases hst
   refine ⟨Ext.refl _, fun M e0 s0 w0 e w tmps ds u hx0 ht0 hw hr hM hf hd hm => ?_⟩
   cases hd
   obtain ⟨y, rfl, hv⟩ := hm
   exact ⟨e, y, rfl, hv, hr, ht0⟩
  | ret =>
   have h : retA P fn t s = rv := h
   obtain ⟨v, s3, rfl, hx, _⟩ := retA_ok (e := ⟨fun _ => none, fun _ => undef, gS⟩) (M := fun _ => True) (w := default) (N := 0) (tmps := #[]) h (fun hh => by rw [hh] at hst; cases hst)
   cases hst
   refine ⟨hx, fun M e0 s0 w0 e w tmps ds u hx0 ht0 hw hr hM hf hd hm => ?_⟩
   cases hd
   cases hm
   obtain ⟨v', s3', hrv, _, hgo⟩ := retA_ok (e := e) (M := M) (w := w) (N := N) (tmps := tmps) h (fun hh => by cases hh)
   cases hrv
   obtain ⟨x, k1, k2, k3, k4⟩ := hgo hr hM hf
   exact ⟨x, k1, e, k2, k3, ht0.trans hx0 hx k4⟩
 | cons x d ihd =>
  intro m s h hm0
  have urun : ∀ {e : Env} {u : FrameMode}, MRel e m u → u ≠ .run := fun hm => by
   cases m with
   | ret => cases hm; exact fun h => by cases h
   | pan v => obtain ⟨y, rfl, _⟩ := hm; exact fun h => by cases h
   | took => exact absurd rfl hm0
  cases x with
  | mark b =>
   have h : (match s.mem.get b with
    | some (.defs true) => evLeave ex P fn t d m (s.put b (.defs false))
    | _ => .fail : RV) = rv := h
   split at h
   case h_2 => subst h; cases hst
   rename_i hmem
   have hxp := put_ext (B' := Blk.defs false) hmem
   obtain ⟨g1, g2⟩ := ihd h hm0
   refine ⟨hxp.trans g1, fun M e0 s0 w0 e w tmps ds u hx0 ht0 hw hr hM hf hd hm => ?_⟩
   obtain ⟨r, ds', rfl, ⟨z, hat⟩, hd'⟩ := hd
   have hMb : M b := hM _ (g1.X _ (orB_same _ _))
   obtain ⟨p, hp, hB⟩ := hr.blk b _ hMb hmem
   have hlt := hB.lt
   rw [hat] at hp; cases hp
   have hB : w.heap[r]? = some (.deferred (some [])) := hB
   obtain ⟨k1, k2⟩ := putObj_one (w := w) (r := r) (o := .deferred none) hlt
   obtain ⟨q1, q2⟩ := put_ok (p := (r, z)) (B := .defs false) hr hMb hmem hat k1 k2
   exact ⟨urun hm, .inl ⟨r, _, rfl, run_takeDeferred hB, g2 M e0 s0 w0 e _ tmps ds' u (hx0.trans hxp) (ht0.trans hx0 hxp q2) (hxp.wf hw) q1 hM hf hd' hm⟩⟩
  | fn f args =>
   have h : (match evDeferred ex P f args m s with
    | some (.took, s) => evLeave ex P fn t d .ret s
    | some (m, s) => evLeave ex P fn t d m s
    | none => .fail : RV) = rv := h
   have key : ∀ {m2 m3 : RM} {s3 : St}, evDeferred ex P f args m s = some (m2, s3) → evLeave ex P fn t d m3 s3 = rv → m3 ≠ .took → (∀ e u, MRel e m2 u → MRel e m3 (settle u)) →
    Ext s s2 ∧ ∀ (M : Nat → Prop) e0 s0 w0 e w tmps ds u, Ext s0 s → Trans e0 s0 w0 e s w → Wf s → Rel e s M w → (∀ i, s2.X.testBit i = true → M i) → FRel e N t tmps → DRel P e (.fn f args :: d) ds → MRel e m u →
     LeavesInM Fence.wide 0 P fn tmps (EndR M e0 s0 w0 rv) ds u w := by
    intro m2 m3 s3 hdef h hm3 hset
    obtain ⟨k1, k2⟩ := evDeferred_ok hE hL hmix hdef
    obtain ⟨g1, g2⟩ := ihd h hm3
    refine ⟨k1.trans g1, fun M e0 s0 w0 e w tmps ds u hx0 ht0 hw hr hM hf hd hm => ?_⟩
    obtain ⟨cap, dargs, ds', rfl, hl, hcall, hd'⟩ := hd
    have hc := k2 M e w _ u hw hr (fun i hi => hM i (g1.X i hi)) hl hm
    rw [Array.toArray_toList] at hc
    refine ⟨urun hm, .inr ⟨fun hh => (by cases hh), .func f, cap, f, dargs ++ cap, rfl, hcall w, fun _ _ => trivial, hc.mono ?_⟩⟩
    rintro en u' w' ⟨e', x, rfl, q1, q2, q3⟩
    exact g2 M e0 s0 w0 e' w' tmps ds' (settle u') (hx0.trans k1) (ht0.trans hx0 k1 q3) (k1.wf hw) q2 hM (hf.mono q3.le) (hd'.mono q3.le) (hset _ _ q1)
   split at h
   · rename_i s3 hdef
     exact key hdef h (fun h => by cases h) (fun e u hm => by obtain ⟨y, rfl⟩ := hm; rfl)
   · rename_i m3 s3 hno hdef
     have hm3 : m3 ≠ .took := fun h => by subst h; exact hno rfl
     refine key hdef h hm3 (fun e u hm => ?_)
     cases m3 with
     | ret => cases hm; rfl
     | pan v => obtain ⟨y, rfl, hv⟩ := hm; exact ⟨y, rfl, hv⟩
     | took => exact absurd rfl hm3
   · subst h; cases hst

theorem evCall_ok (hE : ExOk P ex) (hL : ExLoc ex) (hmix : P.follows .mixedOrders = true) (hI : IhOk P ih) {f : Nat} {args : List AV} {s : St} : CallOkR P f args s (evCall ex P ih f args s) := by
 intro s' hst
 unfold evCall at hst ⊢
 cases hf : P.funcs[f]? with
 | none => rw [hf] at hst; cases hst
 | some fn =>
  rw [hf] at hst
  dsimp only at hst ⊢
  cases hb : fn.body with
  | none => rw [hb] at hst; cases hst
  | some c =>
   rw [hb] at hst
   dsimp only at hst ⊢
   cases hc : ih.code none (frameSz args fn) c (frame args) [] s with
   | fail => rw [hc] at hst; cases hst
   | mk o t d s1 =>
    rw [hc] at hst
    dsimp only at hst ⊢
    obtain ⟨hx1, hwp⟩ := hI.code _ _ _ _ _ _ _ _ _ _ hc
    have key : ∀ (m : RM) (rv : RV), evLeave ex P fn t d m s1 = rv → rv.st = some s' → m ≠ .took → (∀ x e, XRel e o x → (x = .normal ∧ m = .ret) ∨ (x = .ret ∧ m = .ret) ∨ (∃ ch, x = .panic ch ∧ MRel e m (.panicking ch))) →
     Ext s s' ∧ ∀ (M : Nat → Prop) e w xs, Wf s → Rel e s M w → (∀ i, s'.X.testBit i = true → M i) → LRel e args xs → CallsIn Fence.wide 0 P f xs.toArray w (EndR M e s w rv) := by
     intro m rv h hst hm hx
     obtain ⟨g1, g2⟩ := evLeave_ok (N := frameSz args fn) hE hL hmix hst h hm
     refine ⟨hx1.trans g1, fun M e w xs hw hr hM hl => callsIn_of_wp_marks hf hb trivial (wpIn_mono (hwp M e w _ none hw hr (fun i hi => hM i (g1.X i hi)) (frame_ok hl) rfl rfl) ?_)⟩
     rintro x a' w' ⟨e', q0, q1, q2, q3, q4⟩
     have go := fun u hmu => g2 M e s w e' w' a'.tmps a'.defers u hx1 q4 (hx1.wf hw) q3 hM q1 q2 hmu
     rcases hx x e' q0 with ⟨rfl, rfl⟩ | ⟨rfl, rfl⟩ | ⟨ch, rfl, hmu⟩
     · exact go .returning rfl
     · exact go .returning rfl
     · exact go (.panicking ch) hmu
    cases o with
    | norm => exact key .ret _ rfl hst (fun h => by cases h) (fun x e hx => .inl ⟨hx, rfl⟩)
    | ret => exact key .ret _ rfl hst (fun h => by cases h) (fun x e hx => .inr (.inl ⟨hx, rfl⟩))
    | exit id => cases hst
    | panic v => exact key (.pan v) _ rfl hst (fun h => by cases h) (fun x e ⟨y, hx, hv⟩ => .inr (.inr ⟨_, hx, y, rfl, hv⟩))

/-- calls that are known otherwise -/
def KOk (P : Program) (K : Nat → List AV → St → Option RV) : Prop := ∀ f args s r, K f args s = some r → CallOkR P f args s r

theorem evStep_ok (hE : ExOk P ex) (hL : ExLoc ex) (hN : Named P) (hmix : P.follows .mixedOrders = true) {K : Nat → List AV → St → Option RV} (hK : KOk P K) (hI : IhOk P ih) : IhOk P (evStep ex P K ih) where
 code rd N c t d s o t' d' s' h := evCode_ok' hE hI hL hmix (fun _ _ _ _ _ _ _ _ _ _ _ h => cRange_ok hI hN h) h
 call f args s := by
  show CallOkR P f args s (Option.rec (evCall ex P ih f args s) (fun r => r) (K f args s))
  cases hk : K f args s with
  | none => exact evCall_ok hE hL hmix hI
  | some r => exact hK f args s r hk
 round l args s v s' h := evRound_ok hI h
theorem ev_ok (hE : ExOk P ex) (hL : ExLoc ex) (hN : Named P) (hmix : P.follows .mixedOrders = true) {K : Nat → List AV → St → Option RV} (hK : KOk P K) : ∀ n, IhOk P (ev ex P K n)
 | 0 => ev0_ok
 | n + 1 => evStep_ok hE hL hN hmix hK (ev_ok hE hL hN hmix hK n)
theorem exec_exOk {eqT : List Nat} {meths : List (Nat × String × Nat)} (hT : EqT P eqT) (hN : Named P) (hMe : MethOk P meths) : ExOk P (exec P eqT meths) where
 op M e s w t ρ o hr hw ho := (exec_ok hT hN hMe hr hw ho o).1
 ext s t o := exec_ext o
 dfr s t c := exec_dfr c
end
end Go.Ev
namespace Go.Ev

noncomputable def mapTo (ρ : List (Nat × Nat)) (c : Nat) : Option Nat := List.rec none (fun p _ ih => Bool.rec ih (some p.2) (Nat.beq p.1 c)) ρ
theorem mapTo_mem {ρ : List (Nat × Nat)} {c b : Nat} (h : mapTo ρ c = some b) : (c, b) ∈ ρ := by
 induction ρ with
 | nil => cases h
 | cons p ρ ih =>
  have h : (Bool.rec (mapTo ρ c) (some p.2) (Nat.beq p.1 c) : Option Nat) = some b := h
  cases hb : Nat.beq p.1 c with
  | true => rw [hb] at h; have := Nat.eq_of_beq_eq_true hb; cases h; subst this; exact List.mem_cons_self
  | false => rw [hb] at h; exact List.mem_cons_of_mem _ (ih h)
noncomputable def toB (ρ : List (Nat × Nat)) (c b : Nat) : Bool := Option.rec false (fun x => Nat.beq x b) (mapTo ρ c)
theorem toB_ok {ρ : List (Nat × Nat)} {c b : Nat} (h : toB ρ c b = true) : mapTo ρ c = some b := by
 unfold toB at h
 cases hm : mapTo ρ c with
 | none => rw [hm] at h; cases h
 | some x => rw [hm] at h; rw [Nat.eq_of_beq_eq_true h]
noncomputable def eqLN (l : List Nat) : List Nat → Bool :=
 List.rec (motive := fun _ => List Nat → Bool) (fun m => List.rec true (fun _ _ _ => false) m) (fun a _ ih m => List.rec false (fun b m _ => Bool.rec false (ih m) (Nat.beq a b)) m) l
theorem eqLN_ok : ∀ {l m : List Nat}, eqLN l m = true → l = m
 | [], [], _ => rfl
 | [], _ :: _, h => by cases h
 | _ :: _, [], h => by cases h
 | a :: l, b :: m, h => by
  have h : (Bool.rec false (eqLN l m) (Nat.beq a b) : Bool) = true := h
  cases hb : Nat.beq a b with
  | false => rw [hb] at h; cases h
  | true => rw [hb] at h; rw [Nat.eq_of_beq_eq_true hb, eqLN_ok h]
noncomputable def mtL (f : AV → AV → Bool) (l : List AV) : List AV → Bool :=
 List.rec (motive := fun _ => List AV → Bool) (fun m => List.rec true (fun _ _ _ => false) m) (fun a _ ih m => List.rec false (fun b m _ => Bool.rec false (ih m) (f a b)) m) l
noncomputable def capB (c c' : Option Nat) : Bool := Option.rec true (fun k => Option.rec false (fun k' => Nat.beq k k') c') c
noncomputable def mtStep (ρ : List (Nat × Nat)) (ih : AV → AV → Bool) (a b : AV) : Bool :=
 match a, b with
 | .bool x, .bool y => eqB x y
 | .int k x, .int j y => Bool.and (Nat.beq (kNo k) (kNo j)) (eqI x y)
 | .str x, .str y => eqLN x y
 | .nilp, .nilp | .nils, .nils | .nilm, .nilm | .nilf, .nilf | .nili, .nili => true
 | .ptr c o, .ptr d o' => Bool.and (toB ρ c d) (Nat.beq o o')
 | .slice c o l q es, .slice d o' l' q' es' => Bool.and (toB ρ c d) (Bool.and (Nat.beq o o') (Bool.and (Nat.beq l l') (Bool.and (Nat.beq es es') (capB q q'))))
 | .map c, .map d => toB ρ c d
 | .agg l, .agg m => mtL ih l m
 | .tuple l, .tuple m => mtL ih l m
 | _, _ => false
noncomputable def mt (ρ : List (Nat × Nat)) (n : Nat) : AV → AV → Bool := Nat.rec (motive := fun _ => AV → AV → Bool) (fun _ _ => false) (fun _ ih a b => mtStep ρ ih a b) n

/-- the same places, under the names of the known call -/
noncomputable def eC (ρ : List (Nat × Nat)) (e : Env) : Env := ⟨fun c => (mapTo ρ c).bind e.at_, e.sym, e.g⟩

theorem and_true {a b : Bool} (h : Bool.and a b = true) : a = true ∧ b = true := Bool.and_eq_true_iff.1 h
theorem mtL_rel {ρ : List (Nat × Nat)} {e : Env} {f : AV → AV → Bool} (hf : ∀ a b, f a b = true → ∀ x, VRel e b x → VRel (eC ρ e) a x) : ∀ {l m : List AV} {xs : List Value}, mtL f l m = true → LRel e m xs → LRel (eC ρ e) l xs
 | [], [], xs, _, h => by rw [LRel.of_nil h]; exact .nil_
 | [], _ :: _, _, h, _ => by cases h
 | _ :: _, [], _, h, _ => by cases h
 | a :: l, b :: m, xs, h, hr => by
  have h : (Bool.rec false (mtL f l m) (f a b) : Bool) = true := h
  cases hb : f a b with
  | false => rw [hb] at h; cases h
  | true =>
   rw [hb] at h
   obtain ⟨y, ys, rfl, h1, h2⟩ := LRel.of_cons hr
   exact .cons_ (hf a b hb y h1) (mtL_rel hf h h2)
theorem mtL_len {f : AV → AV → Bool} : ∀ {l m : List AV}, mtL f l m = true → l.length = m.length
 | [], [], _ => rfl
 | [], _ :: _, h => by cases h
 | _ :: _, [], h => by cases h
 | a :: l, b :: m, h => by
  have h : (Bool.rec false (mtL f l m) (f a b) : Bool) = true := h
  cases hb : f a b with
  | false => rw [hb] at h; cases h
  | true => rw [hb] at h; simp [mtL_len h]
theorem mt_rel {ρ : List (Nat × Nat)} {e : Env} : ∀ {n : Nat} {a b : AV}, mt ρ n a b = true → ∀ x, VRel e b x → VRel (eC ρ e) a x
 | 0, _, _, h, _, _ => by cases h
 | n + 1, a, b, h, x, hx => by
  change mtStep ρ (mt ρ n) a b = true at h
  unfold mtStep at h
  split at h
  · rename_i u v
    rw [eqB_eq] at h
    have : u = v := by simpa using h
    subst this
    simpa only [VRel] using hx
  · rename_i k u j v
    obtain ⟨h1, h2⟩ := and_true h
    have := kNo_inj h1
    subst this
    rw [eqI_eq] at h2
    have : u = v := by simpa using h2
    subst this
    simpa only [VRel] using hx
  · rename_i u v
    have := eqLN_ok h
    subst this
    simpa only [VRel] using hx
  · simpa only [VRel] using hx
  · simpa only [VRel] using hx
  · simpa only [VRel] using hx
  · simpa only [VRel] using hx
  · simpa only [VRel] using hx
  · rename_i c o d o'
    obtain ⟨h1, h2⟩ := and_true h
    have := Nat.eq_of_beq_eq_true h2
    subst this
    simp only [VRel] at hx ⊢
    obtain ⟨p, hp, rfl⟩ := hx
    exact ⟨p, by show (mapTo ρ c).bind e.at_ = some p; rw [toB_ok h1]; exact hp, rfl⟩
  · rename_i c o l q es d o' l' q' es'
    obtain ⟨h1, h2⟩ := and_true h
    obtain ⟨h2, h3⟩ := and_true h2
    obtain ⟨h3, h4⟩ := and_true h3
    obtain ⟨h4, h5⟩ := and_true h4
    have := Nat.eq_of_beq_eq_true h2
    subst this
    have := Nat.eq_of_beq_eq_true h3
    subst this
    have := Nat.eq_of_beq_eq_true h4
    subst this
    simp only [VRel] at hx ⊢
    obtain ⟨p, m, hp, hxe, k1, k2, k3⟩ := hx
    refine ⟨p, m, by show (mapTo ρ c).bind e.at_ = some p; rw [toB_ok h1]; exact hp, hxe, k1, fun k hk => ?_, k3⟩
    subst hk
    cases q' with
    | none => cases h5
    | some k' => have := Nat.eq_of_beq_eq_true h5; exact k2 k (by rw [this])
  · rename_i c d
    simp only [VRel] at hx ⊢
    obtain ⟨p, hp, rfl⟩ := hx
    exact ⟨p, by show (mapTo ρ c).bind e.at_ = some p; rw [toB_ok h]; exact hp, rfl⟩
  · simp only [VRel] at hx ⊢
    obtain ⟨xs, rfl, hl⟩ := hx
    exact ⟨xs, rfl, mtL_rel (fun a b hab => mt_rel (n := n) hab) h hl⟩
  · simp only [VRel] at hx ⊢
    obtain ⟨xs, rfl, hl⟩ := hx
    exact ⟨xs, rfl, mtL_rel (fun a b hab => mt_rel (n := n) hab) h hl⟩
  · cases h

/-- each block is as the known call has it -/
noncomputable def cellsB (ρ : List (Nat × Nat)) (n : Nat) (x y : Option Blk) : Bool :=
 match x, y with
 | some (.cells r ex), some (.cells r' ex') => Bool.and (mtL (mt ρ n) r r') (Bool.rec true ex' ex)
 | _, _ => false
noncomputable def swapL (ρ : List (Nat × Nat)) : List (Nat × Nat) := lmap (fun p => (p.2, p.1)) ρ
noncomputable def okB (ρ ρ' : List (Nat × Nat)) (n : Nat) (sc s : St) (l : List (Nat × Nat)) : Bool :=
 List.rec true (fun p _ ih => Bool.rec false ih (Bool.and (Nat.blt p.1 sc.next) (Bool.and (toB ρ' p.2 p.1) (cellsB ρ n (sc.mem.get p.1) (s.mem.get p.2))))) l
theorem okB_mem {ρ ρ' : List (Nat × Nat)} {n : Nat} {sc s : St} : ∀ {l : List (Nat × Nat)}, okB ρ ρ' n sc s l = true → ∀ c b, (c, b) ∈ l → c < sc.next ∧ mapTo ρ' b = some c ∧ cellsB ρ n (sc.mem.get c) (s.mem.get b) = true
 | [], _, _, _, h => by cases h
 | p :: l, h, c, b, hm => by
  have h : (Bool.rec false (okB ρ ρ' n sc s l) (Bool.and (Nat.blt p.1 sc.next) (Bool.and (toB ρ' p.2 p.1) (cellsB ρ n (sc.mem.get p.1) (s.mem.get p.2)))) : Bool) = true := h
  cases hb : Bool.and (Nat.blt p.1 sc.next) (Bool.and (toB ρ' p.2 p.1) (cellsB ρ n (sc.mem.get p.1) (s.mem.get p.2))) with
  | false => rw [hb] at h; cases h
  | true =>
   rw [hb] at h
   rcases List.mem_cons.1 hm with rfl | hm
   · obtain ⟨h1, h2⟩ := and_true hb
     obtain ⟨h2, h3⟩ := and_true h2
     exact ⟨Nat.le_of_ble_eq_true h1, toB_ok h2, h3⟩
   · exact okB_mem h c b hm
noncomputable def touches (l : List (Nat × Nat)) (s : St) : St := ⟨s.mem, s.next, List.rec (motive := fun _ => Nat) s.X (fun p _ m => orB m p.2) l, s.W⟩
theorem touches_X {s : St} {i : Nat} : ∀ {l : List (Nat × Nat)}, (touches l s).X.testBit i = true ↔ s.X.testBit i = true ∨ ∃ c, (c, i) ∈ l
 | [] => by simp [touches]
 | p :: l => by
  have ih := touches_X (s := s) (i := i) (l := l)
  show (orB (touches l s).X p.2).testBit i = true ↔ _
  rw [orB_iff, ih]
  constructor
  · rintro ((h | ⟨c, h⟩) | rfl)
    · exact .inl h
    · exact .inr ⟨c, List.mem_cons_of_mem _ h⟩
    · exact .inr ⟨p.1, List.mem_cons_self⟩
  · rintro (h | ⟨c, h⟩)
    · exact .inl (.inl h)
    · rcases List.mem_cons.1 h with rfl | h
      · exact .inr rfl
      · exact .inl (.inr ⟨c, h⟩)
theorem touches_ext {l : List (Nat × Nat)} {s : St} (h : ∀ c b, (c, b) ∈ l → ∃ B, s.mem.get b = some B) : Ext s (touches l s) :=
 ⟨Nat.le_refl _, fun i hi => touches_X.2 (.inl hi), fun _ h => h, fun hw => ⟨hw.1, fun i hi => (touches_X.1 hi).elim (hw.2.1 i) (fun ⟨c, hc⟩ => by obtain ⟨B, hB⟩ := h c i hc; exact hw.1 i B hB), fun i hi => touches_X.2 (.inl (hw.2.2 i hi))⟩,
  fun i h1 h2 => absurd h2 (Nat.not_lt.2 h1), fun _ _ => rfl, fun _ _ h => h, fun _ _ _ h => h⟩

/-- a value of no block -/
noncomputable def free : Nat → AV → Bool := Nat.rec (motive := fun _ => AV → Bool) (fun _ => false) (fun _ ih a => match a with
 | .bool _ | .int _ _ | .str _ | .nilp | .nils | .nilm | .nilf | .nili => true
 | .agg l | .tuple l => List.rec (motive := fun _ => Bool) true (fun a _ r => Bool.rec false r (ih a)) l
 | _ => false)
theorem free_list {e e' : Env} {f : AV → Bool} (hf : ∀ a, f a = true → ∀ x, VRel e' a x → VRel e a x) : ∀ {l : List AV} {xs : List Value}, (List.rec (motive := fun _ => Bool) true (fun a _ r => Bool.rec false r (f a)) l : Bool) = true → LRel e' l xs → LRel e l xs
 | [], xs, _, h => by rw [LRel.of_nil h]; exact .nil_
 | a :: l, xs, h, hr => by
  have h : (Bool.rec false (List.rec (motive := fun _ => Bool) true (fun a _ r => Bool.rec false r (f a)) l : Bool) (f a) : Bool) = true := h
  cases hb : f a with
  | false => rw [hb] at h; cases h
  | true =>
   rw [hb] at h
   obtain ⟨y, ys, rfl, h1, h2⟩ := LRel.of_cons hr
   exact .cons_ (hf a hb y h1) (free_list hf h h2)
theorem free_ok {e e' : Env} : ∀ {n : Nat} {a : AV}, free n a = true → ∀ x, VRel e' a x → VRel e a x
 | 0, _, h, _, _ => by cases h
 | n + 1, a, h, x, hx => by
  cases a <;> first | (cases h; done) | (simpa only [VRel] using hx; done) | skip
  · simp only [VRel] at hx ⊢
    obtain ⟨xs, rfl, hl⟩ := hx
    exact ⟨xs, rfl, free_list (fun a ha => free_ok (n := n) ha) h hl⟩
  · simp only [VRel] at hx ⊢
    obtain ⟨xs, rfl, hl⟩ := hx
    exact ⟨xs, rfl, free_list (fun a ha => free_ok (n := n) ha) h hl⟩

theorem memo {P : Program} {f : Nat} {argsc args : List AV} {sc sc' s : St} {v : AV} {ρ : List (Nat × Nat)} {n k : Nat} (hk : CallOkR P f argsc sc (.ret v sc')) (hwf : Wf sc) (hv : free k v = true) (hW : ∀ i, i < sc.next → sc'.W.testBit i = false)
 (hX : ∀ i, i < sc.next → sc'.X.testBit i = true → ∃ b, mapTo ρ i = some b) (hargs : mtL (mt ρ n) argsc args = true) (hok : okB ρ (swapL ρ) n sc s ρ = true) : CallOkR P f args s (.ret v (touches ρ s)) := by
 intro s' hs'
 cases hs'
 have hmem := okB_mem hok
 have hcell : ∀ {c b : Nat}, (c, b) ∈ ρ → ∃ r ex r' ex', sc.mem.get c = some (.cells r ex) ∧ s.mem.get b = some (.cells r' ex') ∧ mtL (mt ρ n) r r' = true ∧ (ex = true → ex' = true) := by
  intro c b h
  obtain ⟨_, _, h3⟩ := hmem c b h
  unfold cellsB at h3
  split at h3
  · rename_i r ex r' ex' h4 h5
    obtain ⟨h6, h7⟩ := and_true h3
    exact ⟨r, ex, r', ex', h4, h5, h6, fun he => by subst he; exact h7⟩
  · cases h3
 have hxt : Ext s (touches ρ s) := touches_ext fun c b h => by obtain ⟨r, ex, r', ex', _, h2, _⟩ := hcell h; exact ⟨_, h2⟩
 obtain ⟨hxc, hgo⟩ := hk sc' rfl
 refine ⟨hxt, fun M e w xs hw hr hM hl => ?_⟩
 have hMb : ∀ {c b : Nat}, (c, b) ∈ ρ → M b := fun {c b} h => hM b (touches_X.2 (.inr ⟨c, h⟩))
 have hat : ∀ {c : Nat} {p : Nat × Nat}, (eC ρ e).at_ c = some p → ∃ b, (c, b) ∈ ρ ∧ e.at_ b = some p := fun {c p} h => by
  have h : (mapTo ρ c).bind e.at_ = some p := h
  cases hm : mapTo ρ c with
  | none => rw [hm] at h; cases h
  | some b => rw [hm] at h; exact ⟨b, mapTo_mem hm, h⟩
 have hrc : Rel (eC ρ e) sc (fun c => sc.next ≤ c ∨ ∃ b, mapTo ρ c = some b) w := by
  refine ⟨fun c B hc hB => ?_, fun c c' B B' p p' hc hc' hB hB' hp hp' he => ?_, fun c _ hc => ?_, hr.one, ⟨hr.glob.eq, fun c p hp => (hat hp).elim fun b hb => hr.glob.out b p hb.2, hr.glob.size, hr.glob.is⟩⟩
  · have hlt := hwf.1 c B hB
    obtain ⟨b, hb⟩ := hc.resolve_left (by omega)
    obtain ⟨r, ex, r', ex', h1, h2, h3, h4⟩ := hcell (mapTo_mem hb)
    rw [hB] at h1; cases h1
    obtain ⟨p, hp, hBR⟩ := hr.blk b _ (hMb (mapTo_mem hb)) h2
    refine ⟨p, by show (mapTo ρ c).bind e.at_ = some p; rw [hb]; exact hp, ?_⟩
    obtain ⟨cs, elem, fr, k1, k2, k3, k4, k5, k6⟩ := hBR
    have hlen := mtL_len h3
    exact ⟨cs, elem, fr, k1, k2, k3, by rw [hlen]; exact k4, fun hex => by rw [hlen]; exact k5 (h4 hex), by rw [hlen]; exact mtL_rel (fun a b hab => mt_rel (n := n) hab) h3 k6⟩
  · obtain ⟨b, hb, hpb⟩ := hat hp
    obtain ⟨b', hb', hpb'⟩ := hat hp'
    obtain ⟨_, _, r', ex', _, h2, _⟩ := hcell hb
    obtain ⟨_, _, r2, ex2, _, h2', _⟩ := hcell hb'
    have := hr.inj b b' _ _ p p' (hMb hb) (hMb hb') h2 h2' hpb hpb' he
    subst this
    have e1 := (hmem c b hb).2.1
    have e2 := (hmem c' b hb').2.1
    rw [e1] at e2; cases e2; rfl
  · cases h : (eC ρ e).at_ c with
    | none => rfl
    | some p =>
     obtain ⟨b, hb, _⟩ := hat h
     have := (hmem c b hb).1
     omega
 refine (hgo (fun c => sc.next ≤ c ∨ ∃ b, mapTo ρ c = some b) (eC ρ e) w xs hwf hrc (fun i hi => (Nat.lt_or_ge i sc.next).elim (fun h => .inr (hX i h hi)) .inl) (mtL_rel (fun a b hab => mt_rel (n := n) hab) hargs hl)).mono ?_
 intro en w' hen
 cases en with
 | panicked c => exact hen.elim
 | outgrown => exact hen.elim
 | returned x =>
  obtain ⟨e', h1, h2, h3⟩ := hen
  have hkeep : ∀ i, i < w.heap.size → w'.heap[i]? = w.heap[i]? := fun i hi => h3.keep i hi fun b p hWb hp => by
   obtain ⟨b', hb', _⟩ := hat hp
   have := (hmem b b' hb').1
   rw [hW b this] at hWb; cases hWb
  refine ⟨e, free_ok hv x h1, ⟨fun b B hMB hB => ?_, hr.inj, hr.new, hr.one, hr.glob.step rfl (fun _ _ h => .inl h) (fun i hi => hkeep i (Nat.lt_of_lt_of_le hi hr.glob.size)) h3.size⟩, ⟨e.le_refl, fun _ h h' => absurd h h', h3.size, fun i hi _ => hkeep i hi, fun b p h h' => (by rw [h] at h'; cases h'), h3.same⟩⟩
  obtain ⟨p, hp, hBR⟩ := hr.blk b B hMB hB
  exact ⟨p, hp, hBR.keep e.le_refl (hkeep p.1 hBR.lt)⟩
end Go.Ev
namespace Go.Ev

/-- a memory of rows, at 0, 1, .. -/
noncomputable def rowsT (l : List (List AV × Bool)) : Nat → T Blk → T Blk :=
 List.rec (motive := fun _ => Nat → T Blk → T Blk) (fun _ t => t) (fun r _ ih i t => ih (Nat.succ i) (t.set i (.cells r.1 r.2))) l
noncomputable def rowsS (l : List (List AV × Bool)) : St := ⟨rowsT l 0 .leaf, llen l, 0, 0⟩
theorem rowsT_get : ∀ {l : List (List AV × Bool)} {i : Nat} {t : T Blk} {b : Nat} {B : Blk}, (rowsT l i t).get b = some B → b < i + l.length ∨ t.get b = some B
 | [], _, _, _, _, h => .inr h
 | r :: l, i, t, b, B, h => by
  have h : (rowsT l (Nat.succ i) (t.set i (.cells r.1 r.2))).get b = some B := h
  rcases rowsT_get h with h1 | h1
  · left; simp; omega
  · rw [T.get_set] at h1
    by_cases e : b = i
    · left; simp; omega
    · rw [if_neg e] at h1; exact .inr h1
theorem rowsS_wf (l : List (List AV × Bool)) : Wf (rowsS l) := by
 refine wf0 fun b B h => ?_
 have h : (rowsT l 0 .leaf).get b = some B := h
 rw [llen_eq]
 rcases rowsT_get h with h1 | h1
 · omega
 · rw [T.get_leaf] at h1; cases h1

/-- what a reckoned call has to be -/
noncomputable def chkR (v : AV) (n : Nat) (r : RV) : Bool := RV.rec false (fun v' s => Bool.and (mt [] 6 v v') (Nat.beq (Nat.land s.W (Nat.pred (Nat.pow 2 n))) 0)) (fun _ _ => false) r
structure Known where
 f : Nat
 args : List AV
 rows : List (List AV × Bool)
 v : AV
/-- all the places of the known call: 0 .. -/
noncomputable def allK (ρ : List (Nat × Nat)) (n : Nat) : Bool := Nat.rec true (fun i ih => Bool.rec false ih (Option.rec false (fun _ => true) (mapTo ρ i))) n
theorem allK_ok {ρ : List (Nat × Nat)} : ∀ {n : Nat}, allK ρ n = true → ∀ i, i < n → ∃ b, mapTo ρ i = some b
 | 0, _, i, hi => absurd hi (Nat.not_lt_zero _)
 | n + 1, h, i, hi => by
  change (Bool.rec false (allK ρ n) (Option.rec false (fun _ => true) (mapTo ρ n)) : Bool) = true at h
  cases hm : mapTo ρ n with
  | none => rw [hm] at h; cases h
  | some b =>
   rw [hm] at h
   rcases Nat.lt_succ_iff_lt_or_eq.1 hi with h1 | rfl
   · exact allK_ok h i h1
   · exact ⟨b, hm⟩
def KnownOk (P : Program) (k : Known) : Prop := ∃ v' sc', CallOkR P k.f k.args (rowsS k.rows) (.ret v' sc') ∧ mt [] 6 k.v v' = true ∧ ∀ i, i < k.rows.length → sc'.W.testBit i = false
theorem knownOk_of {P : Program} {k : Known} {r : RV} (h : CallOkR P k.f k.args (rowsS k.rows) r) (hc : chkR k.v (llen k.rows) r = true) : KnownOk P k := by
 cases r with
 | fail => cases hc
 | panic v s => cases hc
 | ret v' s =>
  obtain ⟨h1, h2⟩ := and_true hc
  refine ⟨v', s, h, h1, fun i hi => ?_⟩
  have h3 := Nat.eq_of_beq_eq_true h2
  cases hb : s.W.testBit i with
  | false => rfl
  | true =>
   rw [llen_eq] at h3
   have e1 : (Nat.pred (Nat.pow 2 k.rows.length)).testBit i = true := by
    show (2 ^ k.rows.length - 1).testBit i = true
    rw [Nat.testBit_two_pow_sub_one]; simpa using hi
   exact (land_zero h3 i hb e1).elim

/-- a search for the places; nothing is claimed of it -/
noncomputable def walkL (g : AV → AV → List (Nat × Nat) → List (Nat × Nat)) (l : List AV) : List AV → List (Nat × Nat) → List (Nat × Nat) :=
 List.rec (motive := fun _ => List AV → List (Nat × Nat) → List (Nat × Nat)) (fun _ a => a) (fun x _ ih m a => List.rec a (fun y m _ => ih m (g x y a)) m) l
noncomputable def rowOf (s : St) (b : Nat) : List AV := match s.mem.get b with | some (.cells r _) => r | _ => []
noncomputable def walkB (sc s : St) (g : AV → AV → List (Nat × Nat) → List (Nat × Nat)) (c d : Nat) (a : List (Nat × Nat)) : List (Nat × Nat) :=
 Option.rec (walkL g (rowOf sc c) (rowOf s d) ((c, d) :: a)) (fun _ => a) (mapTo a c)
noncomputable def walk (sc s : St) (n : Nat) : AV → AV → List (Nat × Nat) → List (Nat × Nat) :=
 Nat.rec (motive := fun _ => AV → AV → List (Nat × Nat) → List (Nat × Nat)) (fun _ _ a => a) (fun _ ih x y a => match x, y with
  | .ptr c _, .ptr d _ => walkB sc s ih c d a
  | .slice c _ _ _ _, .slice d _ _ _ _ => walkB sc s ih c d a
  | .agg l, .agg m => walkL ih l m a
  | _, _ => a) n
/-- one known call looked up -/
noncomputable def tryR (k : Known) (args : List AV) (s : St) (ρ : List (Nat × Nat)) : Option RV :=
 Bool.rec none (some (.ret k.v (touches ρ s))) (Bool.and (mtL (mt ρ 6) k.args args) (Bool.and (allK ρ (llen k.rows)) (Bool.and (free 6 k.v) (okB ρ (swapL ρ) 6 (rowsS k.rows) s ρ))))
noncomputable def tryK (k : Known) (f : Nat) (args : List AV) (s : St) : Option RV :=
 Bool.rec none (tryR k args s (walkL (walk (rowsS k.rows) s 8) k.args args [])) (Nat.beq k.f f)
theorem callOkR_weak {P : Program} {f : Nat} {args : List AV} {s sc' : St} {v v' : AV} (h : CallOkR P f args s (.ret v' sc')) (hm : mt [] 6 v v' = true) : CallOkR P f args s (.ret v sc') := by
 intro s' hs'
 cases hs'
 obtain ⟨h1, h2⟩ := h sc' rfl
 refine ⟨h1, fun M e w xs hw hr hM hl => (h2 M e w xs hw hr hM hl).mono ?_⟩
 intro en w' hen
 cases en with
 | panicked c => exact hen.elim
 | outgrown => exact hen.elim
 | returned x =>
  obtain ⟨e', g1, g2, g3⟩ := hen
  refine ⟨e', ?_, g2, g3⟩
  have h3 := mt_rel hm x g1
  have hle : (eC [] e').le e' := ⟨fun b p hb => (by change (none : Option (Nat × Nat)) = some p at hb; cases hb), rfl, rfl⟩
  exact VRel.mono hle _ _ h3
theorem tryK_ok {P : Program} {k : Known} (hk : KnownOk P k) {f : Nat} {args : List AV} {s : St} {r : RV} (h : tryK k f args s = some r) : CallOkR P f args s r := by
 unfold tryK at h
 obtain ⟨hf, h2⟩ := brec_some h
 clear h
 have := Nat.eq_of_beq_eq_true hf
 subst this
 unfold tryR at h2
 obtain ⟨hb, h3⟩ := brec_some h2
 clear h2
 cases h3
 obtain ⟨b1, b2⟩ := and_true hb
 obtain ⟨b2, b3⟩ := and_true b2
 obtain ⟨b3, b4⟩ := and_true b3
 obtain ⟨v', sc', h1, hm, hW⟩ := hk
 have hn : (rowsS k.rows).next = k.rows.length := llen_eq _
 exact memo (callOkR_weak h1 hm) (rowsS_wf _) b3 (fun i hi => hW i (by rw [← hn]; exact hi)) (fun i hi _ => allK_ok b2 i hi) b1 b4
noncomputable def tryAll (l : List Known) (K : Nat → List AV → St → Option RV) (f : Nat) (args : List AV) (s : St) : Option RV :=
 List.rec (K f args s) (fun k _ ih => Option.rec ih (fun r => some r) (tryK k f args s)) l
theorem tryAll_ok {P : Program} {K : Nat → List AV → St → Option RV} (hK : KOk P K) : ∀ {l : List Known}, (∀ k ∈ l, KnownOk P k) → KOk P (tryAll l K)
 | [], _ => hK
 | k :: l, hl => fun f args s r h => by
  change (Option.rec (tryAll l K f args s) (fun r => some r) (tryK k f args s) : Option RV) = some r at h
  cases ht : tryK k f args s with
  | none => rw [ht] at h; exact tryAll_ok hK (fun k hk => hl k (List.mem_cons_of_mem _ hk)) f args s r h
  | some r' => rw [ht] at h; cases h; exact tryK_ok (hl k List.mem_cons_self) ht
end Go.Ev
namespace Go.Ev

/-- the block is called b -/
noncomputable def renL (f : AV → Option AV) (l : List AV) : Option (List AV) := List.rec (motive := fun _ => Option (List AV)) (some []) (fun a _ ih => Option.rec none (fun a => Option.rec none (fun l => some (a :: l)) ih) (f a)) l
noncomputable def renO (b : Nat) (n : Nat) : AV → Option AV := Nat.rec (motive := fun _ => AV → Option AV) (fun _ => none) (fun _ ih a => match a with
 | .bool x => some (.bool x)
 | .int k x => some (.int k x)
 | .str x => some (.str x)
 | .nilp => some .nilp
 | .nils => some .nils
 | .nilm => some .nilm
 | .nilf => some .nilf
 | .nili => some .nili
 | .ptr _ o => some (.ptr b o)
 | .slice _ o l c es => some (.slice b o l c es)
 | .agg l => Option.rec none (fun l => some (.agg l)) (renL ih l)
 | .tuple l => Option.rec none (fun l => some (.tuple l)) (renL ih l)
 | _ => none) n
theorem renL_rel {e e' : Env} {f : AV → Option AV} (hf : ∀ a a', f a = some a' → ∀ x, VRel e a x → VRel e' a' x) : ∀ {l l' : List AV} {xs : List Value}, renL f l = some l' → LRel e l xs → LRel e' l' xs
 | [], l', xs, h, hr => by cases h; rw [LRel.of_nil hr]; exact .nil_
 | a :: l, l', xs, h, hr => by
  obtain ⟨y, ys, rfl, h1, h2⟩ := LRel.of_cons hr
  have h : (Option.rec none (fun a => (Option.rec none (fun l => some (a :: l)) (renL f l) : Option (List AV))) (f a) : Option (List AV)) = some l' := h
  obtain ⟨a', ha, h⟩ := orec h
  obtain ⟨l2, hl, h⟩ := orec h
  cases h
  exact .cons_ (hf a a' ha y h1) (renL_rel hf hl h2)
theorem renO_rel {e e' : Env} {b : Nat} (hb : ∀ j p, e.at_ j = some p → e'.at_ b = some p) : ∀ {n : Nat} {a a' : AV}, renO b n a = some a' → ∀ x, VRel e a x → VRel e' a' x
 | 0, _, _, h, _, _ => by cases h
 | n + 1, a, a', h, x, hx => by
  cases a <;> first | (cases h; done) | (cases h; simpa only [VRel] using hx; done) | skip
  · cases h
    simp only [VRel] at hx ⊢
    obtain ⟨p, hp, rfl⟩ := hx
    exact ⟨p, hb _ _ hp, rfl⟩
  · cases h
    simp only [VRel] at hx ⊢
    obtain ⟨p, m, hp, k⟩ := hx
    exact ⟨p, m, hb _ _ hp, k⟩
  · rename_i l
    obtain ⟨l2, hl, h⟩ := orec (x := renL (renO b n) l) (f := fun l => some (AV.agg l)) h
    cases h
    simp only [VRel] at hx ⊢
    obtain ⟨xs, rfl, hr⟩ := hx
    exact ⟨xs, rfl, renL_rel (fun a a' ha => renO_rel hb ha) hl hr⟩
  · rename_i l
    obtain ⟨l2, hl, h⟩ := orec (x := renL (renO b n) l) (f := fun l => some (AV.tuple l)) h
    cases h
    simp only [VRel] at hx ⊢
    obtain ⟨xs, rfl, hr⟩ := hx
    exact ⟨xs, rfl, renL_rel (fun a a' ha => renO_rel hb ha) hl hr⟩

theorem memo2 {P : Program} {f : Nat} {argsc args : List AV} {sc sc' s : St} {v v' vr : AV} {row row' : List AV} {ex' : Bool} {id : Nat} {ρ : List (Nat × Nat)} {n k kk : Nat} (hk : CallOkR P f argsc sc (.ret v' sc')) (hwf : Wf sc)
 (hv : mt [(0, id)] k v v' = true) (hid : sc.next ≤ id) (hrow : sc'.mem.get id = some (.cells row' ex')) (hfr : mtL (mt [] kk) row row' = true) (hren : renO s.next 8 v = some vr) (hW : ∀ i, i < sc.next → sc'.W.testBit i = false)
 (hX : ∀ i, i < sc.next → sc'.X.testBit i = true → ∃ b, mapTo ρ i = some b) (hargs : mtL (mt ρ n) argsc args = true) (hok : okB ρ (swapL ρ) n sc s ρ = true) : CallOkR P f args s (.ret vr ((touches ρ s).new (.cells row false))) := by
 intro s' hs'
 cases hs'
 have hmem := okB_mem hok
 have hcell : ∀ {c b : Nat}, (c, b) ∈ ρ → ∃ r ex r' ex', sc.mem.get c = some (.cells r ex) ∧ s.mem.get b = some (.cells r' ex') ∧ mtL (mt ρ n) r r' = true ∧ (ex = true → ex' = true) := by
  intro c b h
  obtain ⟨_, _, h3⟩ := hmem c b h
  unfold cellsB at h3
  split at h3
  · rename_i r ex r' ex' h4 h5
    obtain ⟨h6, h7⟩ := and_true h3
    exact ⟨r, ex, r', ex', h4, h5, h6, fun he => by subst he; exact h7⟩
  · cases h3
 have hxt : Ext s (touches ρ s) := touches_ext fun c b h => by obtain ⟨r, ex, r', ex', _, h2, _⟩ := hcell h; exact ⟨_, h2⟩
 have hx2 : Ext s ((touches ρ s).new (.cells row false)) := hxt.trans (new_ext _ _)
 obtain ⟨hxc, hgo⟩ := hk sc' rfl
 refine ⟨hx2, fun M e w xs hw hr hM hl => ?_⟩
 have hMt : ∀ i, (touches ρ s).X.testBit i = true → M i := fun i hi => hM i (orB_old hi)
 have hMn : M s.next := hM _ (orB_same _ _)
 have hMb : ∀ {c b : Nat}, (c, b) ∈ ρ → M b := fun {c b} h => hMt b (touches_X.2 (.inr ⟨c, h⟩))
 have hat : ∀ {c : Nat} {p : Nat × Nat}, (eC ρ e).at_ c = some p → ∃ b, (c, b) ∈ ρ ∧ e.at_ b = some p := fun {c p} h => by
  have h : (mapTo ρ c).bind e.at_ = some p := h
  cases hm : mapTo ρ c with
  | none => rw [hm] at h; cases h
  | some b => rw [hm] at h; exact ⟨b, mapTo_mem hm, h⟩
 have hrc : Rel (eC ρ e) sc (fun c => sc.next ≤ c ∨ ∃ b, mapTo ρ c = some b) w := by
  refine ⟨fun c B hc hB => ?_, fun c c' B B' p p' hc hc' hB hB' hp hp' he => ?_, fun c _ hc => ?_, hr.one, ⟨hr.glob.eq, fun c p hp => (hat hp).elim fun b hb => hr.glob.out b p hb.2, hr.glob.size, hr.glob.is⟩⟩
  · have hlt := hwf.1 c B hB
    obtain ⟨b, hb⟩ := hc.resolve_left (by omega)
    obtain ⟨r, ex, r', ex', h1, h2, h3, h4⟩ := hcell (mapTo_mem hb)
    rw [hB] at h1; cases h1
    obtain ⟨p, hp, hBR⟩ := hr.blk b _ (hMb (mapTo_mem hb)) h2
    refine ⟨p, by show (mapTo ρ c).bind e.at_ = some p; rw [hb]; exact hp, ?_⟩
    obtain ⟨cs, elem, fr, k1, k2, k3, k4, k5, k6⟩ := hBR
    have hlen := mtL_len h3
    exact ⟨cs, elem, fr, k1, k2, k3, by rw [hlen]; exact k4, fun hex => by rw [hlen]; exact k5 (h4 hex), by rw [hlen]; exact mtL_rel (fun a b hab => mt_rel (n := n) hab) h3 k6⟩
  · obtain ⟨b, hb, hpb⟩ := hat hp
    obtain ⟨b', hb', hpb'⟩ := hat hp'
    obtain ⟨_, _, r', ex', _, h2, _⟩ := hcell hb
    obtain ⟨_, _, r2, ex2, _, h2', _⟩ := hcell hb'
    have := hr.inj b b' _ _ p p' (hMb hb) (hMb hb') h2 h2' hpb hpb' he
    subst this
    have e1 := (hmem c b hb).2.1
    have e2 := (hmem c' b hb').2.1
    rw [e1] at e2; cases e2; rfl
  · cases h : (eC ρ e).at_ c with
    | none => rfl
    | some p =>
     obtain ⟨b, hb, _⟩ := hat h
     have := (hmem c b hb).1
     omega
 refine (hgo (fun c => sc.next ≤ c ∨ ∃ b, mapTo ρ c = some b) (eC ρ e) w xs hwf hrc (fun i hi => (Nat.lt_or_ge i sc.next).elim (fun h => .inr (hX i h hi)) .inl) (mtL_rel (fun a b hab => mt_rel (n := n) hab) hargs hl)).mono ?_
 intro en w' hen
 cases en with
 | panicked c => exact hen.elim
 | outgrown => exact hen.elim
 | returned x =>
  obtain ⟨e', h1, h2, h3⟩ := hen
  have hkeep : ∀ i, i < w.heap.size → w'.heap[i]? = w.heap[i]? := fun i hi => h3.keep i hi fun b p hWb hp => by
   obtain ⟨b', hb', _⟩ := hat hp
   have := (hmem b b' hb').1
   rw [hW b this] at hWb; cases hWb
  have hno : (eC ρ e).at_ id = none := by
   cases h : (eC ρ e).at_ id with
   | none => rfl
   | some p => obtain ⟨b, hb, _⟩ := hat h; have := (hmem id b hb).1; omega
  obtain ⟨p, hp, hBR⟩ := h2.blk id _ (.inl hid) hrow
  have hpw : w.heap.size ≤ p.1 := by
   rcases h3.fresh id p hno hp with hl | ⟨b0, q, _, hWb, hq, _, _⟩
   · exact hl
   · obtain ⟨b', hb', _⟩ := hat hq
     rw [hW b0 (hmem b0 b' hb').1] at hWb; cases hWb
  have hn : e.at_ s.next = none := hr.new _ hMn (Nat.le_refl _)
  have hle := Env.ext_le hn p
  have hB2 : BRel (e.ext s.next p) w' p (.cells row false) := by
   obtain ⟨cs, elem, fr, k1, k2, k3, k4, k5, k6⟩ := hBR
   have hlen := mtL_len hfr
   refine ⟨cs, elem, fr, k1, k2, k3, by rw [hlen]; exact k4, (fun h => by cases h), ?_⟩
   rw [hlen]
   have := mtL_rel (fun a b hab => mt_rel (n := kk) hab) hfr k6
   exact LRel.mono (e := eC [] e') (e' := e.ext s.next p) ⟨fun b p hb => (by change (none : Option (Nat × Nat)) = some p at hb; cases hb), h3.le.2.1.symm, h3.le.2.2.symm⟩ _ _ this
  have hvr : VRel (e.ext s.next p) vr x := by
   refine renO_rel (e := eC [(0, id)] e') (fun j q hq => ?_) hren x (mt_rel hv x h1)
   rw [e.ext_same]
   change (mapTo [(0, id)] j).bind e'.at_ = some q at hq
   cases hm : mapTo [(0, id)] j with
   | none => rw [hm] at hq; cases hq
   | some i =>
    have := mapTo_mem hm
    simp only [List.mem_singleton, Prod.mk.injEq] at this
    rw [hm, this.2] at hq
    exact hp.symm.trans hq
  refine ⟨e.ext s.next p, hvr, ⟨fun i C hi hC => ?_, fun i j C C' q q' hi hj hC hC' hq hq' hqq => ?_, fun i hi h => ?_, hr.one, hr.glob.step rfl (fun i q hq => if ex : i = s.next then .inr (by rw [ex, e.ext_same] at hq; cases hq; have hgo := h2.glob.out id p hp; rw [h3.le.2.2] at hgo; exact hgo) else .inl (by rw [e.ext_other _ ex] at hq; exact hq)) (fun i hi => hkeep i (Nat.lt_of_lt_of_le hi hr.glob.size)) h3.size⟩, ⟨hle, fun i hi hi' => ?_, h3.size, fun k hk _ => hkeep k hk, fun i q hi hi' => ?_, h3.same⟩⟩
  · change ((touches ρ s).mem.set s.next (.cells row false)).get i = some C at hC
    rw [T.get_set] at hC
    by_cases ex : i = s.next
    · rw [if_pos ex] at hC; cases hC; exact ⟨_, ex ▸ e.ext_same _ _, hB2⟩
    · rw [if_neg ex] at hC
      obtain ⟨q, hq, hB'⟩ := hr.blk i C hi hC
      exact ⟨q, hle.1 _ _ hq, hB'.keep hle (hkeep _ hB'.lt)⟩
  · have old : ∀ i C q, M i → i ≠ s.next → ((touches ρ s).new (.cells row false)).mem.get i = some C → (e.ext s.next p).at_ i = some q → s.mem.get i = some C ∧ e.at_ i = some q ∧ q.1 < w.heap.size := fun i C q hi ex hC hq => by
     change ((touches ρ s).mem.set s.next (.cells row false)).get i = some C at hC
     rw [T.get_set, if_neg ex] at hC
     rw [e.ext_other _ ex] at hq
     obtain ⟨q', hq', hB'⟩ := hr.blk i C hi hC
     rw [hq] at hq'; cases hq'
     exact ⟨hC, hq, hB'.lt⟩
    by_cases ei : i = s.next
    · by_cases ej : j = s.next
      · rw [ei, ej]
      · obtain ⟨_, _, h5⟩ := old j C' q' hj ej hC' hq'
        rw [ei, e.ext_same] at hq; cases hq; omega
    · obtain ⟨h1', h2', h3'⟩ := old i C q hi ei hC hq
      by_cases ej : j = s.next
      · rw [ej, e.ext_same] at hq'; cases hq'; omega
      · obtain ⟨h4, h5, _⟩ := old j C' q' hj ej hC' hq'
        exact hr.inj i j C C' q q' hi hj h1' h4 h2' h5 hqq
  · have h : Nat.succ s.next ≤ i := h
    rw [e.ext_other _ (by omega)]; exact hr.new i hi (by omega)
  · by_cases ex : i = s.next
    · subst ex; exact ⟨Nat.le_refl _, Nat.lt_succ_self _⟩
    · rw [e.ext_other _ ex] at hi'; exact absurd hi hi'
  · by_cases ex : i = s.next
    · rw [ex, e.ext_same] at hi'; cases hi'; exact .inl hpw
    · rw [e.ext_other _ ex, hi] at hi'; cases hi'

/-- a known call that gives one block, called 0 -/
structure Known2 where
 f : Nat
 args : List AV
 rows : List (List AV × Bool)
 v : AV
 row : List AV
def Known2Ok (P : Program) (k : Known2) : Prop := ∃ v' sc' id row' ex', CallOkR P k.f k.args (rowsS k.rows) (.ret v' sc') ∧ mt [(0, id)] 6 k.v v' = true ∧ k.rows.length ≤ id ∧ sc'.mem.get id = some (.cells row' ex') ∧ mtL (mt [] 6) k.row row' = true ∧ ∀ i, i < k.rows.length → sc'.W.testBit i = false
noncomputable def chkC (row : List AV) (B : Option Blk) : Bool := match B with | some (.cells r _) => mtL (mt [] 6) row r | _ => false
noncomputable def chkR2 (v : AV) (row : List AV) (n id : Nat) (r : RV) : Bool := RV.rec false (fun v' s => Bool.and (mt [(0, id)] 6 v v') (Bool.and (Nat.ble n id) (Bool.and (chkC row (s.mem.get id)) (Nat.beq (Nat.land s.W (Nat.pred (Nat.pow 2 n))) 0)))) (fun _ _ => false) r
theorem mask_false {W n i : Nat} (h : Nat.beq (Nat.land W (Nat.pred (Nat.pow 2 n))) 0 = true) (hi : i < n) : W.testBit i = false := by
 have h3 := Nat.eq_of_beq_eq_true h
 cases hb : W.testBit i with
 | false => rfl
 | true =>
  have e1 : (Nat.pred (Nat.pow 2 n)).testBit i = true := by
   show (2 ^ n - 1).testBit i = true
   rw [Nat.testBit_two_pow_sub_one]; simpa using hi
  exact (land_zero h3 i hb e1).elim
theorem known2Ok_of {P : Program} {k : Known2} {r : RV} (id : Nat) (h : CallOkR P k.f k.args (rowsS k.rows) r) (hc : chkR2 k.v k.row (llen k.rows) id r = true) : Known2Ok P k := by
 cases r with
 | fail => cases hc
 | panic v s => cases hc
 | ret v' s =>
  obtain ⟨h1, h2⟩ := and_true hc
  obtain ⟨h2, h3⟩ := and_true h2
  obtain ⟨h3, h4⟩ := and_true h3
  unfold chkC at h3
  split at h3
  · rename_i r' ex' hm
    rw [llen_eq] at h2 h4
    exact ⟨v', s, id, r', ex', h, h1, Nat.le_of_ble_eq_true h2, hm, h3, fun i hi => mask_false h4 hi⟩
  · cases h3
noncomputable def tryR2 (k : Known2) (args : List AV) (s : St) (ρ : List (Nat × Nat)) : Option RV :=
 Bool.rec none (Option.rec none (fun v => some (.ret v ((touches ρ s).new (.cells k.row false)))) (renO s.next 8 k.v)) (Bool.and (mtL (mt ρ 6) k.args args) (Bool.and (allK ρ (llen k.rows)) (okB ρ (swapL ρ) 6 (rowsS k.rows) s ρ)))
noncomputable def tryK2 (k : Known2) (f : Nat) (args : List AV) (s : St) : Option RV :=
 Bool.rec none (tryR2 k args s (walkL (walk (rowsS k.rows) s 8) k.args args [])) (Nat.beq k.f f)
theorem tryK2_ok {P : Program} {k : Known2} (hk : Known2Ok P k) {f : Nat} {args : List AV} {s : St} {r : RV} (h : tryK2 k f args s = some r) : CallOkR P f args s r := by
 unfold tryK2 at h
 obtain ⟨hf, h2⟩ := brec_some h
 clear h
 have := Nat.eq_of_beq_eq_true hf
 subst this
 unfold tryR2 at h2
 obtain ⟨hb, h3⟩ := brec_some h2
 clear h2
 obtain ⟨v, hv, h4⟩ := orec h3
 cases h4
 obtain ⟨b1, b2⟩ := and_true hb
 obtain ⟨b2, b4⟩ := and_true b2
 obtain ⟨v', sc', id, row', ex', h1, hm, hid, hrow, hfr, hW⟩ := hk
 have hn : (rowsS k.rows).next = k.rows.length := llen_eq _
 exact memo2 h1 (rowsS_wf _) hm (by rw [hn]; exact hid) hrow hfr hv (fun i hi => hW i (by rw [← hn]; exact hi)) (fun i hi _ => allK_ok b2 i hi) b1 b4
noncomputable def tryAll2 (l : List Known2) (K : Nat → List AV → St → Option RV) (f : Nat) (args : List AV) (s : St) : Option RV :=
 List.rec (K f args s) (fun k _ ih => Option.rec ih (fun r => some r) (tryK2 k f args s)) l
theorem tryAll2_ok {P : Program} {K : Nat → List AV → St → Option RV} (hK : KOk P K) : ∀ {l : List Known2}, (∀ k ∈ l, Known2Ok P k) → KOk P (tryAll2 l K)
 | [], _ => hK
 | k :: l, hl => fun f args s r h => by
  change (Option.rec (tryAll2 l K f args s) (fun r => some r) (tryK2 k f args s) : Option RV) = some r at h
  cases ht : tryK2 k f args s with
  | none => rw [ht] at h; exact tryAll2_ok hK (fun k hk => hl k (List.mem_cons_of_mem _ hk)) f args s r h
  | some r' => rw [ht] at h; cases h; exact tryK2_ok (hl k List.mem_cons_self) ht
end Go.Ev
namespace Go.Ev

noncomputable def mtE (f : AV → AV → Bool) (l : List (AV × AV × Nat)) : List (AV × AV × Nat) → Bool :=
 List.rec (motive := fun _ => List (AV × AV × Nat) → Bool) (fun m => List.rec true (fun _ _ _ => false) m) (fun a _ ih m => List.rec false (fun b m _ => Bool.rec false (ih m) (Bool.and (f a.1 b.1) (Bool.and (f a.2.1 b.2.1) (Nat.beq a.2.2 b.2.2)))) m) l
theorem mtE_rel {ρ : List (Nat × Nat)} {e : Env} {f : AV → AV → Bool} (hf : ∀ a b, f a b = true → ∀ x, VRel e b x → VRel (eC ρ e) a x) : ∀ {l m : List (AV × AV × Nat)} {xs : List MapEntry}, mtE f l m = true → ERel e m xs → ERel (eC ρ e) l xs
 | [], [], _, _, h => h
 | [], _ :: _, _, h, _ => by cases h
 | _ :: _, [], _, h, _ => by cases h
 | a :: l, b :: m, xs, h, hr => by
  have h : (Bool.rec false (mtE f l m) (Bool.and (f a.1 b.1) (Bool.and (f a.2.1 b.2.1) (Nat.beq a.2.2 b.2.2))) : Bool) = true := h
  cases hb : Bool.and (f a.1 b.1) (Bool.and (f a.2.1 b.2.1) (Nat.beq a.2.2 b.2.2)) with
  | false => rw [hb] at h; cases h
  | true =>
   rw [hb] at h
   obtain ⟨g1, g2⟩ := and_true hb
   obtain ⟨g2, g3⟩ := and_true g2
   obtain ⟨y, ys, rfl, h1, h2, h3, h4⟩ := hr
   exact ⟨y, ys, rfl, hf _ _ g1 _ h1, hf _ _ g2 _ h2, h3.trans (Nat.eq_of_beq_eq_true g3).symm, mtE_rel hf h h4⟩
theorem memo3 {P : Program} {f : Nat} {argsc args : List AV} {sc sc' s : St} {v : AV} {ρ ρc : List (Nat × Nat)} {n k c0 b0 ck ck3 : Nat} {esC es es3 es3' : List (AV × AV × Nat)} (hk : CallOkR P f argsc sc (.ret v sc')) (hwf : Wf sc) (hv : free k v = true)
 (hW : ∀ i, i < sc.next → i ≠ c0 → sc'.W.testBit i = false) (hX : ∀ i, i < sc.next → sc'.X.testBit i = true → ∃ b, mapTo ρ i = some b) (hargs : mtL (mt ρ n) argsc args = true) (hok : okB ρ (swapL ρ) n sc s ρc = true)
 (hρ : ∀ c b, (c, b) ∈ ρ → (c, b) ∈ ρc ∨ (c = c0 ∧ b = b0)) (h0 : c0 < sc.next) (h1 : mapTo ρ c0 = some b0) (h2 : mapTo (swapL ρ) b0 = some c0) (hm0 : sc.mem.get c0 = some (.map esC ck)) (hs0 : s.mem.get b0 = some (.map es ck)) (hE : mtE (mt [] 4) esC es = true)
 (hm1 : sc'.mem.get c0 = some (.map es3' ck3)) (hE3 : mtE (mt [] 4) es3 es3' = true) : CallOkR P f args s (.ret v ((touches ρ s).put b0 (.map es3 ck3))) := by
 intro s' hs'
 cases hs'
 have hmem := okB_mem hok
 have hcell : ∀ {c b : Nat}, (c, b) ∈ ρc → ∃ r ex r' ex', sc.mem.get c = some (.cells r ex) ∧ s.mem.get b = some (.cells r' ex') ∧ mtL (mt ρ n) r r' = true ∧ (ex = true → ex' = true) := by
  intro c b h
  obtain ⟨_, _, h3⟩ := hmem c b h
  unfold cellsB at h3
  split at h3
  · rename_i r ex r' ex' h4 h5
    obtain ⟨h6, h7⟩ := and_true h3
    exact ⟨r, ex, r', ex', h4, h5, h6, fun he => by subst he; exact h7⟩
  · cases h3
 have hblk : ∀ {c b : Nat}, (c, b) ∈ ρ → c < sc.next ∧ mapTo (swapL ρ) b = some c ∧ ∃ B, s.mem.get b = some B := fun {c b} h => by
  rcases hρ c b h with h | ⟨rfl, rfl⟩
  · obtain ⟨g1, g2, _⟩ := hmem c b h
    obtain ⟨_, _, r', ex', _, g3, _⟩ := hcell h
    exact ⟨g1, g2, _, g3⟩
  · exact ⟨h0, h2, _, hs0⟩
 have hin : (c0, b0) ∈ ρ := mapTo_mem h1
 have hxt : Ext s (touches ρ s) := touches_ext fun c b h => (hblk h).2.2
 have hx2 : Ext s ((touches ρ s).put b0 (.map es3 ck3)) := hxt.trans (put_ext (B := .map es ck) hs0)
 obtain ⟨hxc, hgo⟩ := hk sc' rfl
 refine ⟨hx2, fun M e w xs hw hr hM hl => ?_⟩
 have hMb : ∀ {c b : Nat}, (c, b) ∈ ρ → M b := fun {c b} h => hM b (orB_old (touches_X.2 (.inr ⟨c, h⟩)))
 have hat : ∀ {c : Nat} {p : Nat × Nat}, (eC ρ e).at_ c = some p → ∃ b, mapTo ρ c = some b ∧ (c, b) ∈ ρ ∧ e.at_ b = some p := fun {c p} h => by
  have h : (mapTo ρ c).bind e.at_ = some p := h
  cases hm : mapTo ρ c with
  | none => rw [hm] at h; cases h
  | some b => rw [hm] at h; exact ⟨b, rfl, mapTo_mem hm, h⟩
 obtain ⟨p0, hp0, hB0⟩ := hr.blk b0 _ (hMb hin) hs0
 have hp0C : (eC ρ e).at_ c0 = some p0 := by show (mapTo ρ c0).bind e.at_ = some p0; rw [h1]; exact hp0
 have hle0 : (eC [] e).le (eC ρ e) := ⟨fun b p hb => (by change (none : Option (Nat × Nat)) = some p at hb; cases hb), rfl, rfl⟩
 have hrc : Rel (eC ρ e) sc (fun c => sc.next ≤ c ∨ ∃ b, mapTo ρ c = some b) w := by
  refine ⟨fun c B hc hB => ?_, fun c c' B B' p p' hc hc' hB hB' hp hp' he => ?_, fun c _ hc => ?_, hr.one, ⟨hr.glob.eq, fun c p hp => (hat hp).elim fun b hb => hr.glob.out b p hb.2.2, hr.glob.size, hr.glob.is⟩⟩
  · have hlt := hwf.1 c B hB
    obtain ⟨b, hb⟩ := hc.resolve_left (by omega)
    rcases hρ c b (mapTo_mem hb) with hin2 | ⟨rfl, rfl⟩
    · obtain ⟨r, ex, r', ex', h1, h2, h3, h4⟩ := hcell hin2
      rw [hB] at h1; cases h1
      obtain ⟨p, hp, hBR⟩ := hr.blk b _ (hMb (mapTo_mem hb)) h2
      refine ⟨p, by show (mapTo ρ c).bind e.at_ = some p; rw [hb]; exact hp, ?_⟩
      obtain ⟨cs, elem, fr, k1, k2, k3, k4, k5, k6⟩ := hBR
      have hlen := mtL_len h3
      exact ⟨cs, elem, fr, k1, k2, k3, by rw [hlen]; exact k4, fun hex => by rw [hlen]; exact k5 (h4 hex), by rw [hlen]; exact mtL_rel (fun a b hab => mt_rel (n := n) hab) h3 k6⟩
    · rw [hm0] at hB; cases hB
      obtain ⟨xs, g1, g2⟩ := hB0
      exact ⟨p0, hp0C, xs, g1, (mtE_rel (fun a b hab => mt_rel (n := 4) hab) hE g2).mono hle0⟩
  · obtain ⟨b, hmb, hb, hpb⟩ := hat hp
    obtain ⟨b', hmb', hb', hpb'⟩ := hat hp'
    obtain ⟨_, e1, C, hC⟩ := hblk hb
    obtain ⟨_, e2, C', hC'⟩ := hblk hb'
    have := hr.inj b b' _ _ p p' (hMb hb) (hMb hb') hC hC' hpb hpb' he
    subst this
    rw [e1] at e2; cases e2; rfl
  · cases h : (eC ρ e).at_ c with
    | none => rfl
    | some p =>
     obtain ⟨b, _, hb, _⟩ := hat h
     have := (hblk hb).1
     omega
 refine (hgo (fun c => sc.next ≤ c ∨ ∃ b, mapTo ρ c = some b) (eC ρ e) w xs hwf hrc (fun i hi => (Nat.lt_or_ge i sc.next).elim (fun h => .inr (hX i h hi)) .inl) (mtL_rel (fun a b hab => mt_rel (n := n) hab) hargs hl)).mono ?_
 intro en w' hen
 cases en with
 | panicked c => exact hen.elim
 | outgrown => exact hen.elim
 | returned x =>
  obtain ⟨e', g1, g2, g3⟩ := hen
  have hkeep : ∀ i, i < w.heap.size → p0.1 ≠ i → w'.heap[i]? = w.heap[i]? := fun i hi hne => g3.keep i hi fun c q hWc hq => by
   obtain ⟨b', hmb, hb', hq'⟩ := hat hq
   have hlt := (hblk hb').1
   by_cases hc : c = c0
   · subst hc
     rw [h1] at hmb; cases hmb
     rw [hp0] at hq'; cases hq'
     exact hne
   · rw [hW c hlt hc] at hWc; cases hWc
  obtain ⟨p', hp', hB'⟩ := g2.blk c0 _ (.inr ⟨b0, h1⟩) hm1
  rw [g3.le.1 c0 p0 hp0C] at hp'
  cases hp'
  obtain ⟨ys, hy1, hy2⟩ := hB'
  have hleE : (eC [] e').le e := ⟨fun b p hb => (by change (none : Option (Nat × Nat)) = some p at hb; cases hb), g3.le.2.1.symm, g3.le.2.2.symm⟩
  have hBn : BRel e w' p0 (.map es3 ck3) := ⟨ys, hy1, (mtE_rel (fun a b hab => mt_rel (n := 4) hab) hE3 hy2).mono hleE⟩
  have live : ∀ i C, ((touches ρ s).put b0 (.map es3 ck3)).mem.get i = some C → ∃ C', s.mem.get i = some C' := fun i C hi => by
   have hi : ((touches ρ s).mem.set b0 (.map es3 ck3)).get i = some C := hi
   rw [T.get_set] at hi
   by_cases ex : i = b0
   · exact ⟨_, ex ▸ hs0⟩
   · rw [if_neg ex] at hi; exact ⟨C, hi⟩
  refine ⟨e, free_ok hv x g1, ⟨fun i C hi hC => ?_, fun i j C C' q q' hi hj hC hC' hq hq' hqq => ?_, hr.new, hr.one, hr.glob.step rfl (fun _ _ h => .inl h) (fun i hi => hkeep i (Nat.lt_of_lt_of_le hi hr.glob.size) (fun h => by have := hr.glob.out b0 p0 hp0; omega)) g3.size⟩,
   ⟨e.le_refl, fun _ h h' => absurd h h', g3.size, fun i hi hWi => hkeep i hi (hWi b0 p0 (orB_same _ _) hp0), fun b p h h' => (by rw [h] at h'; cases h'), g3.same⟩⟩
  · have hC : ((touches ρ s).mem.set b0 (.map es3 ck3)).get i = some C := hC
    rw [T.get_set] at hC
    by_cases ex : i = b0
    · rw [if_pos ex] at hC; cases hC; exact ⟨p0, ex ▸ hp0, hBn⟩
    · rw [if_neg ex] at hC
      obtain ⟨q, hq, hBR⟩ := hr.blk i C hi hC
      exact ⟨q, hq, hBR.keep e.le_refl (hkeep q.1 hBR.lt fun h => ex (hr.inj i b0 _ _ q p0 hi (hMb hin) hC hs0 hq hp0 h.symm))⟩
  · obtain ⟨D, hD⟩ := live i C hC
    obtain ⟨D', hD'⟩ := live j C' hC'
    exact hr.inj i j _ _ q q' hi hj hD hD' hq hq' hqq

/-- a known call that turns one map: blocks 0 .. are rows of cells, the one behind them is the map -/
structure Known3 where
 f : Nat
 args : List AV
 rows : List (List AV × Bool)
 es : List (AV × AV × Nat)
 ck : Nat
 v : AV
 es3 : List (AV × AV × Nat)
 ck3 : Nat
noncomputable def rowsM (l : List (List AV × Bool)) (es : List (AV × AV × Nat)) (ck : Nat) : St := ⟨(rowsT l 0 .leaf).set (llen l) (.map es ck), Nat.succ (llen l), 0, 0⟩
theorem rowsM_wf (l : List (List AV × Bool)) (es : List (AV × AV × Nat)) (ck : Nat) : Wf (rowsM l es ck) := by
 refine wf0 fun b B h => ?_
 have h : ((rowsT l 0 .leaf).set (llen l) (.map es ck)).get b = some B := h
 rw [T.get_set] at h
 by_cases ex : b = llen l
 · omega
 · rw [if_neg ex] at h
   rw [llen_eq]
   rcases rowsT_get h with h1 | h1
   · omega
   · rw [T.get_leaf] at h1; cases h1
def Known3Ok (P : Program) (k : Known3) : Prop := ∃ v' sc' es3', CallOkR P k.f k.args (rowsM k.rows k.es k.ck) (.ret v' sc') ∧ mt [] 6 k.v v' = true ∧ (∀ i, i < k.rows.length → sc'.W.testBit i = false) ∧ sc'.mem.get k.rows.length = some (.map es3' k.ck3) ∧ mtE (mt [] 4) k.es3 es3' = true
noncomputable def chkM (es : List (AV × AV × Nat)) (ck : Nat) (B : Option Blk) : Bool := match B with | some (.map e c) => Bool.and (mtE (mt [] 4) es e) (Nat.beq c ck) | _ => false
noncomputable def chkR3 (v : AV) (es : List (AV × AV × Nat)) (ck n : Nat) (r : RV) : Bool := RV.rec false (fun v' s => Bool.and (mt [] 6 v v') (Bool.and (chkM es ck (s.mem.get n)) (Nat.beq (Nat.land s.W (Nat.pred (Nat.pow 2 n))) 0))) (fun _ _ => false) r
theorem known3Ok_of {P : Program} {k : Known3} {r : RV} (h : CallOkR P k.f k.args (rowsM k.rows k.es k.ck) r) (hc : chkR3 k.v k.es3 k.ck3 (llen k.rows) r = true) : Known3Ok P k := by
 cases r with
 | fail => cases hc
 | panic v s => cases hc
 | ret v' s =>
  obtain ⟨h1, h2⟩ := and_true hc
  obtain ⟨h2, h3⟩ := and_true h2
  unfold chkM at h2
  split at h2
  · rename_i es' c hm
    obtain ⟨h4, h5⟩ := and_true h2
    rw [Nat.eq_of_beq_eq_true h5] at hm
    rw [llen_eq] at h3 hm
    exact ⟨v', s, es', h, h1, fun i hi => mask_false h3 hi, hm, h4⟩
  · cases h2
/-- the places, found on the road through the arguments: maps too -/
noncomputable def walk3 (sc s : St) (n : Nat) : AV → AV → List (Nat × Nat) → List (Nat × Nat) :=
 Nat.rec (motive := fun _ => AV → AV → List (Nat × Nat) → List (Nat × Nat)) (fun _ _ a => a) (fun _ ih x y a => match x, y with
  | .ptr c _, .ptr d _ => walkB sc s ih c d a
  | .slice c _ _ _ _, .slice d _ _ _ _ => walkB sc s ih c d a
  | .map c, .map d => Option.rec ((c, d) :: a) (fun _ => a) (mapTo a c)
  | .agg l, .agg m => walkL ih l m a
  | _, _ => a) n
noncomputable def lbut (n : Nat) (l : List (Nat × Nat)) : List (Nat × Nat) := List.rec (motive := fun _ => List (Nat × Nat)) [] (fun p _ ih => Bool.rec (p :: ih) ih (Nat.beq p.1 n)) l
theorem lbut_mem {n : Nat} : ∀ {l : List (Nat × Nat)} {c b : Nat}, (c, b) ∈ l → (c, b) ∈ lbut n l ∨ c = n
 | [], _, _, h => by cases h
 | p :: l, c, b, h => by
  show (c, b) ∈ (Bool.rec (p :: lbut n l) (lbut n l) (Nat.beq p.1 n) : List (Nat × Nat)) ∨ c = n
  cases hb : Nat.beq p.1 n with
  | true =>
   rcases List.mem_cons.1 h with rfl | h
   · exact .inr (Nat.eq_of_beq_eq_true hb)
   · exact lbut_mem h
  | false =>
   rcases List.mem_cons.1 h with rfl | h
   · exact .inl List.mem_cons_self
   · exact (lbut_mem h).imp (List.mem_cons_of_mem _) id
/-- the place is called by one name alone -/
noncomputable def oneTo (n b : Nat) (l : List (Nat × Nat)) : Bool := List.rec true (fun p _ ih => Bool.rec ih (Bool.rec false ih (Nat.beq p.2 b)) (Nat.beq p.1 n)) l
theorem oneTo_mem {n b : Nat} : ∀ {l : List (Nat × Nat)}, oneTo n b l = true → ∀ {d : Nat}, (n, d) ∈ l → d = b
 | [], _, _, h => by cases h
 | p :: l, hl, d, h => by
  have hl : (Bool.rec (oneTo n b l) (Bool.rec false (oneTo n b l) (Nat.beq p.2 b)) (Nat.beq p.1 n) : Bool) = true := hl
  cases hb : Nat.beq p.1 n with
  | true =>
   rw [hb] at hl
   cases hb2 : Nat.beq p.2 b with
   | false => rw [hb2] at hl; cases hl
   | true =>
    rw [hb2] at hl
    rcases List.mem_cons.1 h with rfl | h
    · exact Nat.eq_of_beq_eq_true hb2
    · exact oneTo_mem hl h
  | false =>
   rw [hb] at hl
   rcases List.mem_cons.1 h with rfl | h
   · rw [Nat.beq_refl] at hb; cases hb
   · exact oneTo_mem hl h
noncomputable def tryM3 (k : Known3) (args : List AV) (s : St) (ρ : List (Nat × Nat)) (b0 : Nat) (es : List (AV × AV × Nat)) (ck : Nat) : Option RV :=
 Bool.rec none (some (.ret k.v ((touches ρ s).put b0 (.map k.es3 k.ck3)))) (Bool.and (mtL (mt ρ 6) k.args args) (Bool.and (allK ρ (Nat.succ (llen k.rows))) (Bool.and (free 6 k.v) (Bool.and (okB ρ (swapL ρ) 6 (rowsM k.rows k.es k.ck) s (lbut (llen k.rows) ρ))
  (Bool.and (oneTo (llen k.rows) b0 ρ) (Bool.and (toB (swapL ρ) b0 (llen k.rows)) (Bool.and (Nat.beq k.ck ck) (mtE (mt [] 4) k.es es))))))))
noncomputable def tryR3 (k : Known3) (args : List AV) (s : St) (ρ : List (Nat × Nat)) : Option RV :=
 Option.rec none (fun b0 => match s.mem.get b0 with | some (.map es ck) => tryM3 k args s ρ b0 es ck | _ => none) (mapTo ρ (llen k.rows))
noncomputable def tryK3 (k : Known3) (f : Nat) (args : List AV) (s : St) : Option RV :=
 Bool.rec none (tryR3 k args s (walkL (walk3 (rowsM k.rows k.es k.ck) s 8) k.args args [])) (Nat.beq k.f f)
theorem tryK3_ok {P : Program} {k : Known3} (hk : Known3Ok P k) {f : Nat} {args : List AV} {s : St} {r : RV} (h : tryK3 k f args s = some r) : CallOkR P f args s r := by
 unfold tryK3 at h
 obtain ⟨hf, h2⟩ := brec_some h
 clear h
 have := Nat.eq_of_beq_eq_true hf
 subst this
 unfold tryR3 at h2
 obtain ⟨b0, hb0, h3⟩ := orec h2
 clear h2
 generalize walkL (walk3 (rowsM k.rows k.es k.ck) s 8) k.args args [] = ρ at *
 split at h3
 · rename_i es ck hs
   unfold tryM3 at h3
   obtain ⟨hb, h4⟩ := brec_some h3
   cases h4
   obtain ⟨b1, c1⟩ := and_true hb
   obtain ⟨b2, c2⟩ := and_true c1
   obtain ⟨b3, c3⟩ := and_true c2
   obtain ⟨b4, c4⟩ := and_true c3
   obtain ⟨b5, c5⟩ := and_true c4
   obtain ⟨b6, c6⟩ := and_true c5
   obtain ⟨b7, b8⟩ := and_true c6
   clear hb c1 c2 c3 c4 c5 c6 h3
   obtain ⟨v', sc', es3', h1, hm, hW, hmap, hE3⟩ := hk
   have hn : (rowsM k.rows k.es k.ck).next = k.rows.length + 1 := congrArg Nat.succ (llen_eq _)
   have hck := Nat.eq_of_beq_eq_true b7
   subst hck
   refine memo3 (callOkR_weak h1 hm) (rowsM_wf _ _ _) b3 (c0 := llen k.rows) (b0 := b0) (esC := k.es) (es := es) (ck := k.ck) (es3' := es3') (fun i hi hne => hW i (by rw [hn] at hi; rw [llen_eq] at hne; omega)) (fun i hi _ => allK_ok b2 i hi) b1 b4 (fun c b h => ?_) (Nat.lt_succ_self _) hb0 (toB_ok b6) ?_ hs b8 (by rw [llen_eq]; exact hmap) hE3
   · rcases lbut_mem (n := llen k.rows) h with h | rfl
     · exact .inl h
     · exact .inr ⟨rfl, oneTo_mem b5 h⟩
   · show ((rowsT k.rows 0 .leaf).set (llen k.rows) (.map k.es k.ck)).get (llen k.rows) = _
     rw [T.get_set, if_pos rfl]
 · cases h3
noncomputable def tryAll3 (l : List Known3) (K : Nat → List AV → St → Option RV) (f : Nat) (args : List AV) (s : St) : Option RV :=
 List.rec (K f args s) (fun k _ ih => Option.rec ih (fun r => some r) (tryK3 k f args s)) l
theorem tryAll3_ok {P : Program} {K : Nat → List AV → St → Option RV} (hK : KOk P K) : ∀ {l : List Known3}, (∀ k ∈ l, Known3Ok P k) → KOk P (tryAll3 l K)
 | [], _ => hK
 | k :: l, hl => fun f args s r h => by
  change (Option.rec (tryAll3 l K f args s) (fun r => some r) (tryK3 k f args s) : Option RV) = some r at h
  cases ht : tryK3 k f args s with
  | none => rw [ht] at h; exact tryAll3_ok hK (fun k hk => hl k (List.mem_cons_of_mem _ hk)) f args s r h
  | some r' => rw [ht] at h; cases h; exact tryK3_ok (hl k List.mem_cons_self) ht
end Go.Ev
namespace Go.Ev

/-- other names for the blocks -/
noncomputable def renM (τ : List (Nat × Nat)) (n : Nat) : AV → Option AV := Nat.rec (motive := fun _ => AV → Option AV) (fun _ => none) (fun _ ih a => match a with
 | .bool x => some (.bool x)
 | .int k x => some (.int k x)
 | .str x => some (.str x)
 | .nilp => some .nilp
 | .nils => some .nils
 | .nilm => some .nilm
 | .nilf => some .nilf
 | .nili => some .nili
 | .ptr j o => Option.rec none (fun b => some (.ptr b o)) (mapTo τ j)
 | .slice j o l c es => Option.rec none (fun b => some (.slice b o l c es)) (mapTo τ j)
 | .agg l => Option.rec none (fun l => some (.agg l)) (renL ih l)
 | .tuple l => Option.rec none (fun l => some (.tuple l)) (renL ih l)
 | _ => none) n
theorem renM_rel {e e' : Env} {τ : List (Nat × Nat)} (hb : ∀ j b p, mapTo τ j = some b → e.at_ j = some p → e'.at_ b = some p) : ∀ {n : Nat} {a a' : AV}, renM τ n a = some a' → ∀ x, VRel e a x → VRel e' a' x
 | 0, _, _, h, _, _ => by cases h
 | n + 1, a, a', h, x, hx => by
  cases a <;> first | (cases h; done) | (cases h; simpa only [VRel] using hx; done) | skip
  · rename_i j o
    obtain ⟨b, hm, h⟩ := orec (x := mapTo τ j) (f := fun b => some (AV.ptr b o)) h
    cases h
    simp only [VRel] at hx ⊢
    obtain ⟨p, hp, rfl⟩ := hx
    exact ⟨p, hb _ _ _ hm hp, rfl⟩
  · rename_i j o l c es
    obtain ⟨b, hm, h⟩ := orec (x := mapTo τ j) (f := fun b => some (AV.slice b o l c es)) h
    cases h
    simp only [VRel] at hx ⊢
    obtain ⟨p, m, hp, k⟩ := hx
    exact ⟨p, m, hb _ _ _ hm hp, k⟩
  · rename_i l
    obtain ⟨l2, hl, h⟩ := orec (x := renL (renM τ n) l) (f := fun l => some (AV.agg l)) h
    cases h
    simp only [VRel] at hx ⊢
    obtain ⟨xs, rfl, hr⟩ := hx
    exact ⟨xs, rfl, renL_rel (fun a a' ha => renM_rel hb ha) hl hr⟩
  · rename_i l
    obtain ⟨l2, hl, h⟩ := orec (x := renL (renM τ n) l) (f := fun l => some (AV.tuple l)) h
    cases h
    simp only [VRel] at hx ⊢
    obtain ⟨xs, rfl, hr⟩ := hx
    exact ⟨xs, rfl, renL_rel (fun a a' ha => renM_rel hb ha) hl hr⟩
theorem renL_len {f : AV → Option AV} : ∀ {l l' : List AV}, renL f l = some l' → l.length = l'.length
 | [], _, h => by cases h; rfl
 | a :: l, l', h => by
  have h : (Option.rec none (fun a => (Option.rec none (fun l => some (a :: l)) (renL f l) : Option (List AV))) (f a) : Option (List AV)) = some l' := h
  obtain ⟨a', ha, h⟩ := orec h
  obtain ⟨l2, hl, h⟩ := orec h
  cases h
  simp [renL_len hl]
noncomputable def newL (l : List (List AV × Bool)) : St → St := List.rec (motive := fun _ => St → St) (fun s => s) (fun r _ ih s => ih (s.new (.cells r.1 r.2))) l
theorem newL_next : ∀ {l : List (List AV × Bool)} {s : St}, (newL l s).next = s.next + l.length
 | [], _ => rfl
 | r :: l, s => by
  show (newL l (s.new (.cells r.1 r.2))).next = _
  rw [newL_next]
  show Nat.succ s.next + l.length = s.next + (l.length + 1)
  omega
theorem newL_ext : ∀ (l : List (List AV × Bool)) (s : St), Ext s (newL l s)
 | [], s => .refl s
 | r :: l, s => (new_ext s _).trans (newL_ext l _)
theorem newL_X : ∀ {l : List (List AV × Bool)} {s : St} {i : Nat}, s.next ≤ i → i < s.next + l.length → (newL l s).X.testBit i = true
 | [], s, i, h, h' => by simp at h'; omega
 | r :: l, s, i, h, h' => by
  show (newL l (s.new (.cells r.1 r.2))).X.testBit i = true
  by_cases e : i = s.next
  · exact (newL_ext l _).X i (e ▸ orB_same _ _)
  · exact newL_X (s := s.new (.cells r.1 r.2)) (show Nat.succ s.next ≤ i by omega) (by show i < Nat.succ s.next + l.length; simp at h'; omega)
theorem newL_get : ∀ {l : List (List AV × Bool)} {s : St} {i : Nat} {B : Blk}, (newL l s).mem.get i = some B → (∃ j r, i = s.next + j ∧ l[j]? = some r ∧ B = .cells r.1 r.2) ∨ (s.mem.get i = some B ∧ (i < s.next ∨ s.next + l.length ≤ i))
 | [], s, i, B, h => .inr ⟨h, by simp; omega⟩
 | r :: l, s, i, B, h => by
  have h : (newL l (s.new (.cells r.1 r.2))).mem.get i = some B := h
  rcases newL_get h with ⟨j, r', rfl, h2, h3⟩ | ⟨h1, h2⟩
  · exact .inl ⟨j + 1, r', by show Nat.succ s.next + j = _; omega, h2, h3⟩
  · have h1 : (s.mem.set s.next (.cells r.1 r.2)).get i = some B := h1
    have h2 : i < Nat.succ s.next ∨ Nat.succ s.next + l.length ≤ i := h2
    rw [T.get_set] at h1
    by_cases e : i = s.next
    · rw [if_pos e] at h1; cases h1
      exact .inl ⟨0, r, e, rfl, rfl⟩
    · rw [if_neg e] at h1
      exact .inr ⟨h1, by simp; omega⟩

theorem memoN {P : Program} {f : Nat} {argsc args : List AV} {sc sc' s : St} {v v' vr : AV} {nw nr : List (List AV × Bool)} {ids : List Nat} {ρ σ τ : List (Nat × Nat)} {n k : Nat} (hk : CallOkR P f argsc sc (.ret v' sc')) (hwf : Wf sc)
 (hv : mt σ k v v' = true) (hσ : ∀ c d, mapTo σ c = some d → (c < sc.next ∧ d = c) ∨ ∃ j, c = sc.next + j ∧ ids[j]? = some d)
 (hτ : ∀ c b, mapTo τ c = some b → (c < sc.next ∧ mapTo ρ c = some b) ∨ ∃ j, c = sc.next + j ∧ j < ids.length ∧ b = s.next + j)
 (hids : ids.length = nw.length) (hge : ∀ (j d : Nat), ids[j]? = some d → sc.next ≤ d) (hinj : ∀ (i j d : Nat), ids[i]? = some d → ids[j]? = some d → i = j)
 (hrow : ∀ (j d : Nat) (r : List AV × Bool), ids[j]? = some d → nw[j]? = some r → ∃ row' ex', sc'.mem.get d = some (.cells row' ex') ∧ mtL (mt σ k) r.1 row' = true ∧ (r.2 = true → ex' = true))
 (hren : renM τ 8 v = some vr) (hlen : nr.length = nw.length) (hrows : ∀ (j : Nat) (r' : List AV × Bool), nr[j]? = some r' → ∃ r : List AV × Bool, nw[j]? = some r ∧ renL (renM τ 8) r.1 = some r'.1 ∧ r'.2 = r.2)
 (hW : ∀ i, i < sc.next → sc'.W.testBit i = false) (hX : ∀ i, i < sc.next → sc'.X.testBit i = true → ∃ b, mapTo ρ i = some b) (hargs : mtL (mt ρ n) argsc args = true) (hok : okB ρ (swapL ρ) n sc s ρ = true) : CallOkR P f args s (.ret vr (newL nr (touches ρ s))) := by
 intro s' hs'
 cases hs'
 have hmem := okB_mem hok
 have hcell : ∀ {c b : Nat}, (c, b) ∈ ρ → ∃ r ex r' ex', sc.mem.get c = some (.cells r ex) ∧ s.mem.get b = some (.cells r' ex') ∧ mtL (mt ρ n) r r' = true ∧ (ex = true → ex' = true) := by
  intro c b h
  obtain ⟨_, _, h3⟩ := hmem c b h
  unfold cellsB at h3
  split at h3
  · rename_i r ex r' ex' h4 h5
    obtain ⟨h6, h7⟩ := and_true h3
    exact ⟨r, ex, r', ex', h4, h5, h6, fun he => by subst he; exact h7⟩
  · cases h3
 have hxt : Ext s (touches ρ s) := touches_ext fun c b h => by obtain ⟨r, ex, r', ex', _, h2, _⟩ := hcell h; exact ⟨_, h2⟩
 have hxn := newL_ext nr (touches ρ s)
 have hx2 : Ext s (newL nr (touches ρ s)) := hxt.trans hxn
 obtain ⟨hxc, hgo⟩ := hk sc' rfl
 refine ⟨hx2, fun M e w xs hw hr hM hl => ?_⟩
 have hMt : ∀ i, (touches ρ s).X.testBit i = true → M i := fun i hi => hM i (hxn.X i hi)
 have hMn : ∀ j, j < nr.length → M (s.next + j) := fun j hj => hM _ (newL_X (s := touches ρ s) (Nat.le_add_right _ _) (by show s.next + j < s.next + nr.length; omega))
 have hMb : ∀ {c b : Nat}, (c, b) ∈ ρ → M b := fun {c b} h => hMt b (touches_X.2 (.inr ⟨c, h⟩))
 have hat : ∀ {c : Nat} {p : Nat × Nat}, (eC ρ e).at_ c = some p → ∃ b, (c, b) ∈ ρ ∧ e.at_ b = some p := fun {c p} h => by
  have h : (mapTo ρ c).bind e.at_ = some p := h
  cases hm : mapTo ρ c with
  | none => rw [hm] at h; cases h
  | some b => rw [hm] at h; exact ⟨b, mapTo_mem hm, h⟩
 have hrc : Rel (eC ρ e) sc (fun c => sc.next ≤ c ∨ ∃ b, mapTo ρ c = some b) w := by
  refine ⟨fun c B hc hB => ?_, fun c c' B B' p p' hc hc' hB hB' hp hp' he => ?_, fun c _ hc => ?_, hr.one, ⟨hr.glob.eq, fun c p hp => (hat hp).elim fun b hb => hr.glob.out b p hb.2, hr.glob.size, hr.glob.is⟩⟩
  · have hlt := hwf.1 c B hB
    obtain ⟨b, hb⟩ := hc.resolve_left (by omega)
    obtain ⟨r, ex, r', ex', h1, h2, h3, h4⟩ := hcell (mapTo_mem hb)
    rw [hB] at h1; cases h1
    obtain ⟨p, hp, hBR⟩ := hr.blk b _ (hMb (mapTo_mem hb)) h2
    refine ⟨p, by show (mapTo ρ c).bind e.at_ = some p; rw [hb]; exact hp, ?_⟩
    obtain ⟨cs, elem, fr, k1, k2, k3, k4, k5, k6⟩ := hBR
    have hlen := mtL_len h3
    exact ⟨cs, elem, fr, k1, k2, k3, by rw [hlen]; exact k4, fun hex => by rw [hlen]; exact k5 (h4 hex), by rw [hlen]; exact mtL_rel (fun a b hab => mt_rel (n := n) hab) h3 k6⟩
  · obtain ⟨b, hb, hpb⟩ := hat hp
    obtain ⟨b', hb', hpb'⟩ := hat hp'
    obtain ⟨_, _, r', ex', _, h2, _⟩ := hcell hb
    obtain ⟨_, _, r2, ex2, _, h2', _⟩ := hcell hb'
    have := hr.inj b b' _ _ p p' (hMb hb) (hMb hb') h2 h2' hpb hpb' he
    subst this
    have e1 := (hmem c b hb).2.1
    have e2 := (hmem c' b hb').2.1
    rw [e1] at e2; cases e2; rfl
  · cases h : (eC ρ e).at_ c with
    | none => rfl
    | some p =>
     obtain ⟨b, hb, _⟩ := hat h
     have := (hmem c b hb).1
     omega
 refine (hgo (fun c => sc.next ≤ c ∨ ∃ b, mapTo ρ c = some b) (eC ρ e) w xs hwf hrc (fun i hi => (Nat.lt_or_ge i sc.next).elim (fun h => .inr (hX i h hi)) .inl) (mtL_rel (fun a b hab => mt_rel (n := n) hab) hargs hl)).mono ?_
 intro en w' hen
 cases en with
 | panicked c => exact hen.elim
 | outgrown => exact hen.elim
 | returned x =>
  obtain ⟨e', h1, h2, h3⟩ := hen
  have hkeep : ∀ i, i < w.heap.size → w'.heap[i]? = w.heap[i]? := fun i hi => h3.keep i hi fun b p hWb hp => by
   obtain ⟨b', hb', _⟩ := hat hp
   have := (hmem b b' hb').1
   rw [hW b this] at hWb; cases hWb
  -- the new blocks
  have hnew : ∀ (j : Nat) (r' : List AV × Bool), nr[j]? = some r' → ∃ d p, ids[j]? = some d ∧ e'.at_ d = some p ∧ w.heap.size ≤ p.1 ∧ ∃ (r : List AV × Bool) (row' : List AV) (ex' : Bool), nw[j]? = some r ∧ sc'.mem.get d = some (.cells row' ex') ∧ BRel e' w' p (.cells row' ex') ∧ mtL (mt σ k) r.1 row' = true ∧ (r.2 = true → ex' = true) ∧ renL (renM τ 8) r.1 = some r'.1 ∧ r'.2 = r.2 := fun j r' hj => by
   obtain ⟨r, hr1, hr2, hr3⟩ := hrows j r' hj
   have hjl := (List.getElem?_eq_some_iff.1 hr1).1
   obtain ⟨d, hd⟩ : ∃ d, ids[j]? = some d := ⟨_, List.getElem?_eq_getElem (by omega)⟩
   obtain ⟨row', ex', k1, k2, k3⟩ := hrow j d r hd hr1
   obtain ⟨p, hp, hBR⟩ := h2.blk d _ (.inl (hge j d hd)) k1
   have hno : (eC ρ e).at_ d = none := by
    cases h : (eC ρ e).at_ d with
    | none => rfl
    | some p => obtain ⟨b, hb, _⟩ := hat h; have := (hmem d b hb).1; have := hge j d hd; omega
   refine ⟨d, p, hd, hp, ?_, r, row', ex', hr1, k1, hBR, k2, k3, hr2, hr3⟩
   rcases h3.fresh d p hno hp with hl | ⟨c, q, _, hWb, hq, _, _⟩
   · exact hl
   · obtain ⟨b', hb', _⟩ := hat hq
     rw [hW c (hmem c b' hb').1] at hWb; cases hWb
  have hnn : ∀ b, s.next ≤ b → e.at_ b = none ∨ ¬ M b := fun b hb => (Classical.em (M b)).elim (fun h => .inl (hr.new b h hb)) .inr
  have hn0 : ∀ j, j < nr.length → e.at_ (s.next + j) = none := fun j hj => hr.new _ (hMn j hj) (Nat.le_add_right _ _)
  let e2 : Env := ⟨fun i => if s.next ≤ i ∧ i < s.next + nr.length then (ids[i - s.next]?).bind e'.at_ else e.at_ i, e.sym, e.g⟩
  have a2 : ∀ i, e2.at_ i = if s.next ≤ i ∧ i < s.next + nr.length then (ids[i - s.next]?).bind e'.at_ else e.at_ i := fun _ => rfl
  have anew : ∀ (j d : Nat) (p : Nat × Nat), j < nr.length → ids[j]? = some d → e'.at_ d = some p → e2.at_ (s.next + j) = some p := fun j d p hj hd hp => by
   rw [a2, if_pos ⟨Nat.le_add_right _ _, by omega⟩, Nat.add_sub_cancel_left, hd]; exact hp
  have hle2 : e.le e2 := ⟨fun b p hb => by
   rw [a2]
   split
   · rename_i hh
     have := hn0 (b - s.next) (by omega)
     rw [show s.next + (b - s.next) = b by omega, hb] at this; cases this
   · exact hb, rfl, rfl⟩
  have hren2 : ∀ j b q, mapTo τ j = some b → (eC σ e').at_ j = some q → e2.at_ b = some q := fun c b q hb hq => by
   have hq : (mapTo σ c).bind e'.at_ = some q := hq
   rcases hτ c b hb with ⟨hc, hb2⟩ | ⟨j, rfl, hj, rfl⟩
   · obtain ⟨_, _, r', ex', _, hs2, _⟩ := hcell (mapTo_mem hb2)
     obtain ⟨p, hp, _⟩ := hr.blk b _ (hMb (mapTo_mem hb2)) hs2
     have hC : (eC ρ e).at_ c = some p := by show (mapTo ρ c).bind e.at_ = some p; rw [hb2]; exact hp
     cases hm : mapTo σ c with
     | none => rw [hm] at hq; cases hq
     | some d =>
      rw [hm] at hq
      have hq2 : e'.at_ d = some q := hq
      clear hq
      rcases hσ c d hm with ⟨_, hdc⟩ | ⟨j, rfl, _⟩
      · rw [hdc, h3.le.1 _ _ hC] at hq2
        cases hq2
        exact hle2.1 _ _ hp
      · omega
   · cases hm : mapTo σ (sc.next + j) with
     | none => rw [hm] at hq; cases hq
     | some d =>
      rw [hm] at hq
      have hq2 : e'.at_ d = some q := hq
      clear hq
      rcases hσ _ d hm with ⟨hlt, _⟩ | ⟨j', hj', hd⟩
      · omega
      · have hjj : j' = j := by omega
        rw [hjj] at hd
        exact anew j d q (by omega) hd hq2
  have hvr : VRel e2 vr x := renM_rel (e := eC σ e') hren2 hren x (mt_rel hv x h1)
  have hbr : ∀ (j : Nat) (r' : List AV × Bool), nr[j]? = some r' → ∃ p, e2.at_ (s.next + j) = some p ∧ w.heap.size ≤ p.1 ∧ BRel e2 w' p (.cells r'.1 r'.2) := fun j r' hj => by
   obtain ⟨d, p, hd, hp, hpw, r, row', ex', _, _, hBR, k2, k3, k4, k5⟩ := hnew j r' hj
   refine ⟨p, anew j d p (List.getElem?_eq_some_iff.1 hj).1 hd hp, hpw, ?_⟩
   obtain ⟨cs, elem, fr, b1, b2, b3, b4, b5, b6⟩ := hBR
   have hl1 := mtL_len k2
   have hl2 := renL_len k4
   refine ⟨cs, elem, fr, b1, b2, b3, by rw [← hl2, hl1]; exact b4, fun hx => by rw [← hl2, hl1]; exact b5 (k3 (k5 ▸ hx)), ?_⟩
   rw [← hl2, hl1]
   exact renL_rel (fun a a' ha => renM_rel hren2 ha) k4 (mtL_rel (fun a b hab => mt_rel (n := k) hab) k2 b6)
  have hpj : ∀ (i j : Nat) (r r' : List AV × Bool) (p p' : Nat × Nat), nr[i]? = some r → nr[j]? = some r' → e2.at_ (s.next + i) = some p → e2.at_ (s.next + j) = some p' → p.1 = p'.1 → i = j := fun i j r r' p p' hi hj hp hp' he => by
   obtain ⟨d, q, hd, hq, _, _, row1, ex1, _, hm1, _⟩ := hnew i r hi
   obtain ⟨d', q', hd', hq', _, _, row2, ex2, _, hm2, _⟩ := hnew j r' hj
   have e1 : q = p := Option.some.inj ((anew i d q (List.getElem?_eq_some_iff.1 hi).1 hd hq).symm.trans hp)
   have e2 : q' = p' := Option.some.inj ((anew j d' q' (List.getElem?_eq_some_iff.1 hj).1 hd' hq').symm.trans hp')
   have := h2.inj d d' _ _ q q' (.inl (hge i d hd)) (.inl (hge j d' hd')) hm1 hm2 hq hq' (by rw [e1, e2]; exact he)
   rw [← this] at hd'
   exact hinj i j d hd hd'
  refine ⟨e2, hvr, ⟨fun i C hi hC => ?_, fun i j C C' q q' hi hj hC hC' hq hq' hqq => ?_, fun i hi h => ?_, hr.one, hr.glob.step rfl (fun i q hq => ?_) (fun i hi => hkeep i (Nat.lt_of_lt_of_le hi hr.glob.size)) h3.size⟩,
   ⟨hle2, fun i hi hi' => ?_, h3.size, fun k hk _ => hkeep k hk, fun i q hi hi' => ?_, h3.same⟩⟩
  · rcases newL_get hC with ⟨j, r, rfl, hj, rfl⟩ | ⟨hC, _⟩
    · obtain ⟨p, hp, _, hB⟩ := hbr j r hj
      exact ⟨p, hp, hB⟩
    · obtain ⟨q, hq, hB'⟩ := hr.blk i C hi hC
      exact ⟨q, hle2.1 _ _ hq, hB'.keep hle2 (hkeep _ hB'.lt)⟩
  · have old : ∀ i C q, M i → s.mem.get i = some C → e2.at_ i = some q → e.at_ i = some q ∧ q.1 < w.heap.size := fun i C q hi hC hq => by
     obtain ⟨q', hq', hB'⟩ := hr.blk i C hi hC
     rw [hle2.1 _ _ hq'] at hq; cases hq
     exact ⟨hq', hB'.lt⟩
    rcases newL_get hC with ⟨a, r, hia, ha, _⟩ | ⟨hC, _⟩
    · have hia : i = s.next + a := hia
      obtain ⟨p, hp, hpw, _⟩ := hbr a r ha
      rw [← hia] at hp
      have e1 : p = q := Option.some.inj (hp.symm.trans hq)
      rcases newL_get hC' with ⟨b, r', hjb, hb, _⟩ | ⟨hC', _⟩
      · have hjb : j = s.next + b := hjb
        rw [hia] at hq
        rw [hjb] at hq'
        have := hpj a b r r' q q' ha hb hq hq' hqq
        rw [hia, hjb, this]
      · have := (old j C' q' hj hC' hq').2
        rw [e1] at hpw
        omega
    · rcases newL_get hC' with ⟨b, r', hjb, hb, _⟩ | ⟨hC', _⟩
      · have hjb : j = s.next + b := hjb
        obtain ⟨p, hp, hpw, _⟩ := hbr b r' hb
        rw [← hjb] at hp
        have e1 : p = q' := Option.some.inj (hp.symm.trans hq')
        have := (old i C q hi hC hq).2
        rw [e1] at hpw
        omega
      · exact hr.inj i j C C' q q' hi hj hC hC' (old i C q hi hC hq).1 (old j C' q' hj hC' hq').1 hqq
  · have h : (newL nr (touches ρ s)).next ≤ i := h
    rw [newL_next] at h
    have h : s.next + nr.length ≤ i := h
    rw [a2, if_neg (by omega)]
    exact hr.new i hi (by omega)
  · rw [a2] at hq
    split at hq
    · rename_i hh
      cases hd : ids[i - s.next]? with
      | none => rw [hd] at hq; cases hq
      | some d =>
       rw [hd] at hq
       have hgo := h2.glob.out d q hq
       rw [h3.le.2.2] at hgo
       exact .inr hgo
    · exact .inl hq
  · rw [newL_next]
    show s.next ≤ i ∧ i < s.next + nr.length
    rw [a2] at hi'
    split at hi'
    · assumption
    · exact absurd hi hi'
  · rw [a2] at hi'
    split at hi'
    · rename_i hh
      obtain ⟨r', hr'⟩ : ∃ r', nr[i - s.next]? = some r' := ⟨_, List.getElem?_eq_getElem (by omega)⟩
      obtain ⟨p, hp, hpw, _⟩ := hbr _ r' hr'
      rw [a2, if_pos (by omega), Nat.add_sub_cancel_left, hi'] at hp
      cases hp
      exact .inl hpw
    · rw [hi] at hi'; cases hi'
end Go.Ev
namespace Go.Ev

noncomputable def freshL (m N x : Nat) : List (Nat × Nat) := Nat.rec (motive := fun _ => List (Nat × Nat)) [] (fun j ih => (Nat.add N j, Nat.add x j) :: ih) m
theorem freshL_ok {N x : Nat} : ∀ {m c b : Nat}, mapTo (freshL m N x) c = some b → ∃ j, j < m ∧ c = N + j ∧ b = x + j
 | 0, _, _, h => by cases h
 | m + 1, c, b, h => by
  have h : (Bool.rec (mapTo (freshL m N x) c) (some (Nat.add x m)) (Nat.beq (Nat.add N m) c) : Option Nat) = some b := h
  cases hb : Nat.beq (Nat.add N m) c with
  | true => rw [hb] at h; cases h; exact ⟨m, Nat.lt_succ_self m, (Nat.eq_of_beq_eq_true hb).symm, rfl⟩
  | false =>
   rw [hb] at h
   obtain ⟨j, h1, h2, h3⟩ := freshL_ok h
   exact ⟨j, Nat.lt_succ_of_lt h1, h2, h3⟩
noncomputable def zipL (l : List Nat) : Nat → List (Nat × Nat) := List.rec (motive := fun _ => Nat → List (Nat × Nat)) (fun _ => []) (fun d _ ih c => (c, d) :: ih (Nat.succ c)) l
theorem zipL_ok : ∀ {l : List Nat} {N c d : Nat}, mapTo (zipL l N) c = some d → ∃ j, c = N + j ∧ l[j]? = some d
 | [], _, _, _, h => by cases h
 | a :: l, N, c, d, h => by
  have h : (Bool.rec (mapTo (zipL l (Nat.succ N)) c) (some a) (Nat.beq N c) : Option Nat) = some d := h
  cases hb : Nat.beq N c with
  | true => rw [hb] at h; cases h; exact ⟨0, (Nat.eq_of_beq_eq_true hb).symm, rfl⟩
  | false =>
   rw [hb] at h
   obtain ⟨j, h1, h2⟩ := zipL_ok h
   exact ⟨j + 1, by omega, h2⟩
theorem mapTo_app : ∀ {l m : List (Nat × Nat)} {c : Nat}, mapTo (lapp l m) c = (mapTo l c).or (mapTo m c)
 | [], _, _ => rfl
 | p :: l, m, c => by
  show (Bool.rec (mapTo (lapp l m) c) (some p.2) (Nat.beq p.1 c) : Option Nat) = ((Bool.rec (mapTo l c) (some p.2) (Nat.beq p.1 c) : Option Nat)).or (mapTo m c)
  cases Nat.beq p.1 c with
  | true => rfl
  | false => exact mapTo_app
noncomputable def incB (l : List Nat) : Nat → Bool := List.rec (motive := fun _ => Nat → Bool) (fun _ => true) (fun d _ ih lo => Bool.rec false (ih (Nat.succ d)) (Nat.ble lo d)) l
theorem incB_ok : ∀ {l : List Nat} {lo : Nat}, incB l lo = true → (∀ (j d : Nat), l[j]? = some d → lo ≤ d) ∧ ∀ (i j d : Nat), l[i]? = some d → l[j]? = some d → i = j
 | [], _, _ => ⟨fun _ _ h => by simp at h, fun _ _ _ h => by simp at h⟩
 | a :: l, lo, h => by
  have h : (Bool.rec false (incB l (Nat.succ a)) (Nat.ble lo a) : Bool) = true := h
  cases hb : Nat.ble lo a with
  | false => rw [hb] at h; cases h
  | true =>
   rw [hb] at h
   have hle := Nat.le_of_ble_eq_true hb
   obtain ⟨h1, h2⟩ := incB_ok h
   refine ⟨fun j d hj => ?_, fun i j d hi hj => ?_⟩
   · cases j with
     | zero => simp at hj; omega
     | succ j => have := h1 j d (by simpa using hj); omega
   · cases i with
     | zero =>
      cases j with
      | zero => rfl
      | succ j =>
       simp at hi
       have := h1 j d (by simpa using hj)
       omega
     | succ i =>
      cases j with
      | zero =>
       simp at hj
       have := h1 i d (by simpa using hi)
       omega
      | succ j => rw [h2 i j d (by simpa using hi) (by simpa using hj)]
noncomputable def rowOkB (σ : List (Nat × Nat)) (r : List AV × Bool) (B : Option Blk) : Bool := match B with | some (.cells r' ex') => Bool.and (mtL (mt σ 8) r.1 r') (Bool.rec true ex' r.2) | _ => false
noncomputable def rowsOkB (σ : List (Nat × Nat)) (s : St) (nw : List (List AV × Bool)) : List Nat → Bool :=
 List.rec (motive := fun _ => List Nat → Bool) (fun l => List.rec true (fun _ _ _ => false) l) (fun r _ ih l => List.rec false (fun d l _ => Bool.rec false (ih l) (rowOkB σ r (s.mem.get d))) l) nw
theorem rowsOkB_ok {σ : List (Nat × Nat)} {s : St} : ∀ {nw : List (List AV × Bool)} {l : List Nat}, rowsOkB σ s nw l = true → l.length = nw.length ∧ ∀ (j d : Nat) (r : List AV × Bool), l[j]? = some d → nw[j]? = some r → ∃ row' ex', s.mem.get d = some (.cells row' ex') ∧ mtL (mt σ 8) r.1 row' = true ∧ (r.2 = true → ex' = true)
 | [], [], _ => ⟨rfl, fun _ _ _ h => by simp at h⟩
 | [], _ :: _, h => by cases h
 | _ :: _, [], h => by cases h
 | r :: nw, d :: l, h => by
  have h : (Bool.rec false (rowsOkB σ s nw l) (rowOkB σ r (s.mem.get d)) : Bool) = true := h
  cases hb : rowOkB σ r (s.mem.get d) with
  | false => rw [hb] at h; cases h
  | true =>
   rw [hb] at h
   obtain ⟨h1, h2⟩ := rowsOkB_ok h
   refine ⟨by simp [h1], fun j d' r' hj hr => ?_⟩
   cases j with
   | zero =>
    simp at hj hr
    subst hj; subst hr
    unfold rowOkB at hb
    split at hb
    · rename_i r2 ex2 hm
      obtain ⟨g1, g2⟩ := and_true hb
      exact ⟨r2, ex2, hm, g1, fun he => by rw [he] at g2; exact g2⟩
    · cases hb
   | succ j => exact h2 j d' r' (by simpa using hj) (by simpa using hr)
/-- a known call: blocks 0 .. of the arguments; the new ones are called by the numbers behind -/
structure Known4 where
 f : Nat
 args : List AV
 rows : List (List AV × Bool)
 v : AV
 nw : List (List AV × Bool)
noncomputable def sigL (N : Nat) (ids : List Nat) : List (Nat × Nat) := lapp (freshL N 0 0) (zipL ids N)
theorem sigL_ok {N : Nat} {ids : List Nat} {c d : Nat} (h : mapTo (sigL N ids) c = some d) : (c < N ∧ d = c) ∨ ∃ j, c = N + j ∧ ids[j]? = some d := by
 unfold sigL at h
 rw [mapTo_app] at h
 cases h1 : mapTo (freshL N 0 0) c with
 | some b =>
  rw [h1] at h
  have h : some b = some d := h
  cases h
  obtain ⟨j, g1, g2, g3⟩ := freshL_ok h1
  exact .inl ⟨by omega, by omega⟩
 | none =>
  rw [h1] at h
  exact .inr (zipL_ok h)
def Known4Ok (P : Program) (k : Known4) : Prop := ∃ v' sc' ids, CallOkR P k.f k.args (rowsS k.rows) (.ret v' sc') ∧ mt (sigL k.rows.length ids) 8 k.v v' = true ∧ incB ids k.rows.length = true ∧ rowsOkB (sigL k.rows.length ids) sc' k.nw ids = true ∧ ∀ i, i < k.rows.length → sc'.W.testBit i = false
noncomputable def chkR4 (v : AV) (nw : List (List AV × Bool)) (n : Nat) (ids : List Nat) (r : RV) : Bool := RV.rec false (fun v' s => Bool.and (mt (sigL n ids) 8 v v') (Bool.and (incB ids n) (Bool.and (rowsOkB (sigL n ids) s nw ids) (Nat.beq (Nat.land s.W (Nat.pred (Nat.pow 2 n))) 0)))) (fun _ _ => false) r
theorem known4Ok_of {P : Program} {k : Known4} {r : RV} (ids : List Nat) (h : CallOkR P k.f k.args (rowsS k.rows) r) (hc : chkR4 k.v k.nw (llen k.rows) ids r = true) : Known4Ok P k := by
 cases r with
 | fail => cases hc
 | panic v s => cases hc
 | ret v' s =>
  obtain ⟨h1, c1⟩ := and_true hc
  obtain ⟨h2, c2⟩ := and_true c1
  obtain ⟨h3, h4⟩ := and_true c2
  rw [llen_eq] at h1 h2 h3 h4
  exact ⟨v', s, ids, h, h1, h2, h3, fun i hi => mask_false h4 hi⟩
noncomputable def renR (τ : List (Nat × Nat)) (l : List (List AV × Bool)) : Option (List (List AV × Bool)) := List.rec (motive := fun _ => Option (List (List AV × Bool))) (some []) (fun r _ ih => Option.rec none (fun a => Option.rec none (fun l => some ((a, r.2) :: l)) ih) (renL (renM τ 8) r.1)) l
theorem renR_ok {τ : List (Nat × Nat)} : ∀ {l l' : List (List AV × Bool)}, renR τ l = some l' → l'.length = l.length ∧ ∀ (j : Nat) (r' : List AV × Bool), l'[j]? = some r' → ∃ r : List AV × Bool, l[j]? = some r ∧ renL (renM τ 8) r.1 = some r'.1 ∧ r'.2 = r.2
 | [], _, h => by cases h; exact ⟨rfl, fun _ _ h => by simp at h⟩
 | r :: l, l', h => by
  have h : (Option.rec none (fun a => (Option.rec none (fun l => some ((a, r.2) :: l)) (renR τ l) : Option (List (List AV × Bool)))) (renL (renM τ 8) r.1) : Option (List (List AV × Bool))) = some l' := h
  obtain ⟨a, ha, h⟩ := orec h
  obtain ⟨l2, hl, h⟩ := orec h
  cases h
  obtain ⟨h1, h2⟩ := renR_ok hl
  refine ⟨by simp [h1], fun j r' hj => ?_⟩
  cases j with
  | zero => simp at hj; subst hj; exact ⟨r, rfl, ha, rfl⟩
  | succ j => obtain ⟨q, g1, g2⟩ := h2 j r' (by simpa using hj); exact ⟨q, by simpa using g1, g2⟩
noncomputable def endR4 (k : Known4) (s : St) (ρ τ : List (Nat × Nat)) : Option RV :=
 Option.rec none (fun vr => Option.rec none (fun nr => some (.ret vr (newL nr (touches ρ s)))) (renR τ k.nw)) (renM τ 8 k.v)
noncomputable def tryR4 (k : Known4) (args : List AV) (s : St) (ρ : List (Nat × Nat)) : Option RV :=
 Bool.rec none (endR4 k s ρ (lapp ρ (freshL (llen k.nw) (llen k.rows) s.next))) (Bool.and (mtL (mt ρ 6) k.args args) (Bool.and (allK ρ (llen k.rows)) (okB ρ (swapL ρ) 6 (rowsS k.rows) s ρ)))
noncomputable def tryK4 (k : Known4) (f : Nat) (args : List AV) (s : St) : Option RV :=
 Bool.rec none (tryR4 k args s (walkL (walk (rowsS k.rows) s 8) k.args args [])) (Nat.beq k.f f)
theorem tryK4_ok {P : Program} {k : Known4} (hk : Known4Ok P k) {f : Nat} {args : List AV} {s : St} {r : RV} (h : tryK4 k f args s = some r) : CallOkR P f args s r := by
 unfold tryK4 at h
 obtain ⟨hf, h2⟩ := brec_some h
 clear h
 have := Nat.eq_of_beq_eq_true hf
 subst this
 generalize walkL (walk (rowsS k.rows) s 8) k.args args [] = ρ at *
 unfold tryR4 at h2
 obtain ⟨hb, h3⟩ := brec_some h2
 unfold endR4 at h3
 obtain ⟨vr, hvr, h4⟩ := orec h3
 obtain ⟨nr, hnr, h5⟩ := orec h4
 cases h5
 obtain ⟨b1, c1⟩ := and_true hb
 obtain ⟨b2, b3⟩ := and_true c1
 obtain ⟨v', sc', ids, g1, g2, g3, g4, g5⟩ := hk
 have hn : (rowsS k.rows).next = k.rows.length := llen_eq _
 obtain ⟨i1, i2⟩ := incB_ok g3
 obtain ⟨r1, r2⟩ := rowsOkB_ok g4
 obtain ⟨q1, q2⟩ := renR_ok hnr
 have hmem := okB_mem b3
 refine memoN g1 (rowsS_wf _) g2 (fun c d h => by rw [hn]; exact sigL_ok h) (fun c b h => ?_) r1 (by rw [hn]; exact i1) i2 r2 hvr q1 q2 (by rw [hn]; exact g5) (fun i hi _ => allK_ok b2 i hi) b1 b3
 rw [mapTo_app] at h
 cases hm : mapTo ρ c with
 | some b' =>
  rw [hm] at h
  have h : some b' = some b := h
  cases h
  exact .inl ⟨(hmem c b (mapTo_mem hm)).1, rfl⟩
 | none =>
  rw [hm] at h
  obtain ⟨j, e1, e2, e3⟩ := freshL_ok h
  rw [llen_eq] at e1 e2
  exact .inr ⟨j, by rw [hn]; exact e2, by omega, e3⟩
noncomputable def tryAll4 (l : List Known4) (K : Nat → List AV → St → Option RV) (f : Nat) (args : List AV) (s : St) : Option RV :=
 List.rec (K f args s) (fun k _ ih => Option.rec ih (fun r => some r) (tryK4 k f args s)) l
theorem tryAll4_ok {P : Program} {K : Nat → List AV → St → Option RV} (hK : KOk P K) : ∀ {l : List Known4}, (∀ k ∈ l, Known4Ok P k) → KOk P (tryAll4 l K)
 | [], _ => hK
 | k :: l, hl => fun f args s r h => by
  change (Option.rec (tryAll4 l K f args s) (fun r => some r) (tryK4 k f args s) : Option RV) = some r at h
  cases ht : tryK4 k f args s with
  | none => rw [ht] at h; exact tryAll4_ok hK (fun k hk => hl k (List.mem_cons_of_mem _ hk)) f args s r h
  | some r' => rw [ht] at h; cases h; exact tryK4_ok (hl k List.mem_cons_self) ht
end Go.Ev
