/- An evaluator of calls, and its soundness (EB). -/
import Derived.Test.YtkaahiddngmdbaaGreatDoorEA
import Derived.Laws.Append
set_option linter.unusedVariables false
set_option linter.unusedSimpArgs false
namespace Go.Ev

section
variable {P : Program} {M : Nat → Prop} {e : Env} {s s' : St} {w : World}

/-! parts put into their places -/
noncomputable def fillA (place : Nat → Option (Nat × Nat)) (parts : List (Nat × AV)) : List AV → Option (List AV) :=
 List.rec (motive := fun _ => List AV → Option (List AV)) (fun cs => some cs) (fun p _ ih cs =>
  match place p.1 with
  | none => none
  | some q => Bool.rec none (Option.rec none (fun cs => ih cs) (lsets cs (cellsA p.2) q.1)) (Nat.beq (llen (cellsA p.2)) q.2)) parts

def PRel (e : Env) : List (Nat × AV) → List (Nat × Value) → Prop
 | [], xs => xs = []
 | (i, v) :: l, xs => ∃ y ys, xs = (i, y) :: ys ∧ VRel e v y ∧ PRel e l ys

theorem sets_rel : ∀ {avs : List AV} {vs : List Value} {row row' : List AV} {o i : Nat} {c : Array Value}, LRel e row c.toList → LRel e avs vs → lsets row avs (o + i) = some row' →
 o + i + vs.length ≤ c.size ∨ avs = [] → LRel e row' ((vs.zipIdx i).foldl (fun cs (x, j) => cs.setIfInBounds (o + j) x) c).toList := by
 intro avs
 induction avs with
 | nil => intro vs row row' o i c h hl hs _; rw [hl.of_nil]; cases hs; exact h
 | cons v avs ih =>
  intro vs row row' o i c h hl hs hb
  obtain ⟨x, xs, rfl, hv, hl'⟩ := hl.of_cons
  obtain ⟨row1, hs1, hs2⟩ := lsets_cons hs
  obtain ⟨hlt, rfl⟩ := lset_some hs1
  simp only [List.zipIdx_cons, List.foldl_cons]
  refine ih (o := o) (i := i + 1) ?_ hl' (by rw [← Nat.add_assoc]; exact hs2) ?_
  · rw [Array.toList_setIfInBounds]
    refine LRel.of_get (by simp [h.length]) fun j u hj => ?_
    by_cases e1 : o + i = j
    · subst e1
      rw [List.getElem?_set_self hlt] at hj
      cases hj
      exact ⟨x, by rw [List.getElem?_set_self (by rw [h.length]; exact hlt)], hv⟩
    · rw [List.getElem?_set_ne e1] at hj
      obtain ⟨y, hy, hvy⟩ := h.get hj
      exact ⟨y, by rw [List.getElem?_set_ne e1]; exact hy, hvy⟩
  · rcases hb with hb | hb
    · left; simp at hb ⊢; omega
    · cases hb

theorem lsets_len : ∀ {avs row row' : List AV} {o : Nat}, lsets row avs o = some row' → row'.length = row.length ∧ (avs = [] ∨ o + avs.length ≤ row.length) := by
 intro avs
 induction avs with
 | nil => intro row row' o h; cases h; exact ⟨rfl, .inl rfl⟩
 | cons v avs ih =>
  intro row row' o h
  obtain ⟨row1, hs1, hs2⟩ := lsets_cons h
  obtain ⟨hlt, rfl⟩ := lset_some hs1
  obtain ⟨h1, h2⟩ := ih hs2
  simp at h1 h2
  refine ⟨h1, .inr ?_⟩
  rcases h2 with rfl | h2
  · simp; omega
  · simp; omega

theorem fill_ok {place : Nat → Option (Nat × Nat)} (hs : ∀ k, (e.sym k).oneCell' = true) : ∀ {parts : List (Nat × AV)} {Parts : List (Nat × Value)} {cs cs' : List AV} {c : Array Value}, LRel e cs c.toList → PRel e parts Parts → fillA place parts cs = some cs' →
 (∀ i v, (i, v) ∈ parts → cellsA v ≠ []) → ∃ c', Instr.fill place c Parts = some c' ∧ LRel e cs' c'.toList := by
 intro parts
 induction parts with
 | nil => intro Parts cs cs' c h hp hf _; rw [show Parts = [] from hp]; cases hf; exact ⟨c, rfl, h⟩
 | cons p parts ih =>
  intro Parts cs cs' c h hp hf hne
  obtain ⟨i, v⟩ := p
  obtain ⟨y, ys, rfl, hv, hps⟩ := hp
  have hf : (match place i with
   | none => none
   | some q => Bool.rec none (Option.rec none (fun cs => fillA place parts cs) (lsets cs (cellsA v) q.1)) (Nat.beq (llen (cellsA v)) q.2)) = some cs' := hf
  cases hpl : place i with
  | none => rw [hpl] at hf; cases hf
  | some q =>
   rw [hpl] at hf
   simp only [] at hf
   cases hq : Nat.beq (llen (cellsA v)) q.2 with
   | false => rw [hq] at hf; cases hf
   | true =>
    rw [hq] at hf
    simp only [] at hf
    cases hl : lsets cs (cellsA v) q.1 with
    | none => rw [hl] at hf; cases hf
    | some cs1 =>
     rw [hl] at hf
     have hq := Nat.eq_of_beq_eq_true hq
     rw [llen_eq] at hq
     have hc := cellsA_rel hv hs
     have hl2 : (cellsA v).length = y.cells.size := by rw [← hc.length]; simp
     have hlen : y.cells.size = q.2 := by rw [← hq, ← hc.length]; simp
     have hcs : c.size = cs.length := by rw [← h.length]; simp
     have hn := hne i v (by simp)
     obtain ⟨g1, g2⟩ := lsets_len hl
     have g2 := g2.resolve_left hn
     have hrel := sets_rel (o := q.1) (i := 0) h hc hl (.inl (by rw [hcs, hc.length]; exact g2))
     obtain ⟨c', hc', hr'⟩ := ih hrel hps hf (fun i v hm => hne i v (by simp [hm]))
     refine ⟨c', ?_, hr'⟩
     unfold Instr.fill
     rw [hpl]
     obtain ⟨off, size⟩ := q
     simp only at hlen g2 hq ⊢
     have hz : y.cells.zipIdx.foldl (fun cs (x : Value × Nat) => cs.setIfInBounds (off + x.2) x.1) c = (y.cells.toList.zipIdx 0).foldl (fun cs (x : Value × Nat) => cs.setIfInBounds (off + x.2) x.1) c := by
      rw [← Array.foldl_toList, Array.toList_zipIdx]
     rw [if_neg (by simp only [Bool.or_eq_true, decide_eq_true_eq]; omega), hz]
     exact hc'

noncomputable def placeS (P : Program) (fs : List Field) (i : Nat) : Option (Nat × Nat) :=
 match lnth fs i with
 | some f => (match szT P f.type with | some n => some (f.offset, n) | none => none)
 | none => none
noncomputable def allSz (P : Program) (fs : List Field) : Bool := List.rec (motive := fun _ => Bool) true (fun f _ ih => match szT P f.type with | some _ => ih | none => false) fs
theorem fill_congr {p p' : Nat → Option (Nat × Nat)} : ∀ {parts : List (Nat × Value)} {c : Array Value}, (∀ i, p i = p' i) → Instr.fill p c parts = Instr.fill p' c parts := by
 intro parts c h
 have : p = p' := funext h
 rw [this]
theorem places_run {fs : List Field} (h : allSz P fs = true) : ∃ ps : List (Nat × Nat), (fs.mapM fun f => do pure (f.offset, ← sizeOf f.type) : Sem _).run P w = .ok ps w ∧ ∀ i, ps[i]? = placeS P fs i := by
 induction fs with
 | nil => exact ⟨[], rfl, fun i => by simp [placeS, lnth_eq]⟩
 | cons f fs ih =>
  have h : (match szT P f.type with | some _ => allSz P fs | none => false) = true := h
  cases hs : szT P f.type with
  | none => rw [hs] at h; cases h
  | some n =>
   rw [hs] at h
   obtain ⟨ps, h1, h2⟩ := ih h
   refine ⟨(f.offset, n) :: ps, ?_, fun i => ?_⟩
   · simp only [List.mapM_cons, Sem.run_bind, sizeOf_run hs, Result.andThen_ok, Sem.run_pure, h1]
   · cases i with
     | zero => simp [placeS, lnth_eq, hs]
     | succ i => simpa [placeS, lnth_eq] using h2 i

noncomputable def nonE (l : List (Nat × AV)) : Bool := List.rec (motive := fun _ => Bool) true (fun p _ ih => match cellsA p.2 with | [] => false | _ :: _ => ih) l
theorem nonE_ok {l : List (Nat × AV)} (h : nonE l = true) : ∀ i v, (i, v) ∈ l → cellsA v ≠ [] := by
 induction l with
 | nil => intro i v hm; cases hm
 | cons p l ih =>
  have h : (match cellsA p.2 with | [] => false | _ :: _ => nonE l) = true := h
  cases hc : cellsA p.2 with
  | nil => rw [hc] at h; cases h
  | cons a b =>
   rw [hc] at h
   intro i v hm
   rcases List.mem_cons.1 hm with rfl | hm
   · rw [hc]; simp
   · exact ih h i v hm

noncomputable def buildA (P : Program) (t : TypeId) (parts : List (Nat × AV)) : Option AV :=
 match zeroT P t with
 | none => none
 | some z => Bool.rec none (match P.underlying t with
  | some (.struct fs) => Bool.rec none (Option.rec none (fun cs => some (.agg cs)) (fillA (placeS P fs.toList) parts (cellsA z))) (allSz P fs.toList)
  | some (.array _ el) => (match szT P el with
   | some n => Option.rec none (fun cs => some (.agg cs)) (fillA (fun i => some (Nat.mul i n, n)) parts (cellsA z))
   | none => none)
  | _ => none) (nonE parts)
theorem buildA_run {t : TypeId} {parts : List (Nat × AV)} {Parts : List (Nat × Value)} {v : AV} (h : buildA P t parts = some v) (hs : ∀ k, (e.sym k).oneCell' = true) (hp : PRel e parts Parts) :
 ∃ z, (Instr.build t Parts.toArray).run P w = .ok z w ∧ VRel e v z := by
 unfold buildA at h
 cases hz : zeroT P t with
 | none => rw [hz] at h; cases h
 | some z =>
  rw [hz] at h
  simp only [] at h
  cases hne : nonE parts with
  | false => rw [hne] at h; cases h
  | true =>
   rw [hne] at h
   simp only [] at h
   obtain ⟨Z, hZ, hvZ⟩ := zeroValue_run (w := w) (e := e) hz
   have hc := cellsA_rel hvZ hs
   split at h <;> first | (cases h; done) | skip
   · rename_i fs hu
     cases ha : allSz P fs.toList with
     | false => rw [ha] at h; cases h
     | true =>
      rw [ha] at h
      simp only [] at h
      cases hf : fillA (placeS P fs.toList) parts (cellsA z) with
      | none => rw [hf] at h; cases h
      | some cs =>
       rw [hf] at h; cases h
       obtain ⟨c', h1, h2⟩ := fill_ok hs hc hp hf (nonE_ok hne)
       obtain ⟨ps, h3, h4⟩ := places_run (w := w) ha
       refine ⟨.agg c', ?_, by simp only [VRel]; exact ⟨c'.toList, by simp, h2⟩⟩
       unfold Instr.build
       simp only [Sem.run_bind, hZ, Result.andThen_ok, run_underlying hu]
       have e1 : (fs.mapM fun f => do pure (f.offset, ← sizeOf f.type) : Sem _).run P w = .ok ps.toArray w := by
        have : (fs.mapM fun f => do pure (f.offset, ← sizeOf f.type) : Sem _) = (Functor.map List.toArray (fs.toList.mapM fun f => do pure (f.offset, ← sizeOf f.type)) : Sem _) := by
         rw [← Array.toArray_toList (xs := fs)]
         simp only [List.mapM_toArray]
        rw [this, Sem.run_map, h3]; rfl
       rw [e1]
       simp only [Result.andThen_ok]
       have e2 : Instr.fill (fun x => ps.toArray[x]?) Z.cells Parts.toArray.toList = some c' := by
        rw [← h1]
        refine (fill_congr fun i => ?_)
        rw [← h4 i]; simp
       rw [e2]
       simp
   · rename_i n el hu
     split at h <;> first | (cases h; done) | skip
     rename_i sz hsz
     cases hf : fillA (fun i => some (Nat.mul i sz, sz)) parts (cellsA z) with
     | none => rw [hf] at h; cases h
     | some cs =>
      rw [hf] at h; cases h
      obtain ⟨c', h1, h2⟩ := fill_ok hs hc hp hf (nonE_ok hne)
      refine ⟨.agg c', ?_, by simp only [VRel]; exact ⟨c'.toList, by simp, h2⟩⟩
      unfold Instr.build
      simp only [Sem.run_bind, hZ, Result.andThen_ok, run_underlying hu, sizeOf_run hsz]
      have e2 : Instr.fill (fun i => some (i * sz, sz)) Z.cells Parts.toArray.toList = some c' := h1
      rw [e2]
      simp

/-! rows of zero values -/
noncomputable def lrep (l : List AV) (n : Nat) : List AV := Nat.rec (motive := fun _ => List AV) [] (fun _ ih => lapp l ih) n
theorem lrep_rel {l : List AV} {xs : List Value} (h : LRel e l xs) (hx : xs ≠ []) (n : Nat) : LRel e (lrep l n) ((Array.range (n * xs.length)).map fun i => xs.toArray[i % xs.toArray.size]!).toList := by
 have key : ∀ n, ((Array.range (n * xs.length)).map fun i => xs.toArray[i % xs.toArray.size]!).toList = (List.replicate n xs).flatten := by
  intro n
  have hpos : 0 < xs.length := List.length_pos_iff.2 hx
  apply List.ext_getElem?
  intro i
  have : (List.replicate n xs).flatten[i]? = if i < n * xs.length then xs[i % xs.length]? else none := by
   induction n generalizing i with
   | zero => simp
   | succ n ih =>
    simp only [List.replicate_succ, List.flatten_cons]
    by_cases hi : i < xs.length
    · rw [List.getElem?_append_left hi, if_pos (by rw [Nat.add_mul]; omega), Nat.mod_eq_of_lt hi]
    · rw [List.getElem?_append_right (by omega), ih]
      have e1 : i % xs.length = (i - xs.length) % xs.length := by
       rw [Nat.mod_eq_sub_mod (by omega)]
      have e2 : (n + 1) * xs.length = n * xs.length + xs.length := by rw [Nat.add_mul]; omega
      rw [e1, e2]
      by_cases h2 : i - xs.length < n * xs.length
      · rw [if_pos h2, if_pos (by omega)]
      · rw [if_neg h2, if_neg (by omega)]
  rw [this]
  by_cases hi : i < n * xs.length
  · rw [if_pos hi]
    have hm : i % xs.length < xs.length := Nat.mod_lt _ hpos
    simp [hi, hm]
  · rw [if_neg hi]; simp [hi]
 rw [key]
 clear key
 induction n with
 | zero => exact .nil_
 | succ n ih =>
  show LRel e (lapp l (lrep l n)) _
  rw [lapp_eq, List.replicate_succ, List.flatten_cons]
  exact h.append ih
end
end Go.Ev
namespace Go.Ev

section
variable {P : Program} {M : Nat → Prop} {e : Env} {s s' : St} {w : World}

noncomputable def sliceOf (b len cap es : Nat) : AV := .slice b 0 len (some cap) es

noncomputable def zeroRow (P : Program) (el : TypeId) (n k : Nat) : Option (List AV) :=
 Bool.rec (match zeroT P el with
  | some z => Bool.rec none (some (lrep (cellsA z) k)) (Nat.beq (llen (cellsA z)) n)
  | none => none) (some []) (Nat.beq (Nat.mul k n) 0)
theorem zeroRow_run {el : TypeId} {n k : Nat} {row : List AV} (hs : ∀ k, (e.sym k).oneCell' = true) (h : zeroRow P el n k = some row) :
 ∃ z : Array Value, ((k * n = 0 ∧ z = #[]) ∨ (k * n ≠ 0 ∧ ∃ Z, (zeroValue el).run P w = .ok Z w ∧ z = Z.cells)) ∧ LRel e row ((Array.range (k * n)).map fun i => z[i % z.size]!).toList ∧ row.length = k * n := by
 unfold zeroRow at h
 cases h0 : Nat.beq (Nat.mul k n) 0 with
 | true =>
  rw [h0] at h; cases h
  have h0 : k * n = 0 := Nat.eq_of_beq_eq_true h0
  exact ⟨#[], .inl ⟨h0, rfl⟩, by rw [h0]; simpa using LRel.nil_, by rw [h0]; rfl⟩
 | false =>
  rw [h0] at h
  have h0 : k * n ≠ 0 := Nat.ne_of_beq_eq_false h0
  simp only [] at h
  cases hz : zeroT P el with
  | none => rw [hz] at h; cases h
  | some z =>
   rw [hz] at h
   simp only [] at h
   cases hl : Nat.beq (llen (cellsA z)) n with
   | false => rw [hl] at h; cases h
   | true =>
    rw [hl] at h; cases h
    have hl := Nat.eq_of_beq_eq_true hl
    rw [llen_eq] at hl
    obtain ⟨Z, hZ, hv⟩ := zeroValue_run (w := w) (e := e) hz
    have hc := cellsA_rel hv hs
    have hlen : Z.cells.toList.length = n := by rw [hc.length, hl]
    have hne : Z.cells.toList ≠ [] := by intro h; rw [h] at hlen; simp at hlen; rw [← hlen] at h0; simp at h0
    have := lrep_rel hc hne k
    rw [hlen] at this
    simp only [Array.toArray_toList] at this
    refine ⟨Z.cells, .inr ⟨h0, Z, hZ, rfl⟩, this, ?_⟩
    have h2 := this.length
    rw [← h2]; simp

noncomputable def buildSliceA (P : Program) (t : TypeId) (len : Nat) (parts : List (Nat × AV)) (s : St) : Option (AV × St) :=
 match P.underlying t with
 | some (.slice el) => (match szT P el with
  | some n => Bool.rec none (match zeroRow P el n len with
   | some row => Bool.rec none (match fillA (fun i => some (Nat.mul i n, n)) parts row with
    | some row => some (sliceOf s.next len len n, s.new (.cells row true))
    | none => none) (nonE parts)
   | none => none) (Nat.ble (Nat.mul len n) 16777216)
  | none => none)
 | _ => none
theorem fillA_len {place : Nat → Option (Nat × Nat)} : ∀ {parts : List (Nat × AV)} {cs cs' : List AV}, fillA place parts cs = some cs' → cs'.length = cs.length := by
 intro parts
 induction parts with
 | nil => intro cs cs' h; cases h; rfl
 | cons p parts ih =>
  intro cs cs' h
  have h : (match place p.1 with
   | none => none
   | some q => Bool.rec none (Option.rec none (fun cs => fillA place parts cs) (lsets cs (cellsA p.2) q.1)) (Nat.beq (llen (cellsA p.2)) q.2)) = some cs' := h
  cases hp : place p.1 with
  | none => rw [hp] at h; cases h
  | some q =>
   rw [hp] at h; simp only [] at h
   cases hq : Nat.beq (llen (cellsA p.2)) q.2 with
   | false => rw [hq] at h; cases h
   | true =>
    rw [hq] at h; simp only [] at h
    cases hl : lsets cs (cellsA p.2) q.1 with
    | none => rw [hl] at h; cases h
    | some cs1 => rw [hl] at h; rw [ih h, (lsets_len hl).1]
theorem buildSliceA_ext {t : TypeId} {len : Nat} {parts : List (Nat × AV)} {r : AV × St} (h : buildSliceA P t len parts s = some r) : Ext s r.2 := by
 unfold buildSliceA at h
 split at h <;> first | (cases h; done) | skip
 split at h <;> first | (cases h; done) | skip
 rename_i el _ n _
 cases hb : Nat.ble (Nat.mul len n) 16777216 with
 | false => rw [hb] at h; cases h
 | true =>
  rw [hb] at h; simp only [] at h
  split at h <;> first | (cases h; done) | skip
  cases hn : nonE parts with
  | false => rw [hn] at h; cases h
  | true =>
   rw [hn] at h; simp only [] at h
   split at h <;> first | (cases h; done) | skip
   cases h
   exact new_ext _ _
theorem buildSliceA_ok {t : TypeId} {len : Nat} {parts : List (Nat × AV)} {Parts : List (Nat × Value)} {r : AV × St} (h : buildSliceA P t len parts s = some r) (hr : Rel e s M w) (hM : M s.next) (hp : PRel e parts Parts) :
 VOk P M (Instr.buildSlice t len Parts.toArray) e s w r.1 r.2 := by
 unfold buildSliceA at h
 split at h <;> first | (cases h; done) | skip
 rename_i el hu
 split at h <;> first | (cases h; done) | skip
 rename_i n hn
 cases hb : Nat.ble (Nat.mul len n) 16777216 with
 | false => rw [hb] at h; cases h
 | true =>
  rw [hb] at h; simp only [] at h
  split at h <;> first | (cases h; done) | skip
  rename_i row hrow
  cases hne : nonE parts with
  | false => rw [hne] at h; cases h
  | true =>
   rw [hne] at h; simp only [] at h
   split at h <;> first | (cases h; done) | skip
   rename_i row' hrow'
   cases h
   have hb : len * n ≤ 16777216 := Nat.le_of_ble_eq_true hb
   obtain ⟨z, h1, h2, h3⟩ := zeroRow_run (w := w) hr.one hrow
   obtain ⟨c', h4, h5⟩ := fill_ok hr.one h2 hp hrow' (nonE_ok hne)
   obtain ⟨e', w', g1, g2, g3, g4, g5⟩ := newRow_ok (P := P) (elem := el) hr hM h5
   have hlen : c'.toList.length = len * n := by rw [h5.length, fillA_len hrow', h3]
   refine ⟨e', w', .slice (some ⟨w.heap.size, 0, none⟩) len len, ?_, ?_, g4, g5⟩
   · unfold Instr.buildSlice
     simp only [Sem.run_bind, run_underlying hu, Result.andThen_ok, sizeOf_run hn]
     rw [if_neg (by omega)]
     have h4' : Instr.fill (fun i => some (i * n, n)) ((Array.range (len * n)).map fun i => z[i % z.size]!) Parts.toArray.toList = some c' := h4
     have e1 : c'.toList.toArray = c' := by simp
     rw [e1] at g1
     rcases h1 with ⟨h0, rfl⟩ | ⟨h0, Z, hZ, rfl⟩
     · rw [if_pos h0]
       simp only [Sem.run_bind, Sem.run_pure, Result.andThen_ok]
       rw [h4']
       simp only [Sem.run_bind, g1, Result.andThen_ok, Sem.run_pure]
     · rw [if_neg h0]
       simp only [Sem.run_bind, Sem.run_pure, Result.andThen_ok, hZ]
       rw [h4']
       simp only [Sem.run_bind, g1, Result.andThen_ok, Sem.run_pure]
   · unfold sliceOf
     simp only [VRel]
     exact ⟨_, len, g2, rfl, Nat.le_refl _, fun k hk => (by cases hk; rfl), by simp only []; rw [hlen]; omega⟩

noncomputable def makeSliceA (P : Program) (t : TypeId) (len cap : AV) (s : St) : Option (AV × St) :=
 match P.underlying t, idxNat len, idxNat cap with
 | some (.slice el), some l, some c => (match P.info? el with
  | some i => Bool.rec none (Bool.rec none (Bool.rec none (match zeroRow P el i.size c with
   | some row => some (sliceOf s.next l c i.size, s.new (.cells row true))
   | none => none) (Nat.ble l c)) (Nat.ble (Nat.mul i.bytes c) 281474976710656)) (Nat.ble c 1099511627776)
  | none => none)
 | _, _, _ => none
theorem makeSliceA_ext {t : TypeId} {l c : AV} {r : AV × St} (h : makeSliceA P t l c s = some r) : Ext s r.2 := by
 unfold makeSliceA at h
 split at h <;> first | (cases h; done) | skip
 rename_i el l c _ _ _
 split at h <;> first | (cases h; done) | skip
 rename_i i _
 cases h1 : Nat.ble c 1099511627776 with
 | false => rw [h1] at h; cases h
 | true =>
  cases h2 : Nat.ble (Nat.mul i.bytes c) 281474976710656 with
  | false => rw [h1, h2] at h; cases h
  | true =>
   cases h3 : Nat.ble l c with
   | false => rw [h1, h2, h3] at h; cases h
   | true =>
    rw [h1, h2, h3] at h; simp only [] at h
    split at h <;> first | (cases h; done) | skip
    cases h; exact new_ext _ _
theorem makeSliceA_ok {t : TypeId} {l c : AV} {L C : Value} {r : AV × St} (h : makeSliceA P t l c s = some r) (hr : Rel e s M w) (hM : M s.next) (hl : VRel e l L) (hc : VRel e c C) :
 VOk P M (Instr.makeSlice t L C) e s w r.1 r.2 := by
 unfold makeSliceA at h
 split at h <;> first | (cases h; done) | skip
 rename_i el ln cn hu hln hcn
 split at h <;> first | (cases h; done) | skip
 rename_i i hi
 cases h1 : Nat.ble cn 1099511627776 with
 | false => rw [h1] at h; cases h
 | true =>
  cases h2 : Nat.ble (Nat.mul i.bytes cn) 281474976710656 with
  | false => rw [h1, h2] at h; cases h
  | true =>
   cases h3 : Nat.ble ln cn with
   | false => rw [h1, h2, h3] at h; cases h
   | true =>
    rw [h1, h2, h3] at h; simp only [] at h
    split at h <;> first | (cases h; done) | skip
    rename_i row hrow
    cases h
    have h1 : cn ≤ 1099511627776 := Nat.le_of_ble_eq_true h1
    have h2 : i.bytes * cn ≤ 281474976710656 := Nat.le_of_ble_eq_true h2
    have h3 := Nat.le_of_ble_eq_true h3
    obtain ⟨k1, rfl⟩ := idxNat_ok hln hl
    obtain ⟨k2, rfl⟩ := idxNat_ok hcn hc
    obtain ⟨z, f1, f2, f3⟩ := zeroRow_run (w := w) hr.one hrow
    have f2' : LRel e row (((Array.range (cn * i.size)).map fun j => z[j % z.size]!).toList) := f2
    obtain ⟨e', w', g1, g2, g3, g4, g5⟩ := newRow_ok (P := P) (elem := el) hr hM f2'
    have hlen := f2'.length
    refine ⟨e', w', .slice (some ⟨w.heap.size, 0, none⟩) ln cn, ?_, ?_, g4, g5⟩
    · unfold Instr.makeSlice
      have hsz : szT P el = some i.size := by simp [szT, hi]
      simp only [Sem.run_bind, run_underlying hu, Result.andThen_ok, asInt, asIntOf, Sem.run_pure, run_typeInfo w hi]
      have w1 : IntKind.i64.wrap (ln : Int) = ln := IntWalk.i64_in _ (by omega)
      have w2 : IntKind.i64.wrap (cn : Int) = cn := IntWalk.i64_in _ (by omega)
      rw [w1, w2]
      have t1 : ((decide ((cn : Int) < 0) || decide ((i.bytes : Int) * (cn : Int) > 2 ^ 48)) || decide ((ln : Int) < 0) || decide ((ln : Int) > (cn : Int))) = false := by
       have : (i.bytes : Int) * (cn : Int) = ((i.bytes * cn : Nat) : Int) := by push_cast; rfl
       rw [this]
       have a1 : decide ((cn : Int) < 0) = false := by simp
       have a2 : decide (((i.bytes * cn : Nat) : Int) > 2 ^ 48) = false := by
        rw [decide_eq_false_iff_not]
        show ¬ (2 ^ 48 : Int) < _
        have : (2 ^ 48 : Int) = 281474976710656 := by decide
        rw [this]; omega
       have a3 : decide ((ln : Int) < 0) = false := by simp
       have a4 : decide ((ln : Int) > (cn : Int)) = false := by rw [decide_eq_false_iff_not]; omega
       rw [a1, a2, a3, a4]; rfl
      have e1 : ((Array.range (cn * i.size)).map fun j => z[j % z.size]!).toList.toArray = (Array.range (cn * i.size)).map fun j => z[j % z.size]! := Array.toArray_toList
      rw [e1] at g1
      simp only [t1, Bool.false_eq_true, if_false]
      simp only [Sem.run_bind, Sem.run_pure, Result.andThen_ok, run_askRoom, Int.toNat_natCast, sizeOf_run hsz]
      rcases f1 with ⟨h0, rfl⟩ | ⟨h0, Z, hZ, rfl⟩
      · rw [if_pos h0]
        simp only [Sem.run_bind, Sem.run_pure, Result.andThen_ok]
        simp only [g1, Result.andThen_ok]
      · rw [if_neg h0]
        simp only [Sem.run_bind, Sem.run_pure, Result.andThen_ok, hZ]
        simp only [g1, Result.andThen_ok]
    · unfold sliceOf
      simp only [VRel]
      refine ⟨_, cn, g2, rfl, h3, fun k hk => (by cases hk; rfl), ?_⟩
      simp only [hlen, f3]; omega

/-- s[lo:hi] and s[lo:hi:mx] of slices -/
noncomputable def cutA (P : Program) (t : TypeId) (x : AV) (lo hi mx : Option AV) : Option AV :=
 match P.underlying t, x with
 | some (.slice el), .slice b o len cap es => (match bnd hi len, bnd lo 0, szT P el with
  | some h, some l, some n => Bool.rec none (Bool.rec none
   (match mx with
   | some m => (match hi, idxNat m with
    | some _, some m => Bool.rec none (Bool.rec none (some (.slice b (Bool.rec (Nat.add o (Nat.mul l n)) o (Nat.beq m l)) (Nat.sub h l) (some (Nat.sub m l)) es))
     (match cap with | some c => Nat.ble m c | none => Nat.ble m len)) (Nat.ble h m)
    | _, _ => none)
   | none => (match cap with
    | some c => Bool.rec none (some (.slice b (Bool.rec (Nat.add o (Nat.mul l n)) o (Nat.beq c l)) (Nat.sub h l) (some (Nat.sub c l)) es)) (Nat.ble h c)
    | none => Bool.rec none (some (.slice b (Nat.add o (Nat.mul l n)) (Nat.sub h l) none es)) (Bool.and (Nat.ble h len) (Bool.or (Nat.beq l 0) (Nat.blt l len)))))
   (Nat.ble l h)) (Nat.beq n es)
  | _, _, _ => none)
 | some (.slice el), .nils => (match bnd hi 0, bnd lo 0, mx, szT P el with
  | some 0, some 0, none, some _ => some .nils
  | _, _, _, _ => none)
 | _, _ => none
theorem sliceBounds3_run {b : Bool} {len cap h l m : Nat} {lo : Option Value} {k k' : IntKind} (hl : (lo = none ∧ l = 0) ∨ ∃ k, lo = some (.int k (l : Int)))
 (h1 : l ≤ h) (h2 : h ≤ m) (h3 : m ≤ cap) : (Instr.sliceBounds b len cap lo (some (.int k (h : Int))) (some (.int k' (m : Int)))).run P w = .ok (l, h, m) w := by
 unfold Instr.sliceBounds
 rcases hl with ⟨rfl, rfl⟩ | ⟨k', rfl⟩
 · simp only [Sem.run_bind]
   rw [sliceBound_run h3]
   simp only [Result.andThen_ok, Sem.run_bind]
   rw [sliceBound_run h2]
   simp
 · simp only [Sem.run_bind]
   rw [sliceBound_run h3]
   simp only [Result.andThen_ok, Sem.run_bind]
   rw [sliceBound_run h2]
   simp only [Result.andThen_ok, Sem.run_bind]
   rw [sliceBound_run h1]
   simp

theorem cutA_run {t : TypeId} {x v : AV} {lo hi mx : Option AV} {X : Value} {Lo Hi Mx : Option Value} (h : cutA P t x lo hi mx = some v) (hx : VRel e x X) (hlo : ORel e lo Lo) (hhi : ORel e hi Hi) (hmx : ORel e mx Mx) :
 ∃ z, (Instr.slice t X Lo Hi Mx).run P w = .ok z w ∧ VRel e v z := by
 unfold cutA at h
 split at h <;> first | (cases h; done) | skip
 · rename_i el b o len cap es hu
   split at h <;> first | (cases h; done) | skip
   rename_i hh l n hhh hl hn
   cases hes : Nat.beq n es with
   | false => rw [hes] at h; cases h
   | true =>
    cases hlh : Nat.ble l hh with
    | false => rw [hes, hlh] at h; cases h
    | true =>
     rw [hes, hlh] at h; simp only [] at h
     have hes := Nat.eq_of_beq_eq_true hes
     subst hes
     have hlh := Nat.le_of_ble_eq_true hlh
     simp only [VRel] at hx
     obtain ⟨p, m, hp, rfl, hlm, hcap, hsz⟩ := hx
     -- where the new slice lies
     have fin : ∀ (M' : Nat) (v : AV) (off : Nat) (c : Option Nat), (Instr.sliceBounds true len m Lo Hi Mx).run P w = .ok (l, hh, M') w → M' ≤ m → hh ≤ M' →
      v = .slice b off (hh - l) c n → (∀ k, c = some k → M' - l = k) → (off = (if M' = l then o else o + l * n)) →
      ∃ z, (Instr.slice t (.slice (some ⟨p.1, o, none⟩) len m) Lo Hi Mx).run P w = .ok z w ∧ VRel e v z := by
      intro M' v off c hbd hM' hhM hv hc hoff
      subst hv
      refine ⟨.slice (some ⟨p.1, off, none⟩) (hh - l) (M' - l), ?_, ?_⟩
      · unfold Instr.slice
        simp only [Sem.run_bind, run_underlying hu, Result.andThen_ok, hbd, sizeOf_run hn, Sem.run_pure]
        congr 2
        rw [hoff]
        by_cases e1 : M' = l
        · rw [if_pos e1, if_pos e1]
        · rw [if_neg e1, if_neg e1]
          simp [addr_add]
      · simp only [VRel]
        refine ⟨p, M' - l, hp, rfl, by omega, hc, ?_⟩
        rw [hoff]
        by_cases e1 : M' = l
        · rw [if_pos e1, e1]; simp; omega
        · rw [if_neg e1]
          have : l * n + (M' - l) * n = M' * n := by rw [← Nat.add_mul]; congr 1; omega
          have h5 : M' * n ≤ m * n := Nat.mul_le_mul_right _ hM'
          omega
     split at h
     · rename_i mv
       split at h <;> first | (cases h; done) | skip
       rename_i hv0 m0 hm0
       obtain ⟨mV, rfl, hmV⟩ := hmx
       obtain ⟨km, rfl⟩ := idxNat_ok hm0 hmV
       obtain ⟨hV, rfl, hhV⟩ := hhi
       obtain ⟨kh, rfl⟩ := idxNat_ok (show idxNat hv0 = some hh from hhh) hhV
       cases h1 : Nat.ble hh m0 with
       | false => rw [h1] at h; cases h
       | true =>
        rw [h1] at h; simp only [] at h
        have h1 := Nat.le_of_ble_eq_true h1
        have h2 : m0 ≤ m ∧ v = .slice b (Bool.rec (Nat.add o (Nat.mul l n)) o (Nat.beq m0 l)) (Nat.sub hh l) (some (Nat.sub m0 l)) n := by
         cases cap with
         | some c =>
          simp only [] at h
          cases h2 : Nat.ble m0 c with
          | false => rw [h2] at h; cases h
          | true => rw [h2] at h; cases h; exact ⟨by rw [hcap c rfl]; exact Nat.le_of_ble_eq_true h2, rfl⟩
         | none =>
          simp only [] at h
          cases h2 : Nat.ble m0 len with
          | false => rw [h2] at h; cases h
          | true => rw [h2] at h; cases h; exact ⟨Nat.le_trans (Nat.le_of_ble_eq_true h2) hlm, rfl⟩
        refine fin m0 v _ _ (sliceBounds3_run (bnd_ok hl hlo) hlh h1 h2.1) h2.1 h1 h2.2 (fun k hk => by cases hk; rfl) ?_
        cases hq : Nat.beq m0 l with
        | true => rw [if_pos (Nat.eq_of_beq_eq_true hq)]
        | false => rw [if_neg (Nat.ne_of_beq_eq_false hq)]; rfl
     · have hmx : Mx = none := hmx
       subst hmx
       split at h
       · rename_i c
         cases h1 : Nat.ble hh c with
         | false => rw [h1] at h; cases h
         | true =>
          rw [h1] at h; cases h
          have h1 := Nat.le_of_ble_eq_true h1
          have hm : m = c := hcap c rfl
          subst hm
          refine fin m _ _ _ (sliceBounds_run (bnd_ok hhh hhi) (bnd_ok hl hlo) hlh (fun _ => h1)) (Nat.le_refl _) h1 rfl (fun k hk => by cases hk; rfl) ?_
          cases hq : Nat.beq m l with
          | true => rw [if_pos (Nat.eq_of_beq_eq_true hq)]
          | false => rw [if_neg (Nat.ne_of_beq_eq_false hq)]; rfl
       · cases h1 : Bool.and (Nat.ble hh len) (Bool.or (Nat.beq l 0) (Nat.blt l len)) with
         | false => rw [h1] at h; cases h
         | true =>
          rw [h1] at h; cases h
          have h1 : (Nat.ble hh len && (Nat.beq l 0 || Nat.blt l len)) = true := h1
          rw [Bool.and_eq_true, Bool.or_eq_true] at h1
          have h2 := Nat.le_of_ble_eq_true h1.1
          refine fin m _ _ _ (sliceBounds_run (bnd_ok hhh hhi) (bnd_ok hl hlo) hlh (fun _ => by omega)) (Nat.le_refl _) (by omega) rfl (fun k hk => by cases hk) ?_
          rcases h1.2 with h3 | h3
          · have := Nat.eq_of_beq_eq_true h3
            subst this
            split <;> simp
          · have h3 := blt_iff.1 h3
            rw [if_neg (by omega)]; rfl
 · rename_i el hu
   split at h <;> first | (cases h; done) | skip
   rename_i n hh hl hn
   cases h
   have hmx : Mx = none := hmx
   subst hmx
   simp only [VRel] at hx; subst hx
   have := sliceBounds_run (P := P) (w := w) (b := true) (len := 0) (cap := 0) (bnd_ok hh hhi) (bnd_ok hl hlo) (Nat.le_refl _) (fun _ => Nat.le_refl _)
   refine ⟨.slice none 0 0, ?_, by simp only [VRel]⟩
   unfold Instr.slice
   simp only [Sem.run_bind, run_underlying hu, Result.andThen_ok, this, sizeOf_run hn, Sem.run_pure]
   rfl
end
end Go.Ev
namespace Go.Ev

section
variable {P : Program} {M : Nat → Prop} {e : Env} {s s' : St} {w : World}

noncomputable def allByte (l : List Nat) : Bool := List.rec (motive := fun _ => Bool) true (fun b _ ih => Bool.rec false ih (Nat.ble b 255)) l
theorem allByte_ok : ∀ {l : List Nat}, allByte l = true → ∀ b ∈ l, b ≤ 255 := by
 intro l
 induction l with
 | nil => intro _ b hb; cases hb
 | cons a l ih =>
  intro h
  have h2 : (Bool.rec false (allByte l) (Nat.ble a 255) : Bool) = true := h
  cases ha : Nat.ble a 255 with
  | false => rw [ha] at h2; cases h2
  | true =>
   rw [ha] at h2
   intro b hb
   rcases List.mem_cons.1 hb with rfl | hb
   · exact Nat.le_of_ble_eq_true ha
   · exact ih h2 b hb
theorem bytesRow_rel (l : List Nat) : LRel e (lmap (fun b => .int .u8 (.ofNat b)) l) (l.map fun (b : Nat) => Value.int .u8 (Int.ofNat b)) := by
 rw [lmap_eq]
 induction l with
 | nil => exact .nil_
 | cons a l ih => exact .cons_ (show VRel e (.int .u8 (.ofNat a)) (.int .u8 (Int.ofNat a)) by simp only [VRel]) ih
/-- the first n things of a slice (es cells each), or the bytes of a string; and the block that is looked at -/
noncomputable def elemsA (es : Nat) (x : AV) (n : Nat) (s : St) : Option (List AV × St) :=
 match x with
 | .nils => some ([], s)
 | .slice b o _ _ _ => (match s.mem.get b with
  | some (.cells row _) => Bool.rec none (some (ltake (ldrop row o) (Nat.mul n es), s.touch b)) (Nat.beq (llen (ltake (ldrop row o) (Nat.mul n es))) (Nat.mul n es))
  | _ => none)
 | .str l => Bool.rec none (some (lmap (fun b => .int .u8 (.ofNat b)) l, s)) (Bool.and (Nat.beq n (llen l)) (allByte l))
 | _ => none
noncomputable def lenSl (x : AV) : Option Nat :=
 match x with
 | .nils => some 0
 | .slice _ _ l _ _ => some l
 | .str l => some (llen l)
 | _ => none
noncomputable def lenS (x : AV) : Option Nat :=
 match x with
 | .nils => some 0
 | .slice _ _ l _ _ => some l
 | _ => none
theorem lenS_ok {x : AV} {n : Nat} (h : lenS x = some n) : lenSl x = some n ∧ ∀ l, x ≠ .str l := by
 unfold lenS at h
 split at h <;> first | (cases h; done) | (cases h; exact ⟨rfl, fun l hl => by cases hl⟩)
theorem lenSl_run {x : AV} {X : Value} {n : Nat} (h : lenSl x = some n) (hx : VRel e x X) : (Builtin.lenOf X).run P w = .ok n w := by
 unfold lenSl at h
 split at h <;> first | (cases h; done) | skip
 all_goals simp only [VRel] at hx
 · subst hx; cases h; rfl
 · obtain ⟨p, m, hp, rfl, _⟩ := hx; cases h; rfl
 · subst hx; cases h
   simp only [Builtin.lenOf, size_bytes, llen_eq]; rfl
theorem elemsA_ext {es n : Nat} {x : AV} {r : List AV × St} (h : elemsA es x n s = some r) : Ext s r.2 := by
 unfold elemsA at h
 split at h <;> first | (cases h; done) | skip
 · cases h; exact .refl _
 · split at h <;> first | (cases h; done) | skip
   rename_i row ex hb
   cases hl : Nat.beq (llen (ltake (ldrop row _) (Nat.mul n es))) (Nat.mul n es) with
   | false => rw [hl] at h; cases h
   | true => rw [hl] at h; cases h; exact touch_ext hb
 · rename_i l
   cases hl : Bool.and (Nat.beq n (llen l)) (allByte l) with
   | false => rw [hl] at h; cases h
   | true => rw [hl] at h; cases h; exact .refl _
theorem elemsA_ok {es n : Nat} {x : AV} {X : Value} {r : List AV × St} (h : elemsA es x n s = some r) (hr : Rel e s M w) (hX : ∀ i, r.2.X.testBit i = true → M i) (hx : VRel e x X) :
 ∃ xs, (∀ w' : World, w'.heap = w.heap → (Builtin.firstCells es n X).run P w' = .ok xs.toArray w') ∧ LRel e r.1 xs ∧ Rel e r.2 M w ∧ Trans e s w e r.2 w ∧ ((∀ l, x ≠ .str l) → x ≠ .nils → r.1.length = n * es) := by
 unfold elemsA at h
 split at h <;> first | (cases h; done) | skip
 · simp only [VRel] at hx; subst hx; cases h
   exact ⟨[], fun _ _ => rfl, .nil_, hr, .refl _ _ _, fun _ h => absurd rfl h⟩
 · rename_i b o len cap es'
   split at h <;> first | (cases h; done) | skip
   rename_i row ex hb
   cases hl : Nat.beq (llen (ltake (ldrop row o) (Nat.mul n es))) (Nat.mul n es) with
   | false => rw [hl] at h; cases h
   | true =>
    rw [hl] at h; cases h
    have hl := Nat.eq_of_beq_eq_true hl
    rw [llen_eq] at hl
    have hMb := hX b (orB_same _ _)
    obtain ⟨p, hp, hB⟩ := hr.blk b _ hMb hb
    simp only [VRel] at hx
    obtain ⟨p', m, hp', rfl, _⟩ := hx
    rw [hp] at hp'; cases hp'
    obtain ⟨xs, h1, h2⟩ := hB.loads (P := P) (o := o) (n := n * es) (by rw [ltake_eq, ldrop_eq]; rfl) hl
    obtain ⟨t1, t2⟩ := touch_ok (b := b) hr
    exact ⟨xs, h1, h2, t1, t2, fun _ _ => hl⟩
 · rename_i l
   simp only [VRel] at hx; subst hx
   cases hl : Bool.and (Nat.beq n (llen l)) (allByte l) with
   | false => rw [hl] at h; cases h
   | true =>
    rw [hl] at h; cases h
    have hl : (Nat.beq n (llen l) && allByte l) = true := hl
    rw [Bool.and_eq_true] at hl
    have hn := Nat.eq_of_beq_eq_true hl.1
    rw [llen_eq] at hn
    refine ⟨(l.map fun (b : Nat) => Value.int .u8 (Int.ofNat b)), fun w' _ => ?_, ?_, hr, .refl _ _ _, fun h => absurd rfl (h l)⟩
    · have hall := allByte_ok hl.2
      have e1 : (bytes l).extract 0 n = bytes l := by
       rw [hn, ← size_bytes l]; simp
      simp only [Builtin.firstCells, e1]
      show Result.ok _ w' = _
      congr 1
      unfold bytes
      simp only [List.map_toArray, List.map_map]
      congr 1
      refine List.map_congr_left fun b hb => ?_
      have := hall b hb
      simp only [Function.comp]
      congr 1
      show ((UInt8.ofNat b).toNat : Int) = b
      simp; omega
    · exact bytesRow_rel l

theorem append_realloc {sT xT t el : TypeId} {es len cap n : Nat} {base : Option Addr} {X z : Value} {olds news : List Value} {i : TypeInfo}
 (hu : P.underlying sT = some (.slice el)) (hx : (∃ u, P.underlying xT = some (.slice u)) ∨ P.underlying xT = some .string) (hi : P.info? el = some i) (hes : i.size = es) (hz : i.zero = some z) (hZs : z.cells.size = es)
 (hn : ∀ w, (Builtin.lenOf X).run P w = .ok n w) (hcap : cap < len + n) (hold : (Builtin.firstCells es len (.slice base len cap)).run P w.drew = .ok olds.toArray w.drew) (hnew : (Builtin.firstCells es n X).run P w.drew = .ok news.toArray w.drew)
 (hlo : olds.length = len * es) (hln : news.length = n * es) (hb : (len + n) * i.bytes ≤ 140737488355328) (hsm : len + n ≤ 1099511627776) :
 ∃ w' k c, (Builtin.append_ #[sT, xT] t #[.slice base len cap, X]).run P w = .ok (.slice (some ⟨w.heap.size, 0, none⟩) (len + n) k) w' ∧ len + n ≤ k ∧ Laid w w' ∧
  w'.heap[w.heap.size]? = some (.cells c el (0, 0)) ∧ c.size = k * es ∧ c.toList.take (olds ++ news).length = olds ++ news := by
 have hkn : len + n ≤ grownCap w (len + n) cap el := by unfold grownCap; simp only [Question.cut]; omega
 generalize hk : grownCap w (len + n) cap el = k at hkn
 obtain ⟨c, hc⟩ : ∃ c, c = olds.toArray ++ (news.toArray ++ Builtin.zeroCells z.cells (k - (len + n))) := ⟨_, rfl⟩
 have hcs : c.size = k * es := by
  rw [hc]
  simp [Builtin.zeroCells, hlo, hln, hZs]
  rw [← Nat.add_mul, ← Nat.add_mul]; congr 1; omega
 refine ⟨w.drew.alloc (.cells c el), k, c, ?_, hkn, ⟨by simp, fun j hj => ?_, ⟨rfl, rfl, rfl⟩⟩, ?_, hcs, ?_⟩
 · have hn' : ¬ (len + n ≤ cap) := by omega
   have h63' : ¬ (9223372036854775807 < ((len : Int) + (n : Int))) := by omega
   have h48' : ¬ (281474976710656 < Builtin.nextslicecap (len + n) cap * i.bytes) := by
    have := growslice_fits hcap hb; omega
   subst hes
   have fin : (newRow el c).run P w.drew = .ok ⟨w.heap.size, 0, none⟩ (w.drew.alloc (.cells c el)) := by simp [newRow]; rfl
   rcases hx with ⟨u, hx⟩ | hx
   · simp [Builtin.append_, run_underlying hu, run_underlying hx, sizeOf, typeInfo, zeroValue, hi, hz, hn, hn', h63', h48', Question.forced]
     simp only [hold, hnew, Result.andThen_ok]
     have e1 : (Question.appendCap (len + n) cap el).cut (w.tape w.drawn (.appendCap (len + n) cap el)) = k := hk
     rw [e1, ← hc, fin]
     rfl
   · simp [Builtin.append_, run_underlying hu, run_underlying hx, sizeOf, typeInfo, zeroValue, hi, hz, hn, hn', h63', h48', Question.forced]
     simp only [hold, hnew, Result.andThen_ok]
     have e1 : (Question.appendCap (len + n) cap el).cut (w.tape w.drawn (.appendCap (len + n) cap el)) = k := hk
     rw [e1, ← hc, fin]
     rfl
 · show (w.heap.push (.cells c el))[j]? = w.heap[j]?
   rw [Array.getElem?_push_lt hj]; simp [hj]
 · show (w.heap.push (.cells c el))[w.heap.size]? = _
   simp
 · rw [hc]
   have : (olds.toArray ++ (news.toArray ++ Builtin.zeroCells z.cells (k - (len + n)))).toList = (olds ++ news) ++ (Builtin.zeroCells z.cells (k - (len + n))).toList := by simp
   rw [this, List.take_left]

theorem Rel.heap {w' : World} (h : Rel e s M w) (hw : w'.heap = w.heap) : Rel e s M w' :=
 ⟨fun b B hb hB => let ⟨p, hp, hq⟩ := h.blk b B hb hB; ⟨p, hp, hq.keep e.le_refl (by rw [hw])⟩, h.inj, h.new, h.one, h.glob.step rfl (fun _ _ h => .inl h) (fun i _ => by rw [hw]) (by rw [hw]; exact Nat.le_refl _)⟩
theorem BRel.cut {p : Nat × Nat} {row : List AV} {ex : Bool} (h : BRel e w p (.cells row ex)) (n : Nat) (hn : n ≤ row.length) : BRel e w p (.cells (row.take n) false) := by
 obtain ⟨c, elem, fr, h1, h2, h3, h4, h5, h6⟩ := h
 refine ⟨c, elem, fr, h1, h2, h3, by simp; omega, (fun h => by cases h), ?_⟩
 have := h6.take n
 rw [List.take_take] at this
 simpa using this

noncomputable def fits (P : Program) (el : TypeId) (es need : Nat) : Bool :=
 match P.info? el with
 | some i => (match i.zero with
  | some z => Bool.and (Nat.beq z.cells.size es) (Bool.and (Nat.beq i.size es) (Bool.and (Nat.ble need 1099511627776) (Nat.ble (Nat.mul need i.bytes) 140737488355328)))
  | none => false)
 | none => false
theorem fits_ok {el : TypeId} {es need : Nat} (h : fits P el es need = true) : ∃ i z, P.info? el = some i ∧ i.zero = some z ∧ z.cells.size = es ∧ i.size = es ∧ need ≤ 1099511627776 ∧ need * i.bytes ≤ 140737488355328 := by
 unfold fits at h
 split at h <;> first | (cases h; done) | skip
 rename_i i hi
 split at h <;> first | (cases h; done) | skip
 rename_i z hz
 have h : (Nat.beq z.cells.size es && (Nat.beq i.size es && (Nat.ble need 1099511627776 && Nat.ble (Nat.mul need i.bytes) 140737488355328))) = true := h
 simp only [Bool.and_eq_true] at h
 exact ⟨i, z, hi, hz, Nat.eq_of_beq_eq_true h.1, Nat.eq_of_beq_eq_true h.2.1, Nat.le_of_ble_eq_true h.2.2.1, Nat.le_of_ble_eq_true h.2.2.2⟩

/-- n > 0 things behind a slice, its room being full, or not known -/
noncomputable def growA (P : Program) (el : TypeId) (es : Nat) (x : AV) (len n : Nat) (news : List AV) (s : St) : Option (AV × St) :=
 Bool.rec none (match elemsA es x len s with
  | some (old, s1) => Bool.rec none (match x with
   | .slice b o _ none es' => Bool.rec none (Bool.rec none (match s1.mem.get b with
    | some (.cells row false) => Bool.rec none (some (.slice s1.next 0 (Nat.add len n) none es, s1.over b (.cells (lapp old news) false))) (lall AV.one news)
    | _ => none) (Nat.beq es es')) (Nat.beq o 0)
   | _ => some (.slice s1.next 0 (Nat.add len n) none es, s1.new (.cells (lapp old news) false))) (Nat.beq (llen old) (Nat.mul len es))
  | none => none) (fits P el es (Nat.add len n))

noncomputable def appendB (P : Program) (el : TypeId) (es len n : Nat) (x : AV) (news : List AV) (s1 : St) : Option (AV × St) :=
 match x with
 | .slice b o _ (some c) es' => Bool.rec (growA P el es x len n news s1)
  (Bool.rec none (match s1.mem.get b with
   | some (.cells row ex) => Bool.rec none (match lsets row news (Nat.add o (Nat.mul len es)) with
    | some row' => some (.slice b o (Nat.add len n) (some c) es', s1.put b (.cells row' ex))
    | none => none) (lall AV.one news)
   | _ => none) (Nat.beq es es')) (Nat.ble (Nat.add len n) c)
 | .slice _ _ _ none _ => growA P el es x len n news s1
 | .nils => growA P el es x len n news s1
 | _ => none
noncomputable def appendC (P : Program) (el : TypeId) (es len n : Nat) (x y : AV) (s : St) : Option (AV × St) :=
 match elemsA es y n s with
 | none => none
 | some (news, s1) => Bool.rec none (Bool.rec (appendB P el es len n x news s1) (some (x, s1)) (Nat.beq n 0)) (Nat.beq (llen news) (Nat.mul n es))
noncomputable def appendA (P : Program) (sT xT : TypeId) (x y : AV) (s : St) : Option (AV × St) :=
 match P.underlying sT with
 | some (.slice el) => (match P.underlying xT with
  | some (.slice _) | some .string => (match szT P el, lenS x, lenSl y with
   | some es, some len, some n => appendC P el es len n x y s
   | _, _, _ => none)
  | _ => none)
 | _ => none

theorem growA_ext {el es len n : Nat} {x : AV} {news : List AV} {r : AV × St} (h : growA P el es x len n news s = some r) : Ext s r.2 := by
 unfold growA at h
 cases h1 : fits P el es (Nat.add len n) with
 | false => rw [h1] at h; cases h
 | true =>
  rw [h1] at h; simp only [] at h
  split at h <;> first | (cases h; done) | skip
  rename_i old s1 he
  cases h2 : Nat.beq (llen old) (Nat.mul len es) with
  | false => rw [h2] at h; cases h
  | true =>
   rw [h2] at h; simp only [] at h
   have hx := elemsA_ext he
   split at h
   · rename_i b o l es'
     cases h3 : Nat.beq o 0 with
     | false => rw [h3] at h; cases h
     | true =>
      cases h4 : Nat.beq es es' with
      | false => rw [h3, h4] at h; cases h
      | true =>
       rw [h3, h4] at h; simp only [] at h
       split at h <;> first | (cases h; done) | skip
       rename_i row hb
       cases h5 : lall AV.one news with
       | false => rw [h5] at h; cases h
       | true => rw [h5] at h; cases h; exact hx.trans (over_ext hb)
   · cases h; exact hx.trans (new_ext _ _)

theorem append_inplace {sT xT t el : TypeId} {es len cap n : Nat} {k o : Nat} {Y : Value} {Ys : List Value} {w' : World}
 (hu : P.underlying sT = some (.slice el)) (hx : (∃ u, P.underlying xT = some (.slice u)) ∨ P.underlying xT = some .string) (hsz : szT P el = some es)
 (hn : ∀ w, (Builtin.lenOf Y).run P w = .ok n w) (hcap : len + n ≤ cap) (hnew : (Builtin.firstCells es n Y).run P w = .ok Ys.toArray w) (hst : (storeCells ⟨k, o + len * es, none⟩ Ys 0).run P w = .ok () w') :
 (Builtin.append_ #[sT, xT] t #[.slice (some ⟨k, o, none⟩) len cap, Y]).run P w = .ok (.slice (some ⟨k, o, none⟩) (len + n) cap) w' := by
 have hs2 := sizeOf_run (w := w) hsz
 rcases hx with ⟨u, hx⟩ | hx
 · simp [Builtin.append_, run_underlying hu, run_underlying hx, hs2, hn, hcap, hnew, addr_add, hst]
 · simp [Builtin.append_, run_underlying hu, run_underlying hx, hs2, hn, hcap, hnew, addr_add, hst]

theorem growA_ok {sT xT t el : TypeId} {es len n : Nat} {x y : AV} {X Y : Value} {news : List AV} {Ys : List Value} {r : AV × St} (h : growA P el es x len n news s = some r) (hr : Rel e s M w) (hw : Wf s) (hX : ∀ i, r.2.X.testBit i = true → M i)
 (hu : P.underlying sT = some (.slice el)) (hxT : (∃ u, P.underlying xT = some (.slice u)) ∨ P.underlying xT = some .string) (hn0 : n ≠ 0) (hx : VRel e x X) (hlen : lenSl x = some len) (hfull : ∀ b o l c z, x = .slice b o l (some c) z → c < len + n)
 (hstr : ∀ l, x ≠ .str l)
 (hlY : ∀ w, (Builtin.lenOf Y).run P w = .ok n w) (hnews : ∀ w', w'.heap = w.heap → (Builtin.firstCells es n Y).run P w' = .ok Ys.toArray w') (hrel : LRel e news Ys) (hnl : news.length = n * es) :
 VOk P M (Builtin.append_ #[sT, xT] t #[X, Y]) e s w r.1 r.2 := by
 unfold growA at h
 cases h1 : fits P el es (Nat.add len n) with
 | false => rw [h1] at h; cases h
 | true =>
  rw [h1] at h; simp only [] at h
  split at h <;> first | (cases h; done) | skip
  rename_i old s1 he
  cases h2 : Nat.beq (llen old) (Nat.mul len es) with
  | false => rw [h2] at h; cases h
  | true =>
   rw [h2] at h; simp only [] at h
   have h2 := Nat.eq_of_beq_eq_true h2
   rw [llen_eq] at h2
   obtain ⟨i, z, hi, hz, hzs, his, hsm, hbb⟩ := fits_ok h1
   have hXe := elemsA_ext he
   have hsz : szT P el = some es := by simp [szT, hi, his]
   -- the new row elsewhere
   have out : ∀ (base : Option Addr) (cap : Nat), X = .slice base len cap → cap < len + n → Rel e s1 M w → Trans e s w e s1 w →
    M s1.next → (∀ w', w'.heap = w.heap → ∃ os, (Builtin.firstCells es len X).run P w' = .ok os w' ∧ LRel e old os.toList) →
    ∃ k w', (Builtin.append_ #[sT, xT] t #[X, Y]).run P w = .ok (.slice (some ⟨w.heap.size, 0, none⟩) (len + n) k) w' ∧ len + n ≤ k ∧ Laid w w' ∧
     BRel (e.ext s1.next (w.heap.size, k * es)) w' (w.heap.size, k * es) (.cells (lapp old news) false) := by
    intro base cap hXs hcap hr1 ht1 hM hold
    obtain ⟨os, ho1, ho2⟩ := hold w.drew rfl
    subst hXs
    have ho1' : (Builtin.firstCells es len (.slice base len cap)).run P w.drew = .ok os.toList.toArray w.drew := by simpa using ho1
    obtain ⟨w', k, c, g1, g2, g3, g4, g5, g6⟩ := append_realloc (t := t) hu hxT hi his hz hzs hlY hcap ho1' (hnews w.drew rfl) (by rw [ho2.length, h2]; rfl) (by rw [hrel.length, hnl]) hbb hsm
    refine ⟨k, w', g1, g2, g3, c, el, (0, 0), g4, g5, .inl (Nat.le_refl _), ?_, (fun h => by cases h), ?_⟩
    · rw [lapp_eq, List.length_append, h2, hnl]
      show len * es + n * es ≤ k * es
      rw [← Nat.add_mul]; exact Nat.mul_le_mul_right _ g2
    · have hl := (ho2.append hrel).mono (Env.ext_le (hr1.new _ hM (Nat.le_refl _)) (w.heap.size, k * es))
      rw [lapp_eq]
      have e1 : (old ++ news).length = (os.toList ++ Ys).length := by rw [List.length_append, List.length_append, ho2.length, hrel.length]
      rw [e1, g6]; exact hl
   have fc : ∀ w', w'.heap = w.heap → (∀ i, s1.X.testBit i = true → M i) → ∃ os, (Builtin.firstCells es len X).run P w' = .ok os w' ∧ LRel e old os.toList := fun w' hw' hX1 => by
    obtain ⟨xs, f1, f2, _⟩ := elemsA_ok (P := P) he hr hX1 hx
    exact ⟨xs.toArray, f1 w' hw', by simpa using f2⟩
   have elsewhere : ∀ (base : Option Addr) (cap : Nat), X = .slice base len cap → cap < len + n → (v : AV) → (s2 : St) → v = .slice s1.next 0 (len + n) none es → (s2 = s1.new (.cells (lapp old news) false) ∨ ∃ b B, s1.mem.get b = some B ∧ s2 = s1.over b (.cells (lapp old news) false)) →
    (∀ i, s2.X.testBit i = true → M i) → VOk P M (Builtin.append_ #[sT, xT] t #[X, Y]) e s w v s2 := by
    intro base cap hXs hcap v s2 hv hs2 hX2
    have hX1 : ∀ i, s1.X.testBit i = true → M i := fun i hi => hX2 i (by
     rcases hs2 with rfl | ⟨b, B, hbB, rfl⟩
     · exact orB_old hi
     · exact orB_old (orB_old hi))
    have hM : M s1.next := hX2 _ (by
     rcases hs2 with rfl | ⟨b, B, hbB, rfl⟩
     · exact orB_same _ _
     · exact orB_same _ _)
    obtain ⟨xs, f1, f2, f3, f4, _⟩ := elemsA_ok (P := P) he hr hX1 hx
    obtain ⟨k, w', g1, g2, g3, g4⟩ := out base cap hXs hcap f3 f4 hM (fun w' hw' => fc w' hw' hX1)
    have hn1 := f3.new _ hM (Nat.le_refl _)
    rcases hs2 with rfl | ⟨b, B, hbB, rfl⟩
    · obtain ⟨t1, t2⟩ := new_ok f3 hM g3 g4
      refine ⟨_, w', _, g1, ?_, t1, f4.trans hXe (new_ext _ _) t2⟩
      subst hv
      simp only [VRel]
      exact ⟨_, k, e.ext_same _ _, rfl, g2, (fun k hk => by cases hk), by simp⟩
    · obtain ⟨t1, t2⟩ := over_out (b := b) f3 hM g3 g4
      refine ⟨_, w', _, g1, ?_, t1, ?_⟩
      · subst hv
        simp only [VRel]
        exact ⟨_, k, e.ext_same _ _, rfl, g2, (fun k hk => by cases hk), by simp⟩
      · exact f4.trans hXe (over_ext hbB) t2
   split at h
   · rename_i b o l es'
     cases h3 : Nat.beq o 0 with
     | false => rw [h3] at h; cases h
     | true =>
      cases h4 : Nat.beq es es' with
      | false => rw [h3, h4] at h; cases h
      | true =>
       rw [h3, h4] at h; simp only [] at h
       split at h <;> first | (cases h; done) | skip
       rename_i row hb
       cases h5 : lall AV.one news with
       | false => rw [h5] at h; cases h
       | true =>
        rw [h5] at h; cases h
        have h3 := Nat.eq_of_beq_eq_true h3
        have h4 := Nat.eq_of_beq_eq_true h4
        subst h3; subst h4
        cases hlen
        simp only [VRel] at hx
        obtain ⟨p, m, hp, rfl, hlm, _, hsm'⟩ := hx
        by_cases hin : len + n ≤ m
        · have hX1 : ∀ i, s1.X.testBit i = true → M i := fun i hi => hX i (orB_old (orB_old hi))
          have hMb : M b := hX b (orB_old (orB_same _ _))
          have hM : M s1.next := hX _ (orB_same _ _)
          have hx' : VRel e (.slice b 0 len none es) (.slice (some ⟨p.1, 0, none⟩) len m) := by simp only [VRel]; exact ⟨p, m, hp, rfl, hlm, (fun k hk => by cases hk), hsm'⟩
          obtain ⟨xs, f1, f2, f3, f4, _⟩ := elemsA_ok (P := P) he hr hX1 hx'
          obtain ⟨p', hp', hB⟩ := f3.blk b _ hMb hb
          rw [hp] at hp'; cases hp'
          have hold : old = row.take (len * es) := by
           unfold elemsA at he
           simp only [] at he
           split at he <;> first | (cases he; done) | skip
           rename_i row0 ex0 hb0
           cases hl0 : Nat.beq (llen (ltake (ldrop row0 0) (Nat.mul len es))) (Nat.mul len es) with
           | false => rw [hl0] at he; cases he
           | true =>
            rw [hl0] at he; cases he
            have : (s.touch b).mem.get b = s.mem.get b := rfl
            rw [this, hb0] at hb
            cases hb
            rw [ltake_eq, ldrop_eq]; rfl
          have hle : len * es ≤ row.length := by
           have h2' : old.length = len * es := h2
           rw [hold, List.length_take] at h2'; omega
          obtain ⟨w', g1, g2, g3⟩ := (hB.cut (len * es) hle).extends (P := P) (o := len * es) (i := 0) hrel (hrel.ones h5 hr.one) (by simp; omega)
           (by rw [List.length_take, Nat.min_eq_left hle, hnl, ← Nat.add_mul]; have := Nat.mul_le_mul_right es hin; omega)
          have hn1 := f3.new _ hM (Nat.le_refl _)
          obtain ⟨t1, t2⟩ := over_in (B := .cells (lapp old news) false) f3 (hXe.wf hw) hM hMb hb hp g2 (by rw [lapp_eq, hold]; exact g3.keep (Env.ext_le hn1 _) rfl)
          refine ⟨_, w', _, append_inplace (o := 0) hu hxT hsz hlY hin (hnews w rfl) (by rw [Nat.zero_add]; exact g1), ?_, t1, f4.trans hXe (over_ext hb) t2⟩
          simp only [VRel]
          exact ⟨p, m, e.ext_same _ _, rfl, hin, (fun k hk => by cases hk), hsm'⟩
        · exact elsewhere _ m rfl (by omega) _ _ rfl (.inr ⟨b, _, hb, rfl⟩) hX
   · cases h
     rename_i hnot
     cases x <;> first | (cases hlen; done) | skip
     · exact absurd rfl (hstr _)
     · rename_i b o l c z
       cases c with
       | none => exact absurd rfl (hnot _ _ _ _)
       | some c =>
        cases hlen
        have hc := hfull _ _ _ _ _ rfl
        have hx0 := hx
        simp only [VRel] at hx
        obtain ⟨p, m, hp, rfl, hlm, hm, _⟩ := hx
        exact elsewhere _ m rfl (by rw [hm c rfl]; exact hc) _ _ rfl (.inl rfl) hX
     · cases hlen
       simp only [VRel] at hx
       subst hx
       exact elsewhere _ 0 rfl (by omega) _ _ rfl (.inl rfl) hX
end
end Go.Ev
namespace Go.Ev

section
variable (P : Program) (eqT : List Nat)

noncomputable def copyA (dT : TypeId) (x y : AV) (s : St) : Option (AV × St) :=
 match P.underlying dT with
 | some (.slice el) => (match szT P el, lenS x, lenSl y with
  | some es, some lx, some ly => (match elemsA es y (Bool.rec ly lx (Nat.ble lx ly)) s with
   | none => none
   | some (news, s1) => (match x with
    | .nils => some (.int .i64 0, s1)
    | .slice b o _ _ _ => (match s1.mem.get b with
     | some (.cells row ex) => Bool.rec none (match lsets row news o with
      | some row' => some (.int .i64 (.ofNat (Bool.rec ly lx (Nat.ble lx ly))), s1.put b (.cells row' ex))
      | none => none) (lall AV.one news)
     | _ => none)
    | _ => none))
  | _, _, _ => none)
 | _ => none

noncomputable def toBytesA (src dst : TypeId) (x : AV) (s : St) : Option (AV × St) :=
 match P.underlying src, P.underlying dst, x with
 | some .string, some (.slice el), .str l => (match P.underlying el with
  | some (.int .u8) => Bool.rec none (some (.slice s.next 0 (llen l) none 1, s.new (.cells (lmap (fun b => .int .u8 (.ofNat b)) l) false))) (Bool.and (allByte l) (Nat.ble (llen l) 1099511627776))
  | _ => none)
 | _, _, _ => none
noncomputable def ofByte (v : AV) (r : Option (List Nat)) : Option (List Nat) := match v with
 | .int .u8 n => Int.rec (fun m => Option.rec none (fun l => some (m :: l)) r) (fun _ => none) n
 | _ => none
noncomputable def ofBytes (l : List AV) : Option (List Nat) := List.rec (motive := fun _ => Option (List Nat)) (some []) (fun v _ ih => ofByte v ih) l
noncomputable def toStrA (src dst : TypeId) (x : AV) (s : St) : Option (AV × St) :=
 match P.underlying src, P.underlying dst with
 | some (.slice el), some .string => (match P.underlying el with
  | some (.int .u8) => (match x with
   | .nils => some (.str [], s)
   | .slice _ _ n _ _ => (match elemsA 1 x n s with
    | some (l, s1) => (match ofBytes l with | some l => some (.str l, s1) | none => none)
    | none => none)
   | _ => none)
  | _ => none)
 | _, _ => none

/-- x[lo:hi] of an array's address -/
noncomputable def cutArr (t : TypeId) (x : AV) (lo hi mx : Option AV) (s : St) : Option (AV × St) :=
 match P.underlying t, x, mx with
 | some (.array n el), .ptr b o, none => (match bnd hi n, bnd lo 0, szT P el, s.mem.get b with
  | some h, some l, some es, some (.cells row _) => Bool.rec none (Bool.rec none (Bool.rec none
   (some (.slice b (Bool.rec (Nat.add o (Nat.mul l es)) o (Nat.beq n l)) (Nat.sub h l) (some (Nat.sub n l)) es, s.touch b))
   (Nat.ble (Nat.add o (Nat.mul n es)) (llen row))) (Nat.ble h n)) (Nat.ble l h)
  | _, _, _, _ => none)
 | _, _, _ => none

/-! maps -/
noncomputable def findA (kt : TypeId) (k : AV) (es : List (AV × AV × Nat)) : Nat → Option (Option (Nat × AV)) :=
 List.rec (motive := fun _ => Nat → Option (Option (Nat × AV))) (fun _ => some none) (fun p _ ih i => match eqA P eqT 30 kt k p.1 with
  | some true => some (some (i, p.2.1))
  | some false => ih (Nat.succ i)
  | none => none) es
/-- a key that can be one -/
noncomputable def chkItems (ih : TypeId → AV → Bool) (el : TypeId) (c : Nat) (xs : List AV) (n i : Nat) : Bool :=
 Nat.rec (motive := fun _ => Nat → Bool) (fun _ => true) (fun _ r i => Option.rec false (fun a => Bool.rec false (r (Nat.succ i)) (ih el a)) (partA P el xs (Nat.mul i c))) n i
noncomputable def chkFields (ih : TypeId → AV → Bool) (xs : List AV) (fs : List Field) : Bool :=
 List.rec (motive := fun _ => Bool) true (fun f _ r => Option.rec false (fun a => Bool.rec false r (ih f.type a)) (partA P f.type xs f.offset)) fs
noncomputable def chkStep (ih : TypeId → AV → Bool) (t : TypeId) (x : AV) : Bool :=
 match P.underlying t with
 | some .bool | some (.int _) | some .string => true
 | some (.array n el) => Option.rec false (fun xs => Option.rec false (fun c => chkItems P ih el c xs n 0) (szT P el)) (selG x)
 | some (.struct fs) => Option.rec false (fun xs => chkFields P ih xs fs.toList) (selG x)
 | _ => false
noncomputable def chkA (n : Nat) : TypeId → AV → Bool := Nat.rec (motive := fun _ => TypeId → AV → Bool) (fun _ _ => false) (fun _ ih t x => chkStep P ih t x) n
noncomputable def sameS (x y : AV) : Bool :=
 match x, y with
 | .int j a, .int k b => Bool.rec false (eqI a b) (Nat.beq (kNo j) (kNo k))
 | .str s, .str t => Option.rec false (fun b => b) (eqS s t)
 | .bool a, .bool b => eqB a b
 | _, _ => false
noncomputable def sameL (l : List AV) : List AV → Bool :=
 List.rec (motive := fun _ => List AV → Bool) (fun m => List.rec true (fun _ _ _ => false) m) (fun x _ ih m => List.rec false (fun y m _ => Bool.rec false (ih m) (sameS x y)) m) l
noncomputable def sameA (x y : AV) : Bool :=
 match x, y with
 | .agg l, .agg m => sameL l m
 | x, y => sameS x y
noncomputable def lookupA (t : TypeId) (m k : AV) (ok : Bool) (s : St) : Option (AV × St) :=
 match P.underlying t with
 | some (.map kt el) => Bool.rec none (match m with
  | .nilm => (match zeroT P el with
   | some z => some (Bool.rec z (.tuple [z, .bool false]) ok, s)
   | none => none)
  | .map b => (match s.mem.get b with
   | some (.map es _) => (match findA P eqT kt k es 0 with
    | some (some (_, v)) => some (Bool.rec v (.tuple [v, .bool true]) ok, s.touch b)
    | some none => (match zeroT P el with
     | some z => some (Bool.rec z (.tuple [z, .bool false]) ok, s.touch b)
     | none => none)
    | none => none)
   | _ => none)
  | _ => none) (chkA P 30 kt k)
 | _ => none
noncomputable def setNth (es : List (AV × AV × Nat)) (k v : AV) : Nat → List (AV × AV × Nat) :=
 List.rec (motive := fun _ => Nat → List (AV × AV × Nat)) (fun _ => []) (fun p l ih i => Nat.rec ((k, v, p.2.2) :: l) (fun j _ => p :: ih j) i) es
noncomputable def updateA (t : TypeId) (m k v : AV) (s : St) : Option St :=
 match P.underlying t with
 | some (.map kt _) => Bool.rec none (match m with
  | .map b => (match s.mem.get b with
   | some (.map es clock) => (match findA P eqT kt k es 0 with
    | some (some (i, _)) => Option.rec none (fun q => Bool.rec none (some (s.put b (.map (setNth es k v i) clock))) (sameA q.1 k)) (lnth es i)
    | some none => some (s.put b (.map (lapp es [(k, v, clock)]) (Nat.succ clock)))
    | none => none)
   | _ => none)
  | _ => none) (chkA P 30 kt k)
 | _ => none
noncomputable def lenA (t : TypeId) (x : AV) (s : St) : Option (AV × St) :=
 match P.underlying t, x with
 | some .string, .str l => some (.int .i64 (.ofNat (llen l)), s)
 | some (.slice _), .slice _ _ l _ _ => some (.int .i64 (.ofNat l), s)
 | some (.slice _), .nils => some (.int .i64 0, s)
 | some (.array n _), _ => some (.int .i64 (.ofNat n), s)
 | some (.map _ _), .nilm => some (.int .i64 0, s)
 | some (.map _ _), .map b => (match s.mem.get b with
  | some (.map es _) => some (.int .i64 (.ofNat (llen es)), s.touch b)
  | _ => none)
 | _, _ => none

/-! strings walked -/
noncomputable def rangeA (t : TypeId) (x : AV) (s : St) : Option (AV × St) :=
 match P.underlying t, x with
 | some .string, .str l => some (.ptr s.next 0, s.new (.siter l 0))
 | _, _ => none
noncomputable def nextA (it : AV) (isS : Bool) (s : St) : Option (AV × St) :=
 match it, isS with
 | .ptr b 0, true => (match s.mem.get b with
  | some (.siter l pos) => (match lnth l pos with
   | some c => Bool.rec none (some (.tuple [.bool true, .int .i64 (.ofNat pos), .int .i32 (.ofNat c)], s.put b (.siter l (Nat.succ pos)))) (Nat.blt c 128)
   | none => some (.tuple [.bool false], s.touch b))
  | _ => none)
 | _, _ => none
end

/-! one operation -/
inductive OR2 where
 | fail
 | skip (s : St)
 | call (f : Nat) (args : List AV) (s : St)
 | round (l : Nat) (args : List AV) (s : St)
 | defer (f : Nat) (args : List AV) (s : St)
 | recov (s : St)
 | panic (v : AV) (s : St)
inductive OR where
 | val (v : AV) (s : St)
 | other (r : OR2)
noncomputable def OR.fail : OR := .other .fail

noncomputable def orV (s : St) (x : Option AV) : OR := Option.rec OR.fail (fun v => .val v s) x
noncomputable def orM (x : Option (AV × St)) : OR := Option.rec OR.fail (fun r => .val r.1 r.2) x
noncomputable def orU (x : Option St) : OR := Option.rec OR.fail (fun s => .other (.skip s)) x

noncomputable def opd (t : T AV) (x : Operand) : Option AV :=
 Operand.rec (fun i => t.get i) ofValue (fun _ => none) (fun f => some (.func f [] [])) x
noncomputable def opds (t : T AV) (l : Array Operand) : Option (List AV) := lseq (opd t) l.toList
noncomputable def opdO (t : T AV) : Option Operand → Option (Option AV)
 | none => some none
 | some x => match opd t x with | some v => some (some v) | none => none
noncomputable def opdP (t : T AV) (l : Array (Nat × Operand)) : Option (List (Nat × AV)) :=
 List.rec (motive := fun _ => Option (List (Nat × AV))) (some []) (fun p _ ih => match opd t p.2, ih with
  | some v, some r => some ((p.1, v) :: r)
  | _, _ => none) l.toList
noncomputable def with1 (t : T AV) (x : Operand) (k : AV → OR) : OR := Option.rec OR.fail k (opd t x)

section
variable (P : Program) (eqT : List Nat) (meths : List (Nat × String × Nat))

noncomputable def hMove (x : Operand) (t : T AV) (s : St) : OR := Option.rec OR.fail (fun v => .val v s) (opd t x)
noncomputable def hPick (c a b : Operand) (t : T AV) (s : St) : OR :=
 with1 t c fun c => Option.rec OR.fail (fun x => Bool.rec (hMove b t s) (hMove a t s) x) (selB c)
noncomputable def hAlloc (el : TypeId) (_ : T AV) (s : St) : OR := orM (allocA P el s)
noncomputable def hBox (_ : TypeId) (x : Operand) (t : T AV) (s : St) : OR := with1 t x fun v => .val (boxA v s).1 (boxA v s).2
noncomputable def hBuild (ty : TypeId) (parts : Array (Nat × Operand)) (t : T AV) (s : St) : OR := Option.rec OR.fail (fun ps => orV s (buildA P ty ps)) (opdP t parts)
noncomputable def hBuildSlice (ty : TypeId) (len : Nat) (parts : Array (Nat × Operand)) (t : T AV) (s : St) : OR := Option.rec OR.fail (fun ps => orM (buildSliceA P ty len ps s)) (opdP t parts)
noncomputable def hLoad (ty : TypeId) (a : Operand) (t : T AV) (s : St) : OR := with1 t a fun a => orM (loadA P ty a s)
noncomputable def hStore (ty : TypeId) (a x : Operand) (t : T AV) (s : St) : OR := with1 t a fun a => with1 t x fun x => orU (storeA P ty a x s)
noncomputable def hNil (x : Operand) (t : T AV) (s : St) : OR := with1 t x fun x => Bool.rec OR.fail (.val x s) (nilChk x)
noncomputable def binF (op : BinOp) (ty : TypeId) (xo yo : Operand) (a b : AV) : Option AV :=
 Option.rec (binA P eqT op ty xo yo a b) (fun p => Option.rec (binA P eqT op ty xo yo a b) (fun q =>
  Option.rec (binA P eqT op ty xo yo a b) (fun v => Bool.rec none (some v) (Nat.beq (kNo p.1) (kNo q.1))) (intBin op p.1 p.2 q.2)) (selI b)) (selI a)
noncomputable def hBin (op : BinOp) (ty : TypeId) (x y : Operand) (_ : TypeId) (t : T AV) (s : St) : OR :=
 with1 t x fun a => with1 t y fun b => orV s (binF P eqT op ty x y a b)
noncomputable def hUn (op : UnOp) (_ : TypeId) (x : Operand) (t : T AV) (s : St) : OR := with1 t x fun a => orV s (unA op a)
noncomputable def hConv (src dst : TypeId) (x : Operand) (t : T AV) (s : St) : OR :=
 with1 t x fun a => Option.rec (Option.rec (orM (toStrA P src dst a s)) (fun r => .val r.1 r.2) (toBytesA P src dst a s)) (fun v => .val v s) (convV P src dst a)
noncomputable def hIface (ty : TypeId) (x : Operand) (t : T AV) (s : St) : OR := with1 t x fun a => orV s (ifaceV P ty a)
noncomputable def hFunc (fn : Fn) (first captured : Array Operand) (t : T AV) (s : St) : OR :=
 match fn with
 | .func f => (match opds t first, opds t captured with
  | some a, some b => .val (.func f a b) s
  | _, _ => OR.fail)
 | _ => OR.fail
noncomputable def hMakeMap (ty : TypeId) (r : Option Operand) (t : T AV) (s : St) : OR :=
 match opdO t r with
 | some none => .val (.map s.next) (s.new (.map [] 0))
 | some (some (.int _ _)) => (match P.underlying ty with
  | some (.map _ _) => .val (.map s.next) (s.new (.map [] 0))
  | _ => OR.fail)
 | _ => OR.fail
noncomputable def hMakeSlice (ty : TypeId) (l c : Operand) (t : T AV) (s : St) : OR := with1 t l fun l => with1 t c fun c => orM (makeSliceA P ty l c s)
noncomputable def slF (ty : TypeId) (x : AV) (lo hi mx : Option AV) (s : St) : OR :=
 match P.underlying ty, x, mx with
 | some .string, .str l, none => orV s (strSl l lo hi)
 | some (.slice _), _, _ => orV s (cutA P ty x lo hi mx)
 | some (.array _ _), _, _ => orM (cutArr P ty x lo hi mx s)
 | _, _, _ => OR.fail
noncomputable def hSlice (ty : TypeId) (x : Operand) (lo hi mx : Option Operand) (t : T AV) (s : St) : OR :=
 with1 t x fun x => Option.rec OR.fail (fun lo => Option.rec OR.fail (fun hi => Option.rec OR.fail (fun mx => slF P ty x lo hi mx s) (opdO t mx)) (opdO t hi)) (opdO t lo)
noncomputable def hFieldAddr (ty : TypeId) (x : Operand) (f : Nat) (t : T AV) (s : St) : OR := with1 t x fun x => orV s (fieldAddrA P ty x f)
noncomputable def hField (ty : TypeId) (x : Operand) (f : Nat) (t : T AV) (s : St) : OR := with1 t x fun x => orV s (fieldV P ty x f)
noncomputable def hIndexAddr (ty : TypeId) (x i : Operand) (t : T AV) (s : St) : OR := with1 t x fun x => with1 t i fun i => orV s (indexAddrA P ty x i)
noncomputable def hIndex (ty : TypeId) (x i : Operand) (t : T AV) (s : St) : OR := with1 t x fun x => with1 t i fun i => orV s (indexV P ty x i)
noncomputable def hLookup (ty : TypeId) (m k : Operand) (ok : Bool) (t : T AV) (s : St) : OR := with1 t m fun m => with1 t k fun k => orM (lookupA P eqT ty m k ok s)
noncomputable def hUpdate (ty : TypeId) (m k v : Operand) (t : T AV) (s : St) : OR := with1 t m fun m => with1 t k fun k => with1 t v fun v => orU (updateA P eqT ty m k v s)
noncomputable def hRange (ty : TypeId) (x : Operand) (t : T AV) (s : St) : OR := with1 t x fun x => orM (rangeA P ty x s)
noncomputable def hNext (it : Operand) (isS : Bool) (t : T AV) (s : St) : OR := with1 t it fun it => orM (nextA it isS s)
noncomputable def hAssert (x : Operand) (_ ty : TypeId) (ok : Bool) (t : T AV) (s : St) : OR := with1 t x fun x => orV s (assertV P x ty ok)
noncomputable def hExtract (x : Operand) (i : Nat) (t : T AV) (s : St) : OR := with1 t x fun x => orV s (extractA x i)
noncomputable def enters (f : Nat) : Bool := match P.funcs[f]? with | some fn => fn.body.isSome | none => false
noncomputable def methOf (l : List (Nat × String × Nat)) (t : Nat) (m : String) : Option Nat :=
 List.rec (motive := fun _ => Option Nat) none (fun p _ ih => Bool.rec ih (some p.2.2) (Bool.and (Nat.beq p.1 t) (p.2.1 == m))) l
noncomputable def callF (f : AV) (args : List AV) (s : St) : OR :=
 Option.rec (Option.rec OR.fail (fun l => .other (.round l args s)) (selY f))
  (fun g => Bool.rec OR.fail (.other (.call g.f (lapp g.first (lapp args g.captured)) s)) (enters P g.f)) (selF f)
noncomputable def hCallV (f : Operand) (args : Array Operand) (t : T AV) (s : St) : OR :=
 with1 t f fun f => Option.rec OR.fail (fun args => callF P f args s) (opds t args)
noncomputable def hCallI (r : Operand) (m : String) (args : Array Operand) (t : T AV) (s : St) : OR :=
 with1 t r fun r => Option.rec OR.fail (fun args => match r with
  | .iface ty v => Option.rec OR.fail (fun f => Bool.rec OR.fail (.other (.call f (v :: args) s)) (enters P f)) (methOf meths ty m)
  | _ => OR.fail) (opds t args)
noncomputable def builtF (b : Builtin) (tys : List TypeId) (args : List AV) (s : St) : OR :=
 match b, args, tys with
  | .len, [x], [tx] => orM (lenA P tx x s)
  | .append, [x, y], [tx, ty] => orM (appendA P tx ty x y s)
  | .copy, [x, y], [tx, _] => orM (copyA P tx x y s)
  | .min, _, _ => orV s (minA false args)
  | .max, _, _ => orV s (minA true args)
  | .recover, [], _ => .other (.recov s)
  | _, _, _ => OR.fail
noncomputable def hCallB (b : Builtin) (tys : Array TypeId) (args : Array Operand) (t : T AV) (s : St) : OR :=
 Option.rec OR.fail (fun args => builtF P b tys.toList args s) (opds t args)
noncomputable def hCall (c : Call) (t : T AV) (s : St) : OR :=
 Callee.rec (fun f => hCallV P f c.args t s) (fun r m => hCallI P meths r m c.args t s) (fun b => hCallB P b c.argTypes c.args t s) c.callee
noncomputable def hDefer (c : Call) (t : T AV) (s : St) : OR :=
 match c.callee with
 | .value f => with1 t f fun f => (match opds t c.args with
  | some args => Option.rec OR.fail (fun g => Bool.rec OR.fail (.other (.defer g.f (lapp g.first (lapp args g.captured)) s)) (enters P g.f)) (selF f)
  | none => OR.fail)
 | _ => OR.fail
noncomputable def hPanic (x : Operand) (t : T AV) (s : St) : OR :=
 with1 t x fun x => match x with | .iface _ _ => .other (.panic x s) | _ => OR.fail

noncomputable def exec (o : Op) : T AV → St → OR :=
 Op.rec (motive := fun _ => T AV → St → OR)
  hMove hMove hPick (hAlloc P) hBox (hBuild P) (hBuildSlice P) (hUpdate P eqT) (hLoad P) (hStore P)
  (fun _ _ _ => OR.fail) (fun _ _ _ => OR.fail) hNil (hBin P eqT) hUn (hConv P) (fun _ _ _ _ => OR.fail) (hIface P) hFunc (hMakeMap P)
  (fun _ _ _ _ => OR.fail) (hMakeSlice P) (hSlice P) (hFieldAddr P) (hField P) (hIndexAddr P) (hIndex P) (hLookup P eqT) (hUpdate P eqT)
  (fun _ _ _ _ _ => OR.fail) (fun _ _ _ _ _ _ => OR.fail) (hRange P) hNext (fun _ _ _ => OR.fail) (hAssert P) hExtract (hCall P meths)
  (fun _ _ _ => OR.fail) (hDefer P) hPanic (fun _ _ _ _ => OR.fail) (fun _ _ _ _ _ => OR.fail) (fun _ _ _ _ => OR.fail) o
end
end Go.Ev
namespace Go.Ev

section
variable {P : Program} {M : Nat → Prop} {e : Env} {s s' : St} {w : World}

theorem appendB_ext {el : TypeId} {es len n : Nat} {x : AV} {news : List AV} {r : AV × St} (h : appendB P el es len n x news s = some r) : Ext s r.2 := by
 unfold appendB at h
 split at h <;> first | (cases h; done) | exact growA_ext h | skip
 rename_i b o _ c es'
 cases h2 : Nat.ble (Nat.add len n) c with
 | false => rw [h2] at h; exact growA_ext h
 | true =>
  rw [h2] at h
  obtain ⟨_, h⟩ := brec_some h
  split at h <;> first | (cases h; done) | skip
  rename_i row ex hb
  obtain ⟨_, h⟩ := brec_some h
  split at h <;> first | (cases h; done) | skip
  cases h
  exact put_ext hb
theorem appendC_ext {el : TypeId} {es len n : Nat} {x y : AV} {r : AV × St} (h : appendC P el es len n x y s = some r) : Ext s r.2 := by
 unfold appendC at h
 split at h <;> first | (cases h; done) | skip
 rename_i news s1 he
 have hx := elemsA_ext he
 obtain ⟨_, h⟩ := brec_some h
 cases h0 : Nat.beq n 0 with
 | true => rw [h0] at h; cases h; exact hx
 | false => rw [h0] at h; exact hx.trans (appendB_ext h)
theorem appendA_ext {sT xT : TypeId} {x y : AV} {r : AV × St} (h : appendA P sT xT x y s = some r) : Ext s r.2 := by
 unfold appendA at h
 split at h <;> first | (cases h; done) | skip
 split at h <;> first | (cases h; done) | skip
 all_goals
  split at h <;> first | (cases h; done) | skip
  exact appendC_ext h

theorem append_none {sT xT t el : TypeId} {es len cap : Nat} {base : Option Addr} {Y : Value} {w : World}
 (hu : P.underlying sT = some (.slice el)) (hx : (∃ u, P.underlying xT = some (.slice u)) ∨ P.underlying xT = some .string) (hsz : szT P el = some es)
 (hn : ∀ w, (Builtin.lenOf Y).run P w = .ok 0 w) (hcap : len ≤ cap) (hnew : (Builtin.firstCells es 0 Y).run P w = .ok #[] w) :
 (Builtin.append_ #[sT, xT] t #[.slice base len cap, Y]).run P w = .ok (.slice base len cap) w := by
 have hs2 := sizeOf_run (w := w) hsz
 rcases hx with ⟨u, hx⟩ | hx
 · cases base <;> simp [Builtin.append_, run_underlying hu, run_underlying hx, hs2, hn, hcap, hnew, storeCells]
 · cases base <;> simp [Builtin.append_, run_underlying hu, run_underlying hx, hs2, hn, hcap, hnew, storeCells]

theorem appendC_ok {sT xT t el : TypeId} {es len n : Nat} {x y : AV} {X Y : Value} {r : AV × St} (h : appendC P el es len n x y s = some r) (hr : Rel e s M w) (hw : Wf s) (hX : ∀ i, r.2.X.testBit i = true → M i) (hx : VRel e x X) (hy : VRel e y Y)
 (hu : P.underlying sT = some (.slice el)) (hxT : (∃ u, P.underlying xT = some (.slice u)) ∨ P.underlying xT = some .string) (hsz : szT P el = some es) (hlen : lenSl x = some len) (hlenY : lenSl y = some n) (hstr : ∀ l, x ≠ .str l) :
 VOk P M (Builtin.append_ #[sT, xT] t #[X, Y]) e s w r.1 r.2 := by
 unfold appendC at h
 split at h <;> first | (cases h; done) | skip
 rename_i news s1 he
 have hex := elemsA_ext he
 obtain ⟨h1, h⟩ := brec_some h
 have h1 := Nat.eq_of_beq_eq_true h1
 rw [llen_eq] at h1
 have hlY : ∀ w, (Builtin.lenOf Y).run P w = .ok n w := fun w => lenSl_run hlenY hy
 cases h0 : Nat.beq n 0 with
 | true =>
  rw [h0] at h; cases h
  have h0 := Nat.eq_of_beq_eq_true h0
  subst h0
  obtain ⟨Ys, f1, f2, f3, f4, _⟩ := elemsA_ok (P := P) he hr hX hy
  have hnil : Ys = [] := by
   have h2 := f2.length
   have h3 : news.length = 0 := by rw [h1]; exact Nat.zero_mul es
   rw [h3] at h2; exact List.length_eq_zero_iff.1 h2
  subst hnil
  have hXs : ∃ base cap, X = .slice base len cap ∧ len ≤ cap := by
   unfold lenSl at hlen
   split at hlen <;> first | (cases hlen; done) | skip
   · cases hlen; simp only [VRel] at hx; exact ⟨_, _, hx, Nat.le_refl _⟩
   · cases hlen; simp only [VRel] at hx; obtain ⟨p, m, _, hx, hm, _⟩ := hx; exact ⟨_, _, hx, hm⟩
   · exact absurd rfl (hstr _)
  obtain ⟨base, cap, rfl, hcap⟩ := hXs
  exact ⟨e, w, _, append_none hu hxT hsz hlY hcap (f1 w rfl), hx, f3, f4⟩
 | false =>
  rw [h0] at h
  have h0 := Nat.ne_of_beq_eq_false h0
  have hext := appendB_ext h
  have hX1 : ∀ i, s1.X.testBit i = true → M i := fun i hi => hX i (hext.X i hi)
  obtain ⟨Ys, f1, f2, f3, f4, _⟩ := elemsA_ok (P := P) he hr hX1 hy
  have grow : growA P el es x len n news s1 = some r → (∀ b o l c z, x = .slice b o l (some c) z → c < len + n) → VOk P M (Builtin.append_ #[sT, xT] t #[X, Y]) e s w r.1 r.2 := fun hg hf => by
   obtain ⟨e', w', v, g1, g2, g3, g4⟩ := growA_ok (t := t) (y := y) hg f3 (hex.wf hw) hX hu hxT h0 hx hlen hf hstr hlY (fun w' hw' => f1 w' hw') f2 (by rw [h1]; rfl)
   exact ⟨e', w', v, g1, g2, g3, f4.trans hex (growA_ext hg) g4⟩
  unfold appendB at h
  split at h <;> first | (cases h; done) | skip
  · rename_i b o l c es' _
    cases h2 : Nat.ble (Nat.add len n) c with
    | false =>
     rw [h2] at h
     refine grow h fun b o l c' z hxe => ?_
     cases hxe
     have : ¬ (len + n ≤ c) := fun hle => by rw [show Nat.ble (Nat.add len n) c = true from Nat.ble_eq_true_of_le hle] at h2; cases h2
     omega
    | true =>
     rw [h2] at h
     have h2 : len + n ≤ c := Nat.le_of_ble_eq_true h2
     obtain ⟨h3, h⟩ := brec_some h
     have h3 := Nat.eq_of_beq_eq_true h3
     subst h3
     split at h <;> first | (cases h; done) | skip
     rename_i row ex hb
     obtain ⟨h4, h⟩ := brec_some h
     split at h <;> first | (cases h; done) | skip
     rename_i row' hrow
     cases h
     cases hlen
     simp only [VRel] at hx
     obtain ⟨p, m, hp, rfl, hlm, hm, hsm⟩ := hx
     have hmc : m = c := hm c rfl
     subst hmc
     have hMb : M b := hX b (orB_same _ _)
     obtain ⟨p', hp', hB⟩ := f3.blk b _ hMb hb
     rw [hp] at hp'; cases hp'
     obtain ⟨w', g1, g2, g3⟩ := hB.stores (P := P) (o := o + len * es) (i := 0) f2 (f2.ones h4 hr.one) hrow
     obtain ⟨t1, t2⟩ := put_ok f3 hMb hb hp g2 g3
     refine ⟨e, w', _, append_inplace hu hxT hsz hlY h2 (f1 w rfl) g1, ?_, t1, f4.trans hex (put_ext hb) t2⟩
     simp only [VRel]
     exact ⟨p, m, hp, rfl, h2, fun k hk => by cases hk; rfl, hsm⟩
  · exact grow h fun b o l c' z hxe => by cases hxe
  · exact grow h fun b o l c' z hxe => by cases hxe

theorem appendA_ok {sT xT t : TypeId} {x y : AV} {X Y : Value} {r : AV × St} (h : appendA P sT xT x y s = some r) (hr : Rel e s M w) (hw : Wf s) (hX : ∀ i, r.2.X.testBit i = true → M i) (hx : VRel e x X) (hy : VRel e y Y) :
 VOk P M (Builtin.append_ #[sT, xT] t #[X, Y]) e s w r.1 r.2 := by
 unfold appendA at h
 split at h <;> first | (cases h; done) | skip
 rename_i el hu
 split at h <;> first | (cases h; done) | skip
 · rename_i u hxT
   split at h <;> first | (cases h; done) | skip
   rename_i es len n h1 h2 h3
   exact appendC_ok h hr hw hX hx hy hu (.inl ⟨u, hxT⟩) h1 (lenS_ok h2).1 h3 (lenS_ok h2).2
 · rename_i hxT
   split at h <;> first | (cases h; done) | skip
   rename_i es len n h1 h2 h3
   exact appendC_ok h hr hw hX hx hy hu (.inr hxT) h1 (lenS_ok h2).1 h3 (lenS_ok h2).2
end
end Go.Ev
namespace Go.Ev

section
variable {P : Program} {M : Nat → Prop} {e : Env} {s s' : St} {w : World}

theorem lenS_slice {x : AV} {X : Value} {n : Nat} (h : lenS x = some n) (hx : VRel e x X) : ∃ base cap, X = .slice base n cap := by
 unfold lenS at h
 split at h <;> first | (cases h; done) | skip
 · cases h; simp only [VRel] at hx; exact ⟨_, _, hx⟩
 · cases h; simp only [VRel] at hx; obtain ⟨p, m, _, hx, _⟩ := hx; exact ⟨_, _, hx⟩

theorem copyA_ext {dT : TypeId} {x y : AV} {r : AV × St} (h : copyA P dT x y s = some r) : Ext s r.2 := by
 unfold copyA at h
 split at h <;> first | (cases h; done) | skip
 split at h <;> first | (cases h; done) | skip
 split at h <;> first | (cases h; done) | skip
 rename_i news s1 he
 have hx := elemsA_ext he
 split at h <;> first | (cases h; done) | skip
 · cases h; exact hx
 · split at h <;> first | (cases h; done) | skip
   rename_i row ex hb
   obtain ⟨_, h⟩ := brec_some h
   split at h <;> first | (cases h; done) | skip
   cases h; exact hx.trans (put_ext hb)
theorem minB (lx ly : Nat) : (Bool.rec ly lx (Nat.ble lx ly) : Nat) = Nat.min ly lx := by
 cases h : Nat.ble lx ly with
 | true => have := Nat.le_of_ble_eq_true h; show lx = min ly lx; omega
 | false => have : ¬ lx ≤ ly := fun hle => by rw [Nat.ble_eq_true_of_le hle] at h; cases h
            show ly = min ly lx; omega
theorem copyA_ok {dT sT t : TypeId} {x y : AV} {X Y : Value} {r : AV × St} (h : copyA P dT x y s = some r) (hr : Rel e s M w) (hX : ∀ i, r.2.X.testBit i = true → M i) (hx : VRel e x X) (hy : VRel e y Y) :
 VOk P M (Builtin.copy_ #[dT, sT] t #[X, Y]) e s w r.1 r.2 := by
 unfold copyA at h
 split at h <;> first | (cases h; done) | skip
 rename_i el hu
 split at h <;> first | (cases h; done) | skip
 rename_i es lx ly hsz hlx hly
 split at h <;> first | (cases h; done) | skip
 rename_i news s1 he
 rw [minB] at he h
 have hex := elemsA_ext he
 have hlY := lenSl_run (P := P) (w := w) hly hy
 obtain ⟨base, cap, hXs⟩ := lenS_slice hlx hx
 have hs2 := sizeOf_run (w := w) hsz
 split at h <;> first | (cases h; done) | skip
 · cases h
   cases hlx
   obtain ⟨Ys, f1, f2, f3, f4, _⟩ := elemsA_ok (P := P) he hr hX hy
   simp only [VRel] at hx
   subst hx
   refine ⟨e, w, goInt (Nat.min ly 0 : Nat), ?_, ?_, f3, f4⟩
   · have f1' := f1 w rfl
     unfold Builtin.copy_
     simp only [List.getElem?_toArray, List.getElem?_cons_zero, List.getElem?_cons_succ, Sem.run_bind, run_underlying hu, Result.andThen_ok, hlY, hs2, f1', Sem.run_pure]
   · simp only [VRel, goInt]
     have : Nat.min ly 0 = 0 := Nat.min_zero _
     rw [this]; rfl
 · rename_i b o l c z
   split at h <;> first | (cases h; done) | skip
   rename_i row ex hb
   obtain ⟨h4, h⟩ := brec_some h
   split at h <;> first | (cases h; done) | skip
   rename_i row' hrow
   cases h
   have hX1 : ∀ i, s1.X.testBit i = true → M i := fun i hi => hX i (orB_old hi)
   have hMb : M b := hX b (orB_same _ _)
   obtain ⟨Ys, f1, f2, f3, f4, _⟩ := elemsA_ok (P := P) he hr hX1 hy
   simp only [VRel] at hx
   obtain ⟨p, m, hp, hxe, _⟩ := hx
   rw [hxe] at hXs
   cases hXs
   subst hxe
   obtain ⟨p', hp', hB⟩ := f3.blk b _ hMb hb
   rw [hp] at hp'; cases hp'
   obtain ⟨w', g1, g2, g3⟩ := hB.stores (P := P) (o := o) (i := 0) f2 (f2.ones h4 hr.one) hrow
   obtain ⟨t1, t2⟩ := put_ok f3 hMb hb hp g2 g3
   refine ⟨e, w', goInt (Nat.min ly lx : Nat), ?_, by simp only [VRel, goInt]; rfl, t1, f4.trans hex (put_ext hb) t2⟩
   have f1' := f1 w rfl
   unfold Builtin.copy_
   simp only [List.getElem?_toArray, List.getElem?_cons_zero, List.getElem?_cons_succ, Sem.run_bind, run_underlying hu, Result.andThen_ok, hlY, hs2, f1', Sem.run_pure]
   rw [g1]
   rfl

theorem toBytesA_ext {src dst : TypeId} {x : AV} {r : AV × St} (h : toBytesA P src dst x s = some r) : Ext s r.2 := by
 unfold toBytesA at h
 split at h <;> first | (cases h; done) | skip
 split at h <;> first | (cases h; done) | skip
 obtain ⟨_, h⟩ := brec_some h
 cases h; exact new_ext _ _
theorem modify_push {α : Type} (a : Array α) (x : α) (f : α → α) : (a.push x).modify a.size f = a.push (f x) := by
 apply Array.ext_getElem?
 intro i
 rw [Array.getElem?_modify]
 by_cases h : a.size = i
 · subst h; simp
 · rw [if_neg h]
   by_cases h2 : i < a.size
   · rw [Array.getElem?_push_lt h2, Array.getElem?_push_lt h2]
   · rw [Array.getElem?_eq_none (by simp; omega), Array.getElem?_eq_none (by simp; omega)]
theorem toBytesA_ok {src dst : TypeId} {x : AV} {X : Value} {r : AV × St} (h : toBytesA P src dst x s = some r) (hr : Rel e s M w) (hM : M s.next) (hx : VRel e x X) :
 VOk P M (convert src dst X) e s w r.1 r.2 := by
 unfold toBytesA at h
 split at h <;> first | (cases h; done) | skip
 rename_i el l hu1 hu2
 split at h <;> first | (cases h; done) | skip
 rename_i hu3
 obtain ⟨hb, h⟩ := brec_some h
 cases h
 have hb : (allByte l && Nat.ble (llen l) 1099511627776) = true := hb
 rw [Bool.and_eq_true] at hb
 have hall := allByte_ok hb.1
 have hlen := Nat.le_of_ble_eq_true hb.2
 rw [llen_eq] at hlen
 simp only [VRel] at hx
 subst hx
 obtain ⟨k, hk⟩ : ∃ k, k = (Question.appendCap (bytes l).size 0 el).cut (w.tape w.drawn (.appendCap (bytes l).size 0 el)) := ⟨_, rfl⟩
 have hkn : l.length ≤ k := by rw [hk, size_bytes]; simp only [Question.cut]; omega
 obtain ⟨c, hc⟩ : ∃ c : Array Value, c = (l.map fun (b : Nat) => Value.int .u8 (Int.ofNat b)).toArray ++ Array.replicate (k - l.length) (.int .u8 0) := ⟨_, rfl⟩
 have hcs : c.size = k := by rw [hc]; simp; omega
 have hrel := bytesRow_rel (e := e) l
 obtain ⟨w', hw'⟩ : ∃ w' : World, w' = { w with heap := w.heap.push (.cells c el (k, k + 1)), drawn := w.drawn + 1 } := ⟨_, rfl⟩
 have hlaid : Laid w w' := by
  rw [hw']
  exact ⟨by simp, fun j hj => by show (w.heap.push _)[j]? = _; rw [Array.getElem?_push_lt hj]; simp [hj], ⟨rfl, rfl, rfl⟩⟩
 have hnew : w'.heap[w.heap.size]? = some (.cells c el (k, k + 1)) := by rw [hw']; show (w.heap.push _)[w.heap.size]? = _; simp
 obtain ⟨t1, t2⟩ := new_ok (B := .cells (lmap (fun b => .int .u8 (.ofNat b)) l) false) (z := k) hr hM hlaid
  ⟨c, el, (k, k + 1), hnew, hcs, .inr (by simp only []; omega), by rw [hrel.length.symm]; simpa using hkn, (fun h => by cases h), by
   have e1 : (lmap (fun b => AV.int .u8 (.ofNat b)) l).length = (l.map fun (b : Nat) => Value.int .u8 (Int.ofNat b)).length := hrel.length.symm
   rw [e1, hc]
   have : ((l.map fun (b : Nat) => Value.int .u8 (Int.ofNat b)).toArray ++ Array.replicate (k - l.length) (Value.int .u8 0)).toList = (l.map fun (b : Nat) => Value.int .u8 (Int.ofNat b)) ++ List.replicate (k - l.length) (Value.int .u8 0) := by simp
   rw [this, List.take_left]
   exact hrel.mono (Env.ext_le (hr.new _ hM (Nat.le_refl _)) _)⟩
 refine ⟨_, w', .slice (some ⟨w.heap.size, 0, none⟩) l.length k, ?_, ?_, t1, t2⟩
 · unfold convert
   simp only [Sem.run_bind, run_underlying hu1, run_underlying hu2, run_underlying hu3, Result.andThen_ok, Conv.stringToBytes, run_choose, Question.forced, Bool.false_eq_true, if_false]
   rw [← hk]
   have e1 : (bytes l).data.map (fun b => Value.int .u8 (b.toNat : Int)) = (l.map fun (b : Nat) => Value.int .u8 (Int.ofNat b)).toArray := by
    unfold bytes
    simp only [List.map_toArray, List.map_map]
    congr 1
    refine List.map_congr_left fun b hb => ?_
    have := hall b hb
    simp only [Function.comp]
    congr 1
    show ((UInt8.ofNat b).toNat : Int) = b
    simp; omega
   rw [e1, size_bytes, ← hc]
   simp only [newRow, Sem.run_bind, run_newObj, Result.andThen_ok, Sem.run_pure, markStringish, run_shape]
   have e2 : ({ w with heap := w.heap.push (.cells c el), drawn := w.drawn + 1 } : World).shape? w.heap.size = some (el, c.size) := by
    simp [World.shape?]
   rw [e2]
   simp only [run_freeze, Result.andThen_ok]
   congr 1
   rw [hw']
   unfold World.freeze
   rw [if_neg (by omega)]
   simp only [modify_push]
   rw [hcs]
   rfl
 · simp only [VRel]
   exact ⟨_, k, e.ext_same _ _, by rw [llen_eq], by rw [llen_eq]; exact hkn, (fun k hk => by cases hk), by simp⟩
end
end Go.Ev
namespace Go.Ev

section
variable {P : Program} {M : Nat → Prop} {e : Env} {s s' : St} {w : World}

theorem toStrA_ext {src dst : TypeId} {x : AV} {r : AV × St} (h : toStrA P src dst x s = some r) : Ext s r.2 := by
 unfold toStrA at h
 split at h <;> first | (cases h; done) | skip
 split at h <;> first | (cases h; done) | skip
 split at h <;> first | (cases h; done) | skip
 · cases h; exact .refl _
 · split at h <;> first | (cases h; done) | skip
   rename_i he
   split at h <;> first | (cases h; done) | skip
   cases h; exact elemsA_ext he
theorem push_toBytes (a : List UInt8) (b : UInt8) : (ByteArray.mk a.toArray).push b = ByteArray.mk (a ++ [b]).toArray := by
 show ByteArray.mk (a.toArray.push b) = _
 simp
theorem ofBytes_run : ∀ {l : List AV} {xs : List Value} {r : List Nat} (acc : List UInt8) (w : World), LRel e l xs → ofBytes l = some r →
 (forIn xs (ByteArray.mk acc.toArray) (fun c s => (match c with
  | .int .u8 n => pure (ForInStep.yield (s.push (UInt8.ofNat n.toNat)))
  | _ => do (stuck "bytesToString: byte expected" : Sem PUnit); pure (ForInStep.yield s) : Sem (ForInStep ByteArray)))).run P w = .ok (ByteArray.mk (acc ++ r.map UInt8.ofNat).toArray) w := by
 intro l
 induction l with
 | nil => intro xs r acc w hl h; rw [hl.of_nil]; cases h; simp
 | cons v l ih =>
  intro xs r acc w hl h
  obtain ⟨y, ys, rfl, hv, hl'⟩ := hl.of_cons
  have h : ofByte v (ofBytes l) = some r := h
  unfold ofByte at h
  split at h <;> first | (cases h; done) | skip
  rename_i n _
  cases n with
  | negSucc m => cases h
  | ofNat m =>
   obtain ⟨r', hr', h⟩ := orec (show (Option.rec none (fun l => some (m :: l)) (ofBytes l) : Option (List Nat)) = some r from h)
   cases h
   simp only [VRel] at hv
   subst hv
   simp only [List.forIn_cons, Sem.run_bind, Sem.run_pure, Result.andThen_ok]
   have e1 : (Int.ofNat m).toNat = m := rfl
   rw [e1, push_toBytes]
   rw [ih (acc ++ [UInt8.ofNat m]) w hl' hr']
   simp
theorem toStrA_ok {src dst : TypeId} {x : AV} {X : Value} {r : AV × St} (h : toStrA P src dst x s = some r) (hr : Rel e s M w) (hX : ∀ i, r.2.X.testBit i = true → M i) (hx : VRel e x X) :
 VOk P M (convert src dst X) e s w r.1 r.2 := by
 unfold toStrA at h
 split at h <;> first | (cases h; done) | skip
 rename_i el hu1 hu2
 split at h <;> first | (cases h; done) | skip
 rename_i hu3
 have conv : ∀ Z, (Conv.bytesToString X).run P w = .ok Z w → (∃ a b c, X = .slice a b c) → (convert src dst X).run P w = .ok Z w := fun Z hZ hs => by
  obtain ⟨a, b, c, rfl⟩ := hs
  unfold convert
  simp only [Sem.run_bind, run_underlying hu1, run_underlying hu2, run_underlying hu3, Result.andThen_ok]
  exact hZ
 split at h <;> first | (cases h; done) | skip
 · cases h
   simp only [VRel] at hx; subst hx
   exact ⟨e, w, _, conv (.string .empty) rfl ⟨_, _, _, rfl⟩, by simp only [VRel]; rfl, hr, .refl _ _ _⟩
 · rename_i b o n c z
   split at h <;> first | (cases h; done) | skip
   rename_i l s1 he
   split at h <;> first | (cases h; done) | skip
   rename_i l' hl'
   cases h
   obtain ⟨xs, f1, f2, f3, f4, _⟩ := elemsA_ok (P := P) he hr hX hx
   simp only [VRel] at hx
   obtain ⟨p, m, hp, rfl, _⟩ := hx
   have f1' := f1 w rfl
   simp only [Builtin.firstCells, Nat.mul_one] at f1'
   have hrun := ofBytes_run (P := P) (e := e) [] w f2 hl'
   refine ⟨e, w, .string (bytes l'), conv _ ?_ ⟨_, _, _, rfl⟩, by simp only [VRel], f3, f4⟩
   unfold Conv.bytesToString
   simp only [Sem.run_bind, f1', Result.andThen_ok]
   rw [← Array.forIn_toList]
   have e1 : xs.toArray.toList = xs := by simp
   rw [e1]
   exact (congrArg (fun r => r.andThen fun a w' => Sem.run P (pure (Value.string a)) w') hrun).trans rfl

theorem cutArr_ext {t : TypeId} {x : AV} {lo hi mx : Option AV} {r : AV × St} (h : cutArr P t x lo hi mx s = some r) : Ext s r.2 := by
 unfold cutArr at h
 split at h <;> first | (cases h; done) | skip
 split at h <;> first | (cases h; done) | skip
 rename_i hb
 obtain ⟨_, h⟩ := brec_some h
 obtain ⟨_, h⟩ := brec_some h
 obtain ⟨_, h⟩ := brec_some h
 cases h; exact touch_ext hb
theorem cutArr_ok {t : TypeId} {x : AV} {lo hi mx : Option AV} {X : Value} {Lo Hi Mx : Option Value} {r : AV × St} (h : cutArr P t x lo hi mx s = some r) (hr : Rel e s M w) (hX : ∀ i, r.2.X.testBit i = true → M i) (hx : VRel e x X) (hlo : ORel e lo Lo) (hhi : ORel e hi Hi) (hmx : ORel e mx Mx) :
 VOk P M (Instr.sliceAt t X Lo Hi Mx) e s w r.1 r.2 := by
 unfold cutArr at h
 split at h <;> first | (cases h; done) | skip
 rename_i n el b o hu
 split at h <;> first | (cases h; done) | skip
 rename_i hh l es row ex hhh hl hes hb
 obtain ⟨h1, h⟩ := brec_some h
 obtain ⟨h2, h⟩ := brec_some h
 obtain ⟨h3, h⟩ := brec_some h
 cases h
 have h1 := Nat.le_of_ble_eq_true h1
 have h2 := Nat.le_of_ble_eq_true h2
 have h3 : o + n * es ≤ llen row := Nat.le_of_ble_eq_true h3
 rw [llen_eq] at h3
 have hmx : Mx = none := hmx
 subst hmx
 have hMb := hX b (orB_same _ _)
 obtain ⟨p, hp, hB⟩ := hr.blk b _ hMb hb
 simp only [VRel] at hx
 obtain ⟨p', hp', rfl⟩ := hx
 rw [hp] at hp'; cases hp'
 have hrow : row.length ≤ p.2 := by obtain ⟨_, _, _, _, _, _, g, _⟩ := hB; exact g
 obtain ⟨t1, t2⟩ := touch_ok (b := b) hr
 have hbd := sliceBounds_run (P := P) (w := w) (b := false) (len := n) (cap := n) (bnd_ok hhh hhi) (bnd_ok hl hlo) h1 (fun _ => h2)
 refine ⟨e, w, .slice (some ⟨p.1, if n = l then o else o + l * es, none⟩) (hh - l) (n - l), ?_, ?_, t1, t2⟩
 · unfold Instr.sliceAt
   simp only [Sem.run_bind, run_underlying hu, Result.andThen_ok, Instr.sureAddr, Sem.run_pure, hbd, sizeOf_run hes]
   congr 2
   by_cases e1 : n = l
   · rw [if_pos e1, if_pos e1]
   · rw [if_neg e1, if_neg e1, addr_add]
 · simp only [VRel]
   refine ⟨p, n - l, hp, ?_, by show hh - l ≤ n - l; omega, fun k hk => by cases hk; rfl, ?_⟩
   · congr 3
     by_cases e1 : n = l
     · rw [if_pos e1, e1, show Nat.beq l l = true from Nat.beq_refl l]
     · rw [if_neg e1]
       cases hq : Nat.beq n l with
       | true => exact absurd (Nat.eq_of_beq_eq_true hq) e1
       | false => rfl
   · cases hq : Nat.beq n l with
     | true =>
      have := Nat.eq_of_beq_eq_true hq
      subst this
      show o + (n - n) * es ≤ p.2
      simp; omega
     | false =>
      show o + l * es + (n - l) * es ≤ p.2
      have : l * es + (n - l) * es = n * es := by rw [← Nat.add_mul]; congr 1; omega
      omega

theorem lenA_ext {t : TypeId} {x : AV} {r : AV × St} (h : lenA P t x s = some r) : Ext s r.2 := by
 unfold lenA at h
 split at h <;> first | (cases h; done) | (cases h; exact .refl _) | skip
 split at h <;> first | (cases h; done) | skip
 rename_i hb
 cases h; exact touch_ext hb
theorem ERel.length : ∀ {l : List (AV × AV × Nat)} {xs : List MapEntry}, ERel e l xs → xs.length = l.length
 | [], _, h => by rw [show _ = [] from h]; rfl
 | (_, _, _) :: _, _, ⟨_, _, rfl, _, _, _, h⟩ => by simp [h.length]
theorem lenA_ok {t u : TypeId} {x : AV} {X : Value} {r : AV × St} (h : lenA P t x s = some r) (hr : Rel e s M w) (hX : ∀ i, r.2.X.testBit i = true → M i) (hx : VRel e x X) :
 VOk P M (Builtin.len_ #[t] u #[X]) e s w r.1 r.2 := by
 unfold lenA at h
 have plain : ∀ (n : Nat) (v : AV), v = .int .i64 (.ofNat n) → r = (v, s) → (Builtin.len_ #[t] u #[X]).run P w = .ok (goInt n) w → VOk P M (Builtin.len_ #[t] u #[X]) e s w r.1 r.2 := fun n v hv hr' hrun => by
  subst hr'; subst hv
  exact ⟨e, w, _, hrun, by simp only [VRel, goInt]; rfl, hr, .refl _ _ _⟩
 split at h <;> first | (cases h; done) | skip
 · rename_i l hu
   simp only [VRel] at hx; subst hx
   refine plain (llen l) _ rfl (by cases h; rfl) ?_
   simp [Builtin.len_, run_underlying hu, size_bytes, llen_eq]
 · rename_i el b o l c z hu
   simp only [VRel] at hx; obtain ⟨p, m, _, rfl, _⟩ := hx
   refine plain l _ rfl (by cases h; rfl) ?_
   simp [Builtin.len_, run_underlying hu]
 · rename_i el hu
   simp only [VRel] at hx; subst hx
   refine plain 0 _ rfl (by cases h; rfl) ?_
   simp [Builtin.len_, run_underlying hu]
 · rename_i n el hu
   refine plain n _ rfl (by cases h; rfl) ?_
   simp [Builtin.len_, run_underlying hu]
 · rename_i kt el hu
   simp only [VRel] at hx; subst hx
   refine plain 0 _ rfl (by cases h; rfl) ?_
   simp [Builtin.len_, run_underlying hu]
 · rename_i kt el b hu
   split at h <;> first | (cases h; done) | skip
   rename_i es clock hb
   cases h
   have hMb := hX b (orB_same _ _)
   obtain ⟨p, hp, xs, hB1, hB2⟩ := hr.blk b _ hMb hb
   simp only [VRel] at hx
   obtain ⟨p', hp', rfl⟩ := hx
   rw [hp] at hp'; cases hp'
   obtain ⟨t1, t2⟩ := touch_ok (b := b) hr
   refine ⟨e, w, goInt xs.length, ?_, by simp only [VRel, goInt]; rw [llen_eq, hB2.length]; rfl, t1, t2⟩
   have hg : (getObj p.1).run P w = .ok (.map xs.toArray clock) w := by simp [getObj, Sem.run, hB1]
   simp [Builtin.len_, run_underlying hu, hg]

/-! strings walked -/
theorem rangeA_ext {t : TypeId} {x : AV} {r : AV × St} (h : rangeA P t x s = some r) : Ext s r.2 := by
 unfold rangeA at h
 split at h <;> first | (cases h; done) | skip
 cases h; exact new_ext _ _
theorem rangeA_ok {t : TypeId} {x : AV} {X : Value} {r : AV × St} (h : rangeA P t x s = some r) (hr : Rel e s M w) (hM : M s.next) (hx : VRel e x X) : VOk P M (Instr.range t X) e s w r.1 r.2 := by
 unfold rangeA at h
 split at h <;> first | (cases h; done) | skip
 rename_i l hu
 cases h
 simp only [VRel] at hx; subst hx
 obtain ⟨t1, t2⟩ := new_ok (B := .siter l 0) (z := 0) hr hM (laid_push w (.stringIter (bytes l) 0)) (push_new w _)
 refine ⟨_, _, .pointer (some ⟨w.heap.size, 0, none⟩), ?_, ?_, t1, t2⟩
 · simp [Instr.range, run_underlying hu]
 · simp only [VRel]; exact ⟨_, e.ext_same _ _, rfl⟩
theorem nextA_ext {it : AV} {b : Bool} {r : AV × St} (h : nextA it b s = some r) : Ext s r.2 := by
 unfold nextA at h
 split at h <;> first | (cases h; done) | skip
 split at h <;> first | (cases h; done) | skip
 rename_i hb
 split at h
 · obtain ⟨_, h⟩ := brec_some h
   cases h; exact put_ext hb
 · cases h; exact touch_ext hb
theorem decode_small {l : List Nat} {pos c : Nat} (h : l[pos]? = some c) (hc : c < 128) : Utf8.decode (bytes l) pos = (c, 1) := by
 have hp : pos < l.length := (List.getElem?_eq_some_iff.1 h).1
 have e1 : ((bytes l).get! pos).toNat = c := by
  have : (bytes l).get! pos = UInt8.ofNat c := by
   show (bytes l).data[pos]! = _
   have h3 : l[pos] = c := (List.getElem?_eq_some_iff.1 h).2
   simp [bytes, hp, h3]
  rw [this]; simp; omega
 unfold Utf8.decode
 simp only [Nat.add_zero, e1]
 rw [if_pos (show c < 0x80 from hc)]
theorem nextA_ok {it : AV} {b : Bool} {ty : TypeId} {I : Value} {r : AV × St} (h : nextA it b s = some r) (hr : Rel e s M w) (hX : ∀ i, r.2.X.testBit i = true → M i) (hi : VRel e it I) : VOk P M (Instr.next I b ty) e s w r.1 r.2 := by
 unfold nextA at h
 split at h <;> first | (cases h; done) | skip
 rename_i b
 split at h <;> first | (cases h; done) | skip
 rename_i l pos hb
 simp only [VRel] at hi
 obtain ⟨p, hp, rfl⟩ := hi
 have go : ∀ hMb : M b, w.heap[p.1]? = some (.stringIter (bytes l) pos) := fun hMb => by
  obtain ⟨p', hp', hB⟩ := hr.blk b _ hMb hb
  rw [hp] at hp'; cases hp'; exact hB
 split at h
 · rename_i c hc
   obtain ⟨hs, h⟩ := brec_some h
   cases h
   have hs := blt_iff.1 hs
   rw [lnth_eq] at hc
   have hMb := hX b (orB_same _ _)
   have hB := go hMb
   have hp2 : pos < l.length := (List.getElem?_eq_some_iff.1 hc).1
   have hk : p.1 < w.heap.size := (Array.getElem?_eq_some_iff.1 hB).1
   have h1 : One p.1 w { w with heap := w.heap.setIfInBounds p.1 (.stringIter (bytes l) (pos + 1)) } :=
    ⟨by simp, fun i hi => by simp [Array.getElem?_setIfInBounds_ne hi.symm], ⟨rfl, rfl, rfl⟩⟩
   obtain ⟨t1, t2⟩ := put_ok (B := .siter l (Nat.succ pos)) hr hMb hb hp h1 (by show _ = _; simp [hk])
   refine ⟨e, _, .tuple #[.bool true, goInt pos, .int .i32 c], ?_, ?_, t1, t2⟩
   · have hg : (getObj p.1).run P w = .ok (.stringIter (bytes l) pos) w := by simp [getObj, Sem.run, hB]
     have hset : (setObj p.1 (.stringIter (bytes l) (pos + 1))).run P w = .ok () { w with heap := w.heap.setIfInBounds p.1 (.stringIter (bytes l) (pos + 1)) } := by simp [setObj, Sem.run, hB]
     unfold Instr.next
     simp only [Sem.run_bind, hg, Result.andThen_ok, size_bytes, if_pos hp2, decode_small hc hs, hset, Sem.run_pure]
   · simp only [VRel]
     exact ⟨[.bool true, goInt pos, .int .i32 c], rfl, .cons_ (by simp only [VRel]) (.cons_ (by simp only [VRel]; rfl) (.cons_ (by simp only [VRel]; rfl) .nil_))⟩
 · rename_i hc
   cases h
   have hMb := hX b (orB_same _ _)
   have hB := go hMb
   rw [lnth_eq, List.getElem?_eq_none_iff] at hc
   obtain ⟨t1, t2⟩ := touch_ok (b := b) hr
   refine ⟨e, w, .tuple #[.bool false], ?_, ?_, t1, t2⟩
   · have hg : (getObj p.1).run P w = .ok (.stringIter (bytes l) pos) w := by simp [getObj, Sem.run, hB]
     unfold Instr.next
     simp only [Sem.run_bind, hg, Result.andThen_ok, size_bytes]
     rw [if_neg (by omega)]
     rfl
   · simp only [VRel]
     exact ⟨[.bool false], rfl, .cons_ (by simp only [VRel]) .nil_⟩

theorem min2A_eq (mx : Bool) (a b : Int) : min2A mx a b = if mx then (if b > a then b else a) else (if b < a then b else a) := by
 unfold min2A
 cases mx
 · simp only [ltI_eq]
   by_cases hba : b < a
   · simp [hba]
   · simp [hba]
 · simp only [ltI_eq]
   by_cases hba : a < b
   · simp [hba]
   · simp [hba]
theorem minA_run {mx : Bool} {t : TypeId} {tys : Array TypeId} {l : List AV} {xs : List Value} {v : AV} (h : minA mx l = some v) (hl : LRel e l xs) :
 ∃ z, (if mx then Builtin.max_ tys t xs.toArray else Builtin.min_ tys t xs.toArray).run P w = .ok z w ∧ VRel e v z := by
 unfold minA at h
 split at h <;> first | (cases h; done) | skip
 · rename_i k a k' b
   have hh := brec_some h
   clear h
   obtain ⟨hk, h⟩ := hh
   have := kNo_inj hk
   subst this
   cases h
   obtain ⟨y, ys, rfl, hy, hl⟩ := hl.of_cons
   obtain ⟨z, zs, rfl, hz, hl⟩ := hl.of_cons
   rw [hl.of_nil]
   simp only [VRel] at hy hz
   subst hy; subst hz
   refine ⟨.int k (min2A mx a b), ?_, by simp only [VRel]⟩
   rw [min2A_eq]
   cases mx
   · simp [Builtin.min_, Builtin.min2]
   · simp [Builtin.max_, Builtin.max2]
 · rename_i k a k' b k2 c
   have hh := brec_some h
   clear h
   obtain ⟨hk, h⟩ := hh
   obtain ⟨hk, hk3⟩ := Bool.and_eq_true_iff.1 hk
   have := kNo_inj hk
   subst this
   have := kNo_inj hk3
   subst this
   cases h
   obtain ⟨y, ys, rfl, hy, hl⟩ := hl.of_cons
   obtain ⟨z, zs, rfl, hz, hl⟩ := hl.of_cons
   obtain ⟨u, us, rfl, hu, hl⟩ := hl.of_cons
   rw [hl.of_nil]
   simp only [VRel] at hy hz hu
   subst hy; subst hz; subst hu
   refine ⟨.int k (min2A mx (min2A mx a b) c), ?_, by simp only [VRel]⟩
   rw [min2A_eq, min2A_eq]
   cases mx
   · simp [Builtin.min_, Builtin.min2]
   · simp [Builtin.max_, Builtin.max2]
end
end Go.Ev
namespace Go.Ev

section
variable {P : Program} {M : Nat → Prop} {e : Env} {s s' : St} {w : World} {eqT : List Nat}

/-! keys -/
def ChkOk (P : Program) (w : World) (e : Env) (d : Nat) (f : TypeId → AV → Bool) : Prop :=
 ∀ {em : Bool} {t : TypeId} {x : AV} {X : Value}, f t x = true → VRel e x X → (Instr.checkKey em d t X).run P w = .ok () w
theorem orecB {α : Type} {x : Option α} {f : α → Bool} (h : (Option.rec false f x : Bool) = true) : ∃ a, x = some a ∧ f a = true := by
 cases x with
 | none => cases h
 | some a => exact ⟨a, rfl, h⟩
theorem brecB {b x : Bool} (h : (Bool.rec false x b : Bool) = true) : b = true ∧ x = true := by
 cases b
 · cases h
 · exact ⟨rfl, h⟩
theorem chkFields_run {f : TypeId → AV → Bool} {d : Nat} {em : Bool} (hf : ChkOk P w e d f) {xs : List AV} {Xs : List Value} (hx : LRel e xs Xs) : ∀ {fs : List Field}, chkFields P f xs fs = true →
 (forIn fs PUnit.unit (fun f _ => if f.name ≠ "_" then do let a ← part f.type Xs.toArray f.offset; Instr.checkKey em d f.type a; pure (ForInStep.yield PUnit.unit) else pure (ForInStep.yield PUnit.unit) : Field → PUnit → Sem (ForInStep PUnit))).run P w = .ok PUnit.unit w := by
 intro fs
 induction fs with
 | nil => intro _; rfl
 | cons g fs ih =>
  intro h
  obtain ⟨a, ha, h⟩ := orecB (show (Option.rec false (fun a => Bool.rec false (chkFields P f xs fs) (f g.type a)) (partA P g.type xs g.offset) : Bool) = true from h)
  obtain ⟨h1, h2⟩ := brecB h
  obtain ⟨A, hA, hvA⟩ := part_run (w := w) hx ha
  simp only [List.forIn_cons, Sem.run_bind]
  by_cases hn : g.name ≠ "_"
  · rw [if_pos hn]
    simp only [Sem.run_bind, hA, Result.andThen_ok, hf h1 hvA, Sem.run_pure]
    exact ih h2
  · rw [if_neg hn]
    simp only [Sem.run_pure, Result.andThen_ok]
    exact ih h2
theorem chkItems_run {f : TypeId → AV → Bool} {d : Nat} {em : Bool} (hf : ChkOk P w e d f) {xs : List AV} {Xs : List Value} (hx : LRel e xs Xs) {el : TypeId} {c : Nat} (hc : szT P el = some c) : ∀ {n i : Nat}, chkItems P f el c xs n i = true →
 (forIn (List.range' i n) PUnit.unit (fun i _ => do let k ← sizeOf el; let a ← part el Xs.toArray (i * k); Instr.checkKey em d el a; pure (ForInStep.yield PUnit.unit) : Nat → PUnit → Sem (ForInStep PUnit))).run P w = .ok PUnit.unit w := by
 intro n
 induction n with
 | zero => intro i _; rfl
 | succ n ih =>
  intro i h
  obtain ⟨a, ha, h⟩ := orecB (show (Option.rec false (fun a => Bool.rec false (chkItems P f el c xs n (i + 1)) (f el a)) (partA P el xs (Nat.mul i c)) : Bool) = true from h)
  obtain ⟨h1, h2⟩ := brecB h
  obtain ⟨A, hA, hvA⟩ := part_run (w := w) hx ha
  have hA' : (part el Xs.toArray (i * c)).run P w = .ok A w := hA
  rw [List.range'_succ]
  simp only [List.forIn_cons, Sem.run_bind, sizeOf_run hc, Result.andThen_ok, hA', hf h1 hvA, Sem.run_pure]
  exact ih h2
theorem chkStep_run {f : TypeId → AV → Bool} {d : Nat} (hf : ChkOk P w e d f) : ChkOk P w e (d + 1) (chkStep P f) := by
 intro em t x X h hx
 unfold chkStep at h
 split at h <;> first | (cases h; done) | skip
 · rename_i hu; simp [Instr.checkKey, run_underlying hu]
 · rename_i k hu; simp [Instr.checkKey, run_underlying hu]
 · rename_i hu; simp [Instr.checkKey, run_underlying hu]
 · rename_i n el hu
   obtain ⟨xs, hg, h⟩ := orecB h
   obtain ⟨c, hc, h⟩ := orecB h
   rw [selG_ok hg] at hx
   simp only [VRel] at hx
   obtain ⟨Xs, rfl, hX⟩ := hx
   unfold Instr.checkKey
   simp only [Sem.run_bind, run_underlying hu, Result.andThen_ok]
   simp only [Std.Legacy.Range.forIn_eq_forIn_range', Std.Legacy.Range.size, Nat.sub_zero, Nat.add_one_sub_one, Nat.div_one]
   have := chkItems_run (em := em) hf hX hc h
   exact (congrArg (fun r => Result.andThen r fun a w' => Sem.run P (pure PUnit.unit) w') this).trans rfl
 · rename_i fs hu
   obtain ⟨xs, hg, h⟩ := orecB h
   rw [selG_ok hg] at hx
   simp only [VRel] at hx
   obtain ⟨Xs, rfl, hX⟩ := hx
   unfold Instr.checkKey
   simp only [Sem.run_bind, run_underlying hu, Result.andThen_ok]
   rw [← Array.forIn_toList]
   have := chkFields_run (em := em) hf hX h
   exact (congrArg (fun r => Result.andThen r fun a w' => Sem.run P (pure PUnit.unit) w') this).trans rfl
theorem chkA_run : ∀ (n d : Nat), ChkOk P w e (d + n) (chkA P n)
 | 0, _ => fun h => by cases h
 | n + 1, d => chkStep_run (chkA_run n d)

/-! the entry of a key -/
def FRes (e : Env) (xs : List MapEntry) (i0 : Nat) : Option (Nat × AV) → Option (Nat × Value) → Prop
 | none, R => R = none
 | some (i, v), R => ∃ V x, R = some (i, V) ∧ VRel e v V ∧ i0 ≤ i ∧ xs[i - i0]? = some x ∧ x.val = V
theorem FRes.shift {xs : List MapEntry} {x : MapEntry} {i0 : Nat} {r : Option (Nat × AV)} {R : Option (Nat × Value)} (h : FRes e xs (i0 + 1) r R) : FRes e (x :: xs) i0 r R := by
 cases r with
 | none => exact h
 | some q =>
  obtain ⟨i, v⟩ := q
  obtain ⟨V, y, h1, h2, h3, h4, h5⟩ := h
  refine ⟨V, y, h1, h2, by omega, ?_, h5⟩
  rw [show i - i0 = (i - (i0 + 1)) + 1 by omega]
  simpa using h4
theorem findA_cons {kt : TypeId} {k : AV} {p : AV × AV × Nat} {es : List (AV × AV × Nat)} {i : Nat} {r : Option (Nat × AV)} (h : findA P eqT kt k (p :: es) i = some r) :
 (eqA P eqT 30 kt k p.1 = some true ∧ r = some (i, p.2.1)) ∨ (eqA P eqT 30 kt k p.1 = some false ∧ findA P eqT kt k es (i + 1) = some r) := by
 have h : (match eqA P eqT 30 kt k p.1 with
  | some true => some (some (i, p.2.1))
  | some false => findA P eqT kt k es (i + 1)
  | none => none) = some r := h
 split at h <;> first | (cases h; done) | skip
 · rename_i hq; cases h; exact .inl ⟨hq, rfl⟩
 · rename_i hq; exact .inr ⟨hq, h⟩
theorem findAsking_run (hT : EqT P eqT) {kt : TypeId} {k : AV} {K : Value} (hk : VRel e k K) : ∀ {es : List (AV × AV × Nat)} {xs : List MapEntry} {i : Nat} {r : Option (Nat × AV)}, ERel e es xs → findA P eqT kt k es i = some r →
 ∃ R, (Instr.findAsking kt K xs i).run P w = .ok R w ∧ FRes e xs i r R := by
 intro es
 induction es with
 | nil => intro xs i r hes h; rw [show xs = [] from hes]; cases h; exact ⟨none, rfl, rfl⟩
 | cons p es ih =>
  intro xs i r hes h
  obtain ⟨pk, pv, pn⟩ := p
  obtain ⟨y, ys, rfl, h1, h2, h3, h4⟩ := hes
  rcases findA_cons h with ⟨hq, rfl⟩ | ⟨hq, h⟩
  · have := eqA_run (w := w) hT 30 9970 hq hk h1
    refine ⟨some (i, y.val), ?_, y.val, y, rfl, h2, Nat.le_refl _, by simp, rfl⟩
    unfold Instr.findAsking
    have e1 : (Op.equal kt K y.key).run P w = .ok true w := this
    simp only [Sem.run_bind, e1, Result.andThen_ok, if_true, Sem.run_pure]
  · have := eqA_run (w := w) hT 30 9970 hq hk h1
    obtain ⟨R, hR, hF⟩ := ih h4 h
    refine ⟨R, ?_, hF.shift⟩
    unfold Instr.findAsking
    have e1 : (Op.equal kt K y.key).run P w = .ok false w := this
    simp only [Sem.run_bind, e1, Result.andThen_ok, Bool.false_eq_true, if_false]
    exact hR
theorem sameNow_of {kt : TypeId} {D : TypeDesc} {k x : AV} {K X : Value} {b : Bool} (hu : P.underlying kt = some D) (h : eqA P eqT 30 kt k x = some b) (hk : VRel e k K) (hx : VRel e x X) :
 Instr.sameNow D K X = some b ∨ (∀ X', Instr.sameNow D K X' = none) := by
 have h : eqStep P eqT (eqA P eqT 29) kt k x = some b := h
 unfold eqStep at h
 rw [hu] at h
 cases D <;> simp only [] at h <;> first | (cases h; done) | skip
 case bool =>
  split at h <;> first | (cases h; done) | skip
  simp only [VRel] at hk hx; subst hk; subst hx
  cases h; left; simp [Instr.sameNow, eqB_eq]
 case int q =>
  split at h <;> first | (cases h; done) | skip
  obtain ⟨hj, hv⟩ := brec_some h
  have := kNo_inj hj
  subst this
  simp only [VRel] at hk hx; subst hk; subst hx
  rw [← Option.some.inj hv]; left; simp [Instr.sameNow, eqI_eq]
 case string =>
  split at h <;> first | (cases h; done) | skip
  simp only [VRel] at hk hx; subst hk; subst hx
  left
  simp only [Instr.sameNow]
  rw [beq_toListBytes, toList_bytes, toList_bytes, eqS_ok h]
 all_goals (right; intro X'; cases K <;> rfl)
theorem findNow_run {kt : TypeId} {D : TypeDesc} (hu : P.underlying kt = some D) {k : AV} {K : Value} (hk : VRel e k K) : ∀ {es : List (AV × AV × Nat)} {xs : List MapEntry} {i : Nat} {r : Option (Nat × AV)}, ERel e es xs → findA P eqT kt k es i = some r →
 (∃ R, Instr.findNow D K xs i = some R ∧ FRes e xs i r R) ∨ Instr.findNow D K xs i = none := by
 intro es
 induction es with
 | nil => intro xs i r hes h; rw [show xs = [] from hes]; cases h; exact .inl ⟨none, rfl, rfl⟩
 | cons p es ih =>
  intro xs i r hes h
  obtain ⟨pk, pv, pn⟩ := p
  obtain ⟨y, ys, rfl, h1, h2, h3, h4⟩ := hes
  rcases findA_cons h with ⟨hq, rfl⟩ | ⟨hq, h⟩
  · rcases sameNow_of hu hq hk h1 with hs | hs
    · exact .inl ⟨some (i, y.val), by simp [Instr.findNow, hs], y.val, y, rfl, h2, Nat.le_refl _, by simp, rfl⟩
    · exact .inr (by simp [Instr.findNow, hs])
  · rcases sameNow_of hu hq hk h1 with hs | hs
    · rcases ih h4 h with ⟨R, hR, hF⟩ | hR
      · exact .inl ⟨R, by simp [Instr.findNow, hs, hR], hF.shift⟩
      · exact .inr (by simp [Instr.findNow, hs, hR])
    · exact .inr (by simp [Instr.findNow, hs])
theorem findKey_run (hT : EqT P eqT) {kt : TypeId} {k : AV} {K : Value} (hk : VRel e k K) {es : List (AV × AV × Nat)} {xs : List MapEntry} {r : Option (Nat × AV)} (hes : ERel e es xs) (h : findA P eqT kt k es 0 = some r) {D : TypeDesc} (hu : P.underlying kt = some D) :
 ∃ R, (Instr.findKey kt K xs).run P w = .ok R w ∧ FRes e xs 0 r R := by
 unfold Instr.findKey
 simp only [Sem.run_bind, run_underlying hu, Result.andThen_ok]
 rcases findNow_run hu hk hes h with ⟨R, hR, hF⟩ | hR
 · rw [hR]; exact ⟨R, rfl, hF⟩
 · rw [hR]
   exact findAsking_run hT hk hes h

/-! lookup and update -/
theorem getMap_run {r : Nat} {es : Array MapEntry} {clock : Nat} (h : w.heap[r]? = some (.map es clock)) : (getObj r).run P w = .ok (.map es clock) w := by simp [getObj, Sem.run, h]
theorem setMap_run {r : Nat} {es : Array MapEntry} {clock : Nat} (o : Obj) (h : w.heap[r]? = some (.map es clock)) : (setObj r o).run P w = .ok () { w with heap := w.heap.setIfInBounds r o } := by simp [setObj, Sem.run, h]
theorem setObj_one {r : Nat} {o : Obj} (hk : r < w.heap.size) : One r w { w with heap := w.heap.setIfInBounds r o } ∧ ({ w with heap := w.heap.setIfInBounds r o } : World).heap[r]? = some o :=
 ⟨⟨by simp, fun i hi => by simp [Array.getElem?_setIfInBounds_ne hi.symm], ⟨rfl, rfl, rfl⟩⟩, by simp [hk]⟩
theorem lookupA_ext {t : TypeId} {m k : AV} {ok : Bool} {r : AV × St} (h : lookupA P eqT t m k ok s = some r) : Ext s r.2 := by
 unfold lookupA at h
 split at h <;> first | (cases h; done) | skip
 obtain ⟨_, h⟩ := brec_some h
 split at h <;> first | (cases h; done) | skip
 · split at h <;> first | (cases h; done) | (cases h; exact .refl _)
 · split at h <;> first | (cases h; done) | skip
   rename_i hb
   split at h <;> first | (cases h; done) | skip
   · cases h; exact touch_ext hb
   · split at h <;> first | (cases h; done) | (cases h; exact touch_ext hb)
theorem lookupA_ok (hT : EqT P eqT) {t : TypeId} {m k : AV} {ok : Bool} {Mv K : Value} {r : AV × St} (h : lookupA P eqT t m k ok s = some r) (hr : Rel e s M w) (hX : ∀ i, r.2.X.testBit i = true → M i) (hm : VRel e m Mv) (hk : VRel e k K) :
 VOk P M (Instr.lookup t Mv K ok) e s w r.1 r.2 := by
 unfold lookupA at h
 split at h <;> first | (cases h; done) | skip
 rename_i kt el hu
 obtain ⟨hc, h⟩ := brec_some h
 have tup : ∀ {v : AV} {V : Value} (b : Bool), VRel e v V → VRel e (Bool.rec v (.tuple [v, .bool b]) ok) (if ok then .tuple #[V, .bool b] else V) := fun b hv => by
  cases ok
  · exact hv
  · show VRel e (.tuple _) (.tuple _)
    simp only [VRel]
    exact ⟨[_, .bool b], rfl, .cons_ hv (.cons_ (by simp only [VRel]) .nil_)⟩
 obtain ⟨D, hD⟩ : ∃ D, P.underlying kt = some D := by
  have hc : chkStep P (chkA P 29) kt k = true := hc
  unfold chkStep at hc
  cases hq : P.underlying kt with
  | none => rw [hq] at hc; cases hc
  | some D => exact ⟨D, rfl⟩
 have chk : ∀ em, (Instr.checkKey em 10000 kt K).run P w = .ok () w := fun em => chkA_run 30 9970 hc hk
 split at h <;> first | (cases h; done) | skip
 · split at h <;> first | (cases h; done) | skip
   rename_i z hz
   cases h
   simp only [VRel] at hm; subst hm
   obtain ⟨Z, hZ, hvZ⟩ := zeroValue_run (w := w) (e := e) hz
   obtain ⟨R, hR, hF⟩ := findKey_run (w := w) hT hk (es := []) (xs := []) (r := none) rfl rfl hD
   have hF : R = none := hF
   subst hF
   refine ⟨e, w, _, ?_, tup false hvZ, hr, .refl _ _ _⟩
   unfold Instr.lookup
   simp only [Sem.run_bind, run_underlying hu, Result.andThen_ok, Sem.run_pure, chk, show (#[] : Array MapEntry).toList = [] from rfl, hR, hZ]
 · rename_i b _
   split at h <;> first | (cases h; done) | skip
   rename_i es clock hb
   have core : ∀ {q : Option (Nat × AV)} {v : AV}, findA P eqT kt k es 0 = some q → r = (v, s.touch b) → (∀ R, FRes e ([] : List MapEntry) 0 none R ∨ True) →
    (∀ xs R, ERel e es xs → FRes e xs 0 q R → ∃ V, (match R with | some (_, v) => pure (v, true) | none => do pure (← zeroValue el, false) : Sem (Value × Bool)).run P w = .ok V w ∧ VRel e v (if ok then .tuple #[V.1, .bool V.2] else V.1)) →
    VOk P M (Instr.lookup t Mv K ok) e s w r.1 r.2 := by
    intro q v hq hr' _ hfin
    subst hr'
    have hMb := hX b (orB_same _ _)
    obtain ⟨p, hp, xs, hB1, hB2⟩ := hr.blk b _ hMb hb
    simp only [VRel] at hm
    obtain ⟨p', hp', rfl⟩ := hm
    rw [hp] at hp'; cases hp'
    obtain ⟨R, hR, hF⟩ := findKey_run (w := w) hT hk hB2 hq hD
    obtain ⟨V, hV, hvV⟩ := hfin xs R hB2 hF
    obtain ⟨t1, t2⟩ := touch_ok (b := b) hr
    refine ⟨e, w, _, ?_, hvV, t1, t2⟩
    unfold Instr.lookup
    simp only [Sem.run_bind, run_underlying hu, Result.andThen_ok, Sem.run_pure, getMap_run hB1, chk, show xs.toArray.toList = xs by simp, hR]
    cases R with
    | none =>
     simp only [Sem.run_bind] at hV ⊢
     cases hz : (zeroValue el).run P w with
     | ok Z w1 => rw [hz] at hV; simp only [Result.andThen_ok, Sem.run_pure] at hV ⊢; cases hV; rfl
     | halt x w1 => rw [hz] at hV; cases hV
    | some q => obtain ⟨i, v⟩ := q; simp only [Sem.run_pure] at hV ⊢; cases hV; rfl
   split at h <;> first | (cases h; done) | skip
   · rename_i i v hq
     cases h
     refine core hq rfl (fun _ => .inr trivial) fun xs R _ hF => ?_
     obtain ⟨V, x, rfl, hvV, _⟩ := hF
     exact ⟨(V, true), rfl, tup true hvV⟩
   · rename_i hq
     split at h <;> first | (cases h; done) | skip
     rename_i z hz
     cases h
     refine core hq rfl (fun _ => .inr trivial) fun xs R _ hF => ?_
     have hF : R = none := hF
     subst hF
     obtain ⟨Z, hZ, hvZ⟩ := zeroValue_run (w := w) (e := e) hz
     exact ⟨(Z, false), by simp [hZ], tup false hvZ⟩

theorem sameS_ok {x y : AV} {X Y : Value} {n : Nat} (h : sameS x y = true) (hx : VRel e x X) (hy : VRel e y Y) : Instr.sameBits n X Y = true := by
 unfold sameS at h
 split at h <;> first | (cases h; done) | skip
 · obtain ⟨hk, h⟩ := brecB h
   have := kNo_inj hk
   subst this
   simp only [VRel] at hx hy; subst hx; subst hy
   rw [eqI_eq] at h
   simp [Instr.sameBits] at h ⊢; exact h
 · obtain ⟨b, hb, h⟩ := orecB h
   subst h
   simp only [VRel] at hx hy; subst hx; subst hy
   simp only [Instr.sameBits]
   rw [beq_toListBytes, toList_bytes, toList_bytes, eqS_ok hb]
 · simp only [VRel] at hx hy; subst hx; subst hy
   rw [eqB_eq] at h
   simp [Instr.sameBits] at h ⊢; exact h
theorem sameL_ok {n : Nat} : ∀ {l m : List AV} {xs ys : List Value}, sameL l m = true → LRel e l xs → LRel e m ys → xs.length = ys.length ∧ ((xs.zip ys).all fun (x, y) => Instr.sameBits n x y) = true := by
 intro l
 induction l with
 | nil =>
  intro m xs ys h hx hy
  cases m with
  | nil => rw [hx.of_nil, hy.of_nil]; exact ⟨rfl, rfl⟩
  | cons a m => cases h
 | cons x l ih =>
  intro m xs ys h hx hy
  cases m with
  | nil => cases h
  | cons y m =>
   obtain ⟨h1, h2⟩ := brecB (show (Bool.rec false (sameL l m) (sameS x y) : Bool) = true from h)
   obtain ⟨X, Xs, rfl, hX, hXs⟩ := hx.of_cons
   obtain ⟨Y, Ys, rfl, hY, hYs⟩ := hy.of_cons
   obtain ⟨g1, g2⟩ := ih h2 hXs hYs
   exact ⟨by simp [g1], by simp only [List.zip_cons_cons, List.all_cons, sameS_ok (n := n) h1 hX hY, g2, Bool.and_self]⟩
theorem sameA_ok {x y : AV} {X Y : Value} {n : Nat} (h : sameA x y = true) (hx : VRel e x X) (hy : VRel e y Y) : Instr.sameBits (n + 1) X Y = true := by
 unfold sameA at h
 split at h
 · simp only [VRel] at hx hy
   obtain ⟨Xs, rfl, hX⟩ := hx
   obtain ⟨Ys, rfl, hY⟩ := hy
   obtain ⟨g1, g2⟩ := sameL_ok (n := n) h hX hY
   unfold Instr.sameBits
   simp only [List.size_toArray, g1, beq_self_eq_true, Bool.true_and]
   exact g2
 · exact sameS_ok h hx hy

theorem updateA_ext {t : TypeId} {m k v : AV} (h : updateA P eqT t m k v s = some s') : Ext s s' := by
 unfold updateA at h
 split at h <;> first | (cases h; done) | skip
 obtain ⟨_, h⟩ := brec_some h
 split at h <;> first | (cases h; done) | skip
 split at h <;> first | (cases h; done) | skip
 rename_i hb
 split at h <;> first | (cases h; done) | skip
 · obtain ⟨q, _, h⟩ := orec h
   obtain ⟨_, h⟩ := brec_some h
   cases h; exact put_ext hb
 · cases h; exact put_ext hb
theorem ERel.get : ∀ {es : List (AV × AV × Nat)} {xs : List MapEntry} {i : Nat} {q : AV × AV × Nat}, ERel e es xs → es[i]? = some q → ∃ x, xs[i]? = some x ∧ VRel e q.1 x.key ∧ VRel e q.2.1 x.val ∧ x.born = q.2.2
 | [], _, _, _, _, h => by simp at h
 | (_, _, _) :: _, _, 0, q, ⟨y, ys, rfl, h1, h2, h3, _⟩, h => by simp at h; subst h; exact ⟨y, rfl, h1, h2, h3⟩
 | (_, _, _) :: _, _, i + 1, q, ⟨y, ys, rfl, _, _, _, h4⟩, h => by simp at h; simpa using h4.get h
theorem ERel.snoc : ∀ {es : List (AV × AV × Nat)} {xs : List MapEntry} {q : AV × AV × Nat} {x : MapEntry}, ERel e es xs → VRel e q.1 x.key → VRel e q.2.1 x.val → x.born = q.2.2 → ERel e (es ++ [q]) (xs ++ [x])
 | [], xs, (a, b, c), x, h, h1, h2, h3 => by rw [show xs = [] from h]; exact ⟨x, [], rfl, h1, h2, h3, rfl⟩
 | (_, _, _) :: _, _, q, x, ⟨y, ys, rfl, g1, g2, g3, g4⟩, h1, h2, h3 => ⟨y, ys ++ [x], rfl, g1, g2, g3, g4.snoc h1 h2 h3⟩
theorem setNth_cons (p : AV × AV × Nat) (l : List (AV × AV × Nat)) (k v : AV) (i : Nat) : setNth (p :: l) k v i = match i with | 0 => (k, v, p.2.2) :: l | i + 1 => p :: setNth l k v i := by cases i <;> rfl
theorem ERel.setNth : ∀ {es : List (AV × AV × Nat)} {xs : List MapEntry} {i : Nat} {k v : AV} {K V : Value}, ERel e es xs → VRel e k K → VRel e v V → ERel e (setNth es k v i) (xs.modify i fun x => { x with key := K, val := V })
 | [], xs, i, k, v, K, V, h, _, _ => by rw [show xs = [] from h]; cases i <;> rfl
 | (_, _, _) :: _, _, 0, k, v, K, V, ⟨y, ys, rfl, g1, g2, g3, g4⟩, h1, h2 => ⟨_, ys, rfl, h1, h2, g3, g4⟩
 | (_, _, _) :: _, _, i + 1, k, v, K, V, ⟨y, ys, rfl, g1, g2, g3, g4⟩, h1, h2 => by rw [setNth_cons]; exact ⟨y, _, rfl, g1, g2, g3, g4.setNth h1 h2⟩
theorem updateA_ok (hT : EqT P eqT) {t : TypeId} {m k v : AV} {Mv K V : Value} (h : updateA P eqT t m k v s = some s') (hr : Rel e s M w) (hX : ∀ i, s'.X.testBit i = true → M i) (hm : VRel e m Mv) (hk : VRel e k K) (hv : VRel e v V) :
 UOk P M (Instr.mapUpdate t Mv K V) e s w s' := by
 unfold updateA at h
 split at h <;> first | (cases h; done) | skip
 rename_i kt el hu
 obtain ⟨hc, h⟩ := brec_some h
 obtain ⟨D, hD⟩ : ∃ D, P.underlying kt = some D := by
  have hc : chkStep P (chkA P 29) kt k = true := hc
  unfold chkStep at hc
  cases hq : P.underlying kt with
  | none => rw [hq] at hc; cases hc
  | some D => exact ⟨D, rfl⟩
 have chk : (Instr.checkKey false 10000 kt K).run P w = .ok () w := chkA_run 30 9970 hc hk
 split at h <;> first | (cases h; done) | skip
 rename_i b _
 split at h <;> first | (cases h; done) | skip
 rename_i es clock hb
 split at h <;> first | (cases h; done) | skip
 · rename_i i v' hq
   obtain ⟨q, hqi, h⟩ := orec h
   obtain ⟨hsame, h⟩ := brec_some h
   cases h
   have hMb := hX b (orB_same _ _)
   obtain ⟨p, hp, xs, hB1, hB2⟩ := hr.blk b _ hMb hb
   simp only [VRel] at hm
   obtain ⟨p', hp', rfl⟩ := hm
   rw [hp] at hp'; cases hp'
   obtain ⟨R, hR, hF⟩ := findKey_run (w := w) hT hk hB2 hq hD
   obtain ⟨V', x, rfl, hvV, _, hx, hxv⟩ := hF
   rw [lnth_eq] at hqi
   obtain ⟨x', hx', hkx, _, _⟩ := hB2.get hqi
   have hlt : p.1 < w.heap.size := (Array.getElem?_eq_some_iff.1 hB1).1
   obtain ⟨g1, g2⟩ := setObj_one (w := w) (o := .map (xs.toArray.modify i fun x => { x with key := K, val := V }) clock) hlt
   obtain ⟨t1, t2⟩ := put_ok (B := .map (Ev.setNth es k v i) clock) hr hMb hb hp g1 ⟨xs.modify i fun x => { x with key := K, val := V }, by rw [g2]; simp, hB2.setNth hk hv⟩
   refine ⟨e, _, ?_, t1, t2⟩
   have hstay : (Instr.keyThatStays ((Option.map (fun x => x.key) xs.toArray[i]?).getD K) K).run P w = .ok K w := by
    have e1 : xs.toArray[i]? = some x' := by simpa using hx'
    rw [e1]
    unfold Instr.keyThatStays
    have e2 : Instr.sameBits 10000 x'.key K = true := sameA_ok (n := 9999) hsame hkx hk
    simp [e2]
   unfold Instr.mapUpdate
   simp only [Sem.run_bind, run_underlying hu, Result.andThen_ok, getMap_run hB1, chk, show xs.toArray.toList = xs by simp, hR]
   rw [hstay]
   simp only [Result.andThen_ok]
   exact setMap_run _ hB1
 · rename_i hq
   cases h
   have hMb := hX b (orB_same _ _)
   obtain ⟨p, hp, xs, hB1, hB2⟩ := hr.blk b _ hMb hb
   simp only [VRel] at hm
   obtain ⟨p', hp', rfl⟩ := hm
   rw [hp] at hp'; cases hp'
   obtain ⟨R, hR, hF⟩ := findKey_run (w := w) hT hk hB2 hq hD
   have hF : R = none := hF
   subst hF
   have hlt : p.1 < w.heap.size := (Array.getElem?_eq_some_iff.1 hB1).1
   obtain ⟨g1, g2⟩ := setObj_one (w := w) (o := .map (xs.toArray.push { key := K, val := V, born := clock }) (clock + 1)) hlt
   obtain ⟨t1, t2⟩ := put_ok (B := .map (lapp es [(k, v, clock)]) (Nat.succ clock)) hr hMb hb hp g1 ⟨xs ++ [{ key := K, val := V, born := clock }], by rw [g2]; simp, by rw [lapp_eq]; exact hB2.snoc hk hv rfl⟩
   refine ⟨e, _, ?_, t1, t2⟩
   unfold Instr.mapUpdate
   simp only [Sem.run_bind, run_underlying hu, Result.andThen_ok, getMap_run hB1, chk, show xs.toArray.toList = xs by simp, hR]
   exact setMap_run _ hB1
end
end Go.Ev
namespace Go.Ev

def OExt (s : St) : OR → Prop
 | .val _ s' => Ext s s'
 | .other .fail => True
 | .other (.skip s') => Ext s s'
 | .other (.call _ _ s') => s' = s
 | .other (.round _ _ s') => s' = s
 | .other (.defer _ _ s') => s' = s
 | .other (.recov s') => s' = s
 | .other (.panic _ s') => s' = s

/-- what the world does, where the evaluator says r of an operation -/
def OpOk (P : Program) (M : Nat → Prop) (e : Env) (s : St) (w : World) (m : Sem Next) : OR → Prop
 | .val v s' => (∀ i, s'.X.testBit i = true → M i) → ∃ e' w' x, m.run P w = .ok (.value x) w' ∧ VRel e' v x ∧ Rel e' s' M w' ∧ Trans e s w e' s' w'
 | .other .fail => True
 | .other (.skip s') => (∀ i, s'.X.testBit i = true → M i) → ∃ e' w', m.run P w = .ok .skip w' ∧ Rel e' s' M w' ∧ Trans e s w e' s' w'
 | .other (.call f args _) => ∃ xs, m.run P w = .ok (.enter f xs.toArray) w ∧ LRel e args xs
 | .other (.round l args _) => ∃ xs p, e.at_ l = some p ∧ LRel e args xs ∧ m.run P w = (Instr.yield p.1 xs.toArray).run P w
 | .other (.defer f args _) => ∃ (cap dargs : Array Value), m.run P w = .ok (.defer { target := .fn (.func f) cap, args := dargs }) w ∧ LRel e args (dargs ++ cap).toList ∧ (∀ w, (callFunc f (dargs ++ cap)).run P w = .ok (.enter f (dargs ++ cap)) w)
 | .other (.recov _) => m.run P w = .ok .recover w
 | .other (.panic v _) => ∃ x, m.run P w = .halt (.panic x) w ∧ VRel e v x

def Named (P : Program) : Prop := ∀ (f : Nat) (fn : Func), P.funcs[f]? = some fn → (fn.name == "runtime.NumGoroutine") = false
def MethOk (P : Program) (l : List (Nat × String × Nat)) : Prop := ∀ t m f, (t, m, f) ∈ l → ∀ v args w, (callMethod (.iface t v) m args).run P w = .ok (.enter f (#[v] ++ args)) w

section
variable {P : Program} {M : Nat → Prop} {e : Env} {s s' : St} {w : World} {eqT : List Nat} {meths : List (Nat × String × Nat)} {t : T AV} {ρ : Operand → Value}

theorem callFunc_run (hN : Named P) {f : Nat} (h : enters P f = true) (args : Array Value) (w : World) : (callFunc f args).run P w = .ok (.enter f args) w := by
 unfold enters at h
 split at h
 · rename_i fn hf
   unfold callFunc
   simp only [Sem.run_bind, run_program, Result.andThen_ok, hf]
   rw [if_neg (by rw [hN f fn hf]; simp), if_neg (by rw [Option.isNone_iff_eq_none]; intro hn; rw [hn] at h; cases h)]
   rfl
 · cases h

def ORho (e : Env) (t : T AV) (ρ : Operand → Value) : Prop := ∀ x v, opd t x = some v → VRel e v (ρ x)
theorem orho_eval {N : Nat} {a : Act} (h : FRel e N t a.tmps) : ORho e t a.eval := by
 intro x v hx
 cases x with
 | tmp i =>
  obtain ⟨y, hy, hv⟩ := h.2 i v hx
  show VRel e v (a.tmps.getD i undef)
  rw [Array.getD_eq_getD_getElem?, hy]; exact hv
 | const c => exact ofValue_rel hx
 | global g => cases hx
 | func f =>
  cases hx
  show VRel e (.func f [] []) (.func (.func f) #[] #[])
  simp only [VRel]
  exact ⟨[], [], rfl, .nil_, .nil_⟩
theorem opds_rel (h : ORho e t ρ) {l : Array Operand} {vs : List AV} (hl : opds t l = some vs) : ∃ xs, l.map ρ = xs.toArray ∧ LRel e vs xs := by
 unfold opds at hl
 refine ⟨l.toList.map ρ, by rw [← Array.toList_map, Array.toArray_toList], ?_⟩
 generalize l.toList = l at hl
 induction l generalizing vs with
 | nil => cases hl; exact .nil_
 | cons x l ih => obtain ⟨y, ys, h1, h2, rfl⟩ := lseq_cons hl; exact .cons_ (h _ _ h1) (ih h2)
theorem opdO_rel (h : ORho e t ρ) {x : Option Operand} {v : Option AV} (hx : opdO t x = some v) : Ev.ORel e v (x.map ρ) := by
 unfold opdO at hx
 split at hx
 · cases hx; rfl
 · split at hx <;> first | (cases hx; done) | skip
   rename_i hv
   cases hx
   exact ⟨_, rfl, h _ _ hv⟩
theorem opdP_rel (h : ORho e t ρ) {l : Array (Nat × Operand)} {vs : List (Nat × AV)} (hl : opdP t l = some vs) : ∃ xs, l.map (fun (i, x) => (i, ρ x)) = xs.toArray ∧ PRel e vs xs := by
 unfold opdP at hl
 refine ⟨l.toList.map (fun (i, x) => (i, ρ x)), by rw [← Array.toList_map, Array.toArray_toList], ?_⟩
 generalize l.toList = l at hl
 induction l generalizing vs with
 | nil => cases hl; rfl
 | cons p l ih =>
  have hl : (match opd t p.2, (List.rec (motive := fun _ => Option (List (Nat × AV))) (some []) (fun p _ ih => match opd t p.2, ih with
   | some v, some r => some ((p.1, v) :: r)
   | _, _ => none) l : Option (List (Nat × AV))) with
   | some v, some r => some ((p.1, v) :: r)
   | _, _ => none) = some vs := hl
  split at hl <;> first | (cases hl; done) | skip
  rename_i v r h1 h2
  cases hl
  obtain ⟨i, x⟩ := p
  exact ⟨_, _, rfl, h _ _ h1, ih h2⟩

theorem vnext {m : Sem Value} {x : Value} {w' : World} (h : m.run P w = .ok x w') : (do pure (Next.value (← m)) : Sem Next).run P w = .ok (.value x) w' := by
 simp only [Sem.run_bind, h, Result.andThen_ok, Sem.run_pure]
theorem unext {m : Sem Unit} {w' : World} (h : m.run P w = .ok () w') : (do m; pure Next.skip : Sem Next).run P w = .ok .skip w' := by
 simp only [Sem.run_bind, h, Result.andThen_ok, Sem.run_pure]

/-- an operation that yields a value and does nothing -/
theorem orV_ok {m : Sem Value} {v : Option AV} (hr : Rel e s M w) (h : ∀ u, v = some u → ∃ z, m.run P w = .ok z w ∧ VRel e u z) : OpOk P M e s w (do pure (Next.value (← m))) (orV s v) := by
 cases v with
 | none => trivial
 | some u =>
  obtain ⟨z, hz, hv⟩ := h u rfl
  exact fun _ => ⟨e, w, z, vnext hz, hv, hr, .refl _ _ _⟩
theorem orV_ext {v : Option AV} : OExt s (orV s v) := by cases v <;> first | trivial | exact Ext.refl s
theorem orM_ok {m : Sem Value} {v : Option (AV × St)} (h : ∀ u, v = some u → (∀ i, u.2.X.testBit i = true → M i) → VOk P M m e s w u.1 u.2) : OpOk P M e s w (do pure (Next.value (← m))) (orM v) := by
 cases v with
 | none => trivial
 | some u => exact fun hX => let ⟨e', w', x, h1, h2⟩ := h u rfl hX; ⟨e', w', x, vnext h1, h2⟩
theorem orM_ext {v : Option (AV × St)} (h : ∀ u, v = some u → Ext s u.2) : OExt s (orM v) := by cases v with | none => trivial | some u => exact h u rfl
theorem orU_ok {m : Sem Unit} {v : Option St} (h : ∀ u, v = some u → (∀ i, u.X.testBit i = true → M i) → UOk P M m e s w u) : OpOk P M e s w (do m; pure Next.skip) (orU v) := by
 cases v with
 | none => trivial
 | some u => exact fun hX => let ⟨e', w', h1, h2⟩ := h u rfl hX; ⟨e', w', unext h1, h2⟩
theorem orU_ext {v : Option St} (h : ∀ u, v = some u → Ext s u) : OExt s (orU v) := by cases v with | none => trivial | some u => exact h u rfl
theorem with1_ok {x : Operand} {k : AV → OR} {Q : OR → Prop} (hf : Q OR.fail) (h : ∀ v, opd t x = some v → Q (k v)) : Q (with1 t x k) := by
 unfold with1
 cases hx : opd t x with
 | none => exact hf
 | some v => exact h v hx
theorem orec_ok {α : Type} {x : Option α} {k : α → OR} {d : OR} {Q : OR → Prop} (hf : x = none → Q d) (h : ∀ v, x = some v → Q (k v)) : Q (Option.rec d k x) := by
 cases x with
 | none => exact hf rfl
 | some v => exact h v rfl
theorem brec_ok {b : Bool} {x y : OR} {Q : OR → Prop} (hf : b = false → Q x) (h : b = true → Q y) : Q (Bool.rec x y b) := by
 cases b
 · exact hf rfl
 · exact h rfl

theorem binF_run (hT : EqT P eqT) {op : BinOp} {ty : TypeId} {xo yo : Operand} {x y v : AV} {X Y : Value} (h : binF P eqT op ty xo yo x y = some v) (hx : VRel e x X) (hy : VRel e y Y) :
 ∃ z, (do eqGuard op ty xo yo X Y; binOp op ty X Y : Sem Value).run P w = .ok z w ∧ VRel e v z := by
 unfold binF at h
 cases hp : selI x with
 | none => rw [hp] at h; exact binA_run hT h hx hy
 | some p =>
  rw [hp] at h
  dsimp only at h
  cases hq : selI y with
  | none => rw [hq] at h; exact binA_run hT h hx hy
  | some q =>
   rw [hq] at h
   dsimp only at h
   cases hi : intBin op p.1 p.2 q.2 with
   | none => rw [hi] at h; exact binA_run hT h hx hy
   | some u =>
    rw [hi] at h
    dsimp only at h
    obtain ⟨hk, h⟩ := brec_some (show (Bool.rec none (some u) (Nat.beq (kNo p.1) (kNo q.1)) : Option AV) = some v from h)
    cases h
    have hk := kNo_inj hk
    rw [selI_ok hp] at hx
    rw [selI_ok hq, ← hk] at hy
    simp only [VRel] at hx hy
    subst hx; subst hy
    obtain ⟨z, hz, hv⟩ := intBin_run (P := P) (w := w) (e := e) (t := ty) hi
    have hg : (eqGuard op ty xo yo (.int p.1 p.2) (.int p.1 q.2)).run P w = .ok () w := guard_run hT (x := .int p.1 p.2) (y := .int p.1 q.2) (e := e) rfl (by simp only [VRel]) (by simp only [VRel])
    exact ⟨z, by rw [Sem.run_bind, hg]; exact hz, hv⟩

theorem nilChk_run {x : AV} {X : Value} (h : nilChk x = true) : VRel e x X → (match X with
 | .pointer none | .nilIface | .nilFunc => runtimePanic .nilDeref
 | .func (.method name) first captured =>
  match (first[0]? : Option Value) with
  | some .nilIface => runtimePanic .nilDeref
  | some (.iface t w) => do
   if (← nilAhead ((← program).types.size + Made.depth) t w name) != some false then
    unsupported (.noEntry "op/nilCheck.the method's receiver behind this interface value is a nil pointer, or cannot be seen to be none, and the arguments act or may panic (ledger 612)")
   pure (.value (.func (.method name) first captured))
  | _ => pure (.value (.func (.method name) first captured))
 | x => pure (.value x) : Sem Next).run P w = .ok (.value X) w := by
 intro hx
 cases x <;> first | (cases h; done) | skip
 all_goals simp only [VRel] at hx
 all_goals first
  | (subst hx; rfl)
  | (obtain ⟨p, q, _, rfl, _⟩ := hx; rfl)
  | (obtain ⟨p, _, rfl⟩ := hx; rfl)
  | (obtain ⟨p, q, rfl, _⟩ := hx; rfl)
  | (obtain ⟨p, rfl, _⟩ := hx; rfl)

theorem invoke_func (hN : Named P) {f : Nat} (h : enters P f = true) (args cap : Array Value) : (invoke (.fn (.func f) cap) args).run P w = .ok (.enter f (args ++ cap)) w := by
 unfold invoke
 exact callFunc_run hN h _ w

theorem callV_ok (hN : Named P) {f : Operand} {args : Array Operand} {tys : Array TypeId} {ty : TypeId} (ho : ORho e t ρ) :
 OpOk P M e s w (do let d ← resolve ρ { callee := .value f, args, argTypes := tys } ty; invoke d.target d.args) (hCallV P f args t s) ∧ OExt s (hCallV P f args t s) := by
 unfold hCallV
 refine with1_ok (Q := fun r => OpOk P M e s w _ r ∧ OExt s r) ⟨trivial, trivial⟩ fun F hF => ?_
 refine orec_ok (Q := fun r => OpOk P M e s w _ r ∧ OExt s r) (fun _ => ⟨trivial, trivial⟩) fun vs hvs => ?_
 have hf := ho f F hF
 obtain ⟨xs, hxs, hl⟩ := opds_rel ho hvs
 unfold callF
 refine orec_ok (Q := fun r => OpOk P M e s w _ r ∧ OExt s r) (fun _ => ?_) fun g hg => ?_
 · refine orec_ok (Q := fun r => OpOk P M e s w _ r ∧ OExt s r) (fun _ => ⟨trivial, trivial⟩) fun l hl' => ⟨?_, rfl⟩
   rw [selY_ok hl'] at hf
   simp only [VRel] at hf
   obtain ⟨p, hp, hfe⟩ := hf
   refine ⟨xs, p, hp, hl, ?_⟩
   simp only [resolve, hfe, hxs, Deferred.ofValue, Sem.run_bind, Sem.run_pure, Result.andThen_ok, invoke]
   simp
 · refine brec_ok (Q := fun r => OpOk P M e s w _ r ∧ OExt s r) (fun _ => ⟨trivial, trivial⟩) fun hen => ⟨?_, rfl⟩
   rw [selF_ok hg] at hf
   simp only [VRel] at hf
   obtain ⟨as, cs, hfe, h1, h2⟩ := hf
   refine ⟨as ++ (xs ++ cs), ?_, by rw [lapp_eq, lapp_eq]; exact h1.append (hl.append h2)⟩
   simp only [resolve, hfe, hxs, Deferred.ofValue, Sem.run_bind, Sem.run_pure, Result.andThen_ok]
   rw [invoke_func hN hen]
   simp
theorem methOf_mem {l : List (Nat × String × Nat)} {t : Nat} {m : String} {f : Nat} (h : methOf l t m = some f) : (t, m, f) ∈ l := by
 induction l with
 | nil => cases h
 | cons p l ih =>
  have h : (Bool.rec (methOf l t m) (some p.2.2) (Bool.and (Nat.beq p.1 t) (p.2.1 == m)) : Option Nat) = some f := h
  cases hb : Bool.and (Nat.beq p.1 t) (p.2.1 == m) with
  | true =>
   rw [hb] at h; cases h
   have hb : (Nat.beq p.1 t && (p.2.1 == m)) = true := hb
   rw [Bool.and_eq_true] at hb
   have e1 := Nat.eq_of_beq_eq_true hb.1
   have e2 : p.2.1 = m := by simpa using hb.2
   subst e1; subst e2
   exact List.mem_cons_self ..
  | false => rw [hb] at h; exact List.mem_cons_of_mem _ (ih h)
theorem callI_ok (hM : MethOk P meths) {r : Operand} {m : String} {args : Array Operand} {tys : Array TypeId} {ty : TypeId} (ho : ORho e t ρ) :
 OpOk P M e s w (do let d ← resolve ρ { callee := .invoke r m, args, argTypes := tys } ty; invoke d.target d.args) (hCallI P meths r m args t s) ∧ OExt s (hCallI P meths r m args t s) := by
 unfold hCallI
 refine with1_ok (Q := fun r => OpOk P M e s w _ r ∧ OExt s r) ⟨trivial, trivial⟩ fun F hF => ?_
 refine orec_ok (Q := fun r => OpOk P M e s w _ r ∧ OExt s r) (fun _ => ⟨trivial, trivial⟩) fun vs hvs => ?_
 have hf := ho r F hF
 obtain ⟨xs, hxs, hl⟩ := opds_rel ho hvs
 split
 · rename_i ty' v
   refine orec_ok (Q := fun r => OpOk P M e s w _ r ∧ OExt s r) (fun _ => ⟨trivial, trivial⟩) fun f hm => ?_
   refine brec_ok (Q := fun r => OpOk P M e s w _ r ∧ OExt s r) (fun _ => ⟨trivial, trivial⟩) fun _ => ⟨?_, rfl⟩
   simp only [VRel] at hf
   obtain ⟨y, hy, hv⟩ := hf
   refine ⟨y :: xs, ?_, .cons_ hv hl⟩
   simp only [resolve, hy, hxs, Sem.run_bind, Sem.run_pure, Result.andThen_ok, invoke]
   have e1 : (#[Value.iface ty' y] ++ xs.toArray)[0]? = some (.iface ty' y) := by simp
   have e2 : (#[Value.iface ty' y] ++ xs.toArray).extract 1 (#[Value.iface ty' y] ++ xs.toArray).size = xs.toArray := by simp
   rw [e1]
   simp only [e2]
   rw [hM _ _ _ (methOf_mem hm)]
   simp
 · exact ⟨trivial, trivial⟩
end
end Go.Ev
