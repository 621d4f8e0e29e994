/- What an argument reads as: a book of chapter 12 by value; what the row asks at the end; the wrap of a row that lists variables and keeps the shape of the world. -/
import Derived.Test.YtocdmkilnbpkdaaGreatDoorXC
import Derived.ProofKit
import Derived.OpenShut
import Derived.Deep.Slices
import Derived.Deep.Strs
import Derived.Lib.SmallJoins
import Derived.Carry
import Derived.ChangeSame
import Derived.SizedLaws
import Derived.Below
import Derived.HandedShaped
import Derived.Shelf.Vars
import Derived.Lay
import Derived.LaidOnce
set_option linter.unusedVariables false
set_option linter.unusedSimpArgs false
namespace Go.Proofs.YtocdmkilnbpkdaaGreatDoor
open Go.RowKit Go.WideShapes Go.ChangeShapes Go.Deep Go.Joins

theorem list_of {α : Type} [Inhabited α] {Q : Nat → α → Prop} : ∀ {len : Nat}, (∀ i, i < len → ∃ x, Q i x) → ∃ xs : List α, xs.length = len ∧ ∀ i, i < len → Q i (nth xs i)
 | 0, _ => ⟨[], rfl, fun i hi => absurd hi (by omega)⟩
 | n + 1, h => by
  obtain ⟨xs, hl, hq⟩ := list_of (len := n) (fun i hi => h i (by omega))
  obtain ⟨x, hx⟩ := h n (by omega)
  refine ⟨xs ++ [x], by simp [hl], fun i hi => ?_⟩
  by_cases hin : i < n
  · rw [show nth (xs ++ [x]) i = nth xs i by simp [nth, List.getElem?_append_left (show i < xs.length by omega)]]; exact hq i hin
  · obtain rfl : i = xs.length := by omega
    rw [show nth (xs ++ [x]) xs.length = x by simp [nth], hl]; exact hx
theorem cell_spot {w : World} {a : Addr} {v : Value} (h : w.cell? a = some v) : a.spot = none ∧ a.block < w.heap.size := by
 unfold World.cell? at h
 split at h
 · rename_i c t f hc
   have hlt := (Array.getElem?_eq_some_iff.1 hc).1
   split at h
   · cases h
   · rename_i hs
     exact ⟨by cases hsp : a.spot <;> simp_all, hlt⟩
 · cases h
theorem row_of {w : World} {a : Addr} {len k : Nat} (hk : 0 < k) {f : Nat → Value} (h : ∀ i, i < len → ∃ cs, w.cells? 0 (a.add (i * k)) k = some cs ∧ ∀ j, j < k → cs[j]? = some (f (i * k + j))) : Row w w.heap.size (some a) (len * k) f := fun hm => by
 have hlen : 0 < len := Nat.pos_of_ne_zero (fun e => by subst e; simp at hm)
 have hc : ∀ i, i < len → ∀ j, j < k → w.cell? ((a.add (i * k)).add j) = some (f (i * k + j)) := fun i hi j hj => by
  obtain ⟨cs, h1, h2⟩ := h i hi
  obtain ⟨_, _, h4⟩ := World.cells?_some h1
  rw [h4 j hj, h2 j hj]
 have h0 := hc 0 hlen 0 hk
 obtain ⟨hs, hb⟩ := cell_spot h0
 simp only [Nat.zero_mul, Addr.add, if_true] at hs hb
 obtain ⟨b, off, sp⟩ := a
 simp only at hs hb
 subst hs
 refine ⟨b, off, rfl, hb, fun j hj => ?_⟩
 have h1 : j / k < len := by rw [Nat.div_lt_iff_lt_mul hk]; exact hj
 have h2 := hc (j / k) h1 (j % k) (Nat.mod_lt _ hk)
 rw [Nat.div_add_mod' j k] at h2
 rw [← h2, Addr.add_lit, Addr.add_lit, Nat.add_assoc, Nat.div_add_mod' j k]
section
variable {H : Type} {enc : TypeId × Value → H} {w : World} {spare : Nat → Bool} {held : Bool} {n : Nat}
theorem at_of_take {cs : List Value} {o : Nat} {v : Value} (h : (cs.drop o).take 1 = [v]) : cs[o]? = some v := by
 have : (cs.drop o)[0]? = some v := by
  cases hd : cs.drop o with
  | nil => rw [hd] at h; simp at h
  | cons x l => rw [hd] at h; simp at h; simp [h]
 simpa using this
theorem Tryz.cellsInt : Tryz.prog.cellsOf 3 = 1 := by kernel_rfl
theorem int_at {cs : List Value} {o : Nat} {x : DataW H × List MemPlace} (h : DataW.trod enc Tryz.prog w 0 spare held n 3 ((cs.drop o).take (Tryz.prog.cellsOf 3)) = some x) : ∃ i : Int, cs[o]? = some (.int .i64 i) ∧ (Lit.int .i64 i).wf = true := by
 rw [Tryz.cellsInt] at h
 obtain ⟨i, h1, _, h2⟩ := DataW.trod_int Tryz.underlying3 h
 exact ⟨i, at_of_take h1, h2⟩
theorem one_at {cs : List Value} {o : Nat} {t : TypeId} {x : DataW H × List MemPlace} (hc : Tryz.prog.cellsOf t = 1) (h : DataW.trod enc Tryz.prog w 0 spare held n t ((cs.drop o).take (Tryz.prog.cellsOf t)) = some x) {v : Value} (hv : cs[o]? = some v) : DataW.trod enc Tryz.prog w 0 spare held n t [v] = some x := by
 rw [hc] at h
 have : (cs.drop o).take 1 = [v] := by
  have hl := (List.getElem?_eq_some_iff.1 hv).1
  rw [List.drop_eq_getElem_cons hl]
  have := (List.getElem?_eq_some_iff.1 hv).2
  simp [this]
 rwa [this] at h

theorem Tryz.cellsString : Tryz.prog.cellsOf 9 = 1 := by kernel_rfl
theorem Tryz.cellsLeStep : Tryz.prog.cellsOf 68 = 3 := by kernel_rfl
theorem Tryz.cellsLeTally : Tryz.prog.cellsOf 50 = 3 := by kernel_rfl
theorem Tryz.cellsLeBook : Tryz.prog.cellsOf 25 = 2 := by kernel_rfl
theorem string_at {cs : List Value} {o : Nat} {x : DataW H × List MemPlace} (h : DataW.trod enc Tryz.prog w 0 spare held n 9 ((cs.drop o).take (Tryz.prog.cellsOf 9)) = some x) : ∃ s : ByteArray, cs[o]? = some (.string s) ∧ s.size ≤ maxLen := by
 rw [Tryz.cellsString] at h
 obtain ⟨s, h1, _, h2⟩ := DataW.trod_string Tryz.underlying9 h
 exact ⟨s, at_of_take h1, h2⟩
theorem steps_open {v : Value} {x : DataW H × List MemPlace} (h : DataW.trod enc Tryz.prog w 0 spare held n 22 [v] = some x) : ∃ A xs cap, v = .slice A xs.length cap ∧ Row w w.heap.size A (xs.length * 3) (stepsF xs) ∧ xs.length ≤ cap ∧ cap ≤ maxLen ∧ ∀ j, j < xs.length → (nth xs j).name.size ≤ maxLen := by
 rcases open_slice Tryz.underlying22 h with ⟨hcs, _⟩ | ⟨a, len, cap, m, n', D, Pl, hcs, _, hl, hm, hmm, _, hi⟩
 · cases hcs; exact ⟨none, [], 0, rfl, Row.nil_, Nat.le_refl _, by simp [maxLen], fun j hj => absurd hj (Nat.not_lt_zero _)⟩
 · cases hcs
   have hle : len ≤ m := by rw [hmm]; split <;> omega
   rw [Tryz.cellsLeStep] at hi
   obtain ⟨xs, hxl, hx⟩ := list_of (α := Step) (Q := fun i x => ∃ cs, w.cells? 0 (a.add (i * 3)) 3 = some cs ∧ cs[0]? = some (.string x.name) ∧ cs[1]? = some (.int .i64 x.from_) ∧ cs[2]? = some (.int .i64 x.loss) ∧ x.name.size ≤ maxLen) (len := len) (fun i hi' => by
    obtain ⟨cs, h1, h2⟩ := hi i (by omega)
    obtain ⟨y0, y1, y2, m, _, _, h3, h4, h5⟩ := trod_struct3 Tryz.underlying68 h2
    obtain ⟨e, e0, es⟩ := string_at (o := 0) h3
    obtain ⟨f, e1, _⟩ := int_at (o := 1) h4
    obtain ⟨g, e2, _⟩ := int_at (o := 2) h5
    exact ⟨⟨e, f, g⟩, cs, h1, e0, e1, e2, es⟩)
   subst hxl
   refine ⟨some a, xs, cap, rfl, row_of (by omega) (fun i hi' => ?_), hl, hm, fun j hj => (hx j hj).choose_spec.2.2.2.2⟩
   obtain ⟨cs, h1, h2, h3, h4, _⟩ := hx i hi'
   refine ⟨cs, h1, fun j hj => ?_⟩
   obtain rfl | rfl | rfl : j = 0 ∨ j = 1 ∨ j = 2 := by omega
   · rw [h2, stepsF, show (i * 3 + 0) % 3 = 0 by omega, show (i * 3 + 0) / 3 = i by omega]; rfl
   · rw [h3, stepsF, show (i * 3 + 1) % 3 = 1 by omega, show (i * 3 + 1) / 3 = i by omega]; rfl
   · rw [h4, stepsF, show (i * 3 + 2) % 3 = 2 by omega, show (i * 3 + 2) / 3 = i by omega]; rfl
theorem tallies_open {v : Value} {x : DataW H × List MemPlace} (h : DataW.trod enc Tryz.prog w 0 spare held n 23 [v] = some x) : ∃ A xs cap, v = .slice A xs.length cap ∧ Row w w.heap.size A (xs.length * 3) (talliesF xs) ∧ xs.length ≤ cap ∧ cap ≤ maxLen := by
 rcases open_slice Tryz.underlying23 h with ⟨hcs, _⟩ | ⟨a, len, cap, m, n', D, Pl, hcs, _, hl, hm, hmm, _, hi⟩
 · cases hcs; exact ⟨none, [], 0, rfl, Row.nil_, Nat.le_refl _, by simp [maxLen]⟩
 · cases hcs
   have hle : len ≤ m := by rw [hmm]; split <;> omega
   rw [Tryz.cellsLeTally] at hi
   obtain ⟨xs, hxl, hx⟩ := list_of (α := Tally) (Q := fun i x => ∃ cs, w.cells? 0 (a.add (i * 3)) 3 = some cs ∧ cs[0]? = some (.int .i64 x.step) ∧ cs[1]? = some (.int .i64 x.hands) ∧ cs[2]? = some (.int .i64 x.off)) (len := len) (fun i hi' => by
    obtain ⟨cs, h1, h2⟩ := hi i (by omega)
    obtain ⟨y0, y1, y2, m, _, _, h3, h4, h5⟩ := trod_struct3 Tryz.underlying50 h2
    obtain ⟨e, e0, _⟩ := int_at (o := 0) h3
    obtain ⟨f, e1, _⟩ := int_at (o := 1) h4
    obtain ⟨g, e2, _⟩ := int_at (o := 2) h5
    exact ⟨⟨e, f, g⟩, cs, h1, e0, e1, e2⟩)
   subst hxl
   refine ⟨some a, xs, cap, rfl, row_of (by omega) (fun i hi' => ?_), hl, hm⟩
   obtain ⟨cs, h1, h2, h3, h4⟩ := hx i hi'
   refine ⟨cs, h1, fun j hj => ?_⟩
   obtain rfl | rfl | rfl : j = 0 ∨ j = 1 ∨ j = 2 := by omega
   · rw [h2, talliesF, show (i * 3 + 0) % 3 = 0 by omega, show (i * 3 + 0) / 3 = i by omega]; rfl
   · rw [h3, talliesF, show (i * 3 + 1) % 3 = 1 by omega, show (i * 3 + 1) / 3 = i by omega]; rfl
   · rw [h4, talliesF, show (i * 3 + 2) % 3 = 2 by omega, show (i * 3 + 2) / 3 = i by omega]; rfl
set_option maxRecDepth 100000 in
theorem tally_open {r : Go.Reach} {b0 : Nat} {v : Value} {d : DataW H} {p : List MemPlace} (hv : Value.okWide Tryz.prog w r b0 50 v) (h : DataW.Trod enc Tryz.prog w 0 spare held 50 v d p) : ∃ s : Tally, v = .agg #[.int .i64 s.step, .int .i64 s.hands, .int .i64 s.off] := by
 obtain ⟨cs, rfl, hsz⟩ := okWide_struct Tryz.underlying50 hv
 obtain ⟨l⟩ := cs
 match l, hsz.trans Tryz.cellsLeTally with
 | [x0, x1, x2], _ =>
  obtain ⟨fuel, hf⟩ := h
  obtain ⟨y0, y1, y2, m, _, _, h3, h4, h5⟩ := trod_struct3 Tryz.underlying50 hf
  obtain ⟨e, e0, _⟩ := int_at (o := 0) h3
  obtain ⟨f, e1, _⟩ := int_at (o := 1) h4
  obtain ⟨g, e2, _⟩ := int_at (o := 2) h5
  cases e0
  cases e1
  cases e2
  exact ⟨⟨e, f, g⟩, rfl⟩
set_option maxRecDepth 100000 in
theorem book_open {r : Go.Reach} {b0 : Nat} {v : Value} {d : DataW H} {p : List MemPlace} (hv : Value.okWide Tryz.prog w r b0 25 v) (h : DataW.Trod enc Tryz.prog w 0 spare held 25 v d p) : ∃ b a, v = bookVal b a ∧ BookV w w.heap.size b a := by
 obtain ⟨cs, rfl, hsz⟩ := okWide_struct Tryz.underlying25 hv
 obtain ⟨l⟩ := cs
 match l, hsz.trans Tryz.cellsLeBook with
 | [x0, x1], _ =>
  obtain ⟨fuel, hf⟩ := h
  obtain ⟨xs, n, _, hx, _, hlen, hg⟩ := DataW.trod_struct Tryz.underlying25 hf
  have g0 := hg 0 _ rfl
  have g1 := hg 1 _ rfl
  match xs, hlen with
  | [y0, y1], _ =>
   obtain ⟨A1, l1, c1, rfl, r1, m1, k1, s1⟩ := steps_open (one_at (o := 0) (by kernel_rfl) g0 rfl)
   obtain ⟨A2, l2, c2, rfl, r2, m2, k2⟩ := tallies_open (one_at (o := 1) (by kernel_rfl) g1 rfl)
   exact ⟨⟨l1, l2⟩, ⟨A1, A2, c1, c2⟩, rfl, ⟨r1, r2, s1, ⟨m1, k1⟩, ⟨m2, k2⟩⟩⟩
end
section
variable {H : Type} {enc : TypeId × Value → H} {P : Program}
theorem post_of_below {f : Func} {s : ChangeSpec} {apart fresh handsOn again : Bool} {W W' : World} {args : Array Value} {v : Value} {ds gs : List (DataW H)} {before pa pv : List MemPlace}
 (hW : DataW.Whole enc P f.params.toList s.vars apart W args.toList ds gs before)
 (hres : ∀ (b : Nat) (sp : Nat → Bool) (hd : Bool), DataW.TrodAll enc P W' b sp hd f.resultTypes.toList (v.resultList f.resultTypes.size) (s.fn H (ds ++ gs)).results [])
 (hargs : ∀ sp : Nat → Bool, (∀ p ∈ before, sp p.block = true) → DataW.TrodAll enc P W' 0 sp true f.params.toList args.toList (s.fn H (ds ++ gs)).args pa)
 (hvars : ∀ sp : Nat → Bool, (∀ p ∈ before, sp p.block = true) → DataW.TrodVars enc P W' sp s.vars (s.fn H (ds ++ gs)).vars pv)
 (hps : before = pa ++ pv) (hb : Below W.heap.size W W')
 (hok : ∀ (j : Nat) (t : TypeId) (r : Value), f.resultTypes[j]? = some t → (v.resultList f.resultTypes.size)[j]? = some r → Value.okWide P W' .any 0 t r) :
 s.post enc P f apart fresh handsOn again W args v W' := by
 have hlt : ∀ p ∈ before, p.block < W.heap.size := fun p hp => hW.lt p hp
 have hold : ∀ p ∈ before, (fun b => decide (b < W.heap.size)) p.block = true := fun p hp => by simpa using hlt p hp
 refine ⟨ds, gs, before, [], pa, pv, hW, hres _ _ _, hargs _ hold, hvars _ hold, World.keptBut_mono (fun p hp => ⟨hp, ?_⟩) (hb.frame (· ∈ before)), fun _ => ?_⟩
 · rw [hps, List.mem_append] at hp
   exact Or.inr hp
 · obtain ⟨_, _, _, _, _, hz, hn⟩ := hW
   refine ⟨hok, _, _, ([] ++ pa) ++ pv, ⟨[] ++ pa, pv, trodAll_append (hargs _ (fun _ _ => rfl)) (hres _ _ _), hvars _ (fun _ _ => rfl), rfl, ?_, ?_⟩, ?_⟩
   · intro b off hp
     have hin : MemPlace.cell b off ∈ before := by rw [hps]; simpa using hp
     rw [hb.frozen (hlt _ hin)]
     exact hz b off hin
   · intro ha
     have := hn ha
     rw [hps] at this
     simpa using this
   · intro p hp _
     rw [hps]
     simpa using hp
end
theorem trodAll_stays {P : Program} (hl : laidOutB P = true) {H : Type} {enc : TypeId × Value → H} {W W' : World} (hb : Below W.heap.size W W') {sp : Nat → Bool} : ∀ {ts : List TypeId} {vs : List Value} {ds : List (DataW H)} {ps : List MemPlace}, DataW.TrodAll enc P W 0 (fun _ => true) true ts vs ds ps →
 (∀ p ∈ ps, p.block < W.heap.size) → (ts.all fun t => P.readableRec t && decide (t < P.types.size)) = true → (∀ p ∈ ps, sp p.block = true) → DataW.TrodAll enc P W' 0 sp true ts vs ds ps
 | [], vs, ds, ps, h, _, _, _ => by
  obtain ⟨rfl, rfl, rfl⟩ := trodAll_nil h
  exact trodAll_mk0
 | t :: ts, vs, ds, ps, h, hlt, hr, hsp => by
  obtain ⟨v, vs', d, ds', p, q, rfl, rfl, rfl, h1, h2⟩ := trodAll_cons h
  simp only [List.all_cons, Bool.and_eq_true, decide_eq_true_eq] at hr
  exact trodAll_cons_mk (WideElems.Trod_stays hl hr.1.1 hr.1.2 h1 (fun x hx => hb.same (hlt x (by simp [hx]))) (fun x hx => hsp x (by simp [hx])))
   (trodAll_stays hl hb h2 (fun x hx => hlt x (by simp [hx])) hr.2 (fun x hx => hsp x (by simp [hx])))
theorem Tryz.laidOut : laidOutB Tryz.prog = true := by kernel_rfl
/-- The library's variable MaxLen holds some number. -/
theorem Tryz.maxLen_cell {w : World} (h : w.ShapedOpen Tryz.prog) : (∃ m, w.cell? ⟨0, 0, none⟩ = some (.int .i64 m)) ∧ 0 < w.heap.size := by
 obtain ⟨m, hm⟩ := Go.Proofs.cell_of_shapedOpen_int (zero := #[.int .i64 0]) (t := 3) h (of_decide_eq_true (by kernel_rfl)) (by kernel_rfl) rfl (by kernel_rfl) (by kernel_rfl) Tryz.underlying3
 exact ⟨⟨m, hm⟩, (cell_spot hm).2⟩
theorem handed_laid {H : Type} {enc : TypeId × Value → H} {C : Checked} {os : Os} {f : FuncId} {fn : Func} {s : ChangeSpec} {conds : List PathCond} {apart fresh handsOn again : Bool} {X : World → Array Value → Prop}
 (own : ownKnob C.prog.godebug = none) (started : os.Started) (noInit : C.prog.inits.idxOf? f = none) (hfn : C.prog.funcs[f]? = some fn)
 (witness : ∃ (w : World) (tape : Tape) (i : Input), w.os = os ∧ (w.forCall tape i).Shaped C.prog ∧ i.vars = [] ∧ Input.okWide C.prog (w.forCall tape i) .any w.heap.size f i ∧
  ((s.pre enc C.prog fn conds apart (w.forCall tape i).memory i.args ∧ X (w.forCall tape i).memory i.args) ∧ sizedMet enc C.prog fn (OpenSpec.ofChange s) apart (w.forCall tape i).memory i.args) ∧ ({} : Assume).holds C.prog (lone (Frame.enter C.prog f i.args .normal) [] (w.forCall tape i)))
 (contract : ∀ (W : World) (base : Nat) (args : Array Value) (ds gs : List (DataW H)) (before : List MemPlace),
  (∀ (j : Nat) t v, fn.params[j]? = some t → args[j]? = some v → Value.okWide C.prog W .any base t v) →
  DataW.Whole enc C.prog fn.params.toList s.vars apart W args.toList ds gs before →
  (DataW.weightsEach C.prog (fn.params.toList ++ s.plain.varTypes C.prog) (ds ++ gs)).all (· ≤ reachBytes) = true → W.ShapedOpen C.prog →
  Calls C.prog f args W fun e W' => ∃ v, e = .returned v ∧ s.post enc C.prog fn apart fresh handsOn again W args v W') :
 ReturnsInHanded {} C os f .any (fun w args => (s.pre enc C.prog fn conds apart w args ∧ X w args) ∧ sizedMet enc C.prog fn (OpenSpec.ofChange s) apart w args) (s.post enc C.prog fn apart fresh handsOn again) := by
 refine returnsInHanded_of_calls own started noInit witness ?_
 intro w tape i _ hsh _ hok hpre hholds
 obtain ⟨_, _, _, fn', hfn', _, _, _, _, hval⟩ := hok
 have e : fn' = fn := Option.some.inj (hfn'.symm.trans hfn)
 subst e
 obtain ⟨⟨⟨ds, gs, before, hw, hc⟩, hx⟩, hz⟩ := hpre
 have hw' := DataW.Whole.of_heap (w' := w.forCall tape i) (by rfl) hw
 refine (contract (w.forCall tape i) w.heap.size i.args ds gs before hval hw' (hz.weights hw) hsh).mono fun e W' ⟨v, he, hp⟩ => ?_
 subst he
 exact ChangeSpec.post_blind hp
end Go.Proofs.YtocdmkilnbpkdaaGreatDoor
