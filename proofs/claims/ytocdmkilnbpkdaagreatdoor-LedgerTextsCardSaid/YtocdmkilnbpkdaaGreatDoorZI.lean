/- What look leans on. -/
import Derived.Test.YtocdmkilnbpkdaaGreatDoorZG
import Derived.Test.YtocdmkilnbpkdaaGreatDoorZV
import Derived.Test.YtocdmkilnbpkdaaGreatDoorHA
import Derived.Laws.EntriesVeiled
import Derived.OwnWalkIn
import Derived.ChangeKeysEq
import Derived.Laws.StructEq
import Derived.TacticsInMore
import Derived.Deep.DeepCutAuto
set_option linter.unusedVariables false
set_option linter.unusedSimpArgs false
namespace Go.Proofs.YtocdmkilnbpkdaaGreatDoor
open Go.RowKit
attribute [local go_sem] Oper.semAt_some

/-- Memory while a book is looked at. -/
structure LkI (w W : World) (b : Book) (a : BA) (h : Nat → Span) : Prop where
 x : Blk W w.heap.size 25 (bookCells b a)
 l : LookB W w.heap.size (w.heap.size + 1) b a h
 p : Blk W (w.heap.size + 1 + 1) 82 #[.pointer (some ⟨w.heap.size + 1, 0, none⟩)]
 e : Below w.heap.size w W
theorem LkI.keep {w W W' : World} {b : Book} {a : BA} {h : Nat → Span} {S : Nat → Prop} (i : LkI w W b a h) (hk : Keep S W W') (hS : ∀ k, S k → w.heap.size + 1 + 1 < k) : LkI w W' b a h :=
 ⟨i.x.keep hk (fun h => by have := hS _ h; omega), i.l.keep hk (fun k h => by have := hS _ h; omega) (fun h => by have := hS _ h; omega), i.p.keep hk (fun h => by have := hS _ h; omega), i.e.trans (hk.below (fun k h => by have := hS _ h; omega) i.e.size)⟩
theorem LkI.next {w W W' : World} {b : Book} {a : BA} {h : Nat → Span} (i : LkI w W b a h) (hb : Below W.heap.size W W') : LkI w W' b a h := i.keep (Keep.of_below' hb (fun _ => False)) (fun _ h => h.elim)
theorem LkI.put {w W : World} {b : Book} {a : BA} {h : Nat → Span} (i : LkI w W b a h) {x : Nat} (hx : x < 6) (s : Span) : LkI w ((W.setCell ⟨w.heap.size + 1, 2 + x * 2, none⟩ (.int .i64 s.lo)).setCell ⟨w.heap.size + 1, 2 + x * 2 + 1, none⟩ (.int .i64 s.hi)) b a (upd h x s) :=
 ⟨i.x.keep (keep_put W (w.heap.size + 1) x s) (by omega), i.l.put hx s, i.p.keep (keep_put W (w.heap.size + 1) x s) (by omega), i.e.trans ((keep_put W (w.heap.size + 1) x s).below (fun k h => by omega) i.e.size)⟩
theorem LkI.start {w : World} {b : Book} {a : BA} (hv : BookV w w.heap.size b a) : LkI w (((w.alloc (.cells #[.slice a.A1 b.steps.length a.c1, .slice a.A2 b.tallies.length a.c2] 25)).alloc (.cells #[.slice a.A1 b.steps.length a.c1, .slice a.A2 b.tallies.length a.c2, .int .i64 0, .int .i64 0, .int .i64 0, .int .i64 0, .int .i64 0, .int .i64 0, .int .i64 0, .int .i64 0, .int .i64 0, .int .i64 0, .int .i64 0, .int .i64 0] 88)).alloc (.cells #[.pointer (some ⟨w.heap.size + 1, 0, none⟩)] 82)) b a (fun _ => ⟨0, 0⟩) := by
 have hB0 : Below w.heap.size w (((w.alloc (.cells #[.slice a.A1 b.steps.length a.c1, .slice a.A2 b.tallies.length a.c2] 25)).alloc (.cells #[.slice a.A1 b.steps.length a.c1, .slice a.A2 b.tallies.length a.c2, .int .i64 0, .int .i64 0, .int .i64 0, .int .i64 0, .int .i64 0, .int .i64 0, .int .i64 0, .int .i64 0, .int .i64 0, .int .i64 0, .int .i64 0, .int .i64 0] 88)).alloc (.cells #[.pointer (some ⟨w.heap.size + 1, 0, none⟩)] 82)) := below3 _ _ _
 exact ⟨(Blk.made.alloc _).alloc _, ⟨hv.below hB0, by omega, (Blk.made' (by simp)).alloc _⟩, Blk.made' (by simp), hB0⟩
/-- Where the first loop is: the hands of the first j steps are all there can be. -/
def allTo (j : Nat) : Nat → Span := fun i => if i < j then ⟨0, 99⟩ else ⟨0, 0⟩
theorem allTo_zero : allTo 0 = fun _ => ⟨0, 0⟩ := rfl
theorem allTo_succ (j : Nat) : upd (allTo j) j ⟨0, 99⟩ = allTo (j + 1) := by
 funext i
 by_cases e : i = j
 · rw [e, upd_at, allTo, if_pos (by omega)]
 · rw [upd_ne _ _ e, allTo, allTo]
   by_cases h : i < j
   · rw [if_pos h, if_pos (by omega)]
   · rw [if_neg h, if_neg (by omega)]
theorem bit_test {but : Nat} (hb : but < 64) (j : Nat) : (bits BinOp.and .i64 ((but : Int) / 2 ^ min j 64) 1 == 0) = !but.testBit j := by
 have h : ∀ m : Fin 64, ∀ k : Fin 6, (bits BinOp.and .i64 (((m : Nat) : Int) / 2 ^ (k : Nat)) 1 == 0) = !(m : Nat).testBit (k : Nat) := of_decide_eq_true (by kernel_rfl)
 by_cases hj : j < 6
 · have := h ⟨but, hb⟩ ⟨j, hj⟩
   rw [show min j 64 = j by omega]; exact this
 · have h1 : (but : Int) / 2 ^ min j 64 = 0 := by
    refine Int.ediv_eq_zero_of_lt (by omega) ?_
    have : (2 : Nat) ^ 6 ≤ 2 ^ min j 64 := Nat.pow_le_pow_right (by omega) (by omega)
    have h2 : ((2 : Nat) ^ min j 64 : Nat) = ((2 : Int) ^ min j 64) := by simp
    omega
   have h2 : but.testBit j = false := Nat.testBit_lt_two_pow (Nat.lt_of_lt_of_le hb (by have : (2 : Nat) ^ 6 ≤ 2 ^ j := Nat.pow_le_pow_right (by omega) (by omega); omega))
   rw [h1, h2]; rfl
theorem allTo_all (b : Book) (but : Nat → Bool) : allTo b.steps.length = tallC b but 0 := rfl

/-- What lies in cells is no mark's. -/
theorem marks_cell {B : Nat} {ds : List Deferred} {w w' : World} (h : MarksOk B ds w) (hk : Keep (fun k => ({ target := .collected k, args := #[] } : Deferred) ∈ ds) w w') {b o : Nat} {v : Value} (hc : w.cell? ⟨b, o, none⟩ = some v) : w'.cell? ⟨b, o, none⟩ = some v := by
 refine (hk.cell (cell_lt hc) (fun hm => ?_)).trans hc
 have key : ∀ {ds : List Deferred}, MarksOk B ds w → ∀ d ∈ ds, d = ({ target := .collected b, args := #[] } : Deferred) → w.heap[b]? = some (.deferred (some [])) := by
  intro ds
  induction ds with
  | nil => intro _ d hd; cases hd
  | cons d ds ih =>
   rintro ⟨⟨D, h1, h2, h3, h4⟩, h5⟩ e he he2
   rcases List.mem_cons.1 he with rfl | he
   · rw [h2] at he2; cases he2; exact h3
   · exact ih h5 e he he2
 have hb := key h _ hm rfl
 simp [World.cell?, hb] at hc
theorem MarksOk.keepO {B : Nat} {S : Nat → Prop} {w w' : World} (hk : Keep S w w') (hS : ∀ k, S k → w.heap[k]? ≠ some (.deferred (some []))) : ∀ {ds : List Deferred}, MarksOk B ds w → MarksOk B ds w'
 | [], _ => trivial
 | d :: ds, ⟨⟨D, h1, h2, h3, h4⟩, h5⟩ => ⟨⟨D, h1, h2, (hk.block D (Array.getElem?_eq_some_iff.1 h3).1 (fun hs => hS D hs h3)).trans h3, h4⟩, h5.keepO hk hS⟩
theorem MarksOk.ge {B : Nat} {w : World} : ∀ {ds : List Deferred} {D : Nat}, MarksOk B ds w → ({ target := .collected D, args := #[] } : Deferred) ∈ ds → B ≤ D
 | d :: ds, D, ⟨⟨D', h1, h2, h3, h4⟩, h5⟩, hm => by
  rcases List.mem_cons.1 hm with e | hm
  · rw [h2] at e
    have e' : D = D' := by injection e with e1 e2; injection e1
    rw [e']; exact h1
  · exact h5.ge hm
theorem Blk.not_mark {w : World} {g : Nat} {T : TypeId} {vs : Array Value} (h : Blk w g T vs) : w.heap[g]? ≠ some (.deferred (some [])) := by
 rw [show w.heap[g]? = _ from h]; intro e; cases e
theorem least_of {p : Nat → Prop} : ∀ m, p m → ∃ k, p k ∧ ∀ j, p j → k ≤ j := by
 intro m
 induction m using Nat.strongRecOn with
 | _ m ih =>
  intro hm
  by_cases h : ∃ j, j < m ∧ p j
  · obtain ⟨j, hj, hp⟩ := h
    exact ih j hj hp
  · exact ⟨m, hm, fun j hj => Nat.le_of_not_lt fun hl => h ⟨j, hl, hj⟩⟩
open Classical in
/-- A loop that goes on as long as a number falls; the number is no part of the state. -/
theorem wp_loop_g {P : Program} {c : Code} {Q : Exit → Act → World → Prop} {a : Act} {w : World} (I : Nat → Act → World → Prop) (n : Nat) (h0 : I n a w)
 (round : ∀ m a w, I m a w → c.wp P (Exit.then (fun a' w' => ∃ m', m' < m ∧ I m' a' w') Q) a w) : (Code.loop c).wp P Q a w := by
 have key : ∀ a w, (∃ m, I m a w) → ∃ k, I k a w ∧ ∀ j, I j a w → k ≤ j := fun a w ⟨m, hm⟩ => least_of m hm
 refine wp_loop (fun a w => ∃ m, I m a w) (fun a w => if h : ∃ m, I m a w then Classical.choose (key a w h) else 0) ⟨n, h0⟩ (fun a w hI => ?_)
 have hs := Classical.choose_spec (key a w hI)
 refine wp_mono (round _ a w hs.1) ?_
 intro e a' w' h
 cases e with
 | normal =>
  obtain ⟨m', hlt, hI'⟩ := h
  refine ⟨⟨m', hI'⟩, ?_⟩
  have h1 : ∃ m, I m a' w' := ⟨m', hI'⟩
  have hs' := Classical.choose_spec (key a' w' h1)
  simp only [dif_pos h1, dif_pos hI]
  exact Nat.lt_of_le_of_lt (hs'.2 m' hI') hlt
 | ret => exact h
 | exit id => exact h
 | goto t => exact h
 | panic ch => exact h
 | outgrown => exact h
abbrev spansCells (h : Nat → Span) : Array Value :=
 #[.int .i64 (h 0).lo, .int .i64 (h 0).hi, .int .i64 (h 1).lo, .int .i64 (h 1).hi, .int .i64 (h 2).lo, .int .i64 (h 2).hi, .int .i64 (h 3).lo, .int .i64 (h 3).hi, .int .i64 (h 4).lo, .int .i64 (h 4).hi, .int .i64 (h 5).lo, .int .i64 (h 5).hi]
def spanB (a b : Span) : Bool := a.lo == b.lo && a.hi == b.hi
theorem spanB_iff (a b : Span) : spanB a b = true ↔ a = b := by
 cases a; cases b; simp [spanB]
def spansB (h h' : Nat → Span) : Bool := spanB (h 0) (h' 0) && (spanB (h 1) (h' 1) && (spanB (h 2) (h' 2) && (spanB (h 3) (h' 3) && (spanB (h 4) (h' 4) && spanB (h 5) (h' 5)))))
theorem spansB_iff (h h' : Nat → Span) : spansB h h' = true ↔ ∀ i, i < 6 → h i = h' i := by
 simp only [spansB, Bool.and_eq_true, spanB_iff]
 constructor
 · rintro ⟨a, b, c, d, e, f⟩ i hi
   match i, hi with
   | 0, _ => exact a
   | 1, _ => exact b
   | 2, _ => exact c
   | 3, _ => exact d
   | 4, _ => exact e
   | 5, _ => exact f
 · intro h; exact ⟨h 0 (by omega), h 1 (by omega), h 2 (by omega), h 3 (by omega), h 4 (by omega), h 5 (by omega)⟩
set_option maxRecDepth 100000 in
theorem span_equal (w : World) (d : Nat) (a b c e : Int) : (Op.equalIn (d + 2) 30 (.agg #[.int .i64 a, .int .i64 b]) (.agg #[.int .i64 c, .int .i64 e])).run Tryz.prog w = .ok (a == c && b == e) w := by
 go_simp
 by_cases h1 : a = c
 · by_cases h2 : b = e
   · simp [h1, h2]
   · simp [h1, h2]
 · simp [h1]
set_option maxRecDepth 100000 in
theorem part_span (w : World) (xs : Array Value) (k : Nat) (u v : Value) (h1 : xs[k]? = some u) (h2 : xs[k + 1]? = some v) : (part 30 xs k).run Tryz.prog w = .ok (.agg #[u, v]) w := by
 go_simp
 have hz := (Array.getElem?_eq_some_iff.1 h2).1
 refine Array.ext (by simp; omega) (fun i h3 h4 => ?_)
 have hi : i < 2 := h4
 have e : xs[k + i]? = some (#[u, v][i]'h4) := by
  match i, hi with
  | 0, _ => exact h1
  | 1, _ => exact h2
 rw [Array.getElem_extract]
 exact (Array.getElem?_eq_some_iff.1 e).2
theorem items_step (w : World) (xs ys : Array Value) (k : Nat) (is : List Nat) (a b : Span) (hx : (part 30 xs (k * 2)).run Tryz.prog w = .ok (.agg #[.int .i64 a.lo, .int .i64 a.hi]) w) (hy : (part 30 ys (k * 2)).run Tryz.prog w = .ok (.agg #[.int .i64 b.lo, .int .i64 b.hi]) w) :
 (Op.eqItems 9999 30 2 xs ys (k :: is)).run Tryz.prog w = if spanB a b then (Op.eqItems 9999 30 2 xs ys is).run Tryz.prog w else .ok false w := by
 simp only [Op.eqItems, Sem.run_bind, hx, hy, Result.andThen_ok, span_equal w 9997 a.lo a.hi b.lo b.hi]
 unfold spanB
 cases (a.lo == b.lo && a.hi == b.hi) <;> rfl
set_option maxRecDepth 100000 in
theorem spans_equal (w : World) (h h' : Nat → Span) : (Op.equalIn 10000 86 (.agg (spansCells h)) (.agg (spansCells h'))).run Tryz.prog w = .ok (spansB h h') w := by
 obtain ⟨i, hi⟩ : ∃ i, Tryz.prog.info? 30 = some i := Option.isSome_iff_exists.1 (by kernel_rfl)
 have hc : Tryz.prog.cellsOf 30 = 2 := by kernel_rfl
 rw [run_equalIn_array w 9999 _ _ (n := 6) (e := 30) (by kernel_rfl) hi, hc]
 simp only [List.range, List.range.loop]
 rw [items_step w _ _ 0 _ (h 0) (h' 0) (part_span w _ _ _ _ rfl rfl) (part_span w _ _ _ _ rfl rfl), items_step w _ _ 1 _ (h 1) (h' 1) (part_span w _ _ _ _ rfl rfl) (part_span w _ _ _ _ rfl rfl), items_step w _ _ 2 _ (h 2) (h' 2) (part_span w _ _ _ _ rfl rfl) (part_span w _ _ _ _ rfl rfl),
  items_step w _ _ 3 _ (h 3) (h' 3) (part_span w _ _ _ _ rfl rfl) (part_span w _ _ _ _ rfl rfl), items_step w _ _ 4 _ (h 4) (h' 4) (part_span w _ _ _ _ rfl rfl) (part_span w _ _ _ _ rfl rfl), items_step w _ _ 5 _ (h 5) (h' 5) (part_span w _ _ _ _ rfl rfl) (part_span w _ _ _ _ rfl rfl)]
 have e : (Op.eqItems 9999 30 2 (spansCells h) (spansCells h') []).run Tryz.prog w = .ok true w := rfl
 rw [e]
 unfold spansB
 cases spanB (h 0) (h' 0) <;> cases spanB (h 1) (h' 1) <;> cases spanB (h 2) (h' 2) <;> cases spanB (h 3) (h' 3) <;> cases spanB (h 4) (h' 4) <;> cases spanB (h 5) (h' 5) <;> rfl
/-- How wide all hands are. -/
def wd (s : Span) : Nat := (s.hi - s.lo).toNat
def wid (h : Nat → Span) : Nat := wd (h 0) + wd (h 1) + wd (h 2) + wd (h 3) + wd (h 4) + wd (h 5)
theorem wid_lt {h h' : Nat → Span} (hn : Nar h' h) (he : ∀ i, i < 6 → (h' i).lo ≤ (h' i).hi) (hd : ∃ i, i < 6 ∧ h' i ≠ h i) : wid h' < wid h := by
 have key : ∀ i, wd (h' i) ≤ wd (h i) := fun i => by have := hn i; unfold wd; omega
 obtain ⟨i, hi, hne⟩ := hd
 have hlt : wd (h' i) < wd (h i) := by
  have h1 := hn i
  have h2 := he i hi
  have : (h' i).lo ≠ (h i).lo ∨ (h' i).hi ≠ (h i).hi := Classical.byContradiction fun hc => hne (by
   have e1 : (h' i).lo = (h i).lo := Classical.byContradiction fun e => hc (.inl e)
   have e2 : (h' i).hi = (h i).hi := Classical.byContradiction fun e => hc (.inr e)
   cases ha : h' i; cases hb : h i
   rw [ha, hb] at e1 e2
   simp only at e1 e2
   rw [e1, e2])
  unfold wd; omega
 have k0 := key 0
 have k1 := key 1
 have k2 := key 2
 have k3 := key 3
 have k4 := key 4
 have k5 := key 5
 unfold wid
 match i, hi with
 | 0, _ => omega
 | 1, _ => omega
 | 2, _ => omega
 | 3, _ => omega
 | 4, _ => omega
 | 5, _ => omega
/-- Behind the last step there is nothing. -/
def Out6 (T : Way) (h : Nat → Span) : Prop := ∀ i, T.n ≤ i → h i = ⟨0, 0⟩
theorem out6_step {T : Way} (ht : T.Ok) {h : Nat → Span} {i : Nat} (hi : i < T.n) (ho : Out6 T h) : Out6 T (T.stepW h i) := by
 unfold Way.stepW
 split
 · exact ho
 · have key : ∀ (l : List Nat) (s : (Nat → Span) × Span), (∀ k ∈ l, k < T.n) → Out6 T s.1 → Out6 T (l.foldl (T.kidF i) s).1 := by
    intro l
    induction l with
    | nil => intro s _ h; exact h
    | cons k l ih =>
     intro s hl hs
     refine ih _ (fun x hx => hl x (List.mem_cons_of_mem _ hx)) (fun j hj => ?_)
     have := hl k (List.mem_cons_self ..)
     show upd s.1 k _ j = _
     rw [upd_ne _ _ (by omega)]; exact hs j hj
   refine key _ _ (fun k hk => (kid_gt ht hk).2) (fun j hj => ?_)
   show upd h i _ j = _
   rw [upd_ne _ _ (by omega)]; exact ho j hj
/-- What a pass has made of the hands, of the first j steps. -/
def passTo (T : Way) (h : Nat → Span) (j : Nat) : Nat → Span := (List.range j).foldl T.stepW h
theorem passTo_zero (T : Way) (h : Nat → Span) : passTo T h 0 = h := rfl
theorem passTo_succ (T : Way) (h : Nat → Span) (j : Nat) : passTo T h (j + 1) = T.stepW (passTo T h j) j := by simp [passTo, List.range_succ]
theorem passTo_all (T : Way) (h : Nat → Span) : passTo T h T.n = T.passW h := rfl
theorem out6_to {T : Way} (ht : T.Ok) {h : Nat → Span} (ho : Out6 T h) : ∀ j, j ≤ T.n → Out6 T (passTo T h j)
 | 0, _ => ho
 | j + 1, hj => by rw [passTo_succ]; exact out6_step ht (by omega) (out6_to ht ho j (by omega))
theorem eq_of_six {T : Way} (ht : T.Ok) {h h' : Nat → Span} (ho : Out6 T h) (ho' : Out6 T h') (hs : spansB h h' = true) : h = h' := by
 funext i
 by_cases hi : i < 6
 · exact (spansB_iff h h').1 hs i hi
 · have := ht.six
   rw [ho i (by omega), ho' i (by omega)]
/-- How looking goes on: the hands, those of the pass before, a number that falls. -/
structure LookS (T : Way) (c h was : Nat → Span) (m : Nat) : Prop where
 r : Reach T c h
 o : Out6 T h
 ow : Out6 T was
 st : (was = fun _ => ⟨0, 0⟩) ∨ (T.passW was = h ∧ ∀ i, i < T.n → (h i).lo ≤ (h i).hi)
 m : m = 2 * wid h + (if spansB was h then 0 else 1)
theorem LookS.start {T : Way} {c : Nat → Span} (ho : Out6 T c) : ∃ m, LookS T c c (fun _ => ⟨0, 0⟩) m := ⟨_, .base, ho, fun _ _ => rfl, .inl rfl, rfl⟩
theorem LookS.done {T : Way} (ht : T.Ok) {c h was : Nat → Span} {m : Nat} (s : LookS T c h was m) (he : spansB was h = true) : Looked T c h true := by
 have e := eq_of_six ht s.ow s.o he
 refine ⟨s.r, fun _ => ?_, fun h => by cases h⟩
 rcases s.st with h1 | ⟨h1, h2⟩
 · have hz : ∀ i, h i = ⟨0, 0⟩ := fun i => by rw [← e, h1]
   exact ⟨fun i _ => by rw [hz i]; exact Int.le_refl _, .inr fun i _ => hz i⟩
 · exact ⟨h2, .inl (by rw [e] at h1; exact h1)⟩
theorem LookS.none {T : Way} {c h was : Nat → Span} {m : Nat} (s : LookS T c h was m) {i : Nat} (hi : i < T.n) (he : (T.passW h i).hi < (T.passW h i).lo) : Looked T c (T.passW h) false :=
 ⟨.pass s.r, (fun h => by cases h), fun _ => ⟨i, hi, he⟩⟩
theorem LookS.next {T : Way} (ht : T.Ok) {c h was : Nat → Span} {m : Nat} (s : LookS T c h was m) (hne : spansB was h = false) (he : ∀ i, i < T.n → (T.passW h i).lo ≤ (T.passW h i).hi) : ∃ m', m' < m ∧ LookS T c (T.passW h) h m' := by
 have ho : Out6 T (T.passW h) := by rw [← passTo_all]; exact out6_to ht s.o T.n (Nat.le_refl _)
 refine ⟨_, ?_, .pass s.r, ho, s.o, .inr ⟨rfl, he⟩, rfl⟩
 have hm := s.m
 rw [hne] at hm
 rw [hm]
 have he6 : ∀ i, i < 6 → (T.passW h i).lo ≤ (T.passW h i).hi := fun i _ => by
  by_cases hi : i < T.n
  · exact he i hi
  · rw [ho i (by omega)]; exact Int.le_refl _
 cases hs : spansB h (T.passW h) with
 | true =>
  have e := eq_of_six ht s.o ho hs
  rw [← e]; simp
 | false =>
  have hd : ∃ i, i < 6 ∧ T.passW h i ≠ h i := Classical.byContradiction fun hc => by
   have : spansB h (T.passW h) = true := (spansB_iff _ _).2 fun i hi => Classical.byContradiction fun hn => hc ⟨i, hi, fun e => hn e.symm⟩
   rw [hs] at this; cases this
  have := wid_lt (nar_pass T h) he6 hd
  simp; omega
/-- A block made in the course of a drawn region. -/
structure MadeB (W : World) (B g cp : Nat) (T : TypeId) (vs : Array Value) : Prop where
 k : Blk W g T vs
 ge : B ≤ g
theorem MadeB.next {W W' : World} {B g cp : Nat} {T : TypeId} {vs : Array Value} (h : MadeB W B g cp T vs) (hb : Below W.heap.size W W') : MadeB W' B g cp T vs := ⟨h.k.next hb, h.ge⟩
/-- What a pass does with a step, of the first steps behind it. -/
def kidTo (T : Way) (h : Nat → Span) (i : Nat) (pre : List Nat) : (Nat → Span) × Span := pre.foldl (T.kidF i) (T.stepS h i)
theorem kidTo_nil (T : Way) (h : Nat → Span) (i : Nat) : kidTo T h i [] = (upd h i (both (h i) (plusW (T.outW h i) ⟨0, T.loss i⟩)), T.outW h i) := rfl
theorem kidTo_snoc (T : Way) (h : Nat → Span) (i k : Nat) (pre : List Nat) : kidTo T h i (pre ++ [k]) =
 (upd (kidTo T h i pre).1 k (both ((kidTo T h i pre).1 k) (lessW ((kidTo T h i pre).1 i) (plusW ⟨wrap64 ((kidTo T h i pre).2.lo - ((kidTo T h i pre).1 k).lo), wrap64 ((kidTo T h i pre).2.hi - ((kidTo T h i pre).1 k).hi)⟩ ⟨0, T.loss i⟩))),
  plusW ⟨wrap64 ((kidTo T h i pre).2.lo - ((kidTo T h i pre).1 k).lo), wrap64 ((kidTo T h i pre).2.hi - ((kidTo T h i pre).1 k).hi)⟩ (both ((kidTo T h i pre).1 k) (lessW ((kidTo T h i pre).1 i) (plusW ⟨wrap64 ((kidTo T h i pre).2.lo - ((kidTo T h i pre).1 k).lo), wrap64 ((kidTo T h i pre).2.hi - ((kidTo T h i pre).1 k).hi)⟩ ⟨0, T.loss i⟩)))) := by
 rw [kidTo, List.foldl_append]; rfl
theorem passTo_kids {T : Way} {h : Nat → Span} {i : Nat} (hk : (!(T.kids i).isEmpty) = true) : passTo T h (i + 1) = (kidTo T (passTo T h i) i (T.kids i)).1 := by
 rw [passTo_succ]
 unfold Way.stepW
 rw [if_neg (by simpa using hk)]; rfl
theorem passTo_none {T : Way} {h : Nat → Span} {i : Nat} (hk : (!(T.kids i).isEmpty) = false) : passTo T h (i + 1) = passTo T h i := by
 rw [passTo_succ]
 unfold Way.stepW
 rw [if_pos (by simpa using hk)]
theorem step_none {T : Way} {h : Nat → Span} {i : Nat} (hk : (!(T.kids i).isEmpty) = false) : T.stepW h i = h := by
 unfold Way.stepW
 rw [if_pos (by simpa using hk)]
theorem step_some {T : Way} {h : Nat → Span} {i : Nat} (hk : (!(T.kids i).isEmpty) = true) : T.stepW h i = ((T.kids i).foldl (T.kidF i) (T.stepS h i)).1 := by
 unfold Way.stepW
 rw [if_neg (by simpa using hk)]
theorem kid_snoc {T : Way} {i k : Nat} {l : List Nat} (s : (Nat → Span) × Span) : (l ++ [k]).foldl (T.kidF i) s = T.kidF i (l.foldl (T.kidF i) s) k := by simp
end Go.Proofs.YtocdmkilnbpkdaaGreatDoor
