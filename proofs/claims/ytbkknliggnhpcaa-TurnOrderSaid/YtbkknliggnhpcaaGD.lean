/- The map from what is of a hold to the hours at which its lots turn: every entry says the same. -/
import Derived.Test.YtbkknliggnhpcaaGB
import Derived.Maps.OwnOps
import Derived.DeepKeys4
import Derived.Test.YtbkknliggnhpcaaGA
import Derived.Test.YtbkknliggnhpcaaGC
import Derived.Laws.Shifts
import Derived.WalkMore
import Derived.ProofKit
import Derived.OpenShut
import Derived.Deep.Slices
import Derived.Deep.Strs
import Derived.Lib.SmallJoins
import Derived.Carry
import Derived.ChangeSame
import Derived.Below
set_option linter.unusedVariables false
set_option linter.unusedSimpArgs false
namespace Go.Proofs.Ytbkknliggnhpcaa
open Go.RowKit

def wfI (x : Int) : Prop := (Lit.int .i64 x).wf = true
theorem wfI_iff (x : Int) : wfI x ↔ -9223372036854775808 ≤ x ∧ x ≤ 9223372036854775807 := by
  unfold wfI
  constructor
  · intro h
    have h' : IntKind.i64.min ≤ x ∧ x ≤ 9223372036854775807 := by simpa [Lit.wf, IntKind.signed, IntKind.bits] using h
    have e : IntKind.i64.min = -9223372036854775808 := by decide
    omega
  · intro h; exact WalkArith.wf_i64 h

structure St where
  hold : Int
  warm : Int
  greens : List Int
  there : Int
deriving DecidableEq, Inhabited

abbrev iv (x : Int) : Value := .int .i64 x
def lotsVal (l : List Int) : Value := .agg #[iv (nth l 0), iv (nth l 1), iv (nth l 2), iv (nth l 3), iv (nth l 4)]
def stVal (s : St) : Value := .agg #[iv s.hold, iv s.warm, iv (nth s.greens 0), iv (nth s.greens 1), iv (nth s.greens 2), iv (nth s.greens 3), iv (nth s.greens 4), iv s.there]
structure St.Ok (s : St) : Prop where
  len : s.greens.length = 5
  wh : wfI s.hold
  ww : wfI s.warm
  wg : ∀ i, wfI (nth s.greens i)
  wt : wfI s.there

theorem five {l m : List Int} (hl : l.length = 5) (hm : m.length = 5) (h0 : nth l 0 = nth m 0) (h1 : nth l 1 = nth m 1) (h2 : nth l 2 = nth m 2) (h3 : nth l 3 = nth m 3) (h4 : nth l 4 = nth m 4) : l = m := by
  match l, m, hl, hm with
  | [a, b, c, d, e], [a', b', c', d', e'], _, _ => simp [nth] at *; exact ⟨h0, h1, h2, h3, h4⟩
theorem stVal_inj {s t : St} (hs : s.greens.length = 5) (ht : t.greens.length = 5) (h : stVal s = stVal t) : s = t := by
  obtain ⟨a, b, c, d⟩ := s
  obtain ⟨a', b', c', d'⟩ := t
  simp only [stVal, iv, Value.agg.injEq, Array.mk.injEq, List.cons.injEq, Value.int.injEq, true_and, and_true] at h
  obtain ⟨rfl, rfl, h0, h1, h2, h3, h4, rfl⟩ := h
  obtain rfl : c = c' := five hs ht h0 h1 h2 h3 h4
  rfl

theorem Try.laidOut : laidOutB Try.prog = true := by kernel_rfl
theorem Try.underlyingSt : Try.prog.underlying 110 = Try.prog.underlying 110 := rfl
theorem Try.rowSt : (110 : TypeId) < Try.prog.types.size := of_decide_eq_true (by kernel_rfl)
theorem Try.wideSt : (match Try.prog.underlying 110 with | some (.array _ _) | some (.struct _) => true | _ => false) = true := by kernel_rfl
set_option maxRecDepth 100000 in
theorem Try.keySt : WideMaps.KeyLaw Try.prog 110 := deep_law_laid Try.laidOut (m := 3) (by omega) Try.rowSt (by kernel_rfl) Try.wideSt
theorem Try.keyedSt : Maps.Keyed Try.prog 110 := Maps.Keyed.of_law Try.keySt

theorem Try.cellsSt : Try.prog.cellsOf 110 = 8 := by kernel_rfl
theorem Try.cellsLots : Try.prog.cellsOf 108 = 5 := by kernel_rfl
theorem Try.cellsInt : Try.prog.cellsOf 3 = 1 := by kernel_rfl
theorem Try.sizeTypes : ∃ d, Try.prog.types.size + 1 = d + 3 := ⟨Try.prog.types.size - 2, by have h : 3 ≤ Try.prog.types.size := of_decide_eq_true (by kernel_rfl); omega⟩
theorem Try.keyTypeSt : Try.prog.keyType 110 = true := by kernel_rfl
theorem lits_int (d : Nat) {x : Int} (h : wfI x) : Try.prog.keyLits (d + 1) 3 [iv x] = some [.int .i64 x] := by
  have h' : (Lit.int .i64 x).wf = true := h
  unfold Program.keyLits
  simp [Try.underlying3, h']
theorem lits_lots (d : Nat) {a b c e f : Int} (ha : wfI a) (hb : wfI b) (hc : wfI c) (he : wfI e) (hf : wfI f) :
    Try.prog.keyLits (d + 2) 108 [iv a, iv b, iv c, iv e, iv f] = some [.int .i64 a, .int .i64 b, .int .i64 c, .int .i64 e, .int .i64 f] := by
  have e5 : List.range 5 = [0, 1, 2, 3, 4] := by decide
  unfold Program.keyLits
  rw [Try.underlying108]
  simp only [Try.cellsLots, Try.cellsInt, e5, List.length_cons, List.length_nil, List.mapM_cons, List.mapM_nil]
  simp [lits_int d ha, lits_int d hb, lits_int d hc, lits_int d he, lits_int d hf]
theorem stVal_key (s : St) (h : s.Ok) : ∃ l, keyOf Try.prog 110 (stVal s) = some l := by
  obtain ⟨d, hd⟩ := Try.sizeTypes
  have hu := Try.underlying110
  have hf : (stVal s).formed Try.prog 110 = true := by simp [stVal, Value.formed, hu, Try.cellsSt]
  have hl : ∃ ls, Try.prog.keyLits (d + 3) 110 (stVal s).cells.toList = some ls := by
    refine ⟨[.int .i64 s.hold, .int .i64 s.warm, .int .i64 (nth s.greens 0), .int .i64 (nth s.greens 1), .int .i64 (nth s.greens 2), .int .i64 (nth s.greens 3), .int .i64 (nth s.greens 4), .int .i64 s.there], ?_⟩
    unfold Program.keyLits
    rw [hu]
    simp only [stVal, Value.cells, Try.cellsSt, Try.cellsLots, Try.cellsInt, List.length_cons, List.length_nil, List.mapM_cons, List.mapM_nil]
    simp [lits_int (d + 1) h.wh, lits_int (d + 1) h.ww, lits_int (d + 1) h.wt, lits_lots d (h.wg 0) (h.wg 1) (h.wg 2) (h.wg 3) (h.wg 4), Try.cellsLots, Try.cellsInt]
  obtain ⟨ls, hls⟩ := hl
  refine ⟨.string (keyBytes ls), ?_⟩
  unfold keyOf
  rw [hu]
  simp only [Try.keyTypeSt, hf, hd, hls]
  simp

/-- Block b is a map of which every entry says V. -/
def Known (w : World) (b : Nat) (V : St → List Int) : Prop :=
  ∃ es clock, w.heap[b]? = some (.map es clock) ∧ ∀ e ∈ es.toList, ∃ s : St, s.Ok ∧ e.key = stVal s ∧ e.val = lotsVal (V s)

section
variable {w w' : World} {b : Nat} {V : St → List Int}
theorem Known.lt (h : Known w b V) : b < w.heap.size := by
  obtain ⟨es, c, hb, _⟩ := h
  exact (Array.getElem?_eq_some_iff.1 hb).1
theorem Known.block (h : Known w b V) (hk : w'.heap[b]? = w.heap[b]?) : Known w' b V := by
  obtain ⟨es, c, hb, he⟩ := h
  exact ⟨es, c, hk.trans hb, he⟩
theorem known_made (w : World) (V : St → List Int) : Known (w.alloc (.map #[] 0)) w.heap.size V := ⟨#[], 0, (MapKept.heap_alloc w _).1, by simp⟩

theorem run_zeroLots (w : World) : (zeroValue 108).run Try.prog w = .ok (lotsVal [0, 0, 0, 0, 0]) w := by kernel_rfl

theorem entries_keyed {es : Array MapEntry} (he : ∀ e ∈ es.toList, ∃ s : St, s.Ok ∧ e.key = stVal s ∧ e.val = lotsVal (V s)) : ∀ e ∈ es.toList, ∃ l, keyOf Try.prog 110 e.key = some l := fun e hm => by
  obtain ⟨s, h1, h2, _⟩ := he e hm
  rw [h2]
  exact stVal_key s h1

theorem Known.look (h : Known w b V) (s : St) (hs : s.Ok) : ∃ l ok, (∀ w', w'.heap[b]? = w.heap[b]? → (Instr.lookup 141 (.map (some b)) (stVal s) true).run Try.prog w' = .ok (.tuple #[lotsVal l, .bool ok]) w') ∧ (ok = true → lotsVal l = lotsVal (V s)) := by
  obtain ⟨es, c, hb, he⟩ := h
  obtain ⟨kl, hkl⟩ := stVal_key s hs
  have K := Try.keyedSt
  by_cases hex : ∃ e ∈ es.toList, e.key = stVal s
  · refine ⟨V s, true, fun w' hw' => ?_, fun _ => rfl⟩
    rcases K.find w' hkl es.toList (entries_keyed he) with ⟨_, h2⟩ | ⟨j, e, h1, h2, h3⟩
    · obtain ⟨e, hm, hk⟩ := hex
      exact absurd hk (h2 e hm)
    · have hm : e ∈ es.toList := List.mem_of_getElem? h2
      obtain ⟨s', g1, g2, g3⟩ := he e hm
      have hss : s' = s := stVal_inj g1.len hs.len (g2.symm.trans h3)
      subst hss
      have hck := K.check w' es.isEmpty hkl
      simp [Instr.lookup, run_underlying Try.underlying141, MapKept.run_getObj_map (hw'.trans hb), hck, h1, g3, Result.andThen]
  · refine ⟨[0, 0, 0, 0, 0], false, fun w' hw' => ?_, fun h => by cases h⟩
    rcases K.find w' hkl es.toList (entries_keyed he) with ⟨h1, h2⟩ | ⟨j, e, h1, h2, h3⟩
    · have hck := K.check w' es.isEmpty hkl
      simp [Instr.lookup, run_underlying Try.underlying141, MapKept.run_getObj_map (hw'.trans hb), hck, h1, run_zeroLots, Result.andThen]
      rfl
    · exact absurd ⟨e, List.mem_of_getElem? h2, h3⟩ hex

theorem Known.store (h : Known w b V) (s : St) (hs : s.Ok) : ∃ w', (Instr.mapUpdate 141 (.map (some b)) (stVal s) (lotsVal (V s))).run Try.prog w = .ok () w' ∧ Known w' b V ∧ w.grownBy w' (some b) := by
  obtain ⟨es, c, hb, he⟩ := h
  obtain ⟨kl, hkl⟩ := stVal_key s hs
  have K := Try.keyedSt
  have hck := K.check w false hkl
  rcases K.find w hkl es.toList (entries_keyed he) with ⟨h1, h2⟩ | ⟨j, e, h1, h2, h3⟩
  · refine ⟨ChangeMaps.setBlock w b (.map (es.push { key := stVal s, val := lotsVal (V s), born := c }) (c + 1)), ?_, ⟨_, _, ChangeMaps.heap_setBlock_same hb _, ?_⟩, ⟨rfl, rfl, rfl, by simp [ChangeMaps.setBlock], fun i _ hi => ChangeMaps.heap_setBlock_other hb _ (fun e => hi (by rw [e]))⟩⟩
    · simp [Instr.mapUpdate, run_underlying Try.underlying141, MapKept.run_getObj_map hb, MapKept.run_setObj_map _ hb, hck, h1, ChangeMaps.setBlock, Result.andThen]
    · intro e hm
      simp only [Array.toList_push, List.mem_append, List.mem_singleton] at hm
      rcases hm with hm | rfl
      · exact he e hm
      · exact ⟨s, hs, rfl, rfl⟩
  · have hst := K.stays w hkl
    refine ⟨ChangeMaps.setBlock w b (.map (es.modify j fun e => { e with key := stVal s, val := lotsVal (V s) }) c), ?_, ⟨_, _, ChangeMaps.heap_setBlock_same hb _, ?_⟩, ⟨rfl, rfl, rfl, by simp [ChangeMaps.setBlock], fun i _ hi => ChangeMaps.heap_setBlock_other hb _ (fun e => hi (by rw [e]))⟩⟩
    · have h2' : es[j]? = some e := by simpa using h2
      simp [Instr.mapUpdate, run_underlying Try.underlying141, MapKept.run_getObj_map hb, MapKept.run_setObj_map _ hb, hck, h1, h2', h3, hst, ChangeMaps.setBlock, Result.andThen]
    · intro e' hm
      obtain ⟨i, hi⟩ := List.mem_iff_getElem?.1 hm
      have hi' : (es.modify j fun e => { e with key := stVal s, val := lotsVal (V s) })[i]? = some e' := by rw [← Array.getElem?_toList]; exact hi
      rw [Array.getElem?_modify] at hi'
      split at hi'
      · obtain ⟨e0, _, rfl⟩ := Option.map_eq_some_iff.1 hi'
        exact ⟨s, hs, rfl, rfl⟩
      · exact he e' (List.mem_of_getElem? (by simpa using hi'))
end
end Go.Proofs.Ytbkknliggnhpcaa
/- The plain law of chapter 07, the program's side: the hours at which lots turn, for arrays and bits. -/
namespace Go.Proofs.Ytbkknliggnhpcaa

def setL (m n : Nat) : List Nat := (List.range n).filter fun i => m.testBit i
theorem setL_mem {m n i : Nat} : (setL m n).contains i = (decide (i < n) && m.testBit i) := by
  rw [Bool.eq_iff_iff]; simp [setL]
def timesP (c : Cargo) (l : List Nat) (warm : Int) (g : List Int) : List Int :=
  (List.range 5).map fun i => if l.contains i then outAt c l warm g (c.heat.length + 1) i else (c.heat.length : Int) + 1
def timesV (c : Cargo) (s : St) : List Int := timesP c (setL s.there.toNat c.lots.length) s.warm s.greens
theorem timesP_length (c : Cargo) (l : List Nat) (warm : Int) (g : List Int) : (timesP c l warm g).length = 5 := by simp [timesP]

section
variable {c : Cargo} {l : List Nat} {warm : Int} {g : List Int}
theorem outAt_lt (h i : Nat) : outAt c l warm g h i = (c.heat.length : Int) + 1 ∨ outAt c l warm g h i < h := by
  rw [outAt]
  split
  · rename_i k e
    have := (find_lt e).1
    exact .inr (by omega)
  · exact .inl rfl
/-- Hours at which lots turn, when those below i have been looked at in hour t. -/
def OutP (c : Cargo) (l : List Nat) (warm : Int) (g : List Int) (t i : Nat) (out : List Int) : Prop :=
  ∀ q, q < 5 → nth out q = if l.contains q then (if q < i then outAt c l warm g (t + 1) q else outAt c l warm g t q) else (c.heat.length : Int) + 1
def LeftP (c : Cargo) (l : List Nat) (warm : Int) (g : List Int) (t i : Nat) (left : List Int) : Prop :=
  ∀ q, l.contains q = true → nth left q = if q < i then takeAt c l warm t (leftL c l warm g t) q else nth (leftL c l warm g t) q
def BdP (left : List Int) : Prop := ∀ q, -100 ≤ nth left q ∧ nth left q ≤ 100
def gasP (c : Cargo) (l : List Nat) (t : Nat) (left : List Int) (i : Nat) : Int := if ((List.range i).any fun q => l.contains q && turnedB c t left q) then c.gas else 0
theorem OutP.same {t i : Nat} {out : List Int} (h : OutP c l warm g t i out) (hu : l.contains i = true → outAt c l warm g (t + 1) i = outAt c l warm g t i) : OutP c l warm g t (i + 1) out := fun q hq => by
  rw [h q hq]
  by_cases hqi : q = i
  · subst hqi
    by_cases hc : l.contains q = true
    · rw [if_pos hc, if_pos hc, if_neg (by omega), if_pos (by omega), hu hc]
    · rw [if_neg hc, if_neg hc]
  · by_cases hlt : q < i
    · rw [if_pos hlt, if_pos (show q < i + 1 by omega)]
    · rw [if_neg hlt, if_neg (show ¬ q < i + 1 by omega)]
theorem OutP.set {t i : Nat} {out : List Int} (h : OutP c l warm g t i out) (hl : out.length = 5) (hi : i < 5) (hc : l.contains i = true) {u : Int} (hu : outAt c l warm g (t + 1) i = u) : OutP c l warm g t (i + 1) (out.set i u) := fun q hq => by
  rw [nth_set (by omega)]
  by_cases hqi : q = i
  · subst hqi; rw [if_pos rfl, if_pos hc, if_pos (by omega), hu]
  · rw [if_neg hqi, h q hq]
    by_cases hlt : q < i
    · rw [if_pos hlt, if_pos (show q < i + 1 by omega)]
    · rw [if_neg hlt, if_neg (show ¬ q < i + 1 by omega)]
/-- The step at lot i in hour t: it has turned, or not. -/
theorem out_turned {t i : Nat} (ht : t ≤ c.heat.length) (h : turnedB c t (leftL c l warm g t) i = true) : outAt c l warm g (t + 1) i = min (outAt c l warm g t i) t := by
  simp only [turnedB, Bool.and_eq_true, decide_eq_true_eq] at h
  rw [outAt_step ht]
  rcases outAt_lt (c := c) (l := l) (warm := warm) (g := g) t i with e | e
  · rw [if_pos ⟨e, h.1, h.2⟩]; omega
  · rw [if_neg (fun h3 => by have := h3.1; omega)]; omega
theorem out_not {t i : Nat} (ht : t ≤ c.heat.length) (h : turnedB c t (leftL c l warm g t) i = false) : outAt c l warm g (t + 1) i = outAt c l warm g t i := by
  rw [outAt_step ht, if_neg]
  rintro ⟨_, h2, h3⟩
  simp [turnedB, h2, h3] at h
theorem OutP.next {t n : Nat} {out : List Int} (h : OutP c l warm g t n out) (hl : ∀ q, l.contains q = true → q < n) : OutP c l warm g (t + 1) 0 out := fun q hq => by
  rw [h q hq]
  by_cases hc : l.contains q = true
  · rw [if_pos hc, if_pos hc, if_pos (hl q hc), if_neg (by omega)]
  · rw [if_neg hc, if_neg hc]
theorem OutP.done {n : Nat} {out : List Int} (h : OutP c l warm g c.heat.length n out) (hl : ∀ q, l.contains q = true → q < n) (ho : out.length = 5) : out = timesP c l warm g := by
  refine nth_ext ho (timesP_length _ _ _ _) fun q hq => ?_
  rw [h q hq, timesP, nth_map_range _ hq]
  by_cases hc : l.contains q = true
  · rw [if_pos hc, if_pos hc, if_pos (hl q hc)]
  · rw [if_neg hc, if_neg hc]
theorem gasP_succ {t i : Nat} {left : List Int} : gasP c l t left (i + 1) = if (l.contains i && turnedB c t left i) then c.gas else gasP c l t left i := by
  unfold gasP
  rw [List.range_succ, List.any_append]
  simp only [List.any_cons, List.any_nil, Bool.or_false]
  generalize ((List.range i).any fun q => l.contains q && turnedB c t left q) = A
  generalize (l.contains i && turnedB c t left i) = B
  cases A <;> cases B <;> simp
theorem gasP_all {t n : Nat} {left : List Int} (hl : ∀ q, l.contains q = true → q < n) (hL : LeftP c l warm g t 0 left) : gasP c l t left n = if gasB c l t (leftL c l warm g t) then c.gas else 0 := by
  have e : ((List.range n).any fun q => l.contains q && turnedB c t left q) = gasB c l t (leftL c l warm g t) := by
    rw [Bool.eq_iff_iff]
    simp only [gasB, List.any_eq_true, List.mem_range, Bool.and_eq_true]
    have hT : ∀ q, l.contains q = true → turnedB c t left q = turnedB c t (leftL c l warm g t) q := fun q hq => by
      have := hL q hq
      rw [if_neg (by omega)] at this
      simp [turnedB, this]
    constructor
    · rintro ⟨q, _, h2, h3⟩
      exact ⟨q, by simpa using h2, (hT q h2) ▸ h3⟩
    · rintro ⟨q, h2, h3⟩
      have h2' : l.contains q = true := by simpa using h2
      exact ⟨q, hl q h2', h2', (hT q h2').symm ▸ h3⟩
  rw [gasP, e]
theorem LeftP.same {t i : Nat} {left : List Int} (h : LeftP c l warm g t i left) (hu : l.contains i = true → takeAt c l warm t (leftL c l warm g t) i = nth (leftL c l warm g t) i) : LeftP c l warm g t (i + 1) left := fun q hq => by
  rw [h q hq]
  by_cases hqi : q = i
  · subst hqi; rw [if_neg (by omega), if_pos (by omega), hu hq]
  · by_cases hlt : q < i
    · rw [if_pos hlt, if_pos (show q < i + 1 by omega)]
    · rw [if_neg hlt, if_neg (show ¬ q < i + 1 by omega)]
theorem LeftP.set {t i : Nat} {left : List Int} (h : LeftP c l warm g t i left) (hi : i < left.length) {u : Int} (hu : l.contains i = true → takeAt c l warm t (leftL c l warm g t) i = u) : LeftP c l warm g t (i + 1) (left.set i u) := fun q hq => by
  rw [nth_set hi]
  by_cases hqi : q = i
  · subst hqi; rw [if_pos rfl, if_pos (by omega), hu hq]
  · rw [if_neg hqi, h q hq]
    by_cases hlt : q < i
    · rw [if_pos hlt, if_pos (show q < i + 1 by omega)]
    · rw [if_neg hlt, if_neg (show ¬ q < i + 1 by omega)]
theorem LeftP.next {t n : Nat} {left : List Int} (h : LeftP c l warm g t n left) (hl : ∀ q, l.contains q = true → q < n) (hg : n ≤ g.length) : LeftP c l warm g (t + 1) 0 left := fun q hq => by
  have hq' := hl q hq
  rw [h q hq, if_pos hq', if_neg (by omega), leftL_succ (by omega)]
theorem BdP.set {left : List Int} (h : BdP left) {i : Nat} (hi : i < left.length) {u : Int} (hu : -100 ≤ u ∧ u ≤ 100) : BdP (left.set i u) := fun q => by
  rw [nth_set hi]
  split
  · exact hu
  · exact h q
theorem gasP_bd (hg : 0 ≤ c.gas ∧ c.gas ≤ 3) (t i : Nat) (left : List Int) : 0 ≤ gasP c l t left i ∧ gasP c l t left i ≤ 3 := by
  unfold gasP; split <;> omega
end
end Go.Proofs.Ytbkknliggnhpcaa
/- Contracts of turn's never, of, look. The cargo that is looked at. -/
namespace Go.Proofs.Ytbkknliggnhpcaa
open Go.RowKit
attribute [local go_sem ↓] Go.wp_at_zero Go.wp_at_succ

/-- The cargo that is looked at: a block of seven cells, and a map. -/
structure LookC (w : World) (b bm : Nat) (c : Cargo) (A1 A2 A3 A4 : Option Addr) (c1 c2 c3 c4 : Nat) (but : Int) (V : St → List Int) : Prop where
  v : CargoV w w.heap.size c A1 A2 A3 A4 c1 c2 c3 c4
  q0 : w.cell? ⟨b, 0, none⟩ = some (.slice A1 c.heat.length c1)
  q1 : w.cell? ⟨b, 1, none⟩ = some (.int .i64 c.gas)
  q2 : w.cell? ⟨b, 2, none⟩ = some (.slice A2 c.holds.length c2)
  q3 : w.cell? ⟨b, 3, none⟩ = some (.slice A3 c.lots.length c3)
  q4 : w.cell? ⟨b, 4, none⟩ = some (.slice A4 c.seen.length c4)
  q5 : w.cell? ⟨b, 5, none⟩ = some (.int .i64 but)
  q6 : w.cell? ⟨b, 6, none⟩ = some (.map (some bm))
  k : Known w bm V

theorem map_cell {w : World} {bm : Nat} {es : Array MapEntry} {cl : Nat} (h : w.heap[bm]? = some (.map es cl)) (o : Nat) : w.cell? ⟨bm, o, none⟩ = none := by
  simp [World.cell?, h]
theorem Known.ne {w : World} {bm b o : Nat} {V : St → List Int} {v : Value} (h : Known w bm V) (hc : w.cell? ⟨b, o, none⟩ = some v) : b ≠ bm := by
  rintro rfl
  obtain ⟨es, cl, hb, _⟩ := h
  rw [map_cell hb] at hc
  cases hc
theorem cell_lt {w : World} {b o : Nat} {v : Value} (hc : w.cell? ⟨b, o, none⟩ = some v) : b < w.heap.size := by
  rcases Nat.lt_or_ge b w.heap.size with h | h
  · exact h
  · have : w.heap[b]? = none := by simp [h]
    simp [World.cell?, this] at hc
theorem Row.grown {w w' : World} {bm m : Nat} {A : Option Addr} {f : Nat → Value} {V : St → List Int} (h : Row w w.heap.size A m f) (hk : Known w bm V) (hg : w.grownBy w' (some bm)) : Row w' w'.heap.size A m f := fun hm => by
  obtain ⟨b, off, e, hb, hc⟩ := h hm
  refine ⟨b, off, e, by have := hg.size; omega, fun j hj => ?_⟩
  have hj' := hc j hj
  exact hg.cell hj' (by simpa using hk.ne hj')
section
variable {w w' : World} {b bm : Nat} {c : Cargo} {A1 A2 A3 A4 : Option Addr} {c1 c2 c3 c4 : Nat} {but : Int} {V : St → List Int}
theorem CargoV.grown (h : CargoV w w.heap.size c A1 A2 A3 A4 c1 c2 c3 c4) (hk : Known w bm V) (hg : w.grownBy w' (some bm)) : CargoV w' w'.heap.size c A1 A2 A3 A4 c1 c2 c3 c4 :=
  ⟨h.heat.grown hk hg, h.holds.grown hk hg, h.lots.grown hk hg, h.seen.grown hk hg, h.m1, h.m2, h.m3, h.m4⟩
theorem LookC.ne (h : LookC w b bm c A1 A2 A3 A4 c1 c2 c3 c4 but V) : b ≠ bm := h.k.ne h.q0
theorem LookC.lt (h : LookC w b bm c A1 A2 A3 A4 c1 c2 c3 c4 but V) : b < w.heap.size := cell_lt h.q0
theorem LookC.grown (h : LookC w b bm c A1 A2 A3 A4 c1 c2 c3 c4 but V) (hk : Known w' bm V) (hg : w.grownBy w' (some bm)) : LookC w' b bm c A1 A2 A3 A4 c1 c2 c3 c4 but V := by
  have hn : some b ≠ some bm := by simpa using h.ne
  exact ⟨h.v.grown h.k hg, hg.cell h.q0 hn, hg.cell h.q1 hn, hg.cell h.q2 hn, hg.cell h.q3 hn, hg.cell h.q4 hn, hg.cell h.q5 hn, hg.cell h.q6 hn, hk⟩
theorem LookC.below (h : LookC w b bm c A1 A2 A3 A4 c1 c2 c3 c4 but V) (hb : Below w.heap.size w w') : LookC w' b bm c A1 A2 A3 A4 c1 c2 c3 c4 but V := by
  have hl := h.lt
  have hk := h.k.lt
  have q : ∀ o v, w.cell? ⟨b, o, none⟩ = some v → w'.cell? ⟨b, o, none⟩ = some v := fun o v e => (hb.cell (p := ⟨b, o, none⟩) hl).trans e
  exact ⟨h.v.next hb, q _ _ h.q0, q _ _ h.q1, q _ _ h.q2, q _ _ h.q3, q _ _ h.q4, q _ _ h.q5, q _ _ h.q6, h.k.block (hb.block bm hk)⟩
end

set_option maxRecDepth 100000 in
theorem neverT_any {w : World} {b n cp : Nat} {A : Option Addr} (q0 : w.cell? ⟨b, 0, none⟩ = some (.slice A n cp)) (hn : n ≤ 8) :
    Calls Try.prog 72 #[.pointer (some ⟨b, 0, none⟩)] w fun e w' => e = .returned (.int .i64 ((n : Int) + 1)) ∧ w = w' := by
  go_enter Try.func72, Try.ntmps72
  go_wp2_with fail
  exact bodyPost_ret (v := .int .i64 ((n : Int) + 1)) (by simp [results, Try.results72, go_sem]) rfl ⟨rfl, rfl⟩

set_option maxRecDepth 100000 in
theorem look_any {w : World} {c : Cargo} {A1 A2 A3 A4 : Option Addr} {c1 c2 c3 c4 : Nat} {but : Int} (h : CargoV w w.heap.size c A1 A2 A3 A4 c1 c2 c3 c4) (V : St → List Int) :
    Calls Try.prog 88 #[cargoVal c A1 A2 A3 A4 c1 c2 c3 c4, .int .i64 but] w fun e w' => ∃ b bm, e = .returned (.pointer (some ⟨b, 0, none⟩)) ∧ w.heap.size ≤ b ∧ w.heap.size ≤ bm ∧ Below w.heap.size w w' ∧ LookC w' b bm c A1 A2 A3 A4 c1 c2 c3 c4 but V := by
  have hmm := @run_makeMap Try.prog
  go_enter Try.func88, Try.ntmps88
  go_wp2_with fail
  refine bodyPost_ret (v := .pointer (some ⟨w.heap.size + 1 + 1, 0, none⟩)) (by simp [results, Try.results88, go_sem]) rfl ⟨w.heap.size + 1 + 1, w.heap.size + 1, rfl, by omega, by omega, ?_, ?_⟩
  · exact (((Below.refl _ _).alloc (Nat.le_refl _) _).alloc (by simp) _).alloc (by simp; omega) _
  · generalize hw1 : w.alloc (Obj.cells #[Value.slice A1 c.heat.length c1, Value.int IntKind.i64 c.gas, Value.slice A2 c.holds.length c2, Value.slice A3 c.lots.length c3, Value.slice A4 c.seen.length c4] 27) = wa
    have hs1 : wa.heap.size = w.heap.size + 1 := by rw [← hw1]; simp
    have hB1 : Below w.heap.size w wa := by rw [← hw1]; exact (Below.refl _ _).alloc (Nat.le_refl _) _
    rw [← hs1]
    have hB2 : Below wa.heap.size wa (wa.alloc (Obj.map #[] 0)) := (Below.refl _ _).alloc (Nat.le_refl _) _
    have hkn := known_made wa V
    generalize hw2 : wa.alloc (Obj.map #[] 0) = wb at *
    have hs2 : wb.heap.size = wa.heap.size + 1 := by rw [← hw2]; simp
    rw [← hs2]
    have q : ∀ o : Nat, (wb.alloc (Obj.cells #[Value.slice A1 c.heat.length c1, Value.int IntKind.i64 c.gas, Value.slice A2 c.holds.length c2, Value.slice A3 c.lots.length c3, Value.slice A4 c.seen.length c4, Value.int IntKind.i64 but, Value.map (some wa.heap.size)] 143)).cell? ⟨wb.heap.size, o, none⟩ = (#[Value.slice A1 c.heat.length c1, Value.int IntKind.i64 c.gas, Value.slice A2 c.holds.length c2, Value.slice A3 c.lots.length c3, Value.slice A4 c.seen.length c4, Value.int IntKind.i64 but, Value.map (some wa.heap.size)])[o]? := fun o => by
      rw [World.cell?_alloc_at _ _ _ _ rfl]
    have hB3 : Below wb.heap.size wb (wb.alloc (Obj.cells #[Value.slice A1 c.heat.length c1, Value.int IntKind.i64 c.gas, Value.slice A2 c.holds.length c2, Value.slice A3 c.lots.length c3, Value.slice A4 c.seen.length c4, Value.int IntKind.i64 but, Value.map (some wa.heap.size)] 143)) := (Below.refl _ _).alloc (Nat.le_refl _) _
    refine ⟨((h.next hB1).next hB2).next hB3, ?_, ?_, ?_, ?_, ?_, ?_, ?_, hkn.block (hB3.block _ (by omega))⟩ <;> rw [q] <;> rfl
end Go.Proofs.Ytbkknliggnhpcaa
/- Contracts of turn's of: the lots of a hold, as bits. -/
namespace Go.Proofs.Ytbkknliggnhpcaa
open Go.RowKit
attribute [local go_sem ↓] Go.wp_at_zero Go.wp_at_succ

/-- The lots of a hold among the first k, as bits. -/
def ofB (c : Cargo) (hold : Int) : Nat → Nat
  | 0 => 0
  | k + 1 => if (nth c.lots k).hold = hold then ofB c hold k ||| 2 ^ k else ofB c hold k
theorem ofB_lt (c : Cargo) (hold : Int) : ∀ k, ofB c hold k < 2 ^ k
  | 0 => by simp [ofB]
  | k + 1 => by
    have ih := ofB_lt c hold k
    rw [ofB]
    split
    · exact Nat.or_lt_two_pow (by rw [Nat.pow_succ]; omega) (Nat.pow_lt_pow_right (by omega) (by omega))
    · rw [Nat.pow_succ]; omega

set_option maxRecDepth 100000 in
theorem bits_or {m j : Nat} (hm : m < 32) (hj : j < 5) : bits BinOp.or .i64 (m : Int) (wrap64 (2 ^ j)) = ((m ||| 2 ^ j : Nat) : Int) := by
  have h : ∀ m : Fin 32, ∀ j : Fin 5, bits BinOp.or .i64 ((m : Nat) : Int) (wrap64 (2 ^ (j : Nat))) = (((m : Nat) ||| 2 ^ (j : Nat) : Nat) : Int) := of_decide_eq_true (by kernel_rfl)
  exact h ⟨m, hm⟩ ⟨j, hj⟩

set_option maxRecDepth 100000 in
theorem of_any' {w : World} {b bm : Nat} {c : Cargo} {A1 A2 A3 A4 : Option Addr} {c1 c2 c3 c4 : Nat} {but : Int} {V : St → List Int} (h : LookC w b bm c A1 A2 A3 A4 c1 c2 c3 c4 but V) (hs : Small c) (hold : Int) :
    Calls Try.prog 90 #[.pointer (some ⟨b, 0, none⟩), .int .i64 hold] w fun e w' => e = .returned (.int .i64 (ofB c hold c.lots.length : Nat)) ∧ Below w.heap.size w w' := by
  have q3 := h.q3
  have hm3 := h.v.m3
  have hsm := hs.lots
  have hlt := h.lt
  have HV := hide h.v
  clear h
  go_enter Try.func90, Try.ntmps90
  go_wp2_with fail
  go_loopw [4, 5, 6, 13] (fun s _ _ i wr => ∃ j : Nat, j ≤ c.lots.length ∧ i = .int .i64 j ∧ s = .int .i64 (ofB c hold j : Nat) ∧ Below w.heap.size w wr) (fun _ _ _ i _ => c.lots.length - (intOf i).toNat)
  case atStart => exact ⟨0, Nat.zero_le _, rfl, rfl, Below.refl _ _⟩
  case round =>
    obtain ⟨j, hj, rfl, rfl, hB⟩ := hrel
    obtain ⟨k1, f1⟩ := bcell hB
    by_cases hlt : j < c.lots.length
    · obtain ⟨bl, ol, rfl, hbl, g0, g1, g2, g3⟩ := HV.out.lots.lots hlt
      have hj0 : (0 : Int) ≤ (j : Int) := by omega
      have hj1 : (j : Int) < (c.lots.length : Int) := by omega
      by_cases heq : (nth c.lots j).hold = hold
      · have hbq : ((nth c.lots j).hold == hold) = true := by simpa using heq
        go_wp2_with fail
        refine ⟨⟨j + 1, by omega, by go_num, ?_, hB.alloc hB.size _⟩, by simp [intOf]; omega⟩
        rw [bits_or (Nat.lt_of_lt_of_le (ofB_lt c hold j) (Nat.le_trans (Nat.pow_le_pow_right (by omega) (show j ≤ 5 by omega)) (by decide))) (by omega), ofB, if_pos heq]
      · have hbq : ((nth c.lots j).hold == hold) = false := by simpa using heq
        go_wp2_with fail
        refine ⟨⟨j + 1, by omega, by go_num, ?_, hB.alloc hB.size _⟩, by simp [intOf]; omega⟩
        rw [ofB, if_neg heq]
    · obtain rfl : j = c.lots.length := by omega
      go_wp2_with fail
      exact bodyPost_ret (v := .int .i64 (ofB c hold c.lots.length : Nat)) (by simp [results, Try.results90, go_sem]) rfl ⟨rfl, hB⟩
end Go.Proofs.Ytbkknliggnhpcaa
/- The contract of turn's times: the hours at which lots turn, kept in a map. -/
namespace Go.Proofs.Ytbkknliggnhpcaa
open Go.RowKit
attribute [local go_sem ↓] Go.wp_at_zero Go.wp_at_succ

/-- Block g is an array of the call's own: integers xs; e is its type. -/
def OwnE (e : TypeId) (w : World) (base g n : Nat) (xs : List Int) : Prop := w.ownsRow base e 1 (.slice (some ⟨g, 0, none⟩) n n) n (xs.map (Value.int .i64))
section
variable {w w' : World} {e : TypeId} {base g n B : Nat} {xs : List Int}
theorem OwnE.len (h : OwnE e w base g n xs) : xs.length = n := by have := h.1; simpa using this
theorem OwnE.lt (h : OwnE e w base g n xs) : base ≤ g ∧ g < w.heap.size := World.ownsRow.lt h g rfl
theorem OwnE.cell (h : OwnE e w base g n xs) {i : Nat} (hi : i < n) : w.cell? ⟨g, i, none⟩ = some (.int .i64 (nth xs i)) := by
  have hl := h.len
  rw [World.ownsRow.cellAt h i (by omega)]
  simp [nth, hl, hi]
theorem OwnE.frozen (h : OwnE e w base g n xs) (i : Nat) : w.frozen? ⟨g, i, none⟩ = false := World.ownsRow.frozenAt h i
theorem OwnE.set (h : OwnE e w base g n xs) (i : Nat) (u : Int) : OwnE e (w.setCell ⟨g, i, none⟩ (.int .i64 u)) base g n (xs.set i u) := by
  have := (World.ownsRow.stored h i (.int .i64 u)).1
  unfold OwnE
  rw [List.map_set]
  exact this
theorem OwnE.block (h : OwnE e w base g n xs) (hk : w'.heap[g]? = w.heap[g]?) : OwnE e w' base g n xs := by
  obtain ⟨h1, h2⟩ := h
  refine ⟨h1, ?_⟩
  rcases h2 with ⟨h', _⟩ | ⟨g', cap', cur, h', hb, hg, r⟩
  · simp at h'
  · have hgg : g' = g := by
      simp only [Value.slice.injEq, Option.some.injEq, Addr.mk.injEq, and_true, true_and] at h'
      exact h'.1.symm
    subst hgg
    exact .inr ⟨g', cap', cur, h', hb, by rw [hk]; exact hg, r⟩
theorem OwnE.below (h : OwnE e w base g n xs) (hb : Below B w w') (hg : g < B) : OwnE e w' base g n xs := h.block (hb.block g hg)
theorem OwnE.far (h : OwnE e w base g n xs) {a : Addr} (ha : g ≠ a.block) (u : Value) : OwnE e (w.setCell a u) base g n xs := h.block (Below.heap_setCell w a u g ha)
theorem OwnE.store5 (h : OwnE e w base g 5 xs) (y0 y1 y2 y3 y4 : Int) :
    OwnE e (((((w.setCell ⟨g, 0, none⟩ (.int .i64 y0)).setCell ⟨g, 1, none⟩ (.int .i64 y1)).setCell ⟨g, 2, none⟩ (.int .i64 y2)).setCell ⟨g, 3, none⟩ (.int .i64 y3)).setCell ⟨g, 4, none⟩ (.int .i64 y4)) base g 5 [y0, y1, y2, y3, y4] := by
  have hl := h.len
  have := ((((h.set 0 y0).set 1 y1).set 2 y2).set 3 y3).set 4 y4
  match xs, hl with
  | [a, b, c, d, f], _ => simpa using this
theorem below_store5 {w : World} {B g : Nat} (hg : B ≤ g) (y0 y1 y2 y3 y4 : Value) :
    Below B w (((((w.setCell ⟨g, 0, none⟩ y0).setCell ⟨g, 1, none⟩ y1).setCell ⟨g, 2, none⟩ y2).setCell ⟨g, 3, none⟩ y3).setCell ⟨g, 4, none⟩ y4) :=
  (((((Below.refl B w).setCell (by exact hg) _).setCell (by exact hg) _).setCell (by exact hg) _).setCell (by exact hg) _).setCell (by exact hg) _
theorem OwnE.made5 (w : World) (e : TypeId) (a b c d f : Int) : OwnE e (w.alloc (.cells #[iv a, iv b, iv c, iv d, iv f] e)) w.heap.size w.heap.size 5 [a, b, c, d, f] :=
  World.ownsRow_lit w #[iv a, iv b, iv c, iv d, iv f] 5 (Nat.le_refl _) (by simp [maxLen]) rfl
end

theorem nth5_0 {a b c d f : Int} : nth [a, b, c, d, f] 0 = a := rfl
theorem nth5_1 {a b c d f : Int} : nth [a, b, c, d, f] 1 = b := rfl
theorem nth5_2 {a b c d f : Int} : nth [a, b, c, d, f] 2 = c := rfl
theorem nth5_3 {a b c d f : Int} : nth [a, b, c, d, f] 3 = d := rfl
theorem nth5_4 {a b c d f : Int} : nth [a, b, c, d, f] 4 = f := rfl
theorem grownBy_of_below {w w' : World} (h : Below w.heap.size w w') (r : Option Nat) : w.grownBy w' r := ⟨h.os, h.tape, h.output, h.size, fun i hi _ => h.block i hi⟩
theorem bits_and {m j : Nat} (hm : m < 32) (hj : j < 5) : bits BinOp.and .i64 ((m : Int) / 2 ^ j) 1 = if m.testBit j then 1 else 0 := by
  have h : ∀ m : Fin 32, ∀ j : Fin 5, bits BinOp.and .i64 (((m : Nat) : Int) / 2 ^ (j : Nat)) 1 = if (m : Nat).testBit (j : Nat) then 1 else 0 := of_decide_eq_true (by kernel_rfl)
  exact h ⟨m, hm⟩ ⟨j, hj⟩
/-- A region that draws its order, and ends in one way. -/
theorem wp_one {P : Program} {c : Code} {Q : Exit → Act → World → Prop} {a a0 : Act} {w w0 : World} (h : c.wp P (fun e a v => e = .normal ∧ a = a0 ∧ v = w0) a w) (hq : Q .normal a0 w0) : c.wp P Q a w :=
  Code.wp_mono (fun _ _ _ ⟨h1, h2, h3⟩ => by rw [h1, h2, h3]; exact hq) h
/-- A state that a walk may reckon with. -/
structure StB (s : St) : Prop where
  len : s.greens.length = 5
  gb : ∀ i, -100 ≤ nth s.greens i ∧ nth s.greens i ≤ 100
  wb : 0 ≤ s.warm ∧ s.warm ≤ 6
  hb : -1 ≤ s.hold ∧ s.hold ≤ 1000
  tb : 0 ≤ s.there ∧ s.there < 32
theorem StB.ok {s : St} (h : StB s) : s.Ok :=
  ⟨h.len, (wfI_iff _).2 (by have := h.hb; omega), (wfI_iff _).2 (by have := h.wb; omega), fun i => (wfI_iff _).2 (by have := h.gb i; omega), (wfI_iff _).2 (by have := h.tb; omega)⟩

set_option maxHeartbeats 4000000 in
set_option maxRecDepth 100000 in
theorem times_any {w : World} {b bm : Nat} {c : Cargo} {A1 A2 A3 A4 : Option Addr} {c1 c2 c3 c4 : Nat} {but : Int} (h : LookC w b bm c A1 A2 A3 A4 c1 c2 c3 c4 but (timesV c)) (hs : Small c) (s : St) (hS : StB s) :
    Calls Try.prog 87 #[.pointer (some ⟨b, 0, none⟩), stVal s] w fun e w' => e = .returned (lotsVal (timesV c s)) ∧ w.grownBy w' (some bm) ∧ LookC w' b bm c A1 A2 A3 A4 c1 c2 c3 c4 but (timesV c) := by
  obtain ⟨l0, ok, hlook, hl0⟩ := h.k.look s hS.ok
  have hlt := h.lt
  have hltm := h.k.lt
  have q0 := h.q0
  have q1 := h.q1
  have q3 := h.q3
  have q6 := h.q6
  have HH := hide h
  clear h
  simp only [stVal, iv, lotsVal] at hlook
  simp only [stVal, iv]
  go_enter Try.func87, Try.ntmps87
  go_wp2_with fail
  have hB1 : Below w.heap.size w ((w.alloc (.cells #[.int .i64 s.hold, .int .i64 s.warm, .int .i64 (nth s.greens 0), .int .i64 (nth s.greens 1), .int .i64 (nth s.greens 2), .int .i64 (nth s.greens 3), .int .i64 (nth s.greens 4), .int .i64 s.there] 110)).alloc (.cells #[.int .i64 0, .int .i64 0, .int .i64 0, .int .i64 0, .int .i64 0] 108)) := ((Below.refl _ _).alloc (Nat.le_refl _) _).alloc (by simp) _
  have hSt : ∀ o : Nat, ((w.alloc (.cells #[.int .i64 s.hold, .int .i64 s.warm, .int .i64 (nth s.greens 0), .int .i64 (nth s.greens 1), .int .i64 (nth s.greens 2), .int .i64 (nth s.greens 3), .int .i64 (nth s.greens 4), .int .i64 s.there] 110)).alloc (.cells #[.int .i64 0, .int .i64 0, .int .i64 0, .int .i64 0, .int .i64 0] 108)).cell? ⟨w.heap.size, o, none⟩ = (#[Value.int .i64 s.hold, .int .i64 s.warm, .int .i64 (nth s.greens 0), .int .i64 (nth s.greens 1), .int .i64 (nth s.greens 2), .int .i64 (nth s.greens 3), .int .i64 (nth s.greens 4), .int .i64 s.there])[o]? := fun o => by
    rw [World.cell?_alloc_past _ _ _ (by simp), World.cell?_alloc_at _ _ _ _ rfl]
  have hR : OwnE 108 ((w.alloc (.cells #[.int .i64 s.hold, .int .i64 s.warm, .int .i64 (nth s.greens 0), .int .i64 (nth s.greens 1), .int .i64 (nth s.greens 2), .int .i64 (nth s.greens 3), .int .i64 (nth s.greens 4), .int .i64 s.there] 110)).alloc (.cells #[.int .i64 0, .int .i64 0, .int .i64 0, .int .i64 0, .int .i64 0] 108)) (w.heap.size + 1) (w.heap.size + 1) 5 [0, 0, 0, 0, 0] := by
    have := OwnE.made5 (w.alloc (.cells #[.int .i64 s.hold, .int .i64 s.warm, .int .i64 (nth s.greens 0), .int .i64 (nth s.greens 1), .int .i64 (nth s.greens 2), .int .i64 (nth s.greens 3), .int .i64 (nth s.greens 4), .int .i64 s.there] 110)) 108 0 0 0 0 0
    simpa using this
  have hszA : ((w.alloc (.cells #[.int .i64 s.hold, .int .i64 s.warm, .int .i64 (nth s.greens 0), .int .i64 (nth s.greens 1), .int .i64 (nth s.greens 2), .int .i64 (nth s.greens 3), .int .i64 (nth s.greens 4), .int .i64 s.there] 110)).alloc (.cells #[.int .i64 0, .int .i64 0, .int .i64 0, .int .i64 0, .int .i64 0] 108)).heap.size = w.heap.size + 1 + 1 := by simp
  generalize ((w.alloc (.cells #[.int .i64 s.hold, .int .i64 s.warm, .int .i64 (nth s.greens 0), .int .i64 (nth s.greens 1), .int .i64 (nth s.greens 2), .int .i64 (nth s.greens 3), .int .i64 (nth s.greens 4), .int .i64 s.there] 110)).alloc (.cells #[.int .i64 0, .int .i64 0, .int .i64 0, .int .i64 0, .int .i64 0] 108)) = wa at *
  have s0 := hSt 0
  have s1 := hSt 1
  have s2 := hSt 2
  have s3 := hSt 3
  have s4 := hSt 4
  have s5 := hSt 5
  have s6 := hSt 6
  have s7 := hSt 7
  simp only [List.getElem?_toArray, List.getElem?_cons_zero, List.getElem?_cons_succ] at s0 s1 s2 s3 s4 s5 s6 s7
  have ra0 := hR.cell (i := 0) (by omega)
  have p6 := (hB1.cell (p := ⟨b, 6, none⟩) hlt).trans q6
  have hla := hlook wa.drew (hB1.block bm hltm)
  have hlb := hlook (wa.alloc (.cells #[.int .i64 0, .int .i64 0, .int .i64 0, .int .i64 0, .int .i64 0] 108)).drew (by show (wa.alloc _).heap[bm]? = _; rw [(((Below.refl wa.heap.size wa).alloc (Nat.le_refl _) _)).block bm (by omega)]; exact hB1.block bm hltm)
  have hzb : b < wa.heap.size := by omega
  have hzs : w.heap.size < wa.heap.size := by omega
  have hBA : Below wa.heap.size wa (wa.alloc (.cells #[.int .i64 0, .int .i64 0, .int .i64 0, .int .i64 0, .int .i64 0] 108)) := (Below.refl _ _).alloc (Nat.le_refl _) _
  have p6' := (hBA.cell (p := ⟨b, 6, none⟩) hzb).trans p6
  have s0' := (hBA.cell (p := ⟨w.heap.size, 0, none⟩) hzs).trans s0
  have s1' := (hBA.cell (p := ⟨w.heap.size, 1, none⟩) hzs).trans s1
  have s2' := (hBA.cell (p := ⟨w.heap.size, 2, none⟩) hzs).trans s2
  have s3' := (hBA.cell (p := ⟨w.heap.size, 3, none⟩) hzs).trans s3
  have s4' := (hBA.cell (p := ⟨w.heap.size, 4, none⟩) hzs).trans s4
  have s5' := (hBA.cell (p := ⟨w.heap.size, 5, none⟩) hzs).trans s5
  have s6' := (hBA.cell (p := ⟨w.heap.size, 6, none⟩) hzs).trans s6
  have s7' := (hBA.cell (p := ⟨w.heap.size, 7, none⟩) hzs).trans s7
  apply wp_one
  case h =>
    go_region
    all_goals exact ⟨rfl, rfl, rfl⟩
  case hq =>
  have hBC : Below wa.heap.size wa (wa.alloc (.cells #[.int .i64 (nth l0 0), .int .i64 (nth l0 1), .int .i64 (nth l0 2), .int .i64 (nth l0 3), .int .i64 (nth l0 4)] 108)).drew := ((Below.refl wa.heap.size wa).alloc (Nat.le_refl _) _).drew
  have hM : OwnE 108 (wa.alloc (.cells #[.int .i64 (nth l0 0), .int .i64 (nth l0 1), .int .i64 (nth l0 2), .int .i64 (nth l0 3), .int .i64 (nth l0 4)] 108)).drew wa.heap.size wa.heap.size 5 [nth l0 0, nth l0 1, nth l0 2, nth l0 3, nth l0 4] := OwnE.made5 wa 108 _ _ _ _ _
  have hszC : (wa.alloc (.cells #[.int .i64 (nth l0 0), .int .i64 (nth l0 1), .int .i64 (nth l0 2), .int .i64 (nth l0 3), .int .i64 (nth l0 4)] 108)).drew.heap.size = wa.heap.size + 1 := by simp [World.drew]
  clear s0' s1' s2' s3' s4' s5' s6' s7' p6' hBA hla hlb hlook ra0
  generalize (wa.alloc (.cells #[.int .i64 (nth l0 0), .int .i64 (nth l0 1), .int .i64 (nth l0 2), .int .i64 (nth l0 3), .int .i64 (nth l0 4)] 108)).drew = wb at *
  have hRb := hR.below hBC (by omega)
  have hBb := hB1.trans (hBC.mono (by omega))
  cases ok with
  | true =>
    have m0 := hM.cell (i := 0) (by omega)
    have m1 := hM.cell (i := 1) (by omega)
    have m2 := hM.cell (i := 2) (by omega)
    have m3 := hM.cell (i := 3) (by omega)
    have m4 := hM.cell (i := 4) (by omega)
    have r0 := hRb.cell (i := 0) (by omega)
    have r1 := hRb.cell (i := 1) (by omega)
    have r2 := hRb.cell (i := 2) (by omega)
    have r3 := hRb.cell (i := 3) (by omega)
    have r4 := hRb.cell (i := 4) (by omega)
    have g0 := hRb.frozen 0
    have g1 := hRb.frozen 1
    have g2 := hRb.frozen 2
    have g3 := hRb.frozen 3
    have g4 := hRb.frozen 4
    rw [hszA] at m0 m1 m2 m3 m4
    simp only [nth5_0, nth5_1, nth5_2, nth5_3, nth5_4] at m0 m1 m2 m3 m4
    go_wp2_with fail
    have hZ := hRb.store5 (nth l0 0) (nth l0 1) (nth l0 2) (nth l0 3) (nth l0 4)
    have hBZ := hBb.trans (below_store5 (w := wb) (B := w.heap.size) (g := w.heap.size + 1) (by omega) (.int .i64 (nth l0 0)) (.int .i64 (nth l0 1)) (.int .i64 (nth l0 2)) (.int .i64 (nth l0 3)) (.int .i64 (nth l0 4)))
    generalize (((((wb.setCell ⟨w.heap.size + 1, 0, none⟩ (.int .i64 (nth l0 0))).setCell ⟨w.heap.size + 1, 1, none⟩ (.int .i64 (nth l0 1))).setCell ⟨w.heap.size + 1, 2, none⟩ (.int .i64 (nth l0 2))).setCell ⟨w.heap.size + 1, 3, none⟩ (.int .i64 (nth l0 3))).setCell ⟨w.heap.size + 1, 4, none⟩ (.int .i64 (nth l0 4))) = wz at *
    have z0 := hZ.cell (i := 0) (by omega)
    have z1 := hZ.cell (i := 1) (by omega)
    have z2 := hZ.cell (i := 2) (by omega)
    have z3 := hZ.cell (i := 3) (by omega)
    have z4 := hZ.cell (i := 4) (by omega)
    simp only [nth5_0, nth5_1, nth5_2, nth5_3, nth5_4] at z0 z1 z2 z3 z4
    refine bodyPost_ret (v := lotsVal (timesV c s)) ?_ rfl ⟨rfl, ?_, HH.out.below hBZ⟩
    · rw [← hl0 trivial]
      simp [results, Try.results87, go_sem, z0, z1, z2, z3, z4, lotsVal]
    · exact grownBy_of_below hBZ _
  | false =>
    clear hM hl0
    go_wp2_with fail
    have hO := OwnE.made5 wb 108 0 0 0 0 0
    have hszB : wb.heap.size = w.heap.size + 1 + 1 + 1 := by omega
    rw [hszB] at hO
    have hBD : Below wa.heap.size wa (wb.alloc (.cells #[.int .i64 0, .int .i64 0, .int .i64 0, .int .i64 0, .int .i64 0] 108)) := hBC.trans ((Below.refl _ _).alloc (by omega) _)
    have hszD : (wb.alloc (.cells #[.int .i64 0, .int .i64 0, .int .i64 0, .int .i64 0, .int .i64 0] 108)).heap.size = w.heap.size + 1 + 1 + 1 + 1 := by simp; omega
    have hRd := hRb.below ((Below.refl wb.heap.size wb).alloc (Nat.le_refl _) (.cells #[.int .i64 0, .int .i64 0, .int .i64 0, .int .i64 0, .int .i64 0] 108)) (by omega)
    simp only [iv] at hO
    generalize (wb.alloc (.cells #[.int .i64 0, .int .i64 0, .int .i64 0, .int .i64 0, .int .i64 0] 108)) = w1 at *
    have t0 := (hBD.cell (p := ⟨w.heap.size, 0, none⟩) (by show _ < _; simp only []; omega)).trans s0
    have t1 := (hBD.cell (p := ⟨w.heap.size, 1, none⟩) (by show _ < _; simp only []; omega)).trans s1
    have t2 := (hBD.cell (p := ⟨w.heap.size, 2, none⟩) (by show _ < _; simp only []; omega)).trans s2
    have t3 := (hBD.cell (p := ⟨w.heap.size, 3, none⟩) (by show _ < _; simp only []; omega)).trans s3
    have t4 := (hBD.cell (p := ⟨w.heap.size, 4, none⟩) (by show _ < _; simp only []; omega)).trans s4
    have t5 := (hBD.cell (p := ⟨w.heap.size, 5, none⟩) (by show _ < _; simp only []; omega)).trans s5
    have t6 := (hBD.cell (p := ⟨w.heap.size, 6, none⟩) (by show _ < _; simp only []; omega)).trans s6
    have t7 := (hBD.cell (p := ⟨w.heap.size, 7, none⟩) (by show _ < _; simp only []; omega)).trans s7
    obtain ⟨m, hm⟩ : ∃ m : Nat, s.there = m := ⟨s.there.toNat, by have := hS.tb; omega⟩
    have hm32 : m < 32 := by have := hS.tb; omega
    rw [hm] at t7
    have HM := hide hm
    clear hm
    have hBd := hB1.trans (hBD.mono (by omega))
    have pb0 := (hBd.cell (p := ⟨b, 0, none⟩) hlt).trans q0
    have pb1 := (hBd.cell (p := ⟨b, 1, none⟩) hlt).trans q1
    have pb3 := (hBd.cell (p := ⟨b, 3, none⟩) hlt).trans q3
    have pb6 := (hBd.cell (p := ⟨b, 6, none⟩) hlt).trans q6
    clear s0 s1 s2 s3 s4 s5 s6 s7 p6 q0 q1 q3 q6 hR hRb hSt hBC hBb hB1 hBD hzs hzb hszA hszB hszC
    have HBD := hide hBd
    have hzb : b < w1.heap.size := by omega
    have hzs : w.heap.size < w1.heap.size := by omega
    have hlen := hs.hours
    go_loopw [8, 27] (fun _ i wr => ∃ j : Nat, j ≤ 5 ∧ i = .int .i64 j ∧ Below (w.heap.size + 3) w1 wr ∧ wr.heap.size = w.heap.size + 1 + 1 + 1 + 1 ∧ ∃ out, OwnE 108 wr (w.heap.size + 1 + 1 + 1) (w.heap.size + 1 + 1 + 1) 5 out ∧ Hid (∀ k, k < j → nth out k = (c.heat.length : Int) + 1)) (fun _ i _ => 5 - (intOf i).toNat)
    case atStart => exact ⟨0, Nat.zero_le _, rfl, Below.refl _ _, hszD, _, hO, fun k hk => by omega⟩
    case round =>
      obtain ⟨j, hj, rfl, hB, hszr, out, hO1, HF⟩ := hrel
      obtain ⟨k1, f1⟩ := bcell hB
      have hbr : b < w.heap.size + 3 := by omega
      by_cases hlt5 : j < 5
      · have hj0 : (0 : Int) ≤ (j : Int) := by omega
        have hj1 : (j : Int) < 5 := by omega
        have hc := hO1.cell hlt5
        have hf := hO1.frozen j
        have pbr := (k1 b 0 hbr).trans pb0
        go_wp2_with (go_at_call 72; refine (neverT_any pbr hlen).mono ?_; rintro e w2 ⟨rfl, rfl⟩)
        go_roundw
        case rel =>
          refine ⟨j + 1, by omega, by go_num, hB.setCell (by show _ ≤ _; simp only []; omega) _, by simpa using hszr, _, hO1.set j _, fun k hk => ?_⟩
          rw [nth_set (by rw [hO1.len]; exact hlt5)]
          split
          · rfl
          · exact HF.out k (by omega)
        case measure => simp [intOf]; omega
      · have hj5 : j = 5 := by omega
        subst hj5
        have HF5 := hide HF.out
        clear HF
        go_wp2_with fail
        have hL := OwnE.made5 wr 108 (nth s.greens 0) (nth s.greens 1) (nth s.greens 2) (nth s.greens 3) (nth s.greens 4)
        have hg5 : [nth s.greens 0, nth s.greens 1, nth s.greens 2, nth s.greens 3, nth s.greens 4] = s.greens := five rfl hS.len rfl rfl rfl rfl rfl
        rw [hg5, hszr] at hL
        have hO2 : OwnE 108 (wr.alloc (.cells #[iv (nth s.greens 0), iv (nth s.greens 1), iv (nth s.greens 2), iv (nth s.greens 3), iv (nth s.greens 4)] 108)) (w.heap.size + 1 + 1 + 1) (w.heap.size + 1 + 1 + 1) 5 out := hO1.below ((Below.refl wr.heap.size wr).alloc (Nat.le_refl _) _) (by omega)
        have hB2 : Below (w.heap.size + 3) w1 (wr.alloc (.cells #[iv (nth s.greens 0), iv (nth s.greens 1), iv (nth s.greens 2), iv (nth s.greens 3), iv (nth s.greens 4)] 108)) := hB.alloc (by omega) _
        simp only [iv] at hL hO2 hB2
        generalize (wr.alloc (.cells #[.int .i64 (nth s.greens 0), .int .i64 (nth s.greens 1), .int .i64 (nth s.greens 2), .int .i64 (nth s.greens 3), .int .i64 (nth s.greens 4)] 108)) = w2 at *
        have HL2 := hide hL
        have HB2 := hide hB2
        have HO2 := hide hO2
        clear hL hB2 hO2 hB hO1 k1 f1 hszr wr hg5
        have hn5 := hs.lots
        obtain ⟨ll, hll⟩ : ∃ ll, ll = setL m c.lots.length := ⟨_, rfl⟩
        have hlm : ∀ q, ll.contains q = (decide (q < c.lots.length) && m.testBit q) := fun q => by rw [hll, setL_mem]
        have HLL := hide hll
        have HLM := hide hlm
        have HLN := hide (show ∀ q, ll.contains q = true → q < c.lots.length from fun q hq => by rw [hlm, Bool.and_eq_true] at hq; simpa using hq.1)
        clear hll hlm
        go_loopw [10, 11, 12, 13, 14, 15, 44] (fun _ _ _ _ _ _ hh wr => ∃ t : Nat, t ≤ c.heat.length ∧ hh = .int .i64 t ∧ Below (w.heap.size + 3) w1 wr ∧ ∃ out left, OwnE 108 wr (w.heap.size + 1 + 1 + 1) (w.heap.size + 1 + 1 + 1) 5 out ∧ OwnE 108 wr (w.heap.size + 1 + 1 + 1 + 1) (w.heap.size + 1 + 1 + 1 + 1) 5 left ∧
          Hid (OutP c ll s.warm s.greens t 0 out) ∧ Hid (LeftP c ll s.warm s.greens t 0 left) ∧ Hid (BdP left)) (fun _ _ _ _ _ _ hh _ => c.heat.length + 1 - (intOf hh).toNat)
        case atStart =>
          refine ⟨0, Nat.zero_le _, rfl, HB2.out, out, s.greens, HO2.out, HL2.out, fun q hq => ?_, fun q hq => by rw [if_neg (by omega)]; rfl, hS.gb⟩
          rw [HF5.out q hq]
          split
          · rw [if_neg (by omega), outAt_zero]
          · rfl
        case round =>
          clear HF5 HB2 HO2 HL2 out w2
          obtain ⟨t, ht, rfl, hB, out, left, hO1, hO2, HOP, HLP, HBP⟩ := hrel
          obtain ⟨k1, f1⟩ := bcell hB
          have hbr3 : b < w.heap.size + 3 := by omega
          have hLT := hide (show ∀ q, ll.contains q = true → turnedB c t left q = turnedB c t (leftL c ll s.warm s.greens t) q from fun q hq => by
            have := HLP.out q hq
            rw [if_neg (by omega)] at this
            simp [turnedB, this])
          have ht0 : (0 : Int) ≤ (t : Int) := by omega
          have ht1 : (t : Int) < (c.heat.length : Int) + 1 := by omega
          go_wp2_with fail
          go_step3
          go_wp2_with fail
          go_step3
          go_wp2_with fail
          go_loopw [11, 12, 13, 53] (fun gs _ _ ii wr => ∃ i : Nat, i ≤ c.lots.length ∧ ii = .int .i64 i ∧ gs = .int .i64 (gasP c ll t left i) ∧ Below (w.heap.size + 3) w1 wr ∧ ∃ out, OwnE 108 wr (w.heap.size + 1 + 1 + 1) (w.heap.size + 1 + 1 + 1) 5 out ∧ OwnE 108 wr (w.heap.size + 1 + 1 + 1 + 1) (w.heap.size + 1 + 1 + 1 + 1) 5 left ∧
            Hid (OutP c ll s.warm s.greens t i out)) (fun _ _ _ ii _ => c.lots.length - (intOf ii).toNat)
          case atStart => exact ⟨0, Nat.zero_le _, rfl, by simp [gasP], hB, out, hO1, hO2, HOP⟩
          case round =>
            clear hB hO1 hO2 HOP k1 f1 out
            obtain ⟨i, hi, rfl, rfl, hB, out, hO1, hO2, HOP⟩ := hrel
            obtain ⟨k1, f1⟩ := bcell hB
            have hgA := hO1.lt
            have hgB := hO2.lt
            by_cases hlt : i < c.lots.length
            · obtain ⟨bl, ol, rfl, hbl, g0, g1, g2, g3⟩ := HH.out.v.lots.lots hlt
              have e0 := (HBD.out.cell (p := ⟨bl, ol + i * 4, none⟩) hbl).trans g0
              have e1 := (HBD.out.cell (p := ⟨bl, ol + i * 4 + 1, none⟩) hbl).trans g1
              have e2 := (HBD.out.cell (p := ⟨bl, ol + i * 4 + 2, none⟩) hbl).trans g2
              have e3 := (HBD.out.cell (p := ⟨bl, ol + i * 4 + 3, none⟩) hbl).trans g3
              have hi0 : (0 : Int) ≤ (i : Int) := by omega
              have hi1 : (i : Int) < (c.lots.length : Int) := by omega
              have hi5 : (i : Int) < 5 := by omega
              have hoc := hO1.cell (i := i) (by omega)
              have hof := hO1.frozen i
              have hlc := hO2.cell (i := i) (by omega)
              have hblb : bl < w1.heap.size := by omega
              have hbl3 : bl < w.heap.size + 3 := by omega
              have hws3 : w.heap.size < w.heap.size + 3 := by omega
              have hblr : bl < wr.heap.size := by have := hB.size; omega
              have hwsr : w.heap.size < wr.heap.size := by have := hB.size; omega
              clear g0 g1 g2 g3
              have hbwr : b < wr.heap.size := by have := hB.size; omega
              have hwr : w.heap.size + 3 ≤ wr.heap.size := by have := hB.size; omega
              have hba := bits_and hm32 (show i < 5 by omega)
              have hcon := HLM.out i
              have SAME : (m.testBit i && turnedB c t left i) = false → OutP c ll s.warm s.greens t (i + 1) out ∧ gasP c ll t left (i + 1) = gasP c ll t left i := fun hno => by
                have hno' : (ll.contains i && turnedB c t left i) = false := by rw [hcon]; simp [hlt]; simpa using hno
                refine ⟨HOP.out.same fun hc => ?_, by rw [gasP_succ, hno']; simp⟩
                rw [hc, Bool.true_and] at hno'
                exact out_not ht (by rw [← hLT.out i hc]; exact hno')
              have SAME' := hide SAME
              have TURN : m.testBit i = true → turnedB c t left i = true → OutP c ll s.warm s.greens t (i + 1) (out.set i (min (nth out i) t)) ∧ gasP c ll t left (i + 1) = c.gas := fun hb1 ht1 => by
                have hc : ll.contains i = true := by rw [hcon]; simp [hlt, hb1]
                refine ⟨HOP.out.set hO1.len (by omega) hc ?_, by rw [gasP_succ, hc, ht1]; simp⟩
                rw [out_turned ht (by rw [← hLT.out i hc]; exact ht1), HOP.out i (by omega), if_pos hc, if_neg (by omega)]
              have TURN' := hide TURN
              clear SAME TURN hcon
              by_cases hb1 : m.testBit i = true
              · rw [if_pos hb1] at hba
                by_cases hfr : (nth c.lots i).frm ≤ (t : Int)
                · by_cases hle : nth left i ≤ 0
                  · obtain ⟨z1, z2⟩ : Hid (OutP c ll s.warm s.greens t (i + 1) (out.set i (min (nth out i) t))) ∧ Hid (gasP c ll t left (i + 1) = c.gas) := TURN'.out hb1 (by simp [turnedB, hfr, hle])
                    go_wp2_with fail
                    all_goals first
                    | (have e : min (nth out i) (t : Int) = (t : Int) := by omega
                       have z3 := hide z1.out
                       rw [e] at z3
                       first | exact ⟨⟨_, _, _, _, ⟨i + 1, by omega, by go_num, by rw [z2.out], (hB.setCell (by show _ ≤ _; simp only []; omega) _).alloc (by simpa using hwr) _, _, (hO1.set i ((t : Int))).below ((Below.refl _ _).alloc (Nat.le_refl _) _) (by simpa using hgA.2), (hO2.far (by show _ ≠ _; simp only []; omega) _).below ((Below.refl _ _).alloc (Nat.le_refl _) _) (by simpa using hgB.2), z3⟩, rfl, rfl, rfl, rfl⟩, by simp [intOf]; omega⟩ | exact ⟨⟨i + 1, by omega, by go_num, by rw [z2.out], (hB.setCell (by show _ ≤ _; simp only []; omega) _).alloc (by simpa using hwr) _, _, (hO1.set i ((t : Int))).below ((Below.refl _ _).alloc (Nat.le_refl _) _) (by simpa using hgA.2), (hO2.far (by show _ ≠ _; simp only []; omega) _).below ((Below.refl _ _).alloc (Nat.le_refl _) _) (by simpa using hgB.2), z3⟩, by simp [intOf]; omega⟩)
                    | (have e : min (nth out i) (t : Int) = nth out i := by omega
                       have z3 := hide z1.out
                       rw [e] at z3
                       first | exact ⟨⟨_, _, _, _, ⟨i + 1, by omega, by go_num, by rw [z2.out], (hB.setCell (by show _ ≤ _; simp only []; omega) _).alloc (by simpa using hwr) _, _, (hO1.set i (nth out i)).below ((Below.refl _ _).alloc (Nat.le_refl _) _) (by simpa using hgA.2), (hO2.far (by show _ ≠ _; simp only []; omega) _).below ((Below.refl _ _).alloc (Nat.le_refl _) _) (by simpa using hgB.2), z3⟩, rfl, rfl, rfl, rfl⟩, by simp [intOf]; omega⟩ | exact ⟨⟨i + 1, by omega, by go_num, by rw [z2.out], (hB.setCell (by show _ ≤ _; simp only []; omega) _).alloc (by simpa using hwr) _, _, (hO1.set i (nth out i)).below ((Below.refl _ _).alloc (Nat.le_refl _) _) (by simpa using hgA.2), (hO2.far (by show _ ≠ _; simp only []; omega) _).below ((Below.refl _ _).alloc (Nat.le_refl _) _) (by simpa using hgB.2), z3⟩, by simp [intOf]; omega⟩)
                  · have hle' : 0 < nth left i := by omega
                    obtain ⟨z1, z2⟩ : Hid (OutP c ll s.warm s.greens t (i + 1) out) ∧ Hid (gasP c ll t left (i + 1) = gasP c ll t left i) := SAME'.out (by simp [turnedB]; omega)
                    go_wp2_with fail
                    all_goals first | exact ⟨⟨_, _, _, _, ⟨i + 1, by omega, by go_num, by rw [z2.out], hB.alloc hwr _, out, hO1.below ((Below.refl wr.heap.size wr).alloc (Nat.le_refl _) _) hgA.2, hO2.below ((Below.refl wr.heap.size wr).alloc (Nat.le_refl _) _) hgB.2, z1.out⟩, rfl, rfl, rfl, rfl⟩, by simp [intOf]; omega⟩ | exact ⟨⟨i + 1, by omega, by go_num, by rw [z2.out], hB.alloc hwr _, out, hO1.below ((Below.refl wr.heap.size wr).alloc (Nat.le_refl _) _) hgA.2, hO2.below ((Below.refl wr.heap.size wr).alloc (Nat.le_refl _) _) hgB.2, z1.out⟩, by simp [intOf]; omega⟩
                · have hfr' : (t : Int) < (nth c.lots i).frm := by omega
                  obtain ⟨z1, z2⟩ : Hid (OutP c ll s.warm s.greens t (i + 1) out) ∧ Hid (gasP c ll t left (i + 1) = gasP c ll t left i) := SAME'.out (by simp [turnedB]; omega)
                  go_wp2_with fail
                  all_goals first | exact ⟨⟨_, _, _, _, ⟨i + 1, by omega, by go_num, by rw [z2.out], hB.alloc hwr _, out, hO1.below ((Below.refl wr.heap.size wr).alloc (Nat.le_refl _) _) hgA.2, hO2.below ((Below.refl wr.heap.size wr).alloc (Nat.le_refl _) _) hgB.2, z1.out⟩, rfl, rfl, rfl, rfl⟩, by simp [intOf]; omega⟩ | exact ⟨⟨i + 1, by omega, by go_num, by rw [z2.out], hB.alloc hwr _, out, hO1.below ((Below.refl wr.heap.size wr).alloc (Nat.le_refl _) _) hgA.2, hO2.below ((Below.refl wr.heap.size wr).alloc (Nat.le_refl _) _) hgB.2, z1.out⟩, by simp [intOf]; omega⟩
              · rw [if_neg hb1] at hba
                obtain ⟨z1, z2⟩ : Hid (OutP c ll s.warm s.greens t (i + 1) out) ∧ Hid (gasP c ll t left (i + 1) = gasP c ll t left i) := SAME'.out (by simp [hb1])
                go_wp2_with fail
                all_goals first | exact ⟨⟨_, _, _, _, ⟨i + 1, by omega, by go_num, by rw [z2.out], hB.alloc hwr _, out, hO1.below ((Below.refl wr.heap.size wr).alloc (Nat.le_refl _) _) hgA.2, hO2.below ((Below.refl wr.heap.size wr).alloc (Nat.le_refl _) _) hgB.2, z1.out⟩, rfl, rfl, rfl, rfl⟩, by simp [intOf]; omega⟩ | exact ⟨⟨i + 1, by omega, by go_num, by rw [z2.out], hB.alloc hwr _, out, hO1.below ((Below.refl wr.heap.size wr).alloc (Nat.le_refl _) _) hgA.2, hO2.below ((Below.refl wr.heap.size wr).alloc (Nat.le_refl _) _) hgB.2, z1.out⟩, by simp [intOf]; omega⟩
            · have hin : i = c.lots.length := by omega
              have hgas := gasP_all (left := left) HLN.out HLP.out
              rw [← hin] at hgas
              have HG := hide hgas
              have HIN := hide hin
              have hdec : decide (i < c.lots.length) = false := by simpa using hlt
              clear hgas
              by_cases hth : t = c.heat.length
              · subst hth
                go_wp2_with fail
                rw [Exit.noGoto_exit]
                go_wp2_with fail
                have hout : out = timesV c s := by
                  have h1 := HOP.out.done (fun q hq => by rw [HIN.out]; exact HLN.out q hq) hO1.len
                  rw [h1, timesV, HM.out, HLL.out]; rfl
                have hkn : Known wr.drew bm (timesV c) := HH.out.k.block ((HBD.out.trans (hB.mono (by omega))).block bm hltm)
                obtain ⟨wm, hrun, hkn', hgm⟩ := hkn.store s hS.ok
                rw [← hout] at hrun
                simp only [stVal, iv, lotsVal, HM.out] at hrun
                have HOUT := hide hout
                clear hout hkn
                have o0 := hO1.cell (i := 0) (by omega)
                have o1 := hO1.cell (i := 1) (by omega)
                have o2 := hO1.cell (i := 2) (by omega)
                have o3 := hO1.cell (i := 3) (by omega)
                have o4 := hO1.cell (i := 4) (by omega)
                have v0 := (k1 w.heap.size 0 (by omega)).trans t0
                have v1 := (k1 w.heap.size 1 (by omega)).trans t1
                have v2 := (k1 w.heap.size 2 (by omega)).trans t2
                have v3 := (k1 w.heap.size 3 (by omega)).trans t3
                have v4 := (k1 w.heap.size 4 (by omega)).trans t4
                have v5 := (k1 w.heap.size 5 (by omega)).trans t5
                have v6 := (k1 w.heap.size 6 (by omega)).trans t6
                have v7 := (k1 w.heap.size 7 (by omega)).trans t7
                have pb6' := (k1 b 6 hbr3).trans pb6
                have hRw := hRd.below hB (by omega)
                clear t0 t1 t2 t3 t4 t5 t6 t7 k1 f1 pb0 pb1 pb3 pb6
                apply wp_one
                case h =>
                  go_region
                  all_goals exact ⟨rfl, rfl, rfl⟩
                case hq =>
                have hszr := hB.size
                have hOm : OwnE 108 wm (w.heap.size + 1 + 1 + 1) (w.heap.size + 1 + 1 + 1) 5 out := hO1.block (hgm.block _ hO1.lt.2 (by simp; omega))
                have hRm : OwnE 108 wm (w.heap.size + 1) (w.heap.size + 1) 5 [0, 0, 0, 0, 0] := hRw.block (hgm.block _ hRw.lt.2 (by simp; omega))
                clear o0 o1 o2 o3 o4 v0 v1 v2 v3 v4 v5 v6 v7 pb6' hrun
                have x0 := hOm.cell (i := 0) (by omega)
                have x1 := hOm.cell (i := 1) (by omega)
                have x2 := hOm.cell (i := 2) (by omega)
                have x3 := hOm.cell (i := 3) (by omega)
                have x4 := hOm.cell (i := 4) (by omega)
                have r0 := hRm.cell (i := 0) (by omega)
                have g0 := hRm.frozen 0
                have r1 := hRm.cell (i := 1) (by omega)
                have g1 := hRm.frozen 1
                have r2 := hRm.cell (i := 2) (by omega)
                have g2 := hRm.frozen 2
                have r3 := hRm.cell (i := 3) (by omega)
                have g3 := hRm.frozen 3
                have r4 := hRm.cell (i := 4) (by omega)
                have g4 := hRm.frozen 4
                go_wp2_with fail
                have hZ := hRm.store5 (nth out 0) (nth out 1) (nth out 2) (nth out 3) (nth out 4)
                have hBZ := below_store5 (w := wm) (B := w.heap.size) (g := w.heap.size + 1) (by omega) (.int .i64 (nth out 0)) (.int .i64 (nth out 1)) (.int .i64 (nth out 2)) (.int .i64 (nth out 3)) (.int .i64 (nth out 4))
                generalize (((((wm.setCell ⟨w.heap.size + 1, 0, none⟩ (.int .i64 (nth out 0))).setCell ⟨w.heap.size + 1, 1, none⟩ (.int .i64 (nth out 1))).setCell ⟨w.heap.size + 1, 2, none⟩ (.int .i64 (nth out 2))).setCell ⟨w.heap.size + 1, 3, none⟩ (.int .i64 (nth out 3))).setCell ⟨w.heap.size + 1, 4, none⟩ (.int .i64 (nth out 4))) = wz at *
                have z0 := hZ.cell (i := 0) (by omega)
                have z1 := hZ.cell (i := 1) (by omega)
                have z2 := hZ.cell (i := 2) (by omega)
                have z3 := hZ.cell (i := 3) (by omega)
                have z4 := hZ.cell (i := 4) (by omega)
                simp only [nth5_0, nth5_1, nth5_2, nth5_3, nth5_4] at z0 z1 z2 z3 z4
                have hBr : Below w.heap.size w wr := HBD.out.trans (hB.mono (by omega))
                have hG : w.grownBy wz (some bm) := ⟨hBZ.os.trans (hgm.os.trans hBr.os), hBZ.tape.trans (hgm.tape.trans hBr.tape), hBZ.output.trans (hgm.output.trans hBr.output), by have h1 := hBr.size; have h2 := hgm.size; have h3 := hBZ.size; have h4 : wr.drew.heap.size = wr.heap.size := rfl; omega, fun q hq hne => (hBZ.block q hq).trans ((hgm.block q (by show q < wr.heap.size; have := hBr.size; omega) hne).trans (hBr.block q hq))⟩
                refine bodyPost_ret (v := lotsVal (timesV c s)) ?_ rfl ⟨rfl, hG, HH.out.grown (hkn'.block (hBZ.block bm hltm)) hG⟩
                rw [← HOUT.out]
                simp [results, Try.results87, go_sem, z0, z1, z2, z3, z4, lotsVal]
              · have hth1 : (t : Int) < (c.heat.length : Int) := by omega
                have hthb : ((t : Int) == (c.heat.length : Int)) = false := by simp; omega
                go_wp2_with fail
                go_loopw [14, 15, 103] (fun _ _ ii wr => ∃ k : Nat, k ≤ c.lots.length ∧ ii = .int .i64 k ∧ Below (w.heap.size + 3) w1 wr ∧ ∃ left', OwnE 108 wr (w.heap.size + 1 + 1 + 1) (w.heap.size + 1 + 1 + 1) 5 out ∧ OwnE 108 wr (w.heap.size + 1 + 1 + 1 + 1) (w.heap.size + 1 + 1 + 1 + 1) 5 left' ∧
                  Hid (LeftP c ll s.warm s.greens t k left') ∧ Hid (BdP left') ∧ Hid (∀ q, k ≤ q → nth left' q = nth left q)) (fun _ _ ii _ => c.lots.length - (intOf ii).toNat)
                case atStart => exact ⟨0, Nat.zero_le _, rfl, hB, left, hO1, hO2, HLP, HBP, fun _ _ => rfl⟩
                case round =>
                  clear hB hO1 hO2 k1 f1
                  obtain ⟨k, hk, rfl, hB, left', hO1, hO2, HLk, HBk, HSk⟩ := hrel
                  obtain ⟨k1, f1⟩ := bcell hB
                  have hwr : w.heap.size + 3 ≤ wr.heap.size := by have := hB.size; omega
                  have hgA := hO1.lt
                  have hgB := hO2.lt
                  have hbwr : b < wr.heap.size := by omega
                  have hwsr : w.heap.size < wr.heap.size := by omega
                  have hws3 : w.heap.size < w.heap.size + 3 := by omega
                  by_cases hltk : k < c.lots.length
                  · obtain ⟨bl, ol, rfl, hbl, g0, g1, g2, g3⟩ := HH.out.v.lots.lots hltk
                    have e0 := (HBD.out.cell (p := ⟨bl, ol + k * 4, none⟩) hbl).trans g0
                    have e1 := (HBD.out.cell (p := ⟨bl, ol + k * 4 + 1, none⟩) hbl).trans g1
                    have e2 := (HBD.out.cell (p := ⟨bl, ol + k * 4 + 2, none⟩) hbl).trans g2
                    have e3 := (HBD.out.cell (p := ⟨bl, ol + k * 4 + 3, none⟩) hbl).trans g3
                    have hk0 : (0 : Int) ≤ (k : Int) := by omega
                    have hk1 : (k : Int) < (c.lots.length : Int) := by omega
                    have hk5 : (k : Int) < 5 := by omega
                    have hlc := hO2.cell (i := k) (by omega)
                    have hlf := hO2.frozen k
                    have hbl3 : bl < w.heap.size + 3 := by omega
                    have hblr : bl < wr.heap.size := by omega
                    clear g0 g1 g2 g3
                    by_cases hfr : (nth c.lots k).frm ≤ (t : Int)
                    · by_cases hle : 0 < nth left' k
                      · obtain ⟨bh, oh, rfl, hbh, hch⟩ := HH.out.v.heat.ints (i := t) (by omega)
                        have hch1 := (HBD.out.cell (p := ⟨bh, oh + t, none⟩) hbh).trans hch
                        go_wp2_with fail
                        have hBx : Below (w.heap.size + 3) w1 (wr.alloc (.cells #[.int .i64 (nth c.lots k).hold, .int .i64 (nth c.lots k).frm, .int .i64 (nth c.lots k).green.lo, .int .i64 (nth c.lots k).green.hi] 57)) := hB.alloc hwr _
                        have hO1x := hO1.below ((Below.refl wr.heap.size wr).alloc (Nat.le_refl _) (.cells #[.int .i64 (nth c.lots k).hold, .int .i64 (nth c.lots k).frm, .int .i64 (nth c.lots k).green.lo, .int .i64 (nth c.lots k).green.hi] 57)) hgA.2
                        have hO2x := hO2.below ((Below.refl wr.heap.size wr).alloc (Nat.le_refl _) (.cells #[.int .i64 (nth c.lots k).hold, .int .i64 (nth c.lots k).frm, .int .i64 (nth c.lots k).green.lo, .int .i64 (nth c.lots k).green.hi] 57)) hgB.2
                        have hszx : wr.heap.size < (wr.alloc (.cells #[.int .i64 (nth c.lots k).hold, .int .i64 (nth c.lots k).frm, .int .i64 (nth c.lots k).green.lo, .int .i64 (nth c.lots k).green.hi] 57)).heap.size := by simp
                        generalize (wr.alloc (.cells #[.int .i64 (nth c.lots k).hold, .int .i64 (nth c.lots k).frm, .int .i64 (nth c.lots k).green.lo, .int .i64 (nth c.lots k).green.hi] 57)) = wx at *
                        obtain ⟨kx, fx⟩ := bcell hBx
                        have y0 := (kx b 0 hbr3).trans pb0
                        have y1 := (kx w.heap.size 1 hws3).trans t1
                        have y2 := (kx bh (oh + t) (by omega)).trans hch1
                        have y3 := hO2x.cell (i := k) (by omega)
                        have y4 := hO2x.frozen k
                        have hhb := hs.heat t
                        have hgb' := gasP_bd hs.gas (c := c) (l := ll) t i left
                        have hwb := hS.wb
                        have hlb := HBk.out k
                        clear kx fx k1 f1
                        go_region
                        all_goals go_wp2_with fail
                        all_goals
                          rw [IntWalk.wrap64_in (nth c.heat t + s.warm + gasP c ll t left c.lots.length) (by rw [HIN.out] at hgb'; omega), IntWalk.wrap64_in _ (by rw [HIN.out] at hgb'; omega)]
                          refine ⟨⟨k + 1, by omega, by go_num, (hBx.setCell (by show _ ≤ _; simp only []; omega) _).drew, _, (hO1x.far (by show _ ≠ _; simp only []; omega) _).block rfl, (hO2x.set k _).block rfl, HLk.out.set (by rw [hO2x.len]; omega) (fun hc => ?_), HBk.out.set (by rw [hO2x.len]; omega) (by rw [HIN.out] at hgb'; omega), fun q hq => ?_⟩, by simp [intOf]; omega⟩
                          · have h1 := HLk.out k hc
                            rw [if_neg (by omega)] at h1
                            rw [takeAt, if_pos (by rw [← h1, hc]; simp; omega), ← h1, ← HG.out, HIN.out]
                            omega
                          · rw [nth_set (by rw [hO2x.len]; omega), if_neg (by omega)]
                            exact HSk.out q (by omega)
                      · have hle' : nth left' k ≤ 0 := by omega
                        have TK := hide (show ll.contains k = true → takeAt c ll s.warm t (leftL c ll s.warm s.greens t) k = nth (leftL c ll s.warm s.greens t) k from fun hc => by
                          have h1 := HLk.out k hc
                          rw [if_neg (by omega)] at h1
                          rw [takeAt, if_neg (by simp; omega)])
                        go_wp2_with fail
                        exact ⟨⟨k + 1, by omega, by go_num, hB.alloc hwr _, left', hO1.below ((Below.refl wr.heap.size wr).alloc (Nat.le_refl _) _) hgA.2, hO2.below ((Below.refl wr.heap.size wr).alloc (Nat.le_refl _) _) hgB.2, HLk.out.same (fun hc => TK.out hc), HBk.out, fun q hq => HSk.out q (by omega)⟩, by simp [intOf]; omega⟩
                    · have hfr' : (t : Int) < (nth c.lots k).frm := by omega
                      have TK := hide (show ll.contains k = true → takeAt c ll s.warm t (leftL c ll s.warm s.greens t) k = nth (leftL c ll s.warm s.greens t) k from fun hc => by
                        have h1 := HLk.out k hc
                        rw [if_neg (by omega)] at h1
                        rw [takeAt, if_neg (by simp; omega)])
                      go_wp2_with fail
                      exact ⟨⟨k + 1, by omega, by go_num, hB.alloc hwr _, left', hO1.below ((Below.refl wr.heap.size wr).alloc (Nat.le_refl _) _) hgA.2, hO2.below ((Below.refl wr.heap.size wr).alloc (Nat.le_refl _) _) hgB.2, HLk.out.same (fun hc => TK.out hc), HBk.out, fun q hq => HSk.out q (by omega)⟩, by simp [intOf]; omega⟩
                  · have hdk : decide (k < c.lots.length) = false := by simpa using hltk
                    go_wp2_with fail
                    rw [Exit.noGoto_normal]
                    go_wp2_with fail
                    go_roundw
                    case rel =>
                      have hkn : k = c.lots.length := by omega
                      subst hkn
                      exact ⟨t + 1, by omega, by go_num, hB, out, left', hO1, hO2, (HIN.out ▸ HOP.out).next HLN.out, HLk.out.next HLN.out (by rw [hS.len]; omega), HBk.out⟩
                    case measure => simp [intOf]; omega
end Go.Proofs.Ytbkknliggnhpcaa
/- What an argument reads as: a cargo by value is data in memory; what the row asks at the end. -/
namespace Go.Proofs.Ytbkknliggnhpcaa
open Go.RowKit Go.WideShapes Go.ChangeShapes Go.Deep Go.Joins

theorem list_of {α : Type} [Inhabited α] {Q : Nat → α → Prop} : ∀ {len : Nat}, (∀ i, i < len → ∃ x, Q i x) → ∃ xs : List α, xs.length = len ∧ ∀ i, i < len → Q i (nth xs i)
  | 0, _ => ⟨[], rfl, fun i hi => absurd hi (by omega)⟩
  | n + 1, h => by
    obtain ⟨xs, hl, hq⟩ := list_of (len := n) (fun i hi => h i (by omega))
    obtain ⟨x, hx⟩ := h n (by omega)
    refine ⟨xs ++ [x], by simp [hl], fun i hi => ?_⟩
    by_cases hin : i < n
    · rw [show nth (xs ++ [x]) i = nth xs i by simp [nth, List.getElem?_append_left (show i < xs.length by omega)]]; exact hq i hin
    · obtain rfl : i = xs.length := by omega
      rw [show nth (xs ++ [x]) xs.length = x by simp [nth], hl]; exact hx
theorem cell_spot {w : World} {a : Addr} {v : Value} (h : w.cell? a = some v) : a.spot = none ∧ a.block < w.heap.size := by
  unfold World.cell? at h
  split at h
  · rename_i c t f hc
    have hlt := (Array.getElem?_eq_some_iff.1 hc).1
    split at h
    · cases h
    · rename_i hs
      exact ⟨by cases hsp : a.spot <;> simp_all, hlt⟩
  · cases h
theorem row_of {w : World} {a : Addr} {len k : Nat} (hk : 0 < k) {f : Nat → Value} (h : ∀ i, i < len → ∃ cs, w.cells? 0 (a.add (i * k)) k = some cs ∧ ∀ j, j < k → cs[j]? = some (f (i * k + j))) : Row w w.heap.size (some a) (len * k) f := fun hm => by
  have hlen : 0 < len := Nat.pos_of_ne_zero (fun e => by subst e; simp at hm)
  have hc : ∀ i, i < len → ∀ j, j < k → w.cell? ((a.add (i * k)).add j) = some (f (i * k + j)) := fun i hi j hj => by
    obtain ⟨cs, h1, h2⟩ := h i hi
    obtain ⟨_, _, h4⟩ := World.cells?_some h1
    rw [h4 j hj, h2 j hj]
  have h0 := hc 0 hlen 0 hk
  obtain ⟨hs, hb⟩ := cell_spot h0
  simp only [Nat.zero_mul, Addr.add, if_true] at hs hb
  obtain ⟨b, off, sp⟩ := a
  simp only at hs hb
  subst hs
  refine ⟨b, off, rfl, hb, fun j hj => ?_⟩
  have h1 : j / k < len := by rw [Nat.div_lt_iff_lt_mul hk]; exact hj
  have h2 := hc (j / k) h1 (j % k) (Nat.mod_lt _ hk)
  rw [Nat.div_add_mod' j k] at h2
  rw [← h2, Addr.add_lit, Addr.add_lit, Nat.add_assoc, Nat.div_add_mod' j k]
section
variable {H : Type} {enc : TypeId × Value → H} {w : World} {spare : Nat → Bool} {held : Bool} {n : Nat}
theorem at_of_take {cs : List Value} {o : Nat} {v : Value} (h : (cs.drop o).take 1 = [v]) : cs[o]? = some v := by
  have : (cs.drop o)[0]? = some v := by
    cases hd : cs.drop o with
    | nil => rw [hd] at h; simp at h
    | cons x l => rw [hd] at h; simp at h; simp [h]
  simpa using this
theorem Try.cellsBool : Try.prog.cellsOf 4 = 1 := by kernel_rfl
theorem int_at {cs : List Value} {o : Nat} {x : DataW H × List MemPlace} (h : DataW.trod enc Try.prog w 0 spare held n 3 ((cs.drop o).take (Try.prog.cellsOf 3)) = some x) : ∃ i : Int, cs[o]? = some (.int .i64 i) ∧ (Lit.int .i64 i).wf = true := by
  rw [Try.cellsInt] at h
  obtain ⟨i, h1, _, h2⟩ := DataW.trod_int Try.underlying3 h
  exact ⟨i, at_of_take h1, h2⟩
theorem bool_at {cs : List Value} {o : Nat} {x : DataW H × List MemPlace} (h : DataW.trod enc Try.prog w 0 spare held n 4 ((cs.drop o).take (Try.prog.cellsOf 4)) = some x) : ∃ i : Bool, cs[o]? = some (.bool i) := by
  rw [Try.cellsBool] at h
  obtain ⟨i, h1, _⟩ := DataW.trod_bool Try.underlying4 h
  exact ⟨i, at_of_take h1⟩
theorem Try.cellsSpan : Try.prog.cellsOf 32 = 2 := by kernel_rfl
theorem Try.cellsLot : Try.prog.cellsOf 57 = 4 := by kernel_rfl
theorem Try.cellsSeen : Try.prog.cellsOf 80 = 3 := by kernel_rfl
theorem Try.cellsCargo : Try.prog.cellsOf 27 = 5 := by kernel_rfl
theorem span_at {cs : List Value} {o : Nat} {x : DataW H × List MemPlace} (h : DataW.trod enc Try.prog w 0 spare held n 32 ((cs.drop o).take (Try.prog.cellsOf 32)) = some x) : ∃ s : Span, cs[o]? = some (.int .i64 s.lo) ∧ cs[o + 1]? = some (.int .i64 s.hi) := by
  rw [Try.cellsSpan] at h
  obtain ⟨y0, y1, m, _, _, h0, h1⟩ := trod_struct2 Try.underlying32 h
  obtain ⟨lo, e0, _⟩ := int_at (o := 0) h0
  obtain ⟨hi, e1, _⟩ := int_at (o := 1) h1
  refine ⟨⟨lo, hi⟩, ?_, ?_⟩
  · have := e0; simpa [List.getElem?_take, List.getElem?_drop] using this
  · have := e1; simpa [List.getElem?_take, List.getElem?_drop] using this
theorem ints_open {v : Value} {x : DataW H × List MemPlace} (h : DataW.trod enc Try.prog w 0 spare held n 22 [v] = some x) : ∃ A xs cap, v = .slice A xs.length cap ∧ Row w w.heap.size A xs.length (intsF xs) ∧ xs.length ≤ cap ∧ cap ≤ maxLen := by
  rcases open_slice Try.underlying22 h with ⟨hcs, _⟩ | ⟨a, len, cap, m, n', D, Pl, hcs, _, hl, hm, hmm, _, hi⟩
  · cases hcs; exact ⟨none, [], 0, rfl, Row.nil_, Nat.le_refl _, by simp [maxLen]⟩
  · cases hcs
    have hle : len ≤ m := by rw [hmm]; split <;> omega
    rw [Try.cellsInt] at hi
    obtain ⟨xs, hxl, hx⟩ := list_of (α := Int) (Q := fun i x => ∃ cs, w.cells? 0 (a.add (i * 1)) 1 = some cs ∧ cs[0]? = some (.int .i64 x)) (len := len) (fun i hi' => by
      obtain ⟨cs, h1, h2⟩ := hi i (by omega)
      obtain ⟨k, e, _⟩ := DataW.trod_int Try.underlying3 h2
      exact ⟨k, cs, h1, by rw [e]; rfl⟩)
    subst hxl
    refine ⟨some a, xs, cap, rfl, ?_, hl, hm⟩
    have := row_of (w := w) (a := a) (len := xs.length) (k := 1) (by omega) (f := intsF xs) (fun i hi' => by
      obtain ⟨cs, h1, h2⟩ := hx i hi'
      refine ⟨cs, h1, fun j hj => ?_⟩
      obtain rfl : j = 0 := by omega
      rw [h2, Nat.mul_one, Nat.add_zero]; rfl)
    rwa [Nat.mul_one] at this
theorem spans_open {v : Value} {x : DataW H × List MemPlace} (h : DataW.trod enc Try.prog w 0 spare held n 23 [v] = some x) : ∃ A xs cap, v = .slice A xs.length cap ∧ Row w w.heap.size A (xs.length * 2) (spansF xs) ∧ xs.length ≤ cap ∧ cap ≤ maxLen := by
  rcases open_slice Try.underlying23 h with ⟨hcs, _⟩ | ⟨a, len, cap, m, n', D, Pl, hcs, _, hl, hm, hmm, _, hi⟩
  · cases hcs; exact ⟨none, [], 0, rfl, Row.nil_, Nat.le_refl _, by simp [maxLen]⟩
  · cases hcs
    have hle : len ≤ m := by rw [hmm]; split <;> omega
    rw [Try.cellsSpan] at hi
    obtain ⟨xs, hxl, hx⟩ := list_of (α := Span) (Q := fun i x => ∃ cs, w.cells? 0 (a.add (i * 2)) 2 = some cs ∧ cs[0]? = some (.int .i64 x.lo) ∧ cs[1]? = some (.int .i64 x.hi)) (len := len) (fun i hi' => by
      obtain ⟨cs, h1, h2⟩ := hi i (by omega)
      obtain ⟨y0, y1, m, _, _, h3, h4⟩ := trod_struct2 Try.underlying32 h2
      obtain ⟨lo, e0, _⟩ := int_at (o := 0) h3
      obtain ⟨hi, e1, _⟩ := int_at (o := 1) h4
      exact ⟨⟨lo, hi⟩, cs, h1, e0, e1⟩)
    subst hxl
    refine ⟨some a, xs, cap, rfl, row_of (by omega) (fun i hi' => ?_), hl, hm⟩
    obtain ⟨cs, h1, h2, h3⟩ := hx i hi'
    refine ⟨cs, h1, fun j hj => ?_⟩
    obtain rfl | rfl : j = 0 ∨ j = 1 := by omega
    · rw [h2, spansF, if_pos (by omega), show (i * 2 + 0) / 2 = i by omega]
    · rw [h3, spansF, if_neg (by omega), show (i * 2 + 1) / 2 = i by omega]
theorem lots_open {v : Value} {x : DataW H × List MemPlace} (h : DataW.trod enc Try.prog w 0 spare held n 24 [v] = some x) : ∃ A xs cap, v = .slice A xs.length cap ∧ Row w w.heap.size A (xs.length * 4) (lotsF xs) ∧ xs.length ≤ cap ∧ cap ≤ maxLen := by
  rcases open_slice Try.underlying24 h with ⟨hcs, _⟩ | ⟨a, len, cap, m, n', D, Pl, hcs, _, hl, hm, hmm, _, hi⟩
  · cases hcs; exact ⟨none, [], 0, rfl, Row.nil_, Nat.le_refl _, by simp [maxLen]⟩
  · cases hcs
    have hle : len ≤ m := by rw [hmm]; split <;> omega
    rw [Try.cellsLot] at hi
    obtain ⟨xs, hxl, hx⟩ := list_of (α := Lot) (Q := fun i x => ∃ cs, w.cells? 0 (a.add (i * 4)) 4 = some cs ∧ cs[0]? = some (.int .i64 x.hold) ∧ cs[1]? = some (.int .i64 x.frm) ∧ cs[2]? = some (.int .i64 x.green.lo) ∧ cs[3]? = some (.int .i64 x.green.hi)) (len := len) (fun i hi' => by
      obtain ⟨cs, h1, h2⟩ := hi i (by omega)
      obtain ⟨y0, y1, y2, m, _, _, h3, h4, h5⟩ := trod_struct3 Try.underlying57 h2
      obtain ⟨e, e0, _⟩ := int_at (o := 0) h3
      obtain ⟨f, e1, _⟩ := int_at (o := 1) h4
      obtain ⟨s, e2, e3⟩ := span_at (o := 2) h5
      exact ⟨⟨e, f, s⟩, cs, h1, e0, e1, e2, e3⟩)
    subst hxl
    refine ⟨some a, xs, cap, rfl, row_of (by omega) (fun i hi' => ?_), hl, hm⟩
    obtain ⟨cs, h1, h2, h3, h4, h5⟩ := hx i hi'
    refine ⟨cs, h1, fun j hj => ?_⟩
    obtain rfl | rfl | rfl | rfl : j = 0 ∨ j = 1 ∨ j = 2 ∨ j = 3 := by omega
    · rw [h2, lotsF, show (i * 4 + 0) % 4 = 0 by omega, show (i * 4 + 0) / 4 = i by omega]; rfl
    · rw [h3, lotsF, show (i * 4 + 1) % 4 = 1 by omega, show (i * 4 + 1) / 4 = i by omega]; rfl
    · rw [h4, lotsF, show (i * 4 + 2) % 4 = 2 by omega, show (i * 4 + 2) / 4 = i by omega]; rfl
    · rw [h5, lotsF, show (i * 4 + 3) % 4 = 3 by omega, show (i * 4 + 3) / 4 = i by omega]; rfl
theorem seen_open {v : Value} {x : DataW H × List MemPlace} (h : DataW.trod enc Try.prog w 0 spare held n 25 [v] = some x) : ∃ A xs cap, v = .slice A xs.length cap ∧ Row w w.heap.size A (xs.length * 3) (seenF xs) ∧ xs.length ≤ cap ∧ cap ≤ maxLen := by
  rcases open_slice Try.underlying25 h with ⟨hcs, _⟩ | ⟨a, len, cap, m, n', D, Pl, hcs, _, hl, hm, hmm, _, hi⟩
  · cases hcs; exact ⟨none, [], 0, rfl, Row.nil_, Nat.le_refl _, by simp [maxLen]⟩
  · cases hcs
    have hle : len ≤ m := by rw [hmm]; split <;> omega
    rw [Try.cellsSeen] at hi
    obtain ⟨xs, hxl, hx⟩ := list_of (α := Seen) (Q := fun i x => ∃ cs, w.cells? 0 (a.add (i * 3)) 3 = some cs ∧ cs[0]? = some (.int .i64 x.lot) ∧ cs[1]? = some (.int .i64 x.hour) ∧ cs[2]? = some (.bool x.turned)) (len := len) (fun i hi' => by
      obtain ⟨cs, h1, h2⟩ := hi i (by omega)
      obtain ⟨y0, y1, y2, m, _, _, h3, h4, h5⟩ := trod_struct3 Try.underlying80 h2
      obtain ⟨e, e0, _⟩ := int_at (o := 0) h3
      obtain ⟨f, e1, _⟩ := int_at (o := 1) h4
      obtain ⟨s, e2⟩ := bool_at (o := 2) h5
      exact ⟨⟨e, f, s⟩, cs, h1, e0, e1, e2⟩)
    subst hxl
    refine ⟨some a, xs, cap, rfl, row_of (by omega) (fun i hi' => ?_), hl, hm⟩
    obtain ⟨cs, h1, h2, h3, h4⟩ := hx i hi'
    refine ⟨cs, h1, fun j hj => ?_⟩
    obtain rfl | rfl | rfl : j = 0 ∨ j = 1 ∨ j = 2 := by omega
    · rw [h2, seenF, show (i * 3 + 0) % 3 = 0 by omega, show (i * 3 + 0) / 3 = i by omega]; rfl
    · rw [h3, seenF, show (i * 3 + 1) % 3 = 1 by omega, show (i * 3 + 1) / 3 = i by omega]; rfl
    · rw [h4, seenF, show (i * 3 + 2) % 3 = 2 by omega, show (i * 3 + 2) / 3 = i by omega]; rfl
theorem one_at {cs : List Value} {o : Nat} {t : TypeId} {x : DataW H × List MemPlace} (hc : Try.prog.cellsOf t = 1) (h : DataW.trod enc Try.prog w 0 spare held n t ((cs.drop o).take (Try.prog.cellsOf t)) = some x) {v : Value} (hv : cs[o]? = some v) : DataW.trod enc Try.prog w 0 spare held n t [v] = some x := by
  rw [hc] at h
  have : (cs.drop o).take 1 = [v] := by
    have hl := (List.getElem?_eq_some_iff.1 hv).1
    rw [List.drop_eq_getElem_cons hl]
    have := (List.getElem?_eq_some_iff.1 hv).2
    simp [this]
  rwa [this] at h
set_option maxRecDepth 100000 in
theorem cargo_open {r : Reach} {b0 : Nat} {v : Value} {d : DataW H} {p : List MemPlace} (hv : Value.okWide Try.prog w r b0 27 v) (h : DataW.Trod enc Try.prog w 0 spare held 27 v d p) :
    ∃ c A1 A2 A3 A4 c1 c2 c3 c4, v = cargoVal c A1 A2 A3 A4 c1 c2 c3 c4 ∧ CargoV w w.heap.size c A1 A2 A3 A4 c1 c2 c3 c4 := by
  obtain ⟨cs, rfl, hsz⟩ := okWide_struct Try.underlying27 hv
  obtain ⟨l⟩ := cs
  match l, hsz.trans Try.cellsCargo with
  | [x0, x1, x2, x3, x4], _ =>
    obtain ⟨fuel, hf⟩ := h
    obtain ⟨xs, n, _, hx, _, hlen, hg⟩ := DataW.trod_struct Try.underlying27 hf
    have g0 := hg 0 _ rfl
    have g1 := hg 1 _ rfl
    have g2 := hg 2 _ rfl
    have g3 := hg 3 _ rfl
    have g4 := hg 4 _ rfl
    match xs, hlen with
    | [y0, y1, y2, y3, y4], _ =>
      obtain ⟨A1, l1, c1, rfl, r1, m1, k1⟩ := ints_open (one_at (o := 0) (by kernel_rfl) g0 rfl)
      obtain ⟨i, e1, _⟩ := int_at (o := 1) g1
      obtain ⟨A2, l2, c2, rfl, r2, m2, k2⟩ := spans_open (one_at (o := 2) (by kernel_rfl) g2 rfl)
      obtain ⟨A3, l3, c3, rfl, r3, m3, k3⟩ := lots_open (one_at (o := 3) (by kernel_rfl) g3 rfl)
      obtain ⟨A4, l4, c4, rfl, r4, m4, k4⟩ := seen_open (one_at (o := 4) (by kernel_rfl) g4 rfl)
      cases e1
      exact ⟨⟨l1, i, l2, l3, l4⟩, A1, A2, A3, A4, c1, c2, c3, c4, rfl, ⟨r1, r2, r3, r4, ⟨m1, k1⟩, ⟨m2, k2⟩, ⟨m3, k3⟩, ⟨m4, k4⟩⟩⟩
end
end Go.Proofs.Ytbkknliggnhpcaa
/- The row's last step: a law that returned true, and below whose call's memory nothing has turned, leaves its arguments as they were. -/
namespace Go.Proofs.Ytbkknliggnhpcaa
open Go.RowKit Go.WideShapes Go.ChangeShapes

section
variable {H : Type} {enc : TypeId × Value → H} {P : Program}
theorem post_of_below {f : Func} {s : ChangeSpec} {apart fresh handsOn again : Bool} {W W' : World} {args : Array Value} {v : Value} {ds gs : List (DataW H)} {before pa pv : List MemPlace}
    (hW : DataW.Whole enc P f.params.toList s.vars apart W args.toList ds gs before)
    (hres : ∀ (b : Nat) (sp : Nat → Bool) (hd : Bool), DataW.TrodAll enc P W' b sp hd f.resultTypes.toList (v.resultList f.resultTypes.size) (s.fn H (ds ++ gs)).results [])
    (hargs : ∀ sp : Nat → Bool, (∀ p ∈ before, sp p.block = true) → DataW.TrodAll enc P W' 0 sp true f.params.toList args.toList (s.fn H (ds ++ gs)).args pa)
    (hvars : ∀ sp : Nat → Bool, (∀ p ∈ before, sp p.block = true) → DataW.TrodVars enc P W' sp s.vars (s.fn H (ds ++ gs)).vars pv)
    (hps : before = pa ++ pv) (hb : Below W.heap.size W W')
    (hok : ∀ (j : Nat) (t : TypeId) (r : Value), f.resultTypes[j]? = some t → (v.resultList f.resultTypes.size)[j]? = some r → Value.okWide P W' .any 0 t r) :
    s.post enc P f apart fresh handsOn again W args v W' := by
  have hlt : ∀ p ∈ before, p.block < W.heap.size := fun p hp => hW.lt p hp
  have hold : ∀ p ∈ before, (fun b => decide (b < W.heap.size)) p.block = true := fun p hp => by simpa using hlt p hp
  refine ⟨ds, gs, before, [], pa, pv, hW, hres _ _ _, hargs _ hold, hvars _ hold, World.keptBut_mono (fun p hp => ⟨hp, ?_⟩) (hb.frame (· ∈ before)), fun _ => ?_⟩
  · rw [hps, List.mem_append] at hp
    exact Or.inr hp
  · obtain ⟨_, _, _, _, _, hz, hn⟩ := hW
    refine ⟨hok, _, _, ([] ++ pa) ++ pv, ⟨[] ++ pa, pv, trodAll_append (hargs _ (fun _ _ => rfl)) (hres _ _ _), hvars _ (fun _ _ => rfl), rfl, ?_, ?_⟩, ?_⟩
    · intro b off hp
      have hin : MemPlace.cell b off ∈ before := by rw [hps]; simpa using hp
      rw [hb.frozen (hlt _ hin)]
      exact hz b off hin
    · intro ha
      have := hn ha
      rw [hps] at this
      simpa using this
    · intro p hp _
      rw [hps]
      simpa using hp
end
theorem trodAll_stays {P : Program} (hl : laidOutB P = true) {H : Type} {enc : TypeId × Value → H} {W W' : World} (hb : Below W.heap.size W W') {sp : Nat → Bool} : ∀ {ts : List TypeId} {vs : List Value} {ds : List (DataW H)} {ps : List MemPlace}, DataW.TrodAll enc P W 0 (fun _ => true) true ts vs ds ps →
    (∀ p ∈ ps, p.block < W.heap.size) → (ts.all fun t => P.readableRec t && decide (t < P.types.size)) = true → (∀ p ∈ ps, sp p.block = true) → DataW.TrodAll enc P W' 0 sp true ts vs ds ps
  | [], vs, ds, ps, h, _, _, _ => by
    obtain ⟨rfl, rfl, rfl⟩ := trodAll_nil h
    exact trodAll_mk0
  | t :: ts, vs, ds, ps, h, hlt, hr, hsp => by
    obtain ⟨v, vs', d, ds', p, q, rfl, rfl, rfl, h1, h2⟩ := trodAll_cons h
    simp only [List.all_cons, Bool.and_eq_true, decide_eq_true_eq] at hr
    exact trodAll_cons_mk (WideElems.Trod_stays hl hr.1.1 hr.1.2 h1 (fun x hx => hb.same (hlt x (by simp [hx]))) (fun x hx => hsp x (by simp [hx])))
      (trodAll_stays hl hb h2 (fun x hx => hlt x (by simp [hx])) hr.2 (fun x hx => hsp x (by simp [hx])))
end Go.Proofs.Ytbkknliggnhpcaa
