/- The map from places to a number: every entry says the same. -/
import Derived.Test.YtllmahcanipcpaaKI
import Derived.Maps.OwnOps
import Derived.DeepKeys4
set_option linter.unusedVariables false
set_option linter.unusedSimpArgs false
namespace Go.Proofs.Ytllmahcanipcpaa
open Go.RowKit

def wfI (x : Int) : Prop := (Lit.int .i64 x).wf = true
theorem wfI_iff (x : Int) : wfI x ↔ -9223372036854775808 ≤ x ∧ x ≤ 9223372036854775807 := by
  unfold wfI
  constructor
  · intro h
    have h' : IntKind.i64.min ≤ x ∧ x ≤ 9223372036854775807 := by simpa [Lit.wf, IntKind.signed, IntKind.bits] using h
    have e : IntKind.i64.min = -9223372036854775808 := by decide
    omega
  · intro h; exact WalkArith.wf_i64 h

def plVal (s : List Int) : Value := .agg #[iv (nth s 0), iv (nth s 1), iv (nth s 2), iv (nth s 3)]
structure PlOk (s : List Int) : Prop where
  len : s.length = 4
  wf : ∀ i, wfI (nth s i)
theorem plVal_inj {s t : List Int} (hs : s.length = 4) (ht : t.length = 4) (h : plVal s = plVal t) : s = t := by
  match s, t, hs, ht with
  | [a, b, c, d], [a', b', c', d'], _, _ => simp [plVal, nth] at h; simp; exact h
theorem Try.laidOut : laidOutB Try.prog = true := by kernel_rfl
theorem Try.rowPl : (86 : TypeId) < Try.prog.types.size := of_decide_eq_true (by kernel_rfl)
theorem Try.widePl : (match Try.prog.underlying 86 with | some (.array _ _) | some (.struct _) => true | _ => false) = true := by kernel_rfl
set_option maxRecDepth 100000 in
theorem Try.keyPl : WideMaps.KeyLaw Try.prog 86 := deep_law_laid Try.laidOut (m := 3) (by omega) Try.rowPl (by kernel_rfl) Try.widePl
theorem Try.keyedPl : Maps.Keyed Try.prog 86 := Maps.Keyed.of_law Try.keyPl
theorem Try.cellsPl : Try.prog.cellsOf 86 = 4 := by kernel_rfl
theorem Try.cellsInt : Try.prog.cellsOf 3 = 1 := by kernel_rfl
theorem Try.sizeTypes : ∃ d, Try.prog.types.size + 1 = d + 2 := ⟨Try.prog.types.size - 1, by have h : 3 ≤ Try.prog.types.size := of_decide_eq_true (by kernel_rfl); omega⟩
theorem Try.keyTypePl : Try.prog.keyType 86 = true := by kernel_rfl
theorem lits_int (d : Nat) {x : Int} (h : wfI x) : Try.prog.keyLits (d + 1) 3 [iv x] = some [.int .i64 x] := by
  have h' : (Lit.int .i64 x).wf = true := h
  unfold Program.keyLits
  simp [Try.underlying3, h']
theorem lits_pl (d : Nat) {a b c e : Int} (ha : wfI a) (hb : wfI b) (hc : wfI c) (he : wfI e) :
    Try.prog.keyLits (d + 2) 86 [iv a, iv b, iv c, iv e] = some [.int .i64 a, .int .i64 b, .int .i64 c, .int .i64 e] := by
  have e4 : List.range 4 = [0, 1, 2, 3] := by decide
  unfold Program.keyLits
  rw [Try.underlying86]
  simp only [Try.cellsPl, Try.cellsInt, e4, List.length_cons, List.length_nil, List.mapM_cons, List.mapM_nil]
  simp [lits_int d ha, lits_int d hb, lits_int d hc, lits_int d he]
theorem plVal_key (s : List Int) (h : PlOk s) : ∃ l, keyOf Try.prog 86 (plVal s) = some l := by
  obtain ⟨d, hd⟩ := Try.sizeTypes
  have hu := Try.underlying86
  have hf : (plVal s).formed Try.prog 86 = true := by simp [plVal, Value.formed, hu, Try.cellsPl]
  have hls : Try.prog.keyLits (d + 2) 86 (plVal s).cells.toList = some [.int .i64 (nth s 0), .int .i64 (nth s 1), .int .i64 (nth s 2), .int .i64 (nth s 3)] := lits_pl d (h.wf 0) (h.wf 1) (h.wf 2) (h.wf 3)
  refine ⟨.string (keyBytes [.int .i64 (nth s 0), .int .i64 (nth s 1), .int .i64 (nth s 2), .int .i64 (nth s 3)]), ?_⟩
  unfold keyOf
  rw [hu]
  simp only [Try.keyTypePl, hf, hd, hls]
  simp

/-- Block b is a map of which every entry says V. -/
def Known (w : World) (b : Nat) (V : List Int → Int) : Prop :=
  ∃ es clock, w.heap[b]? = some (.map es clock) ∧ ∀ e ∈ es.toList, ∃ s : List Int, PlOk s ∧ e.key = plVal s ∧ e.val = iv (V s)

section
variable {w w' : World} {b : Nat} {V : List Int → Int}
theorem Known.lt (h : Known w b V) : b < w.heap.size := by
  obtain ⟨es, c, hb, _⟩ := h
  exact (Array.getElem?_eq_some_iff.1 hb).1
theorem Known.block (h : Known w b V) (hk : w'.heap[b]? = w.heap[b]?) : Known w' b V := by
  obtain ⟨es, c, hb, he⟩ := h
  exact ⟨es, c, hk.trans hb, he⟩
theorem known_made (w : World) (V : List Int → Int) : Known (w.alloc (.map #[] 0)) w.heap.size V := ⟨#[], 0, (MapKept.heap_alloc w _).1, by simp⟩

theorem run_zeroInt (w : World) : (zeroValue 3).run Try.prog w = .ok (iv 0) w := by kernel_rfl

theorem entries_keyed {es : Array MapEntry} (he : ∀ e ∈ es.toList, ∃ s : List Int, PlOk s ∧ e.key = plVal s ∧ e.val = iv (V s)) : ∀ e ∈ es.toList, ∃ l, keyOf Try.prog 86 e.key = some l := fun e hm => by
  obtain ⟨s, h1, h2, _⟩ := he e hm
  rw [h2]
  exact plVal_key s h1

theorem Known.look (h : Known w b V) (s : List Int) (hs : PlOk s) : ∃ l ok, (∀ w', w'.heap[b]? = w.heap[b]? → (Instr.lookup 109 (.map (some b)) (plVal s) true).run Try.prog w' = .ok (.tuple #[iv l, .bool ok]) w') ∧ (ok = true → iv l = iv (V s)) := by
  obtain ⟨es, c, hb, he⟩ := h
  obtain ⟨kl, hkl⟩ := plVal_key s hs
  have K := Try.keyedPl
  by_cases hex : ∃ e ∈ es.toList, e.key = plVal s
  · refine ⟨V s, true, fun w' hw' => ?_, fun _ => rfl⟩
    rcases K.find w' hkl es.toList (entries_keyed he) with ⟨_, h2⟩ | ⟨j, e, h1, h2, h3⟩
    · obtain ⟨e, hm, hk⟩ := hex
      exact absurd hk (h2 e hm)
    · have hm : e ∈ es.toList := List.mem_of_getElem? h2
      obtain ⟨s', g1, g2, g3⟩ := he e hm
      have hss : s' = s := plVal_inj g1.len hs.len (g2.symm.trans h3)
      subst hss
      have hck := K.check w' es.isEmpty hkl
      simp [Instr.lookup, run_underlying Try.underlying109, MapKept.run_getObj_map (hw'.trans hb), hck, h1, g3, Result.andThen]
  · refine ⟨0, false, fun w' hw' => ?_, fun h => by cases h⟩
    rcases K.find w' hkl es.toList (entries_keyed he) with ⟨h1, h2⟩ | ⟨j, e, h1, h2, h3⟩
    · have hck := K.check w' es.isEmpty hkl
      simp [Instr.lookup, run_underlying Try.underlying109, MapKept.run_getObj_map (hw'.trans hb), hck, h1, run_zeroInt, Result.andThen]
    · exact absurd ⟨e, List.mem_of_getElem? h2, h3⟩ hex

theorem Known.store (h : Known w b V) (s : List Int) (hs : PlOk s) : ∃ w', (Instr.mapUpdate 109 (.map (some b)) (plVal s) (iv (V s))).run Try.prog w = .ok () w' ∧ Known w' b V ∧ w.grownBy w' (some b) := by
  obtain ⟨es, c, hb, he⟩ := h
  obtain ⟨kl, hkl⟩ := plVal_key s hs
  have K := Try.keyedPl
  have hck := K.check w false hkl
  rcases K.find w hkl es.toList (entries_keyed he) with ⟨h1, h2⟩ | ⟨j, e, h1, h2, h3⟩
  · refine ⟨ChangeMaps.setBlock w b (.map (es.push { key := plVal s, val := iv (V s), born := c }) (c + 1)), ?_, ⟨_, _, ChangeMaps.heap_setBlock_same hb _, ?_⟩, ⟨rfl, rfl, rfl, by simp [ChangeMaps.setBlock], fun i _ hi => ChangeMaps.heap_setBlock_other hb _ (fun e => hi (by rw [e]))⟩⟩
    · simp [Instr.mapUpdate, run_underlying Try.underlying109, MapKept.run_getObj_map hb, MapKept.run_setObj_map _ hb, hck, h1, ChangeMaps.setBlock, Result.andThen]
    · intro e hm
      simp only [Array.toList_push, List.mem_append, List.mem_singleton] at hm
      rcases hm with hm | rfl
      · exact he e hm
      · exact ⟨s, hs, rfl, rfl⟩
  · have hst := K.stays w hkl
    refine ⟨ChangeMaps.setBlock w b (.map (es.modify j fun e => { e with key := plVal s, val := iv (V s) }) c), ?_, ⟨_, _, ChangeMaps.heap_setBlock_same hb _, ?_⟩, ⟨rfl, rfl, rfl, by simp [ChangeMaps.setBlock], fun i _ hi => ChangeMaps.heap_setBlock_other hb _ (fun e => hi (by rw [e]))⟩⟩
    · have h2' : es[j]? = some e := by simpa using h2
      simp [Instr.mapUpdate, run_underlying Try.underlying109, MapKept.run_getObj_map hb, MapKept.run_setObj_map _ hb, hck, h1, h2', h3, hst, ChangeMaps.setBlock, Result.andThen]
    · intro e' hm
      obtain ⟨i, hi⟩ := List.mem_iff_getElem?.1 hm
      have hi' : (es.modify j fun e => { e with key := plVal s, val := iv (V s) })[i]? = some e' := by rw [← Array.getElem?_toList]; exact hi
      rw [Array.getElem?_modify] at hi'
      split at hi'
      · obtain ⟨e0, _, rfl⟩ := Option.map_eq_some_iff.1 hi'
        exact ⟨s, hs, rfl, rfl⟩
      · exact he e' (List.mem_of_getElem? (by simpa using hi'))
end
end Go.Proofs.Ytllmahcanipcpaa
