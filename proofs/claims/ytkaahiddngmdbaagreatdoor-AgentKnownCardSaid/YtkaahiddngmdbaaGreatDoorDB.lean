/- What a counter can do in an hour; the map in which it is kept: every entry says the same. -/
import Derived.Test.YtkaahiddngmdbaaGreatDoorDA
import Derived.Maps.OwnOps
import Derived.DeepKeys4
set_option linter.unusedVariables false
set_option linter.unusedSimpArgs false
namespace Go.Proofs.YtkaahiddngmdbaaGreatDoor
open Go.RowKit

def wfI (x : Int) : Prop := (Lit.int .i64 x).wf = true
theorem wfI_iff (x : Int) : wfI x ↔ -9223372036854775808 ≤ x ∧ x ≤ 9223372036854775807 := by
 unfold wfI
 constructor
 · intro h
   have h' : IntKind.i64.min ≤ x ∧ x ≤ 9223372036854775807 := by simpa [Lit.wf, IntKind.signed, IntKind.bits] using h
   have e : IntKind.i64.min = -9223372036854775808 := by decide
   omega
 · intro h; exact WalkArith.wf_i64 h
structure Stand where
 c : Int
 h : Int
 n : Int
deriving DecidableEq, Inhabited
structure Way where
 counts : Int
 shows : Int
 zero : Bool
deriving DecidableEq, Inhabited
def standVal (s : Stand) : Value := .agg #[iv s.c, iv s.h, iv s.n]
structure Stand.Ok (s : Stand) : Prop where
 c : wfI s.c
 h : wfI s.h
 n : wfI s.n
theorem standVal_inj {s t : Stand} (h : standVal s = standVal t) : s = t := by
 obtain ⟨a, b, c⟩ := s
 obtain ⟨a', b', c'⟩ := t
 simp only [standVal, iv, Value.agg.injEq, Array.mk.injEq, List.cons.injEq, Value.int.injEq, true_and, and_true] at h
 obtain ⟨rfl, rfl, rfl⟩ := h
 rfl
def waysF (ws : List Way) (j : Nat) : Value := match j % 3 with | 0 => iv (nth ws (j / 3)).counts | 1 => iv (nth ws (j / 3)).shows | _ => .bool (nth ws (j / 3)).zero

/-! what a counter can do: n counts from lo on -/
def wayAt (own before : Int) (z : Bool) (n : Int) : List Way := if own = -1 ∨ own = (before + n) % 100 then [⟨n, (before + n) % 100, z⟩] else []
def waysTo (own before : Int) (z : Bool) (lo : Int) : Nat → List Way
 | 0 => []
 | n + 1 => waysTo own before z lo n ++ wayAt own before z (lo + n)
def loM (c : Ctr) (h : Span) : Int := max 0 (h.lo - c.skip)
def waysZ (c : Ctr) (h : Span) (own before : Int) (z : Bool) : List Way := waysTo own before z (loM c h) (h.hi + c.twice + 1 - loM c h).toNat
def zeroP (at_ : Int) (z : Nat) : Bool := if z = 0 then at_ != 1 else at_ != 0
def waysU (c : Ctr) (h : Span) (own at_ n : Int) : Nat → List Way
 | 0 => []
 | 1 => if zeroP at_ 0 then waysZ c h own n false else []
 | _ => (if zeroP at_ 0 then waysZ c h own n false else []) ++ (if zeroP at_ 1 then waysZ c h own 0 true else [])
def waysV (b : Board) (s : Stand) : List Way := waysU (nth b.ctrs s.c.toNat) (nth b.hours s.h.toNat).load (nth (nth b.ctrs s.c.toNat).shown s.h.toNat) (nth (nth b.ctrs s.c.toNat).zero s.h.toNat) s.n 2
theorem wayAt_len (own before : Int) (z : Bool) (n : Int) : (wayAt own before z n).length ≤ 1 := by unfold wayAt; split <;> simp
theorem waysTo_len (own before : Int) (z : Bool) (lo : Int) : ∀ n, (waysTo own before z lo n).length ≤ n
 | 0 => Nat.le_refl _
 | n + 1 => by
  have := waysTo_len own before z lo n
  have := wayAt_len own before z (lo + n)
  rw [waysTo, List.length_append]; omega

theorem Tryz.laidOut : laidOutB Tryz.prog = true := by kernel_rfl
theorem Tryz.rowSt : (492 : TypeId) < Tryz.prog.types.size := of_decide_eq_true (by kernel_rfl)
theorem Tryz.wideSt : (match Tryz.prog.underlying 492 with | some (.array _ _) | some (.struct _) => true | _ => false) = true := by kernel_rfl
set_option maxRecDepth 100000 in
theorem Tryz.keySt : WideMaps.KeyLaw Tryz.prog 492 := deep_law_laid Tryz.laidOut (m := 3) (by omega) Tryz.rowSt (by kernel_rfl) Tryz.wideSt
theorem Tryz.keyedSt : Maps.Keyed Tryz.prog 492 := Maps.Keyed.of_law Tryz.keySt
theorem Tryz.cellsSt : Tryz.prog.cellsOf 492 = 3 := by kernel_rfl
theorem Tryz.cellsInt : Tryz.prog.cellsOf 3 = 1 := by kernel_rfl
theorem Tryz.sizeTypes : ∃ d, Tryz.prog.types.size + 1 = d + 3 := ⟨Tryz.prog.types.size - 2, by have h : 3 ≤ Tryz.prog.types.size := of_decide_eq_true (by kernel_rfl); omega⟩
theorem Tryz.keyTypeSt : Tryz.prog.keyType 492 = true := by kernel_rfl
theorem lits_int (d : Nat) {x : Int} (h : wfI x) : Tryz.prog.keyLits (d + 1) 3 [iv x] = some [.int .i64 x] := by
 have h' : (Lit.int .i64 x).wf = true := h
 unfold Program.keyLits
 simp [Tryz.underlying3, h']
theorem standVal_key (s : Stand) (h : s.Ok) : ∃ l, keyOf Tryz.prog 492 (standVal s) = some l := by
 obtain ⟨d, hd⟩ := Tryz.sizeTypes
 have hu := Tryz.underlying492
 have hf : (standVal s).formed Tryz.prog 492 = true := by simp [standVal, Value.formed, hu, Tryz.cellsSt]
 have hl : ∃ ls, Tryz.prog.keyLits (d + 3) 492 (standVal s).cells.toList = some ls := by
  refine ⟨[.int .i64 s.c, .int .i64 s.h, .int .i64 s.n], ?_⟩
  unfold Program.keyLits
  rw [hu]
  simp only [standVal, Value.cells, Tryz.cellsSt, Tryz.cellsInt, List.length_cons, List.length_nil, List.mapM_cons, List.mapM_nil]
  simp [lits_int (d + 1) h.c, lits_int (d + 1) h.h, lits_int (d + 1) h.n, Tryz.cellsInt]
 obtain ⟨ls, hls⟩ := hl
 refine ⟨.string (keyBytes ls), ?_⟩
 unfold keyOf
 rw [hu]
 simp only [Tryz.keyTypeSt, hf, hd, hls]
 simp

/-- A block of ways. -/
def WayBlk (w : World) (k : Nat) : Prop := ∃ cs fr, w.heap[k]? = some (.cells cs 494 fr)
theorem WayBlk.not {w : World} {g : Nat} {T : TypeId} {vs : Array Value} (hT : T ≠ 494) (h : Blk w g T vs) : ¬ WayBlk w g := by
 rintro ⟨cs, fr, e⟩
 have := h.symm.trans e
 simp only [Option.some.injEq, Obj.cells.injEq] at this
 exact hT this.2.1
/-- m cells in a row, at the start of a block of ways. -/
def WRow (w : World) (A : Option Addr) (m : Nat) (f : Nat → Value) : Prop :=
 0 < m → ∃ k, A = some ⟨k, 0, none⟩ ∧ WayBlk w k ∧ ∀ j, j < m → w.cell? ⟨k, j, none⟩ = some (f j)
/-- A slice of ways. -/
def WaysAt (w : World) (ws : List Way) (v : Value) : Prop := ∃ A c, v = .slice A ws.length c ∧ ws.length ≤ c ∧ c ≤ maxLen ∧ WRow w A (ws.length * 3) (waysF ws)
theorem WaysAt.heap {w w' : World} {ws : List Way} {v : Value} (h : WaysAt w ws v) (hk : ∀ k, WayBlk w k → w'.heap[k]? = w.heap[k]?) : WaysAt w' ws v := by
 obtain ⟨A, c, e, h1, h2, h3⟩ := h
 refine ⟨A, c, e, h1, h2, fun hm => ?_⟩
 obtain ⟨k, ek, hw, hc⟩ := h3 hm
 have hh := hk k hw
 refine ⟨k, ek, ?_, fun j hj => (World.cell?_of_block hh).trans (hc j hj)⟩
 obtain ⟨cs, fr, e⟩ := hw
 exact ⟨cs, fr, hh.trans e⟩
/-- Block b is a map of which every entry says V. -/
def Cache (w : World) (b : Nat) (V : Stand → List Way) : Prop :=
 ∃ es clock, w.heap[b]? = some (.map es clock) ∧ ∀ e ∈ es.toList, ∃ s : Stand, s.Ok ∧ e.key = standVal s ∧ WaysAt w (V s) e.val
section
variable {w w' : World} {b : Nat} {V : Stand → List Way}
theorem Cache.lt (h : Cache w b V) : b < w.heap.size := by
 obtain ⟨es, c, hb, _⟩ := h
 exact (Array.getElem?_eq_some_iff.1 hb).1
theorem Cache.heap (h : Cache w b V) (hb' : w'.heap[b]? = w.heap[b]?) (hk : ∀ k, WayBlk w k → w'.heap[k]? = w.heap[k]?) : Cache w' b V := by
 obtain ⟨es, c, hb, he⟩ := h
 exact ⟨es, c, hb'.trans hb, fun e hm => by
  obtain ⟨s, h1, h2, h3⟩ := he e hm
  exact ⟨s, h1, h2, h3.heap hk⟩⟩
theorem WayBlk.lt {k : Nat} (h : WayBlk w k) : k < w.heap.size := by
 obtain ⟨cs, fr, e⟩ := h
 exact (Array.getElem?_eq_some_iff.1 e).1
theorem Cache.keep {S : Nat → Prop} (h : Cache w b V) (hk : Keep S w w') (hS : ∀ k, S k → k ≠ b ∧ ¬ WayBlk w k) : Cache w' b V :=
 h.heap (hk.block b h.lt fun hs => (hS b hs).1 rfl) fun k hw => hk.block k hw.lt fun hs => (hS k hs).2 hw
theorem Cache.below (h : Cache w b V) (hb : Below w.heap.size w w') : Cache w' b V := h.heap (hb.block b h.lt) fun k hw => hb.block k hw.lt
theorem Cache.nocell (h : Cache w b V) (o : Nat) : w.cell? ⟨b, o, none⟩ = none := by
 obtain ⟨es, c, hb, _⟩ := h
 simp [World.cell?, hb]
theorem Cache.ne {g o : Nat} {v : Value} (h : Cache w b V) (hc : w.cell? ⟨g, o, none⟩ = some v) : g ≠ b := by
 rintro rfl
 rw [h.nocell] at hc; cases hc
theorem cache_made (w : World) (V : Stand → List Way) : Cache (w.alloc (.map #[] 0)) w.heap.size V := ⟨#[], 0, (MapKept.heap_alloc w _).1, by simp⟩
theorem run_zeroWays (w : World) : (zeroValue 490).run Tryz.prog w = .ok (.slice none 0 0) w := by kernel_rfl
theorem cache_keyed {w : World} {es : Array MapEntry} (he : ∀ e ∈ es.toList, ∃ s : Stand, s.Ok ∧ e.key = standVal s ∧ WaysAt w (V s) e.val) : ∀ e ∈ es.toList, ∃ l, keyOf Tryz.prog 492 e.key = some l := fun e hm => by
 obtain ⟨s, h1, h2, _⟩ := he e hm
 rw [h2]
 exact standVal_key s h1
theorem Cache.look (h : Cache w b V) (s : Stand) (hs : s.Ok) : ∃ A n c ok, (Instr.lookup 363 (.map (some b)) (standVal s) true).run Tryz.prog w = .ok (.tuple #[.slice A n c, .bool ok]) w ∧ (ok = true → WaysAt w (V s) (.slice A n c)) := by
 obtain ⟨es, c, hb, he⟩ := h
 obtain ⟨kl, hkl⟩ := standVal_key s hs
 have K := Tryz.keyedSt
 have hck := K.check w es.isEmpty hkl
 rcases K.find w hkl es.toList (cache_keyed he) with ⟨h1, h2⟩ | ⟨j, e, h1, h2, h3⟩
 · refine ⟨none, 0, 0, false, ?_, fun h => by cases h⟩
   simp [Instr.lookup, run_underlying Tryz.underlying363, MapKept.run_getObj_map hb, hck, h1, run_zeroWays, Result.andThen]
 · have hm : e ∈ es.toList := List.mem_of_getElem? h2
   obtain ⟨s', f1, f2, f3⟩ := he e hm
   obtain rfl : s' = s := standVal_inj (f2.symm.trans h3)
   have f4 := f3
   obtain ⟨A, cp, ev, _⟩ := f3
   refine ⟨A, _, cp, true, ?_, fun _ => by rw [← ev]; exact f4⟩
   simp [Instr.lookup, run_underlying Tryz.underlying363, MapKept.run_getObj_map hb, hck, h1, ev, Result.andThen]
theorem Cache.store (h : Cache w b V) (s : Stand) (hs : s.Ok) {v : Value} (hv : WaysAt w (V s) v) : ∃ w', (Instr.mapUpdate 363 (.map (some b)) (standVal s) v).run Tryz.prog w = .ok () w' ∧ Cache w' b V ∧ w.grownBy w' (some b) ∧ WaysAt w' (V s) v := by
 obtain ⟨es, c, hb, he⟩ := h
 obtain ⟨kl, hkl⟩ := standVal_key s hs
 have K := Tryz.keyedSt
 have hck := K.check w false hkl
 have hoth : ∀ (o : Obj) k, WayBlk w k → (ChangeMaps.setBlock w b o).heap[k]? = w.heap[k]? := fun o k ⟨cs, fr, hk⟩ => ChangeMaps.heap_setBlock_other hb _ (fun e => by rw [e, hb] at hk; cases hk)
 rcases K.find w hkl es.toList (cache_keyed he) with ⟨h1, h2⟩ | ⟨j, e, h1, h2, h3⟩
 · refine ⟨ChangeMaps.setBlock w b (.map (es.push { key := standVal s, val := v, born := c }) (c + 1)), ?_, ⟨_, _, ChangeMaps.heap_setBlock_same hb _, ?_⟩, ⟨rfl, rfl, rfl, by simp [ChangeMaps.setBlock], fun i _ hi => ChangeMaps.heap_setBlock_other hb _ (fun e => hi (by rw [e]))⟩, hv.heap (hoth _)⟩
   · simp [Instr.mapUpdate, run_underlying Tryz.underlying363, MapKept.run_getObj_map hb, MapKept.run_setObj_map _ hb, hck, h1, ChangeMaps.setBlock, Result.andThen]
   · intro e hm
     simp only [Array.toList_push, List.mem_append, List.mem_singleton] at hm
     rcases hm with hm | rfl
     · obtain ⟨s0, g1, g2, g3⟩ := he e hm
       exact ⟨s0, g1, g2, g3.heap (hoth _)⟩
     · exact ⟨s, hs, rfl, hv.heap (hoth _)⟩
 · have hst := K.stays w hkl
   refine ⟨ChangeMaps.setBlock w b (.map (es.modify j fun e => { e with key := standVal s, val := v }) c), ?_, ⟨_, _, ChangeMaps.heap_setBlock_same hb _, ?_⟩, ⟨rfl, rfl, rfl, by simp [ChangeMaps.setBlock], fun i _ hi => ChangeMaps.heap_setBlock_other hb _ (fun e => hi (by rw [e]))⟩, hv.heap (hoth _)⟩
   · have h2' : es[j]? = some e := by simpa using h2
     simp [Instr.mapUpdate, run_underlying Tryz.underlying363, MapKept.run_getObj_map hb, MapKept.run_setObj_map _ hb, hck, h1, h2', h3, hst, ChangeMaps.setBlock, Result.andThen]
   · intro e' hm
     obtain ⟨i, hi⟩ := List.mem_iff_getElem?.1 hm
     have hi' : (es.modify j fun e => { e with key := standVal s, val := v })[i]? = some e' := by rw [← Array.getElem?_toList]; exact hi
     rw [Array.getElem?_modify] at hi'
     split at hi'
     · obtain ⟨e0, _, rfl⟩ := Option.map_eq_some_iff.1 hi'
       exact ⟨s, hs, rfl, hv.heap (hoth _)⟩
     · obtain ⟨s0, g1, g2, g3⟩ := he e' (List.mem_of_getElem? (by simpa using hi'))
       exact ⟨s0, g1, g2, g3.heap (hoth _)⟩
end
end Go.Proofs.YtkaahiddngmdbaaGreatDoor
