/- Words for memory: slices that read as lists of integers, spans, lots, looks; kept while old blocks stay. Plain facts, no walk. -/
import Derived.Test.YtbkknliggnhpcaaRows
import Derived.WalkKit
import Derived.WalkSpells
import Derived.WalkLawsBesides
import Derived.Deep.QuietTactic
import Derived.BigQuiet
import Derived.Laws.CopyOwn
import Derived.Deep.RegionHeld3
set_option linter.unusedVariables false
set_option linter.unusedSimpArgs false
namespace Go.Proofs.Ytbkknliggnhpcaa
open Go.RowKit

theorem hide {p : Prop} (h : p) : Hid p := h
def nth {α : Type} [Inhabited α] (l : List α) (i : Nat) : α := l.getD i default
theorem nth_eq {α : Type} [Inhabited α] {l : List α} {i : Nat} (h : i < l.length) : nth l i = l[i] := by simp [nth, h]
theorem take_nth {α : Type} [Inhabited α] {l : List α} {i : Nat} (h : i < l.length) : l.take (i + 1) = l.take i ++ [nth l i] := by
  rw [List.take_succ_eq_append_getElem h, nth_eq h]

structure Span where
  lo : Int
  hi : Int
deriving DecidableEq, Inhabited
structure Lot where
  hold : Int
  frm : Int
  green : Span
deriving DecidableEq, Inhabited
structure Seen where
  lot : Int
  hour : Int
  turned : Bool
deriving DecidableEq, Inhabited
structure Cargo where
  heat : List Int
  gas : Int
  holds : List Span
  lots : List Lot
  seen : List Seen
deriving DecidableEq, Inhabited

/-- m cells in a row, from a slice's address on, all below block B. -/
def Row (w : World) (B : Nat) (A : Option Addr) (m : Nat) (f : Nat → Value) : Prop :=
  0 < m → ∃ b off, A = some ⟨b, off, none⟩ ∧ b < B ∧ ∀ j, j < m → w.cell? ⟨b, off + j, none⟩ = some (f j)

section
variable {w w' : World} {B B' m : Nat} {A : Option Addr} {f : Nat → Value}
theorem Row.nil_ : Row w B A 0 f := fun h => absurd h (by omega)
theorem Row.keep (h : Row w B A m f) (hk : ∀ b o, b < B → w'.cell? ⟨b, o, none⟩ = w.cell? ⟨b, o, none⟩) : Row w' B A m f := fun hm => by
  obtain ⟨b, off, e, hb, hc⟩ := h hm
  exact ⟨b, off, e, hb, fun j hj => (hk _ _ hb).trans (hc j hj)⟩
theorem Row.more (h : Row w B A m f) (hB : B ≤ B') : Row w B' A m f := fun hm => by
  obtain ⟨b, off, e, hb, hc⟩ := h hm
  exact ⟨b, off, e, by omega, hc⟩
theorem Row.below (h : Row w B A m f) (hb : Below B w w') : Row w' B A m f := h.keep fun _ _ hp => hb.cell hp
end
theorem bcell {W w1 : World} {B : Nat} (hb : Below B W w1) : (∀ b o, b < B → w1.cell? ⟨b, o, none⟩ = W.cell? ⟨b, o, none⟩) ∧ (∀ b o, b < B → w1.frozen? ⟨b, o, none⟩ = W.frozen? ⟨b, o, none⟩) :=
  ⟨fun b o h => hb.cell (p := ⟨b, o, none⟩) h, fun b o h => hb.frozen (p := ⟨b, o, none⟩) h⟩

/-- A world that has grown out of w: all of w's blocks as they were. The class of worlds in which the regions that draw their order are walked once. -/
structure Later (w : World) where
  world : World
  below : Below w.heap.size w world
instance later_nonempty (w : World) : Nonempty (Later w) := ⟨⟨w, Below.refl _ _⟩⟩
def grow (w : World) (t : Later w) : World := t.world
section
variable {w : World} {t : Later w}
theorem grow_cell (b o : Nat) (h : b < w.heap.size) : (grow w t).cell? ⟨b, o, none⟩ = w.cell? ⟨b, o, none⟩ := t.below.cell (p := ⟨b, o, none⟩) h
theorem grow_frozen (b o : Nat) (h : b < w.heap.size) : (grow w t).frozen? ⟨b, o, none⟩ = w.frozen? ⟨b, o, none⟩ := t.below.frozen (p := ⟨b, o, none⟩) h
theorem grow_below : Below w.heap.size w (grow w t) := t.below
theorem grow_size : w.heap.size ≤ (grow w t).heap.size := t.below.size
theorem grow_of {w' : World} (h : Below w.heap.size w w') : ∃ t, w' = grow w t := ⟨⟨w', h⟩, rfl⟩
/-- A call in such a region: its contract says the value, and that old blocks stay. -/
theorem Calls.grow_of {P : Program} {f : FuncId} {args : Array Value} {v : Value}
    (h : Calls P f args (grow w t) fun e w' => e = .returned v ∧ Below (grow w t).heap.size (grow w t) w') : Calls P f args (grow w t) fun e w' => e = .returned v ∧ ∃ t', w' = grow w t' :=
  h.mono fun _ _ ⟨he, hb⟩ => ⟨he, Go.Proofs.Ytbkknliggnhpcaa.grow_of (grow_below.trans (hb.mono grow_size))⟩
theorem Calls.grow_of_same {P : Program} {f : FuncId} {args : Array Value} {v : Value}
    (h : Calls P f args (grow w t) fun e w' => e = .returned v ∧ grow w t = w') : Calls P f args (grow w t) fun e w' => e = .returned v ∧ ∃ t', w' = grow w t' :=
  h.mono fun _ _ ⟨he, hb⟩ => ⟨he, t, hb.symm⟩
theorem wp_region_grow {P : Program} {id : Nat} {Q : Exit → Act → World → Prop} {a : Act} {l : List Oper} (hm : P.follows .mixedOrders = true) (hB : Region.lexB .any l.toArray = true)
    (h : wpQuiet P l.toArray (fun w' => ∃ t, w' = grow w t) (fun a' => ∀ w', (∃ t, w' = grow w t) → Q .normal a' w') l a) : (Code.region id l.toArray true).wp P Q a w :=
  wp_region_quiet (C := fun w' => ∃ t, w' = grow w t) hm hB (Go.Proofs.Ytbkknliggnhpcaa.grow_of ⟨rfl, rfl, rfl, Nat.le_refl _, fun _ _ => rfl⟩) (by simpa using h)
end
def intsF (xs : List Int) (j : Nat) : Value := .int .i64 (nth xs j)
def spansF (xs : List Span) (j : Nat) : Value := .int .i64 (if j % 2 = 0 then (nth xs (j / 2)).lo else (nth xs (j / 2)).hi)
def lotsF (xs : List Lot) (j : Nat) : Value := .int .i64 (match j % 4 with | 0 => (nth xs (j / 4)).hold | 1 => (nth xs (j / 4)).frm | 2 => (nth xs (j / 4)).green.lo | _ => (nth xs (j / 4)).green.hi)
def seenF (xs : List Seen) (j : Nat) : Value := match j % 3 with | 0 => .int .i64 (nth xs (j / 3)).lot | 1 => .int .i64 (nth xs (j / 3)).hour | _ => .bool (nth xs (j / 3)).turned

section
variable {w : World} {B n : Nat} {A : Option Addr}
theorem Row.ints {xs : List Int} (h : Row w B A n (intsF xs)) {i : Nat} (hi : i < n) :
    ∃ b off, A = some ⟨b, off, none⟩ ∧ b < B ∧ w.cell? ⟨b, off + i, none⟩ = some (.int .i64 (nth xs i)) := by
  obtain ⟨b, off, e, hb, hc⟩ := h (by omega)
  exact ⟨b, off, e, hb, hc i hi⟩
theorem Row.spans {xs : List Span} (h : Row w B A (n * 2) (spansF xs)) {i : Nat} (hi : i < n) :
    ∃ b off, A = some ⟨b, off, none⟩ ∧ b < B ∧ w.cell? ⟨b, off + i * 2, none⟩ = some (.int .i64 (nth xs i).lo) ∧ w.cell? ⟨b, off + i * 2 + 1, none⟩ = some (.int .i64 (nth xs i).hi) := by
  obtain ⟨b, off, e, hb, hc⟩ := h (by omega)
  refine ⟨b, off, e, hb, ?_, ?_⟩
  · rw [hc (i * 2) (by omega), spansF, if_pos (by omega), show i * 2 / 2 = i by omega]
  · rw [Nat.add_assoc, hc (i * 2 + 1) (by omega), spansF, if_neg (by omega), show (i * 2 + 1) / 2 = i by omega]
theorem Row.lots {xs : List Lot} (h : Row w B A (n * 4) (lotsF xs)) {i : Nat} (hi : i < n) :
    ∃ b off, A = some ⟨b, off, none⟩ ∧ b < B ∧ w.cell? ⟨b, off + i * 4, none⟩ = some (.int .i64 (nth xs i).hold) ∧ w.cell? ⟨b, off + i * 4 + 1, none⟩ = some (.int .i64 (nth xs i).frm) ∧
      w.cell? ⟨b, off + i * 4 + 2, none⟩ = some (.int .i64 (nth xs i).green.lo) ∧ w.cell? ⟨b, off + i * 4 + 3, none⟩ = some (.int .i64 (nth xs i).green.hi) := by
  obtain ⟨b, off, e, hb, hc⟩ := h (by omega)
  refine ⟨b, off, e, hb, ?_, ?_, ?_, ?_⟩
  · rw [hc (i * 4) (by omega), lotsF, show i * 4 % 4 = 0 by omega, show i * 4 / 4 = i by omega]; rfl
  · rw [Nat.add_assoc, hc (i * 4 + 1) (by omega), lotsF, show (i * 4 + 1) % 4 = 1 by omega, show (i * 4 + 1) / 4 = i by omega]; rfl
  · rw [Nat.add_assoc, hc (i * 4 + 2) (by omega), lotsF, show (i * 4 + 2) % 4 = 2 by omega, show (i * 4 + 2) / 4 = i by omega]; rfl
  · rw [Nat.add_assoc, hc (i * 4 + 3) (by omega), lotsF, show (i * 4 + 3) % 4 = 3 by omega, show (i * 4 + 3) / 4 = i by omega]; rfl
theorem Row.seen {xs : List Seen} (h : Row w B A (n * 3) (seenF xs)) {i : Nat} (hi : i < n) :
    ∃ b off, A = some ⟨b, off, none⟩ ∧ b < B ∧ w.cell? ⟨b, off + i * 3, none⟩ = some (.int .i64 (nth xs i).lot) ∧ w.cell? ⟨b, off + i * 3 + 1, none⟩ = some (.int .i64 (nth xs i).hour) ∧
      w.cell? ⟨b, off + i * 3 + 2, none⟩ = some (.bool (nth xs i).turned) := by
  obtain ⟨b, off, e, hb, hc⟩ := h (by omega)
  refine ⟨b, off, e, hb, ?_, ?_, ?_⟩
  · rw [hc (i * 3) (by omega), seenF, show i * 3 % 3 = 0 by omega, show i * 3 / 3 = i by omega]; rfl
  · rw [Nat.add_assoc, hc (i * 3 + 1) (by omega), seenF, show (i * 3 + 1) % 3 = 1 by omega, show (i * 3 + 1) / 3 = i by omega]; rfl
  · rw [Nat.add_assoc, hc (i * 3 + 2) (by omega), seenF, show (i * 3 + 2) % 3 = 2 by omega, show (i * 3 + 2) / 3 = i by omega]; rfl
end

theorem Try.infoInt : (Try.prog.info? 3).map (fun i => (i.zero, i.size, i.bytes)) = some (some (.int .i64 0), 1, 8) := by kernel_rfl

/-- A slice '.slice A n c' that reads as a list of integers, below block B. -/
structure IntsS (w : World) (B : Nat) (A : Option Addr) (n c : Nat) (xs : List Int) : Prop where
  len : xs.length = n
  cap : n ≤ c
  max : c ≤ maxLen
  row : Row w B A n (intsF xs)
section
variable {w w' : World} {B B' n c : Nat} {A : Option Addr} {xs : List Int}
theorem IntsS.below (h : IntsS w B A n c xs) (hb : Below B w w') : IntsS w' B A n c xs := ⟨h.len, h.cap, h.max, h.row.below hb⟩
theorem IntsS.drewN (h : IntsS w B A n c xs) (k : Nat) : IntsS (w.drewN k) B A n c xs := ⟨h.len, h.cap, h.max, h.row⟩
theorem IntsS.more (h : IntsS w B A n c xs) (hB : B ≤ B') : IntsS w B' A n c xs := ⟨h.len, h.cap, h.max, h.row.more hB⟩
theorem IntsS.next (h : IntsS w w.heap.size A n c xs) (hb : Below w.heap.size w w') : IntsS w' w'.heap.size A n c xs := (h.below hb).more hb.size
theorem IntsS.at_ (h : IntsS w B A n c xs) {i : Nat} (hi : i < n) : ∃ b off, A = some ⟨b, off, none⟩ ∧ b < B ∧ w.cell? ⟨b, off + i, none⟩ = some (.int .i64 (nth xs i)) := h.row.ints hi
theorem IntsS.bd (h : IntsS w B A n c xs) : n ≤ 9223372036854775807 := by have h1 := h.cap; have h2 := h.max; unfold maxLen at h2; omega
theorem IntsS.nil_ : IntsS w B none 0 0 [] := ⟨rfl, Nat.le_refl _, by simp [maxLen], Row.nil_⟩
theorem IntsS.of_own {base : Nat} {v : Value} (h : w.ownsRow base 3 1 v n (xs.map (Value.int .i64))) : ∃ A c, v = .slice A n c ∧ IntsS w w.heap.size A n c xs := by
  have hl : xs.length = n := by have := h.1; simpa using this
  rcases h.2 with ⟨rfl, h0⟩ | ⟨g, cap, cur, rfl, hg, hh, h1, h2, h3, h4⟩
  · subst h0
    obtain rfl : xs = [] := List.eq_nil_of_length_eq_zero hl
    exact ⟨none, 0, rfl, IntsS.nil_⟩
  · refine ⟨_, cap, rfl, hl, h1, h2, fun hm => ⟨g, 0, rfl, (Array.getElem?_eq_some_iff.1 hh).1, fun j hj => ?_⟩⟩
    have := h.cells (g := g) rfl j (.int .i64 (nth xs j)) (by simp [nth, hl, hj])
    have hadd : (⟨g, 0, none⟩ : Addr).add j = ⟨g, 0 + j, none⟩ := by unfold Addr.add; split <;> simp_all
    rw [hadd] at this
    exact this
end
section
variable {w : World} {b : Nat} (hb : w.heap.size = b)
include hb
theorem IntsS.lit1 (x : Int) : IntsS (w.alloc (.cells #[.int .i64 x] 3)) (b + 1) (some ⟨b, 0, none⟩) 1 1 [x] := by
  subst hb
  refine ⟨rfl, Nat.le_refl _, by simp [maxLen], fun _ => ⟨_, _, rfl, by omega, fun j hj => ?_⟩⟩
  obtain rfl : j = 0 := by omega
  rw [World.cell?_alloc_at _ _ _ _ rfl]; rfl
theorem IntsS.lit2 (x y : Int) : IntsS (w.alloc (.cells #[.int .i64 x, .int .i64 y] 3)) (b + 1) (some ⟨b, 0, none⟩) 2 2 [x, y] := by
  subst hb
  refine ⟨rfl, Nat.le_refl _, by simp [maxLen], fun _ => ⟨_, _, rfl, by omega, fun j hj => ?_⟩⟩
  rw [World.cell?_alloc_at _ _ _ _ rfl]
  obtain rfl | rfl : j = 0 ∨ j = 1 := by omega
  · rfl
  · rfl
end
/-- The world has drawn; nothing else has turned. -/
def Dr (w w' : World) : Prop := ∃ n, w' = w.drewN n
theorem Dr.refl (w : World) : Dr w w := ⟨0, rfl⟩
theorem Dr.drewN {w w' : World} (h : Dr w w') (n : Nat) : Dr w (w'.drewN n) := by
  obtain ⟨m, rfl⟩ := h
  exact ⟨m + n, World.drewN_drewN _ _ _⟩
theorem Dr.below {w w' : World} (h : Dr w w') (B : Nat) : Below B w w' := by
  obtain ⟨m, rfl⟩ := h
  exact ⟨rfl, rfl, rfl, Nat.le_refl _, fun _ _ => rfl⟩

/-- A cargo by value: its five cells; its slices below block B. -/
structure CargoV (w : World) (B : Nat) (c : Cargo) (A1 A2 A3 A4 : Option Addr) (c1 c2 c3 c4 : Nat) : Prop where
  heat : Row w B A1 c.heat.length (intsF c.heat)
  holds : Row w B A2 (c.holds.length * 2) (spansF c.holds)
  lots : Row w B A3 (c.lots.length * 4) (lotsF c.lots)
  seen : Row w B A4 (c.seen.length * 3) (seenF c.seen)
  m1 : c.heat.length ≤ c1 ∧ c1 ≤ maxLen
  m2 : c.holds.length ≤ c2 ∧ c2 ≤ maxLen
  m3 : c.lots.length ≤ c3 ∧ c3 ≤ maxLen
  m4 : c.seen.length ≤ c4 ∧ c4 ≤ maxLen
theorem CargoV.below {w w' : World} {B : Nat} {c : Cargo} {A1 A2 A3 A4 : Option Addr} {c1 c2 c3 c4 : Nat} (h : CargoV w B c A1 A2 A3 A4 c1 c2 c3 c4) (hb : Below B w w') : CargoV w' B c A1 A2 A3 A4 c1 c2 c3 c4 :=
  ⟨h.heat.below hb, h.holds.below hb, h.lots.below hb, h.seen.below hb, h.m1, h.m2, h.m3, h.m4⟩
theorem CargoV.next {w w' : World} {c : Cargo} {A1 A2 A3 A4 : Option Addr} {c1 c2 c3 c4 : Nat} (h : CargoV w w.heap.size c A1 A2 A3 A4 c1 c2 c3 c4) (hb : Below w.heap.size w w') : CargoV w' w'.heap.size c A1 A2 A3 A4 c1 c2 c3 c4 :=
  ⟨(h.heat.below hb).more hb.size, (h.holds.below hb).more hb.size, (h.lots.below hb).more hb.size, (h.seen.below hb).more hb.size, h.m1, h.m2, h.m3, h.m4⟩
theorem CargoV.more {w : World} {B B' : Nat} {c : Cargo} {A1 A2 A3 A4 : Option Addr} {c1 c2 c3 c4 : Nat} (h : CargoV w B c A1 A2 A3 A4 c1 c2 c3 c4) (hb : B ≤ B') : CargoV w B' c A1 A2 A3 A4 c1 c2 c3 c4 :=
  ⟨h.heat.more hb, h.holds.more hb, h.lots.more hb, h.seen.more hb, h.m1, h.m2, h.m3, h.m4⟩
abbrev cargoVal (c : Cargo) (A1 A2 A3 A4 : Option Addr) (c1 c2 c3 c4 : Nat) : Value :=
  .agg #[.slice A1 c.heat.length c1, .int .i64 c.gas, .slice A2 c.holds.length c2, .slice A3 c.lots.length c3, .slice A4 c.seen.length c4]

/-- What an append behind the making of one more block leaves: below the row's base all is as it was. -/
theorem app_below {base : Nat} {wr w1 : World} {o : Obj} {v : Value} {n : Nat} {xs : List Value} {e size : Nat} (hle : base ≤ wr.heap.size) (hown : wr.ownsRow base e size v n xs)
    (hg : (wr.alloc o).grownBy w1 v.ownBlock) : Below base wr w1 :=
  ((Below.refl base wr).alloc hle o).grown hg (by simp; omega) (fun k hk => (hown.lt k hk).1)
def natInts (l : List Nat) : List Int := l.map fun n : Nat => (n : Int)
theorem natInts_length (l : List Nat) : (natInts l).length = l.length := by simp [natInts]
theorem natInts_vals (l : List Nat) : (natInts l).map (Value.int .i64) = l.map (fun n : Nat => Value.int .i64 (n : Int)) := by simp [natInts]
end Go.Proofs.Ytbkknliggnhpcaa
/- copy of elements of several cells, as a law for the walk; what becomes of the other blocks. Plain laws of the model, no program's function. -/
namespace Go.Proofs.Ytbkknliggnhpcaa
open Go.RowKit
section
variable {P : Program}
theorem run_copy_k (w : World) (dT sT ty elem : TypeId) (k b o dLen dCap : Nat) (dp sp : Option Addr) (sLen sCap : Nat) (cs : List Value)
    (hu : P.underlying dT = some (.slice elem)) (hs : (P.info? elem).map (·.size) = some k) (hn : cs.length = Nat.min sLen dLen * k)
    (hpos : 0 < cs.length → dp = some ⟨b, o, none⟩ ∧ ∃ ad, sp = some ad ∧ ∀ j v, cs[j]? = some v → w.cell? (ad.add j) = some v)
    (hc : ∀ j, j < cs.length → (w.cell? ⟨b, o + j, none⟩).isSome = true) (hf : ∀ j, j < cs.length → w.frozen? ⟨b, o + j, none⟩ = false) (h1 : ∀ v ∈ cs, v.oneCell' = true) :
    (Builtin.copy_ #[dT, sT] ty #[.slice dp dLen dCap, .slice sp sLen sCap]).run P w = .ok (goInt (Nat.min sLen dLen)) (w.setCells b o cs) := by
  cases hq : P.info? elem with
  | none => simp [hq] at hs
  | some i =>
    have hi : i.size = k := by simpa [hq] using hs
    by_cases h0 : cs.length = 0
    · obtain rfl : cs = [] := List.eq_nil_of_length_eq_zero h0
      have hz : Nat.min sLen dLen * k = 0 := by simpa using hn.symm
      have hl : ∀ (x : Addr), (loadCells x 0).run P w = .ok #[] w := fun x => by simpa using run_loadCells_list (P := P) w x [] (by simp)
      cases dp <;> cases sp <;> simp [Builtin.copy_, run_underlying hu, Builtin.lenOf, Builtin.firstCells, sizeOf, typeInfo, hq, hi, hz, storeCells, hl, World.setCells]
    · obtain ⟨rfl, ad, rfl, hsrc⟩ := hpos (by omega)
      have hl := run_loadCells_list (P := P) w ad cs hsrc
      have hst := run_storeCells_cells (P := P) b o cs 0 w (by simpa using hc) (by simpa using hf) h1
      simp [Builtin.copy_, run_underlying hu, Builtin.lenOf, Builtin.firstCells, sizeOf, typeInfo, hq, hi, ← hn, hl, hst]
theorem wpList_copy_k {w : World} {ops : Array Oper} {rest : List Oper} {o : Oper} {a : Act} {Q : Exit → Act → World → Prop} (hgd : o.guard = none) (d s : Operand) (dT sT : TypeId)
    (ho : o.op = .call { callee := .builtin .copy, args := #[d, s], argTypes := #[dT, sT] }) (elem : TypeId) (hu : P.underlying dT = some (.slice elem)) (k : Nat) (hsz : (P.info? elem).map (·.size) = some k)
    (dp sp : Option Addr) (dLen dCap sLen sCap : Nat) (hd : a.eval d = .slice dp dLen dCap) (hs : a.eval s = .slice sp sLen sCap) (b off : Nat) (cs : List Value) (hn : cs.length = Nat.min sLen dLen * k)
    (hpos : 0 < cs.length → dp = some ⟨b, off, none⟩ ∧ ∃ ad, sp = some ad ∧ ∀ j v, cs[j]? = some v → w.cell? (ad.add j) = some v)
    (hc : ∀ j, j < cs.length → (w.cell? ⟨b, off + j, none⟩).isSome = true) (hf : ∀ j, j < cs.length → w.frozen? ⟨b, off + j, none⟩ = false) (h1 : ∀ v ∈ cs, v.oneCell' = true)
    (h : ∀ w', w' = w.setCells b off cs → wpList P ops Q rest (a.put o.dst (goInt (Nat.min sLen dLen))) w') : wpList P ops Q (o :: rest) a w := by
  refine wpList_plain hgd fun K hK => ?_
  have hrun := run_copy_k (P := P) w dT sT o.type elem k b off dLen dCap dp sp sLen sCap cs hu hsz hn hpos hc hf h1
  unfold Oper.wp
  simp [execOp, ho, resolve, invoke, builtin, hd, hs, hrun, Result.andThen]
  exact hK _ _ (h _ rfl)
end
theorem below_setCells {B : Nat} {w0 : World} (b : Nat) (hB : B ≤ b) : ∀ (vs : List Value) (o : Nat) (w : World), Below B w0 w → Below B w0 (w.setCells b o vs)
  | [], _, _, h => h
  | v :: r, o, w, h => below_setCells b hB r (o + 1) _ (h.setCell (by simpa using hB) v)
theorem size_setCells (b : Nat) : ∀ (vs : List Value) (o : Nat) (w : World), (w.setCells b o vs).heap.size = w.heap.size
  | [], _, _ => rfl
  | v :: r, o, w => by rw [World.setCells, size_setCells b r]; simp
theorem madeCells_get {z : Array Value} {n j : Nat} (h : j < n) : (madeCells z n)[j]? = some (z[j % z.size]!) := by
  simp [madeCells, h]
end Go.Proofs.Ytbkknliggnhpcaa
/- A region that draws its order, and whose operations (but the last ones) read or make new memory: whatever the order, each operation has yielded what it should, in the world that is there behind them. -/
namespace Go.Proofs.Ytbkknliggnhpcaa
open Go.RowKit

def setAll (dst : Nat → Tmp) (vs : Nat → Value) : List Nat → Array Value → Array Value
  | [], t => t
  | i :: l, t => setAll dst vs l (t.setIfInBounds (dst i) (vs i))
theorem setAll_size {dst : Nat → Tmp} {vs : Nat → Value} : ∀ {l : List Nat} {t : Array Value}, (setAll dst vs l t).size = t.size
  | [], _ => rfl
  | i :: l, t => by rw [setAll, setAll_size, Array.size_setIfInBounds]
theorem setAll_get {dst : Nat → Tmp} {vs : Nat → Value} {d : Nat} : ∀ {l : List Nat} {t : Array Value}, (∀ i ∈ l, dst i < t.size) → (∀ i ∈ l, ∀ j ∈ l, dst i = dst j → i = j) →
    (setAll dst vs l t)[d]? = match l.find? (fun i => dst i == d) with | some i => some (vs i) | none => t[d]?
  | [], _, _, _ => rfl
  | i :: l, t, h, hp => by
    rw [setAll, setAll_get (fun j hj => by rw [Array.size_setIfInBounds]; exact h j (by simp [hj])) (fun a ha b hb => hp a (by simp [ha]) b (by simp [hb])), List.find?_cons]
    by_cases hd : dst i = d
    · subst hd
      simp only [beq_self_eq_true]
      cases hf : l.find? (fun j => dst j == dst i) with
      | none => simp only; rw [Array.getElem?_setIfInBounds_self_of_lt (h i (by simp))]
      | some j =>
        have h1 := List.find?_some hf
        have h2 := List.mem_of_find?_eq_some hf
        have : j = i := hp j (by simp [h2]) i (by simp) (by simpa using h1)
        subst this; rfl
    · have : (dst i == d) = false := by simpa using hd
      simp only [this]
      cases hf : l.find? (fun j => dst j == d) with
      | none => simp only; rw [Array.getElem?_setIfInBounds_ne hd]
      | some j => rfl
def idxs (listed : Array Bool) (n : Nat) : List Nat := (List.range n).filter fun i => listed.getD i false
theorem mem_idxs {listed : Array Bool} {n i : Nat} : i ∈ idxs listed n ↔ i < n ∧ listed.getD i false = true := by simp [idxs]
theorem getD_set {listed : Array Bool} {i j : Nat} (hi : i < listed.size) : (listed.setIfInBounds i true).getD j false = if j = i then true else listed.getD j false := by
  rw [Array.getD_eq_getD_getElem?, Array.getD_eq_getD_getElem?]
  by_cases h : j = i
  · subst h; rw [Array.getElem?_setIfInBounds_self_of_lt hi]; simp
  · rw [Array.getElem?_setIfInBounds_ne (Ne.symm h), if_neg h]
theorem find_uniq {dst : Nat → Tmp} {l : List Nat} {d i : Nat} (hi : i ∈ l) (hd : dst i = d) (hp : ∀ i ∈ l, ∀ j ∈ l, dst i = dst j → i = j) : l.find? (fun j => dst j == d) = some i := by
  cases hf : l.find? (fun j => dst j == d) with
  | none => have := List.find?_eq_none.1 hf i hi; simp [hd] at this
  | some j =>
    have h1 := List.find?_some hf
    have h2 := List.mem_of_find?_eq_some hf
    rw [hp j h2 i hi (by rw [hd]; simpa using h1)]

section
variable {P : Program} {ops : Array Oper} {Q : Exit → Act → World → Prop} {a0 : Act} {w : World} {dst : Nat → Tmp} {mono pre : Nat → Bool} {Pv : Nat → Value → World → Prop}
/-- What is so when some operations are over. -/
structure Grown (n : Nat) (a0 : Act) (w : World) (dst : Nat → Tmp) (mono : Nat → Bool) (Pv : Nat → Value → World → Prop) (listed : Array Bool) (vs : Nat → Value) (a : Act) (W : World) : Prop where
  below : Below w.heap.size w W
  defers : a.defers = a0.defers
  tmps : a.tmps = setAll dst vs (idxs listed n) a0.tmps
  size : listed.size = n
  mono : ∀ i, listed.getD i false = true → mono i = true
  pv : ∀ i, listed.getD i false = true → Pv i (vs i) W
/-- The closed facts on a region: asked of the program by the kernel. -/
def growOk (ops : Array Oper) (dst : Nat → Tmp) (mono pre : Nat → Bool) (size : Nat) : Bool :=
  (List.range ops.size).all fun i =>
    ((ops[i]?).any fun o =>
      (!mono i || (o.dst == some (dst i) && decide (dst i < size) && (List.range ops.size).all (fun j => !mono j || i == j || dst i != dst j))) &&
      (!pre i || (mono i && o.after.all fun e => !Region.binds .any e || (decide (e.on < i) && pre e.on))) &&
      (mono i || (List.range ops.size).all fun j => !pre j || o.after.any fun e => Region.binds .any e && e.on == j))
theorem Grown.next {n : Nat} {listed : Array Bool} {vs : Nat → Value} {a : Act} {W W' : World} {i : Nat} {v : Value} (h : Grown n a0 w dst mono Pv listed vs a W) (hi : i < n) (hl : listed.getD i false = false) (hm : mono i = true)
    (hd : ∀ i, i < n → mono i = true → dst i < a0.tmps.size) (hinj : ∀ i, i < n → mono i = true → ∀ j, j < n → mono j = true → dst i = dst j → i = j)
    (hst : ∀ i v W W', Pv i v W → Below W.heap.size W W' → Pv i v W') (hb : Below W.heap.size W W') (hv : Pv i v W') :
    Grown n a0 w dst mono Pv (listed.setIfInBounds i true) (fun j => if j = i then v else vs j) (a.put (some (dst i)) v) W' := by
  have hil : i < listed.size := by rw [h.size]; exact hi
  have hm1 : ∀ j ∈ idxs listed n, j < n ∧ mono j = true := fun j hj => ⟨(mem_idxs.1 hj).1, h.mono j (mem_idxs.1 hj).2⟩
  have hm2 : ∀ j ∈ idxs (listed.setIfInBounds i true) n, j < n ∧ mono j = true := fun j hj => by
    obtain ⟨h1, h2⟩ := mem_idxs.1 hj
    rw [getD_set hil] at h2
    refine ⟨h1, ?_⟩
    split at h2
    · rename_i e; rw [e]; exact hm
    · exact h.mono j h2
  have hp1 : ∀ a ∈ idxs listed n, ∀ b ∈ idxs listed n, dst a = dst b → a = b := fun a ha b hb => hinj a (hm1 a ha).1 (hm1 a ha).2 b (hm1 b hb).1 (hm1 b hb).2
  have hp2 : ∀ a ∈ idxs (listed.setIfInBounds i true) n, ∀ b ∈ idxs (listed.setIfInBounds i true) n, dst a = dst b → a = b := fun a ha b hb => hinj a (hm2 a ha).1 (hm2 a ha).2 b (hm2 b hb).1 (hm2 b hb).2
  refine ⟨h.below.trans (hb.mono h.below.size), h.defers, ?_, by rw [Array.size_setIfInBounds]; exact h.size, fun j hj => ?_, fun j hj => ?_⟩
  · show a.tmps.setIfInBounds (dst i) v = _
    rw [h.tmps]
    apply Array.ext_getElem?
    intro d
    rw [setAll_get (fun j hj => hd j (hm2 j hj).1 (hm2 j hj).2) hp2]
    by_cases e : dst i = d
    · subst e
      rw [Array.getElem?_setIfInBounds_self_of_lt (by rw [setAll_size]; exact hd i hi hm), find_uniq (i := i) (mem_idxs.2 ⟨hi, by rw [getD_set hil, if_pos rfl]⟩) rfl hp2]
      simp
    · rw [Array.getElem?_setIfInBounds_ne e, setAll_get (fun j hj => hd j (hm1 j hj).1 (hm1 j hj).2) hp1]
      cases hf : (idxs listed n).find? (fun j => dst j == d) with
      | some j =>
        have h1 := List.find?_some hf
        have h2 := List.mem_of_find?_eq_some hf
        have hji : j ≠ i := fun e' => by rw [e'] at h1; exact e (by simpa using h1)
        rw [find_uniq (i := j) (mem_idxs.2 ⟨(hm1 j h2).1, by rw [getD_set hil, if_neg hji]; exact (mem_idxs.1 h2).2⟩) (by simpa using h1) hp2]
        simp [hji]
      | none =>
        have : (idxs (listed.setIfInBounds i true) n).find? (fun j => dst j == d) = none := by
          rw [List.find?_eq_none] at hf ⊢
          intro j hj
          obtain ⟨h1, h2⟩ := mem_idxs.1 hj
          rw [getD_set hil] at h2
          split at h2
          · rename_i e'; rw [e']; simpa using e
          · exact hf j (mem_idxs.2 ⟨h1, h2⟩)
        rw [this]
  · rw [getD_set hil] at hj
    split at hj
    · rename_i e; rw [e]; exact hm
    · exact h.mono j hj
  · rw [getD_set hil] at hj
    split at hj
    · rename_i e; simp only [e, if_true]; exact hv
    · rename_i e; simp only [e, if_false]; exact hst _ _ _ _ (h.pv j hj) hb
/-- How many operations are still to come. -/
def leftOver (listed : Array Bool) (n : Nat) : Nat := ((List.range n).filter fun i => !listed.getD i false).length
theorem leftOver_set {listed : Array Bool} {n i : Nat} (hs : listed.size = n) (hi : i < n) (hl : listed.getD i false = false) : leftOver listed n = leftOver (listed.setIfInBounds i true) n + 1 := by
  have h1 : ∀ (l : List Nat), l.Nodup → i ∈ l → (l.filter fun j => !listed.getD j false).length = (l.filter fun j => !(listed.setIfInBounds i true).getD j false).length + 1 := by
    intro l
    induction l with
    | nil => intro _ h; cases h
    | cons a l ih =>
      intro hn hm
      rw [List.nodup_cons] at hn
      rcases List.mem_cons.1 hm with e | hm
      · subst e
        have e2 : (l.filter fun j => !listed.getD j false) = (l.filter fun j => !(listed.setIfInBounds i true).getD j false) := by
          apply List.filter_congr
          intro j hj
          rw [getD_set (by omega), if_neg (show ¬ j = i from fun e => hn.1 (e ▸ hj))]
        rw [List.filter_cons, List.filter_cons, getD_set (by omega), if_pos rfl, hl, e2]
        simp
      · have hai : a ≠ i := fun e => hn.1 (e ▸ hm)
        have := ih hn.2 hm
        rw [List.filter_cons, List.filter_cons, getD_set (by omega), if_neg hai]
        by_cases hla : (!listed.getD a false) = true
        · rw [if_pos hla, if_pos hla, List.length_cons, List.length_cons, this]
        · rw [if_neg hla, if_neg hla, this]
  exact h1 _ List.nodup_range (List.mem_range.2 hi)
theorem leftOver_zero {listed : Array Bool} {n : Nat} (h : leftOver listed n = 0) {i : Nat} (hi : i < n) : listed.getD i false = true := by
  rw [leftOver, List.length_eq_zero_iff, List.filter_eq_nil_iff] at h
  have := h i (List.mem_range.2 hi)
  simpa using this
theorem Grown.slot {n : Nat} {listed : Array Bool} {vs : Nat → Value} {a : Act} {W : World} (h : Grown n a0 w dst mono Pv listed vs a W) (hd : ∀ i, i < n → mono i = true → dst i < a0.tmps.size)
    (hinj : ∀ i, i < n → mono i = true → ∀ j, j < n → mono j = true → dst i = dst j → i = j) {j : Nat} (hj : j < n) (hl : listed.getD j false = true) : a.eval (.tmp (dst j)) = vs j := by
  have hm : ∀ i ∈ idxs listed n, i < n ∧ mono i = true := fun i hi => ⟨(mem_idxs.1 hi).1, h.mono i (mem_idxs.1 hi).2⟩
  have hp : ∀ a ∈ idxs listed n, ∀ b ∈ idxs listed n, dst a = dst b → a = b := fun a ha b hb => hinj a (hm a ha).1 (hm a ha).2 b (hm b hb).1 (hm b hb).2
  show a.tmps.getD (dst j) undef = _
  rw [Array.getD_eq_getD_getElem?, h.tmps, setAll_get (fun i hi => hd i (hm i hi).1 (hm i hi).2) hp, find_uniq (i := j) (mem_idxs.2 ⟨hj, hl⟩) rfl hp]
  rfl
theorem Grown.same {n : Nat} {listed : Array Bool} {vs : Nat → Value} {a : Act} {W : World} (h : Grown n a0 w dst mono Pv listed vs a W) (hd : ∀ i, i < n → mono i = true → dst i < a0.tmps.size)
    (hinj : ∀ i, i < n → mono i = true → ∀ j, j < n → mono j = true → dst i = dst j → i = j) {d : Nat} (hn : ((List.range n).all fun j => dst j != d) = true) : a.eval (.tmp d) = a0.eval (.tmp d) := by
  have hm : ∀ i ∈ idxs listed n, i < n ∧ mono i = true := fun i hi => ⟨(mem_idxs.1 hi).1, h.mono i (mem_idxs.1 hi).2⟩
  have hp : ∀ a ∈ idxs listed n, ∀ b ∈ idxs listed n, dst a = dst b → a = b := fun a ha b hb => hinj a (hm a ha).1 (hm a ha).2 b (hm b hb).1 (hm b hb).2
  show a.tmps.getD d undef = a0.tmps.getD d undef
  rw [Array.getD_eq_getD_getElem?, Array.getD_eq_getD_getElem?, h.tmps, setAll_get (fun i hi => hd i (hm i hi).1 (hm i hi).2) hp]
  have : (idxs listed n).find? (fun i => dst i == d) = none := by
    rw [List.find?_eq_none]
    intro i hi
    have := List.all_eq_true.1 hn i (List.mem_range.2 (hm i hi).1)
    simpa using this
  rw [this]
theorem any_some {α : Type} {x : Option α} {p : α → Bool} (h : x.any p = true) : ∃ o, x = some o ∧ p o = true := by
  cases x with
  | none => cases h
  | some o => exact ⟨o, rfl, h⟩
theorem grow_facts (hok : growOk ops dst mono pre a0.tmps.size = true) :
    (∀ i, i < ops.size → mono i = true → dst i < a0.tmps.size) ∧ (∀ i, i < ops.size → mono i = true → ∀ j, j < ops.size → mono j = true → dst i = dst j → i = j) := by
  have h := fun i (hi : i < ops.size) => List.all_eq_true.1 hok i (List.mem_range.2 hi)
  constructor
  · intro i hi hm
    have h1 := h i hi
    obtain ⟨o, ho, h2⟩ := any_some h1
    rw [hm] at h2
    simp only [Bool.not_true, Bool.false_or, Bool.and_eq_true, decide_eq_true_eq] at h2
    exact h2.1.1.1.2
  · intro i hi hm j hj hmj e
    have h1 := h i hi
    obtain ⟨o, ho, h2⟩ := any_some h1
    rw [hm] at h2
    simp only [Bool.not_true, Bool.false_or, Bool.and_eq_true] at h2
    have h3 := List.all_eq_true.1 h2.1.1.2 j (List.mem_range.2 hj)
    rw [hmj] at h3
    simp only [Bool.not_true, Bool.false_or, Bool.or_eq_true, beq_iff_eq, bne_iff_ne, ne_eq] at h3
    rcases h3 with h3 | h3
    · exact h3
    · exact absurd e h3
/-- What a step may lean on. -/
structure GrownU (n : Nat) (a0 : Act) (w : World) (dst : Nat → Tmp) (Pv : Nat → Value → World → Prop) (listed : Array Bool) (vs : Nat → Value) (a : Act) (W : World) : Prop where
  below : Below w.heap.size w W
  pv : ∀ i, listed.getD i false = true → Pv i (vs i) W
  slot : ∀ j, j < n → listed.getD j false = true → a.tmps[dst j]?.getD undef = vs j
  same : ∀ d, ((List.range n).all fun j => dst j != d) = true → a.tmps[d]?.getD undef = a0.tmps[d]?.getD undef
theorem Grown.user {n : Nat} {listed : Array Bool} {vs : Nat → Value} {a : Act} {W : World} (h : Grown n a0 w dst mono Pv listed vs a W) (hd : ∀ i, i < n → mono i = true → dst i < a0.tmps.size)
    (hinj : ∀ i, i < n → mono i = true → ∀ j, j < n → mono j = true → dst i = dst j → i = j) : GrownU n a0 w dst Pv listed vs a W :=
  ⟨h.below, h.pv, fun j hj hl => by have := h.slot hd hinj hj hl; rw [← Array.getD_eq_getD_getElem?]; exact this, fun d hn => by have := h.same hd hinj hn; rw [← Array.getD_eq_getD_getElem?, ← Array.getD_eq_getD_getElem?]; exact this⟩
theorem arr_eq {l T : Array Bool} (hs : l.size = T.size) (h : ∀ i, i < T.size → l.getD i false = T.getD i false) : l = T := by
  apply Array.ext hs
  intro i h1 h2
  have := h i h2
  rw [Array.getD_eq_getD_getElem?, Array.getD_eq_getD_getElem?, Array.getElem?_eq_getElem h1, Array.getElem?_eq_getElem h2] at this
  exact this
theorem Grown.act {n : Nat} {listed : Array Bool} {vs : Nat → Value} {a : Act} {W : World} (h : Grown n a0 w dst mono Pv listed vs a W) : a = { tmps := setAll dst vs (idxs listed n) a0.tmps, defers := a0.defers } := by
  obtain ⟨t, d⟩ := a
  have h1 := h.tmps
  have h2 := h.defers
  simp only at h1 h2
  rw [h1, h2]
theorem wpAny_grow (hok : growOk ops dst mono pre a0.tmps.size = true) (hst : ∀ i v W W', Pv i v W → Below W.heap.size W W' → Pv i v W')
    (hstep : ∀ i, i < ops.size → mono i = true → ∀ listed vs a W, GrownU ops.size a0 w dst Pv listed vs a W → (∀ o, ops[i]? = some o → ∀ e ∈ o.after, Region.binds .any e = true → listed.getD e.on false = true) →
      ∀ K : Act → World → Prop, (∀ v W', Below W.heap.size W W' → Pv i v W' → K (a.put (some (dst i)) v) W') → wpOp P ops Q i K a W)
    (hend : ∀ listed vs a W, Grown ops.size a0 w dst mono Pv listed vs a W → (∀ i, i < ops.size → pre i = true → listed.getD i false = true) → wpAny P .any ops Q (leftOver listed ops.size) listed a W) :
    ∀ (fuel : Nat) (listed : Array Bool) (vs : Nat → Value) (a : Act) (W : World), Grown ops.size a0 w dst mono Pv listed vs a W → fuel = leftOver listed ops.size → wpAny P .any ops Q fuel listed a W
  | 0, listed, vs, a, W, h, hf => by
    rw [hf]
    exact hend listed vs a W h (fun i hi _ => leftOver_zero hf.symm hi)
  | fuel + 1, listed, vs, a, W, h, hf => by
    by_cases hall : ∀ i, i < ops.size → pre i = true → listed.getD i false = true
    · rw [hf]; exact hend listed vs a W h hall
    · have hfacts := fun i (hi : i < ops.size) => any_some (List.all_eq_true.1 hok i (List.mem_range.2 hi))
      obtain ⟨hd, hinj⟩ := grow_facts hok
      -- the least of those that lack
      have hex : ∃ i, i < ops.size ∧ pre i = true ∧ listed.getD i false = false ∧ ∀ j, j < i → pre j = true → listed.getD j false = true := by
        apply Classical.byContradiction
        intro hno
        apply hall
        intro i
        induction i using Nat.strongRecOn with
        | _ i ih =>
          intro hi hp
          cases hl : listed.getD i false with
          | true => rfl
          | false => exact absurd ⟨i, hi, hp, hl, fun j hj hpj => ih j hj (by omega) hpj⟩ hno
      refine ⟨fun hr => ?_, fun i hi => ?_⟩
      · exfalso
        obtain ⟨i, hi, hp, hl, hbef⟩ := hex
        obtain ⟨o, ho, h2⟩ := hfacts i hi
        simp only [hp, Bool.not_true, Bool.false_or, Bool.and_eq_true] at h2
        have hmem : i ∈ Region.ready .any ops listed := by
          rw [Region.ready, List.mem_filter]
          refine ⟨List.mem_range.2 hi, ?_⟩
          have hl2 : listed.getD i true = false := by
            rw [Array.getD_eq_getD_getElem?] at hl ⊢
            rw [Array.getElem?_eq_getElem (by rw [h.size]; exact hi)] at hl ⊢
            exact hl
          rw [hl2, ho]
          simp only [Bool.not_false, Bool.true_and, Option.map_some, Option.getD_some]
          rw [Array.all_eq_true_iff_forall_mem]
          intro e he
          have h3 := Array.all_eq_true_iff_forall_mem.1 h2.1.2.2 e he
          cases hb : Region.binds .any e with
          | false => rfl
          | true =>
            rw [hb] at h3
            simp only [Bool.not_true, Bool.false_or, Bool.and_eq_true, decide_eq_true_eq] at h3
            simpa using hbef e.on h3.1 h3.2
        rw [hr] at hmem
        cases hmem
      · rw [Region.ready, List.mem_filter] at hi
        obtain ⟨hi, hr⟩ := hi
        have hi := List.mem_range.1 hi
        obtain ⟨o, ho, h2⟩ := hfacts i hi
        rw [ho] at hr
        simp only [Option.map_some, Option.getD_some, Bool.and_eq_true, Bool.not_eq_true'] at hr
        have hl : listed.getD i false = false := by
          have := hr.1
          rw [Array.getD_eq_getD_getElem?] at this ⊢
          rw [Array.getElem?_eq_getElem (by rw [h.size]; exact hi)] at this ⊢
          exact this
        have haft : ∀ e ∈ o.after, Region.binds .any e = true → listed.getD e.on false = true := fun e he hb => by
          have := Array.all_eq_true_iff_forall_mem.1 hr.2 e he
          rw [hb] at this
          simpa using this
        have hm : mono i = true := by
          cases hm : mono i with
          | true => rfl
          | false =>
            exfalso
            simp only [hm, Bool.false_or, Bool.and_eq_true] at h2
            apply hall
            intro j hj hp
            have h3 := List.all_eq_true.1 h2.2 j (List.mem_range.2 hj)
            rw [hp] at h3
            simp only [Bool.not_true, Bool.false_or] at h3
            rw [← Array.any_toList, List.any_eq_true] at h3
            obtain ⟨e, he, h4⟩ := h3
            have he : e ∈ o.after := by simpa using he
            simp only [Bool.and_eq_true, beq_iff_eq] at h4
            rw [← h4.2]
            exact haft e he h4.1
        refine hstep i hi hm listed vs a W (h.user hd hinj) (fun o' ho' => by rw [ho] at ho'; cases ho'; exact haft) _ (fun v W' hb hv => ?_)
        exact wpAny_grow hok hst hstep hend fuel _ _ _ _ (h.next hi hl hm hd hinj hst hb hv) (by have := leftOver_set h.size hi hl; omega)
theorem wp_region_grow2 {id : Nat} (hm : P.follows .mixedOrders = true) (hok : growOk ops dst mono pre a0.tmps.size = true) (hst : ∀ i v W W', Pv i v W → Below W.heap.size W W' → Pv i v W')
    (hstep : ∀ i, i < ops.size → mono i = true → ∀ listed vs a W, GrownU ops.size a0 w.drew dst Pv listed vs a W → (∀ o, ops[i]? = some o → ∀ e ∈ o.after, Region.binds .any e = true → listed.getD e.on false = true) →
      ∀ K : Act → World → Prop, (∀ v W', Below W.heap.size W W' → Pv i v W' → K (a.put (some (dst i)) v) W') → wpOp P ops Q i K a W)
    (hend : ∀ listed vs a W, Grown ops.size a0 w.drew dst mono Pv listed vs a W → (∀ i, i < ops.size → pre i = true → listed.getD i false = true) → wpAny P .any ops Q (leftOver listed ops.size) listed a W) :
    (Code.region id ops true).wp P Q a0 w := by
  have hz : ∀ i, (Array.replicate ops.size false).getD i false = false := fun i => by
    rw [Array.getD_eq_getD_getElem?, Array.getElem?_replicate]; split <;> rfl
  have hix : idxs (Array.replicate ops.size false) ops.size = [] := by
    rw [idxs, List.filter_eq_nil_iff]; intro i _; rw [hz]; simp
  refine wp_region_any hm (wpAny_grow hok hst hstep hend _ _ (fun _ => undef) a0 w.drew ⟨Below.refl _ _, rfl, by rw [hix]; rfl, by simp, (fun i h => by rw [hz] at h; cases h), (fun i h => by rw [hz] at h; cases h)⟩ ?_)
  rw [leftOver, List.filter_eq_self.2 (fun i _ => by rw [hz]; rfl), List.length_range]
end
section
variable {P : Program} {ops : Array Oper} {Q : Exit → Act → World → Prop} {i : Nat} {o : Oper} {K : Act → World → Prop} {a : Act} {W W' : World}
theorem wpOp_value {v : Value} (ho : ops[i]? = some o) (hg : o.guard = none) (hr : (execOp a.eval o).run P W = .ok (.value v) W') (hk : K (a.put o.dst v) W') : wpOp P ops Q i K a W := by
  unfold wpOp
  simp only [ho, Region.wanted, hg, if_true]
  left
  unfold Oper.wp
  rw [hr]; exact hk
theorem wpOp_enter {f : FuncId} {args : Array Value} (ho : ops[i]? = some o) (hg : o.guard = none) (hr : (execOp a.eval o).run P W = .ok (.enter f args) W') (hc : Calls P f args W' fun e w'' => ∃ v, e = .returned v ∧ K (a.put o.dst v) w'') : wpOp P ops Q i K a W := by
  unfold wpOp
  simp only [ho, Region.wanted, hg, if_true]
  left
  unfold Oper.wp
  rw [hr]
  exact hc.mono (fun e w'' ⟨v, he, hk⟩ => by rw [he]; exact hk)
end
end Go.Proofs.Ytbkknliggnhpcaa
/- The plain law of chapter 07: when lots of one hold turn. No program here but the data's own words. -/
namespace Go.Proofs.Ytbkknliggnhpcaa

/-- Lot i has turned at the beginning of hour h, by what is left of all greens then. -/
def turnedB (c : Cargo) (h : Nat) (left : List Int) (i : Nat) : Bool := decide ((nth c.lots i).frm ≤ h) && decide (nth left i ≤ 0)
def gasB (c : Cargo) (l : List Nat) (h : Nat) (left : List Int) : Bool := l.any (turnedB c h left)
/-- What is left of lot i's green at the end of hour h. -/
def takeAt (c : Cargo) (l : List Nat) (warm : Int) (h : Nat) (left : List Int) (i : Nat) : Int :=
  if l.contains i && decide ((nth c.lots i).frm ≤ h) && decide (0 < nth left i) then nth left i - nth c.heat h - warm - (if gasB c l h left then c.gas else 0) else nth left i
def stepL (c : Cargo) (l : List Nat) (warm : Int) (h : Nat) (left : List Int) : List Int := (List.range left.length).map (takeAt c l warm h left)
def leftL (c : Cargo) (l : List Nat) (warm : Int) (g : List Int) : Nat → List Int
  | 0 => g
  | h + 1 => stepL c l warm h (leftL c l warm g h)
/-- The hour below h at which lot i turned, or one behind all hours. -/
def outAt (c : Cargo) (l : List Nat) (warm : Int) (g : List Int) (h i : Nat) : Int :=
  match (List.range h).find? (fun k => turnedB c k (leftL c l warm g k) i) with
  | some k => k
  | none => (c.heat.length : Int) + 1
def timesM (c : Cargo) (l : List Nat) (warm : Int) (g : List Int) : List Int :=
  (List.range c.lots.length).map fun i => if l.contains i then outAt c l warm g (c.heat.length + 1) i else (c.heat.length : Int) + 1

theorem nth_map_range {n i : Nat} (f : Nat → Int) (h : i < n) : nth ((List.range n).map f) i = f i := by simp [nth, h]
theorem leftL_length (c : Cargo) (l : List Nat) (warm : Int) (g : List Int) (h : Nat) : (leftL c l warm g h).length = g.length := by
  induction h with
  | zero => rfl
  | succ h ih => simp [leftL, stepL, ih]
theorem leftL_succ {c : Cargo} {l : List Nat} {warm : Int} {g : List Int} {h i : Nat} (hi : i < g.length) : nth (leftL c l warm g (h + 1)) i = takeAt c l warm h (leftL c l warm g h) i := by
  rw [leftL, stepL, nth_map_range _ (by rw [leftL_length]; exact hi)]
/-- Who has turned stays so. -/
theorem turned_mono {c : Cargo} {l : List Nat} {warm : Int} {g : List Int} {i : Nat} (hi : i < g.length) {k h : Nat} (hk : k ≤ h) (ht : turnedB c k (leftL c l warm g k) i = true) : turnedB c h (leftL c l warm g h) i = true := by
  induction h with
  | zero => rwa [show k = 0 by omega] at ht
  | succ h ih =>
    rcases Nat.lt_or_ge k (h + 1) with h1 | h1
    · have := ih (by omega)
      simp only [turnedB, Bool.and_eq_true, decide_eq_true_eq] at this ⊢
      refine ⟨by omega, ?_⟩
      rw [leftL_succ hi, takeAt, if_neg (by simp; omega)]
      exact this.2
    · rwa [show k = h + 1 by omega] at ht
section
variable {c : Cargo} {l : List Nat} {warm : Int} {g : List Int} {i : Nat}
theorem outAt_zero : outAt c l warm g 0 i = (c.heat.length : Int) + 1 := by simp [outAt]
theorem outAt_succ {h : Nat} : outAt c l warm g (h + 1) i = match (List.range h).find? (fun k => turnedB c k (leftL c l warm g k) i) with
    | some k => (k : Int)
    | none => if turnedB c h (leftL c l warm g h) i then (h : Int) else (c.heat.length : Int) + 1 := by
  rw [outAt, List.range_succ, List.find?_append]
  cases (List.range h).find? (fun k => turnedB c k (leftL c l warm g k) i) with
  | some k => simp
  | none => cases ht : turnedB c h (leftL c l warm g h) i <;> simp [List.find?_cons, ht]
theorem find_lt {h k : Nat} {p : Nat → Bool} (e : (List.range h).find? p = some k) : k < h ∧ p k = true := by
  have h1 := List.mem_of_find?_eq_some e
  exact ⟨by simpa using h1, List.find?_some e⟩
/-- Behind hour h, when it is no hour behind all: the time is at most h just if the lot has turned. -/
theorem outAt_le (hi : i < g.length) {h : Nat} (hh : h ≤ c.heat.length) : outAt c l warm g (h + 1) i ≤ (h : Int) ↔ turnedB c h (leftL c l warm g h) i = true := by
  rw [outAt_succ]
  cases e : (List.range h).find? (fun k => turnedB c k (leftL c l warm g k) i) with
  | some k =>
    obtain ⟨h1, h2⟩ := find_lt e
    simp only
    exact ⟨fun _ => turned_mono hi (by omega) h2, fun _ => by omega⟩
  | none =>
    simp only
    split
    · simp_all
    · simp_all; omega
theorem outAt_never (hi : i < g.length) {h : Nat} (hh : h ≤ c.heat.length) : outAt c l warm g (h + 1) i = (c.heat.length : Int) + 1 ↔ turnedB c h (leftL c l warm g h) i = false := by
  rw [outAt_succ]
  cases e : (List.range h).find? (fun k => turnedB c k (leftL c l warm g k) i) with
  | some k =>
    obtain ⟨h1, h2⟩ := find_lt e
    have := turned_mono (l := l) (warm := warm) hi (show k ≤ h by omega) h2
    simp only [this]
    constructor
    · intro h3; omega
    · intro h3; simp at h3
  | none =>
    simp only
    split
    · simp_all; omega
    · simp_all
theorem outAt_step {h : Nat} (hh : h ≤ c.heat.length) : outAt c l warm g (h + 1) i =
    if outAt c l warm g h i = (c.heat.length : Int) + 1 ∧ (nth c.lots i).frm ≤ h ∧ nth (leftL c l warm g h) i ≤ 0 then (h : Int) else outAt c l warm g h i := by
  rw [outAt_succ, outAt]
  cases e : (List.range h).find? (fun k => turnedB c k (leftL c l warm g k) i) with
  | some k =>
    obtain ⟨h1, h2⟩ := find_lt e
    simp only
    rw [if_neg (fun h3 => by have := h3.1; omega)]
  | none =>
    simp only [true_and, turnedB, Bool.and_eq_true, decide_eq_true_eq]
theorem outAt_bd (h : Nat) (hh : h ≤ c.heat.length + 1) : 0 ≤ outAt c l warm g h i ∧ outAt c l warm g h i ≤ (c.heat.length : Int) + 1 := by
  rw [outAt]
  split
  · rename_i k e
    obtain ⟨h1, h2⟩ := find_lt e
    omega
  · omega
end
theorem nth_set {l : List Int} {i k : Nat} (hi : i < l.length) (u : Int) : nth (l.set i u) k = if k = i then u else nth l k := by
  by_cases h : k = i
  · subst h; simp [nth, hi]
  · simp [nth, List.getElem?_set, Ne.symm h, h]
theorem nodup_take {l : List Nat} (h : l.Nodup) {i : Nat} (hi : i < l.length) : (l.take i).contains (nth l i) = false := by
  have h1 : (l.take (i + 1)).Nodup := h.sublist (List.take_sublist _ _)
  rw [take_nth hi, List.nodup_append] at h1
  have h2 : ¬ nth l i ∈ l.take i := fun h3 => h1.2.2 _ h3 _ (by simp) rfl
  simpa using h2
def gasTo (c : Cargo) (l : List Nat) (t : Nat) (left : List Int) (k : Nat) : Bool := (l.take k).any (turnedB c t left)
theorem gasTo_succ {c : Cargo} {l : List Nat} {t : Nat} {left : List Int} {k : Nat} (h : k < l.length) : gasTo c l t left (k + 1) = (gasTo c l t left k || turnedB c t left (nth l k)) := by
  rw [gasTo, take_nth h]; simp [gasTo]
theorem gasTo_all {c : Cargo} {l : List Nat} {t : Nat} {left : List Int} {k : Nat} (h : l.length ≤ k) : gasTo c l t left k = gasB c l t left := by
  rw [gasTo, List.take_of_length_le h, gasB]
/-- The hours at which lots turned, when those of S have been looked at in hour t. -/
def OutG (c : Cargo) (l : List Nat) (warm : Int) (g : List Int) (t : Nat) (S : List Nat) (out : List Int) : Prop :=
  ∀ q, q < c.lots.length → nth out q = if l.contains q then (if S.contains q then outAt c l warm g (t + 1) q else outAt c l warm g t q) else (c.heat.length : Int) + 1
def LeftG (c : Cargo) (l : List Nat) (warm : Int) (g : List Int) (t : Nat) (S : List Nat) (left : List Int) : Prop :=
  ∀ q, q < c.lots.length → nth left q = if S.contains q then takeAt c l warm t (leftL c l warm g t) q else nth (leftL c l warm g t) q
theorem contains_snoc (S : List Nat) (q k : Nat) : (S ++ [q]).contains k = (S.contains k || decide (k = q)) := by
  rw [Bool.eq_iff_iff]; simp
section
variable {c : Cargo} {l : List Nat} {warm : Int} {g : List Int} {t : Nat} {S : List Nat} {out left : List Int} {q : Nat}
theorem OutG.same (h : OutG c l warm g t S out) (hq : l.contains q = true) (hu : nth out q = outAt c l warm g (t + 1) q) : OutG c l warm g t (S ++ [q]) out := fun k hk => by
  rw [contains_snoc]
  by_cases hkq : k = q
  · subst hkq; simp only [hq, decide_true, Bool.or_true, if_true]; exact hu
  · simp only [hkq, decide_false, Bool.or_false]; exact h k hk
theorem OutG.set (h : OutG c l warm g t S out) (hq : l.contains q = true) (hql : q < out.length) {u : Int} (hu : u = outAt c l warm g (t + 1) q) : OutG c l warm g t (S ++ [q]) (out.set q u) := fun k hk => by
  rw [nth_set hql, contains_snoc]
  by_cases hkq : k = q
  · subst hkq; simp only [hq, decide_true, Bool.or_true, if_true]; exact hu
  · simp only [hkq, decide_false, Bool.or_false, if_false]; exact h k hk
theorem OutG.next (h : OutG c l warm g t l out) : OutG c l warm g (t + 1) [] out := fun k hk => by
  rw [h k hk]
  by_cases hc : l.contains k = true <;> simp_all
theorem LeftG.same (h : LeftG c l warm g t S left) (hu : nth left q = takeAt c l warm t (leftL c l warm g t) q) : LeftG c l warm g t (S ++ [q]) left := fun k hk => by
  rw [contains_snoc]
  by_cases hkq : k = q
  · subst hkq; simp only [decide_true, Bool.or_true, if_true]; exact hu
  · simp only [hkq, decide_false, Bool.or_false]; exact h k hk
theorem LeftG.set (h : LeftG c l warm g t S left) (hql : q < left.length) {u : Int} (hu : u = takeAt c l warm t (leftL c l warm g t) q) : LeftG c l warm g t (S ++ [q]) (left.set q u) := fun k hk => by
  rw [nth_set hql, contains_snoc]
  by_cases hkq : k = q
  · subst hkq; simp only [decide_true, Bool.or_true, if_true]; exact hu
  · simp only [hkq, decide_false, Bool.or_false, if_false]; exact h k hk
theorem nth_ext {a b : List Int} {n : Nat} (ha : a.length = n) (hb : b.length = n) (h : ∀ q, q < n → nth a q = nth b q) : a = b := by
  apply List.ext_getElem (by omega)
  intro i h1 h2
  have := h i (by omega)
  rwa [nth_eq h1, nth_eq h2] at this
theorem LeftG.next (h : LeftG c l warm g t l left) (hl : left.length = c.lots.length) (hg : g.length = c.lots.length) : left = leftL c l warm g (t + 1) := by
  refine nth_ext hl (by rw [leftL_length, hg]) fun q hq => ?_
  rw [h q hq, leftL_succ (by omega)]
  split
  · rfl
  · rename_i hc
    rw [takeAt, if_neg (by simp_all)]
theorem OutG.done' (h : OutG c l warm g t [] out) (ht : t = c.heat.length + 1) (hl : out.length = c.lots.length) : out = timesM c l warm g := by
  refine nth_ext hl (by simp [timesM]) fun q hq => ?_
  rw [h q hq, timesM, nth_map_range _ hq, ht]
  simp
theorem OutG.done (h : OutG c l warm g c.heat.length l out) (hl : out.length = c.lots.length) : out = timesM c l warm g := by
  refine nth_ext hl (by simp [timesM]) fun q hq => ?_
  rw [h q hq, timesM, nth_map_range _ hq]
  by_cases hc : l.contains q = true <;> simp_all
end
/-- What may be reckoned with: few hours and lots, small numbers. -/
structure Small (c : Cargo) : Prop where
  hours : c.heat.length ≤ 8
  heat : ∀ h, 0 ≤ nth c.heat h ∧ nth c.heat h ≤ 3
  gas : 0 ≤ c.gas ∧ c.gas ≤ 3
  lots : c.lots.length ≤ 5
theorem leftL_bd {c : Cargo} (hs : Small c) (l : List Nat) {warm : Int} (hw : 0 ≤ warm ∧ warm ≤ 6) {g : List Int} (hg : ∀ i, -100 ≤ nth g i ∧ nth g i ≤ 100) (h i : Nat) :
    -100 ≤ nth (leftL c l warm g h) i ∧ nth (leftL c l warm g h) i ≤ 100 := by
  induction h with
  | zero => exact hg i
  | succ h ih =>
    by_cases hi : i < g.length
    · rw [leftL_succ hi, takeAt]
      have h1 := hs.heat h
      have h2 := hs.gas
      split
      · rename_i h3
        simp only [Bool.and_eq_true, decide_eq_true_eq] at h3
        split <;> omega
      · exact ih
    · have : nth (leftL c l warm g (h + 1)) i = 0 := by
        rw [nth, List.getD_eq_getElem?_getD, List.getElem?_eq_none (by rw [leftL_length]; omega)]; rfl
      omega
end Go.Proofs.Ytbkknliggnhpcaa
/- The plain law of chapter 07: all that can be of one hold. -/
namespace Go.Proofs.Ytbkknliggnhpcaa
def spanVals (s : Span) : List Int := (List.range (s.hi - s.lo + 1).toNat).map fun k : Nat => s.lo + k
def lotSpan (c : Cargo) (hold : Int) (i : Nat) : Span := if (nth c.lots i).hold = hold then (nth c.lots i).green else ⟨(nth c.lots i).green.lo, (nth c.lots i).green.lo⟩
def greensTo (c : Cargo) (hold : Int) : Nat → List (List Int)
  | 0 => [[]]
  | i + 1 => (greensTo c hold i).flatMap fun g => (spanVals (lotSpan c hold i)).map fun x => g ++ [x]
def allM (c : Cargo) (hold : Nat) : List (Int × List Int) := (spanVals (nth c.holds hold)).flatMap fun wm => (greensTo c hold c.lots.length).map fun g => (wm, g)

theorem take_map_range (s : Span) {m : Nat} (hm : (m : Int) ≤ s.hi - s.lo) : (spanVals s).take (m + 1) = (spanVals s).take m ++ [s.lo + m] := by
  have : m < (spanVals s).length := by simp [spanVals]; omega
  rw [take_nth this]
  congr 1
  simp [nth, spanVals, show m < (s.hi - s.lo + 1).toNat by omega]
theorem spanVals_take (s : Span) {m : Nat} (hm : s.hi - s.lo < m) : (spanVals s).take m = spanVals s := List.take_of_length_le (by simp [spanVals]; omega)
theorem spanVals_le (s : Span) (h : s.hi - s.lo ≤ 3) : (spanVals s).length ≤ 4 := by simp [spanVals]; omega
theorem flat_take {α β : Type} [Inhabited α] (l : List α) (f : α → List β) {k : Nat} (h : k < l.length) : (l.take (k + 1)).flatMap f = (l.take k).flatMap f ++ f (nth l k) := by
  rw [take_nth h]; simp
theorem mem_spanVals {s : Span} {x : Int} : x ∈ spanVals s ↔ s.lo ≤ x ∧ x ≤ s.hi := by
  simp only [spanVals, List.mem_map, List.mem_range]
  constructor
  · rintro ⟨k, hk, rfl⟩; omega
  · intro h; exact ⟨(x - s.lo).toNat, by omega, by omega⟩
theorem flat_len {α β : Type} (l : List α) (f : α → List β) (m : Nat) (h : ∀ x ∈ l, (f x).length ≤ m) : (l.flatMap f).length ≤ l.length * m := by
  induction l with
  | nil => simp
  | cons x l ih =>
    have h1 := h x (by simp)
    have h2 := ih (fun y hy => h y (by simp [hy]))
    simp only [List.flatMap_cons, List.length_append, List.length_cons, Nat.add_mul, Nat.one_mul]
    omega
/-- What Check lets by. -/
structure Valid (c : Cargo) : Prop where
  hours : c.heat.length ≤ 8
  heat : ∀ h, 0 ≤ nth c.heat h ∧ nth c.heat h ≤ 3
  gas : 0 ≤ c.gas ∧ c.gas ≤ 3
  holds : 1 ≤ c.holds.length ∧ c.holds.length ≤ 3
  warm : ∀ i, i < c.holds.length → 0 ≤ (nth c.holds i).lo ∧ (nth c.holds i).lo ≤ (nth c.holds i).hi ∧ (nth c.holds i).hi ≤ 6 ∧ (nth c.holds i).hi - (nth c.holds i).lo ≤ 3
  lots : c.lots.length ≤ 4
  lot : ∀ i, i < c.lots.length → 0 ≤ (nth c.lots i).hold ∧ (nth c.lots i).hold < c.holds.length ∧ 0 ≤ (nth c.lots i).frm ∧ (nth c.lots i).frm ≤ c.heat.length ∧
    0 ≤ (nth c.lots i).green.lo ∧ (nth c.lots i).green.lo ≤ (nth c.lots i).green.hi ∧ (nth c.lots i).green.hi ≤ 40 ∧ (nth c.lots i).green.hi - (nth c.lots i).green.lo ≤ 3
  seens : c.seen.length ≤ 4
  seen : ∀ i, i < c.seen.length → 0 ≤ (nth c.seen i).lot ∧ (nth c.seen i).lot < c.lots.length ∧ (nth c.lots (nth c.seen i).lot.toNat).frm ≤ (nth c.seen i).hour ∧ (nth c.seen i).hour ≤ c.heat.length
theorem Valid.small {c : Cargo} (h : Valid c) : Small c := ⟨h.hours, h.heat, h.gas, by have := h.lots; omega⟩
theorem lotSpan_ok {c : Cargo} (h : Valid c) (hold : Int) {i : Nat} (hi : i < c.lots.length) : 0 ≤ (lotSpan c hold i).lo ∧ (lotSpan c hold i).lo ≤ (lotSpan c hold i).hi ∧ (lotSpan c hold i).hi ≤ 40 ∧ (lotSpan c hold i).hi - (lotSpan c hold i).lo ≤ 3 := by
  have := h.lot i hi
  unfold lotSpan
  split
  · omega
  · simp only; omega
theorem greensTo_len {c : Cargo} (h : Valid c) (hold : Int) : ∀ i, i ≤ c.lots.length → (greensTo c hold i).length ≤ 4 ^ i
  | 0, _ => by simp [greensTo]
  | i + 1, hi => by
    have ih := greensTo_len h hold i (by omega)
    have := flat_len (greensTo c hold i) (fun g => (spanVals (lotSpan c hold i)).map fun x => g ++ [x]) 4 (fun g _ => by
      rw [List.length_map]; exact spanVals_le _ (lotSpan_ok h hold (by omega)).2.2.2)
    rw [greensTo, Nat.pow_succ]
    exact Nat.le_trans this (Nat.mul_le_mul_right 4 ih)
theorem greensTo_mem {c : Cargo} (hold : Int) : ∀ i g, g ∈ greensTo c hold i → g.length = i
  | 0, g, hg => by simp [greensTo] at hg; simp [hg]
  | i + 1, g, hg => by
    simp only [greensTo, List.mem_flatMap, List.mem_map] at hg
    obtain ⟨g', h1, x, _, rfl⟩ := hg
    simp [greensTo_mem hold i g' h1]
theorem greensTo_bd {c : Cargo} (h : Valid c) (hold : Int) : ∀ i, i ≤ c.lots.length → ∀ g, g ∈ greensTo c hold i → ∀ k, 0 ≤ nth g k ∧ nth g k ≤ 40
  | 0, _, g, hg, k => by simp [greensTo] at hg; subst hg; simp [nth]
  | i + 1, hi, g, hg, k => by
    simp only [greensTo, List.mem_flatMap, List.mem_map] at hg
    obtain ⟨g', h1, x, hx, rfl⟩ := hg
    have hl := greensTo_mem hold i g' h1
    have hx' := mem_spanVals.1 hx
    have hs := lotSpan_ok h hold (show i < c.lots.length by omega)
    have ih := greensTo_bd h hold i (by omega) g' h1 k
    rcases Nat.lt_trichotomy k g'.length with h2 | h2 | h2
    · rw [show nth (g' ++ [x]) k = nth g' k by simp [nth, List.getElem?_append_left h2]]; exact ih
    · subst h2; rw [show nth (g' ++ [x]) g'.length = x by simp [nth]]; omega
    · rw [show nth (g' ++ [x]) k = 0 by simp [nth, List.getElem?_append_right (Nat.le_of_lt h2), List.getElem?_eq_none (show [x].length ≤ k - g'.length by simp; omega)]]; omega
theorem allM_mem {c : Cargo} (h : Valid c) {hold : Nat} (hh : hold < c.holds.length) {p : Int × List Int} (hp : p ∈ allM c hold) : (0 ≤ p.1 ∧ p.1 ≤ 6) ∧ p.2.length = c.lots.length ∧ ∀ k, 0 ≤ nth p.2 k ∧ nth p.2 k ≤ 40 := by
  simp only [allM, List.mem_flatMap, List.mem_map] at hp
  obtain ⟨wm, h1, g, h2, rfl⟩ := hp
  have h3 := mem_spanVals.1 h1
  have h4 := h.warm hold hh
  exact ⟨by simp only; omega, greensTo_mem _ _ _ h2, greensTo_bd h _ _ (Nat.le_refl _) g h2⟩
end Go.Proofs.Ytbkknliggnhpcaa
