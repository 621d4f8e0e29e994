/- Words for memory, and walks of regions that draw their order; of no chapter's data. -/
import Derived.Test.YtkaahiddngmdbaaGreatDoorRows
import Derived.WalkKit
import Derived.WalkSpells
import Derived.WalkLawsBesides
import Derived.Deep.QuietTactic
import Derived.BigQuiet
import Derived.Laws.CopyOwn
import Derived.Deep.RegionHeld3
import Derived.Maps.AppendAt
import Derived.RangeFuncNested
import Derived.RangeFuncBound
import Derived.RangeFuncCalls
import Derived.RangeFuncLeaves
import Derived.OrdersIn
set_option linter.unusedVariables false
set_option linter.unusedSimpArgs false
namespace Go.Proofs.YtkaahiddngmdbaaGreatDoor
open Go.RowKit

theorem hide {p : Prop} (h : p) : Hid p := h
def nth {α : Type} [Inhabited α] (l : List α) (i : Nat) : α := l.getD i default
theorem nth_eq {α : Type} [Inhabited α] {l : List α} {i : Nat} (h : i < l.length) : nth l i = l[i] := by simp [nth, h]
theorem take_nth {α : Type} [Inhabited α] {l : List α} {i : Nat} (h : i < l.length) : l.take (i + 1) = l.take i ++ [nth l i] := by
 rw [List.take_succ_eq_append_getElem h, nth_eq h]

structure Span where
 lo : Int
 hi : Int
deriving DecidableEq, Inhabited
/-- m cells in a row, from a slice's address on, all below block B. -/
def Row (w : World) (B : Nat) (A : Option Addr) (m : Nat) (f : Nat → Value) : Prop :=
 0 < m → ∃ b off, A = some ⟨b, off, none⟩ ∧ b < B ∧ ∀ j, j < m → w.cell? ⟨b, off + j, none⟩ = some (f j)

section
variable {w w' : World} {B B' m : Nat} {A : Option Addr} {f : Nat → Value}
theorem Row.nil_ : Row w B A 0 f := fun h => absurd h (by omega)
theorem Row.keep (h : Row w B A m f) (hk : ∀ b o, b < B → w'.cell? ⟨b, o, none⟩ = w.cell? ⟨b, o, none⟩) : Row w' B A m f := fun hm => by
 obtain ⟨b, off, e, hb, hc⟩ := h hm
 exact ⟨b, off, e, hb, fun j hj => (hk _ _ hb).trans (hc j hj)⟩
theorem Row.more (h : Row w B A m f) (hB : B ≤ B') : Row w B' A m f := fun hm => by
 obtain ⟨b, off, e, hb, hc⟩ := h hm
 exact ⟨b, off, e, by omega, hc⟩
theorem Row.below (h : Row w B A m f) (hb : Below B w w') : Row w' B A m f := h.keep fun _ _ hp => hb.cell hp
end
theorem bcell {W w1 : World} {B : Nat} (hb : Below B W w1) : (∀ b o, b < B → w1.cell? ⟨b, o, none⟩ = W.cell? ⟨b, o, none⟩) ∧ (∀ b o, b < B → w1.frozen? ⟨b, o, none⟩ = W.frozen? ⟨b, o, none⟩) :=
 ⟨fun b o h => hb.cell (p := ⟨b, o, none⟩) h, fun b o h => hb.frozen (p := ⟨b, o, none⟩) h⟩

/-- A world that has grown out of w: all of w's blocks as they were. The class of worlds in which the regions that draw their order are walked once. -/
structure Later (w : World) where
 world : World
 below : Below w.heap.size w world
instance later_nonempty (w : World) : Nonempty (Later w) := ⟨⟨w, Below.refl _ _⟩⟩
def grow (w : World) (t : Later w) : World := t.world
section
variable {w : World} {t : Later w}
theorem grow_cell (b o : Nat) (h : b < w.heap.size) : (grow w t).cell? ⟨b, o, none⟩ = w.cell? ⟨b, o, none⟩ := t.below.cell (p := ⟨b, o, none⟩) h
theorem grow_frozen (b o : Nat) (h : b < w.heap.size) : (grow w t).frozen? ⟨b, o, none⟩ = w.frozen? ⟨b, o, none⟩ := t.below.frozen (p := ⟨b, o, none⟩) h
theorem grow_below : Below w.heap.size w (grow w t) := t.below
theorem grow_size : w.heap.size ≤ (grow w t).heap.size := t.below.size
theorem grow_of {w' : World} (h : Below w.heap.size w w') : ∃ t, w' = grow w t := ⟨⟨w', h⟩, rfl⟩
/-- A call in such a region: its contract says the value, and that old blocks stay. -/
theorem Calls.grow_of {P : Program} {f : FuncId} {args : Array Value} {v : Value}
 (h : Calls P f args (grow w t) fun e w' => e = .returned v ∧ Below (grow w t).heap.size (grow w t) w') : Calls P f args (grow w t) fun e w' => e = .returned v ∧ ∃ t', w' = grow w t' :=
 h.mono fun _ _ ⟨he, hb⟩ => ⟨he, Go.Proofs.YtkaahiddngmdbaaGreatDoor.grow_of (grow_below.trans (hb.mono grow_size))⟩
theorem Calls.grow_of_same {P : Program} {f : FuncId} {args : Array Value} {v : Value}
 (h : Calls P f args (grow w t) fun e w' => e = .returned v ∧ grow w t = w') : Calls P f args (grow w t) fun e w' => e = .returned v ∧ ∃ t', w' = grow w t' :=
 h.mono fun _ _ ⟨he, hb⟩ => ⟨he, t, hb.symm⟩
theorem wp_region_grow {P : Program} {id : Nat} {Q : Exit → Act → World → Prop} {a : Act} {l : List Oper} (hm : P.follows .mixedOrders = true) (hB : Region.lexB .any l.toArray = true)
 (h : wpQuiet P l.toArray (fun w' => ∃ t, w' = grow w t) (fun a' => ∀ w', (∃ t, w' = grow w t) → Q .normal a' w') l a) : (Code.region id l.toArray true).wp P Q a w :=
 wp_region_quiet (C := fun w' => ∃ t, w' = grow w t) hm hB (Go.Proofs.YtkaahiddngmdbaaGreatDoor.grow_of ⟨rfl, rfl, rfl, Nat.le_refl _, fun _ _ => rfl⟩) (by simpa using h)
end
def intsF (xs : List Int) (j : Nat) : Value := .int .i64 (nth xs j)
def spansF (xs : List Span) (j : Nat) : Value := .int .i64 (if j % 2 = 0 then (nth xs (j / 2)).lo else (nth xs (j / 2)).hi)
section
variable {w : World} {B n : Nat} {A : Option Addr}
theorem Row.ints {xs : List Int} (h : Row w B A n (intsF xs)) {i : Nat} (hi : i < n) :
 ∃ b off, A = some ⟨b, off, none⟩ ∧ b < B ∧ w.cell? ⟨b, off + i, none⟩ = some (.int .i64 (nth xs i)) := by
 obtain ⟨b, off, e, hb, hc⟩ := h (by omega)
 exact ⟨b, off, e, hb, hc i hi⟩
theorem Row.spans {xs : List Span} (h : Row w B A (n * 2) (spansF xs)) {i : Nat} (hi : i < n) :
 ∃ b off, A = some ⟨b, off, none⟩ ∧ b < B ∧ w.cell? ⟨b, off + i * 2, none⟩ = some (.int .i64 (nth xs i).lo) ∧ w.cell? ⟨b, off + i * 2 + 1, none⟩ = some (.int .i64 (nth xs i).hi) := by
 obtain ⟨b, off, e, hb, hc⟩ := h (by omega)
 refine ⟨b, off, e, hb, ?_, ?_⟩
 · rw [hc (i * 2) (by omega), spansF, if_pos (by omega), show i * 2 / 2 = i by omega]
 · rw [Nat.add_assoc, hc (i * 2 + 1) (by omega), spansF, if_neg (by omega), show (i * 2 + 1) / 2 = i by omega]
end

theorem Tryz.infoInt : (Tryz.prog.info? 3).map (fun i => (i.zero, i.size, i.bytes)) = some (some (.int .i64 0), 1, 8) := by kernel_rfl

/-- A slice '.slice A n c' that reads as a list of integers, below block B. -/
structure IntsS (w : World) (B : Nat) (A : Option Addr) (n c : Nat) (xs : List Int) : Prop where
 len : xs.length = n
 cap : n ≤ c
 max : n ≤ maxLen
 row : Row w B A n (intsF xs)
section
variable {w w' : World} {B B' n c : Nat} {A : Option Addr} {xs : List Int}
theorem IntsS.below (h : IntsS w B A n c xs) (hb : Below B w w') : IntsS w' B A n c xs := ⟨h.len, h.cap, h.max, h.row.below hb⟩
theorem IntsS.drewN (h : IntsS w B A n c xs) (k : Nat) : IntsS (w.drewN k) B A n c xs := ⟨h.len, h.cap, h.max, h.row⟩
theorem IntsS.more (h : IntsS w B A n c xs) (hB : B ≤ B') : IntsS w B' A n c xs := ⟨h.len, h.cap, h.max, h.row.more hB⟩
theorem IntsS.next (h : IntsS w w.heap.size A n c xs) (hb : Below w.heap.size w w') : IntsS w' w'.heap.size A n c xs := (h.below hb).more hb.size
theorem IntsS.at_ (h : IntsS w B A n c xs) {i : Nat} (hi : i < n) : ∃ b off, A = some ⟨b, off, none⟩ ∧ b < B ∧ w.cell? ⟨b, off + i, none⟩ = some (.int .i64 (nth xs i)) := h.row.ints hi
theorem IntsS.bd (h : IntsS w B A n c xs) : n ≤ 9223372036854775807 := by have h1 := h.cap; have h2 := h.max; unfold maxLen at h2; omega
theorem IntsS.nil_ : IntsS w B none 0 0 [] := ⟨rfl, Nat.le_refl _, by simp [maxLen], Row.nil_⟩
theorem IntsS.of_own {base : Nat} {v : Value} (h : w.ownsRow base 3 1 v n (xs.map (Value.int .i64))) : ∃ A c, v = .slice A n c ∧ IntsS w w.heap.size A n c xs := by
 have hl : xs.length = n := by have := h.1; simpa using this
 rcases h.2 with ⟨rfl, h0⟩ | ⟨g, cap, cur, rfl, hg, hh, h1, h2, h3, h4⟩
 · subst h0
   obtain rfl : xs = [] := List.eq_nil_of_length_eq_zero hl
   exact ⟨none, 0, rfl, IntsS.nil_⟩
 · refine ⟨_, cap, rfl, hl, h1, Nat.le_trans h1 h2, fun hm => ⟨g, 0, rfl, (Array.getElem?_eq_some_iff.1 hh).1, fun j hj => ?_⟩⟩
   have := h.cells (g := g) rfl j (.int .i64 (nth xs j)) (by simp [nth, hl, hj])
   have hadd : (⟨g, 0, none⟩ : Addr).add j = ⟨g, 0 + j, none⟩ := by unfold Addr.add; split <;> simp_all
   rw [hadd] at this
   exact this
end
section
variable {w : World} {b : Nat} (hb : w.heap.size = b)
include hb
theorem IntsS.lit1 (x : Int) : IntsS (w.alloc (.cells #[.int .i64 x] 3)) (b + 1) (some ⟨b, 0, none⟩) 1 1 [x] := by
 subst hb
 refine ⟨rfl, Nat.le_refl _, by simp [maxLen], fun _ => ⟨_, _, rfl, by omega, fun j hj => ?_⟩⟩
 obtain rfl : j = 0 := by omega
 rw [World.cell?_alloc_at _ _ _ _ rfl]; rfl
theorem IntsS.lit2 (x y : Int) : IntsS (w.alloc (.cells #[.int .i64 x, .int .i64 y] 3)) (b + 1) (some ⟨b, 0, none⟩) 2 2 [x, y] := by
 subst hb
 refine ⟨rfl, Nat.le_refl _, by simp [maxLen], fun _ => ⟨_, _, rfl, by omega, fun j hj => ?_⟩⟩
 rw [World.cell?_alloc_at _ _ _ _ rfl]
 obtain rfl | rfl : j = 0 ∨ j = 1 := by omega
 · rfl
 · rfl
end
/-- The world has drawn; nothing else has turned. -/
def Dr (w w' : World) : Prop := ∃ n, w' = w.drewN n
theorem Dr.refl (w : World) : Dr w w := ⟨0, rfl⟩
theorem Dr.drewN {w w' : World} (h : Dr w w') (n : Nat) : Dr w (w'.drewN n) := by
 obtain ⟨m, rfl⟩ := h
 exact ⟨m + n, World.drewN_drewN _ _ _⟩
theorem Dr.below {w w' : World} (h : Dr w w') (B : Nat) : Below B w w' := by
 obtain ⟨m, rfl⟩ := h
 exact ⟨rfl, rfl, rfl, Nat.le_refl _, fun _ _ => rfl⟩

/-- What an append behind the making of one more block leaves: below the row's base all is as it was. -/
theorem app_below {base : Nat} {wr w1 : World} {o : Obj} {v : Value} {n : Nat} {xs : List Value} {e size : Nat} (hle : base ≤ wr.heap.size) (hown : wr.ownsRow base e size v n xs)
 (hg : (wr.alloc o).grownBy w1 v.ownBlock) : Below base wr w1 :=
 ((Below.refl base wr).alloc hle o).grown hg (by simp; omega) (fun k hk => (hown.lt k hk).1)
def natInts (l : List Nat) : List Int := l.map fun n : Nat => (n : Int)
theorem natInts_length (l : List Nat) : (natInts l).length = l.length := by simp [natInts]
theorem natInts_vals (l : List Nat) : (natInts l).map (Value.int .i64) = l.map (fun n : Nat => Value.int .i64 (n : Int)) := by simp [natInts]
theorem nth_app' {α : Type} [Inhabited α] {a b : List α} (k : Nat) : nth (a ++ b) k = if k < a.length then nth a k else nth b (k - a.length) := by
 split
 · rename_i h; simp [nth, List.getElem?_append_left h]
 · rename_i h; simp [nth, List.getElem?_append_right (Nat.le_of_not_lt h)]
theorem nth_setG {α : Type} [Inhabited α] {l : List α} {i k : Nat} (hi : i < l.length) (u : α) : nth (l.set i u) k = if k = i then u else nth l k := by
 by_cases h : k = i
 · subst h; simp [nth, hi]
 · simp [nth, List.getElem?_set, Ne.symm h, h]
section
variable {P : Program}
theorem run_copy_k (w : World) (dT sT ty elem : TypeId) (k b o dLen dCap : Nat) (dp sp : Option Addr) (sLen sCap : Nat) (cs : List Value)
 (hu : P.underlying dT = some (.slice elem)) (hs : (P.info? elem).map (·.size) = some k) (hn : cs.length = Nat.min sLen dLen * k)
 (hpos : 0 < cs.length → dp = some ⟨b, o, none⟩ ∧ ∃ ad, sp = some ad ∧ ∀ j v, cs[j]? = some v → w.cell? (ad.add j) = some v)
 (hc : ∀ j, j < cs.length → (w.cell? ⟨b, o + j, none⟩).isSome = true) (hf : ∀ j, j < cs.length → w.frozen? ⟨b, o + j, none⟩ = false) (h1 : ∀ v ∈ cs, v.oneCell' = true) :
 (Builtin.copy_ #[dT, sT] ty #[.slice dp dLen dCap, .slice sp sLen sCap]).run P w = .ok (goInt (Nat.min sLen dLen)) (w.setCells b o cs) := by
 cases hq : P.info? elem with
 | none => simp [hq] at hs
 | some i =>
  have hi : i.size = k := by simpa [hq] using hs
  by_cases h0 : cs.length = 0
  · obtain rfl : cs = [] := List.eq_nil_of_length_eq_zero h0
    have hz : Nat.min sLen dLen * k = 0 := by simpa using hn.symm
    have hl : ∀ (x : Addr), (loadCells x 0).run P w = .ok #[] w := fun x => by simpa using run_loadCells_list (P := P) w x [] (by simp)
    cases dp <;> cases sp <;> simp [Builtin.copy_, run_underlying hu, Builtin.lenOf, Builtin.firstCells, sizeOf, typeInfo, hq, hi, hz, storeCells, hl, World.setCells]
  · obtain ⟨rfl, ad, rfl, hsrc⟩ := hpos (by omega)
    have hl := run_loadCells_list (P := P) w ad cs hsrc
    have hst := run_storeCells_cells (P := P) b o cs 0 w (by simpa using hc) (by simpa using hf) h1
    simp [Builtin.copy_, run_underlying hu, Builtin.lenOf, Builtin.firstCells, sizeOf, typeInfo, hq, hi, ← hn, hl, hst]
theorem wpList_copy_k {w : World} {ops : Array Oper} {rest : List Oper} {o : Oper} {a : Act} {Q : Exit → Act → World → Prop} (hgd : o.guard = none) (d s : Operand) (dT sT : TypeId)
 (ho : o.op = .call { callee := .builtin .copy, args := #[d, s], argTypes := #[dT, sT] }) (elem : TypeId) (hu : P.underlying dT = some (.slice elem)) (k : Nat) (hsz : (P.info? elem).map (·.size) = some k)
 (dp sp : Option Addr) (dLen dCap sLen sCap : Nat) (hd : a.eval d = .slice dp dLen dCap) (hs : a.eval s = .slice sp sLen sCap) (b off : Nat) (cs : List Value) (hn : cs.length = Nat.min sLen dLen * k)
 (hpos : 0 < cs.length → dp = some ⟨b, off, none⟩ ∧ ∃ ad, sp = some ad ∧ ∀ j v, cs[j]? = some v → w.cell? (ad.add j) = some v)
 (hc : ∀ j, j < cs.length → (w.cell? ⟨b, off + j, none⟩).isSome = true) (hf : ∀ j, j < cs.length → w.frozen? ⟨b, off + j, none⟩ = false) (h1 : ∀ v ∈ cs, v.oneCell' = true)
 (h : ∀ w', w' = w.setCells b off cs → wpList P ops Q rest (a.put o.dst (goInt (Nat.min sLen dLen))) w') : wpList P ops Q (o :: rest) a w := by
 refine wpList_plain hgd fun K hK => ?_
 have hrun := run_copy_k (P := P) w dT sT o.type elem k b off dLen dCap dp sp sLen sCap cs hu hsz hn hpos hc hf h1
 unfold Oper.wp
 simp [execOp, ho, resolve, invoke, builtin, hd, hs, hrun, Result.andThen]
 exact hK _ _ (h _ rfl)
end
theorem below_setCells {B : Nat} {w0 : World} (b : Nat) (hB : B ≤ b) : ∀ (vs : List Value) (o : Nat) (w : World), Below B w0 w → Below B w0 (w.setCells b o vs)
 | [], _, _, h => h
 | v :: r, o, w, h => below_setCells b hB r (o + 1) _ (h.setCell (by simpa using hB) v)
theorem size_setCells (b : Nat) : ∀ (vs : List Value) (o : Nat) (w : World), (w.setCells b o vs).heap.size = w.heap.size
 | [], _, _ => rfl
 | v :: r, o, w => by rw [World.setCells, size_setCells b r]; simp
theorem madeCells_get {z : Array Value} {n j : Nat} (h : j < n) : (madeCells z n)[j]? = some (z[j % z.size]!) := by
 simp [madeCells, h]
def setAll (dst : Nat → Tmp) (vs : Nat → Value) : List Nat → Array Value → Array Value
 | [], t => t
 | i :: l, t => setAll dst vs l (t.setIfInBounds (dst i) (vs i))
theorem setAll_size {dst : Nat → Tmp} {vs : Nat → Value} : ∀ {l : List Nat} {t : Array Value}, (setAll dst vs l t).size = t.size
 | [], _ => rfl
 | i :: l, t => by rw [setAll, setAll_size, Array.size_setIfInBounds]
theorem setAll_get {dst : Nat → Tmp} {vs : Nat → Value} {d : Nat} : ∀ {l : List Nat} {t : Array Value}, (∀ i ∈ l, dst i < t.size) → (∀ i ∈ l, ∀ j ∈ l, dst i = dst j → i = j) →
 (setAll dst vs l t)[d]? = match l.find? (fun i => dst i == d) with | some i => some (vs i) | none => t[d]?
 | [], _, _, _ => rfl
 | i :: l, t, h, hp => by
  rw [setAll, setAll_get (fun j hj => by rw [Array.size_setIfInBounds]; exact h j (by simp [hj])) (fun a ha b hb => hp a (by simp [ha]) b (by simp [hb])), List.find?_cons]
  by_cases hd : dst i = d
  · subst hd
    simp only [beq_self_eq_true]
    cases hf : l.find? (fun j => dst j == dst i) with
    | none => simp only; rw [Array.getElem?_setIfInBounds_self_of_lt (h i (by simp))]
    | some j =>
     have h1 := List.find?_some hf
     have h2 := List.mem_of_find?_eq_some hf
     have : j = i := hp j (by simp [h2]) i (by simp) (by simpa using h1)
     subst this; rfl
  · have : (dst i == d) = false := by simpa using hd
    simp only [this]
    cases hf : l.find? (fun j => dst j == d) with
    | none => simp only; rw [Array.getElem?_setIfInBounds_ne hd]
    | some j => rfl
def idxs (listed : Array Bool) (n : Nat) : List Nat := (List.range n).filter fun i => listed.getD i false
theorem mem_idxs {listed : Array Bool} {n i : Nat} : i ∈ idxs listed n ↔ i < n ∧ listed.getD i false = true := by simp [idxs]
theorem getD_set {listed : Array Bool} {i j : Nat} (hi : i < listed.size) : (listed.setIfInBounds i true).getD j false = if j = i then true else listed.getD j false := by
 rw [Array.getD_eq_getD_getElem?, Array.getD_eq_getD_getElem?]
 by_cases h : j = i
 · subst h; rw [Array.getElem?_setIfInBounds_self_of_lt hi]; simp
 · rw [Array.getElem?_setIfInBounds_ne (Ne.symm h), if_neg h]
theorem find_uniq {dst : Nat → Tmp} {l : List Nat} {d i : Nat} (hi : i ∈ l) (hd : dst i = d) (hp : ∀ i ∈ l, ∀ j ∈ l, dst i = dst j → i = j) : l.find? (fun j => dst j == d) = some i := by
 cases hf : l.find? (fun j => dst j == d) with
 | none => have := List.find?_eq_none.1 hf i hi; simp [hd] at this
 | some j =>
  have h1 := List.find?_some hf
  have h2 := List.mem_of_find?_eq_some hf
  rw [hp j h2 i hi (by rw [hd]; simpa using h1)]

section
variable {P : Program} {ops : Array Oper} {Q : Exit → Act → World → Prop} {a0 : Act} {w : World} {dst : Nat → Tmp} {mono pre : Nat → Bool} {Pv : Nat → Value → World → Prop}
/-- What is so when some operations are over. -/
structure Grown (n : Nat) (a0 : Act) (w : World) (dst : Nat → Tmp) (mono : Nat → Bool) (Pv : Nat → Value → World → Prop) (listed : Array Bool) (vs : Nat → Value) (a : Act) (W : World) : Prop where
 below : Below w.heap.size w W
 defers : a.defers = a0.defers
 tmps : a.tmps = setAll dst vs (idxs listed n) a0.tmps
 size : listed.size = n
 mono : ∀ i, listed.getD i false = true → mono i = true
 pv : ∀ i, listed.getD i false = true → Pv i (vs i) W
/-- The closed facts on a region: asked of the program by the kernel. -/
def growOk (ops : Array Oper) (dst : Nat → Tmp) (mono pre : Nat → Bool) (size : Nat) : Bool :=
 (List.range ops.size).all fun i =>
  ((ops[i]?).any fun o =>
   (!mono i || (o.dst == some (dst i) && decide (dst i < size) && (List.range ops.size).all (fun j => !mono j || i == j || dst i != dst j))) &&
   (!pre i || (mono i && o.after.all fun e => !Region.binds .any e || (decide (e.on < i) && pre e.on))) &&
   (mono i || (List.range ops.size).all fun j => !pre j || o.after.any fun e => Region.binds .any e && e.on == j))
theorem Grown.next {n : Nat} {listed : Array Bool} {vs : Nat → Value} {a : Act} {W W' : World} {i : Nat} {v : Value} (h : Grown n a0 w dst mono Pv listed vs a W) (hi : i < n) (hl : listed.getD i false = false) (hm : mono i = true)
 (hd : ∀ i, i < n → mono i = true → dst i < a0.tmps.size) (hinj : ∀ i, i < n → mono i = true → ∀ j, j < n → mono j = true → dst i = dst j → i = j)
 (hst : ∀ i v W W', Pv i v W → Below W.heap.size W W' → Pv i v W') (hb : Below W.heap.size W W') (hv : Pv i v W') :
 Grown n a0 w dst mono Pv (listed.setIfInBounds i true) (fun j => if j = i then v else vs j) (a.put (some (dst i)) v) W' := by
 have hil : i < listed.size := by rw [h.size]; exact hi
 have hm1 : ∀ j ∈ idxs listed n, j < n ∧ mono j = true := fun j hj => ⟨(mem_idxs.1 hj).1, h.mono j (mem_idxs.1 hj).2⟩
 have hm2 : ∀ j ∈ idxs (listed.setIfInBounds i true) n, j < n ∧ mono j = true := fun j hj => by
  obtain ⟨h1, h2⟩ := mem_idxs.1 hj
  rw [getD_set hil] at h2
  refine ⟨h1, ?_⟩
  split at h2
  · rename_i e; rw [e]; exact hm
  · exact h.mono j h2
 have hp1 : ∀ a ∈ idxs listed n, ∀ b ∈ idxs listed n, dst a = dst b → a = b := fun a ha b hb => hinj a (hm1 a ha).1 (hm1 a ha).2 b (hm1 b hb).1 (hm1 b hb).2
 have hp2 : ∀ a ∈ idxs (listed.setIfInBounds i true) n, ∀ b ∈ idxs (listed.setIfInBounds i true) n, dst a = dst b → a = b := fun a ha b hb => hinj a (hm2 a ha).1 (hm2 a ha).2 b (hm2 b hb).1 (hm2 b hb).2
 refine ⟨h.below.trans (hb.mono h.below.size), h.defers, ?_, by rw [Array.size_setIfInBounds]; exact h.size, fun j hj => ?_, fun j hj => ?_⟩
 · show a.tmps.setIfInBounds (dst i) v = _
   rw [h.tmps]
   apply Array.ext_getElem?
   intro d
   rw [setAll_get (fun j hj => hd j (hm2 j hj).1 (hm2 j hj).2) hp2]
   by_cases e : dst i = d
   · subst e
     rw [Array.getElem?_setIfInBounds_self_of_lt (by rw [setAll_size]; exact hd i hi hm), find_uniq (i := i) (mem_idxs.2 ⟨hi, by rw [getD_set hil, if_pos rfl]⟩) rfl hp2]
     simp
   · rw [Array.getElem?_setIfInBounds_ne e, setAll_get (fun j hj => hd j (hm1 j hj).1 (hm1 j hj).2) hp1]
     cases hf : (idxs listed n).find? (fun j => dst j == d) with
     | some j =>
      have h1 := List.find?_some hf
      have h2 := List.mem_of_find?_eq_some hf
      have hji : j ≠ i := fun e' => by rw [e'] at h1; exact e (by simpa using h1)
      rw [find_uniq (i := j) (mem_idxs.2 ⟨(hm1 j h2).1, by rw [getD_set hil, if_neg hji]; exact (mem_idxs.1 h2).2⟩) (by simpa using h1) hp2]
      simp [hji]
     | none =>
      have : (idxs (listed.setIfInBounds i true) n).find? (fun j => dst j == d) = none := by
       rw [List.find?_eq_none] at hf ⊢
       intro j hj
       obtain ⟨h1, h2⟩ := mem_idxs.1 hj
       rw [getD_set hil] at h2
       split at h2
       · rename_i e'; rw [e']; simpa using e
       · exact hf j (mem_idxs.2 ⟨h1, h2⟩)
      rw [this]
 · rw [getD_set hil] at hj
   split at hj
   · rename_i e; rw [e]; exact hm
   · exact h.mono j hj
 · rw [getD_set hil] at hj
   split at hj
   · rename_i e; simp only [e, if_true]; exact hv
   · rename_i e; simp only [e, if_false]; exact hst _ _ _ _ (h.pv j hj) hb
/-- How many operations are still to come. -/
def leftOver (listed : Array Bool) (n : Nat) : Nat := ((List.range n).filter fun i => !listed.getD i false).length
theorem leftOver_set {listed : Array Bool} {n i : Nat} (hs : listed.size = n) (hi : i < n) (hl : listed.getD i false = false) : leftOver listed n = leftOver (listed.setIfInBounds i true) n + 1 := by
 have h1 : ∀ (l : List Nat), l.Nodup → i ∈ l → (l.filter fun j => !listed.getD j false).length = (l.filter fun j => !(listed.setIfInBounds i true).getD j false).length + 1 := by
  intro l
  induction l with
  | nil => intro _ h; cases h
  | cons a l ih =>
   intro hn hm
   rw [List.nodup_cons] at hn
   rcases List.mem_cons.1 hm with e | hm
   · subst e
     have e2 : (l.filter fun j => !listed.getD j false) = (l.filter fun j => !(listed.setIfInBounds i true).getD j false) := by
      apply List.filter_congr
      intro j hj
      rw [getD_set (by omega), if_neg (show ¬ j = i from fun e => hn.1 (e ▸ hj))]
     rw [List.filter_cons, List.filter_cons, getD_set (by omega), if_pos rfl, hl, e2]
     simp
   · have hai : a ≠ i := fun e => hn.1 (e ▸ hm)
     have := ih hn.2 hm
     rw [List.filter_cons, List.filter_cons, getD_set (by omega), if_neg hai]
     by_cases hla : (!listed.getD a false) = true
     · rw [if_pos hla, if_pos hla, List.length_cons, List.length_cons, this]
     · rw [if_neg hla, if_neg hla, this]
 exact h1 _ List.nodup_range (List.mem_range.2 hi)
theorem leftOver_zero {listed : Array Bool} {n : Nat} (h : leftOver listed n = 0) {i : Nat} (hi : i < n) : listed.getD i false = true := by
 rw [leftOver, List.length_eq_zero_iff, List.filter_eq_nil_iff] at h
 have := h i (List.mem_range.2 hi)
 simpa using this
theorem Grown.slot {n : Nat} {listed : Array Bool} {vs : Nat → Value} {a : Act} {W : World} (h : Grown n a0 w dst mono Pv listed vs a W) (hd : ∀ i, i < n → mono i = true → dst i < a0.tmps.size)
 (hinj : ∀ i, i < n → mono i = true → ∀ j, j < n → mono j = true → dst i = dst j → i = j) {j : Nat} (hj : j < n) (hl : listed.getD j false = true) : a.eval (.tmp (dst j)) = vs j := by
 have hm : ∀ i ∈ idxs listed n, i < n ∧ mono i = true := fun i hi => ⟨(mem_idxs.1 hi).1, h.mono i (mem_idxs.1 hi).2⟩
 have hp : ∀ a ∈ idxs listed n, ∀ b ∈ idxs listed n, dst a = dst b → a = b := fun a ha b hb => hinj a (hm a ha).1 (hm a ha).2 b (hm b hb).1 (hm b hb).2
 show a.tmps.getD (dst j) undef = _
 rw [Array.getD_eq_getD_getElem?, h.tmps, setAll_get (fun i hi => hd i (hm i hi).1 (hm i hi).2) hp, find_uniq (i := j) (mem_idxs.2 ⟨hj, hl⟩) rfl hp]
 rfl
theorem Grown.same {n : Nat} {listed : Array Bool} {vs : Nat → Value} {a : Act} {W : World} (h : Grown n a0 w dst mono Pv listed vs a W) (hd : ∀ i, i < n → mono i = true → dst i < a0.tmps.size)
 (hinj : ∀ i, i < n → mono i = true → ∀ j, j < n → mono j = true → dst i = dst j → i = j) {d : Nat} (hn : ((List.range n).all fun j => dst j != d) = true) : a.eval (.tmp d) = a0.eval (.tmp d) := by
 have hm : ∀ i ∈ idxs listed n, i < n ∧ mono i = true := fun i hi => ⟨(mem_idxs.1 hi).1, h.mono i (mem_idxs.1 hi).2⟩
 have hp : ∀ a ∈ idxs listed n, ∀ b ∈ idxs listed n, dst a = dst b → a = b := fun a ha b hb => hinj a (hm a ha).1 (hm a ha).2 b (hm b hb).1 (hm b hb).2
 show a.tmps.getD d undef = a0.tmps.getD d undef
 rw [Array.getD_eq_getD_getElem?, Array.getD_eq_getD_getElem?, h.tmps, setAll_get (fun i hi => hd i (hm i hi).1 (hm i hi).2) hp]
 have : (idxs listed n).find? (fun i => dst i == d) = none := by
  rw [List.find?_eq_none]
  intro i hi
  have := List.all_eq_true.1 hn i (List.mem_range.2 (hm i hi).1)
  simpa using this
 rw [this]
theorem any_some {α : Type} {x : Option α} {p : α → Bool} (h : x.any p = true) : ∃ o, x = some o ∧ p o = true := by
 cases x with
 | none => cases h
 | some o => exact ⟨o, rfl, h⟩
theorem grow_facts (hok : growOk ops dst mono pre a0.tmps.size = true) :
 (∀ i, i < ops.size → mono i = true → dst i < a0.tmps.size) ∧ (∀ i, i < ops.size → mono i = true → ∀ j, j < ops.size → mono j = true → dst i = dst j → i = j) := by
 have h := fun i (hi : i < ops.size) => List.all_eq_true.1 hok i (List.mem_range.2 hi)
 constructor
 · intro i hi hm
   have h1 := h i hi
   obtain ⟨o, ho, h2⟩ := any_some h1
   rw [hm] at h2
   simp only [Bool.not_true, Bool.false_or, Bool.and_eq_true, decide_eq_true_eq] at h2
   exact h2.1.1.1.2
 · intro i hi hm j hj hmj e
   have h1 := h i hi
   obtain ⟨o, ho, h2⟩ := any_some h1
   rw [hm] at h2
   simp only [Bool.not_true, Bool.false_or, Bool.and_eq_true] at h2
   have h3 := List.all_eq_true.1 h2.1.1.2 j (List.mem_range.2 hj)
   rw [hmj] at h3
   simp only [Bool.not_true, Bool.false_or, Bool.or_eq_true, beq_iff_eq, bne_iff_ne, ne_eq] at h3
   rcases h3 with h3 | h3
   · exact h3
   · exact absurd e h3
/-- What a step may lean on. -/
structure GrownU (n : Nat) (a0 : Act) (w : World) (dst : Nat → Tmp) (Pv : Nat → Value → World → Prop) (listed : Array Bool) (vs : Nat → Value) (a : Act) (W : World) : Prop where
 below : Below w.heap.size w W
 pv : ∀ i, listed.getD i false = true → Pv i (vs i) W
 slot : ∀ j, j < n → listed.getD j false = true → a.tmps[dst j]?.getD undef = vs j
 same : ∀ d, ((List.range n).all fun j => dst j != d) = true → a.tmps[d]?.getD undef = a0.tmps[d]?.getD undef
theorem Grown.user {n : Nat} {listed : Array Bool} {vs : Nat → Value} {a : Act} {W : World} (h : Grown n a0 w dst mono Pv listed vs a W) (hd : ∀ i, i < n → mono i = true → dst i < a0.tmps.size)
 (hinj : ∀ i, i < n → mono i = true → ∀ j, j < n → mono j = true → dst i = dst j → i = j) : GrownU n a0 w dst Pv listed vs a W :=
 ⟨h.below, h.pv, fun j hj hl => by have := h.slot hd hinj hj hl; rw [← Array.getD_eq_getD_getElem?]; exact this, fun d hn => by have := h.same hd hinj hn; rw [← Array.getD_eq_getD_getElem?, ← Array.getD_eq_getD_getElem?]; exact this⟩
theorem arr_eq {l T : Array Bool} (hs : l.size = T.size) (h : ∀ i, i < T.size → l.getD i false = T.getD i false) : l = T := by
 apply Array.ext hs
 intro i h1 h2
 have := h i h2
 rw [Array.getD_eq_getD_getElem?, Array.getD_eq_getD_getElem?, Array.getElem?_eq_getElem h1, Array.getElem?_eq_getElem h2] at this
 exact this
theorem Grown.act {n : Nat} {listed : Array Bool} {vs : Nat → Value} {a : Act} {W : World} (h : Grown n a0 w dst mono Pv listed vs a W) : a = { tmps := setAll dst vs (idxs listed n) a0.tmps, defers := a0.defers } := by
 obtain ⟨t, d⟩ := a
 have h1 := h.tmps
 have h2 := h.defers
 simp only at h1 h2
 rw [h1, h2]
theorem wpAny_grow (hok : growOk ops dst mono pre a0.tmps.size = true) (hst : ∀ i v W W', Pv i v W → Below W.heap.size W W' → Pv i v W')
 (hstep : ∀ i, i < ops.size → mono i = true → ∀ listed vs a W, GrownU ops.size a0 w dst Pv listed vs a W → (∀ o, ops[i]? = some o → ∀ e ∈ o.after, Region.binds .any e = true → listed.getD e.on false = true) →
  ∀ K : Act → World → Prop, (∀ v W', Below W.heap.size W W' → Pv i v W' → K (a.put (some (dst i)) v) W') → wpOp P ops Q i K a W)
 (hend : ∀ listed vs a W, Grown ops.size a0 w dst mono Pv listed vs a W → (∀ i, i < ops.size → pre i = true → listed.getD i false = true) → wpAny P .any ops Q (leftOver listed ops.size) listed a W) :
 ∀ (fuel : Nat) (listed : Array Bool) (vs : Nat → Value) (a : Act) (W : World), Grown ops.size a0 w dst mono Pv listed vs a W → fuel = leftOver listed ops.size → wpAny P .any ops Q fuel listed a W
 | 0, listed, vs, a, W, h, hf => by
  rw [hf]
  exact hend listed vs a W h (fun i hi _ => leftOver_zero hf.symm hi)
 | fuel + 1, listed, vs, a, W, h, hf => by
  by_cases hall : ∀ i, i < ops.size → pre i = true → listed.getD i false = true
  · rw [hf]; exact hend listed vs a W h hall
  · have hfacts := fun i (hi : i < ops.size) => any_some (List.all_eq_true.1 hok i (List.mem_range.2 hi))
    obtain ⟨hd, hinj⟩ := grow_facts hok
    -- the least of those that lack
    have hex : ∃ i, i < ops.size ∧ pre i = true ∧ listed.getD i false = false ∧ ∀ j, j < i → pre j = true → listed.getD j false = true := by
     apply Classical.byContradiction
     intro hno
     apply hall
     intro i
     induction i using Nat.strongRecOn with
     | _ i ih =>
      intro hi hp
      cases hl : listed.getD i false with
      | true => rfl
      | false => exact absurd ⟨i, hi, hp, hl, fun j hj hpj => ih j hj (by omega) hpj⟩ hno
    refine ⟨fun hr => ?_, fun i hi => ?_⟩
    · exfalso
      obtain ⟨i, hi, hp, hl, hbef⟩ := hex
      obtain ⟨o, ho, h2⟩ := hfacts i hi
      simp only [hp, Bool.not_true, Bool.false_or, Bool.and_eq_true] at h2
      have hmem : i ∈ Region.ready .any ops listed := by
       rw [Region.ready, List.mem_filter]
       refine ⟨List.mem_range.2 hi, ?_⟩
       have hl2 : listed.getD i true = false := by
        rw [Array.getD_eq_getD_getElem?] at hl ⊢
        rw [Array.getElem?_eq_getElem (by rw [h.size]; exact hi)] at hl ⊢
        exact hl
       rw [hl2, ho]
       simp only [Bool.not_false, Bool.true_and, Option.map_some, Option.getD_some]
       rw [Array.all_eq_true_iff_forall_mem]
       intro e he
       have h3 := Array.all_eq_true_iff_forall_mem.1 h2.1.2.2 e he
       cases hb : Region.binds .any e with
       | false => rfl
       | true =>
        rw [hb] at h3
        simp only [Bool.not_true, Bool.false_or, Bool.and_eq_true, decide_eq_true_eq] at h3
        simpa using hbef e.on h3.1 h3.2
      rw [hr] at hmem
      cases hmem
    · rw [Region.ready, List.mem_filter] at hi
      obtain ⟨hi, hr⟩ := hi
      have hi := List.mem_range.1 hi
      obtain ⟨o, ho, h2⟩ := hfacts i hi
      rw [ho] at hr
      simp only [Option.map_some, Option.getD_some, Bool.and_eq_true, Bool.not_eq_true'] at hr
      have hl : listed.getD i false = false := by
       have := hr.1
       rw [Array.getD_eq_getD_getElem?] at this ⊢
       rw [Array.getElem?_eq_getElem (by rw [h.size]; exact hi)] at this ⊢
       exact this
      have haft : ∀ e ∈ o.after, Region.binds .any e = true → listed.getD e.on false = true := fun e he hb => by
       have := Array.all_eq_true_iff_forall_mem.1 hr.2 e he
       rw [hb] at this
       simpa using this
      have hm : mono i = true := by
       cases hm : mono i with
       | true => rfl
       | false =>
        exfalso
        simp only [hm, Bool.false_or, Bool.and_eq_true] at h2
        apply hall
        intro j hj hp
        have h3 := List.all_eq_true.1 h2.2 j (List.mem_range.2 hj)
        rw [hp] at h3
        simp only [Bool.not_true, Bool.false_or] at h3
        rw [← Array.any_toList, List.any_eq_true] at h3
        obtain ⟨e, he, h4⟩ := h3
        have he : e ∈ o.after := by simpa using he
        simp only [Bool.and_eq_true, beq_iff_eq] at h4
        rw [← h4.2]
        exact haft e he h4.1
      refine hstep i hi hm listed vs a W (h.user hd hinj) (fun o' ho' => by rw [ho] at ho'; cases ho'; exact haft) _ (fun v W' hb hv => ?_)
      exact wpAny_grow hok hst hstep hend fuel _ _ _ _ (h.next hi hl hm hd hinj hst hb hv) (by have := leftOver_set h.size hi hl; omega)
theorem wp_region_grow2 {id : Nat} (hm : P.follows .mixedOrders = true) (hok : growOk ops dst mono pre a0.tmps.size = true) (hst : ∀ i v W W', Pv i v W → Below W.heap.size W W' → Pv i v W')
 (hstep : ∀ i, i < ops.size → mono i = true → ∀ listed vs a W, GrownU ops.size a0 w.drew dst Pv listed vs a W → (∀ o, ops[i]? = some o → ∀ e ∈ o.after, Region.binds .any e = true → listed.getD e.on false = true) →
  ∀ K : Act → World → Prop, (∀ v W', Below W.heap.size W W' → Pv i v W' → K (a.put (some (dst i)) v) W') → wpOp P ops Q i K a W)
 (hend : ∀ listed vs a W, Grown ops.size a0 w.drew dst mono Pv listed vs a W → (∀ i, i < ops.size → pre i = true → listed.getD i false = true) → wpAny P .any ops Q (leftOver listed ops.size) listed a W) :
 (Code.region id ops true).wp P Q a0 w := by
 have hz : ∀ i, (Array.replicate ops.size false).getD i false = false := fun i => by
  rw [Array.getD_eq_getD_getElem?, Array.getElem?_replicate]; split <;> rfl
 have hix : idxs (Array.replicate ops.size false) ops.size = [] := by
  rw [idxs, List.filter_eq_nil_iff]; intro i _; rw [hz]; simp
 refine wp_region_any hm (wpAny_grow hok hst hstep hend _ _ (fun _ => undef) a0 w.drew ⟨Below.refl _ _, rfl, by rw [hix]; rfl, by simp, (fun i h => by rw [hz] at h; cases h), (fun i h => by rw [hz] at h; cases h)⟩ ?_)
 rw [leftOver, List.filter_eq_self.2 (fun i _ => by rw [hz]; rfl), List.length_range]
end
section
variable {P : Program} {ops : Array Oper} {Q : Exit → Act → World → Prop} {i : Nat} {o : Oper} {K : Act → World → Prop} {a : Act} {W W' : World}
theorem wpOp_value {v : Value} (ho : ops[i]? = some o) (hg : o.guard = none) (hr : (execOp a.eval o).run P W = .ok (.value v) W') (hk : K (a.put o.dst v) W') : wpOp P ops Q i K a W := by
 unfold wpOp
 simp only [ho, Region.wanted, hg, if_true]
 left
 unfold Oper.wp
 rw [hr]; exact hk
theorem wpOp_enter {f : FuncId} {args : Array Value} (ho : ops[i]? = some o) (hg : o.guard = none) (hr : (execOp a.eval o).run P W = .ok (.enter f args) W') (hc : Calls P f args W' fun e w'' => ∃ v, e = .returned v ∧ K (a.put o.dst v) w'') : wpOp P ops Q i K a W := by
 unfold wpOp
 simp only [ho, Region.wanted, hg, if_true]
 left
 unfold Oper.wp
 rw [hr]
 exact hc.mono (fun e w'' ⟨v, he, hk⟩ => by rw [he]; exact hk)
end
section
variable {P : Program} {ops : Array Oper} {Q : Exit → Act → World → Prop} {a0 : Act} {w : World} {dst : Nat → Tmp} {mono pre : Nat → Bool} {Pv : Nat → Value → World → Prop}
theorem Grown.lst {n : Nat} {listed : Array Bool} {vs : Nat → Value} {a : Act} {W : World} (h : Grown n a0 w dst mono Pv listed vs a W) (hpre : ∀ i, i < n → pre i = true → listed.getD i false = true) (k : Nat) (T : Array Bool) (hT : T.size = n)
 (hc : ((List.range n).all fun i => i == k || (if T.getD i false then pre i else !mono i)) = true) (hk : listed.getD k false = T.getD k false) : listed = T := by
 refine arr_eq (h.size.trans hT.symm) (fun i hi => ?_)
 have := List.all_eq_true.1 hc i (List.mem_range.2 (by omega))
 simp only [Bool.or_eq_true, beq_iff_eq] at this
 rcases this with e | this
 · rw [e]; exact hk
 · by_cases e : T.getD i false = true
   · rw [if_pos e] at this; rw [e]; exact hpre i (by omega) this
   · rw [if_neg e] at this
     rw [Bool.not_eq_true] at e
     rw [e]
     cases hl : listed.getD i false with
     | false => rfl
     | true => rw [h.mono i hl] at this; cases this
theorem Grown.lo {n : Nat} {listed : Array Bool} {vs : Nat → Value} {a : Act} {W : World} (_ : Grown n a0 w dst mono Pv listed vs a W) {T : Array Bool} {k : Nat} (hT : listed = T) (hk : leftOver T n = k) : leftOver listed n = k := by rw [hT]; exact hk
theorem Grown.ix {n : Nat} {listed : Array Bool} {vs : Nat → Value} {a : Act} {W : World} (_ : Grown n a0 w dst mono Pv listed vs a W) {T : Array Bool} {l : List Nat} (hT : listed = T) (hk : idxs T n = l) : idxs listed n = l := by rw [hT]; exact hk
variable {i : Nat} {o : Oper} {K : Act → World → Prop} {a : Act} {W W' : World}
theorem wpOp_unwanted (ho : ops[i]? = some o) (hg : Region.wanted o (yielded ops a.tmps) = false) (hk : K (a.put o.dst undef) W) : wpOp P ops Q i K a W := by
 unfold wpOp
 simp only [ho, hg]
 exact hk
theorem wpOp_wanted {v : Value} (ho : ops[i]? = some o) (hg : Region.wanted o (yielded ops a.tmps) = true) (hr : (execOp a.eval o).run P W = .ok (.value v) W') (hk : K (a.put o.dst v) W') : wpOp P ops Q i K a W := by
 unfold wpOp
 simp only [ho, hg, if_true]
 left
 unfold Oper.wp
 rw [hr]; exact hk
theorem yielded_of {tmps : Array Value} {j : Nat} {d : Tmp} {b : Bool} (hd : (ops[j]?).bind (·.dst) = some d) (h : tmps[d]?.getD undef = .bool b) : yielded ops tmps j = some b := by
 unfold yielded
 rw [hd]
 simp only [Option.bind_some]
 cases ht : tmps[d]? with
 | none => rw [ht] at h; cases h
 | some v => rw [ht] at h; simp only [Option.getD_some] at h; subst h; rfl
theorem wpOp_skip (ho : ops[i]? = some o) (hg : o.guard = none) (hr : (execOp a.eval o).run P W = .ok .skip W') (hk : K (a.put o.dst undef) W') : wpOp P ops Q i K a W := by
 unfold wpOp
 simp only [ho, Region.wanted, hg, if_true]
 left
 unfold Oper.wp
 rw [hr]; exact hk
end
theorem wp_post {P : Program} {cd : Code} {Q : Exit → Act → World → Prop} {a : Act} {w : World} (R : Act → World → Prop) (h : cd.wp P (fun e a' v => e = .normal ∧ R a' v) a w) (hq : ∀ a' v, R a' v → Q .normal a' v) : cd.wp P Q a w :=
 Code.wp_mono (fun _ _ _ ⟨h1, h2⟩ => by rw [h1]; exact hq _ _ h2) h
/-- Block g is a row of the call's own: n integers xs, room for cap. -/
def OwnI (w : World) (base g n cap : Nat) (xs : List Int) : Prop := w.ownsRow base 3 1 (.slice (some ⟨g, 0, none⟩) n cap) n (xs.map (Value.int .i64))
section
variable {w w' : World} {base g n cap B : Nat} {xs : List Int}
theorem OwnI.len (h : OwnI w base g n cap xs) : xs.length = n := by have := h.1; simpa using this
theorem OwnI.lt (h : OwnI w base g n cap xs) : base ≤ g ∧ g < w.heap.size := World.ownsRow.lt h g rfl
theorem OwnI.cell (h : OwnI w base g n cap xs) {i : Nat} (hi : i < n) : w.cell? ⟨g, i, none⟩ = some (.int .i64 (nth xs i)) := by
 have hl := h.len
 rw [World.ownsRow.cellAt h i (by omega)]
 simp [nth, hl, hi]
theorem OwnI.frozen (h : OwnI w base g n cap xs) (i : Nat) : w.frozen? ⟨g, i, none⟩ = false := World.ownsRow.frozenAt h i
theorem OwnI.set (h : OwnI w base g n cap xs) (i : Nat) (u : Int) : OwnI (w.setCell ⟨g, i, none⟩ (.int .i64 u)) base g n cap (xs.set i u) := by
 have := (World.ownsRow.stored h i (.int .i64 u)).1
 unfold OwnI
 rw [List.map_set]
 exact this
theorem OwnI.block (h : OwnI w base g n cap xs) (hk : w'.heap[g]? = w.heap[g]?) : OwnI w' base g n cap xs := by
 obtain ⟨h1, h2⟩ := h
 refine ⟨h1, ?_⟩
 rcases h2 with ⟨h', _⟩ | ⟨g', cap', cur, h', hb, hg, r⟩
 · simp at h'
 · have hgg : g' = g := by
    simp only [Value.slice.injEq, Option.some.injEq, Addr.mk.injEq, and_true, true_and] at h'
    exact h'.1.symm
   subst hgg
   exact .inr ⟨g', cap', cur, h', hb, by rw [hk]; exact hg, r⟩
theorem OwnI.below (h : OwnI w base g n cap xs) (hb : Below B w w') (hg : g < B) : OwnI w' base g n cap xs := h.block (hb.block g hg)
theorem OwnI.far (h : OwnI w base g n cap xs) {a : Addr} (ha : g ≠ a.block) (u : Value) : OwnI (w.setCell a u) base g n cap xs := h.block (Below.heap_setCell w a u g ha)
theorem OwnI.ints (h : OwnI w base g n cap xs) : IntsS w w.heap.size (some ⟨g, 0, none⟩) n cap xs := by
 obtain ⟨A, c, e, hs⟩ := IntsS.of_own h
 simp only [Value.slice.injEq, true_and] at e
 obtain ⟨rfl, rfl⟩ := e
 exact hs
end

theorem run_append_of_nil {P : Program} (w : World) (base : Nat) (t ty e : TypeId) (i : TypeInfo) (size : Nat) (ht : P.underlying t = some (.slice e)) (hi : P.info? e = some i)
 (v : Value) (n : Nat) (xs : List Value) (hown : w.ownsRow base e size v n xs) (c : Nat) : (Builtin.append_ #[t, t] ty #[v, .slice none 0 c]).run P w = .ok v w := by
 rcases hown.2 with ⟨rfl, rfl⟩ | ⟨g, cap, cur, rfl, _, _, hnc, _⟩
 · simp [Builtin.append_, run_underlying ht, sizeOf, typeInfo, hi, Builtin.lenOf, Builtin.firstCells]
 · simp [Builtin.append_, run_underlying ht, sizeOf, typeInfo, hi, Builtin.lenOf, Builtin.firstCells, hnc, storeCells]
/-- append of integers that came in, nil or not, onto a row of the call's own. -/
theorem run_app_ints (w : World) {base : Nat} {v : Value} {n : Nat} {xs ys : List Int} (hown : w.ownsRow base 3 1 v n (xs.map (Value.int .i64))) {B m c : Nat} {A : Option Addr} (h : IntsS w B A m c ys)
 (hn : n + m ≤ 17592186044416) (hbase : base ≤ w.heap.size) (ty : TypeId) :
 ∃ v' w', (Builtin.append_ #[32, 32] ty #[v, .slice A m c]).run Tryz.prog w = .ok v' w' ∧ w'.ownsRow base 3 1 v' (n + m) ((xs ++ ys).map (Value.int .i64)) ∧ w.grownBy w' v.ownBlock ∧
  (v'.ownBlock = v.ownBlock ∨ v'.ownBlock = some w.heap.size) := by
 obtain ⟨i0, hi, hz0, hz1, hz2⟩ := info_parts Tryz.infoInt
 have hl := h.len
 rcases Nat.eq_zero_or_pos m with h0 | h0
 · subst h0
   obtain rfl : ys = [] := List.eq_nil_of_length_eq_zero hl
   cases A with
   | none => exact ⟨v, w, run_append_of_nil w base _ ty _ i0 1 Tryz.underlying32 hi v n _ hown c, by simpa using hown, World.grownBy.refl w _, .inl rfl⟩
   | some ad =>
    obtain ⟨v', w', hrun, h2, h3, _, h5⟩ := run_append_own_at (P := Tryz.prog) w base 32 ty 3 i0 (.int .i64 0) 1 8 Tryz.underlying32 hi hz0 hz1 hz2 rfl (by omega) v n _ hown ad 0 c [] rfl (by simp) (by simp) (by simp [maxLen]; omega) (by omega) hbase
    exact ⟨v', w', hrun, by simpa using h2, h3, h5⟩
 · obtain ⟨b, off, rfl, hb, hc⟩ := h.row h0
   obtain ⟨v', w', hrun, h2, h3, _, h5⟩ := run_append_own_at (P := Tryz.prog) w base 32 ty 3 i0 (.int .i64 0) 1 8 Tryz.underlying32 hi hz0 hz1 hz2 rfl (by omega) v n _ hown ⟨b, off, none⟩ m c (ys.map (Value.int .i64)) (by simp [hl])
    (fun j u hu => by
     have hj : j < m := by
      rcases Nat.lt_or_ge j m with h | h
      · exact h
      · rw [List.getElem?_eq_none (by simp [hl]; exact h)] at hu; cases hu
     rw [Addr.add_lit, hc j hj]
     simp [hl, hj] at hu
     rw [← hu, intsF, nth_eq (by omega)]) (by simp [Value.oneCell']) (by simp [maxLen]; omega) (by omega) hbase
   exact ⟨v', w', hrun, by simpa using h2, h3, h5⟩
theorem wpList_app_ints {ops : Array Oper} {rest : List Oper} {o : Oper} {a : Act} {Q : Exit → Act → World → Prop} (w : World) (hgd : o.guard = none) (s x : Operand)
 (ho : o.op = .call { callee := .builtin .append, args := #[s, x], argTypes := #[32, 32] }) (base : Nat) (v : Value) (n : Nat) (xs : List Int) (hs : a.eval s = v) (hown : w.ownsRow base 3 1 v n (xs.map (Value.int .i64)))
 (A : Option Addr) (m c B : Nat) (ys : List Int) (hx : a.eval x = .slice A m c) (h : IntsS w B A m c ys) (hn : n + m ≤ 17592186044416) (hbase : base ≤ w.heap.size)
 (hk : ∀ v' w', w'.ownsRow base 3 1 v' (n + m) ((xs ++ ys).map (Value.int .i64)) → w.grownBy w' v.ownBlock → (v'.ownBlock = v.ownBlock ∨ v'.ownBlock = some w.heap.size) → wpList Tryz.prog ops Q rest (a.put o.dst v') w') : wpList Tryz.prog ops Q (o :: rest) a w := by
 obtain ⟨v', w', hrun, h2, h3, h4⟩ := run_app_ints w hown h hn hbase o.type
 refine wpList_plain hgd fun K hK => ?_
 unfold Oper.wp execOp
 simp only [ho, resolve, invoke, builtin, Sem.run_bind, Sem.run_pure, Result.andThen_ok, List.map_toArray, List.map_cons, List.map_nil, hs, hx, hrun]
 exact hK _ _ (hk v' w' h2 h3 h4)

theorem own_base {w : World} {base base' : Nat} {e : TypeId} {size n : Nat} {v : Value} {xs : List Value} (h : w.ownsRow base e size v n xs) (hb : base' ≤ base) : w.ownsRow base' e size v n xs := by
 refine ⟨h.1, ?_⟩
 rcases h.2 with h2 | ⟨g, cap, cur, h1, h2, r⟩
 · exact .inl h2
 · exact .inr ⟨g, cap, cur, h1, Nat.le_trans hb h2, r⟩
theorem own_ex {w : World} {base e size m : Nat} {v : Value} {vs : List Value} (h : w.ownsRow base e size v m vs) : ∃ A c, v = .slice A m c ∧ w.ownsRow base e size (.slice A m c) m vs := by
 rcases h.2 with ⟨rfl, h0⟩ | ⟨g, cap, cur, rfl, _⟩
 · subst h0; exact ⟨_, _, rfl, h⟩
 · exact ⟨_, _, rfl, h⟩
theorem ints_own {w : World} {base n c : Nat} {A : Option Addr} {xs : List Int} (h : w.ownsRow base 3 1 (.slice A n c) n (xs.map (Value.int .i64))) : IntsS w w.heap.size A n c xs := by
 obtain ⟨A', c', e, hs⟩ := IntsS.of_own h
 simp only [Value.slice.injEq, true_and] at e
 obtain ⟨rfl, rfl⟩ := e
 exact hs


section
variable {P : Program} {ops : Array Oper} {Q : Exit → Act → World → Prop} {a0 : Act} {w : World} {dst : Nat → Tmp} {mono pre : Nat → Bool} {G : Array Bool → (Nat → Value) → World → Prop}
def NoPv : Nat → Value → World → Prop := fun _ _ _ => True
theorem Grown.next0 {n : Nat} {listed : Array Bool} {vs : Nat → Value} {a : Act} {W W' : World} {i : Nat} {v : Value} (h : Grown n a0 w dst mono NoPv listed vs a W) (hi : i < n) (hl : listed.getD i false = false) (hm : mono i = true)
 (hd : ∀ i, i < n → mono i = true → dst i < a0.tmps.size) (hinj : ∀ i, i < n → mono i = true → ∀ j, j < n → mono j = true → dst i = dst j → i = j) (hb : Below w.heap.size W W') :
 Grown n a0 w dst mono NoPv (listed.setIfInBounds i true) (fun j => if j = i then v else vs j) (a.put (some (dst i)) v) W' := by
 have r := h.next (v := v) hi hl hm hd hinj (fun _ _ _ _ _ _ => trivial) (Below.refl _ W) trivial
 exact ⟨h.below.trans hb, r.defers, r.tmps, r.size, r.mono, fun _ _ => trivial⟩
theorem wpAny_inv (hok : growOk ops dst mono pre a0.tmps.size = true)
 (hstep : ∀ i, i < ops.size → mono i = true → ∀ listed vs a W, GrownU ops.size a0 w dst NoPv listed vs a W → listed.size = ops.size → G listed vs W → (∀ j, listed.getD j false = true → ∀ o, ops[j]? = some o → ∀ e ∈ o.after, Region.binds .any e = true → listed.getD e.on false = true) → listed.getD i false = false → (∀ o, ops[i]? = some o → ∀ e ∈ o.after, Region.binds .any e = true → listed.getD e.on false = true) →
  ∀ K : Act → World → Prop, (∀ v W', Below w.heap.size W W' → G (listed.setIfInBounds i true) (fun j => if j = i then v else vs j) W' → K (a.put (some (dst i)) v) W') → wpOp P ops Q i K a W)
 (hend : ∀ listed vs a W, Grown ops.size a0 w dst mono NoPv listed vs a W → G listed vs W → (∀ i, i < ops.size → pre i = true → listed.getD i false = true) → wpAny P .any ops Q (leftOver listed ops.size) listed a W) :
 ∀ (fuel : Nat) (listed : Array Bool) (vs : Nat → Value) (a : Act) (W : World), Grown ops.size a0 w dst mono NoPv listed vs a W → G listed vs W → (∀ j, listed.getD j false = true → ∀ o, ops[j]? = some o → ∀ e ∈ o.after, Region.binds .any e = true → listed.getD e.on false = true) → fuel = leftOver listed ops.size → wpAny P .any ops Q fuel listed a W
 | 0, listed, vs, a, W, h, hG, _, hf => by
  rw [hf]
  exact hend listed vs a W h hG (fun i hi _ => leftOver_zero hf.symm hi)
 | fuel + 1, listed, vs, a, W, h, hG, hcl, hf => by
  by_cases hall : ∀ i, i < ops.size → pre i = true → listed.getD i false = true
  · rw [hf]; exact hend listed vs a W h hG hall
  · have hfacts := fun i (hi : i < ops.size) => any_some (List.all_eq_true.1 hok i (List.mem_range.2 hi))
    obtain ⟨hd, hinj⟩ := grow_facts hok
    have hex : ∃ i, i < ops.size ∧ pre i = true ∧ listed.getD i false = false ∧ ∀ j, j < i → pre j = true → listed.getD j false = true := by
     apply Classical.byContradiction
     intro hno
     apply hall
     intro i
     induction i using Nat.strongRecOn with
     | _ i ih =>
      intro hi hp
      cases hl : listed.getD i false with
      | true => rfl
      | false => exact absurd ⟨i, hi, hp, hl, fun j hj hpj => ih j hj (by omega) hpj⟩ hno
    refine ⟨fun hr => ?_, fun i hi => ?_⟩
    · exfalso
      obtain ⟨i, hi, hp, hl, hbef⟩ := hex
      obtain ⟨o, ho, h2⟩ := hfacts i hi
      simp only [hp, Bool.not_true, Bool.false_or, Bool.and_eq_true] at h2
      have hmem : i ∈ Region.ready .any ops listed := by
       rw [Region.ready, List.mem_filter]
       refine ⟨List.mem_range.2 hi, ?_⟩
       have hl2 : listed.getD i true = false := by
        rw [Array.getD_eq_getD_getElem?] at hl ⊢
        rw [Array.getElem?_eq_getElem (by rw [h.size]; exact hi)] at hl ⊢
        exact hl
       rw [hl2, ho]
       simp only [Bool.not_false, Bool.true_and, Option.map_some, Option.getD_some]
       rw [Array.all_eq_true_iff_forall_mem]
       intro e he
       have h3 := Array.all_eq_true_iff_forall_mem.1 h2.1.2.2 e he
       cases hb : Region.binds .any e with
       | false => rfl
       | true =>
        rw [hb] at h3
        simp only [Bool.not_true, Bool.false_or, Bool.and_eq_true, decide_eq_true_eq] at h3
        simpa using hbef e.on h3.1 h3.2
      rw [hr] at hmem
      cases hmem
    · rw [Region.ready, List.mem_filter] at hi
      obtain ⟨hi, hr⟩ := hi
      have hi := List.mem_range.1 hi
      obtain ⟨o, ho, h2⟩ := hfacts i hi
      rw [ho] at hr
      simp only [Option.map_some, Option.getD_some, Bool.and_eq_true, Bool.not_eq_true'] at hr
      have hl : listed.getD i false = false := by
       have := hr.1
       rw [Array.getD_eq_getD_getElem?] at this ⊢
       rw [Array.getElem?_eq_getElem (by rw [h.size]; exact hi)] at this ⊢
       exact this
      have haft : ∀ e ∈ o.after, Region.binds .any e = true → listed.getD e.on false = true := fun e he hb => by
       have := Array.all_eq_true_iff_forall_mem.1 hr.2 e he
       rw [hb] at this
       simpa using this
      have hm : mono i = true := by
       cases hm : mono i with
       | true => rfl
       | false =>
        exfalso
        simp only [hm, Bool.false_or, Bool.and_eq_true] at h2
        apply hall
        intro j hj hp
        have h3 := List.all_eq_true.1 h2.2 j (List.mem_range.2 hj)
        rw [hp] at h3
        simp only [Bool.not_true, Bool.false_or] at h3
        rw [← Array.any_toList, List.any_eq_true] at h3
        obtain ⟨e, he, h4⟩ := h3
        have he : e ∈ o.after := by simpa using he
        simp only [Bool.and_eq_true, beq_iff_eq] at h4
        rw [← h4.2]
        exact haft e he h4.1
      refine hstep i hi hm listed vs a W (h.user hd hinj) h.size hG hcl hl (fun o' ho' => by rw [ho] at ho'; cases ho'; exact haft) _ (fun v W' hb hv => ?_)
      refine wpAny_inv hok hstep hend fuel _ _ _ _ (h.next0 hi hl hm hd hinj hb) hv (fun j hj o' ho' e he hbi => ?_) (by have := leftOver_set h.size hi hl; omega)
      rw [getD_set (by rw [h.size]; exact hi)] at hj ⊢
      split
      · rfl
      · split at hj
        · rename_i e1
          subst e1
          rw [ho] at ho'; cases ho'
          exact haft e he hbi
        · exact hcl j hj o' ho' e he hbi
theorem wp_region_inv {id : Nat} (hm : P.follows .mixedOrders = true) (hok : growOk ops dst mono pre a0.tmps.size = true)
 (h0 : G (Array.replicate ops.size false) (fun _ => undef) w.drew)
 (hstep : ∀ i, i < ops.size → mono i = true → ∀ listed vs a W, GrownU ops.size a0 w.drew dst NoPv listed vs a W → listed.size = ops.size → G listed vs W → (∀ j, listed.getD j false = true → ∀ o, ops[j]? = some o → ∀ e ∈ o.after, Region.binds .any e = true → listed.getD e.on false = true) → listed.getD i false = false → (∀ o, ops[i]? = some o → ∀ e ∈ o.after, Region.binds .any e = true → listed.getD e.on false = true) →
  ∀ K : Act → World → Prop, (∀ v W', Below w.heap.size W W' → G (listed.setIfInBounds i true) (fun j => if j = i then v else vs j) W' → K (a.put (some (dst i)) v) W') → wpOp P ops Q i K a W)
 (hend : ∀ listed vs a W, Grown ops.size a0 w.drew dst mono NoPv listed vs a W → G listed vs W → (∀ i, i < ops.size → pre i = true → listed.getD i false = true) → wpAny P .any ops Q (leftOver listed ops.size) listed a W) :
 (Code.region id ops true).wp P Q a0 w := by
 have hz : ∀ i, (Array.replicate ops.size false).getD i false = false := fun i => by
  rw [Array.getD_eq_getD_getElem?, Array.getElem?_replicate]; split <;> rfl
 have hix : idxs (Array.replicate ops.size false) ops.size = [] := by
  rw [idxs, List.filter_eq_nil_iff]; intro i _; rw [hz]; simp
 refine wp_region_any hm (wpAny_inv hok hstep hend _ _ (fun _ => undef) a0 w.drew ⟨Below.refl _ _, rfl, by rw [hix]; rfl, by simp, (fun i h => by rw [hz] at h; cases h), (fun i h => by rw [hz] at h; cases h)⟩ h0 (fun j h => by rw [hz] at h; cases h) ?_)
 rw [leftOver, List.filter_eq_self.2 (fun i _ => by rw [hz]; rfl), List.length_range]
end

/-- Operation j is over, and its row has not been handed on. -/
def Live (cs : Nat → Nat) (listed : Array Bool) (j : Nat) : Prop := listed.getD j false = true ∧ listed.getD (cs j) false = false
/-- What is so of the operations that are over: each has what it should; a row that is to be handed on is nobody else's. cs j: the operation to which j's row is handed on (n: none). ft: the blocks that a value leans on. -/
structure Loose (n base : Nat) (cs : Nat → Nat) (Pv : Nat → Value → World → Prop) (ft : Nat → Value → Nat → Prop) (listed : Array Bool) (vs : Nat → Value) (W : World) : Prop where
 size : listed.size = n
 base : base ≤ W.heap.size
 pv : ∀ j, j < n → Live cs listed j → Pv j (vs j) W
 lt : ∀ j, j < n → Live cs listed j → ∀ b, ft j (vs j) b → b < W.heap.size
 apart : ∀ j k, j < n → k < n → j ≠ k → cs j < n → Live cs listed j → Live cs listed k → ∀ b, ft j (vs j) b → ¬ ft k (vs k) b
/-- What Pv says of a value stays while the blocks that it leans on stay. -/
def Stab (base : Nat) (Pv : Nat → Value → World → Prop) (ft : Nat → Value → Nat → Prop) : Prop :=
 ∀ i v W W', Pv i v W → base ≤ W.heap.size → W.heap.size ≤ W'.heap.size → (∀ b, b < W.heap.size → (b < base ∨ ft i v b) → W'.heap[b]? = W.heap[b]?) → Pv i v W'
section
variable {n base : Nat} {cs : Nat → Nat} {Pv : Nat → Value → World → Prop} {ft : Nat → Value → Nat → Prop} {listed : Array Bool} {vs : Nat → Value} {W W' : World} {i p : Nat} {v : Value}
theorem Loose.start {w : World} (hb : base ≤ w.heap.size) : Loose n base cs Pv ft (Array.replicate n false) vs w := by
 have hz : ∀ i, (Array.replicate n false).getD i false = false := fun i => by
  rw [Array.getD_eq_getD_getElem?, Array.getElem?_replicate]; split <;> rfl
 have hno : ∀ j, ¬ Live cs (Array.replicate n false) j := fun j h => by have h1 := h.1; rw [hz] at h1; cases h1
 exact ⟨by simp, hb, fun j _ h => absurd h (hno j), fun j _ h => absurd h (hno j), fun j _ _ _ _ _ h => absurd h (hno j)⟩
theorem live_set (hs : listed.size = n) (hi : i < n) {j : Nat} (hj : j ≠ i) (h : Live cs (listed.setIfInBounds i true) j) : Live cs listed j ∧ cs j ≠ i := by
 obtain ⟨h1, h2⟩ := h
 rw [getD_set (by omega), if_neg hj] at h1
 rw [getD_set (by omega)] at h2
 split at h2
 · cases h2
 · rename_i hne; exact ⟨⟨h1, h2⟩, hne⟩
/-- An operation that makes something new, or reads. -/
theorem Loose.fresh (h : Loose n base cs Pv ft listed vs W) (hst : Stab base Pv ft) (hi : i < n) (hb : Below W.heap.size W W') (hv : Pv i v W')
 (hf : ∀ b, ft i v b → b < W'.heap.size ∧ (W.heap.size ≤ b ∨ (n ≤ cs i ∧ ∃ j, j < n ∧ j ≠ i ∧ Live cs listed j ∧ n ≤ cs j ∧ ft j (vs j) b))) :
 Loose n base cs Pv ft (listed.setIfInBounds i true) (fun j => if j = i then v else vs j) W' := by
 refine ⟨by rw [Array.size_setIfInBounds]; exact h.size, Nat.le_trans h.base hb.size, fun j hj hl => ?_, fun j hj hl b => ?_, fun j k hj hk hne hc hlj hlk b => ?_⟩
 · show Pv j (if j = i then v else vs j) W'
   split
   · rename_i e; rw [e]; exact hv
   · rename_i e
     exact hst _ _ _ _ (h.pv j hj (live_set h.size hi e hl).1) h.base hb.size (fun b hb2 _ => hb.block b hb2)
 · show ft j (if j = i then v else vs j) b → _
   split
   · rename_i e; rw [e]; exact fun hb2 => (hf b hb2).1
   · rename_i e; exact fun hb2 => Nat.lt_of_lt_of_le (h.lt j hj (live_set h.size hi e hl).1 b hb2) hb.size
 · show ft j (if j = i then v else vs j) b → ¬ ft k (if k = i then v else vs k) b
   by_cases e : j = i
   · rw [if_pos e, if_neg (by omega)]
     intro hb2 hb3
     have hk' := h.lt k hk (live_set h.size hi (by omega) hlk).1 b hb3
     subst e
     rcases (hf b hb2).2 with h1 | ⟨h1, _⟩ <;> omega
   · rw [if_neg e]
     have hj' := (live_set h.size hi e hlj).1
     by_cases e2 : k = i
     · rw [if_pos e2]
       subst e2
       intro hb2 hb3
       have hjb := h.lt j hj hj' b hb2
       rcases (hf b hb3).2 with h1 | ⟨_, q, hq, _, hql, hqc, hqb⟩
       · omega
       · exact h.apart j q hj hq (fun e => by subst e; omega) hc hj' hql b hb2 hqb
     · rw [if_neg e2]
       exact h.apart j k hj hk hne hc hj' (live_set h.size hi e2 hlk).1 b
/-- The same where no row is to be handed on any more. -/
theorem Loose.freshAll (h : Loose n base cs Pv ft listed vs W) (hst : Stab base Pv ft) (hi : i < n) (hci : n ≤ cs i) (hno : ∀ j, j < n → cs j < n → ¬ Live cs listed j) (hb : Below W.heap.size W W') (hv : Pv i v W')
 (hf : ∀ b, ft i v b → b < W'.heap.size) :
 Loose n base cs Pv ft (listed.setIfInBounds i true) (fun j => if j = i then v else vs j) W' := by
 refine ⟨by rw [Array.size_setIfInBounds]; exact h.size, Nat.le_trans h.base hb.size, fun j hj hl => ?_, fun j hj hl b => ?_, fun j k hj hk hne hc hlj hlk b => ?_⟩
 · show Pv j (if j = i then v else vs j) W'
   split
   · rename_i e; rw [e]; exact hv
   · rename_i e
     exact hst _ _ _ _ (h.pv j hj (live_set h.size hi e hl).1) h.base hb.size (fun b hb2 _ => hb.block b hb2)
 · show ft j (if j = i then v else vs j) b → _
   split
   · rename_i e; rw [e]; exact hf b
   · rename_i e; exact fun hb2 => Nat.lt_of_lt_of_le (h.lt j hj (live_set h.size hi e hl).1 b hb2) hb.size
 · exfalso
   by_cases e : j = i
   · subst e; omega
   · exact hno j hj hc (live_set h.size hi e hlj).1
/-- An operation to which p's row is handed on. -/
theorem Loose.take (h : Loose n base cs Pv ft listed vs W) (hst : Stab base Pv ft) (hi : i < n) (hp : p < n) (hpi : p ≠ i) (hcp : cs p = i) (hl : Live cs listed p) (hg : W.grownBy W' (vs p).ownBlock)
 (hfp : ∀ b, (vs p).ownBlock = some b → ft p (vs p) b ∧ base ≤ b) (hv : Pv i v W') (hf : ∀ b, ft i v b → b < W'.heap.size ∧ (ft p (vs p) b ∨ W.heap.size ≤ b)) :
 Loose n base cs Pv ft (listed.setIfInBounds i true) (fun j => if j = i then v else vs j) W' := by
 have hnp : ∀ {j}, j ≠ i → Live cs (listed.setIfInBounds i true) j → j ≠ p := fun {j} e hlj e2 => by
  subst e2; exact (live_set h.size hi e hlj).2 hcp
 refine ⟨by rw [Array.size_setIfInBounds]; exact h.size, Nat.le_trans h.base hg.size, fun j hj hl' => ?_, fun j hj hl' b => ?_, fun j k hj hk hne hc hlj hlk b => ?_⟩
 · show Pv j (if j = i then v else vs j) W'
   split
   · rename_i e; rw [e]; exact hv
   · rename_i e
     have hlo := (live_set h.size hi e hl').1
     have hjp := hnp e hl'
     refine hst _ _ _ _ (h.pv j hj hlo) h.base hg.size (fun b hb2 hb3 => hg.block b hb2 (fun e3 => ?_))
     obtain ⟨h1, h2⟩ := hfp b e3.symm
     rcases hb3 with hb3 | hb3
     · omega
     · exact h.apart p j hp hj (Ne.symm hjp) (by omega) hl hlo b h1 hb3
 · show ft j (if j = i then v else vs j) b → _
   split
   · rename_i e; rw [e]; exact fun hb2 => (hf b hb2).1
   · rename_i e; exact fun hb2 => Nat.lt_of_lt_of_le (h.lt j hj (live_set h.size hi e hl').1 b hb2) hg.size
 · show ft j (if j = i then v else vs j) b → ¬ ft k (if k = i then v else vs k) b
   by_cases e : j = i
   · rw [if_pos e, if_neg (by omega)]
     intro hb2 hb3
     have hk0 : k ≠ i := by omega
     have hk' := (live_set h.size hi hk0 hlk).1
     have hkb := h.lt k hk hk' b hb3
     rw [e] at hb2
     rcases (hf b hb2).2 with h1 | h1
     · exact h.apart p k hp hk (Ne.symm (hnp hk0 hlk)) (by omega) hl hk' b h1 hb3
     · omega
   · rw [if_neg e]
     have hj' := (live_set h.size hi e hlj).1
     by_cases e2 : k = i
     · rw [if_pos e2]
       intro hb2 hb3
       have hjb := h.lt j hj hj' b hb2
       rw [e2] at hb3
       rcases (hf b hb3).2 with h1 | h1
       · exact h.apart p j hp hj (Ne.symm (hnp e hlj)) (by omega) hl hj' b h1 hb2
       · omega
     · rw [if_neg e2]
       exact h.apart j k hj hk hne hc hj' (live_set h.size hi e2 hlk).1 b
end
theorem own_new {g o m c b : Nat} (h : (Value.slice (some ⟨g, o, none⟩) m c).ownBlock = some b) : g = b := Option.some.inj h
section
variable {w w' : World} {B n c : Nat} {A : Option Addr} {xs : List Int}
theorem Row.stab {m : Nat} {f : Nat → Value} (h : Row w w.heap.size A m f) (hz : w.heap.size ≤ w'.heap.size) (hk : ∀ b o, b < w.heap.size → A = some ⟨b, o, none⟩ → 0 < m → w'.heap[b]? = w.heap[b]?) : Row w' w'.heap.size A m f := fun hm => by
 obtain ⟨b, off, e, hb, hc⟩ := h hm
 exact ⟨b, off, e, by omega, fun j hj => (World.cell?_of_block (a := ⟨b, off + j, none⟩) (hk b off hb e hm)).trans (hc j hj)⟩
theorem IntsS.stab (h : IntsS w w.heap.size A n c xs) (hz : w.heap.size ≤ w'.heap.size) (hk : ∀ b o, b < w.heap.size → A = some ⟨b, o, none⟩ → 0 < n → w'.heap[b]? = w.heap[b]?) : IntsS w' w'.heap.size A n c xs :=
 ⟨h.len, h.cap, h.max, h.row.stab hz hk⟩
theorem IntsS.foot (h : IntsS w w.heap.size A n c xs) {b : Nat} (hb : (Value.slice A n c).ownBlock = some b ∧ 0 < n) : b < w.heap.size := by
 obtain ⟨b', o, rfl, h2, _⟩ := h.row hb.2
 rw [← own_new hb.1]; exact h2
theorem own_stab {base e size m : Nat} {v : Value} {vs : List Value} (h : w.ownsRow base e size v m vs) (hk : ∀ b, b < w.heap.size → v.ownBlock = some b → w'.heap[b]? = w.heap[b]?) : w'.ownsRow base e size v m vs := by
 refine ⟨h.1, ?_⟩
 rcases h.2 with hn | ⟨g, cap, cur, rfl, hb, hgg, rest⟩
 · exact .inl hn
 · refine .inr ⟨g, cap, cur, rfl, hb, ?_, rest⟩
   rw [hk g (Array.getElem?_eq_some_iff.1 hgg).1 rfl]
   exact hgg
end
/-- A row that a call owns reads as a row of values. -/
theorem row_own {w : World} {base e size m : Nat} {v : Value} {vs : List Value} (h : w.ownsRow base e size v m vs) : ∃ A c, v = .slice A m c ∧ m ≤ c ∧ c ≤ maxLen ∧ Row w w.heap.size A (m * size) (fun j => vs.getD j undef) := by
 have hl := h.1
 rcases h.2 with ⟨rfl, h0⟩ | ⟨g, cap, cur, rfl, hg, hh, h1, h2, h3, h4⟩
 · subst h0
   exact ⟨none, 0, rfl, Nat.le_refl _, by simp [maxLen], by rw [Nat.zero_mul]; exact Row.nil_⟩
 · refine ⟨_, cap, rfl, h1, h2, fun hm => ⟨g, 0, rfl, (Array.getElem?_eq_some_iff.1 hh).1, fun j hj => ?_⟩⟩
   have := h.cells (g := g) rfl j (vs.getD j undef) (by rw [List.getD_eq_getElem?_getD, List.getElem?_eq_getElem (by omega)]; rfl)
   rwa [Addr.add_lit] at this
/-- append of a row that came in, nil or not, onto a row of the call's own. -/
theorem run_app_row {P : Program} (w : World) (base : Nat) (t ty e : TypeId) (i : TypeInfo) (z : Value) (size bytes : Nat) (ht : P.underlying t = some (.slice e)) (hi : P.info? e = some i) (hz : i.zero = some z)
 (hsize : i.size = size) (hby : i.bytes = bytes) (hzs : z.cells.size = size) (hsz : 0 < size)
 {v : Value} {n : Nat} {xs : List Value} (hown : w.ownsRow base e size v n xs) {B m c : Nat} {A : Option Addr} {f : Nat → Value} (h : Row w B A (m * size) f) (h1 : ∀ j, j < m * size → (f j).oneCell' = true)
 (h63 : n + m ≤ maxLen) (hbytes : (n + m) * bytes ≤ 140737488355328) (hbase : base ≤ w.heap.size) :
 ∃ v' w', (Builtin.append_ #[t, t] ty #[v, .slice A m c]).run P w = .ok v' w' ∧ w'.ownsRow base e size v' (n + m) (xs ++ (List.range (m * size)).map f) ∧ w.grownBy w' v.ownBlock ∧ (v'.ownBlock = v.ownBlock ∨ v'.ownBlock = some w.heap.size) := by
 rcases Nat.eq_zero_or_pos m with h0 | h0
 · subst h0
   rw [Nat.zero_mul] at *
   cases A with
   | none => exact ⟨v, w, run_append_of_nil w base t ty e i size ht hi v n xs hown c, by simpa using hown, World.grownBy.refl w _, .inl rfl⟩
   | some ad =>
    obtain ⟨v', w', hrun, h2, h3, _, h5⟩ := run_append_own_at (P := P) w base t ty e i z size bytes ht hi hz hsize hby hzs hsz v n xs hown ad 0 c [] (by simp) (by simp) (by simp) (by omega) (by omega) hbase
    exact ⟨v', w', hrun, by simpa using h2, h3, h5⟩
 · obtain ⟨b, off, rfl, hb, hc⟩ := h (Nat.mul_pos h0 hsz)
   obtain ⟨v', w', hrun, h2, h3, _, h5⟩ := run_append_own_at (P := P) w base t ty e i z size bytes ht hi hz hsize hby hzs hsz v n xs hown ⟨b, off, none⟩ m c ((List.range (m * size)).map f) (by simp)
    (fun j u hu => by
     rw [Addr.add_lit]
     rw [List.getElem?_map] at hu
     rcases Nat.lt_or_ge j (m * size) with hj | hj
     · rw [List.getElem?_range hj] at hu
       simp only [Option.map_some, Option.some.injEq] at hu
       rw [hc j hj, hu]
     · rw [List.getElem?_eq_none (by simpa using hj)] at hu; cases hu) (by
     intro u hu
     obtain ⟨j, hj, rfl⟩ := List.mem_map.1 hu
     exact h1 j (List.mem_range.1 hj)) h63 hbytes hbase
   exact ⟨v', w', hrun, h2, h3, h5⟩
theorem wpOp_append {P : Program} {ops : Array Oper} {Q : Exit → Act → World → Prop} {i : Nat} {o : Oper} {K : Act → World → Prop} {a : Act} {W W' : World} {s x : Tmp} {T : TypeId} {v u v' : Value} (ho : ops[i]? = some o) (hg : o.guard = none)
 (hop : o.op = .call { callee := .builtin .append, args := #[.tmp s, .tmp x], argTypes := #[T, T] }) (hs : a.tmps[s]?.getD undef = v) (hx : a.tmps[x]?.getD undef = u)
 (hrun : (Builtin.append_ #[T, T] o.type #[v, u]).run P W = .ok v' W') (hk : K (a.put o.dst v') W') : wpOp P ops Q i K a W := by
 refine wpOp_value ho hg ?_ hk
 have hs' : a.eval (.tmp s) = v := by show a.tmps.getD s undef = v; rw [Array.getD_eq_getD_getElem?]; exact hs
 have hx' : a.eval (.tmp x) = u := by show a.tmps.getD x undef = u; rw [Array.getD_eq_getD_getElem?]; exact hx
 unfold execOp
 simp only [hop, resolve, invoke, builtin, Sem.run_bind, Sem.run_pure, Result.andThen_ok, List.map_toArray, List.map_cons, List.map_nil, hs', hx', hrun]
section
variable {a0 : Act} {w : World} {dst : Nat → Tmp} {n base : Nat} {cs : Nat → Nat} {Pv : Nat → Value → World → Prop} {ft : Nat → Value → Nat → Prop} {listed : Array Bool} {vs : Nat → Value} {a : Act} {W : World} {K : Act → World → Prop} {i p : Nat}
theorem live_end {j : Nat} (hs : listed.size = n) (hc : cs j = n) (h : listed.getD j false = true) : Live cs listed j :=
 ⟨h, by rw [hc, Array.getD_eq_getD_getElem?, Array.getElem?_eq_none (by omega)]; rfl⟩
theorem Loose.stepF (hU : GrownU n a0 w dst NoPv listed vs a W) (hG : Loose n base cs Pv ft listed vs W) (hst : Stab base Pv ft) (hi : i < n)
 (hK : ∀ v W', Below w.heap.size W W' → Loose n base cs Pv ft (listed.setIfInBounds i true) (fun j => if j = i then v else vs j) W' → K (a.put (some (dst i)) v) W') :
 ∀ v W', Below W.heap.size W W' → Pv i v W' → (∀ b, ft i v b → b < W'.heap.size ∧ (W.heap.size ≤ b ∨ (n ≤ cs i ∧ ∃ j, j < n ∧ j ≠ i ∧ Live cs listed j ∧ n ≤ cs j ∧ ft j (vs j) b))) → K (a.put (some (dst i)) v) W' :=
 fun v W' hb hv hf => hK v W' (hb.mono hU.below.size) (hG.fresh hst hi hb hv hf)
theorem Loose.stepN (hU : GrownU n a0 w dst NoPv listed vs a W) (hG : Loose n base cs Pv ft listed vs W) (hst : Stab base Pv ft) (hi : i < n)
 (hK : ∀ v W', Below w.heap.size W W' → Loose n base cs Pv ft (listed.setIfInBounds i true) (fun j => if j = i then v else vs j) W' → K (a.put (some (dst i)) v) W')
 (hci : n ≤ cs i) (hno : ∀ j, j < n → cs j < n → ¬ Live cs listed j) :
 ∀ v W', Below W.heap.size W W' → Pv i v W' → (∀ b, ft i v b → b < W'.heap.size) → K (a.put (some (dst i)) v) W' :=
 fun v W' hb hv hf => hK v W' (hb.mono hU.below.size) (hG.freshAll hst hi hci hno hb hv hf)
theorem Loose.stepA (hU : GrownU n a0 w dst NoPv listed vs a W) (hG : Loose n base cs Pv ft listed vs W) (hwb : base = w.heap.size) (hst : Stab base Pv ft) (hi : i < n)
 (hK : ∀ v W', Below w.heap.size W W' → Loose n base cs Pv ft (listed.setIfInBounds i true) (fun j => if j = i then v else vs j) W' → K (a.put (some (dst i)) v) W')
 (hp : p < n) (hpi : p ≠ i) (hcp : cs p = i) (hl : Live cs listed p) (hfp : ∀ b, (vs p).ownBlock = some b → ft p (vs p) b)
 {e size m : Nat} {xs : List Value} (hown : W.ownsRow base e size (vs p) m xs) :
 ∀ v W' m' xs', W.grownBy W' (vs p).ownBlock → W'.ownsRow base e size v m' xs' → (v.ownBlock = (vs p).ownBlock ∨ v.ownBlock = some W.heap.size) → Pv i v W' → (∀ b, ft i v b → v.ownBlock = some b) → K (a.put (some (dst i)) v) W' := by
 intro v W' m' xs' hg hown' hblk hv hfi
 have hbb : ∀ b, (vs p).ownBlock = some b → base ≤ b := fun b hb => (hown.lt b hb).1
 refine hK v W' ((Below.refl _ _).grown hg hU.below.size (fun k hk => by rw [← hwb]; exact hbb k hk)) (hG.take hst hi hp hpi hcp hl hg (fun b hb => ⟨hfp b hb, hbb b hb⟩) hv (fun b hb => ?_))
 have hb2 := hfi b hb
 refine ⟨(hown'.lt b hb2).2, ?_⟩
 rcases hblk with h | h
 · exact .inl (hfp b (by rw [← h]; exact hb2))
 · rw [h] at hb2
   exact .inr (Nat.le_of_eq (Option.some.inj hb2))
end
theorem own_lit {base : Nat} {W : World} {T : TypeId} {size : Nat} (hb : base ≤ W.heap.size) (cells : Array Value) (m : Nat) (hm : cells.size = m * size) (hx : m ≤ maxLen) :
 ∃ A cp, Value.slice (some ⟨W.heap.size, 0, none⟩) m m = .slice A m cp ∧ (W.alloc (.cells cells T)).ownsRow base T size (.slice A m cp) m cells.toList :=
 ⟨_, _, rfl, World.ownsRow_lit W cells m hb hx hm⟩
theorem cell_lt {w : World} {b o : Nat} {v : Value} (hc : w.cell? ⟨b, o, none⟩ = some v) : b < w.heap.size := by
 rcases Nat.lt_or_ge b w.heap.size with h | h
 · exact h
 · have : w.heap[b]? = none := by simp [h]
   simp [World.cell?, this] at hc
abbrev iv (x : Int) : Value := .int .i64 x
def OwnE (e : TypeId) (w : World) (base g n : Nat) (xs : List Int) : Prop := w.ownsRow base e 1 (.slice (some ⟨g, 0, none⟩) n n) n (xs.map (Value.int .i64))
section
variable {w w' : World} {e : TypeId} {base g n B : Nat} {xs : List Int}
theorem OwnE.len (h : OwnE e w base g n xs) : xs.length = n := by have := h.1; simpa using this
theorem OwnE.lt (h : OwnE e w base g n xs) : base ≤ g ∧ g < w.heap.size := World.ownsRow.lt h g rfl
theorem OwnE.cell (h : OwnE e w base g n xs) {i : Nat} (hi : i < n) : w.cell? ⟨g, i, none⟩ = some (.int .i64 (nth xs i)) := by
 have hl := h.len
 rw [World.ownsRow.cellAt h i (by omega)]
 simp [nth, hl, hi]
theorem OwnE.frozen (h : OwnE e w base g n xs) (i : Nat) : w.frozen? ⟨g, i, none⟩ = false := World.ownsRow.frozenAt h i
theorem OwnE.set (h : OwnE e w base g n xs) (i : Nat) (u : Int) : OwnE e (w.setCell ⟨g, i, none⟩ (.int .i64 u)) base g n (xs.set i u) := by
 have := (World.ownsRow.stored h i (.int .i64 u)).1
 unfold OwnE
 rw [List.map_set]
 exact this
theorem OwnE.block (h : OwnE e w base g n xs) (hk : w'.heap[g]? = w.heap[g]?) : OwnE e w' base g n xs := by
 obtain ⟨h1, h2⟩ := h
 refine ⟨h1, ?_⟩
 rcases h2 with ⟨h', _⟩ | ⟨g', cap', cur, h', hb, hg, r⟩
 · simp at h'
 · have hgg : g' = g := by
    simp only [Value.slice.injEq, Option.some.injEq, Addr.mk.injEq, and_true, true_and] at h'
    exact h'.1.symm
   subst hgg
   exact .inr ⟨g', cap', cur, h', hb, by rw [hk]; exact hg, r⟩
theorem OwnE.below (h : OwnE e w base g n xs) (hb : Below B w w') (hg : g < B) : OwnE e w' base g n xs := h.block (hb.block g hg)
theorem OwnE.far (h : OwnE e w base g n xs) {a : Addr} (ha : g ≠ a.block) (u : Value) : OwnE e (w.setCell a u) base g n xs := h.block (Below.heap_setCell w a u g ha)
theorem OwnE.store5 (h : OwnE e w base g 5 xs) (y0 y1 y2 y3 y4 : Int) :
 OwnE e (((((w.setCell ⟨g, 0, none⟩ (.int .i64 y0)).setCell ⟨g, 1, none⟩ (.int .i64 y1)).setCell ⟨g, 2, none⟩ (.int .i64 y2)).setCell ⟨g, 3, none⟩ (.int .i64 y3)).setCell ⟨g, 4, none⟩ (.int .i64 y4)) base g 5 [y0, y1, y2, y3, y4] := by
 have hl := h.len
 have := ((((h.set 0 y0).set 1 y1).set 2 y2).set 3 y3).set 4 y4
 match xs, hl with
 | [a, b, c, d, f], _ => simpa using this
theorem below_store5 {w : World} {B g : Nat} (hg : B ≤ g) (y0 y1 y2 y3 y4 : Value) :
 Below B w (((((w.setCell ⟨g, 0, none⟩ y0).setCell ⟨g, 1, none⟩ y1).setCell ⟨g, 2, none⟩ y2).setCell ⟨g, 3, none⟩ y3).setCell ⟨g, 4, none⟩ y4) :=
 (((((Below.refl B w).setCell (by exact hg) _).setCell (by exact hg) _).setCell (by exact hg) _).setCell (by exact hg) _).setCell (by exact hg) _
theorem OwnE.made5 (w : World) (e : TypeId) (a b c d f : Int) : OwnE e (w.alloc (.cells #[iv a, iv b, iv c, iv d, iv f] e)) w.heap.size w.heap.size 5 [a, b, c, d, f] :=
 World.ownsRow_lit w #[iv a, iv b, iv c, iv d, iv f] 5 (Nat.le_refl _) (by simp [maxLen]) rfl
end

theorem nth5_0 {a b c d f : Int} : nth [a, b, c, d, f] 0 = a := rfl
theorem nth5_1 {a b c d f : Int} : nth [a, b, c, d, f] 1 = b := rfl
theorem nth5_2 {a b c d f : Int} : nth [a, b, c, d, f] 2 = c := rfl
theorem nth5_3 {a b c d f : Int} : nth [a, b, c, d, f] 3 = d := rfl
theorem nth5_4 {a b c d f : Int} : nth [a, b, c, d, f] 4 = f := rfl
theorem grownBy_of_below {w w' : World} (h : Below w.heap.size w w') (r : Option Nat) : w.grownBy w' r := ⟨h.os, h.tape, h.output, h.size, fun i hi _ => h.block i hi⟩
theorem bits_and {m j : Nat} (hm : m < 32) (hj : j < 5) : bits BinOp.and .i64 ((m : Int) / 2 ^ j) 1 = if m.testBit j then 1 else 0 := by
 have h : ∀ m : Fin 32, ∀ j : Fin 5, bits BinOp.and .i64 (((m : Nat) : Int) / 2 ^ (j : Nat)) 1 = if (m : Nat).testBit (j : Nat) then 1 else 0 := of_decide_eq_true (by kernel_rfl)
 exact h ⟨m, hm⟩ ⟨j, hj⟩
/-- A region that draws its order, and ends in one way. -/
theorem wp_one {P : Program} {c : Code} {Q : Exit → Act → World → Prop} {a a0 : Act} {w w0 : World} (h : c.wp P (fun e a v => e = .normal ∧ a = a0 ∧ v = w0) a w) (hq : Q .normal a0 w0) : c.wp P Q a w :=
 Code.wp_mono (fun _ _ _ ⟨h1, h2, h3⟩ => by rw [h1, h2, h3]; exact hq) h
structure Keep (S : Nat → Prop) (w w' : World) : Prop where
 os : w'.os = w.os
 tape : w'.tape = w.tape
 output : w'.output = w.output
 size : w.heap.size ≤ w'.heap.size
 block : ∀ k, k < w.heap.size → ¬ S k → w'.heap[k]? = w.heap[k]?
section
variable {S S' : Nat → Prop} {w w' w'' : World} {B : Nat}
theorem Keep.refl (S : Nat → Prop) (w : World) : Keep S w w := ⟨rfl, rfl, rfl, Nat.le_refl _, fun _ _ _ => rfl⟩
theorem Keep.trans (h : Keep S w w') (h' : Keep S w' w'') : Keep S w w'' :=
 ⟨h'.os.trans h.os, h'.tape.trans h.tape, h'.output.trans h.output, Nat.le_trans h.size h'.size, fun k hk hS => (h'.block k (Nat.lt_of_lt_of_le hk h.size) hS).trans (h.block k hk hS)⟩
theorem Keep.mono (h : Keep S w w') (hS : ∀ k, k < w.heap.size → S k → S' k) : Keep S' w w' := ⟨h.os, h.tape, h.output, h.size, fun k hk hn => h.block k hk (fun hs => hn (hS k hk hs))⟩
theorem Keep.of_below (h : Below B w w') : Keep (fun k => B ≤ k) w w' := ⟨h.os, h.tape, h.output, h.size, fun k _ hn => h.block k (by omega)⟩
theorem Keep.of_below' (h : Below w.heap.size w w') (S : Nat → Prop) : Keep S w w' := (Keep.of_below h).mono fun k hk hs => by omega
theorem Keep.of_grown {r : Option Nat} (h : w.grownBy w' r) : Keep (fun k => some k = r) w w' := ⟨h.os, h.tape, h.output, h.size, fun k hk hn => h.block k hk hn⟩
theorem Keep.below (h : Keep S w w') (hS : ∀ k, S k → B ≤ k) (hB : B ≤ w.heap.size) : Below B w w' := ⟨h.os, h.tape, h.output, h.size, fun k hk => h.block k (by omega) (fun hs => by have := hS k hs; omega)⟩
theorem Keep.cell (h : Keep S w w') {b o : Nat} (hb : b < w.heap.size) (hS : ¬ S b) : w'.cell? ⟨b, o, none⟩ = w.cell? ⟨b, o, none⟩ := World.cell?_of_block (h.block b hb hS)
theorem Keep.frozen (h : Keep S w w') {b o : Nat} (hb : b < w.heap.size) (hS : ¬ S b) : w'.frozen? ⟨b, o, none⟩ = w.frozen? ⟨b, o, none⟩ := World.frozen?_of_block (h.block b hb hS)
theorem Keep.setCell (w : World) (a : Addr) (v : Value) (S : Nat → Prop) (hS : S a.block) : Keep S w (w.setCell a v) :=
 ⟨rfl, rfl, rfl, by show w.heap.size ≤ (w.heap.modify _ _).size; rw [Array.size_modify]; exact Nat.le_refl _, fun k _ hn => Below.heap_setCell w a v k (fun e => hn (e ▸ hS))⟩
theorem Keep.trans' {w0 : World} (h : Keep S w0 w) (h' : Keep (fun k => w0.heap.size ≤ k) w w') (_ : w0.heap.size ≤ w.heap.size) : Keep S w0 w' :=
 ⟨h'.os.trans h.os, h'.tape.trans h.tape, h'.output.trans h.output, Nat.le_trans h.size h'.size, fun k hk hS => (h'.block k (Nat.lt_of_lt_of_le hk h.size) (by omega)).trans (h.block k hk hS)⟩
theorem Keep.alloc (w : World) (o : Obj) (S : Nat → Prop) : Keep S w (w.alloc o) := Keep.of_below' ((Below.refl _ _).alloc (Nat.le_refl _) _) S
end

theorem wp_ex {P : Program} {cd : Code} {Q : Exit → Act → World → Prop} {a : Act} {w : World} {A : Nat → Act} (R : Nat → World → Prop) (h : cd.wp P (fun e a' v => ∃ g, e = .normal ∧ a' = A g ∧ R g v) a w) (hq : ∀ g v, R g v → Q .normal (A g) v) : cd.wp P Q a w :=
 Code.wp_mono (fun _ _ _ ⟨g, h1, h2, h3⟩ => by rw [h1, h2]; exact hq g _ h3) h
theorem wp_post0 {P : Program} {cd : Code} {Q : Exit → Act → World → Prop} {a : Act} {w : World} (R : Act → Act → World → Prop) (h : cd.wp P (fun e a' v => e = .normal ∧ R a a' v) a w) (hq : ∀ a' v, R a a' v → Q .normal a' v) : cd.wp P Q a w :=
 Code.wp_mono (fun _ _ _ ⟨h1, h2⟩ => by rw [h1]; exact hq _ _ h2) h
/-- Block g holds just these cells, and may be written. -/
def Blk (w : World) (g : Nat) (T : TypeId) (vs : Array Value) : Prop := w.heap[g]? = some (.cells vs T (0, 0))
section
variable {w w' : World} {g : Nat} {T : TypeId} {vs : Array Value}
theorem Blk.lt (h : Blk w g T vs) : g < w.heap.size := (Array.getElem?_eq_some_iff.1 h).1
theorem Blk.at_ (h : Blk w g T vs) (j : Nat) : w.cell? ⟨g, j, none⟩ = vs[j]? := cell_of_row w g j vs T (0, 0) h
theorem Blk.free (h : Blk w g T vs) (j : Nat) : w.frozen? ⟨g, j, none⟩ = false := by
 have h1 : w.heap[g]? = some (.cells vs T (0, 0)) := h
 simp [World.frozen?, h1]
theorem Blk.made {vs : Array Value} : Blk (w.alloc (.cells vs T)) w.heap.size T vs := heap_alloc_new w _
theorem Blk.made' {g : Nat} (hg : w.heap.size = g) {vs : Array Value} : Blk (w.alloc (.cells vs T)) g T vs := by subst hg; exact heap_alloc_new w _
theorem Blk.block (h : Blk w g T vs) (hk : w'.heap[g]? = w.heap[g]?) : Blk w' g T vs := hk.trans h
theorem Blk.alloc (h : Blk w g T vs) (o : Obj) : Blk (w.alloc o) g T vs := h.block (Below.heap_alloc w o g h.lt)
theorem Blk.below {B : Nat} (h : Blk w g T vs) (hb : Below B w w') (hg : g < B) : Blk w' g T vs := h.block (hb.block g hg)
theorem Blk.next (h : Blk w g T vs) (hb : Below w.heap.size w w') : Blk w' g T vs := h.below hb h.lt
theorem Blk.store (h : Blk w g T vs) (j : Nat) (u : Value) : Blk (w.setCell ⟨g, j, none⟩ u) g T (vs.setIfInBounds j u) := by
 have h1 : w.heap[g]? = some (.cells vs T (0, 0)) := h
 show (w.setCell ⟨g, j, none⟩ u).heap[g]? = _
 simp [World.setCell, Array.getElem?_modify, h1]
theorem Blk.else_ (h : Blk w g T vs) {p : Addr} (hp : g ≠ p.block) (u : Value) : Blk (w.setCell p u) g T vs := h.block (Below.heap_setCell w p u g hp)
theorem Blk.keep {S : Nat → Prop} (h : Blk w g T vs) (hk : Keep S w w') (hS : ¬ S g) : Blk w' g T vs := h.block (hk.block g h.lt hS)
end
theorem own_kept {S : Nat → Prop} {w w' : World} {base e size m : Nat} {v : Value} {vs : List Value} (h : w.ownsRow base e size v m vs) (hk : Keep S w w') (hS : ∀ b, base ≤ b → ¬ S b) : w'.ownsRow base e size v m vs :=
 own_stab h (fun b hb e => hk.block b hb (hS b (h.lt b e).1))
/-- A row that a call owns, of values that a function says. -/
theorem row_fun {w : World} {base e size m c : Nat} {A : Option Addr} {f : Nat → Value} (h : w.ownsRow base e size (.slice A m c) m ((List.range (m * size)).map f)) : m ≤ c ∧ c ≤ maxLen ∧ Row w w.heap.size A (m * size) f := by
 obtain ⟨A', c', e, h1, h2, h3⟩ := row_own h
 simp only [Value.slice.injEq, true_and] at e
 obtain ⟨rfl, rfl⟩ := e
 refine ⟨h1, h2, fun hm => ?_⟩
 obtain ⟨b, off, e2, hb, hc⟩ := h3 hm
 refine ⟨b, off, e2, hb, fun j hj => ?_⟩
 rw [hc j hj]
 simp [hj]
theorem range4 (n : Nat) : List.range ((n + 1) * 4) = List.range (n * 4) ++ [n * 4, n * 4 + 1, n * 4 + 2, n * 4 + 3] := by
 rw [show (n + 1) * 4 = n * 4 + 1 + 1 + 1 + 1 by omega, List.range_succ, List.range_succ, List.range_succ, List.range_succ]
 simp
theorem range3 (n : Nat) : List.range ((n + 1) * 3) = List.range (n * 3) ++ [n * 3, n * 3 + 1, n * 3 + 2] := by
 rw [show (n + 1) * 3 = n * 3 + 1 + 1 + 1 by omega, List.range_succ, List.range_succ, List.range_succ]
 simp
theorem one4 (a b d e : Int) (j : Nat) (hj : j < 1 * 4) : (([Value.int .i64 a, .int .i64 b, .int .i64 d, .int .i64 e] : List Value).getD j undef).oneCell' = true := by
 match j, hj with
 | 0, _ => rfl
 | 1, _ => rfl
 | 2, _ => rfl
 | 3, _ => rfl
theorem one1 (a : Int) (j : Nat) (hj : j < 1 * 1) : (([Value.int .i64 a] : List Value).getD j undef).oneCell' = true := by
 obtain rfl : j = 0 := by omega
 rfl
theorem IntsS.row1 {w : World} {B n c : Nat} {A : Option Addr} {xs : List Int} (h : IntsS w B A n c xs) : Row w B A (n * 1) (intsF xs) := by rw [Nat.mul_one]; exact h.row
theorem ints_vals (xs : List Int) : (List.range (xs.length * 1)).map (intsF xs) = xs.map (Value.int .i64) := by
 rw [Nat.mul_one]
 apply List.ext_getElem (by simp)
 intro i h1 h2
 have h3 : i < xs.length := by simpa using h2
 simp [intsF, nth_eq h3]
theorem ints_snoc (xs : List Int) (x : Int) : xs.map (Value.int .i64) ++ (List.range (1 * 1)).map (fun j => ([Value.int .i64 x] : List Value).getD j undef) = (xs ++ [x]).map (Value.int .i64) := by
 rw [List.map_append]; rfl
theorem wpList_app_row {P : Program} {ops : Array Oper} {rest : List Oper} {o : Oper} {a : Act} {Q : Exit → Act → World → Prop} (w : World) (hgd : o.guard = none) (s x : Operand) (t : TypeId)
 (ho : o.op = .call { callee := .builtin .append, args := #[s, x], argTypes := #[t, t] }) (base : Nat) (e : TypeId) (i : TypeInfo) (z : Value) (size bytes : Nat) (ht : P.underlying t = some (.slice e)) (hi : P.info? e = some i) (hz : i.zero = some z)
 (hsize : i.size = size) (hby : i.bytes = bytes) (hzs : z.cells.size = size) (hsz : 0 < size) (v : Value) (n : Nat) (xs : List Value) (hs : a.eval s = v) (hown : w.ownsRow base e size v n xs)
 (A : Option Addr) (m c B : Nat) (f : Nat → Value) (hx : a.eval x = .slice A m c) (h : Row w B A (m * size) f) (h1 : ∀ j, j < m * size → (f j).oneCell' = true)
 (h63 : n + m ≤ maxLen) (hbytes : (n + m) * bytes ≤ 140737488355328) (hbase : base ≤ w.heap.size)
 (hk : ∀ v' w', w'.ownsRow base e size v' (n + m) (xs ++ (List.range (m * size)).map f) → w.grownBy w' v.ownBlock → (v'.ownBlock = v.ownBlock ∨ v'.ownBlock = some w.heap.size) → wpList P ops Q rest (a.put o.dst v') w') : wpList P ops Q (o :: rest) a w := by
 obtain ⟨v', w', hrun, h2, h3, h4⟩ := run_app_row w base t o.type e i z size bytes ht hi hz hsize hby hzs hsz hown h h1 h63 hbytes hbase
 refine wpList_plain hgd fun K hK => ?_
 unfold Oper.wp execOp
 simp only [ho, resolve, invoke, builtin, Sem.run_bind, Sem.run_pure, Result.andThen_ok, List.map_toArray, List.map_cons, List.map_nil, hs, hx]
 rw [hrun]
 exact hK _ _ (hk v' w' h2 h3 h4)
theorem own_set {w : World} {base g n cap : Nat} {T : TypeId} {size : Nat} {vs : List Value} (h : w.ownsRow base T size (.slice (some ⟨g, 0, none⟩) n cap) n vs) (i : Nat) (u : Value) : (w.setCell ⟨g, i, none⟩ u).ownsRow base T size (.slice (some ⟨g, 0, none⟩) n cap) n (vs.set i u) :=
 (World.ownsRow.stored h i u).1
theorem own_addr {w : World} {base n cap : Nat} {T : TypeId} {size : Nat} {A : Option Addr} {vs : List Value} (h : w.ownsRow base T size (.slice A n cap) n vs) (hn : 0 < n) : ∃ g, A = some ⟨g, 0, none⟩ ∧ base ≤ g ∧ g < w.heap.size := by
 rcases h.2 with ⟨e, h0⟩ | ⟨g, cap', cur, e, hb, hg, _⟩
 · omega
 · simp only [Value.slice.injEq] at e
   exact ⟨g, e.1, hb, (Array.getElem?_eq_some_iff.1 hg).1⟩
end Go.Proofs.YtkaahiddngmdbaaGreatDoor
/- Ranges over functions whose iterator keeps state; rounds; how a function leaves that has ranged over functions. -/
namespace Go.Proofs.YtkaahiddngmdbaaGreatDoor
open Go.RowKit

theorem Keep.putObj {W : World} (l : Nat) (o : Obj) (S : Nat → Prop) (h : S l) : Keep S W (W.putObj l o) :=
 ⟨rfl, rfl, rfl, by simp, fun k _ hk => World.putObj_heap_other (fun e => hk (e ▸ h))⟩

/-- How the body of a round is left. -/
def RPost {α : Type} (C : Nat → Prop) (M : World → Prop) (I : List α → World → Prop) (Ix : Code → List α → World → Prop) (xs : List α) (W : World) : Exit → Act → World → Prop
 | .normal, _, W' => Keep C W W' ∧ M W' ∧ I xs W'
 | .ret, _, W' => Keep C W W' ∧ M W' ∧ Ix .ret xs W'
 | .exit id, _, W' => Keep C W W' ∧ M W' ∧ Ix (.exit id) xs W'
 | .goto t, _, W' => Keep C W W' ∧ M W' ∧ Ix (.goto t) xs W'
 | .panic _, _, _ => False
 | .outgrown, _, _ => False

/-- What an iterator promises, when it is called in a world grown out of w: all of T comes, in order, or a round says 'no more'. -/
def IterOk {α : Type} (P : Program) (gf : Nat) (lb : Array Value) (enc : α → Value) (C Sb : Nat → Prop) (M : World → Prop) (T : List α) (w : World) : Prop :=
 ∀ (l : Nat) (C' : Nat → Prop) (J Jx : List α → World → Prop) (W : World), Below w.heap.size w W → w.heap.size ≤ l → l < W.heap.size → (∀ k, C' k → C k ∨ k = l) →
  (∀ pre V V', J pre V → Keep (fun k => Sb k ∨ W.heap.size ≤ k) V V' → M V' → J pre V') →
  (∀ pre x W1, x ∈ T → J pre W1 → M W1 → YieldAt Fence.wide 0 P l #[enc x] W1 fun e W' =>
   Keep C' W1 W' ∧ M W' ∧ ((e = .returned (.bool true) ∧ J (pre ++ [x]) W') ∨ (e = .returned (.bool false) ∧ Jx (pre ++ [x]) W'))) →
  M W → J [] W →
  Calls P gf (#[.func (.yield l) #[] #[]] ++ lb) W fun e W' => (∃ v, e = .returned v) ∧ M W' ∧ Keep (fun k => Sb k ∨ C' k) W W' ∧ (J T W' ∨ ∃ q, q ≠ [] ∧ q <+: T ∧ Jx q W')

theorem wpIn_one {F : Fence} {n : Nat} {P : Program} {cd : Code} {Q : Exit → Act → World → Prop} {a a0 : Act} {w w0 : World} (h : cd.wpIn F n P (fun e a v => e = .normal ∧ a = a0 ∧ v = w0) a w) (hq : Q .normal a0 w0) : cd.wpIn F n P Q a w :=
 wpIn_mono h fun _ _ _ ⟨h1, h2, h3⟩ => by rw [h1, h2, h3]; exact hq

theorem wp_range {α : Type} {P : Program} {g : Operand} {ps : Array Tmp} {assign body : Code} {Q : Exit → Act → World → Prop} {a : Act} {w : World} {gf : Nat} {lb : Array Value} {enc : α → Value} {C Sb : Nat → Prop} {M : World → Prop} {T : List α}
 (hg : a.eval g = .func (.func gf) #[] lb) (eg : ∀ args w, (callFunc gf args).run P w = .ok (.enter gf args) w) (hps : ps.size = 1) (hit : IterOk P gf lb enc C Sb M T w)
 (hC : ∀ k, C k → k < w.heap.size) (hSb : ∀ k, Sb k → k < w.heap.size) (hM : ∀ V V', M V → Keep (fun k => w.heap.size ≤ k) V V' → M V')
 (I : List α → World → Prop) (Ix : Code → List α → World → Prop) (hI : ∀ pre V V', I pre V → Keep (fun k => Sb k ∨ w.heap.size ≤ k) V V' → M V' → I pre V') (hIx : ∀ cd pre V V', Ix cd pre V → Keep (fun k => k = w.heap.size + 1) V V' → Ix cd pre V')
 (hM0 : M w) (h0 : I [] w)
 (hbody : ∀ l pre x W1, l = w.heap.size + 1 → x ∈ T → I pre W1 → M W1 → l < W1.heap.size →
  assign.wpIn (Fence.wide.inRound l) 0 P (Exit.then (fun a₁ W2 => Keep C W1 W2 ∧ M W2 ∧ ∀ W3, Keep (fun k => k = l) W2 W3 → body.wpIn (Fence.wide.inRound l) 0 P (RPost C M I Ix (pre ++ [x]) W3) a₁ W3) (fun _ _ _ => False))
   { tmps := (ps.zip #[enc x]).foldl (fun t (p, v) => t.setIfInBounds p v) a.tmps, defers := [] } W1)
 (hdone : ∀ D W', w.heap.size ≤ D → I T W' → M W' → Keep (fun k => Sb k ∨ C k) w W' → W'.heap[D]? = some (.deferred (some [])) → Q .normal { a with defers := { target := .collected D, args := #[] } :: a.defers } W')
 (hstop : ∀ D cd q W', w.heap.size ≤ D → q ≠ [] → q <+: T → Ix cd q W' → M W' → Keep (fun k => Sb k ∨ C k) w W' → W'.heap[D]? = some (.deferred (some [])) → cd.wpIn Fence.wide 0 P Q { a with defers := { target := .collected D, args := #[] } :: a.defers } W') :
 (Code.rangeFunc g ps assign body).wp P Q a w := by
 refine (wpIn_wide (n := 0)).1 (wpIn_rangeFunc ?_)
 intro fn hfn
 obtain ⟨rec, hrec⟩ : ∃ rec : LoopState → Option Code → Loop, rec = fun st pe => { state := st, pending := pe, fn, tmps := a.tmps, params := ps, assign, body, defers := w.heap.size } := ⟨_, rfl⟩
 obtain ⟨W1, hW1⟩ : ∃ W1, (w.alloc (.deferred (some []))).alloc (.loop (rec .ready none)) = W1 := ⟨_, rfl⟩
 have hL1 : W1.heap[w.heap.size + 1]? = some (.loop (rec .ready none)) := by
  rw [← hW1]; have := World.alloc_heap_new (w.alloc (.deferred (some []))) (.loop (rec .ready none)); rwa [World.size_alloc] at this
 have hK1 : W1.heap[w.heap.size]? = some (.deferred (some [])) := by
  rw [← hW1]; exact (Below.heap_alloc _ _ _ (by simp)).trans (World.alloc_heap_new w _)
 have hB1 : Below w.heap.size w W1 := by
  rw [← hW1]; exact (((Below.refl _ w).alloc (Nat.le_refl _) _).alloc (by simp) _)
 have hz1 : W1.heap.size = w.heap.size + 1 + 1 := by rw [← hW1]; simp
 have hM1 : M W1 := hM w W1 hM0 (Keep.of_below' hB1 _)
 have hI1 : I [] W1 := hI [] w W1 h0 (Keep.of_below' hB1 _) hM1
 refine ⟨w.heap.size + 1, [{ target := .collected w.heap.size, args := #[] }], W1, { target := .fn (.func gf) lb, args := #[.func (.yield (w.heap.size + 1)) #[] #[]] }, W1, gf,
  #[.func (.yield (w.heap.size + 1)) #[] #[]] ++ lb, W1, ?_, ?_, fun _ _ => trivial, ?_, (fun h => by cases h), ?_⟩
 · rw [← hW1, hrec]; exact run_enterLoop_outer _ _ _ _ _
 · simp only [resolve, hg]
   simp [go_sem]
 · simp [invoke, go_sem, eg]
 · refine callsIn_wide.2 ((hit (w.heap.size + 1) (fun k => C k ∨ k = w.heap.size + 1)
    (fun pre W => I pre W ∧ w.heap.size ≤ W.heap.size ∧ W.heap[w.heap.size + 1]? = some (.loop (rec .ready none)) ∧ W.heap[w.heap.size]? = some (.deferred (some [])))
    (fun pre W => ∃ cd, Ix cd pre W ∧ W.heap[w.heap.size + 1]? = some (.loop (rec .done (some cd))) ∧ W.heap[w.heap.size]? = some (.deferred (some [])))
    W1 hB1 (by omega) (by omega) (fun _ h => h) ?_ ?_ hM1 ⟨hI1, by omega, hL1, hK1⟩).mono ?_)
   · rintro pre V V' ⟨h1, hz, h2, h3⟩ hk hm
     have hlt2 := (Array.getElem?_eq_some_iff.1 h2).1
     have hlt3 := (Array.getElem?_eq_some_iff.1 h3).1
     have hn2 : ¬ (Sb (w.heap.size + 1) ∨ W1.heap.size ≤ w.heap.size + 1) := by
      rintro (h | h)
      · have := hSb _ h; omega
      · omega
     have hn3 : ¬ (Sb w.heap.size ∨ W1.heap.size ≤ w.heap.size) := by
      rintro (h | h)
      · have := hSb _ h; omega
      · omega
     exact ⟨hI pre V V' h1 (hk.mono (fun k _ h => h.imp id (fun h => by omega))) hm, Nat.le_trans hz hk.size, (hk.block _ hlt2 hn2).trans h2, (hk.block _ hlt3 hn3).trans h3⟩
   · -- ONE ROUND
     rintro pre x W hx ⟨hi, hz, hl, hk⟩ hm
     have hlt : w.heap.size + 1 < W.heap.size := (Array.getElem?_eq_some_iff.1 hl).1
     have hy := run_yield (P := P) (args := #[enc x]) hl (by rw [hrec]; simp [hps])
     rw [hrec] at hy
     refine ⟨fn, _, assign, body, hy, roundIn_of_wpIn hfn (wpIn_mono (hbody (w.heap.size + 1) pre x W rfl hx hi hm hlt) ?_)⟩
     clear hy
     intro e a₁ W2 h2
     cases e with
     | normal =>
      obtain ⟨hk2, hm2, hb2⟩ := h2
      have hnl : ¬ C (w.heap.size + 1) := fun h => by have := hC _ h; omega
      have hnd : ¬ C w.heap.size := fun h => by have := hC _ h; omega
      have hl2 := (hk2.block _ hlt hnl).trans hl
      have hd2 := (hk2.block _ (by omega) hnd).trans hk
      have hlt2 : w.heap.size + 1 < W2.heap.size := (Array.getElem?_eq_some_iff.1 hl2).1
      refine ⟨_, run_beginRound hl2 (by rw [hrec]), ?_⟩
      have hkb : Keep (fun k => k = w.heap.size + 1) W2 (W2.putObj (w.heap.size + 1) (.loop { rec .ready none with state := .busy })) := Keep.putObj _ _ _ rfl
      have hl3 : (W2.putObj (w.heap.size + 1) (.loop { rec .ready none with state := .busy })).heap[w.heap.size + 1]? = some (.loop { rec .ready none with state := .busy }) := World.putObj_heap_same hlt2
      have hd3 : (W2.putObj (w.heap.size + 1) (.loop { rec .ready none with state := .busy })).heap[w.heap.size]? = some (.deferred (some [])) := (World.putObj_heap_other (by omega)).trans hd2
      have hz3 : w.heap.size + 1 < (W2.putObj (w.heap.size + 1) (.loop { rec .ready none with state := .busy })).heap.size := (Array.getElem?_eq_some_iff.1 hl3).1
      have hbd := hb2 _ hkb
      generalize (W2.putObj (w.heap.size + 1) (.loop { rec .ready none with state := .busy })) = W3 at *
      have hall : Keep (fun k => C k ∨ k = w.heap.size + 1) W W3 := (hk2.mono (fun k _ h => .inl h)).trans (hkb.mono (fun k _ h => .inr h))
      refine wpIn_mono hbd ?_
      have fin : ∀ (jump : Option Code) (W4 : World), Keep C W3 W4 →
       (Instr.endRound (w.heap.size + 1) jump).run P W4 = .ok (.bool jump.isNone) (W4.putObj (w.heap.size + 1) (.loop (rec (if jump.isNone then .ready else .done) jump))) ∧
       (W4.putObj (w.heap.size + 1) (.loop (rec (if jump.isNone then .ready else .done) jump))).heap[w.heap.size + 1]? = some (.loop (rec (if jump.isNone then .ready else .done) jump)) ∧
       (W4.putObj (w.heap.size + 1) (.loop (rec (if jump.isNone then .ready else .done) jump))).heap[w.heap.size]? = some (.deferred (some [])) ∧
       Keep (fun k => C k ∨ k = w.heap.size + 1) W (W4.putObj (w.heap.size + 1) (.loop (rec (if jump.isNone then .ready else .done) jump))) := fun jump W4 hk4 => by
       have hl4 := (hk4.block _ hz3 hnl).trans hl3
       have hd4 := (hk4.block _ (by omega) hnd).trans hd3
       have hr := run_endRound (P := P) jump hl4
       have hr' : (Instr.endRound (w.heap.size + 1) jump).run P W4 = .ok (.bool jump.isNone) (W4.putObj (w.heap.size + 1) (.loop (rec (if jump.isNone then .ready else .done) jump))) := by rw [hr, hrec]
       exact ⟨hr', World.putObj_heap_same (Array.getElem?_eq_some_iff.1 hl4).1, (World.putObj_heap_other (by omega)).trans hd4, hall.trans ((hk4.mono (fun k _ h => .inl h)).trans (Keep.putObj _ _ _ (.inr rfl)))⟩
      have hpk : ∀ (W4 : World) (o : Obj), Keep (fun k => w.heap.size ≤ k) W4 (W4.putObj (w.heap.size + 1) o) := fun W4 o => Keep.putObj _ _ _ (by omega)
      have hpx : ∀ (W4 : World) (o : Obj), Keep (fun k => k = w.heap.size + 1) W4 (W4.putObj (w.heap.size + 1) o) := fun W4 o => Keep.putObj _ _ _ rfl
      rintro e a3 W4 hp
      cases e with
      | normal =>
       obtain ⟨hk4, hm4, hi4⟩ := hp
       obtain ⟨hr, hl5, hd5, hk5⟩ := fin none W4 hk4
       have hm5 := hM _ _ hm4 (hpk W4 (.loop (rec .ready none)))
       exact ⟨_, _, hr, hk5, hm5, .inl ⟨rfl, hI _ _ _ hi4 ((hpk W4 _).mono (fun k _ h => .inr h)) hm5, by have := hk5.size; omega, hl5, hd5⟩⟩
      | ret =>
       obtain ⟨hk4, hm4, hi4⟩ := hp
       obtain ⟨hr, hl5, hd5, hk5⟩ := fin (some .ret) W4 hk4
       exact ⟨_, _, hr, hk5, hM _ _ hm4 (hpk W4 _), .inr ⟨rfl, .ret, hIx _ _ _ _ hi4 (hpx W4 _), hl5, hd5⟩⟩
      | exit id =>
       obtain ⟨hk4, hm4, hi4⟩ := hp
       obtain ⟨hr, hl5, hd5, hk5⟩ := fin (some (.exit id)) W4 hk4
       exact ⟨_, _, hr, hk5, hM _ _ hm4 (hpk W4 _), .inr ⟨rfl, .exit id, hIx _ _ _ _ hi4 (hpx W4 _), hl5, hd5⟩⟩
      | goto t =>
       obtain ⟨hk4, hm4, hi4⟩ := hp
       obtain ⟨hr, hl5, hd5, hk5⟩ := fin (some (.goto t)) W4 hk4
       exact ⟨_, _, hr, hk5, hM _ _ hm4 (hpk W4 _), .inr ⟨rfl, .goto t, hIx _ _ _ _ hi4 (hpx W4 _), hl5, hd5⟩⟩
      | panic ch => exact hp.elim
      | outgrown => exact hp.elim
     | ret => exact h2.elim
     | exit id => exact h2.elim
     | goto t => exact h2.elim
     | panic ch => exact h2.elim
     | outgrown => exact h2.elim
   · -- BEHIND THE ITERATOR
     have hpk : ∀ (W4 : World) (o : Obj), Keep (fun k => w.heap.size ≤ k) W4 (W4.putObj (w.heap.size + 1) o) := fun W4 o => Keep.putObj _ _ _ (by omega)
     have hpx : ∀ (W4 : World) (o : Obj), Keep (fun k => k = w.heap.size + 1) W4 (W4.putObj (w.heap.size + 1) o) := fun W4 o => Keep.putObj _ _ _ rfl
     have hkk : ∀ (W2 : World) (o : Obj), Keep (fun k => Sb k ∨ (C k ∨ k = w.heap.size + 1)) W1 W2 → Keep (fun k => Sb k ∨ C k) w (W2.putObj (w.heap.size + 1) o) := fun W2 o hk =>
      (((Keep.of_below' hB1 (fun k => Sb k ∨ (C k ∨ k = w.heap.size + 1))).trans hk).trans (Keep.putObj _ _ _ (.inr (.inr rfl)))).mono (fun k hk h => by
       rcases h with h | h | h
       · exact .inl h
       · exact .inr h
       · omega)
     rintro e W2 ⟨⟨v, rfl⟩, hm, hkw, (⟨hi, hz, hl, hd⟩ | ⟨q, hq0, hqp, cd, hi, hl, hd⟩)⟩
     · have hm5 := fun o => hM _ _ hm (hpk W2 o)
       exact ⟨none, _, by have := run_endLoop (P := P) hl (by rw [hrec]; simp); rw [hrec] at this; exact this, hdone _ _ (Nat.le_refl _) (hI _ _ _ hi ((hpk W2 _).mono (fun k _ h => .inr h)) (hm5 _)) (hm5 _) (hkk W2 _ hkw) ((World.putObj_heap_other (by omega)).trans hd)⟩
     · exact ⟨some cd, _, by have := run_endLoop (P := P) hl (by rw [hrec]; simp); rw [hrec] at this; exact this, hstop _ cd q _ (Nat.le_refl _) hq0 hqp (hIx _ _ _ _ hi (hpx W2 _)) (hM _ _ hm (hpk W2 _)) (hkk W2 _ hkw) ((World.putObj_heap_other (by omega)).trans hd)⟩
/-- The same of an iterator that turns nothing itself, when it is called in a world grown out of w: all of T comes, in order, or a round says 'no more'. -/
def IterStill {α : Type} (P : Program) (gf : Nat) (lb : Array Value) (enc : α → Value) (C : Nat → Prop) (M : World → Prop) (T : List α) (w : World) : Prop :=
 ∀ (l : Nat) (C' : Nat → Prop) (J Jx : List α → World → Prop) (W : World), Below w.heap.size w W → w.heap.size ≤ l → l < W.heap.size → (∀ k, C' k → C k ∨ k = l) →
  (∀ pre V V', J pre V → Keep (fun _ => False) V V' → M V' → J pre V') →
  (∀ pre x W1, pre ++ [x] <+: T → J pre W1 → M W1 → YieldAt Fence.wide 0 P l #[enc x] W1 fun e W' =>
   Keep C' W1 W' ∧ M W' ∧ ((e = .returned (.bool true) ∧ J (pre ++ [x]) W') ∨ (e = .returned (.bool false) ∧ Jx (pre ++ [x]) W'))) →
  M W → J [] W →
  Calls P gf (#[.func (.yield l) #[] #[]] ++ lb) W fun e W' => (∃ v, e = .returned v) ∧ M W' ∧ Keep C' W W' ∧ (J T W' ∨ ∃ q, q ≠ [] ∧ q <+: T ∧ Jx q W')

theorem wp_range_still {α : Type} {P : Program} {g : Operand} {ps : Array Tmp} {assign body : Code} {Q : Exit → Act → World → Prop} {a : Act} {w : World} {gf : Nat} {lb : Array Value} {enc : α → Value} {C : Nat → Prop} {M : World → Prop} {T : List α}
 (hg : a.eval g = .func (.func gf) #[] lb) (eg : ∀ args w, (callFunc gf args).run P w = .ok (.enter gf args) w) (hps : ps.size = 1) (hit : IterStill P gf lb enc C M T w)
 (hC : ∀ k, C k → k ≠ w.heap.size ∧ k ≠ w.heap.size + 1) (hM : ∀ V V', M V → Keep (fun k => w.heap.size ≤ k) V V' → M V')
 (I : List α → World → Prop) (Ix : Code → List α → World → Prop) (hI : ∀ pre V V', I pre V → Keep (fun k => k = w.heap.size ∨ k = w.heap.size + 1) V V' → M V' → I pre V') (hIx : ∀ cd pre V V', Ix cd pre V → Keep (fun k => k = w.heap.size + 1) V V' → Ix cd pre V')
 (hM0 : M w) (h0 : I [] w)
 (hbody : ∀ l pre x W1, l = w.heap.size + 1 → pre ++ [x] <+: T → I pre W1 → M W1 → l < W1.heap.size →
  assign.wpIn (Fence.wide.inRound l) 0 P (Exit.then (fun a₁ W2 => Keep C W1 W2 ∧ M W2 ∧ ∀ W3, Keep (fun k => k = l) W2 W3 → body.wpIn (Fence.wide.inRound l) 0 P (RPost C M I Ix (pre ++ [x]) W3) a₁ W3) (fun _ _ _ => False))
   { tmps := (ps.zip #[enc x]).foldl (fun t (p, v) => t.setIfInBounds p v) a.tmps, defers := [] } W1)
 (hdone : ∀ D W', w.heap.size ≤ D → I T W' → M W' → Keep C w W' → W'.heap[D]? = some (.deferred (some [])) → Q .normal { a with defers := { target := .collected D, args := #[] } :: a.defers } W')
 (hstop : ∀ D cd q W', w.heap.size ≤ D → q ≠ [] → q <+: T → Ix cd q W' → M W' → Keep C w W' → W'.heap[D]? = some (.deferred (some [])) → cd.wpIn Fence.wide 0 P Q { a with defers := { target := .collected D, args := #[] } :: a.defers } W') :
 (Code.rangeFunc g ps assign body).wp P Q a w := by
 refine (wpIn_wide (n := 0)).1 (wpIn_rangeFunc ?_)
 intro fn hfn
 obtain ⟨rec, hrec⟩ : ∃ rec : LoopState → Option Code → Loop, rec = fun st pe => { state := st, pending := pe, fn, tmps := a.tmps, params := ps, assign, body, defers := w.heap.size } := ⟨_, rfl⟩
 obtain ⟨W1, hW1⟩ : ∃ W1, (w.alloc (.deferred (some []))).alloc (.loop (rec .ready none)) = W1 := ⟨_, rfl⟩
 have hL1 : W1.heap[w.heap.size + 1]? = some (.loop (rec .ready none)) := by
  rw [← hW1]; have := World.alloc_heap_new (w.alloc (.deferred (some []))) (.loop (rec .ready none)); rwa [World.size_alloc] at this
 have hK1 : W1.heap[w.heap.size]? = some (.deferred (some [])) := by
  rw [← hW1]; exact (Below.heap_alloc _ _ _ (by simp)).trans (World.alloc_heap_new w _)
 have hB1 : Below w.heap.size w W1 := by
  rw [← hW1]; exact (((Below.refl _ w).alloc (Nat.le_refl _) _).alloc (by simp) _)
 have hz1 : W1.heap.size = w.heap.size + 1 + 1 := by rw [← hW1]; simp
 have hM1 : M W1 := hM w W1 hM0 (Keep.of_below' hB1 _)
 have hI1 : I [] W1 := hI [] w W1 h0 (Keep.of_below' hB1 _) hM1
 refine ⟨w.heap.size + 1, [{ target := .collected w.heap.size, args := #[] }], W1, { target := .fn (.func gf) lb, args := #[.func (.yield (w.heap.size + 1)) #[] #[]] }, W1, gf,
  #[.func (.yield (w.heap.size + 1)) #[] #[]] ++ lb, W1, ?_, ?_, fun _ _ => trivial, ?_, (fun h => by cases h), ?_⟩
 · rw [← hW1, hrec]; exact run_enterLoop_outer _ _ _ _ _
 · simp only [resolve, hg]
   simp [go_sem]
 · simp [invoke, go_sem, eg]
 · refine callsIn_wide.2 ((hit (w.heap.size + 1) (fun k => C k ∨ k = w.heap.size + 1)
    (fun pre W => I pre W ∧ w.heap.size ≤ W.heap.size ∧ W.heap[w.heap.size + 1]? = some (.loop (rec .ready none)) ∧ W.heap[w.heap.size]? = some (.deferred (some [])))
    (fun pre W => ∃ cd, Ix cd pre W ∧ W.heap[w.heap.size + 1]? = some (.loop (rec .done (some cd))) ∧ W.heap[w.heap.size]? = some (.deferred (some [])))
    W1 hB1 (by omega) (by omega) (fun _ h => h) ?_ ?_ hM1 ⟨hI1, by omega, hL1, hK1⟩).mono ?_)
   · rintro pre V V' ⟨h1, hz, h2, h3⟩ hk hm
     have hlt2 := (Array.getElem?_eq_some_iff.1 h2).1
     have hlt3 := (Array.getElem?_eq_some_iff.1 h3).1
     exact ⟨hI pre V V' h1 (hk.mono (fun k _ h => h.elim)) hm, Nat.le_trans hz hk.size, (hk.block _ hlt2 (fun h => h)).trans h2, (hk.block _ hlt3 (fun h => h)).trans h3⟩
   · -- ONE ROUND
     rintro pre x W hx ⟨hi, hz, hl, hk⟩ hm
     have hlt : w.heap.size + 1 < W.heap.size := (Array.getElem?_eq_some_iff.1 hl).1
     have hy := run_yield (P := P) (args := #[enc x]) hl (by rw [hrec]; simp [hps])
     rw [hrec] at hy
     refine ⟨fn, _, assign, body, hy, roundIn_of_wpIn hfn (wpIn_mono (hbody (w.heap.size + 1) pre x W rfl hx hi hm hlt) ?_)⟩
     clear hy
     intro e a₁ W2 h2
     cases e with
     | normal =>
      obtain ⟨hk2, hm2, hb2⟩ := h2
      have hnl : ¬ C (w.heap.size + 1) := fun h => by have := hC _ h; omega
      have hnd : ¬ C w.heap.size := fun h => by have := hC _ h; omega
      have hl2 := (hk2.block _ hlt hnl).trans hl
      have hd2 := (hk2.block _ (by omega) hnd).trans hk
      have hlt2 : w.heap.size + 1 < W2.heap.size := (Array.getElem?_eq_some_iff.1 hl2).1
      refine ⟨_, run_beginRound hl2 (by rw [hrec]), ?_⟩
      have hkb : Keep (fun k => k = w.heap.size + 1) W2 (W2.putObj (w.heap.size + 1) (.loop { rec .ready none with state := .busy })) := Keep.putObj _ _ _ rfl
      have hl3 : (W2.putObj (w.heap.size + 1) (.loop { rec .ready none with state := .busy })).heap[w.heap.size + 1]? = some (.loop { rec .ready none with state := .busy }) := World.putObj_heap_same hlt2
      have hd3 : (W2.putObj (w.heap.size + 1) (.loop { rec .ready none with state := .busy })).heap[w.heap.size]? = some (.deferred (some [])) := (World.putObj_heap_other (by omega)).trans hd2
      have hz3 : w.heap.size + 1 < (W2.putObj (w.heap.size + 1) (.loop { rec .ready none with state := .busy })).heap.size := (Array.getElem?_eq_some_iff.1 hl3).1
      have hbd := hb2 _ hkb
      generalize (W2.putObj (w.heap.size + 1) (.loop { rec .ready none with state := .busy })) = W3 at *
      have hall : Keep (fun k => C k ∨ k = w.heap.size + 1) W W3 := (hk2.mono (fun k _ h => .inl h)).trans (hkb.mono (fun k _ h => .inr h))
      refine wpIn_mono hbd ?_
      have fin : ∀ (jump : Option Code) (W4 : World), Keep C W3 W4 →
       (Instr.endRound (w.heap.size + 1) jump).run P W4 = .ok (.bool jump.isNone) (W4.putObj (w.heap.size + 1) (.loop (rec (if jump.isNone then .ready else .done) jump))) ∧
       (W4.putObj (w.heap.size + 1) (.loop (rec (if jump.isNone then .ready else .done) jump))).heap[w.heap.size + 1]? = some (.loop (rec (if jump.isNone then .ready else .done) jump)) ∧
       (W4.putObj (w.heap.size + 1) (.loop (rec (if jump.isNone then .ready else .done) jump))).heap[w.heap.size]? = some (.deferred (some [])) ∧
       Keep (fun k => C k ∨ k = w.heap.size + 1) W (W4.putObj (w.heap.size + 1) (.loop (rec (if jump.isNone then .ready else .done) jump))) := fun jump W4 hk4 => by
       have hl4 := (hk4.block _ hz3 hnl).trans hl3
       have hd4 := (hk4.block _ (by omega) hnd).trans hd3
       have hr := run_endRound (P := P) jump hl4
       have hr' : (Instr.endRound (w.heap.size + 1) jump).run P W4 = .ok (.bool jump.isNone) (W4.putObj (w.heap.size + 1) (.loop (rec (if jump.isNone then .ready else .done) jump))) := by rw [hr, hrec]
       exact ⟨hr', World.putObj_heap_same (Array.getElem?_eq_some_iff.1 hl4).1, (World.putObj_heap_other (by omega)).trans hd4, hall.trans ((hk4.mono (fun k _ h => .inl h)).trans (Keep.putObj _ _ _ (.inr rfl)))⟩
      have hpk : ∀ (W4 : World) (o : Obj), Keep (fun k => w.heap.size ≤ k) W4 (W4.putObj (w.heap.size + 1) o) := fun W4 o => Keep.putObj _ _ _ (by omega)
      have hpx : ∀ (W4 : World) (o : Obj), Keep (fun k => k = w.heap.size + 1) W4 (W4.putObj (w.heap.size + 1) o) := fun W4 o => Keep.putObj _ _ _ rfl
      rintro e a3 W4 hp
      cases e with
      | normal =>
       obtain ⟨hk4, hm4, hi4⟩ := hp
       obtain ⟨hr, hl5, hd5, hk5⟩ := fin none W4 hk4
       have hm5 := hM _ _ hm4 (hpk W4 (.loop (rec .ready none)))
       exact ⟨_, _, hr, hk5, hm5, .inl ⟨rfl, hI _ _ _ hi4 (Keep.putObj _ _ _ (.inr rfl)) hm5, by have := hk5.size; omega, hl5, hd5⟩⟩
      | ret =>
       obtain ⟨hk4, hm4, hi4⟩ := hp
       obtain ⟨hr, hl5, hd5, hk5⟩ := fin (some .ret) W4 hk4
       exact ⟨_, _, hr, hk5, hM _ _ hm4 (hpk W4 _), .inr ⟨rfl, .ret, hIx _ _ _ _ hi4 (hpx W4 _), hl5, hd5⟩⟩
      | exit id =>
       obtain ⟨hk4, hm4, hi4⟩ := hp
       obtain ⟨hr, hl5, hd5, hk5⟩ := fin (some (.exit id)) W4 hk4
       exact ⟨_, _, hr, hk5, hM _ _ hm4 (hpk W4 _), .inr ⟨rfl, .exit id, hIx _ _ _ _ hi4 (hpx W4 _), hl5, hd5⟩⟩
      | goto t =>
       obtain ⟨hk4, hm4, hi4⟩ := hp
       obtain ⟨hr, hl5, hd5, hk5⟩ := fin (some (.goto t)) W4 hk4
       exact ⟨_, _, hr, hk5, hM _ _ hm4 (hpk W4 _), .inr ⟨rfl, .goto t, hIx _ _ _ _ hi4 (hpx W4 _), hl5, hd5⟩⟩
      | panic ch => exact hp.elim
      | outgrown => exact hp.elim
     | ret => exact h2.elim
     | exit id => exact h2.elim
     | goto t => exact h2.elim
     | panic ch => exact h2.elim
     | outgrown => exact h2.elim
   · -- BEHIND THE ITERATOR
     have hpk : ∀ (W4 : World) (o : Obj), Keep (fun k => w.heap.size ≤ k) W4 (W4.putObj (w.heap.size + 1) o) := fun W4 o => Keep.putObj _ _ _ (by omega)
     have hpx : ∀ (W4 : World) (o : Obj), Keep (fun k => k = w.heap.size + 1) W4 (W4.putObj (w.heap.size + 1) o) := fun W4 o => Keep.putObj _ _ _ rfl
     have hkk : ∀ (W2 : World) (o : Obj), Keep (fun k => C k ∨ k = w.heap.size + 1) W1 W2 → Keep C w (W2.putObj (w.heap.size + 1) o) := fun W2 o hk =>
      (((Keep.of_below' hB1 (fun k => C k ∨ k = w.heap.size + 1)).trans hk).trans (Keep.putObj _ _ _ (.inr rfl))).mono (fun k hk h => by
       rcases h with h | h
       · exact h
       · omega)
     rintro e W2 ⟨⟨v, rfl⟩, hm, hkw, (⟨hi, hz, hl, hd⟩ | ⟨q, hq0, hqp, cd, hi, hl, hd⟩)⟩
     · have hm5 := fun o => hM _ _ hm (hpk W2 o)
       exact ⟨none, _, by have := run_endLoop (P := P) hl (by rw [hrec]; simp); rw [hrec] at this; exact this, hdone _ _ (Nat.le_refl _) (hI _ _ _ hi (Keep.putObj _ _ _ (.inr rfl)) (hm5 _)) (hm5 _) (hkk W2 _ hkw) ((World.putObj_heap_other (by omega)).trans hd)⟩
     · exact ⟨some cd, _, by have := run_endLoop (P := P) hl (by rw [hrec]; simp); rw [hrec] at this; exact this, hstop _ cd q _ (Nat.le_refl _) hq0 hqp (hIx _ _ _ _ hi (hpx W2 _)) (hM _ _ hm (hpk W2 _)) (hkk W2 _ hkw) ((World.putObj_heap_other (by omega)).trans hd)⟩
section
variable {P : Program} {ops : Array Oper} {Q : Exit → Act → World → Prop} {md : Region.Mode} {l : Nat}
def noDefer (ops : Array Oper) : Bool := ops.all fun o => match o.op with | .defer _ => false | _ => true
theorem noDefer_at (h : noDefer ops = true) {i : Nat} {o : Oper} (ho : ops[i]? = some o) (c : Call) : o.op ≠ .defer c := fun e => by
 obtain ⟨hi, he⟩ := Array.getElem?_eq_some_iff.1 ho
 have := Array.all_eq_true.1 h i hi
 rw [he, e] at this
 cases this
theorem rows_round {row : String} {args : Array Value} {w : World} {R : Value → World → Prop} (h : Rows P row args w R) : RowsIn (Fence.wide.inRound l) 0 P row args w R := fun c cs _ => by
 obtain ⟨v, w', r, s⟩ := h c cs
 exact ⟨v, w', r, stepsIn_wide.2 s⟩
theorem wpIn_round_of {o : Oper} {a : Act} {w : World} {K K' : Act → World → Prop} (ho : ∀ c, o.op ≠ .defer c) (hQ : ¬ LetsOut Q) (hK : ∀ a w, K a w → K' a w) (h : o.wp P a w K Q) : o.wpIn (Fence.wide.inRound l) 0 P a w K' Q := by
 refine ⟨fun _ _ => trivial, ?_⟩
 rw [Fence.inRound_round, Oper.semAt_eq _ _ _ ho]
 unfold Oper.wp at h
 generalize (execOp a.eval o).run P w = r at *
 cases r with
 | ok n w' =>
  cases n <;> simp only [Oper.upon, Oper.uponIn] at h ⊢ <;>
   first
    | exact hK _ _ h
    | exact ⟨fun h => by simp [Fence.inRound, Fence.wide] at h, CallsIn.inRound l (callsIn_wide.2 (h.mono (fun e w'' he => by cases e <;> first | exact hK _ _ he | exact he)))⟩
    | exact ⟨fun h => by simp [Fence.inRound, Fence.wide] at h, rows_round (h.mono (fun _ _ he => hK _ _ he))⟩
    | exact h.elim
 | halt x w' => cases x <;> simp only [Oper.upon, Oper.uponIn] at h ⊢ <;> exact h
theorem wpAnyIn_of_any (hd : noDefer ops = true) (hQ : ¬ LetsOut Q) : ∀ (fuel : Nat) (listed : Array Bool) (a : Act) (w : World), wpAny P md ops Q fuel listed a w → wpAnyIn (Fence.wide.inRound l) 0 P md ops Q fuel listed a w
 | 0, _, _, _, h => h
 | fuel + 1, listed, a, w, h => by
  refine ⟨h.1, fun i hi => ?_⟩
  have h2 := h.2 i hi
  unfold wpOp at h2
  unfold wpOpIn
  cases ho : ops[i]? with
  | none => simp only [ho] at h2 ⊢; exact wpAnyIn_of_any hd hQ fuel _ _ _ h2
  | some o =>
   simp only [ho] at h2 ⊢
   split
   · rename_i hw
     simp only [hw, if_true] at h2
     rcases h2 with h2 | h2
     · exact wpIn_round_of (noDefer_at hd ho) hQ (fun a w => wpAnyIn_of_any hd hQ fuel _ a w) h2
     · exact absurd h2.2 hQ
   · rename_i hw
     simp only [hw] at h2
     exact ⟨fun _ _ => trivial, wpAnyIn_of_any hd hQ fuel _ _ _ h2⟩
/-- **A drawn region in a round: by the walk that holds S.** -/
theorem wpIn_round_held {id : Nat} {a : Act} {w : World} {S : World → Prop} (hm : P.follows .mixedOrders = true) (hd : noDefer ops = true) (hQ : ¬ LetsOut Q) (hS : S w.drew)
 (h : S w.drew → wpAnyH P .any ops Q S ops.size (Array.replicate ops.size false) a w.drew) : (Code.region id ops true).wpIn (Fence.wide.inRound l) 0 P Q a w :=
 wpIn_region_any hm (wpAnyIn_of_any hd hQ _ _ _ _ (wpAny_of_held _ _ _ _ (h hS)))
end
/-- The marks that ranges over functions leave among a frame's deferred calls. -/
def MarksOk (B : Nat) : List Deferred → World → Prop
 | [], _ => True
 | d :: ds, w => (∃ D, B ≤ D ∧ d = { target := .collected D, args := #[] } ∧ w.heap[D]? = some (.deferred (some [])) ∧ ∀ d' ∈ ds, d' ≠ d) ∧ MarksOk B ds w
theorem MarksOk.put {B D : Nat} {o : Obj} {w : World} : ∀ {ds : List Deferred}, MarksOk B ds w → (∀ d ∈ ds, d ≠ { target := .collected D, args := #[] }) → MarksOk B ds (w.putObj D o)
 | [], _, _ => trivial
 | d :: ds, ⟨⟨D', h1, h2, h3, h4⟩, h5⟩, hn => by
  have hne : D' ≠ D := fun e => hn d (by simp) (by rw [h2, e])
  exact ⟨⟨D', h1, h2, (World.putObj_heap_other hne).trans h3, h4⟩, h5.put (fun d hd => hn d (by simp [hd]))⟩
theorem MarksOk.keep {B : Nat} {S : Nat → Prop} {w w' : World} (hk : Keep S w w') (hS : ∀ k, S k → k < B) : ∀ {ds : List Deferred}, MarksOk B ds w → MarksOk B ds w'
 | [], _ => trivial
 | d :: ds, ⟨⟨D, h1, h2, h3, h4⟩, h5⟩ => ⟨⟨D, h1, h2, (hk.block D (Array.getElem?_eq_some_iff.1 h3).1 (fun hs => by have := hS D hs; omega)).trans h3, h4⟩, h5.keep hk hS⟩
theorem MarksOk.lt {B : Nat} {w : World} : ∀ {ds : List Deferred} {D : Nat}, MarksOk B ds w → ({ target := .collected D, args := #[] } : Deferred) ∈ ds → D < w.heap.size
 | d :: ds, D, ⟨⟨D', h1, h2, h3, h4⟩, h5⟩, hm => by
  rcases List.mem_cons.1 hm with e | hm
  · rw [h2] at e
    have e' : D = D' := by injection e with e1 e2; injection e1
    rw [e']; exact (Array.getElem?_eq_some_iff.1 h3).1
  · exact h5.lt hm
theorem MarksOk.is {B : Nat} {w : World} : ∀ {ds : List Deferred} {d : Deferred}, MarksOk B ds w → d ∈ ds → ∃ D, d = { target := .collected D, args := #[] }
 | d' :: ds, d, ⟨⟨D', h1, h2, h3, h4⟩, h5⟩, hm => by
  rcases List.mem_cons.1 hm with e | hm
  · exact ⟨D', e.trans h2⟩
  · exact h5.is hm
theorem MarksOk.cons {B D : Nat} {ds : List Deferred} {w w' : World} (h : MarksOk B ds w) (hk : MarksOk B ds w') (hD : w.heap.size ≤ D) (hB : B ≤ D) (hd : w'.heap[D]? = some (.deferred (some []))) : MarksOk B ({ target := .collected D, args := #[] } :: ds) w' :=
 ⟨⟨D, hB, rfl, hd, fun d' hd' e => by have := h.lt (e ▸ hd'); omega⟩, hk⟩
theorem leaves_marks {P : Program} {fn : Func} {tmps : Array Value} {R : Ending → World → Prop} {B : Nat} : ∀ {ds : List Deferred} {w : World}, MarksOk B ds w →
 (∀ w', Keep (fun k => B ≤ k) w w' → ∃ v, (results fn tmps).run P w' = .ok v w' ∧ R (.returned v) w') → LeavesInM Fence.wide 0 P fn tmps R ds .returning w
 | [], w, _, h => h w (Keep.refl _ _)
 | d :: ds, w, ⟨⟨D, h1, h2, h3, h4⟩, h5⟩, h => by
  refine ⟨by simp, .inl ⟨D, _, by rw [h2], run_takeDeferred h3, ?_⟩⟩
  exact leaves_marks (h5.put (fun d hd e => h4 d hd (e.trans h2.symm))) (fun w' hk => h w' ((Keep.putObj D _ _ h1).trans hk))

end Go.Proofs.YtkaahiddngmdbaaGreatDoor
/- Drawn regions whose operations keep a relation between worlds, plain and in a round of a range over a function. -/
namespace Go.Proofs.YtkaahiddngmdbaaGreatDoor
open Go.RowKit

section
variable {P : Program} {ops : Array Oper} {Q : Exit → Act → World → Prop} {a0 : Act} {w : World} {dst : Nat → Tmp} {mono pre : Nat → Bool} {G : Array Bool → (Nat → Value) → World → Prop}
theorem wpAny_inv2 (hok : growOk ops dst mono pre a0.tmps.size = true)
 (hstep : ∀ i, i < ops.size → mono i = true → ∀ listed vs a W, GrownU ops.size a0 W dst NoPv listed vs a W → listed.size = ops.size → G listed vs W → (∀ j, listed.getD j false = true → ∀ o, ops[j]? = some o → ∀ e ∈ o.after, Region.binds .any e = true → listed.getD e.on false = true) → listed.getD i false = false → (∀ o, ops[i]? = some o → ∀ e ∈ o.after, Region.binds .any e = true → listed.getD e.on false = true) →
  ∀ K : Act → World → Prop, (∀ v W', G (listed.setIfInBounds i true) (fun j => if j = i then v else vs j) W' → K (a.put (some (dst i)) v) W') → wpOp P ops Q i K a W)
 (hend : ∀ listed vs a W, Grown ops.size a0 W dst mono NoPv listed vs a W → G listed vs W → (∀ i, i < ops.size → pre i = true → listed.getD i false = true) → wpAny P .any ops Q (leftOver listed ops.size) listed a W) :
 ∀ (fuel : Nat) (listed : Array Bool) (vs : Nat → Value) (a : Act) (W : World), Grown ops.size a0 W dst mono NoPv listed vs a W → G listed vs W → (∀ j, listed.getD j false = true → ∀ o, ops[j]? = some o → ∀ e ∈ o.after, Region.binds .any e = true → listed.getD e.on false = true) → fuel = leftOver listed ops.size → wpAny P .any ops Q fuel listed a W
 | 0, listed, vs, a, W, h, hG, _, hf => by
  rw [hf]
  exact hend listed vs a W h hG (fun i hi _ => leftOver_zero hf.symm hi)
 | fuel + 1, listed, vs, a, W, h, hG, hcl, hf => by
  by_cases hall : ∀ i, i < ops.size → pre i = true → listed.getD i false = true
  · rw [hf]; exact hend listed vs a W h hG hall
  · have hfacts := fun i (hi : i < ops.size) => any_some (List.all_eq_true.1 hok i (List.mem_range.2 hi))
    obtain ⟨hd, hinj⟩ := grow_facts hok
    have hex : ∃ i, i < ops.size ∧ pre i = true ∧ listed.getD i false = false ∧ ∀ j, j < i → pre j = true → listed.getD j false = true := by
     apply Classical.byContradiction
     intro hno
     apply hall
     intro i
     induction i using Nat.strongRecOn with
     | _ i ih =>
      intro hi hp
      cases hl : listed.getD i false with
      | true => rfl
      | false => exact absurd ⟨i, hi, hp, hl, fun j hj hpj => ih j hj (by omega) hpj⟩ hno
    refine ⟨fun hr => ?_, fun i hi => ?_⟩
    · exfalso
      obtain ⟨i, hi, hp, hl, hbef⟩ := hex
      obtain ⟨o, ho, h2⟩ := hfacts i hi
      simp only [hp, Bool.not_true, Bool.false_or, Bool.and_eq_true] at h2
      have hmem : i ∈ Region.ready .any ops listed := by
       rw [Region.ready, List.mem_filter]
       refine ⟨List.mem_range.2 hi, ?_⟩
       have hl2 : listed.getD i true = false := by
        rw [Array.getD_eq_getD_getElem?] at hl ⊢
        rw [Array.getElem?_eq_getElem (by rw [h.size]; exact hi)] at hl ⊢
        exact hl
       rw [hl2, ho]
       simp only [Bool.not_false, Bool.true_and, Option.map_some, Option.getD_some]
       rw [Array.all_eq_true_iff_forall_mem]
       intro e he
       have h3 := Array.all_eq_true_iff_forall_mem.1 h2.1.2.2 e he
       cases hb : Region.binds .any e with
       | false => rfl
       | true =>
        rw [hb] at h3
        simp only [Bool.not_true, Bool.false_or, Bool.and_eq_true, decide_eq_true_eq] at h3
        simpa using hbef e.on h3.1 h3.2
      rw [hr] at hmem
      cases hmem
    · rw [Region.ready, List.mem_filter] at hi
      obtain ⟨hi, hr⟩ := hi
      have hi := List.mem_range.1 hi
      obtain ⟨o, ho, h2⟩ := hfacts i hi
      rw [ho] at hr
      simp only [Option.map_some, Option.getD_some, Bool.and_eq_true, Bool.not_eq_true'] at hr
      have hl : listed.getD i false = false := by
       have := hr.1
       rw [Array.getD_eq_getD_getElem?] at this ⊢
       rw [Array.getElem?_eq_getElem (by rw [h.size]; exact hi)] at this ⊢
       exact this
      have haft : ∀ e ∈ o.after, Region.binds .any e = true → listed.getD e.on false = true := fun e he hb => by
       have := Array.all_eq_true_iff_forall_mem.1 hr.2 e he
       rw [hb] at this
       simpa using this
      have hm : mono i = true := by
       cases hm : mono i with
       | true => rfl
       | false =>
        exfalso
        simp only [hm, Bool.false_or, Bool.and_eq_true] at h2
        apply hall
        intro j hj hp
        have h3 := List.all_eq_true.1 h2.2 j (List.mem_range.2 hj)
        rw [hp] at h3
        simp only [Bool.not_true, Bool.false_or] at h3
        rw [← Array.any_toList, List.any_eq_true] at h3
        obtain ⟨e, he, h4⟩ := h3
        have he : e ∈ o.after := by simpa using he
        simp only [Bool.and_eq_true, beq_iff_eq] at h4
        rw [← h4.2]
        exact haft e he h4.1
      refine hstep i hi hm listed vs a W (h.user hd hinj) h.size hG hcl hl (fun o' ho' => by rw [ho] at ho'; cases ho'; exact haft) _ (fun v W' hv => ?_)
      refine wpAny_inv2 hok hstep hend fuel _ _ _ _ (let r := h.next0 (v := v) hi hl hm hd hinj (Below.refl _ W); ⟨Below.refl _ _, r.defers, r.tmps, r.size, r.mono, fun _ _ => trivial⟩) hv (fun j hj o' ho' e he hbi => ?_) (by have := leftOver_set h.size hi hl; omega)
      rw [getD_set (by rw [h.size]; exact hi)] at hj ⊢
      split
      · rfl
      · split at hj
        · rename_i e1
          subst e1
          rw [ho] at ho'; cases ho'
          exact haft e he hbi
        · exact hcl j hj o' ho' e he hbi
/-- What is so when some operations are over: R since the beginning, and what each has yielded. -/
def RelG (n : Nat) (R : World → World → Prop) (Pv : Nat → Value → World → Prop) (w : World) (listed : Array Bool) (vs : Nat → Value) (W : World) : Prop :=
 listed.size = n ∧ R w W ∧ ∀ i, listed.getD i false = true → Pv i (vs i) W
variable {R : World → World → Prop} {Pv : Nat → Value → World → Prop}
theorem wpAny_rel (hok : growOk ops dst mono pre a0.tmps.size = true) (hR0 : ∀ W, R W W) (hRt : ∀ W W' W'', R W W' → R W' W'' → R W W'') (hst : ∀ i v W W', Pv i v W → R W W' → Pv i v W')
 (hstep : ∀ i, i < ops.size → mono i = true → ∀ listed vs a W, GrownU ops.size a0 W dst NoPv listed vs a W → R w W → (∀ i, listed.getD i false = true → Pv i (vs i) W) → (∀ o, ops[i]? = some o → ∀ e ∈ o.after, Region.binds .any e = true → listed.getD e.on false = true) →
  ∀ K : Act → World → Prop, (∀ v W', R W W' → Pv i v W' → K (a.put (some (dst i)) v) W') → wpOp P ops Q i K a W)
 (hend : ∀ listed vs a W, Grown ops.size a0 W dst mono NoPv listed vs a W → R w W → (∀ i, listed.getD i false = true → Pv i (vs i) W) → (∀ i, i < ops.size → pre i = true → listed.getD i false = true) → wpAny P .any ops Q (leftOver listed ops.size) listed a W) :
 wpAny P .any ops Q ops.size (Array.replicate ops.size false) a0 w := by
 have hz : ∀ i, (Array.replicate ops.size false).getD i false = false := fun i => by
  rw [Array.getD_eq_getD_getElem?, Array.getElem?_replicate]; split <;> rfl
 have hix : idxs (Array.replicate ops.size false) ops.size = [] := by
  rw [idxs, List.filter_eq_nil_iff]; intro i _; rw [hz]; simp
 refine wpAny_inv2 (G := RelG ops.size R Pv w) hok (fun i hi hm listed vs a W hU _ hG _ hl haft K hK => ?_) (fun listed vs a W hG0 hG hpre => hend listed vs a W hG0 hG.2.1 hG.2.2 hpre) _ _ (fun _ => undef) a0 w
  ⟨Below.refl _ _, rfl, by rw [hix]; rfl, by simp, (fun i h => by rw [hz] at h; cases h), (fun i h => by rw [hz] at h; cases h)⟩ ⟨by simp, hR0 w, (fun i h => by rw [hz] at h; cases h)⟩ (fun j h => by rw [hz] at h; cases h) ?_
 · refine hstep i hi hm listed vs a W hU hG.2.1 hG.2.2 haft K (fun v W' hr hv => hK v W' ⟨by rw [Array.size_setIfInBounds]; exact hG.1, hRt _ _ _ hG.2.1 hr, fun j hj => ?_⟩)
   rw [getD_set (by rw [hG.1]; exact hi)] at hj
   split at hj
   · rename_i e; simp only [e, if_true]; exact hv
   · rename_i e; simp only [e, if_false]; exact hst _ _ _ _ (hG.2.2 j hj) hr
 · rw [leftOver, List.filter_eq_self.2 (fun i _ => by rw [hz]; rfl), List.length_range]
theorem wp_region_rel {id : Nat} (hm : P.follows .mixedOrders = true) (hok : growOk ops dst mono pre a0.tmps.size = true) (hR0 : ∀ W, R W W) (hRt : ∀ W W' W'', R W W' → R W' W'' → R W W'') (hst : ∀ i v W W', Pv i v W → R W W' → Pv i v W')
 (hstep : ∀ i, i < ops.size → mono i = true → ∀ listed vs a W, GrownU ops.size a0 W dst NoPv listed vs a W → R w.drew W → (∀ i, listed.getD i false = true → Pv i (vs i) W) → (∀ o, ops[i]? = some o → ∀ e ∈ o.after, Region.binds .any e = true → listed.getD e.on false = true) →
  ∀ K : Act → World → Prop, (∀ v W', R W W' → Pv i v W' → K (a.put (some (dst i)) v) W') → wpOp P ops Q i K a W)
 (hend : ∀ listed vs a W, Grown ops.size a0 W dst mono NoPv listed vs a W → R w.drew W → (∀ i, listed.getD i false = true → Pv i (vs i) W) → (∀ i, i < ops.size → pre i = true → listed.getD i false = true) → wpAny P .any ops Q (leftOver listed ops.size) listed a W) :
 (Code.region id ops true).wp P Q a0 w := wp_region_any hm (wpAny_rel hok hR0 hRt hst hstep hend)
theorem wpIn_round_rel {id l : Nat} (hm : P.follows .mixedOrders = true) (hd : noDefer ops = true) (hQ : ¬ LetsOut Q) (hok : growOk ops dst mono pre a0.tmps.size = true) (hR0 : ∀ W, R W W) (hRt : ∀ W W' W'', R W W' → R W' W'' → R W W'') (hst : ∀ i v W W', Pv i v W → R W W' → Pv i v W')
 (hstep : ∀ i, i < ops.size → mono i = true → ∀ listed vs a W, GrownU ops.size a0 W dst NoPv listed vs a W → R w.drew W → (∀ i, listed.getD i false = true → Pv i (vs i) W) → (∀ o, ops[i]? = some o → ∀ e ∈ o.after, Region.binds .any e = true → listed.getD e.on false = true) →
  ∀ K : Act → World → Prop, (∀ v W', R W W' → Pv i v W' → K (a.put (some (dst i)) v) W') → wpOp P ops Q i K a W)
 (hend : ∀ listed vs a W, Grown ops.size a0 W dst mono NoPv listed vs a W → R w.drew W → (∀ i, listed.getD i false = true → Pv i (vs i) W) → (∀ i, i < ops.size → pre i = true → listed.getD i false = true) → wpAny P .any ops Q (leftOver listed ops.size) listed a W) :
 (Code.region id ops true).wpIn (Fence.wide.inRound l) 0 P Q a0 w := wpIn_region_any hm (wpAnyIn_of_any hd hQ _ _ _ _ (wpAny_rel hok hR0 hRt hst hstep hend))
end
theorem leaves_marks2 {P : Program} {fn : Func} {tmps : Array Value} {R : Ending → World → Prop} {B : Nat} : ∀ {ds : List Deferred} {w : World}, MarksOk B ds w →
 (∀ w', Keep (fun k => ({ target := .collected k, args := #[] } : Deferred) ∈ ds) w w' → ∃ v, (results fn tmps).run P w' = .ok v w' ∧ R (.returned v) w') → LeavesInM Fence.wide 0 P fn tmps R ds .returning w
 | [], w, _, h => h w (Keep.refl _ _)
 | d :: ds, w, ⟨⟨D, h1, h2, h3, h4⟩, h5⟩, h => by
  refine ⟨by simp, .inl ⟨D, _, by rw [h2], run_takeDeferred h3, ?_⟩⟩
  exact leaves_marks2 (h5.put (fun d hd e => h4 d hd (e.trans h2.symm))) (fun w' hk => h w' ((Keep.putObj D _ (fun k => ({ target := .collected k, args := #[] } : Deferred) ∈ d :: ds) (List.mem_cons.2 (.inl h2.symm))).trans (hk.mono (fun k _ hm => List.mem_cons.2 (.inr hm)))))
/-- What operations keep: all blocks but those of S, and M. -/
def LKeep (S : Nat → Prop) (M : World → Prop) (w w' : World) : Prop := Keep S w w' ∧ (M w → M w')
theorem LKeep.refl (S : Nat → Prop) (M : World → Prop) (w : World) : LKeep S M w w := ⟨Keep.refl _ _, fun h => h⟩
theorem LKeep.trans {S : Nat → Prop} {M : World → Prop} {w w' w'' : World} (h : LKeep S M w w') (h' : LKeep S M w' w'') : LKeep S M w w'' := ⟨h.1.trans h'.1, fun x => h'.2 (h.2 x)⟩
theorem LKeep.drew (S : Nat → Prop) {M : World → Prop} (w : World) (h : M w → M w.drew) : LKeep S M w w.drew := ⟨Keep.of_below' ((Below.refl _ _).drew) _, h⟩
theorem LKeep.below {S : Nat → Prop} {M : World → Prop} {w w' : World} (h : Below w.heap.size w w') (hm : M w → M w') : LKeep S M w w' := ⟨Keep.of_below' h _, hm⟩
theorem useSlot {n : Nat} {a0 a : Act} {w0 W : World} {dst : Nat → Tmp} {Px : Nat → Value → World → Prop} {listed : Array Bool} {vs : Nat → Value} {o : Oper} {d : Tmp} {V : Value} (hU : GrownU n a0 w0 dst Px listed vs a W) (haft : ∀ e ∈ o.after, Region.binds .any e = true → listed.getD e.on false = true)
 (j : Nat) (he : (o.after.toList.any fun e => e.on == j && Region.binds .any e) = true) (hp : listed.getD j false = true → vs j = V) (hj : j < n := by decide) (hd : dst j = d := by rfl) : a.tmps[d]?.getD undef = V := by
 subst hd
 obtain ⟨e, h1, h2⟩ := List.any_eq_true.1 he
 rw [Bool.and_eq_true, beq_iff_eq] at h2
 obtain ⟨rfl, h3⟩ := h2
 have l := haft e (by simpa using h1) h3
 exact (hU.slot _ hj l).trans (hp l)
end Go.Proofs.YtkaahiddngmdbaaGreatDoor
