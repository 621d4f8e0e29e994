/- A block of memory that is known whole: its cells, that it may be written, what a store makes of it. Rows that a call owns, by functions. Plain facts, no walk. -/
import Derived.Test.YtbkknliggnhpcaaLoose
import Derived.Test.YtbkknliggnhpcaaGI
set_option linter.unusedVariables false
set_option linter.unusedSimpArgs false
namespace Go.Proofs.Ytbkknliggnhpcaa
open Go.RowKit

/-- Block g holds just these cells, and may be written. -/
def Blk (w : World) (g : Nat) (T : TypeId) (vs : Array Value) : Prop := w.heap[g]? = some (.cells vs T (0, 0))
section
variable {w w' : World} {g : Nat} {T : TypeId} {vs : Array Value}
theorem Blk.lt (h : Blk w g T vs) : g < w.heap.size := (Array.getElem?_eq_some_iff.1 h).1
theorem Blk.at_ (h : Blk w g T vs) (j : Nat) : w.cell? ⟨g, j, none⟩ = vs[j]? := cell_of_row w g j vs T (0, 0) h
theorem Blk.free (h : Blk w g T vs) (j : Nat) : w.frozen? ⟨g, j, none⟩ = false := by
  have h1 : w.heap[g]? = some (.cells vs T (0, 0)) := h
  simp [World.frozen?, h1]
theorem Blk.made {vs : Array Value} : Blk (w.alloc (.cells vs T)) w.heap.size T vs := heap_alloc_new w _
theorem Blk.made' {g : Nat} (hg : w.heap.size = g) {vs : Array Value} : Blk (w.alloc (.cells vs T)) g T vs := by subst hg; exact heap_alloc_new w _
theorem Blk.block (h : Blk w g T vs) (hk : w'.heap[g]? = w.heap[g]?) : Blk w' g T vs := hk.trans h
theorem Blk.alloc (h : Blk w g T vs) (o : Obj) : Blk (w.alloc o) g T vs := h.block (Below.heap_alloc w o g h.lt)
theorem Blk.below {B : Nat} (h : Blk w g T vs) (hb : Below B w w') (hg : g < B) : Blk w' g T vs := h.block (hb.block g hg)
theorem Blk.next (h : Blk w g T vs) (hb : Below w.heap.size w w') : Blk w' g T vs := h.below hb h.lt
theorem Blk.store (h : Blk w g T vs) (j : Nat) (u : Value) : Blk (w.setCell ⟨g, j, none⟩ u) g T (vs.setIfInBounds j u) := by
  have h1 : w.heap[g]? = some (.cells vs T (0, 0)) := h
  show (w.setCell ⟨g, j, none⟩ u).heap[g]? = _
  simp [World.setCell, Array.getElem?_modify, h1]
theorem Blk.else_ (h : Blk w g T vs) {p : Addr} (hp : g ≠ p.block) (u : Value) : Blk (w.setCell p u) g T vs := h.block (Below.heap_setCell w p u g hp)
theorem Blk.keep {S : Nat → Prop} (h : Blk w g T vs) (hk : Keep S w w') (hS : ¬ S g) : Blk w' g T vs := h.block (hk.block g h.lt hS)
end
theorem own_kept {S : Nat → Prop} {w w' : World} {base e size m : Nat} {v : Value} {vs : List Value} (h : w.ownsRow base e size v m vs) (hk : Keep S w w') (hS : ∀ b, base ≤ b → ¬ S b) : w'.ownsRow base e size v m vs :=
  own_stab h (fun b hb e => hk.block b hb (hS b (h.lt b e).1))
/-- A row that a call owns, of values that a function says. -/
theorem row_fun {w : World} {base e size m c : Nat} {A : Option Addr} {f : Nat → Value} (h : w.ownsRow base e size (.slice A m c) m ((List.range (m * size)).map f)) : m ≤ c ∧ c ≤ maxLen ∧ Row w w.heap.size A (m * size) f := by
  obtain ⟨A', c', e, h1, h2, h3⟩ := row_own h
  simp only [Value.slice.injEq, true_and] at e
  obtain ⟨rfl, rfl⟩ := e
  refine ⟨h1, h2, fun hm => ?_⟩
  obtain ⟨b, off, e2, hb, hc⟩ := h3 hm
  refine ⟨b, off, e2, hb, fun j hj => ?_⟩
  rw [hc j hj]
  simp [hj]
theorem range4 (n : Nat) : List.range ((n + 1) * 4) = List.range (n * 4) ++ [n * 4, n * 4 + 1, n * 4 + 2, n * 4 + 3] := by
  rw [show (n + 1) * 4 = n * 4 + 1 + 1 + 1 + 1 by omega, List.range_succ, List.range_succ, List.range_succ, List.range_succ]
  simp
theorem range3 (n : Nat) : List.range ((n + 1) * 3) = List.range (n * 3) ++ [n * 3, n * 3 + 1, n * 3 + 2] := by
  rw [show (n + 1) * 3 = n * 3 + 1 + 1 + 1 by omega, List.range_succ, List.range_succ, List.range_succ]
  simp
theorem one4 (a b d e : Int) (j : Nat) (hj : j < 1 * 4) : (([Value.int .i64 a, .int .i64 b, .int .i64 d, .int .i64 e] : List Value).getD j undef).oneCell' = true := by
  match j, hj with
  | 0, _ => rfl
  | 1, _ => rfl
  | 2, _ => rfl
  | 3, _ => rfl
theorem one1 (a : Int) (j : Nat) (hj : j < 1 * 1) : (([Value.int .i64 a] : List Value).getD j undef).oneCell' = true := by
  obtain rfl : j = 0 := by omega
  rfl
theorem IntsS.row1 {w : World} {B n c : Nat} {A : Option Addr} {xs : List Int} (h : IntsS w B A n c xs) : Row w B A (n * 1) (intsF xs) := by rw [Nat.mul_one]; exact h.row
theorem ints_vals (xs : List Int) : (List.range (xs.length * 1)).map (intsF xs) = xs.map (Value.int .i64) := by
  rw [Nat.mul_one]
  apply List.ext_getElem (by simp)
  intro i h1 h2
  have h3 : i < xs.length := by simpa using h2
  simp [intsF, nth_eq h3]
theorem ints_snoc (xs : List Int) (x : Int) : xs.map (Value.int .i64) ++ (List.range (1 * 1)).map (fun j => ([Value.int .i64 x] : List Value).getD j undef) = (xs ++ [x]).map (Value.int .i64) := by
  rw [List.map_append]; rfl
theorem lots_snoc (xs : List Lot) (x : Lot) : (List.range (xs.length * 4)).map (lotsF xs) ++ (List.range (1 * 4)).map (fun j => ([Value.int .i64 x.hold, .int .i64 x.frm, .int .i64 x.green.lo, .int .i64 x.green.hi] : List Value).getD j undef) = (List.range ((xs.length + 1) * 4)).map (lotsF (xs ++ [x])) := by
  obtain ⟨e0, e1, e2, e3⟩ := lotsF_last xs x
  rw [range4 xs.length, List.map_append]
  congr 1
  · exact List.map_congr_left fun j hj => (lotsF_app (List.mem_range.1 hj)).symm
  · show _ = [_, _, _, _]
    rw [e0, e1, e2, e3]
    rfl
theorem wpList_app_row {P : Program} {ops : Array Oper} {rest : List Oper} {o : Oper} {a : Act} {Q : Exit → Act → World → Prop} (w : World) (hgd : o.guard = none) (s x : Operand) (t : TypeId)
    (ho : o.op = .call { callee := .builtin .append, args := #[s, x], argTypes := #[t, t] }) (base : Nat) (e : TypeId) (i : TypeInfo) (z : Value) (size bytes : Nat) (ht : P.underlying t = some (.slice e)) (hi : P.info? e = some i) (hz : i.zero = some z)
    (hsize : i.size = size) (hby : i.bytes = bytes) (hzs : z.cells.size = size) (hsz : 0 < size) (v : Value) (n : Nat) (xs : List Value) (hs : a.eval s = v) (hown : w.ownsRow base e size v n xs)
    (A : Option Addr) (m c B : Nat) (f : Nat → Value) (hx : a.eval x = .slice A m c) (h : Row w B A (m * size) f) (h1 : ∀ j, j < m * size → (f j).oneCell' = true)
    (h63 : n + m ≤ maxLen) (hbytes : (n + m) * bytes ≤ 140737488355328) (hbase : base ≤ w.heap.size)
    (hk : ∀ v' w', w'.ownsRow base e size v' (n + m) (xs ++ (List.range (m * size)).map f) → w.grownBy w' v.ownBlock → (v'.ownBlock = v.ownBlock ∨ v'.ownBlock = some w.heap.size) → wpList P ops Q rest (a.put o.dst v') w') : wpList P ops Q (o :: rest) a w := by
  obtain ⟨v', w', hrun, h2, h3, h4⟩ := run_app_row w base t o.type e i z size bytes ht hi hz hsize hby hzs hsz hown h h1 h63 hbytes hbase
  refine wpList_plain hgd fun K hK => ?_
  unfold Oper.wp execOp
  simp only [ho, resolve, invoke, builtin, Sem.run_bind, Sem.run_pure, Result.andThen_ok, List.map_toArray, List.map_cons, List.map_nil, hs, hx]
  rw [hrun]
  exact hK _ _ (hk v' w' h2 h3 h4)
theorem own_set {w : World} {base g n cap : Nat} {T : TypeId} {size : Nat} {vs : List Value} (h : w.ownsRow base T size (.slice (some ⟨g, 0, none⟩) n cap) n vs) (i : Nat) (u : Value) : (w.setCell ⟨g, i, none⟩ u).ownsRow base T size (.slice (some ⟨g, 0, none⟩) n cap) n (vs.set i u) :=
  (World.ownsRow.stored h i u).1
theorem own_addr {w : World} {base n cap : Nat} {T : TypeId} {size : Nat} {A : Option Addr} {vs : List Value} (h : w.ownsRow base T size (.slice A n cap) n vs) (hn : 0 < n) : ∃ g, A = some ⟨g, 0, none⟩ ∧ base ≤ g ∧ g < w.heap.size := by
  rcases h.2 with ⟨e, h0⟩ | ⟨g, cap', cur, e, hb, hg, _⟩
  · omega
  · simp only [Value.slice.injEq] at e
    exact ⟨g, e.1, hb, (Array.getElem?_eq_some_iff.1 hg).1⟩
end Go.Proofs.Ytbkknliggnhpcaa
