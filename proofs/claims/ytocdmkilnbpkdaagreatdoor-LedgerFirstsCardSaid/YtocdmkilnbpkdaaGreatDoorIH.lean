/- Words for slices of slices of integers: read (below a block), and owned by a call. -/
import Derived.Test.YtocdmkilnbpkdaaGreatDoorZR
import Derived.Test.YtocdmkilnbpkdaaGreatDoorQI
import Derived.Test.YtocdmkilnbpkdaaGreatDoorVQ
import Derived.OwnWalkIn
import Derived.OwnWalk
import Derived.Laws.AppendOwn
import Derived.TacticsInMore
import Derived.Deep.DeepCutAuto
import Derived.Test.YtocdmkilnbpkdaaGreatDoorQA
import Derived.Test.YtocdmkilnbpkdaaGreatDoorQK
import Derived.Test.YtocdmkilnbpkdaaGreatDoorZT
import Derived.Deep.MidRow
import Derived.RangeFuncBox
import Derived.Maps.AppendAt
import Derived.Laws.StructEq
set_option linter.unusedVariables false
set_option linter.unusedSimpArgs false
namespace Go.Proofs.YtocdmkilnbpkdaaGreatDoor
open Go.RowKit

/-- A slice of slices that reads as lists of integers, all below block B. -/
structure ListsS (w : World) (B : Nat) (A : Option Addr) (n c : Nat) (gs : List (List Int)) : Prop where
 len : gs.length = n
 cap : n ≤ c
 max : c ≤ maxLen
 row : 0 < n → ∃ b off, A = some ⟨b, off, none⟩ ∧ b < B ∧ ∀ j, j < n → ∃ A' c', w.cell? ⟨b, off + j, none⟩ = some (.slice A' (nth gs j).length c') ∧ IntsS w B A' (nth gs j).length c' (nth gs j)
section
variable {w w' : World} {B B' n c : Nat} {A : Option Addr} {gs : List (List Int)}
theorem ListsS.bd (h : ListsS w B A n c gs) : n ≤ 9223372036854775807 := by have h1 := h.cap; have h2 := h.max; unfold maxLen at h2; omega
theorem ListsS.below (h : ListsS w B A n c gs) (hb : Below B w w') : ListsS w' B A n c gs := ⟨h.len, h.cap, h.max, fun hn => by
 obtain ⟨b, off, e, hbb, hc⟩ := h.row hn
 refine ⟨b, off, e, hbb, fun j hj => ?_⟩
 obtain ⟨A', c', h1, h2⟩ := hc j hj
 exact ⟨A', c', (hb.cell (p := ⟨_, _, _⟩) hbb).trans h1, h2.below hb⟩⟩
theorem ListsS.more (h : ListsS w B A n c gs) (hB : B ≤ B') : ListsS w B' A n c gs := ⟨h.len, h.cap, h.max, fun hn => by
 obtain ⟨b, off, e, hbb, hc⟩ := h.row hn
 exact ⟨b, off, e, by omega, fun j hj => by obtain ⟨A', c', h1, h2⟩ := hc j hj; exact ⟨A', c', h1, h2.more hB⟩⟩⟩
theorem ListsS.next (h : ListsS w w.heap.size A n c gs) (hb : Below w.heap.size w w') : ListsS w' w'.heap.size A n c gs := (h.below hb).more hb.size
theorem ListsS.at_ (h : ListsS w B A n c gs) {j : Nat} (hj : j < n) : ∃ b off A' c', A = some ⟨b, off, none⟩ ∧ b < B ∧ w.cell? ⟨b, off + j, none⟩ = some (.slice A' (nth gs j).length c') ∧ IntsS w B A' (nth gs j).length c' (nth gs j) := by
 obtain ⟨b, off, e, hbb, hc⟩ := h.row (by omega)
 obtain ⟨A', c', h1, h2⟩ := hc j hj
 exact ⟨b, off, A', c', e, hbb, h1, h2⟩
end

theorem own_below {w w' : World} {base : Nat} {e : TypeId} {size n : Nat} {v : Value} {xs : List Value} (h : w.ownsRow base e size v n xs) (hb : Below w.heap.size w w') : w'.ownsRow base e size v n xs := by
 refine ⟨h.1, ?_⟩
 rcases h.2 with h' | ⟨g, cap, cur, hv, hg, hh, r⟩
 · exact .inl h'
 · exact .inr ⟨g, cap, cur, hv, hg, by rw [hb.block g (Array.getElem?_eq_some_iff.1 hh).1]; exact hh, r⟩
theorem own_types {w w' : World} {base base' : Nat} {e e' : TypeId} {size size' n n' : Nat} {v v' : Value} {xs xs' : List Value} (h : w.ownsRow base e size v n xs) (h' : w.ownsRow base' e' size' v' n' xs') (hne : e ≠ e') {o : Obj}
 (hg : (w.alloc o).grownBy w' v'.ownBlock) : w'.ownsRow base e size v n xs := by
 refine (h.alloc o).kept hg ?_
 rcases h.2 with ⟨rfl, _⟩ | ⟨g, cap, cur, rfl, _, hh, _⟩
 · exact .inl rfl
 · refine .inr fun e1 => ?_
   rcases h'.2 with ⟨rfl, _⟩ | ⟨g', cap', cur', rfl, _, hh', _⟩
   · simp [Value.ownBlock] at e1
   · simp only [Value.ownBlock, Option.some.injEq] at e1
     subst e1
     rw [hh] at hh'
     simp only [Option.some.injEq, Obj.cells.injEq] at hh'
     exact hne hh'.2.1

/-- A row of the call's own that holds lists of integers, each a row of the call's own. -/
def OwnLists (w : World) (base : Nat) (v : Value) (gs : List (List Int)) : Prop :=
 ∃ vs : List Value, w.ownsRow base 35 1 v gs.length vs ∧ ∀ j, j < gs.length → ∃ u, vs[j]? = some u ∧ w.ownsRow base 3 1 u (nth gs j).length ((nth gs j).map (Value.int .i64))
section
variable {w w' : World} {base B : Nat} {v : Value} {gs : List (List Int)}
theorem OwnLists.nil_ : OwnLists w base (.slice none 0 0) [] := ⟨[], World.ownsRow_nil _ _ _ _, fun j hj => absurd hj (Nat.not_lt_zero _)⟩
theorem OwnLists.below (h : OwnLists w base v gs) (hb : Below w.heap.size w w') : OwnLists w' base v gs := by
 obtain ⟨vs, h1, h2⟩ := h
 refine ⟨vs, own_below h1 hb, fun j hj => ?_⟩
 obtain ⟨u, h3, h4⟩ := h2 j hj
 exact ⟨u, h3, own_below h4 hb⟩
theorem nth_snoc_lt {α : Type} [Inhabited α] (l : List α) (x : α) {j : Nat} (h : j < l.length) : nth (l ++ [x]) j = nth l j := by simp [nth, List.getElem?_append_left h]
theorem nth_snoc_eq {α : Type} [Inhabited α] (l : List α) (x : α) : nth (l ++ [x]) l.length = x := by simp [nth]
theorem OwnLists.lists (h : OwnLists w base v gs) : ∃ A c, v = .slice A gs.length c ∧ ListsS w w.heap.size A gs.length c gs := by
 obtain ⟨vs, h1, h2⟩ := h
 rcases h1.2 with ⟨rfl, h0⟩ | ⟨g, cap, cur, rfl, hg, hh, h3, h4, h5, h6⟩
 · rw [h0]
   obtain rfl : gs = [] := List.eq_nil_of_length_eq_zero h0
   exact ⟨none, 0, rfl, rfl, Nat.le_refl _, by simp [maxLen], fun h => absurd h (by omega)⟩
 · refine ⟨_, cap, rfl, rfl, h3, h4, fun hm => ⟨g, 0, rfl, (Array.getElem?_eq_some_iff.1 hh).1, fun j hj => ?_⟩⟩
   obtain ⟨u, h7, h8⟩ := h2 j hj
   obtain ⟨A', c', rfl, h9⟩ := IntsS.of_own h8
   refine ⟨A', c', ?_, h9⟩
   have := h1.cells (g := g) rfl j _ h7
   have hadd : (⟨g, 0, none⟩ : Addr).add j = ⟨g, 0 + j, none⟩ := by unfold Addr.add; split <;> simp_all
   rwa [hadd] at this
theorem OwnLists.snoc {vs : List Value} {u : Value} {xs : List Int} {w1 : World} {v' : Value} {o : Obj} (h1 : w.ownsRow base 35 1 v gs.length vs) (h2 : ∀ j, j < gs.length → ∃ u, vs[j]? = some u ∧ w.ownsRow base 3 1 u (nth gs j).length ((nth gs j).map (Value.int .i64)))
 (hu : w.ownsRow base 3 1 u xs.length (xs.map (Value.int .i64))) (ho : w1.ownsRow base 35 1 v' (gs.length + 1) (vs ++ [u])) (hg : (w.alloc o).grownBy w1 v.ownBlock) : OwnLists w1 base v' (gs ++ [xs]) := by
 have hl : vs.length = gs.length := by have := h1.1; omega
 refine ⟨vs ++ [u], by simpa using ho, fun j hj => ?_⟩
 by_cases hjl : j < gs.length
 · obtain ⟨u', h3, h4⟩ := h2 j hjl
   rw [nth_snoc_lt _ _ hjl]
   exact ⟨u', by rw [List.getElem?_append_left (by omega)]; exact h3, own_types h4 h1 (by decide) hg⟩
 · obtain rfl : j = gs.length := by simp at hj; omega
   rw [nth_snoc_eq]
   exact ⟨u, by rw [← hl]; simp, own_types hu h1 (by decide) hg⟩
end
theorem Tryz.infoInts : (Tryz.prog.info? 35).map (fun i => (i.zero, i.size, i.bytes)) = some (some (.slice none 0 0), 1, 24) := by kernel_rfl
/-- A row of the call's own that holds slices of integers that lie below block B. -/
def OwnRefs (w : World) (base B : Nat) (v : Value) (gs : List (List Int)) : Prop :=
 ∃ vs : List Value, w.ownsRow base 35 1 v gs.length vs ∧ ∀ j, j < gs.length → ∃ A c, vs[j]? = some (.slice A (nth gs j).length c) ∧ IntsS w B A (nth gs j).length c (nth gs j)
section
variable {w w' : World} {base B : Nat} {v : Value} {gs : List (List Int)}
theorem OwnRefs.nil_ : OwnRefs w base B (.slice none 0 0) [] := ⟨[], World.ownsRow_nil _ _ _ _, fun j hj => absurd hj (Nat.not_lt_zero _)⟩
theorem OwnRefs.below (h : OwnRefs w base B v gs) (hB : B ≤ w.heap.size) (hb : Below w.heap.size w w') : OwnRefs w' base B v gs := by
 obtain ⟨vs, h1, h2⟩ := h
 refine ⟨vs, own_below h1 hb, fun j hj => ?_⟩
 obtain ⟨A, c, h4, h5⟩ := h2 j hj
 exact ⟨A, c, h4, h5.below (hb.mono hB)⟩
theorem OwnRefs.lists (h : OwnRefs w base B v gs) (hB : B ≤ w.heap.size) : ∃ A c, v = .slice A gs.length c ∧ ListsS w w.heap.size A gs.length c gs := by
 obtain ⟨vs, h1, h2⟩ := h
 rcases h1.2 with ⟨rfl, h0⟩ | ⟨g, cap, cur, rfl, hg, hh, h3, h4, h5, h6⟩
 · rw [h0]
   obtain rfl : gs = [] := List.eq_nil_of_length_eq_zero h0
   exact ⟨none, 0, rfl, rfl, Nat.le_refl _, by simp [maxLen], fun h => absurd h (by omega)⟩
 · refine ⟨_, cap, rfl, rfl, h3, h4, fun hm => ⟨g, 0, rfl, (Array.getElem?_eq_some_iff.1 hh).1, fun j hj => ?_⟩⟩
   obtain ⟨A', c', h8, h9⟩ := h2 j hj
   refine ⟨A', c', ?_, h9.more hB⟩
   have := h1.cells (g := g) rfl _ _ h8
   have hadd : (⟨g, 0, none⟩ : Addr).add j = ⟨g, 0 + j, none⟩ := by unfold Addr.add; split <;> simp_all
   rwa [hadd] at this
theorem OwnRefs.snoc {vs : List Value} {xs : List Int} {A : Option Addr} {c : Nat} {w1 : World} {v' : Value} (h2 : ∀ j, j < gs.length → ∃ A c, vs[j]? = some (.slice A (nth gs j).length c) ∧ IntsS w B A (nth gs j).length c (nth gs j)) (hl : vs.length = gs.length)
 (hu : IntsS w B A xs.length c xs) (ho : w1.ownsRow base 35 1 v' (gs.length + 1) (vs ++ [.slice A xs.length c])) (hb : Below B w w1) : OwnRefs w1 base B v' (gs ++ [xs]) := by
 refine ⟨_, by simpa using ho, fun j hj => ?_⟩
 by_cases hjl : j < gs.length
 · obtain ⟨A', c', h4, h5⟩ := h2 j hjl
   rw [nth_snoc_lt _ _ hjl]
   exact ⟨A', c', by rw [List.getElem?_append_left (by omega)]; exact h4, h5.below hb⟩
 · obtain rfl : j = gs.length := by simp at hj; omega
   rw [nth_snoc_eq]
   exact ⟨A, c, by rw [← hl]; simp, hu.below hb⟩
end
end Go.Proofs.YtocdmkilnbpkdaaGreatDoor
/- Choices of the reference. -/
namespace Go.Proofs.YtocdmkilnbpkdaaGreatDoor
open Go.RowKit

theorem bcell {W w1 : World} {B : Nat} (hb : Below B W w1) : (∀ b o, b < B → w1.cell? ⟨b, o, none⟩ = W.cell? ⟨b, o, none⟩) ∧ (∀ b o, b < B → w1.frozen? ⟨b, o, none⟩ = W.frozen? ⟨b, o, none⟩) :=
 ⟨fun b o h => hb.cell (p := ⟨b, o, none⟩) h, fun b o h => hb.frozen (p := ⟨b, o, none⟩) h⟩
/-- append of integers that came in, nil or not, onto a row of the call's own. -/
theorem run_app_ints (w : World) {base : Nat} {v : Value} {n : Nat} {xs ys : List Int} (hown : w.ownsRow base 3 1 v n (xs.map (Value.int .i64))) {B m c : Nat} {A : Option Addr} (h : IntsS w B A m c ys)
 (hn : n + m ≤ 17592186044416) (hbase : base ≤ w.heap.size) (ty : TypeId) :
 ∃ v' w', (Builtin.append_ #[35, 35] ty #[v, .slice A m c]).run Tryz.prog w = .ok v' w' ∧ w'.ownsRow base 3 1 v' (n + m) ((xs ++ ys).map (Value.int .i64)) ∧ w.grownBy w' v.ownBlock ∧
  (v'.ownBlock = v.ownBlock ∨ v'.ownBlock = some w.heap.size) := by
 obtain ⟨i0, hi, hz0, hz1, hz2⟩ := info_parts Tryz.infoInt
 have hl := h.len
 rcases Nat.eq_zero_or_pos m with h0 | h0
 · subst h0
   obtain rfl : ys = [] := List.eq_nil_of_length_eq_zero hl
   cases A with
   | none => exact ⟨v, w, run_append_of_nil w base _ ty _ i0 1 Tryz.underlying35 hi v n _ hown c, by simpa using hown, World.grownBy.refl w _, .inl rfl⟩
   | some ad =>
    obtain ⟨v', w', hrun, h2, h3, _, h5⟩ := run_append_own_at (P := Tryz.prog) w base 35 ty 3 i0 (.int .i64 0) 1 8 Tryz.underlying35 hi hz0 hz1 hz2 rfl (by omega) v n _ hown ad 0 c [] rfl (by simp) (by simp) (by simp [maxLen]; omega) (by omega) hbase
    exact ⟨v', w', hrun, by simpa using h2, h3, h5⟩
 · obtain ⟨b, off, rfl, hb, hc⟩ := h.row h0
   obtain ⟨v', w', hrun, h2, h3, _, h5⟩ := run_append_own_at (P := Tryz.prog) w base 35 ty 3 i0 (.int .i64 0) 1 8 Tryz.underlying35 hi hz0 hz1 hz2 rfl (by omega) v n _ hown ⟨b, off, none⟩ m c (ys.map (Value.int .i64)) (by simp [hl])
    (fun j u hu => by
     have hj : j < m := by
      rcases Nat.lt_or_ge j m with h | h
      · exact h
      · rw [List.getElem?_eq_none (by simp [hl]; exact h)] at hu; cases hu
     rw [Addr.add_lit, hc j hj]
     simp [hl, hj] at hu
     rw [← hu, intsF, nth_eq (by omega)]) (by simp [Value.oneCell']) (by simp [maxLen]; omega) (by omega) hbase
   exact ⟨v', w', hrun, by simpa using h2, h3, h5⟩
theorem wpList_app_ints {ops : Array Oper} {rest : List Oper} {o : Oper} {a : Act} {Q : Exit → Act → World → Prop} (w : World) (hgd : o.guard = none) (s x : Operand)
 (ho : o.op = .call { callee := .builtin .append, args := #[s, x], argTypes := #[35, 35] }) (base : Nat) (v : Value) (n : Nat) (xs : List Int) (hs : a.eval s = v) (hown : w.ownsRow base 3 1 v n (xs.map (Value.int .i64)))
 (A : Option Addr) (m c B : Nat) (ys : List Int) (hx : a.eval x = .slice A m c) (h : IntsS w B A m c ys) (hn : n + m ≤ 17592186044416) (hbase : base ≤ w.heap.size)
 (hk : ∀ v' w', w'.ownsRow base 3 1 v' (n + m) ((xs ++ ys).map (Value.int .i64)) → w.grownBy w' v.ownBlock → (v'.ownBlock = v.ownBlock ∨ v'.ownBlock = some w.heap.size) → wpList Tryz.prog ops Q rest (a.put o.dst v') w') : wpList Tryz.prog ops Q (o :: rest) a w := by
 obtain ⟨v', w', hrun, h2, h3, h4⟩ := run_app_ints w hown h hn hbase o.type
 refine wpList_plain hgd fun K hK => ?_
 unfold Oper.wp execOp
 simp only [ho, resolve, invoke, builtin, Sem.run_bind, Sem.run_pure, Result.andThen_ok, List.map_toArray, List.map_cons, List.map_nil, hs, hx, hrun]
 exact hK _ _ (hk v' w' h2 h3 h4)
def spanVals (s : Span) : List Int := (List.range (s.hi - s.lo + 1).toNat).map fun k : Nat => s.lo + k
theorem take_map_range (s : Span) {m : Nat} (hm : (m : Int) ≤ s.hi - s.lo) : (spanVals s).take (m + 1) = (spanVals s).take m ++ [s.lo + m] := by
 have : m < (spanVals s).length := by simp [spanVals]; omega
 rw [take_nth this]
 congr 1
 simp [nth, spanVals, show m < (s.hi - s.lo + 1).toNat by omega]
theorem spanVals_take (s : Span) {m : Nat} (hm : s.hi - s.lo < m) : (spanVals s).take m = spanVals s := List.take_of_length_le (by simp [spanVals]; omega)
theorem flat_take {α β : Type} [Inhabited α] (G : List α) (f : α → List β) {k : Nat} (hk : k < G.length) : (G.take (k + 1)).flatMap f = (G.take k).flatMap f ++ f (nth G k) := by
 rw [take_nth hk, List.flatMap_append]; simp
theorem flat_lenU {α β : Type} (l : List α) (f : α → List β) (n : Nat) (h : ∀ g ∈ l, (f g).length ≤ n) : (l.flatMap f).length ≤ l.length * n := by
 induction l with
 | nil => simp
 | cons x l ih =>
  have h1 := h x (by simp)
  have h2 := ih (fun g hg => h g (by simp [hg]))
  simp only [List.flatMap_cons, List.length_append, List.length_cons, Nat.add_mul, Nat.one_mul]
  omega
/-- The reference's lists of i ascending numbers below n, in order. -/
def leastC (i : Nat) (g : List Int) : Int := if i = 0 then 0 else nth g (i - 1) + 1
def nextC (n i : Nat) (g : List Int) : List (List Int) := (spanVals ⟨leastC i g, (n : Int) - 1⟩).map fun x => g ++ [x]
def chTo (n : Nat) : Nat → List (List Int)
 | 0 => [[]]
 | i + 1 => (chTo n i).flatMap (nextC n i)
def flatC (n m : Nat) : List (List Int) := (List.range m).flatMap (chTo n)
theorem flatC_succ (n m : Nat) : flatC n (m + 1) = flatC n m ++ chTo n m := by simp [flatC, List.range_succ, List.flatMap_append]
theorem flatC_more (n j : Nat) : ∀ d, ∃ X, flatC n (j + d) = flatC n j ++ X
 | 0 => ⟨[], by simp⟩
 | d + 1 => by
  obtain ⟨X, h⟩ := flatC_more n j d
  exact ⟨X ++ chTo n (j + d), by rw [← Nat.add_assoc, flatC_succ, h, List.append_assoc]⟩
def rkI (l : List Int) : Nat := rk (l.map Int.toNat)
def adjB : List (List Int) → Bool
 | x :: y :: l => decide (rkI x < rkI y) && adjB (y :: l)
 | _ => true
theorem adjB_lt : ∀ {l : List (List Int)} {x : List Int}, adjB (x :: l) = true → ∀ y ∈ l, rkI x < rkI y
 | [], _, _ => by simp
 | y :: l, x, h => by
  rw [adjB, Bool.and_eq_true, decide_eq_true_eq] at h
  intro z hz
  rcases List.mem_cons.1 hz with rfl | hz
  · exact h.1
  · exact Nat.lt_trans h.1 (adjB_lt h.2 z hz)
theorem adjB_tail {l : List (List Int)} {x : List Int} (h : adjB (x :: l) = true) : adjB l = true := by
 cases l with
 | nil => rfl
 | cons y l => rw [adjB, Bool.and_eq_true] at h; exact h.2
theorem find_least (p : List Int → Bool) : ∀ {F : List (List Int)} {b : List Int}, adjB F = true → F.find? p = some b → p b = true ∧ b ∈ F ∧ ∀ x ∈ F, p x = true → rkI b ≤ rkI x
 | [], _, _, h => by cases h
 | x :: l, b, ha, h => by
  rw [List.find?_cons] at h
  cases hp : p x with
  | true =>
   rw [hp] at h
   cases h
   refine ⟨hp, List.mem_cons_self .., fun y hy _ => ?_⟩
   rcases List.mem_cons.1 hy with rfl | hy
   · exact Nat.le_refl _
   · exact Nat.le_of_lt (adjB_lt ha y hy)
  | false =>
   rw [hp] at h
   obtain ⟨h1, h2, h3⟩ := find_least p (adjB_tail ha) h
   refine ⟨h1, List.mem_cons_of_mem _ h2, fun y hy hpy => ?_⟩
   rcases List.mem_cons.1 hy with rfl | hy
   · rw [hp] at hpy; cases hpy
   · exact h3 y hy hpy
def chFact : Bool := (List.range 7).all fun n => (List.range 7).all fun i => decide ((chTo n i).length ≤ 20) && (chTo n i).all fun g =>
 g.length == i && g.all (fun x => decide (0 ≤ x) && decide (x < n)) && decide (leastC i g ≤ n) && decide (0 ≤ leastC i g) && decide ((spanVals ⟨leastC i g, (n : Int) - 1⟩).length ≤ 6)
theorem chFact_true : chFact = true := by kernel_rfl
theorem ch_facts {n i : Nat} (hn : n ≤ 6) (hi : i ≤ 6) : (chTo n i).length ≤ 256 ∧ ∀ g ∈ chTo n i, g.length = i ∧ (∀ x ∈ g, 0 ≤ x ∧ x < n) ∧ leastC i g ≤ n ∧ 0 ≤ leastC i g ∧ (spanVals ⟨leastC i g, (n : Int) - 1⟩).length ≤ 6 := by
 have h := chFact_true
 rw [chFact, List.all_eq_true] at h
 have h1 := h n (List.mem_range.2 (by omega))
 rw [List.all_eq_true] at h1
 have h2 := h1 i (List.mem_range.2 (by omega))
 rw [Bool.and_eq_true, List.all_eq_true] at h2
 refine ⟨Nat.le_trans (of_decide_eq_true h2.1) (by decide), fun g hg => ?_⟩
 have h3 := h2.2 g hg
 simp only [Bool.and_eq_true, beq_iff_eq, decide_eq_true_eq, List.all_eq_true] at h3
 obtain ⟨⟨⟨⟨a, b⟩, d⟩, e⟩, f⟩ := h3
 exact ⟨a, b, d, e, f⟩
def flFact : Bool := (List.range 7).all fun n => adjB (flatC n (n + 1)) && ((flatC n (n + 1)).all fun l => (List.range (2 ^ n)).any fun s => natInts (listN s n) == l) && ((List.range (2 ^ n)).all fun s => (flatC n (n + 1)).any fun l => natInts (listN s n) == l) && decide (chTo n n = [natInts (listN (2 ^ n - 1) n)])
theorem flFact_true : flFact = true := by kernel_rfl
theorem fl_facts {n : Nat} (hn : n ≤ 6) : adjB (flatC n (n + 1)) = true ∧ (∀ l ∈ flatC n (n + 1), ∃ s, s < 2 ^ n ∧ l = natInts (listN s n)) ∧ (∀ s, s < 2 ^ n → natInts (listN s n) ∈ flatC n (n + 1)) ∧ chTo n n = [natInts (listN (2 ^ n - 1) n)] := by
 have h := flFact_true
 rw [flFact, List.all_eq_true] at h
 have h1 := h n (List.mem_range.2 (by omega))
 simp only [Bool.and_eq_true, List.all_eq_true, List.any_eq_true, beq_iff_eq, decide_eq_true_eq, List.mem_range] at h1
 obtain ⟨⟨⟨a, b⟩, c⟩, d⟩ := h1
 refine ⟨a, fun l hl => ?_, fun s hs => ?_, d⟩
 · obtain ⟨s, hs, e⟩ := b l hl; exact ⟨s, hs, e.symm⟩
 · obtain ⟨l, hl, e⟩ := c s hs; rw [e]; exact hl
theorem rkI_nat (l : List Nat) : rkI (natInts l) = rk l := by rw [rkI, natInts, List.map_map]; congr 1; exact (List.map_congr_left fun x _ => by simp).trans (List.map_id _)
theorem find_hit {F G X : List (List Int)} {p : List Int → Bool} {k : Nat} (hF : ∀ b ∈ F, p b = false) (hk : k < G.length) (hG : ∀ q, q < k → p (nth G q) = false) (hp : p (nth G k) = true) : (F ++ G ++ X).find? p = some (nth G k) := by
 have e : G = G.take k ++ nth G k :: G.drop (k + 1) := by rw [← drop_nth hk, List.take_append_drop]
 have h1 : F.find? p = none := List.find?_eq_none.2 fun b hb => by rw [hF b hb]; simp
 have h2 : (G.take k).find? p = none := List.find?_eq_none.2 fun b hb => by
  obtain ⟨q, hq, rfl⟩ := List.getElem_of_mem hb
  have hq2 : q < k := by simp at hq; omega
  have := hG q hq2
  rw [nth_eq (by omega)] at this
  rw [List.getElem_take, this]; simp
 rw [List.append_assoc, List.find?_append, h1, Option.none_or]
 rw [show (G ++ X).find? p = ((G.take k ++ nth G k :: G.drop (k + 1)) ++ X).find? p by rw [← e]]
 rw [List.append_assoc, List.find?_append, h2, Option.none_or, List.cons_append, List.find?_cons, hp]
set_option maxHeartbeats 2000000 in
set_option maxRecDepth 100000 in
theorem choices_any {n many : Nat} (hn : n ≤ 6) (hmn : many ≤ 6) (w : World) :
 Calls Tryz.prog 77 #[.int .i64 n, .int .i64 many] w fun e w' =>
  ∃ A c', e = .returned (.slice A (chTo n many).length c') ∧ ListsS w' w'.heap.size A (chTo n many).length c' (chTo n many) ∧ Below w.heap.size w w' := by
 obtain ⟨i1, gi, gz0, gz1, gz2⟩ := info_parts Tryz.infoInts
 have hB0 : Below w.heap.size w (w.alloc (.cells #[.slice none 0 0] 35)) := (Below.refl _ _).alloc (Nat.le_refl _) _
 have hO0 : OwnLists (w.alloc (.cells #[.slice none 0 0] 35)) w.heap.size (.slice (some ⟨w.heap.size, 0, none⟩) 1 1) [[]] :=
  ⟨[.slice none 0 0], by simpa using World.ownsRow_lit (base := w.heap.size) (e := 35) (size := 1) w #[.slice none 0 0] 1 (by simp) (by simp [maxLen]) rfl,
   fun j hj => by obtain rfl : j = 0 := by simpa using hj
                  exact ⟨_, rfl, World.ownsRow_nil _ _ _ _⟩⟩
 obtain ⟨A0, cc0, e0, hL0⟩ := hO0.lists
 simp only [Value.slice.injEq, List.length_singleton, true_and] at e0
 obtain ⟨rfl, rfl⟩ := e0
 have HB0 := hide hB0
 have HL0 := hide hL0
 clear hB0 hO0 hL0
 go_enter Tryz.func77, Tryz.ntmps77
 go_wp2_with fail
 go_loopw [5, 6, 7, 8, 9, 10] (fun v5 v6 _ _ _ _ wr => ∃ (i : Nat) (A : Option Addr) (cc : Nat), i ≤ many ∧ v6 = .int .i64 i ∧ v5 = .slice A (chTo n i).length cc ∧ Below w.heap.size w wr ∧
  ListsS wr wr.heap.size A (chTo n i).length cc (chTo n i)) (fun _ v6 _ _ _ _ _ => many - (intOf v6).toNat)
 case atStart => exact ⟨0, _, _, Nat.zero_le _, rfl, rfl, HB0.out, HL0.out⟩
 case round =>
  obtain ⟨i, A, cc, hi', rfl, rfl, hB, hL⟩ := hrel
  obtain ⟨wa, rfl⟩ : ∃ wa : World, wa = wr := ⟨_, rfl⟩
  have hi0 : (0 : Int) ≤ (i : Int) := Int.natCast_nonneg _
  by_cases hlt : i < many
  · have hj1 : (i : Int) < (many : Int) := by omega
    have HSU := hide (show chTo n (i + 1) = (chTo n i).flatMap (nextC n i) from rfl)
    obtain ⟨hGl, hgf⟩ := ch_facts hn (show i ≤ 6 by omega)
    have HGF := hide hgf
    have HNX : Hid (∀ g ∈ chTo n i, (nextC n i g).length ≤ 6) := hide (fun g hg => by rw [nextC, List.length_map]; exact (HGF.out g hg).2.2.2.2)
    clear hgf
    go_wp2_with fail
    generalize hGG : chTo n i = G at *
    have HGG := hide hGG
    clear hGG
    go_loopw [7, 8, 9, 10] (fun v7 v8 _ _ w2 => ∃ k : Nat, k ≤ G.length ∧ v8 = .int .i64 k ∧ Below wa.heap.size wa w2 ∧ OwnLists w2 wa.heap.size v7 ((G.take k).flatMap (nextC n i))) (fun _ v8 _ _ _ => G.length - (intOf v8).toNat)
    case atStart => exact ⟨0, Nat.zero_le _, rfl, Below.refl _ _, OwnLists.nil_⟩
    case round =>
     obtain ⟨k, hk, rfl, hB2, hO⟩ := hrel
     obtain ⟨k2, f2⟩ := bcell hB2
     have hk0 : (0 : Int) ≤ (k : Int) := Int.natCast_nonneg _
     by_cases hlt2 : k < G.length
     · obtain ⟨wb, rfl⟩ : ∃ wb : World, wb = wr := ⟨_, rfl⟩
       obtain ⟨bg, og, Ag, cg, rfl, hbg, hgc, hgi⟩ := hL.at_ hlt2
       have hk1 : (k : Int) < (G.length : Int) := by omega
       have hz2 := hB2.size
       have hbz : bg < wb.heap.size := by omega
       obtain ⟨hgl2, hgx, hl1, hl2, hl3⟩ := HGF.out (nth G k) (by rw [nth_eq hlt2]; exact List.getElem_mem hlt2)
       have HGL2 := hide hgl2
       have HFT := hide (flat_take G (nextC n i) hlt2)
       by_cases hz : i = 0
       · subst hz
         have HNC := hide (show nextC n 0 (nth G k) = (spanVals ⟨0, (n : Int) - 1⟩).map fun x => nth G k ++ [x] from rfl)
         have hl3 : (spanVals ⟨0, (n : Int) - 1⟩).length ≤ 6 := hl3
         clear hgl2 hgx hl1 hl2
         go_wp2_with fail
         go_loopw [7, 10] (fun v7 v10 w3 => ∃ m : Nat, (m : Int) ≤ (n : Int) - ((0 : Int)) ∧ v10 = .int .i64 ((0 : Int) + m) ∧ Below wa.heap.size wa w3 ∧
          OwnLists w3 wa.heap.size v7 ((G.take k).flatMap (nextC n 0) ++ ((spanVals ⟨(0 : Int), (n : Int) - 1⟩).take m).map fun x => nth G k ++ [x])) (fun _ v10 _ => ((n : Int) - intOf v10).toNat)
         case atStart => exact ⟨0, by omega, by simp, hB2, by simpa using hO⟩
         case round =>
          clear hB2 hO k2 f2
          obtain ⟨m, hm, rfl, hB3, hO⟩ := hrel
          obtain ⟨k2, f2⟩ := bcell hB3
          by_cases hle : (m : Int) ≤ (n : Int) - 1 - ((0 : Int))
          · have hgiw := hgi.below hB3
            have hq3 : (0 : Int) + (m : Int) < (n : Int) := by omega
            have hq4 : ¬ (n : Int) ≤ (0 : Int) + (m : Int) := by omega
            have hq5 : m < n := by omega
            have hz3 := hB3.size
            have hbgz : bg < wr.heap.size := by omega
            have HLEN : Hid (((G.take k).flatMap (nextC n 0) ++ ((spanVals ⟨(0 : Int), (n : Int) - 1⟩).take m).map fun x => nth G k ++ [x]).length ≤ 100000) := by
             have h1 := flat_lenU (G.take k) (nextC n 0) 6 (fun g hg => HNX.out g (List.mem_of_mem_take hg))
             have h2 : (((spanVals ⟨(0 : Int), (n : Int) - 1⟩).take m).map fun x => nth G k ++ [x]).length ≤ 6 := by rw [List.length_map]; have := List.length_take_le m (spanVals ⟨(0 : Int), (n : Int) - 1⟩); omega
             have h3 : (G.take k).length ≤ G.length := by simp; omega
             show _ ≤ _
             rw [List.length_append]
             omega
            go_wp2_with (first
             | (at_builtin
                refine wpList_app_ints _ rfl (.tmp 41) (.tmp 45) rfl wr.heap.size (.slice (some ⟨wr.heap.size, 0, none⟩) 0 0) 0 [] rfl (World.ownsRow_lit _ #[] 0 (Nat.le_refl _) (by simp [maxLen]) rfl) Ag _ cg _ _ rfl (hgiw.below ((Below.refl _ _).alloc (by omega) _)) (by have := HGL2.out; omega) (by simp) ?_
                intro v1 w4 hown1 hg1 hat1
                have hbA : Below wr.heap.size wr w4 := ((Below.refl _ wr).alloc (Nat.le_refl _) (.cells #[] 3)).grown hg1 (by simp) (fun k hk => by simp [Value.ownBlock] at hk; omega)
                have hzA := hbA.size
                clear hg1 hat1)
             | (at_builtin
                refine wpList_app_ints _ rfl (.tmp 46) (.tmp 48) rfl wr.heap.size v1 _ _ rfl (hown1.alloc _) (some ⟨w4.heap.size, 0, none⟩) 1 1 _ [(m : Int)] rfl (IntsS.lit1 rfl _) (by have := HGL2.out; omega) (by simp; omega) ?_
                intro v2 w5 hown2 hg2 hat2
                have hbB := hbA.trans (app_below hzA hown1 hg2)
                have hown2' : w5.ownsRow wr.heap.size 3 1 v2 ((nth G k).length + 1) ((nth G k ++ [(m : Int)]).map (Value.int .i64)) := by simpa using hown2
                obtain ⟨A2', c2', rfl, hs2⟩ := IntsS.of_own hown2'
                have HOWN2 := hide (show w5.ownsRow wa.heap.size 3 1 (.slice A2' ((nth G k).length + 1) c2') (nth G k ++ [(m : Int)]).length ((nth G k ++ [(m : Int)]).map (Value.int .i64)) by rw [List.length_append]; exact own_base hown2' hz3)
                obtain ⟨vs, hv1, hv2⟩ := hO.below hbB
                have hzB := hbB.size
                clear hg2 hat2 hown2 hown2' hs2 hown1)
             | (at_builtin
                refine wpList_append_own _ rfl (.tmp 40) (.tmp 50) _ rfl wa.heap.size 35 i1 (.slice none 0 0) 1 24 Tryz.underlying105 gi gz0 gz1 gz2 rfl (by decide) _ _ vs rfl (hv1.alloc _) ⟨w5.heap.size, 0, none⟩ 1 1 [.slice A2' ((nth G k).length + 1) c2'] rfl rfl ?c1 ?c2 ?c3 ?c4 ?c5 ?_
                case c1 => exact cell_one_new _ _ _
                case c2 => simp [Value.oneCell']
                case c3 => simp only [maxLen]; have := HLEN.out; omega
                case c4 => have := HLEN.out; omega
                case c5 => simp; omega
                intro v' w6 hown6 hg6 _
                have hbC := app_below (show wa.heap.size ≤ w5.heap.size by omega) hv1 hg6
                have hOO := OwnLists.snoc hv1 hv2 HOWN2.out hown6 hg6
                clear hg6 hown6))
            go_roundw
            case rel =>
             exact ⟨m + 1, by omega, by go_num, hB3.trans ((hbB.mono hz3).trans hbC), by rw [← List.map_take, take_map_range ⟨(0 : Int), (n : Int) - 1⟩ hle]; simpa using hOO⟩
            case measure => simp [intOf]; omega
          · have hq3 : ¬ (0 : Int) + (m : Int) < (n : Int) := by omega
            have hq4 : (n : Int) ≤ (0 : Int) + (m : Int) := by omega
            have hq5 : ¬ m < n := by omega
            go_wp2
            go_roundw
            case rel => exact ⟨k + 1, by omega, by go_num, hB3, by rw [HFT.out, HNC.out]; rw [spanVals_take ⟨(0 : Int), (n : Int) - 1⟩ (show (n : Int) - 1 - ((0 : Int)) < m by omega)] at hO; exact hO⟩
            case measure => simp [intOf]; omega
       · obtain ⟨q, hq⟩ : ∃ q : Nat, i = q + 1 := ⟨i - 1, by omega⟩
         have hq1 : (i : Int) - 1 = (q : Int) := by omega
         have hq2 : (i : Int) > 0 := by omega
         have hq0 : (0 : Int) ≤ (q : Int) := Int.natCast_nonneg _
         have hlc : leastC i (nth G k) = nth (nth G k) q + 1 := by rw [leastC, if_neg hz, show i - 1 = q by omega]
         have HNC := hide (show nextC n i (nth G k) = (spanVals ⟨nth (nth G k) q + 1, (n : Int) - 1⟩).map fun x => nth G k ++ [x] by rw [nextC, hlc])
         rw [hlc] at hl1 hl2 hl3
         have hqn : q < (nth G k).length := by omega
         have hqi : (q : Int) < ((nth G k).length : Int) := by omega
         obtain ⟨bh, oh, eA, hbh, hch⟩ := hgi.row.ints hqn
         subst eA
         have hbh2 : bh < wb.heap.size := by omega
         have hx := hgx (nth (nth G k) q) (by rw [nth_eq hqn]; exact List.getElem_mem hqn)
         clear hgl2 hgx hlc hz hq
         generalize hX : nth (nth G k) q = x at *
         have HX := hide hX
         clear hX
         obtain ⟨hx0, hx1⟩ := hx
         go_wp2_with fail
         go_loopw [7, 10] (fun v7 v10 w3 => ∃ m : Nat, (m : Int) ≤ (n : Int) - (x + 1) ∧ v10 = .int .i64 (x + 1 + m) ∧ Below wa.heap.size wa w3 ∧
          OwnLists w3 wa.heap.size v7 ((G.take k).flatMap (nextC n i) ++ ((spanVals ⟨x + 1, (n : Int) - 1⟩).take m).map fun x => nth G k ++ [x])) (fun _ v10 _ => ((n : Int) - intOf v10).toNat)
         case atStart => exact ⟨0, by omega, by simp, hB2, by simpa using hO⟩
         case round =>
          clear hB2 hO k2 f2
          obtain ⟨m, hm, rfl, hB3, hO⟩ := hrel
          obtain ⟨k2, f2⟩ := bcell hB3
          by_cases hle : (m : Int) ≤ (n : Int) - 1 - (x + 1)
          · have hgiw := hgi.below hB3
            have hq3 : x + 1 + (m : Int) < (n : Int) := by omega
            have hq4 : ¬ (n : Int) ≤ x + 1 + (m : Int) := by omega
            have hz3 := hB3.size
            have hbgz : bg < wr.heap.size := by omega
            have HLEN : Hid (((G.take k).flatMap (nextC n i) ++ ((spanVals ⟨x + 1, (n : Int) - 1⟩).take m).map fun x => nth G k ++ [x]).length ≤ 100000) := by
             have h1 := flat_lenU (G.take k) (nextC n i) 6 (fun g hg => HNX.out g (List.mem_of_mem_take hg))
             have h2 : (((spanVals ⟨x + 1, (n : Int) - 1⟩).take m).map fun x => nth G k ++ [x]).length ≤ 6 := by rw [List.length_map]; have := List.length_take_le m (spanVals ⟨x + 1, (n : Int) - 1⟩); omega
             have h3 : (G.take k).length ≤ G.length := by simp; omega
             show _ ≤ _
             rw [List.length_append]
             omega
            go_wp2_with (first
             | (at_builtin
                refine wpList_app_ints _ rfl (.tmp 41) (.tmp 45) rfl wr.heap.size (.slice (some ⟨wr.heap.size, 0, none⟩) 0 0) 0 [] rfl (World.ownsRow_lit _ #[] 0 (Nat.le_refl _) (by simp [maxLen]) rfl) (some ⟨bh, oh, none⟩) _ cg _ _ rfl (hgiw.below ((Below.refl _ _).alloc (by omega) _)) (by have := HGL2.out; omega) (by simp) ?_
                intro v1 w4 hown1 hg1 hat1
                have hbA : Below wr.heap.size wr w4 := ((Below.refl _ wr).alloc (Nat.le_refl _) (.cells #[] 3)).grown hg1 (by simp) (fun k hk => by simp [Value.ownBlock] at hk; omega)
                have hzA := hbA.size
                clear hg1 hat1)
             | (at_builtin
                refine wpList_app_ints _ rfl (.tmp 46) (.tmp 48) rfl wr.heap.size v1 _ _ rfl (hown1.alloc _) (some ⟨w4.heap.size, 0, none⟩) 1 1 _ [x + 1 + m] rfl (IntsS.lit1 rfl _) (by have := HGL2.out; omega) (by simp; omega) ?_
                intro v2 w5 hown2 hg2 hat2
                have hbB := hbA.trans (app_below hzA hown1 hg2)
                have hown2' : w5.ownsRow wr.heap.size 3 1 v2 ((nth G k).length + 1) ((nth G k ++ [x + 1 + (m : Int)]).map (Value.int .i64)) := by simpa using hown2
                obtain ⟨A2', c2', rfl, hs2⟩ := IntsS.of_own hown2'
                have HOWN2 := hide (show w5.ownsRow wa.heap.size 3 1 (.slice A2' ((nth G k).length + 1) c2') (nth G k ++ [x + 1 + (m : Int)]).length ((nth G k ++ [x + 1 + (m : Int)]).map (Value.int .i64)) by rw [List.length_append]; exact own_base hown2' hz3)
                obtain ⟨vs, hv1, hv2⟩ := hO.below hbB
                have hzB := hbB.size
                clear hg2 hat2 hown2 hown2' hs2 hown1)
             | (at_builtin
                refine wpList_append_own _ rfl (.tmp 40) (.tmp 50) _ rfl wa.heap.size 35 i1 (.slice none 0 0) 1 24 Tryz.underlying105 gi gz0 gz1 gz2 rfl (by decide) _ _ vs rfl (hv1.alloc _) ⟨w5.heap.size, 0, none⟩ 1 1 [.slice A2' ((nth G k).length + 1) c2'] rfl rfl ?c1 ?c2 ?c3 ?c4 ?c5 ?_
                case c1 => exact cell_one_new _ _ _
                case c2 => simp [Value.oneCell']
                case c3 => simp only [maxLen]; have := HLEN.out; omega
                case c4 => have := HLEN.out; omega
                case c5 => simp; omega
                intro v' w6 hown6 hg6 _
                have hbC := app_below (show wa.heap.size ≤ w5.heap.size by omega) hv1 hg6
                have hOO := OwnLists.snoc hv1 hv2 HOWN2.out hown6 hg6
                clear hg6 hown6))
            go_roundw
            case rel =>
             exact ⟨m + 1, by omega, by go_num, hB3.trans ((hbB.mono hz3).trans hbC), by rw [← List.map_take, take_map_range ⟨x + 1, (n : Int) - 1⟩ hle]; simpa using hOO⟩
            case measure => simp [intOf]; omega
          · have hq3 : ¬ x + 1 + (m : Int) < (n : Int) := by omega
            have hq4 : (n : Int) ≤ x + 1 + (m : Int) := by omega
            go_wp2
            go_roundw
            case rel => exact ⟨k + 1, by omega, by go_num, hB3, by rw [HFT.out, HNC.out]; rw [spanVals_take ⟨x + 1, (n : Int) - 1⟩ (show (n : Int) - 1 - (x + 1) < m by omega)] at hO; exact hO⟩
            case measure => simp [intOf]; omega
     · have hkk : k = G.length := by omega
       rw [hkk, List.take_length, ← HSU.out] at hO
       clear hkk
       obtain ⟨A', c', rfl, hL'⟩ := hO.lists
       go_wp2
       go_roundw
       case rel => exact ⟨i + 1, A', c', by omega, by go_num, rfl, hB.trans (hB2.mono hB.size), hL'⟩
       case measure => simp [intOf]; omega
  · obtain rfl : i = many := by omega
    go_wp2
    go_ret
    exact ⟨A, cc, rfl, hL, hB⟩
end Go.Proofs.YtocdmkilnbpkdaaGreatDoor
/- Wrong of the reference. -/
namespace Go.Proofs.YtocdmkilnbpkdaaGreatDoor
open Go.RowKit
attribute [local go_sem] Oper.semAt_some

/-- What Wrong answers: the first choice without which there is a truth, but the last. -/
def emptyB (b : Book) (l : List Int) : Bool := !someB b (hasInt l ·)
def wrongL (b : Book) : List Int := match (flatC b.tallies.length b.tallies.length).find? (fun l => !emptyB b l) with | some l => l | none => nth (chTo b.tallies.length b.tallies.length) 0
theorem wrong_hit {b : Book} {j k : Nat} (hj : j < b.tallies.length) (hk : k < (chTo b.tallies.length j).length) (hF : ∀ l ∈ flatC b.tallies.length j, emptyB b l = true) (hG : ∀ q, q < k → emptyB b (nth (chTo b.tallies.length j) q) = true) (hp : emptyB b (nth (chTo b.tallies.length j) k) = false) : wrongL b = nth (chTo b.tallies.length j) k := by
 obtain ⟨d, hd⟩ : ∃ d, b.tallies.length = j + 1 + d := ⟨b.tallies.length - (j + 1), by omega⟩
 obtain ⟨X, hX⟩ := flatC_more b.tallies.length (j + 1) d
 rw [flatC_succ, ← hd] at hX
 rw [wrongL, hX, find_hit (p := fun l => !emptyB b l) (k := k) (fun l hl => by rw [hF l hl]; rfl) hk (fun q hq => by rw [hG q hq]; rfl) (by rw [hp]; rfl)]
theorem wrong_none {b : Book} (hF : ∀ l ∈ flatC b.tallies.length b.tallies.length, emptyB b l = true) : wrongL b = nth (chTo b.tallies.length b.tallies.length) 0 := by
 rw [wrongL, List.find?_eq_none.2 fun l hl => by rw [hF l hl]; simp]
theorem ch_len (n : Nat) (hn : n ≤ 6) : (chTo n n).length = 1 := by rw [(fl_facts hn).2.2.2]; rfl
theorem flat_step {b : Book} {j : Nat} (h1 : ∀ l ∈ flatC b.tallies.length j, emptyB b l = true) (h2 : ∀ q, q < (chTo b.tallies.length j).length → emptyB b (nth (chTo b.tallies.length j) q) = true) : ∀ l ∈ flatC b.tallies.length (j + 1), emptyB b l = true := fun l hl => by
 rw [flatC_succ, List.mem_append] at hl
 rcases hl with hl | hl
 · exact h1 l hl
 · obtain ⟨q, hq, rfl⟩ := List.getElem_of_mem hl
   rw [← nth_eq hq]; exact h2 q hq
theorem rkF_inj : ((List.range 7).all fun n => (List.range (2 ^ n)).all fun s => (List.range (2 ^ n)).all fun t => decide (rk (listN s n) = rk (listN t n) → listN s n = listN t n)) = true := by kernel_rfl
theorem rk_inj {n s t : Nat} (hn : n ≤ 6) (hs : s < 2 ^ n) (ht : t < 2 ^ n) (h : rk (listN s n) = rk (listN t n)) : listN s n = listN t n := by
 have h0 := rkF_inj
 rw [List.all_eq_true] at h0
 have h1 := h0 n (List.mem_range.2 (by omega))
 rw [List.all_eq_true] at h1
 have h2 := h1 s (List.mem_range.2 hs)
 rw [List.all_eq_true] at h2
 exact of_decide_eq_true (h2 t (List.mem_range.2 ht)) h
/-- Both Wrongs answer the same. -/
theorem wrong_same {b : Book} (hc : (checkM b).2.2 = 0) : wrongV b = ((wrongL b).map Int.toNat, 0) ∧ natInts ((wrongL b).map Int.toNat) = wrongL b := by
 have hv := valid_of hc
 have hn := hv.tallies
 obtain ⟨s, hs, hw, ha, hle⟩ := wrong_of hc
 obtain ⟨hadj, hall, hmem, hlast⟩ := fl_facts hn
 have hp : ∀ t, t < 2 ^ b.tallies.length → (!emptyB b (natInts (listN t b.tallies.length))) = someB b (fun i => t.testBit i) := fun t ht => by
  rw [emptyB, Bool.not_not, some_set hn ht]
 have hN : flatC b.tallies.length (b.tallies.length + 1) = flatC b.tallies.length b.tallies.length ++ chTo b.tallies.length b.tallies.length := flatC_succ _ _
 have key : ∃ t, t < 2 ^ b.tallies.length ∧ wrongL b = natInts (listN t b.tallies.length) ∧ someB b (fun i => t.testBit i) = true ∧ ∀ x ∈ flatC b.tallies.length (b.tallies.length + 1), (!emptyB b x) = true → rkI (natInts (listN t b.tallies.length)) ≤ rkI x := by
  cases hf : (flatC b.tallies.length (b.tallies.length + 1)).find? (fun l => !emptyB b l) with
  | none =>
   have := List.find?_eq_none.1 hf _ (hmem s hs)
   rw [hp s hs, ha] at this
   exact absurd rfl this
  | some l =>
   obtain ⟨h1, h2, h3⟩ := find_least _ hadj hf
   obtain ⟨t, ht, rfl⟩ := hall l h2
   rw [hp t ht] at h1
   refine ⟨t, ht, ?_, h1, h3⟩
   rw [hN, List.find?_append] at hf
   rw [wrongL]
   cases hg : (flatC b.tallies.length b.tallies.length).find? (fun l => !emptyB b l) with
   | some l => rw [hg] at hf; simpa using hf
   | none =>
    rw [hg, Option.none_or, hlast] at hf
    rw [List.find?_cons] at hf
    split at hf
    · simp only [Option.some.injEq] at hf
      simp only
      rw [hlast]; exact hf
    · simp at hf
 obtain ⟨t, ht, e, hat, hlt⟩ := key
 have h1 := hle t ht hat
 have h2 := hlt _ (hmem s hs) (by rw [hp s hs]; exact ha)
 rw [rkI_nat, rkI_nat] at h2
 have e2 := rk_inj hn hs ht (by omega)
 have e3 : (natInts (listN t b.tallies.length)).map Int.toNat = listN t b.tallies.length := by
  rw [natInts, List.map_map]; exact (List.map_congr_left fun x _ => by simp).trans (List.map_id _)
 rw [hw, e, e3, e2]
 exact ⟨rfl, rfl⟩
def wrongR (b : Book) : List Int × Int := if (checkM b).2.2 = 0 then (wrongL b, 0) else ([], (checkM b).2.2)
set_option maxHeartbeats 4000000 in
set_option maxRecDepth 100000 in
theorem wrong12_any {b : Book} {a : BA} {w : World} (h : BookV w w.heap.size b a) :
 Calls Tryz.prog 32 #[bookVal b a] w fun e w' => ∃ A cp, e = .returned (.tuple #[.slice A (wrongR b).1.length cp, .int .i64 (wrongR b).2]) ∧ IntsS w' w'.heap.size A (wrongR b).1.length cp (wrongR b).1 ∧ Below w.heap.size w w' := by
 have HBX0 := hide (BoxB.made h)
 have HB0 : Hid (Below w.heap.size w (w.alloc (.cells (bookCells b a) 25))) := hide ((Below.refl _ _).alloc (Nat.le_refl _) _)
 have hm2 := h.m2
 unfold maxLen at hm2
 have HHV := hide h
 clear h
 go_enter Tryz.func32, Tryz.ntmps32
 go_upto_region 1 with (fail)
 generalize (w.alloc (.cells (bookCells b a) 25)) = w0 at *
 obtain ⟨hz, e1, e2⟩ := HBX0.out.cells
 go_upto_region 2 with (go_at_call 18; refine (check12_any HBX0.out.v).mono ?_; rintro e y1 ⟨rfl, hb⟩)
 have HBX1 := hide (HBX0.out.next hb)
 have HB1 := hide (HB0.out.trans (hb.mono HB0.out.size))
 clear hb hz e1 e2
 have HX := hide (show wrongR b = if (checkM b).2.2 = 0 then (wrongL b, 0) else ([], (checkM b).2.2) from rfl)
 have HVE := hide (fun (hh : (checkM b).2.2 = 0) => valid_of hh)
 generalize (checkM b).1 = k1 at *
 generalize (checkM b).2.1 = k2 at *
 generalize (checkM b).2.2 = er at *
 cases he : (er != 0) with
 | true =>
  have hne : ¬ er = 0 := by simpa using he
  have HY := hide (show wrongR b = ([], er) by rw [HX.out, if_neg hne])
  clear hne
  go_wp2_with fail
  go_ret2
  rw [HY.out]
  exact ⟨none, 0, rfl, IntsS.nil_, HB1.out⟩
 | false =>
  have hz' : er = 0 := by simpa using he
  have hv := HVE.out hz'
  have HY := hide (show wrongR b = (wrongL b, 0) by rw [HX.out, if_pos hz'])
  subst hz'
  clear HX HVE he
  have hn5 := hv.tallies
  have HV := hide hv
  have HHIT := hide (fun (j k : Nat) => wrong_hit (b := b) (j := j) (k := k))
  have HNON := hide (wrong_none (b := b))
  have HST := hide (fun (j : Nat) => flat_step (b := b) (j := j))
  have HCL := hide (ch_len b.tallies.length hn5)
  clear hv
  go_wp2_with fail
  go_loopw [7, 8, 9] (fun v7 _ _ wr => ∃ j : Nat, j ≤ b.tallies.length ∧ v7 = .int .i64 j ∧ Below y1.heap.size y1 wr ∧ Hid (∀ l ∈ flatC b.tallies.length j, emptyB b l = true)) (fun v7 _ _ _ => b.tallies.length - (intOf v7).toNat)
  case atStart => exact ⟨0, Nat.zero_le _, rfl, Below.refl _ _, hide (fun l hl => by simp [flatC] at hl)⟩
  case round =>
   obtain ⟨j, hj, rfl, hB, HP⟩ := hrel
   have hj0 : (0 : Int) ≤ (j : Int) := Int.natCast_nonneg _
   have HBXa := hide (HBX1.out.next hB)
   have HBa := hide (HB1.out.trans (hB.mono HB1.out.size))
   obtain ⟨hz, e1, e2⟩ := HBXa.out.cells
   by_cases hlt : j < b.tallies.length
   · have hj1 : (j : Int) < (b.tallies.length : Int) := by omega
     go_upto_region 8 with (go_at_call 77; refine (choices_any hn5 (show j ≤ 6 by omega) _).mono ?_; rintro e w2 ⟨AL, cL, rfl, hL, hb2⟩)
     have HBX2 := hide (HBXa.out.next hb2)
     have HBV := hide (hB.trans (hb2.mono hB.size))
     have HBX := hide (HBa.out.trans (hb2.mono HBa.out.size))
     have HL := hide hL
     have hlm := hL.bd
     clear hL hb2 hz e1 e2 hB HBXa
     generalize hGG : chTo b.tallies.length j = G at *
     have HGG := hide hGG
     clear hGG
     go_wp2_with fail
     go_loopw [9] (fun v9 w3 => ∃ k : Nat, k ≤ G.length ∧ v9 = .int .i64 k ∧ Below w2.heap.size w2 w3 ∧ Hid (∀ q, q < k → emptyB b (nth G q) = true)) (fun v9 _ => G.length - (intOf v9).toNat)
     case atStart => exact ⟨0, Nat.zero_le _, rfl, Below.refl _ _, hide (fun q hq => absurd hq (Nat.not_lt_zero _))⟩
     case round =>
      obtain ⟨k, hk', rfl, hB2, HR⟩ := hrel
      have hk0 : (0 : Int) ≤ (k : Int) := Int.natCast_nonneg _
      have HB2r := hide hB2
      have hz2 := hB2.size
      have HBXr := hide (HBX2.out.next hB2)
      have HLr := hide (HL.out.next hB2)
      have HBXz := hide (HBX.out.trans (hB2.mono HBX.out.size))
      have HBVr := hide (HBV.out.trans (hB2.mono HBV.out.size))
      clear hB2
      by_cases hlt2 : k < G.length
      · have hk1 : (k : Int) < (G.length : Int) := by omega
        obtain ⟨hz, e1, e2⟩ := HBXr.out.cells
        obtain ⟨bg, og, Ag, cg, hAg, hbgz, hgc, hgi⟩ := HLr.out.at_ hlt2
        have HGr := hide hgi
        subst hAg
        clear hgi
        have HBX := HBXz
        generalize hgg : nth G k = g at *
        have HGK := hide hgg
        clear hgg
        have HEM := hide (show emptyB b g = !someB b (hasInt g ·) from rfl)
        generalize hem : emptyB b g = em at *
        have HEQ := hide hem
        clear hem
        have HGN : Hid (someB b (hasInt g ·) = !em) := hide (by rw [HEM.out, Bool.not_not])
        have h12 : b.tallies.length ≤ 12 := by omega
        go_wp2_with fail
        refine wp_region_rel (dst := fun oi => [37, 38, 39, 40, 41, 42].getD oi 0) (mono := fun oi => decide (oi < 6)) (pre := fun oi => decide (oi < 6)) (R := LKeep (fun _ => False) (fun _ => True))
         (Pv := fun oi v W => match oi with
          | 0 => v = bookVal b a
          | 1 => v = .slice (some ⟨bg, og, none⟩) G.length cL
          | 2 => v = .int .i64 (k : Nat)
          | 3 => v = .pointer (some ⟨bg, og + k, none⟩)
          | 4 => v = .slice Ag g.length cg
          | 5 => v = .bool (!em)
          | _ => True) (by kernel_rfl) (by kernel_rfl) (LKeep.refl _ _) (fun _ _ _ h h' => h.trans h') ?hstB ?hstepB ?hendB
        case hstB =>
         intro oi v W W' h hk
         match oi, h with
         | 0, h => exact h
         | 1, h => exact h
         | 2, h => exact h
         | 3, h => exact h
         | 4, h => exact h
         | 5, h => exact h
         | oi + 6, h => exact trivial
        case hstepB =>
         intro oi hoi hom listed vs ao W hU hk0 hpv haft Ko hK
         have hkk := (LKeep.drew (fun _ => False) (M := fun _ => True) wr (fun h => h)).trans hk0
         have hk := hkk.1
         have hkm := hkk.2
         clear hkk
         match oi, hoi, hom with
         | 0, hoi, hom =>
          have z1 : ao.tmps[1]?.getD undef = .pointer (some ⟨w.heap.size, 0, none⟩) := hU.same 1 (by decide)
          have y0 := (hk.cell (b := w.heap.size) (o := 0) (hz) (fun h => h)).trans (e1)
          have y1 := (hk.cell (b := w.heap.size) (o := 1) (hz) (fun h => h)).trans (e2)
          refine wpOp_value (v := bookVal b a) (W' := W) rfl rfl ?_ (hK _ _ (LKeep.refl _ _ _) rfl)
          go_simp
         | 1, hoi, hom =>
          have z8 : ao.tmps[8]?.getD undef = .slice (some ⟨bg, og, none⟩) G.length cL := hU.same 8 (by decide)
          refine wpOp_value (v := .slice (some ⟨bg, og, none⟩) G.length cL) (W' := W) rfl rfl ?_ (hK _ _ (LKeep.refl _ _ _) rfl)
          go_simp
         | 2, hoi, hom =>
          have z9 : ao.tmps[9]?.getD undef = .int .i64 (k : Nat) := hU.same 9 (by decide)
          refine wpOp_value (v := .int .i64 (k : Nat)) (W' := W) rfl rfl ?_ (hK _ _ (LKeep.refl _ _ _) rfl)
          go_simp
         | 3, hoi, hom =>
          have l1 := haft _ rfl ⟨1, .data⟩ (by simp) rfl
          have s1 : ao.tmps[38]?.getD undef = .slice (some ⟨bg, og, none⟩) G.length cL := (hU.slot 1 (by decide) l1).trans (hpv 1 l1)
          have l2 := haft _ rfl ⟨2, .data⟩ (by simp) rfl
          have s2 : ao.tmps[39]?.getD undef = .int .i64 (k : Nat) := (hU.slot 2 (by decide) l2).trans (hpv 2 l2)
          refine wpOp_value (v := .pointer (some ⟨bg, og + k, none⟩)) (W' := W) rfl rfl ?_ (hK _ _ (LKeep.refl _ _ _) rfl)
          go_simp
         | 4, hoi, hom =>
          have l3 := haft _ rfl ⟨3, .data⟩ (by simp) rfl
          have s3 : ao.tmps[40]?.getD undef = .pointer (some ⟨bg, og + k, none⟩) := (hU.slot 3 (by decide) l3).trans (hpv 3 l3)
          have y0 := (hk.cell (b := bg) (o := og + k) (hbgz) (fun h => h)).trans (hgc)
          refine wpOp_value (v := .slice Ag g.length cg) (W' := W) rfl rfl ?_ (hK _ _ (LKeep.refl _ _ _) rfl)
          go_simp
         | 5, hoi, hom =>
          have l0 := haft _ rfl ⟨0, .data⟩ (by simp) rfl
          have s0 : ao.tmps[37]?.getD undef = bookVal b a := (hU.slot 0 (by decide) l0).trans (hpv 0 l0)
          have l4 := haft _ rfl ⟨4, .data⟩ (by simp) rfl
          have s4 : ao.tmps[41]?.getD undef = .slice Ag g.length cg := (hU.slot 4 (by decide) l4).trans (hpv 4 l4)
          refine wpOp_enter (f := 52) (args := #[bookVal b a, .slice Ag g.length cg]) (W' := W) rfl rfl ?_ ((some12_any (HBXr.out.v.next (hk.below (B := wr.heap.size) (fun k h => h.elim) (Nat.le_refl _))) HV.out.good h12 (HGr.out.next (hk.below (B := wr.heap.size) (fun k h => h.elim) (Nat.le_refl _)))).mono (fun e w'' h => ?_))
          · go_simp
          · obtain ⟨he, hbw⟩ := h
            rw [HGN.out] at he
            exact ⟨_, he, hK _ _ (LKeep.below hbw (fun h => h)) rfl⟩
         | oi + 6, hoi, hom => exact absurd (of_decide_eq_true hom) (by omega)
        case hendB =>
         intro listed vs ao W hG hk0 hpv hpre
         have hkk := (LKeep.drew (fun _ => False) (M := fun _ => True) wr (fun h => h)).trans hk0
         have hk := hkk.1
         have hkm := hkk.2
         clear hkk
         have hact := hG.act
         have hT := hG.lst hpre 0 #[true, true, true, true, true, true] rfl (by kernel_rfl) (hpre 0 (by decide) (by decide))
         rw [hG.ix hT (l := [0, 1, 2, 3, 4, 5]) (by kernel_rfl)] at hact
         rw [hG.lo hT (k := 0) (by kernel_rfl)]
         have hv0 : vs 0 = bookVal b a := hpv 0 (hpre 0 (by decide) (by decide))
         have hv1 : vs 1 = .slice (some ⟨bg, og, none⟩) G.length cL := hpv 1 (hpre 1 (by decide) (by decide))
         have hv2 : vs 2 = .int .i64 (k : Nat) := hpv 2 (hpre 2 (by decide) (by decide))
         have hv3 : vs 3 = .pointer (some ⟨bg, og + k, none⟩) := hpv 3 (hpre 3 (by decide) (by decide))
         have hv4 : vs 4 = .slice Ag g.length cg := hpv 4 (hpre 4 (by decide) (by decide))
         have hv5 : vs 5 = .bool (!em) := hpv 5 (hpre 5 (by decide) (by decide))
         clear hpv hpre hG hk0
         obtain rfl : ao = _ := hact
         subst hT
         simp only [setAll, List.setIfInBounds_toArray, List.set_cons_succ, List.set_cons_zero, List.getD_cons_succ, List.getD_cons_zero]
         simp only [hv0, hv1, hv2, hv3, hv4, hv5]
         clear hv0 hv1 hv2 hv3 hv4 hv5
         refine wpAny_done (by kernel_rfl) ?_ _
         have HW4 := hide (HB2r.out.trans ((hk.below (B := wr.heap.size) (fun k h => h.elim) (Nat.le_refl _)).mono hz2))
         have HBX4 := hide (HBXr.out.next (hk.below (B := wr.heap.size) (fun k h => h.elim) (Nat.le_refl _)))
         have HG4 := hide (HGr.out.next (hk.below (B := wr.heap.size) (fun k h => h.elim) (Nat.le_refl _)))
         have HBY := hide (HBX.out.trans ((hk.below (B := wr.heap.size) (fun k h => h.elim) (Nat.le_refl _)).mono HBX.out.size))
         have HL4 := hide (HLr.out.next (hk.below (B := wr.heap.size) (fun k h => h.elim) (Nat.le_refl _)))
         have hgc4 := (hk.cell (b := bg) (o := og + k) hbgz (fun h => h)).trans hgc
         have hbg4 : bg < W.heap.size := Nat.lt_of_lt_of_le hbgz hk.size
         clear hk hkm
         cases em with
         | false =>
          go_wp2_with fail
          go_ret2
          have e1 := HHIT.out j k hlt (by rw [HGG.out]; exact hlt2) HP.out (by rw [HGG.out]; exact HR.out) (by rw [HGG.out, HGK.out]; exact HEQ.out)
          rw [HGG.out, HGK.out] at e1
          rw [HY.out, e1]
          exact ⟨Ag, cg, rfl, HG4.out, HBY.out⟩
         | true =>
          go_wp2_with fail
          go_roundw
          case rel => exact ⟨k + 1, by omega, by go_num, HW4.out, hide (fun q hq => by
           by_cases hqk : q = k
           · rw [hqk, HGK.out]; exact HEQ.out
           · exact HR.out q (by omega))⟩
          case measure => simp [intOf]; omega
      · have hkk : k = G.length := by omega
        have HR2 : Hid (∀ q, q < G.length → emptyB b (nth G q) = true) := by rw [hkk] at HR; exact HR
        clear hkk
        go_wp2_with fail
        go_roundw
        case rel => exact ⟨j + 1, by omega, by go_num, HBVr.out, hide (HST.out j HP.out (by rw [HGG.out]; exact HR2.out))⟩
        case measure => simp [intOf]; omega
   · obtain rfl : j = b.tallies.length := by omega
     have hjj : ¬ ((b.tallies.length : Int) < (b.tallies.length : Int)) := by omega
     go_wp2_with fail
     refine (choices_any hn5 hn5 _).mono ?_
     rintro e w2 ⟨AL, cL, rfl, hL, hb2⟩
     have hq0 : 0 < (chTo b.tallies.length b.tallies.length).length := by have := HCL.out; omega
     obtain ⟨bg, og, Ag, cg, rfl, hbg, hgc, hgi⟩ := hL.at_ hq0
     have hgi2 := hide hgi
     have hgc : w2.cell? ⟨bg, og, none⟩ = some (.slice Ag (nth (chTo b.tallies.length b.tallies.length) 0).length cg) := hgc
     clear hgi hL
     rw [HCL.out]
     go_wp2_with fail
     go_ret2
     rw [HY.out]
     have e1 := HNON.out HP.out
     rw [e1]
     exact ⟨Ag, cg, rfl, hgi2.out, HBa.out.trans (hb2.mono HBa.out.size)⟩
end Go.Proofs.YtocdmkilnbpkdaaGreatDoor
/- First of the reference. -/
namespace Go.Proofs.YtocdmkilnbpkdaaGreatDoor
open Go.RowKit
attribute [local go_sem] Oper.semAt_some

theorem firstL_len (b : Book) (i : Nat) : (firstL b i).length = i := by simp [firstL]
theorem one3 (a b d : Int) (j : Nat) (hj : j < 1 * 3) : (([Value.int .i64 a, .int .i64 b, .int .i64 d] : List Value).getD j undef).oneCell' = true := by
 match j, hj with
 | 0, _ => rfl
 | 1, _ => rfl
 | 2, _ => rfl
theorem tallies_snoc (xs : List Tally) (x : Tally) : (List.range (xs.length * 3)).map (talliesF xs) ++ (List.range (1 * 3)).map (fun j => ([Value.int .i64 x.step, .int .i64 x.hands, .int .i64 x.off] : List Value).getD j undef) = (List.range ((xs.length + 1) * 3)).map (talliesF (xs ++ [x])) := by
 have e : nth (xs ++ [x]) xs.length = x := by simp [nth]
 rw [range3 xs.length, List.map_append]
 congr 1
 · exact List.map_congr_left fun j hj => by
    have hj := List.mem_range.1 hj
    have e : nth (xs ++ [x]) (j / 3) = nth xs (j / 3) := by simp [nth, List.getElem?_append_left (show j / 3 < xs.length by omega)]
    rw [talliesF, talliesF, e]
 · show _ = [_, _, _]
   rw [talliesF, talliesF, talliesF, show xs.length * 3 % 3 = 0 by omega, show (xs.length * 3 + 1) % 3 = 1 by omega, show (xs.length * 3 + 2) % 3 = 2 by omega, show xs.length * 3 / 3 = xs.length by omega, show (xs.length * 3 + 1) / 3 = xs.length by omega, show (xs.length * 3 + 2) / 3 = xs.length by omega, e]
   rfl
def TalR (b : Book) (a : BA) (w : World) (base : Nat) (A2 : Option Addr) (c2 i : Nat) : Prop := (i = 0 ∧ A2 = a.A2 ∧ c2 = a.c2) ∨ w.ownsRow base 50 3 (.slice A2 (b.tallies.length + i) c2) (b.tallies.length + i) ((List.range ((b.tallies.length + i) * 3)).map (talliesF (tellsB b i).tallies))
theorem tell_box {b : Book} {a : BA} {w wr : World} {g base i c2 : Nat} {A2 : Option Addr} (hv : BookV w w.heap.size b a) (hb : Below w.heap.size w wr) (hk : Blk wr g 25 #[.slice a.A1 b.steps.length a.c1, .slice A2 (b.tallies.length + i) c2]) (ht : TalR b a wr base A2 c2 i) :
 BoxB wr g (tellsB b i) ⟨a.A1, A2, a.c1, c2⟩ := by
 have h := hv.next hb
 have e1 := tells_steps b i
 have e2 := tells_len b i
 refine ⟨?_, by
  show Blk _ _ _ #[.slice _ (tellsB b i).steps.length _, .slice _ (tellsB b i).tallies.length _]
  rw [e1, e2]; exact hk⟩
 rcases ht with ⟨rfl, rfl, rfl⟩ | ht
 · exact h
 · obtain ⟨m1, m2, hr⟩ := row_fun ht
   exact ⟨by rw [e1]; exact h.steps, by rw [e2]; exact hr, by rw [e1]; exact h.small, by rw [e1]; exact h.m1, by rw [e2]; exact ⟨m1, m2⟩⟩
structure TellF (b : Book) (i : Nat) : Prop where
 good : Good (tellsB b i)
 len : (tellsB b i).tallies.length = b.tallies.length + i
 slen : (tellsB b i).steps.length = b.steps.length
 some : someB (tellsB b i) (hasInt [] ·) = true
 sp : 0 ≤ (handsB (tellsB b i) (fun _ => false) i).lo ∧ (handsB (tellsB b i) (fun _ => false) i).lo ≤ (handsB (tellsB b i) (fun _ => false) i).hi ∧ (handsB (tellsB b i) (fun _ => false) i).hi ≤ 99
 lo : (handsB (tellsB b i) (fun _ => false) i).lo = firstB b i
theorem tell_facts {b : Book} (hg : Good b) (hs : someB b (fun _ => false) = true) {i : Nat} (hi : i < b.steps.length) : TellF b i := by
 have h1 := tells_good hg hs i (Nat.le_of_lt hi)
 have h2 := tells_some hg hs (Nat.le_of_lt hi)
 exact ⟨h1, tells_len b i, by rw [tells_steps], h2, hands_99 h1 h2 (by rw [tells_steps]; exact hi), tells_hands b i⟩
set_option maxHeartbeats 4000000 in
set_option maxRecDepth 100000 in
theorem refFirst_any {b : Book} {a : BA} {w : World} (h : BookV w w.heap.size b a) :
 Calls Tryz.prog 30 #[bookVal b a] w fun e w' => ∃ A c, e = .returned (.tuple #[.slice A (firstV b).1.length c, .int .i64 (firstV b).2]) ∧ IntsS w' w'.heap.size A (firstV b).1.length c (firstV b).1 ∧ Below w.heap.size w w' := by
 obtain ⟨i4, hI4, hz40, hz41, hz42⟩ := info_parts Tryz.infoTally
 obtain ⟨i0, hinf, hz0, hz1, hz2⟩ := info_parts Tryz.infoInt
 have HX := hide (BoxB.made h)
 have HV0 := hide h
 have HB := hide (show Below w.heap.size w (w.alloc (.cells (bookCells b a) 25)) from (Below.refl _ _).alloc (Nat.le_refl _) _)
 clear h
 go_enter Tryz.func30, Tryz.ntmps30
 go_upto_region 1 with (fail)
 generalize (w.alloc (.cells (bookCells b a) 25)) = v0 at *
 obtain ⟨gx, x0, x1⟩ := HX.out.cells
 refine wp_region_rel (dst := fun oi => [9, 10, 11, 12, 4].getD oi 0) (mono := fun oi => decide (oi < 5)) (pre := fun oi => decide (oi < 5)) (R := LKeep (fun _ => False) (fun _ => True))
  (Pv := fun oi v W => match oi with
   | 0 => v = bookVal b a
   | 1 => v = bookVal b a
   | 2 => v = .int .i64 (askK b 0)
   | 3 => v = .int .i64 (enterK b 0)
   | 4 => v = .int .i64 (enterK b 0)
   | _ => True) (by kernel_rfl) (by kernel_rfl) (LKeep.refl _ _) (fun _ _ _ h h' => h.trans h') ?hst ?hstep ?hend
 case hst =>
  intro oi v W W' h hk
  match oi, h with
  | 0, h => exact h
  | 1, h => exact h
  | 2, h => exact h
  | 3, h => exact h
  | 4, h => exact h
  | oi + 5, h => exact trivial
 case hstep =>
  intro oi hoi hom listed vs ao W hU hk0 hpv haft Ko hK
  have hkk := (LKeep.drew (fun _ => False) (M := fun _ => True) v0 (fun h => h)).trans hk0
  have hk := hkk.1
  have hkm := hkk.2
  clear hkk
  match oi, hoi, hom with
  | 0, hoi, hom =>
   have z1 : ao.tmps[1]?.getD undef = .pointer (some ⟨w.heap.size, 0, none⟩) := hU.same 1 (by decide)
   have y0 := (hk.cell (b := w.heap.size) (o := 0) (gx) (fun h => h)).trans (x0)
   have y1 := (hk.cell (b := w.heap.size) (o := 1) (gx) (fun h => h)).trans (x1)
   refine wpOp_value (v := bookVal b a) (W' := W) rfl rfl ?_ (hK _ _ (LKeep.refl _ _ _) rfl)
   go_simp
  | 1, hoi, hom =>
   have z1 : ao.tmps[1]?.getD undef = .pointer (some ⟨w.heap.size, 0, none⟩) := hU.same 1 (by decide)
   have y0 := (hk.cell (b := w.heap.size) (o := 0) (gx) (fun h => h)).trans (x0)
   have y1 := (hk.cell (b := w.heap.size) (o := 1) (gx) (fun h => h)).trans (x1)
   refine wpOp_value (v := bookVal b a) (W' := W) rfl rfl ?_ (hK _ _ (LKeep.refl _ _ _) rfl)
   go_simp
  | 2, hoi, hom =>
   have l1 := haft _ rfl ⟨1, .data⟩ (by simp) rfl
   have s1 : ao.tmps[10]?.getD undef = bookVal b a := (hU.slot 1 (by decide) l1).trans (hpv 1 l1)
   have hc := asked12_any (HX.out.v.next (hk.below (B := v0.heap.size) (fun k h => h.elim) (Nat.le_refl _))) 0
   refine wpOp_enter (f := 68) (args := #[bookVal b a, .int .i64 0]) (W' := W) rfl rfl ?_ ((hc).mono (fun e w'' h => ?_))
   · go_simp
   · obtain ⟨he, hbw⟩ := h
     exact ⟨_, he, hK _ _ (LKeep.below hbw (fun h => h)) rfl⟩
  | 3, hoi, hom =>
   have l0 := haft _ rfl ⟨0, .data⟩ (by simp) rfl
   have s0 : ao.tmps[9]?.getD undef = bookVal b a := (hU.slot 0 (by decide) l0).trans (hpv 0 l0)
   have l2 := haft _ rfl ⟨2, .data⟩ (by simp) rfl
   have s2 : ao.tmps[11]?.getD undef = .int .i64 (askK b 0) := (hU.slot 2 (by decide) l2).trans (hpv 2 l2)
   have hc := known12_any (HX.out.v.next (hk.below (B := v0.heap.size) (fun k h => h.elim) (Nat.le_refl _))) (e := askK b 0) ask_valid
   rw [known_ask] at hc
   refine wpOp_enter (f := 67) (args := #[bookVal b a, .int .i64 (askK b 0)]) (W' := W) rfl rfl ?_ ((hc).mono (fun e w'' h => ?_))
   · go_simp
   · obtain ⟨he, hbw⟩ := h
     exact ⟨_, he, hK _ _ (LKeep.below hbw (fun h => h)) rfl⟩
  | 4, hoi, hom =>
   have l3 := haft _ rfl ⟨3, .data⟩ (by simp) rfl
   have s3 : ao.tmps[12]?.getD undef = .int .i64 (enterK b 0) := (hU.slot 3 (by decide) l3).trans (hpv 3 l3)
   refine wpOp_value (v := .int .i64 (enterK b 0)) (W' := W) rfl rfl ?_ (hK _ _ (LKeep.refl _ _ _) rfl)
   go_simp
  | oi + 5, hoi, hom => exact absurd (of_decide_eq_true hom) (by omega)
 case hend =>
  intro listed vs ao W hG hk0 hpv hpre
  have hkk := (LKeep.drew (fun _ => False) (M := fun _ => True) v0 (fun h => h)).trans hk0
  have hk := hkk.1
  have hkm := hkk.2
  clear hkk
  have hact := hG.act
  have hT := hG.lst hpre 0 #[true, true, true, true, true] rfl (by kernel_rfl) (hpre 0 (by decide) (by decide))
  rw [hG.ix hT (l := [0, 1, 2, 3, 4]) (by kernel_rfl)] at hact
  rw [hG.lo hT (k := 0) (by kernel_rfl)]
  have hv0 : vs 0 = bookVal b a := hpv 0 (hpre 0 (by decide) (by decide))
  have hv1 : vs 1 = bookVal b a := hpv 1 (hpre 1 (by decide) (by decide))
  have hv2 : vs 2 = .int .i64 (askK b 0) := hpv 2 (hpre 2 (by decide) (by decide))
  have hv3 : vs 3 = .int .i64 (enterK b 0) := hpv 3 (hpre 3 (by decide) (by decide))
  have hv4 : vs 4 = .int .i64 (enterK b 0) := hpv 4 (hpre 4 (by decide) (by decide))
  clear hpv hpre hG hk0
  obtain rfl : ao = _ := hact
  subst hT
  simp only [setAll, List.setIfInBounds_toArray, List.set_cons_succ, List.set_cons_zero, List.getD_cons_succ, List.getD_cons_zero]
  simp only [hv0, hv1, hv2, hv3, hv4]
  clear hv0 hv1 hv2 hv3 hv4
  refine wpAny_done (by kernel_rfl) ?_ _
  have hb := (hk.below (B := v0.heap.size) (fun k h => h.elim) (Nat.le_refl _))
  clear hk hkm
  have HX1 := hide (HX.out.next hb)
  have HB1 := hide (HB.out.trans (hb.mono HB.out.size))
  have hz := HX.out.k.lt
  have hzb := hb.size
  clear x0 x1 gx hb HX
  generalize W = v1 at *
  by_cases hk : enterK b 0 = 0
  · have HV := hide (enterK_zero hk)
    have HWV := hide (show firstV b = (firstL b b.steps.length, 0) by rw [firstV, if_pos hk])
    have h6 := (enterK_zero hk).1.steps
    have ht6 := (enterK_zero hk).1.tallies
    have hpos := (enterK_zero hk).1.pos
    have HTF := hide (fun (i : Nat) (hi : i < b.steps.length) => tell_facts HV.out.1.good HV.out.2.2 hi)
    rw [hk]
    clear hk
    obtain ⟨gx, x0, x1⟩ := HX1.out.cells
    go_wp2_with fail
    clear gx x0 x1
    go_loopw [5, 6, 7, 8, 16, 17, 18, 19, 20, 21, 22, 23, 24, 25, 26, 27, 28, 29, 30, 31, 32, 33, 34, 35, 36, 37, 38, 39, 40, 41, 42, 43, 44, 45, 46, 47] (fun v5 v6 _ _ _ _ _ _ _ _ _ _ _ _ _ _ _ _ _ _ _ _ _ _ _ _ _ _ _ _ _ _ _ _ _ _ wr => ∃ i : Nat, i ≤ b.steps.length ∧ v6 = .int .i64 (i : Nat) ∧ Hid (wr.ownsRow v1.heap.size 3 1 v5 i ((firstL b i).map (Value.int .i64))) ∧ (∃ A2 c2, Hid (Blk wr w.heap.size 25 #[.slice a.A1 b.steps.length a.c1, .slice A2 (b.tallies.length + i) c2]) ∧ Hid (TalR b a wr v1.heap.size A2 c2 i)) ∧ Hid (Below w.heap.size w wr) ∧ v1.heap.size ≤ wr.heap.size) (fun v5 v6 _ _ _ _ _ _ _ _ _ _ _ _ _ _ _ _ _ _ _ _ _ _ _ _ _ _ _ _ _ _ _ _ _ _ _ => b.steps.length - (intOf v6).toNat)
    case atStart => exact ⟨0, Nat.zero_le _, rfl, hide ⟨rfl, .inl ⟨rfl, rfl⟩⟩, ⟨a.A2, a.c2, hide HX1.out.k, hide (.inl ⟨rfl, rfl, rfl⟩)⟩, HB1, Nat.le_refl _⟩
    case round =>
     obtain ⟨i, hi, rfl, HO, ⟨A2, c2, HBK, HTR⟩, HBW, hzw⟩ := hrel
     obtain ⟨u0, rfl⟩ : ∃ u0 : World, u0 = wr := ⟨_, rfl⟩
     have hi0 : (0 : Int) ≤ (i : Int) := Int.natCast_nonneg _
     have HXL := hide (tell_box HV0.out HBW.out HBK.out HTR.out)
     have HSL := hide (show (tellsB b i).steps.length = b.steps.length by rw [tells_steps])
     obtain ⟨gx, x0, x1⟩ := HXL.out.cells
     by_cases hlt : i < b.steps.length
     · have hil : (i : Int) < ((tellsB b i).steps.length : Int) := by rw [HSL.out]; omega
       have htf := HTF.out i hlt
       have HTG := hide htf.good
       have HTS := hide htf.some
       have htl : (tellsB b i).tallies.length ≤ 11 := by rw [htf.len]; omega
       have h12 : (tellsB b i).tallies.length ≤ 12 := by omega
       have hsp := htf.sp
       have HSN := hide (show firstL b (i + 1) = firstL b i ++ [(handsB (tellsB b i) (fun _ => false) i).lo] by rw [firstL_succ, htf.lo])
       have HTN := hide (show tellsB b (i + 1) = tellB (tellsB b i) ⟨(i : Nat), (handsB (tellsB b i) (fun _ => false) i).lo, 0⟩ by rw [htf.lo]; rfl)
       clear htf
       generalize hTC : tellsB b i = c at *
       have HTC := hide hTC
       clear hTC
       have hic : i < c.steps.length := by rw [HSL.out]; exact hlt
       have HIC := hide hic
       have HEN := hide (show endsTo (setOf ((wayOf c).d (cB c (hasInt [] ·)) i)) 100 = handsB c (fun _ => false) i from ends_set hsp)
       have hgd : c.steps.length = b.steps.length := HSL.out
       have HGD := hide hgd
       clear hgd hic
       go_upto_region 9 with (first | (go_at_call 70; refine (down12_any HXL.out.v HTG.out h12 (IntsS.nil_ (w := u0)) HTS.out).mono ?_; rintro e y2 ⟨g3, rfl, hg3, hsd, hb3⟩) | (refine wpList_load_mid rfl 95 (.tmp 27) rfl _ _ rfl (setL (setOf ((wayOf c).d (cB c (hasInt [] ·)) i))) _ ?h0 Tryz.underlying95 rfl (size95 _) ?_; (case h0 => exact hsd.range HIC.out)) | (go_at_call 69; refine (ends12_any (setOf ((wayOf c).d (cB c (hasInt [] ·)) i)) y2).mono ?_; rintro e y4 ⟨rfl, hb9⟩; have hb4 := hb3.trans (hb9.mono hb3.size); rw [endsV, HEN.out]))
       clear hsd hb9 hb3 HEN HTS HTG gx x0 x1
       generalize handsB c (fun _ => false) i = sp at *
       obtain ⟨s1, s2⟩ := sp
       simp only at hsp HSN HTN
       have hba : Below y4.heap.size y4 (y4.alloc (.cells #[.int .i64 s1, .int .i64 s2] 30)) := (Below.refl _ _).alloc (Nat.le_refl _) _
       have hb5 := hb4.trans (hba.mono hb4.size)
       have HSP := hide (show Blk (y4.alloc (.cells #[.int .i64 s1, .int .i64 s2] 30)) y4.heap.size 30 #[.int .i64 s1, .int .i64 s2] from Blk.made)
       have O2 := hide (own_stab HO.out (fun k hk _ => hb5.block k hk))
       have HBK2 := hide (HBK.out.next hb5)
       have HTR2 : Hid (TalR b a (y4.alloc (.cells #[.int .i64 s1, .int .i64 s2] 30)) v1.heap.size A2 c2 i) := hide (HTR.out.imp id fun h => own_stab h (fun k hk _ => hb5.block k hk))
       have HB2 := hide (HBW.out.trans (hb5.mono HBW.out.size))
       have hv2 : Hid (∀ k, u5.ownBlock = some k → k < u0.heap.size) := hide (fun k hk => (World.ownsRow.lt HO.out k hk).2)
       have hzy := hb4.size
       have hgw := HXL.out.k.lt
       clear hba hb4 hb5 HO HXL HBW HBK HTR
       generalize (y4.alloc (.cells #[.int .i64 s1, .int .i64 s2] 30)) = v2 at *
       have e0 := HSP.out.at_ 0
       simp only [List.getElem?_toArray, List.getElem?_cons_zero, List.getElem?_cons_succ] at e0
       have hz3 := HSP.out.lt
       generalize hgs : y4.heap.size = gs at *
       go_upto_region 10 with (at_builtin; go_loud (refine wpList_append_own_at _ rfl _ _ 35 rfl v1.heap.size 3 i0 (.int .i64 0) 1 8 Tryz.underlying35 hinf hz0 hz1 hz2 rfl (by decide) _ _ _ rfl (O2.out.alloc _) ⟨v2.heap.size, 0, none⟩ 1 1 [.int .i64 s1] rfl rfl (cell_one_new _ _ _) (by simp [Value.oneCell']) (by unfold maxLen; omega) (by omega) (by simp; omega) ?_; intro v' w1 hown' hgrow _ hat))
       have hkx : Keep (fun k => some k = u5.ownBlock) v2 w1 := (Keep.alloc v2 _ _).trans (Keep.of_grown hgrow)
       have hu3 : u5.ownBlock ≠ some gs := fun h => by have := hv2.out _ h; omega
       have hu4 : u5.ownBlock ≠ some w.heap.size := fun h => by have := (World.ownsRow.lt O2.out _ h).1; omega
       have HSP2 := hide (HSP.out.keep hkx (fun h => hu3 h.symm))
       have hb1 := app_below (base := v1.heap.size) (by omega) O2.out hgrow
       have HBY := hide (HB2.out.trans (hb1.mono (Nat.le_of_lt (Nat.lt_of_lt_of_le hz hzb))))
       rw [← List.map_singleton, ← List.map_append, ← HSN.out] at hown'
       have O3 : Hid (w1.ownsRow v1.heap.size 3 1 v' (i + 1) ((firstL b (i + 1)).map (Value.int .i64))) := hide hown'
       have HBK3 := hide (HBK2.out.keep hkx (fun h => hu4 h.symm))
       have HTR3 : Hid (TalR b a w1 v1.heap.size A2 c2 i) := hide (HTR2.out.imp id fun h => own_types h O2.out (by decide) hgrow)
       have HXK : Hid (BoxB w1 w.heap.size c ⟨a.A1, A2, a.c1, c2⟩) := hide (HTC.out ▸ tell_box HV0.out HBY.out HBK3.out HTR3.out)
       have hzq := hb1.size
       clear e0 hgrow hat hkx hu3 hu4 hb1 hown' HSP O2 HBK2 HTR2 HB2 hz3
       generalize w1 = v3 at *
       have pb4 : v3.cell? ⟨w.heap.size, 1, none⟩ = some (.slice A2 c.tallies.length c2) := HXK.out.cells.2.2
       have z0 := HXK.out.cells.1
       have fg4 := HXK.out.k.free 1
       have ps0 := HSP2.out.at_ 0
       have zs := HSP2.out.lt
       simp only [List.getElem?_toArray, List.getElem?_cons_zero, List.getElem?_cons_succ] at ps0
       have HSE := hide (show Row v3 v3.heap.size A2 (c.tallies.length * 3) (talliesF c.tallies) from HXK.out.v.tallies)
       refine wp_post0 (fun act0 aq W => ∃ vs : Nat → Value, aq = { tmps := setAll (fun oi => [37, 38, 39, 40, 41, 42, 43, 44, 45, 46, 47, 0].getD oi 0) vs [0, 1, 2, 3, 4, 5, 6, 7, 8, 9, 10] act0.tmps, defers := act0.defers } ∧ ∃ (W1 : World) (A : Option Addr) (cp : Nat), W = W1.setCell ⟨w.heap.size, 1, none⟩ (.slice A (c.tallies.length + 1) cp) ∧ Below v3.heap.size v3 W1 ∧ W1.ownsRow v3.heap.size 50 3 (.slice A (c.tallies.length + 1) cp) (c.tallies.length + 1) ((List.range (c.tallies.length * 3)).map (talliesF c.tallies) ++ (List.range (1 * 3)).map (fun j => [Value.int .i64 (i : Nat), .int .i64 s1, .int .i64 0].getD j undef))) ?reg ?imp
       case reg =>
        have hST : Stab v3.heap.size (fun oi v W => match oi with | 0 => ∃ A cp, v = .slice A 0 cp ∧ W.ownsRow v3.heap.size 50 3 (.slice A 0 cp) 0 ([]) | 1 => v = .pointer (some ⟨w.heap.size, 1, none⟩) | 2 => v = .slice A2 c.tallies.length c2 | 3 => ∃ A cp, v = .slice A c.tallies.length cp ∧ W.ownsRow v3.heap.size 50 3 (.slice A c.tallies.length cp) c.tallies.length ((List.range (c.tallies.length * 3)).map (talliesF c.tallies)) | 4 => v = .int .i64 (i : Nat) | 5 => v = .pointer (some ⟨gs, 0, none⟩) | 6 => v = .int .i64 s1 | 7 => v = .agg #[.int .i64 (i : Nat), .int .i64 s1, .int .i64 0] | 8 => ∃ A cp, v = .slice A 1 cp ∧ W.ownsRow v3.heap.size 50 3 (.slice A 1 cp) 1 ([.int .i64 (i : Nat), .int .i64 s1, .int .i64 0]) | 9 => ∃ A cp, v = .slice A (c.tallies.length + 1) cp ∧ W.ownsRow v3.heap.size 50 3 (.slice A (c.tallies.length + 1) cp) (c.tallies.length + 1) ((List.range (c.tallies.length * 3)).map (talliesF c.tallies) ++ (List.range (1 * 3)).map (fun j => [Value.int .i64 (i : Nat), .int .i64 s1, .int .i64 0].getD j undef)) | _ => True) (fun oi v b => match oi with | 0 => v.ownBlock = some b | 3 => v.ownBlock = some b | 8 => v.ownBlock = some b | 9 => v.ownBlock = some b | _ => False) := by
         intro oi v W W' h hbs hz hk
         match oi, h, hk with
         | 0, h, hk => obtain ⟨A, cp, rfl, h2⟩ := h; exact ⟨A, cp, rfl, own_stab h2 (fun b hb e => hk b hb (.inr e))⟩
         | 1, h, hk => exact h
         | 2, h, hk => exact h
         | 3, h, hk => obtain ⟨A, cp, rfl, h2⟩ := h; exact ⟨A, cp, rfl, own_stab h2 (fun b hb e => hk b hb (.inr e))⟩
         | 4, h, hk => exact h
         | 5, h, hk => exact h
         | 6, h, hk => exact h
         | 7, h, hk => exact h
         | 8, h, hk => obtain ⟨A, cp, rfl, h2⟩ := h; exact ⟨A, cp, rfl, own_stab h2 (fun b hb e => hk b hb (.inr e))⟩
         | 9, h, hk => obtain ⟨A, cp, rfl, h2⟩ := h; exact ⟨A, cp, rfl, own_stab h2 (fun b hb e => hk b hb (.inr e))⟩
         | oi + 10, h, hk => exact trivial
        refine wp_region_inv (dst := fun oi => [37, 38, 39, 40, 41, 42, 43, 44, 45, 46, 47, 0].getD oi 0) (mono := fun oi => decide (oi < 10)) (pre := fun oi => decide (oi < 10)) (G := Loose 12 v3.heap.size (fun oi => match oi with | 0 => 3 | 3 => 9 | _ => 12) (fun oi v W => match oi with | 0 => ∃ A cp, v = .slice A 0 cp ∧ W.ownsRow v3.heap.size 50 3 (.slice A 0 cp) 0 ([]) | 1 => v = .pointer (some ⟨w.heap.size, 1, none⟩) | 2 => v = .slice A2 c.tallies.length c2 | 3 => ∃ A cp, v = .slice A c.tallies.length cp ∧ W.ownsRow v3.heap.size 50 3 (.slice A c.tallies.length cp) c.tallies.length ((List.range (c.tallies.length * 3)).map (talliesF c.tallies)) | 4 => v = .int .i64 (i : Nat) | 5 => v = .pointer (some ⟨gs, 0, none⟩) | 6 => v = .int .i64 s1 | 7 => v = .agg #[.int .i64 (i : Nat), .int .i64 s1, .int .i64 0] | 8 => ∃ A cp, v = .slice A 1 cp ∧ W.ownsRow v3.heap.size 50 3 (.slice A 1 cp) 1 ([.int .i64 (i : Nat), .int .i64 s1, .int .i64 0]) | 9 => ∃ A cp, v = .slice A (c.tallies.length + 1) cp ∧ W.ownsRow v3.heap.size 50 3 (.slice A (c.tallies.length + 1) cp) (c.tallies.length + 1) ((List.range (c.tallies.length * 3)).map (talliesF c.tallies) ++ (List.range (1 * 3)).map (fun j => [Value.int .i64 (i : Nat), .int .i64 s1, .int .i64 0].getD j undef)) | _ => True) (fun oi v b => match oi with | 0 => v.ownBlock = some b | 3 => v.ownBlock = some b | 8 => v.ownBlock = some b | 9 => v.ownBlock = some b | _ => False)) (by kernel_rfl) (by kernel_rfl) (Loose.start (Nat.le_refl _)) ?hstep ?hend
        case hstep =>
         intro oi hoi hom listed vs aq W hU hsz hG hcl hl haft K hK
         have hb := ((Below.refl v3.heap.size v3).drew).trans hU.below
         have hF := Loose.stepF hU hG hST hoi hK
         match oi, hoi, hom with
         | 0, hoi, hom =>
          refine wpOp_value (v := .slice (some ⟨W.heap.size, 0, none⟩) 0 0) (W' := (W.alloc (.cells #[] 50))) rfl rfl ?_ (hF _ _ ((Below.refl _ _).alloc (Nat.le_refl _) _) (own_lit hG.base #[] 0 rfl (by simp [maxLen])) (fun b h => by rw [← own_new h]; exact ⟨by simp, .inl (Nat.le_refl _)⟩))
          go_simp
         | 1, hoi, hom =>
          have z1 : aq.tmps[1]?.getD undef = .pointer (some ⟨w.heap.size, 0, none⟩) := hU.same 1 (by decide)
          refine wpOp_value (v := .pointer (some ⟨w.heap.size, 1, none⟩)) (W' := W) rfl rfl ?_ (hF _ _ (Below.refl _ _) rfl (fun _ h => False.elim h))
          go_simp
         | 2, hoi, hom =>
          have l1 := haft _ rfl { on := 1, ground := .data } (by simp) rfl
          have p1 := hG.pv 1 (by decide) (live_end hsz rfl l1)
          have s1 : aq.tmps[38]?.getD undef = vs 1 := hU.slot 1 (by decide) l1
          have hv1 : vs 1 = .pointer (some ⟨w.heap.size, 1, none⟩) := p1
          rw [hv1] at s1
          have y0 := (hb.cell (p := ⟨w.heap.size, 1, none⟩) (z0)).trans (pb4)
          refine wpOp_value (v := .slice A2 c.tallies.length c2) (W' := W) rfl rfl ?_ (hF _ _ (Below.refl _ _) rfl (fun _ h => False.elim h))
          go_simp
         | 3, hoi, hom =>
          have l0 := haft _ rfl { on := 0, ground := .data } (by simp) rfl
          have p0 := hG.pv 0 (by decide) (⟨l0, hl⟩)
          have s0 : aq.tmps[37]?.getD undef = vs 0 := hU.slot 0 (by decide) l0
          obtain ⟨PA0, kp0, hv0, hi0⟩ := p0
          rw [hv0] at s0
          have l2 := haft _ rfl { on := 2, ground := .data } (by simp) rfl
          have p2 := hG.pv 2 (by decide) (live_end hsz rfl l2)
          have s2 : aq.tmps[39]?.getD undef = vs 2 := hU.slot 2 (by decide) l2
          have hv2 : vs 2 = .slice A2 c.tallies.length c2 := p2
          rw [hv2] at s2
          have hA := Loose.stepA (p := 0) hU hG rfl hST hoi hK (by decide) (by decide) rfl ⟨l0, hl⟩ (fun b h => h) (by rw [hv0]; exact hi0)
          obtain ⟨v', W', hrun, hown', hg, hblk⟩ := run_app_row (P := Tryz.prog) W v3.heap.size 23 23 50 i4 (.agg #[.int .i64 0, .int .i64 0, .int .i64 0]) 3 24 Tryz.underlying23 hI4 hz40 hz41 hz42 rfl (by decide) hi0 (HSE.out.below hb) (fun j _ => rfl) (by simp only [maxLen]; omega) (by omega) hG.base
          rw [Nat.zero_add, List.nil_append] at hown'
          exact wpOp_append (s := 37) (x := 39) (v' := v') (W' := W') rfl rfl rfl s0 s2 hrun (hA _ _ _ _ (by rw [hv0]; exact hg) hown' (by rw [hv0]; exact hblk) (own_ex hown') (fun b h => h))
         | 4, hoi, hom =>
          have z6 : aq.tmps[6]?.getD undef = .int .i64 (i : Nat) := hU.same 6 (by decide)
          refine wpOp_value (v := .int .i64 (i : Nat)) (W' := W) rfl rfl ?_ (hF _ _ (Below.refl _ _) rfl (fun _ h => False.elim h))
          go_simp
         | 5, hoi, hom =>
          have z7 : aq.tmps[7]?.getD undef = .pointer (some ⟨gs, 0, none⟩) := hU.same 7 (by decide)
          refine wpOp_value (v := .pointer (some ⟨gs, 0, none⟩)) (W' := W) rfl rfl ?_ (hF _ _ (Below.refl _ _) rfl (fun _ h => False.elim h))
          go_simp
         | 6, hoi, hom =>
          have l5 := haft _ rfl { on := 5, ground := .data } (by simp) rfl
          have p5 := hG.pv 5 (by decide) (live_end hsz rfl l5)
          have s5 : aq.tmps[42]?.getD undef = vs 5 := hU.slot 5 (by decide) l5
          have hv5 : vs 5 = .pointer (some ⟨gs, 0, none⟩) := p5
          rw [hv5] at s5
          have y0 := (hb.cell (p := ⟨gs, 0, none⟩) (zs)).trans (ps0)
          refine wpOp_value (v := .int .i64 s1) (W' := W) rfl rfl ?_ (hF _ _ (Below.refl _ _) rfl (fun _ h => False.elim h))
          go_simp
         | 7, hoi, hom =>
          have l4 := haft _ rfl { on := 4, ground := .data } (by simp) rfl
          have p4 := hG.pv 4 (by decide) (live_end hsz rfl l4)
          have s4 : aq.tmps[41]?.getD undef = vs 4 := hU.slot 4 (by decide) l4
          have hv4 : vs 4 = .int .i64 (i : Nat) := p4
          rw [hv4] at s4
          have l6 := haft _ rfl { on := 6, ground := .data } (by simp) rfl
          have p6 := hG.pv 6 (by decide) (live_end hsz rfl l6)
          have s6 : aq.tmps[43]?.getD undef = vs 6 := hU.slot 6 (by decide) l6
          have hv6 : vs 6 = .int .i64 s1 := p6
          rw [hv6] at s6
          refine wpOp_value (v := .agg #[.int .i64 (i : Nat), .int .i64 s1, .int .i64 0]) (W' := W) rfl rfl ?_ (hF _ _ (Below.refl _ _) rfl (fun _ h => False.elim h))
          go_simp
         | 8, hoi, hom =>
          have l7 := haft _ rfl { on := 7, ground := .data } (by simp) rfl
          have p7 := hG.pv 7 (by decide) (live_end hsz rfl l7)
          have s7 : aq.tmps[44]?.getD undef = vs 7 := hU.slot 7 (by decide) l7
          have hv7 : vs 7 = .agg #[.int .i64 (i : Nat), .int .i64 s1, .int .i64 0] := p7
          rw [hv7] at s7
          refine wpOp_value (v := .slice (some ⟨W.heap.size, 0, none⟩) 1 1) (W' := (W.alloc (.cells #[.int .i64 (i : Nat), .int .i64 s1, .int .i64 0] 50))) rfl rfl ?_ (hF _ _ ((Below.refl _ _).alloc (Nat.le_refl _) _) (own_lit hG.base #[.int .i64 (i : Nat), .int .i64 s1, .int .i64 0] 1 rfl (by simp [maxLen])) (fun b h => by rw [← own_new h]; exact ⟨by simp, .inl (Nat.le_refl _)⟩))
          go_simp
         | 9, hoi, hom =>
          have l3 := haft _ rfl { on := 3, ground := .data } (by simp) rfl
          have p3 := hG.pv 3 (by decide) (⟨l3, hl⟩)
          have s3 : aq.tmps[40]?.getD undef = vs 3 := hU.slot 3 (by decide) l3
          obtain ⟨PA3, kp3, hv3, hi3⟩ := p3
          rw [hv3] at s3
          have l8 := haft _ rfl { on := 8, ground := .data } (by simp) rfl
          have p8 := hG.pv 8 (by decide) (live_end hsz rfl l8)
          have s8 : aq.tmps[45]?.getD undef = vs 8 := hU.slot 8 (by decide) l8
          obtain ⟨PA8, kp8, hv8, hi8⟩ := p8
          rw [hv8] at s8
          obtain ⟨_, _, e8, _, _, hr8⟩ := row_own hi8
          obtain ⟨rfl, rfl⟩ : _ = PA8 ∧ _ = kp8 := by simp only [Value.slice.injEq, true_and] at e8; exact ⟨e8.1.symm, e8.2.symm⟩
          have hA := Loose.stepA (p := 3) hU hG rfl hST hoi hK (by decide) (by decide) rfl ⟨l3, hl⟩ (fun b h => h) (by rw [hv3]; exact hi3)
          obtain ⟨v', W', hrun, hown', hg, hblk⟩ := run_app_row (P := Tryz.prog) W v3.heap.size 23 23 50 i4 (.agg #[.int .i64 0, .int .i64 0, .int .i64 0]) 3 24 Tryz.underlying23 hI4 hz40 hz41 hz42 rfl (by decide) hi3 hr8 (one3 _ _ _) (by simp only [maxLen]; omega) (by omega) hG.base
          exact wpOp_append (s := 40) (x := 45) (v' := v') (W' := W') rfl rfl rfl s3 s8 hrun (hA _ _ _ _ (by rw [hv3]; exact hg) hown' (by rw [hv3]; exact hblk) (own_ex hown') (fun b h => h))
         | oi + 10, hoi, hom => exact absurd (of_decide_eq_true hom) (by omega)
        case hend =>
         intro listed vs aq W hG0 hG hpre
         have hb := ((Below.refl v3.heap.size v3).drew).trans hG0.below
         have hact := hG0.act
         have hT := hG0.lst hpre 0 #[true, true, true, true, true, true, true, true, true, true, false, false] rfl (by kernel_rfl) (hpre 0 (by decide) (by decide))
         rw [hG0.ix hT (l := [0, 1, 2, 3, 4, 5, 6, 7, 8, 9]) (by kernel_rfl)] at hact
         rw [hG0.lo hT (k := 2) (by kernel_rfl)]
         have p9 := hG.pv 9 (by decide) (live_end hG.size rfl (hpre 9 (by decide) (by decide)))
         clear hpre hG hST
         obtain rfl : aq = _ := hact
         subst hT
         obtain ⟨A, cp, hv9, hi9⟩ := p9
         have y4 := (hb.cell (p := ⟨w.heap.size, 1, none⟩) z0).trans pb4
         have f4 := (hb.frozen (p := ⟨w.heap.size, 1, none⟩) z0).trans fg4
         simp only [setAll, List.setIfInBounds_toArray, List.set_cons_succ, List.set_cons_zero, List.getD_cons_succ, List.getD_cons_zero]
         refine wpAny_all (rs := [10]) (by kernel_rfl) (by simp) ?_
         intro i2 hi2
         obtain rfl : i2 = 10 := by simpa using hi2
         refine wpOp_value (v := .pointer (some ⟨w.heap.size, 1, none⟩)) (W' := W) rfl rfl ?_ ?_
         · go_simp
         refine wpAny_all (rs := [11]) (by kernel_rfl) (by simp) ?_
         intro i2 hi2
         obtain rfl : i2 = 11 := by simpa using hi2
         refine wpOp_skip (W' := W.setCell ⟨w.heap.size, 1, none⟩ (.slice A (c.tallies.length + 1) cp)) rfl rfl ?_ ?_
         · rw [hv9]; go_simp
         refine wpAny_done (by kernel_rfl) ?_ _
         exact ⟨rfl, fun q => if q = 10 then .pointer (some ⟨w.heap.size, 1, none⟩) else vs q, rfl, W, A, cp, rfl, hb, hi9⟩
       case imp =>
       rintro a9 w2 ⟨vs, rfl, W1, A, cp, rfl, hb1, hown⟩
       simp only [setAll, List.setIfInBounds_toArray, List.set_cons_succ, List.set_cons_zero, List.getD_cons_succ, List.getD_cons_zero]
       rw [tallies_snoc c.tallies ⟨(i : Nat), s1, 0⟩] at hown
       have b0 := (HXK.out.k.below hb1 z0).store 1 (.slice A (c.tallies.length + 1) cp)
       have hk1 : Keep (fun q => q = w.heap.size) W1 (W1.setCell ⟨w.heap.size, 1, none⟩ (.slice A (c.tallies.length + 1) cp)) := Keep.setCell _ _ _ _ rfl
       have ho := own_kept hown hk1 (fun b hb hS => by omega)
       have hs := own_kept (own_stab O3.out (fun b hb _ => hb1.block b hb)) hk1 (fun b hb hS => by omega)
       have hb2 : Below w.heap.size v3 (W1.setCell ⟨w.heap.size, 1, none⟩ (.slice A (c.tallies.length + 1) cp)) := (hb1.mono (Nat.le_of_lt z0)).setCell (p := ⟨w.heap.size, 1, none⟩) (Nat.le_refl _) (.slice A (c.tallies.length + 1) cp)
       have HBZ := hide (HBY.out.trans hb2)
       have e9 : c.tallies.length = b.tallies.length + i := by rw [← HTC.out, tells_len]
       have e8 : c.steps.length = b.steps.length := by rw [← HTC.out, tells_steps]
       have HBK4 : Hid (Blk (W1.setCell ⟨w.heap.size, 1, none⟩ (.slice A (c.tallies.length + 1) cp)) w.heap.size 25 #[.slice a.A1 b.steps.length a.c1, .slice A (b.tallies.length + (i + 1)) cp]) := hide (by
        have b0' : Blk (W1.setCell ⟨w.heap.size, 1, none⟩ (.slice A (c.tallies.length + 1) cp)) w.heap.size 25 #[.slice a.A1 c.steps.length a.c1, .slice A (c.tallies.length + 1) cp] := b0
        rw [e9]
        rw [e8, e9] at b0'; exact b0')
       have HTR4 : Hid (TalR b a (W1.setCell ⟨w.heap.size, 1, none⟩ (.slice A (c.tallies.length + 1) cp)) v1.heap.size A cp (i + 1)) := hide (.inr (by
        have h9 := own_base ho (by omega : v1.heap.size ≤ v3.heap.size)
        rw [HTN.out]
        rw [e9] at h9 ⊢
        exact h9))
       have HOF := hide hs
       have hzf : v1.heap.size ≤ (W1.setCell ⟨w.heap.size, 1, none⟩ (.slice A (c.tallies.length + 1) cp)).heap.size := by have := hb1.size; simp; omega
       clear ho hs hk1 hown hb1 hb2 b0 e8 e9 HXK O3 HBY HBK3 HTR3 HSP2 HSE pb4 z0 fg4 ps0 zs
       generalize W1.setCell ⟨w.heap.size, 1, none⟩ (.slice A (c.tallies.length + 1) cp) = v4 at *
       go_wp2_with fail
       go_roundw
       case rel => exact ⟨i + 1, by omega, by go_num, HOF, ⟨A, cp, HBK4, HTR4⟩, HBZ, hzf⟩
       case measure => simp [intOf]; omega
     · obtain rfl : i = b.steps.length := by omega
       have hnl : ¬ (b.steps.length : Int) < ((tellsB b b.steps.length).steps.length : Int) := by rw [HSL.out]; omega
       generalize (tellsB b b.steps.length).steps.length = mm at x0 hnl
       obtain ⟨A, cp, rfl, hA⟩ := own_ex HO.out
       have hi2 := ints_own hA
       have HI := hide hi2
       have HLN := hide (firstL_len b b.steps.length)
       clear hA hi2 HO
       generalize firstL b b.steps.length = L1 at *
       go_wp2_with fail
       exact bodyPost_ret (v := .tuple #[.slice A b.steps.length cp, .int .i64 0]) (by simp [results, Tryz.results30, go_sem]) rfl ⟨A, cp, by rw [HWV.out]; simp only [HLN.out], by rw [HWV.out]; simp only [HLN.out]; exact HI.out, HBW.out⟩
  · have hd : (enterK b 0 != 0) = true := by simpa using hk
    have HWV := hide (show firstV b = ([], enterK b 0) by rw [firstV, if_neg hk])
    clear hk
    generalize enterK b 0 = K at *
    go_wp2_with fail
    exact bodyPost_ret (v := .tuple #[.slice none 0 0, .int .i64 K]) (by simp [results, Tryz.results30, go_sem]) rfl ⟨none, 0, by rw [HWV.out]; rfl, by rw [HWV.out]; exact IntsS.nil_, HB1.out⟩

end Go.Proofs.YtocdmkilnbpkdaaGreatDoor
/- LedgerFirsts. -/
namespace Go.Proofs.YtocdmkilnbpkdaaGreatDoor
open Go.RowKit
attribute [local go_sem] Oper.semAt_some

set_option maxHeartbeats 2000000 in
set_option maxRecDepth 100000 in
theorem ledgerFirsts_any {m : Int} {b : Book} {a : BA} {w : World} (hm : w.cell? ⟨0, 0, none⟩ = some (.int .i64 m)) (hw0 : 0 < w.heap.size) (h : BookV w w.heap.size b a) :
 Calls Tryz.prog 5 #[bookVal b a] w fun e w' => e = .returned (.bool true) ∧ Below w.heap.size w w' := by
 have hb0 : Below w.heap.size w (w.alloc (.cells (bookCells b a) 25)) := (Below.refl _ _).alloc (Nat.le_refl _) _
 have HX := hide (BoxB.made h)
 have HG := hide ((hb0.cell (p := ⟨0, 0, none⟩) hw0).trans hm)
 have HB := hide hb0
 have hz0 := Nat.lt_of_lt_of_le hw0 hb0.size
 clear h hm hb0 hw0
 go_enter Tryz.func5, Tryz.ntmps5
 go_upto_region 1 with (fail)
 generalize w.alloc (.cells (bookCells b a) 25) = w0 at *
 have HS := hide (fun hc : (checkM b).2.2 = 0 => wrong_same hc)
 obtain ⟨L1, K, hF⟩ : ∃ L1 K, firstV b = (L1, K) := ⟨_, _, rfl⟩
 have HF := hide hF
 clear hF
 have hWW : ∃ L2 L3 K2, wrongV b = (L2, K2) ∧ wrongR b = (L3, K2) ∧ natInts L2 = L3 := by
  by_cases hc : (checkM b).2.2 = 0
  · obtain ⟨e1, e2⟩ := HS.out hc
    exact ⟨_, _, _, e1, by rw [wrongR, if_pos hc], e2⟩
  · exact ⟨[], [], _, by rw [wrongV, if_pos hc], by rw [wrongR, if_neg hc], rfl⟩
 obtain ⟨L2, L3, K2, hw1, hw2, hw3⟩ := hWW
 have HW1 := hide hw1
 have HW2 := hide hw2
 have HW3 := hide hw3
 clear hw1 hw2 hw3 HS
 have HI1 := hide (show intsB L1 L1 = true from (intsB_iff _ _).2 rfl)
 have HI2 := hide (show intsB (natInts L2) L3 = true from (intsB_iff _ _).2 HW3.out)
 obtain ⟨gx, x0, x1⟩ := HX.out.cells
 go_upto_region 2 with (go_at_call 29; refine (first_any HX.out.v).mono ?_; rintro e y1 ⟨AHA, cHA, rfl, hi, hb⟩; rw [HF.out] at hi; rw [HF.out]; simp only at hi ⊢; have HA := hide hi; clear hi)
 clear gx x0 x1
 replace HG := hide ((hb.cell (p := ⟨0, 0, none⟩) hz0).trans HG.out)
 replace HB := hide (HB.out.trans (hb.mono HB.out.size))
 replace HX := hide (HX.out.next hb)
 replace hz0 := Nat.lt_of_lt_of_le hz0 hb.size
 clear hb
 obtain ⟨gx, x0, x1⟩ := HX.out.cells
 go_upto_region 3 with (go_at_call 30; refine (refFirst_any HX.out.v).mono ?_; rintro e y2 ⟨AHR, cHR, rfl, hi, hb⟩; rw [HF.out] at hi; rw [HF.out]; simp only at hi ⊢; have HR := hide hi; clear hi)
 clear gx x0 x1
 replace HG := hide ((hb.cell (p := ⟨0, 0, none⟩) hz0).trans HG.out)
 replace HB := hide (HB.out.trans (hb.mono HB.out.size))
 replace HX := hide (HX.out.next hb)
 replace HA := hide (HA.out.next hb)
 replace hz0 := Nat.lt_of_lt_of_le hz0 hb.size
 clear hb
 obtain ⟨gx, x0, x1⟩ := HX.out.cells
 go_upto_region 5 with (go_at_call 26; refine (ints_any HA.out HR.out).mono ?_; rintro e z1 ⟨rfl, hdr⟩; rw [HI1.out]; clear gx x0 x1; have hb := hdr.below (y2.heap.size); replace HG := hide ((hb.cell (p := ⟨0, 0, none⟩) hz0).trans HG.out); replace HB := hide (HB.out.trans (hb.mono HB.out.size)); replace HX := hide (HX.out.next hb); replace HA := hide (HA.out.next hb); replace HR := hide (HR.out.next hb); replace hz0 := Nat.lt_of_lt_of_le hz0 hb.size; clear hb; obtain ⟨gx, x0, x1⟩ := HX.out.cells)
 clear gx x0 x1 HA HR HI1
 obtain ⟨gx, x0, x1⟩ := HX.out.cells
 go_upto_region 6 with (go_at_call 31; refine (wrong_any HX.out.v).mono ?_; rintro e y3 ⟨AHA, cHA, rfl, hi, hb⟩; rw [HW1.out] at hi; rw [HW1.out]; simp only at hi ⊢; have HA := hide hi; clear hi)
 clear gx x0 x1
 replace HG := hide ((hb.cell (p := ⟨0, 0, none⟩) hz0).trans HG.out)
 replace HB := hide (HB.out.trans (hb.mono HB.out.size))
 replace HX := hide (HX.out.next hb)
 replace hz0 := Nat.lt_of_lt_of_le hz0 hb.size
 clear hb
 obtain ⟨gx, x0, x1⟩ := HX.out.cells
 go_upto_region 7 with (go_at_call 32; refine (wrong12_any HX.out.v).mono ?_; rintro e y4 ⟨AHR, cHR, rfl, hi, hb⟩; rw [HW2.out] at hi; rw [HW2.out]; simp only at hi ⊢; have HR := hide hi; clear hi)
 clear gx x0 x1
 replace HG := hide ((hb.cell (p := ⟨0, 0, none⟩) hz0).trans HG.out)
 replace HB := hide (HB.out.trans (hb.mono HB.out.size))
 replace HX := hide (HX.out.next hb)
 replace HA := hide (HA.out.next hb)
 replace hz0 := Nat.lt_of_lt_of_le hz0 hb.size
 clear hb
 obtain ⟨gx, x0, x1⟩ := HX.out.cells
 go_wp2_with (first | (go_at_call 26; refine (ints_any HA.out HR.out).mono ?_; rintro e z2 ⟨rfl, hdr⟩; rw [HI2.out]; clear gx x0 x1; have hb := hdr.below (y4.heap.size); replace HG := hide ((hb.cell (p := ⟨0, 0, none⟩) hz0).trans HG.out); replace HB := hide (HB.out.trans (hb.mono HB.out.size)); replace HX := hide (HX.out.next hb); replace HA := hide (HA.out.next hb); replace HR := hide (HR.out.next hb); replace hz0 := Nat.lt_of_lt_of_le hz0 hb.size; clear hb; obtain ⟨gx, x0, x1⟩ := HX.out.cells) | (go_at_call 23; refine (awake12_any HG.out hz0).mono ?_; rintro e z3 ⟨rfl, hb⟩))
 go_ret
 exact ⟨rfl, HB.out.trans (hb.mono HB.out.size)⟩
end Go.Proofs.YtocdmkilnbpkdaaGreatDoor
