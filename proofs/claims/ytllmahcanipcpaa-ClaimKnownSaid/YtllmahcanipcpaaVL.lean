/- Words for slices of slices of integers: read (below a block), and owned by a call. -/
import Derived.Test.YtllmahcanipcpaaSB
set_option linter.unusedVariables false
set_option linter.unusedSimpArgs false
namespace Go.Proofs.Ytllmahcanipcpaa
open Go.RowKit

/-- A slice of slices that reads as lists of integers, all below block B. -/
structure ListsS (w : World) (B : Nat) (A : Option Addr) (n c : Nat) (gs : List (List Int)) : Prop where
  len : gs.length = n
  cap : n ≤ c
  max : c ≤ maxLen
  row : 0 < n → ∃ b off, A = some ⟨b, off, none⟩ ∧ b < B ∧ ∀ j, j < n → ∃ A' c', w.cell? ⟨b, off + j, none⟩ = some (.slice A' (nth gs j).length c') ∧ IntsS w B A' (nth gs j).length c' (nth gs j)
section
variable {w w' : World} {B B' n c : Nat} {A : Option Addr} {gs : List (List Int)}
theorem ListsS.bd (h : ListsS w B A n c gs) : n ≤ 9223372036854775807 := by have h1 := h.cap; have h2 := h.max; unfold maxLen at h2; omega
theorem ListsS.below (h : ListsS w B A n c gs) (hb : Below B w w') : ListsS w' B A n c gs := ⟨h.len, h.cap, h.max, fun hn => by
  obtain ⟨b, off, e, hbb, hc⟩ := h.row hn
  refine ⟨b, off, e, hbb, fun j hj => ?_⟩
  obtain ⟨A', c', h1, h2⟩ := hc j hj
  exact ⟨A', c', (hb.cell (p := ⟨_, _, _⟩) hbb).trans h1, h2.below hb⟩⟩
theorem ListsS.more (h : ListsS w B A n c gs) (hB : B ≤ B') : ListsS w B' A n c gs := ⟨h.len, h.cap, h.max, fun hn => by
  obtain ⟨b, off, e, hbb, hc⟩ := h.row hn
  exact ⟨b, off, e, by omega, fun j hj => by obtain ⟨A', c', h1, h2⟩ := hc j hj; exact ⟨A', c', h1, h2.more hB⟩⟩⟩
theorem ListsS.next (h : ListsS w w.heap.size A n c gs) (hb : Below w.heap.size w w') : ListsS w' w'.heap.size A n c gs := (h.below hb).more hb.size
theorem ListsS.at_ (h : ListsS w B A n c gs) {j : Nat} (hj : j < n) : ∃ b off A' c', A = some ⟨b, off, none⟩ ∧ b < B ∧ w.cell? ⟨b, off + j, none⟩ = some (.slice A' (nth gs j).length c') ∧ IntsS w B A' (nth gs j).length c' (nth gs j) := by
  obtain ⟨b, off, e, hbb, hc⟩ := h.row (by omega)
  obtain ⟨A', c', h1, h2⟩ := hc j hj
  exact ⟨b, off, A', c', e, hbb, h1, h2⟩
end

theorem own_below {w w' : World} {base : Nat} {e : TypeId} {size n : Nat} {v : Value} {xs : List Value} (h : w.ownsRow base e size v n xs) (hb : Below w.heap.size w w') : w'.ownsRow base e size v n xs := by
  refine ⟨h.1, ?_⟩
  rcases h.2 with h' | ⟨g, cap, cur, hv, hg, hh, r⟩
  · exact .inl h'
  · exact .inr ⟨g, cap, cur, hv, hg, by rw [hb.block g (Array.getElem?_eq_some_iff.1 hh).1]; exact hh, r⟩
theorem own_types {w w' : World} {base base' : Nat} {e e' : TypeId} {size size' n n' : Nat} {v v' : Value} {xs xs' : List Value} (h : w.ownsRow base e size v n xs) (h' : w.ownsRow base' e' size' v' n' xs') (hne : e ≠ e') {o : Obj}
    (hg : (w.alloc o).grownBy w' v'.ownBlock) : w'.ownsRow base e size v n xs := by
  refine (h.alloc o).kept hg ?_
  rcases h.2 with ⟨rfl, _⟩ | ⟨g, cap, cur, rfl, _, hh, _⟩
  · exact .inl rfl
  · refine .inr fun e1 => ?_
    rcases h'.2 with ⟨rfl, _⟩ | ⟨g', cap', cur', rfl, _, hh', _⟩
    · simp [Value.ownBlock] at e1
    · simp only [Value.ownBlock, Option.some.injEq] at e1
      subst e1
      rw [hh] at hh'
      simp only [Option.some.injEq, Obj.cells.injEq] at hh'
      exact hne hh'.2.1

/-- A row of the call's own that holds lists of integers, each a row of the call's own. -/
def OwnLists (w : World) (base : Nat) (v : Value) (gs : List (List Int)) : Prop :=
  ∃ vs : List Value, w.ownsRow base 23 1 v gs.length vs ∧ ∀ j, j < gs.length → ∃ u, vs[j]? = some u ∧ w.ownsRow base 3 1 u (nth gs j).length ((nth gs j).map (Value.int .i64))
section
variable {w w' : World} {base B : Nat} {v : Value} {gs : List (List Int)}
theorem OwnLists.nil_ : OwnLists w base (.slice none 0 0) [] := ⟨[], World.ownsRow_nil _ _ _ _, fun j hj => absurd hj (Nat.not_lt_zero _)⟩
theorem OwnLists.below (h : OwnLists w base v gs) (hb : Below w.heap.size w w') : OwnLists w' base v gs := by
  obtain ⟨vs, h1, h2⟩ := h
  refine ⟨vs, own_below h1 hb, fun j hj => ?_⟩
  obtain ⟨u, h3, h4⟩ := h2 j hj
  exact ⟨u, h3, own_below h4 hb⟩
theorem nth_snoc_lt {α : Type} [Inhabited α] (l : List α) (x : α) {j : Nat} (h : j < l.length) : nth (l ++ [x]) j = nth l j := by simp [nth, List.getElem?_append_left h]
theorem nth_snoc_eq {α : Type} [Inhabited α] (l : List α) (x : α) : nth (l ++ [x]) l.length = x := by simp [nth]
theorem OwnLists.lists (h : OwnLists w base v gs) : ∃ A c, v = .slice A gs.length c ∧ ListsS w w.heap.size A gs.length c gs := by
  obtain ⟨vs, h1, h2⟩ := h
  rcases h1.2 with ⟨rfl, h0⟩ | ⟨g, cap, cur, rfl, hg, hh, h3, h4, h5, h6⟩
  · rw [h0]
    obtain rfl : gs = [] := List.eq_nil_of_length_eq_zero h0
    exact ⟨none, 0, rfl, rfl, Nat.le_refl _, by simp [maxLen], fun h => absurd h (by omega)⟩
  · refine ⟨_, cap, rfl, rfl, h3, h4, fun hm => ⟨g, 0, rfl, (Array.getElem?_eq_some_iff.1 hh).1, fun j hj => ?_⟩⟩
    obtain ⟨u, h7, h8⟩ := h2 j hj
    obtain ⟨A', c', rfl, h9⟩ := IntsS.of_own h8
    refine ⟨A', c', ?_, h9⟩
    have := h1.cells (g := g) rfl j _ h7
    have hadd : (⟨g, 0, none⟩ : Addr).add j = ⟨g, 0 + j, none⟩ := by unfold Addr.add; split <;> simp_all
    rwa [hadd] at this
theorem OwnLists.snoc {vs : List Value} {u : Value} {xs : List Int} {w1 : World} {v' : Value} {o : Obj} (h1 : w.ownsRow base 23 1 v gs.length vs) (h2 : ∀ j, j < gs.length → ∃ u, vs[j]? = some u ∧ w.ownsRow base 3 1 u (nth gs j).length ((nth gs j).map (Value.int .i64)))
    (hu : w.ownsRow base 3 1 u xs.length (xs.map (Value.int .i64))) (ho : w1.ownsRow base 23 1 v' (gs.length + 1) (vs ++ [u])) (hg : (w.alloc o).grownBy w1 v.ownBlock) : OwnLists w1 base v' (gs ++ [xs]) := by
  have hl : vs.length = gs.length := by have := h1.1; omega
  refine ⟨vs ++ [u], by simpa using ho, fun j hj => ?_⟩
  by_cases hjl : j < gs.length
  · obtain ⟨u', h3, h4⟩ := h2 j hjl
    rw [nth_snoc_lt _ _ hjl]
    exact ⟨u', by rw [List.getElem?_append_left (by omega)]; exact h3, own_types h4 h1 (by decide) hg⟩
  · obtain rfl : j = gs.length := by simp at hj; omega
    rw [nth_snoc_eq]
    exact ⟨u, by rw [← hl]; simp, own_types hu h1 (by decide) hg⟩
end
theorem Try.infoInts : (Try.prog.info? 23).map (fun i => (i.zero, i.size, i.bytes)) = some (some (.slice none 0 0), 1, 24) := by kernel_rfl
/-- A row of the call's own that holds slices of integers that lie below block B. -/
def OwnRefs (w : World) (base B : Nat) (v : Value) (gs : List (List Int)) : Prop :=
  ∃ vs : List Value, w.ownsRow base 23 1 v gs.length vs ∧ ∀ j, j < gs.length → ∃ A c, vs[j]? = some (.slice A (nth gs j).length c) ∧ IntsS w B A (nth gs j).length c (nth gs j)
section
variable {w w' : World} {base B : Nat} {v : Value} {gs : List (List Int)}
theorem OwnRefs.nil_ : OwnRefs w base B (.slice none 0 0) [] := ⟨[], World.ownsRow_nil _ _ _ _, fun j hj => absurd hj (Nat.not_lt_zero _)⟩
theorem OwnRefs.below (h : OwnRefs w base B v gs) (hB : B ≤ w.heap.size) (hb : Below w.heap.size w w') : OwnRefs w' base B v gs := by
  obtain ⟨vs, h1, h2⟩ := h
  refine ⟨vs, own_below h1 hb, fun j hj => ?_⟩
  obtain ⟨A, c, h4, h5⟩ := h2 j hj
  exact ⟨A, c, h4, h5.below (hb.mono hB)⟩
theorem OwnRefs.lists (h : OwnRefs w base B v gs) (hB : B ≤ w.heap.size) : ∃ A c, v = .slice A gs.length c ∧ ListsS w w.heap.size A gs.length c gs := by
  obtain ⟨vs, h1, h2⟩ := h
  rcases h1.2 with ⟨rfl, h0⟩ | ⟨g, cap, cur, rfl, hg, hh, h3, h4, h5, h6⟩
  · rw [h0]
    obtain rfl : gs = [] := List.eq_nil_of_length_eq_zero h0
    exact ⟨none, 0, rfl, rfl, Nat.le_refl _, by simp [maxLen], fun h => absurd h (by omega)⟩
  · refine ⟨_, cap, rfl, rfl, h3, h4, fun hm => ⟨g, 0, rfl, (Array.getElem?_eq_some_iff.1 hh).1, fun j hj => ?_⟩⟩
    obtain ⟨A', c', h8, h9⟩ := h2 j hj
    refine ⟨A', c', ?_, h9.more hB⟩
    have := h1.cells (g := g) rfl _ _ h8
    have hadd : (⟨g, 0, none⟩ : Addr).add j = ⟨g, 0 + j, none⟩ := by unfold Addr.add; split <;> simp_all
    rwa [hadd] at this
theorem OwnRefs.snoc {vs : List Value} {xs : List Int} {A : Option Addr} {c : Nat} {w1 : World} {v' : Value} (h2 : ∀ j, j < gs.length → ∃ A c, vs[j]? = some (.slice A (nth gs j).length c) ∧ IntsS w B A (nth gs j).length c (nth gs j)) (hl : vs.length = gs.length)
    (hu : IntsS w B A xs.length c xs) (ho : w1.ownsRow base 23 1 v' (gs.length + 1) (vs ++ [.slice A xs.length c])) (hb : Below B w w1) : OwnRefs w1 base B v' (gs ++ [xs]) := by
  refine ⟨_, by simpa using ho, fun j hj => ?_⟩
  by_cases hjl : j < gs.length
  · obtain ⟨A', c', h4, h5⟩ := h2 j hjl
    rw [nth_snoc_lt _ _ hjl]
    exact ⟨A', c', by rw [List.getElem?_append_left (by omega)]; exact h4, h5.below hb⟩
  · obtain rfl : j = gs.length := by simp at hj; omega
    rw [nth_snoc_eq]
    exact ⟨A, c, by rw [← hl]; simp, hu.below hb⟩
end
end Go.Proofs.Ytllmahcanipcpaa
