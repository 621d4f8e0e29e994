/- The library's Collect, Sorted, Compact at lists of integers; what they say of doubles. -/
import Derived.Test.YtllmahcanipcpaaKT
import Derived.Shelf.Slices.CompactI
import Derived.Shelf.Slices.In.SortNone
set_option linter.unusedVariables false
set_option linter.unusedSimpArgs false
namespace Go.Proofs.Ytllmahcanipcpaa
open Go.RowKit Go.Shelf

def Try.compL_ren : Go.Shelf.Ren := ⟨fun | 20 => 38 | n => n, fun | 22 => 23 | 3 => 3 | 4 => 4 | 0 => 0 | n => n, fun | n => n⟩
theorem Try.compL : Go.Proofs.Lays2.n20 Try.prog Try.compL_ren where
  mixed := by kernel_rfl
  f20 := Try.func38.trans (congrArg some (by kernel_rfl))
  t0 := Try.underlying0
  a0 := Try.isAgg0
  z0 := Try.sizeOf0
  v0 := Try.zeroValue0
  t3 := Try.underlying3
  a3 := Try.isAgg3
  z3 := Try.sizeOf3
  v3 := Try.zeroValue3
  t4 := Try.underlying4
  a4 := Try.isAgg4
  z4 := Try.sizeOf4
  v4 := Try.zeroValue4
  t22 := Try.underlying23
  a22 := Try.isAgg23
  z22 := Try.sizeOf23
  v22 := Try.zeroValue23
  i3 := by kernel_rfl

theorem dup_nodup : ∀ xs : List Int, dupB xs = false ↔ xs.Nodup
  | [] => by simp [dupB]
  | x :: l => by
    have := dup_nodup l
    simp only [dupB, Bool.or_eq_false_iff, List.nodup_cons, this, hasInt]
    simp
    exact fun _ => ⟨fun h hm => h x hm rfl, fun h y hy e => h (e ▸ hy)⟩
theorem sortM_perm (xs : List Int) : (sortM xs).Perm xs := List.mergeSort_perm _ _
theorem sortM_pair (xs : List Int) : (sortM xs).Pairwise (· ≤ ·) := by
  have := List.pairwise_mergeSort (le := fun x y : Int => decide (x ≤ y)) (fun a b c h1 h2 => by simp at *; omega) (fun a b => by simp; omega) xs
  simpa [sortM] using this
theorem dup_compact (xs : List Int) : decide ((Lib.compact (sortM xs)).length < xs.length) = dupB xs := by
  have hl := sortM_length xs
  have hd : dupB xs = false ↔ (sortM xs).Nodup := by rw [dup_nodup]; exact (sortM_perm xs).symm.nodup_iff
  have hs := sortM_pair xs
  rw [← hl]
  generalize sortM xs = ys at *
  clear hl
  have hg : ∀ j, j < ys.length → ys.toArray[j]! = nth ys j := fun j hj => by simp [nth, hj]
  have hk : ∀ j, j < ys.length → (Lib.keeps ys.toArray j = true ↔ j = 0 ∨ nth ys j ≠ nth ys (j - 1)) := fun j hj => by
    unfold Lib.keeps
    rw [decide_eq_true_iff, hg j hj, hg (j - 1) (by omega)]
  have hp : ∀ i j, i < j → j < ys.length → nth ys i ≤ nth ys j := fun i j hij hj => by
    rw [nth_eq hj, nth_eq (by omega)]
    exact (List.pairwise_iff_getElem.1 hs) i j (by omega) hj hij
  cases hb : dupB xs with
  | false =>
    rw [decide_eq_false_iff_not]
    have hn := hd.1 hb
    have : Lib.compact ys = ys := Lib.compact_all ys fun j hj => (hk j hj).2 (by
      by_cases h0 : j = 0
      · exact .inl h0
      · right
        rw [nth_eq hj, nth_eq (by omega)]
        intro e
        have := (List.getElem_inj hn).1 e
        omega)
    rw [this]; omega
  | true =>
    rw [decide_eq_true_iff]
    refine Classical.byContradiction fun hc => ?_
    have hall : ∀ j, j < ys.length → Lib.keeps ys.toArray j = true := fun j hj => by
      have hc' : ¬ ((List.range ys.length).filter (Lib.keeps ys.toArray)).length < (List.range ys.length).length := by
        simpa [Lib.compact, Lib.compactUpTo] using hc
      have h1 := List.length_filter_le (Lib.keeps ys.toArray) (List.range ys.length)
      have h2 := List.length_filter_eq_length_iff.1 (Nat.le_antisymm h1 (by omega))
      exact h2 j (List.mem_range.2 hj)
    have hn : ys.Nodup := by
      rw [List.nodup_iff_pairwise_ne, List.pairwise_iff_getElem]
      intro i j hi hj hij e
      rw [← nth_eq hi, ← nth_eq hj] at e
      have h1 := (hk j hj).1 (hall j hj)
      have h2 : nth ys i ≤ nth ys (j - 1) := by
        rcases Nat.lt_or_ge i (j - 1) with h | h
        · exact hp i (j - 1) h (by omega)
        · rw [show i = j - 1 by omega]; exact Int.le_refl _
      have h3 := hp (j - 1) j (by omega) hj
      rcases h1 with h1 | h1
      · omega
      · omega
    rw [hd.2 hn] at hb
    cases hb
theorem grownBy_put {w : World} {g q : Nat} (d : Array Int) : w.grownBy (Sort.putRow (Value.int .i64) (Sort.ahead w q) g 0 d) (some g) := by
  have h := @grownBy_sortedI w g q #[] d
  simp only [Sort.grow, Array.append_empty] at h
  exact h
theorem compact_any {w : World} {base : Nat} {v : Value} {xs : List Int} (h : w.ownsRow base 3 1 v xs.length (xs.map (Value.int .i64))) :
    Calls Try.prog 38 #[v] w fun e w' => ∃ A c, e = .returned (.slice A (Lib.compact xs).length c) ∧ w.grownBy w' v.ownBlock := by
  rcases h.2 with ⟨rfl, hn⟩ | ⟨g, cap, cur, rfl, hb, hgg, h1, h2, h3, h4⟩
  · have hx : xs = [] := List.eq_nil_of_length_eq_zero hn
    subst hx
    refine (Any.slices_Compact_int_empty Try.compL none 0 w).mono ?_
    rintro e w' ⟨rfl, rfl⟩
    exact ⟨none, 0, rfl, ⟨rfl, rfl, rfl, Nat.le_refl _, fun _ _ _ => rfl⟩⟩
  · refine (Any.slices_Compact_int Try.compL g 0 cap xs w (holds_of_blockI hgg (by simpa using h4)) (by unfold maxLen at h2; omega) h1).mono ?_
    rintro e w' ⟨rfl, q, rfl⟩
    exact ⟨_, _, rfl, grownBy_put _⟩
set_option maxRecDepth 100000 in
theorem collect_any {w : World} {gf : Nat} {lb : Array Value} {xs : List Int} (eg : ∀ args w, (callFunc gf args).run Try.prog w = .ok (.enter gf args) w)
    (hit : ∀ C : Nat → Prop, (∀ k, C k → w.heap.size ≤ k) → IterStill Try.prog gf lb iv C (fun _ => True) xs w) (hfit : xs.length * 8 ≤ 140737488355328) :
    Calls Try.prog 69 #[.func (.func gf) #[] lb] w fun e w' => ∃ v, e = .returned v ∧ w'.ownsRow w.heap.size 3 1 v xs.length (xs.map (Value.int .i64)) ∧ Below w.heap.size w w' := by
  go_enter Try.func69, Try.ntmps69
  go_wp2_with (go_at_call 86; refine (appendSeq_any eg hit hfit).mono ?_; rintro e w1 ⟨v, rfl, h1, h2⟩)
  go_ret
  exact ⟨v, rfl, h1, h2⟩
theorem sort_own {w : World} {base : Nat} {v : Value} {xs : List Int} (h : w.ownsRow base 3 1 v xs.length (xs.map (Value.int .i64))) (hz : xs.length < 4611686018427387904) :
    Calls Try.prog 70 #[v] w fun e w' => e = .returned (.tuple #[]) ∧ w'.ownsRow base 3 1 v xs.length ((sortM xs).map (Value.int .i64)) ∧ w.grownBy w' v.ownBlock := by
  rcases h.2 with ⟨rfl, hn⟩ | ⟨g, cap, cur, rfl, hb, hgg, h1, h2, h3, h4⟩
  · have hx : xs = [] := List.eq_nil_of_length_eq_zero hn
    subst hx
    refine (Any.slices_Sort_int_none Try.sortL none 0 w).mono ?_
    rintro e w' ⟨rfl, rfl⟩
    exact ⟨rfl, by simpa [sortM] using h, ⟨rfl, rfl, rfl, Nat.le_refl _, fun _ _ _ => rfl⟩⟩
  · exact sort_any h hz
set_option maxRecDepth 100000 in
theorem sorted_any {w : World} {gf : Nat} {lb : Array Value} {xs : List Int} (eg : ∀ args w, (callFunc gf args).run Try.prog w = .ok (.enter gf args) w)
    (hit : ∀ C : Nat → Prop, (∀ k, C k → w.heap.size ≤ k) → IterStill Try.prog gf lb iv C (fun _ => True) xs w) (hfit : xs.length * 8 ≤ 140737488355328) :
    Calls Try.prog 36 #[.func (.func gf) #[] lb] w fun e w' => ∃ v, e = .returned v ∧ w'.ownsRow w.heap.size 3 1 v xs.length ((sortM xs).map (Value.int .i64)) ∧ Below w.heap.size w w' := by
  go_enter Try.func36, Try.ntmps36
  go_wp2_with (first
    | (go_at_call 69; refine (collect_any eg hit hfit).mono ?_; rintro e w1 ⟨v, rfl, h1, h2⟩)
    | (go_at_call 70; refine (sort_own h1 (by omega)).mono ?_; rintro e w2 ⟨rfl, h3, h4⟩))
  go_ret
  exact ⟨v, rfl, h3, h2.trans ((Keep.of_grown h4).below (fun k hk => (World.ownsRow.lt h1 k hk.symm).1) h2.size)⟩
end Go.Proofs.Ytllmahcanipcpaa
