/- Words for slices of slices of integers: read (below a block), and owned by a call. -/
import Derived.Test.YtllmahcanipcpaaHI
import Derived.OwnWalkIn
import Derived.TacticsInMore
import Derived.Deep.DeepCutAuto
set_option linter.unusedVariables false
set_option linter.unusedSimpArgs false
namespace Go.Proofs.Ytllmahcanipcpaa
open Go.RowKit

/-- A slice of slices that reads as lists of integers, all below block B. -/
structure ListsS (w : World) (B : Nat) (A : Option Addr) (n c : Nat) (gs : List (List Int)) : Prop where
  len : gs.length = n
  cap : n ≤ c
  max : c ≤ maxLen
  row : 0 < n → ∃ b off, A = some ⟨b, off, none⟩ ∧ b < B ∧ ∀ j, j < n → ∃ A' c', w.cell? ⟨b, off + j, none⟩ = some (.slice A' (nth gs j).length c') ∧ IntsS w B A' (nth gs j).length c' (nth gs j)
section
variable {w w' : World} {B B' n c : Nat} {A : Option Addr} {gs : List (List Int)}
theorem ListsS.bd (h : ListsS w B A n c gs) : n ≤ 9223372036854775807 := by have h1 := h.cap; have h2 := h.max; unfold maxLen at h2; omega
theorem ListsS.below (h : ListsS w B A n c gs) (hb : Below B w w') : ListsS w' B A n c gs := ⟨h.len, h.cap, h.max, fun hn => by
  obtain ⟨b, off, e, hbb, hc⟩ := h.row hn
  refine ⟨b, off, e, hbb, fun j hj => ?_⟩
  obtain ⟨A', c', h1, h2⟩ := hc j hj
  exact ⟨A', c', (hb.cell (p := ⟨_, _, _⟩) hbb).trans h1, h2.below hb⟩⟩
theorem ListsS.more (h : ListsS w B A n c gs) (hB : B ≤ B') : ListsS w B' A n c gs := ⟨h.len, h.cap, h.max, fun hn => by
  obtain ⟨b, off, e, hbb, hc⟩ := h.row hn
  exact ⟨b, off, e, by omega, fun j hj => by obtain ⟨A', c', h1, h2⟩ := hc j hj; exact ⟨A', c', h1, h2.more hB⟩⟩⟩
theorem ListsS.next (h : ListsS w w.heap.size A n c gs) (hb : Below w.heap.size w w') : ListsS w' w'.heap.size A n c gs := (h.below hb).more hb.size
theorem ListsS.at_ (h : ListsS w B A n c gs) {j : Nat} (hj : j < n) : ∃ b off A' c', A = some ⟨b, off, none⟩ ∧ b < B ∧ w.cell? ⟨b, off + j, none⟩ = some (.slice A' (nth gs j).length c') ∧ IntsS w B A' (nth gs j).length c' (nth gs j) := by
  obtain ⟨b, off, e, hbb, hc⟩ := h.row (by omega)
  obtain ⟨A', c', h1, h2⟩ := hc j hj
  exact ⟨b, off, A', c', e, hbb, h1, h2⟩
end

theorem own_below {w w' : World} {base : Nat} {e : TypeId} {size n : Nat} {v : Value} {xs : List Value} (h : w.ownsRow base e size v n xs) (hb : Below w.heap.size w w') : w'.ownsRow base e size v n xs := by
  refine ⟨h.1, ?_⟩
  rcases h.2 with h' | ⟨g, cap, cur, hv, hg, hh, r⟩
  · exact .inl h'
  · exact .inr ⟨g, cap, cur, hv, hg, by rw [hb.block g (Array.getElem?_eq_some_iff.1 hh).1]; exact hh, r⟩
theorem own_types {w w' : World} {base base' : Nat} {e e' : TypeId} {size size' n n' : Nat} {v v' : Value} {xs xs' : List Value} (h : w.ownsRow base e size v n xs) (h' : w.ownsRow base' e' size' v' n' xs') (hne : e ≠ e') {o : Obj}
    (hg : (w.alloc o).grownBy w' v'.ownBlock) : w'.ownsRow base e size v n xs := by
  refine (h.alloc o).kept hg ?_
  rcases h.2 with ⟨rfl, _⟩ | ⟨g, cap, cur, rfl, _, hh, _⟩
  · exact .inl rfl
  · refine .inr fun e1 => ?_
    rcases h'.2 with ⟨rfl, _⟩ | ⟨g', cap', cur', rfl, _, hh', _⟩
    · simp [Value.ownBlock] at e1
    · simp only [Value.ownBlock, Option.some.injEq] at e1
      subst e1
      rw [hh] at hh'
      simp only [Option.some.injEq, Obj.cells.injEq] at hh'
      exact hne hh'.2.1

/-- A row of the call's own that holds lists of integers, each a row of the call's own. -/
def OwnLists (w : World) (base : Nat) (v : Value) (gs : List (List Int)) : Prop :=
  ∃ vs : List Value, w.ownsRow base 23 1 v gs.length vs ∧ ∀ j, j < gs.length → ∃ u, vs[j]? = some u ∧ w.ownsRow base 3 1 u (nth gs j).length ((nth gs j).map (Value.int .i64))
section
variable {w w' : World} {base B : Nat} {v : Value} {gs : List (List Int)}
theorem OwnLists.nil_ : OwnLists w base (.slice none 0 0) [] := ⟨[], World.ownsRow_nil _ _ _ _, fun j hj => absurd hj (Nat.not_lt_zero _)⟩
theorem OwnLists.below (h : OwnLists w base v gs) (hb : Below w.heap.size w w') : OwnLists w' base v gs := by
  obtain ⟨vs, h1, h2⟩ := h
  refine ⟨vs, own_below h1 hb, fun j hj => ?_⟩
  obtain ⟨u, h3, h4⟩ := h2 j hj
  exact ⟨u, h3, own_below h4 hb⟩
theorem nth_snoc_lt {α : Type} [Inhabited α] (l : List α) (x : α) {j : Nat} (h : j < l.length) : nth (l ++ [x]) j = nth l j := by simp [nth, List.getElem?_append_left h]
theorem nth_snoc_eq {α : Type} [Inhabited α] (l : List α) (x : α) : nth (l ++ [x]) l.length = x := by simp [nth]
theorem OwnLists.lists (h : OwnLists w base v gs) : ∃ A c, v = .slice A gs.length c ∧ ListsS w w.heap.size A gs.length c gs := by
  obtain ⟨vs, h1, h2⟩ := h
  rcases h1.2 with ⟨rfl, h0⟩ | ⟨g, cap, cur, rfl, hg, hh, h3, h4, h5, h6⟩
  · rw [h0]
    obtain rfl : gs = [] := List.eq_nil_of_length_eq_zero h0
    exact ⟨none, 0, rfl, rfl, Nat.le_refl _, by simp [maxLen], fun h => absurd h (by omega)⟩
  · refine ⟨_, cap, rfl, rfl, h3, h4, fun hm => ⟨g, 0, rfl, (Array.getElem?_eq_some_iff.1 hh).1, fun j hj => ?_⟩⟩
    obtain ⟨u, h7, h8⟩ := h2 j hj
    obtain ⟨A', c', rfl, h9⟩ := IntsS.of_own h8
    refine ⟨A', c', ?_, h9⟩
    have := h1.cells (g := g) rfl j _ h7
    have hadd : (⟨g, 0, none⟩ : Addr).add j = ⟨g, 0 + j, none⟩ := by unfold Addr.add; split <;> simp_all
    rwa [hadd] at this
theorem OwnLists.snoc {vs : List Value} {u : Value} {xs : List Int} {w1 : World} {v' : Value} {o : Obj} (h1 : w.ownsRow base 23 1 v gs.length vs) (h2 : ∀ j, j < gs.length → ∃ u, vs[j]? = some u ∧ w.ownsRow base 3 1 u (nth gs j).length ((nth gs j).map (Value.int .i64)))
    (hu : w.ownsRow base 3 1 u xs.length (xs.map (Value.int .i64))) (ho : w1.ownsRow base 23 1 v' (gs.length + 1) (vs ++ [u])) (hg : (w.alloc o).grownBy w1 v.ownBlock) : OwnLists w1 base v' (gs ++ [xs]) := by
  have hl : vs.length = gs.length := by have := h1.1; omega
  refine ⟨vs ++ [u], by simpa using ho, fun j hj => ?_⟩
  by_cases hjl : j < gs.length
  · obtain ⟨u', h3, h4⟩ := h2 j hjl
    rw [nth_snoc_lt _ _ hjl]
    exact ⟨u', by rw [List.getElem?_append_left (by omega)]; exact h3, own_types h4 h1 (by decide) hg⟩
  · obtain rfl : j = gs.length := by simp at hj; omega
    rw [nth_snoc_eq]
    exact ⟨u, by rw [← hl]; simp, own_types hu h1 (by decide) hg⟩
end
theorem Try.infoInts : (Try.prog.info? 23).map (fun i => (i.zero, i.size, i.bytes)) = some (some (.slice none 0 0), 1, 24) := by kernel_rfl
/-- A row of the call's own that holds slices of integers that lie below block B. -/
def OwnRefs (w : World) (base B : Nat) (v : Value) (gs : List (List Int)) : Prop :=
  ∃ vs : List Value, w.ownsRow base 23 1 v gs.length vs ∧ ∀ j, j < gs.length → ∃ A c, vs[j]? = some (.slice A (nth gs j).length c) ∧ IntsS w B A (nth gs j).length c (nth gs j)
section
variable {w w' : World} {base B : Nat} {v : Value} {gs : List (List Int)}
theorem OwnRefs.nil_ : OwnRefs w base B (.slice none 0 0) [] := ⟨[], World.ownsRow_nil _ _ _ _, fun j hj => absurd hj (Nat.not_lt_zero _)⟩
theorem OwnRefs.below (h : OwnRefs w base B v gs) (hB : B ≤ w.heap.size) (hb : Below w.heap.size w w') : OwnRefs w' base B v gs := by
  obtain ⟨vs, h1, h2⟩ := h
  refine ⟨vs, own_below h1 hb, fun j hj => ?_⟩
  obtain ⟨A, c, h4, h5⟩ := h2 j hj
  exact ⟨A, c, h4, h5.below (hb.mono hB)⟩
theorem OwnRefs.lists (h : OwnRefs w base B v gs) (hB : B ≤ w.heap.size) : ∃ A c, v = .slice A gs.length c ∧ ListsS w w.heap.size A gs.length c gs := by
  obtain ⟨vs, h1, h2⟩ := h
  rcases h1.2 with ⟨rfl, h0⟩ | ⟨g, cap, cur, rfl, hg, hh, h3, h4, h5, h6⟩
  · rw [h0]
    obtain rfl : gs = [] := List.eq_nil_of_length_eq_zero h0
    exact ⟨none, 0, rfl, rfl, Nat.le_refl _, by simp [maxLen], fun h => absurd h (by omega)⟩
  · refine ⟨_, cap, rfl, rfl, h3, h4, fun hm => ⟨g, 0, rfl, (Array.getElem?_eq_some_iff.1 hh).1, fun j hj => ?_⟩⟩
    obtain ⟨A', c', h8, h9⟩ := h2 j hj
    refine ⟨A', c', ?_, h9.more hB⟩
    have := h1.cells (g := g) rfl _ _ h8
    have hadd : (⟨g, 0, none⟩ : Addr).add j = ⟨g, 0 + j, none⟩ := by unfold Addr.add; split <;> simp_all
    rwa [hadd] at this
theorem OwnRefs.snoc {vs : List Value} {xs : List Int} {A : Option Addr} {c : Nat} {w1 : World} {v' : Value} (h2 : ∀ j, j < gs.length → ∃ A c, vs[j]? = some (.slice A (nth gs j).length c) ∧ IntsS w B A (nth gs j).length c (nth gs j)) (hl : vs.length = gs.length)
    (hu : IntsS w B A xs.length c xs) (ho : w1.ownsRow base 23 1 v' (gs.length + 1) (vs ++ [.slice A xs.length c])) (hb : Below B w w1) : OwnRefs w1 base B v' (gs ++ [xs]) := by
  refine ⟨_, by simpa using ho, fun j hj => ?_⟩
  by_cases hjl : j < gs.length
  · obtain ⟨A', c', h4, h5⟩ := h2 j hjl
    rw [nth_snoc_lt _ _ hjl]
    exact ⟨A', c', by rw [List.getElem?_append_left (by omega)]; exact h4, h5.below hb⟩
  · obtain rfl : j = gs.length := by simp at hj; omega
    rw [nth_snoc_eq]
    exact ⟨A, c, by rw [← hl]; simp, hu.below hb⟩
end
end Go.Proofs.Ytllmahcanipcpaa
/- The contract of the reference's Places. -/
namespace Go.Proofs.Ytllmahcanipcpaa
open Go.RowKit
attribute [local go_sem ↓] Go.wp_at_zero Go.wp_at_succ
attribute [local go_sem] Oper.semAt_some

theorem flat_take {α β : Type} [Inhabited α] (G : List α) (f : α → List β) {k : Nat} (hk : k < G.length) : (G.take (k + 1)).flatMap f = (G.take k).flatMap f ++ f (nth G k) := by
  rw [take_nth hk, List.flatMap_append]; simp
theorem flat_len {α β : Type} (l : List α) (f : α → List β) (n : Nat) (h : ∀ g ∈ l, (f g).length ≤ n) : (l.flatMap f).length ≤ l.length * n := by
  induction l with
  | nil => simp
  | cons x l ih =>
    have h1 := h x (by simp)
    have h2 := ih (fun g hg => h g (by simp [hg]))
    simp only [List.flatMap_cons, List.length_append, List.length_cons, Nat.add_mul, Nat.one_mul]
    omega
def nextP (f : File) (i : Nat) (g : List Int) : List (List Int) := (spanVals (nth f.lots i).turned).map fun x => g ++ [x]
theorem allTo_succ (f : File) (i : Nat) : allTo f (i + 1) = (allTo f i).flatMap (nextP f i) := rfl
theorem nextP_len {f : File} (hv : Valid f) {i : Nat} (hi : i < f.lots.length) (g : List Int) : (nextP f i g).length ≤ 4 := by
  have h1 := hv.lot i hi
  have h2 := hv.route i hi
  simp [nextP, spanVals]; omega
theorem allTo_facts {f : File} (hv : Valid f) : ∀ i, i ≤ f.lots.length → (allTo f i).length ≤ 4 ^ i ∧ ∀ g ∈ allTo f i, g.length = i
  | 0, _ => by simp [allTo]
  | i + 1, h => by
    obtain ⟨h1, h2⟩ := allTo_facts hv i (by omega)
    refine ⟨?_, fun g hg => ?_⟩
    · rw [allTo_succ, Nat.pow_succ]
      exact Nat.le_trans (flat_len _ _ 4 (fun g _ => nextP_len hv (by omega) g)) (Nat.mul_le_mul_right _ h1)
    · rw [allTo_succ, List.mem_flatMap] at hg
      obtain ⟨g', hg', hx⟩ := hg
      simp only [nextP, List.mem_map] at hx
      obtain ⟨x, _, rfl⟩ := hx
      simp [h2 g' hg']
theorem allTo_256 {f : File} (hv : Valid f) {i : Nat} (hi : i ≤ f.lots.length) : (allTo f i).length ≤ 256 := by
  have := (allTo_facts hv i hi).1
  have h4 := hv.lots
  exact Nat.le_trans this (Nat.le_trans (Nat.pow_le_pow_right (by omega) (by omega : i ≤ 4)) (by decide))
set_option maxHeartbeats 4000000 in
set_option maxRecDepth 100000 in
theorem places_any {f : File} {fa : FA} {w : World} (h : FileV w w.heap.size f fa) (hv : Valid f) :
    Calls Try.prog 82 #[fileVal f fa] w fun e w' =>
      ∃ A c', e = .returned (.slice A (allP f).length c') ∧ ListsS w' w'.heap.size A (allP f).length c' (allP f) ∧ Below w.heap.size w w' := by
  obtain ⟨i1, gi, gz0, gz1, gz2⟩ := info_parts Try.infoInts
  have HBX := hide (BoxF.made h)
  have HB0 : Hid (Below w.heap.size w (w.alloc (.cells (fileCells f fa) 28))) := hide ((Below.refl _ _).alloc (Nat.le_refl _) _)
  have hm3 := h.m3
  unfold maxLen at hm3
  have HV := hide hv
  have hll := hv.lots
  clear h hv
  go_enter Try.func82, Try.ntmps82
  go_upto_region 1 with (fail)
  generalize (w.alloc (.cells (fileCells f fa) 28)) = w0 at *
  have hO0 : OwnLists (w0.alloc (.cells #[.slice none 0 0] 23)) w0.heap.size (.slice (some ⟨w0.heap.size, 0, none⟩) 1 1) [[]] :=
    ⟨[.slice none 0 0], by simpa using World.ownsRow_lit (base := w0.heap.size) (e := 23) (size := 1) w0 #[.slice none 0 0] 1 (by simp) (by simp [maxLen]) rfl,
      fun j hj => by obtain rfl : j = 0 := by simpa using hj
                     exact ⟨_, rfl, World.ownsRow_nil _ _ _ _⟩⟩
  obtain ⟨A0, cc0, e0, hL0⟩ := hO0.lists
  simp only [Value.slice.injEq, List.length_singleton, true_and] at e0
  obtain ⟨rfl, rfl⟩ := e0
  have hba : Below w0.heap.size w0 (w0.alloc (.cells #[.slice none 0 0] 23)) := (Below.refl _ _).alloc (Nat.le_refl _) _
  have HB1 := hide (HB0.out.trans (hba.mono HB0.out.size))
  have HBX1 := hide (HBX.out.next hba)
  have HL0 := hide hL0
  clear hO0 hL0 hba
  go_wp2_with fail
  generalize (w0.alloc (.cells #[.slice none 0 0] 23)) = w1 at *
  go_loopw [3, 4, 5, 6, 7] (fun v3 v4 _ _ _ wr => ∃ (i : Nat) (A : Option Addr) (cc : Nat), i ≤ f.lots.length ∧ v4 = .int .i64 i ∧ v3 = .slice A (allTo f i).length cc ∧ Below w1.heap.size w1 wr ∧
     ListsS wr wr.heap.size A (allTo f i).length cc (allTo f i)) (fun _ v4 _ _ _ _ => f.lots.length - (intOf v4).toNat)
  case atStart => exact ⟨0, _, _, Nat.zero_le _, rfl, rfl, Below.refl _ _, HL0.out⟩
  case round =>
    obtain ⟨i, A, cc, hi', rfl, rfl, hB, hL⟩ := hrel
    obtain ⟨wa, rfl⟩ : ∃ wa : World, wa = wr := ⟨_, rfl⟩
    have hi0 : (0 : Int) ≤ (i : Int) := Int.natCast_nonneg _
    have qb := HBX1.out.next hB
    obtain ⟨hz, p0, p1, p2, p3, p4⟩ := qb.cells
    by_cases hlt : i < f.lots.length
    · have hj1 : (i : Int) < (f.lots.length : Int) := by omega
      obtain ⟨bl, ol, hA3, hbl, y0, y1, y2, y3⟩ := qb.v.lots.lots hlt
      rw [hA3] at p2
      have HSU := hide (allTo_succ f i)
      have HGL := hide (allTo_256 HV.out (show i ≤ f.lots.length by omega))
      have HGF := hide (allTo_facts HV.out i (show i ≤ f.lots.length by omega)).2
      have HNX := hide (fun g => nextP_len HV.out hlt g)
      have HTL := hide (HV.out.lot i hlt)
      have HNP := hide (fun g => show nextP f i g = (spanVals (nth f.lots i).turned).map fun x => g ++ [x] from rfl)
      generalize (nth f.lots i).turned = ts at *
      obtain ⟨lo, hi⟩ := ts
      dsimp only at y1 y2
      have hlo0 := HTL.out.1
      have hlohi := HTL.out.2.1
      have hhi4 : hi < 4 := by have := HTL.out.2.2.1; have := (HV.out.route i hlt).1; dsimp only at *; omega
      dsimp only at hlo0 hlohi
      have HBA := hide qb
      clear p0 p1 p3 p4 y0 y3 hA3 qb
      generalize hGG : allTo f i = G at *
      have HGG := hide hGG
      have hGl := HGL.out
      clear hGG
      go_wp2_with fail
      go_loopw [5, 6, 7] (fun v5 v6 _ w2 => ∃ k : Nat, k ≤ G.length ∧ v6 = .int .i64 k ∧ Below wa.heap.size wa w2 ∧ OwnLists w2 wa.heap.size v5 ((G.take k).flatMap (nextP f i))) (fun _ v6 _ _ => G.length - (intOf v6).toNat)
      case atStart => exact ⟨0, Nat.zero_le _, rfl, Below.refl _ _, OwnLists.nil_⟩
      case round =>
        obtain ⟨k, hk, rfl, hB2, hO⟩ := hrel
        have hk0 : (0 : Int) ≤ (k : Int) := Int.natCast_nonneg _
        have hz2 := hB2.size
        have p2 := (hB2.cell (p := ⟨w.heap.size, 2, none⟩) hz).trans p2
        have y1 := (hB2.cell (p := ⟨bl, ol + i * 4 + 1, none⟩) hbl).trans y1
        have y2 := (hB2.cell (p := ⟨bl, ol + i * 4 + 2, none⟩) hbl).trans y2
        by_cases hlt2 : k < G.length
        · obtain ⟨wb, rfl⟩ : ∃ wb : World, wb = wr := ⟨_, rfl⟩
          obtain ⟨bg, og, Ag, cg, rfl, hbg, hgc, hgi⟩ := hL.at_ hlt2
          have hk1 : (k : Int) < (G.length : Int) := by omega
          have hgl2 := HGF.out (nth G k) (by rw [nth_eq hlt2]; exact List.getElem_mem hlt2)
          have HGL2 := hide hgl2
          have HFT := hide (flat_take G (nextP f i) hlt2)
          have HNC := hide (HNP.out (nth G k))
          have hbz : bg < wb.heap.size := by omega
          have hblz : bl < wb.heap.size := by omega
          have hwz : w.heap.size < wb.heap.size := by omega
          have hBwb := hB2
          clear hgl2
          go_wp2_with fail
          go_loopw [5, 7] (fun v5 v7 w3 => ∃ m : Nat, (m : Int) ≤ hi - lo + 1 ∧ v7 = .int .i64 (lo + m) ∧ Below wa.heap.size wa w3 ∧
             OwnLists w3 wa.heap.size v5 ((G.take k).flatMap (nextP f i) ++ ((spanVals ⟨lo, hi⟩).take m).map fun x => nth G k ++ [x])) (fun _ v7 _ => (hi + 1 - intOf v7).toNat)
          case atStart => exact ⟨0, by omega, by simp, hB2, by simpa using hO⟩
          case round =>
            clear hB2 hO
            obtain ⟨m, hm, rfl, hB3, hO⟩ := hrel
            have hz3 := hB3.size
            have p2 := (hB3.cell (p := ⟨w.heap.size, 2, none⟩) hz).trans ((hBwb.cell (p := ⟨w.heap.size, 2, none⟩) hz).symm.trans p2)
            have y1 := (hB3.cell (p := ⟨bl, ol + i * 4 + 1, none⟩) hbl).trans ((hBwb.cell (p := ⟨bl, ol + i * 4 + 1, none⟩) hbl).symm.trans y1)
            have y2 := (hB3.cell (p := ⟨bl, ol + i * 4 + 2, none⟩) hbl).trans ((hBwb.cell (p := ⟨bl, ol + i * 4 + 2, none⟩) hbl).symm.trans y2)
            have hgc := (hB3.cell (p := ⟨bg, og + k, none⟩) hbg).trans hgc
            have hblz : bl < wr.heap.size := by omega
            have hwz : w.heap.size < wr.heap.size := by omega
            by_cases hle : (m : Int) ≤ hi - lo
            · have hgiw := hgi.below hB3
              have hq3 : lo + (m : Int) ≤ hi := by omega
              have hbgz : bg < wr.heap.size := by omega
              have HLEN : Hid (((G.take k).flatMap (nextP f i) ++ ((spanVals ⟨lo, hi⟩).take m).map fun x => nth G k ++ [x]).length ≤ 100000) := by
                have h1 := flat_len (G.take k) (nextP f i) 4 (fun g _ => HNX.out g)
                have h2 : (((spanVals ⟨lo, hi⟩).take m).map fun x => nth G k ++ [x]).length ≤ 4 := by rw [List.length_map]; have := List.length_take_le m (spanVals ⟨lo, hi⟩); omega
                have h3 : (G.take k).length ≤ G.length := by simp; omega
                show _ ≤ _
                rw [List.length_append]
                omega
              go_wp2_with (first
                | (at_builtin
                   refine wpList_app_ints _ rfl (.tmp 41) (.tmp 45) rfl wr.heap.size (.slice (some ⟨wr.heap.size, 0, none⟩) 0 0) 0 [] rfl (World.ownsRow_lit _ #[] 0 (Nat.le_refl _) (by simp [maxLen]) rfl) Ag _ cg _ _ rfl (hgiw.below ((Below.refl _ _).alloc (by omega) _)) (by have := HGL2.out; omega) (by simp) ?_
                   intro v1 w4 hown1 hg1 hat1
                   have hbA : Below wr.heap.size wr w4 := ((Below.refl _ wr).alloc (Nat.le_refl _) (.cells #[] 3)).grown hg1 (by simp) (fun k hk => by simp [Value.ownBlock] at hk; omega)
                   have hzA := hbA.size
                   clear hg1 hat1)
                | (at_builtin
                   refine wpList_app_ints _ rfl (.tmp 46) (.tmp 48) rfl wr.heap.size v1 _ _ rfl (hown1.alloc _) (some ⟨w4.heap.size, 0, none⟩) 1 1 _ [lo + m] rfl (IntsS.lit1 rfl _) (by have := HGL2.out; omega) (by simp; omega) ?_
                   intro v2 w5 hown2 hg2 hat2
                   have hbB := hbA.trans (app_below hzA hown1 hg2)
                   have hown2' : w5.ownsRow wr.heap.size 3 1 v2 ((nth G k).length + 1) ((nth G k ++ [lo + (m : Int)]).map (Value.int .i64)) := by simpa using hown2
                   obtain ⟨A2', c2', rfl, hs2⟩ := IntsS.of_own hown2'
                   have HOWN2 := hide (show w5.ownsRow wa.heap.size 3 1 (.slice A2' ((nth G k).length + 1) c2') (nth G k ++ [lo + (m : Int)]).length ((nth G k ++ [lo + (m : Int)]).map (Value.int .i64)) by rw [List.length_append]; exact own_base hown2' hz3)
                   obtain ⟨vs, hv1, hv2⟩ := hO.below hbB
                   have hzB := hbB.size
                   clear hg2 hat2 hown2 hown2' hs2 hown1)
                | (at_builtin
                   refine wpList_append_own _ rfl (.tmp 40) (.tmp 50) _ rfl wa.heap.size 23 i1 (.slice none 0 0) 1 24 Try.underlying89 gi gz0 gz1 gz2 rfl (by decide) _ _ vs rfl (hv1.alloc _) ⟨w5.heap.size, 0, none⟩ 1 1 [.slice A2' ((nth G k).length + 1) c2'] rfl rfl ?c1 ?c2 ?c3 ?c4 ?c5 ?_
                   case c1 => exact cell_one_new _ _ _
                   case c2 => simp [Value.oneCell']
                   case c3 => simp only [maxLen]; have := HLEN.out; omega
                   case c4 => have := HLEN.out; omega
                   case c5 => simp; omega
                   intro v' w6 hown6 hg6 _
                   have hbC := app_below (show wa.heap.size ≤ w5.heap.size by omega) hv1 hg6
                   have hOO := OwnLists.snoc hv1 hv2 HOWN2.out hown6 hg6
                   clear hg6 hown6))
              go_roundw
              case rel =>
                exact ⟨m + 1, by omega, by go_num, hB3.trans ((hbB.mono hz3).trans hbC), by rw [take_map_range ⟨lo, hi⟩ hle]; simpa using hOO⟩
              case measure => simp [intOf]; omega
            · have hq3 : ¬ lo + (m : Int) ≤ hi := by omega
              go_wp2
              go_roundw
              case rel => exact ⟨k + 1, by omega, by go_num, hB3, by rw [HFT.out, HNC.out]; rw [spanVals_take ⟨lo, hi⟩ (show hi - lo < m by omega)] at hO; exact hO⟩
              case measure => simp [intOf]; omega
        · have hkk : k = G.length := by omega
          rw [hkk, List.take_length, ← HSU.out] at hO
          clear hkk
          obtain ⟨A', c', rfl, hL'⟩ := hO.lists
          go_wp2
          go_roundw
          case rel => exact ⟨i + 1, A', c', by omega, by go_num, rfl, hB.trans (hB2.mono hB.size), hL'⟩
          case measure => simp [intOf]; omega
    · obtain rfl : i = f.lots.length := by omega
      go_wp2
      go_ret
      exact ⟨A, cc, rfl, hL, HB1.out.trans (hB.mono HB1.out.size)⟩
end Go.Proofs.Ytllmahcanipcpaa
/- Contracts of the reference's With and So. -/
namespace Go.Proofs.Ytllmahcanipcpaa
open Go.RowKit
attribute [local go_sem ↓] Go.wp_at_zero Go.wp_at_succ
attribute [local go_sem] Oper.semAt_some

/-- Places: one in each lot's route. -/
def Pl (f : File) (p : List Int) : Prop := p.length = f.lots.length ∧ ∀ l, l < f.lots.length → 0 ≤ nth p l ∧ nth p l < (nth f.lots l).route.length
theorem allTo_pl {f : File} (hv : Valid f) : ∀ i, i ≤ f.lots.length → ∀ g ∈ allTo f i, g.length = i ∧ ∀ l, l < i → 0 ≤ nth g l ∧ nth g l < (nth f.lots l).route.length
  | 0, _, g, hg => by
    simp only [allTo, List.mem_singleton] at hg
    subst hg
    exact ⟨rfl, fun l hl => by omega⟩
  | i + 1, h, g, hg => by
    rw [allTo_succ, List.mem_flatMap] at hg
    obtain ⟨g', hg', hx⟩ := hg
    simp only [nextP, List.mem_map, spanVals, List.mem_range] at hx
    obtain ⟨x, ⟨k, hk, rfl⟩, rfl⟩ := hx
    obtain ⟨h1, h2⟩ := allTo_pl hv i (by omega) g' hg'
    refine ⟨by simp [h1], fun l hl => ?_⟩
    rcases Nat.lt_or_ge l i with h3 | h3
    · rw [nth_snoc_lt _ _ (by omega)]; exact h2 l h3
    · obtain rfl : l = i := by omega
      have e : nth (g' ++ [(nth f.lots l).turned.lo + (k : Int)]) l = (nth f.lots l).turned.lo + k := by have := nth_snoc_eq g' ((nth f.lots l).turned.lo + (k : Int)); rwa [h1] at this
      rw [e]
      have h4 := hv.lot l (by omega)
      omega
theorem allP_pl {f : File} (hv : Valid f) {g : List Int} (hg : g ∈ allP f) : Pl f g := allTo_pl hv _ (Nat.le_refl _) g hg
set_option maxHeartbeats 1000000 in
set_option maxRecDepth 100000 in
theorem with7_any {f : File} {fa : FA} {w : World} {A : Option Addr} {n c : Nat} {p : List Int} (h : FileV w w.heap.size f fa) (hp : IntsS w w.heap.size A n c p) (hP : Pl f p) {l : Nat} (hl : l < f.lots.length) :
    Calls Try.prog 54 #[fileVal f fa, .slice A n c, .int .i64 (l : Nat)] w fun e w' => e = .returned (.int .i64 (withM f p l)) ∧ Below w.heap.size w w' := by
  have HBX := hide (BoxF.made h)
  have HB0 : Hid (Below w.heap.size w (w.alloc (.cells (fileCells f fa) 28))) := hide ((Below.refl _ _).alloc (Nat.le_refl _) _)
  have HP0 := hide (hp.next HB0.out)
  have hm3 := h.m3
  unfold maxLen at hm3
  have hpn := hp.bd
  have hln : l < n := by rw [← hp.len, hP.1]; exact hl
  have hpl := hP.2 l hl
  have HW := hide (show withM f p l = nth (nth f.lots l).route (nth p l).toNat from rfl)
  clear h hp hP
  go_enter Try.func54, Try.ntmps54
  go_upto_region 1 with (fail)
  generalize (w.alloc (.cells (fileCells f fa) 28)) = w0 at *
  obtain ⟨hz, p0, p1, p2, p3, p4⟩ := HBX.out.cells
  obtain ⟨bl, ol, hA3, hbl, y0, y1, y2, y3⟩ := HBX.out.v.lots.lots hl
  obtain ⟨bp, op, rfl, hbp, hpc⟩ := HP0.out.at_ hln
  have hri := HBX.out.v.routes l hl
  have hrm := hri.bd
  generalize hX : nth p l = x at *
  obtain ⟨k, rfl⟩ : ∃ k : Nat, x = k := ⟨x.toNat, by omega⟩
  have hkl : k < (nth f.lots l).route.length := by omega
  rw [Int.toNat_natCast] at HW
  obtain ⟨br, or', hRA, hbr, hrc⟩ := hri.at_ hkl
  rw [hA3] at p2
  rw [hRA] at y0
  have hl0 : (0 : Int) ≤ (l : Int) := Int.natCast_nonneg _
  have hl1 : (l : Int) < (f.lots.length : Int) := by omega
  have hl2 : (l : Int) < (n : Int) := by omega
  have hk0 : (0 : Int) ≤ (k : Int) := Int.natCast_nonneg _
  have hk1 : (k : Int) < ((nth f.lots l).route.length : Int) := by omega
  clear hX hA3 hRA hri p0 p1 p3 p4 y1 y2 y3 hpl
  go_quiet (fail)
  go_wp2_with fail
  go_ret
  exact ⟨by rw [HW.out]; rfl, below_drewN HB0.out _⟩
set_option maxHeartbeats 4000000 in
set_option maxRecDepth 100000 in
theorem so7_any {f : File} {fa : FA} {w : World} {A : Option Addr} {n c : Nat} {p : List Int} (h : FileV w w.heap.size f fa) (hp : IntsS w w.heap.size A n c p) (hP : Pl f p) (x : Paper) (hx : 0 ≤ x.says ∧ x.says ≤ 3 ∧ 0 ≤ x.lot ∧ x.lot < f.lots.length ∧ (2 ≤ x.says → 0 ≤ x.of_ ∧ x.of_ < f.lots.length)) :
    Calls Try.prog 83 #[fileVal f fa, .agg #[.int .i64 x.says, .int .i64 x.lot, .int .i64 x.of_], .slice A n c] w fun e w' => e = .returned (.bool (soP f x p)) ∧ Below w.heap.size w w' := by
  obtain ⟨s, l, o⟩ := x
  obtain ⟨hs0, hs3, hl0, hl1, ho⟩ := hx
  dsimp only at *
  obtain ⟨l, rfl⟩ : ∃ k : Nat, l = k := ⟨l.toNat, by omega⟩
  have hl : l < f.lots.length := by omega
  have HB0 : Hid (Below w.heap.size w ((w.alloc (.cells (fileCells f fa) 28)).alloc (.cells #[.int .i64 s, .int .i64 (l : Nat), .int .i64 o] 48))) := hide (((Below.refl _ _).alloc (Nat.le_refl _) _).alloc (by simp) _)
  have q1 : Blk ((w.alloc (.cells (fileCells f fa) 28)).alloc (.cells #[.int .i64 s, .int .i64 (l : Nat), .int .i64 o] 48)) w.heap.size 28 (fileCells f fa) := Blk.made.alloc _
  have q2 : Blk ((w.alloc (.cells (fileCells f fa) 28)).alloc (.cells #[.int .i64 s, .int .i64 (l : Nat), .int .i64 o] 48)) (w.heap.size + 1) 48 #[.int .i64 s, .int .i64 (l : Nat), .int .i64 o] := Blk.made' (by simp)
  have HF0 := hide (h.next HB0.out)
  have HP0 := hide (hp.next HB0.out)
  have hm3 := h.m3
  unfold maxLen at hm3
  have hpn := hp.bd
  have hln : l < n := by rw [← hp.len, hP.1]; exact hl
  have HS := hide (show soP f ⟨s, l, o⟩ p = if s = 0 then decide (placeM (nth f.lots l).route o ≤ nth p l) else if s = 1 then decide (nth p l < placeM (nth f.lots l).route o) else if s = 2 then withM f p l == withM f p o.toNat else withM f p l != withM f p o.toNat by simp [soP])
  have HPL := hide hP
  clear h hp hP
  go_enter Try.func83, Try.ntmps83
  go_upto_region 1 with (fail)
  generalize ((w.alloc (.cells (fileCells f fa) 28)).alloc (.cells #[.int .i64 s, .int .i64 (l : Nat), .int .i64 o] 48)) = w0 at *
  have p2 := q1.at_ 2
  have r0 := q2.at_ 0
  have r1 := q2.at_ 1
  have r2 := q2.at_ 2
  simp only [fileCells, List.getElem?_toArray, List.getElem?_cons_zero, List.getElem?_cons_succ] at p2 r0 r1 r2
  have hz1 := q1.lt
  have hz2 := q2.lt
  have hl2 : (l : Int) < (n : Int) := by omega
  have HQ1 := hide q1
  clear q1 q2
  have hs : s = 0 ∨ s = 1 ∨ s = 2 ∨ s = 3 := by omega
  rcases hs with rfl | rfl | rfl | rfl
  · obtain ⟨bl, ol, hA3, hbl, y0, y1, y2, y3⟩ := HF0.out.lots.lots hl
    obtain ⟨bp, op, rfl, hbp, hpc⟩ := HP0.out.at_ hln
    have HRT := hide (HF0.out.routes l hl)
    rw [hA3] at p2
    clear hA3 y1 y2 y3
    go_wp2_with fail
    go_quiet (first | (go_at_call 75; exact Calls.quiet_of_same ((place_any (HRT.out.drewN _) _).mono (fun _ _ h => ⟨h.1, h.2.symm⟩))))
    go_wp2_with fail
    go_ret
    exact ⟨by rw [HS.out]; simp, below_drewN HB0.out _⟩
  · obtain ⟨bl, ol, hA3, hbl, y0, y1, y2, y3⟩ := HF0.out.lots.lots hl
    obtain ⟨bp, op, rfl, hbp, hpc⟩ := HP0.out.at_ hln
    have HRT := hide (HF0.out.routes l hl)
    rw [hA3] at p2
    clear hA3 y1 y2 y3
    go_wp2_with fail
    go_quiet (first | (go_at_call 75; exact Calls.quiet_of_same ((place_any (HRT.out.drewN _) _).mono (fun _ _ h => ⟨h.1, h.2.symm⟩))))
    go_wp2_with fail
    go_ret
    exact ⟨by rw [HS.out]; simp, below_drewN HB0.out _⟩
  · obtain ⟨ho0, ho1⟩ := ho (by omega)
    obtain ⟨o, rfl⟩ : ∃ k : Nat, o = k := ⟨o.toNat, by omega⟩
    have hol : o < f.lots.length := by omega
    have e1 := HQ1.out.at_ 0
    have e2 := HQ1.out.at_ 1
    have e3 := HQ1.out.at_ 2
    have e4 := HQ1.out.at_ 3
    have e5 := HQ1.out.at_ 4
    simp only [fileCells, List.getElem?_toArray, List.getElem?_cons_zero, List.getElem?_cons_succ] at e1 e2 e3 e4 e5
    clear p2
    rw [Int.toNat_natCast] at HS
    go_wp2_with fail
    refine wp_region_rel (dst := fun oi => [47, 48, 49, 50, 51, 52, 53, 54, 55, 56, 57, 0].getD oi 0) (mono := fun oi => decide (oi < 11)) (pre := fun oi => decide (oi < 11)) (R := LKeep (fun _ => False) (fun _ => True))
      (Pv := fun oi v W => match oi with
        | 0 => v = fileVal f fa
        | 1 => v = .slice A n c
        | 2 => v = .pointer (some ⟨w.heap.size + 1, 1, none⟩)
        | 3 => v = .int .i64 (l : Nat)
        | 4 => v = .int .i64 (withM f p l)
        | 5 => v = fileVal f fa
        | 6 => v = .slice A n c
        | 7 => v = .pointer (some ⟨w.heap.size + 1, 2, none⟩)
        | 8 => v = .int .i64 (o : Nat)
        | 9 => v = .int .i64 (withM f p o)
        | 10 => v = .bool (withM f p l == withM f p o)
        | _ => True) (by kernel_rfl) (by kernel_rfl) (LKeep.refl _ _) (fun _ _ _ h h' => h.trans h') ?hstA ?hstepA ?hendA
    case hstA =>
      intro oi v W W' h hk
      match oi, h with
      | 0, h => exact h
      | 1, h => exact h
      | 2, h => exact h
      | 3, h => exact h
      | 4, h => exact h
      | 5, h => exact h
      | 6, h => exact h
      | 7, h => exact h
      | 8, h => exact h
      | 9, h => exact h
      | 10, h => exact h
      | oi + 11, h => exact trivial
    case hstepA =>
      intro oi hoi hom listed vs ao W hU hk0 hpv haft Ko hK
      have hkk := (LKeep.drew (fun _ => False) (M := fun _ => True) w0 (fun h => h)).trans hk0
      have hk := hkk.1
      have hkm := hkk.2
      clear hkk
      match oi, hoi, hom with
      | 0, hoi, hom =>
        have z3 : ao.tmps[3]?.getD undef = .pointer (some ⟨w.heap.size, 0, none⟩) := hU.same 3 (by decide)
        have y0 := (hk.cell (b := w.heap.size) (o := 0) (hz1) (fun h => h)).trans (e1)
        have y1 := (hk.cell (b := w.heap.size) (o := 1) (hz1) (fun h => h)).trans (e2)
        have y2 := (hk.cell (b := w.heap.size) (o := 2) (hz1) (fun h => h)).trans (e3)
        have y3 := (hk.cell (b := w.heap.size) (o := 3) (hz1) (fun h => h)).trans (e4)
        have y4 := (hk.cell (b := w.heap.size) (o := 4) (hz1) (fun h => h)).trans (e5)
        refine wpOp_value (v := fileVal f fa) (W' := W) rfl rfl ?_ (hK _ _ (LKeep.refl _ _ _) rfl)
        go_simp
      | 1, hoi, hom =>
        have z2 : ao.tmps[2]?.getD undef = .slice A n c := hU.same 2 (by decide)
        refine wpOp_value (v := .slice A n c) (W' := W) rfl rfl ?_ (hK _ _ (LKeep.refl _ _ _) rfl)
        go_simp
      | 2, hoi, hom =>
        have z4 : ao.tmps[4]?.getD undef = .pointer (some ⟨w.heap.size + 1, 0, none⟩) := hU.same 4 (by decide)
        refine wpOp_value (v := .pointer (some ⟨w.heap.size + 1, 1, none⟩)) (W' := W) rfl rfl ?_ (hK _ _ (LKeep.refl _ _ _) rfl)
        go_simp
      | 3, hoi, hom =>
        have l2 := haft _ rfl { on := 2, ground := .data } (by simp) rfl
        have hv2 : vs 2 = .pointer (some ⟨w.heap.size + 1, 1, none⟩) := hpv 2 l2
        have s2 : ao.tmps[49]?.getD undef = vs 2 := hU.slot 2 (by decide) l2
        rw [hv2] at s2
        have y0 := (hk.cell (b := w.heap.size + 1) (o := 1) (hz2) (fun h => h)).trans (r1)
        refine wpOp_value (v := .int .i64 (l : Nat)) (W' := W) rfl rfl ?_ (hK _ _ (LKeep.refl _ _ _) rfl)
        go_simp
      | 4, hoi, hom =>
        have l0 := haft _ rfl { on := 0, ground := .data } (by simp) rfl
        have hv0 : vs 0 = fileVal f fa := hpv 0 l0
        have s0 : ao.tmps[47]?.getD undef = vs 0 := hU.slot 0 (by decide) l0
        rw [hv0] at s0
        have l1 := haft _ rfl { on := 1, ground := .data } (by simp) rfl
        have hv1 : vs 1 = .slice A n c := hpv 1 l1
        have s1 : ao.tmps[48]?.getD undef = vs 1 := hU.slot 1 (by decide) l1
        rw [hv1] at s1
        have l3 := haft _ rfl { on := 3, ground := .data } (by simp) rfl
        have hv3 : vs 3 = .int .i64 (l : Nat) := hpv 3 l3
        have s3 : ao.tmps[50]?.getD undef = vs 3 := hU.slot 3 (by decide) l3
        rw [hv3] at s3
        refine wpOp_enter (f := 54) (args := #[fileVal f fa, .slice A n c, .int .i64 (l : Nat)]) (W' := W) rfl rfl ?_ ((with7_any (HF0.out.next (hk.below (B := w0.heap.size) (fun k h => h.elim) (Nat.le_refl _))) (HP0.out.next (hk.below (B := w0.heap.size) (fun k h => h.elim) (Nat.le_refl _))) HPL.out hl).mono (fun e w'' h => ?_))
        · go_simp
        · obtain ⟨he, hbw⟩ := h
          exact ⟨_, he, hK _ _ (LKeep.below hbw (fun h => h)) rfl⟩
      | 5, hoi, hom =>
        have z3 : ao.tmps[3]?.getD undef = .pointer (some ⟨w.heap.size, 0, none⟩) := hU.same 3 (by decide)
        have y0 := (hk.cell (b := w.heap.size) (o := 0) (hz1) (fun h => h)).trans (e1)
        have y1 := (hk.cell (b := w.heap.size) (o := 1) (hz1) (fun h => h)).trans (e2)
        have y2 := (hk.cell (b := w.heap.size) (o := 2) (hz1) (fun h => h)).trans (e3)
        have y3 := (hk.cell (b := w.heap.size) (o := 3) (hz1) (fun h => h)).trans (e4)
        have y4 := (hk.cell (b := w.heap.size) (o := 4) (hz1) (fun h => h)).trans (e5)
        refine wpOp_value (v := fileVal f fa) (W' := W) rfl rfl ?_ (hK _ _ (LKeep.refl _ _ _) rfl)
        go_simp
      | 6, hoi, hom =>
        have z2 : ao.tmps[2]?.getD undef = .slice A n c := hU.same 2 (by decide)
        refine wpOp_value (v := .slice A n c) (W' := W) rfl rfl ?_ (hK _ _ (LKeep.refl _ _ _) rfl)
        go_simp
      | 7, hoi, hom =>
        have z4 : ao.tmps[4]?.getD undef = .pointer (some ⟨w.heap.size + 1, 0, none⟩) := hU.same 4 (by decide)
        refine wpOp_value (v := .pointer (some ⟨w.heap.size + 1, 2, none⟩)) (W' := W) rfl rfl ?_ (hK _ _ (LKeep.refl _ _ _) rfl)
        go_simp
      | 8, hoi, hom =>
        have l7 := haft _ rfl { on := 7, ground := .data } (by simp) rfl
        have hv7 : vs 7 = .pointer (some ⟨w.heap.size + 1, 2, none⟩) := hpv 7 l7
        have s7 : ao.tmps[54]?.getD undef = vs 7 := hU.slot 7 (by decide) l7
        rw [hv7] at s7
        have y0 := (hk.cell (b := w.heap.size + 1) (o := 2) (hz2) (fun h => h)).trans (r2)
        refine wpOp_value (v := .int .i64 (o : Nat)) (W' := W) rfl rfl ?_ (hK _ _ (LKeep.refl _ _ _) rfl)
        go_simp
      | 9, hoi, hom =>
        have l5 := haft _ rfl { on := 5, ground := .data } (by simp) rfl
        have hv5 : vs 5 = fileVal f fa := hpv 5 l5
        have s5 : ao.tmps[52]?.getD undef = vs 5 := hU.slot 5 (by decide) l5
        rw [hv5] at s5
        have l6 := haft _ rfl { on := 6, ground := .data } (by simp) rfl
        have hv6 : vs 6 = .slice A n c := hpv 6 l6
        have s6 : ao.tmps[53]?.getD undef = vs 6 := hU.slot 6 (by decide) l6
        rw [hv6] at s6
        have l8 := haft _ rfl { on := 8, ground := .data } (by simp) rfl
        have hv8 : vs 8 = .int .i64 (o : Nat) := hpv 8 l8
        have s8 : ao.tmps[55]?.getD undef = vs 8 := hU.slot 8 (by decide) l8
        rw [hv8] at s8
        refine wpOp_enter (f := 54) (args := #[fileVal f fa, .slice A n c, .int .i64 (o : Nat)]) (W' := W) rfl rfl ?_ ((with7_any (HF0.out.next (hk.below (B := w0.heap.size) (fun k h => h.elim) (Nat.le_refl _))) (HP0.out.next (hk.below (B := w0.heap.size) (fun k h => h.elim) (Nat.le_refl _))) HPL.out hol).mono (fun e w'' h => ?_))
        · go_simp
        · obtain ⟨he, hbw⟩ := h
          exact ⟨_, he, hK _ _ (LKeep.below hbw (fun h => h)) rfl⟩
      | 10, hoi, hom =>
        have l4 := haft _ rfl { on := 4, ground := .data } (by simp) rfl
        have hv4 : vs 4 = .int .i64 (withM f p l) := hpv 4 l4
        have s4 : ao.tmps[51]?.getD undef = vs 4 := hU.slot 4 (by decide) l4
        rw [hv4] at s4
        have l9 := haft _ rfl { on := 9, ground := .data } (by simp) rfl
        have hv9 : vs 9 = .int .i64 (withM f p o) := hpv 9 l9
        have s9 : ao.tmps[56]?.getD undef = vs 9 := hU.slot 9 (by decide) l9
        rw [hv9] at s9
        refine wpOp_value (v := .bool (withM f p l == withM f p o)) (W' := W) rfl rfl ?_ (hK _ _ (LKeep.refl _ _ _) rfl)
        go_simp
      | oi + 11, hoi, hom => exact absurd (of_decide_eq_true hom) (by omega)
    case hendA =>
      intro listed vs ao W hG hk0 hpv hpre
      have hkk := (LKeep.drew (fun _ => False) (M := fun _ => True) w0 (fun h => h)).trans hk0
      have hk := hkk.1
      have hkm := hkk.2
      clear hkk
      have hact := hG.act
      have hT := hG.lst hpre 0 #[true, true, true, true, true, true, true, true, true, true, true, false] rfl (by kernel_rfl) (hpre 0 (by decide) (by decide))
      rw [hG.ix hT (l := [0, 1, 2, 3, 4, 5, 6, 7, 8, 9, 10]) (by kernel_rfl)] at hact
      rw [hG.lo hT (k := 1) (by kernel_rfl)]
      have hv0 : vs 0 = fileVal f fa := hpv 0 (hpre 0 (by decide) (by decide))
      have hv1 : vs 1 = .slice A n c := hpv 1 (hpre 1 (by decide) (by decide))
      have hv2 : vs 2 = .pointer (some ⟨w.heap.size + 1, 1, none⟩) := hpv 2 (hpre 2 (by decide) (by decide))
      have hv3 : vs 3 = .int .i64 (l : Nat) := hpv 3 (hpre 3 (by decide) (by decide))
      have hv4 : vs 4 = .int .i64 (withM f p l) := hpv 4 (hpre 4 (by decide) (by decide))
      have hv5 : vs 5 = fileVal f fa := hpv 5 (hpre 5 (by decide) (by decide))
      have hv6 : vs 6 = .slice A n c := hpv 6 (hpre 6 (by decide) (by decide))
      have hv7 : vs 7 = .pointer (some ⟨w.heap.size + 1, 2, none⟩) := hpv 7 (hpre 7 (by decide) (by decide))
      have hv8 : vs 8 = .int .i64 (o : Nat) := hpv 8 (hpre 8 (by decide) (by decide))
      have hv9 : vs 9 = .int .i64 (withM f p o) := hpv 9 (hpre 9 (by decide) (by decide))
      have hv10 : vs 10 = .bool (withM f p l == withM f p o) := hpv 10 (hpre 10 (by decide) (by decide))
      clear hpv hpre hG hk0
      obtain rfl : ao = _ := hact
      subst hT
      simp only [setAll, List.setIfInBounds_toArray, List.set_cons_succ, List.set_cons_zero, List.getD_cons_succ, List.getD_cons_zero]
      simp only [hv0, hv1, hv2, hv3, hv4, hv5, hv6, hv7, hv8, hv9, hv10]
      clear hv0 hv1 hv2 hv3 hv4 hv5 hv6 hv7 hv8 hv9 hv10
      refine wpAny_all (rs := [11]) (by kernel_rfl) (by simp) ?_
      intro i2 hi2
      obtain rfl : i2 = 11 := by simpa using hi2
      refine wpOp_value (v := .bool (withM f p l == withM f p o)) (W' := W) rfl rfl ?_ ?_
      · go_simp
      try simp only [Act.put, List.setIfInBounds_toArray, List.set_cons_zero, List.set_cons_succ]
      refine wpAny_done (by kernel_rfl) ?_ _
      have HBZ := hide (HB0.out.trans ((hk.below (B := w0.heap.size) (fun k h => h.elim) (Nat.le_refl _)).mono HB0.out.size))
      go_wp2_with fail
      go_ret
      exact ⟨by rw [HS.out]; simp [bne], HBZ.out⟩
  · obtain ⟨ho0, ho1⟩ := ho (by omega)
    obtain ⟨o, rfl⟩ : ∃ k : Nat, o = k := ⟨o.toNat, by omega⟩
    have hol : o < f.lots.length := by omega
    have e1 := HQ1.out.at_ 0
    have e2 := HQ1.out.at_ 1
    have e3 := HQ1.out.at_ 2
    have e4 := HQ1.out.at_ 3
    have e5 := HQ1.out.at_ 4
    simp only [fileCells, List.getElem?_toArray, List.getElem?_cons_zero, List.getElem?_cons_succ] at e1 e2 e3 e4 e5
    clear p2
    rw [Int.toNat_natCast] at HS
    go_wp2_with fail
    refine wp_region_rel (dst := fun oi => [58, 59, 60, 61, 62, 63, 64, 65, 66, 67, 68, 0].getD oi 0) (mono := fun oi => decide (oi < 11)) (pre := fun oi => decide (oi < 11)) (R := LKeep (fun _ => False) (fun _ => True))
      (Pv := fun oi v W => match oi with
        | 0 => v = fileVal f fa
        | 1 => v = .slice A n c
        | 2 => v = .pointer (some ⟨w.heap.size + 1, 1, none⟩)
        | 3 => v = .int .i64 (l : Nat)
        | 4 => v = .int .i64 (withM f p l)
        | 5 => v = fileVal f fa
        | 6 => v = .slice A n c
        | 7 => v = .pointer (some ⟨w.heap.size + 1, 2, none⟩)
        | 8 => v = .int .i64 (o : Nat)
        | 9 => v = .int .i64 (withM f p o)
        | 10 => v = .bool (withM f p l != withM f p o)
        | _ => True) (by kernel_rfl) (by kernel_rfl) (LKeep.refl _ _) (fun _ _ _ h h' => h.trans h') ?hstB ?hstepB ?hendB
    case hstB =>
      intro oi v W W' h hk
      match oi, h with
      | 0, h => exact h
      | 1, h => exact h
      | 2, h => exact h
      | 3, h => exact h
      | 4, h => exact h
      | 5, h => exact h
      | 6, h => exact h
      | 7, h => exact h
      | 8, h => exact h
      | 9, h => exact h
      | 10, h => exact h
      | oi + 11, h => exact trivial
    case hstepB =>
      intro oi hoi hom listed vs ao W hU hk0 hpv haft Ko hK
      have hkk := (LKeep.drew (fun _ => False) (M := fun _ => True) w0 (fun h => h)).trans hk0
      have hk := hkk.1
      have hkm := hkk.2
      clear hkk
      match oi, hoi, hom with
      | 0, hoi, hom =>
        have z3 : ao.tmps[3]?.getD undef = .pointer (some ⟨w.heap.size, 0, none⟩) := hU.same 3 (by decide)
        have y0 := (hk.cell (b := w.heap.size) (o := 0) (hz1) (fun h => h)).trans (e1)
        have y1 := (hk.cell (b := w.heap.size) (o := 1) (hz1) (fun h => h)).trans (e2)
        have y2 := (hk.cell (b := w.heap.size) (o := 2) (hz1) (fun h => h)).trans (e3)
        have y3 := (hk.cell (b := w.heap.size) (o := 3) (hz1) (fun h => h)).trans (e4)
        have y4 := (hk.cell (b := w.heap.size) (o := 4) (hz1) (fun h => h)).trans (e5)
        refine wpOp_value (v := fileVal f fa) (W' := W) rfl rfl ?_ (hK _ _ (LKeep.refl _ _ _) rfl)
        go_simp
      | 1, hoi, hom =>
        have z2 : ao.tmps[2]?.getD undef = .slice A n c := hU.same 2 (by decide)
        refine wpOp_value (v := .slice A n c) (W' := W) rfl rfl ?_ (hK _ _ (LKeep.refl _ _ _) rfl)
        go_simp
      | 2, hoi, hom =>
        have z4 : ao.tmps[4]?.getD undef = .pointer (some ⟨w.heap.size + 1, 0, none⟩) := hU.same 4 (by decide)
        refine wpOp_value (v := .pointer (some ⟨w.heap.size + 1, 1, none⟩)) (W' := W) rfl rfl ?_ (hK _ _ (LKeep.refl _ _ _) rfl)
        go_simp
      | 3, hoi, hom =>
        have l2 := haft _ rfl { on := 2, ground := .data } (by simp) rfl
        have hv2 : vs 2 = .pointer (some ⟨w.heap.size + 1, 1, none⟩) := hpv 2 l2
        have s2 : ao.tmps[60]?.getD undef = vs 2 := hU.slot 2 (by decide) l2
        rw [hv2] at s2
        have y0 := (hk.cell (b := w.heap.size + 1) (o := 1) (hz2) (fun h => h)).trans (r1)
        refine wpOp_value (v := .int .i64 (l : Nat)) (W' := W) rfl rfl ?_ (hK _ _ (LKeep.refl _ _ _) rfl)
        go_simp
      | 4, hoi, hom =>
        have l0 := haft _ rfl { on := 0, ground := .data } (by simp) rfl
        have hv0 : vs 0 = fileVal f fa := hpv 0 l0
        have s0 : ao.tmps[58]?.getD undef = vs 0 := hU.slot 0 (by decide) l0
        rw [hv0] at s0
        have l1 := haft _ rfl { on := 1, ground := .data } (by simp) rfl
        have hv1 : vs 1 = .slice A n c := hpv 1 l1
        have s1 : ao.tmps[59]?.getD undef = vs 1 := hU.slot 1 (by decide) l1
        rw [hv1] at s1
        have l3 := haft _ rfl { on := 3, ground := .data } (by simp) rfl
        have hv3 : vs 3 = .int .i64 (l : Nat) := hpv 3 l3
        have s3 : ao.tmps[61]?.getD undef = vs 3 := hU.slot 3 (by decide) l3
        rw [hv3] at s3
        refine wpOp_enter (f := 54) (args := #[fileVal f fa, .slice A n c, .int .i64 (l : Nat)]) (W' := W) rfl rfl ?_ ((with7_any (HF0.out.next (hk.below (B := w0.heap.size) (fun k h => h.elim) (Nat.le_refl _))) (HP0.out.next (hk.below (B := w0.heap.size) (fun k h => h.elim) (Nat.le_refl _))) HPL.out hl).mono (fun e w'' h => ?_))
        · go_simp
        · obtain ⟨he, hbw⟩ := h
          exact ⟨_, he, hK _ _ (LKeep.below hbw (fun h => h)) rfl⟩
      | 5, hoi, hom =>
        have z3 : ao.tmps[3]?.getD undef = .pointer (some ⟨w.heap.size, 0, none⟩) := hU.same 3 (by decide)
        have y0 := (hk.cell (b := w.heap.size) (o := 0) (hz1) (fun h => h)).trans (e1)
        have y1 := (hk.cell (b := w.heap.size) (o := 1) (hz1) (fun h => h)).trans (e2)
        have y2 := (hk.cell (b := w.heap.size) (o := 2) (hz1) (fun h => h)).trans (e3)
        have y3 := (hk.cell (b := w.heap.size) (o := 3) (hz1) (fun h => h)).trans (e4)
        have y4 := (hk.cell (b := w.heap.size) (o := 4) (hz1) (fun h => h)).trans (e5)
        refine wpOp_value (v := fileVal f fa) (W' := W) rfl rfl ?_ (hK _ _ (LKeep.refl _ _ _) rfl)
        go_simp
      | 6, hoi, hom =>
        have z2 : ao.tmps[2]?.getD undef = .slice A n c := hU.same 2 (by decide)
        refine wpOp_value (v := .slice A n c) (W' := W) rfl rfl ?_ (hK _ _ (LKeep.refl _ _ _) rfl)
        go_simp
      | 7, hoi, hom =>
        have z4 : ao.tmps[4]?.getD undef = .pointer (some ⟨w.heap.size + 1, 0, none⟩) := hU.same 4 (by decide)
        refine wpOp_value (v := .pointer (some ⟨w.heap.size + 1, 2, none⟩)) (W' := W) rfl rfl ?_ (hK _ _ (LKeep.refl _ _ _) rfl)
        go_simp
      | 8, hoi, hom =>
        have l7 := haft _ rfl { on := 7, ground := .data } (by simp) rfl
        have hv7 : vs 7 = .pointer (some ⟨w.heap.size + 1, 2, none⟩) := hpv 7 l7
        have s7 : ao.tmps[65]?.getD undef = vs 7 := hU.slot 7 (by decide) l7
        rw [hv7] at s7
        have y0 := (hk.cell (b := w.heap.size + 1) (o := 2) (hz2) (fun h => h)).trans (r2)
        refine wpOp_value (v := .int .i64 (o : Nat)) (W' := W) rfl rfl ?_ (hK _ _ (LKeep.refl _ _ _) rfl)
        go_simp
      | 9, hoi, hom =>
        have l5 := haft _ rfl { on := 5, ground := .data } (by simp) rfl
        have hv5 : vs 5 = fileVal f fa := hpv 5 l5
        have s5 : ao.tmps[63]?.getD undef = vs 5 := hU.slot 5 (by decide) l5
        rw [hv5] at s5
        have l6 := haft _ rfl { on := 6, ground := .data } (by simp) rfl
        have hv6 : vs 6 = .slice A n c := hpv 6 l6
        have s6 : ao.tmps[64]?.getD undef = vs 6 := hU.slot 6 (by decide) l6
        rw [hv6] at s6
        have l8 := haft _ rfl { on := 8, ground := .data } (by simp) rfl
        have hv8 : vs 8 = .int .i64 (o : Nat) := hpv 8 l8
        have s8 : ao.tmps[66]?.getD undef = vs 8 := hU.slot 8 (by decide) l8
        rw [hv8] at s8
        refine wpOp_enter (f := 54) (args := #[fileVal f fa, .slice A n c, .int .i64 (o : Nat)]) (W' := W) rfl rfl ?_ ((with7_any (HF0.out.next (hk.below (B := w0.heap.size) (fun k h => h.elim) (Nat.le_refl _))) (HP0.out.next (hk.below (B := w0.heap.size) (fun k h => h.elim) (Nat.le_refl _))) HPL.out hol).mono (fun e w'' h => ?_))
        · go_simp
        · obtain ⟨he, hbw⟩ := h
          exact ⟨_, he, hK _ _ (LKeep.below hbw (fun h => h)) rfl⟩
      | 10, hoi, hom =>
        have l4 := haft _ rfl { on := 4, ground := .data } (by simp) rfl
        have hv4 : vs 4 = .int .i64 (withM f p l) := hpv 4 l4
        have s4 : ao.tmps[62]?.getD undef = vs 4 := hU.slot 4 (by decide) l4
        rw [hv4] at s4
        have l9 := haft _ rfl { on := 9, ground := .data } (by simp) rfl
        have hv9 : vs 9 = .int .i64 (withM f p o) := hpv 9 l9
        have s9 : ao.tmps[67]?.getD undef = vs 9 := hU.slot 9 (by decide) l9
        rw [hv9] at s9
        refine wpOp_value (v := .bool (withM f p l != withM f p o)) (W' := W) rfl rfl ?_ (hK _ _ (LKeep.refl _ _ _) rfl)
        go_simp
      | oi + 11, hoi, hom => exact absurd (of_decide_eq_true hom) (by omega)
    case hendB =>
      intro listed vs ao W hG hk0 hpv hpre
      have hkk := (LKeep.drew (fun _ => False) (M := fun _ => True) w0 (fun h => h)).trans hk0
      have hk := hkk.1
      have hkm := hkk.2
      clear hkk
      have hact := hG.act
      have hT := hG.lst hpre 0 #[true, true, true, true, true, true, true, true, true, true, true, false] rfl (by kernel_rfl) (hpre 0 (by decide) (by decide))
      rw [hG.ix hT (l := [0, 1, 2, 3, 4, 5, 6, 7, 8, 9, 10]) (by kernel_rfl)] at hact
      rw [hG.lo hT (k := 1) (by kernel_rfl)]
      have hv0 : vs 0 = fileVal f fa := hpv 0 (hpre 0 (by decide) (by decide))
      have hv1 : vs 1 = .slice A n c := hpv 1 (hpre 1 (by decide) (by decide))
      have hv2 : vs 2 = .pointer (some ⟨w.heap.size + 1, 1, none⟩) := hpv 2 (hpre 2 (by decide) (by decide))
      have hv3 : vs 3 = .int .i64 (l : Nat) := hpv 3 (hpre 3 (by decide) (by decide))
      have hv4 : vs 4 = .int .i64 (withM f p l) := hpv 4 (hpre 4 (by decide) (by decide))
      have hv5 : vs 5 = fileVal f fa := hpv 5 (hpre 5 (by decide) (by decide))
      have hv6 : vs 6 = .slice A n c := hpv 6 (hpre 6 (by decide) (by decide))
      have hv7 : vs 7 = .pointer (some ⟨w.heap.size + 1, 2, none⟩) := hpv 7 (hpre 7 (by decide) (by decide))
      have hv8 : vs 8 = .int .i64 (o : Nat) := hpv 8 (hpre 8 (by decide) (by decide))
      have hv9 : vs 9 = .int .i64 (withM f p o) := hpv 9 (hpre 9 (by decide) (by decide))
      have hv10 : vs 10 = .bool (withM f p l != withM f p o) := hpv 10 (hpre 10 (by decide) (by decide))
      clear hpv hpre hG hk0
      obtain rfl : ao = _ := hact
      subst hT
      simp only [setAll, List.setIfInBounds_toArray, List.set_cons_succ, List.set_cons_zero, List.getD_cons_succ, List.getD_cons_zero]
      simp only [hv0, hv1, hv2, hv3, hv4, hv5, hv6, hv7, hv8, hv9, hv10]
      clear hv0 hv1 hv2 hv3 hv4 hv5 hv6 hv7 hv8 hv9 hv10
      refine wpAny_all (rs := [11]) (by kernel_rfl) (by simp) ?_
      intro i2 hi2
      obtain rfl : i2 = 11 := by simpa using hi2
      refine wpOp_value (v := .bool (withM f p l != withM f p o)) (W' := W) rfl rfl ?_ ?_
      · go_simp
      try simp only [Act.put, List.setIfInBounds_toArray, List.set_cons_zero, List.set_cons_succ]
      refine wpAny_done (by kernel_rfl) ?_ _
      have HBZ := hide (HB0.out.trans ((hk.below (B := w0.heap.size) (fun k h => h.elim) (Nat.le_refl _)).mono HB0.out.size))
      go_wp2_with fail
      go_ret
      exact ⟨by rw [HS.out]; simp [bne], HBZ.out⟩
end Go.Proofs.Ytllmahcanipcpaa
/- The contract of the reference's Truths. -/
namespace Go.Proofs.Ytllmahcanipcpaa
open Go.RowKit
attribute [local go_sem ↓] Go.wp_at_zero Go.wp_at_succ
attribute [local go_sem] Oper.semAt_some

theorem soTo_succ (f : File) (but p : List Int) (k : Nat) : soTo f but p (k + 1) = (soTo f but p k && (hasInt but k || soP f (nth f.papers k) p)) := by simp [soTo, List.range_succ]
theorem allP_256 {f : File} (hv : Valid f) : (allP f).length ≤ 256 := allTo_256 hv (Nat.le_refl _)
theorem filter_snoc (G : List (List Int)) (q : List Int → Bool) {i : Nat} (hi : i < G.length) : (G.take (i + 1)).filter q = (G.take i).filter q ++ if q (nth G i) then [nth G i] else [] := by
  rw [take_nth hi, List.filter_append]
  cases h : q (nth G i) <;> simp [h]
theorem filter_le256 (G : List (List Int)) (q : List Int → Bool) (i : Nat) : ((G.take i).filter q).length ≤ G.length := by
  have h1 := List.length_filter_le q (G.take i)
  have h2 : (G.take i).length ≤ G.length := by simp; omega
  omega
set_option maxHeartbeats 4000000 in
set_option maxRecDepth 100000 in
theorem truths7_any {f : File} {fa : FA} {w : World} {A : Option Addr} {n c : Nat} {but : List Int} (h : FileV w w.heap.size f fa) (hv : Valid f) (hb : IntsS w w.heap.size A n c but) :
    Calls Try.prog 64 #[fileVal f fa, .slice A n c] w fun e w' =>
      ∃ A' c', e = .returned (.slice A' (truthsM f but).length c') ∧ ListsS w' w'.heap.size A' (truthsM f but).length c' (truthsM f but) ∧ Below w.heap.size w w' := by
  obtain ⟨i1, gi, gz0, gz1, gz2⟩ := info_parts Try.infoInts
  have HBX := hide (BoxF.made h)
  have HB0 : Hid (Below w.heap.size w (w.alloc (.cells (fileCells f fa) 28))) := hide ((Below.refl _ _).alloc (Nat.le_refl _) _)
  have HBU0 := hide (hb.next HB0.out)
  have hm4 := h.m4
  unfold maxLen at hm4
  have HV := hide hv
  have hlp := hv.papers
  clear h hv hb
  go_enter Try.func64, Try.ntmps64
  go_upto_region 1 with (fail)
  generalize (w.alloc (.cells (fileCells f fa) 28)) = w0 at *
  obtain ⟨hz0, e1, e2, e3, e4, e5⟩ := HBX.out.cells
  go_wp2_with (first | (go_at_call 82; refine (places_any HBX.out.v HV.out).mono ?_; rintro e w1 ⟨AG, cG, rfl, hG, hb1⟩))
  have HB1 := hide (HB0.out.trans (hb1.mono HB0.out.size))
  have HBX1 := hide (HBX.out.next hb1)
  have HBU := hide (HBU0.out.next hb1)
  have HGM := hide (show truthsM f but = (allP f).filter (soM f but) from rfl)
  have HGL := hide (allP_256 HV.out)
  have HGP := hide (fun g (hg : g ∈ allP f) => allP_pl HV.out hg)
  have hgb := hG.bd
  clear hb1 HBU0 HBX e1 e2 e3 e4 e5 hz0
  generalize allP f = G at *
  have hGl := HGL.out
  go_loopw [6, 7, 8, 9] (fun v6 v7 _ _ wr => ∃ i : Nat, i ≤ G.length ∧ v7 = .int .i64 i ∧ Below w1.heap.size w1 wr ∧ OwnRefs wr w1.heap.size w1.heap.size v6 ((G.take i).filter (soM f but))) (fun _ v7 _ _ _ => G.length - (intOf v7).toNat)
  case atStart => exact ⟨0, Nat.zero_le _, rfl, Below.refl _ _, OwnRefs.nil_⟩
  case round =>
    obtain ⟨i, hi', rfl, hB, hO⟩ := hrel
    obtain ⟨wa, rfl⟩ : ∃ wa : World, wa = wr := ⟨_, rfl⟩
    have hi0 : (0 : Int) ≤ (i : Int) := Int.natCast_nonneg _
    by_cases hlt : i < G.length
    · have hi1 : (i : Int) < (G.length : Int) := by omega
      obtain ⟨bg, og, Ag, cg, rfl, hbg, hgc, hgi⟩ := hG.at_ hlt
      have HPG := hide (HGP.out (nth G i) (by rw [nth_eq hlt]; exact List.getElem_mem hlt))
      have HFS := hide (filter_snoc G (soM f but) hlt)
      have HFL := hide (filter_le256 G (soM f but) i)
      have HSM := hide (show soM f but (nth G i) = soTo f but (nth G i) f.papers.length from rfl)
      have HSS := hide (soTo_succ f but (nth G i))
      have HS0 := hide (show soTo f but (nth G i) 0 = true from rfl)
      have HGI := hide hgi
      have HGC := hide hgc
      have HBa := hide hB
      have HOa := hide hO
      have hza := hB.size
      clear hB hO hgi hgc
      generalize nth G i = p at *
      go_wp2_with fail
      go_loopw [8, 9] (fun v8 v9 w2 => ∃ k : Nat, k ≤ f.papers.length ∧ v9 = .int .i64 k ∧ v8 = .bool (soTo f but p k) ∧ Below wa.heap.size wa w2) (fun _ v9 _ => f.papers.length - (intOf v9).toNat)
      case atStart => exact ⟨0, Nat.zero_le _, rfl, by rw [HS0.out], Below.refl _ _⟩
      case round =>
        obtain ⟨k, hk, rfl, rfl, hB2⟩ := hrel
        have hk0 : (0 : Int) ≤ (k : Int) := Int.natCast_nonneg _
        have hz2 := hB2.size
        have HB2 := hide hB2
        have HBw := hide (HBa.out.trans (hB2.mono hza))
        have HBXr := hide (HBX1.out.next HBw.out)
        obtain ⟨hz, e1, e2, e3, e4, e5⟩ := HBXr.out.cells
        by_cases hlt2 : k < f.papers.length
        · have hk1 : (k : Int) < (f.papers.length : Int) := by omega
          obtain ⟨bq, oq, hA4, hbq, y0, y1, y2⟩ := HBXr.out.v.papers.papers hlt2
          have HGr := hide ((HGI.out.below HBw.out).more (show w1.heap.size ≤ wr.heap.size by omega))
          have hgc := (HBw.out.cell (p := ⟨bg, og + i, none⟩) hbg).trans HGC.out
          have HBUr := hide (HBU.out.next HBw.out)
          have hbgz : bg < wr.heap.size := by omega
          have HPO := hide (HV.out.paper k hlt2)
          have HSK := hide (HSS.out k)
          have HE4 := hide (e4.trans (by rw [hA4]) : wr.cell? ⟨w.heap.size, 3, none⟩ = some (.slice (some ⟨bq, oq, none⟩) f.papers.length fa.c4))
          clear hB2
          cases hso : soTo f but p k with
          | false =>
            have HX := hide (show soTo f but p (k + 1) = false by rw [HSK.out, hso]; rfl)
            clear hso hA4
            go_wp2_with fail
            go_quiet (fail)
            go_wp2_with fail
            go_roundw
            case rel => exact ⟨k + 1, by omega, by go_num, by rw [HX.out], below_drewN HB2.out _⟩
            case measure => simp [intOf]; omega
          | true =>
            have HX := hide (show soTo f but p (k + 1) = (hasInt but k || soP f (nth f.papers k) p) by rw [HSK.out, hso]; rfl)
            clear hso
            have HA4 := hide hA4
            clear hA4
            cases hha : hasInt but k with
            | true =>
              have HY := hide (show soTo f but p (k + 1) = true by rw [HX.out, hha]; rfl)
              have HHA := hide hha
              clear hha
              go_wp2_with fail
              refine wp_region_rel (dst := fun oi => [25, 26, 27, 28, 29, 30, 31, 32, 33, 34, 35, 36, 37, 38, 39, 40, 41, 42, 43, 0].getD oi 0) (mono := fun oi => decide (oi < 19)) (pre := fun oi => decide (oi < 19)) (R := LKeep (fun _ => False) (fun _ => True))
                (Pv := fun oi v W => match oi with
                  | 0 => v = .bool true
                  | 1 => v = .bool true
                  | 2 => v = .slice A n c
                  | 3 => v = .int .i64 (k : Nat)
                  | 4 => v = .bool true
                  | 5 => v = .bool true
                  | 6 => v = undef
                  | 7 => v = undef
                  | 8 => v = undef
                  | 9 => v = undef
                  | 10 => v = undef
                  | 11 => v = undef
                  | 12 => v = undef
                  | 13 => v = undef
                  | 14 => v = undef
                  | 15 => v = undef
                  | 16 => v = undef
                  | 17 => v = .bool true
                  | 18 => v = .bool true
                  | _ => True) (by kernel_rfl) (by kernel_rfl) (LKeep.refl _ _) (fun _ _ _ h h' => h.trans h') ?hstA ?hstepA ?hendA
              case hstA =>
                intro oi v W W' h hk
                match oi, h with
                | 0, h => exact h
                | 1, h => exact h
                | 2, h => exact h
                | 3, h => exact h
                | 4, h => exact h
                | 5, h => exact h
                | 6, h => exact h
                | 7, h => exact h
                | 8, h => exact h
                | 9, h => exact h
                | 10, h => exact h
                | 11, h => exact h
                | 12, h => exact h
                | 13, h => exact h
                | 14, h => exact h
                | 15, h => exact h
                | 16, h => exact h
                | 17, h => exact h
                | 18, h => exact h
                | oi + 19, h => exact trivial
              case hstepA =>
                intro oi hoi hom listed vs ao W hU hk0 hpv haft Ko hK
                have hkk := (LKeep.drew (fun _ => False) (M := fun _ => True) wr (fun h => h)).trans hk0
                have hk := hkk.1
                have hkm := hkk.2
                clear hkk
                match oi, hoi, hom with
                | 0, hoi, hom =>
                  have z8 : ao.tmps[8]?.getD undef = .bool true := hU.same 8 (by decide)
                  refine wpOp_value (v := .bool true) (W' := W) rfl rfl ?_ (hK _ _ (LKeep.refl _ _ _) rfl)
                  go_simp
                | 1, hoi, hom =>
                  have l0 := haft _ rfl { on := 0, ground := .data } (by simp) rfl
                  have hv0 : vs 0 = .bool true := hpv 0 l0
                  have s0 : ao.tmps[25]?.getD undef = vs 0 := hU.slot 0 (by decide) l0
                  rw [hv0] at s0
                  refine wpOp_value (v := .bool true) (W' := W) rfl rfl ?_ (hK _ _ (LKeep.refl _ _ _) rfl)
                  go_simp
                | 2, hoi, hom =>
                  have l1 := haft _ rfl { on := 1, ground := .guard } (by simp) rfl
                  have hv1 : vs 1 = .bool true := hpv 1 l1
                  have s1 : ao.tmps[26]?.getD undef = vs 1 := hU.slot 1 (by decide) l1
                  rw [hv1] at s1
                  have z1 : ao.tmps[1]?.getD undef = .slice A n c := hU.same 1 (by decide)
                  refine wpOp_wanted (v := .slice A n c) (W' := W) rfl ?_ ?_ (hK _ _ (LKeep.refl _ _ _) rfl)
                  · refine wanted_yes (j := 1) (d := 26) ?_ ?_ s1 <;> rfl
                  go_simp
                | 3, hoi, hom =>
                  have l1 := haft _ rfl { on := 1, ground := .guard } (by simp) rfl
                  have hv1 : vs 1 = .bool true := hpv 1 l1
                  have s1 : ao.tmps[26]?.getD undef = vs 1 := hU.slot 1 (by decide) l1
                  rw [hv1] at s1
                  have z9 : ao.tmps[9]?.getD undef = .int .i64 (k : Nat) := hU.same 9 (by decide)
                  refine wpOp_wanted (v := .int .i64 (k : Nat)) (W' := W) rfl ?_ ?_ (hK _ _ (LKeep.refl _ _ _) rfl)
                  · refine wanted_yes (j := 1) (d := 26) ?_ ?_ s1 <;> rfl
                  go_simp
                | 4, hoi, hom =>
                  have l1 := haft _ rfl { on := 1, ground := .guard } (by simp) rfl
                  have hv1 : vs 1 = .bool true := hpv 1 l1
                  have s1 : ao.tmps[26]?.getD undef = vs 1 := hU.slot 1 (by decide) l1
                  rw [hv1] at s1
                  have l2 := haft _ rfl { on := 2, ground := .data } (by simp) rfl
                  have hv2 : vs 2 = .slice A n c := hpv 2 l2
                  have s2 : ao.tmps[27]?.getD undef = vs 2 := hU.slot 2 (by decide) l2
                  rw [hv2] at s2
                  have l3 := haft _ rfl { on := 3, ground := .data } (by simp) rfl
                  have hv3 : vs 3 = .int .i64 (k : Nat) := hpv 3 l3
                  have s3 : ao.tmps[28]?.getD undef = vs 3 := hU.slot 3 (by decide) l3
                  rw [hv3] at s3
                  refine wpOp_enterW (f := 25) (args := #[.slice A n c, .int .i64 (k : Nat)]) (W' := W) rfl ?_ ?_ (((has_any (HBUr.out.below (hk.below (B := wr.heap.size) (fun k h => h.elim) (Nat.le_refl _))) (k : Int)).mono (fun e w h => by rw [HHA.out] at h; exact h)).mono (fun e w'' h => ?_))
                  · refine wanted_yes (j := 1) (d := 26) ?_ ?_ s1 <;> rfl
                  · go_simp
                  · obtain ⟨he, hbw⟩ := h
                    exact ⟨_, he, hK _ _ (by rw [← hbw]; exact LKeep.refl _ _ _) rfl⟩
                | 5, hoi, hom =>
                  have l1 := haft _ rfl { on := 1, ground := .guard } (by simp) rfl
                  have hv1 : vs 1 = .bool true := hpv 1 l1
                  have s1 : ao.tmps[26]?.getD undef = vs 1 := hU.slot 1 (by decide) l1
                  rw [hv1] at s1
                  have l4 := haft _ rfl { on := 4, ground := .data } (by simp) rfl
                  have hv4 : vs 4 = .bool true := hpv 4 l4
                  have s4 : ao.tmps[29]?.getD undef = vs 4 := hU.slot 4 (by decide) l4
                  rw [hv4] at s4
                  refine wpOp_wanted (v := .bool true) (W' := W) rfl ?_ ?_ (hK _ _ (LKeep.refl _ _ _) rfl)
                  · refine wanted_yes (j := 1) (d := 26) ?_ ?_ s1 <;> rfl
                  go_simp
                | 6, hoi, hom =>
                  have l5 := haft _ rfl { on := 5, ground := .guard } (by simp) rfl
                  have hv5 : vs 5 = .bool true := hpv 5 l5
                  have s5 : ao.tmps[30]?.getD undef = vs 5 := hU.slot 5 (by decide) l5
                  rw [hv5] at s5
                  refine wpOp_unwanted rfl ?_ (hK _ _ (LKeep.refl _ _ _) rfl)
                  refine wanted_no (j := 5) (d := 30) ?_ ?_ s5 <;> rfl
                | 7, hoi, hom =>
                  have l5 := haft _ rfl { on := 5, ground := .guard } (by simp) rfl
                  have hv5 : vs 5 = .bool true := hpv 5 l5
                  have s5 : ao.tmps[30]?.getD undef = vs 5 := hU.slot 5 (by decide) l5
                  rw [hv5] at s5
                  refine wpOp_unwanted rfl ?_ (hK _ _ (LKeep.refl _ _ _) rfl)
                  refine wanted_no (j := 5) (d := 30) ?_ ?_ s5 <;> rfl
                | 8, hoi, hom =>
                  have l5 := haft _ rfl { on := 5, ground := .guard } (by simp) rfl
                  have hv5 : vs 5 = .bool true := hpv 5 l5
                  have s5 : ao.tmps[30]?.getD undef = vs 5 := hU.slot 5 (by decide) l5
                  rw [hv5] at s5
                  refine wpOp_unwanted rfl ?_ (hK _ _ (LKeep.refl _ _ _) rfl)
                  refine wanted_no (j := 5) (d := 30) ?_ ?_ s5 <;> rfl
                | 9, hoi, hom =>
                  have l5 := haft _ rfl { on := 5, ground := .guard } (by simp) rfl
                  have hv5 : vs 5 = .bool true := hpv 5 l5
                  have s5 : ao.tmps[30]?.getD undef = vs 5 := hU.slot 5 (by decide) l5
                  rw [hv5] at s5
                  refine wpOp_unwanted rfl ?_ (hK _ _ (LKeep.refl _ _ _) rfl)
                  refine wanted_no (j := 5) (d := 30) ?_ ?_ s5 <;> rfl
                | 10, hoi, hom =>
                  have l5 := haft _ rfl { on := 5, ground := .guard } (by simp) rfl
                  have hv5 : vs 5 = .bool true := hpv 5 l5
                  have s5 : ao.tmps[30]?.getD undef = vs 5 := hU.slot 5 (by decide) l5
                  rw [hv5] at s5
                  refine wpOp_unwanted rfl ?_ (hK _ _ (LKeep.refl _ _ _) rfl)
                  refine wanted_no (j := 5) (d := 30) ?_ ?_ s5 <;> rfl
                | 11, hoi, hom =>
                  have l5 := haft _ rfl { on := 5, ground := .guard } (by simp) rfl
                  have hv5 : vs 5 = .bool true := hpv 5 l5
                  have s5 : ao.tmps[30]?.getD undef = vs 5 := hU.slot 5 (by decide) l5
                  rw [hv5] at s5
                  refine wpOp_unwanted rfl ?_ (hK _ _ (LKeep.refl _ _ _) rfl)
                  refine wanted_no (j := 5) (d := 30) ?_ ?_ s5 <;> rfl
                | 12, hoi, hom =>
                  have l5 := haft _ rfl { on := 5, ground := .guard } (by simp) rfl
                  have hv5 : vs 5 = .bool true := hpv 5 l5
                  have s5 : ao.tmps[30]?.getD undef = vs 5 := hU.slot 5 (by decide) l5
                  rw [hv5] at s5
                  refine wpOp_unwanted rfl ?_ (hK _ _ (LKeep.refl _ _ _) rfl)
                  refine wanted_no (j := 5) (d := 30) ?_ ?_ s5 <;> rfl
                | 13, hoi, hom =>
                  have l5 := haft _ rfl { on := 5, ground := .guard } (by simp) rfl
                  have hv5 : vs 5 = .bool true := hpv 5 l5
                  have s5 : ao.tmps[30]?.getD undef = vs 5 := hU.slot 5 (by decide) l5
                  rw [hv5] at s5
                  refine wpOp_unwanted rfl ?_ (hK _ _ (LKeep.refl _ _ _) rfl)
                  refine wanted_no (j := 5) (d := 30) ?_ ?_ s5 <;> rfl
                | 14, hoi, hom =>
                  have l5 := haft _ rfl { on := 5, ground := .guard } (by simp) rfl
                  have hv5 : vs 5 = .bool true := hpv 5 l5
                  have s5 : ao.tmps[30]?.getD undef = vs 5 := hU.slot 5 (by decide) l5
                  rw [hv5] at s5
                  refine wpOp_unwanted rfl ?_ (hK _ _ (LKeep.refl _ _ _) rfl)
                  refine wanted_no (j := 5) (d := 30) ?_ ?_ s5 <;> rfl
                | 15, hoi, hom =>
                  have l5 := haft _ rfl { on := 5, ground := .guard } (by simp) rfl
                  have hv5 : vs 5 = .bool true := hpv 5 l5
                  have s5 : ao.tmps[30]?.getD undef = vs 5 := hU.slot 5 (by decide) l5
                  rw [hv5] at s5
                  refine wpOp_unwanted rfl ?_ (hK _ _ (LKeep.refl _ _ _) rfl)
                  refine wanted_no (j := 5) (d := 30) ?_ ?_ s5 <;> rfl
                | 16, hoi, hom =>
                  have l5 := haft _ rfl { on := 5, ground := .guard } (by simp) rfl
                  have hv5 : vs 5 = .bool true := hpv 5 l5
                  have s5 : ao.tmps[30]?.getD undef = vs 5 := hU.slot 5 (by decide) l5
                  rw [hv5] at s5
                  refine wpOp_unwanted rfl ?_ (hK _ _ (LKeep.refl _ _ _) rfl)
                  refine wanted_no (j := 5) (d := 30) ?_ ?_ s5 <;> rfl
                | 17, hoi, hom =>
                  have l1 := haft _ rfl { on := 1, ground := .guard } (by simp) rfl
                  have hv1 : vs 1 = .bool true := hpv 1 l1
                  have s1 : ao.tmps[26]?.getD undef = vs 1 := hU.slot 1 (by decide) l1
                  rw [hv1] at s1
                  have l5 := haft _ rfl { on := 5, ground := .data } (by simp) rfl
                  have hv5 : vs 5 = .bool true := hpv 5 l5
                  have s5 : ao.tmps[30]?.getD undef = vs 5 := hU.slot 5 (by decide) l5
                  rw [hv5] at s5
                  have l16 := haft _ rfl { on := 16, ground := .data } (by simp) rfl
                  have hv16 : vs 16 = undef := hpv 16 l16
                  have s16 : ao.tmps[41]?.getD undef = vs 16 := hU.slot 16 (by decide) l16
                  rw [hv16] at s16
                  refine wpOp_wanted (v := .bool true) (W' := W) rfl ?_ ?_ (hK _ _ (LKeep.refl _ _ _) rfl)
                  · refine wanted_yes (j := 1) (d := 26) ?_ ?_ s1 <;> rfl
                  go_simp
                | 18, hoi, hom =>
                  have l1 := haft _ rfl { on := 1, ground := .data } (by simp) rfl
                  have hv1 : vs 1 = .bool true := hpv 1 l1
                  have s1 : ao.tmps[26]?.getD undef = vs 1 := hU.slot 1 (by decide) l1
                  rw [hv1] at s1
                  have l17 := haft _ rfl { on := 17, ground := .data } (by simp) rfl
                  have hv17 : vs 17 = .bool true := hpv 17 l17
                  have s17 : ao.tmps[42]?.getD undef = vs 17 := hU.slot 17 (by decide) l17
                  rw [hv17] at s17
                  refine wpOp_value (v := .bool true) (W' := W) rfl rfl ?_ (hK _ _ (LKeep.refl _ _ _) rfl)
                  go_simp
                | oi + 19, hoi, hom => exact absurd (of_decide_eq_true hom) (by omega)
              case hendA =>
                intro listed vs ao W hG hk0 hpv hpre
                have hkk := (LKeep.drew (fun _ => False) (M := fun _ => True) wr (fun h => h)).trans hk0
                have hk := hkk.1
                have hkm := hkk.2
                clear hkk
                have hact := hG.act
                have hT := hG.lst hpre 0 #[true, true, true, true, true, true, true, true, true, true, true, true, true, true, true, true, true, true, true, false] rfl (by kernel_rfl) (hpre 0 (by decide) (by decide))
                rw [hG.ix hT (l := [0, 1, 2, 3, 4, 5, 6, 7, 8, 9, 10, 11, 12, 13, 14, 15, 16, 17, 18]) (by kernel_rfl)] at hact
                rw [hG.lo hT (k := 1) (by kernel_rfl)]
                have hv0 : vs 0 = .bool true := hpv 0 (hpre 0 (by decide) (by decide))
                have hv1 : vs 1 = .bool true := hpv 1 (hpre 1 (by decide) (by decide))
                have hv2 : vs 2 = .slice A n c := hpv 2 (hpre 2 (by decide) (by decide))
                have hv3 : vs 3 = .int .i64 (k : Nat) := hpv 3 (hpre 3 (by decide) (by decide))
                have hv4 : vs 4 = .bool true := hpv 4 (hpre 4 (by decide) (by decide))
                have hv5 : vs 5 = .bool true := hpv 5 (hpre 5 (by decide) (by decide))
                have hv6 : vs 6 = undef := hpv 6 (hpre 6 (by decide) (by decide))
                have hv7 : vs 7 = undef := hpv 7 (hpre 7 (by decide) (by decide))
                have hv8 : vs 8 = undef := hpv 8 (hpre 8 (by decide) (by decide))
                have hv9 : vs 9 = undef := hpv 9 (hpre 9 (by decide) (by decide))
                have hv10 : vs 10 = undef := hpv 10 (hpre 10 (by decide) (by decide))
                have hv11 : vs 11 = undef := hpv 11 (hpre 11 (by decide) (by decide))
                have hv12 : vs 12 = undef := hpv 12 (hpre 12 (by decide) (by decide))
                have hv13 : vs 13 = undef := hpv 13 (hpre 13 (by decide) (by decide))
                have hv14 : vs 14 = undef := hpv 14 (hpre 14 (by decide) (by decide))
                have hv15 : vs 15 = undef := hpv 15 (hpre 15 (by decide) (by decide))
                have hv16 : vs 16 = undef := hpv 16 (hpre 16 (by decide) (by decide))
                have hv17 : vs 17 = .bool true := hpv 17 (hpre 17 (by decide) (by decide))
                have hv18 : vs 18 = .bool true := hpv 18 (hpre 18 (by decide) (by decide))
                clear hpv hpre hG hk0
                obtain rfl : ao = _ := hact
                subst hT
                simp only [setAll, List.setIfInBounds_toArray, List.set_cons_succ, List.set_cons_zero, List.getD_cons_succ, List.getD_cons_zero]
                simp only [hv0, hv1, hv2, hv3, hv4, hv5, hv6, hv7, hv8, hv9, hv10, hv11, hv12, hv13, hv14, hv15, hv16, hv17, hv18]
                clear hv0 hv1 hv2 hv3 hv4 hv5 hv6 hv7 hv8 hv9 hv10 hv11 hv12 hv13 hv14 hv15 hv16 hv17 hv18
                refine wpAny_all (rs := [19]) (by kernel_rfl) (by simp) ?_
                intro i2 hi2
                obtain rfl : i2 = 19 := by simpa using hi2
                refine wpOp_value (v := .bool true) (W' := W) rfl rfl ?_ ?_
                · go_simp
                try simp only [Act.put, List.setIfInBounds_toArray, List.set_cons_zero, List.set_cons_succ]
                refine wpAny_done (by kernel_rfl) ?_ _
                have HBZ := hide (HB2.out.trans ((hk.below (B := wr.heap.size) (fun k h => h.elim) (Nat.le_refl _)).mono hz2))
                clear hk hkm
                go_wp2_with fail
                go_roundw
                case rel => exact ⟨k + 1, by omega, by go_num, by rw [HY.out], HBZ.out⟩
                case measure => simp [intOf]; omega
            | false =>
              have HY := hide (show soTo f but p (k + 1) = soP f (nth f.papers k) p by rw [HX.out, hha]; rfl)
              have HHA := hide hha
              clear hha
              generalize hSO : soP f (nth f.papers k) p = so at *
              have HSO := hide hSO
              clear hSO
              go_wp2_with fail
              refine wp_region_rel (dst := fun oi => [25, 26, 27, 28, 29, 30, 31, 32, 33, 34, 35, 36, 37, 38, 39, 40, 41, 42, 43, 0].getD oi 0) (mono := fun oi => decide (oi < 19)) (pre := fun oi => decide (oi < 19)) (R := LKeep (fun _ => False) (fun _ => True))
                (Pv := fun oi v W => match oi with
                  | 0 => v = .bool true
                  | 1 => v = .bool true
                  | 2 => v = .slice A n c
                  | 3 => v = .int .i64 (k : Nat)
                  | 4 => v = .bool false
                  | 5 => v = .bool false
                  | 6 => v = fileVal f fa
                  | 7 => v = .pointer (some ⟨w.heap.size, 3, none⟩)
                  | 8 => v = .slice (some ⟨bq, oq, none⟩) f.papers.length fa.c4
                  | 9 => v = .int .i64 (k : Nat)
                  | 10 => v = .pointer (some ⟨bq, oq + k * 3, none⟩)
                  | 11 => v = .agg #[.int .i64 (nth f.papers k).says, .int .i64 (nth f.papers k).lot, .int .i64 (nth f.papers k).of_]
                  | 12 => v = .slice (some ⟨bg, og, none⟩) G.length cG
                  | 13 => v = .int .i64 (i : Nat)
                  | 14 => v = .pointer (some ⟨bg, og + i, none⟩)
                  | 15 => v = .slice Ag p.length cg
                  | 16 => v = .bool so
                  | 17 => v = .bool so
                  | 18 => v = .bool so
                  | _ => True) (by kernel_rfl) (by kernel_rfl) (LKeep.refl _ _) (fun _ _ _ h h' => h.trans h') ?hstB ?hstepB ?hendB
              case hstB =>
                intro oi v W W' h hk
                match oi, h with
                | 0, h => exact h
                | 1, h => exact h
                | 2, h => exact h
                | 3, h => exact h
                | 4, h => exact h
                | 5, h => exact h
                | 6, h => exact h
                | 7, h => exact h
                | 8, h => exact h
                | 9, h => exact h
                | 10, h => exact h
                | 11, h => exact h
                | 12, h => exact h
                | 13, h => exact h
                | 14, h => exact h
                | 15, h => exact h
                | 16, h => exact h
                | 17, h => exact h
                | 18, h => exact h
                | oi + 19, h => exact trivial
              case hstepB =>
                intro oi hoi hom listed vs ao W hU hk0 hpv haft Ko hK
                have hkk := (LKeep.drew (fun _ => False) (M := fun _ => True) wr (fun h => h)).trans hk0
                have hk := hkk.1
                have hkm := hkk.2
                clear hkk
                match oi, hoi, hom with
                | 0, hoi, hom =>
                  have z8 : ao.tmps[8]?.getD undef = .bool true := hU.same 8 (by decide)
                  refine wpOp_value (v := .bool true) (W' := W) rfl rfl ?_ (hK _ _ (LKeep.refl _ _ _) rfl)
                  go_simp
                | 1, hoi, hom =>
                  have l0 := haft _ rfl { on := 0, ground := .data } (by simp) rfl
                  have hv0 : vs 0 = .bool true := hpv 0 l0
                  have s0 : ao.tmps[25]?.getD undef = vs 0 := hU.slot 0 (by decide) l0
                  rw [hv0] at s0
                  refine wpOp_value (v := .bool true) (W' := W) rfl rfl ?_ (hK _ _ (LKeep.refl _ _ _) rfl)
                  go_simp
                | 2, hoi, hom =>
                  have l1 := haft _ rfl { on := 1, ground := .guard } (by simp) rfl
                  have hv1 : vs 1 = .bool true := hpv 1 l1
                  have s1 : ao.tmps[26]?.getD undef = vs 1 := hU.slot 1 (by decide) l1
                  rw [hv1] at s1
                  have z1 : ao.tmps[1]?.getD undef = .slice A n c := hU.same 1 (by decide)
                  refine wpOp_wanted (v := .slice A n c) (W' := W) rfl ?_ ?_ (hK _ _ (LKeep.refl _ _ _) rfl)
                  · refine wanted_yes (j := 1) (d := 26) ?_ ?_ s1 <;> rfl
                  go_simp
                | 3, hoi, hom =>
                  have l1 := haft _ rfl { on := 1, ground := .guard } (by simp) rfl
                  have hv1 : vs 1 = .bool true := hpv 1 l1
                  have s1 : ao.tmps[26]?.getD undef = vs 1 := hU.slot 1 (by decide) l1
                  rw [hv1] at s1
                  have z9 : ao.tmps[9]?.getD undef = .int .i64 (k : Nat) := hU.same 9 (by decide)
                  refine wpOp_wanted (v := .int .i64 (k : Nat)) (W' := W) rfl ?_ ?_ (hK _ _ (LKeep.refl _ _ _) rfl)
                  · refine wanted_yes (j := 1) (d := 26) ?_ ?_ s1 <;> rfl
                  go_simp
                | 4, hoi, hom =>
                  have l1 := haft _ rfl { on := 1, ground := .guard } (by simp) rfl
                  have hv1 : vs 1 = .bool true := hpv 1 l1
                  have s1 : ao.tmps[26]?.getD undef = vs 1 := hU.slot 1 (by decide) l1
                  rw [hv1] at s1
                  have l2 := haft _ rfl { on := 2, ground := .data } (by simp) rfl
                  have hv2 : vs 2 = .slice A n c := hpv 2 l2
                  have s2 : ao.tmps[27]?.getD undef = vs 2 := hU.slot 2 (by decide) l2
                  rw [hv2] at s2
                  have l3 := haft _ rfl { on := 3, ground := .data } (by simp) rfl
                  have hv3 : vs 3 = .int .i64 (k : Nat) := hpv 3 l3
                  have s3 : ao.tmps[28]?.getD undef = vs 3 := hU.slot 3 (by decide) l3
                  rw [hv3] at s3
                  refine wpOp_enterW (f := 25) (args := #[.slice A n c, .int .i64 (k : Nat)]) (W' := W) rfl ?_ ?_ (((has_any (HBUr.out.below (hk.below (B := wr.heap.size) (fun k h => h.elim) (Nat.le_refl _))) (k : Int)).mono (fun e w h => by rw [HHA.out] at h; exact h)).mono (fun e w'' h => ?_))
                  · refine wanted_yes (j := 1) (d := 26) ?_ ?_ s1 <;> rfl
                  · go_simp
                  · obtain ⟨he, hbw⟩ := h
                    exact ⟨_, he, hK _ _ (by rw [← hbw]; exact LKeep.refl _ _ _) rfl⟩
                | 5, hoi, hom =>
                  have l1 := haft _ rfl { on := 1, ground := .guard } (by simp) rfl
                  have hv1 : vs 1 = .bool true := hpv 1 l1
                  have s1 : ao.tmps[26]?.getD undef = vs 1 := hU.slot 1 (by decide) l1
                  rw [hv1] at s1
                  have l4 := haft _ rfl { on := 4, ground := .data } (by simp) rfl
                  have hv4 : vs 4 = .bool false := hpv 4 l4
                  have s4 : ao.tmps[29]?.getD undef = vs 4 := hU.slot 4 (by decide) l4
                  rw [hv4] at s4
                  refine wpOp_wanted (v := .bool false) (W' := W) rfl ?_ ?_ (hK _ _ (LKeep.refl _ _ _) rfl)
                  · refine wanted_yes (j := 1) (d := 26) ?_ ?_ s1 <;> rfl
                  go_simp
                | 6, hoi, hom =>
                  have l5 := haft _ rfl { on := 5, ground := .guard } (by simp) rfl
                  have hv5 : vs 5 = .bool false := hpv 5 l5
                  have s5 : ao.tmps[30]?.getD undef = vs 5 := hU.slot 5 (by decide) l5
                  rw [hv5] at s5
                  have z2 : ao.tmps[2]?.getD undef = .pointer (some ⟨w.heap.size, 0, none⟩) := hU.same 2 (by decide)
                  have y0 := (hk.cell (b := w.heap.size) (o := 0) (hz) (fun h => h)).trans (e1)
                  have y1 := (hk.cell (b := w.heap.size) (o := 1) (hz) (fun h => h)).trans (e2)
                  have y2 := (hk.cell (b := w.heap.size) (o := 2) (hz) (fun h => h)).trans (e3)
                  have y3 := (hk.cell (b := w.heap.size) (o := 3) (hz) (fun h => h)).trans (e4)
                  have y4 := (hk.cell (b := w.heap.size) (o := 4) (hz) (fun h => h)).trans (e5)
                  refine wpOp_wanted (v := fileVal f fa) (W' := W) rfl ?_ ?_ (hK _ _ (LKeep.refl _ _ _) rfl)
                  · refine wanted_yes (j := 5) (d := 30) ?_ ?_ s5 <;> rfl
                  go_simp
                | 7, hoi, hom =>
                  have l5 := haft _ rfl { on := 5, ground := .guard } (by simp) rfl
                  have hv5 : vs 5 = .bool false := hpv 5 l5
                  have s5 : ao.tmps[30]?.getD undef = vs 5 := hU.slot 5 (by decide) l5
                  rw [hv5] at s5
                  have z2 : ao.tmps[2]?.getD undef = .pointer (some ⟨w.heap.size, 0, none⟩) := hU.same 2 (by decide)
                  refine wpOp_wanted (v := .pointer (some ⟨w.heap.size, 3, none⟩)) (W' := W) rfl ?_ ?_ (hK _ _ (LKeep.refl _ _ _) rfl)
                  · refine wanted_yes (j := 5) (d := 30) ?_ ?_ s5 <;> rfl
                  go_simp
                | 8, hoi, hom =>
                  have l5 := haft _ rfl { on := 5, ground := .guard } (by simp) rfl
                  have hv5 : vs 5 = .bool false := hpv 5 l5
                  have s5 : ao.tmps[30]?.getD undef = vs 5 := hU.slot 5 (by decide) l5
                  rw [hv5] at s5
                  have l7 := haft _ rfl { on := 7, ground := .data } (by simp) rfl
                  have hv7 : vs 7 = .pointer (some ⟨w.heap.size, 3, none⟩) := hpv 7 l7
                  have s7 : ao.tmps[32]?.getD undef = vs 7 := hU.slot 7 (by decide) l7
                  rw [hv7] at s7
                  have y0 := (hk.cell (b := w.heap.size) (o := 3) (hz) (fun h => h)).trans (HE4.out)
                  refine wpOp_wanted (v := .slice (some ⟨bq, oq, none⟩) f.papers.length fa.c4) (W' := W) rfl ?_ ?_ (hK _ _ (LKeep.refl _ _ _) rfl)
                  · refine wanted_yes (j := 5) (d := 30) ?_ ?_ s5 <;> rfl
                  go_simp
                | 9, hoi, hom =>
                  have l5 := haft _ rfl { on := 5, ground := .guard } (by simp) rfl
                  have hv5 : vs 5 = .bool false := hpv 5 l5
                  have s5 : ao.tmps[30]?.getD undef = vs 5 := hU.slot 5 (by decide) l5
                  rw [hv5] at s5
                  have z9 : ao.tmps[9]?.getD undef = .int .i64 (k : Nat) := hU.same 9 (by decide)
                  refine wpOp_wanted (v := .int .i64 (k : Nat)) (W' := W) rfl ?_ ?_ (hK _ _ (LKeep.refl _ _ _) rfl)
                  · refine wanted_yes (j := 5) (d := 30) ?_ ?_ s5 <;> rfl
                  go_simp
                | 10, hoi, hom =>
                  have l5 := haft _ rfl { on := 5, ground := .guard } (by simp) rfl
                  have hv5 : vs 5 = .bool false := hpv 5 l5
                  have s5 : ao.tmps[30]?.getD undef = vs 5 := hU.slot 5 (by decide) l5
                  rw [hv5] at s5
                  have l8 := haft _ rfl { on := 8, ground := .data } (by simp) rfl
                  have hv8 : vs 8 = .slice (some ⟨bq, oq, none⟩) f.papers.length fa.c4 := hpv 8 l8
                  have s8 : ao.tmps[33]?.getD undef = vs 8 := hU.slot 8 (by decide) l8
                  rw [hv8] at s8
                  have l9 := haft _ rfl { on := 9, ground := .data } (by simp) rfl
                  have hv9 : vs 9 = .int .i64 (k : Nat) := hpv 9 l9
                  have s9 : ao.tmps[34]?.getD undef = vs 9 := hU.slot 9 (by decide) l9
                  rw [hv9] at s9
                  refine wpOp_wanted (v := .pointer (some ⟨bq, oq + k * 3, none⟩)) (W' := W) rfl ?_ ?_ (hK _ _ (LKeep.refl _ _ _) rfl)
                  · refine wanted_yes (j := 5) (d := 30) ?_ ?_ s5 <;> rfl
                  go_simp
                | 11, hoi, hom =>
                  have l5 := haft _ rfl { on := 5, ground := .guard } (by simp) rfl
                  have hv5 : vs 5 = .bool false := hpv 5 l5
                  have s5 : ao.tmps[30]?.getD undef = vs 5 := hU.slot 5 (by decide) l5
                  rw [hv5] at s5
                  have l10 := haft _ rfl { on := 10, ground := .data } (by simp) rfl
                  have hv10 : vs 10 = .pointer (some ⟨bq, oq + k * 3, none⟩) := hpv 10 l10
                  have s10 : ao.tmps[35]?.getD undef = vs 10 := hU.slot 10 (by decide) l10
                  rw [hv10] at s10
                  have y0 := (hk.cell (b := bq) (o := oq + k * 3) (by omega) (fun h => h)).trans (y0)
                  have y1 := (hk.cell (b := bq) (o := oq + k * 3 + 1) (by omega) (fun h => h)).trans (y1)
                  have y2 := (hk.cell (b := bq) (o := oq + k * 3 + 2) (by omega) (fun h => h)).trans (y2)
                  refine wpOp_wanted (v := .agg #[.int .i64 (nth f.papers k).says, .int .i64 (nth f.papers k).lot, .int .i64 (nth f.papers k).of_]) (W' := W) rfl ?_ ?_ (hK _ _ (LKeep.refl _ _ _) rfl)
                  · refine wanted_yes (j := 5) (d := 30) ?_ ?_ s5 <;> rfl
                  go_simp
                | 12, hoi, hom =>
                  have l5 := haft _ rfl { on := 5, ground := .guard } (by simp) rfl
                  have hv5 : vs 5 = .bool false := hpv 5 l5
                  have s5 : ao.tmps[30]?.getD undef = vs 5 := hU.slot 5 (by decide) l5
                  rw [hv5] at s5
                  have z5 : ao.tmps[5]?.getD undef = .slice (some ⟨bg, og, none⟩) G.length cG := hU.same 5 (by decide)
                  refine wpOp_wanted (v := .slice (some ⟨bg, og, none⟩) G.length cG) (W' := W) rfl ?_ ?_ (hK _ _ (LKeep.refl _ _ _) rfl)
                  · refine wanted_yes (j := 5) (d := 30) ?_ ?_ s5 <;> rfl
                  go_simp
                | 13, hoi, hom =>
                  have l5 := haft _ rfl { on := 5, ground := .guard } (by simp) rfl
                  have hv5 : vs 5 = .bool false := hpv 5 l5
                  have s5 : ao.tmps[30]?.getD undef = vs 5 := hU.slot 5 (by decide) l5
                  rw [hv5] at s5
                  have z7 : ao.tmps[7]?.getD undef = .int .i64 (i : Nat) := hU.same 7 (by decide)
                  refine wpOp_wanted (v := .int .i64 (i : Nat)) (W' := W) rfl ?_ ?_ (hK _ _ (LKeep.refl _ _ _) rfl)
                  · refine wanted_yes (j := 5) (d := 30) ?_ ?_ s5 <;> rfl
                  go_simp
                | 14, hoi, hom =>
                  have l5 := haft _ rfl { on := 5, ground := .guard } (by simp) rfl
                  have hv5 : vs 5 = .bool false := hpv 5 l5
                  have s5 : ao.tmps[30]?.getD undef = vs 5 := hU.slot 5 (by decide) l5
                  rw [hv5] at s5
                  have l12 := haft _ rfl { on := 12, ground := .data } (by simp) rfl
                  have hv12 : vs 12 = .slice (some ⟨bg, og, none⟩) G.length cG := hpv 12 l12
                  have s12 : ao.tmps[37]?.getD undef = vs 12 := hU.slot 12 (by decide) l12
                  rw [hv12] at s12
                  have l13 := haft _ rfl { on := 13, ground := .data } (by simp) rfl
                  have hv13 : vs 13 = .int .i64 (i : Nat) := hpv 13 l13
                  have s13 : ao.tmps[38]?.getD undef = vs 13 := hU.slot 13 (by decide) l13
                  rw [hv13] at s13
                  refine wpOp_wanted (v := .pointer (some ⟨bg, og + i, none⟩)) (W' := W) rfl ?_ ?_ (hK _ _ (LKeep.refl _ _ _) rfl)
                  · refine wanted_yes (j := 5) (d := 30) ?_ ?_ s5 <;> rfl
                  go_simp
                | 15, hoi, hom =>
                  have l5 := haft _ rfl { on := 5, ground := .guard } (by simp) rfl
                  have hv5 : vs 5 = .bool false := hpv 5 l5
                  have s5 : ao.tmps[30]?.getD undef = vs 5 := hU.slot 5 (by decide) l5
                  rw [hv5] at s5
                  have l14 := haft _ rfl { on := 14, ground := .data } (by simp) rfl
                  have hv14 : vs 14 = .pointer (some ⟨bg, og + i, none⟩) := hpv 14 l14
                  have s14 : ao.tmps[39]?.getD undef = vs 14 := hU.slot 14 (by decide) l14
                  rw [hv14] at s14
                  have y0 := (hk.cell (b := bg) (o := og + i) (hbgz) (fun h => h)).trans (hgc)
                  refine wpOp_wanted (v := .slice Ag p.length cg) (W' := W) rfl ?_ ?_ (hK _ _ (LKeep.refl _ _ _) rfl)
                  · refine wanted_yes (j := 5) (d := 30) ?_ ?_ s5 <;> rfl
                  go_simp
                | 16, hoi, hom =>
                  have l5 := haft _ rfl { on := 5, ground := .guard } (by simp) rfl
                  have hv5 : vs 5 = .bool false := hpv 5 l5
                  have s5 : ao.tmps[30]?.getD undef = vs 5 := hU.slot 5 (by decide) l5
                  rw [hv5] at s5
                  have l6 := haft _ rfl { on := 6, ground := .data } (by simp) rfl
                  have hv6 : vs 6 = fileVal f fa := hpv 6 l6
                  have s6 : ao.tmps[31]?.getD undef = vs 6 := hU.slot 6 (by decide) l6
                  rw [hv6] at s6
                  have l11 := haft _ rfl { on := 11, ground := .data } (by simp) rfl
                  have hv11 : vs 11 = .agg #[.int .i64 (nth f.papers k).says, .int .i64 (nth f.papers k).lot, .int .i64 (nth f.papers k).of_] := hpv 11 l11
                  have s11 : ao.tmps[36]?.getD undef = vs 11 := hU.slot 11 (by decide) l11
                  rw [hv11] at s11
                  have l15 := haft _ rfl { on := 15, ground := .data } (by simp) rfl
                  have hv15 : vs 15 = .slice Ag p.length cg := hpv 15 l15
                  have s15 : ao.tmps[40]?.getD undef = vs 15 := hU.slot 15 (by decide) l15
                  rw [hv15] at s15
                  refine wpOp_enterW (f := 83) (args := #[fileVal f fa, .agg #[.int .i64 (nth f.papers k).says, .int .i64 (nth f.papers k).lot, .int .i64 (nth f.papers k).of_], .slice Ag p.length cg]) (W' := W) rfl ?_ ?_ (((so7_any (HBXr.out.v.next (hk.below (B := wr.heap.size) (fun k h => h.elim) (Nat.le_refl _))) (HGr.out.next (hk.below (B := wr.heap.size) (fun k h => h.elim) (Nat.le_refl _))) HPG.out (nth f.papers k) ⟨HPO.out.1, HPO.out.2.1, HPO.out.2.2.1, HPO.out.2.2.2.1, fun h => ⟨(HPO.out.2.2.2.2.2 h).1, (HPO.out.2.2.2.2.2 h).2.1⟩⟩).mono (fun e w h => by rw [HSO.out] at h; exact h)).mono (fun e w'' h => ?_))
                  · refine wanted_yes (j := 5) (d := 30) ?_ ?_ s5 <;> rfl
                  · go_simp
                  · obtain ⟨he, hbw⟩ := h
                    exact ⟨_, he, hK _ _ (LKeep.below hbw (fun h => h)) rfl⟩
                | 17, hoi, hom =>
                  have l1 := haft _ rfl { on := 1, ground := .guard } (by simp) rfl
                  have hv1 : vs 1 = .bool true := hpv 1 l1
                  have s1 : ao.tmps[26]?.getD undef = vs 1 := hU.slot 1 (by decide) l1
                  rw [hv1] at s1
                  have l5 := haft _ rfl { on := 5, ground := .data } (by simp) rfl
                  have hv5 : vs 5 = .bool false := hpv 5 l5
                  have s5 : ao.tmps[30]?.getD undef = vs 5 := hU.slot 5 (by decide) l5
                  rw [hv5] at s5
                  have l16 := haft _ rfl { on := 16, ground := .data } (by simp) rfl
                  have hv16 : vs 16 = .bool so := hpv 16 l16
                  have s16 : ao.tmps[41]?.getD undef = vs 16 := hU.slot 16 (by decide) l16
                  rw [hv16] at s16
                  refine wpOp_wanted (v := .bool so) (W' := W) rfl ?_ ?_ (hK _ _ (LKeep.refl _ _ _) rfl)
                  · refine wanted_yes (j := 1) (d := 26) ?_ ?_ s1 <;> rfl
                  go_simp
                | 18, hoi, hom =>
                  have l1 := haft _ rfl { on := 1, ground := .data } (by simp) rfl
                  have hv1 : vs 1 = .bool true := hpv 1 l1
                  have s1 : ao.tmps[26]?.getD undef = vs 1 := hU.slot 1 (by decide) l1
                  rw [hv1] at s1
                  have l17 := haft _ rfl { on := 17, ground := .data } (by simp) rfl
                  have hv17 : vs 17 = .bool so := hpv 17 l17
                  have s17 : ao.tmps[42]?.getD undef = vs 17 := hU.slot 17 (by decide) l17
                  rw [hv17] at s17
                  refine wpOp_value (v := .bool so) (W' := W) rfl rfl ?_ (hK _ _ (LKeep.refl _ _ _) rfl)
                  go_simp
                | oi + 19, hoi, hom => exact absurd (of_decide_eq_true hom) (by omega)
              case hendB =>
                intro listed vs ao W hG hk0 hpv hpre
                have hkk := (LKeep.drew (fun _ => False) (M := fun _ => True) wr (fun h => h)).trans hk0
                have hk := hkk.1
                have hkm := hkk.2
                clear hkk
                have hact := hG.act
                have hT := hG.lst hpre 0 #[true, true, true, true, true, true, true, true, true, true, true, true, true, true, true, true, true, true, true, false] rfl (by kernel_rfl) (hpre 0 (by decide) (by decide))
                rw [hG.ix hT (l := [0, 1, 2, 3, 4, 5, 6, 7, 8, 9, 10, 11, 12, 13, 14, 15, 16, 17, 18]) (by kernel_rfl)] at hact
                rw [hG.lo hT (k := 1) (by kernel_rfl)]
                have hv0 : vs 0 = .bool true := hpv 0 (hpre 0 (by decide) (by decide))
                have hv1 : vs 1 = .bool true := hpv 1 (hpre 1 (by decide) (by decide))
                have hv2 : vs 2 = .slice A n c := hpv 2 (hpre 2 (by decide) (by decide))
                have hv3 : vs 3 = .int .i64 (k : Nat) := hpv 3 (hpre 3 (by decide) (by decide))
                have hv4 : vs 4 = .bool false := hpv 4 (hpre 4 (by decide) (by decide))
                have hv5 : vs 5 = .bool false := hpv 5 (hpre 5 (by decide) (by decide))
                have hv6 : vs 6 = fileVal f fa := hpv 6 (hpre 6 (by decide) (by decide))
                have hv7 : vs 7 = .pointer (some ⟨w.heap.size, 3, none⟩) := hpv 7 (hpre 7 (by decide) (by decide))
                have hv8 : vs 8 = .slice (some ⟨bq, oq, none⟩) f.papers.length fa.c4 := hpv 8 (hpre 8 (by decide) (by decide))
                have hv9 : vs 9 = .int .i64 (k : Nat) := hpv 9 (hpre 9 (by decide) (by decide))
                have hv10 : vs 10 = .pointer (some ⟨bq, oq + k * 3, none⟩) := hpv 10 (hpre 10 (by decide) (by decide))
                have hv11 : vs 11 = .agg #[.int .i64 (nth f.papers k).says, .int .i64 (nth f.papers k).lot, .int .i64 (nth f.papers k).of_] := hpv 11 (hpre 11 (by decide) (by decide))
                have hv12 : vs 12 = .slice (some ⟨bg, og, none⟩) G.length cG := hpv 12 (hpre 12 (by decide) (by decide))
                have hv13 : vs 13 = .int .i64 (i : Nat) := hpv 13 (hpre 13 (by decide) (by decide))
                have hv14 : vs 14 = .pointer (some ⟨bg, og + i, none⟩) := hpv 14 (hpre 14 (by decide) (by decide))
                have hv15 : vs 15 = .slice Ag p.length cg := hpv 15 (hpre 15 (by decide) (by decide))
                have hv16 : vs 16 = .bool so := hpv 16 (hpre 16 (by decide) (by decide))
                have hv17 : vs 17 = .bool so := hpv 17 (hpre 17 (by decide) (by decide))
                have hv18 : vs 18 = .bool so := hpv 18 (hpre 18 (by decide) (by decide))
                clear hpv hpre hG hk0
                obtain rfl : ao = _ := hact
                subst hT
                simp only [setAll, List.setIfInBounds_toArray, List.set_cons_succ, List.set_cons_zero, List.getD_cons_succ, List.getD_cons_zero]
                simp only [hv0, hv1, hv2, hv3, hv4, hv5, hv6, hv7, hv8, hv9, hv10, hv11, hv12, hv13, hv14, hv15, hv16, hv17, hv18]
                clear hv0 hv1 hv2 hv3 hv4 hv5 hv6 hv7 hv8 hv9 hv10 hv11 hv12 hv13 hv14 hv15 hv16 hv17 hv18
                refine wpAny_all (rs := [19]) (by kernel_rfl) (by simp) ?_
                intro i2 hi2
                obtain rfl : i2 = 19 := by simpa using hi2
                refine wpOp_value (v := .bool so) (W' := W) rfl rfl ?_ ?_
                · go_simp
                try simp only [Act.put, List.setIfInBounds_toArray, List.set_cons_zero, List.set_cons_succ]
                refine wpAny_done (by kernel_rfl) ?_ _
                have HBZ := hide (HB2.out.trans ((hk.below (B := wr.heap.size) (fun k h => h.elim) (Nat.le_refl _)).mono hz2))
                clear hk hkm
                go_wp2_with fail
                go_roundw
                case rel => exact ⟨k + 1, by omega, by go_num, by rw [HY.out], HBZ.out⟩
                case measure => simp [intOf]; omega
        · have hnot : ¬ (k : Int) < (f.papers.length : Int) := by omega
          have hkk : k = f.papers.length := by omega
          have HSK := hide (show soTo f but p k = soM f but p by rw [HSM.out, hkk])
          have hOr := HOa.out.below hza hB2
          clear hkk hB2
          cases hsm : soM f but p with
          | false =>
            have HX := hide (show soTo f but p k = false by rw [HSK.out, hsm])
            rw [HX.out]
            have HZ := hide (show (G.take (i + 1)).filter (soM f but) = (G.take i).filter (soM f but) by rw [HFS.out, hsm]; simp)
            clear hsm
            go_wp2_with fail
            go_roundw
            case rel => exact ⟨i + 1, by omega, by go_num, HBw.out, by rw [HZ.out]; exact hOr⟩
            case measure => simp [intOf]; omega
          | true =>
            have HX := hide (show soTo f but p k = true by rw [HSK.out, hsm])
            rw [HX.out]
            have HZ := hide (show (G.take (i + 1)).filter (soM f but) = (G.take i).filter (soM f but) ++ [p] by rw [HFS.out, hsm]; simp)
            clear hsm
            have hgc := (HBw.out.cell (p := ⟨bg, og + i, none⟩) hbg).trans HGC.out
            have hbgz : bg < wr.heap.size := by omega
            have HGr := hide (HGI.out.below HBw.out)
            obtain ⟨vs, ho1, ho2⟩ := hOr
            have hvl : vs.length = ((G.take i).filter (soM f but)).length := by have := ho1.1; omega
            generalize (G.take i).filter (soM f but) = F at *
            have hFl := HFL.out
            go_wp2_with (first
              | (at_builtin
                 refine wpList_append_own _ rfl (.tmp 45) (.tmp 50) _ rfl w1.heap.size 23 i1 (.slice none 0 0) 1 24 Try.underlying89 gi gz0 gz1 gz2 rfl (by decide) _ _ vs rfl (ho1.alloc _) ⟨wr.heap.size, 0, none⟩ 1 1 [.slice Ag p.length cg] rfl rfl ?c1 ?c2 ?c3 ?c4 ?c5 ?_
                 case c1 => exact cell_one_new _ _ _
                 case c2 => simp [Value.oneCell']
                 case c3 => simp only [maxLen]; omega
                 case c4 => omega
                 case c5 => simp; omega
                 intro v' w6 hown6 hg6 _
                 have hbC := app_below (show w1.heap.size ≤ wr.heap.size by omega) ho1 hg6
                 have hOO := OwnRefs.snoc ho2 hvl HGr.out hown6 hbC
                 clear hg6 hown6))
            go_roundw
            case rel => exact ⟨i + 1, by omega, by go_num, HBw.out.trans hbC, by rw [HZ.out]; exact hOO⟩
            case measure => simp [intOf]; omega
    · have hii : i = G.length := by omega
      rw [hii, List.take_length, ← HGM.out] at hO
      obtain ⟨A', c', rfl, hL'⟩ := hO.lists hB.size
      go_wp2_with fail
      go_ret
      exact ⟨A', c', rfl, hL', HB1.out.trans (hB.mono HB1.out.size)⟩
end Go.Proofs.Ytllmahcanipcpaa
