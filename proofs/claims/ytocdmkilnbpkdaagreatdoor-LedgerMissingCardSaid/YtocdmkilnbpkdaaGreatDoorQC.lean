/- Sets of numbers of hands. -/
import Derived.Test.YtocdmkilnbpkdaaGreatDoorZD
import Derived.Test.YtocdmkilnbpkdaaGreatDoorYE
import Derived.OwnWalkIn
import Derived.Deep.MidRow
import Derived.Deep.WholeRow
import Derived.TacticsInMore
import Derived.Deep.DeepCutAuto
set_option linter.unusedVariables false
set_option linter.unusedSimpArgs false
namespace Go.Proofs.YtocdmkilnbpkdaaGreatDoor
open Go.RowKit
attribute [local go_sem] Oper.semAt_some

theorem blkS_set {g : Nat} {T : TypeId} : ∀ (cs : List Value) (o : Nat) (w : World) (vs : Array Value), Blk w g T vs → o + cs.length ≤ vs.size → ∃ vs', Blk (w.setCells g o cs) g T vs' ∧ vs'.size = vs.size ∧ (∀ j, (j < o ∨ o + cs.length ≤ j) → vs'[j]? = vs[j]?) ∧ (∀ j, j < cs.length → vs'[o + j]? = cs[j]?)
 | [], o, w, vs, h, _ => ⟨vs, h, rfl, fun _ _ => rfl, fun j hj => by simp at hj⟩
 | v :: r, o, w, vs, h, hl => by
  have hl' : o + (r.length + 1) ≤ vs.size := by simpa using hl
  obtain ⟨vs', h1, h2, h3, h4⟩ := blkS_set r (o + 1) (w.setCell ⟨g, o, none⟩ v) (vs.setIfInBounds o v) (h.store o v) (by simp; omega)
  refine ⟨vs', h1, by rw [h2]; simp, fun j hj => by rw [List.length_cons] at hj; rw [h3 j (by omega), Array.getElem?_setIfInBounds_ne (by omega)], fun j hj => ?_⟩
  match j, hj with
  | 0, _ => rw [Nat.add_zero, h3 o (by omega), Array.getElem?_setIfInBounds_self_of_lt (by omega)]; rfl
  | j + 1, hj => rw [show o + (j + 1) = o + 1 + j by omega, h4 j (by simpa using hj)]; rfl
theorem keepS_set (g : Nat) : ∀ (cs : List Value) (o : Nat) (w : World), Keep (fun k => k = g) w (w.setCells g o cs)
 | [], _, _ => Keep.refl _ _
 | v :: r, o, w => (Keep.setCell w ⟨g, o, none⟩ v (fun k => k = g) rfl).trans (keepS_set g r (o + 1) _)
def setL (s : Nat → Bool) : List Value := (List.range 100).map fun k => .bool (s k)
/-- A set by value. -/
abbrev setV (s : Nat → Bool) : Value := .agg (setL s).toArray
def SetB (W : World) (g : Nat) (s : Nat → Bool) : Prop := Blk W g 95 (setL s).toArray
def upS (s : Nat → Bool) (n : Nat) (b : Bool) : Nat → Bool := fun k => if k = n then b else s k
theorem setL_len (s : Nat → Bool) : (setL s).length = 100 := by simp [setL]
theorem setL_at (s : Nat → Bool) {j : Nat} (h : j < 100) : (setL s)[j]? = some (.bool (s j)) := by simp [setL, List.getElem?_map, List.getElem?_range h]
theorem setL_ext {s t : Nat → Bool} (h : ∀ k, k < 100 → s k = t k) : setL s = setL t := List.map_congr_left fun k hk => by rw [h k (List.mem_range.1 hk)]
theorem setL_one (s : Nat → Bool) : ∀ v ∈ setL s, v.oneCell' = true := fun v hv => by
 obtain ⟨j, _, rfl⟩ := List.mem_map.1 hv
 rfl
theorem setL_all (s : Nat → Bool) : (setL s).toArray.all (·.oneCell') = true := all_oneCell_toArray (setL_one s)
theorem setL_set (s : Nat → Bool) (n : Nat) (b : Bool) : (setL s).toArray.setIfInBounds n (.bool b) = (setL (upS s n b)).toArray := by
 apply Array.ext_getElem?
 intro i
 by_cases hi : i < 100
 · by_cases e : i = n
   · subst e
     rw [Array.getElem?_setIfInBounds_self_of_lt (by simpa [setL_len] using hi), List.getElem?_toArray, setL_at _ hi, upS, if_pos rfl]
   · rw [Array.getElem?_setIfInBounds_ne (fun h => e h.symm), List.getElem?_toArray, List.getElem?_toArray, setL_at _ hi, setL_at _ hi, upS, if_neg e]
 · rw [Array.getElem?_eq_none (by simp [setL_len]; omega), Array.getElem?_eq_none (by simp [setL_len]; omega)]
theorem info95 : (Tryz.prog.info? 95).map (fun i => (i.zero, i.size)) = some (some (setV fun _ => false), 100) := by kernel_rfl
theorem zero95 : ∀ w, (zeroValue 95).run Tryz.prog w = .ok (setV fun _ => false) w := (zero_of_info info95).1
theorem size95 (s : Nat → Bool) : (Tryz.prog.info? 95).map (·.size) = some (setL s).length := by rw [setL_len]; exact (zero_of_info info95).2
theorem size95' (s : Nat → Bool) : (Tryz.prog.info? 95).map (·.size) = some (setL s).toArray.size := by rw [List.size_toArray]; exact size95 s
section
variable {W W' : World} {g : Nat} {s : Nat → Bool}
theorem SetB.cell (h : SetB W g s) {j : Nat} (hj : j < 100) : W.cell? ⟨g, j, none⟩ = some (.bool (s j)) := (h.at_ j).trans (by rw [List.getElem?_toArray]; exact setL_at s hj)
theorem SetB.lt (h : SetB W g s) : g < W.heap.size := Blk.lt h
theorem SetB.range (h : SetB W g s) : W.rangeAt g 0 (setL s) := fun j v hv => by rw [Nat.zero_add]; exact (h.at_ j).trans (by rw [List.getElem?_toArray]; exact hv)
theorem SetB.there (h : SetB W g s) (t : Nat → Bool) : W.there g 0 (setL t).toArray.size := fun j hj => by
 rw [List.size_toArray, setL_len] at hj
 rw [Nat.zero_add]
 exact ⟨by rw [h.cell hj]; rfl, Blk.free h j⟩
theorem SetB.store (h : SetB W g s) (n : Nat) (b : Bool) : SetB (W.setCell ⟨g, n, none⟩ (.bool b)) g (upS s n b) := by
 have := Blk.store h n (.bool b)
 rwa [setL_set] at this
theorem SetB.open_ (h : SetB W g s) (j : Nat) : W.frozen? ⟨g, j, none⟩ = false := Blk.free h j
theorem SetB.whole (h : SetB W g s) (t : Nat → Bool) : SetB (W.setCells g 0 (setL t)) g t := by
 obtain ⟨vs', h1, h2, _, h4⟩ := blkS_set (g := g) (T := 95) (setL t) 0 W (setL s).toArray h (by rw [setL_len, List.size_toArray, setL_len]; exact Nat.le_refl _)
 have : vs' = (setL t).toArray := by
  apply Array.ext_getElem?
  intro i
  by_cases hi : i < 100
  · have := h4 i (by rw [setL_len]; exact hi)
    rw [Nat.zero_add] at this
    rw [this, List.getElem?_toArray]
  · rw [Array.getElem?_eq_none (by rw [h2]; simp [setL_len]; omega), Array.getElem?_eq_none (by simp [setL_len]; omega)]
 subst this
 exact h1
theorem SetB.made : SetB (W.alloc (.cells (setL s).toArray 95)) W.heap.size s := Blk.made
theorem SetB.next (h : SetB W g s) (hb : Below W.heap.size W W') : SetB W' g s := Blk.next h hb
theorem SetB.alloc (h : SetB W g s) (o : Obj) : SetB (W.alloc o) g s := Blk.alloc h o
theorem SetB.keep {S : Nat → Prop} (h : SetB W g s) (hk : Keep S W W') (hS : ¬ S g) : SetB W' g s := Blk.keep h hk hS
theorem SetB.ext {t : Nat → Bool} (h : SetB W g s) (e : ∀ k, k < 100 → s k = t k) : SetB W g t := by rw [SetB, ← setL_ext e]; exact h
theorem SetB.load (h : SetB W g s) : (loadVar 95 ⟨g, 0, none⟩).run Tryz.prog W = .ok (setV s) W := run_loadVar_mid W g 0 _ (setL s) _ h.range Tryz.underlying95 rfl (size95 _)
end
theorem set_below {W W' : World} {B g : Nat} {cs : List Value} {o : Nat} (hb : Below B W W') (hg : B ≤ g) (hz : B ≤ W'.heap.size) : Below B W (W'.setCells g o cs) :=
 hb.trans ((keepS_set g cs o W').below (B := B) (fun k h => by have : k = g := h; omega) hz)

set_option maxRecDepth 100000 in
theorem zero12_any (w : World) : Calls Tryz.prog 104 #[] w fun e w' => e = .returned (setV (setOf ⟨0, 0⟩)) ∧ Below w.heap.size w w' := by
 have hz := zero95
 go_enter Tryz.func104, Tryz.ntmps104
 go_upto_region 2 with (fail)
 have hb : Below w.heap.size w ((w.alloc (.cells (setL fun _ => false).toArray 95)).alloc (.cells (setL fun _ => false).toArray 95)) := ((Below.refl _ _).alloc (Nat.le_refl _) _).alloc (by simp) _
 have n0 : SetB ((w.alloc (.cells (setL fun _ => false).toArray 95)).alloc (.cells (setL fun _ => false).toArray 95)) w.heap.size (fun _ => false) := SetB.made.alloc _
 have n1 : SetB ((w.alloc (.cells (setL fun _ => false).toArray 95)).alloc (.cells (setL fun _ => false).toArray 95)) (w.heap.size + 1) (fun _ => false) := Blk.made' (by simp)
 generalize ((w.alloc (.cells (setL fun _ => false).toArray 95)).alloc (.cells (setL fun _ => false).toArray 95)) = v at *
 have hz0 := n1.lt
 have m1 := n1.store 0 true
 have m0 : SetB (v.setCell ⟨w.heap.size + 1, 0, none⟩ (.bool true)) w.heap.size (fun _ => false) := Blk.else_ n0 (by simp) _
 have hb1 : Below w.heap.size w (v.setCell ⟨w.heap.size + 1, 0, none⟩ (.bool true)) := hb.setCell (by simp) _
 have x1 := n1.cell (j := 0) (by omega)
 have xf := n1.open_ 0
 go_upto_region 3 with (fail)
 generalize v.setCell ⟨w.heap.size + 1, 0, none⟩ (.bool true) = v2 at *
 have hz1 := m1.lt
 clear hb n0 n1 x1 xf hz
 have hs : setL (upS (fun _ => false) 0 true) = setL (setOf ⟨0, 0⟩) := setL_ext fun k _ => by
  rw [Bool.eq_iff_iff, setOf_iff]; simp only [upS]; split <;> simp <;> omega
 rw [SetB, hs] at m1
 go_wp2_with (first | refine wpList_load_mid rfl 95 (.tmp 1) rfl (w.heap.size + 1) 0 rfl (setL (setOf ⟨0, 0⟩)) _ (SetB.range m1) Tryz.underlying95 rfl (size95 _) ?_ | refine wpList_store_mid rfl 95 (.tmp 0) (.tmp 4) rfl w.heap.size 0 (setL (setOf ⟨0, 0⟩)).toArray rfl rfl (SetB.there m0 _) (size95' _) (setL_all _) ?_)
 refine bodyPost_ret (v := setV (setOf ⟨0, 0⟩)) (results_cell_row rfl _ _ w.heap.size 95 (setL (setOf ⟨0, 0⟩)).toArray (0, 0) _ rfl (m0.whole (setOf ⟨0, 0⟩)) Tryz.underlying95 rfl (size95' _)) rfl ⟨rfl, set_below hb1 (Nat.le_refl _) (by omega)⟩
set_option maxRecDepth 100000 in
theorem upTo12_any {m : Int} (h0 : 0 ≤ m) (hm : m ≤ 99) (w : World) : Calls Tryz.prog 98 #[.int .i64 m] w fun e w' => e = .returned (setV (setOf ⟨0, m⟩)) ∧ Below w.heap.size w w' := by
 have hz := zero95
 go_enter Tryz.func98, Tryz.ntmps98
 go_upto_region 2 with (fail)
 have hb : Below w.heap.size w ((w.alloc (.cells (setL fun _ => false).toArray 95)).alloc (.cells (setL fun _ => false).toArray 95)) := ((Below.refl _ _).alloc (Nat.le_refl _) _).alloc (by simp) _
 have n0 : SetB ((w.alloc (.cells (setL fun _ => false).toArray 95)).alloc (.cells (setL fun _ => false).toArray 95)) w.heap.size (fun _ => false) := SetB.made.alloc _
 have n1 : SetB ((w.alloc (.cells (setL fun _ => false).toArray 95)).alloc (.cells (setL fun _ => false).toArray 95)) (w.heap.size + 1) (fun _ => false) := Blk.made' (by simp)
 generalize ((w.alloc (.cells (setL fun _ => false).toArray 95)).alloc (.cells (setL fun _ => false).toArray 95)) = v at *
 have hz0 := n1.lt
 clear hz
 have N1 := hide n1
 clear n1
 go_wp2_with fail
 go_loopw [4, 5, 6, 7, 8, 9, 10, 11, 12] (fun v4 _ _ _ _ _ _ _ _ wr => ∃ j : Nat, (j : Int) ≤ m + 1 ∧ v4 = .int .i64 j ∧ Hid (SetB wr (w.heap.size + 1) fun k => decide (k < j)) ∧ Hid (Keep (fun k => k = w.heap.size + 1) v wr)) (fun v4 _ _ _ _ _ _ _ _ _ => (m + 1 - intOf v4).toNat)
 case atStart => exact ⟨0, by omega, rfl, hide (N1.out.ext (by simp)), hide (Keep.refl _ _)⟩
 case round =>
  obtain ⟨j, hj, rfl, HS, HK⟩ := hrel
  by_cases hlt : (j : Int) ≤ m
  · have x := HS.out.cell (j := j) (by omega)
    have hzz := HS.out.lt
    have xf := HS.out.open_ j
    have hj0 : (0 : Int) ≤ (j : Int) := Int.natCast_nonneg _
    have hj9 : (j : Int) < 100 := by omega
    go_wp2_with fail
    go_roundw
    case rel => exact ⟨j + 1, by omega, by go_num, hide ((HS.out.store j true).ext fun k _ => by simp only [upS]; split <;> simp <;> omega), hide (HK.out.trans (Keep.setCell _ _ _ _ rfl))⟩
    case measure => simp [intOf]; omega
  · have hx := hide (show (j : Int) = m + 1 by omega)
    have m1 : SetB wr (w.heap.size + 1) (setOf ⟨0, m⟩) := HS.out.ext fun k _ => by
     rw [Bool.eq_iff_iff, setOf_iff, decide_eq_true_eq]; have := hx.out; simp only; omega
    have m0 := n0.keep HK.out (by omega)
    have hz1 := m1.lt
    go_wp2_with (first | refine wpList_load_mid rfl 95 (.tmp 3) rfl (w.heap.size + 1) 0 rfl (setL (setOf ⟨0, m⟩)) _ (SetB.range m1) Tryz.underlying95 rfl (size95 _) ?_ | refine wpList_store_mid rfl 95 (.tmp 2) (.tmp 13) rfl w.heap.size 0 (setL (setOf ⟨0, m⟩)).toArray rfl rfl (SetB.there m0 _) (size95' _) (setL_all _) ?_)
    refine bodyPost_ret (v := setV (setOf ⟨0, m⟩)) (results_cell_row rfl _ _ w.heap.size 95 (setL (setOf ⟨0, m⟩)).toArray (0, 0) _ rfl (m0.whole (setOf ⟨0, m⟩)) Tryz.underlying95 rfl (size95' _)) rfl ⟨rfl, set_below (hb.trans (HK.out.below (fun k hk => by omega) (by omega))) (Nat.le_refl _) (by omega)⟩

/-- The sums that are told when the first number is i, and the second one j. -/
def sumTo (a b : Nat → Bool) (i j t : Nat) : Bool := (List.range (t + 1)).any fun n => (decide (n < i) || (decide (n = i) && decide (t - n < j))) && (a n && b (t - n))
theorem sumTo_iff {a b : Nat → Bool} {i j t : Nat} : sumTo a b i j t = true ↔ ∃ n m, n + m = t ∧ (n < i ∨ n = i ∧ m < j) ∧ a n = true ∧ b m = true := by
 rw [sumTo, List.any_eq_true]
 constructor
 · rintro ⟨n, hn, h⟩
   have := List.mem_range.1 hn
   simp only [Bool.and_eq_true, Bool.or_eq_true, decide_eq_true_eq] at h
   exact ⟨n, t - n, by omega, h.1, h.2⟩
 · rintro ⟨n, m, e, h1, h2⟩
   refine ⟨n, List.mem_range.2 (by omega), ?_⟩
   simp only [Bool.and_eq_true, Bool.or_eq_true, decide_eq_true_eq]
   rw [show t - n = m by omega]
   exact ⟨h1, h2⟩
theorem sumTo_zero (a b : Nat → Bool) : sumTo a b 0 0 = fun _ => false := by
 funext t
 rw [Bool.eq_false_iff]
 intro h
 obtain ⟨n, m, _, h, _⟩ := sumTo_iff.1 h
 omega
theorem sumTo_hit {a b : Nat → Bool} {i j : Nat} (ha : a i = true) (hb : b j = true) : upS (sumTo a b i j) (i + j) true = sumTo a b i (j + 1) := by
 funext t
 unfold upS
 split
 · rename_i e
   exact (sumTo_iff.2 ⟨i, j, e.symm, .inr ⟨rfl, by omega⟩, ha, hb⟩).symm
 · rename_i e
   rw [Bool.eq_iff_iff, sumTo_iff, sumTo_iff]
   constructor
   · rintro ⟨n, m, h, h2, h3⟩; exact ⟨n, m, h, by omega, h3⟩
   · rintro ⟨n, m, h, h2, h3⟩; exact ⟨n, m, h, by omega, h3⟩
theorem sumTo_miss {a b : Nat → Bool} {i j : Nat} (hb : b j = false) : sumTo a b i (j + 1) = sumTo a b i j := by
 funext t
 rw [Bool.eq_iff_iff, sumTo_iff, sumTo_iff]
 constructor
 · rintro ⟨n, m, h, h2, h3, h4⟩
   refine ⟨n, m, h, ?_, h3, h4⟩
   by_cases e : m = j
   · rw [e, hb] at h4; cases h4
   · omega
 · rintro ⟨n, m, h, h2, h3⟩; exact ⟨n, m, h, by omega, h3⟩
theorem sumTo_next {a b : Nat → Bool} {i j : Nat} (h : a i = false ∨ 100 ≤ i + j) : ∀ t, t < 100 → sumTo a b i j t = sumTo a b (i + 1) 0 t := by
 intro t ht
 rw [Bool.eq_iff_iff, sumTo_iff, sumTo_iff]
 constructor
 · rintro ⟨n, m, h, h2, h3⟩; exact ⟨n, m, h, by omega, h3⟩
 · rintro ⟨n, m, h1, h2, h3, h4⟩
   refine ⟨n, m, h1, ?_, h3, h4⟩
   by_cases e : n = i
   · rcases h with h | h
     · rw [e, h] at h3; cases h3
     · omega
   · omega
theorem sumTo_all (a b : Nat → Bool) : ∀ t, t < 100 → sumTo a b 100 0 t = sumS a b t := by
 intro t ht
 rw [Bool.eq_iff_iff, sumTo_iff, sumS_iff]
 constructor
 · rintro ⟨n, m, h, _, h3⟩; exact ⟨n, m, h, h3⟩
 · rintro ⟨n, m, h, h3⟩; exact ⟨n, m, h, by omega, h3⟩
set_option maxHeartbeats 2000000 in
set_option maxRecDepth 100000 in
theorem sum12_any (a b : Nat → Bool) (w : World) : Calls Tryz.prog 99 #[setV a, setV b] w fun e w' => e = .returned (setV (sumS a b)) ∧ Below w.heap.size w w' := by
 have hz := zero95
 go_enter Tryz.func99, Tryz.ntmps99
 go_upto_region 2 with (fail)
 have hb : Below w.heap.size w ((((w.alloc (.cells (setL a).toArray 95)).alloc (.cells (setL b).toArray 95)).alloc (.cells (setL fun _ => false).toArray 95)).alloc (.cells (setL fun _ => false).toArray 95)) := ((((Below.refl _ _).alloc (Nat.le_refl _) _).alloc (by simp) _).alloc (by simp; omega) _).alloc (by simp; omega) _
 have na : SetB ((((w.alloc (.cells (setL a).toArray 95)).alloc (.cells (setL b).toArray 95)).alloc (.cells (setL fun _ => false).toArray 95)).alloc (.cells (setL fun _ => false).toArray 95)) w.heap.size a := ((SetB.made.alloc _).alloc _).alloc _
 have nb : SetB ((((w.alloc (.cells (setL a).toArray 95)).alloc (.cells (setL b).toArray 95)).alloc (.cells (setL fun _ => false).toArray 95)).alloc (.cells (setL fun _ => false).toArray 95)) (w.heap.size + 1) b := ((Blk.made' (by simp)).alloc _).alloc _
 have n0 : SetB ((((w.alloc (.cells (setL a).toArray 95)).alloc (.cells (setL b).toArray 95)).alloc (.cells (setL fun _ => false).toArray 95)).alloc (.cells (setL fun _ => false).toArray 95)) (w.heap.size + 1 + 1) (fun _ => false) := (Blk.made' (by simp)).alloc _
 have n1 : SetB ((((w.alloc (.cells (setL a).toArray 95)).alloc (.cells (setL b).toArray 95)).alloc (.cells (setL fun _ => false).toArray 95)).alloc (.cells (setL fun _ => false).toArray 95)) (w.heap.size + 1 + 1 + 1) (fun _ => false) := Blk.made' (by simp)
 generalize ((((w.alloc (.cells (setL a).toArray 95)).alloc (.cells (setL b).toArray 95)).alloc (.cells (setL fun _ => false).toArray 95)).alloc (.cells (setL fun _ => false).toArray 95)) = v at *
 have hz0 := n1.lt
 clear hz
 have NA := hide na
 have NB := hide nb
 have N0 := hide n0
 have N1 := hide n1
 have HB := hide hb
 clear na nb n0 n1 hb
 go_wp2_with fail
 go_loopw [6, 7, 8, 9, 10, 11, 12, 13, 14, 15, 16, 17, 18, 19, 20, 21, 22, 23, 24, 25, 26, 27, 28, 29, 30, 31, 32] (fun v6 _ _ _ _ _ _ _ _ _ _ _ _ _ _ _ _ _ _ _ _ _ _ _ _ _ _ wr => ∃ i : Nat, i ≤ 100 ∧ v6 = .int .i64 i ∧ Hid (SetB wr (w.heap.size + 1 + 1 + 1) (sumTo a b i 0)) ∧ Hid (Keep (fun k => k = w.heap.size + 1 + 1 + 1) v wr)) (fun v6 _ _ _ _ _ _ _ _ _ _ _ _ _ _ _ _ _ _ _ _ _ _ _ _ _ _ _ => 100 - (intOf v6).toNat)
 case atStart => exact ⟨0, by omega, rfl, hide (N1.out.ext fun k _ => (congrFun (sumTo_zero a b) k).symm), hide (Keep.refl _ _)⟩
 case round =>
  obtain ⟨i, hi, rfl, HS, HK⟩ := hrel
  obtain ⟨v1, rfl⟩ : ∃ v1 : World, v1 = wr := ⟨_, rfl⟩
  have hi0 : (0 : Int) ≤ (i : Int) := Int.natCast_nonneg _
  by_cases hlt : i < 100
  · have hi1 : (i : Int) ≤ 99 := by omega
    have NA1 := hide (NA.out.keep HK.out (by omega))
    have NB1 := hide (NB.out.keep HK.out (by omega))
    go_wp2_with fail
    go_loopw [7, 12, 13, 14, 15, 16, 17, 18, 19, 20, 21, 22, 23, 24, 25, 26, 27, 28, 29, 30, 31, 32] (fun v7 _ _ _ _ _ _ _ _ _ _ _ _ _ _ _ _ _ _ _ _ _ wr => ∃ j : Nat, i + j ≤ 100 ∧ v7 = .int .i64 j ∧ Hid (SetB wr (w.heap.size + 1 + 1 + 1) (sumTo a b i j)) ∧ Hid (Keep (fun k => k = w.heap.size + 1 + 1 + 1) v1 wr)) (fun v7 _ _ _ _ _ _ _ _ _ _ _ _ _ _ _ _ _ _ _ _ _ _ => 100 - (intOf v7).toNat)
    case atStart => exact ⟨0, by omega, rfl, HS, hide (Keep.refl _ _)⟩
    case round =>
     obtain ⟨j, hj, rfl, HS2, HK2⟩ := hrel
     have hj0 : (0 : Int) ≤ (j : Int) := Int.natCast_nonneg _
     have hzz := HS2.out.lt
     have xa := (NA1.out.keep HK2.out (by omega)).cell hlt
     have hw1 : IntKind.i64.wrap ((i : Int) + (j : Int)) = (i : Int) + (j : Int) := IntWalk.i64_in _ (by omega)
     by_cases hij : i + j < 100
     · have hij1 : (i : Int) + (j : Int) ≤ 99 := by omega
       cases hai : a i with
       | true =>
        rw [hai] at xa
        have xb := (NB1.out.keep HK2.out (by omega)).cell (j := j) (by omega)
        have xs := HS2.out.cell hij
        have xf := HS2.out.open_ (i + j)
        have hjn : (j : Int) < 100 := by omega
        have hsn : (i : Int) + (j : Int) < 100 := by omega
        have hs0 : (0 : Int) ≤ (i : Int) + (j : Int) := by omega
        have hsn2 : ((i : Int) + (j : Int)).toNat = i + j := by omega
        cases hbj : b j with
        | true =>
         rw [hbj] at xb
         have e1 := hide (sumTo_hit hai hbj)
         have HAI := hide hai
         clear hai hbj
         go_wp2_with fail
         go_roundw
         case rel => exact ⟨j + 1, by omega, by go_num, hide (by rw [← e1.out]; exact HS2.out.store _ true), hide (HK2.out.trans (Keep.setCell _ _ _ _ rfl))⟩
         case measure => simp [intOf]; omega
        | false =>
         rw [hbj] at xb
         have e1 := hide (sumTo_miss (a := a) (i := i) hbj)
         have HAI := hide hai
         clear hai hbj
         go_wp2_with fail
         go_roundw
         case rel => exact ⟨j + 1, by omega, by go_num, hide (by rw [e1.out]; exact HS2.out), HK2⟩
         case measure => simp [intOf]; omega
       | false =>
        rw [hai] at xa
        have HAI := hide hai
        clear hai
        go_wp2_with fail
        go_roundw
        case rel => exact ⟨i + 1, by omega, by go_num, hide (HS2.out.ext (sumTo_next (.inl HAI.out))), hide (HK.out.trans HK2.out)⟩
        case measure => simp [intOf]; omega
     · have hij1 : ¬ (i : Int) + (j : Int) ≤ 99 := by omega
       go_wp2_with fail
       go_roundw
       case rel => exact ⟨i + 1, by omega, by go_num, hide (HS2.out.ext (sumTo_next (.inr (by omega)))), hide (HK.out.trans HK2.out)⟩
       case measure => simp [intOf]; omega
  · obtain rfl : i = 100 := by omega
    have m1 := HS.out.ext (sumTo_all a b)
    have m0 := N0.out.keep HK.out (by omega)
    have hz1 := m1.lt
    go_wp2_with (first | refine wpList_load_mid rfl 95 (.tmp 5) rfl (w.heap.size + 1 + 1 + 1) 0 rfl (setL (sumS a b)) _ (SetB.range m1) Tryz.underlying95 rfl (size95 _) ?_ | refine wpList_store_mid rfl 95 (.tmp 4) (.tmp 33) rfl (w.heap.size + 1 + 1) 0 (setL (sumS a b)).toArray rfl rfl (SetB.there m0 _) (size95' _) (setL_all _) ?_)
    refine bodyPost_ret (v := setV (sumS a b)) (results_cell_row rfl _ _ (w.heap.size + 1 + 1) 95 (setL (sumS a b)).toArray (0, 0) _ rfl (m0.whole (sumS a b)) Tryz.underlying95 rfl (size95' _)) rfl ⟨rfl, set_below (HB.out.trans (HK.out.below (fun k hk => by omega) (by have := HB.out.size; omega))) (by omega) (by omega)⟩
end Go.Proofs.YtocdmkilnbpkdaaGreatDoor
