/- Sets of numbers of hands. -/
import Derived.Test.YtocdmkilnbpkdaaGreatDoorZD
import Derived.Test.YtocdmkilnbpkdaaGreatDoorYE
import Derived.OwnWalkIn
import Derived.Deep.MidRow
import Derived.Deep.WholeRow
import Derived.TacticsInMore
import Derived.Deep.DeepCutAuto
import Derived.Test.YtocdmkilnbpkdaaGreatDoorZF
import Derived.OwnWalk
import Derived.Laws.AppendOwn
import Derived.Laws.ResultCell
import Derived.Test.YtocdmkilnbpkdaaGreatDoorZV
import Derived.Laws.MakeOwn
set_option linter.unusedVariables false
set_option linter.unusedSimpArgs false
namespace Go.Proofs.YtocdmkilnbpkdaaGreatDoor
open Go.RowKit
attribute [local go_sem] Oper.semAt_some

theorem blkS_set {g : Nat} {T : TypeId} : ∀ (cs : List Value) (o : Nat) (w : World) (vs : Array Value), Blk w g T vs → o + cs.length ≤ vs.size → ∃ vs', Blk (w.setCells g o cs) g T vs' ∧ vs'.size = vs.size ∧ (∀ j, (j < o ∨ o + cs.length ≤ j) → vs'[j]? = vs[j]?) ∧ (∀ j, j < cs.length → vs'[o + j]? = cs[j]?)
 | [], o, w, vs, h, _ => ⟨vs, h, rfl, fun _ _ => rfl, fun j hj => by simp at hj⟩
 | v :: r, o, w, vs, h, hl => by
  have hl' : o + (r.length + 1) ≤ vs.size := by simpa using hl
  obtain ⟨vs', h1, h2, h3, h4⟩ := blkS_set r (o + 1) (w.setCell ⟨g, o, none⟩ v) (vs.setIfInBounds o v) (h.store o v) (by simp; omega)
  refine ⟨vs', h1, by rw [h2]; simp, fun j hj => by rw [List.length_cons] at hj; rw [h3 j (by omega), Array.getElem?_setIfInBounds_ne (by omega)], fun j hj => ?_⟩
  match j, hj with
  | 0, _ => rw [Nat.add_zero, h3 o (by omega), Array.getElem?_setIfInBounds_self_of_lt (by omega)]; rfl
  | j + 1, hj => rw [show o + (j + 1) = o + 1 + j by omega, h4 j (by simpa using hj)]; rfl
theorem keepS_set (g : Nat) : ∀ (cs : List Value) (o : Nat) (w : World), Keep (fun k => k = g) w (w.setCells g o cs)
 | [], _, _ => Keep.refl _ _
 | v :: r, o, w => (Keep.setCell w ⟨g, o, none⟩ v (fun k => k = g) rfl).trans (keepS_set g r (o + 1) _)
def setL (s : Nat → Bool) : List Value := (List.range 100).map fun k => .bool (s k)
/-- A set by value. -/
abbrev setV (s : Nat → Bool) : Value := .agg (setL s).toArray
def SetB (W : World) (g : Nat) (s : Nat → Bool) : Prop := Blk W g 95 (setL s).toArray
def upS (s : Nat → Bool) (n : Nat) (b : Bool) : Nat → Bool := fun k => if k = n then b else s k
theorem setL_len (s : Nat → Bool) : (setL s).length = 100 := by simp [setL]
theorem setL_at (s : Nat → Bool) {j : Nat} (h : j < 100) : (setL s)[j]? = some (.bool (s j)) := by simp [setL, List.getElem?_map, List.getElem?_range h]
theorem setL_ext {s t : Nat → Bool} (h : ∀ k, k < 100 → s k = t k) : setL s = setL t := List.map_congr_left fun k hk => by rw [h k (List.mem_range.1 hk)]
theorem setL_one (s : Nat → Bool) : ∀ v ∈ setL s, v.oneCell' = true := fun v hv => by
 obtain ⟨j, _, rfl⟩ := List.mem_map.1 hv
 rfl
theorem setL_all (s : Nat → Bool) : (setL s).toArray.all (·.oneCell') = true := all_oneCell_toArray (setL_one s)
theorem setL_set (s : Nat → Bool) (n : Nat) (b : Bool) : (setL s).toArray.setIfInBounds n (.bool b) = (setL (upS s n b)).toArray := by
 apply Array.ext_getElem?
 intro i
 by_cases hi : i < 100
 · by_cases e : i = n
   · subst e
     rw [Array.getElem?_setIfInBounds_self_of_lt (by simpa [setL_len] using hi), List.getElem?_toArray, setL_at _ hi, upS, if_pos rfl]
   · rw [Array.getElem?_setIfInBounds_ne (fun h => e h.symm), List.getElem?_toArray, List.getElem?_toArray, setL_at _ hi, setL_at _ hi, upS, if_neg e]
 · rw [Array.getElem?_eq_none (by simp [setL_len]; omega), Array.getElem?_eq_none (by simp [setL_len]; omega)]
theorem info95 : (Tryz.prog.info? 95).map (fun i => (i.zero, i.size)) = some (some (setV fun _ => false), 100) := by kernel_rfl
theorem zero95 : ∀ w, (zeroValue 95).run Tryz.prog w = .ok (setV fun _ => false) w := (zero_of_info info95).1
theorem size95 (s : Nat → Bool) : (Tryz.prog.info? 95).map (·.size) = some (setL s).length := by rw [setL_len]; exact (zero_of_info info95).2
theorem size95' (s : Nat → Bool) : (Tryz.prog.info? 95).map (·.size) = some (setL s).toArray.size := by rw [List.size_toArray]; exact size95 s
section
variable {W W' : World} {g : Nat} {s : Nat → Bool}
theorem SetB.cell (h : SetB W g s) {j : Nat} (hj : j < 100) : W.cell? ⟨g, j, none⟩ = some (.bool (s j)) := (h.at_ j).trans (by rw [List.getElem?_toArray]; exact setL_at s hj)
theorem SetB.lt (h : SetB W g s) : g < W.heap.size := Blk.lt h
theorem SetB.range (h : SetB W g s) : W.rangeAt g 0 (setL s) := fun j v hv => by rw [Nat.zero_add]; exact (h.at_ j).trans (by rw [List.getElem?_toArray]; exact hv)
theorem SetB.there (h : SetB W g s) (t : Nat → Bool) : W.there g 0 (setL t).toArray.size := fun j hj => by
 rw [List.size_toArray, setL_len] at hj
 rw [Nat.zero_add]
 exact ⟨by rw [h.cell hj]; rfl, Blk.free h j⟩
theorem SetB.store (h : SetB W g s) (n : Nat) (b : Bool) : SetB (W.setCell ⟨g, n, none⟩ (.bool b)) g (upS s n b) := by
 have := Blk.store h n (.bool b)
 rwa [setL_set] at this
theorem SetB.open_ (h : SetB W g s) (j : Nat) : W.frozen? ⟨g, j, none⟩ = false := Blk.free h j
theorem SetB.whole (h : SetB W g s) (t : Nat → Bool) : SetB (W.setCells g 0 (setL t)) g t := by
 obtain ⟨vs', h1, h2, _, h4⟩ := blkS_set (g := g) (T := 95) (setL t) 0 W (setL s).toArray h (by rw [setL_len, List.size_toArray, setL_len]; exact Nat.le_refl _)
 have : vs' = (setL t).toArray := by
  apply Array.ext_getElem?
  intro i
  by_cases hi : i < 100
  · have := h4 i (by rw [setL_len]; exact hi)
    rw [Nat.zero_add] at this
    rw [this, List.getElem?_toArray]
  · rw [Array.getElem?_eq_none (by rw [h2]; simp [setL_len]; omega), Array.getElem?_eq_none (by simp [setL_len]; omega)]
 subst this
 exact h1
theorem SetB.made : SetB (W.alloc (.cells (setL s).toArray 95)) W.heap.size s := Blk.made
theorem SetB.next (h : SetB W g s) (hb : Below W.heap.size W W') : SetB W' g s := Blk.next h hb
theorem SetB.alloc (h : SetB W g s) (o : Obj) : SetB (W.alloc o) g s := Blk.alloc h o
theorem SetB.keep {S : Nat → Prop} (h : SetB W g s) (hk : Keep S W W') (hS : ¬ S g) : SetB W' g s := Blk.keep h hk hS
theorem SetB.ext {t : Nat → Bool} (h : SetB W g s) (e : ∀ k, k < 100 → s k = t k) : SetB W g t := by rw [SetB, ← setL_ext e]; exact h
theorem SetB.load (h : SetB W g s) : (loadVar 95 ⟨g, 0, none⟩).run Tryz.prog W = .ok (setV s) W := run_loadVar_mid W g 0 _ (setL s) _ h.range Tryz.underlying95 rfl (size95 _)
end
theorem set_below {W W' : World} {B g : Nat} {cs : List Value} {o : Nat} (hb : Below B W W') (hg : B ≤ g) (hz : B ≤ W'.heap.size) : Below B W (W'.setCells g o cs) :=
 hb.trans ((keepS_set g cs o W').below (B := B) (fun k h => by have : k = g := h; omega) hz)

set_option maxRecDepth 100000 in
theorem zero12_any (w : World) : Calls Tryz.prog 104 #[] w fun e w' => e = .returned (setV (setOf ⟨0, 0⟩)) ∧ Below w.heap.size w w' := by
 have hz := zero95
 go_enter Tryz.func104, Tryz.ntmps104
 go_upto_region 2 with (fail)
 have hb : Below w.heap.size w ((w.alloc (.cells (setL fun _ => false).toArray 95)).alloc (.cells (setL fun _ => false).toArray 95)) := ((Below.refl _ _).alloc (Nat.le_refl _) _).alloc (by simp) _
 have n0 : SetB ((w.alloc (.cells (setL fun _ => false).toArray 95)).alloc (.cells (setL fun _ => false).toArray 95)) w.heap.size (fun _ => false) := SetB.made.alloc _
 have n1 : SetB ((w.alloc (.cells (setL fun _ => false).toArray 95)).alloc (.cells (setL fun _ => false).toArray 95)) (w.heap.size + 1) (fun _ => false) := Blk.made' (by simp)
 generalize ((w.alloc (.cells (setL fun _ => false).toArray 95)).alloc (.cells (setL fun _ => false).toArray 95)) = v at *
 have hz0 := n1.lt
 have m1 := n1.store 0 true
 have m0 : SetB (v.setCell ⟨w.heap.size + 1, 0, none⟩ (.bool true)) w.heap.size (fun _ => false) := Blk.else_ n0 (by simp) _
 have hb1 : Below w.heap.size w (v.setCell ⟨w.heap.size + 1, 0, none⟩ (.bool true)) := hb.setCell (by simp) _
 have x1 := n1.cell (j := 0) (by omega)
 have xf := n1.open_ 0
 go_upto_region 3 with (fail)
 generalize v.setCell ⟨w.heap.size + 1, 0, none⟩ (.bool true) = v2 at *
 have hz1 := m1.lt
 clear hb n0 n1 x1 xf hz
 have hs : setL (upS (fun _ => false) 0 true) = setL (setOf ⟨0, 0⟩) := setL_ext fun k _ => by
  rw [Bool.eq_iff_iff, setOf_iff]; simp only [upS]; split <;> simp <;> omega
 rw [SetB, hs] at m1
 go_wp2_with (first | refine wpList_load_mid rfl 95 (.tmp 1) rfl (w.heap.size + 1) 0 rfl (setL (setOf ⟨0, 0⟩)) _ (SetB.range m1) Tryz.underlying95 rfl (size95 _) ?_ | refine wpList_store_mid rfl 95 (.tmp 0) (.tmp 4) rfl w.heap.size 0 (setL (setOf ⟨0, 0⟩)).toArray rfl rfl (SetB.there m0 _) (size95' _) (setL_all _) ?_)
 refine bodyPost_ret (v := setV (setOf ⟨0, 0⟩)) (results_cell_row rfl _ _ w.heap.size 95 (setL (setOf ⟨0, 0⟩)).toArray (0, 0) _ rfl (m0.whole (setOf ⟨0, 0⟩)) Tryz.underlying95 rfl (size95' _)) rfl ⟨rfl, set_below hb1 (Nat.le_refl _) (by omega)⟩
set_option maxRecDepth 100000 in
theorem upTo12_any {m : Int} (h0 : 0 ≤ m) (hm : m ≤ 99) (w : World) : Calls Tryz.prog 98 #[.int .i64 m] w fun e w' => e = .returned (setV (setOf ⟨0, m⟩)) ∧ Below w.heap.size w w' := by
 have hz := zero95
 go_enter Tryz.func98, Tryz.ntmps98
 go_upto_region 2 with (fail)
 have hb : Below w.heap.size w ((w.alloc (.cells (setL fun _ => false).toArray 95)).alloc (.cells (setL fun _ => false).toArray 95)) := ((Below.refl _ _).alloc (Nat.le_refl _) _).alloc (by simp) _
 have n0 : SetB ((w.alloc (.cells (setL fun _ => false).toArray 95)).alloc (.cells (setL fun _ => false).toArray 95)) w.heap.size (fun _ => false) := SetB.made.alloc _
 have n1 : SetB ((w.alloc (.cells (setL fun _ => false).toArray 95)).alloc (.cells (setL fun _ => false).toArray 95)) (w.heap.size + 1) (fun _ => false) := Blk.made' (by simp)
 generalize ((w.alloc (.cells (setL fun _ => false).toArray 95)).alloc (.cells (setL fun _ => false).toArray 95)) = v at *
 have hz0 := n1.lt
 clear hz
 have N1 := hide n1
 clear n1
 go_wp2_with fail
 go_loopw [4, 5, 6, 7, 8, 9, 10, 11, 12] (fun v4 _ _ _ _ _ _ _ _ wr => ∃ j : Nat, (j : Int) ≤ m + 1 ∧ v4 = .int .i64 j ∧ Hid (SetB wr (w.heap.size + 1) fun k => decide (k < j)) ∧ Hid (Keep (fun k => k = w.heap.size + 1) v wr)) (fun v4 _ _ _ _ _ _ _ _ _ => (m + 1 - intOf v4).toNat)
 case atStart => exact ⟨0, by omega, rfl, hide (N1.out.ext (by simp)), hide (Keep.refl _ _)⟩
 case round =>
  obtain ⟨j, hj, rfl, HS, HK⟩ := hrel
  by_cases hlt : (j : Int) ≤ m
  · have x := HS.out.cell (j := j) (by omega)
    have hzz := HS.out.lt
    have xf := HS.out.open_ j
    have hj0 : (0 : Int) ≤ (j : Int) := Int.natCast_nonneg _
    have hj9 : (j : Int) < 100 := by omega
    go_wp2_with fail
    go_roundw
    case rel => exact ⟨j + 1, by omega, by go_num, hide ((HS.out.store j true).ext fun k _ => by simp only [upS]; split <;> simp <;> omega), hide (HK.out.trans (Keep.setCell _ _ _ _ rfl))⟩
    case measure => simp [intOf]; omega
  · have hx := hide (show (j : Int) = m + 1 by omega)
    have m1 : SetB wr (w.heap.size + 1) (setOf ⟨0, m⟩) := HS.out.ext fun k _ => by
     rw [Bool.eq_iff_iff, setOf_iff, decide_eq_true_eq]; have := hx.out; simp only; omega
    have m0 := n0.keep HK.out (by omega)
    have hz1 := m1.lt
    go_wp2_with (first | refine wpList_load_mid rfl 95 (.tmp 3) rfl (w.heap.size + 1) 0 rfl (setL (setOf ⟨0, m⟩)) _ (SetB.range m1) Tryz.underlying95 rfl (size95 _) ?_ | refine wpList_store_mid rfl 95 (.tmp 2) (.tmp 13) rfl w.heap.size 0 (setL (setOf ⟨0, m⟩)).toArray rfl rfl (SetB.there m0 _) (size95' _) (setL_all _) ?_)
    refine bodyPost_ret (v := setV (setOf ⟨0, m⟩)) (results_cell_row rfl _ _ w.heap.size 95 (setL (setOf ⟨0, m⟩)).toArray (0, 0) _ rfl (m0.whole (setOf ⟨0, m⟩)) Tryz.underlying95 rfl (size95' _)) rfl ⟨rfl, set_below (hb.trans (HK.out.below (fun k hk => by omega) (by omega))) (Nat.le_refl _) (by omega)⟩

/-- The sums that are told when the first number is i, and the second one j. -/
def sumTo (a b : Nat → Bool) (i j t : Nat) : Bool := (List.range (t + 1)).any fun n => (decide (n < i) || (decide (n = i) && decide (t - n < j))) && (a n && b (t - n))
theorem sumTo_iff {a b : Nat → Bool} {i j t : Nat} : sumTo a b i j t = true ↔ ∃ n m, n + m = t ∧ (n < i ∨ n = i ∧ m < j) ∧ a n = true ∧ b m = true := by
 rw [sumTo, List.any_eq_true]
 constructor
 · rintro ⟨n, hn, h⟩
   have := List.mem_range.1 hn
   simp only [Bool.and_eq_true, Bool.or_eq_true, decide_eq_true_eq] at h
   exact ⟨n, t - n, by omega, h.1, h.2⟩
 · rintro ⟨n, m, e, h1, h2⟩
   refine ⟨n, List.mem_range.2 (by omega), ?_⟩
   simp only [Bool.and_eq_true, Bool.or_eq_true, decide_eq_true_eq]
   rw [show t - n = m by omega]
   exact ⟨h1, h2⟩
theorem sumTo_zero (a b : Nat → Bool) : sumTo a b 0 0 = fun _ => false := by
 funext t
 rw [Bool.eq_false_iff]
 intro h
 obtain ⟨n, m, _, h, _⟩ := sumTo_iff.1 h
 omega
theorem sumTo_hit {a b : Nat → Bool} {i j : Nat} (ha : a i = true) (hb : b j = true) : upS (sumTo a b i j) (i + j) true = sumTo a b i (j + 1) := by
 funext t
 unfold upS
 split
 · rename_i e
   exact (sumTo_iff.2 ⟨i, j, e.symm, .inr ⟨rfl, by omega⟩, ha, hb⟩).symm
 · rename_i e
   rw [Bool.eq_iff_iff, sumTo_iff, sumTo_iff]
   constructor
   · rintro ⟨n, m, h, h2, h3⟩; exact ⟨n, m, h, by omega, h3⟩
   · rintro ⟨n, m, h, h2, h3⟩; exact ⟨n, m, h, by omega, h3⟩
theorem sumTo_miss {a b : Nat → Bool} {i j : Nat} (hb : b j = false) : sumTo a b i (j + 1) = sumTo a b i j := by
 funext t
 rw [Bool.eq_iff_iff, sumTo_iff, sumTo_iff]
 constructor
 · rintro ⟨n, m, h, h2, h3, h4⟩
   refine ⟨n, m, h, ?_, h3, h4⟩
   by_cases e : m = j
   · rw [e, hb] at h4; cases h4
   · omega
 · rintro ⟨n, m, h, h2, h3⟩; exact ⟨n, m, h, by omega, h3⟩
theorem sumTo_next {a b : Nat → Bool} {i j : Nat} (h : a i = false ∨ 100 ≤ i + j) : ∀ t, t < 100 → sumTo a b i j t = sumTo a b (i + 1) 0 t := by
 intro t ht
 rw [Bool.eq_iff_iff, sumTo_iff, sumTo_iff]
 constructor
 · rintro ⟨n, m, h, h2, h3⟩; exact ⟨n, m, h, by omega, h3⟩
 · rintro ⟨n, m, h1, h2, h3, h4⟩
   refine ⟨n, m, h1, ?_, h3, h4⟩
   by_cases e : n = i
   · rcases h with h | h
     · rw [e, h] at h3; cases h3
     · omega
   · omega
theorem sumTo_all (a b : Nat → Bool) : ∀ t, t < 100 → sumTo a b 100 0 t = sumS a b t := by
 intro t ht
 rw [Bool.eq_iff_iff, sumTo_iff, sumS_iff]
 constructor
 · rintro ⟨n, m, h, _, h3⟩; exact ⟨n, m, h, h3⟩
 · rintro ⟨n, m, h, h3⟩; exact ⟨n, m, h, by omega, h3⟩
set_option maxHeartbeats 2000000 in
set_option maxRecDepth 100000 in
theorem sum12_any (a b : Nat → Bool) (w : World) : Calls Tryz.prog 99 #[setV a, setV b] w fun e w' => e = .returned (setV (sumS a b)) ∧ Below w.heap.size w w' := by
 have hz := zero95
 go_enter Tryz.func99, Tryz.ntmps99
 go_upto_region 2 with (fail)
 have hb : Below w.heap.size w ((((w.alloc (.cells (setL a).toArray 95)).alloc (.cells (setL b).toArray 95)).alloc (.cells (setL fun _ => false).toArray 95)).alloc (.cells (setL fun _ => false).toArray 95)) := ((((Below.refl _ _).alloc (Nat.le_refl _) _).alloc (by simp) _).alloc (by simp; omega) _).alloc (by simp; omega) _
 have na : SetB ((((w.alloc (.cells (setL a).toArray 95)).alloc (.cells (setL b).toArray 95)).alloc (.cells (setL fun _ => false).toArray 95)).alloc (.cells (setL fun _ => false).toArray 95)) w.heap.size a := ((SetB.made.alloc _).alloc _).alloc _
 have nb : SetB ((((w.alloc (.cells (setL a).toArray 95)).alloc (.cells (setL b).toArray 95)).alloc (.cells (setL fun _ => false).toArray 95)).alloc (.cells (setL fun _ => false).toArray 95)) (w.heap.size + 1) b := ((Blk.made' (by simp)).alloc _).alloc _
 have n0 : SetB ((((w.alloc (.cells (setL a).toArray 95)).alloc (.cells (setL b).toArray 95)).alloc (.cells (setL fun _ => false).toArray 95)).alloc (.cells (setL fun _ => false).toArray 95)) (w.heap.size + 1 + 1) (fun _ => false) := (Blk.made' (by simp)).alloc _
 have n1 : SetB ((((w.alloc (.cells (setL a).toArray 95)).alloc (.cells (setL b).toArray 95)).alloc (.cells (setL fun _ => false).toArray 95)).alloc (.cells (setL fun _ => false).toArray 95)) (w.heap.size + 1 + 1 + 1) (fun _ => false) := Blk.made' (by simp)
 generalize ((((w.alloc (.cells (setL a).toArray 95)).alloc (.cells (setL b).toArray 95)).alloc (.cells (setL fun _ => false).toArray 95)).alloc (.cells (setL fun _ => false).toArray 95)) = v at *
 have hz0 := n1.lt
 clear hz
 have NA := hide na
 have NB := hide nb
 have N0 := hide n0
 have N1 := hide n1
 have HB := hide hb
 clear na nb n0 n1 hb
 go_wp2_with fail
 go_loopw [6, 7, 8, 9, 10, 11, 12, 13, 14, 15, 16, 17, 18, 19, 20, 21, 22, 23, 24, 25, 26, 27, 28, 29, 30, 31, 32] (fun v6 _ _ _ _ _ _ _ _ _ _ _ _ _ _ _ _ _ _ _ _ _ _ _ _ _ _ wr => ∃ i : Nat, i ≤ 100 ∧ v6 = .int .i64 i ∧ Hid (SetB wr (w.heap.size + 1 + 1 + 1) (sumTo a b i 0)) ∧ Hid (Keep (fun k => k = w.heap.size + 1 + 1 + 1) v wr)) (fun v6 _ _ _ _ _ _ _ _ _ _ _ _ _ _ _ _ _ _ _ _ _ _ _ _ _ _ _ => 100 - (intOf v6).toNat)
 case atStart => exact ⟨0, by omega, rfl, hide (N1.out.ext fun k _ => (congrFun (sumTo_zero a b) k).symm), hide (Keep.refl _ _)⟩
 case round =>
  obtain ⟨i, hi, rfl, HS, HK⟩ := hrel
  obtain ⟨v1, rfl⟩ : ∃ v1 : World, v1 = wr := ⟨_, rfl⟩
  have hi0 : (0 : Int) ≤ (i : Int) := Int.natCast_nonneg _
  by_cases hlt : i < 100
  · have hi1 : (i : Int) ≤ 99 := by omega
    have NA1 := hide (NA.out.keep HK.out (by omega))
    have NB1 := hide (NB.out.keep HK.out (by omega))
    go_wp2_with fail
    go_loopw [7, 12, 13, 14, 15, 16, 17, 18, 19, 20, 21, 22, 23, 24, 25, 26, 27, 28, 29, 30, 31, 32] (fun v7 _ _ _ _ _ _ _ _ _ _ _ _ _ _ _ _ _ _ _ _ _ wr => ∃ j : Nat, i + j ≤ 100 ∧ v7 = .int .i64 j ∧ Hid (SetB wr (w.heap.size + 1 + 1 + 1) (sumTo a b i j)) ∧ Hid (Keep (fun k => k = w.heap.size + 1 + 1 + 1) v1 wr)) (fun v7 _ _ _ _ _ _ _ _ _ _ _ _ _ _ _ _ _ _ _ _ _ _ => 100 - (intOf v7).toNat)
    case atStart => exact ⟨0, by omega, rfl, HS, hide (Keep.refl _ _)⟩
    case round =>
     obtain ⟨j, hj, rfl, HS2, HK2⟩ := hrel
     have hj0 : (0 : Int) ≤ (j : Int) := Int.natCast_nonneg _
     have hzz := HS2.out.lt
     have xa := (NA1.out.keep HK2.out (by omega)).cell hlt
     have hw1 : IntKind.i64.wrap ((i : Int) + (j : Int)) = (i : Int) + (j : Int) := IntWalk.i64_in _ (by omega)
     by_cases hij : i + j < 100
     · have hij1 : (i : Int) + (j : Int) ≤ 99 := by omega
       cases hai : a i with
       | true =>
        rw [hai] at xa
        have xb := (NB1.out.keep HK2.out (by omega)).cell (j := j) (by omega)
        have xs := HS2.out.cell hij
        have xf := HS2.out.open_ (i + j)
        have hjn : (j : Int) < 100 := by omega
        have hsn : (i : Int) + (j : Int) < 100 := by omega
        have hs0 : (0 : Int) ≤ (i : Int) + (j : Int) := by omega
        have hsn2 : ((i : Int) + (j : Int)).toNat = i + j := by omega
        cases hbj : b j with
        | true =>
         rw [hbj] at xb
         have e1 := hide (sumTo_hit hai hbj)
         have HAI := hide hai
         clear hai hbj
         go_wp2_with fail
         go_roundw
         case rel => exact ⟨j + 1, by omega, by go_num, hide (by rw [← e1.out]; exact HS2.out.store _ true), hide (HK2.out.trans (Keep.setCell _ _ _ _ rfl))⟩
         case measure => simp [intOf]; omega
        | false =>
         rw [hbj] at xb
         have e1 := hide (sumTo_miss (a := a) (i := i) hbj)
         have HAI := hide hai
         clear hai hbj
         go_wp2_with fail
         go_roundw
         case rel => exact ⟨j + 1, by omega, by go_num, hide (by rw [e1.out]; exact HS2.out), HK2⟩
         case measure => simp [intOf]; omega
       | false =>
        rw [hai] at xa
        have HAI := hide hai
        clear hai
        go_wp2_with fail
        go_roundw
        case rel => exact ⟨i + 1, by omega, by go_num, hide (HS2.out.ext (sumTo_next (.inl HAI.out))), hide (HK.out.trans HK2.out)⟩
        case measure => simp [intOf]; omega
     · have hij1 : ¬ (i : Int) + (j : Int) ≤ 99 := by omega
       go_wp2_with fail
       go_roundw
       case rel => exact ⟨i + 1, by omega, by go_num, hide (HS2.out.ext (sumTo_next (.inr (by omega)))), hide (HK.out.trans HK2.out)⟩
       case measure => simp [intOf]; omega
  · obtain rfl : i = 100 := by omega
    have m1 := HS.out.ext (sumTo_all a b)
    have m0 := N0.out.keep HK.out (by omega)
    have hz1 := m1.lt
    go_wp2_with (first | refine wpList_load_mid rfl 95 (.tmp 5) rfl (w.heap.size + 1 + 1 + 1) 0 rfl (setL (sumS a b)) _ (SetB.range m1) Tryz.underlying95 rfl (size95 _) ?_ | refine wpList_store_mid rfl 95 (.tmp 4) (.tmp 33) rfl (w.heap.size + 1 + 1) 0 (setL (sumS a b)).toArray rfl rfl (SetB.there m0 _) (size95' _) (setL_all _) ?_)
    refine bodyPost_ret (v := setV (sumS a b)) (results_cell_row rfl _ _ (w.heap.size + 1 + 1) 95 (setL (sumS a b)).toArray (0, 0) _ rfl (m0.whole (sumS a b)) Tryz.underlying95 rfl (size95' _)) rfl ⟨rfl, set_below (HB.out.trans (HK.out.below (fun k hk => by omega) (by have := HB.out.size; omega))) (by omega) (by omega)⟩
end Go.Proofs.YtocdmkilnbpkdaaGreatDoor
/- Behind, Ends and tallied of the reference. -/
namespace Go.Proofs.YtocdmkilnbpkdaaGreatDoor
open Go.RowKit
attribute [local go_sem] Oper.semAt_some

theorem behTo_le (b : Book) (i j : Nat) : (behTo b i j).length ≤ j := by
 have := List.length_filter_le (fun k => (nth b.steps k).from_ == (i : Int)) (List.range j)
 simpa [behTo] using this
set_option maxHeartbeats 2000000 in
set_option maxRecDepth 100000 in
theorem behind12_any {b : Book} {a : BA} {w : World} (h : BookV w w.heap.size b a) (h6 : b.steps.length ≤ 6) (i : Nat) :
 Calls Tryz.prog 44 #[bookVal b a, .int .i64 (i : Int)] w fun e w' => ∃ A c, e = .returned (.slice A (behindB b i).length c) ∧ IntsS w' w'.heap.size A (behindB b i).length c (natInts (behindB b i)) ∧ (∀ ad, A = some ad → w.heap.size ≤ ad.block) ∧ Below w.heap.size w w' := by
 have HX := hide (BoxB.made h)
 have HB := hide (show Below w.heap.size w (w.alloc (.cells (bookCells b a) 25)) from (Below.refl _ _).alloc (Nat.le_refl _) _)
 have hm1 := h.m1
 unfold maxLen at hm1
 clear h
 obtain ⟨i0, hinf, hz0, hz1, hz2⟩ := info_parts Tryz.infoInt
 go_enter Tryz.func44, Tryz.ntmps44
 go_upto_region 1 with (fail)
 generalize w.alloc (.cells (bookCells b a) 25) = v at *
 obtain ⟨gz, x0, x1⟩ := HX.out.cells
 have hzv := HB.out.size
 go_wp2_with fail
 clear x0 x1 gz
 go_loopw [5, 6, 7, 8, 9, 10, 11, 12, 13, 14, 15, 16, 17, 18, 19, 20, 21, 22, 23, 24, 25] (fun v5 v6 _ _ _ _ _ _ _ _ _ _ _ _ _ _ _ _ _ _ _ wr => ∃ j : Nat, j ≤ b.steps.length ∧ v6 = .int .i64 j ∧ Hid (wr.ownsRow v.heap.size 3 1 v5 (behTo b i j).length ((behTo b i j).map fun n : Nat => .int .i64 n)) ∧ Hid (Below v.heap.size v wr)) (fun v5 v6 _ _ _ _ _ _ _ _ _ _ _ _ _ _ _ _ _ _ _ _ => b.steps.length - (intOf v6).toNat)
 case atStart => exact ⟨0, Nat.zero_le _, rfl, hide (World.ownsRow_nil _ _ _ _), hide (Below.refl _ _)⟩
 case round =>
  obtain ⟨j, hj, rfl, HO, HBW⟩ := hrel
  have hj0 : (0 : Int) ≤ (j : Int) := Int.natCast_nonneg _
  have HX2 := hide (HX.out.next HBW.out)
  obtain ⟨gz, x0, x1⟩ := HX2.out.cells
  have hsz : v.heap.size ≤ wr.heap.size := HBW.out.size
  by_cases hlt : j < b.steps.length
  · have hjl : (j : Int) < (b.steps.length : Int) := by omega
    obtain ⟨g1, o1, hA1, hg1, s0, s1, s2⟩ := HX2.out.v.steps.steps hlt
    rw [hA1] at x0
    clear hA1 s0 s2
    have hle := behTo_le b i j
    have HS := hide (behTo_succ b i j)
    generalize (nth b.steps j).from_ = fr at *
    cases hq : (fr == (i : Int)) with
    | true =>
     rw [hq, if_pos rfl] at HS
     go_wp2_with (first
      | (at_builtin
         refine wpList_append_own _ rfl _ _ 35 rfl v.heap.size 3 i0 (.int .i64 0) 1 8 Tryz.underlying35 hinf hz0 hz1 hz2 rfl (by decide) _ _ _ rfl (HO.out.alloc _) ⟨wr.heap.size, 0, none⟩ 1 1 [.int .i64 j] rfl rfl ?c1 ?c2 ?c3 ?c4 ?c5 ?_
         case c1 => exact cell_one_new _ _ _
         case c2 => simp [Value.oneCell']
         case c3 => simp [maxLen]; omega
         case c4 => omega
         case c5 => simp; omega
         intro v' w1 hown' hg _
         have hb1 := app_below hsz HO.out hg
         clear hg))
     have hb2 : Below v.heap.size v w1 := HBW.out.trans hb1
     go_roundw
     case rel => exact ⟨j + 1, by omega, by go_num, hide (by rw [HS.out]; simpa using hown'), hide hb2⟩
     case measure => simp [intOf]; omega
    | false =>
     rw [hq, if_neg (by simp), List.append_nil] at HS
     go_wp2_with fail
     go_roundw
     case rel => exact ⟨j + 1, by omega, by go_num, hide (by rw [HS.out]; exact HO.out), HBW⟩
     case measure => simp [intOf]; omega
  · obtain rfl : j = b.steps.length := by omega
    go_wp2_with fail
    go_ret
    obtain ⟨A', c', rfl, hs'⟩ := IntsS.of_own (xs := natInts (behTo b i b.steps.length)) (by rw [natInts_vals]; exact HO.out)
    exact ⟨A', c', rfl, hs', (fun ad e => by have := (World.ownsRow.lt HO.out ad.block (by rw [e]; rfl)).1; omega), HB.out.trans (HBW.out.mono HB.out.size)⟩
/-- The ends of what a set has below n. -/
def endsTo (s : Nat → Bool) : Nat → Span
 | 0 => ⟨100, -1⟩
 | n + 1 => if s n then ⟨min (endsTo s n).lo n, max (endsTo s n).hi n⟩ else endsTo s n
theorem endsTo_ext {s t : Nat → Bool} : ∀ n, (∀ k, k < n → s k = t k) → endsTo s n = endsTo t n
 | 0, _ => rfl
 | n + 1, h => by rw [endsTo, endsTo, h n (by omega), endsTo_ext n fun k hk => h k (by omega)]
theorem endsTo_set {p : Span} (h : 0 ≤ p.lo) : ∀ n : Nat, endsTo (setOf p) n = if p.lo ≤ min p.hi ((n : Int) - 1) ∧ p.lo ≤ 99 then ⟨min 100 p.lo, min p.hi ((n : Int) - 1)⟩ else endsTo (setOf p) n := by
 intro n
 split
 · rename_i hc
   induction n with
   | zero => omega
   | succ n ih =>
    rw [endsTo]
    by_cases hm : setOf p n = true
    · rw [if_pos hm]
      rw [setOf_iff] at hm
      by_cases hn : p.lo ≤ min p.hi ((n : Int) - 1) ∧ p.lo ≤ 99
      · rw [ih hn]; simp only [Span.mk.injEq]; omega
      · have : endsTo (setOf p) n = ⟨100, -1⟩ := by
         have key : ∀ m, m ≤ n → endsTo (setOf p) m = ⟨100, -1⟩ := fun m => by
          induction m with
          | zero => intro _; rfl
          | succ m ih2 =>
           intro h2
           rw [endsTo, if_neg (by rw [setOf_iff]; omega), ih2 (by omega)]
         exact key n (Nat.le_refl _)
        rw [this]; simp only [Span.mk.injEq]; omega
    · rw [if_neg hm]
      rw [setOf_iff] at hm
      have hq : min p.hi ((n : Int) - 1) = min p.hi (((n + 1 : Nat) : Int) - 1) := by omega
      rw [ih (by omega), hq]
 · rfl
theorem ends_set {p : Span} (h : 0 ≤ p.lo ∧ p.lo ≤ p.hi ∧ p.hi ≤ 99) : endsTo (setOf p) 100 = p := by
 rw [endsTo_set h.1, if_pos (by omega)]
 cases p; simp only at h ⊢; simp only [Span.mk.injEq]; omega
theorem ends_none {p : Span} (h : ¬ p.lo ≤ p.hi) : ∀ n, endsTo (setOf p) n = ⟨100, -1⟩
 | 0 => rfl
 | n + 1 => by rw [endsTo, if_neg (by rw [setOf_iff]; omega), ends_none h n]
def endsV (s : Nat → Bool) : Value := .tuple #[spanVal (endsTo s 100), .bool (decide (0 ≤ (endsTo s 100).hi))]
set_option maxHeartbeats 2000000 in
set_option maxRecDepth 100000 in
theorem ends12_any (s : Nat → Bool) (w : World) : Calls Tryz.prog 69 #[setV s] w fun e w' => e = .returned (endsV s) ∧ Below w.heap.size w w' := by
 go_enter Tryz.func69, Tryz.ntmps69
 go_upto_region 2 with (fail)
 have hb : Below w.heap.size w (((w.alloc (.cells (setL s).toArray 95)).alloc (.cells #[.int .i64 0, .int .i64 0] 30)).alloc (.cells #[.int .i64 100, .int .i64 (-1)] 30)) := (((Below.refl _ _).alloc (Nat.le_refl _) _).alloc (by simp) _).alloc (by simp; omega) _
 have n0 : SetB (((w.alloc (.cells (setL s).toArray 95)).alloc (.cells #[.int .i64 0, .int .i64 0] 30)).alloc (.cells #[.int .i64 100, .int .i64 (-1)] 30)) w.heap.size s := (SetB.made.alloc _).alloc _
 have n1 : Blk (((w.alloc (.cells (setL s).toArray 95)).alloc (.cells #[.int .i64 0, .int .i64 0] 30)).alloc (.cells #[.int .i64 100, .int .i64 (-1)] 30)) (w.heap.size + 1) 30 #[.int .i64 0, .int .i64 0] := (Blk.made' (by simp)).alloc _
 have n2 : Blk (((w.alloc (.cells (setL s).toArray 95)).alloc (.cells #[.int .i64 0, .int .i64 0] 30)).alloc (.cells #[.int .i64 100, .int .i64 (-1)] 30)) (w.heap.size + 1 + 1) 30 #[.int .i64 100, .int .i64 (-1)] := Blk.made' (by simp)
 generalize (((w.alloc (.cells (setL s).toArray 95)).alloc (.cells #[.int .i64 0, .int .i64 0] 30)).alloc (.cells #[.int .i64 100, .int .i64 (-1)] 30)) = v at *
 have hz0 := n2.lt
 have N0 := hide n0
 have N1 := hide n1
 have N2 := hide n2
 have HB := hide hb
 clear n0 n1 n2 hb
 go_wp2_with fail
 go_loopw [5, 7, 8, 9, 10, 11, 12, 13, 14, 15, 16, 17] (fun v5 _ _ _ _ _ _ _ _ _ _ _ wr => ∃ j : Nat, j ≤ 100 ∧ v5 = .int .i64 j ∧ Hid (Blk wr (w.heap.size + 1 + 1) 30 #[.int .i64 (endsTo s j).lo, .int .i64 (endsTo s j).hi]) ∧ Hid (Keep (fun k => k = w.heap.size + 1 + 1) v wr)) (fun v5 _ _ _ _ _ _ _ _ _ _ _ _ => 100 - (intOf v5).toNat)
 case atStart => exact ⟨0, by omega, rfl, N2, hide (Keep.refl _ _)⟩
 case round =>
  obtain ⟨j, hj, rfl, HS, HK⟩ := hrel
  have hj0 : (0 : Int) ≤ (j : Int) := Int.natCast_nonneg _
  have r0 := HS.out.at_ 0
  have r1 := HS.out.at_ 1
  have f0 := HS.out.free 0
  have f1 := HS.out.free 1
  simp only [List.getElem?_toArray, List.getElem?_cons_zero, List.getElem?_cons_succ] at r0 r1
  have hzz := HS.out.lt
  by_cases hlt : j < 100
  · have hj9 : (j : Int) < 100 := by omega
    have x := (N0.out.keep HK.out (by omega)).cell hlt
    have HE := hide (show endsTo s (j + 1) = if s j then ⟨min (endsTo s j).lo j, max (endsTo s j).hi j⟩ else endsTo s j from rfl)
    generalize endsTo s j = p at *
    obtain ⟨p1, p2⟩ := p
    cases hsj : s j with
    | true =>
     rw [hsj] at x
     rw [hsj, if_pos rfl] at HE
     clear hsj
     go_wp2_with (go_at_call 97; refine (join_any ⟨p1, p2⟩ j wr).mono ?_; rintro e w1 ⟨rfl, hb1⟩; have r0 := (hb1.cell (p := ⟨w.heap.size + 1 + 1, 0, none⟩) hzz).trans r0; have r1 := (hb1.cell (p := ⟨w.heap.size + 1 + 1, 1, none⟩) hzz).trans r1; have HS1 := hide (HS.out.next hb1); have f0 := HS1.out.free 0; have f1 := HS1.out.free 1; have hzz := HS1.out.lt; have HK1 := hide (HK.out.trans (Keep.of_below' hb1 (fun k => k = w.heap.size + 1 + 1))); clear hb1; dsimp only)
     go_roundw
     case rel => exact ⟨j + 1, by omega, by go_num, hide (by rw [HE.out]; exact (HS1.out.store 0 _).store 1 _), hide ((HK1.out.trans (Keep.setCell _ _ _ _ rfl)).trans (Keep.setCell _ _ _ _ rfl))⟩
     case measure => simp [intOf]; omega
    | false =>
     rw [hsj] at x
     rw [hsj, if_neg (by simp)] at HE
     clear hsj
     go_wp2_with fail
     go_roundw
     case rel => exact ⟨j + 1, by omega, by go_num, hide (by rw [HE.out]; exact HS.out), HK⟩
     case measure => simp [intOf]; omega
  · obtain rfl : j = 100 := by omega
    have m1 := (N1.out.keep HK.out (by omega))
    have HM1 := hide m1
    have q0 := m1.free 0
    have q1 := m1.free 1
    have hz1 := m1.lt
    clear m1
    have HEV := hide (show endsV s = .tuple #[spanVal (endsTo s 100), .bool (decide (0 ≤ (endsTo s 100).hi))] from rfl)
    generalize endsTo s 100 = p at *
    obtain ⟨p1, p2⟩ := p
    have m2 := HM1.out.at_ 0
    have m3 := HM1.out.at_ 1
    simp only [List.getElem?_toArray, List.getElem?_cons_zero, List.getElem?_cons_succ] at m2 m3
    go_upto_region 7 with (fail)
    apply wp_one
    case h =>
     go_region
     all_goals exact ⟨rfl, rfl, rfl⟩
    case hq =>
    go_wp2_with fail
    have b1 : Blk (((wr.setCell ⟨w.heap.size + 1, 0, none⟩ (.int .i64 p1)).setCell ⟨w.heap.size + 1, 1, none⟩ (.int .i64 p2)).drew) (w.heap.size + 1) 30 #[.int .i64 p1, .int .i64 p2] := ((HM1.out.store 0 (.int .i64 p1)).store 1 (.int .i64 p2))
    have hks : Keep (fun k => k = w.heap.size + 1) wr (((wr.setCell ⟨w.heap.size + 1, 0, none⟩ (.int .i64 p1)).setCell ⟨w.heap.size + 1, 1, none⟩ (.int .i64 p2)).drew) := ((Keep.setCell _ _ _ (fun k => k = w.heap.size + 1) rfl).trans (Keep.setCell _ _ _ (fun k => k = w.heap.size + 1) rfl)).trans (Keep.of_below' ((Below.refl _ _).drew) _)
    have c0 := b1.at_ 0
    have c1 := b1.at_ 1
    simp only [List.getElem?_toArray, List.getElem?_cons_zero, List.getElem?_cons_succ] at c0 c1
    have hBB := (HB.out.trans (HK.out.below (fun k hk => by omega) (by have := HB.out.size; omega))).trans (hks.below (fun k hk => by omega) (by omega))
    generalize ((wr.setCell ⟨w.heap.size + 1, 0, none⟩ (.int .i64 p1)).setCell ⟨w.heap.size + 1, 1, none⟩ (.int .i64 p2)).drew = wz at *
    refine bodyPost_ret (v := .tuple #[spanVal ⟨p1, p2⟩, .bool (decide (0 ≤ p2))]) (by simp [results, Tryz.results69, go_sem, c0, c1]) rfl ⟨by rw [HEV.out], hBB⟩
end Go.Proofs.YtocdmkilnbpkdaaGreatDoor
/- tallied of the reference. -/
namespace Go.Proofs.YtocdmkilnbpkdaaGreatDoor
open Go.RowKit
attribute [local go_sem] Oper.semAt_some

/-- What the first j tallies leave of a set. -/
def talT (b : Book) (xs : List Int) (i : Nat) (x : Nat → Bool) (j t : Nat) : Bool := x t && (List.range j).all fun q => hasInt xs q || !((nth b.tallies q).step == (i : Int)) || tallyOk (nth b.tallies q) t
theorem talT_zero (b : Book) (xs : List Int) (i : Nat) (x : Nat → Bool) (t : Nat) : talT b xs i x 0 t = x t := by simp [talT]
theorem talT_succ (b : Book) (xs : List Int) (i : Nat) (x : Nat → Bool) (j t : Nat) : talT b xs i x (j + 1) t = (talT b xs i x j t && (hasInt xs j || !((nth b.tallies j).step == (i : Int)) || tallyOk (nth b.tallies j) t)) := by
 simp [talT, List.range_succ, Bool.and_assoc]
/-- A round of a tally, up to k. -/
def talR (s : Nat → Bool) (T : Tally) (k t : Nat) : Bool := s t && (decide (k ≤ t) || tallyOk T t)
theorem talR_zero (s : Nat → Bool) (T : Tally) : talR s T 0 = s := by funext t; simp [talR]
theorem talR_succ (s : Nat → Bool) (T : Tally) (k : Nat) : upS (talR s T k) k (talR s T k k && tallyOk T k) = talR s T (k + 1) := by
 funext t
 unfold upS
 split
 · rename_i e
   subst e
   have h2 : decide (t + 1 ≤ t) = false := by simp
   simp only [talR, h2, Nat.le_refl, decide_true, Bool.true_or, Bool.and_true, Bool.false_or]
 · rename_i e
   unfold talR
   by_cases h : k ≤ t
   · have h2 : k + 1 ≤ t := by omega
     simp [h, h2]
   · have h2 : ¬ k + 1 ≤ t := by omega
     simp [h, h2]
theorem talR_at (s : Nat → Bool) (T : Tally) (k : Nat) : talR s T k k = s k := by simp [talR]
theorem talR_all (s : Nat → Bool) (T : Tally) {t : Nat} (h : t < 100) : talR s T 100 t = (s t && tallyOk T t) := by
 have : ¬ 100 ≤ t := by omega
 simp [talR, this]
theorem tallyOk_in (T : Tally) (n : Int) : tallyOk T n = inB (n - T.hands) (-T.off) T.off := by rw [← Int.zero_sub]; rfl
set_option maxHeartbeats 4000000 in
set_option maxRecDepth 100000 in
theorem tallied12_any {b : Book} {a : BA} {w : World} {A : Option Addr} {n c : Nat} {xs : List Int} (h : BookV w w.heap.size b a) (hg : Good b) (h12 : b.tallies.length ≤ 12) (i : Nat) (x : Nat → Bool) (hx : IntsS w w.heap.size A n c xs) :
 Calls Tryz.prog 125 #[bookVal b a, .int .i64 (i : Int), setV x, .slice A n c] w fun e w' => e = .returned (setV (talT b xs i x b.tallies.length)) ∧ Below w.heap.size w w' := by
 have hz := zero95
 go_enter Tryz.func125, Tryz.ntmps125
 go_upto_region 1 with (fail)
 have hb : Below w.heap.size w (((w.alloc (.cells (bookCells b a) 25)).alloc (.cells (setL x).toArray 95)).alloc (.cells (setL fun _ => false).toArray 95)) := (((Below.refl _ _).alloc (Nat.le_refl _) _).alloc (by simp) _).alloc (by simp; omega) _
 have nb : Blk (((w.alloc (.cells (bookCells b a) 25)).alloc (.cells (setL x).toArray 95)).alloc (.cells (setL fun _ => false).toArray 95)) w.heap.size 25 (bookCells b a) := (Blk.made.alloc _).alloc _
 have n1 : SetB (((w.alloc (.cells (bookCells b a) 25)).alloc (.cells (setL x).toArray 95)).alloc (.cells (setL fun _ => false).toArray 95)) (w.heap.size + 1) x := (Blk.made' (by simp)).alloc _
 have n0 : SetB (((w.alloc (.cells (bookCells b a) 25)).alloc (.cells (setL x).toArray 95)).alloc (.cells (setL fun _ => false).toArray 95)) (w.heap.size + 1 + 1) (fun _ => false) := Blk.made' (by simp)
 have HV := hide (h.below hb)
 have HI := hide (hx.below hb)
 have HG := hide hg.tally
 generalize (((w.alloc (.cells (bookCells b a) 25)).alloc (.cells (setL x).toArray 95)).alloc (.cells (setL fun _ => false).toArray 95)) = v at *
 have hz0 := n0.lt
 have NB := hide nb
 have N0 := hide n0
 have N1 := hide n1
 have HB := hide hb
 clear hz nb n0 n1 hb h hx hg
 go_wp2_with fail
 go_loopw [9, 10, 11, 12, 13, 14, 15, 16, 17, 18, 19, 20, 21, 22, 23, 24, 25, 26, 27, 28, 29, 30, 31, 32, 33, 34, 35, 36, 37, 38, 39, 40, 41, 42, 43, 44, 45, 46, 47, 48, 49, 50, 51, 52, 53, 54, 55, 56, 57, 58] (fun v9 _ _ _ _ _ _ _ _ _ _ _ _ _ _ _ _ _ _ _ _ _ _ _ _ _ _ _ _ _ _ _ _ _ _ _ _ _ _ _ _ _ _ _ _ _ _ _ _ _ wr => ∃ j : Nat, j ≤ b.tallies.length ∧ v9 = .int .i64 j ∧ Hid (SetB wr (w.heap.size + 1) (talT b xs i x j)) ∧ Hid (Keep (fun k => k = w.heap.size + 1) v wr)) (fun v9 _ _ _ _ _ _ _ _ _ _ _ _ _ _ _ _ _ _ _ _ _ _ _ _ _ _ _ _ _ _ _ _ _ _ _ _ _ _ _ _ _ _ _ _ _ _ _ _ _ _ => b.tallies.length - (intOf v9).toNat)
 case atStart => exact ⟨0, by omega, rfl, hide (N1.out.ext fun t _ => (talT_zero b xs i x t).symm), hide (Keep.refl _ _)⟩
 case round =>
  obtain ⟨j, hj, rfl, HS, HK⟩ := hrel
  obtain ⟨v1, rfl⟩ : ∃ v1 : World, v1 = wr := ⟨_, rfl⟩
  have hj0 : (0 : Int) ≤ (j : Int) := Int.natCast_nonneg _
  have hbl : Below w.heap.size v v1 := HK.out.below (fun k hk => by omega) (by omega)
  have HV1 := hide (HV.out.below hbl)
  have HI1 := hide (HI.out.below hbl)
  have NB1 := hide (NB.out.keep HK.out (by omega))
  have x0 := NB1.out.at_ 0
  have x1 := NB1.out.at_ 1
  simp only [List.getElem?_toArray, List.getElem?_cons_zero, List.getElem?_cons_succ] at x0 x1
  have hzb := NB1.out.lt
  have hzz := HS.out.lt
  clear hbl
  by_cases hlt : j < b.tallies.length
  · have hj1 : (j : Int) < (b.tallies.length : Int) := by omega
    obtain ⟨g1, o1, hA1, hg1, y0, y1, y2⟩ := HV1.out.tallies.tallies hlt
    rw [hA1] at x1
    clear hA1 x0
    have HT := hide (HG.out j hlt)
    have HSU := hide (fun t => talT_succ b xs i x j t)
    generalize hT : nth b.tallies j = T at *
    obtain ⟨ts, th, tf⟩ := T
    simp only at y0 y1 y2
    have HTT := hide hT
    clear hT
    have hth := HT.out.2.1
    have htf := HT.out.2.2
    simp only at hth htf
    have hbx : Below v1.heap.size v1 (v1.alloc (.cells #[.int .i64 ts, .int .i64 th, .int .i64 tf] 50)) := (Below.refl _ _).alloc (Nat.le_refl _) _
    have q : Blk (v1.alloc (.cells #[.int .i64 ts, .int .i64 th, .int .i64 tf] 50)) v1.heap.size 50 #[.int .i64 ts, .int .i64 th, .int .i64 tf] := Blk.made
    have HK1 := hide (HK.out.trans (Keep.of_below' hbx (fun k => k = w.heap.size + 1)))
    have HS1 := hide (HS.out.next hbx)
    have HI2 := hide ((HI1.out.below (hbx.mono (by omega))))
    go_upto_region 5 with (fail)
    generalize hwx : v1.alloc (.cells #[.int .i64 ts, .int .i64 th, .int .i64 tf] 50) = v2 at *
    have hzx : v2.heap.size = v1.heap.size + 1 := by rw [← hwx]; simp
    have HQ := hide q
    clear hwx q hbx y0 y1 y2 x1 HS
    generalize hgx : v1.heap.size = gx at *
    clear hgx
    go_wp2_with fail
    obtain ⟨hb9, hhb⟩ : ∃ hb9 : Bool, hasInt xs j = hb9 := ⟨_, rfl⟩
    have HH := hide hhb
    rw [hhb] at HSU
    clear hhb
    go_loopw [11, 24, 25, 26, 27, 28, 29, 30, 31, 32, 33, 34, 35, 36, 37, 38, 39, 40, 41, 42, 43, 44, 45, 46, 47, 48, 49, 50, 51, 52, 53, 54, 55, 56, 57, 58] (fun v11 _ _ _ _ _ _ _ _ _ _ _ _ _ _ _ _ _ _ _ _ _ _ _ _ _ _ _ _ _ _ _ _ _ _ _ wr => ∃ k : Nat, k ≤ 100 ∧ v11 = .int .i64 k ∧ Hid (SetB wr (w.heap.size + 1) (talR (talT b xs i x j) ⟨ts, th, tf⟩ k)) ∧ Hid (Keep (fun k => k = w.heap.size + 1) v2 wr) ∧ Hid (((ts == (i : Int)) && !hb9) = false → k = 0)) (fun v11 _ _ _ _ _ _ _ _ _ _ _ _ _ _ _ _ _ _ _ _ _ _ _ _ _ _ _ _ _ _ _ _ _ _ _ _ => 100 - (intOf v11).toNat)
    case atStart => exact ⟨0, by omega, rfl, hide (by rw [talR_zero]; exact HS1.out), hide (Keep.refl _ _), hide (fun _ => rfl)⟩
    case round =>
     obtain ⟨k, hk, rfl, HS2, HK2, HR⟩ := hrel
     have hk0 : (0 : Int) ≤ (k : Int) := Int.natCast_nonneg _
     have HQ2 := hide (HQ.out.keep HK2.out (by omega))
     have q0 := HQ2.out.at_ 0
     have q1 := HQ2.out.at_ 1
     have q2 := HQ2.out.at_ 2
     simp only [List.getElem?_toArray, List.getElem?_cons_zero, List.getElem?_cons_succ] at q0 q1 q2
     have hzq := HQ2.out.lt
     have hzs := HS2.out.lt
     have HI2 := hide (HI2.out.below (B := w.heap.size) (HK2.out.below (fun k hk => by omega) (by omega)))
     by_cases hk9 : k < 100
     · have hk91 : (k : Int) ≤ 99 := by omega
       have hk92 : (k : Int) < 100 := by omega
       have xf := HS2.out.open_ k
       have xk := HS2.out.cell hk9
       rw [talR_at] at xk
       cases hst : (ts == (i : Int)) with
       | true =>
        cases hb9 with
        | false =>
         have hw1 : IntKind.i64.wrap ((k : Int) - th) = (k : Int) - th := IntWalk.i64_in _ (by omega)
         have hw2 : IntKind.i64.wrap (0 - tf) = 0 - tf := IntWalk.i64_in _ (by omega)
         have HSU2 := hide (talR_succ (talT b xs i x j) ⟨ts, th, tf⟩ k)
         rw [talR_at] at HSU2
         have HOK := hide (tallyOk_in ⟨ts, th, tf⟩ k)
         simp only at HOK
         generalize tallyOk ⟨ts, th, tf⟩ (k : Int) = ok at *
         have HNO := hide (show (true : Bool) = false → k + 1 = 0 from fun h => by cases h)
         cases hsk : talT b xs i x j k with
         | true =>
          rw [hsk] at xk
          rw [hsk] at HSU2
          clear hsk
          go_wp2_with (first | (go_at_call 46; refine (has_any HI2.out (j : Int)).mono ?_; rintro e w9 ⟨rfl, rfl⟩; rw [HH.out]) | (go_at_call 56; refine (in_any _ _ _ _).mono ?_; rintro e w9 ⟨rfl, rfl⟩))
          go_roundw
          case rel => exact ⟨k + 1, by omega, by go_num, hide (by rw [← HSU2.out, HOK.out]; exact HS2.out.store k _), hide (HK2.out.trans (Keep.setCell _ _ _ _ rfl)), HNO⟩
          case measure => simp [intOf]; omega
         | false =>
          rw [hsk] at xk
          rw [hsk] at HSU2
          clear hsk
          go_wp2_with (first | (go_at_call 46; refine (has_any HI2.out (j : Int)).mono ?_; rintro e w9 ⟨rfl, rfl⟩; rw [HH.out]) | (go_at_call 56; refine (in_any _ _ _ _).mono ?_; rintro e w9 ⟨rfl, rfl⟩))
          go_roundw
          case rel => exact ⟨k + 1, by omega, by go_num, hide (by rw [← HSU2.out, Bool.false_and]; exact HS2.out.store k _), hide (HK2.out.trans (Keep.setCell _ _ _ _ rfl)), HNO⟩
          case measure => simp [intOf]; omega
        | true =>
         go_wp2_with (first | (go_at_call 46; refine (has_any HI2.out (j : Int)).mono ?_; rintro e w9 ⟨rfl, rfl⟩; rw [HH.out]))
         have hk00 : k = 0 := HR.out (by simp)
         subst hk00
         go_roundw
         case rel => exact ⟨j + 1, by omega, by go_num, hide (HS2.out.ext fun t _ => by rw [talR_zero, HSU.out]; simp), hide (HK1.out.trans HK2.out)⟩
         case measure => simp [intOf]; omega
       | false =>
        clear HT
        have HST := hide hst
        go_wp2_with (first | (go_at_call 46; refine (has_any HI2.out (j : Int)).mono ?_; rintro e w9 ⟨rfl, rfl⟩; rw [HH.out]))
        have hk00 : k = 0 := HR.out (by rw [HST.out]; rfl)
        clear HR
        subst hk00
        go_roundw
        case rel => exact ⟨j + 1, by omega, by go_num, hide (HS2.out.ext fun t _ => by rw [talR_zero, HSU.out, show ((⟨ts, th, tf⟩ : Tally).step == (i : Int)) = false from HST.out]; simp), hide (HK1.out.trans HK2.out)⟩
        case measure => simp [intOf]; omega
     · obtain rfl : k = 100 := by omega
       have HRR := hide (show ((ts == (i : Int)) && !hb9) = true by
        cases hc : ((ts == (i : Int)) && !hb9) with
        | true => rfl
        | false => have := HR.out hc; omega)
       go_wp2_with fail
       go_roundw
       case rel => exact ⟨j + 1, by omega, by go_num, hide (HS2.out.ext fun t ht => by
        have h := HRR.out
        rw [Bool.and_eq_true, Bool.not_eq_true'] at h
        rw [talR_all _ _ ht, HSU.out, h.1, h.2]; simp), hide (HK1.out.trans HK2.out)⟩
       case measure => simp [intOf]; omega
  · obtain rfl : j = b.tallies.length := by omega
    have m1 := HS.out
    have HM1 := hide HS.out
    have m0 := N0.out.keep HK.out (by omega)
    have hz1 := m1.lt
    clear x0
    generalize hs : talT b xs i x b.tallies.length = s at *
    have HSQ := hide hs
    clear hs
    go_wp2_with (first | refine wpList_load_mid rfl 95 (.tmp 6) rfl (w.heap.size + 1) 0 rfl (setL s) _ (SetB.range m1) Tryz.underlying95 rfl (size95 _) ?_ | refine wpList_store_mid rfl 95 (.tmp 8) (.tmp 59) rfl (w.heap.size + 1 + 1) 0 (setL s).toArray rfl rfl (SetB.there m0 _) (size95' _) (setL_all _) ?_)
    exact bodyPost_ret (v := setV s) (results_cell_row rfl _ _ (w.heap.size + 1 + 1) 95 (setL s).toArray (0, 0) _ rfl (m0.whole s) Tryz.underlying95 rfl (size95' _)) rfl ⟨by rw [HSQ.out], set_below (HB.out.trans (HK.out.below (fun k hk => by omega) (by omega))) (by omega) (by omega)⟩
end Go.Proofs.YtocdmkilnbpkdaaGreatDoor
/- Up and Some of the reference. -/
namespace Go.Proofs.YtocdmkilnbpkdaaGreatDoor
open Go.RowKit
attribute [local go_sem] Oper.semAt_some

theorem exec_load_set {o : Oper} {x : Operand} {a : Act} {W : World} {g off : Nat} {s : Nat → Bool} (ho : o.op = .load 95 x) (hx : a.eval x = .pointer (some ⟨g, off, none⟩)) (hc : W.rangeAt g off (setL s)) : (execOp a.eval o).run Tryz.prog W = .ok (.value (setV s)) W := by
 unfold execOp
 simp only [ho, hx, Instr.loadAt, Instr.sureAddr, Sem.run_bind, Sem.run_pure, Result.andThen_ok, run_loadVar_mid W g off 95 (setL s) _ hc Tryz.underlying95 rfl (size95 _)]
theorem exec_store_set {o : Oper} {x y : Operand} {a : Act} {W : World} {g off : Nat} {s : Nat → Bool} (ho : o.op = .store 95 x y) (hx : a.eval x = .pointer (some ⟨g, off, none⟩)) (hy : a.eval y = setV s) (ht : W.there g off (setL s).toArray.size) : (execOp a.eval o).run Tryz.prog W = .ok .skip (W.setCells g off (setL s)) := by
 unfold execOp
 simp only [ho, hx, hy, Instr.storeAt, Instr.sureAddr, Sem.run_bind, Sem.run_pure, Result.andThen_ok, run_storeVar_mid W g off 95 (setL s).toArray ht (size95' _) (setL_all _)]
theorem mc_get {z : Array Value} {n j : Nat} (h : j < n) : (madeCells z n)[j]? = some (z[j % z.size]!) := by
 rw [madeCells, Array.getElem?_map, Array.getElem?_eq_getElem (by simpa using h), Option.map_some, Array.getElem_range]
/-- A row of sets. -/
def SetsB (W : World) (g n : Nat) (s : Nat → Nat → Bool) : Prop := ∃ vs, Blk W g 95 vs ∧ vs.size = n * 100 ∧ ∀ k j, k < n → j < 100 → vs[k * 100 + j]? = some (.bool (s k j))
def updS (s : Nat → Nat → Bool) (k : Nat) (t : Nat → Bool) : Nat → Nat → Bool := fun i => if i = k then t else s i
section
variable {W W' : World} {g n : Nat} {s : Nat → Nat → Bool}
theorem SetsB.lt (h : SetsB W g n s) : g < W.heap.size := by obtain ⟨vs, h1, _⟩ := h; exact h1.lt
theorem SetsB.cell (h : SetsB W g n s) {k j : Nat} (hk : k < n) (hj : j < 100) : W.cell? ⟨g, k * 100 + j, none⟩ = some (.bool (s k j)) := by obtain ⟨vs, h1, _, h3⟩ := h; exact (h1.at_ _).trans (h3 k j hk hj)
theorem SetsB.range (h : SetsB W g n s) {k : Nat} (hk : k < n) : W.rangeAt g (k * 100) (setL (s k)) := fun j v hv => by
 have hj : j < 100 := by have := (List.getElem?_eq_some_iff.1 hv).1; rwa [setL_len] at this
 rw [setL_at _ hj] at hv
 rw [h.cell hk hj, hv]
theorem SetsB.there (h : SetsB W g n s) {k : Nat} (hk : k < n) (t : Nat → Bool) : W.there g (k * 100) (setL t).toArray.size := fun j hj => by
 rw [List.size_toArray, setL_len] at hj
 refine ⟨by rw [h.cell hk hj]; rfl, ?_⟩
 obtain ⟨vs, h1, _⟩ := h
 exact h1.free _
theorem SetsB.put (h : SetsB W g n s) {k : Nat} (hk : k < n) (t : Nat → Bool) : SetsB (W.setCells g (k * 100) (setL t)) g n (updS s k t) := by
 obtain ⟨vs, h1, h2, h3⟩ := h
 obtain ⟨vs', g1, g2, g3, g4⟩ := blkS_set (setL t) (k * 100) W vs h1 (by rw [setL_len, h2]; omega)
 refine ⟨vs', g1, g2.trans h2, fun q j hq hj => ?_⟩
 by_cases e : q = k
 · subst e
   rw [g4 j (by rw [setL_len]; exact hj), setL_at _ hj, updS, if_pos rfl]
 · rw [g3 _ (by rw [setL_len]; omega), h3 q j hq hj, updS, if_neg e]
theorem SetsB.keep {S : Nat → Prop} (h : SetsB W g n s) (hk : Keep S W W') (hS : ¬ S g) : SetsB W' g n s := by obtain ⟨vs, h1, h2⟩ := h; exact ⟨vs, h1.keep hk hS, h2⟩
theorem SetsB.next (h : SetsB W g n s) (hb : Below W.heap.size W W') : SetsB W' g n s := by obtain ⟨vs, h1, h2⟩ := h; exact ⟨vs, h1.next hb, h2⟩
theorem SetsB.ext {t : Nat → Nat → Bool} (h : SetsB W g n s) (e : ∀ k j, k < n → j < 100 → s k j = t k j) : SetsB W g n t := by
 obtain ⟨vs, h1, h2, h3⟩ := h
 exact ⟨vs, h1, h2, fun k j hk hj => by rw [h3 k j hk hj, e k j hk hj]⟩
set_option maxRecDepth 100000 in
theorem SetsB.made : SetsB (W.alloc (.cells (madeCells (setL fun _ => false).toArray (n * 100)) 95)) W.heap.size n (fun _ _ => false) := by
 refine ⟨_, Blk.made, size_madeCells _ _, fun k j hk hj => ?_⟩
 rw [mc_get (by omega)]
 have h1 : (setL fun _ => false).toArray.size = 100 := by rw [List.size_toArray, setL_len]
 have h2 : (k * 100 + j) % (setL fun _ => false).toArray.size < 100 := by rw [h1]; exact Nat.mod_lt _ (by omega)
 rw [getElem!_def, List.getElem?_toArray, setL_at _ h2]
end
theorem take_snoc {l : List Nat} {k : Nat} (h : k < l.length) : l.take (k + 1) = l.take k ++ [nth l k] := by rw [nth_eq h, List.take_succ_eq_append_getElem h]
theorem natInts_nth {l : List Nat} {k : Nat} (h : k < l.length) : nth (natInts l) k = ((nth l k : Nat) : Int) := by
 rw [nth_eq (by rw [natInts_length]; exact h), nth_eq h]; simp [natInts]
theorem nth_mem {l : List Nat} {k : Nat} (h : k < l.length) : nth l k ∈ l := by rw [nth_eq h]; exact List.getElem_mem h
theorem infoSet : (Tryz.prog.info? 95).map (fun i => (i.zero, i.size, i.bytes)) = some (some (setV fun _ => false), 100, 100) := by kernel_rfl
theorem underSets : Tryz.prog.underlying 96 = some (.slice 95) := by kernel_rfl
theorem sums_snoc (s : Nat → Nat → Bool) (k : Nat) : ∀ (l : List Nat) (x : Nat → Bool), sumsS x s (l ++ [k]) = sumS (sumsS x s l) (s k)
 | [], _ => rfl
 | y :: l, x => by rw [List.cons_append, sumsS, sumsS]; exact sums_snoc s k l _
/-- What the reference has behind the steps from i on. -/
def upTo (b : Book) (but : Nat → Bool) (i : Int) (k t : Nat) : Bool := decide (i < k) && setOf ((wayOf b).u (cB b but) k) t
theorem upTo_val {b : Book} (hg : Good b) {xs : List Int} {i : Nat} (hi : i < b.steps.length) {x : Nat → Bool} (hx : ∀ t, t < 100 → x t = if behindB b i = [] then true else sumsS (setOf ⟨0, (nth b.steps i).loss⟩) (fun k => setOf ((wayOf b).u (cB b (hasInt xs ·)) k)) (behindB b i) t) :
 ∀ k t, k < b.steps.length → t < 100 → updS (upTo b (hasInt xs ·) i) i (talT b xs i x b.tallies.length) k t = upTo b (hasInt xs ·) ((i : Int) - 1) k t := by
 intro k t hk ht
 unfold updS
 split
 · rename_i e
   subst e
   have h1 := setOf_val hg.way (cB_99 b (hasInt xs ·)) (h := (wayOf b).u (cB b (hasInt xs ·))) hk (fun q hq => (u_pos hg.way (cB_99 b (hasInt xs ·)) q (kid_gt hg.way hq).2).1) (t := t) (by omega)
   rw [← u_eq hg.way _ hk, ← behind_kids hg] at h1
   have h2 := setOf_tall hg (hasInt xs ·) hk b.tallies.length (Nat.le_refl _) t (by omega)
   change setOf (cB b (hasInt xs ·) k) t = _ at h2
   rw [upTo, h1, show decide (((k : Nat) : Int) - 1 < (k : Nat)) = true by simp; omega, Bool.true_and, talT, hx t ht, h2]
   rfl
 · rename_i e
   unfold upTo
   congr 1
   rw [Bool.eq_iff_iff, decide_eq_true_eq, decide_eq_true_eq]
   omega
set_option maxHeartbeats 1000000 in
set_option maxRecDepth 100000 in
theorem up12_any {b : Book} {a : BA} {w : World} {A : Option Addr} {n c : Nat} {xs : List Int} (h : BookV w w.heap.size b a) (hg : Good b) (h12 : b.tallies.length ≤ 12) (hx : IntsS w w.heap.size A n c xs) :
 Calls Tryz.prog 91 #[bookVal b a, .slice A n c] w fun e w' => ∃ g, e = .returned (.slice (some ⟨g, 0, none⟩) b.steps.length b.steps.length) ∧ w.heap.size ≤ g ∧ SetsB w' g b.steps.length (fun i => setOf ((wayOf b).u (cB b (hasInt xs ·)) i)) ∧ Below w.heap.size w w' := by
 have hz := zero95
 have h6 := hg.six
 have hpos := hg.pos
 have HX := hide (BoxB.made h)
 have HB0 := hide (show Below w.heap.size w (w.alloc (.cells (bookCells b a) 25)) from (Below.refl _ _).alloc (Nat.le_refl _) _)
 have HI0 := hide (hx.next HB0.out)
 obtain ⟨i2, hinf2, hy0, hy1, hy2⟩ := info_parts infoSet
 have hmk : ∀ W : World, (Instr.makeSlice 96 (.int .i64 (b.steps.length : Int)) (.int .i64 (b.steps.length : Int))).run Tryz.prog W = .ok (.slice (some ⟨W.heap.size, 0, none⟩) b.steps.length b.steps.length) (W.alloc (.cells (madeCells (setL fun _ => false).toArray (b.steps.length * 100)) 95)) := fun W => by
  have := run_make (P := Tryz.prog) (w := W) 96 95 i2 _ underSets hinf2 hy0 .i64 .i64 (b.steps.length : Int) (b.steps.length : Int) (by omega) (by omega) (by rw [hy2]; omega) (by omega)
  rw [this, hy1, show (b.steps.length : Int).toNat = b.steps.length by omega]
  rfl
 have HG := hide hg
 have HV0 := hide h
 have HX0 := hide hx
 clear h hg hx hinf2 hy0 hy1 hy2
 go_enter Tryz.func91, Tryz.ntmps91
 go_upto_region 1 with (fail)
 generalize w.alloc (.cells (bookCells b a) 25) = v at *
 obtain ⟨gz, x0, x1⟩ := HX.out.cells
 have hzv := HB0.out.size
 have hw1 : IntKind.i64.wrap ((b.steps.length : Int) - 1) = (b.steps.length : Int) - 1 := IntWalk.i64_in _ (by omega)
 go_upto_region 2 with (fail)
 have hb : Below v.heap.size v (v.alloc (.cells (madeCells (setL fun _ => false).toArray (b.steps.length * 100)) 95)) := (Below.refl _ _).alloc (Nat.le_refl _) _
 have no : SetsB (v.alloc (.cells (madeCells (setL fun _ => false).toArray (b.steps.length * 100)) 95)) v.heap.size b.steps.length (fun _ _ => false) := SetsB.made
 have HX1 := hide (HX.out.next hb)
 have HI1 := hide (HI0.out.next hb)
 generalize (v.alloc (.cells (madeCells (setL fun _ => false).toArray (b.steps.length * 100)) 95)) = v1 at *
 have HO := hide no
 have hz1 := no.lt
 have hzw := HX.out.k.lt
 have HB1 := hide (HB0.out.trans (hb.mono hzv))
 have HV := hide (HV0.out.below HB1.out)
 have HI := hide (HX0.out.below HB1.out)
 clear gz x0 x1 hmk no hb HX HI0 HB0 HV0 HX0 HI1
 generalize v.heap.size = g at *
 obtain ⟨gz, x0, x1⟩ := HX1.out.cells
 go_wp2_with fail
 clear gz x0 x1 hw1
 go_loopw [6, 7, 8, 9, 18, 19, 20, 21, 22, 23, 24, 25, 26, 27, 28, 29, 30, 31, 32, 33, 34, 35, 36, 37, 38, 39, 40, 41, 42, 43, 44, 45, 46, 47, 48, 49, 50, 51, 52, 53, 54, 55, 56, 57, 58] (fun v6 _ _ _ _ _ _ _ _ _ _ _ _ _ _ _ _ _ _ _ _ _ _ _ _ _ _ _ _ _ _ _ _ _ _ _ _ _ _ _ _ _ _ _ _ wr => ∃ z : Int, -1 ≤ z ∧ z < b.steps.length ∧ v6 = .int .i64 z ∧ Hid (SetsB wr g b.steps.length (upTo b (hasInt xs ·) z)) ∧ Hid (Keep (fun k => k = g) v1 wr)) (fun v6 _ _ _ _ _ _ _ _ _ _ _ _ _ _ _ _ _ _ _ _ _ _ _ _ _ _ _ _ _ _ _ _ _ _ _ _ _ _ _ _ _ _ _ _ _ => (intOf v6 + 1).toNat)
 case atStart => exact ⟨(b.steps.length : Int) - 1, by omega, by omega, rfl, hide (HO.out.ext fun k t hk _ => by simp [upTo]; omega), hide (Keep.refl _ _)⟩
 case round =>
  obtain ⟨z, hz1', hz2', rfl, HS, HK⟩ := hrel
  obtain ⟨v2, rfl⟩ : ∃ v2 : World, v2 = wr := ⟨_, rfl⟩
  by_cases h0 : 0 ≤ z
  · obtain ⟨m, rfl⟩ : ∃ m : Nat, z = (m : Int) := ⟨z.toNat, by omega⟩
    have hm : m < b.steps.length := by omega
    have hbl : Below w.heap.size v1 v2 := HK.out.below (fun k hk => by omega) (by omega)
    have hz2 := hbl.size
    have HX2 : Hid (BoxB v2 w.heap.size b a) := hide ⟨(HV.out.below hbl).more (by omega), HX1.out.k.keep HK.out (by omega)⟩
    have HI2 := hide ((HI.out.below hbl).more (show w.heap.size ≤ v2.heap.size by omega))
    clear hbl
    have HUV := hide (fun x hx => upTo_val (i := m) (x := x) HG.out (xs := xs) hm hx)
    go_upto_region 6 with (first | (go_at_call 98; refine (upTo12_any (by omega) (by omega) v2).mono ?_; rintro e w1 ⟨rfl, hb1⟩) | (refine wpList_store_mid rfl 95 (.tmp 7) (.tmp 22) rfl w1.heap.size 0 (setL (setOf ⟨0, 99⟩)).toArray rfl rfl (SetB.there SetB.made _) (size95' _) (setL_all _) ?_))
    have hbx : Below v2.heap.size v2 ((w1.alloc (.cells (setL fun _ => false).toArray 95)).setCells w1.heap.size 0 (setL (setOf ⟨0, 99⟩))) := set_below (hb1.trans ((Below.refl _ _).alloc hb1.size _)) hb1.size (by simp; have := hb1.size; omega)
    have nx : SetB ((w1.alloc (.cells (setL fun _ => false).toArray 95)).setCells w1.heap.size 0 (setL (setOf ⟨0, 99⟩))) w1.heap.size (setOf ⟨0, 99⟩) := SetB.made.whole _
    have HX3 := hide (HX2.out.next hbx)
    have HI3 := hide (HI2.out.next hbx)
    have HS3 := hide (HS.out.next hbx)
    have HK3 := hide (HK.out.trans (Keep.of_below' hbx (fun k => k = g)))
    have hgx := hb1.size
    generalize ((w1.alloc (.cells (setL fun _ => false).toArray 95)).setCells w1.heap.size 0 (setL (setOf ⟨0, 99⟩))) = v3 at *
    have HN3 := hide nx
    have hz3 := nx.lt
    clear hb1 hbx nx HX2 HI2 HS HK
    generalize w1.heap.size = gx at *
    obtain ⟨gz, x0, x1⟩ := HX3.out.cells
    go_upto_region 7 with (go_at_call 44; refine (behind12_any HX3.out.v h6 m).mono ?_; rintro e v4 ⟨lA, lc, rfl, hl, hlf, hb4⟩)
    have HX4 := hide (HX3.out.next hb4)
    have HI4 := hide (HI3.out.next hb4)
    have HS4 := hide (HS3.out.next hb4)
    have HN4 := hide (HN3.out.next hb4)
    have HK4 := hide (HK3.out.trans (Keep.of_below' hb4 (fun k => k = g)))
    have hz4 := hb4.size
    have HL := hide hl
    have HLF := hide hlf
    clear gz x0 x1 hl hlf hb4 HX3 HI3 HS3 HN3 HK3
    have hmem : ∀ k, k ∈ behindB b m → m < k ∧ k < b.steps.length := fun k hk => by
     have := behind_kids HG.out m
     rw [this] at hk
     exact kid_gt HG.out.way hk
    have HME := hide hmem
    have hbd := behTo_le b m b.steps.length
    change (behindB b m).length ≤ b.steps.length at hbd
    generalize behindB b m = l at *
    clear hmem
    by_cases hl0 : l = []
    · subst hl0
      have hc1 : ¬ ((([] : List Nat).length : Int) > 0) := by simp
      have hlen : ((([] : List Nat).length : Nat) : Int) = 0 := rfl
      have HVV := hide (HUV.out (setOf ⟨0, 99⟩) (fun t ht => by rw [if_pos rfl, setOf_iff]; simp only; omega))
      clear HUV hc1
      obtain ⟨gz, x0, x1⟩ := HX4.out.cells
      have hm0 : (0 : Int) ≤ (m : Int) := Int.natCast_nonneg _
      have hm1 : (m : Int) < (b.steps.length : Int) := by omega
      have hw9 : IntKind.i64.wrap ((m : Int) - 1) = (m : Int) - 1 := IntWalk.i64_in _ (by omega)
      have hzn := HN4.out.lt
      go_wp2_with (first | refine wpList_load_mid rfl 95 (.tmp 7) rfl gx 0 rfl (setL (setOf ⟨0, 99⟩)) _ (SetB.range HN4.out) Tryz.underlying95 rfl (size95 _) ?_)
      refine (tallied12_any HX4.out.v HG.out h12 m (setOf ⟨0, 99⟩) HI4.out).mono ?_
      rintro e v5 ⟨rfl, hb5⟩
      have hz5 := hb5.size
      generalize hTT : (talT b xs m (setOf ⟨0, 99⟩) b.tallies.length) = tt at *
      have HTT := hide hTT
      clear hTT
      have HTH := hide ((HS4.out.next hb5).there hm tt)
      go_wp2_with (first | (refine wpList_store_mid rfl 95 (.tmp 58) (.tmp 57) rfl _ _ _ rfl rfl ?h1 ?h2 ?h3 ?_; (case h1 => exact HTH.out); (case h2 => exact size95' tt); (case h3 => exact setL_all tt)))
      have HP := hide (((HS4.out.next hb5).put hm tt).ext HVV.out)
      have HKP := hide ((HK4.out.trans (Keep.of_below' hb5 (fun k => k = g))).trans (keepS_set g (setL tt) (m * 100) v5))
      generalize v5.setCells g (m * 100) (setL tt) = v6 at *
      go_roundw
      case rel => exact ⟨(m : Int) - 1, by omega, by omega, rfl, HP, HKP⟩
      case measure => simp [intOf]
    · have hlp : 0 < l.length := by
       cases l with
       | nil => exact absurd rfl hl0
       | cons _ _ => simp
      have hc1 : (((l.length : Nat) : Int) > 0) := by omega
      have HVV0 := hide (fun (x : Nat → Bool) (hx : ∀ t, t < 100 → x t = sumsS (setOf ⟨0, (nth b.steps m).loss⟩) (fun k => setOf ((wayOf b).u (cB b (hasInt xs ·)) k)) l t) => HUV.out x (fun t ht => by rw [if_neg hl0]; exact hx t ht))
      clear HUV hl0
      obtain ⟨gz, x0, x1⟩ := HX4.out.cells
      obtain ⟨g1, o1, hA1, hg1, s0, s1, s2⟩ := HX4.out.v.steps.steps hm
      rw [hA1] at x0
      clear hA1 s0 s1 x1
      have hlo := HG.out.loss m hm
      have hm0 : (0 : Int) ≤ (m : Int) := Int.natCast_nonneg _
      generalize (nth b.steps m).loss = lo at *
      go_upto_region 9 with (first | (go_at_call 98; refine (upTo12_any hlo.1 (by omega) v4).mono ?_; rintro e v5 ⟨rfl, hb5⟩) | (refine wpList_store_mid rfl 95 (.tmp 7) (.tmp 35) rfl _ _ _ rfl rfl ?h1 ?h2 ?h3 ?_; (case h1 => exact (HN4.out.next hb5).there _); (case h2 => exact size95' _); (case h3 => exact setL_all _)))
      have HX6 := hide (HX4.out.next hb5)
      have HI6 := hide (HI4.out.next hb5)
      have HS6 := hide (HS4.out.next hb5)
      have HN5 := hide (HN4.out.next hb5)
      have HL6 := hide (HL.out.next hb5)
      have HK6 := hide (HK4.out.trans (Keep.of_below' hb5 (fun k => k = g)))
      have hz5 := hb5.size
      have hgg := HS4.out.lt
      have HVA := hide (HV.out.below (HK6.out.below (B := w.heap.size) (fun k hk => by omega) (by omega)))
      have HIA := hide (HI.out.below (HK6.out.below (B := w.heap.size) (fun k hk => by omega) (by omega)))
      clear gz x0 s2 hb5 HX4 HI4 HS4 HN4 HK4 HL
      have HX0 := hide (HX6.out.cells)
      have ks := keepS_set gx (setL (setOf ⟨0, lo⟩)) 0 v5
      have HN6 := hide (HN5.out.whole (setOf ⟨0, lo⟩))
      generalize v5.setCells gx 0 (setL (setOf ⟨0, lo⟩)) = v6 at *
      have HKS := hide ks
      clear ks
      go_wp2_with fail
      go_loopw [9, 36, 37, 38, 39, 40, 41, 42, 43, 44, 45, 46, 47, 48, 49, 50] (fun v9 _ _ _ _ _ _ _ _ _ _ _ _ _ _ _ wr => ∃ k : Nat, k ≤ l.length ∧ v9 = .int .i64 (k : Nat) ∧ Hid (SetB wr gx (sumsS (setOf ⟨0, lo⟩) (fun k => setOf ((wayOf b).u (cB b (hasInt xs ·)) k)) (l.take k))) ∧ Hid (Keep (fun k => k = gx) v5 wr)) (fun v9 _ _ _ _ _ _ _ _ _ _ _ _ _ _ _ _ => l.length - (intOf v9).toNat)
      case atStart => exact ⟨0, by omega, rfl, HN6, HKS⟩
      case round =>
       obtain ⟨k, hk, rfl, HN7, HK7⟩ := hrel
       obtain ⟨v7, rfl⟩ : ∃ v7 : World, v7 = wr := ⟨_, rfl⟩
       have hk0 : (0 : Int) ≤ (k : Int) := Int.natCast_nonneg _
       have HS7 := hide (HS6.out.keep HK7.out (by omega))
       have hz7 := HK7.out.size
       by_cases hlt : k < l.length
       · have hk1 : (k : Int) < ((l.length : Nat) : Int) := by omega
         have HTK := hide (take_snoc (l := l) hlt)
         obtain ⟨lb, lof, rfl, hlb, lx⟩ := HL6.out.at_ hlt
         rw [natInts_nth hlt] at lx
         have hq := HME.out (nth l k) (nth_mem hlt)
         have lx := (HK7.out.cell (b := lb) (o := lof + k) hlb (fun e => by have := HLF.out _ rfl; simp only at this; omega)).trans lx
         generalize nth l k = q at *
         have hq0 : (0 : Int) ≤ (q : Int) := Int.natCast_nonneg _
         have hq1 : (q : Int) < (b.steps.length : Int) := by omega
         have hzl : lb < v7.heap.size := by omega
         have hzx := HN7.out.lt
         have HQ := hide hq
         have HXE := hide (show sumS (sumsS (setOf ⟨0, lo⟩) (fun k => setOf ((wayOf b).u (cB b (hasInt xs ·)) k)) (l.take k)) (setOf ((wayOf b).u (cB b (hasInt xs ·)) q)) = sumsS (setOf ⟨0, lo⟩) (fun k => setOf ((wayOf b).u (cB b (hasInt xs ·)) k)) (l.take (k + 1)) by rw [HTK.out, sums_snoc])
         have HUQ := hide (show upTo b (hasInt xs ·) m q = setOf ((wayOf b).u (cB b (hasInt xs ·)) q) by
          funext t; rw [upTo, decide_eq_true (by omega), Bool.true_and])
         generalize hX : sumsS (setOf ⟨0, lo⟩) (fun k => setOf ((wayOf b).u (cB b (hasInt xs ·)) k)) (l.take k) = X at *
         clear hX
         go_upto_region 12 with fail
         refine wp_region_rel4 (dst := fun oi => [42, 43, 44, 45, 46, 47, 48, 49, 50, 3].getD oi 0) (mono := fun oi => decide (oi < 9)) (pre := fun oi => decide (oi < 9)) (R := LKeep (fun _ => False) (fun _ => True))
          (Pv := fun oi v W => match oi with
           | 0 => v = setV (X)
           | 1 => v = .slice (some ⟨g, 0, none⟩) b.steps.length b.steps.length
           | 2 => v = .slice (some ⟨lb, lof, none⟩) l.length lc
           | 3 => v = .int .i64 (k : Nat)
           | 4 => v = .pointer (some ⟨lb, lof + k, none⟩)
           | 5 => v = .int .i64 (q : Nat)
           | 6 => v = .pointer (some ⟨g, q * 100, none⟩)
           | 7 => v = setV (setOf ((wayOf b).u (cB b (hasInt xs ·)) q))
           | 8 => v = setV (sumS (X) (setOf ((wayOf b).u (cB b (hasInt xs ·)) q)))
           | _ => True) (by kernel_rfl) (by kernel_rfl) (LKeep.refl _ _) (fun _ _ _ h h' => h.trans h') ?hsts ?hsteps ?hends
         case hsts =>
          intro oi v W W' h hk
          match oi, h with
          | 0, h => exact h
          | 1, h => exact h
          | 2, h => exact h
          | 3, h => exact h
          | 4, h => exact h
          | 5, h => exact h
          | 6, h => exact h
          | 7, h => exact h
          | 8, h => exact h
          | oi + 9, h => exact trivial
         case hsteps =>
          intro oi hoi hom listed vs ao W hU hk0 hpv haft Ko hK
          have hkk := (LKeep.drew (fun _ => False) (M := fun _ => True) v7 (fun h => h)).trans hk0
          have hk := hkk.1
          have hkm := hkk.2
          clear hkk
          match oi, hoi, hom with
          | 0, hoi, hom =>
           have z7 : ao.tmps[7]?.getD undef = .pointer (some ⟨gx, 0, none⟩) := hU.same 7 (by decide)
           refine wpOp_value (v := setV (X)) (W' := W) rfl rfl (exec_load_set rfl (by simpa [go_sem] using z7) (SetB.range (HN7.out.keep hk (fun h => h)))) (hK _ _ (LKeep.refl _ _ _) rfl)
          | 1, hoi, hom =>
           have z5 : ao.tmps[5]?.getD undef = .slice (some ⟨g, 0, none⟩) b.steps.length b.steps.length := hU.same 5 (by decide)
           refine wpOp_value (v := .slice (some ⟨g, 0, none⟩) b.steps.length b.steps.length) (W' := W) rfl rfl ?_ (hK _ _ (LKeep.refl _ _ _) rfl)
           go_simp
          | 2, hoi, hom =>
           have z8 : ao.tmps[8]?.getD undef = .slice (some ⟨lb, lof, none⟩) l.length lc := hU.same 8 (by decide)
           refine wpOp_value (v := .slice (some ⟨lb, lof, none⟩) l.length lc) (W' := W) rfl rfl ?_ (hK _ _ (LKeep.refl _ _ _) rfl)
           go_simp
          | 3, hoi, hom =>
           have z9 : ao.tmps[9]?.getD undef = .int .i64 (k : Nat) := hU.same 9 (by decide)
           refine wpOp_value (v := .int .i64 (k : Nat)) (W' := W) rfl rfl ?_ (hK _ _ (LKeep.refl _ _ _) rfl)
           go_simp
          | 4, hoi, hom =>
           have l2 := haft _ rfl ⟨2, .data⟩ (by simp) rfl
           have s2 : ao.tmps[44]?.getD undef = .slice (some ⟨lb, lof, none⟩) l.length lc := (hU.slot 2 (by decide) l2).trans (hpv 2 l2)
           have l3 := haft _ rfl ⟨3, .data⟩ (by simp) rfl
           have s3 : ao.tmps[45]?.getD undef = .int .i64 (k : Nat) := (hU.slot 3 (by decide) l3).trans (hpv 3 l3)
           refine wpOp_value (v := .pointer (some ⟨lb, lof + k, none⟩)) (W' := W) rfl rfl ?_ (hK _ _ (LKeep.refl _ _ _) rfl)
           go_simp
          | 5, hoi, hom =>
           have l4 := haft _ rfl ⟨4, .data⟩ (by simp) rfl
           have s4 : ao.tmps[46]?.getD undef = .pointer (some ⟨lb, lof + k, none⟩) := (hU.slot 4 (by decide) l4).trans (hpv 4 l4)
           have y0 := (hk.cell (b := lb) (o := lof + k) (hzl) (fun h => h)).trans (lx)
           refine wpOp_value (v := .int .i64 (q : Nat)) (W' := W) rfl rfl ?_ (hK _ _ (LKeep.refl _ _ _) rfl)
           go_simp
          | 6, hoi, hom =>
           have l1 := haft _ rfl ⟨1, .data⟩ (by simp) rfl
           have s1 : ao.tmps[43]?.getD undef = .slice (some ⟨g, 0, none⟩) b.steps.length b.steps.length := (hU.slot 1 (by decide) l1).trans (hpv 1 l1)
           have l5 := haft _ rfl ⟨5, .data⟩ (by simp) rfl
           have s5 : ao.tmps[47]?.getD undef = .int .i64 (q : Nat) := (hU.slot 5 (by decide) l5).trans (hpv 5 l5)
           refine wpOp_value (v := .pointer (some ⟨g, q * 100, none⟩)) (W' := W) rfl rfl ?_ (hK _ _ (LKeep.refl _ _ _) rfl)
           go_simp
          | 7, hoi, hom =>
           have l6 := haft _ rfl ⟨6, .data⟩ (by simp) rfl
           have s6 : ao.tmps[48]?.getD undef = .pointer (some ⟨g, q * 100, none⟩) := (hU.slot 6 (by decide) l6).trans (hpv 6 l6)
           have y9 := (HS7.out.keep hk (fun h => h)).range HQ.out.2
           rw [HUQ.out] at y9
           refine wpOp_value (v := setV (setOf ((wayOf b).u (cB b (hasInt xs ·)) q))) (W' := W) rfl rfl (exec_load_set rfl (by simpa [go_sem] using s6) y9) (hK _ _ (LKeep.refl _ _ _) rfl)
          | 8, hoi, hom =>
           have l0 := haft _ rfl ⟨0, .data⟩ (by simp) rfl
           have s0 : ao.tmps[42]?.getD undef = setV (X) := (hU.slot 0 (by decide) l0).trans (hpv 0 l0)
           have l7 := haft _ rfl ⟨7, .data⟩ (by simp) rfl
           have s7 : ao.tmps[49]?.getD undef = setV (setOf ((wayOf b).u (cB b (hasInt xs ·)) q)) := (hU.slot 7 (by decide) l7).trans (hpv 7 l7)
           refine wpOp_enter (f := 99) (args := #[setV (X), setV (setOf ((wayOf b).u (cB b (hasInt xs ·)) q))]) (W' := W) rfl rfl ?_ ((sum12_any (X) (setOf ((wayOf b).u (cB b (hasInt xs ·)) q)) W).mono (fun e w'' h => ?_))
           · go_simp
           · obtain ⟨he, hbw⟩ := h
             exact ⟨_, he, hK _ _ (LKeep.below hbw (fun h => h)) rfl⟩
          | oi + 9, hoi, hom => exact absurd (of_decide_eq_true hom) (by omega)
         case hends =>
          intro listed vs ao W hG hk0 hpv hpre
          have hkk := (LKeep.drew (fun _ => False) (M := fun _ => True) v7 (fun h => h)).trans hk0
          have hk := hkk.1
          have hkm := hkk.2
          clear hkk
          have hact := hG.act
          have hT := hG.lst hpre 0 #[true, true, true, true, true, true, true, true, true, false] rfl (by kernel_rfl) (hpre 0 (by decide) (by decide))
          rw [hG.ix hT (l := [0, 1, 2, 3, 4, 5, 6, 7, 8]) (by kernel_rfl)] at hact
          rw [hG.lo hT (k := 1) (by kernel_rfl)]
          have hv0 : vs 0 = setV (X) := hpv 0 (hpre 0 (by decide) (by decide))
          have hv1 : vs 1 = .slice (some ⟨g, 0, none⟩) b.steps.length b.steps.length := hpv 1 (hpre 1 (by decide) (by decide))
          have hv2 : vs 2 = .slice (some ⟨lb, lof, none⟩) l.length lc := hpv 2 (hpre 2 (by decide) (by decide))
          have hv3 : vs 3 = .int .i64 (k : Nat) := hpv 3 (hpre 3 (by decide) (by decide))
          have hv4 : vs 4 = .pointer (some ⟨lb, lof + k, none⟩) := hpv 4 (hpre 4 (by decide) (by decide))
          have hv5 : vs 5 = .int .i64 (q : Nat) := hpv 5 (hpre 5 (by decide) (by decide))
          have hv6 : vs 6 = .pointer (some ⟨g, q * 100, none⟩) := hpv 6 (hpre 6 (by decide) (by decide))
          have hv7 : vs 7 = setV (setOf ((wayOf b).u (cB b (hasInt xs ·)) q)) := hpv 7 (hpre 7 (by decide) (by decide))
          have hv8 : vs 8 = setV (sumS (X) (setOf ((wayOf b).u (cB b (hasInt xs ·)) q))) := hpv 8 (hpre 8 (by decide) (by decide))
          clear hpv hpre hG hk0
          obtain rfl : ao = _ := hact
          subst hT
          simp only [setAll, List.setIfInBounds_toArray, List.set_cons_succ, List.set_cons_zero, List.getD_cons_succ, List.getD_cons_zero]
          simp only [hv0, hv1, hv2, hv3, hv4, hv5, hv6, hv7, hv8]
          clear hv0 hv1 hv2 hv3 hv4 hv5 hv6 hv7 hv8
          have n9 := HN7.out.keep hk (fun h => h)
          refine wpAny_all (rs := [9]) (by kernel_rfl) (by simp) ?_
          intro i2 hi2
          obtain rfl : i2 = 9 := by simpa using hi2
          refine wpOp_skip (W' := W.setCells gx 0 (setL (sumS (X) (setOf ((wayOf b).u (cB b (hasInt xs ·)) q))))) rfl rfl (exec_store_set rfl (by simp [go_sem]) (by simp [go_sem]) (n9.there _)) ?_
          refine wpAny_done (by kernel_rfl) ?_ _
          have HN9 := hide ((n9.whole (sumS (X) (setOf ((wayOf b).u (cB b (hasInt xs ·)) q)))))
          have HKA := hide ((HK7.out.trans (hk.mono (S' := fun k => k = gx) (fun k _ h => h.elim))).trans (keepS_set gx (setL (sumS (X) (setOf ((wayOf b).u (cB b (hasInt xs ·)) q)))) 0 W))
          generalize W.setCells gx 0 (setL (sumS (X) (setOf ((wayOf b).u (cB b (hasInt xs ·)) q)))) = v9 at *
          rw [HXE.out] at HN9
          clear hk hkm n9
          go_wp2_with fail
          go_roundw
          case rel => exact ⟨k + 1, by omega, by go_num, HN9, HKA⟩
          case measure => simp [intOf]; omega
       · obtain rfl : k = l.length := by omega
         rw [List.take_length] at HN7
         have hbl := HK7.out.below (B := w.heap.size) (fun k hk => by omega) (by omega)
         have HX8 : Hid (BoxB v7 w.heap.size b a) := hide ⟨(HVA.out.below hbl).more (by omega), HX6.out.k.keep HK7.out (by omega)⟩
         have HI8 := hide ((HIA.out.below hbl).more (show w.heap.size ≤ v7.heap.size by omega))
         have HVV := hide (HVV0.out _ (fun t _ => rfl))
         have HK8 := hide (HK6.out.trans' (HK7.out.mono (fun k _ h => by omega)) (by omega))
         have HS8 := HS7
         have HN8 := HN7
         generalize hX : sumsS (setOf ⟨0, lo⟩) (fun k => setOf ((wayOf b).u (cB b (hasInt xs ·)) k)) l = X at *
         clear hX hbl hc1
         go_upto_region 13 with (fail)
         obtain ⟨gz, x0, x1⟩ := HX8.out.cells
         have hm0 : (0 : Int) ≤ (m : Int) := Int.natCast_nonneg _
         have hm1 : (m : Int) < (b.steps.length : Int) := by omega
         have hw9 : IntKind.i64.wrap ((m : Int) - 1) = (m : Int) - 1 := IntWalk.i64_in _ (by omega)
         have hzn := HN8.out.lt
         go_wp2_with (first | refine wpList_load_mid rfl 95 (.tmp 7) rfl gx 0 rfl (setL (X)) _ (SetB.range HN8.out) Tryz.underlying95 rfl (size95 _) ?_)
         refine (tallied12_any HX8.out.v HG.out h12 m (X) HI8.out).mono ?_
         rintro e v5 ⟨rfl, hb5⟩
         have hz5 := hb5.size
         generalize hTT : (talT b xs m (X) b.tallies.length) = tt at *
         have HTT := hide hTT
         clear hTT
         have HTH := hide ((HS8.out.next hb5).there hm tt)
         go_wp2_with (first | (refine wpList_store_mid rfl 95 (.tmp 58) (.tmp 57) rfl _ _ _ rfl rfl ?h1 ?h2 ?h3 ?_; (case h1 => exact HTH.out); (case h2 => exact size95' tt); (case h3 => exact setL_all tt)))
         have HP := hide (((HS8.out.next hb5).put hm tt).ext HVV.out)
         have HKP := hide ((HK8.out.trans (Keep.of_below' hb5 (fun k => k = g))).trans (keepS_set g (setL tt) (m * 100) v5))
         generalize v5.setCells g (m * 100) (setL tt) = v6 at *
         go_roundw
         case rel => exact ⟨(m : Int) - 1, by omega, by omega, rfl, HP, HKP⟩
         case measure => simp [intOf]
  · obtain rfl : z = -1 := by omega
    have HF := hide (HS.out.ext (t := fun i => setOf ((wayOf b).u (cB b (hasInt xs ·)) i)) fun k t _ _ => by rw [upTo, decide_eq_true (by omega), Bool.true_and])
    have hbz := HB1.out.trans (HK.out.below (fun k hk => by omega) (by omega))
    go_wp2_with fail
    go_ret
    exact ⟨g, rfl, hzv, HF.out, hbz⟩
theorem ends_ok {p : Span} (h : 0 ≤ p.lo ∧ p.hi ≤ 99) : decide (0 ≤ (endsTo (setOf p) 100).hi) = neB p := by
 by_cases hn : p.lo ≤ p.hi
 · rw [ends_set ⟨h.1, hn, h.2⟩, neB, decide_eq_true hn, decide_eq_true (by omega)]
 · rw [ends_none hn, neB, decide_eq_false hn]; rfl
set_option maxHeartbeats 1000000 in
set_option maxRecDepth 100000 in
theorem some12_any {b : Book} {a : BA} {w : World} {A : Option Addr} {n c : Nat} {xs : List Int} (h : BookV w w.heap.size b a) (hg : Good b) (h12 : b.tallies.length ≤ 12) (hx : IntsS w w.heap.size A n c xs) :
 Calls Tryz.prog 52 #[bookVal b a, .slice A n c] w fun e w' => e = .returned (.bool (someB b (hasInt xs ·))) ∧ Below w.heap.size w w' := by
 have HX := hide (BoxB.made h)
 have HB0 := hide (show Below w.heap.size w (w.alloc (.cells (bookCells b a) 25)) from (Below.refl _ _).alloc (Nat.le_refl _) _)
 have HI0 := hide (hx.next HB0.out)
 have HG := hide hg
 have hpos := hg.pos
 have h6 := hg.six
 clear h hx hg
 go_enter Tryz.func52, Tryz.ntmps52
 go_upto_region 1 with (fail)
 generalize w.alloc (.cells (bookCells b a) 25) = v at *
 obtain ⟨gz, x0, x1⟩ := HX.out.cells
 have hp1 : (0 : Int) < (b.steps.length : Int) := by omega
 go_wp2_with fail
 refine (up12_any HX.out.v HG.out h12 HI0.out).mono ?_
 rintro e v1 ⟨g, rfl, hg, hs, hb1⟩
 have HU := hide (hs.range hpos)
 have HBB := hide (HB0.out.trans (hb1.mono HB0.out.size))
 clear hs
 rw [Nat.zero_mul] at HU
 have HE := hide (show endsV (setOf ((wayOf b).u (cB b (hasInt xs ·)) 0)) = .tuple #[spanVal (endsTo (setOf ((wayOf b).u (cB b (hasInt xs ·)) 0)) 100), .bool (someB b (hasInt xs ·))] by
  rw [endsV, ends_ok (u_pos HG.out.way (cB_99 b (hasInt xs ·)) 0 hpos)]; rfl)
 generalize endsTo (setOf ((wayOf b).u (cB b (hasInt xs ·)) 0)) 100 = es at *
 generalize hsb : someB b (hasInt xs ·) = sb at *
 have HSB := hide hsb
 clear hsb
 generalize setOf ((wayOf b).u (cB b (hasInt xs ·)) 0) = s at *
 obtain ⟨e1, e2⟩ := es
 go_wp2_with (first | refine wpList_load_mid rfl 95 (.tmp 11) rfl g 0 rfl (setL s) _ HU.out Tryz.underlying95 rfl (size95 _) ?_ | (go_at_call 69; refine (ends12_any s v1).mono ?_; rintro e v2 ⟨rfl, hb2⟩; rw [HE.out]))
 go_ret
 exact ⟨by rw [HSB.out]; rfl, HBB.out.trans ((hb2.trans ((Below.refl _ _).alloc hb2.size _)).mono HBB.out.size)⟩
end Go.Proofs.YtocdmkilnbpkdaaGreatDoor
