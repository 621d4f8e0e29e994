/- list and slices.Compare of package ledger; the best of sets. -/
import Derived.Test.YtocdmkilnbpkdaaGreatDoorZX
import Derived.OwnWalkIn
import Derived.OwnWalk
import Derived.Laws.AppendOwn
import Derived.TacticsInMore
import Derived.Deep.DeepCutAuto
set_option linter.unusedVariables false
set_option linter.unusedSimpArgs false
namespace Go.Proofs.YtocdmkilnbpkdaaGreatDoor
open Go.RowKit
attribute [local go_sem] Oper.semAt_some
theorem bits_and6 {m j : Nat} (hm : m < 64) (hj : j < 6) : bits BinOp.and .i64 ((m : Int) / 2 ^ j) 1 = if m.testBit j then 1 else 0 := by
 have h : ∀ m : Fin 64, ∀ j : Fin 6, bits BinOp.and .i64 (((m : Nat) : Int) / 2 ^ (j : Nat)) 1 = if (m : Nat).testBit (j : Nat) then 1 else 0 := of_decide_eq_true (by kernel_rfl)
 exact h ⟨m, hm⟩ ⟨j, hj⟩
def listN (set many : Nat) : List Nat := (List.range many).filter fun i => set.testBit i
theorem listN_succ (set k : Nat) : listN set (k + 1) = listN set k ++ if set.testBit k then [k] else [] := by
 simp only [listN, List.range_succ, List.filter_append, List.filter_cons, List.filter_nil]
theorem listN_le (set k : Nat) : (listN set k).length ≤ k := by simpa [listN] using List.length_filter_le (fun i => set.testBit i) (List.range k)

set_option maxHeartbeats 1600000 in
set_option maxRecDepth 100000 in
theorem list_any {set many : Nat} (hs : set < 64) (hm : many ≤ 6) (w : World) :
 Calls Tryz.prog 75 #[.int .i64 set, .int .i64 many] w fun e w' =>
  ∃ A c, e = .returned (.slice A (listN set many).length c) ∧ IntsS w' w'.heap.size A (listN set many).length c (natInts (listN set many)) ∧ (∀ ad, A = some ad → w.heap.size ≤ ad.block) ∧ Below w.heap.size w w' := by
 obtain ⟨i0, hi, hz0, hz1, hz2⟩ := info_parts Tryz.infoInt
 go_enter Tryz.func75, Tryz.ntmps75
 go_wp2_with fail
 go_loopw [4, 5, 7] (fun v _ i wr => ∃ (j : Nat), j ≤ many ∧ i = .int .i64 j ∧ Below w.heap.size w wr ∧ wr.ownsRow w.heap.size 3 1 v (listN set j).length ((listN set j).map fun n : Nat => .int .i64 n)) (fun _ _ i _ => many - (intOf i).toNat)
 case atStart => exact ⟨0, Nat.zero_le _, rfl, Below.refl _ _, World.ownsRow_nil _ _ _ _⟩
 case round =>
  obtain ⟨j, hj, rfl, hB, hown⟩ := hrel
  have hj0 : (0 : Int) ≤ (j : Int) := Int.natCast_nonneg _
  by_cases hlt : j < many
  · have hle := listN_le set j
    have hj1 : (j : Int) < (many : Int) := by omega
    have hba := bits_and6 hs (show j < 6 by omega)
    have hsz := hB.size
    have HS := hide (listN_succ set j)
    cases hb : set.testBit j with
    | true =>
     rw [hb, if_pos rfl] at hba
     have e : listN set (j + 1) = listN set j ++ [j] := by rw [HS.out, hb]; rfl
     have HE := hide e
     clear e
     go_wp2_with (first
      | (at_builtin
         refine wpList_append_own _ rfl _ _ 35 rfl w.heap.size 3 i0 (.int .i64 0) 1 8 Tryz.underlying35 hi hz0 hz1 hz2 rfl (by decide) _ _ _ rfl (hown.alloc _) ⟨wr.heap.size, 0, none⟩ 1 1 [.int .i64 j] rfl rfl ?c1 ?c2 ?c3 ?c4 ?c5 ?_
         case c1 => exact cell_one_new _ _ _
         case c2 => simp [Value.oneCell']
         case c3 => simp [maxLen]; omega
         case c4 => omega
         case c5 => simp; omega
         intro v' w1 hown' hg _
         have hb1 := app_below hsz hown hg
         clear hg))
     clear hi hz0 hz1 hz2
     go_roundw
     case rel => exact ⟨j + 1, by omega, by go_num, hB.trans hb1, by rw [HE.out]; simpa using hown'⟩
     case measure => simp [intOf]; omega
    | false =>
     rw [hb, if_neg (by simp)] at hba
     have e : listN set (j + 1) = listN set j := by rw [HS.out, hb]; simp
     have HE := hide e
     clear e
     go_wp2_with fail
     go_roundw
     case rel => exact ⟨j + 1, by omega, by go_num, hB, by rw [HE.out]; exact hown⟩
     case measure => simp [intOf]; omega
  · obtain rfl : j = many := by omega
    go_wp2_with fail
    go_ret
    obtain ⟨A', c', rfl, hs'⟩ := IntsS.of_own (xs := natInts (listN set j)) (by rw [natInts_vals]; exact hown)
    exact ⟨A', c', rfl, hs', (fun ad e => (World.ownsRow.lt hown ad.block (by rw [e]; rfl)).1), hB⟩

def cmp1 (x y : Int) : Int := if x < y then -1 else if y < x then 1 else 0
set_option maxRecDepth 100000 in
theorem cmp_any (x y : Int) (w : World) : Calls Tryz.prog 107 #[.int .i64 x, .int .i64 y] w fun e w' => e = .returned (.int .i64 (cmp1 x y)) ∧ w = w' := by
 have hn : ∀ z : Int, Calls Tryz.prog 129 #[.int .i64 z] w fun e w' => e = .returned (.bool false) ∧ w = w' := fun z => by
  go_enter Tryz.func129, Tryz.ntmps129
  go_wp2_with fail
  go_ret
  exact ⟨ret_b (by simp), rfl⟩
 have HN := hide hn
 clear hn
 by_cases h1 : x < y
 · have HE := hide (show cmp1 x y = -1 by rw [cmp1, if_pos h1])
   go_enter Tryz.func107, Tryz.ntmps107
   go_wp2_with (go_at_call 129; refine (HN.out _).mono ?_; rintro e w' ⟨rfl, rfl⟩)
   go_ret
   exact ⟨by rw [HE.out]; rfl, rfl⟩
 · by_cases h2 : y < x
   · have HE := hide (show cmp1 x y = 1 by rw [cmp1, if_neg h1, if_pos h2])
     go_enter Tryz.func107, Tryz.ntmps107
     go_wp2_with (go_at_call 129; refine (HN.out _).mono ?_; rintro e w' ⟨rfl, rfl⟩)
     go_ret
     exact ⟨by rw [HE.out]; rfl, rfl⟩
   · have HE := hide (show cmp1 x y = 0 by rw [cmp1, if_neg h1, if_neg h2])
     go_enter Tryz.func107, Tryz.ntmps107
     go_wp2_with (go_at_call 129; refine (HN.out _).mono ?_; rintro e w' ⟨rfl, rfl⟩)
     go_ret
     exact ⟨by rw [HE.out]; rfl, rfl⟩

def cmpL : List Int → List Int → Int
 | [], [] => 0
 | [], _ :: _ => -1
 | _ :: _, [] => 1
 | x :: xs, y :: ys => if cmp1 x y ≠ 0 then cmp1 x y else cmpL xs ys
set_option maxHeartbeats 1600000 in
set_option maxRecDepth 100000 in
theorem compare_any {A B : Option Addr} {n m c1 c2 : Nat} {xs ys : List Int} {w : World} (hx : IntsS w w.heap.size A n c1 xs) (hy : IntsS w w.heap.size B m c2 ys) (hn : n ≤ 100) (hm : m ≤ 100) :
 Calls Tryz.prog 76 #[.slice A n c1, .slice B m c2] w fun e w' => e = .returned (.int .i64 (cmpL xs ys)) ∧ w = w' := by
 have HX := hide hx
 have HY := hide hy
 have hxl := hx.len
 have hyl := hy.len
 have HXL := hide hxl
 have HYL := hide hyl
 clear hx hy hxl hyl
 have HC := hide (fun x y => cmp_any x y w)
 go_enter Tryz.func76, Tryz.ntmps76
 go_wp2_with fail
 go_loopw [5, 6, 7, 8, 11] (fun _ _ _ _ i wr => ∃ k : Nat, k ≤ n ∧ k ≤ m ∧ i = .int .i64 k ∧ w = wr ∧ Hid (cmpL xs ys = cmpL (xs.drop k) (ys.drop k))) (fun _ _ _ _ i _ => n - (intOf i).toNat)
 case atStart => exact ⟨0, Nat.zero_le _, Nat.zero_le _, rfl, rfl, hide rfl⟩
 case round =>
  obtain ⟨k, hk, hkm, rfl, rfl, HE⟩ := hrel
  have hk0 : (0 : Int) ≤ (k : Int) := Int.natCast_nonneg _
  by_cases hlt : k < n
  · have hk1 : (k : Int) < (n : Int) := by omega
    obtain ⟨ba, oa, rfl, hba, h0⟩ := HX.out.row.ints hlt
    have e1 := drop_nth (l := xs) (j := k) (by rw [HXL.out]; exact hlt)
    by_cases hlm : k < m
    · have hk2 : (k : Int) < (m : Int) := by omega
      have hk3 : ¬ (k : Int) ≥ (m : Int) := by omega
      obtain ⟨bb, ob, rfl, hbb, h1⟩ := HY.out.row.ints hlm
      have e2 := drop_nth (l := ys) (j := k) (by rw [HYL.out]; exact hlm)
      have HE2 := hide (show cmpL xs ys = if cmp1 (nth xs k) (nth ys k) ≠ 0 then cmp1 (nth xs k) (nth ys k) else cmpL (xs.drop (k + 1)) (ys.drop (k + 1)) by rw [HE.out, e1, e2]; rfl)
      clear e1 e2 HE
      by_cases hz : cmp1 (nth xs k) (nth ys k) = 0
      · have HE3 := hide (show cmpL xs ys = cmpL (xs.drop (k + 1)) (ys.drop (k + 1)) by rw [HE2.out, if_neg (by simp [hz])])
        clear HE2
        go_wp2_with (go_at_call 107; refine (HC.out _ _).mono ?_; rintro e w' ⟨rfl, rfl⟩)
        go_roundw
        case rel => exact ⟨k + 1, by omega, by omega, by go_num, trivial, HE3⟩
        case measure => simp [intOf]; omega
      · have HE3 := hide (show cmpL xs ys = cmp1 (nth xs k) (nth ys k) by rw [HE2.out, if_pos hz])
        clear HE2
        have hz2 : (cmp1 (nth xs k) (nth ys k) == 0) = false := by simpa using hz
        go_wp2_with (go_at_call 107; refine (HC.out _ _).mono ?_; rintro e w' ⟨rfl, rfl⟩)
        go_ret
        exact ⟨by rw [HE3.out]; rfl, rfl⟩
    · obtain rfl : k = m := by omega
      have e2 : ys.drop k = [] := List.drop_eq_nil_of_le (by rw [HYL.out]; exact Nat.le_refl _)
      have HE2 := hide (show cmpL xs ys = 1 by rw [HE.out, e1, e2]; rfl)
      clear e1 HE
      have hk3 : (k : Int) ≥ (k : Int) := by omega
      go_wp2_with fail
      go_ret
      exact ⟨by rw [HE2.out]; rfl, rfl⟩
  · obtain rfl : k = n := by omega
    have e0 : cmpL xs ys = cmpL [] (ys.drop k) := by rw [HE.out, List.drop_eq_nil_of_le (by rw [HXL.out]; exact Nat.le_refl _)]
    by_cases hlm : k < m
    · have hk2 : (k : Int) < (m : Int) := by omega
      have HE2 := hide (show cmpL xs ys = -1 by rw [e0, drop_nth (by rw [HYL.out]; exact hlm)]; rfl)
      clear e0 HE
      go_wp2_with fail
      go_ret
      exact ⟨by rw [HE2.out]; rfl, rfl⟩
    · obtain rfl : k = m := by omega
      have HE2 := hide (show cmpL xs ys = 0 by rw [e0, List.drop_eq_nil_of_le (by rw [HYL.out]; exact Nat.le_refl _)]; rfl)
      clear e0 HE
      have hk2 : ¬ (k : Int) < (k : Int) := by omega
      go_wp2_with fail
      go_ret
      exact ⟨by rw [HE2.out]; rfl, rfl⟩
def worse (l b : List Nat) : Bool := decide (b.length < l.length) || (decide (l.length = b.length) && decide (cmpL (natInts l) (natInts b) > 0))
/-- The best of the first k sets. -/
def fwTo (many : Nat) (ans : Nat → Bool) : Nat → Option (List Nat)
 | 0 => none
 | k + 1 => match fwTo many ans k with
  | none => if ans k then some (listN k many) else none
  | some b => if worse (listN k many) b then some b else if ans k then some (listN k many) else some b
theorem fwTo_len {many : Nat} {ans : Nat → Bool} : ∀ {k : Nat} {b : List Nat}, fwTo many ans k = some b → b.length ≤ many
 | 0, b, h => by cases h
 | k + 1, b, h => by
  rw [fwTo] at h
  cases ho : fwTo many ans k with
  | none =>
   rw [ho] at h
   simp only at h
   split at h
   · cases h; exact listN_le _ _
   · cases h
  | some b' =>
   rw [ho] at h
   simp only at h
   split at h
   · cases h; exact fwTo_len ho
   · split at h
     · cases h; exact listN_le _ _
     · cases h; exact fwTo_len ho
def Best (B : Nat) (wr : World) (v4 v5 : Value) : Option (List Nat) → Prop
 | none => v4 = .slice none 0 0 ∧ v5 = .bool false
 | some b => v5 = .bool true ∧ ∃ A c, v4 = .slice A b.length c ∧ IntsS wr wr.heap.size A b.length c (natInts b) ∧ (∀ ad, A = some ad → B ≤ ad.block)
theorem Row.keepS {w w' : World} {S : Nat → Prop} {B m : Nat} {A : Option Addr} {f : Nat → Value} (h : Row w w.heap.size A m f) (hk : Keep S w w') (hA : ∀ ad, A = some ad → B ≤ ad.block) (hS : ∀ k, S k → k < B) : Row w' w'.heap.size A m f := fun hm => by
 obtain ⟨b, off, e, hb, hc⟩ := h hm
 have hB := hA _ e
 refine ⟨b, off, e, Nat.lt_of_lt_of_le hb hk.size, fun j hj => (hk.cell hb (fun h => ?_)).trans (hc j hj)⟩
 have := hS b h
 exact absurd hB (by show ¬ B ≤ b; omega)
theorem Best.keep {B : Nat} {w w' : World} {v4 v5 : Value} {o : Option (List Nat)} {S : Nat → Prop} (h : Best B w v4 v5 o) (hk : Keep S w w') (hS : ∀ k, S k → k < B) : Best B w' v4 v5 o := by
 match o, h with
 | none, h => exact h
 | some b, ⟨h1, A, c, h2, h3, h4⟩ => exact ⟨h1, A, c, h2, ⟨h3.len, h3.cap, h3.max, h3.row.keepS hk h4 hS⟩, h4⟩
theorem Best.new {B : Nat} {w : World} {A : Option Addr} {c : Nat} {b : List Nat} (h : IntsS w w.heap.size A b.length c (natInts b)) (hA : ∀ ad, A = some ad → B ≤ ad.block) : Best B w (.slice A b.length c) (.bool true) (some b) := ⟨rfl, A, c, rfl, h, hA⟩

end Go.Proofs.YtocdmkilnbpkdaaGreatDoor
