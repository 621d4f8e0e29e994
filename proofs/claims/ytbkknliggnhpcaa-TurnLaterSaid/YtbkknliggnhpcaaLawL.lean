/- The law TurnLater: for any cargo, hours and numbers the statement's function returns true. -/
import Derived.Test.YtbkknliggnhpcaaRefV
import Derived.Test.YtbkknliggnhpcaaRefW
import Derived.Test.YtbkknliggnhpcaaQr
import Derived.Test.YtbkknliggnhpcaaBlk
import Derived.Deep.DeepCutAuto
set_option linter.unusedVariables false
set_option linter.unusedSimpArgs false
namespace Go.Proofs.Ytbkknliggnhpcaa
open Go.RowKit
attribute [local go_sem ↓] Go.wp_at_zero Go.wp_at_succ

theorem range_set4 {n i : Nat} (hi : i < n) (xs : List Lot) (hx : xs.length = n) (s : Lot) :
    ((((((List.range (n * 4)).map (lotsF xs)).set (i * 4) (.int .i64 s.hold)).set (i * 4 + 1) (.int .i64 s.frm)).set (i * 4 + 2) (.int .i64 s.green.lo)).set (i * 4 + 3) (.int .i64 s.green.hi)) = (List.range (n * 4)).map (lotsF (xs.set i s)) := by
  apply List.ext_getElem (by simp)
  intro j h1 h2
  have hj : j < n * 4 := by simpa using h2
  have e0 : nth (xs.set i s) i = s := by simp [nth, hx, hi]
  have e1 : ∀ k, k ≠ i → nth (xs.set i s) k = nth xs k := fun k hk => by simp [nth, List.getElem?_set, Ne.symm hk]
  simp only [List.getElem_set, List.getElem_map, List.getElem_range]
  by_cases q : i * 4 + 3 = j
  · subst q; rw [if_pos rfl, lotsF, show (i * 4 + 3) % 4 = 3 by omega, show (i * 4 + 3) / 4 = i by omega, e0]; rfl
  · rw [if_neg q]
    by_cases a : i * 4 + 2 = j
    · subst a; rw [if_pos rfl, lotsF, show (i * 4 + 2) % 4 = 2 by omega, show (i * 4 + 2) / 4 = i by omega, e0]; rfl
    · rw [if_neg a]
      by_cases b : i * 4 + 1 = j
      · subst b; rw [if_pos rfl, lotsF, show (i * 4 + 1) % 4 = 1 by omega, show (i * 4 + 1) / 4 = i by omega, e0]; rfl
      · rw [if_neg b]
        by_cases d : i * 4 = j
        · subst d; rw [if_pos rfl, lotsF, show (i * 4) % 4 = 0 by omega, show (i * 4) / 4 = i by omega, e0]; rfl
        · rw [if_neg d, lotsF, lotsF, e1 (j / 4) (by omega)]
theorem ints_set {n i : Nat} (hi : i < n) (xs : List Int) (hx : xs.length = n) (u : Int) : (xs.map (Value.int .i64)).set i (.int .i64 u) = (xs.set i u).map (Value.int .i64) := by
  rw [List.map_set]
set_option maxHeartbeats 2000000 in
set_option maxRecDepth 100000 in
theorem later_bad {A1 A2 A3 A4 : Option Addr} {c1 c2 c3 c4 : Nat} {c : Cargo} {w : World} (h : CargoV w w.heap.size c A1 A2 A3 A4 c1 c2 c3 c4) (xa xb ya yb yc yd : Int) (hc : (checkM c).2.2 ≠ 0) :
    Calls Try.prog 13 #[cargoVal c A1 A2 A3 A4 c1 c2 c3 c4, .agg #[.int .u8 xa, .int .u8 xb], .agg #[.int .u8 ya, .int .u8 yb, .int .u8 yc, .int .u8 yd]] w fun e w' => e = .returned (.bool true) ∧ Below w.heap.size w w' := by
  have hA1 : Below w.heap.size w (w.alloc (.cells #[.slice A1 c.heat.length c1, .int .i64 c.gas, .slice A2 c.holds.length c2, .slice A3 c.lots.length c3, .slice A4 c.seen.length c4] 27)) := (Below.refl _ _).alloc (Nat.le_refl _) _
  have hA2 : Below (w.alloc (.cells #[.slice A1 c.heat.length c1, .int .i64 c.gas, .slice A2 c.holds.length c2, .slice A3 c.lots.length c3, .slice A4 c.seen.length c4] 27)).heap.size (w.alloc (.cells #[.slice A1 c.heat.length c1, .int .i64 c.gas, .slice A2 c.holds.length c2, .slice A3 c.lots.length c3, .slice A4 c.seen.length c4] 27)) ((w.alloc (.cells #[.slice A1 c.heat.length c1, .int .i64 c.gas, .slice A2 c.holds.length c2, .slice A3 c.lots.length c3, .slice A4 c.seen.length c4] 27)).alloc (.cells #[.int .u8 xa, .int .u8 xb] 82)) := (Below.refl _ _).alloc (Nat.le_refl _) _
  have hA3 : Below ((w.alloc (.cells #[.slice A1 c.heat.length c1, .int .i64 c.gas, .slice A2 c.holds.length c2, .slice A3 c.lots.length c3, .slice A4 c.seen.length c4] 27)).alloc (.cells #[.int .u8 xa, .int .u8 xb] 82)).heap.size ((w.alloc (.cells #[.slice A1 c.heat.length c1, .int .i64 c.gas, .slice A2 c.holds.length c2, .slice A3 c.lots.length c3, .slice A4 c.seen.length c4] 27)).alloc (.cells #[.int .u8 xa, .int .u8 xb] 82)) (((w.alloc (.cells #[.slice A1 c.heat.length c1, .int .i64 c.gas, .slice A2 c.holds.length c2, .slice A3 c.lots.length c3, .slice A4 c.seen.length c4] 27)).alloc (.cells #[.int .u8 xa, .int .u8 xb] 82)).alloc (.cells #[.int .u8 ya, .int .u8 yb, .int .u8 yc, .int .u8 yd] 83)) := (Below.refl _ _).alloc (Nat.le_refl _) _
  have HK := hide (((BoxC.made h).next hA2).next hA3)
  have HB := hide ((hA1.trans (hA2.mono hA1.size)).trans (hA3.mono (by simp; omega)))
  have bx : Blk ((w.alloc (.cells #[.slice A1 c.heat.length c1, .int .i64 c.gas, .slice A2 c.holds.length c2, .slice A3 c.lots.length c3, .slice A4 c.seen.length c4] 27)).alloc (.cells #[.int .u8 xa, .int .u8 xb] 82)) (w.heap.size + 1) 82 #[.int .u8 xa, .int .u8 xb] := Blk.made' (by simp)
  have bb : Blk (w.alloc (.cells #[.slice A1 c.heat.length c1, .int .i64 c.gas, .slice A2 c.holds.length c2, .slice A3 c.lots.length c3, .slice A4 c.seen.length c4] 27)) w.heap.size 27 #[.slice A1 c.heat.length c1, .int .i64 c.gas, .slice A2 c.holds.length c2, .slice A3 c.lots.length c3, .slice A4 c.seen.length c4] := Blk.made
  have by_ : Blk (((w.alloc (.cells #[.slice A1 c.heat.length c1, .int .i64 c.gas, .slice A2 c.holds.length c2, .slice A3 c.lots.length c3, .slice A4 c.seen.length c4] 27)).alloc (.cells #[.int .u8 xa, .int .u8 xb] 82)).alloc (.cells #[.int .u8 ya, .int .u8 yb, .int .u8 yc, .int .u8 yd] 83)) (w.heap.size + 1 + 1) 83 #[.int .u8 ya, .int .u8 yb, .int .u8 yc, .int .u8 yd] := Blk.made' (by simp)
  have HXB := hide (bx.next hA3)
  have HBB := hide ((bb.next hA2).next hA3)
  have HYB := hide by_
  clear hA1 hA2 hA3 bx bb by_
  have HVF := hide (show decide ((checkM c).2.2 = 0) = false by simpa using hc)
  clear h hc
  go_enter Try.func13, Try.ntmps13
  go_upto_region 1 with (fail)
  generalize (((w.alloc (.cells #[.slice A1 c.heat.length c1, .int .i64 c.gas, .slice A2 c.holds.length c2, .slice A3 c.lots.length c3, .slice A4 c.seen.length c4] 27)).alloc (.cells #[.int .u8 xa, .int .u8 xb] 82)).alloc (.cells #[.int .u8 ya, .int .u8 yb, .int .u8 yc, .int .u8 yd] 83)) = v0 at *
  obtain ⟨hv, z, x0, x1, x2, x3, x4⟩ := HK.out
  have HV := hide hv
  clear hv
  go_wp2_with (first | (go_at_call 35; refine (valid7_any HV.out (v := false) HVF.out).mono ?_; rintro e v1 ⟨rfl, hb⟩; have HB := hide (HB.out.trans (hb.mono HB.out.size)); have HK := hide (HK.out.next hb); have HBB := hide (HBB.out.next hb); have HXB := hide (HXB.out.next hb); have HYB := hide (HYB.out.next hb); clear hb z x0 x1 x2 x3 x4 HV; obtain ⟨hv, z, x0, x1, x2, x3, x4⟩ := HK.out; have HV := hide hv; clear hv) | (go_at_call 23; refine (awake_any _).mono ?_; rintro e v10 ⟨rfl, hb⟩))
  go_ret
  exact ⟨rfl, HB.out.trans (hb.mono HB.out.size)⟩

set_option maxHeartbeats 12000000 in
set_option maxRecDepth 100000 in
theorem later_ok_any {A1 A2 A3 A4 : Option Addr} {c1 c2 c3 c4 : Nat} {c : Cargo} {w : World} (h : CargoV w w.heap.size c A1 A2 A3 A4 c1 c2 c3 c4) (xa xb ya yb yc yd : Int) (hxa : 0 ≤ xa ∧ xa ≤ 255) (hxb : 0 ≤ xb ∧ xb ≤ 255) (hya : 0 ≤ ya ∧ ya ≤ 255) (hyb : 0 ≤ yb ∧ yb ≤ 255) (hyc : 0 ≤ yc ∧ yc ≤ 255) (hyd : 0 ≤ yd ∧ yd ≤ 255) (hval : Valid c) :
    Calls Try.prog 13 #[cargoVal c A1 A2 A3 A4 c1 c2 c3 c4, .agg #[.int .u8 xa, .int .u8 xb], .agg #[.int .u8 ya, .int .u8 yb, .int .u8 yc, .int .u8 yd]] w fun e w' => e = .returned (.bool true) ∧ Below w.heap.size w w' := by
  obtain ⟨i4, hI4, hz40, hz41, hz42⟩ := info_parts Try.infoLot
  obtain ⟨i0, hI0, hz00, hz01, hz02⟩ := info_parts Try.infoInt
  have hA1 : Below w.heap.size w (w.alloc (.cells #[.slice A1 c.heat.length c1, .int .i64 c.gas, .slice A2 c.holds.length c2, .slice A3 c.lots.length c3, .slice A4 c.seen.length c4] 27)) := (Below.refl _ _).alloc (Nat.le_refl _) _
  have hA2 : Below (w.alloc (.cells #[.slice A1 c.heat.length c1, .int .i64 c.gas, .slice A2 c.holds.length c2, .slice A3 c.lots.length c3, .slice A4 c.seen.length c4] 27)).heap.size (w.alloc (.cells #[.slice A1 c.heat.length c1, .int .i64 c.gas, .slice A2 c.holds.length c2, .slice A3 c.lots.length c3, .slice A4 c.seen.length c4] 27)) ((w.alloc (.cells #[.slice A1 c.heat.length c1, .int .i64 c.gas, .slice A2 c.holds.length c2, .slice A3 c.lots.length c3, .slice A4 c.seen.length c4] 27)).alloc (.cells #[.int .u8 xa, .int .u8 xb] 82)) := (Below.refl _ _).alloc (Nat.le_refl _) _
  have hA3 : Below ((w.alloc (.cells #[.slice A1 c.heat.length c1, .int .i64 c.gas, .slice A2 c.holds.length c2, .slice A3 c.lots.length c3, .slice A4 c.seen.length c4] 27)).alloc (.cells #[.int .u8 xa, .int .u8 xb] 82)).heap.size ((w.alloc (.cells #[.slice A1 c.heat.length c1, .int .i64 c.gas, .slice A2 c.holds.length c2, .slice A3 c.lots.length c3, .slice A4 c.seen.length c4] 27)).alloc (.cells #[.int .u8 xa, .int .u8 xb] 82)) (((w.alloc (.cells #[.slice A1 c.heat.length c1, .int .i64 c.gas, .slice A2 c.holds.length c2, .slice A3 c.lots.length c3, .slice A4 c.seen.length c4] 27)).alloc (.cells #[.int .u8 xa, .int .u8 xb] 82)).alloc (.cells #[.int .u8 ya, .int .u8 yb, .int .u8 yc, .int .u8 yd] 83)) := (Below.refl _ _).alloc (Nat.le_refl _) _
  have HK := hide (((BoxC.made h).next hA2).next hA3)
  have HB := hide ((hA1.trans (hA2.mono hA1.size)).trans (hA3.mono (by simp; omega)))
  have bx : Blk ((w.alloc (.cells #[.slice A1 c.heat.length c1, .int .i64 c.gas, .slice A2 c.holds.length c2, .slice A3 c.lots.length c3, .slice A4 c.seen.length c4] 27)).alloc (.cells #[.int .u8 xa, .int .u8 xb] 82)) (w.heap.size + 1) 82 #[.int .u8 xa, .int .u8 xb] := Blk.made' (by simp)
  have bb : Blk (w.alloc (.cells #[.slice A1 c.heat.length c1, .int .i64 c.gas, .slice A2 c.holds.length c2, .slice A3 c.lots.length c3, .slice A4 c.seen.length c4] 27)) w.heap.size 27 #[.slice A1 c.heat.length c1, .int .i64 c.gas, .slice A2 c.holds.length c2, .slice A3 c.lots.length c3, .slice A4 c.seen.length c4] := Blk.made
  have by_ : Blk (((w.alloc (.cells #[.slice A1 c.heat.length c1, .int .i64 c.gas, .slice A2 c.holds.length c2, .slice A3 c.lots.length c3, .slice A4 c.seen.length c4] 27)).alloc (.cells #[.int .u8 xa, .int .u8 xb] 82)).alloc (.cells #[.int .u8 ya, .int .u8 yb, .int .u8 yc, .int .u8 yd] 83)) (w.heap.size + 1 + 1) 83 #[.int .u8 ya, .int .u8 yb, .int .u8 yc, .int .u8 yd] := Blk.made' (by simp)
  have HXB := hide (bx.next hA3)
  have HBB := hide ((bb.next hA2).next hA3)
  have HYB := hide by_
  clear hA1 hA2 hA3 bx bb by_
  have HC0 := hide h
  have HVD := hide hval
  have HVF := hide (show decide ((checkM c).2.2 = 0) = true by simpa using valid_check hval)
  have hl4 := hval.lots
  have hh8 := hval.hours
  have hg3 := hval.gas
  have hm1 := h.m1
  have hm3 := h.m3
  clear h hval
  go_enter Try.func13, Try.ntmps13
  go_upto_region 1 with (fail)
  generalize (((w.alloc (.cells #[.slice A1 c.heat.length c1, .int .i64 c.gas, .slice A2 c.holds.length c2, .slice A3 c.lots.length c3, .slice A4 c.seen.length c4] 27)).alloc (.cells #[.int .u8 xa, .int .u8 xb] 82)).alloc (.cells #[.int .u8 ya, .int .u8 yb, .int .u8 yc, .int .u8 yd] 83)) = v0 at *
  obtain ⟨hv, z, x0, x1, x2, x3, x4⟩ := HK.out
  have HV := hide hv
  clear hv
  have hl0 : (0 : Int) ≤ (c.heat.length : Int) := Int.natCast_nonneg _
  have hl1 : (c.heat.length : Int) ≤ 8 := by omega
  have hw1 : IntKind.i64.wrap ((c.heat.length : Int) + 1) = ((c.heat.length : Int) + 1) := IntWalk.i64_in _ (by omega)
  go_upto_region 4 with (go_at_call 35; refine (valid7_any HV.out (v := true) HVF.out).mono ?_; rintro e v1 ⟨rfl, hb⟩; have HB := hide (HB.out.trans (hb.mono HB.out.size)); have HK := hide (HK.out.next hb); have HBB := hide (HBB.out.next hb); have HXB := hide (HXB.out.next hb); have HYB := hide (HYB.out.next hb); clear hb z x0 x1 x2 x3 x4 HV; obtain ⟨hv, z, x0, x1, x2, x3, x4⟩ := HK.out; have HV := hide hv; clear hv)
  have yx0 : v1.cell? ⟨w.heap.size + 1, 0, none⟩ = some (.int .u8 xa) := HXB.out.at_ 0
  have yx1 : v1.cell? ⟨w.heap.size + 1, 1, none⟩ = some (.int .u8 xb) := HXB.out.at_ 1
  have zx : w.heap.size + 1 < v1.heap.size := HXB.out.lt
  have hp0 := Int.emod_nonneg xa (show ((c.heat.length : Int) + 1) ≠ 0 by omega)
  have hp1 := Int.emod_lt_of_pos xa (show 0 < ((c.heat.length : Int) + 1) by omega)
  have hp2 := Int.emod_nonneg xb (show ((c.heat.length : Int) + 1) ≠ 0 by omega)
  have hp3 := Int.emod_lt_of_pos xb (show 0 < ((c.heat.length : Int) + 1) by omega)
  have hm1' : xa.tmod ((c.heat.length : Int) + 1) = xa % ((c.heat.length : Int) + 1) := Int.tmod_eq_emod_of_nonneg hxa.1
  have hm2' : xb.tmod ((c.heat.length : Int) + 1) = xb % ((c.heat.length : Int) + 1) := Int.tmod_eq_emod_of_nonneg hxb.1
  have hz1 : (((c.heat.length : Int) + 1) == 0) = false := by rw [beq_eq_false_iff_ne]; omega
  have hz2 : ((c.heat.length : Int) + 1) ≠ 0 := by omega
  have hw2 : IntKind.i64.wrap (xb % ((c.heat.length : Int) + 1)) = xb % ((c.heat.length : Int) + 1) := IntWalk.i64_in _ (by omega)
  have hw3 : IntKind.i64.wrap (xa % ((c.heat.length : Int) + 1)) = xa % ((c.heat.length : Int) + 1) := IntWalk.i64_in _ (by omega)
  have hw4 : IntKind.i64.wrap xa = xa := IntWalk.i64_in _ (by omega)
  have hw5 : IntKind.i64.wrap xb = xb := IntWalk.i64_in _ (by omega)
  refine wp_post0 (fun act0 a W => ∃ vs : Nat → Value, a = { tmps := setAll (fun oi => [38, 39, 40, 41, 42, 43, 44, 45, 46, 47, 8, 9].getD oi 0) vs [0, 1, 2, 3, 4, 5, 6, 7, 8, 9, 10, 11] act0.tmps, defers := act0.defers } ∧ Below v1.heap.size v1 W ∧ vs 10 = .int .i64 (xa % ((c.heat.length : Int) + 1)) ∧ vs 11 = .int .i64 (xb % ((c.heat.length : Int) + 1))) ?reg ?imp
  case reg =>
    have hST : Stab v1.heap.size (fun oi v W => match oi with | 0 => v = .pointer (some ⟨w.heap.size + 1, 0, none⟩) | 1 => v = .int .u8 xa | 2 => v = .int .i64 xa | 3 => v = .int .i64 ((c.heat.length : Int) + 1) | 4 => v = .int .i64 (xa % ((c.heat.length : Int) + 1)) | 5 => v = .pointer (some ⟨w.heap.size + 1, 1, none⟩) | 6 => v = .int .u8 xb | 7 => v = .int .i64 xb | 8 => v = .int .i64 ((c.heat.length : Int) + 1) | 9 => v = .int .i64 (xb % ((c.heat.length : Int) + 1)) | 10 => v = .int .i64 (xa % ((c.heat.length : Int) + 1)) | 11 => v = .int .i64 (xb % ((c.heat.length : Int) + 1)) | _ => True) (fun oi v b => match oi with  | _ => False) := by
      intro oi v W W' h hbs hz hk
      match oi, h, hk with
      | 0, h, hk => exact h
      | 1, h, hk => exact h
      | 2, h, hk => exact h
      | 3, h, hk => exact h
      | 4, h, hk => exact h
      | 5, h, hk => exact h
      | 6, h, hk => exact h
      | 7, h, hk => exact h
      | 8, h, hk => exact h
      | 9, h, hk => exact h
      | 10, h, hk => exact h
      | 11, h, hk => exact h
      | oi + 12, h, hk => exact trivial
    refine wp_region_inv (dst := fun oi => [38, 39, 40, 41, 42, 43, 44, 45, 46, 47, 8, 9].getD oi 0) (mono := fun oi => decide (oi < 12)) (pre := fun oi => decide (oi < 12)) (G := Loose 12 v1.heap.size (fun oi => match oi with  | _ => 12) (fun oi v W => match oi with | 0 => v = .pointer (some ⟨w.heap.size + 1, 0, none⟩) | 1 => v = .int .u8 xa | 2 => v = .int .i64 xa | 3 => v = .int .i64 ((c.heat.length : Int) + 1) | 4 => v = .int .i64 (xa % ((c.heat.length : Int) + 1)) | 5 => v = .pointer (some ⟨w.heap.size + 1, 1, none⟩) | 6 => v = .int .u8 xb | 7 => v = .int .i64 xb | 8 => v = .int .i64 ((c.heat.length : Int) + 1) | 9 => v = .int .i64 (xb % ((c.heat.length : Int) + 1)) | 10 => v = .int .i64 (xa % ((c.heat.length : Int) + 1)) | 11 => v = .int .i64 (xb % ((c.heat.length : Int) + 1)) | _ => True) (fun oi v b => match oi with  | _ => False)) (by kernel_rfl) (by kernel_rfl) (Loose.start (Nat.le_refl _)) ?hstep ?hend
    case hstep =>
      intro oi hoi hom listed vs a W hU hsz hG hcl hl haft K hK
      have hb := ((Below.refl v1.heap.size v1).drew).trans hU.below
      have hF := Loose.stepF hU hG hST hoi hK
      match oi, hoi, hom with
      | 0, hoi, hom =>
        have z4 : a.tmps[4]?.getD undef = .pointer (some ⟨w.heap.size + 1, 0, none⟩) := hU.same 4 (by decide)
        refine wpOp_value (v := .pointer (some ⟨w.heap.size + 1, 0, none⟩)) (W' := W) rfl rfl ?_ (hF _ _ (Below.refl _ _) rfl (fun _ h => False.elim h))
        go_simp
      | 1, hoi, hom =>
        have l0 := haft _ rfl { on := 0, ground := .data } (by simp) rfl
        have p0 := hG.pv 0 (by decide) (live_end hsz rfl l0)
        have s0 : a.tmps[38]?.getD undef = vs 0 := hU.slot 0 (by decide) l0
        have hv0 : vs 0 = .pointer (some ⟨w.heap.size + 1, 0, none⟩) := p0
        rw [hv0] at s0
        have y0 := (hb.cell (p := ⟨w.heap.size + 1, 0, none⟩) (zx)).trans (yx0)
        refine wpOp_value (v := .int .u8 xa) (W' := W) rfl rfl ?_ (hF _ _ (Below.refl _ _) rfl (fun _ h => False.elim h))
        go_simp
      | 2, hoi, hom =>
        have l1 := haft _ rfl { on := 1, ground := .data } (by simp) rfl
        have p1 := hG.pv 1 (by decide) (live_end hsz rfl l1)
        have s1 : a.tmps[39]?.getD undef = vs 1 := hU.slot 1 (by decide) l1
        have hv1 : vs 1 = .int .u8 xa := p1
        rw [hv1] at s1
        refine wpOp_value (v := .int .i64 xa) (W' := W) rfl rfl ?_ (hF _ _ (Below.refl _ _) rfl (fun _ h => False.elim h))
        go_simp
      | 3, hoi, hom =>
        have z7 : a.tmps[7]?.getD undef = .int .i64 ((c.heat.length : Int) + 1) := hU.same 7 (by decide)
        refine wpOp_value (v := .int .i64 ((c.heat.length : Int) + 1)) (W' := W) rfl rfl ?_ (hF _ _ (Below.refl _ _) rfl (fun _ h => False.elim h))
        go_simp
      | 4, hoi, hom =>
        have l2 := haft _ rfl { on := 2, ground := .data } (by simp) rfl
        have p2 := hG.pv 2 (by decide) (live_end hsz rfl l2)
        have s2 : a.tmps[40]?.getD undef = vs 2 := hU.slot 2 (by decide) l2
        have hv2 : vs 2 = .int .i64 xa := p2
        rw [hv2] at s2
        have l3 := haft _ rfl { on := 3, ground := .data } (by simp) rfl
        have p3 := hG.pv 3 (by decide) (live_end hsz rfl l3)
        have s3 : a.tmps[41]?.getD undef = vs 3 := hU.slot 3 (by decide) l3
        have hv3 : vs 3 = .int .i64 ((c.heat.length : Int) + 1) := p3
        rw [hv3] at s3
        refine wpOp_value (v := .int .i64 (xa % ((c.heat.length : Int) + 1))) (W' := W) rfl rfl ?_ (hF _ _ (Below.refl _ _) rfl (fun _ h => False.elim h))
        go_simp
      | 5, hoi, hom =>
        have z4 : a.tmps[4]?.getD undef = .pointer (some ⟨w.heap.size + 1, 0, none⟩) := hU.same 4 (by decide)
        refine wpOp_value (v := .pointer (some ⟨w.heap.size + 1, 1, none⟩)) (W' := W) rfl rfl ?_ (hF _ _ (Below.refl _ _) rfl (fun _ h => False.elim h))
        go_simp
      | 6, hoi, hom =>
        have l5 := haft _ rfl { on := 5, ground := .data } (by simp) rfl
        have p5 := hG.pv 5 (by decide) (live_end hsz rfl l5)
        have s5 : a.tmps[43]?.getD undef = vs 5 := hU.slot 5 (by decide) l5
        have hv5 : vs 5 = .pointer (some ⟨w.heap.size + 1, 1, none⟩) := p5
        rw [hv5] at s5
        have y0 := (hb.cell (p := ⟨w.heap.size + 1, 1, none⟩) (zx)).trans (yx1)
        refine wpOp_value (v := .int .u8 xb) (W' := W) rfl rfl ?_ (hF _ _ (Below.refl _ _) rfl (fun _ h => False.elim h))
        go_simp
      | 7, hoi, hom =>
        have l6 := haft _ rfl { on := 6, ground := .data } (by simp) rfl
        have p6 := hG.pv 6 (by decide) (live_end hsz rfl l6)
        have s6 : a.tmps[44]?.getD undef = vs 6 := hU.slot 6 (by decide) l6
        have hv6 : vs 6 = .int .u8 xb := p6
        rw [hv6] at s6
        refine wpOp_value (v := .int .i64 xb) (W' := W) rfl rfl ?_ (hF _ _ (Below.refl _ _) rfl (fun _ h => False.elim h))
        go_simp
      | 8, hoi, hom =>
        have z7 : a.tmps[7]?.getD undef = .int .i64 ((c.heat.length : Int) + 1) := hU.same 7 (by decide)
        refine wpOp_value (v := .int .i64 ((c.heat.length : Int) + 1)) (W' := W) rfl rfl ?_ (hF _ _ (Below.refl _ _) rfl (fun _ h => False.elim h))
        go_simp
      | 9, hoi, hom =>
        have l7 := haft _ rfl { on := 7, ground := .data } (by simp) rfl
        have p7 := hG.pv 7 (by decide) (live_end hsz rfl l7)
        have s7 : a.tmps[45]?.getD undef = vs 7 := hU.slot 7 (by decide) l7
        have hv7 : vs 7 = .int .i64 xb := p7
        rw [hv7] at s7
        have l8 := haft _ rfl { on := 8, ground := .data } (by simp) rfl
        have p8 := hG.pv 8 (by decide) (live_end hsz rfl l8)
        have s8 : a.tmps[46]?.getD undef = vs 8 := hU.slot 8 (by decide) l8
        have hv8 : vs 8 = .int .i64 ((c.heat.length : Int) + 1) := p8
        rw [hv8] at s8
        refine wpOp_value (v := .int .i64 (xb % ((c.heat.length : Int) + 1))) (W' := W) rfl rfl ?_ (hF _ _ (Below.refl _ _) rfl (fun _ h => False.elim h))
        go_simp
      | 10, hoi, hom =>
        have l4 := haft _ rfl { on := 4, ground := .data } (by simp) rfl
        have p4 := hG.pv 4 (by decide) (live_end hsz rfl l4)
        have s4 : a.tmps[42]?.getD undef = vs 4 := hU.slot 4 (by decide) l4
        have hv4 : vs 4 = .int .i64 (xa % ((c.heat.length : Int) + 1)) := p4
        rw [hv4] at s4
        refine wpOp_value (v := .int .i64 (xa % ((c.heat.length : Int) + 1))) (W' := W) rfl rfl ?_ (hF _ _ (Below.refl _ _) rfl (fun _ h => False.elim h))
        go_simp
      | 11, hoi, hom =>
        have l9 := haft _ rfl { on := 9, ground := .data } (by simp) rfl
        have p9 := hG.pv 9 (by decide) (live_end hsz rfl l9)
        have s9 : a.tmps[47]?.getD undef = vs 9 := hU.slot 9 (by decide) l9
        have hv9 : vs 9 = .int .i64 (xb % ((c.heat.length : Int) + 1)) := p9
        rw [hv9] at s9
        refine wpOp_value (v := .int .i64 (xb % ((c.heat.length : Int) + 1))) (W' := W) rfl rfl ?_ (hF _ _ (Below.refl _ _) rfl (fun _ h => False.elim h))
        go_simp
      | oi + 12, hoi, hom => exact absurd (of_decide_eq_true hom) (by omega)
    case hend =>
      intro listed vs a W hG0 hG hpre
      have hb := ((Below.refl v1.heap.size v1).drew).trans hG0.below
      have hact := hG0.act
      have hT := hG0.lst hpre 0 #[true, true, true, true, true, true, true, true, true, true, true, true] rfl (by kernel_rfl) (hpre 0 (by decide) (by decide))
      rw [hG0.ix hT (l := [0, 1, 2, 3, 4, 5, 6, 7, 8, 9, 10, 11]) (by kernel_rfl)] at hact
      rw [hG0.lo hT (k := 0) (by kernel_rfl)]
      have p10 := hG.pv 10 (by decide) (live_end hG.size rfl (hpre 10 (by decide) (by decide)))
      have p11 := hG.pv 11 (by decide) (live_end hG.size rfl (hpre 11 (by decide) (by decide)))
      subst hT
      refine wpAny_done (by kernel_rfl) ?_ _
      exact ⟨rfl, vs, hact, hb, p10, p11⟩
  case imp =>
  rintro a9 w5 ⟨vs, rfl, hb, hv10, hv11⟩
  simp only [setAll, List.setIfInBounds_toArray, List.set_cons_succ, List.set_cons_zero, List.getD_cons_succ, List.getD_cons_zero]
  rw [hv10, hv11]
  have HB := hide (HB.out.trans (hb.mono HB.out.size)); have HK := hide (HK.out.next hb); have HBB := hide (HBB.out.next hb); have HXB := hide (HXB.out.next hb); have HYB := hide (HYB.out.next hb)
  clear hb hv10 hv11 yx0 yx1 zx hm1' hm2' hz1 hz2 hw1 hw2 hw3 hw4 hw5 z x0 x1 x2 x3 x4 HV
  generalize xa % ((c.heat.length : Int) + 1) = ta at *
  generalize xb % ((c.heat.length : Int) + 1) = tb at *
  obtain ⟨hv, z, x0, x1, x2, x3, x4⟩ := HK.out
  have HV := hide hv
  clear hv
  go_upto_if 49 with (go_at_call 51; refine (someL_any HV.out).mono ?_; rintro e v3 ⟨rfl, hb⟩; have HB := hide (HB.out.trans (hb.mono HB.out.size)); have HK := hide (HK.out.next hb); have HBB := hide (HBB.out.next hb); have HXB := hide (HXB.out.next hb); have HYB := hide (HYB.out.next hb); clear hb z x0 x1 x2 x3 x4 HV; obtain ⟨hv, z, x0, x1, x2, x3, x4⟩ := HK.out; have HV := hide hv; clear hv)
  clear HXB
  go_cut [] (fun wr => Hid (BoxC wr w.heap.size c A1 A2 A3 A4 c1 c2 c3 c4) ∧ Hid (Blk wr w.heap.size 27 #[.slice A1 c.heat.length c1, .int .i64 c.gas, .slice A2 c.holds.length c2, .slice A3 c.lots.length c3, .slice A4 c.seen.length c4]) ∧ Hid (Blk wr (w.heap.size + 1 + 1) 83 #[.int .u8 ya, .int .u8 yb, .int .u8 yc, .int .u8 yd]) ∧ Hid (Below w.heap.size w wr))
  case first =>
    cases hs : someL c with
    | false =>
      clear hs z x0 x1 x2 x3 x4 HV
      go_wp2_with fail
      go_meet
      exact ⟨HK, HBB, HYB, HB⟩
    | true =>
      obtain ⟨q1, q2, q3, q4⟩ := sooner_ok (mx := max ta tb) (mn := min ta tb) HVD.out (someL_true hs).2 (by omega) (by omega) (by omega)
      clear hs
      have hE1 : (if ta < tb then tb else ta) = max ta tb := by split <;> omega
      have hE2 : (if tb < ta then tb else ta) = min ta tb := by split <;> omega
      have HS3 := hide (fun (W : World) A1 A2 A3 A4 c1 c2 c3 c4 (h : CargoV W W.heap.size c A1 A2 A3 A4 c1 c2 c3 c4) => (show Calls Try.prog 20 #[cargoVal c A1 A2 A3 A4 c1 c2 c3 c4, .int .i64 (max ta tb)] W fun e w' => ∃ A cp, e = .returned (.tuple #[.slice A (safeR c (max ta tb)).length cp, .int .i64 0]) ∧ IntsS w' w'.heap.size A (safeR c (max ta tb)).length cp (natInts (safeR c (max ta tb))) ∧ Below W.heap.size W w' from by have := safeW_any h (max ta tb); rw [q1] at this; exact this))
      have HS4 := hide (fun (W : World) A1 A2 A3 A4 c1 c2 c3 c4 (h : CargoV W W.heap.size c A1 A2 A3 A4 c1 c2 c3 c4) => (show Calls Try.prog 20 #[cargoVal c A1 A2 A3 A4 c1 c2 c3 c4, .int .i64 (min ta tb)] W fun e w' => ∃ A cp, e = .returned (.tuple #[.slice A (safeR c (min ta tb)).length cp, .int .i64 0]) ∧ IntsS w' w'.heap.size A (safeR c (min ta tb)).length cp (natInts (safeR c (min ta tb))) ∧ Below W.heap.size W w' from by have := safeW_any h (min ta tb); rw [q2] at this; exact this))
      have HQ3 := hide q3
      have HQ4 := hide q4
      clear q1 q2 q3 q4 hp0 hp1 hp2 hp3
      generalize max ta tb = mx at *
      generalize min ta tb = mn at *
      generalize safeR c mx = sa at *
      generalize safeR c mn = sb at *
      go_upto_region 7 with (go_at_call 20; refine (HS3.out _ _ _ _ _ _ _ _ _ HV.out).mono ?_; rintro e v4 ⟨R1, r1, rfl, hi, hb⟩; have HB := hide (HB.out.trans (hb.mono HB.out.size)); have HK := hide (HK.out.next hb); have HBB := hide (HBB.out.next hb); have HYB := hide (HYB.out.next hb); clear z x0 x1 x2 x3 x4 HV; obtain ⟨hv, z, x0, x1, x2, x3, x4⟩ := HK.out; have HV := hide hv; clear hv; clear hb; have HI1 := hide hi; clear hi)
      go_upto_region 8 with (go_at_call 20; refine (HS4.out _ _ _ _ _ _ _ _ _ HV.out).mono ?_; rintro e v5 ⟨R2, r2, rfl, hi, hb⟩; have HB := hide (HB.out.trans (hb.mono HB.out.size)); have HK := hide (HK.out.next hb); have HBB := hide (HBB.out.next hb); have HYB := hide (HYB.out.next hb); clear z x0 x1 x2 x3 x4 HV; obtain ⟨hv, z, x0, x1, x2, x3, x4⟩ := HK.out; have HV := hide hv; clear hv; have HI1 := hide (HI1.out.next hb); clear hb; have HI2 := hide hi; clear hi)
      clear HS3 HS4
      go_wp2_with (go_at_call 37; refine (rising_any HI1.out _).mono ?_; rintro e v6 ⟨rfl, rfl⟩; rw [HQ3.out])
      clear z x0 x1 x2 x3 x4 HV HQ3
      go_loopw [14] (fun v14 wr => ∃ j : Nat, j ≤ sa.length ∧ v14 = .int .i64 j ∧ Hid (IntsS wr wr.heap.size R1 sa.length r1 (natInts sa)) ∧ Hid (IntsS wr wr.heap.size R2 sb.length r2 (natInts sb)) ∧ Hid (BoxC wr w.heap.size c A1 A2 A3 A4 c1 c2 c3 c4) ∧ Hid (Blk wr w.heap.size 27 #[.slice A1 c.heat.length c1, .int .i64 c.gas, .slice A2 c.holds.length c2, .slice A3 c.lots.length c3, .slice A4 c.seen.length c4]) ∧ Hid (Blk wr (w.heap.size + 1 + 1) 83 #[.int .u8 ya, .int .u8 yb, .int .u8 yc, .int .u8 yd]) ∧ Hid (Below w.heap.size w wr)) (fun v14 _ => sa.length - (intOf v14).toNat)
      case atStart => exact ⟨0, by omega, rfl, HI1, HI2, HK, HBB, HYB, HB⟩
      case round =>
        clear HI1 HI2 HK HBB HYB HB
        obtain ⟨j, hj, rfl, HI1, HI2, HK, HBB, HYB, HB⟩ := hrel
        have hj0 : (0 : Int) ≤ (j : Int) := Int.natCast_nonneg _
        have hbd := HI1.out.bd
        by_cases hlj : j < sa.length
        · have hj1 : (j : Int) < (sa.length : Int) := by omega
          obtain ⟨q5, q6⟩ := HQ4.out (nth sa j) (by rw [nth_eq hlj]; exact List.getElem_mem hlj)
          have HQ6 := hide q6
          clear q6
          obtain ⟨bl, ol, rfl, hbl, hcl⟩ := HI1.out.row (by omega)
          have yl := hcl j hlj
          rw [intsF, nth_natInts hlj] at yl
          clear hcl
          obtain ⟨hv, z, x0, x1, x2, x3, x4⟩ := HK.out
          obtain ⟨b3, o3, rfl, zb3, _, la, _, _⟩ := hv.lots.lots q5
          clear hv
          have hk0 : (0 : Int) ≤ ((nth sa j : Nat) : Int) := Int.natCast_nonneg _
          have hk1 : ((nth sa j : Nat) : Int) < (c.lots.length : Int) := by omega
          cases hfr : decide ((nth c.lots (nth sa j)).frm ≤ mn)
          all_goals
            have HH := hide (fun (h : decide ((nth c.lots (nth sa j)).frm ≤ mn) = true) => HQ6.out (by simpa using h))
            rw [hfr] at HH
          all_goals
            have HHC := hide (fun (t : Later wr) => has_any (HI2.out.next (grow_below (w := wr) (t := t))) ((nth sa j : Nat) : Int))
          all_goals try (have e := HH.out (by rfl); rw [e] at HHC; clear e)
          all_goals
            clear HH HQ6
            go_wp2_with fail
            refine wp_region_grow (by kernel_rfl) (by kernel_rfl) ?_
            have hgc := @grow_cell
            repeat (first | go_big_quiet_step (((go_at_call 38; exact Calls.grow_of_same (HHC.out _)))) | quiet_step (((go_at_call 38; exact Calls.grow_of_same (HHC.out _)))))
            refine wpQuiet_nil ?_
            rintro _ ⟨t, rfl⟩
            have hb := grow_below (w := wr) (t := t)
            generalize grow wr t = wg at *
            have HB := hide (HB.out.trans (hb.mono HB.out.size)); have HK := hide (HK.out.next hb); have HBB := hide (HBB.out.next hb); have HYB := hide (HYB.out.next hb)
            have HI1 := hide (HI1.out.next hb)
            have HI2 := hide (HI2.out.next hb)
            clear hb HHC z x0 x1 x2 x3 x4 la zb3 yl hbl
            go_wp2_with fail
            go_roundw
            case rel => exact ⟨j + 1, by omega, by go_num, HI1, HI2, HK, HBB, HYB, HB⟩
            case measure => simp [intOf]; omega
        · have hjj : j = sa.length := by omega
          subst hjj
          go_wp2_with fail
          go_meet
          exact ⟨HK, HBB, HYB, HB⟩
  case rest =>
    clear HK HBB HYB HB HV z x0 x1 x2 x3 x4 hp0 hp1 hp2 hp3
    obtain ⟨HK, HBB, HYB, HB⟩ := hcut
    obtain ⟨hv, z, x0, x1, x2, x3, x4⟩ := HK.out
    clear hv
    have f4 := HBB.out.free 4
    go_upto_region 16 with (fail)
    have b5 : Blk (wc.setCell ⟨w.heap.size, 4, none⟩ (.slice none 0 0)) w.heap.size 27 #[.slice A1 c.heat.length c1, .int .i64 c.gas, .slice A2 c.holds.length c2, .slice A3 c.lots.length c3, .slice none 0 0] := HBB.out.store 4 (.slice none 0 0)
    have hb5 : Below w.heap.size w (wc.setCell ⟨w.heap.size, 4, none⟩ (.slice none 0 0)) := HB.out.setCell (p := ⟨w.heap.size, 4, none⟩) (Nat.le_refl _) _
    have hy5 := HYB.out.else_ (p := ⟨w.heap.size, 4, none⟩) (show w.heap.size + 1 + 1 ≠ w.heap.size by omega) (.slice none 0 0)
    clear f4 HBB HK HB HYB z x0 x1 x2 x3 x4
    generalize (wc.setCell ⟨w.heap.size, 4, none⟩ (.slice none 0 0)) = v5 at *
    have HBL := hide b5
    have HB0 := hide hb5
    have HYB := hide hy5
    clear b5 hb5 hy5
    have hcv : CargoV v5 v5.heap.size (bareC c) A1 A2 A3 none c1 c2 c3 0 := by
      have h := (HC0.out.below HB0.out).more HB0.out.size
      exact ⟨h.heat, h.holds, h.lots, Row.nil_, h.m1, h.m2, h.m3, by simp [bareC, maxLen]⟩
    have HC5 := hide hcv
    clear hcv
    have z : w.heap.size < v5.heap.size := HBL.out.lt
    have x3 : v5.cell? ⟨w.heap.size, 3, none⟩ = some (.slice A3 c.lots.length c3) := HBL.out.at_ 3
    by_cases hn : c.lots.length = 0
    · have hn0 : ((c.lots.length : Int) == 0) = true := by rw [beq_iff_eq]; omega
      go_wp2_with (go_at_call 23; refine (awake_any _).mono ?_; rintro e v20 ⟨rfl, hb⟩)
      go_ret
      exact ⟨rfl, HB0.out.trans (hb.mono HB0.out.size)⟩
    have hnb : ((c.lots.length : Int) == 0) = false := by rw [beq_eq_false_iff_ne]; omega
    go_upto_region 18 with (fail)
    clear x3
    obtain ⟨b3, o3, hA3, zb3, _⟩ := HC5.out.lots.lots (i := 0) (show 0 < c.lots.length by omega)
    subst hA3
    have x0 : v5.cell? ⟨w.heap.size, 0, none⟩ = some (.slice A1 c.heat.length c1) := HBL.out.at_ 0
    have x1 : v5.cell? ⟨w.heap.size, 1, none⟩ = some (.int .i64 c.gas) := HBL.out.at_ 1
    have x2 : v5.cell? ⟨w.heap.size, 2, none⟩ = some (.slice A2 c.holds.length c2) := HBL.out.at_ 2
    have x3 : v5.cell? ⟨w.heap.size, 3, none⟩ = some (.slice (some ⟨b3, o3, none⟩) c.lots.length c3) := HBL.out.at_ 3
    have x4 : v5.cell? ⟨w.heap.size, 4, none⟩ = some (.slice none 0 0) := HBL.out.at_ 4
    refine wp_post0 (fun act0 a W => ∃ vs : Nat → Value, a = { tmps := setAll (fun oi => [114, 115, 15, 16, 0, 0].getD oi 0) vs [0, 1, 2, 3] act0.tmps, defers := act0.defers } ∧ ∃ ga gb, vs 2 = .pointer (some ⟨ga, 0, none⟩) ∧ vs 3 = .pointer (some ⟨gb, 0, none⟩) ∧ ga ≠ gb ∧ v5.heap.size ≤ ga ∧ v5.heap.size ≤ gb ∧ Below v5.heap.size v5 W ∧ Blk W ga 27 #[.slice A1 c.heat.length c1, .int .i64 c.gas, .slice A2 c.holds.length c2, .slice (some ⟨b3, o3, none⟩) c.lots.length c3, .slice none 0 0] ∧ Blk W gb 27 #[.slice A1 c.heat.length c1, .int .i64 c.gas, .slice A2 c.holds.length c2, .slice (some ⟨b3, o3, none⟩) c.lots.length c3, .slice none 0 0]) ?reg ?imp
    case reg =>
      have hST : Stab v5.heap.size (fun oi v W => match oi with | 0 => v = .agg #[.slice A1 c.heat.length c1, .int .i64 c.gas, .slice A2 c.holds.length c2, .slice (some ⟨b3, o3, none⟩) c.lots.length c3, .slice none 0 0] | 1 => v = .agg #[.slice A1 c.heat.length c1, .int .i64 c.gas, .slice A2 c.holds.length c2, .slice (some ⟨b3, o3, none⟩) c.lots.length c3, .slice none 0 0] | 2 => ∃ gb, v = .pointer (some ⟨gb, 0, none⟩) ∧ v5.heap.size ≤ gb ∧ Blk W gb 27 #[.slice none 0 0, .int .i64 0, .slice none 0 0, .slice none 0 0, .slice none 0 0] | 3 => ∃ gb, v = .pointer (some ⟨gb, 0, none⟩) ∧ v5.heap.size ≤ gb ∧ Blk W gb 27 #[.slice none 0 0, .int .i64 0, .slice none 0 0, .slice none 0 0, .slice none 0 0] | _ => True) (fun oi v b => match oi with | 2 => ∃ o, v = .pointer (some ⟨b, o, none⟩) | 3 => ∃ o, v = .pointer (some ⟨b, o, none⟩) | _ => False) := by
        intro oi v W W' h hbs hz hk
        match oi, h, hk with
        | 0, h, hk => exact h
        | 1, h, hk => exact h
        | 2, h, hk => obtain ⟨gb, rfl, h2, h3⟩ := h; exact ⟨gb, rfl, h2, h3.block (hk gb h3.lt (.inr ⟨_, rfl⟩))⟩
        | 3, h, hk => obtain ⟨gb, rfl, h2, h3⟩ := h; exact ⟨gb, rfl, h2, h3.block (hk gb h3.lt (.inr ⟨_, rfl⟩))⟩
        | oi + 4, h, hk => exact trivial
      refine wp_region_inv (dst := fun oi => [114, 115, 15, 16, 0, 0].getD oi 0) (mono := fun oi => decide (oi < 4)) (pre := fun oi => decide (oi < 4) && decide (oi ≠ 1)) (G := Loose 6 v5.heap.size (fun oi => match oi with | 2 => 4 | 3 => 5 | _ => 6) (fun oi v W => match oi with | 0 => v = .agg #[.slice A1 c.heat.length c1, .int .i64 c.gas, .slice A2 c.holds.length c2, .slice (some ⟨b3, o3, none⟩) c.lots.length c3, .slice none 0 0] | 1 => v = .agg #[.slice A1 c.heat.length c1, .int .i64 c.gas, .slice A2 c.holds.length c2, .slice (some ⟨b3, o3, none⟩) c.lots.length c3, .slice none 0 0] | 2 => ∃ gb, v = .pointer (some ⟨gb, 0, none⟩) ∧ v5.heap.size ≤ gb ∧ Blk W gb 27 #[.slice none 0 0, .int .i64 0, .slice none 0 0, .slice none 0 0, .slice none 0 0] | 3 => ∃ gb, v = .pointer (some ⟨gb, 0, none⟩) ∧ v5.heap.size ≤ gb ∧ Blk W gb 27 #[.slice none 0 0, .int .i64 0, .slice none 0 0, .slice none 0 0, .slice none 0 0] | _ => True) (fun oi v b => match oi with | 2 => ∃ o, v = .pointer (some ⟨b, o, none⟩) | 3 => ∃ o, v = .pointer (some ⟨b, o, none⟩) | _ => False)) (by kernel_rfl) (by kernel_rfl) (Loose.start (Nat.le_refl _)) ?hstep ?hend
      case hstep =>
        intro oi hoi hom listed vs a W hU hsz hG hcl hl haft K hK
        have hb := ((Below.refl v5.heap.size v5).drew).trans hU.below
        have hF := Loose.stepF hU hG hST hoi hK
        match oi, hoi, hom with
        | 0, hoi, hom =>
          have z3 : a.tmps[3]?.getD undef = .pointer (some ⟨w.heap.size, 0, none⟩) := hU.same 3 (by decide)
          have y0 := (hb.cell (p := ⟨w.heap.size, 0, none⟩) (z)).trans (x0)
          have y1 := (hb.cell (p := ⟨w.heap.size, 1, none⟩) (z)).trans (x1)
          have y2 := (hb.cell (p := ⟨w.heap.size, 2, none⟩) (z)).trans (x2)
          have y3 := (hb.cell (p := ⟨w.heap.size, 3, none⟩) (z)).trans (x3)
          have y4 := (hb.cell (p := ⟨w.heap.size, 4, none⟩) (z)).trans (x4)
          refine wpOp_value (v := .agg #[.slice A1 c.heat.length c1, .int .i64 c.gas, .slice A2 c.holds.length c2, .slice (some ⟨b3, o3, none⟩) c.lots.length c3, .slice none 0 0]) (W' := W) rfl rfl ?_ (hF _ _ (Below.refl _ _) rfl (fun _ h => False.elim h))
          go_simp
        | 1, hoi, hom =>
          have z3 : a.tmps[3]?.getD undef = .pointer (some ⟨w.heap.size, 0, none⟩) := hU.same 3 (by decide)
          have y0 := (hb.cell (p := ⟨w.heap.size, 0, none⟩) (z)).trans (x0)
          have y1 := (hb.cell (p := ⟨w.heap.size, 1, none⟩) (z)).trans (x1)
          have y2 := (hb.cell (p := ⟨w.heap.size, 2, none⟩) (z)).trans (x2)
          have y3 := (hb.cell (p := ⟨w.heap.size, 3, none⟩) (z)).trans (x3)
          have y4 := (hb.cell (p := ⟨w.heap.size, 4, none⟩) (z)).trans (x4)
          refine wpOp_value (v := .agg #[.slice A1 c.heat.length c1, .int .i64 c.gas, .slice A2 c.holds.length c2, .slice (some ⟨b3, o3, none⟩) c.lots.length c3, .slice none 0 0]) (W' := W) rfl rfl ?_ (hF _ _ (Below.refl _ _) rfl (fun _ h => False.elim h))
          go_simp
        | 2, hoi, hom =>
          refine wpOp_value (v := .pointer (some ⟨W.heap.size, 0, none⟩)) (W' := (W.alloc (.cells #[.slice none 0 0, .int .i64 0, .slice none 0 0, .slice none 0 0, .slice none 0 0] 27))) rfl rfl ?_ (hF _ _ ((Below.refl _ _).alloc (Nat.le_refl _) _) ⟨_, rfl, hG.base, Blk.made⟩ (fun b ⟨o, h⟩ => by cases h; exact ⟨by simp, .inl (Nat.le_refl _)⟩))
          go_simp
        | 3, hoi, hom =>
          refine wpOp_value (v := .pointer (some ⟨W.heap.size, 0, none⟩)) (W' := (W.alloc (.cells #[.slice none 0 0, .int .i64 0, .slice none 0 0, .slice none 0 0, .slice none 0 0] 27))) rfl rfl ?_ (hF _ _ ((Below.refl _ _).alloc (Nat.le_refl _) _) ⟨_, rfl, hG.base, Blk.made⟩ (fun b ⟨o, h⟩ => by cases h; exact ⟨by simp, .inl (Nat.le_refl _)⟩))
          go_simp
        | oi + 4, hoi, hom => exact absurd (of_decide_eq_true hom) (by omega)
      case hend =>
        intro listed vs a W hG0 hG hpre
        have hb := ((Below.refl v5.heap.size v5).drew).trans hG0.below
        have hact := hG0.act
        have p0 := hG.pv 0 (by decide) (live_end hG.size rfl (hpre 0 (by decide) (by decide)))
        cases hl1 : listed.getD 1 false with
        | true =>
          have hT := hG0.lst hpre 1 #[true, true, true, true, false, false] rfl (by kernel_rfl) hl1
          rw [hG0.ix hT (l := [0, 1, 2, 3]) (by kernel_rfl)] at hact
          rw [hG0.lo hT (k := 2) (by kernel_rfl)]
          have l4 : listed.getD 4 false = false := by rw [hT]; rfl
          have l5 : listed.getD 5 false = false := by rw [hT]; rfl
          obtain ⟨ga, hv2, hza, hba⟩ := hG.pv 2 (by decide) ⟨(hpre 2 (by decide) (by decide)), l4⟩
          obtain ⟨gb, hv3, hzb, hbb⟩ := hG.pv 3 (by decide) ⟨(hpre 3 (by decide) (by decide)), l5⟩
          have hap := hG.apart 2 3 (by decide) (by decide) (by decide) (by decide) ⟨(hpre 2 (by decide) (by decide)), l4⟩ ⟨(hpre 3 (by decide) (by decide)), l5⟩
          have hne : ga ≠ gb := fun e => hap ga ⟨0, hv2⟩ ⟨0, by rw [e]; exact hv3⟩
          have hv0 : vs 0 = .agg #[.slice A1 c.heat.length c1, .int .i64 c.gas, .slice A2 c.holds.length c2, .slice (some ⟨b3, o3, none⟩) c.lots.length c3, .slice none 0 0] := p0
          have hv1 : vs 1 = .agg #[.slice A1 c.heat.length c1, .int .i64 c.gas, .slice A2 c.holds.length c2, .slice (some ⟨b3, o3, none⟩) c.lots.length c3, .slice none 0 0] := hG.pv 1 (by decide) (live_end hG.size rfl hl1)
          clear hpre hG hST hl1 hap l4 l5 p0
          obtain rfl : a = _ := hact
          subst hT
          simp only [setAll, List.setIfInBounds_toArray, List.set_cons_succ, List.set_cons_zero, List.getD_cons_succ, List.getD_cons_zero]
          refine wpAny_all (rs := [4]) (by kernel_rfl) (by simp) ?_
          intro i2 hi2
          obtain rfl : i2 = 4 := by simpa using hi2
          have qc0 : W.cell? ⟨ga, 0, none⟩ = some (.slice none 0 0) := hba.at_ 0
          have qc1 : W.cell? ⟨ga, 1, none⟩ = some (.int .i64 0) := hba.at_ 1
          have qc2 : W.cell? ⟨ga, 2, none⟩ = some (.slice none 0 0) := hba.at_ 2
          have qc3 : W.cell? ⟨ga, 3, none⟩ = some (.slice none 0 0) := hba.at_ 3
          have qc4 : W.cell? ⟨ga, 4, none⟩ = some (.slice none 0 0) := hba.at_ 4
          have qd0 := hba.free 0
          have qd1 := hba.free 1
          have qd2 := hba.free 2
          have qd3 := hba.free 3
          have qd4 := hba.free 4
          refine wpOp_skip (W' := (((((W.setCell ⟨ga, 0, none⟩ (.slice A1 c.heat.length c1)).setCell ⟨ga, 1, none⟩ (.int .i64 c.gas)).setCell ⟨ga, 2, none⟩ (.slice A2 c.holds.length c2)).setCell ⟨ga, 3, none⟩ (.slice (some ⟨b3, o3, none⟩) c.lots.length c3)).setCell ⟨ga, 4, none⟩ (.slice none 0 0))) rfl rfl ?_ ?_
          · rw [hv2, hv0]; go_simp
          have n_hba : Blk (((((W.setCell ⟨ga, 0, none⟩ (.slice A1 c.heat.length c1)).setCell ⟨ga, 1, none⟩ (.int .i64 c.gas)).setCell ⟨ga, 2, none⟩ (.slice A2 c.holds.length c2)).setCell ⟨ga, 3, none⟩ (.slice (some ⟨b3, o3, none⟩) c.lots.length c3)).setCell ⟨ga, 4, none⟩ (.slice none 0 0)) ga 27 #[.slice A1 c.heat.length c1, .int .i64 c.gas, .slice A2 c.holds.length c2, .slice (some ⟨b3, o3, none⟩) c.lots.length c3, .slice none 0 0] := (((((hba.store 0 _).store 1 _).store 2 _).store 3 _).store 4 _)
          have n_hbb : Blk (((((W.setCell ⟨ga, 0, none⟩ (.slice A1 c.heat.length c1)).setCell ⟨ga, 1, none⟩ (.int .i64 c.gas)).setCell ⟨ga, 2, none⟩ (.slice A2 c.holds.length c2)).setCell ⟨ga, 3, none⟩ (.slice (some ⟨b3, o3, none⟩) c.lots.length c3)).setCell ⟨ga, 4, none⟩ (.slice none 0 0)) gb 27 #[.slice none 0 0, .int .i64 0, .slice none 0 0, .slice none 0 0, .slice none 0 0] := (((((hbb.else_ (p := ⟨ga, 0, none⟩) (Ne.symm hne) _).else_ (p := ⟨ga, 1, none⟩) (Ne.symm hne) _).else_ (p := ⟨ga, 2, none⟩) (Ne.symm hne) _).else_ (p := ⟨ga, 3, none⟩) (Ne.symm hne) _).else_ (p := ⟨ga, 4, none⟩) (Ne.symm hne) _)
          have n_hb : Below v5.heap.size v5 (((((W.setCell ⟨ga, 0, none⟩ (.slice A1 c.heat.length c1)).setCell ⟨ga, 1, none⟩ (.int .i64 c.gas)).setCell ⟨ga, 2, none⟩ (.slice A2 c.holds.length c2)).setCell ⟨ga, 3, none⟩ (.slice (some ⟨b3, o3, none⟩) c.lots.length c3)).setCell ⟨ga, 4, none⟩ (.slice none 0 0)) := (((((hb.setCell (p := ⟨ga, 0, none⟩) hza _).setCell (p := ⟨ga, 1, none⟩) hza _).setCell (p := ⟨ga, 2, none⟩) hza _).setCell (p := ⟨ga, 3, none⟩) hza _).setCell (p := ⟨ga, 4, none⟩) hza _)
          clear qc0 qd0 qc1 qd1 qc2 qd2 qc3 qd3 qc4 qd4
          generalize (((((W.setCell ⟨ga, 0, none⟩ (.slice A1 c.heat.length c1)).setCell ⟨ga, 1, none⟩ (.int .i64 c.gas)).setCell ⟨ga, 2, none⟩ (.slice A2 c.holds.length c2)).setCell ⟨ga, 3, none⟩ (.slice (some ⟨b3, o3, none⟩) c.lots.length c3)).setCell ⟨ga, 4, none⟩ (.slice none 0 0)) = W2 at *
          refine wpAny_all (rs := [5]) (by kernel_rfl) (by simp) ?_
          intro i3 hi3
          obtain rfl : i3 = 5 := by simpa using hi3
          have qc0 : W2.cell? ⟨gb, 0, none⟩ = some (.slice none 0 0) := n_hbb.at_ 0
          have qc1 : W2.cell? ⟨gb, 1, none⟩ = some (.int .i64 0) := n_hbb.at_ 1
          have qc2 : W2.cell? ⟨gb, 2, none⟩ = some (.slice none 0 0) := n_hbb.at_ 2
          have qc3 : W2.cell? ⟨gb, 3, none⟩ = some (.slice none 0 0) := n_hbb.at_ 3
          have qc4 : W2.cell? ⟨gb, 4, none⟩ = some (.slice none 0 0) := n_hbb.at_ 4
          have qd0 := n_hbb.free 0
          have qd1 := n_hbb.free 1
          have qd2 := n_hbb.free 2
          have qd3 := n_hbb.free 3
          have qd4 := n_hbb.free 4
          refine wpOp_skip (W' := (((((W2.setCell ⟨gb, 0, none⟩ (.slice A1 c.heat.length c1)).setCell ⟨gb, 1, none⟩ (.int .i64 c.gas)).setCell ⟨gb, 2, none⟩ (.slice A2 c.holds.length c2)).setCell ⟨gb, 3, none⟩ (.slice (some ⟨b3, o3, none⟩) c.lots.length c3)).setCell ⟨gb, 4, none⟩ (.slice none 0 0))) rfl rfl ?_ ?_
          · rw [hv3, hv1]; go_simp
          have n_n_hbb : Blk (((((W2.setCell ⟨gb, 0, none⟩ (.slice A1 c.heat.length c1)).setCell ⟨gb, 1, none⟩ (.int .i64 c.gas)).setCell ⟨gb, 2, none⟩ (.slice A2 c.holds.length c2)).setCell ⟨gb, 3, none⟩ (.slice (some ⟨b3, o3, none⟩) c.lots.length c3)).setCell ⟨gb, 4, none⟩ (.slice none 0 0)) gb 27 #[.slice A1 c.heat.length c1, .int .i64 c.gas, .slice A2 c.holds.length c2, .slice (some ⟨b3, o3, none⟩) c.lots.length c3, .slice none 0 0] := (((((n_hbb.store 0 _).store 1 _).store 2 _).store 3 _).store 4 _)
          have n_n_hba : Blk (((((W2.setCell ⟨gb, 0, none⟩ (.slice A1 c.heat.length c1)).setCell ⟨gb, 1, none⟩ (.int .i64 c.gas)).setCell ⟨gb, 2, none⟩ (.slice A2 c.holds.length c2)).setCell ⟨gb, 3, none⟩ (.slice (some ⟨b3, o3, none⟩) c.lots.length c3)).setCell ⟨gb, 4, none⟩ (.slice none 0 0)) ga 27 #[.slice A1 c.heat.length c1, .int .i64 c.gas, .slice A2 c.holds.length c2, .slice (some ⟨b3, o3, none⟩) c.lots.length c3, .slice none 0 0] := (((((n_hba.else_ (p := ⟨gb, 0, none⟩) hne _).else_ (p := ⟨gb, 1, none⟩) hne _).else_ (p := ⟨gb, 2, none⟩) hne _).else_ (p := ⟨gb, 3, none⟩) hne _).else_ (p := ⟨gb, 4, none⟩) hne _)
          have n_n_hb : Below v5.heap.size v5 (((((W2.setCell ⟨gb, 0, none⟩ (.slice A1 c.heat.length c1)).setCell ⟨gb, 1, none⟩ (.int .i64 c.gas)).setCell ⟨gb, 2, none⟩ (.slice A2 c.holds.length c2)).setCell ⟨gb, 3, none⟩ (.slice (some ⟨b3, o3, none⟩) c.lots.length c3)).setCell ⟨gb, 4, none⟩ (.slice none 0 0)) := (((((n_hb.setCell (p := ⟨gb, 0, none⟩) hzb _).setCell (p := ⟨gb, 1, none⟩) hzb _).setCell (p := ⟨gb, 2, none⟩) hzb _).setCell (p := ⟨gb, 3, none⟩) hzb _).setCell (p := ⟨gb, 4, none⟩) hzb _)
          clear qc0 qd0 qc1 qd1 qc2 qd2 qc3 qd3 qc4 qd4
          generalize (((((W2.setCell ⟨gb, 0, none⟩ (.slice A1 c.heat.length c1)).setCell ⟨gb, 1, none⟩ (.int .i64 c.gas)).setCell ⟨gb, 2, none⟩ (.slice A2 c.holds.length c2)).setCell ⟨gb, 3, none⟩ (.slice (some ⟨b3, o3, none⟩) c.lots.length c3)).setCell ⟨gb, 4, none⟩ (.slice none 0 0)) = W3 at *
          refine wpAny_done (by kernel_rfl) ?_ _
          exact ⟨rfl, vs, rfl, ga, gb, hv2, hv3, hne, hza, hzb, n_n_hb, n_n_hba, n_n_hbb⟩
        | false =>
          have hT := hG0.lst hpre 1 #[true, false, true, true, false, false] rfl (by kernel_rfl) hl1
          rw [hG0.ix hT (l := [0, 2, 3]) (by kernel_rfl)] at hact
          rw [hG0.lo hT (k := 3) (by kernel_rfl)]
          have l4 : listed.getD 4 false = false := by rw [hT]; rfl
          have l5 : listed.getD 5 false = false := by rw [hT]; rfl
          obtain ⟨ga, hv2, hza, hba⟩ := hG.pv 2 (by decide) ⟨(hpre 2 (by decide) (by decide)), l4⟩
          obtain ⟨gb, hv3, hzb, hbb⟩ := hG.pv 3 (by decide) ⟨(hpre 3 (by decide) (by decide)), l5⟩
          have hap := hG.apart 2 3 (by decide) (by decide) (by decide) (by decide) ⟨(hpre 2 (by decide) (by decide)), l4⟩ ⟨(hpre 3 (by decide) (by decide)), l5⟩
          have hne : ga ≠ gb := fun e => hap ga ⟨0, hv2⟩ ⟨0, by rw [e]; exact hv3⟩
          have hv0 : vs 0 = .agg #[.slice A1 c.heat.length c1, .int .i64 c.gas, .slice A2 c.holds.length c2, .slice (some ⟨b3, o3, none⟩) c.lots.length c3, .slice none 0 0] := p0
          clear hpre hG hST hl1 hap l4 l5 p0
          obtain rfl : a = _ := hact
          subst hT
          simp only [setAll, List.setIfInBounds_toArray, List.set_cons_succ, List.set_cons_zero, List.getD_cons_succ, List.getD_cons_zero]
          refine wpAny_all (rs := [1, 4]) (by kernel_rfl) (by simp) ?_
          intro i2 hi2
          have hi3 : i2 = 1 ∨ i2 = 4 := by simpa using hi2
          rcases hi3 with rfl | rfl
          · have y0 := (hb.cell (p := ⟨w.heap.size, 0, none⟩) (z)).trans (x0)
            have y1 := (hb.cell (p := ⟨w.heap.size, 1, none⟩) (z)).trans (x1)
            have y2 := (hb.cell (p := ⟨w.heap.size, 2, none⟩) (z)).trans (x2)
            have y3 := (hb.cell (p := ⟨w.heap.size, 3, none⟩) (z)).trans (x3)
            have y4 := (hb.cell (p := ⟨w.heap.size, 4, none⟩) (z)).trans (x4)
            refine wpOp_value (v := .agg #[.slice A1 c.heat.length c1, .int .i64 c.gas, .slice A2 c.holds.length c2, .slice (some ⟨b3, o3, none⟩) c.lots.length c3, .slice none 0 0]) (W' := W) rfl rfl ?_ ?_
            · go_simp
            refine wpAny_all (rs := [4]) (by kernel_rfl) (by simp) ?_
            intro i3 hi3
            obtain rfl : i3 = 4 := by simpa using hi3
            have qc0 : W.cell? ⟨ga, 0, none⟩ = some (.slice none 0 0) := hba.at_ 0
            have qc1 : W.cell? ⟨ga, 1, none⟩ = some (.int .i64 0) := hba.at_ 1
            have qc2 : W.cell? ⟨ga, 2, none⟩ = some (.slice none 0 0) := hba.at_ 2
            have qc3 : W.cell? ⟨ga, 3, none⟩ = some (.slice none 0 0) := hba.at_ 3
            have qc4 : W.cell? ⟨ga, 4, none⟩ = some (.slice none 0 0) := hba.at_ 4
            have qd0 := hba.free 0
            have qd1 := hba.free 1
            have qd2 := hba.free 2
            have qd3 := hba.free 3
            have qd4 := hba.free 4
            refine wpOp_skip (W' := (((((W.setCell ⟨ga, 0, none⟩ (.slice A1 c.heat.length c1)).setCell ⟨ga, 1, none⟩ (.int .i64 c.gas)).setCell ⟨ga, 2, none⟩ (.slice A2 c.holds.length c2)).setCell ⟨ga, 3, none⟩ (.slice (some ⟨b3, o3, none⟩) c.lots.length c3)).setCell ⟨ga, 4, none⟩ (.slice none 0 0))) rfl rfl ?_ ?_
            · rw [hv2, hv0]; go_simp
            have n_hba : Blk (((((W.setCell ⟨ga, 0, none⟩ (.slice A1 c.heat.length c1)).setCell ⟨ga, 1, none⟩ (.int .i64 c.gas)).setCell ⟨ga, 2, none⟩ (.slice A2 c.holds.length c2)).setCell ⟨ga, 3, none⟩ (.slice (some ⟨b3, o3, none⟩) c.lots.length c3)).setCell ⟨ga, 4, none⟩ (.slice none 0 0)) ga 27 #[.slice A1 c.heat.length c1, .int .i64 c.gas, .slice A2 c.holds.length c2, .slice (some ⟨b3, o3, none⟩) c.lots.length c3, .slice none 0 0] := (((((hba.store 0 _).store 1 _).store 2 _).store 3 _).store 4 _)
            have n_hbb : Blk (((((W.setCell ⟨ga, 0, none⟩ (.slice A1 c.heat.length c1)).setCell ⟨ga, 1, none⟩ (.int .i64 c.gas)).setCell ⟨ga, 2, none⟩ (.slice A2 c.holds.length c2)).setCell ⟨ga, 3, none⟩ (.slice (some ⟨b3, o3, none⟩) c.lots.length c3)).setCell ⟨ga, 4, none⟩ (.slice none 0 0)) gb 27 #[.slice none 0 0, .int .i64 0, .slice none 0 0, .slice none 0 0, .slice none 0 0] := (((((hbb.else_ (p := ⟨ga, 0, none⟩) (Ne.symm hne) _).else_ (p := ⟨ga, 1, none⟩) (Ne.symm hne) _).else_ (p := ⟨ga, 2, none⟩) (Ne.symm hne) _).else_ (p := ⟨ga, 3, none⟩) (Ne.symm hne) _).else_ (p := ⟨ga, 4, none⟩) (Ne.symm hne) _)
            have n_hb : Below v5.heap.size v5 (((((W.setCell ⟨ga, 0, none⟩ (.slice A1 c.heat.length c1)).setCell ⟨ga, 1, none⟩ (.int .i64 c.gas)).setCell ⟨ga, 2, none⟩ (.slice A2 c.holds.length c2)).setCell ⟨ga, 3, none⟩ (.slice (some ⟨b3, o3, none⟩) c.lots.length c3)).setCell ⟨ga, 4, none⟩ (.slice none 0 0)) := (((((hb.setCell (p := ⟨ga, 0, none⟩) hza _).setCell (p := ⟨ga, 1, none⟩) hza _).setCell (p := ⟨ga, 2, none⟩) hza _).setCell (p := ⟨ga, 3, none⟩) hza _).setCell (p := ⟨ga, 4, none⟩) hza _)
            clear qc0 qd0 qc1 qd1 qc2 qd2 qc3 qd3 qc4 qd4
            generalize (((((W.setCell ⟨ga, 0, none⟩ (.slice A1 c.heat.length c1)).setCell ⟨ga, 1, none⟩ (.int .i64 c.gas)).setCell ⟨ga, 2, none⟩ (.slice A2 c.holds.length c2)).setCell ⟨ga, 3, none⟩ (.slice (some ⟨b3, o3, none⟩) c.lots.length c3)).setCell ⟨ga, 4, none⟩ (.slice none 0 0)) = W2 at *
            refine wpAny_all (rs := [5]) (by kernel_rfl) (by simp) ?_
            intro i4 hi4
            obtain rfl : i4 = 5 := by simpa using hi4
            have qc0 : W2.cell? ⟨gb, 0, none⟩ = some (.slice none 0 0) := n_hbb.at_ 0
            have qc1 : W2.cell? ⟨gb, 1, none⟩ = some (.int .i64 0) := n_hbb.at_ 1
            have qc2 : W2.cell? ⟨gb, 2, none⟩ = some (.slice none 0 0) := n_hbb.at_ 2
            have qc3 : W2.cell? ⟨gb, 3, none⟩ = some (.slice none 0 0) := n_hbb.at_ 3
            have qc4 : W2.cell? ⟨gb, 4, none⟩ = some (.slice none 0 0) := n_hbb.at_ 4
            have qd0 := n_hbb.free 0
            have qd1 := n_hbb.free 1
            have qd2 := n_hbb.free 2
            have qd3 := n_hbb.free 3
            have qd4 := n_hbb.free 4
            refine wpOp_skip (W' := (((((W2.setCell ⟨gb, 0, none⟩ (.slice A1 c.heat.length c1)).setCell ⟨gb, 1, none⟩ (.int .i64 c.gas)).setCell ⟨gb, 2, none⟩ (.slice A2 c.holds.length c2)).setCell ⟨gb, 3, none⟩ (.slice (some ⟨b3, o3, none⟩) c.lots.length c3)).setCell ⟨gb, 4, none⟩ (.slice none 0 0))) rfl rfl ?_ ?_
            · rw [hv3]; go_simp
            have n_n_hbb : Blk (((((W2.setCell ⟨gb, 0, none⟩ (.slice A1 c.heat.length c1)).setCell ⟨gb, 1, none⟩ (.int .i64 c.gas)).setCell ⟨gb, 2, none⟩ (.slice A2 c.holds.length c2)).setCell ⟨gb, 3, none⟩ (.slice (some ⟨b3, o3, none⟩) c.lots.length c3)).setCell ⟨gb, 4, none⟩ (.slice none 0 0)) gb 27 #[.slice A1 c.heat.length c1, .int .i64 c.gas, .slice A2 c.holds.length c2, .slice (some ⟨b3, o3, none⟩) c.lots.length c3, .slice none 0 0] := (((((n_hbb.store 0 _).store 1 _).store 2 _).store 3 _).store 4 _)
            have n_n_hba : Blk (((((W2.setCell ⟨gb, 0, none⟩ (.slice A1 c.heat.length c1)).setCell ⟨gb, 1, none⟩ (.int .i64 c.gas)).setCell ⟨gb, 2, none⟩ (.slice A2 c.holds.length c2)).setCell ⟨gb, 3, none⟩ (.slice (some ⟨b3, o3, none⟩) c.lots.length c3)).setCell ⟨gb, 4, none⟩ (.slice none 0 0)) ga 27 #[.slice A1 c.heat.length c1, .int .i64 c.gas, .slice A2 c.holds.length c2, .slice (some ⟨b3, o3, none⟩) c.lots.length c3, .slice none 0 0] := (((((n_hba.else_ (p := ⟨gb, 0, none⟩) hne _).else_ (p := ⟨gb, 1, none⟩) hne _).else_ (p := ⟨gb, 2, none⟩) hne _).else_ (p := ⟨gb, 3, none⟩) hne _).else_ (p := ⟨gb, 4, none⟩) hne _)
            have n_n_hb : Below v5.heap.size v5 (((((W2.setCell ⟨gb, 0, none⟩ (.slice A1 c.heat.length c1)).setCell ⟨gb, 1, none⟩ (.int .i64 c.gas)).setCell ⟨gb, 2, none⟩ (.slice A2 c.holds.length c2)).setCell ⟨gb, 3, none⟩ (.slice (some ⟨b3, o3, none⟩) c.lots.length c3)).setCell ⟨gb, 4, none⟩ (.slice none 0 0)) := (((((n_hb.setCell (p := ⟨gb, 0, none⟩) hzb _).setCell (p := ⟨gb, 1, none⟩) hzb _).setCell (p := ⟨gb, 2, none⟩) hzb _).setCell (p := ⟨gb, 3, none⟩) hzb _).setCell (p := ⟨gb, 4, none⟩) hzb _)
            clear qc0 qd0 qc1 qd1 qc2 qd2 qc3 qd3 qc4 qd4
            generalize (((((W2.setCell ⟨gb, 0, none⟩ (.slice A1 c.heat.length c1)).setCell ⟨gb, 1, none⟩ (.int .i64 c.gas)).setCell ⟨gb, 2, none⟩ (.slice A2 c.holds.length c2)).setCell ⟨gb, 3, none⟩ (.slice (some ⟨b3, o3, none⟩) c.lots.length c3)).setCell ⟨gb, 4, none⟩ (.slice none 0 0)) = W3 at *
            refine wpAny_done (by kernel_rfl) ?_ _
            exact ⟨rfl, fun q => if q = 1 then .agg #[.slice A1 c.heat.length c1, .int .i64 c.gas, .slice A2 c.holds.length c2, .slice (some ⟨b3, o3, none⟩) c.lots.length c3, .slice none 0 0] else vs q, rfl, ga, gb, hv2, hv3, hne, hza, hzb, n_n_hb, n_n_hba, n_n_hbb⟩
          · have qc0 : W.cell? ⟨ga, 0, none⟩ = some (.slice none 0 0) := hba.at_ 0
            have qc1 : W.cell? ⟨ga, 1, none⟩ = some (.int .i64 0) := hba.at_ 1
            have qc2 : W.cell? ⟨ga, 2, none⟩ = some (.slice none 0 0) := hba.at_ 2
            have qc3 : W.cell? ⟨ga, 3, none⟩ = some (.slice none 0 0) := hba.at_ 3
            have qc4 : W.cell? ⟨ga, 4, none⟩ = some (.slice none 0 0) := hba.at_ 4
            have qd0 := hba.free 0
            have qd1 := hba.free 1
            have qd2 := hba.free 2
            have qd3 := hba.free 3
            have qd4 := hba.free 4
            refine wpOp_skip (W' := (((((W.setCell ⟨ga, 0, none⟩ (.slice A1 c.heat.length c1)).setCell ⟨ga, 1, none⟩ (.int .i64 c.gas)).setCell ⟨ga, 2, none⟩ (.slice A2 c.holds.length c2)).setCell ⟨ga, 3, none⟩ (.slice (some ⟨b3, o3, none⟩) c.lots.length c3)).setCell ⟨ga, 4, none⟩ (.slice none 0 0))) rfl rfl ?_ ?_
            · rw [hv2, hv0]; go_simp
            have n_hba : Blk (((((W.setCell ⟨ga, 0, none⟩ (.slice A1 c.heat.length c1)).setCell ⟨ga, 1, none⟩ (.int .i64 c.gas)).setCell ⟨ga, 2, none⟩ (.slice A2 c.holds.length c2)).setCell ⟨ga, 3, none⟩ (.slice (some ⟨b3, o3, none⟩) c.lots.length c3)).setCell ⟨ga, 4, none⟩ (.slice none 0 0)) ga 27 #[.slice A1 c.heat.length c1, .int .i64 c.gas, .slice A2 c.holds.length c2, .slice (some ⟨b3, o3, none⟩) c.lots.length c3, .slice none 0 0] := (((((hba.store 0 _).store 1 _).store 2 _).store 3 _).store 4 _)
            have n_hbb : Blk (((((W.setCell ⟨ga, 0, none⟩ (.slice A1 c.heat.length c1)).setCell ⟨ga, 1, none⟩ (.int .i64 c.gas)).setCell ⟨ga, 2, none⟩ (.slice A2 c.holds.length c2)).setCell ⟨ga, 3, none⟩ (.slice (some ⟨b3, o3, none⟩) c.lots.length c3)).setCell ⟨ga, 4, none⟩ (.slice none 0 0)) gb 27 #[.slice none 0 0, .int .i64 0, .slice none 0 0, .slice none 0 0, .slice none 0 0] := (((((hbb.else_ (p := ⟨ga, 0, none⟩) (Ne.symm hne) _).else_ (p := ⟨ga, 1, none⟩) (Ne.symm hne) _).else_ (p := ⟨ga, 2, none⟩) (Ne.symm hne) _).else_ (p := ⟨ga, 3, none⟩) (Ne.symm hne) _).else_ (p := ⟨ga, 4, none⟩) (Ne.symm hne) _)
            have n_hb : Below v5.heap.size v5 (((((W.setCell ⟨ga, 0, none⟩ (.slice A1 c.heat.length c1)).setCell ⟨ga, 1, none⟩ (.int .i64 c.gas)).setCell ⟨ga, 2, none⟩ (.slice A2 c.holds.length c2)).setCell ⟨ga, 3, none⟩ (.slice (some ⟨b3, o3, none⟩) c.lots.length c3)).setCell ⟨ga, 4, none⟩ (.slice none 0 0)) := (((((hb.setCell (p := ⟨ga, 0, none⟩) hza _).setCell (p := ⟨ga, 1, none⟩) hza _).setCell (p := ⟨ga, 2, none⟩) hza _).setCell (p := ⟨ga, 3, none⟩) hza _).setCell (p := ⟨ga, 4, none⟩) hza _)
            clear qc0 qd0 qc1 qd1 qc2 qd2 qc3 qd3 qc4 qd4
            generalize (((((W.setCell ⟨ga, 0, none⟩ (.slice A1 c.heat.length c1)).setCell ⟨ga, 1, none⟩ (.int .i64 c.gas)).setCell ⟨ga, 2, none⟩ (.slice A2 c.holds.length c2)).setCell ⟨ga, 3, none⟩ (.slice (some ⟨b3, o3, none⟩) c.lots.length c3)).setCell ⟨ga, 4, none⟩ (.slice none 0 0)) = W2 at *
            refine wpAny_all (rs := [1]) (by kernel_rfl) (by simp) ?_
            intro i3 hi3
            obtain rfl : i3 = 1 := by simpa using hi3
            have y0 := (n_hb.cell (p := ⟨w.heap.size, 0, none⟩) (z)).trans (x0)
            have y1 := (n_hb.cell (p := ⟨w.heap.size, 1, none⟩) (z)).trans (x1)
            have y2 := (n_hb.cell (p := ⟨w.heap.size, 2, none⟩) (z)).trans (x2)
            have y3 := (n_hb.cell (p := ⟨w.heap.size, 3, none⟩) (z)).trans (x3)
            have y4 := (n_hb.cell (p := ⟨w.heap.size, 4, none⟩) (z)).trans (x4)
            refine wpOp_value (v := .agg #[.slice A1 c.heat.length c1, .int .i64 c.gas, .slice A2 c.holds.length c2, .slice (some ⟨b3, o3, none⟩) c.lots.length c3, .slice none 0 0]) (W' := W2) rfl rfl ?_ ?_
            · go_simp
            refine wpAny_all (rs := [5]) (by kernel_rfl) (by simp) ?_
            intro i4 hi4
            obtain rfl : i4 = 5 := by simpa using hi4
            have qc0 : W2.cell? ⟨gb, 0, none⟩ = some (.slice none 0 0) := n_hbb.at_ 0
            have qc1 : W2.cell? ⟨gb, 1, none⟩ = some (.int .i64 0) := n_hbb.at_ 1
            have qc2 : W2.cell? ⟨gb, 2, none⟩ = some (.slice none 0 0) := n_hbb.at_ 2
            have qc3 : W2.cell? ⟨gb, 3, none⟩ = some (.slice none 0 0) := n_hbb.at_ 3
            have qc4 : W2.cell? ⟨gb, 4, none⟩ = some (.slice none 0 0) := n_hbb.at_ 4
            have qd0 := n_hbb.free 0
            have qd1 := n_hbb.free 1
            have qd2 := n_hbb.free 2
            have qd3 := n_hbb.free 3
            have qd4 := n_hbb.free 4
            refine wpOp_skip (W' := (((((W2.setCell ⟨gb, 0, none⟩ (.slice A1 c.heat.length c1)).setCell ⟨gb, 1, none⟩ (.int .i64 c.gas)).setCell ⟨gb, 2, none⟩ (.slice A2 c.holds.length c2)).setCell ⟨gb, 3, none⟩ (.slice (some ⟨b3, o3, none⟩) c.lots.length c3)).setCell ⟨gb, 4, none⟩ (.slice none 0 0))) rfl rfl ?_ ?_
            · rw [hv3]; go_simp
            have n_n_hbb : Blk (((((W2.setCell ⟨gb, 0, none⟩ (.slice A1 c.heat.length c1)).setCell ⟨gb, 1, none⟩ (.int .i64 c.gas)).setCell ⟨gb, 2, none⟩ (.slice A2 c.holds.length c2)).setCell ⟨gb, 3, none⟩ (.slice (some ⟨b3, o3, none⟩) c.lots.length c3)).setCell ⟨gb, 4, none⟩ (.slice none 0 0)) gb 27 #[.slice A1 c.heat.length c1, .int .i64 c.gas, .slice A2 c.holds.length c2, .slice (some ⟨b3, o3, none⟩) c.lots.length c3, .slice none 0 0] := (((((n_hbb.store 0 _).store 1 _).store 2 _).store 3 _).store 4 _)
            have n_n_hba : Blk (((((W2.setCell ⟨gb, 0, none⟩ (.slice A1 c.heat.length c1)).setCell ⟨gb, 1, none⟩ (.int .i64 c.gas)).setCell ⟨gb, 2, none⟩ (.slice A2 c.holds.length c2)).setCell ⟨gb, 3, none⟩ (.slice (some ⟨b3, o3, none⟩) c.lots.length c3)).setCell ⟨gb, 4, none⟩ (.slice none 0 0)) ga 27 #[.slice A1 c.heat.length c1, .int .i64 c.gas, .slice A2 c.holds.length c2, .slice (some ⟨b3, o3, none⟩) c.lots.length c3, .slice none 0 0] := (((((n_hba.else_ (p := ⟨gb, 0, none⟩) hne _).else_ (p := ⟨gb, 1, none⟩) hne _).else_ (p := ⟨gb, 2, none⟩) hne _).else_ (p := ⟨gb, 3, none⟩) hne _).else_ (p := ⟨gb, 4, none⟩) hne _)
            have n_n_hb : Below v5.heap.size v5 (((((W2.setCell ⟨gb, 0, none⟩ (.slice A1 c.heat.length c1)).setCell ⟨gb, 1, none⟩ (.int .i64 c.gas)).setCell ⟨gb, 2, none⟩ (.slice A2 c.holds.length c2)).setCell ⟨gb, 3, none⟩ (.slice (some ⟨b3, o3, none⟩) c.lots.length c3)).setCell ⟨gb, 4, none⟩ (.slice none 0 0)) := (((((n_hb.setCell (p := ⟨gb, 0, none⟩) hzb _).setCell (p := ⟨gb, 1, none⟩) hzb _).setCell (p := ⟨gb, 2, none⟩) hzb _).setCell (p := ⟨gb, 3, none⟩) hzb _).setCell (p := ⟨gb, 4, none⟩) hzb _)
            clear qc0 qd0 qc1 qd1 qc2 qd2 qc3 qd3 qc4 qd4
            generalize (((((W2.setCell ⟨gb, 0, none⟩ (.slice A1 c.heat.length c1)).setCell ⟨gb, 1, none⟩ (.int .i64 c.gas)).setCell ⟨gb, 2, none⟩ (.slice A2 c.holds.length c2)).setCell ⟨gb, 3, none⟩ (.slice (some ⟨b3, o3, none⟩) c.lots.length c3)).setCell ⟨gb, 4, none⟩ (.slice none 0 0)) = W3 at *
            refine wpAny_done (by kernel_rfl) ?_ _
            exact ⟨rfl, fun q => if q = 1 then .agg #[.slice A1 c.heat.length c1, .int .i64 c.gas, .slice A2 c.holds.length c2, .slice (some ⟨b3, o3, none⟩) c.lots.length c3, .slice none 0 0] else vs q, rfl, ga, gb, hv2, hv3, hne, hza, hzb, n_n_hb, n_n_hba, n_n_hbb⟩
    case imp =>
    rintro a10 v6 ⟨vs2, rfl, ga, gb, hv2, hv3, hne, hza, hzb, hb6, hga, hgb⟩
    simp only [setAll, List.setIfInBounds_toArray, List.set_cons_succ, List.set_cons_zero, List.getD_cons_succ, List.getD_cons_zero]
    rw [hv2, hv3]
    have HB5 := hide hb6
    have HGA := hide hga
    have HGB := hide hgb
    have HV56 := hide HB5.out.size
    have HN6 := hide HGB.out.lt
    clear hv2 hv3 hb6 hga hgb x0 x1 x2 x3 x4 z zb3
    have x3 : v6.cell? ⟨w.heap.size, 3, none⟩ = some (.slice (some ⟨b3, o3, none⟩) c.lots.length c3) := (HBL.out.next HB5.out).at_ 3
    have z : w.heap.size < v6.heap.size := (HBL.out.next HB5.out).lt
    have zga := HGA.out.lt
    have zgb := HGB.out.lt
    have a3 : v6.cell? ⟨ga, 3, none⟩ = some (.slice (some ⟨b3, o3, none⟩) c.lots.length c3) := HGA.out.at_ 3
    have f3 := HGA.out.free 3
    have HRL := hide (show Row v6 v6.heap.size (some ⟨b3, o3, none⟩) (c.lots.length * 4) (lotsF c.lots) from (HC5.out.next HB5.out).lots)
    go_upto_region 20 with
        (at_builtin
         refine wpList_app_row _ rfl _ _ 24 rfl v6.heap.size 57 i4 (.agg #[.int .i64 0, .int .i64 0, .int .i64 0, .int .i64 0]) 4 32 Try.underlying24 hI4 hz40 hz41 hz42 rfl (by decide) (.slice (some ⟨v6.heap.size, 0, none⟩) 0 0) 0 [] rfl (World.ownsRow_lit _ #[] 0 (Nat.le_refl _) (by simp [maxLen]) rfl) (some ⟨b3, o3, none⟩) c.lots.length c3 v6.heap.size (lotsF c.lots) rfl (HRL.out.below ((Below.refl _ _).alloc (Nat.le_refl _) _)) (fun _ _ => rfl) (by simp only [maxLen]; omega) (by omega) (by simp) ?_
         intro v' w1 hown hg hblk
         have hbA : Below v6.heap.size v6 w1 := ((Below.refl _ v6).alloc (Nat.le_refl _) (.cells #[] 57)).grown hg (by simp) (fun k hk => by simp [Value.ownBlock] at hk; omega)
         rw [Nat.zero_add, List.nil_append] at hown
         obtain ⟨AG, cG, rfl, hown⟩ := own_ex hown
         have a3' := (hbA.cell (p := ⟨ga, 3, none⟩) zga).trans a3
         have f3' := (hbA.frozen (p := ⟨ga, 3, none⟩) zga).trans f3
         have HBA := hide hbA
         have HOW := hide hown
         clear hg hblk hbA hown)
    obtain ⟨g7, hAG, hzg7, hlg7⟩ := own_addr HOW.out (by omega)
    subst hAG
    have hz6 := HB5.out.size
    have hn7 : ga ≠ g7 := by omega
    have hm7 : gb ≠ g7 := by omega
    have hk1 : Keep (fun q => q = ga) w1 (w1.setCell ⟨ga, 3, none⟩ (.slice (some ⟨g7, 0, none⟩) c.lots.length cG)) := Keep.setCell _ _ _ _ rfl
    have b1 : Blk (w1.setCell ⟨ga, 3, none⟩ (.slice (some ⟨g7, 0, none⟩) c.lots.length cG)) ga 27 #[.slice A1 c.heat.length c1, .int .i64 c.gas, .slice A2 c.holds.length c2, .slice (some ⟨g7, 0, none⟩) c.lots.length cG, .slice none 0 0] := (HGA.out.next HBA.out).store 3 (.slice (some ⟨g7, 0, none⟩) c.lots.length cG)
    have b2 := (HGB.out.next HBA.out).else_ (p := ⟨ga, 3, none⟩) (Ne.symm hne) (.slice (some ⟨g7, 0, none⟩) c.lots.length cG)
    have b3' := own_kept HOW.out hk1 (fun b hb hS => by omega)
    have b4 := (HB5.out.trans (HBA.out.mono HB5.out.size)).setCell (p := ⟨ga, 3, none⟩) hza (.slice (some ⟨g7, 0, none⟩) c.lots.length cG)
    have b5 : g7 < (w1.setCell ⟨ga, 3, none⟩ (.slice (some ⟨g7, 0, none⟩) c.lots.length cG)).heap.size := by simpa using hlg7
    clear hk1 HBA HRL a3 f3 a3' f3' zga zgb x3 z HGA HGB HOW HB5 hlg7 hz6
    generalize (w1.setCell ⟨ga, 3, none⟩ (.slice (some ⟨g7, 0, none⟩) c.lots.length cG)) = v7 at *
    have HGA := hide b1
    have HGB := hide b2
    have HOW := hide b3'
    have HB5 := hide b4
    have hlg7 := b5
    clear b1 b2 b3' b4 b5
    have hp0 := Int.emod_nonneg ya (show (c.lots.length : Int) ≠ 0 by omega)
    have hp1 := Int.emod_lt_of_pos ya (show 0 < (c.lots.length : Int) by omega)
    have hmo : ya.tmod (c.lots.length : Int) = ya % (c.lots.length : Int) := Int.tmod_eq_emod_of_nonneg hya.1
    have hz2 : (c.lots.length : Int) ≠ 0 := by omega
    have hz3 : ¬ c.lots = [] := fun h => hn (by rw [h]; rfl)
    have hw1 : IntKind.i64.wrap (ya % (c.lots.length : Int)) = ya % (c.lots.length : Int) := IntWalk.i64_in _ (by omega)
    have hw2 : IntKind.i64.wrap ya = ya := IntWalk.i64_in _ (by omega)
    obtain ⟨k, hdk⟩ : ∃ k : Nat, ya % (c.lots.length : Int) = (k : Int) := ⟨(ya % (c.lots.length : Int)).toNat, by omega⟩
    rw [hdk] at hp0 hp1 hmo hw1
    clear hdk
    have hkl : k < c.lots.length := by omega
    have x3 : v7.cell? ⟨w.heap.size, 3, none⟩ = some (.slice (some ⟨b3, o3, none⟩) c.lots.length c3) := (HBL.out.next HB5.out).at_ 3
    have z : w.heap.size < v7.heap.size := (HBL.out.next HB5.out).lt
    have yy : v7.cell? ⟨w.heap.size + 1 + 1, 0, none⟩ = some (.int .u8 ya) := (HYB.out.next HB5.out).at_ 0
    have zy : w.heap.size + 1 + 1 < v7.heap.size := (HYB.out.next HB5.out).lt
    go_upto_region 21 with (fail)
    clear x3 z yy zy hmo hz2 hz3 hw1 hw2
    have a3 : v7.cell? ⟨ga, 3, none⟩ = some (.slice (some ⟨g7, 0, none⟩) c.lots.length cG) := HGA.out.at_ 3
    have zga := HGA.out.lt
    have s0 : v7.cell? ⟨g7, k * 4, none⟩ = some (.int .i64 (nth c.lots k).hold) := by rw [World.ownsRow.cellAt HOW.out (k * 4) (by omega)]; simp [show k * 4 < c.lots.length * 4 by omega, lotsF, show (k * 4) % 4 = 0 by omega, show (k * 4) / 4 = k by omega]
    have s1 : v7.cell? ⟨g7, k * 4 + 1, none⟩ = some (.int .i64 (nth c.lots k).frm) := by rw [World.ownsRow.cellAt HOW.out (k * 4 + 1) (by omega)]; simp [show k * 4 + 1 < c.lots.length * 4 by omega, lotsF, show (k * 4 + 1) % 4 = 1 by omega, show (k * 4 + 1) / 4 = k by omega]
    have s2 : v7.cell? ⟨g7, k * 4 + 2, none⟩ = some (.int .i64 (nth c.lots k).green.lo) := by rw [World.ownsRow.cellAt HOW.out (k * 4 + 2) (by omega)]; simp [show k * 4 + 2 < c.lots.length * 4 by omega, lotsF, show (k * 4 + 2) % 4 = 2 by omega, show (k * 4 + 2) / 4 = k by omega]
    have s3 : v7.cell? ⟨g7, k * 4 + 3, none⟩ = some (.int .i64 (nth c.lots k).green.hi) := by rw [World.ownsRow.cellAt HOW.out (k * 4 + 3) (by omega)]; simp [show k * 4 + 3 < c.lots.length * 4 by omega, lotsF, show (k * 4 + 3) % 4 = 3 by omega, show (k * 4 + 3) / 4 = k by omega]
    have HGL := hide (show greenC c k (yb % 4) = { c with lots := c.lots.set k (greenL (nth c.lots k) (yb % 4)), seen := [] } from rfl)
    have hlt := HVD.out.lot k hkl
    have HGR := hide (show greenL (nth c.lots k) (yb % 4) = ⟨(nth c.lots k).hold, (nth c.lots k).frm, ⟨min 40 ((nth c.lots k).green.lo + yb % 4), min 40 ((nth c.lots k).green.hi + yb % 4)⟩⟩ from rfl)
    generalize (nth c.lots k).hold = hd at *
    generalize (nth c.lots k).frm = fr at *
    generalize (nth c.lots k).green.lo = lo at *
    generalize (nth c.lots k).green.hi = hi at *
    go_upto_region 22 with (fail)
    have hbn : Below v7.heap.size v7 (v7.alloc (.cells #[.int .i64 hd, .int .i64 fr, .int .i64 lo, .int .i64 hi] 57)) := (Below.refl _ _).alloc (Nat.le_refl _) _
    have bn : Blk (v7.alloc (.cells #[.int .i64 hd, .int .i64 fr, .int .i64 lo, .int .i64 hi] 57)) v7.heap.size 57 #[.int .i64 hd, .int .i64 fr, .int .i64 lo, .int .i64 hi] := Blk.made
    have b1 := HGA.out.next hbn
    have b2 := HGB.out.next hbn
    have b3' := own_stab HOW.out (fun b hb _ => hbn.block b hb)
    have b4 := HB5.out.trans (hbn.mono HB5.out.size)
    have hzl := HB5.out.size
    have hal : ga ≠ v7.heap.size := by omega
    have hbl : gb ≠ v7.heap.size := by have := HGB.out.lt; omega
    have h7l : g7 ≠ v7.heap.size := by omega
    clear a3 zga s0 s1 s2 s3 HGA HGB HOW HB5 hbn
    generalize (v7.alloc (.cells #[.int .i64 hd, .int .i64 fr, .int .i64 lo, .int .i64 hi] 57)) = v8 at *
    have HGA := hide b1
    have HGB := hide b2
    have HOW := hide b3'
    have HB5 := hide b4
    have HBN := hide bn
    clear b1 b2 b3' b4 bn
    have hkk0 : 0 ≤ yb % 4 := Int.emod_nonneg yb (by omega)
    have hkk1 : yb % 4 < 4 := Int.emod_lt_of_pos yb (by omega)
    have hmo : yb.tmod 4 = yb % 4 := Int.tmod_eq_emod_of_nonneg hyb.1
    have hw2 : IntKind.i64.wrap yb = yb := IntWalk.i64_in _ (by omega)
    generalize yb % 4 = kk at *
    have hw1 : IntKind.i64.wrap kk = kk := IntWalk.i64_in _ (by omega)
    have hw3 : IntKind.i64.wrap (lo + kk) = lo + kk := IntWalk.i64_in _ (by omega)
    have hw4 : IntKind.i64.wrap (hi + kk) = hi + kk := IntWalk.i64_in _ (by omega)
    have hE1 : (if lo + kk < 40 then lo + kk else 40) = min 40 (lo + kk) := by split <;> omega
    have hE2 : (if hi + kk < 40 then hi + kk else 40) = min 40 (hi + kk) := by split <;> omega
    generalize min 40 (lo + kk) = ml at *
    generalize min 40 (hi + kk) = mh at *
    have l2 : v8.cell? ⟨v7.heap.size, 2, none⟩ = some (.int .i64 lo) := HBN.out.at_ 2
    have l3 : v8.cell? ⟨v7.heap.size, 3, none⟩ = some (.int .i64 hi) := HBN.out.at_ 3
    have zl := HBN.out.lt
    have yy : v8.cell? ⟨w.heap.size + 1 + 1, 1, none⟩ = some (.int .u8 yb) := (HYB.out.next HB5.out).at_ 1
    have zy : w.heap.size + 1 + 1 < v8.heap.size := (HYB.out.next HB5.out).lt
    go_upto_region 23 with (go_at_call 53; refine (span_any _ _ _).mono ?_; rintro e u9 ⟨rfl, hb⟩; have l2' := (hb.cell (p := ⟨v7.heap.size, 2, none⟩) zl).trans l2; have l3' := (hb.cell (p := ⟨v7.heap.size, 3, none⟩) zl).trans l3; have f2' := (hb.frozen (p := ⟨v7.heap.size, 2, none⟩) zl).trans (HBN.out.free 2); have f3' := (hb.frozen (p := ⟨v7.heap.size, 3, none⟩) zl).trans (HBN.out.free 3))
    have bn : Blk ((u9.setCell ⟨v7.heap.size, 2, none⟩ (.int .i64 ml)).setCell ⟨v7.heap.size, 3, none⟩ (.int .i64 mh)) v7.heap.size 57 #[.int .i64 hd, .int .i64 fr, .int .i64 ml, .int .i64 mh] := ((HBN.out.next hb).store 2 _).store 3 _
    have b1 := ((HGA.out.next hb).else_ (p := ⟨v7.heap.size, 2, none⟩) hal (.int .i64 ml)).else_ (p := ⟨v7.heap.size, 3, none⟩) hal (.int .i64 mh)
    have b2 := ((HGB.out.next hb).else_ (p := ⟨v7.heap.size, 2, none⟩) hbl (.int .i64 ml)).else_ (p := ⟨v7.heap.size, 3, none⟩) hbl (.int .i64 mh)
    have b3' := own_stab (w' := ((u9.setCell ⟨v7.heap.size, 2, none⟩ (.int .i64 ml)).setCell ⟨v7.heap.size, 3, none⟩ (.int .i64 mh))) HOW.out (fun b hb2 e => by
      have hg : g7 = b := own_new e
      rw [Below.heap_setCell _ _ _ b (by subst hg; exact h7l), Below.heap_setCell _ _ _ b (by subst hg; exact h7l)]
      exact hb.block b hb2)
    have b4 := ((HB5.out.trans (hb.mono HB5.out.size)).setCell (p := ⟨v7.heap.size, 2, none⟩) hzl (.int .i64 ml)).setCell (p := ⟨v7.heap.size, 3, none⟩) hzl (.int .i64 mh)
    clear l2 l3 zl l2' l3' f2' f3' hb yy zy hmo hw1 hw2 hw3 hw4 hE1 hE2 HGA HGB HOW HB5 HBN
    generalize ((u9.setCell ⟨v7.heap.size, 2, none⟩ (.int .i64 ml)).setCell ⟨v7.heap.size, 3, none⟩ (.int .i64 mh)) = u10 at *
    have HGA := hide b1
    have HGB := hide b2
    have HOW := hide b3'
    have HB5 := hide b4
    have HBN := hide bn
    clear b1 b2 b3' b4 bn
    have a3 : u10.cell? ⟨ga, 3, none⟩ = some (.slice (some ⟨g7, 0, none⟩) c.lots.length cG) := HGA.out.at_ 3
    have l0 : u10.cell? ⟨v7.heap.size, 0, none⟩ = some (.int .i64 hd) := HBN.out.at_ 0
    have l1 : u10.cell? ⟨v7.heap.size, 1, none⟩ = some (.int .i64 fr) := HBN.out.at_ 1
    have l2 : u10.cell? ⟨v7.heap.size, 2, none⟩ = some (.int .i64 ml) := HBN.out.at_ 2
    have l3 : u10.cell? ⟨v7.heap.size, 3, none⟩ = some (.int .i64 mh) := HBN.out.at_ 3
    have s0 : u10.cell? ⟨g7, k * 4, none⟩ = some (.int .i64 (nth c.lots k).hold) := by rw [World.ownsRow.cellAt HOW.out (k * 4) (by omega)]; simp [show k * 4 < c.lots.length * 4 by omega, lotsF, show (k * 4) % 4 = 0 by omega, show (k * 4) / 4 = k by omega]
    have s1 : u10.cell? ⟨g7, k * 4 + 1, none⟩ = some (.int .i64 (nth c.lots k).frm) := by rw [World.ownsRow.cellAt HOW.out (k * 4 + 1) (by omega)]; simp [show k * 4 + 1 < c.lots.length * 4 by omega, lotsF, show (k * 4 + 1) % 4 = 1 by omega, show (k * 4 + 1) / 4 = k by omega]
    have s2 : u10.cell? ⟨g7, k * 4 + 2, none⟩ = some (.int .i64 (nth c.lots k).green.lo) := by rw [World.ownsRow.cellAt HOW.out (k * 4 + 2) (by omega)]; simp [show k * 4 + 2 < c.lots.length * 4 by omega, lotsF, show (k * 4 + 2) % 4 = 2 by omega, show (k * 4 + 2) / 4 = k by omega]
    have s3 : u10.cell? ⟨g7, k * 4 + 3, none⟩ = some (.int .i64 (nth c.lots k).green.hi) := by rw [World.ownsRow.cellAt HOW.out (k * 4 + 3) (by omega)]; simp [show k * 4 + 3 < c.lots.length * 4 by omega, lotsF, show (k * 4 + 3) % 4 = 3 by omega, show (k * 4 + 3) / 4 = k by omega]
    have u0 := World.ownsRow.frozenAt HOW.out (k * 4)
    have u1 := World.ownsRow.frozenAt HOW.out (k * 4 + 1)
    have u2 := World.ownsRow.frozenAt HOW.out (k * 4 + 2)
    have u3 := World.ownsRow.frozenAt HOW.out (k * 4 + 3)
    go_upto_region 24 with (fail)
    have b1 := ((((HGA.out.else_ (p := ⟨g7, k * 4, none⟩) hn7 (.int .i64 hd)).else_ (p := ⟨g7, k * 4 + 1, none⟩) hn7 (.int .i64 fr)).else_ (p := ⟨g7, k * 4 + 2, none⟩) hn7 (.int .i64 ml)).else_ (p := ⟨g7, k * 4 + 3, none⟩) hn7 (.int .i64 mh))
    have b2 := ((((HGB.out.else_ (p := ⟨g7, k * 4, none⟩) hm7 (.int .i64 hd)).else_ (p := ⟨g7, k * 4 + 1, none⟩) hm7 (.int .i64 fr)).else_ (p := ⟨g7, k * 4 + 2, none⟩) hm7 (.int .i64 ml)).else_ (p := ⟨g7, k * 4 + 3, none⟩) hm7 (.int .i64 mh))
    have b3' : (((((u10.setCell ⟨g7, k * 4, none⟩ (.int .i64 hd)).setCell ⟨g7, k * 4 + 1, none⟩ (.int .i64 fr)).setCell ⟨g7, k * 4 + 2, none⟩ (.int .i64 ml)).setCell ⟨g7, k * 4 + 3, none⟩ (.int .i64 mh))).ownsRow v6.heap.size 57 4 (.slice (some ⟨g7, 0, none⟩) c.lots.length cG) c.lots.length ((List.range (c.lots.length * 4)).map (lotsF (greenC c k kk).lots)) := by
      have h := own_set (own_set (own_set (own_set HOW.out (k * 4) (.int .i64 hd)) (k * 4 + 1) (.int .i64 fr)) (k * 4 + 2) (.int .i64 ml)) (k * 4 + 3) (.int .i64 mh)
      have e := range_set4 hkl c.lots rfl ⟨hd, fr, ⟨ml, mh⟩⟩
      rw [HGL.out, HGR.out]
      rw [← e]; exact h
    have h7z : v5.heap.size ≤ g7 := by have := HV56.out; omega
    have b4 := ((((HB5.out.setCell (p := ⟨g7, k * 4, none⟩) h7z (.int .i64 hd)).setCell (p := ⟨g7, k * 4 + 1, none⟩) h7z (.int .i64 fr)).setCell (p := ⟨g7, k * 4 + 2, none⟩) h7z (.int .i64 ml)).setCell (p := ⟨g7, k * 4 + 3, none⟩) h7z (.int .i64 mh))
    have b5 : g7 < (((((u10.setCell ⟨g7, k * 4, none⟩ (.int .i64 hd)).setCell ⟨g7, k * 4 + 1, none⟩ (.int .i64 fr)).setCell ⟨g7, k * 4 + 2, none⟩ (.int .i64 ml)).setCell ⟨g7, k * 4 + 3, none⟩ (.int .i64 mh))).heap.size := by have := (HOW.out.lt g7 rfl).2; simpa using this
    clear a3 l0 l1 l2 l3 s0 s1 s2 s3 u0 u1 u2 u3 HGA HGB HOW HB5 HBN HGL HGR hlg7 hal hbl h7l hzl
    generalize ((((u10.setCell ⟨g7, k * 4, none⟩ (.int .i64 hd)).setCell ⟨g7, k * 4 + 1, none⟩ (.int .i64 fr)).setCell ⟨g7, k * 4 + 2, none⟩ (.int .i64 ml)).setCell ⟨g7, k * 4 + 3, none⟩ (.int .i64 mh)) = v11 at *
    have HGA := hide b1
    have HGB := hide b2
    have HOW := hide b3'
    have HB5 := hide b4
    have hlg7 := b5
    clear b1 b2 b3' b4 b5
    have hgg0 : 0 ≤ yc % 2 := Int.emod_nonneg yc (by omega)
    have hgg1 : yc % 2 < 2 := Int.emod_lt_of_pos yc (by omega)
    have hmo : yc.tmod 2 = yc % 2 := Int.tmod_eq_emod_of_nonneg hyc.1
    have hw2 : IntKind.i64.wrap yc = yc := IntWalk.i64_in _ (by omega)
    generalize yc % 2 = gg at *
    have hw1 : IntKind.i64.wrap gg = gg := IntWalk.i64_in _ (by omega)
    have hw3 : IntKind.i64.wrap (c.gas + gg) = c.gas + gg := IntWalk.i64_in _ (by omega)
    have hE3 : (if c.gas + gg < 3 then c.gas + gg else 3) = min 3 (c.gas + gg) := by split <;> omega
    have HMG := hide (show ∀ a, (hotC c gg a).gas = min 3 (c.gas + gg) from fun _ => rfl)
    generalize min 3 (c.gas + gg) = mg at *
    have x1 : v11.cell? ⟨w.heap.size, 1, none⟩ = some (.int .i64 c.gas) := (HBL.out.next HB5.out).at_ 1
    have z : w.heap.size < v11.heap.size := (HBL.out.next HB5.out).lt
    have yy : v11.cell? ⟨w.heap.size + 1 + 1, 2, none⟩ = some (.int .u8 yc) := (HYB.out.next HB5.out).at_ 2
    have zy : w.heap.size + 1 + 1 < v11.heap.size := (HYB.out.next HB5.out).lt
    have b1c : v11.cell? ⟨gb, 1, none⟩ = some (.int .i64 c.gas) := HGB.out.at_ 1
    have f1 := HGB.out.free 1
    go_upto_region 25 with (fail)
    have hk1 : Keep (fun q => q = gb) v11 (v11.setCell ⟨gb, 1, none⟩ (.int .i64 mg)) := Keep.setCell _ _ _ _ rfl
    have b1 := HGA.out.else_ (p := ⟨gb, 1, none⟩) hne (.int .i64 mg)
    have b2 : Blk (v11.setCell ⟨gb, 1, none⟩ (.int .i64 mg)) gb 27 #[.slice A1 c.heat.length c1, .int .i64 mg, .slice A2 c.holds.length c2, .slice (some ⟨b3, o3, none⟩) c.lots.length c3, .slice none 0 0] := HGB.out.store 1 _
    have b3' := own_kept HOW.out hk1 (fun b hb hS => by have := HN6.out; omega)
    have b4 := HB5.out.setCell (p := ⟨gb, 1, none⟩) hzb (.int .i64 mg)
    have b5 : g7 < (v11.setCell ⟨gb, 1, none⟩ (.int .i64 mg)).heap.size := by simpa using hlg7
    clear hk1 x1 z yy zy b1c f1 hmo hw1 hw2 hw3 hE3 HGA HGB HOW HB5 hlg7
    generalize (v11.setCell ⟨gb, 1, none⟩ (.int .i64 mg)) = v12 at *
    have HGA := hide b1
    have HGB := hide b2
    have HOW := hide b3'
    have HB5 := hide b4
    have hlg7 := b5
    clear b1 b2 b3' b4 b5
    have x0 : v12.cell? ⟨w.heap.size, 0, none⟩ = some (.slice A1 c.heat.length c1) := (HBL.out.next HB5.out).at_ 0
    have z : w.heap.size < v12.heap.size := (HBL.out.next HB5.out).lt
    have hla := HGA.out.lt
    have hz12 := HB5.out.size
    have zgb := HGB.out.lt
    have b0c : v12.cell? ⟨gb, 0, none⟩ = some (.slice A1 c.heat.length c1) := HGB.out.at_ 0
    have f0 := HGB.out.free 0
    have HRH := hide (show Row v12 v12.heap.size A1 (c.heat.length * 1) (intsF c.heat) by rw [Nat.mul_one]; exact (HC5.out.next HB5.out).heat)
    go_upto_region 26 with
        (at_builtin
         refine wpList_app_row _ rfl _ _ 22 rfl v12.heap.size 3 i0 (.int .i64 0) 1 8 Try.underlying22 hI0 hz00 hz01 hz02 rfl (by decide) (.slice (some ⟨v12.heap.size, 0, none⟩) 0 0) 0 [] rfl (World.ownsRow_lit _ #[] 0 (Nat.le_refl _) (by simp [maxLen]) rfl) A1 c.heat.length c1 v12.heap.size (intsF c.heat) rfl (HRH.out.below ((Below.refl _ _).alloc (Nat.le_refl _) _)) (fun _ _ => rfl) (by simp only [maxLen]; omega) (by omega) (by simp) ?_
         intro v' w1 hown hg hblk
         have hbA : Below v12.heap.size v12 w1 := ((Below.refl _ v12).alloc (Nat.le_refl _) (.cells #[] 3)).grown hg (by simp) (fun k hk => by simp [Value.ownBlock] at hk; omega)
         rw [Nat.zero_add, List.nil_append, ints_vals] at hown
         obtain ⟨AH, cH, rfl, hown⟩ := own_ex hown
         have b0' := (hbA.cell (p := ⟨gb, 0, none⟩) zgb).trans b0c
         have f0' := (hbA.frozen (p := ⟨gb, 0, none⟩) zgb).trans f0
         have HBA := hide hbA
         have HOH := hide hown
         clear hg hblk hbA hown)
    have hk1 : Keep (fun q => q = gb) w1 (w1.setCell ⟨gb, 0, none⟩ (.slice AH c.heat.length cH)) := Keep.setCell _ _ _ _ rfl
    have b1 := (HGA.out.next HBA.out).else_ (p := ⟨gb, 0, none⟩) hne (.slice AH c.heat.length cH)
    have b2 : Blk (w1.setCell ⟨gb, 0, none⟩ (.slice AH c.heat.length cH)) gb 27 #[.slice AH c.heat.length cH, .int .i64 mg, .slice A2 c.holds.length c2, .slice (some ⟨b3, o3, none⟩) c.lots.length c3, .slice none 0 0] := (HGB.out.next HBA.out).store 0 _
    have b3' := own_kept (own_stab HOW.out (fun b hb _ => HBA.out.block b hb)) hk1 (fun b hb hS => by have := HN6.out; omega)
    have b4 := (HB5.out.trans (HBA.out.mono HB5.out.size)).setCell (p := ⟨gb, 0, none⟩) hzb (.slice AH c.heat.length cH)
    have b5 := own_kept HOH.out hk1 (fun b hb hS => by omega)
    clear hk1 x0 z b0c f0 b0' f0' HRH HGA HGB HOW HB5 HOH HBA
    generalize (w1.setCell ⟨gb, 0, none⟩ (.slice AH c.heat.length cH)) = v13 at *
    have HGA := hide b1
    have HGB := hide b2
    have HOW := hide b3'
    have HB5 := hide b4
    have HOH := hide b5
    clear b1 b2 b3' b4 b5
    have x0 : v13.cell? ⟨w.heap.size, 0, none⟩ = some (.slice A1 c.heat.length c1) := (HBL.out.next HB5.out).at_ 0
    have z : w.heap.size < v13.heap.size := (HBL.out.next HB5.out).lt
    go_upto_if 175 with fail
    clear x0 z
    go_cut [] (fun wr => ∃ a : Nat, Hid (Below v5.heap.size v5 wr) ∧ Hid (Blk wr ga 27 #[.slice A1 c.heat.length c1, .int .i64 c.gas, .slice A2 c.holds.length c2, .slice (some ⟨g7, 0, none⟩) c.lots.length cG, .slice none 0 0]) ∧ Hid (Blk wr gb 27 #[.slice AH c.heat.length cH, .int .i64 mg, .slice A2 c.holds.length c2, .slice (some ⟨b3, o3, none⟩) c.lots.length c3, .slice none 0 0]) ∧ Hid (wr.ownsRow v6.heap.size 57 4 (.slice (some ⟨g7, 0, none⟩) c.lots.length cG) c.lots.length ((List.range (c.lots.length * 4)).map (lotsF (greenC c k kk).lots))) ∧ Hid (wr.ownsRow v12.heap.size 3 1 (.slice AH c.heat.length cH) c.heat.length ((hotC c gg a).heat.map (Value.int .i64))))
    case first =>
      by_cases hh : c.heat.length = 0
      · have hb1 : decide ((c.heat.length : Int) > 0) = false := by rw [decide_eq_false_iff_not]; omega
        have hb2 : decide (0 < (c.heat.length : Int)) = false := hb1
        go_wp2_with fail
        go_meet
        have e : (hotC c gg 0).heat = c.heat := List.set_eq_of_length_le (by omega)
        exact ⟨0, HB5, HGA, HGB, HOW, by rw [e]; exact HOH⟩
      · have hb1 : decide ((c.heat.length : Int) > 0) = true := by rw [decide_eq_true_eq]; omega
        have hb2 : decide (0 < (c.heat.length : Int)) = true := hb1
        have hpa := Int.emod_nonneg yd (show (c.heat.length : Int) ≠ 0 by omega)
        have hpb := Int.emod_lt_of_pos yd (show 0 < (c.heat.length : Int) by omega)
        have hmo : yd.tmod (c.heat.length : Int) = yd % (c.heat.length : Int) := Int.tmod_eq_emod_of_nonneg hyd.1
        have hz1 : ((c.heat.length : Int) == 0) = false := by rw [beq_eq_false_iff_ne]; omega
        have hz2 : (c.heat.length : Int) ≠ 0 := by omega
        have hz3 : ¬ c.heat = [] := fun h => hh (by rw [h]; rfl)
        have hw1 : IntKind.i64.wrap (yd % (c.heat.length : Int)) = yd % (c.heat.length : Int) := IntWalk.i64_in _ (by omega)
        have hw2 : IntKind.i64.wrap yd = yd := IntWalk.i64_in _ (by omega)
        obtain ⟨ka, hda⟩ : ∃ ka : Nat, yd % (c.heat.length : Int) = (ka : Int) := ⟨(yd % (c.heat.length : Int)).toNat, by omega⟩
        rw [hda] at hpa hpb hmo hw1
        clear hda
        have hal : ka < c.heat.length := by omega
        have x0 : v13.cell? ⟨w.heap.size, 0, none⟩ = some (.slice A1 c.heat.length c1) := (HBL.out.next HB5.out).at_ 0
        have z : w.heap.size < v13.heap.size := (HBL.out.next HB5.out).lt
        have yy : v13.cell? ⟨w.heap.size + 1 + 1, 3, none⟩ = some (.int .u8 yd) := (HYB.out.next HB5.out).at_ 3
        have zy : w.heap.size + 1 + 1 < v13.heap.size := (HYB.out.next HB5.out).lt
        go_upto_region 28 with fail
        clear hmo hz1 hz2 hz3 hw1 hw2 hb1 hb2 x0 z yy zy
        obtain ⟨gh, hAH, hzh, hlh⟩ := own_addr HOH.out (by omega)
        subst hAH
        obtain ⟨bh, oh, hA1, hbh, hch⟩ := (HC5.out.next HB5.out).heat (show 0 < c.heat.length by omega)
        subst hA1
        have s0 : v13.cell? ⟨bh, oh + ka, none⟩ = some (.int .i64 (nth c.heat ka)) := hch ka hal
        have s1 : v13.cell? ⟨gh, ka, none⟩ = some (.int .i64 (nth c.heat ka)) := by rw [World.ownsRow.cellAt HOH.out ka (by omega)]; simp [hal, nth]
        have u1 := World.ownsRow.frozenAt HOH.out ka
        clear hch
        have hht := HVD.out.heat ka
        have hw3 : IntKind.i64.wrap (nth c.heat ka + 1) = nth c.heat ka + 1 := IntWalk.i64_in _ (by omega)
        have hE5 : (if nth c.heat ka + 1 < 3 then nth c.heat ka + 1 else 3) = min 3 (nth c.heat ka + 1) := by split <;> omega
        have HMX := hide (show (hotC c gg ka).heat = c.heat.set ka (min 3 (nth c.heat ka + 1)) from rfl)
        generalize min 3 (nth c.heat ka + 1) = mx at *
        have b0 : v13.cell? ⟨gb, 0, none⟩ = some (.slice (some ⟨gh, 0, none⟩) c.heat.length cH) := HGB.out.at_ 0
        have zb := HGB.out.lt
        have x0 : v13.cell? ⟨w.heap.size, 0, none⟩ = some (.slice (some ⟨bh, oh, none⟩) c.heat.length c1) := (HBL.out.next HB5.out).at_ 0
        have z : w.heap.size < v13.heap.size := (HBL.out.next HB5.out).lt
        have hbq : gb ≠ gh := by omega
        have haq : ga ≠ gh := by omega
        have h7q : g7 ≠ gh := by omega
        have ha0 : (0 : Int) ≤ (ka : Int) := Int.natCast_nonneg _
        refine wp_post0 (fun act0 a W => ∃ vs : Nat → Value, a = { tmps := setAll (fun oi => [183, 184, 185, 186, 187, 188, 189, 190, 191, 192, 193, 0].getD oi 0) vs [0, 1, 2, 3, 4, 5, 6, 7, 8, 9, 10] act0.tmps, defers := act0.defers } ∧ ∃ W1 : World, W = W1.setCell ⟨gh, ka, none⟩ (.int .i64 mx) ∧ Below v13.heap.size v13 W1) ?reg ?imp
        case reg =>
          have hST : Stab v13.heap.size (fun oi v W => match oi with | 0 => v = .pointer (some ⟨gb, 0, none⟩) | 1 => v = .slice (some ⟨gh, 0, none⟩) c.heat.length cH | 2 => v = .int .i64 ka | 3 => v = .pointer (some ⟨w.heap.size, 0, none⟩) | 4 => v = .slice (some ⟨bh, oh, none⟩) c.heat.length c1 | 5 => v = .int .i64 ka | 6 => v = .pointer (some ⟨bh, oh + ka, none⟩) | 7 => v = .int .i64 (nth c.heat ka) | 8 => v = .int .i64 (nth c.heat ka + 1) | 9 => v = .int .i64 mx | 10 => v = .pointer (some ⟨gh, ka, none⟩) | _ => True) (fun oi v b => match oi with  | _ => False) := by
            intro oi v W W' h hbs hz hk
            match oi, h, hk with
            | 0, h, hk => exact h
            | 1, h, hk => exact h
            | 2, h, hk => exact h
            | 3, h, hk => exact h
            | 4, h, hk => exact h
            | 5, h, hk => exact h
            | 6, h, hk => exact h
            | 7, h, hk => exact h
            | 8, h, hk => exact h
            | 9, h, hk => exact h
            | 10, h, hk => exact h
            | oi + 11, h, hk => exact trivial
          refine wp_region_inv (dst := fun oi => [183, 184, 185, 186, 187, 188, 189, 190, 191, 192, 193, 0].getD oi 0) (mono := fun oi => decide (oi < 11)) (pre := fun oi => decide (oi < 11)) (G := Loose 12 v13.heap.size (fun oi => match oi with  | _ => 12) (fun oi v W => match oi with | 0 => v = .pointer (some ⟨gb, 0, none⟩) | 1 => v = .slice (some ⟨gh, 0, none⟩) c.heat.length cH | 2 => v = .int .i64 ka | 3 => v = .pointer (some ⟨w.heap.size, 0, none⟩) | 4 => v = .slice (some ⟨bh, oh, none⟩) c.heat.length c1 | 5 => v = .int .i64 ka | 6 => v = .pointer (some ⟨bh, oh + ka, none⟩) | 7 => v = .int .i64 (nth c.heat ka) | 8 => v = .int .i64 (nth c.heat ka + 1) | 9 => v = .int .i64 mx | 10 => v = .pointer (some ⟨gh, ka, none⟩) | _ => True) (fun oi v b => match oi with  | _ => False)) (by kernel_rfl) (by kernel_rfl) (Loose.start (Nat.le_refl _)) ?hstep ?hend
          case hstep =>
            intro oi hoi hom listed vs a W hU hsz hG hcl hl haft K hK
            have hb := ((Below.refl v13.heap.size v13).drew).trans hU.below
            have hF := Loose.stepF hU hG hST hoi hK
            match oi, hoi, hom with
            | 0, hoi, hom =>
              have z16 : a.tmps[16]?.getD undef = .pointer (some ⟨gb, 0, none⟩) := hU.same 16 (by decide)
              refine wpOp_value (v := .pointer (some ⟨gb, 0, none⟩)) (W' := W) rfl rfl ?_ (hF _ _ (Below.refl _ _) rfl (fun _ h => False.elim h))
              go_simp
            | 1, hoi, hom =>
              have l0 := haft _ rfl { on := 0, ground := .data } (by simp) rfl
              have p0 := hG.pv 0 (by decide) (live_end hsz rfl l0)
              have s0 : a.tmps[183]?.getD undef = vs 0 := hU.slot 0 (by decide) l0
              have hv0 : vs 0 = .pointer (some ⟨gb, 0, none⟩) := p0
              rw [hv0] at s0
              have y0 := (hb.cell (p := ⟨gb, 0, none⟩) (zb)).trans (b0)
              refine wpOp_value (v := .slice (some ⟨gh, 0, none⟩) c.heat.length cH) (W' := W) rfl rfl ?_ (hF _ _ (Below.refl _ _) rfl (fun _ h => False.elim h))
              go_simp
            | 2, hoi, hom =>
              have z19 : a.tmps[19]?.getD undef = .int .i64 ka := hU.same 19 (by decide)
              refine wpOp_value (v := .int .i64 ka) (W' := W) rfl rfl ?_ (hF _ _ (Below.refl _ _) rfl (fun _ h => False.elim h))
              go_simp
            | 3, hoi, hom =>
              have z3 : a.tmps[3]?.getD undef = .pointer (some ⟨w.heap.size, 0, none⟩) := hU.same 3 (by decide)
              refine wpOp_value (v := .pointer (some ⟨w.heap.size, 0, none⟩)) (W' := W) rfl rfl ?_ (hF _ _ (Below.refl _ _) rfl (fun _ h => False.elim h))
              go_simp
            | 4, hoi, hom =>
              have l3 := haft _ rfl { on := 3, ground := .data } (by simp) rfl
              have p3 := hG.pv 3 (by decide) (live_end hsz rfl l3)
              have s3 : a.tmps[186]?.getD undef = vs 3 := hU.slot 3 (by decide) l3
              have hv3 : vs 3 = .pointer (some ⟨w.heap.size, 0, none⟩) := p3
              rw [hv3] at s3
              have y0 := (hb.cell (p := ⟨w.heap.size, 0, none⟩) (z)).trans (x0)
              refine wpOp_value (v := .slice (some ⟨bh, oh, none⟩) c.heat.length c1) (W' := W) rfl rfl ?_ (hF _ _ (Below.refl _ _) rfl (fun _ h => False.elim h))
              go_simp
            | 5, hoi, hom =>
              have z19 : a.tmps[19]?.getD undef = .int .i64 ka := hU.same 19 (by decide)
              refine wpOp_value (v := .int .i64 ka) (W' := W) rfl rfl ?_ (hF _ _ (Below.refl _ _) rfl (fun _ h => False.elim h))
              go_simp
            | 6, hoi, hom =>
              have l4 := haft _ rfl { on := 4, ground := .data } (by simp) rfl
              have p4 := hG.pv 4 (by decide) (live_end hsz rfl l4)
              have s4 : a.tmps[187]?.getD undef = vs 4 := hU.slot 4 (by decide) l4
              have hv4 : vs 4 = .slice (some ⟨bh, oh, none⟩) c.heat.length c1 := p4
              rw [hv4] at s4
              have l5 := haft _ rfl { on := 5, ground := .data } (by simp) rfl
              have p5 := hG.pv 5 (by decide) (live_end hsz rfl l5)
              have s5 : a.tmps[188]?.getD undef = vs 5 := hU.slot 5 (by decide) l5
              have hv5 : vs 5 = .int .i64 ka := p5
              rw [hv5] at s5
              refine wpOp_value (v := .pointer (some ⟨bh, oh + ka, none⟩)) (W' := W) rfl rfl ?_ (hF _ _ (Below.refl _ _) rfl (fun _ h => False.elim h))
              go_simp
            | 7, hoi, hom =>
              have l6 := haft _ rfl { on := 6, ground := .data } (by simp) rfl
              have p6 := hG.pv 6 (by decide) (live_end hsz rfl l6)
              have s6 : a.tmps[189]?.getD undef = vs 6 := hU.slot 6 (by decide) l6
              have hv6 : vs 6 = .pointer (some ⟨bh, oh + ka, none⟩) := p6
              rw [hv6] at s6
              have y0 := (hb.cell (p := ⟨bh, oh + ka, none⟩) (hbh)).trans (s0)
              refine wpOp_value (v := .int .i64 (nth c.heat ka)) (W' := W) rfl rfl ?_ (hF _ _ (Below.refl _ _) rfl (fun _ h => False.elim h))
              go_simp
            | 8, hoi, hom =>
              have l7 := haft _ rfl { on := 7, ground := .data } (by simp) rfl
              have p7 := hG.pv 7 (by decide) (live_end hsz rfl l7)
              have s7 : a.tmps[190]?.getD undef = vs 7 := hU.slot 7 (by decide) l7
              have hv7 : vs 7 = .int .i64 (nth c.heat ka) := p7
              rw [hv7] at s7
              refine wpOp_value (v := .int .i64 (nth c.heat ka + 1)) (W' := W) rfl rfl ?_ (hF _ _ (Below.refl _ _) rfl (fun _ h => False.elim h))
              go_simp
            | 9, hoi, hom =>
              have l8 := haft _ rfl { on := 8, ground := .data } (by simp) rfl
              have p8 := hG.pv 8 (by decide) (live_end hsz rfl l8)
              have s8 : a.tmps[191]?.getD undef = vs 8 := hU.slot 8 (by decide) l8
              have hv8 : vs 8 = .int .i64 (nth c.heat ka + 1) := p8
              rw [hv8] at s8
              refine wpOp_value (v := .int .i64 mx) (W' := W) rfl rfl ?_ (hF _ _ (Below.refl _ _) rfl (fun _ h => False.elim h))
              go_simp
            | 10, hoi, hom =>
              have l1 := haft _ rfl { on := 1, ground := .data } (by simp) rfl
              have p1 := hG.pv 1 (by decide) (live_end hsz rfl l1)
              have s1 : a.tmps[184]?.getD undef = vs 1 := hU.slot 1 (by decide) l1
              have hv1 : vs 1 = .slice (some ⟨gh, 0, none⟩) c.heat.length cH := p1
              rw [hv1] at s1
              have l2 := haft _ rfl { on := 2, ground := .data } (by simp) rfl
              have p2 := hG.pv 2 (by decide) (live_end hsz rfl l2)
              have s2 : a.tmps[185]?.getD undef = vs 2 := hU.slot 2 (by decide) l2
              have hv2 : vs 2 = .int .i64 ka := p2
              rw [hv2] at s2
              refine wpOp_value (v := .pointer (some ⟨gh, ka, none⟩)) (W' := W) rfl rfl ?_ (hF _ _ (Below.refl _ _) rfl (fun _ h => False.elim h))
              go_simp
            | oi + 11, hoi, hom => exact absurd (of_decide_eq_true hom) (by omega)
          case hend =>
            intro listed vs a W hG0 hG hpre
            have hb := ((Below.refl v13.heap.size v13).drew).trans hG0.below
            have hact := hG0.act
            have hT := hG0.lst hpre 0 #[true, true, true, true, true, true, true, true, true, true, true, false] rfl (by kernel_rfl) (hpre 0 (by decide) (by decide))
            rw [hG0.ix hT (l := [0, 1, 2, 3, 4, 5, 6, 7, 8, 9, 10]) (by kernel_rfl)] at hact
            rw [hG0.lo hT (k := 1) (by kernel_rfl)]
            have p9 := hG.pv 9 (by decide) (live_end hG.size rfl (hpre 9 (by decide) (by decide)))
            have p10 := hG.pv 10 (by decide) (live_end hG.size rfl (hpre 10 (by decide) (by decide)))
            clear hpre hG hST
            obtain rfl : a = _ := hact
            subst hT
            have hv9 : vs 9 = .int .i64 mx := p9
            have hv10 : vs 10 = .pointer (some ⟨gh, ka, none⟩) := p10
            have y1 := (hb.cell (p := ⟨gh, ka, none⟩) hlh).trans s1
            have f1 := (hb.frozen (p := ⟨gh, ka, none⟩) hlh).trans u1
            simp only [setAll, List.setIfInBounds_toArray, List.set_cons_succ, List.set_cons_zero, List.getD_cons_succ, List.getD_cons_zero]
            refine wpAny_all (rs := [11]) (by kernel_rfl) (by simp) ?_
            intro i2 hi2
            obtain rfl : i2 = 11 := by simpa using hi2
            refine wpOp_skip (W' := W.setCell ⟨gh, ka, none⟩ (.int .i64 mx)) rfl rfl ?_ ?_
            · rw [hv10, hv9]; go_simp
            refine wpAny_done (by kernel_rfl) ?_ _
            exact ⟨rfl, vs, rfl, W, rfl, hb⟩
        case imp =>
        rintro a11 u13 ⟨vs3, rfl, W1, rfl, hb⟩
        simp only [setAll, List.setIfInBounds_toArray, List.set_cons_succ, List.set_cons_zero, List.getD_cons_succ, List.getD_cons_zero]
        go_wp2_with fail
        go_meet
        refine ⟨ka, ?_, ?_, ?_, ?_, ?_⟩
        · exact hide ((HB5.out.trans (hb.mono HB5.out.size)).setCell (p := ⟨gh, ka, none⟩) (by show _ ≤ gh; omega) _)
        · exact hide ((HGA.out.next hb).else_ (p := ⟨gh, ka, none⟩) haq _)
        · exact hide ((HGB.out.next hb).else_ (p := ⟨gh, ka, none⟩) hbq _)
        · exact hide (own_stab HOW.out (fun b hb2 e => by
            have hg : g7 = b := own_new e
            rw [Below.heap_setCell _ ⟨gh, ka, none⟩ _ b (by subst hg; exact h7q)]
            exact hb.block b hb2))
        · rw [HMX.out, ← ints_set hal c.heat rfl mx]
          exact hide (own_set (own_stab HOH.out (fun b hb2 _ => hb.block b hb2)) _ _)
    case rest =>
      clear HB5 HGA HGB HOW HOH
      obtain ⟨a, HB5, HGA, HGB, HOW, HOH⟩ := hcut
      have hcw := HC5.out.next HB5.out
      have hgl : (greenC c k kk).lots.length = c.lots.length := by simp [greenC]
      have hhl : (hotC c gg a).heat.length = c.heat.length := by simp [hotC]
      obtain ⟨n1, n2, nr⟩ := row_fun HOW.out
      have hih := ints_own HOH.out
      have HB := hide (HB0.out.trans (HB5.out.mono HB0.out.size))
      have HK : Hid (BoxC wc w.heap.size (bareC c) A1 A2 (some ⟨b3, o3, none⟩) none c1 c2 c3 0) := hide ⟨hcw, (HBL.out.next HB5.out).lt, (HBL.out.next HB5.out).at_ 0, (HBL.out.next HB5.out).at_ 1, (HBL.out.next HB5.out).at_ 2, (HBL.out.next HB5.out).at_ 3, (HBL.out.next HB5.out).at_ 4⟩
      have HG : Hid (BoxC wc ga (greenC c k kk) A1 A2 (some ⟨g7, 0, none⟩) none c1 c2 cG 0) := hide ⟨⟨hcw.heat, hcw.holds, by rw [hgl]; exact nr, Row.nil_, hcw.m1, hcw.m2, by rw [hgl]; exact ⟨n1, n2⟩, by simp [greenC, maxLen]⟩, HGA.out.lt, HGA.out.at_ 0, HGA.out.at_ 1, HGA.out.at_ 2, by rw [hgl]; exact HGA.out.at_ 3, HGA.out.at_ 4⟩
      have HH : Hid (BoxC wc gb (hotC c gg a) AH A2 (some ⟨b3, o3, none⟩) none cH c2 c3 0) := hide ⟨⟨by rw [hhl]; exact hih.row, hcw.holds, hcw.lots, Row.nil_, by rw [hhl]; exact ⟨hih.cap, hih.max⟩, hcw.m2, hcw.m3, by simp [hotC, maxLen]⟩, HGB.out.lt, by rw [hhl]; exact HGB.out.at_ 0, by rw [HMG.out]; exact HGB.out.at_ 1, HGB.out.at_ 2, HGB.out.at_ 3, HGB.out.at_ 4⟩
      have HLO := hide (fun (i : Nat) (hi : i < (bareC c).lots.length) => (show (turnsR (bareC c) i).2 = 0 ∧ (turnsR (greenC c k kk) i).2 = 0 ∧ (turnsR (hotC c gg a) i).2 = 0 ∧ laterT (turnsR (greenC c k kk) i).1 (turnsR (bareC c) i).1 = true ∧ laterT (turnsR (bareC c) i).1 (turnsR (hotC c gg a) i).1 = true from have q := later_ok HVD.out hkl hkk0 hgg0 a hi; ⟨q.e0, q.e1, q.e2, q.l1, q.l2⟩))
      clear HB5 HGA HGB HOW HOH hcw hgl hhl n1 n2 nr hih HMG HB0 HBL HYB HC5 HVD HC0
      obtain ⟨HK, HG, HH, HB, HLO⟩ := And.intro HK (And.intro HG (And.intro HH (And.intro HB HLO)))
      have hlz : (bareC c).lots.length ≤ 4 := hl4
      generalize bareC c = zc at *
      generalize greenC c k kk = zg at *
      generalize hotC c gg a = zh at *
      go_wp2_with fail
      go_loopw [20, 21, 22, 23, 24, 25, 26, 27, 28, 29] (fun v20 _ _ _ _ _ _ _ _ _ wr => ∃ i : Nat, i ≤ zc.lots.length ∧ v20 = .int .i64 i ∧ Hid (BoxC wr w.heap.size zc A1 A2 (some ⟨b3, o3, none⟩) none c1 c2 c3 0) ∧ Hid (BoxC wr ga zg A1 A2 (some ⟨g7, 0, none⟩) none c1 c2 cG 0) ∧ Hid (BoxC wr gb zh AH A2 (some ⟨b3, o3, none⟩) none cH c2 c3 0) ∧ Hid (Below w.heap.size w wr)) (fun v20 _ _ _ _ _ _ _ _ _ _ => zc.lots.length - (intOf v20).toNat)
      case atStart => exact ⟨0, by omega, rfl, HK, HG, HH, HB⟩
      case round =>
        clear HK HG HH HB
        obtain ⟨i, hi, rfl, HK, HG, HH, HB⟩ := hrel
        have hi0 : (0 : Int) ≤ (i : Int) := Int.natCast_nonneg _
        by_cases hli : i < zc.lots.length
        · have hi1 : (i : Int) < (zc.lots.length : Int) := by omega
          obtain ⟨e0, e1, e2, l1, l2⟩ := HLO.out i hli
          clear HLO
          have HT1 := hide (fun (W : World) A1 A2 A3 A4 c1 c2 c3 c4 (h : CargoV W W.heap.size zc A1 A2 A3 A4 c1 c2 c3 c4) => (show Calls Try.prog 18 #[cargoVal zc A1 A2 A3 A4 c1 c2 c3 c4, .int .i64 (i : Int)] W fun e w' => e = .returned (.tuple #[.agg #[.int .i64 (nth (turnsR zc i).1.1 0), .int .i64 (nth (turnsR zc i).1.1 1)], .int .i64 (turnsR zc i).1.2, .int .i64 0]) ∧ Below W.heap.size W w' from by have := turnsW_any h (i : Int); rw [e0] at this; exact this))
          have HT2 := hide (fun (W : World) A1 A2 A3 A4 c1 c2 c3 c4 (h : CargoV W W.heap.size zg A1 A2 A3 A4 c1 c2 c3 c4) => (show Calls Try.prog 18 #[cargoVal zg A1 A2 A3 A4 c1 c2 c3 c4, .int .i64 (i : Int)] W fun e w' => e = .returned (.tuple #[.agg #[.int .i64 (nth (turnsR zg i).1.1 0), .int .i64 (nth (turnsR zg i).1.1 1)], .int .i64 (turnsR zg i).1.2, .int .i64 0]) ∧ Below W.heap.size W w' from by have := turnsW_any h (i : Int); rw [e1] at this; exact this))
          have HT3 := hide (fun (W : World) A1 A2 A3 A4 c1 c2 c3 c4 (h : CargoV W W.heap.size zh A1 A2 A3 A4 c1 c2 c3 c4) => (show Calls Try.prog 18 #[cargoVal zh A1 A2 A3 A4 c1 c2 c3 c4, .int .i64 (i : Int)] W fun e w' => e = .returned (.tuple #[.agg #[.int .i64 (nth (turnsR zh i).1.1 0), .int .i64 (nth (turnsR zh i).1.1 1)], .int .i64 (turnsR zh i).1.2, .int .i64 0]) ∧ Below W.heap.size W w' from by have := turnsW_any h (i : Int); rw [e2] at this; exact this))
          clear e0 e1 e2
          unfold laterT at l1 l2
          generalize nth (turnsR zc i).1.1 0 = plo at *
          generalize nth (turnsR zc i).1.1 1 = phi at *
          generalize (turnsR zc i).1.2 = m at *
          generalize nth (turnsR zg i).1.1 0 = qlo at *
          generalize nth (turnsR zg i).1.1 1 = qhi at *
          generalize (turnsR zg i).1.2 = n at *
          generalize nth (turnsR zh i).1.1 0 = rlo at *
          generalize nth (turnsR zh i).1.1 1 = rhi at *
          generalize (turnsR zh i).1.2 = o at *
          have HL1 := hide l1
          have HL2 := hide l2
          clear l1 l2
          obtain ⟨hv, z, x0, x1, x2, x3, x4⟩ := HK.out
          have HV := hide hv
          clear hv
          go_upto_region 33 with (go_at_call 18; refine (HT1.out _ _ _ _ _ _ _ _ _ HV.out).mono ?_; rintro e v31 ⟨rfl, hb⟩)
          have HK := hide (HK.out.next hb)
          have HG := hide (HG.out.next hb)
          have HH := hide (HH.out.next hb)
          have HB := hide (HB.out.trans (hb.mono (by have := HB.out.size; exact this)))
          clear hb
          clear z x0 x1 x2 x3 x4 HV
          have hb : Below v31.heap.size v31 (v31.alloc (.cells #[.int .i64 plo, .int .i64 phi] 32)) := (Below.refl _ _).alloc (Nat.le_refl _) _
          have HP : Hid (BoxS (v31.alloc (.cells #[.int .i64 plo, .int .i64 phi] 32)) v31.heap.size (plo) (phi)) := hide BoxS.made
          have HK := hide (HK.out.next hb)
          have HG := hide (HG.out.next hb)
          have HH := hide (HH.out.next hb)
          have HB := hide (HB.out.trans (hb.mono (by have := HB.out.size; exact this)))
          clear hb
          generalize (v31.alloc (.cells #[.int .i64 plo, .int .i64 phi] 32)) = u31 at *
          obtain ⟨hv, z, x0, x1, x2, x3, x4⟩ := HG.out
          have HV := hide hv
          clear hv
          go_upto_region 34 with (go_at_call 18; refine (HT2.out _ _ _ _ _ _ _ _ _ HV.out).mono ?_; rintro e v32 ⟨rfl, hb⟩)
          have HK := hide (HK.out.next hb)
          have HG := hide (HG.out.next hb)
          have HH := hide (HH.out.next hb)
          have HP := hide (HP.out.next hb)
          have HB := hide (HB.out.trans (hb.mono (by have := HB.out.size; exact this)))
          clear hb
          clear z x0 x1 x2 x3 x4 HV
          have hb : Below v32.heap.size v32 (v32.alloc (.cells #[.int .i64 qlo, .int .i64 qhi] 32)) := (Below.refl _ _).alloc (Nat.le_refl _) _
          have HQ : Hid (BoxS (v32.alloc (.cells #[.int .i64 qlo, .int .i64 qhi] 32)) v32.heap.size (qlo) (qhi)) := hide BoxS.made
          have HK := hide (HK.out.next hb)
          have HG := hide (HG.out.next hb)
          have HH := hide (HH.out.next hb)
          have HP := hide (HP.out.next hb)
          have HB := hide (HB.out.trans (hb.mono (by have := HB.out.size; exact this)))
          clear hb
          generalize (v32.alloc (.cells #[.int .i64 qlo, .int .i64 qhi] 32)) = u32 at *
          obtain ⟨hv, z, x0, x1, x2, x3, x4⟩ := HH.out
          have HV := hide hv
          clear hv
          go_upto_region 35 with (go_at_call 18; refine (HT3.out _ _ _ _ _ _ _ _ _ HV.out).mono ?_; rintro e v33 ⟨rfl, hb⟩)
          have HK := hide (HK.out.next hb)
          have HG := hide (HG.out.next hb)
          have HH := hide (HH.out.next hb)
          have HP := hide (HP.out.next hb)
          have HQ := hide (HQ.out.next hb)
          have HB := hide (HB.out.trans (hb.mono (by have := HB.out.size; exact this)))
          clear hb
          clear z x0 x1 x2 x3 x4 HV
          have hb : Below v33.heap.size v33 (v33.alloc (.cells #[.int .i64 rlo, .int .i64 rhi] 32)) := (Below.refl _ _).alloc (Nat.le_refl _) _
          have HR : Hid (BoxS (v33.alloc (.cells #[.int .i64 rlo, .int .i64 rhi] 32)) v33.heap.size (rlo) (rhi)) := hide BoxS.made
          have HK := hide (HK.out.next hb)
          have HG := hide (HG.out.next hb)
          have HH := hide (HH.out.next hb)
          have HP := hide (HP.out.next hb)
          have HQ := hide (HQ.out.next hb)
          have HB := hide (HB.out.trans (hb.mono (by have := HB.out.size; exact this)))
          clear hb
          generalize (v33.alloc (.cells #[.int .i64 rlo, .int .i64 rhi] 32)) = u33 at *
          clear HT1 HT2 HT3
          obtain ⟨zp, p0, p1⟩ := HP.out
          obtain ⟨zq, q0, q1⟩ := HQ.out
          obtain ⟨zr, r0, r1⟩ := HR.out
          go_wp2_with (go_at_call 54; refine (later_any _ _ _ _ _ _ _ (by first | exact HL1.out | exact HL2.out)).mono ?_; rintro e v20 ⟨rfl, hb⟩; have HB := hide (HB.out.trans (hb.mono HB.out.size)); have HK := hide (HK.out.next hb); have HG := hide (HG.out.next hb); have HH := hide (HH.out.next hb); have HP := hide (HP.out.next hb); have HQ := hide (HQ.out.next hb); have HR := hide (HR.out.next hb); clear hb zp p0 p1 zq q0 q1 zr r0 r1; obtain ⟨zp, p0, p1⟩ := HP.out; obtain ⟨zq, q0, q1⟩ := HQ.out; obtain ⟨zr, r0, r1⟩ := HR.out)
          go_roundw
          case rel => exact ⟨i + 1, by omega, by go_num, HK, HG, HH, HB⟩
          case measure => simp [intOf]; omega
        · have hii : i = zc.lots.length := by omega
          subst hii
          obtain ⟨hv, z, x0, x1, x2, x3, x4⟩ := HK.out
          clear hv
          go_wp2_with (go_at_call 23; refine (awake_any _).mono ?_; rintro e v20 ⟨rfl, hb⟩)
          go_ret
          exact ⟨rfl, HB.out.trans (hb.mono HB.out.size)⟩
theorem turnLater_any {A1 A2 A3 A4 : Option Addr} {c1 c2 c3 c4 : Nat} {c : Cargo} {w : World} (h : CargoV w w.heap.size c A1 A2 A3 A4 c1 c2 c3 c4) (xa xb ya yb yc yd : Int) (hw : (0 ≤ xa ∧ xa ≤ 255) ∧ (0 ≤ xb ∧ xb ≤ 255)) (hy : (0 ≤ ya ∧ ya ≤ 255) ∧ (0 ≤ yb ∧ yb ≤ 255) ∧ (0 ≤ yc ∧ yc ≤ 255) ∧ (0 ≤ yd ∧ yd ≤ 255)) :
    Calls Try.prog 13 #[cargoVal c A1 A2 A3 A4 c1 c2 c3 c4, .agg #[.int .u8 xa, .int .u8 xb], .agg #[.int .u8 ya, .int .u8 yb, .int .u8 yc, .int .u8 yd]] w fun e w' => e = .returned (.bool true) ∧ Below w.heap.size w w' := by
  by_cases hc : (checkM c).2.2 = 0
  · exact later_ok_any h xa xb ya yb yc yd hw.1 hw.2 hy.1 hy.2.1 hy.2.2.1 hy.2.2.2 (valid_of hc)
  · exact later_bad h xa xb ya yb yc yd hc
end Go.Proofs.Ytbkknliggnhpcaa
