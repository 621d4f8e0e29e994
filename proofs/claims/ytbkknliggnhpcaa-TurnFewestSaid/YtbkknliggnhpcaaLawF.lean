/- The law TurnFewest: for any cargo and bits the statement's function returns true. -/
import Derived.Test.YtbkknliggnhpcaaLawB
import Derived.Test.YtbkknliggnhpcaaPd
set_option linter.unusedVariables false
set_option linter.unusedSimpArgs false
namespace Go.Proofs.Ytbkknliggnhpcaa
open Go.RowKit
attribute [local go_sem ↓] Go.wp_at_zero Go.wp_at_succ

set_option maxHeartbeats 1600000 in
set_option maxRecDepth 100000 in
theorem valid7_any {A1 A2 A3 A4 : Option Addr} {c1 c2 c3 c4 : Nat} {c : Cargo} {w : World} (h : CargoV w w.heap.size c A1 A2 A3 A4 c1 c2 c3 c4) {v : Bool} (hv0 : decide ((checkM c).2.2 = 0) = v) :
    Calls Try.prog 35 #[cargoVal c A1 A2 A3 A4 c1 c2 c3 c4] w fun e w' => e = .returned (.bool v) ∧ Below w.heap.size w w' := by
  have HK := hide (BoxC.made h)
  have HB : Hid (Below w.heap.size w (w.alloc (.cells #[.slice A1 c.heat.length c1, .int .i64 c.gas, .slice A2 c.holds.length c2, .slice A3 c.lots.length c3, .slice A4 c.seen.length c4] 27))) := hide ((Below.refl _ _).alloc (Nat.le_refl _) _)
  have HV0 := hide hv0
  clear h hv0
  go_enter Try.func35, Try.ntmps35
  go_upto_region 1 with (fail)
  generalize (w.alloc (.cells #[.slice A1 c.heat.length c1, .int .i64 c.gas, .slice A2 c.holds.length c2, .slice A3 c.lots.length c3, .slice A4 c.seen.length c4] 27)) = v0 at *
  obtain ⟨hv, z, x0, x1, x2, x3, x4⟩ := HK.out
  have HV := hide hv
  clear hv
  go_wp2_with (go_at_call 17; refine (check7_any HV.out).mono ?_; rintro e v1 ⟨rfl, hb⟩)
  go_ret
  refine ⟨ret_b ?_, HB.out.trans (hb.mono HB.out.size)⟩
  rw [← HV0.out]
  rw [Bool.eq_iff_iff]; simp

set_option maxHeartbeats 4000000 in
set_option maxRecDepth 100000 in
theorem fewest_bad {A1 A2 A3 A4 : Option Addr} {c1 c2 c3 c4 : Nat} {c : Cargo} {w : World} (h : CargoV w w.heap.size c A1 A2 A3 A4 c1 c2 c3 c4) (b : Int) (hc : (checkM c).2.2 ≠ 0) :
    Calls Try.prog 11 #[cargoVal c A1 A2 A3 A4 c1 c2 c3 c4, .int .u8 b] w fun e w' => e = .returned (.bool true) ∧ Below w.heap.size w w' := by
  have HK := hide (BoxC.made h)
  have HB : Hid (Below w.heap.size w (w.alloc (.cells #[.slice A1 c.heat.length c1, .int .i64 c.gas, .slice A2 c.holds.length c2, .slice A3 c.lots.length c3, .slice A4 c.seen.length c4] 27))) := hide ((Below.refl _ _).alloc (Nat.le_refl _) _)
  clear h
  have HWR := hide (fun (w : World) A1 A2 A3 A4 c1 c2 c3 c4 (h : CargoV w w.heap.size c A1 A2 A3 A4 c1 c2 c3 c4) => (show Calls Try.prog 32 #[cargoVal c A1 A2 A3 A4 c1 c2 c3 c4] w fun e w' => ∃ A cp, e = .returned (.tuple #[.slice A 0 cp, .int .i64 (checkM c).2.2]) ∧ Below w.heap.size w w' from by
    have := wrong_any h; rw [wrongV, if_pos hc] at this; exact this.mono fun e w' ⟨A, cp, h1, _, h3⟩ => ⟨A, cp, h1, h3⟩))
  have HVF := hide (show decide ((checkM c).2.2 = 0) = false by simpa using hc)
  have hc2 : ((checkM c).2.2 == 0) = false := by simpa using hc
  generalize hE : (checkM c).2.2 = E at *
  have HE := hide hE
  have hc3 : (E != 0) = true := by simpa using hc
  clear hE
  go_enter Try.func11, Try.ntmps11
  go_upto_region 1 with (fail)
  generalize (w.alloc (.cells #[.slice A1 c.heat.length c1, .int .i64 c.gas, .slice A2 c.holds.length c2, .slice A3 c.lots.length c3, .slice A4 c.seen.length c4] 27)) = v0 at *
  obtain ⟨hv, z, x0, x1, x2, x3, x4⟩ := HK.out
  have HV := hide hv
  clear hv
  go_upto_region 2 with (go_at_call 32; refine (HWR.out _ _ _ _ _ _ _ _ _ HV.out).mono ?_; rintro e v1 ⟨R1, r1, rfl, hb⟩)
  have HK := hide (HK.out.next hb)
  have HB := hide (HB.out.trans (hb.mono (by have := HB.out.size; exact this)))
  clear hb
  clear z x0 x1 x2 x3 x4 HV
  obtain ⟨hv, z, x0, x1, x2, x3, x4⟩ := HK.out
  have HV := hide hv
  clear hv
  go_upto_region 3 with (go_at_call 35; refine (valid7_any HV.out (v := false) (by rw [HE.out]; exact HVF.out)).mono ?_; rintro e v2 ⟨rfl, hb⟩)
  have HK := hide (HK.out.next hb)
  have HB := hide (HB.out.trans (hb.mono (by have := HB.out.size; exact this)))
  clear hb
  clear z x0 x1 x2 x3 x4 HV
  go_wp2_with (go_at_call 23; refine (awake_any _).mono ?_; rintro e v10 ⟨rfl, hb⟩)
  go_ret
  exact ⟨rfl, HB.out.trans (hb.mono HB.out.size)⟩

set_option maxHeartbeats 4000000 in
set_option maxRecDepth 100000 in
theorem fewest_ok {A1 A2 A3 A4 : Option Addr} {c1 c2 c3 c4 : Nat} {c : Cargo} {w : World} (h : CargoV w w.heap.size c A1 A2 A3 A4 c1 c2 c3 c4) (b : Int) (hb0 : 0 ≤ b) (hb1 : b ≤ 255) (hval : Valid c) (hc : (checkM c).2.2 = 0) :
    Calls Try.prog 11 #[cargoVal c A1 A2 A3 A4 c1 c2 c3 c4, .int .u8 b] w fun e w' => e = .returned (.bool true) ∧ Below w.heap.size w w' := by
  obtain ⟨i0, hi, hz0, hz1, hz2⟩ := info_parts Try.infoInt
  have HK := hide (BoxC.made h)
  have HB : Hid (Below w.heap.size w (w.alloc (.cells #[.slice A1 c.heat.length c1, .int .i64 c.gas, .slice A2 c.holds.length c2, .slice A3 c.lots.length c3, .slice A4 c.seen.length c4] 27))) := hide ((Below.refl _ _).alloc (Nat.le_refl _) _)
  clear h
  obtain ⟨e1, e2, e3, e4⟩ := wrong_laws hval hc hb0 hb1
  have HWR := hide (fun (w : World) A1 A2 A3 A4 c1 c2 c3 c4 (h : CargoV w w.heap.size c A1 A2 A3 A4 c1 c2 c3 c4) => (show Calls Try.prog 32 #[cargoVal c A1 A2 A3 A4 c1 c2 c3 c4] w fun e w' => ∃ A cp, e = .returned (.tuple #[.slice A (wrongV c).1.length cp, .int .i64 0]) ∧ IntsS w' w'.heap.size A (wrongV c).1.length cp (natInts (wrongV c).1) ∧ Below w.heap.size w w' from by
    have := wrong_any h; rw [e1] at this; exact this))
  have HVF := hide (show decide ((checkM c).2.2 = 0) = true by simpa using hc)
  have HE2 := hide e2
  have HE3 := hide e3
  have HE4 := hide e4
  have HVL := hide hval
  have hsl := hval.seens
  clear e1 e2 e3 e4 hc hval
  generalize (wrongV c).1 = wl at *
  go_enter Try.func11, Try.ntmps11
  go_upto_region 1 with (fail)
  generalize (w.alloc (.cells #[.slice A1 c.heat.length c1, .int .i64 c.gas, .slice A2 c.holds.length c2, .slice A3 c.lots.length c3, .slice A4 c.seen.length c4] 27)) = v0 at *
  obtain ⟨hv, z, x0, x1, x2, x3, x4⟩ := HK.out
  have HV := hide hv
  clear hv
  go_upto_region 2 with (go_at_call 32; refine (HWR.out _ _ _ _ _ _ _ _ _ HV.out).mono ?_; rintro e v1 ⟨R1, r1, rfl, hi2, hb⟩)
  have HK := hide (HK.out.next hb)
  have HB := hide (HB.out.trans (hb.mono (by have := HB.out.size; exact this)))
  clear hb
  have HI1 := hide hi2
  clear hi2
  clear z x0 x1 x2 x3 x4 HV
  obtain ⟨hv, z, x0, x1, x2, x3, x4⟩ := HK.out
  have HV := hide hv
  clear hv
  go_upto_region 3 with (go_at_call 35; refine (valid7_any HV.out (v := true) HVF.out).mono ?_; rintro e v2 ⟨rfl, hb⟩)
  have HK := hide (HK.out.next hb)
  have HI1 := hide (HI1.out.next hb)
  have HB := hide (HB.out.trans (hb.mono (by have := HB.out.size; exact this)))
  clear hb
  clear z x0 x1 x2 x3 x4 HV
  go_wp2_with fail
  go_loopw [7, 8] (fun v i wr => ∃ (j : Nat), j ≤ c.seen.length ∧ i = .int .i64 j ∧ Below v2.heap.size v2 wr ∧ wr.ownsRow v2.heap.size 3 1 v (bitsL b j).length ((bitsL b j).map fun n : Int => .int .i64 n)) (fun _ i _ => c.seen.length - (intOf i).toNat)
  case atStart => exact ⟨0, Nat.zero_le _, rfl, Below.refl _ _, World.ownsRow_nil _ _ _ _⟩
  case round =>
    obtain ⟨j, hj, rfl, hB, hown⟩ := hrel
    have hj0 : (0 : Int) ≤ (j : Int) := Int.natCast_nonneg _
    have HK1 := hide (HK.out.next hB)
    obtain ⟨hv, z, x0, x1, x2, x3, x4⟩ := HK1.out
    have HV := hide hv
    clear hv
    by_cases hlt : j < c.seen.length
    · have hle : (bitsL b j).length ≤ j := by
        have := List.length_filter_le (fun i => bitB i b) (List.range j)
        simpa [bitsL] using this
      have hj1 : (j : Int) < (c.seen.length : Int) := by omega
      have hsz := hB.size
      have e : bitsL b (j + 1) = bitsL b j ++ if bitB j b then [(j : Int)] else [] := by
        simp only [bitsL, List.range_succ, List.filter_append, List.filter_cons, List.filter_nil, List.map_append]
        cases bitB j b <;> rfl
      have HE := hide e
      clear e
      have HBT := hide (fun w => bit_any b j w hb0 (by omega) (by omega))
      cases hbt : bitB j b with
      | true =>
        have e2 : bitsL b (j + 1) = bitsL b j ++ [(j : Int)] := by rw [HE.out, hbt]; rfl
        have HE := hide e2
        clear e2
        rw [hbt] at HBT
        clear hbt
        go_wp2_with (first
          | (go_at_call 46; refine (HBT.out _).mono ?_; rintro e w' ⟨rfl, rfl⟩)
          | (at_builtin
             refine wpList_append_own _ rfl _ _ 22 rfl v2.heap.size 3 i0 (.int .i64 0) 1 8 Try.underlying22 hi hz0 hz1 hz2 rfl (by decide) _ _ _ rfl (hown.alloc _) ⟨wr.heap.size, 0, none⟩ 1 1 [.int .i64 j] rfl rfl ?c1 ?c2 ?c3 ?c4 ?c5 ?_
             case c1 => exact cell_one_new _ _ _
             case c2 => simp [Value.oneCell']
             case c3 => simp [maxLen]; omega
             case c4 => omega
             case c5 => simp; omega
             intro v' w1 hown' hg _
             have hb1 := app_below hsz hown hg
             clear hg))
        clear hi hz0 hz1 hz2
        go_roundw
        case rel => exact ⟨j + 1, by omega, by go_num, hB.trans hb1, by rw [HE.out]; simpa using hown'⟩
        case measure => simp [intOf]; omega
      | false =>
        have e2 : bitsL b (j + 1) = bitsL b j := by rw [HE.out, hbt]; simp
        have HE := hide e2
        clear e2
        rw [hbt] at HBT
        clear hbt
        go_wp2_with (go_at_call 46; refine (HBT.out _).mono ?_; rintro e w' ⟨rfl, rfl⟩)
        go_roundw
        case rel => exact ⟨j + 1, by omega, by go_num, hB, by rw [HE.out]; exact hown⟩
        case measure => simp [intOf]; omega
    · obtain rfl : j = c.seen.length := by omega
      obtain ⟨A', c', rfl, hs'⟩ := IntsS.of_own (xs := bitsL b c.seen.length) hown
      have hs2 := (HI1.out.next hB)
      have hs1 := hB.size
      have HI1 := hide hs2
      have HI2 := hide hs'
      have HB := hide (HB.out.trans (hB.mono HB.out.size))
      clear hs2 hs' hown hB
      go_wp2_with (fail)
      refine (rising_any HI1.out _).mono ?_
      rintro e w5 ⟨rfl, rfl⟩
      rw [HE2.out]
      go_wp2_with (fail)
      refine (some7_any HV.out HVL.out HI1.out).mono ?_
      rintro e w6 ⟨rfl, hb⟩
      rw [HE3.out]
      have HK2 := hide (HK1.out.next hb)
      have HI1 := hide (HI1.out.next hb)
      have HI2 := hide (HI2.out.next hb)
      have HB := hide (HB.out.trans (hb.mono HB.out.size))
      clear z x0 x1 x2 x3 x4 HV hb
      obtain ⟨hv, z, x0, x1, x2, x3, x4⟩ := HK2.out
      have HV := hide hv
      clear hv
      go_wp2_with (fail)
      refine (some7_any HV.out HVL.out HI2.out).mono ?_
      rintro e w7 ⟨rfl, hb⟩
      have HI1 := hide (HI1.out.next hb)
      have HI2 := hide (HI2.out.next hb)
      have HB := hide (HB.out.trans (hb.mono HB.out.size))
      clear z x0 x1 x2 x3 x4 HV hb
      cases hso : someM c (bitsL b c.seen.length) with
      | true =>
        have HE5 := hide (HE4.out hso)
        clear hso
        go_wp2_with (fail)
        refine (fewer_any HI2.out HI1.out).mono ?_
        rintro e w8 ⟨rfl, hd⟩
        rw [HE5.out]
        have hb := hd.below w7.heap.size
        have HB := hide (HB.out.trans (hb.mono HB.out.size))
        clear hd hb
        go_wp2_with (go_at_call 23; refine (awake_any _).mono ?_; rintro e v10 ⟨rfl, hb⟩)
        go_ret
        exact ⟨rfl, HB.out.trans (hb.mono HB.out.size)⟩
      | false =>
        clear hso
        go_wp2_with (go_at_call 23; refine (awake_any _).mono ?_; rintro e v10 ⟨rfl, hb⟩)
        go_ret
        exact ⟨rfl, HB.out.trans (hb.mono HB.out.size)⟩
theorem turnFewest_any {A1 A2 A3 A4 : Option Addr} {c1 c2 c3 c4 : Nat} {c : Cargo} {w : World} (h : CargoV w w.heap.size c A1 A2 A3 A4 c1 c2 c3 c4) (b : Int) (hb0 : 0 ≤ b) (hb1 : b ≤ 255) :
    Calls Try.prog 11 #[cargoVal c A1 A2 A3 A4 c1 c2 c3 c4, .int .u8 b] w fun e w' => e = .returned (.bool true) ∧ Below w.heap.size w w' := by
  by_cases hc : (checkM c).2.2 = 0
  · exact fewest_ok h b hb0 hb1 (valid_of hc) hc
  · exact fewest_bad h b hc
end Go.Proofs.Ytbkknliggnhpcaa
