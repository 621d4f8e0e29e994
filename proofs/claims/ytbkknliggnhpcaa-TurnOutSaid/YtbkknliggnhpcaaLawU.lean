/- The law TurnOut: for any cargo, hold, hour, lots and numbers the statement's function returns true. -/
import Derived.Test.YtbkknliggnhpcaaWrapA
import Derived.Test.YtbkknliggnhpcaaQc
set_option linter.unusedVariables false
set_option linter.unusedSimpArgs false
namespace Go.Proofs.Ytbkknliggnhpcaa
open Go.RowKit
attribute [local go_sem ↓] Go.wp_at_zero Go.wp_at_succ

set_option maxHeartbeats 4000000 in
set_option maxRecDepth 100000 in
theorem out_bad {A1 A2 A3 A4 Ax : Option Addr} {c1 c2 c3 c4 cx : Nat} {c : Cargo} {w : World} {l : List Int} (h : CargoV w w.heap.size c A1 A2 A3 A4 c1 c2 c3 c4) (hx : BytesS w w.heap.size Ax cx l) (xa xb xd : Int) (hc : (checkM c).2.2 ≠ 0) :
    Calls Try.prog 10 #[cargoVal c A1 A2 A3 A4 c1 c2 c3 c4, .agg #[.int .u8 xa, .int .u8 xb, .int .u8 xd], .slice Ax l.length cx] w fun e w' => e = .returned (.bool true) ∧ Below w.heap.size w w' := by
  have hA1 : Below w.heap.size w (w.alloc (.cells #[.slice A1 c.heat.length c1, .int .i64 c.gas, .slice A2 c.holds.length c2, .slice A3 c.lots.length c3, .slice A4 c.seen.length c4] 27)) := (Below.refl _ _).alloc (Nat.le_refl _) _
  have hA2 : Below (w.alloc (.cells #[.slice A1 c.heat.length c1, .int .i64 c.gas, .slice A2 c.holds.length c2, .slice A3 c.lots.length c3, .slice A4 c.seen.length c4] 27)).heap.size (w.alloc (.cells #[.slice A1 c.heat.length c1, .int .i64 c.gas, .slice A2 c.holds.length c2, .slice A3 c.lots.length c3, .slice A4 c.seen.length c4] 27)) ((w.alloc (.cells #[.slice A1 c.heat.length c1, .int .i64 c.gas, .slice A2 c.holds.length c2, .slice A3 c.lots.length c3, .slice A4 c.seen.length c4] 27)).alloc (.cells #[.int .u8 xa, .int .u8 xb, .int .u8 xd] 71)) := (Below.refl _ _).alloc (Nat.le_refl _) _
  have HK := hide ((BoxC.made h).next hA2)
  have HB := hide (hA1.trans (hA2.mono hA1.size))
  have bx : Blk ((w.alloc (.cells #[.slice A1 c.heat.length c1, .int .i64 c.gas, .slice A2 c.holds.length c2, .slice A3 c.lots.length c3, .slice A4 c.seen.length c4] 27)).alloc (.cells #[.int .u8 xa, .int .u8 xb, .int .u8 xd] 71)) (w.heap.size + 1) 71 #[.int .u8 xa, .int .u8 xb, .int .u8 xd] := Blk.made' (by simp)
  have HBX := hide bx
  clear hA1 hA2 bx h hx HBX
  have HWR := hide (fun (w : World) A1 A2 A3 A4 c1 c2 c3 c4 (h : CargoV w w.heap.size c A1 A2 A3 A4 c1 c2 c3 c4) => (show Calls Try.prog 30 #[cargoVal c A1 A2 A3 A4 c1 c2 c3 c4, .int .i64 0, .int .i64 0] w fun e w' => ∃ A cp, e = .returned (.tuple #[.slice A 0 cp, .int .i64 (checkM c).2.2]) ∧ Below w.heap.size w w' from by
    have hE : outE7 c 0 0 = (checkM c).2.2 := by rw [outE7, indexE, if_neg hc, hourE, if_neg (fun h => hc h.1), truthE, if_neg (fun h => hc h.1)]
    have := out_any h 0 0; rw [outV, outE_eq, hE, if_pos hc] at this; exact this.mono fun e w' ⟨A, cp, h1, _, h3⟩ => ⟨A, cp, h1, h3⟩))
  have HVF := hide (show decide ((checkM c).2.2 = 0) = false by simpa using hc)
  generalize hE : (checkM c).2.2 = E at *
  have HE := hide hE
  have hc3 : (E != 0) = true := by simpa using hc
  clear hE
  go_enter Try.func10, Try.ntmps10
  go_upto_region 1 with (fail)
  generalize ((w.alloc (.cells #[.slice A1 c.heat.length c1, .int .i64 c.gas, .slice A2 c.holds.length c2, .slice A3 c.lots.length c3, .slice A4 c.seen.length c4] 27)).alloc (.cells #[.int .u8 xa, .int .u8 xb, .int .u8 xd] 71)) = v0 at *
  obtain ⟨hv, z, x0, x1, x2, x3, x4⟩ := HK.out
  have HV := hide hv
  clear hv
  go_upto_region 2 with (go_at_call 35; refine (valid7_any HV.out (v := false) (by rw [HE.out]; exact HVF.out)).mono ?_; rintro e v1 ⟨rfl, hb⟩)
  have HK := hide (HK.out.next hb)
  have HB := hide (HB.out.trans (hb.mono (by have := HB.out.size; exact this)))
  clear hb
  clear z x0 x1 x2 x3 x4 HV
  obtain ⟨hv, z, x0, x1, x2, x3, x4⟩ := HK.out
  have HV := hide hv
  clear hv
  go_upto_region 3 with (go_at_call 30; refine (HWR.out _ _ _ _ _ _ _ _ _ HV.out).mono ?_; rintro e v2 ⟨R1, r1, rfl, hb⟩)
  have HK := hide (HK.out.next hb)
  have HB := hide (HB.out.trans (hb.mono (by have := HB.out.size; exact this)))
  clear hb
  clear z x0 x1 x2 x3 x4 HV
  go_wp2_with (go_at_call 23; refine (awake_any _).mono ?_; rintro e v10 ⟨rfl, hb⟩)
  go_ret
  exact ⟨rfl, HB.out.trans (hb.mono HB.out.size)⟩

set_option maxHeartbeats 2000000 in
set_option maxRecDepth 100000 in
theorem out_ok {A1 A2 A3 A4 Ax : Option Addr} {c1 c2 c3 c4 cx : Nat} {c : Cargo} {w : World} {l : List Int} (h : CargoV w w.heap.size c A1 A2 A3 A4 c1 c2 c3 c4) (hx : BytesS w w.heap.size Ax cx l) (xa xb xd : Int) (ha : 0 ≤ xa ∧ xa ≤ 255) (hb : 0 ≤ xb ∧ xb ≤ 255) (hd0 : 0 ≤ xd ∧ xd ≤ 255) (hval : Valid c) :
    Calls Try.prog 10 #[cargoVal c A1 A2 A3 A4 c1 c2 c3 c4, .agg #[.int .u8 xa, .int .u8 xb, .int .u8 xd], .slice Ax l.length cx] w fun e w' => e = .returned (.bool true) ∧ Below w.heap.size w w' := by
  obtain ⟨i0, hI0, hz00, hz01, hz02⟩ := info_parts Try.infoInt
  have hA1 : Below w.heap.size w (w.alloc (.cells #[.slice A1 c.heat.length c1, .int .i64 c.gas, .slice A2 c.holds.length c2, .slice A3 c.lots.length c3, .slice A4 c.seen.length c4] 27)) := (Below.refl _ _).alloc (Nat.le_refl _) _
  have hA2 : Below (w.alloc (.cells #[.slice A1 c.heat.length c1, .int .i64 c.gas, .slice A2 c.holds.length c2, .slice A3 c.lots.length c3, .slice A4 c.seen.length c4] 27)).heap.size (w.alloc (.cells #[.slice A1 c.heat.length c1, .int .i64 c.gas, .slice A2 c.holds.length c2, .slice A3 c.lots.length c3, .slice A4 c.seen.length c4] 27)) ((w.alloc (.cells #[.slice A1 c.heat.length c1, .int .i64 c.gas, .slice A2 c.holds.length c2, .slice A3 c.lots.length c3, .slice A4 c.seen.length c4] 27)).alloc (.cells #[.int .u8 xa, .int .u8 xb, .int .u8 xd] 71)) := (Below.refl _ _).alloc (Nat.le_refl _) _
  have HK := hide ((BoxC.made h).next hA2)
  have HB := hide (hA1.trans (hA2.mono hA1.size))
  have bx : Blk ((w.alloc (.cells #[.slice A1 c.heat.length c1, .int .i64 c.gas, .slice A2 c.holds.length c2, .slice A3 c.lots.length c3, .slice A4 c.seen.length c4] 27)).alloc (.cells #[.int .u8 xa, .int .u8 xb, .int .u8 xd] 71)) (w.heap.size + 1) 71 #[.int .u8 xa, .int .u8 xb, .int .u8 xd] := Blk.made' (by simp)
  have HBX := hide bx
  have HX := hide ((hx.next hA1).next hA2)
  have HVD := hide hval
  have HVF := hide (show decide ((checkM c).2.2 = 0) = true by simpa using valid_check hval)
  have HTO := hide (fun (w : World) A1 A2 A3 A4 c1 c2 c3 c4 (h : CargoV w w.heap.size c A1 A2 A3 A4 c1 c2 c3 c4) (hx : BytesS w w.heap.size Ax cx l) => (show Calls Try.prog 36 #[cargoVal c A1 A2 A3 A4 c1 c2 c3 c4, .slice Ax l.length cx] w fun e w' => ∃ A cp At ct, e = .returned (.tuple #[cargoVal (toldC c l) A1 A2 A3 A c1 c2 c3 cp, .slice At (toldC c l).lots.length ct]) ∧ CargoV w' w'.heap.size (toldC c l) A1 A2 A3 A c1 c2 c3 cp ∧ IntsS w' w'.heap.size At (toldC c l).lots.length ct (trulyM c l []) ∧ Below w.heap.size w w' from told_any h hval hx))
  have hvz := toldC_valid (l := l) hval
  have HOA := hide (show ∀ (hd : Nat) (un : Int), hd < (toldC c l).holds.length → 0 ≤ un ∧ un ≤ (toldC c l).heat.length → OutAt (toldC c l) l hd un xd from fun hd un h1 h2 => out_at hval h1 h2 hd0.1 hd0.2)
  clear h hx hval hA1 hA2 bx
  generalize hzz : toldC c l = zc at *
  clear hzz
  generalize trulyM c l [] = T at *
  have hht := hvz.hours
  have hlz := hvz.lots
  have hhz := hvz.holds
  have HVZ := hide hvz
  clear hvz
  go_enter Try.func10, Try.ntmps10
  go_upto_region 1 with (fail)
  generalize ((w.alloc (.cells #[.slice A1 c.heat.length c1, .int .i64 c.gas, .slice A2 c.holds.length c2, .slice A3 c.lots.length c3, .slice A4 c.seen.length c4] 27)).alloc (.cells #[.int .u8 xa, .int .u8 xb, .int .u8 xd] 71)) = v0 at *
  obtain ⟨hv, z, x0, x1, x2, x3, x4⟩ := HK.out
  have HV := hide hv
  clear hv
  go_upto_region 4 with (go_at_call 35; refine (valid7_any HV.out (v := true) HVF.out).mono ?_; rintro e v1 ⟨rfl, hb⟩)
  have HK := hide (HK.out.next hb)
  have HX := hide (HX.out.next hb)
  have HBX := hide (HBX.out.next hb)
  have HB := hide (HB.out.trans (hb.mono (by have := HB.out.size; exact this)))
  clear hb
  clear z x0 x1 x2 x3 x4 HV
  obtain ⟨hv, z, x0, x1, x2, x3, x4⟩ := HK.out
  have HV := hide hv
  clear hv
  go_upto_region 5 with (go_at_call 36; refine (HTO.out _ _ _ _ _ _ _ _ _ HV.out HX.out).mono ?_; rintro e v2 ⟨AS, cS, AT, cT, rfl, hz, hT, hb⟩)
  have hb3 : Below v2.heap.size v2 (v2.alloc (.cells #[.slice A1 zc.heat.length c1, .int .i64 zc.gas, .slice A2 zc.holds.length c2, .slice A3 zc.lots.length c3, .slice AS zc.seen.length cS] 27)) := (Below.refl _ _).alloc (Nat.le_refl _) _
  have HKZ := hide (BoxC.made hz)
  have HX := hide ((HX.out.next hb).next hb3)
  have HBX := hide ((HBX.out.next hb).next hb3)
  have HB := hide (HB.out.trans (hb.mono HB.out.size))
  have HB := hide (HB.out.trans (hb3.mono HB.out.size))
  clear z x0 x1 x2 x3 x4 HV hb hz hT hb3 HK HTO HVF HVD
  generalize (v2.alloc (.cells #[.slice A1 zc.heat.length c1, .int .i64 zc.gas, .slice A2 zc.holds.length c2, .slice A3 zc.lots.length c3, .slice AS zc.seen.length cS] 27)) = v3 at *
  obtain ⟨hv, z, x0, x1, x2, x3, x4⟩ := HKZ.out
  clear hv
  have yx0 : v3.cell? ⟨w.heap.size + 1, 0, none⟩ = some (.int .u8 xa) := HBX.out.at_ 0
  have yx1 : v3.cell? ⟨w.heap.size + 1, 1, none⟩ = some (.int .u8 xb) := HBX.out.at_ 1
  have zx : w.heap.size + 1 < v3.heap.size := HBX.out.lt
  have hp0 := Int.emod_nonneg xb (show (zc.heat.length : Int) + 1 ≠ 0 by omega)
  have hp1 := Int.emod_lt_of_pos xb (show 0 < (zc.heat.length : Int) + 1 by omega)
  have hp2 := Int.emod_nonneg xa (show (zc.holds.length : Int) ≠ 0 by omega)
  have hp3 := Int.emod_lt_of_pos xa (show 0 < (zc.holds.length : Int) by omega)
  have hm1 : xa.tmod (zc.holds.length : Int) = xa % (zc.holds.length : Int) := Int.tmod_eq_emod_of_nonneg ha.1
  have hm2 : xb.tmod ((zc.heat.length : Int) + 1) = xb % ((zc.heat.length : Int) + 1) := Int.tmod_eq_emod_of_nonneg hb.1
  have hz1 : (((zc.heat.length : Int) + 1) == 0) = false := by rw [beq_eq_false_iff_ne]; omega
  have hz2 : (zc.heat.length : Int) + 1 ≠ 0 := by omega
  have hz3 : ((zc.holds.length : Int) == 0) = false := by rw [beq_eq_false_iff_ne]; omega
  have hz5 : ¬ zc.holds = [] := fun h => by rw [h] at hhz; simp at hhz
  have hz4 : (zc.holds.length : Int) ≠ 0 := by omega
  have hl0 : (0 : Int) ≤ (zc.heat.length : Int) := Int.natCast_nonneg _
  have hl1 : (zc.heat.length : Int) ≤ 8 := by omega
  have hl2 : (0 : Int) ≤ (zc.holds.length : Int) := Int.natCast_nonneg _
  have hl3 : (zc.holds.length : Int) ≤ 3 := by omega
  have hw1 : IntKind.i64.wrap ((zc.heat.length : Int) + 1) = (zc.heat.length : Int) + 1 := IntWalk.i64_in _ (by omega)
  have hw2 : IntKind.i64.wrap (xb % ((zc.heat.length : Int) + 1)) = xb % ((zc.heat.length : Int) + 1) := IntWalk.i64_in _ (by omega)
  have hw3 : IntKind.i64.wrap (xa % (zc.holds.length : Int)) = xa % (zc.holds.length : Int) := IntWalk.i64_in _ (by omega)
  have hw4 : IntKind.i64.wrap xa = xa := IntWalk.i64_in _ (by omega)
  have hw5 : IntKind.i64.wrap xb = xb := IntWalk.i64_in _ (by omega)
  go_wp2_with fail
  refine wp_post0 (fun act0 a W => ∃ vs : Nat → Value, a = { tmps := setAll (fun oi => [40, 41, 42, 43, 44, 45, 46, 47, 48, 49, 50, 51, 52, 53, 54, 11, 12].getD oi 0) vs [0, 1, 2, 3, 4, 5, 6, 7, 8, 9, 10, 11, 12, 13, 14, 15, 16] act0.tmps, defers := act0.defers } ∧ Below v3.heap.size v3 W ∧ vs 15 = .int .i64 (xa % (zc.holds.length : Int)) ∧ vs 16 = .int .i64 (xb % ((zc.heat.length : Int) + 1))) ?reg ?imp
  case reg =>
    have hST : Stab v3.heap.size (fun oi v W => match oi with | 0 => v = .pointer (some ⟨w.heap.size + 1, 0, none⟩) | 1 => v = .int .u8 xa | 2 => v = .int .i64 xa | 3 => v = .pointer (some ⟨v2.heap.size, 2, none⟩) | 4 => v = .slice A2 zc.holds.length c2 | 5 => v = .int .i64 (zc.holds.length : Nat) | 6 => v = .int .i64 (xa % (zc.holds.length : Int)) | 7 => v = .pointer (some ⟨w.heap.size + 1, 1, none⟩) | 8 => v = .int .u8 xb | 9 => v = .int .i64 xb | 10 => v = .pointer (some ⟨v2.heap.size, 0, none⟩) | 11 => v = .slice A1 zc.heat.length c1 | 12 => v = .int .i64 (zc.heat.length : Nat) | 13 => v = .int .i64 ((zc.heat.length : Int) + 1) | 14 => v = .int .i64 (xb % ((zc.heat.length : Int) + 1)) | 15 => v = .int .i64 (xa % (zc.holds.length : Int)) | 16 => v = .int .i64 (xb % ((zc.heat.length : Int) + 1)) | _ => True) (fun oi v b => match oi with  | _ => False) := by
      intro oi v W W' h hbs hz hk
      match oi, h, hk with
      | 0, h, hk => exact h
      | 1, h, hk => exact h
      | 2, h, hk => exact h
      | 3, h, hk => exact h
      | 4, h, hk => exact h
      | 5, h, hk => exact h
      | 6, h, hk => exact h
      | 7, h, hk => exact h
      | 8, h, hk => exact h
      | 9, h, hk => exact h
      | 10, h, hk => exact h
      | 11, h, hk => exact h
      | 12, h, hk => exact h
      | 13, h, hk => exact h
      | 14, h, hk => exact h
      | 15, h, hk => exact h
      | 16, h, hk => exact h
      | oi + 17, h, hk => exact trivial
    refine wp_region_inv (dst := fun oi => [40, 41, 42, 43, 44, 45, 46, 47, 48, 49, 50, 51, 52, 53, 54, 11, 12].getD oi 0) (mono := fun oi => decide (oi < 17)) (pre := fun oi => decide (oi < 17)) (G := Loose 17 v3.heap.size (fun oi => match oi with  | _ => 17) (fun oi v W => match oi with | 0 => v = .pointer (some ⟨w.heap.size + 1, 0, none⟩) | 1 => v = .int .u8 xa | 2 => v = .int .i64 xa | 3 => v = .pointer (some ⟨v2.heap.size, 2, none⟩) | 4 => v = .slice A2 zc.holds.length c2 | 5 => v = .int .i64 (zc.holds.length : Nat) | 6 => v = .int .i64 (xa % (zc.holds.length : Int)) | 7 => v = .pointer (some ⟨w.heap.size + 1, 1, none⟩) | 8 => v = .int .u8 xb | 9 => v = .int .i64 xb | 10 => v = .pointer (some ⟨v2.heap.size, 0, none⟩) | 11 => v = .slice A1 zc.heat.length c1 | 12 => v = .int .i64 (zc.heat.length : Nat) | 13 => v = .int .i64 ((zc.heat.length : Int) + 1) | 14 => v = .int .i64 (xb % ((zc.heat.length : Int) + 1)) | 15 => v = .int .i64 (xa % (zc.holds.length : Int)) | 16 => v = .int .i64 (xb % ((zc.heat.length : Int) + 1)) | _ => True) (fun oi v b => match oi with  | _ => False)) (by kernel_rfl) (by kernel_rfl) (Loose.start (Nat.le_refl _)) ?hstep ?hend
    case hstep =>
      intro oi hoi hom listed vs a W hU hsz hG hcl hl haft K hK
      have hb := ((Below.refl v3.heap.size v3).drew).trans hU.below
      have hF := Loose.stepF hU hG hST hoi hK
      match oi, hoi, hom with
      | 0, hoi, hom =>
        have z4 : a.tmps[4]?.getD undef = .pointer (some ⟨w.heap.size + 1, 0, none⟩) := hU.same 4 (by decide)
        refine wpOp_value (v := .pointer (some ⟨w.heap.size + 1, 0, none⟩)) (W' := W) rfl rfl ?_ (hF _ _ (Below.refl _ _) rfl (fun _ h => False.elim h))
        go_simp
      | 1, hoi, hom =>
        have l0 := haft _ rfl { on := 0, ground := .data } (by simp) rfl
        have p0 := hG.pv 0 (by decide) (live_end hsz rfl l0)
        have s0 : a.tmps[40]?.getD undef = vs 0 := hU.slot 0 (by decide) l0
        have hv0 : vs 0 = .pointer (some ⟨w.heap.size + 1, 0, none⟩) := p0
        rw [hv0] at s0
        have y0 := (hb.cell (p := ⟨w.heap.size + 1, 0, none⟩) (zx)).trans (yx0)
        refine wpOp_value (v := .int .u8 xa) (W' := W) rfl rfl ?_ (hF _ _ (Below.refl _ _) rfl (fun _ h => False.elim h))
        go_simp
      | 2, hoi, hom =>
        have l1 := haft _ rfl { on := 1, ground := .data } (by simp) rfl
        have p1 := hG.pv 1 (by decide) (live_end hsz rfl l1)
        have s1 : a.tmps[41]?.getD undef = vs 1 := hU.slot 1 (by decide) l1
        have hv1 : vs 1 = .int .u8 xa := p1
        rw [hv1] at s1
        refine wpOp_value (v := .int .i64 xa) (W' := W) rfl rfl ?_ (hF _ _ (Below.refl _ _) rfl (fun _ h => False.elim h))
        go_simp
      | 3, hoi, hom =>
        have z9 : a.tmps[9]?.getD undef = .pointer (some ⟨v2.heap.size, 0, none⟩) := hU.same 9 (by decide)
        refine wpOp_value (v := .pointer (some ⟨v2.heap.size, 2, none⟩)) (W' := W) rfl rfl ?_ (hF _ _ (Below.refl _ _) rfl (fun _ h => False.elim h))
        go_simp
      | 4, hoi, hom =>
        have l3 := haft _ rfl { on := 3, ground := .data } (by simp) rfl
        have p3 := hG.pv 3 (by decide) (live_end hsz rfl l3)
        have s3 : a.tmps[43]?.getD undef = vs 3 := hU.slot 3 (by decide) l3
        have hv3 : vs 3 = .pointer (some ⟨v2.heap.size, 2, none⟩) := p3
        rw [hv3] at s3
        have y0 := (hb.cell (p := ⟨v2.heap.size, 2, none⟩) (z)).trans (x2)
        refine wpOp_value (v := .slice A2 zc.holds.length c2) (W' := W) rfl rfl ?_ (hF _ _ (Below.refl _ _) rfl (fun _ h => False.elim h))
        go_simp
      | 5, hoi, hom =>
        have l4 := haft _ rfl { on := 4, ground := .data } (by simp) rfl
        have p4 := hG.pv 4 (by decide) (live_end hsz rfl l4)
        have s4 : a.tmps[44]?.getD undef = vs 4 := hU.slot 4 (by decide) l4
        have hv4 : vs 4 = .slice A2 zc.holds.length c2 := p4
        rw [hv4] at s4
        refine wpOp_value (v := .int .i64 (zc.holds.length : Nat)) (W' := W) rfl rfl ?_ (hF _ _ (Below.refl _ _) rfl (fun _ h => False.elim h))
        go_simp
      | 6, hoi, hom =>
        have l2 := haft _ rfl { on := 2, ground := .data } (by simp) rfl
        have p2 := hG.pv 2 (by decide) (live_end hsz rfl l2)
        have s2 : a.tmps[42]?.getD undef = vs 2 := hU.slot 2 (by decide) l2
        have hv2 : vs 2 = .int .i64 xa := p2
        rw [hv2] at s2
        have l5 := haft _ rfl { on := 5, ground := .data } (by simp) rfl
        have p5 := hG.pv 5 (by decide) (live_end hsz rfl l5)
        have s5 : a.tmps[45]?.getD undef = vs 5 := hU.slot 5 (by decide) l5
        have hv5 : vs 5 = .int .i64 (zc.holds.length : Nat) := p5
        rw [hv5] at s5
        refine wpOp_value (v := .int .i64 (xa % (zc.holds.length : Int))) (W' := W) rfl rfl ?_ (hF _ _ (Below.refl _ _) rfl (fun _ h => False.elim h))
        go_simp
      | 7, hoi, hom =>
        have z4 : a.tmps[4]?.getD undef = .pointer (some ⟨w.heap.size + 1, 0, none⟩) := hU.same 4 (by decide)
        refine wpOp_value (v := .pointer (some ⟨w.heap.size + 1, 1, none⟩)) (W' := W) rfl rfl ?_ (hF _ _ (Below.refl _ _) rfl (fun _ h => False.elim h))
        go_simp
      | 8, hoi, hom =>
        have l7 := haft _ rfl { on := 7, ground := .data } (by simp) rfl
        have p7 := hG.pv 7 (by decide) (live_end hsz rfl l7)
        have s7 : a.tmps[47]?.getD undef = vs 7 := hU.slot 7 (by decide) l7
        have hv7 : vs 7 = .pointer (some ⟨w.heap.size + 1, 1, none⟩) := p7
        rw [hv7] at s7
        have y0 := (hb.cell (p := ⟨w.heap.size + 1, 1, none⟩) (zx)).trans (yx1)
        refine wpOp_value (v := .int .u8 xb) (W' := W) rfl rfl ?_ (hF _ _ (Below.refl _ _) rfl (fun _ h => False.elim h))
        go_simp
      | 9, hoi, hom =>
        have l8 := haft _ rfl { on := 8, ground := .data } (by simp) rfl
        have p8 := hG.pv 8 (by decide) (live_end hsz rfl l8)
        have s8 : a.tmps[48]?.getD undef = vs 8 := hU.slot 8 (by decide) l8
        have hv8 : vs 8 = .int .u8 xb := p8
        rw [hv8] at s8
        refine wpOp_value (v := .int .i64 xb) (W' := W) rfl rfl ?_ (hF _ _ (Below.refl _ _) rfl (fun _ h => False.elim h))
        go_simp
      | 10, hoi, hom =>
        have z9 : a.tmps[9]?.getD undef = .pointer (some ⟨v2.heap.size, 0, none⟩) := hU.same 9 (by decide)
        refine wpOp_value (v := .pointer (some ⟨v2.heap.size, 0, none⟩)) (W' := W) rfl rfl ?_ (hF _ _ (Below.refl _ _) rfl (fun _ h => False.elim h))
        go_simp
      | 11, hoi, hom =>
        have l10 := haft _ rfl { on := 10, ground := .data } (by simp) rfl
        have p10 := hG.pv 10 (by decide) (live_end hsz rfl l10)
        have s10 : a.tmps[50]?.getD undef = vs 10 := hU.slot 10 (by decide) l10
        have hv10 : vs 10 = .pointer (some ⟨v2.heap.size, 0, none⟩) := p10
        rw [hv10] at s10
        have y0 := (hb.cell (p := ⟨v2.heap.size, 0, none⟩) (z)).trans (x0)
        refine wpOp_value (v := .slice A1 zc.heat.length c1) (W' := W) rfl rfl ?_ (hF _ _ (Below.refl _ _) rfl (fun _ h => False.elim h))
        go_simp
      | 12, hoi, hom =>
        have l11 := haft _ rfl { on := 11, ground := .data } (by simp) rfl
        have p11 := hG.pv 11 (by decide) (live_end hsz rfl l11)
        have s11 : a.tmps[51]?.getD undef = vs 11 := hU.slot 11 (by decide) l11
        have hv11 : vs 11 = .slice A1 zc.heat.length c1 := p11
        rw [hv11] at s11
        refine wpOp_value (v := .int .i64 (zc.heat.length : Nat)) (W' := W) rfl rfl ?_ (hF _ _ (Below.refl _ _) rfl (fun _ h => False.elim h))
        go_simp
      | 13, hoi, hom =>
        have l12 := haft _ rfl { on := 12, ground := .data } (by simp) rfl
        have p12 := hG.pv 12 (by decide) (live_end hsz rfl l12)
        have s12 : a.tmps[52]?.getD undef = vs 12 := hU.slot 12 (by decide) l12
        have hv12 : vs 12 = .int .i64 (zc.heat.length : Nat) := p12
        rw [hv12] at s12
        refine wpOp_value (v := .int .i64 ((zc.heat.length : Int) + 1)) (W' := W) rfl rfl ?_ (hF _ _ (Below.refl _ _) rfl (fun _ h => False.elim h))
        go_simp
      | 14, hoi, hom =>
        have l9 := haft _ rfl { on := 9, ground := .data } (by simp) rfl
        have p9 := hG.pv 9 (by decide) (live_end hsz rfl l9)
        have s9 : a.tmps[49]?.getD undef = vs 9 := hU.slot 9 (by decide) l9
        have hv9 : vs 9 = .int .i64 xb := p9
        rw [hv9] at s9
        have l13 := haft _ rfl { on := 13, ground := .data } (by simp) rfl
        have p13 := hG.pv 13 (by decide) (live_end hsz rfl l13)
        have s13 : a.tmps[53]?.getD undef = vs 13 := hU.slot 13 (by decide) l13
        have hv13 : vs 13 = .int .i64 ((zc.heat.length : Int) + 1) := p13
        rw [hv13] at s13
        refine wpOp_value (v := .int .i64 (xb % ((zc.heat.length : Int) + 1))) (W' := W) rfl rfl ?_ (hF _ _ (Below.refl _ _) rfl (fun _ h => False.elim h))
        go_simp
      | 15, hoi, hom =>
        have l6 := haft _ rfl { on := 6, ground := .data } (by simp) rfl
        have p6 := hG.pv 6 (by decide) (live_end hsz rfl l6)
        have s6 : a.tmps[46]?.getD undef = vs 6 := hU.slot 6 (by decide) l6
        have hv6 : vs 6 = .int .i64 (xa % (zc.holds.length : Int)) := p6
        rw [hv6] at s6
        refine wpOp_value (v := .int .i64 (xa % (zc.holds.length : Int))) (W' := W) rfl rfl ?_ (hF _ _ (Below.refl _ _) rfl (fun _ h => False.elim h))
        go_simp
      | 16, hoi, hom =>
        have l14 := haft _ rfl { on := 14, ground := .data } (by simp) rfl
        have p14 := hG.pv 14 (by decide) (live_end hsz rfl l14)
        have s14 : a.tmps[54]?.getD undef = vs 14 := hU.slot 14 (by decide) l14
        have hv14 : vs 14 = .int .i64 (xb % ((zc.heat.length : Int) + 1)) := p14
        rw [hv14] at s14
        refine wpOp_value (v := .int .i64 (xb % ((zc.heat.length : Int) + 1))) (W' := W) rfl rfl ?_ (hF _ _ (Below.refl _ _) rfl (fun _ h => False.elim h))
        go_simp
      | oi + 17, hoi, hom => exact absurd (of_decide_eq_true hom) (by omega)
    case hend =>
      intro listed vs a W hG0 hG hpre
      have hb := ((Below.refl v3.heap.size v3).drew).trans hG0.below
      have hact := hG0.act
      have hT := hG0.lst hpre 0 #[true, true, true, true, true, true, true, true, true, true, true, true, true, true, true, true, true] rfl (by kernel_rfl) (hpre 0 (by decide) (by decide))
      rw [hG0.ix hT (l := [0, 1, 2, 3, 4, 5, 6, 7, 8, 9, 10, 11, 12, 13, 14, 15, 16]) (by kernel_rfl)] at hact
      rw [hG0.lo hT (k := 0) (by kernel_rfl)]
      have p15 := hG.pv 15 (by decide) (live_end hG.size rfl (hpre 15 (by decide) (by decide)))
      have p16 := hG.pv 16 (by decide) (live_end hG.size rfl (hpre 16 (by decide) (by decide)))
      subst hT
      refine wpAny_done (by kernel_rfl) ?_ _
      exact ⟨rfl, vs, hact, hb, p15, p16⟩
  case imp =>
  rintro a9 w5 ⟨vs, rfl, hb5, hv15, hv16⟩
  simp only [setAll, List.setIfInBounds_toArray, List.set_cons_succ, List.set_cons_zero, List.getD_cons_succ, List.getD_cons_zero]
  rw [hv15, hv16]
  have HB := hide (HB.out.trans (hb5.mono HB.out.size))
  have HKZ := hide (HKZ.out.next hb5)
  have HX := hide (HX.out.next hb5)
  have HBX := hide (HBX.out.next hb5)
  clear hb5 hv15 hv16 yx0 yx1 zx hm1 hm2 hz1 hz2 hz3 hz4 hz5 hw1 hw2 hw3 hw4 hw5 z x0 x1 x2 x3 x4
  generalize xb % ((zc.heat.length : Int) + 1) = un at *
  obtain ⟨hd, hdd⟩ : ∃ hd : Nat, xa % (zc.holds.length : Int) = (hd : Int) := ⟨(xa % (zc.holds.length : Int)).toNat, by omega⟩
  rw [hdd] at hp2 hp3 ⊢
  clear hdd
  have hhd : hd < zc.holds.length := by omega
  have hun : 0 ≤ un ∧ un ≤ zc.heat.length := by omega
  obtain ⟨q1, q2, q3, q4, q5, q6⟩ := HOA.out hd un hhd hun
  have HOU := hide (fun (w : World) A1 A2 A3 A4 c1 c2 c3 c4 (h : CargoV w w.heap.size zc A1 A2 A3 A4 c1 c2 c3 c4) => (show Calls Try.prog 30 #[cargoVal zc A1 A2 A3 A4 c1 c2 c3 c4, .int .i64 (hd : Int), .int .i64 un] w fun e w' => ∃ A cp, e = .returned (.tuple #[.slice A (outV zc hd un).1.length cp, .int .i64 0]) ∧ IntsS w' w'.heap.size A (outV zc hd un).1.length cp (natInts (outV zc hd un).1) ∧ Below w.heap.size w w' from by
    have := out_any h (hd : Int) un; rw [q1] at this; exact this))
  have HQ2 := hide q2
  have HQ3 := hide q3
  have HQ4 := hide q4
  have HQ5 := hide q5
  have HQ6 := hide q6
  have hll := ofTo_le zc (hd : Int) [] zc.lots.length
  have HOF := hide (fun (w : World) A1 A2 A3 A4 c1 c2 c3 c4 (h : CargoV w w.heap.size zc A1 A2 A3 A4 c1 c2 c3 c4) => of_any h (hd : Int) IntsS.nil_ (by omega))
  have HBS := hide (fun j => ownB_succ (ofL zc (hd : Int) []) xd j)
  have HBL := hide (fun j => ownB_le (ofL zc (hd : Int) []) xd j)
  have HFL := hide (show (ofL zc (hd : Int) []).length ≤ 4 from Nat.le_trans hll hlz)
  clear q1 q2 q3 q4 q5 q6 hll HOA hp0 hp1 hp2 hp3 T
  generalize (outV zc hd un).1 = ol at *
  obtain ⟨hv, z, x0, x1, x2, x3, x4⟩ := HKZ.out
  have HV := hide hv
  clear hv
  go_upto_region 7 with (go_at_call 30; refine (HOU.out _ _ _ _ _ _ _ _ _ HV.out).mono ?_; rintro e v6 ⟨R1, r1, rfl, hi, hb⟩)
  have HKZ := hide (HKZ.out.next hb)
  have HX := hide (HX.out.next hb)
  have HBX := hide (HBX.out.next hb)
  have HB := hide (HB.out.trans (hb.mono (by have := HB.out.size; exact this)))
  clear hb
  have HOL := hide hi
  clear hi
  clear z x0 x1 x2 x3 x4 HV
  obtain ⟨hv, z, x0, x1, x2, x3, x4⟩ := HKZ.out
  clear hv
  go_upto_region 9 with (go_at_call 37; refine (rising_any HOL.out _).mono ?_; rintro e v7 ⟨rfl, rfl⟩; rw [HQ2.out])
  clear z x0 x1 x2 x3 x4
  obtain ⟨hv, z, x0, x1, x2, x3, x4⟩ := HKZ.out
  have HV := hide hv
  clear hv
  go_upto_region 10 with (go_at_call 45; refine (HOF.out _ _ _ _ _ _ _ _ _ HV.out).mono ?_; rintro e v8 ⟨R2, r2, rfl, hi, hb⟩)
  have HKZ := hide (HKZ.out.next hb)
  have HX := hide (HX.out.next hb)
  have HBX := hide (HBX.out.next hb)
  have HOL := hide (HOL.out.next hb)
  have HB := hide (HB.out.trans (hb.mono (by have := HB.out.size; exact this)))
  clear hb
  have HOW := hide hi
  clear hi
  clear z x0 x1 x2 x3 x4 HV
  generalize ofL zc (hd : Int) [] = Lw at *
  have hL4 := HFL.out
  have hob := HOL.out.bd
  obtain ⟨VB, hVB⟩ : ∃ VB : World, VB = v8 := ⟨_, rfl⟩
  go_wp2_with fail
  go_loopw [16] (fun v16 wr => ∃ i : Nat, i ≤ ol.length ∧ v16 = .int .i64 i ∧ Below v8.heap.size v8 wr) (fun v16 _ => ol.length - (intOf v16).toNat)
  case atStart => exact ⟨0, Nat.zero_le _, rfl, Below.refl _ _⟩
  case round =>
    obtain ⟨i, hi', rfl, hB⟩ := hrel
    have HBA := hide hB
    have hi0 : (0 : Int) ≤ (i : Int) := Int.natCast_nonneg _
    by_cases hli : i < ol.length
    · have hi1 : (i : Int) < (ol.length : Int) := by omega
      have HOLr := hide (HOL.out.next hB)
      have HOWr := hide (HOW.out.next hB)
      obtain ⟨bo, oo, rfl, zbo, hoc⟩ := HOLr.out.row (by omega)
      have y0 := hoc i hli
      rw [intsF] at y0
      have HH := hide (HQ3.out i hli)
      clear hB hoc
      go_wp2_with (go_at_call 38; refine (has_any HOWr.out (nth (natInts ol) i)).mono ?_; rintro e v ⟨rfl, rfl⟩; rw [HH.out])
      go_roundw
      case rel => exact ⟨i + 1, by omega, by go_num, HBA.out⟩
      case measure => simp [intOf]; omega
    · clear hB
      have HB := hide (HB.out.trans (HBA.out.mono HB.out.size))
      have HKZ := hide (HKZ.out.next HBA.out)
      have HX := hide (HX.out.next HBA.out)
      have HBX := hide (HBX.out.next HBA.out)
      have HOL := hide (HOL.out.next HBA.out)
      have HOW := hide (HOW.out.next HBA.out)
      clear HBA
      go_wp2_with fail
      obtain ⟨va, rfl⟩ : ∃ va : World, va = wr := ⟨_, rfl⟩
      go_loopw [17, 18] (fun v17 v18 wr => ∃ j : Nat, j ≤ Lw.length ∧ v18 = .int .i64 j ∧ Below va.heap.size va wr ∧ wr.ownsRow va.heap.size 3 1 v17 (ownB Lw xd j).length ((ownB Lw xd j).map fun n : Int => .int .i64 n)) (fun _ v18 _ => Lw.length - (intOf v18).toNat)
      case atStart => exact ⟨0, Nat.zero_le _, rfl, Below.refl _ _, World.ownsRow_nil _ _ _ _⟩
      case round =>
        obtain ⟨j, hj, rfl, hB, hown⟩ := hrel
        have hj0 : (0 : Int) ≤ (j : Int) := Int.natCast_nonneg _
        have HBB := hide hB
        have hsz := hB.size
        by_cases hlj : j < Lw.length
        · have hj1 : (j : Int) < (Lw.length : Int) := by omega
          have hle := HBL.out j
          have yx2 : wr.cell? ⟨w.heap.size + 1, 2, none⟩ = some (.int .u8 xd) := (HBX.out.next hB).at_ 2
          have zx := (HBX.out.next hB).lt
          have HE := hide (HBS.out j)
          have HBT := hide (fun w => bit_any xd j w hd0.1 (by omega) (by omega))
          cases hbt : bitB j xd with
          | true =>
            have e2 : ownB Lw xd (j + 1) = ownB Lw xd j ++ [((nth Lw j : Nat) : Int)] := by rw [HE.out, hbt]; rfl
            have HE := hide e2
            clear e2
            rw [hbt] at HBT
            clear hbt
            obtain ⟨bl, ol2, rfl, zbl, hlc⟩ := (HOW.out.next hB).row (by omega)
            have y0 := hlc j hlj
            rw [intsF, nth_natInts hlj] at y0
            clear hlc hB
            go_wp2_with (first
              | (go_at_call 46; refine (HBT.out _).mono ?_; rintro e w' ⟨rfl, rfl⟩)
              | (at_builtin
                 refine wpList_append_own _ rfl _ _ 22 rfl va.heap.size 3 i0 (.int .i64 0) 1 8 Try.underlying22 hI0 hz00 hz01 hz02 rfl (by decide) _ _ _ rfl (hown.alloc _) ⟨wr.heap.size, 0, none⟩ 1 1 [.int .i64 ((nth Lw j : Nat) : Int)] rfl rfl ?c1 ?c2 ?c3 ?c4 ?c5 ?_
                 case c1 => exact cell_one_new _ _ _
                 case c2 => simp [Value.oneCell']
                 case c3 => simp [maxLen]; omega
                 case c4 => omega
                 case c5 => simp; omega
                 intro v' w1 hown' hg _
                 have hb1 := app_below hsz hown hg
                 clear hg))
            go_roundw
            case rel => exact ⟨j + 1, by omega, by go_num, HBB.out.trans hb1, by rw [HE.out]; simpa using hown'⟩
            case measure => simp [intOf]; omega
          | false =>
            have e2 : ownB Lw xd (j + 1) = ownB Lw xd j := by rw [HE.out, hbt]; simp
            have HE := hide e2
            clear e2
            rw [hbt] at HBT
            clear hbt hB
            go_wp2_with (go_at_call 46; refine (HBT.out _).mono ?_; rintro e w' ⟨rfl, rfl⟩)
            go_roundw
            case rel => exact ⟨j + 1, by omega, by go_num, HBB.out, by rw [HE.out]; exact hown⟩
            case measure => simp [intOf]; omega
        · have hjj : j = Lw.length := by omega
          subst hjj
          obtain ⟨A9, c9, rfl, hs9⟩ := IntsS.of_own (xs := ownB Lw xd Lw.length) hown
          have HOT := hide hs9
          have HB := hide (HB.out.trans (hB.mono HB.out.size))
          have HKZ := hide (HKZ.out.next hB)
          have HX := hide (HX.out.next hB)
          have HOL := hide (HOL.out.next hB)
          clear hB hown hs9 HBB HBS HBL
          generalize ownB Lw xd Lw.length = ot at *
          obtain ⟨vb, rfl⟩ : ∃ vb : World, vb = wr := ⟨_, rfl⟩
          obtain ⟨hv, z, x0, x1, x2, x3, x4⟩ := HKZ.out
          have HV := hide hv
          clear hv
          go_upto_region 22 with (go_at_call 47; refine (truly_own HV.out HVZ.out HX.out HOL.out).mono ?_; rintro e vc ⟨AU, cU, rfl, hU, hb⟩)
          have HU := hide (ints_own hU)
          have HB := hide (HB.out.trans (hb.mono HB.out.size))
          have HKZ := hide (HKZ.out.next hb)
          have HOL := hide (HOL.out.next hb)
          have HOT := hide (HOT.out.next hb)
          clear hb hU z x0 x1 x2 x3 x4 HV
          generalize trulyM zc l (natInts ol) = T at *
          go_wp2_with fail
          go_loopw [20] (fun v20 wr => ∃ k : Nat, k ≤ zc.lots.length ∧ v20 = .int .i64 k ∧ Below vc.heap.size vc wr) (fun v20 _ => zc.lots.length - (intOf v20).toNat)
          case atStart => exact ⟨0, Nat.zero_le _, rfl, Below.refl _ _⟩
          case round =>
            obtain ⟨k, hk, rfl, hB⟩ := hrel
            have hk0 : (0 : Int) ≤ (k : Int) := Int.natCast_nonneg _
            have HBD := hide hB
            have HKR := hide (HKZ.out.next hB)
            obtain ⟨hv, z, x0, x1, x2, x3, x4⟩ := HKR.out
            by_cases hlk : k < zc.lots.length
            · have hk1 : (k : Int) < (zc.lots.length : Int) := by omega
              obtain ⟨b3, o3, rfl, zb3, l0, l1, l2, l3⟩ := hv.lots.lots hlk
              obtain ⟨bu, ou, rfl, zbu, huc⟩ := (HU.out.next hB).row (by omega)
              have y0 := huc k hlk
              rw [intsF] at y0
              have HG := hide (HQ4.out k hlk)
              clear hv hB huc l2 l3
              generalize (nth zc.lots k).hold = hk2 at *
              generalize (nth zc.lots k).frm = fk at *
              generalize nth T k = tk at *
              cases e1 : (hk2 == (hd : Int)) with
              | false =>
                go_wp2_with fail
                go_roundw
                case rel => exact ⟨k + 1, by omega, by go_num, HBD.out⟩
                case measure => simp [intOf]; omega
              | true =>
                cases e2 : decide (fk ≤ un) with
                | false =>
                  go_wp2_with fail
                  go_roundw
                  case rel => exact ⟨k + 1, by omega, by go_num, HBD.out⟩
                  case measure => simp [intOf]; omega
                | true =>
                  have e3 : decide (tk ≤ un) = false := by
                    have := HG.out (by simpa using e1) (by simpa using e2)
                    simp; omega
                  go_wp2_with fail
                  go_roundw
                  case rel => exact ⟨k + 1, by omega, by go_num, HBD.out⟩
                  case measure => simp [intOf]; omega
            · have HB := hide (HB.out.trans (hB.mono HB.out.size))
              have HOL := hide (HOL.out.next hB)
              have HOT := hide (HOT.out.next hB)
              have HV := hide hv
              clear hv hB
              go_wp2_with (fail)
              refine (lasts_any HV.out HVZ.out hhd un HOL.out).mono ?_
              rintro e vd ⟨rfl, hb⟩
              rw [HQ5.out]
              have HKR2 := hide (HKR.out.next hb)
              have HB := hide (HB.out.trans (hb.mono HB.out.size))
              have HOL := hide (HOL.out.next hb)
              have HOT := hide (HOT.out.next hb)
              clear z x0 x1 x2 x3 x4 HV hb
              obtain ⟨hv, z, x0, x1, x2, x3, x4⟩ := HKR2.out
              have HV := hide hv
              clear hv
              cases hfw : fewerB ot (natInts ol) with
              | false =>
                have HFW := hide hfw
                clear hfw
                go_wp2_with (fail)
                refine (fewer_any HOT.out HOL.out).mono ?_
                rintro e ve ⟨rfl, hd9⟩
                rw [HFW.out]
                have hb := hd9.below vd.heap.size
                have HB := hide (HB.out.trans (hb.mono HB.out.size))
                clear hd9 hb
                go_wp2_with (go_at_call 23; refine (awake_any _).mono ?_; rintro e v10 ⟨rfl, hb⟩)
                go_ret
                exact ⟨rfl, HB.out.trans (hb.mono HB.out.size)⟩
              | true =>
                have HFW := hide hfw
                have HLF := hide (HQ6.out hfw)
                clear hfw
                go_wp2_with (fail)
                refine (fewer_any HOT.out HOL.out).mono ?_
                rintro e ve ⟨rfl, hd9⟩
                rw [HFW.out]
                have hb := hd9.below vd.heap.size
                have HB := hide (HB.out.trans (hb.mono HB.out.size))
                have HKR3 := hide (HKR2.out.next hb)
                have HOT := hide (HOT.out.next hb)
                clear hd9 hb z x0 x1 x2 x3 x4 HV
                obtain ⟨hv, z, x0, x1, x2, x3, x4⟩ := HKR3.out
                have HV := hide hv
                clear hv
                go_wp2_with (fail)
                refine (lasts_any HV.out HVZ.out hhd un HOT.out).mono ?_
                rintro e vf ⟨rfl, hb⟩
                rw [HLF.out]
                have HB := hide (HB.out.trans (hb.mono HB.out.size))
                clear hb
                go_wp2_with (go_at_call 23; refine (awake_any _).mono ?_; rintro e v10 ⟨rfl, hb⟩)
                go_ret
                exact ⟨rfl, HB.out.trans (hb.mono HB.out.size)⟩
theorem turnOut_any {A1 A2 A3 A4 Ax : Option Addr} {c1 c2 c3 c4 cx : Nat} {c : Cargo} {w : World} {l : List Int} (h : CargoV w w.heap.size c A1 A2 A3 A4 c1 c2 c3 c4) (hx : BytesS w w.heap.size Ax cx l) (xa xb xd : Int) (ha : 0 ≤ xa ∧ xa ≤ 255) (hb : 0 ≤ xb ∧ xb ≤ 255) (hd : 0 ≤ xd ∧ xd ≤ 255) :
    Calls Try.prog 10 #[cargoVal c A1 A2 A3 A4 c1 c2 c3 c4, .agg #[.int .u8 xa, .int .u8 xb, .int .u8 xd], .slice Ax l.length cx] w fun e w' => e = .returned (.bool true) ∧ Below w.heap.size w w' := by
  by_cases hc : (checkM c).2.2 = 0
  · exact out_ok h hx xa xb xd ha hb hd (valid_of hc)
  · exact out_bad h hx xa xb xd hc
end Go.Proofs.Ytbkknliggnhpcaa
