/- The law TurnPut: for any cargo and lot that is put in the statement's function returns true. -/
import Derived.Test.YtbkknliggnhpcaaWrapA
import Derived.Test.YtbkknliggnhpcaaQd
set_option linter.unusedVariables false
set_option linter.unusedSimpArgs false
namespace Go.Proofs.Ytbkknliggnhpcaa
open Go.RowKit
attribute [local go_sem ↓] Go.wp_at_zero Go.wp_at_succ

theorem not_t {A : Bool} (h : true = !A) : A = false := by cases A <;> simp_all
theorem not_f {A : Bool} (h : false = !A) : A = true := by cases A <;> simp_all
theorem putW2_any {A1 A2 A3 A4 : Option Addr} {c1 c2 c3 c4 : Nat} {c : Cargo} {w : World} (h : CargoV w w.heap.size c A1 A2 A3 A4 c1 c2 c3 c4) (lo hi frm un : Int) :
    Calls Try.prog 28 #[cargoVal c A1 A2 A3 A4 c1 c2 c3 c4, .agg #[.int .i64 lo, .int .i64 hi], .int .i64 frm, .int .i64 un] w fun e w' => ∃ A cp, e = .returned (.tuple #[.slice A (putR c lo hi frm un).1.length cp, .int .i64 (putR c lo hi frm un).2]) ∧ IntsS w' w'.heap.size A (putR c lo hi frm un).1.length cp (natInts (putR c lo hi frm un).1) ∧ Below w.heap.size w w' := by
  have := put_any h lo hi frm un; rw [putV_eq] at this; exact this
set_option maxHeartbeats 4000000 in
set_option maxRecDepth 100000 in
theorem putl_bad {A1 A2 A3 A4 Ax : Option Addr} {c1 c2 c3 c4 cx : Nat} {c : Cargo} {w : World} {l : List Int} (h : CargoV w w.heap.size c A1 A2 A3 A4 c1 c2 c3 c4) (hx : BytesS w w.heap.size Ax cx l) (lo hi xf xu xw : Int) (hc : (checkM c).2.2 ≠ 0) :
    Calls Try.prog 9 #[cargoVal c A1 A2 A3 A4 c1 c2 c3 c4, .agg #[.int .i64 lo, .int .i64 hi, .int .u8 xf, .int .u8 xu, .int .u8 xw, .slice Ax l.length cx]] w fun e w' => e = .returned (.bool true) ∧ Below w.heap.size w w' := by
  have hA1 : Below w.heap.size w (w.alloc (.cells #[.slice A1 c.heat.length c1, .int .i64 c.gas, .slice A2 c.holds.length c2, .slice A3 c.lots.length c3, .slice A4 c.seen.length c4] 27)) := (Below.refl _ _).alloc (Nat.le_refl _) _
  have hA2 : Below (w.alloc (.cells #[.slice A1 c.heat.length c1, .int .i64 c.gas, .slice A2 c.holds.length c2, .slice A3 c.lots.length c3, .slice A4 c.seen.length c4] 27)).heap.size (w.alloc (.cells #[.slice A1 c.heat.length c1, .int .i64 c.gas, .slice A2 c.holds.length c2, .slice A3 c.lots.length c3, .slice A4 c.seen.length c4] 27)) ((w.alloc (.cells #[.slice A1 c.heat.length c1, .int .i64 c.gas, .slice A2 c.holds.length c2, .slice A3 c.lots.length c3, .slice A4 c.seen.length c4] 27)).alloc (.cells #[.int .i64 lo, .int .i64 hi, .int .u8 xf, .int .u8 xu, .int .u8 xw, .slice Ax l.length cx] 62)) := (Below.refl _ _).alloc (Nat.le_refl _) _
  have HK := hide ((BoxC.made h).next hA2)
  have HB := hide (hA1.trans (hA2.mono hA1.size))
  have bx : Blk ((w.alloc (.cells #[.slice A1 c.heat.length c1, .int .i64 c.gas, .slice A2 c.holds.length c2, .slice A3 c.lots.length c3, .slice A4 c.seen.length c4] 27)).alloc (.cells #[.int .i64 lo, .int .i64 hi, .int .u8 xf, .int .u8 xu, .int .u8 xw, .slice Ax l.length cx] 62)) (w.heap.size + 1) 62 #[.int .i64 lo, .int .i64 hi, .int .u8 xf, .int .u8 xu, .int .u8 xw, .slice Ax l.length cx] := Blk.made' (by simp)
  have HXB := hide bx
  clear hA1 hA2 bx h hx
  have HWR := hide (fun (w : World) A1 A2 A3 A4 c1 c2 c3 c4 (h : CargoV w w.heap.size c A1 A2 A3 A4 c1 c2 c3 c4) => (show Calls Try.prog 28 #[cargoVal c A1 A2 A3 A4 c1 c2 c3 c4, .agg #[.int .i64 lo, .int .i64 hi], .int .i64 0, .int .i64 1] w fun e w' => ∃ A cp, e = .returned (.tuple #[.slice A 0 cp, .int .i64 (checkM c).2.2]) ∧ Below w.heap.size w w' from by
    have := putW2_any h lo hi 0 1; rw [put_bad hc] at this; exact this.mono fun e w' ⟨A, cp, h1, _, h3⟩ => ⟨A, cp, h1, h3⟩))
  have HVF := hide (show decide ((checkM c).2.2 = 0) = false by simpa using hc)
  generalize hE : (checkM c).2.2 = E at *
  have HE := hide hE
  have hc3 : (E != 0) = true := by simpa using hc
  clear hE
  go_enter Try.func9, Try.ntmps9
  go_upto_region 1 with (fail)
  generalize ((w.alloc (.cells #[.slice A1 c.heat.length c1, .int .i64 c.gas, .slice A2 c.holds.length c2, .slice A3 c.lots.length c3, .slice A4 c.seen.length c4] 27)).alloc (.cells #[.int .i64 lo, .int .i64 hi, .int .u8 xf, .int .u8 xu, .int .u8 xw, .slice Ax l.length cx] 62)) = v0 at *
  obtain ⟨hv, z, x0, x1, x2, x3, x4⟩ := HK.out
  have HV := hide hv
  clear hv
  go_upto_region 2 with (go_at_call 35; refine (valid7_any HV.out (v := false) (by rw [HE.out]; exact HVF.out)).mono ?_; rintro e v1 ⟨rfl, hb⟩)
  have HK := hide (HK.out.next hb)
  have HXB := hide (HXB.out.next hb)
  have HB := hide (HB.out.trans (hb.mono (by have := HB.out.size; exact this)))
  clear hb
  clear z x0 x1 x2 x3 x4 HV
  have yx0 : v1.cell? ⟨w.heap.size + 1, 0, none⟩ = some (.int .i64 lo) := HXB.out.at_ 0
  have yx1 : v1.cell? ⟨w.heap.size + 1, 1, none⟩ = some (.int .i64 hi) := HXB.out.at_ 1
  have zx : w.heap.size + 1 < v1.heap.size := HXB.out.lt
  obtain ⟨hv, z, x0, x1, x2, x3, x4⟩ := HK.out
  have HV := hide hv
  clear hv
  go_upto_region 3 with (go_at_call 28; refine (HWR.out _ _ _ _ _ _ _ _ _ HV.out).mono ?_; rintro e v2 ⟨R1, r1, rfl, hb⟩)
  have HK := hide (HK.out.next hb)
  have HXB := hide (HXB.out.next hb)
  have HB := hide (HB.out.trans (hb.mono (by have := HB.out.size; exact this)))
  clear hb
  clear z x0 x1 x2 x3 x4 HV
  go_wp2_with (go_at_call 23; refine (awake_any _).mono ?_; rintro e v10 ⟨rfl, hb⟩)
  go_ret
  exact ⟨rfl, HB.out.trans (hb.mono HB.out.size)⟩

set_option maxHeartbeats 3000000 in
set_option maxRecDepth 100000 in
theorem putl_ok {A1 A2 A3 A4 Ax : Option Addr} {c1 c2 c3 c4 cx : Nat} {c : Cargo} {w : World} {l : List Int} (h : CargoV w w.heap.size c A1 A2 A3 A4 c1 c2 c3 c4) (hx : BytesS w w.heap.size Ax cx l) (lo hi xf xu xw : Int) (hxf : 0 ≤ xf ∧ xf ≤ 255) (hxu : 0 ≤ xu ∧ xu ≤ 255) (hxw : 0 ≤ xw ∧ xw ≤ 255) (hval : Valid c) :
    Calls Try.prog 9 #[cargoVal c A1 A2 A3 A4 c1 c2 c3 c4, .agg #[.int .i64 lo, .int .i64 hi, .int .u8 xf, .int .u8 xu, .int .u8 xw, .slice Ax l.length cx]] w fun e w' => e = .returned (.bool true) ∧ Below w.heap.size w w' := by
  obtain ⟨i0, hI0, hz00, hz01, hz02⟩ := info_parts Try.infoInt
  have hA1 : Below w.heap.size w (w.alloc (.cells #[.slice A1 c.heat.length c1, .int .i64 c.gas, .slice A2 c.holds.length c2, .slice A3 c.lots.length c3, .slice A4 c.seen.length c4] 27)) := (Below.refl _ _).alloc (Nat.le_refl _) _
  have hA2 : Below (w.alloc (.cells #[.slice A1 c.heat.length c1, .int .i64 c.gas, .slice A2 c.holds.length c2, .slice A3 c.lots.length c3, .slice A4 c.seen.length c4] 27)).heap.size (w.alloc (.cells #[.slice A1 c.heat.length c1, .int .i64 c.gas, .slice A2 c.holds.length c2, .slice A3 c.lots.length c3, .slice A4 c.seen.length c4] 27)) ((w.alloc (.cells #[.slice A1 c.heat.length c1, .int .i64 c.gas, .slice A2 c.holds.length c2, .slice A3 c.lots.length c3, .slice A4 c.seen.length c4] 27)).alloc (.cells #[.int .i64 lo, .int .i64 hi, .int .u8 xf, .int .u8 xu, .int .u8 xw, .slice Ax l.length cx] 62)) := (Below.refl _ _).alloc (Nat.le_refl _) _
  have HK := hide ((BoxC.made h).next hA2)
  have HB := hide (hA1.trans (hA2.mono hA1.size))
  have bx : Blk ((w.alloc (.cells #[.slice A1 c.heat.length c1, .int .i64 c.gas, .slice A2 c.holds.length c2, .slice A3 c.lots.length c3, .slice A4 c.seen.length c4] 27)).alloc (.cells #[.int .i64 lo, .int .i64 hi, .int .u8 xf, .int .u8 xu, .int .u8 xw, .slice Ax l.length cx] 62)) (w.heap.size + 1) 62 #[.int .i64 lo, .int .i64 hi, .int .u8 xf, .int .u8 xu, .int .u8 xw, .slice Ax l.length cx] := Blk.made' (by simp)
  have HXB := hide bx
  have HX := hide ((hx.next hA1).next hA2)
  have HVD := hide hval
  have HVF := hide (show decide ((checkM c).2.2 = 0) = true by simpa using valid_check hval)
  have HTO := hide (fun (w : World) A1 A2 A3 A4 c1 c2 c3 c4 (h : CargoV w w.heap.size c A1 A2 A3 A4 c1 c2 c3 c4) (hx : BytesS w w.heap.size Ax cx l) => (show Calls Try.prog 36 #[cargoVal c A1 A2 A3 A4 c1 c2 c3 c4, .slice Ax l.length cx] w fun e w' => ∃ A cp At ct, e = .returned (.tuple #[cargoVal (toldC c l) A1 A2 A3 A c1 c2 c3 cp, .slice At (toldC c l).lots.length ct]) ∧ CargoV w' w'.heap.size (toldC c l) A1 A2 A3 A c1 c2 c3 cp ∧ IntsS w' w'.heap.size At (toldC c l).lots.length ct (trulyM c l []) ∧ Below w.heap.size w w' from told_any h hval hx))
  have hvz := toldC_valid (l := l) hval
  have HPA := hide (show ∀ (frm un : Int), 0 ≤ frm ∧ frm ≤ (toldC c l).heat.length → 0 ≤ un ∧ un ≤ (toldC c l).heat.length → PutAt (toldC c l) l lo hi frm un from fun frm un h1 h2 => put_at hval lo hi h1 h2)
  have HBD := hide (turnB_bd hx.bd)
  clear h hx hval hA1 hA2 bx
  generalize hzz : toldC c l = zc at *
  clear hzz
  generalize trulyM c l [] = T at *
  have hht := hvz.hours
  have hlz := hvz.lots
  have hhz := hvz.holds
  have HVZ := hide hvz
  clear hvz
  go_enter Try.func9, Try.ntmps9
  go_upto_region 1 with (fail)
  generalize ((w.alloc (.cells #[.slice A1 c.heat.length c1, .int .i64 c.gas, .slice A2 c.holds.length c2, .slice A3 c.lots.length c3, .slice A4 c.seen.length c4] 27)).alloc (.cells #[.int .i64 lo, .int .i64 hi, .int .u8 xf, .int .u8 xu, .int .u8 xw, .slice Ax l.length cx] 62)) = v0 at *
  obtain ⟨hv, z, x0, x1, x2, x3, x4⟩ := HK.out
  have HV := hide hv
  clear hv
  go_upto_region 4 with (go_at_call 35; refine (valid7_any HV.out (v := true) HVF.out).mono ?_; rintro e v1 ⟨rfl, hb⟩)
  have HK := hide (HK.out.next hb)
  have HX := hide (HX.out.next hb)
  have HXB := hide (HXB.out.next hb)
  have HB := hide (HB.out.trans (hb.mono (by have := HB.out.size; exact this)))
  clear hb
  clear z x0 x1 x2 x3 x4 HV
  have yx5 : v1.cell? ⟨w.heap.size + 1, 5, none⟩ = some (.slice Ax l.length cx) := HXB.out.at_ 5
  have zx : w.heap.size + 1 < v1.heap.size := HXB.out.lt
  obtain ⟨hv, z, x0, x1, x2, x3, x4⟩ := HK.out
  have HV := hide hv
  clear hv
  go_upto_region 5 with (go_at_call 36; refine (HTO.out _ _ _ _ _ _ _ _ _ HV.out HX.out).mono ?_; rintro e v2 ⟨AS, cS, AT, cT, rfl, hz, hT, hb⟩)
  have hb3 : Below v2.heap.size v2 (v2.alloc (.cells #[.slice A1 zc.heat.length c1, .int .i64 zc.gas, .slice A2 zc.holds.length c2, .slice A3 zc.lots.length c3, .slice AS zc.seen.length cS] 27)) := (Below.refl _ _).alloc (Nat.le_refl _) _
  have HKZ := hide (BoxC.made hz)
  have HX := hide ((HX.out.next hb).next hb3)
  have HXB := hide ((HXB.out.next hb).next hb3)
  have HB := hide (HB.out.trans (hb.mono HB.out.size))
  have HB := hide (HB.out.trans (hb3.mono HB.out.size))
  clear z x0 x1 x2 x3 x4 HV hb hz hT hb3 HK HTO HVF HVD yx5 zx
  generalize (v2.alloc (.cells #[.slice A1 zc.heat.length c1, .int .i64 zc.gas, .slice A2 zc.holds.length c2, .slice A3 zc.lots.length c3, .slice AS zc.seen.length cS] 27)) = v3 at *
  obtain ⟨hv, z, x0, x1, x2, x3, x4⟩ := HKZ.out
  clear hv
  have yx2 : v3.cell? ⟨w.heap.size + 1, 2, none⟩ = some (.int .u8 xf) := HXB.out.at_ 2
  have yx3 : v3.cell? ⟨w.heap.size + 1, 3, none⟩ = some (.int .u8 xu) := HXB.out.at_ 3
  have zx : w.heap.size + 1 < v3.heap.size := HXB.out.lt
  have hp0 := Int.emod_nonneg xf (show ((zc.heat.length : Int) + 1) ≠ 0 by omega)
  have hp1 := Int.emod_lt_of_pos xf (show 0 < ((zc.heat.length : Int) + 1) by omega)
  have hp2 := Int.emod_nonneg xu (show ((zc.heat.length : Int) + 1) ≠ 0 by omega)
  have hp3 := Int.emod_lt_of_pos xu (show 0 < ((zc.heat.length : Int) + 1) by omega)
  have hm1 : xf.tmod ((zc.heat.length : Int) + 1) = xf % ((zc.heat.length : Int) + 1) := Int.tmod_eq_emod_of_nonneg hxf.1
  have hm2 : xu.tmod ((zc.heat.length : Int) + 1) = xu % ((zc.heat.length : Int) + 1) := Int.tmod_eq_emod_of_nonneg hxu.1
  have hz1 : (((zc.heat.length : Int) + 1) == 0) = false := by rw [beq_eq_false_iff_ne]; omega
  have hz2 : ((zc.heat.length : Int) + 1) ≠ 0 := by omega
  have hl0 : (0 : Int) ≤ (zc.heat.length : Int) := Int.natCast_nonneg _
  have hl1 : (zc.heat.length : Int) ≤ 8 := by omega
  have hw1 : IntKind.i64.wrap ((zc.heat.length : Int) + 1) = ((zc.heat.length : Int) + 1) := IntWalk.i64_in _ (by omega)
  have hw2 : IntKind.i64.wrap (xf % ((zc.heat.length : Int) + 1)) = xf % ((zc.heat.length : Int) + 1) := IntWalk.i64_in _ (by omega)
  have hw3 : IntKind.i64.wrap (xu % ((zc.heat.length : Int) + 1)) = xu % ((zc.heat.length : Int) + 1) := IntWalk.i64_in _ (by omega)
  have hw4 : IntKind.i64.wrap xf = xf := IntWalk.i64_in _ (by omega)
  have hw5 : IntKind.i64.wrap xu = xu := IntWalk.i64_in _ (by omega)
  go_wp2_with fail
  refine wp_post0 (fun act0 a W => ∃ vs : Nat → Value, a = { tmps := setAll (fun oi => [48, 49, 50, 51, 52, 53, 54, 55, 56, 57, 10, 11].getD oi 0) vs [0, 1, 2, 3, 4, 5, 6, 7, 8, 9, 10, 11] act0.tmps, defers := act0.defers } ∧ Below v3.heap.size v3 W ∧ vs 10 = .int .i64 (xf % ((zc.heat.length : Int) + 1)) ∧ vs 11 = .int .i64 (xu % ((zc.heat.length : Int) + 1))) ?reg ?imp
  case reg =>
    have hST : Stab v3.heap.size (fun oi v W => match oi with | 0 => v = .pointer (some ⟨w.heap.size + 1, 2, none⟩) | 1 => v = .int .u8 xf | 2 => v = .int .i64 xf | 3 => v = .int .i64 ((zc.heat.length : Int) + 1) | 4 => v = .int .i64 (xf % ((zc.heat.length : Int) + 1)) | 5 => v = .pointer (some ⟨w.heap.size + 1, 3, none⟩) | 6 => v = .int .u8 xu | 7 => v = .int .i64 xu | 8 => v = .int .i64 ((zc.heat.length : Int) + 1) | 9 => v = .int .i64 (xu % ((zc.heat.length : Int) + 1)) | 10 => v = .int .i64 (xf % ((zc.heat.length : Int) + 1)) | 11 => v = .int .i64 (xu % ((zc.heat.length : Int) + 1)) | _ => True) (fun oi v b => match oi with  | _ => False) := by
      intro oi v W W' h hbs hz hk
      match oi, h, hk with
      | 0, h, hk => exact h
      | 1, h, hk => exact h
      | 2, h, hk => exact h
      | 3, h, hk => exact h
      | 4, h, hk => exact h
      | 5, h, hk => exact h
      | 6, h, hk => exact h
      | 7, h, hk => exact h
      | 8, h, hk => exact h
      | 9, h, hk => exact h
      | 10, h, hk => exact h
      | 11, h, hk => exact h
      | oi + 12, h, hk => exact trivial
    refine wp_region_inv (dst := fun oi => [48, 49, 50, 51, 52, 53, 54, 55, 56, 57, 10, 11].getD oi 0) (mono := fun oi => decide (oi < 12)) (pre := fun oi => decide (oi < 12)) (G := Loose 12 v3.heap.size (fun oi => match oi with  | _ => 12) (fun oi v W => match oi with | 0 => v = .pointer (some ⟨w.heap.size + 1, 2, none⟩) | 1 => v = .int .u8 xf | 2 => v = .int .i64 xf | 3 => v = .int .i64 ((zc.heat.length : Int) + 1) | 4 => v = .int .i64 (xf % ((zc.heat.length : Int) + 1)) | 5 => v = .pointer (some ⟨w.heap.size + 1, 3, none⟩) | 6 => v = .int .u8 xu | 7 => v = .int .i64 xu | 8 => v = .int .i64 ((zc.heat.length : Int) + 1) | 9 => v = .int .i64 (xu % ((zc.heat.length : Int) + 1)) | 10 => v = .int .i64 (xf % ((zc.heat.length : Int) + 1)) | 11 => v = .int .i64 (xu % ((zc.heat.length : Int) + 1)) | _ => True) (fun oi v b => match oi with  | _ => False)) (by kernel_rfl) (by kernel_rfl) (Loose.start (Nat.le_refl _)) ?hstep ?hend
    case hstep =>
      intro oi hoi hom listed vs a W hU hsz hG hcl hl haft K hK
      have hb := ((Below.refl v3.heap.size v3).drew).trans hU.below
      have hF := Loose.stepF hU hG hST hoi hK
      match oi, hoi, hom with
      | 0, hoi, hom =>
        have z3 : a.tmps[3]?.getD undef = .pointer (some ⟨w.heap.size + 1, 0, none⟩) := hU.same 3 (by decide)
        refine wpOp_value (v := .pointer (some ⟨w.heap.size + 1, 2, none⟩)) (W' := W) rfl rfl ?_ (hF _ _ (Below.refl _ _) rfl (fun _ h => False.elim h))
        go_simp
      | 1, hoi, hom =>
        have l0 := haft _ rfl { on := 0, ground := .data } (by simp) rfl
        have p0 := hG.pv 0 (by decide) (live_end hsz rfl l0)
        have s0 : a.tmps[48]?.getD undef = vs 0 := hU.slot 0 (by decide) l0
        have hv0 : vs 0 = .pointer (some ⟨w.heap.size + 1, 2, none⟩) := p0
        rw [hv0] at s0
        have y0 := (hb.cell (p := ⟨w.heap.size + 1, 2, none⟩) (zx)).trans (yx2)
        refine wpOp_value (v := .int .u8 xf) (W' := W) rfl rfl ?_ (hF _ _ (Below.refl _ _) rfl (fun _ h => False.elim h))
        go_simp
      | 2, hoi, hom =>
        have l1 := haft _ rfl { on := 1, ground := .data } (by simp) rfl
        have p1 := hG.pv 1 (by decide) (live_end hsz rfl l1)
        have s1 : a.tmps[49]?.getD undef = vs 1 := hU.slot 1 (by decide) l1
        have hv1 : vs 1 = .int .u8 xf := p1
        rw [hv1] at s1
        refine wpOp_value (v := .int .i64 xf) (W' := W) rfl rfl ?_ (hF _ _ (Below.refl _ _) rfl (fun _ h => False.elim h))
        go_simp
      | 3, hoi, hom =>
        have z9 : a.tmps[9]?.getD undef = .int .i64 ((zc.heat.length : Int) + 1) := hU.same 9 (by decide)
        refine wpOp_value (v := .int .i64 ((zc.heat.length : Int) + 1)) (W' := W) rfl rfl ?_ (hF _ _ (Below.refl _ _) rfl (fun _ h => False.elim h))
        go_simp
      | 4, hoi, hom =>
        have l2 := haft _ rfl { on := 2, ground := .data } (by simp) rfl
        have p2 := hG.pv 2 (by decide) (live_end hsz rfl l2)
        have s2 : a.tmps[50]?.getD undef = vs 2 := hU.slot 2 (by decide) l2
        have hv2 : vs 2 = .int .i64 xf := p2
        rw [hv2] at s2
        have l3 := haft _ rfl { on := 3, ground := .data } (by simp) rfl
        have p3 := hG.pv 3 (by decide) (live_end hsz rfl l3)
        have s3 : a.tmps[51]?.getD undef = vs 3 := hU.slot 3 (by decide) l3
        have hv3 : vs 3 = .int .i64 ((zc.heat.length : Int) + 1) := p3
        rw [hv3] at s3
        refine wpOp_value (v := .int .i64 (xf % ((zc.heat.length : Int) + 1))) (W' := W) rfl rfl ?_ (hF _ _ (Below.refl _ _) rfl (fun _ h => False.elim h))
        go_simp
      | 5, hoi, hom =>
        have z3 : a.tmps[3]?.getD undef = .pointer (some ⟨w.heap.size + 1, 0, none⟩) := hU.same 3 (by decide)
        refine wpOp_value (v := .pointer (some ⟨w.heap.size + 1, 3, none⟩)) (W' := W) rfl rfl ?_ (hF _ _ (Below.refl _ _) rfl (fun _ h => False.elim h))
        go_simp
      | 6, hoi, hom =>
        have l5 := haft _ rfl { on := 5, ground := .data } (by simp) rfl
        have p5 := hG.pv 5 (by decide) (live_end hsz rfl l5)
        have s5 : a.tmps[53]?.getD undef = vs 5 := hU.slot 5 (by decide) l5
        have hv5 : vs 5 = .pointer (some ⟨w.heap.size + 1, 3, none⟩) := p5
        rw [hv5] at s5
        have y0 := (hb.cell (p := ⟨w.heap.size + 1, 3, none⟩) (zx)).trans (yx3)
        refine wpOp_value (v := .int .u8 xu) (W' := W) rfl rfl ?_ (hF _ _ (Below.refl _ _) rfl (fun _ h => False.elim h))
        go_simp
      | 7, hoi, hom =>
        have l6 := haft _ rfl { on := 6, ground := .data } (by simp) rfl
        have p6 := hG.pv 6 (by decide) (live_end hsz rfl l6)
        have s6 : a.tmps[54]?.getD undef = vs 6 := hU.slot 6 (by decide) l6
        have hv6 : vs 6 = .int .u8 xu := p6
        rw [hv6] at s6
        refine wpOp_value (v := .int .i64 xu) (W' := W) rfl rfl ?_ (hF _ _ (Below.refl _ _) rfl (fun _ h => False.elim h))
        go_simp
      | 8, hoi, hom =>
        have z9 : a.tmps[9]?.getD undef = .int .i64 ((zc.heat.length : Int) + 1) := hU.same 9 (by decide)
        refine wpOp_value (v := .int .i64 ((zc.heat.length : Int) + 1)) (W' := W) rfl rfl ?_ (hF _ _ (Below.refl _ _) rfl (fun _ h => False.elim h))
        go_simp
      | 9, hoi, hom =>
        have l7 := haft _ rfl { on := 7, ground := .data } (by simp) rfl
        have p7 := hG.pv 7 (by decide) (live_end hsz rfl l7)
        have s7 : a.tmps[55]?.getD undef = vs 7 := hU.slot 7 (by decide) l7
        have hv7 : vs 7 = .int .i64 xu := p7
        rw [hv7] at s7
        have l8 := haft _ rfl { on := 8, ground := .data } (by simp) rfl
        have p8 := hG.pv 8 (by decide) (live_end hsz rfl l8)
        have s8 : a.tmps[56]?.getD undef = vs 8 := hU.slot 8 (by decide) l8
        have hv8 : vs 8 = .int .i64 ((zc.heat.length : Int) + 1) := p8
        rw [hv8] at s8
        refine wpOp_value (v := .int .i64 (xu % ((zc.heat.length : Int) + 1))) (W' := W) rfl rfl ?_ (hF _ _ (Below.refl _ _) rfl (fun _ h => False.elim h))
        go_simp
      | 10, hoi, hom =>
        have l4 := haft _ rfl { on := 4, ground := .data } (by simp) rfl
        have p4 := hG.pv 4 (by decide) (live_end hsz rfl l4)
        have s4 : a.tmps[52]?.getD undef = vs 4 := hU.slot 4 (by decide) l4
        have hv4 : vs 4 = .int .i64 (xf % ((zc.heat.length : Int) + 1)) := p4
        rw [hv4] at s4
        refine wpOp_value (v := .int .i64 (xf % ((zc.heat.length : Int) + 1))) (W' := W) rfl rfl ?_ (hF _ _ (Below.refl _ _) rfl (fun _ h => False.elim h))
        go_simp
      | 11, hoi, hom =>
        have l9 := haft _ rfl { on := 9, ground := .data } (by simp) rfl
        have p9 := hG.pv 9 (by decide) (live_end hsz rfl l9)
        have s9 : a.tmps[57]?.getD undef = vs 9 := hU.slot 9 (by decide) l9
        have hv9 : vs 9 = .int .i64 (xu % ((zc.heat.length : Int) + 1)) := p9
        rw [hv9] at s9
        refine wpOp_value (v := .int .i64 (xu % ((zc.heat.length : Int) + 1))) (W' := W) rfl rfl ?_ (hF _ _ (Below.refl _ _) rfl (fun _ h => False.elim h))
        go_simp
      | oi + 12, hoi, hom => exact absurd (of_decide_eq_true hom) (by omega)
    case hend =>
      intro listed vs a W hG0 hG hpre
      have hb := ((Below.refl v3.heap.size v3).drew).trans hG0.below
      have hact := hG0.act
      have hT := hG0.lst hpre 0 #[true, true, true, true, true, true, true, true, true, true, true, true] rfl (by kernel_rfl) (hpre 0 (by decide) (by decide))
      rw [hG0.ix hT (l := [0, 1, 2, 3, 4, 5, 6, 7, 8, 9, 10, 11]) (by kernel_rfl)] at hact
      rw [hG0.lo hT (k := 0) (by kernel_rfl)]
      have p10 := hG.pv 10 (by decide) (live_end hG.size rfl (hpre 10 (by decide) (by decide)))
      have p11 := hG.pv 11 (by decide) (live_end hG.size rfl (hpre 11 (by decide) (by decide)))
      subst hT
      refine wpAny_done (by kernel_rfl) ?_ _
      exact ⟨rfl, vs, hact, hb, p10, p11⟩
  case imp =>
  rintro a9 w5 ⟨vs, rfl, hb5, hv10, hv11⟩
  simp only [setAll, List.setIfInBounds_toArray, List.set_cons_succ, List.set_cons_zero, List.getD_cons_succ, List.getD_cons_zero]
  rw [hv10, hv11]
  have HB := hide (HB.out.trans (hb5.mono HB.out.size))
  have HKZ := hide (HKZ.out.next hb5)
  have HX := hide (HX.out.next hb5)
  have HXB := hide (HXB.out.next hb5)
  clear hb5 hv10 hv11 yx2 yx3 zx hm1 hm2 hz1 hz2 hw1 hw2 hw3 hw4 hw5 z x0 x1 x2 x3 x4
  generalize xf % ((zc.heat.length : Int) + 1) = frm at *
  generalize xu % ((zc.heat.length : Int) + 1) = un at *
  have hun : 0 ≤ un ∧ un ≤ zc.heat.length := by omega
  have hfr : 0 ≤ frm ∧ frm ≤ zc.heat.length := by omega
  obtain ⟨q1, q2, q3, q4, q5⟩ := HPA.out frm un hfr hun
  have HPU := hide (fun (w : World) A1 A2 A3 A4 c1 c2 c3 c4 (h : CargoV w w.heap.size zc A1 A2 A3 A4 c1 c2 c3 c4) => putW2_any h lo hi frm un)
  have HQ1 := hide q1
  have HQ2 := hide q2
  have HQ3 := hide q3
  have HQ4 := hide q4
  have HQ5 := hide q5
  clear q1 q2 q3 q4 q5 HPA hp0 hp1 hp2 hp3 T hl0 hl1
  generalize (putR zc lo hi frm un).1 = pl at *
  generalize (putR zc lo hi frm un).2 = pe at *
  have yx0 : w5.cell? ⟨w.heap.size + 1, 0, none⟩ = some (.int .i64 lo) := HXB.out.at_ 0
  have yx1 : w5.cell? ⟨w.heap.size + 1, 1, none⟩ = some (.int .i64 hi) := HXB.out.at_ 1
  have zx : w.heap.size + 1 < w5.heap.size := HXB.out.lt
  obtain ⟨hv, z, x0, x1, x2, x3, x4⟩ := HKZ.out
  have HV := hide hv
  clear hv
  go_upto_region 8 with (go_at_call 28; refine (HPU.out _ _ _ _ _ _ _ _ _ HV.out).mono ?_; rintro e v6 ⟨R1, r1, rfl, hip, hb⟩)
  have HKZ := hide (HKZ.out.next hb)
  have HX := hide (HX.out.next hb)
  have HXB := hide (HXB.out.next hb)
  have HB := hide (HB.out.trans (hb.mono (by have := HB.out.size; exact this)))
  clear hb
  have HPL := hide hip
  clear hip
  clear z x0 x1 x2 x3 x4 HV
  clear yx0 yx1 zx HPU
  cases hpe : (pe != 0) with
  | true =>
    obtain ⟨e1, e2⟩ := HQ1.out (by simpa using hpe)
    subst e1
    clear hpe
    rcases e2 with rfl | rfl
    all_goals
      go_wp2_with (go_at_call 23; refine (awake_any _).mono ?_; rintro e v10 ⟨rfl, hb⟩)
      go_ret
      exact ⟨rfl, HB.out.trans (hb.mono HB.out.size)⟩
  | false =>
    obtain rfl : pe = 0 := by simpa using hpe
    clear hpe
    obtain ⟨g0, g1, g2, g3, g4⟩ := HQ2.out rfl
    have HRI := hide (HQ3.out rfl)
    have HHA := hide (HQ4.out rfl)
    have k1 : decide (un ≤ frm) = false := by simp; omega
    have k2 : decide (lo < 0) = false := by simp; omega
    have k3 : decide (hi < lo) = false := by simp; omega
    have k4 : decide (hi > 40) = false := by simp; omega
    have k5 : decide (40 < hi) = false := by simp; omega
    have hag := anyF_mem (s := ⟨lo, hi⟩) g2 xw
    have HAN := hide (fun w : World => anyOf_any (w := w) (s := ⟨lo, hi⟩) (n := xw) g1 g2 (by show hi ≤ 1000; omega) hxw.1 hxw.2)
    simp only at hag HAN
    clear HQ1 HQ2 HQ3 HQ4
    generalize anyF ⟨lo, hi⟩ xw = own at *
    obtain ⟨hv, z, x0, x1, x2, x3, x4⟩ := HKZ.out
    clear hv
    have yx0 : v6.cell? ⟨w.heap.size + 1, 0, none⟩ = some (.int .i64 lo) := HXB.out.at_ 0
    have yx1 : v6.cell? ⟨w.heap.size + 1, 1, none⟩ = some (.int .i64 hi) := HXB.out.at_ 1
    have yx4 : v6.cell? ⟨w.heap.size + 1, 4, none⟩ = some (.int .u8 xw) := HXB.out.at_ 4
    have zx : w.heap.size + 1 < v6.heap.size := HXB.out.lt
    go_wp2_with (first
      | (go_at_call 37; refine (rising_any HPL.out _).mono ?_; rintro e v7 ⟨rfl, rfl⟩; rw [HRI.out])
      | (go_at_call 41; refine (HAN.out _).mono ?_; rintro e v8 ⟨rfl, hb⟩))
    have HKZ := hide (HKZ.out.next hb)
    have HX := hide (HX.out.next hb)
    have HXB := hide (HXB.out.next hb)
    have HPL := hide (HPL.out.next hb)
    have HB := hide (HB.out.trans (hb.mono HB.out.size))
    clear hb yx0 yx1 yx4 zx x0 x1 x2 x3 x4 z k1 k2 k3 k4 k5 HAN
    have HGB := hide (greensX_bd HVZ.out l)
    go_loopw [15, 16, 17, 18, 19, 20, 21] (fun v15 _ _ _ _ _ _ wr => ∃ j : Nat, j ≤ zc.holds.length ∧ v15 = .int .i64 j ∧ Below v8.heap.size v8 wr) (fun v15 _ _ _ _ _ _ _ => zc.holds.length - (intOf v15).toNat)
    case atStart => exact ⟨0, Nat.zero_le _, rfl, Below.refl _ _⟩
    case round =>
      obtain ⟨j, hj, rfl, hB⟩ := hrel
      obtain ⟨wa, rfl⟩ : ∃ wa : World, wa = wr := ⟨_, rfl⟩
      have HBA := hide hB
      have HKA := hide (HKZ.out.next hB)
      have HXR := hide (HX.out.next hB)
      have HXC := hide (HXB.out.next hB)
      have HPR := hide (HPL.out.next hB)
      have hj0 : (0 : Int) ≤ (j : Int) := Int.natCast_nonneg _
      obtain ⟨hv, z, x0, x1, x2, x3, x4⟩ := HKA.out
      by_cases hlj : j < zc.holds.length
      · obtain ⟨bh, oh, rfl, zbh, hw0, hw1⟩ := hv.holds.spans hlj
        have hj1 : (j : Int) < (zc.holds.length : Int) := by omega
        have hwb := HVZ.out.warm j hlj
        have w01 := warmX_bd HVZ.out l hlj
        have s0 : 0 ≤ (nth zc.holds j).lo := hwb.1
        have s1 : (nth zc.holds j).lo ≤ (nth zc.holds j).hi := hwb.2.1
        have s2 : (nth zc.holds j).hi ≤ 1000 := by omega
        obtain ⟨t0, t1⟩ := HBD.out j
        have yx5 : wa.cell? ⟨w.heap.size + 1, 5, none⟩ = some (.slice Ax l.length cx) := HXC.out.at_ 5
        have zx : w.heap.size + 1 < wa.heap.size := HXC.out.lt
        clear hv hwb hB
        go_wp2_with fail
        refine wp_post0 (fun act0 a W => ∃ vs : Nat → Value, a = { tmps := setAll (fun oi => [128, 129, 130, 131, 132, 133, 134, 135, 136, 137, 138, 16, 0].getD oi 0) vs [0, 1, 2, 3, 4, 5, 6, 7, 8, 9, 10, 11] act0.tmps, defers := act0.defers } ∧ ∃ gb, vs 11 = .pointer (some ⟨gb, 0, none⟩) ∧ wa.heap.size ≤ gb ∧ Below wa.heap.size wa W ∧ Blk W gb 66 #[.int .i64 (warmX zc l j), .slice none 0 0]) ?reg ?imp
        case reg =>
          have hST : Stab wa.heap.size (fun oi v W => match oi with | 0 => v = .pointer (some ⟨v2.heap.size, 2, none⟩) | 1 => v = .slice (some ⟨bh, oh, none⟩) zc.holds.length c2 | 2 => v = .int .i64 j | 3 => v = .pointer (some ⟨bh, oh + j * 2, none⟩) | 4 => v = .agg #[.int .i64 (nth zc.holds j).lo, .int .i64 (nth zc.holds j).hi] | 5 => v = .pointer (some ⟨w.heap.size + 1, 5, none⟩) | 6 => v = .slice Ax l.length cx | 7 => v = .int .i64 j | 8 => v = .int .i64 (turnB l (j)) | 9 => v = .int .i64 (warmX zc l j) | 10 => v = .agg #[.int .i64 (warmX zc l j), .slice none 0 0] | 11 => ∃ gb, v = .pointer (some ⟨gb, 0, none⟩) ∧ wa.heap.size ≤ gb ∧ Blk W gb 66 #[.int .i64 0, .slice none 0 0] | _ => True) (fun oi v b => match oi with | 11 => ∃ o, v = .pointer (some ⟨b, o, none⟩) | _ => False) := by
            intro oi v W W' h hbs hz hk
            match oi, h, hk with
            | 0, h, hk => exact h
            | 1, h, hk => exact h
            | 2, h, hk => exact h
            | 3, h, hk => exact h
            | 4, h, hk => exact h
            | 5, h, hk => exact h
            | 6, h, hk => exact h
            | 7, h, hk => exact h
            | 8, h, hk => exact h
            | 9, h, hk => exact h
            | 10, h, hk => exact h
            | 11, h, hk => obtain ⟨gb, rfl, h2, h3⟩ := h; exact ⟨gb, rfl, h2, h3.block (hk gb h3.lt (.inr ⟨_, rfl⟩))⟩
            | oi + 12, h, hk => exact trivial
          refine wp_region_inv (dst := fun oi => [128, 129, 130, 131, 132, 133, 134, 135, 136, 137, 138, 16, 0].getD oi 0) (mono := fun oi => decide (oi < 12)) (pre := fun oi => decide (oi < 12)) (G := Loose 13 wa.heap.size (fun oi => match oi with  | _ => 13) (fun oi v W => match oi with | 0 => v = .pointer (some ⟨v2.heap.size, 2, none⟩) | 1 => v = .slice (some ⟨bh, oh, none⟩) zc.holds.length c2 | 2 => v = .int .i64 j | 3 => v = .pointer (some ⟨bh, oh + j * 2, none⟩) | 4 => v = .agg #[.int .i64 (nth zc.holds j).lo, .int .i64 (nth zc.holds j).hi] | 5 => v = .pointer (some ⟨w.heap.size + 1, 5, none⟩) | 6 => v = .slice Ax l.length cx | 7 => v = .int .i64 j | 8 => v = .int .i64 (turnB l (j)) | 9 => v = .int .i64 (warmX zc l j) | 10 => v = .agg #[.int .i64 (warmX zc l j), .slice none 0 0] | 11 => ∃ gb, v = .pointer (some ⟨gb, 0, none⟩) ∧ wa.heap.size ≤ gb ∧ Blk W gb 66 #[.int .i64 0, .slice none 0 0] | _ => True) (fun oi v b => match oi with | 11 => ∃ o, v = .pointer (some ⟨b, o, none⟩) | _ => False)) (by kernel_rfl) (by kernel_rfl) (Loose.start (Nat.le_refl _)) ?hstep ?hend
          case hstep =>
            intro oi hoi hom listed vs a W hU hsz hG hcl hl haft K hK
            have hb := ((Below.refl wa.heap.size wa).drew).trans hU.below
            have hF := Loose.stepF hU hG hST hoi hK
            match oi, hoi, hom with
            | 0, hoi, hom =>
              have z7 : a.tmps[7]?.getD undef = .pointer (some ⟨v2.heap.size, 0, none⟩) := hU.same 7 (by decide)
              refine wpOp_value (v := .pointer (some ⟨v2.heap.size, 2, none⟩)) (W' := W) rfl rfl ?_ (hF _ _ (Below.refl _ _) rfl (fun _ h => False.elim h))
              go_simp
            | 1, hoi, hom =>
              have l0 := haft _ rfl { on := 0, ground := .data } (by simp) rfl
              have p0 := hG.pv 0 (by decide) (live_end hsz rfl l0)
              have s0 : a.tmps[128]?.getD undef = vs 0 := hU.slot 0 (by decide) l0
              have hv0 : vs 0 = .pointer (some ⟨v2.heap.size, 2, none⟩) := p0
              rw [hv0] at s0
              have y0 := (hb.cell (p := ⟨v2.heap.size, 2, none⟩) (z)).trans (x2)
              refine wpOp_value (v := .slice (some ⟨bh, oh, none⟩) zc.holds.length c2) (W' := W) rfl rfl ?_ (hF _ _ (Below.refl _ _) rfl (fun _ h => False.elim h))
              go_simp
            | 2, hoi, hom =>
              have z15 : a.tmps[15]?.getD undef = .int .i64 j := hU.same 15 (by decide)
              refine wpOp_value (v := .int .i64 j) (W' := W) rfl rfl ?_ (hF _ _ (Below.refl _ _) rfl (fun _ h => False.elim h))
              go_simp
            | 3, hoi, hom =>
              have l1 := haft _ rfl { on := 1, ground := .data } (by simp) rfl
              have p1 := hG.pv 1 (by decide) (live_end hsz rfl l1)
              have s1 : a.tmps[129]?.getD undef = vs 1 := hU.slot 1 (by decide) l1
              have hv1 : vs 1 = .slice (some ⟨bh, oh, none⟩) zc.holds.length c2 := p1
              rw [hv1] at s1
              have l2 := haft _ rfl { on := 2, ground := .data } (by simp) rfl
              have p2 := hG.pv 2 (by decide) (live_end hsz rfl l2)
              have s2 : a.tmps[130]?.getD undef = vs 2 := hU.slot 2 (by decide) l2
              have hv2 : vs 2 = .int .i64 j := p2
              rw [hv2] at s2
              refine wpOp_value (v := .pointer (some ⟨bh, oh + j * 2, none⟩)) (W' := W) rfl rfl ?_ (hF _ _ (Below.refl _ _) rfl (fun _ h => False.elim h))
              go_simp
            | 4, hoi, hom =>
              have l3 := haft _ rfl { on := 3, ground := .data } (by simp) rfl
              have p3 := hG.pv 3 (by decide) (live_end hsz rfl l3)
              have s3 : a.tmps[131]?.getD undef = vs 3 := hU.slot 3 (by decide) l3
              have hv3 : vs 3 = .pointer (some ⟨bh, oh + j * 2, none⟩) := p3
              rw [hv3] at s3
              have y0 := (hb.cell (p := ⟨bh, oh + j * 2, none⟩) (zbh)).trans (hw0)
              have y1 := (hb.cell (p := ⟨bh, oh + j * 2 + 1, none⟩) (zbh)).trans (hw1)
              refine wpOp_value (v := .agg #[.int .i64 (nth zc.holds j).lo, .int .i64 (nth zc.holds j).hi]) (W' := W) rfl rfl ?_ (hF _ _ (Below.refl _ _) rfl (fun _ h => False.elim h))
              go_simp
            | 5, hoi, hom =>
              have z3 : a.tmps[3]?.getD undef = .pointer (some ⟨w.heap.size + 1, 0, none⟩) := hU.same 3 (by decide)
              refine wpOp_value (v := .pointer (some ⟨w.heap.size + 1, 5, none⟩)) (W' := W) rfl rfl ?_ (hF _ _ (Below.refl _ _) rfl (fun _ h => False.elim h))
              go_simp
            | 6, hoi, hom =>
              have l5 := haft _ rfl { on := 5, ground := .data } (by simp) rfl
              have p5 := hG.pv 5 (by decide) (live_end hsz rfl l5)
              have s5 : a.tmps[133]?.getD undef = vs 5 := hU.slot 5 (by decide) l5
              have hv5 : vs 5 = .pointer (some ⟨w.heap.size + 1, 5, none⟩) := p5
              rw [hv5] at s5
              have y0 := (hb.cell (p := ⟨w.heap.size + 1, 5, none⟩) (zx)).trans (yx5)
              refine wpOp_value (v := .slice Ax l.length cx) (W' := W) rfl rfl ?_ (hF _ _ (Below.refl _ _) rfl (fun _ h => False.elim h))
              go_simp
            | 7, hoi, hom =>
              have z15 : a.tmps[15]?.getD undef = .int .i64 j := hU.same 15 (by decide)
              refine wpOp_value (v := .int .i64 j) (W' := W) rfl rfl ?_ (hF _ _ (Below.refl _ _) rfl (fun _ h => False.elim h))
              go_simp
            | 8, hoi, hom =>
              have l6 := haft _ rfl { on := 6, ground := .data } (by simp) rfl
              have p6 := hG.pv 6 (by decide) (live_end hsz rfl l6)
              have s6 : a.tmps[134]?.getD undef = vs 6 := hU.slot 6 (by decide) l6
              have hv6 : vs 6 = .slice Ax l.length cx := p6
              rw [hv6] at s6
              have l7 := haft _ rfl { on := 7, ground := .data } (by simp) rfl
              have p7 := hG.pv 7 (by decide) (live_end hsz rfl l7)
              have s7 : a.tmps[135]?.getD undef = vs 7 := hU.slot 7 (by decide) l7
              have hv7 : vs 7 = .int .i64 j := p7
              rw [hv7] at s7
              refine wpOp_enter (f := 42) (args := #[.slice Ax l.length cx, .int .i64 ((j : Nat) : Int)]) (W' := W) rfl rfl ?_ ((turns_l_any (HXR.out.next hb) (j) (by omega)).mono (fun e w'' h => ?_))
              · go_simp
              · obtain ⟨he, hbw⟩ := h
                exact ⟨_, he, hF _ _ (by rw [← hbw]; exact Below.refl _ _) rfl (fun _ h => False.elim h)⟩
            | 9, hoi, hom =>
              have l4 := haft _ rfl { on := 4, ground := .data } (by simp) rfl
              have p4 := hG.pv 4 (by decide) (live_end hsz rfl l4)
              have s4 : a.tmps[132]?.getD undef = vs 4 := hU.slot 4 (by decide) l4
              have hv4 : vs 4 = .agg #[.int .i64 (nth zc.holds j).lo, .int .i64 (nth zc.holds j).hi] := p4
              rw [hv4] at s4
              have l8 := haft _ rfl { on := 8, ground := .data } (by simp) rfl
              have p8 := hG.pv 8 (by decide) (live_end hsz rfl l8)
              have s8 : a.tmps[136]?.getD undef = vs 8 := hU.slot 8 (by decide) l8
              have hv8 : vs 8 = .int .i64 (turnB l (j)) := p8
              rw [hv8] at s8
              refine wpOp_enter (f := 41) (args := #[.agg #[.int .i64 (nth zc.holds j).lo, .int .i64 (nth zc.holds j).hi], .int .i64 (turnB l (j))]) (W' := W) rfl rfl ?_ ((anyOf_any (s := nth zc.holds j) s0 s1 s2 t0 t1).mono (fun e w'' h => ?_))
              · go_simp
              · obtain ⟨he, hbw⟩ := h
                exact ⟨_, he, hF _ _ hbw rfl (fun _ h => False.elim h)⟩
            | 10, hoi, hom =>
              have l9 := haft _ rfl { on := 9, ground := .data } (by simp) rfl
              have p9 := hG.pv 9 (by decide) (live_end hsz rfl l9)
              have s9 : a.tmps[137]?.getD undef = vs 9 := hU.slot 9 (by decide) l9
              have hv9 : vs 9 = .int .i64 (warmX zc l j) := p9
              rw [hv9] at s9
              refine wpOp_value (v := .agg #[.int .i64 (warmX zc l j), .slice none 0 0]) (W' := W) rfl rfl ?_ (hF _ _ (Below.refl _ _) rfl (fun _ h => False.elim h))
              go_simp
            | 11, hoi, hom =>
              refine wpOp_value (v := .pointer (some ⟨W.heap.size, 0, none⟩)) (W' := (W.alloc (.cells #[.int .i64 0, .slice none 0 0] 66))) rfl rfl ?_ (hF _ _ ((Below.refl _ _).alloc (Nat.le_refl _) _) ⟨_, rfl, hG.base, Blk.made⟩ (fun b ⟨o, h⟩ => by cases h; exact ⟨by simp, .inl (Nat.le_refl _)⟩))
              go_simp
            | oi + 12, hoi, hom => exact absurd (of_decide_eq_true hom) (by omega)
          case hend =>
            intro listed vs a W hG0 hG hpre
            have hb := ((Below.refl wa.heap.size wa).drew).trans hG0.below
            have hact := hG0.act
            have hT := hG0.lst hpre 0 #[true, true, true, true, true, true, true, true, true, true, true, true, false] rfl (by kernel_rfl) (hpre 0 (by decide) (by decide))
            rw [hG0.ix hT (l := [0, 1, 2, 3, 4, 5, 6, 7, 8, 9, 10, 11]) (by kernel_rfl)] at hact
            rw [hG0.lo hT (k := 1) (by kernel_rfl)]
            have p10 := hG.pv 10 (by decide) (live_end hG.size rfl (hpre 10 (by decide) (by decide)))
            have p11 := hG.pv 11 (by decide) (live_end hG.size rfl (hpre 11 (by decide) (by decide)))
            clear hpre hG hST
            obtain rfl : a = _ := hact
            subst hT
            obtain ⟨gb, hv11, hz11, hi11⟩ := p11
            have hv10 : vs 10 = .agg #[.int .i64 (warmX zc l j), .slice none 0 0] := p10
            have y0 : W.cell? ⟨gb, 0, none⟩ = some (.int .i64 0) := hi11.at_ 0
            have y1 : W.cell? ⟨gb, 1, none⟩ = some (.slice none 0 0) := hi11.at_ 1
            have f0 := hi11.free 0
            have f1 := hi11.free 1
            simp only [setAll, List.setIfInBounds_toArray, List.set_cons_succ, List.set_cons_zero, List.getD_cons_succ, List.getD_cons_zero]
            refine wpAny_all (rs := [12]) (by kernel_rfl) (by simp) ?_
            intro i2 hi2
            obtain rfl : i2 = 12 := by simpa using hi2
            refine wpOp_skip (W' := (W.setCell ⟨gb, 0, none⟩ (.int .i64 (warmX zc l j))).setCell ⟨gb, 1, none⟩ (.slice none 0 0)) rfl rfl ?_ ?_
            · rw [hv11, hv10]; go_simp
            refine wpAny_done (by kernel_rfl) ?_ _
            exact ⟨rfl, vs, rfl, gb, hv11, hz11, (hb.setCell (p := ⟨gb, 0, none⟩) hz11 _).setCell (p := ⟨gb, 1, none⟩) hz11 _, (hi11.store 0 _).store 1 _⟩
        case imp =>
        rintro a9 w2 ⟨vs, rfl, gb, hv11, hgb, hb5, hblk⟩
        simp only [setAll, List.setIfInBounds_toArray, List.set_cons_succ, List.set_cons_zero, List.getD_cons_succ, List.getD_cons_zero]
        rw [hv11]
        have HBK := hide hblk
        have HB5 := hide hb5
        clear z x0 x1 x2 x3 x4 hw0 hw1 zbh s0 s1 s2 t0 t1 hv11 hb5 hblk yx5 zx
        go_wp2_with fail
        go_loopw [17] (fun v17 wr => ∃ (i : Nat) (AG : Option Addr) (cG : Nat), i ≤ zc.lots.length ∧ v17 = .int .i64 i ∧ Below wa.heap.size wa wr ∧ Blk wr gb 66 #[.int .i64 (warmX zc l j), .slice AG i cG] ∧ IntsS wr wr.heap.size AG i cG (greensX zc l i)) (fun v17 _ => zc.lots.length - (intOf v17).toNat)
        case atStart => exact ⟨0, none, 0, Nat.zero_le _, rfl, HB5.out, HBK.out, IntsS.nil_⟩
        case round =>
          obtain ⟨i, AG, cG, hi', rfl, hB, hblk, hG⟩ := hrel
          obtain ⟨wb, rfl⟩ : ∃ wb : World, wb = wr := ⟨_, rfl⟩
          have HBB := hide hB
          have HBL := hide hblk
          have HG := hide hG
          have HKB := hide (HKA.out.next hB)
          have HXR := hide (HXR.out.next hB)
          have HXD := hide (HXC.out.next hB)
          have yg0 : wb.cell? ⟨gb, 0, none⟩ = some (.int .i64 (warmX zc l j)) := hblk.at_ 0
          have yg1 : wb.cell? ⟨gb, 1, none⟩ = some (.slice AG i cG) := hblk.at_ 1
          have fg1 := hblk.free 1
          have zg := hblk.lt
          obtain ⟨hv, z, x0, x1, x2, x3, x4⟩ := HKB.out
          have hi0' : (0 : Int) ≤ (i : Int) := Int.natCast_nonneg _
          by_cases hli : i < zc.lots.length
          · obtain ⟨b3, o3, rfl, zb3, l0, l1, l2, l3⟩ := hv.lots.lots hli
            have hi1' : (i : Int) < (zc.lots.length : Int) := by omega
            have hlb := HVZ.out.lot i hli
            have s0 : 0 ≤ (nth zc.lots i).green.lo := by omega
            have s1 : (nth zc.lots i).green.lo ≤ (nth zc.lots i).green.hi := by omega
            have s2 : (nth zc.lots i).green.hi ≤ 1000 := by omega
            obtain ⟨t0, t1⟩ := HBD.out (3 + i)
            have HGL := hide (greensX_length zc l i)
            have HGS := hide (greensX_succ zc l i)
            have hw3i : IntKind.i64.wrap (3 + (i : Int)) = 3 + (i : Int) := IntWalk.i64_in _ (by omega)
            have yx5 : wb.cell? ⟨w.heap.size + 1, 5, none⟩ = some (.slice Ax l.length cx) := HXD.out.at_ 5
            have zx : w.heap.size + 1 < wb.heap.size := HXD.out.lt
            clear hv hlb l0 l1 hB hblk hG
            go_wp2_with fail
            refine wp_post0 (fun act0 a W => ∃ vs : Nat → Value, a = { tmps := setAll (fun oi => [146, 147, 148, 149, 150, 151, 152, 153, 154, 155, 156, 157, 158, 159, 160, 161, 162, 163, 164, 0].getD oi 0) vs [0, 1, 2, 3, 4, 5, 6, 7, 8, 9, 10, 11, 12, 13, 14, 15, 16, 17, 18] act0.tmps, defers := act0.defers } ∧ ∃ (W1 : World) (A : Option Addr) (cp : Nat), W = W1.setCell ⟨gb, 1, none⟩ (.slice A (i + 1) cp) ∧ Below wb.heap.size wb W1 ∧ W1.ownsRow wb.heap.size 3 1 (.slice A (i + 1) cp) (i + 1) ((greensX zc l i ++ [greenX zc l i]).map (Value.int .i64))) ?reg ?imp
            case reg =>
              have hST : Stab wb.heap.size (fun oi v W => match oi with | 0 => ∃ A cp, v = .slice A 0 cp ∧ W.ownsRow wb.heap.size 3 1 (.slice A 0 cp) 0 ([]) | 1 => v = .pointer (some ⟨gb, 1, none⟩) | 2 => v = .slice AG i cG | 3 => ∃ A cp, v = .slice A i cp ∧ W.ownsRow wb.heap.size 3 1 (.slice A i cp) i ((greensX zc l i).map (Value.int .i64)) | 4 => v = .pointer (some ⟨v2.heap.size, 3, none⟩) | 5 => v = .slice (some ⟨b3, o3, none⟩) zc.lots.length c3 | 6 => v = .int .i64 i | 7 => v = .pointer (some ⟨b3, o3 + i * 4, none⟩) | 8 => v = .pointer (some ⟨b3, o3 + i * 4 + 2, none⟩) | 9 => v = .agg #[.int .i64 (nth zc.lots i).green.lo, .int .i64 (nth zc.lots i).green.hi] | 10 => v = .pointer (some ⟨w.heap.size + 1, 5, none⟩) | 11 => v = .slice Ax l.length cx | 12 => v = .int .i64 i | 13 => v = .int .i64 ((3 + i : Nat) : Int) | 14 => v = .int .i64 (turnB l (3 + i)) | 15 => v = .int .i64 (greenX zc l i) | 16 => ∃ A cp, v = .slice A 1 cp ∧ W.ownsRow wb.heap.size 3 1 (.slice A 1 cp) 1 ([.int .i64 (greenX zc l i)]) | 17 => ∃ A cp, v = .slice A (i + 1) cp ∧ W.ownsRow wb.heap.size 3 1 (.slice A (i + 1) cp) (i + 1) ((greensX zc l i ++ [greenX zc l i]).map (Value.int .i64)) | _ => True) (fun oi v b => match oi with | 0 => v.ownBlock = some b | 3 => v.ownBlock = some b | 16 => v.ownBlock = some b | 17 => v.ownBlock = some b | _ => False) := by
                intro oi v W W' h hbs hz hk
                match oi, h, hk with
                | 0, h, hk => obtain ⟨A, cp, rfl, h2⟩ := h; exact ⟨A, cp, rfl, own_stab h2 (fun b hb e => hk b hb (.inr e))⟩
                | 1, h, hk => exact h
                | 2, h, hk => exact h
                | 3, h, hk => obtain ⟨A, cp, rfl, h2⟩ := h; exact ⟨A, cp, rfl, own_stab h2 (fun b hb e => hk b hb (.inr e))⟩
                | 4, h, hk => exact h
                | 5, h, hk => exact h
                | 6, h, hk => exact h
                | 7, h, hk => exact h
                | 8, h, hk => exact h
                | 9, h, hk => exact h
                | 10, h, hk => exact h
                | 11, h, hk => exact h
                | 12, h, hk => exact h
                | 13, h, hk => exact h
                | 14, h, hk => exact h
                | 15, h, hk => exact h
                | 16, h, hk => obtain ⟨A, cp, rfl, h2⟩ := h; exact ⟨A, cp, rfl, own_stab h2 (fun b hb e => hk b hb (.inr e))⟩
                | 17, h, hk => obtain ⟨A, cp, rfl, h2⟩ := h; exact ⟨A, cp, rfl, own_stab h2 (fun b hb e => hk b hb (.inr e))⟩
                | oi + 18, h, hk => exact trivial
              refine wp_region_inv (dst := fun oi => [146, 147, 148, 149, 150, 151, 152, 153, 154, 155, 156, 157, 158, 159, 160, 161, 162, 163, 164, 0].getD oi 0) (mono := fun oi => decide (oi < 18)) (pre := fun oi => decide (oi < 18)) (G := Loose 20 wb.heap.size (fun oi => match oi with | 0 => 3 | 3 => 17 | _ => 20) (fun oi v W => match oi with | 0 => ∃ A cp, v = .slice A 0 cp ∧ W.ownsRow wb.heap.size 3 1 (.slice A 0 cp) 0 ([]) | 1 => v = .pointer (some ⟨gb, 1, none⟩) | 2 => v = .slice AG i cG | 3 => ∃ A cp, v = .slice A i cp ∧ W.ownsRow wb.heap.size 3 1 (.slice A i cp) i ((greensX zc l i).map (Value.int .i64)) | 4 => v = .pointer (some ⟨v2.heap.size, 3, none⟩) | 5 => v = .slice (some ⟨b3, o3, none⟩) zc.lots.length c3 | 6 => v = .int .i64 i | 7 => v = .pointer (some ⟨b3, o3 + i * 4, none⟩) | 8 => v = .pointer (some ⟨b3, o3 + i * 4 + 2, none⟩) | 9 => v = .agg #[.int .i64 (nth zc.lots i).green.lo, .int .i64 (nth zc.lots i).green.hi] | 10 => v = .pointer (some ⟨w.heap.size + 1, 5, none⟩) | 11 => v = .slice Ax l.length cx | 12 => v = .int .i64 i | 13 => v = .int .i64 ((3 + i : Nat) : Int) | 14 => v = .int .i64 (turnB l (3 + i)) | 15 => v = .int .i64 (greenX zc l i) | 16 => ∃ A cp, v = .slice A 1 cp ∧ W.ownsRow wb.heap.size 3 1 (.slice A 1 cp) 1 ([.int .i64 (greenX zc l i)]) | 17 => ∃ A cp, v = .slice A (i + 1) cp ∧ W.ownsRow wb.heap.size 3 1 (.slice A (i + 1) cp) (i + 1) ((greensX zc l i ++ [greenX zc l i]).map (Value.int .i64)) | _ => True) (fun oi v b => match oi with | 0 => v.ownBlock = some b | 3 => v.ownBlock = some b | 16 => v.ownBlock = some b | 17 => v.ownBlock = some b | _ => False)) (by kernel_rfl) (by kernel_rfl) (Loose.start (Nat.le_refl _)) ?hstep ?hend
              case hstep =>
                intro oi hoi hom listed vs a W hU hsz hG hcl hl haft K hK
                have hb := ((Below.refl wb.heap.size wb).drew).trans hU.below
                have hF := Loose.stepF hU hG hST hoi hK
                match oi, hoi, hom with
                | 0, hoi, hom =>
                  refine wpOp_value (v := .slice (some ⟨W.heap.size, 0, none⟩) 0 0) (W' := (W.alloc (.cells #[] 3))) rfl rfl ?_ (hF _ _ ((Below.refl _ _).alloc (Nat.le_refl _) _) (own_lit hG.base #[] 0 rfl (by simp [maxLen])) (fun b h => by rw [← own_new h]; exact ⟨by simp, .inl (Nat.le_refl _)⟩))
                  go_simp
                | 1, hoi, hom =>
                  have z16 : a.tmps[16]?.getD undef = .pointer (some ⟨gb, 0, none⟩) := hU.same 16 (by decide)
                  refine wpOp_value (v := .pointer (some ⟨gb, 1, none⟩)) (W' := W) rfl rfl ?_ (hF _ _ (Below.refl _ _) rfl (fun _ h => False.elim h))
                  go_simp
                | 2, hoi, hom =>
                  have l1 := haft _ rfl { on := 1, ground := .data } (by simp) rfl
                  have p1 := hG.pv 1 (by decide) (live_end hsz rfl l1)
                  have s1 : a.tmps[147]?.getD undef = vs 1 := hU.slot 1 (by decide) l1
                  have hv1 : vs 1 = .pointer (some ⟨gb, 1, none⟩) := p1
                  rw [hv1] at s1
                  have y0 := (hb.cell (p := ⟨gb, 1, none⟩) (zg)).trans (yg1)
                  refine wpOp_value (v := .slice AG i cG) (W' := W) rfl rfl ?_ (hF _ _ (Below.refl _ _) rfl (fun _ h => False.elim h))
                  go_simp
                | 3, hoi, hom =>
                  have l0 := haft _ rfl { on := 0, ground := .data } (by simp) rfl
                  have p0 := hG.pv 0 (by decide) (⟨l0, hl⟩)
                  have s0 : a.tmps[146]?.getD undef = vs 0 := hU.slot 0 (by decide) l0
                  obtain ⟨PA0, kp0, hv0, hi0⟩ := p0
                  rw [hv0] at s0
                  have l2 := haft _ rfl { on := 2, ground := .data } (by simp) rfl
                  have p2 := hG.pv 2 (by decide) (live_end hsz rfl l2)
                  have s2 : a.tmps[148]?.getD undef = vs 2 := hU.slot 2 (by decide) l2
                  have hv2 : vs 2 = .slice AG i cG := p2
                  rw [hv2] at s2
                  have hA := Loose.stepA (p := 0) hU hG rfl hST hoi hK (by decide) (by decide) rfl ⟨l0, hl⟩ (fun b h => h) (by rw [hv0]; exact hi0)
                  obtain ⟨v', W', hrun, hown', hg, hblk⟩ := run_app_row (P := Try.prog) W wb.heap.size 22 22 3 i0 (.int .i64 0) 1 8 Try.underlying22 hI0 hz00 hz01 hz02 rfl (by decide) hi0 (HG.out.row1.below hb) (fun _ _ => rfl) (by simp only [maxLen]; omega) (by omega) hG.base
                  rw [Nat.zero_add, List.nil_append, ints_vals2 HGL.out] at hown'
                  exact wpOp_append (s := 146) (x := 148) (v' := v') (W' := W') rfl rfl rfl s0 s2 hrun (hA _ _ _ _ (by rw [hv0]; exact hg) hown' (by rw [hv0]; exact hblk) (own_ex hown') (fun b h => h))
                | 4, hoi, hom =>
                  have z7 : a.tmps[7]?.getD undef = .pointer (some ⟨v2.heap.size, 0, none⟩) := hU.same 7 (by decide)
                  refine wpOp_value (v := .pointer (some ⟨v2.heap.size, 3, none⟩)) (W' := W) rfl rfl ?_ (hF _ _ (Below.refl _ _) rfl (fun _ h => False.elim h))
                  go_simp
                | 5, hoi, hom =>
                  have l4 := haft _ rfl { on := 4, ground := .data } (by simp) rfl
                  have p4 := hG.pv 4 (by decide) (live_end hsz rfl l4)
                  have s4 : a.tmps[150]?.getD undef = vs 4 := hU.slot 4 (by decide) l4
                  have hv4 : vs 4 = .pointer (some ⟨v2.heap.size, 3, none⟩) := p4
                  rw [hv4] at s4
                  have y0 := (hb.cell (p := ⟨v2.heap.size, 3, none⟩) (z)).trans (x3)
                  refine wpOp_value (v := .slice (some ⟨b3, o3, none⟩) zc.lots.length c3) (W' := W) rfl rfl ?_ (hF _ _ (Below.refl _ _) rfl (fun _ h => False.elim h))
                  go_simp
                | 6, hoi, hom =>
                  have z17 : a.tmps[17]?.getD undef = .int .i64 i := hU.same 17 (by decide)
                  refine wpOp_value (v := .int .i64 i) (W' := W) rfl rfl ?_ (hF _ _ (Below.refl _ _) rfl (fun _ h => False.elim h))
                  go_simp
                | 7, hoi, hom =>
                  have l5 := haft _ rfl { on := 5, ground := .data } (by simp) rfl
                  have p5 := hG.pv 5 (by decide) (live_end hsz rfl l5)
                  have s5 : a.tmps[151]?.getD undef = vs 5 := hU.slot 5 (by decide) l5
                  have hv5 : vs 5 = .slice (some ⟨b3, o3, none⟩) zc.lots.length c3 := p5
                  rw [hv5] at s5
                  have l6 := haft _ rfl { on := 6, ground := .data } (by simp) rfl
                  have p6 := hG.pv 6 (by decide) (live_end hsz rfl l6)
                  have s6 : a.tmps[152]?.getD undef = vs 6 := hU.slot 6 (by decide) l6
                  have hv6 : vs 6 = .int .i64 i := p6
                  rw [hv6] at s6
                  refine wpOp_value (v := .pointer (some ⟨b3, o3 + i * 4, none⟩)) (W' := W) rfl rfl ?_ (hF _ _ (Below.refl _ _) rfl (fun _ h => False.elim h))
                  go_simp
                | 8, hoi, hom =>
                  have l7 := haft _ rfl { on := 7, ground := .data } (by simp) rfl
                  have p7 := hG.pv 7 (by decide) (live_end hsz rfl l7)
                  have s7 : a.tmps[153]?.getD undef = vs 7 := hU.slot 7 (by decide) l7
                  have hv7 : vs 7 = .pointer (some ⟨b3, o3 + i * 4, none⟩) := p7
                  rw [hv7] at s7
                  refine wpOp_value (v := .pointer (some ⟨b3, o3 + i * 4 + 2, none⟩)) (W' := W) rfl rfl ?_ (hF _ _ (Below.refl _ _) rfl (fun _ h => False.elim h))
                  go_simp
                | 9, hoi, hom =>
                  have l8 := haft _ rfl { on := 8, ground := .data } (by simp) rfl
                  have p8 := hG.pv 8 (by decide) (live_end hsz rfl l8)
                  have s8 : a.tmps[154]?.getD undef = vs 8 := hU.slot 8 (by decide) l8
                  have hv8 : vs 8 = .pointer (some ⟨b3, o3 + i * 4 + 2, none⟩) := p8
                  rw [hv8] at s8
                  have y0 := (hb.cell (p := ⟨b3, o3 + i * 4 + 2, none⟩) (zb3)).trans (l2)
                  have y1 := (hb.cell (p := ⟨b3, o3 + i * 4 + 3, none⟩) (zb3)).trans (l3)
                  refine wpOp_value (v := .agg #[.int .i64 (nth zc.lots i).green.lo, .int .i64 (nth zc.lots i).green.hi]) (W' := W) rfl rfl ?_ (hF _ _ (Below.refl _ _) rfl (fun _ h => False.elim h))
                  go_simp
                | 10, hoi, hom =>
                  have z3 : a.tmps[3]?.getD undef = .pointer (some ⟨w.heap.size + 1, 0, none⟩) := hU.same 3 (by decide)
                  refine wpOp_value (v := .pointer (some ⟨w.heap.size + 1, 5, none⟩)) (W' := W) rfl rfl ?_ (hF _ _ (Below.refl _ _) rfl (fun _ h => False.elim h))
                  go_simp
                | 11, hoi, hom =>
                  have l10 := haft _ rfl { on := 10, ground := .data } (by simp) rfl
                  have p10 := hG.pv 10 (by decide) (live_end hsz rfl l10)
                  have s10 : a.tmps[156]?.getD undef = vs 10 := hU.slot 10 (by decide) l10
                  have hv10 : vs 10 = .pointer (some ⟨w.heap.size + 1, 5, none⟩) := p10
                  rw [hv10] at s10
                  have y0 := (hb.cell (p := ⟨w.heap.size + 1, 5, none⟩) (zx)).trans (yx5)
                  refine wpOp_value (v := .slice Ax l.length cx) (W' := W) rfl rfl ?_ (hF _ _ (Below.refl _ _) rfl (fun _ h => False.elim h))
                  go_simp
                | 12, hoi, hom =>
                  have z17 : a.tmps[17]?.getD undef = .int .i64 i := hU.same 17 (by decide)
                  refine wpOp_value (v := .int .i64 i) (W' := W) rfl rfl ?_ (hF _ _ (Below.refl _ _) rfl (fun _ h => False.elim h))
                  go_simp
                | 13, hoi, hom =>
                  have l12 := haft _ rfl { on := 12, ground := .data } (by simp) rfl
                  have p12 := hG.pv 12 (by decide) (live_end hsz rfl l12)
                  have s12 : a.tmps[158]?.getD undef = vs 12 := hU.slot 12 (by decide) l12
                  have hv12 : vs 12 = .int .i64 i := p12
                  rw [hv12] at s12
                  refine wpOp_value (v := .int .i64 ((3 + i : Nat) : Int)) (W' := W) rfl rfl ?_ (hF _ _ (Below.refl _ _) rfl (fun _ h => False.elim h))
                  go_simp
                | 14, hoi, hom =>
                  have l11 := haft _ rfl { on := 11, ground := .data } (by simp) rfl
                  have p11 := hG.pv 11 (by decide) (live_end hsz rfl l11)
                  have s11 : a.tmps[157]?.getD undef = vs 11 := hU.slot 11 (by decide) l11
                  have hv11 : vs 11 = .slice Ax l.length cx := p11
                  rw [hv11] at s11
                  have l13 := haft _ rfl { on := 13, ground := .data } (by simp) rfl
                  have p13 := hG.pv 13 (by decide) (live_end hsz rfl l13)
                  have s13 : a.tmps[159]?.getD undef = vs 13 := hU.slot 13 (by decide) l13
                  have hv13 : vs 13 = .int .i64 ((3 + i : Nat) : Int) := p13
                  rw [hv13] at s13
                  refine wpOp_enter (f := 42) (args := #[.slice Ax l.length cx, .int .i64 ((3 + i : Nat) : Int)]) (W' := W) rfl rfl ?_ ((turns_l_any (HXR.out.next hb) (3 + i) (by omega)).mono (fun e w'' h => ?_))
                  · go_simp
                  · obtain ⟨he, hbw⟩ := h
                    exact ⟨_, he, hF _ _ (by rw [← hbw]; exact Below.refl _ _) rfl (fun _ h => False.elim h)⟩
                | 15, hoi, hom =>
                  have l9 := haft _ rfl { on := 9, ground := .data } (by simp) rfl
                  have p9 := hG.pv 9 (by decide) (live_end hsz rfl l9)
                  have s9 : a.tmps[155]?.getD undef = vs 9 := hU.slot 9 (by decide) l9
                  have hv9 : vs 9 = .agg #[.int .i64 (nth zc.lots i).green.lo, .int .i64 (nth zc.lots i).green.hi] := p9
                  rw [hv9] at s9
                  have l14 := haft _ rfl { on := 14, ground := .data } (by simp) rfl
                  have p14 := hG.pv 14 (by decide) (live_end hsz rfl l14)
                  have s14 : a.tmps[160]?.getD undef = vs 14 := hU.slot 14 (by decide) l14
                  have hv14 : vs 14 = .int .i64 (turnB l (3 + i)) := p14
                  rw [hv14] at s14
                  refine wpOp_enter (f := 41) (args := #[.agg #[.int .i64 ((nth zc.lots i).green).lo, .int .i64 ((nth zc.lots i).green).hi], .int .i64 (turnB l (3 + i))]) (W' := W) rfl rfl ?_ ((anyOf_any (s := (nth zc.lots i).green) s0 s1 s2 t0 t1).mono (fun e w'' h => ?_))
                  · go_simp
                  · obtain ⟨he, hbw⟩ := h
                    exact ⟨_, he, hF _ _ hbw rfl (fun _ h => False.elim h)⟩
                | 16, hoi, hom =>
                  have l15 := haft _ rfl { on := 15, ground := .data } (by simp) rfl
                  have p15 := hG.pv 15 (by decide) (live_end hsz rfl l15)
                  have s15 : a.tmps[161]?.getD undef = vs 15 := hU.slot 15 (by decide) l15
                  have hv15 : vs 15 = .int .i64 (greenX zc l i) := p15
                  rw [hv15] at s15
                  refine wpOp_value (v := .slice (some ⟨W.heap.size, 0, none⟩) 1 1) (W' := (W.alloc (.cells #[.int .i64 (greenX zc l i)] 3))) rfl rfl ?_ (hF _ _ ((Below.refl _ _).alloc (Nat.le_refl _) _) (own_lit hG.base #[.int .i64 (greenX zc l i)] 1 rfl (by simp [maxLen])) (fun b h => by rw [← own_new h]; exact ⟨by simp, .inl (Nat.le_refl _)⟩))
                  go_simp
                | 17, hoi, hom =>
                  have l3 := haft _ rfl { on := 3, ground := .data } (by simp) rfl
                  have p3 := hG.pv 3 (by decide) (⟨l3, hl⟩)
                  have s3 : a.tmps[149]?.getD undef = vs 3 := hU.slot 3 (by decide) l3
                  obtain ⟨PA3, kp3, hv3, hi3⟩ := p3
                  rw [hv3] at s3
                  have l16 := haft _ rfl { on := 16, ground := .data } (by simp) rfl
                  have p16 := hG.pv 16 (by decide) (live_end hsz rfl l16)
                  have s16 : a.tmps[162]?.getD undef = vs 16 := hU.slot 16 (by decide) l16
                  obtain ⟨PA16, kp16, hv16, hi16⟩ := p16
                  rw [hv16] at s16
                  obtain ⟨_, _, e16, _, _, hr16⟩ := row_own hi16
                  obtain ⟨rfl, rfl⟩ : _ = PA16 ∧ _ = kp16 := by simp only [Value.slice.injEq, true_and] at e16; exact ⟨e16.1.symm, e16.2.symm⟩
                  have hA := Loose.stepA (p := 3) hU hG rfl hST hoi hK (by decide) (by decide) rfl ⟨l3, hl⟩ (fun b h => h) (by rw [hv3]; exact hi3)
                  obtain ⟨v', W', hrun, hown', hg, hblk⟩ := run_app_row (P := Try.prog) W wb.heap.size 22 22 3 i0 (.int .i64 0) 1 8 Try.underlying22 hI0 hz00 hz01 hz02 rfl (by decide) hi3 hr16 (one1 _) (by simp only [maxLen]; omega) (by omega) hG.base
                  rw [ints_snoc] at hown'
                  exact wpOp_append (s := 149) (x := 162) (v' := v') (W' := W') rfl rfl rfl s3 s16 hrun (hA _ _ _ _ (by rw [hv3]; exact hg) hown' (by rw [hv3]; exact hblk) (own_ex hown') (fun b h => h))
                | oi + 18, hoi, hom => exact absurd (of_decide_eq_true hom) (by omega)
              case hend =>
                intro listed vs a W hG0 hG hpre
                have hb := ((Below.refl wb.heap.size wb).drew).trans hG0.below
                have hact := hG0.act
                have hT := hG0.lst hpre 0 #[true, true, true, true, true, true, true, true, true, true, true, true, true, true, true, true, true, true, false, false] rfl (by kernel_rfl) (hpre 0 (by decide) (by decide))
                rw [hG0.ix hT (l := [0, 1, 2, 3, 4, 5, 6, 7, 8, 9, 10, 11, 12, 13, 14, 15, 16, 17]) (by kernel_rfl)] at hact
                rw [hG0.lo hT (k := 2) (by kernel_rfl)]
                have p17 := hG.pv 17 (by decide) (live_end hG.size rfl (hpre 17 (by decide) (by decide)))
                clear hpre hG hST
                obtain rfl : a = _ := hact
                subst hT
                obtain ⟨A, cp, hv17, hi17⟩ := p17
                have y1 := (hb.cell (p := ⟨gb, 1, none⟩) zg).trans yg1
                have f1 := (hb.frozen (p := ⟨gb, 1, none⟩) zg).trans fg1
                simp only [setAll, List.setIfInBounds_toArray, List.set_cons_succ, List.set_cons_zero, List.getD_cons_succ, List.getD_cons_zero]
                refine wpAny_all (rs := [18]) (by kernel_rfl) (by simp) ?_
                intro i2 hi2
                obtain rfl : i2 = 18 := by simpa using hi2
                refine wpOp_value (v := .pointer (some ⟨gb, 1, none⟩)) (W' := W) rfl rfl ?_ ?_
                · go_simp
                refine wpAny_all (rs := [19]) (by kernel_rfl) (by simp) ?_
                intro i2 hi2
                obtain rfl : i2 = 19 := by simpa using hi2
                refine wpOp_skip (W' := W.setCell ⟨gb, 1, none⟩ (.slice A (i + 1) cp)) rfl rfl ?_ ?_
                · rw [hv17]; go_simp
                refine wpAny_done (by kernel_rfl) ?_ _
                exact ⟨rfl, fun q => if q = 18 then .pointer (some ⟨gb, 1, none⟩) else vs q, rfl, W, A, cp, rfl, hb, hi17⟩
            case imp =>
            rintro a9 w3 ⟨vs, rfl, W1, AN, cN, rfl, hb1, hown⟩
            simp only [setAll, List.setIfInBounds_toArray, List.set_cons_succ, List.set_cons_zero, List.getD_cons_succ, List.getD_cons_zero]
            have hk1 : Keep (fun q => q = gb) W1 (W1.setCell ⟨gb, 1, none⟩ (.slice AN (i + 1) cN)) := Keep.setCell _ _ _ (fun q => q = gb) rfl
            have hown2 := own_kept hown hk1 (fun b hb2 hS => by omega)
            have HNX := hide (ints_own hown2)
            have HBN := hide ((HBB.out.trans (hb1.mono HBB.out.size)).setCell (p := ⟨gb, 1, none⟩) hgb (.slice AN (i + 1) cN))
            have HBL := hide (((HBL.out.below hb1 zg).store 1 (.slice AN (i + 1) cN)))
            clear hw3i z x0 x1 x2 x3 x4 l2 l3 zb3 s0 s1 s2 t0 t1 yg0 yg1 fg1 zg hk1 hown hown2 hb1 yx5 zx
            generalize W1.setCell ⟨gb, 1, none⟩ (.slice AN (i + 1) cN) = wc at *
            go_wp2_with fail
            go_roundw
            case rel => exact ⟨i + 1, AN, cN, by omega, by go_num, HBN.out, HBL.out, by rw [HGS.out]; exact HNX.out⟩
            case measure => simp [intOf]; omega
          · have hii : i = zc.lots.length := by omega
            subst hii
            have HPB := hide (HPR.out.next hB)
            have HAS := hide (HHA.out j hlj)
            have HFT := hide (show ∀ n : Int, 0 ≤ n ∧ n ≤ 40 → Calls Try.prog 43 #[cargoVal zc A1 (some ⟨bh, oh, none⟩) A3 AS c1 c2 c3 cS, .int .i64 j, .int .i64 n, .int .i64 frm, .int .i64 un, .agg #[.int .i64 (warmX zc l j), .slice AG zc.lots.length cG]] wb fun e w' => e = .returned (.bool (fitsB zc j n frm un (warmX zc l j, greensX zc l zc.lots.length))) ∧ Below wb.heap.size wb w' from fun n hn => by
              have := fits7_any (frm := frm) (un := un) hv HVZ.out hlj hn w01 (greensX_length zc l zc.lots.length) HGB.out (Ag := AG) (cg := cG) (by rw [greensX_length]; exact HG.out)
              rw [greensX_length] at this; exact this)
            have HQF := hide (HQ5.out j hlj)
            have HKB := hide HKB.out
            clear hv hB hblk hG hli
            cases hps : putIs7 zc lo hi frm un j
            all_goals
              have HPS := hide hps
              rw [hps] at HAS
              have HFI := hide (show putIs7 zc lo hi frm un j = true → fitsB zc j own frm un (warmX zc l j, greensX zc l zc.lots.length) = true from fun h => HQF.out h own hag.1 hag.2)
              rw [hps] at HFI
              clear hps
            all_goals
              go_upto_region 23 with (first
                | (go_at_call 38; refine (has_any HPB.out (j : Int)).mono ?_; rintro e w4 ⟨rfl, rfl⟩; rw [HAS.out])
                | (go_at_call 43; refine (HFT.out own (by omega)).mono ?_; rintro e w4 ⟨rfl, hb7⟩; rw [HFI.out (by trivial)]))
              first
                | (have HB7 := hide hb7; clear hb7)
                | (obtain ⟨w4, hw4⟩ : ∃ w4 : World, w4 = wb := ⟨_, rfl⟩; rw [← hw4]; have HB7 : Hid (Below wb.heap.size wb w4) := hide (by rw [hw4]; exact Below.refl _ _); clear hw4)
            all_goals
              have HBZ := hide (HBA.out.trans ((HBB.out.trans (HB7.out.mono HBB.out.size)).mono HBA.out.size))
              have HKC := hide (HKB.out.next HB7.out)
              have HPC := hide (HPB.out.next HB7.out)
              have HXE := hide (HXD.out.next HB7.out)
              clear z x0 x1 x2 x3 x4 yg0 yg1 fg1 zg HFI HFT HQF
              obtain ⟨hv, z, x0, x1, x2, x3, x4⟩ := HKC.out
              have HV := hide hv
              clear hv
              have hwl := waysM_len HVZ.out hlj (but := [])
              have HMEM := hide (fun (k : Nat) (hk : k < (waysM zc j []).length) => waysM_mem HVZ.out hlj (show nth (waysM zc j []) k ∈ waysM zc j [] by rw [nth_eq hk]; exact List.getElem_mem hk))
              have HWY := hide (fun (W : World) A1 A2 A3 A4 c1 c2 c3 c4 (h : CargoV W W.heap.size zc A1 A2 A3 A4 c1 c2 c3 c4) => ways7_any h HVZ.out hlj IntsS.nil_)
              have HPI := hide (show putIs7 zc lo hi frm un j = (waysM zc j []).all (fitsAll zc lo hi frm un j) from rfl)
              have HFA := hide (fun p => show fitsAll zc lo hi frm un j p = (spanVals ⟨lo, hi⟩).all (fun n => fitsB zc j n frm un p) from rfl)
              generalize waysM zc j [] = ws at *
              go_wp2_with (go_at_call 44; refine (HWY.out _ _ _ _ _ _ _ _ _ HV.out).mono ?_; rintro e wd ⟨AA, cA, rfl, hAll, hb⟩)
              have HBY := hide (HBZ.out.trans (hb.mono HBZ.out.size))
              have HKD := hide (HKC.out.next hb)
              have HPD := hide (HPC.out.next hb)
              have HXF := hide (HXE.out.next hb)
              have HWL := hide hAll
              have hnb := hAll.bd
              clear hb z x0 x1 x2 x3 x4 HV hAll
              go_loopw [19, 20, 21] (fun v19 v20 _ wr => ∃ (k : Nat) (bd : Bool), k ≤ ws.length ∧ v20 = .int .i64 k ∧ v19 = .bool bd ∧ Hid (bd = !(ws.take k).all (fitsAll zc lo hi frm un j)) ∧ Below wd.heap.size wd wr) (fun _ v20 _ _ => ws.length - (intOf v20).toNat)
              case atStart => exact ⟨0, false, Nat.zero_le _, rfl, rfl, hide rfl, Below.refl _ _⟩
              case round =>
                obtain ⟨k, bd, hk, rfl, rfl, HBE, hB⟩ := hrel
                obtain ⟨we, rfl⟩ : ∃ we : World, we = wr := ⟨_, rfl⟩
                have HBX := hide hB
                have hse := hB.size
                have hk0 : (0 : Int) ≤ (k : Int) := Int.natCast_nonneg _
                have HPE := hide (HPD.out.next hB)
                have HXG := hide (HXF.out.next hB)
                have HKE := hide (HKD.out.next hB)
                by_cases hlk : k < ws.length
                · have hk1 : (k : Int) < (ws.length : Int) := by omega
                  have yx0 : we.cell? ⟨w.heap.size + 1, 0, none⟩ = some (.int .i64 lo) := HXG.out.at_ 0
                  have HAT := hide (all_take ws (fitsAll zc lo hi frm un j) hlk)
                  have HFK := hide (HFA.out (nth ws k))
                  have HME := hide (HMEM.out k hlk)
                  obtain ⟨bw, ow, Ag, cg, rfl, hbw, hg0, hg1, hgi⟩ := HWL.out.at_ hlk
                  have hbw2 : bw < we.heap.size := by omega
                  have HG0 := hide ((hB.cell (p := ⟨bw, ow + k * 2, none⟩) hbw).trans hg0)
                  have HG1 := hide ((hB.cell (p := ⟨bw, ow + k * 2 + 1, none⟩) hbw).trans hg1)
                  have HGI := hide ((hgi.below hB).more hB.size)
                  clear hB hg0 hg1 hgi
                  generalize nth ws k = p at *
                  generalize (ws.take k).all (fitsAll zc lo hi frm un j) = met at *
                  go_wp2_with fail
                  clear yx0
                  go_loopw [19, 21] (fun v19 v21 wr => ∃ (m : Nat) (bb : Bool), (m : Int) ≤ hi - lo + 1 ∧ v21 = .int .i64 (lo + m) ∧ v19 = .bool bb ∧ Hid (bb = !(met && ((spanVals ⟨lo, hi⟩).take m).all (fun n => fitsB zc j n frm un p))) ∧ Below we.heap.size we wr) (fun _ v21 _ => (hi + 1 - intOf v21).toNat)
                  case atStart => exact ⟨0, bd, by omega, by simp, rfl, by rw [HBE.out]; exact hide (by simp), Below.refl _ _⟩
                  case round =>
                    obtain ⟨m, bb, hm, rfl, rfl, HBB2, hB⟩ := hrel
                    have HBF := hide hB
                    have hsf := hB.size
                    have yx1 : wr.cell? ⟨w.heap.size + 1, 1, none⟩ = some (.int .i64 hi) := (HXG.out.next hB).at_ 1
                    have zx : w.heap.size + 1 < wr.heap.size := (HXG.out.next hB).lt
                    obtain ⟨hv, z, x0, x1, x2, x3, x4⟩ := HKE.out.next hB
                    by_cases hle : (m : Int) ≤ hi - lo
                    · have HTM := hide (take_map_range ⟨lo, hi⟩ hle)
                      have hdle : decide (lo + (m : Int) ≤ hi) = true := by simp; omega
                      have yw0 := (hB.cell (p := ⟨bw, ow + k * 2, none⟩) hbw2).trans HG0.out
                      have yw1 := (hB.cell (p := ⟨bw, ow + k * 2 + 1, none⟩) hbw2).trans HG1.out
                      have zw : bw < wr.heap.size := by omega
                      have HCG := hide (show ∀ t : Later wr, CargoV (grow wr t) (grow wr t).heap.size zc A1 (some ⟨bh, oh, none⟩) A3 AS c1 c2 c3 cS from fun t => hv.next grow_below)
                      have HGG := hide (show ∀ t : Later wr, IntsS (grow wr t) (grow wr t).heap.size Ag p.2.length cg p.2 from fun t => ((HGI.out.next hB).next grow_below))
                      have b0 : 0 ≤ lo + (m : Int) := by omega
                      have b1 : lo + (m : Int) ≤ 40 := by omega
                      have HAP := hide (show ((spanVals ⟨lo, hi⟩).take (m + 1)).all (fun n => fitsB zc j n frm un p) = (((spanVals ⟨lo, hi⟩).take m).all (fun n => fitsB zc j n frm un p) && fitsB zc j (lo + m) frm un p) by rw [HTM.out]; simp)
                      clear hB hv
                      cases bb with
                      | true =>
                        go_wp2_with fail
                        go_quiet (fail)
                        go_wp2
                        go_roundw
                        case rel =>
                          have hxx := not_t HBB2.out
                          exact ⟨m + 1, true, by omega, by go_num, rfl, hide (by rw [HAP.out, ← Bool.and_assoc, hxx]; rfl), below_drewN HBF.out _⟩
                        case measure => simp [intOf]; omega
                      | false =>
                        go_wp2_with fail
                        refine wp_region_grow (by kernel_rfl) (by kernel_rfl) ?_
                        have hgc := @grow_cell
                        repeat (first | go_big_quiet_step (((go_at_call 43; exact Calls.grow_of (fits7_any (HCG.out _) HVZ.out hlj ⟨b0, b1⟩ HME.out.1 HME.out.2.1 HME.out.2.2 (HGG.out _))))) | quiet_step (((go_at_call 43; exact Calls.grow_of (fits7_any (HCG.out _) HVZ.out hlj ⟨b0, b1⟩ HME.out.1 HME.out.2.1 HME.out.2.2 (HGG.out _))))))
                        refine wpQuiet_nil ?_
                        rintro _ ⟨t, rfl⟩
                        have hbt := HBF.out.trans ((grow_below (w := wr) (t := t)).mono hsf)
                        have HBH := hide hbt
                        clear hgc hbt yw0 yw1 yx1 x0 x1 x2 x3 x4
                        generalize grow wr t = wf at *
                        go_wp2
                        go_roundw
                        case rel =>
                          have hxx := not_f HBB2.out
                          exact ⟨m + 1, _, by omega, by go_num, rfl, hide (by rw [HAP.out, ← Bool.and_assoc, hxx]; rfl), HBH.out⟩
                        case measure => simp [intOf]; omega
                    · have hdle : decide (lo + (m : Int) ≤ hi) = false := by simp; omega
                      have HST := hide (spanVals_take ⟨lo, hi⟩ (show hi - lo < (m : Int) by omega))
                      clear hB hv
                      go_wp2_with fail
                      go_roundw
                      case rel => exact ⟨k + 1, bb, by omega, by go_num, rfl, by rw [HAT.out, HFK.out, ← HST.out]; exact HBB2, HBX.out.trans (HBF.out.mono hse)⟩
                      case measure => simp [intOf]; omega
                · have hkk : k = ws.length := by omega
                  have hbd : bd = !putIs7 zc lo hi frm un j := by rw [HPI.out, HBE.out, hkk, List.take_length]
                  rw [HPS.out] at hbd
                  simp only [Bool.not_true, Bool.not_false] at hbd
                  subst hbd
                  clear hB hkk
                  go_wp2_with (go_at_call 38; refine (has_any HPE.out (j : Int)).mono ?_; rintro e w9 ⟨rfl, rfl⟩; rw [HAS.out])
                  go_roundw
                  case rel => exact ⟨j + 1, by omega, by go_num, HBY.out.trans (HBX.out.mono HBY.out.size)⟩
                  case measure => simp [intOf]; omega
      · have hjj : j = zc.holds.length := by omega
        clear hv hB hjj
        go_wp2_with (go_at_call 23; refine (awake_any _).mono ?_; rintro e v10 ⟨rfl, hb⟩)
        go_ret
        have hB9 := HB.out.trans (HBA.out.mono HB.out.size)
        exact ⟨rfl, hB9.trans (hb.mono hB9.size)⟩
theorem turnPut_any {A1 A2 A3 A4 Ax : Option Addr} {c1 c2 c3 c4 cx : Nat} {c : Cargo} {w : World} {l : List Int} (h : CargoV w w.heap.size c A1 A2 A3 A4 c1 c2 c3 c4) (hx : BytesS w w.heap.size Ax cx l) (lo hi xf xu xw : Int) (hw : (0 ≤ xf ∧ xf ≤ 255) ∧ (0 ≤ xu ∧ xu ≤ 255) ∧ (0 ≤ xw ∧ xw ≤ 255)) :
    Calls Try.prog 9 #[cargoVal c A1 A2 A3 A4 c1 c2 c3 c4, .agg #[.int .i64 lo, .int .i64 hi, .int .u8 xf, .int .u8 xu, .int .u8 xw, .slice Ax l.length cx]] w fun e w' => e = .returned (.bool true) ∧ Below w.heap.size w w' := by
  by_cases hc : (checkM c).2.2 = 0
  · exact putl_ok h hx lo hi xf xu xw hw.1 hw.2.1 hw.2.2 (valid_of hc)
  · exact putl_bad h hx lo hi xf xu xw hc
end Go.Proofs.Ytbkknliggnhpcaa
