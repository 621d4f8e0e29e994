/- The law TurnOuts: for any cargo, hold and hour the statement's function returns true. -/
import Derived.Test.YtbkknliggnhpcaaWrap
set_option linter.unusedVariables false
set_option linter.unusedSimpArgs false
namespace Go.Proofs.Ytbkknliggnhpcaa
open Go.RowKit
attribute [local go_sem ↓] Go.wp_at_zero Go.wp_at_succ

set_option maxHeartbeats 4000000 in
set_option maxRecDepth 100000 in
theorem turnOuts_any {A1 A2 A3 A4 : Option Addr} {c1 c2 c3 c4 : Nat} {c : Cargo} {w : World} (h : CargoV w w.heap.size c A1 A2 A3 A4 c1 c2 c3 c4) (a b : Int) :
    Calls Try.prog 6 #[cargoVal c A1 A2 A3 A4 c1 c2 c3 c4, .agg #[.int .i64 a, .int .i64 b]] w fun e w' => e = .returned (.bool true) ∧ Below w.heap.size w w' := by
  have hA1 : Below w.heap.size w (w.alloc (.cells #[.slice A1 c.heat.length c1, .int .i64 c.gas, .slice A2 c.holds.length c2, .slice A3 c.lots.length c3, .slice A4 c.seen.length c4] 27)) := (Below.refl _ _).alloc (Nat.le_refl _) _
  have hA2 : Below (w.alloc (.cells #[.slice A1 c.heat.length c1, .int .i64 c.gas, .slice A2 c.holds.length c2, .slice A3 c.lots.length c3, .slice A4 c.seen.length c4] 27)).heap.size (w.alloc (.cells #[.slice A1 c.heat.length c1, .int .i64 c.gas, .slice A2 c.holds.length c2, .slice A3 c.lots.length c3, .slice A4 c.seen.length c4] 27)) ((w.alloc (.cells #[.slice A1 c.heat.length c1, .int .i64 c.gas, .slice A2 c.holds.length c2, .slice A3 c.lots.length c3, .slice A4 c.seen.length c4] 27)).alloc (.cells #[.int .i64 a, .int .i64 b] 44)) := (Below.refl _ _).alloc (Nat.le_refl _) _
  have HK := hide ((BoxC.made h).next hA2)
  have HX0 := BoxI.made2 (w := (w.alloc (.cells #[.slice A1 c.heat.length c1, .int .i64 c.gas, .slice A2 c.holds.length c2, .slice A3 c.lots.length c3, .slice A4 c.seen.length c4] 27))) (T := 44) (a := a) (b := b)
  rw [show (w.alloc (.cells #[.slice A1 c.heat.length c1, .int .i64 c.gas, .slice A2 c.holds.length c2, .slice A3 c.lots.length c3, .slice A4 c.seen.length c4] 27)).heap.size = w.heap.size + 1 by simp] at HX0
  have HX := hide HX0
  have HB := hide (hA1.trans (hA2.mono hA1.size))
  clear hA1 hA2 HX0 h
  go_enter Try.func6, Try.ntmps6
  go_upto_region 1 with (fail)
  generalize ((w.alloc (.cells #[.slice A1 c.heat.length c1, .int .i64 c.gas, .slice A2 c.holds.length c2, .slice A3 c.lots.length c3, .slice A4 c.seen.length c4] 27)).alloc (.cells #[.int .i64 a, .int .i64 b] 44)) = v0 at *
  have HOA := hide (fun (w : World) A1 A2 A3 A4 c1 c2 c3 c4 (h : CargoV w w.heap.size c A1 A2 A3 A4 c1 c2 c3 c4) => out_any h a b)
  have HOB := hide (fun (w : World) A1 A2 A3 A4 c1 c2 c3 c4 (h : CargoV w w.heap.size c A1 A2 A3 A4 c1 c2 c3 c4) => outR_any h a b)
  have HWA := hide (fun (w : World) A1 A2 A3 A4 c1 c2 c3 c4 (h : CargoV w w.heap.size c A1 A2 A3 A4 c1 c2 c3 c4) => wrong_any h)
  have HWB := hide (fun (w : World) A1 A2 A3 A4 c1 c2 c3 c4 (h : CargoV w w.heap.size c A1 A2 A3 A4 c1 c2 c3 c4) => wrong7_any h)
  generalize (outV c a b).1 = fr at *
  generalize (outV c a b).2 = fe at *
  generalize (wrongV c).1 = wr at *
  generalize (wrongV c).2 = we at *
  obtain ⟨zx, hx⟩ := HX.out
  have t0 := hx 0 (by simp)
  have t1 := hx 1 (by simp)
  simp only [nth, List.getD_cons_zero, List.getD_cons_succ] at t0 t1
  clear hx
  obtain ⟨hv, z, x0, x1, x2, x3, x4⟩ := HK.out
  have HV := hide hv
  clear hv
  go_upto_region 2 with (go_at_call 30; refine (HOA.out _ _ _ _ _ _ _ _ _ HV.out).mono ?_; rintro e v1 ⟨R1, r1, rfl, hi, hb⟩)
  have HK := hide (HK.out.next hb)
  have HX := hide (HX.out.next hb)
  have HB := hide (HB.out.trans (hb.mono (by have := HB.out.size; exact this)))
  clear hb
  have HI1 := hide hi
  clear hi
  clear z x0 x1 x2 x3 x4 HV
  clear zx t0 t1
  obtain ⟨zx, hx⟩ := HX.out
  have t0 := hx 0 (by simp)
  have t1 := hx 1 (by simp)
  simp only [nth, List.getD_cons_zero, List.getD_cons_succ] at t0 t1
  clear hx
  obtain ⟨hv, z, x0, x1, x2, x3, x4⟩ := HK.out
  have HV := hide hv
  clear hv
  go_upto_region 3 with (go_at_call 31; refine (HOB.out _ _ _ _ _ _ _ _ _ HV.out).mono ?_; rintro e v2 ⟨R2, r2, rfl, hi, hb⟩)
  have HK := hide (HK.out.next hb)
  have HX := hide (HX.out.next hb)
  have HI1 := hide (HI1.out.next hb)
  have HB := hide (HB.out.trans (hb.mono (by have := HB.out.size; exact this)))
  clear hb
  have HI2 := hide hi
  clear hi
  clear z x0 x1 x2 x3 x4 HV
  clear zx t0 t1
  go_upto_region 5 with (go_at_call 22; refine (ints_any HI1.out HI2.out).mono ?_; rintro e v3 ⟨rfl, hd⟩; rw [intsB_self]; have hb := hd.below v2.heap.size)
  clear hd
  have HK := hide (HK.out.next hb)
  have HX := hide (HX.out.next hb)
  have HI1 := hide (HI1.out.next hb)
  have HI2 := hide (HI2.out.next hb)
  have HB := hide (HB.out.trans (hb.mono (by have := HB.out.size; exact this)))
  clear hb
  obtain ⟨hv, z, x0, x1, x2, x3, x4⟩ := HK.out
  have HV := hide hv
  clear hv
  go_upto_region 6 with (go_at_call 32; refine (HWA.out _ _ _ _ _ _ _ _ _ HV.out).mono ?_; rintro e v4 ⟨R4, r4, rfl, hi, hb⟩)
  have HK := hide (HK.out.next hb)
  have HX := hide (HX.out.next hb)
  have HI1 := hide (HI1.out.next hb)
  have HI2 := hide (HI2.out.next hb)
  have HB := hide (HB.out.trans (hb.mono (by have := HB.out.size; exact this)))
  clear hb
  have HI4 := hide hi
  clear hi
  clear z x0 x1 x2 x3 x4 HV
  obtain ⟨hv, z, x0, x1, x2, x3, x4⟩ := HK.out
  have HV := hide hv
  clear hv
  go_upto_region 7 with (go_at_call 33; refine (HWB.out _ _ _ _ _ _ _ _ _ HV.out).mono ?_; rintro e v5 ⟨R5, r5, rfl, hi, hb⟩)
  have HK := hide (HK.out.next hb)
  have HX := hide (HX.out.next hb)
  have HI1 := hide (HI1.out.next hb)
  have HI2 := hide (HI2.out.next hb)
  have HI4 := hide (HI4.out.next hb)
  have HB := hide (HB.out.trans (hb.mono (by have := HB.out.size; exact this)))
  clear hb
  have HI5 := hide hi
  clear hi
  clear z x0 x1 x2 x3 x4 HV
  go_wp2_with (first
    | (go_at_call 22; refine (ints_any HI4.out HI5.out).mono ?_; rintro e v6 ⟨rfl, hd⟩; rw [intsB_self]; have hb6 := hd.below v5.heap.size; clear hd)
    | (go_at_call 23; refine (awake_any _).mono ?_; rintro e v10 ⟨rfl, hb⟩))
  go_ret
  exact ⟨rfl, (HB.out.trans (hb6.mono HB.out.size)).trans (hb.mono (HB.out.trans (hb6.mono HB.out.size)).size)⟩
end Go.Proofs.Ytbkknliggnhpcaa
