/- The law TurnPuts: for any cargo, green and hours the statement's function returns true. -/
import Derived.Test.YtbkknliggnhpcaaWrap
import Derived.Test.YtbkknliggnhpcaaPg
set_option linter.unusedVariables false
set_option linter.unusedSimpArgs false
namespace Go.Proofs.Ytbkknliggnhpcaa
open Go.RowKit
attribute [local go_sem ↓] Go.wp_at_zero Go.wp_at_succ

theorem putW_any {A1 A2 A3 A4 : Option Addr} {c1 c2 c3 c4 : Nat} {c : Cargo} {w : World} (h : CargoV w w.heap.size c A1 A2 A3 A4 c1 c2 c3 c4) (lo hi frm un : Int) :
    Calls Try.prog 28 #[cargoVal c A1 A2 A3 A4 c1 c2 c3 c4, .agg #[.int .i64 lo, .int .i64 hi], .int .i64 frm, .int .i64 un] w fun e w' => ∃ A cp, e = .returned (.tuple #[.slice A (putR c lo hi frm un).1.length cp, .int .i64 (putR c lo hi frm un).2]) ∧ IntsS w' w'.heap.size A (putR c lo hi frm un).1.length cp (natInts (putR c lo hi frm un).1) ∧ Below w.heap.size w w' := by
  have := put_any h lo hi frm un; rw [putV_eq] at this; exact this
set_option maxHeartbeats 4000000 in
set_option maxRecDepth 100000 in
theorem turnPuts_any {A1 A2 A3 A4 : Option Addr} {c1 c2 c3 c4 : Nat} {c : Cargo} {w : World} (h : CargoV w w.heap.size c A1 A2 A3 A4 c1 c2 c3 c4) (s : Span) (a b : Int) :
    Calls Try.prog 5 #[cargoVal c A1 A2 A3 A4 c1 c2 c3 c4, .agg #[.int .i64 s.lo, .int .i64 s.hi], .agg #[.int .i64 a, .int .i64 b]] w fun e w' => e = .returned (.bool true) ∧ Below w.heap.size w w' := by
  have hA1 : Below w.heap.size w (w.alloc (.cells #[.slice A1 c.heat.length c1, .int .i64 c.gas, .slice A2 c.holds.length c2, .slice A3 c.lots.length c3, .slice A4 c.seen.length c4] 27)) := (Below.refl _ _).alloc (Nat.le_refl _) _
  have hA2 : Below (w.alloc (.cells #[.slice A1 c.heat.length c1, .int .i64 c.gas, .slice A2 c.holds.length c2, .slice A3 c.lots.length c3, .slice A4 c.seen.length c4] 27)).heap.size (w.alloc (.cells #[.slice A1 c.heat.length c1, .int .i64 c.gas, .slice A2 c.holds.length c2, .slice A3 c.lots.length c3, .slice A4 c.seen.length c4] 27)) ((w.alloc (.cells #[.slice A1 c.heat.length c1, .int .i64 c.gas, .slice A2 c.holds.length c2, .slice A3 c.lots.length c3, .slice A4 c.seen.length c4] 27)).alloc (.cells #[.int .i64 s.lo, .int .i64 s.hi] 32)) := (Below.refl _ _).alloc (Nat.le_refl _) _
  have hA3 : Below ((w.alloc (.cells #[.slice A1 c.heat.length c1, .int .i64 c.gas, .slice A2 c.holds.length c2, .slice A3 c.lots.length c3, .slice A4 c.seen.length c4] 27)).alloc (.cells #[.int .i64 s.lo, .int .i64 s.hi] 32)).heap.size ((w.alloc (.cells #[.slice A1 c.heat.length c1, .int .i64 c.gas, .slice A2 c.holds.length c2, .slice A3 c.lots.length c3, .slice A4 c.seen.length c4] 27)).alloc (.cells #[.int .i64 s.lo, .int .i64 s.hi] 32)) (((w.alloc (.cells #[.slice A1 c.heat.length c1, .int .i64 c.gas, .slice A2 c.holds.length c2, .slice A3 c.lots.length c3, .slice A4 c.seen.length c4] 27)).alloc (.cells #[.int .i64 s.lo, .int .i64 s.hi] 32)).alloc (.cells #[.int .i64 a, .int .i64 b] 44)) := (Below.refl _ _).alloc (Nat.le_refl _) _
  have HK := hide (((BoxC.made h).next hA2).next hA3)
  have HS0 := (BoxS.made (w := (w.alloc (.cells #[.slice A1 c.heat.length c1, .int .i64 c.gas, .slice A2 c.holds.length c2, .slice A3 c.lots.length c3, .slice A4 c.seen.length c4] 27))) (a := s.lo) (b := s.hi)).next hA3
  rw [show (w.alloc (.cells #[.slice A1 c.heat.length c1, .int .i64 c.gas, .slice A2 c.holds.length c2, .slice A3 c.lots.length c3, .slice A4 c.seen.length c4] 27)).heap.size = w.heap.size + 1 by simp] at HS0
  have HS := hide HS0
  have HX0 := BoxI.made2 (w := ((w.alloc (.cells #[.slice A1 c.heat.length c1, .int .i64 c.gas, .slice A2 c.holds.length c2, .slice A3 c.lots.length c3, .slice A4 c.seen.length c4] 27)).alloc (.cells #[.int .i64 s.lo, .int .i64 s.hi] 32))) (T := 44) (a := a) (b := b)
  rw [show ((w.alloc (.cells #[.slice A1 c.heat.length c1, .int .i64 c.gas, .slice A2 c.holds.length c2, .slice A3 c.lots.length c3, .slice A4 c.seen.length c4] 27)).alloc (.cells #[.int .i64 s.lo, .int .i64 s.hi] 32)).heap.size = w.heap.size + 1 + 1 by simp] at HX0
  have HX := hide HX0
  have HB := hide ((hA1.trans (hA2.mono hA1.size)).trans (hA3.mono (Nat.le_trans hA1.size hA2.size)))
  clear hA1 hA2 hA3 HX0 HS0 h
  go_enter Try.func5, Try.ntmps5
  go_upto_region 1 with (fail)
  generalize (((w.alloc (.cells #[.slice A1 c.heat.length c1, .int .i64 c.gas, .slice A2 c.holds.length c2, .slice A3 c.lots.length c3, .slice A4 c.seen.length c4] 27)).alloc (.cells #[.int .i64 s.lo, .int .i64 s.hi] 32)).alloc (.cells #[.int .i64 a, .int .i64 b] 44)) = v0 at *
  have HPA := hide (fun (w : World) A1 A2 A3 A4 c1 c2 c3 c4 (h : CargoV w w.heap.size c A1 A2 A3 A4 c1 c2 c3 c4) => putW_any h s.lo s.hi a b)
  have HPB := hide (fun (w : World) A1 A2 A3 A4 c1 c2 c3 c4 (h : CargoV w w.heap.size c A1 A2 A3 A4 c1 c2 c3 c4) => put7_any h s.lo s.hi a b)
  generalize (putR c s.lo s.hi a b).1 = fr at *
  generalize (putR c s.lo s.hi a b).2 = fe at *
  obtain ⟨zx, hx⟩ := HX.out
  have t0 := hx 0 (by simp)
  have t1 := hx 1 (by simp)
  simp only [nth, List.getD_cons_zero, List.getD_cons_succ] at t0 t1
  clear hx
  obtain ⟨zs, u0, u1⟩ := HS.out
  obtain ⟨hv, z, x0, x1, x2, x3, x4⟩ := HK.out
  have HV := hide hv
  clear hv
  go_upto_region 2 with (go_at_call 28; refine (HPA.out _ _ _ _ _ _ _ _ _ HV.out).mono ?_; rintro e v1 ⟨R1, r1, rfl, hi, hb⟩)
  have HK := hide (HK.out.next hb)
  have HX := hide (HX.out.next hb)
  have HS := hide (HS.out.next hb)
  have HB := hide (HB.out.trans (hb.mono (by have := HB.out.size; exact this)))
  clear hb
  have HI1 := hide hi
  clear hi
  clear z x0 x1 x2 x3 x4 HV
  clear zx t0 t1 zs u0 u1
  obtain ⟨zx, hx⟩ := HX.out
  have t0 := hx 0 (by simp)
  have t1 := hx 1 (by simp)
  simp only [nth, List.getD_cons_zero, List.getD_cons_succ] at t0 t1
  clear hx
  obtain ⟨zs, u0, u1⟩ := HS.out
  obtain ⟨hv, z, x0, x1, x2, x3, x4⟩ := HK.out
  have HV := hide hv
  clear hv
  go_upto_region 3 with (go_at_call 29; refine (HPB.out _ _ _ _ _ _ _ _ _ HV.out).mono ?_; rintro e v2 ⟨R2, r2, rfl, hi, hb⟩)
  have HK := hide (HK.out.next hb)
  have HX := hide (HX.out.next hb)
  have HS := hide (HS.out.next hb)
  have HI1 := hide (HI1.out.next hb)
  have HB := hide (HB.out.trans (hb.mono (by have := HB.out.size; exact this)))
  clear hb
  have HI2 := hide hi
  clear hi
  clear z x0 x1 x2 x3 x4 HV
  clear zx t0 t1 zs u0 u1
  go_wp2_with (first
    | (go_at_call 22; refine (ints_any HI1.out HI2.out).mono ?_; rintro e v6 ⟨rfl, hd⟩; rw [intsB_self]; have hb6 := hd.below v2.heap.size; clear hd)
    | (go_at_call 23; refine (awake_any _).mono ?_; rintro e v10 ⟨rfl, hb⟩))
  go_ret
  exact ⟨rfl, (HB.out.trans (hb6.mono HB.out.size)).trans (hb.mono (HB.out.trans (hb6.mono HB.out.size)).size)⟩
end Go.Proofs.Ytbkknliggnhpcaa
