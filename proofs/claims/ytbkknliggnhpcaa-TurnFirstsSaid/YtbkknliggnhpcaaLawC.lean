/- The law TurnTurns: for any cargo, lot and hour the statement's function returns true. -/
import Derived.Test.YtbkknliggnhpcaaLawB
set_option linter.unusedVariables false
set_option linter.unusedSimpArgs false
namespace Go.Proofs.Ytbkknliggnhpcaa
open Go.RowKit
attribute [local go_sem ↓] Go.wp_at_zero Go.wp_at_succ

theorem intsB_self (l : List Int) : intsB l l = true := by
  have h : ∀ l : List Int, lessB l l = false := fun l => by
    induction l with
    | nil => rfl
    | cons x l ih => simp [lessB, ih]
  simp [intsB, h]
theorem turnsW_any {A1 A2 A3 A4 : Option Addr} {c1 c2 c3 c4 : Nat} {c : Cargo} {w : World} (h : CargoV w w.heap.size c A1 A2 A3 A4 c1 c2 c3 c4) (lot : Int) :
    Calls Try.prog 18 #[cargoVal c A1 A2 A3 A4 c1 c2 c3 c4, .int .i64 lot] w fun e w' => e = .returned (.tuple #[.agg #[.int .i64 (nth (turnsR c lot).1.1 0), .int .i64 (nth (turnsR c lot).1.1 1)], .int .i64 (turnsR c lot).1.2, .int .i64 (turnsR c lot).2]) ∧ Below w.heap.size w w' := by
  have := turns_any h lot; rw [turnsV_eq] at this; exact this
theorem safeW_any {A1 A2 A3 A4 : Option Addr} {c1 c2 c3 c4 : Nat} {c : Cargo} {w : World} (h : CargoV w w.heap.size c A1 A2 A3 A4 c1 c2 c3 c4) (hour : Int) :
    Calls Try.prog 20 #[cargoVal c A1 A2 A3 A4 c1 c2 c3 c4, .int .i64 hour] w fun e w' => ∃ A cp, e = .returned (.tuple #[.slice A (safeR c hour).length cp, .int .i64 (safeE c hour)]) ∧ IntsS w' w'.heap.size A (safeR c hour).length cp (natInts (safeR c hour)) ∧ Below w.heap.size w w' := by
  have := safe_any h hour; rw [safeV_eq] at this; exact this
set_option maxHeartbeats 4000000 in
set_option maxRecDepth 100000 in
theorem turnTurns_any {A1 A2 A3 A4 : Option Addr} {c1 c2 c3 c4 : Nat} {c : Cargo} {w : World} (h : CargoV w w.heap.size c A1 A2 A3 A4 c1 c2 c3 c4) (lot hour : Int) :
    Calls Try.prog 3 #[cargoVal c A1 A2 A3 A4 c1 c2 c3 c4, .int .i64 lot, .int .i64 hour] w fun e w' => e = .returned (.bool true) ∧ Below w.heap.size w w' := by
  have HK := hide (BoxC.made h)
  have HB : Hid (Below w.heap.size w (w.alloc (.cells #[.slice A1 c.heat.length c1, .int .i64 c.gas, .slice A2 c.holds.length c2, .slice A3 c.lots.length c3, .slice A4 c.seen.length c4] 27))) := hide ((Below.refl _ _).alloc (Nat.le_refl _) _)
  clear h
  go_enter Try.func3, Try.ntmps3
  go_upto_region 1 with (fail)
  generalize (w.alloc (.cells #[.slice A1 c.heat.length c1, .int .i64 c.gas, .slice A2 c.holds.length c2, .slice A3 c.lots.length c3, .slice A4 c.seen.length c4] 27)) = v0 at *
  obtain ⟨hv, z, x0, x1, x2, x3, x4⟩ := HK.out
  have HV := hide hv
  clear hv
  go_upto_region 2 with (go_at_call 16; refine (check_any HV.out).mono ?_; rintro e v1 ⟨rfl, hb⟩)
  have HK := hide (HK.out.next hb)
  have HB := hide (HB.out.trans (hb.mono (by have := HB.out.size; exact this)))
  clear hb
  clear z x0 x1 x2 x3 x4 HV
  obtain ⟨hv, z, x0, x1, x2, x3, x4⟩ := HK.out
  have HV := hide hv
  clear hv
  go_upto_region 3 with (go_at_call 17; refine (check7_any HV.out).mono ?_; rintro e v2 ⟨rfl, hb⟩)
  have HK := hide (HK.out.next hb)
  have HB := hide (HB.out.trans (hb.mono (by have := HB.out.size; exact this)))
  clear hb
  clear z x0 x1 x2 x3 x4 HV
  generalize (checkM c).1 = k1 at *
  generalize (checkM c).2.1 = k2 at *
  generalize (checkM c).2.2 = k3 at *
  have HT := hide (fun (w : World) A1 A2 A3 A4 c1 c2 c3 c4 (h : CargoV w w.heap.size c A1 A2 A3 A4 c1 c2 c3 c4) => turnsW_any h lot)
  have HU := hide (fun (w : World) A1 A2 A3 A4 c1 c2 c3 c4 (h : CargoV w w.heap.size c A1 A2 A3 A4 c1 c2 c3 c4) => turns7_any h lot)
  generalize nth (turnsR c lot).1.1 0 = s0 at *
  generalize nth (turnsR c lot).1.1 1 = s1 at *
  generalize (turnsR c lot).1.2 = s2 at *
  generalize (turnsR c lot).2 = s3 at *
  obtain ⟨hv, z, x0, x1, x2, x3, x4⟩ := HK.out
  have HV := hide hv
  clear hv
  go_upto_region 6 with (go_at_call 18; refine (HT.out _ _ _ _ _ _ _ _ _ HV.out).mono ?_; rintro e v3 ⟨rfl, hb⟩)
  have HK := hide (HK.out.next hb)
  have HB := hide (HB.out.trans (hb.mono (by have := HB.out.size; exact this)))
  clear hb
  clear z x0 x1 x2 x3 x4 HV
  have hb : Below v3.heap.size v3 (v3.alloc (.cells #[.int .i64 s0, .int .i64 s1] 32)) := (Below.refl _ _).alloc (Nat.le_refl _) _
  have HS1 : Hid (BoxS (v3.alloc (.cells #[.int .i64 s0, .int .i64 s1] 32)) v3.heap.size (s0) (s1)) := hide BoxS.made
  have HK := hide (HK.out.next hb)
  have HB := hide (HB.out.trans (hb.mono (by have := HB.out.size; exact this)))
  clear hb
  generalize (v3.alloc (.cells #[.int .i64 s0, .int .i64 s1] 32)) = u3 at *
  obtain ⟨hv, z, x0, x1, x2, x3, x4⟩ := HK.out
  have HV := hide hv
  clear hv
  go_upto_region 7 with (go_at_call 19; refine (HU.out _ _ _ _ _ _ _ _ _ HV.out).mono ?_; rintro e v4 ⟨rfl, hb⟩)
  have HK := hide (HK.out.next hb)
  have HS1 := hide (HS1.out.next hb)
  have HB := hide (HB.out.trans (hb.mono (by have := HB.out.size; exact this)))
  clear hb
  clear z x0 x1 x2 x3 x4 HV
  have hb : Below v4.heap.size v4 (v4.alloc (.cells #[.int .i64 s0, .int .i64 s1] 32)) := (Below.refl _ _).alloc (Nat.le_refl _) _
  have HS2 : Hid (BoxS (v4.alloc (.cells #[.int .i64 s0, .int .i64 s1] 32)) v4.heap.size (s0) (s1)) := hide BoxS.made
  have HK := hide (HK.out.next hb)
  have HS1 := hide (HS1.out.next hb)
  have HB := hide (HB.out.trans (hb.mono (by have := HB.out.size; exact this)))
  clear hb
  generalize (v4.alloc (.cells #[.int .i64 s0, .int .i64 s1] 32)) = u4 at *
  obtain ⟨y0, y1, y2⟩ := HS1.out
  obtain ⟨y3, y4, y5⟩ := HS2.out
  go_upto_region 9 with (fail)
  clear y0 y1 y2 y3 y4 y5
  have HSA := hide (fun (w : World) A1 A2 A3 A4 c1 c2 c3 c4 (h : CargoV w w.heap.size c A1 A2 A3 A4 c1 c2 c3 c4) => safeW_any h hour)
  have HSB := hide (fun (w : World) A1 A2 A3 A4 c1 c2 c3 c4 (h : CargoV w w.heap.size c A1 A2 A3 A4 c1 c2 c3 c4) => safe7_any h hour)
  generalize safeR c hour = sr at *
  generalize safeE c hour = se at *
  obtain ⟨hv, z, x0, x1, x2, x3, x4⟩ := HK.out
  have HV := hide hv
  clear hv
  go_upto_region 10 with (go_at_call 20; refine (HSA.out _ _ _ _ _ _ _ _ _ HV.out).mono ?_; rintro e v5 ⟨R1, r1, rfl, hi, hb⟩)
  have HK := hide (HK.out.next hb)
  have HS1 := hide (HS1.out.next hb)
  have HS2 := hide (HS2.out.next hb)
  have HB := hide (HB.out.trans (hb.mono (by have := HB.out.size; exact this)))
  clear hb
  have HI1 := hide hi
  clear hi
  clear z x0 x1 x2 x3 x4 HV
  obtain ⟨hv, z, x0, x1, x2, x3, x4⟩ := HK.out
  have HV := hide hv
  clear hv
  go_upto_region 11 with (go_at_call 21; refine (HSB.out _ _ _ _ _ _ _ _ _ HV.out).mono ?_; rintro e v6 ⟨R2, r2, rfl, hi, hb⟩)
  have HK := hide (HK.out.next hb)
  have HS1 := hide (HS1.out.next hb)
  have HS2 := hide (HS2.out.next hb)
  have HI1 := hide (HI1.out.next hb)
  have HB := hide (HB.out.trans (hb.mono (by have := HB.out.size; exact this)))
  clear hb
  have HI2 := hide hi
  clear hi
  clear z x0 x1 x2 x3 x4 HV
  go_wp2_with (first
    | (go_at_call 22; refine (ints_any HI1.out HI2.out).mono ?_; rintro e v9 ⟨rfl, hd⟩; rw [intsB_self]; have hb := hd.below v6.heap.size)
    | (go_at_call 23; refine (awake_any _).mono ?_; rintro e v10 ⟨rfl, hb2⟩))
  go_ret
  exact ⟨rfl, HB.out.trans ((hb.trans (hb2.mono hb.size)).mono (by have := HB.out.size; exact this))⟩
end Go.Proofs.Ytbkknliggnhpcaa
