/- The law TurnFirsts: for any cargo, hold and lots the statement's function returns true. -/
import Derived.Test.YtbkknliggnhpcaaLawC
import Derived.Test.YtbkknliggnhpcaaPc
set_option linter.unusedVariables false
set_option linter.unusedSimpArgs false
namespace Go.Proofs.Ytbkknliggnhpcaa
open Go.RowKit
attribute [local go_sem ↓] Go.wp_at_zero Go.wp_at_succ

theorem firstW_any {A1 A2 A3 A4 : Option Addr} {c1 c2 c3 c4 : Nat} {c : Cargo} {w : World} (h : CargoV w w.heap.size c A1 A2 A3 A4 c1 c2 c3 c4) (hold : Int) :
    Calls Try.prog 24 #[cargoVal c A1 A2 A3 A4 c1 c2 c3 c4, .int .i64 hold] w fun e w' => ∃ A cp, e = .returned (.tuple #[.slice A (firstR c hold).length cp, .int .i64 (firstE7 c hold)]) ∧ IntsS w' w'.heap.size A (firstR c hold).length cp (natInts (firstR c hold)) ∧ Below w.heap.size w w' := by
  have := first_any h hold; rw [firstV_eq] at this; exact this
theorem spoilsW_any {A1 A2 A3 A4 : Option Addr} {c1 c2 c3 c4 : Nat} {c : Cargo} {w : World} (h : CargoV w w.heap.size c A1 A2 A3 A4 c1 c2 c3 c4) (b lot : Int) :
    Calls Try.prog 26 #[cargoVal c A1 A2 A3 A4 c1 c2 c3 c4, .int .i64 b, .int .i64 lot] w fun e w' => e = .returned (.tuple #[.int .i64 (spoilsR c b lot).1, .int .i64 (spoilsR c b lot).2]) ∧ Below w.heap.size w w' := by
  have := spoils_any h b lot; rw [spoilsV_eq] at this; exact this
/-- A row of integers by value, boxed. -/
def BoxI (W : World) (g : Nat) (l : List Int) : Prop := g < W.heap.size ∧ ∀ j, j < l.length → W.cell? ⟨g, j, none⟩ = some (.int .i64 (nth l j))
theorem BoxI.next {W W' : World} {g : Nat} {l : List Int} (h : BoxI W g l) (hb : Below W.heap.size W W') : BoxI W' g l :=
  ⟨Nat.lt_of_lt_of_le h.1 hb.size, fun j hj => (hb.cell (p := ⟨g, j, none⟩) h.1).trans (h.2 j hj)⟩
theorem BoxI.made3 {w : World} {T : TypeId} {a b d : Int} : BoxI (w.alloc (.cells #[.int .i64 a, .int .i64 b, .int .i64 d] T)) w.heap.size [a, b, d] := by
  refine ⟨by simp, fun j hj => ?_⟩
  rw [World.cell?_alloc_at _ _ _ _ rfl]
  match j, hj with
  | 0, _ => rfl
  | 1, _ => rfl
  | 2, _ => rfl
theorem BoxI.made2 {w : World} {T : TypeId} {a b : Int} : BoxI (w.alloc (.cells #[.int .i64 a, .int .i64 b] T)) w.heap.size [a, b] := by
  refine ⟨by simp, fun j hj => ?_⟩
  rw [World.cell?_alloc_at _ _ _ _ rfl]
  match j, hj with
  | 0, _ => rfl
  | 1, _ => rfl
set_option maxHeartbeats 4000000 in
set_option maxRecDepth 100000 in
theorem turnFirsts_any {A1 A2 A3 A4 : Option Addr} {c1 c2 c3 c4 : Nat} {c : Cargo} {w : World} (h : CargoV w w.heap.size c A1 A2 A3 A4 c1 c2 c3 c4) (a b d : Int) :
    Calls Try.prog 4 #[cargoVal c A1 A2 A3 A4 c1 c2 c3 c4, .agg #[.int .i64 a, .int .i64 b, .int .i64 d]] w fun e w' => e = .returned (.bool true) ∧ Below w.heap.size w w' := by
  have hA1 : Below w.heap.size w (w.alloc (.cells #[.slice A1 c.heat.length c1, .int .i64 c.gas, .slice A2 c.holds.length c2, .slice A3 c.lots.length c3, .slice A4 c.seen.length c4] 27)) := (Below.refl _ _).alloc (Nat.le_refl _) _
  have hA2 : Below (w.alloc (.cells #[.slice A1 c.heat.length c1, .int .i64 c.gas, .slice A2 c.holds.length c2, .slice A3 c.lots.length c3, .slice A4 c.seen.length c4] 27)).heap.size (w.alloc (.cells #[.slice A1 c.heat.length c1, .int .i64 c.gas, .slice A2 c.holds.length c2, .slice A3 c.lots.length c3, .slice A4 c.seen.length c4] 27)) ((w.alloc (.cells #[.slice A1 c.heat.length c1, .int .i64 c.gas, .slice A2 c.holds.length c2, .slice A3 c.lots.length c3, .slice A4 c.seen.length c4] 27)).alloc (.cells #[.int .i64 a, .int .i64 b, .int .i64 d] 40)) := (Below.refl _ _).alloc (Nat.le_refl _) _
  have HK := hide ((BoxC.made h).next hA2)
  have HX0 := BoxI.made3 (w := (w.alloc (.cells #[.slice A1 c.heat.length c1, .int .i64 c.gas, .slice A2 c.holds.length c2, .slice A3 c.lots.length c3, .slice A4 c.seen.length c4] 27))) (T := 40) (a := a) (b := b) (d := d)
  rw [show (w.alloc (.cells #[.slice A1 c.heat.length c1, .int .i64 c.gas, .slice A2 c.holds.length c2, .slice A3 c.lots.length c3, .slice A4 c.seen.length c4] 27)).heap.size = w.heap.size + 1 by simp] at HX0
  have HX := hide HX0
  have HB := hide (hA1.trans (hA2.mono hA1.size))
  clear hA1 hA2 HX0 h
  go_enter Try.func4, Try.ntmps4
  go_upto_region 1 with (fail)
  generalize ((w.alloc (.cells #[.slice A1 c.heat.length c1, .int .i64 c.gas, .slice A2 c.holds.length c2, .slice A3 c.lots.length c3, .slice A4 c.seen.length c4] 27)).alloc (.cells #[.int .i64 a, .int .i64 b, .int .i64 d] 40)) = v0 at *
  have HFA := hide (fun (w : World) A1 A2 A3 A4 c1 c2 c3 c4 (h : CargoV w w.heap.size c A1 A2 A3 A4 c1 c2 c3 c4) => firstW_any h a)
  have HFB := hide (fun (w : World) A1 A2 A3 A4 c1 c2 c3 c4 (h : CargoV w w.heap.size c A1 A2 A3 A4 c1 c2 c3 c4) => first7_any h a)
  have HSA := hide (fun (w : World) A1 A2 A3 A4 c1 c2 c3 c4 (h : CargoV w w.heap.size c A1 A2 A3 A4 c1 c2 c3 c4) => spoilsW_any h b d)
  have HSB := hide (fun (w : World) A1 A2 A3 A4 c1 c2 c3 c4 (h : CargoV w w.heap.size c A1 A2 A3 A4 c1 c2 c3 c4) => spoils7_any h b d)
  generalize firstR c a = fr at *
  generalize firstE7 c a = fe at *
  generalize (spoilsR c b d).1 = s1 at *
  generalize (spoilsR c b d).2 = s2 at *
  obtain ⟨zx, hx⟩ := HX.out
  have t0 := hx 0 (by simp)
  have t1 := hx 1 (by simp)
  have t2 := hx 2 (by simp)
  simp only [nth, List.getD_cons_zero, List.getD_cons_succ] at t0 t1 t2
  clear hx
  obtain ⟨hv, z, x0, x1, x2, x3, x4⟩ := HK.out
  have HV := hide hv
  clear hv
  go_upto_region 2 with (go_at_call 24; refine (HFA.out _ _ _ _ _ _ _ _ _ HV.out).mono ?_; rintro e v1 ⟨R1, r1, rfl, hi, hb⟩)
  have HK := hide (HK.out.next hb)
  have HX := hide (HX.out.next hb)
  have HB := hide (HB.out.trans (hb.mono (by have := HB.out.size; exact this)))
  clear hb
  have HI1 := hide hi
  clear hi
  clear z x0 x1 x2 x3 x4 HV
  clear zx t0 t1 t2
  obtain ⟨zx, hx⟩ := HX.out
  have t0 := hx 0 (by simp)
  have t1 := hx 1 (by simp)
  have t2 := hx 2 (by simp)
  simp only [nth, List.getD_cons_zero, List.getD_cons_succ] at t0 t1 t2
  clear hx
  obtain ⟨hv, z, x0, x1, x2, x3, x4⟩ := HK.out
  have HV := hide hv
  clear hv
  go_upto_region 3 with (go_at_call 25; refine (HFB.out _ _ _ _ _ _ _ _ _ HV.out).mono ?_; rintro e v2 ⟨R2, r2, rfl, hi, hb⟩)
  have HK := hide (HK.out.next hb)
  have HX := hide (HX.out.next hb)
  have HI1 := hide (HI1.out.next hb)
  have HB := hide (HB.out.trans (hb.mono (by have := HB.out.size; exact this)))
  clear hb
  have HI2 := hide hi
  clear hi
  clear z x0 x1 x2 x3 x4 HV
  clear zx t0 t1 t2
  go_upto_region 5 with (go_at_call 22; refine (ints_any HI1.out HI2.out).mono ?_; rintro e v3 ⟨rfl, hd⟩; rw [intsB_self]; have hb := hd.below v2.heap.size)
  clear hd
  have HK := hide (HK.out.next hb)
  have HX := hide (HX.out.next hb)
  have HI1 := hide (HI1.out.next hb)
  have HI2 := hide (HI2.out.next hb)
  have HB := hide (HB.out.trans (hb.mono (by have := HB.out.size; exact this)))
  clear hb
  obtain ⟨zx, hx⟩ := HX.out
  have t0 := hx 0 (by simp)
  have t1 := hx 1 (by simp)
  have t2 := hx 2 (by simp)
  simp only [nth, List.getD_cons_zero, List.getD_cons_succ] at t0 t1 t2
  clear hx
  obtain ⟨hv, z, x0, x1, x2, x3, x4⟩ := HK.out
  have HV := hide hv
  clear hv
  go_upto_region 6 with (go_at_call 26; refine (HSA.out _ _ _ _ _ _ _ _ _ HV.out).mono ?_; rintro e v4 ⟨rfl, hb⟩)
  have HK := hide (HK.out.next hb)
  have HX := hide (HX.out.next hb)
  have HI1 := hide (HI1.out.next hb)
  have HI2 := hide (HI2.out.next hb)
  have HB := hide (HB.out.trans (hb.mono (by have := HB.out.size; exact this)))
  clear hb
  clear z x0 x1 x2 x3 x4 HV
  clear zx t0 t1 t2
  obtain ⟨zx, hx⟩ := HX.out
  have t0 := hx 0 (by simp)
  have t1 := hx 1 (by simp)
  have t2 := hx 2 (by simp)
  simp only [nth, List.getD_cons_zero, List.getD_cons_succ] at t0 t1 t2
  clear hx
  obtain ⟨hv, z, x0, x1, x2, x3, x4⟩ := HK.out
  have HV := hide hv
  clear hv
  go_upto_region 7 with (go_at_call 27; refine (HSB.out _ _ _ _ _ _ _ _ _ HV.out).mono ?_; rintro e v5 ⟨rfl, hb⟩)
  have HK := hide (HK.out.next hb)
  have HX := hide (HX.out.next hb)
  have HI1 := hide (HI1.out.next hb)
  have HI2 := hide (HI2.out.next hb)
  have HB := hide (HB.out.trans (hb.mono (by have := HB.out.size; exact this)))
  clear hb
  clear z x0 x1 x2 x3 x4 HV
  clear zx t0 t1 t2
  go_wp2_with (go_at_call 23; refine (awake_any _).mono ?_; rintro e v10 ⟨rfl, hb⟩)
  go_ret
  exact ⟨rfl, HB.out.trans (hb.mono HB.out.size)⟩
end Go.Proofs.Ytbkknliggnhpcaa
