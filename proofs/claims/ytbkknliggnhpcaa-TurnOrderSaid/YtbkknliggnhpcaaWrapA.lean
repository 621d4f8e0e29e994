/- The contracts of the program's exported functions of chapter 07 in the reference's words, as the laws take them; the law's valid. -/
import Derived.Test.YtbkknliggnhpcaaLawB
import Derived.Test.YtbkknliggnhpcaaBoxI
import Derived.Test.YtbkknliggnhpcaaPc
set_option linter.unusedVariables false
set_option linter.unusedSimpArgs false
namespace Go.Proofs.Ytbkknliggnhpcaa
open Go.RowKit
attribute [local go_sem ↓] Go.wp_at_zero Go.wp_at_succ
theorem intsB_self (l : List Int) : intsB l l = true := by
  have h : ∀ l : List Int, lessB l l = false := fun l => by
    induction l with
    | nil => rfl
    | cons x l ih => simp [lessB, ih]
  simp [intsB, h]
theorem turnsW_any {A1 A2 A3 A4 : Option Addr} {c1 c2 c3 c4 : Nat} {c : Cargo} {w : World} (h : CargoV w w.heap.size c A1 A2 A3 A4 c1 c2 c3 c4) (lot : Int) :
    Calls Try.prog 18 #[cargoVal c A1 A2 A3 A4 c1 c2 c3 c4, .int .i64 lot] w fun e w' => e = .returned (.tuple #[.agg #[.int .i64 (nth (turnsR c lot).1.1 0), .int .i64 (nth (turnsR c lot).1.1 1)], .int .i64 (turnsR c lot).1.2, .int .i64 (turnsR c lot).2]) ∧ Below w.heap.size w w' := by
  have := turns_any h lot; rw [turnsV_eq] at this; exact this
theorem safeW_any {A1 A2 A3 A4 : Option Addr} {c1 c2 c3 c4 : Nat} {c : Cargo} {w : World} (h : CargoV w w.heap.size c A1 A2 A3 A4 c1 c2 c3 c4) (hour : Int) :
    Calls Try.prog 20 #[cargoVal c A1 A2 A3 A4 c1 c2 c3 c4, .int .i64 hour] w fun e w' => ∃ A cp, e = .returned (.tuple #[.slice A (safeR c hour).length cp, .int .i64 (safeE c hour)]) ∧ IntsS w' w'.heap.size A (safeR c hour).length cp (natInts (safeR c hour)) ∧ Below w.heap.size w w' := by
  have := safe_any h hour; rw [safeV_eq] at this; exact this
theorem firstW_any {A1 A2 A3 A4 : Option Addr} {c1 c2 c3 c4 : Nat} {c : Cargo} {w : World} (h : CargoV w w.heap.size c A1 A2 A3 A4 c1 c2 c3 c4) (hold : Int) :
    Calls Try.prog 24 #[cargoVal c A1 A2 A3 A4 c1 c2 c3 c4, .int .i64 hold] w fun e w' => ∃ A cp, e = .returned (.tuple #[.slice A (firstR c hold).length cp, .int .i64 (firstE7 c hold)]) ∧ IntsS w' w'.heap.size A (firstR c hold).length cp (natInts (firstR c hold)) ∧ Below w.heap.size w w' := by
  have := first_any h hold; rw [firstV_eq] at this; exact this
theorem spoilsW_any {A1 A2 A3 A4 : Option Addr} {c1 c2 c3 c4 : Nat} {c : Cargo} {w : World} (h : CargoV w w.heap.size c A1 A2 A3 A4 c1 c2 c3 c4) (b lot : Int) :
    Calls Try.prog 26 #[cargoVal c A1 A2 A3 A4 c1 c2 c3 c4, .int .i64 b, .int .i64 lot] w fun e w' => e = .returned (.tuple #[.int .i64 (spoilsR c b lot).1, .int .i64 (spoilsR c b lot).2]) ∧ Below w.heap.size w w' := by
  have := spoils_any h b lot; rw [spoilsV_eq] at this; exact this
set_option maxHeartbeats 1600000 in
set_option maxRecDepth 100000 in
theorem valid7_any {A1 A2 A3 A4 : Option Addr} {c1 c2 c3 c4 : Nat} {c : Cargo} {w : World} (h : CargoV w w.heap.size c A1 A2 A3 A4 c1 c2 c3 c4) {v : Bool} (hv0 : decide ((checkM c).2.2 = 0) = v) :
    Calls Try.prog 35 #[cargoVal c A1 A2 A3 A4 c1 c2 c3 c4] w fun e w' => e = .returned (.bool v) ∧ Below w.heap.size w w' := by
  have HK := hide (BoxC.made h)
  have HB : Hid (Below w.heap.size w (w.alloc (.cells #[.slice A1 c.heat.length c1, .int .i64 c.gas, .slice A2 c.holds.length c2, .slice A3 c.lots.length c3, .slice A4 c.seen.length c4] 27))) := hide ((Below.refl _ _).alloc (Nat.le_refl _) _)
  have HV0 := hide hv0
  clear h hv0
  go_enter Try.func35, Try.ntmps35
  go_upto_region 1 with (fail)
  generalize (w.alloc (.cells #[.slice A1 c.heat.length c1, .int .i64 c.gas, .slice A2 c.holds.length c2, .slice A3 c.lots.length c3, .slice A4 c.seen.length c4] 27)) = v0 at *
  obtain ⟨hv, z, x0, x1, x2, x3, x4⟩ := HK.out
  have HV := hide hv
  clear hv
  go_wp2_with (go_at_call 17; refine (check7_any HV.out).mono ?_; rintro e v1 ⟨rfl, hb⟩)
  go_ret
  refine ⟨ret_b ?_, HB.out.trans (hb.mono HB.out.size)⟩
  rw [← HV0.out]
  rw [Bool.eq_iff_iff]; simp
end Go.Proofs.Ytbkknliggnhpcaa
