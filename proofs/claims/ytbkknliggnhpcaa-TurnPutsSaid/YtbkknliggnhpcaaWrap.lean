/- The contracts of the program's and the reference's exported functions of chapter 07 in one spelling, as the laws take them. -/
import Derived.Test.YtbkknliggnhpcaaLawB
import Derived.Test.YtbkknliggnhpcaaBoxI
import Derived.Test.YtbkknliggnhpcaaPe
set_option linter.unusedVariables false
set_option linter.unusedSimpArgs false
namespace Go.Proofs.Ytbkknliggnhpcaa
open Go.RowKit
theorem intsB_self (l : List Int) : intsB l l = true := by
  have h : ∀ l : List Int, lessB l l = false := fun l => by
    induction l with
    | nil => rfl
    | cons x l ih => simp [lessB, ih]
  simp [intsB, h]
theorem turnsW_any {A1 A2 A3 A4 : Option Addr} {c1 c2 c3 c4 : Nat} {c : Cargo} {w : World} (h : CargoV w w.heap.size c A1 A2 A3 A4 c1 c2 c3 c4) (lot : Int) :
    Calls Try.prog 18 #[cargoVal c A1 A2 A3 A4 c1 c2 c3 c4, .int .i64 lot] w fun e w' => e = .returned (.tuple #[.agg #[.int .i64 (nth (turnsR c lot).1.1 0), .int .i64 (nth (turnsR c lot).1.1 1)], .int .i64 (turnsR c lot).1.2, .int .i64 (turnsR c lot).2]) ∧ Below w.heap.size w w' := by
  have := turns_any h lot; rw [turnsV_eq] at this; exact this
theorem safeW_any {A1 A2 A3 A4 : Option Addr} {c1 c2 c3 c4 : Nat} {c : Cargo} {w : World} (h : CargoV w w.heap.size c A1 A2 A3 A4 c1 c2 c3 c4) (hour : Int) :
    Calls Try.prog 20 #[cargoVal c A1 A2 A3 A4 c1 c2 c3 c4, .int .i64 hour] w fun e w' => ∃ A cp, e = .returned (.tuple #[.slice A (safeR c hour).length cp, .int .i64 (safeE c hour)]) ∧ IntsS w' w'.heap.size A (safeR c hour).length cp (natInts (safeR c hour)) ∧ Below w.heap.size w w' := by
  have := safe_any h hour; rw [safeV_eq] at this; exact this
theorem firstW_any {A1 A2 A3 A4 : Option Addr} {c1 c2 c3 c4 : Nat} {c : Cargo} {w : World} (h : CargoV w w.heap.size c A1 A2 A3 A4 c1 c2 c3 c4) (hold : Int) :
    Calls Try.prog 24 #[cargoVal c A1 A2 A3 A4 c1 c2 c3 c4, .int .i64 hold] w fun e w' => ∃ A cp, e = .returned (.tuple #[.slice A (firstR c hold).length cp, .int .i64 (firstE7 c hold)]) ∧ IntsS w' w'.heap.size A (firstR c hold).length cp (natInts (firstR c hold)) ∧ Below w.heap.size w w' := by
  have := first_any h hold; rw [firstV_eq] at this; exact this
theorem spoilsW_any {A1 A2 A3 A4 : Option Addr} {c1 c2 c3 c4 : Nat} {c : Cargo} {w : World} (h : CargoV w w.heap.size c A1 A2 A3 A4 c1 c2 c3 c4) (b lot : Int) :
    Calls Try.prog 26 #[cargoVal c A1 A2 A3 A4 c1 c2 c3 c4, .int .i64 b, .int .i64 lot] w fun e w' => e = .returned (.tuple #[.int .i64 (spoilsR c b lot).1, .int .i64 (spoilsR c b lot).2]) ∧ Below w.heap.size w w' := by
  have := spoils_any h b lot; rw [spoilsV_eq] at this; exact this
theorem outR_any {A1 A2 A3 A4 : Option Addr} {c1 c2 c3 c4 : Nat} {c : Cargo} {w : World} (h : CargoV w w.heap.size c A1 A2 A3 A4 c1 c2 c3 c4) (hold un : Int) :
    Calls Try.prog 31 #[cargoVal c A1 A2 A3 A4 c1 c2 c3 c4, .int .i64 hold, .int .i64 un] w fun e w' => ∃ A cp, e = .returned (.tuple #[.slice A (outV c hold un).1.length cp, .int .i64 (outV c hold un).2]) ∧ IntsS w' w'.heap.size A (outV c hold un).1.length cp (natInts (outV c hold un).1) ∧ Below w.heap.size w w' := by
  refine (out7_any h hold un).mono ?_
  rintro e w' ⟨r, A, cp, h0, h1, rfl, h2, h3⟩
  obtain ⟨e1, e2, e3⟩ := outV_spec h0 h1
  refine ⟨A, cp, ?_, ?_, h3⟩
  · rw [e2, e3]
  · rw [e1, e2]; exact h2
end Go.Proofs.Ytbkknliggnhpcaa
