/- Contracts of plus, less, both and upTo of package ledger. -/
import Derived.Test.YtocdmkilnbpkdaaGreatDoorZD
import Derived.Test.YtocdmkilnbpkdaaGreatDoorYE
set_option linter.unusedVariables false
set_option linter.unusedSimpArgs false
namespace Go.Proofs.YtocdmkilnbpkdaaGreatDoor
open Go.RowKit

abbrev spanVal (s : Span) : Value := .agg #[.int .i64 s.lo, .int .i64 s.hi]
theorem below3 {w : World} (a b c : Obj) : Below w.heap.size w (((w.alloc a).alloc b).alloc c) := (((Below.refl _ _).alloc (Nat.le_refl _) _).alloc (by simp) _).alloc (by simp; omega) _
set_option maxHeartbeats 400000 in
theorem plus_any (a b : Span) (w : World) : Calls Tryz.prog 105 #[spanVal a, spanVal b] w fun e w' => e = .returned (spanVal (plusW a b)) ∧ Below w.heap.size w w' := by
 obtain ⟨a1, a2⟩ := a
 obtain ⟨b1, b2⟩ := b
 have hA := fun W => below3 (w := w) (.cells #[.int .i64 a1, .int .i64 a2] 30) (.cells #[.int .i64 b1, .int .i64 b2] 30) W
 go_enter Tryz.func105, Tryz.ntmps105
 go_wp2
 all_goals exact bodyPost_ret (v := spanVal (plusW ⟨a1, a2⟩ ⟨b1, b2⟩)) (by simp [results, Tryz.results105, go_sem, plusW, wrap64, IntKind.wrap_i64] <;> omega) rfl ⟨rfl, hA _⟩
set_option maxHeartbeats 400000 in
theorem minus_any (a b : Span) (w : World) : Calls Tryz.prog 102 #[spanVal a, spanVal b] w fun e w' => e = .returned (spanVal (lessW a b)) ∧ Below w.heap.size w w' := by
 obtain ⟨a1, a2⟩ := a
 obtain ⟨b1, b2⟩ := b
 have hA := fun W => below3 (w := w) (.cells #[.int .i64 a1, .int .i64 a2] 30) (.cells #[.int .i64 b1, .int .i64 b2] 30) W
 go_enter Tryz.func102, Tryz.ntmps102
 go_wp2
 all_goals exact bodyPost_ret (v := spanVal (lessW ⟨a1, a2⟩ ⟨b1, b2⟩)) (by simp [results, Tryz.results102, go_sem, lessW, wrap64, IntKind.wrap_i64] <;> omega) rfl ⟨rfl, hA _⟩
set_option maxHeartbeats 400000 in
theorem both_any (a b : Span) (w : World) : Calls Tryz.prog 101 #[spanVal a, spanVal b] w fun e w' => e = .returned (spanVal (both a b)) ∧ Below w.heap.size w w' := by
 obtain ⟨a1, a2⟩ := a
 obtain ⟨b1, b2⟩ := b
 have hA := fun W => below3 (w := w) (.cells #[.int .i64 a1, .int .i64 a2] 30) (.cells #[.int .i64 b1, .int .i64 b2] 30) W
 go_enter Tryz.func101, Tryz.ntmps101
 go_wp2
 all_goals exact bodyPost_ret (v := spanVal (both ⟨a1, a2⟩ ⟨b1, b2⟩)) (by simp [results, Tryz.results101, go_sem, both, wrap64, IntKind.wrap_i64] <;> omega) rfl ⟨rfl, hA _⟩
set_option maxHeartbeats 400000 in
theorem upTo_any (n : Int) (w : World) : Calls Tryz.prog 103 #[.int .i64 n] w fun e w' => e = .returned (spanVal ⟨0, n⟩) ∧ Below w.heap.size w w' := by
 go_enter Tryz.func103, Tryz.ntmps103
 go_wp2
 exact bodyPost_ret (v := spanVal ⟨0, n⟩) (by simp [results, Tryz.results103, go_sem]) rfl ⟨rfl, (Below.refl _ _).alloc (Nat.le_refl _) _⟩
end Go.Proofs.YtocdmkilnbpkdaaGreatDoor
