/- Rows of integers by value, boxed. -/
import Derived.Test.YtbkknliggnhpcaaGA
set_option linter.unusedVariables false
set_option linter.unusedSimpArgs false
namespace Go.Proofs.Ytbkknliggnhpcaa
open Go.RowKit
/-- A row of integers by value, boxed. -/
def BoxI (W : World) (g : Nat) (l : List Int) : Prop := g < W.heap.size ∧ ∀ j, j < l.length → W.cell? ⟨g, j, none⟩ = some (.int .i64 (nth l j))
theorem BoxI.next {W W' : World} {g : Nat} {l : List Int} (h : BoxI W g l) (hb : Below W.heap.size W W') : BoxI W' g l :=
  ⟨Nat.lt_of_lt_of_le h.1 hb.size, fun j hj => (hb.cell (p := ⟨g, j, none⟩) h.1).trans (h.2 j hj)⟩
theorem BoxI.made3 {w : World} {T : TypeId} {a b d : Int} : BoxI (w.alloc (.cells #[.int .i64 a, .int .i64 b, .int .i64 d] T)) w.heap.size [a, b, d] := by
  refine ⟨by simp, fun j hj => ?_⟩
  rw [World.cell?_alloc_at _ _ _ _ rfl]
  match j, hj with
  | 0, _ => rfl
  | 1, _ => rfl
  | 2, _ => rfl
theorem BoxI.made2 {w : World} {T : TypeId} {a b : Int} : BoxI (w.alloc (.cells #[.int .i64 a, .int .i64 b] T)) w.heap.size [a, b] := by
  refine ⟨by simp, fun j hj => ?_⟩
  rw [World.cell?_alloc_at _ _ _ _ rfl]
  match j, hj with
  | 0, _ => rfl
  | 1, _ => rfl
end Go.Proofs.Ytbkknliggnhpcaa
