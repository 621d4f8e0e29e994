/- A cargo's box and a span's box in memory, kept alive over calls. Plain facts, no walk. -/
import Derived.Test.YtbkknliggnhpcaaGA
set_option linter.unusedVariables false
set_option linter.unusedSimpArgs false
namespace Go.Proofs.Ytbkknliggnhpcaa
open Go.RowKit

/-- A cargo's box. -/
def BoxC (W : World) (g : Nat) (c : Cargo) (A1 A2 A3 A4 : Option Addr) (c1 c2 c3 c4 : Nat) : Prop :=
  CargoV W W.heap.size c A1 A2 A3 A4 c1 c2 c3 c4 ∧ g < W.heap.size ∧ W.cell? ⟨g, 0, none⟩ = some (.slice A1 c.heat.length c1) ∧ W.cell? ⟨g, 1, none⟩ = some (.int .i64 c.gas) ∧ W.cell? ⟨g, 2, none⟩ = some (.slice A2 c.holds.length c2) ∧ W.cell? ⟨g, 3, none⟩ = some (.slice A3 c.lots.length c3) ∧ W.cell? ⟨g, 4, none⟩ = some (.slice A4 c.seen.length c4)
theorem BoxC.next {W W' : World} {g : Nat} {c : Cargo} {A1 A2 A3 A4 : Option Addr} {c1 c2 c3 c4 : Nat} (h : BoxC W g c A1 A2 A3 A4 c1 c2 c3 c4) (hb : Below W.heap.size W W') : BoxC W' g c A1 A2 A3 A4 c1 c2 c3 c4 := by
  obtain ⟨h1, h2, h3, h4, h5, h6, h7⟩ := h
  exact ⟨h1.next hb, Nat.lt_of_lt_of_le h2 hb.size, (hb.cell (p := ⟨g, 0, none⟩) h2).trans h3, (hb.cell (p := ⟨g, 1, none⟩) h2).trans h4, (hb.cell (p := ⟨g, 2, none⟩) h2).trans h5, (hb.cell (p := ⟨g, 3, none⟩) h2).trans h6, (hb.cell (p := ⟨g, 4, none⟩) h2).trans h7⟩
theorem BoxC.made {w : World} {c : Cargo} {A1 A2 A3 A4 : Option Addr} {c1 c2 c3 c4 : Nat} (h : CargoV w w.heap.size c A1 A2 A3 A4 c1 c2 c3 c4) : BoxC (w.alloc (.cells #[.slice A1 c.heat.length c1, .int .i64 c.gas, .slice A2 c.holds.length c2, .slice A3 c.lots.length c3, .slice A4 c.seen.length c4] 27)) w.heap.size c A1 A2 A3 A4 c1 c2 c3 c4 := by
  refine ⟨h.next ((Below.refl _ _).alloc (Nat.le_refl _) _), by simp, ?_, ?_, ?_, ?_, ?_⟩
  all_goals rw [World.cell?_alloc_at _ _ _ _ rfl]; rfl
/-- A span's box. -/
def BoxS (W : World) (g : Nat) (a b : Int) : Prop := g < W.heap.size ∧ W.cell? ⟨g, 0, none⟩ = some (.int .i64 a) ∧ W.cell? ⟨g, 1, none⟩ = some (.int .i64 b)
theorem BoxS.next {W W' : World} {g : Nat} {a b : Int} (h : BoxS W g a b) (hb : Below W.heap.size W W') : BoxS W' g a b :=
  ⟨Nat.lt_of_lt_of_le h.1 hb.size, (hb.cell (p := ⟨g, 0, none⟩) h.1).trans h.2.1, (hb.cell (p := ⟨g, 1, none⟩) h.1).trans h.2.2⟩
theorem BoxS.made {w : World} {a b : Int} : BoxS (w.alloc (.cells #[.int .i64 a, .int .i64 b] 32)) w.heap.size a b := by
  refine ⟨by simp, ?_, ?_⟩
  all_goals rw [World.cell?_alloc_at _ _ _ _ rfl]; rfl
end Go.Proofs.Ytbkknliggnhpcaa
