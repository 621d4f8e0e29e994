/- What further arguments read as: slices of bytes; the lot that is put in, and where. -/
import Derived.Test.YtbkknliggnhpcaaRowB
import Derived.Test.YtbkknliggnhpcaaRefS
set_option linter.unusedVariables false
set_option linter.unusedSimpArgs false
namespace Go.Proofs.Ytbkknliggnhpcaa
open Go.RowKit Go.WideShapes Go.ChangeShapes Go.Deep Go.Joins

section
variable {H : Type} {enc : TypeId × Value → H} {w : World} {spare : Nat → Bool} {held : Bool} {n : Nat}
theorem bytes_row {v : Value} {x : DataW H × List MemPlace} (h : DataW.trod enc Try.prog w 0 spare held n 51 [v] = some x) : ∃ A l cap, v = .slice A l.length cap ∧ BytesS w w.heap.size A cap l := by
  rcases open_slice Try.underlying51 h with ⟨hcs, _⟩ | ⟨a, len, cap, m, n', D, Pl, hcs, _, hl, hm, hmm, _, hi⟩
  · cases hcs; exact ⟨none, [], 0, rfl, ⟨Nat.le_refl _, by simp [maxLen], Row.nil_, fun i => by simp [nth]⟩⟩
  · cases hcs
    have hle : len ≤ m := by rw [hmm]; split <;> omega
    rw [Try.cellsU8] at hi
    obtain ⟨xs, hxl, hx⟩ := list_of (α := Int) (Q := fun i x => (∃ cs, w.cells? 0 (a.add (i * 1)) 1 = some cs ∧ cs[0]? = some (.int .u8 x)) ∧ (Lit.int .u8 x).wf = true) (len := len) (fun i hi' => by
      obtain ⟨cs, h1, h2⟩ := hi i (by omega)
      obtain ⟨k, e, _, hw⟩ := DataW.trod_int Try.underlying5 h2
      exact ⟨k, ⟨cs, h1, by rw [e]; rfl⟩, hw⟩)
    subst hxl
    refine ⟨some a, xs, cap, rfl, ⟨hl, hm, ?_, fun i => ?_⟩⟩
    · have := row_of (w := w) (a := a) (len := xs.length) (k := 1) (by omega) (f := bytesF xs) (fun i hi' => by
        obtain ⟨⟨cs, h1, h2⟩, _⟩ := hx i hi'
        refine ⟨cs, h1, fun j hj => ?_⟩
        obtain rfl : j = 0 := by omega
        rw [h2, Nat.mul_one, Nat.add_zero]; rfl)
      rwa [Nat.mul_one] at this
    · by_cases h : i < xs.length
      · exact u8_bd (hx i h).2
      · rw [nth_out (by omega)]; decide
set_option maxRecDepth 100000 in
theorem bytes_open {r : Reach} {b0 : Nat} {v : Value} {d : DataW H} {p : List MemPlace} (hv : Value.okWide Try.prog w r b0 51 v) (h : DataW.Trod enc Try.prog w 0 spare held 51 v d p) : ∃ A l cap, v = .slice A l.length cap ∧ BytesS w w.heap.size A cap l := by
  obtain ⟨a, len, cap, rfl⟩ := okWide_slice Try.underlying51 hv
  obtain ⟨fuel, hf⟩ := h
  exact bytes_row hf
end
end Go.Proofs.Ytbkknliggnhpcaa
