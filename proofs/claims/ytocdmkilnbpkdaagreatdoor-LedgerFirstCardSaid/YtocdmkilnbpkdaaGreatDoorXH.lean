/- What an argument reads as: a slice of bytes. -/
import Derived.Test.YtocdmkilnbpkdaaGreatDoorXE
import Derived.Test.YtocdmkilnbpkdaaGreatDoorID
set_option linter.unusedVariables false
set_option linter.unusedSimpArgs false
namespace Go.Proofs.YtocdmkilnbpkdaaGreatDoor
open Go.RowKit Go.WideShapes Go.ChangeShapes Go.Deep Go.Joins

theorem nth_beyond {α : Type} [Inhabited α] {l : List α} {i : Nat} (h : l.length ≤ i) : nth l i = default := by
 unfold nth; rw [List.getD_eq_getElem?_getD, List.getElem?_eq_none h]; rfl
section
variable {H : Type} {enc : TypeId × Value → H} {w : World} {spare : Nat → Bool} {held : Bool} {n : Nat}
theorem Tryz.cellsU8 : Tryz.prog.cellsOf 5 = 1 := by kernel_rfl
theorem u8_bd {a : Int} (h : (Lit.int .u8 a).wf = true) : 0 ≤ a ∧ a ≤ 255 := by
 simp [Lit.wf, IntKind.min, IntKind.max, IntKind.signed, IntKind.bits] at h; omega
theorem bytes_row {v : Value} {x : DataW H × List MemPlace} (h : DataW.trod enc Tryz.prog w 0 spare held n 53 [v] = some x) : ∃ A l cap, v = .slice A l.length cap ∧ BytesS w w.heap.size A cap l := by
 rcases open_slice Tryz.underlying53 h with ⟨hcs, _⟩ | ⟨a, len, cap, m, n', D, Pl, hcs, _, hl, hm, hmm, _, hi⟩
 · cases hcs; exact ⟨none, [], 0, rfl, ⟨Nat.le_refl _, by simp [maxLen], Row.nil_, fun i => by simp [nth]⟩⟩
 · cases hcs
   have hle : len ≤ m := by rw [hmm]; split <;> omega
   rw [Tryz.cellsU8] at hi
   obtain ⟨xs, hxl, hx⟩ := list_of (α := Int) (Q := fun i x => (∃ cs, w.cells? 0 (a.add (i * 1)) 1 = some cs ∧ cs[0]? = some (.int .u8 x)) ∧ (Lit.int .u8 x).wf = true) (len := len) (fun i hi' => by
    obtain ⟨cs, h1, h2⟩ := hi i (by omega)
    obtain ⟨k, e, _, hw⟩ := DataW.trod_int Tryz.underlying5 h2
    exact ⟨k, ⟨cs, h1, by rw [e]; rfl⟩, hw⟩)
   subst hxl
   refine ⟨some a, xs, cap, rfl, ⟨hl, hm, ?_, fun i => ?_⟩⟩
   · have := row_of (w := w) (a := a) (len := xs.length) (k := 1) (by omega) (f := bytesF xs) (fun i hi' => by
      obtain ⟨⟨cs, h1, h2⟩, _⟩ := hx i hi'
      refine ⟨cs, h1, fun j hj => ?_⟩
      obtain rfl : j = 0 := by omega
      rw [h2, Nat.mul_one, Nat.add_zero]; rfl)
     rwa [Nat.mul_one] at this
   · by_cases h : i < xs.length
     · exact u8_bd (hx i h).2
     · rw [nth_beyond (by omega)]; decide
set_option maxRecDepth 100000 in
theorem bytes_open {r : Go.Reach} {b0 : Nat} {v : Value} {d : DataW H} {p : List MemPlace} (hv : Value.okWide Tryz.prog w r b0 53 v) (h : DataW.Trod enc Tryz.prog w 0 spare held 53 v d p) : ∃ A l cap, v = .slice A l.length cap ∧ BytesS w w.heap.size A cap l := by
 obtain ⟨a, len, cap, rfl⟩ := okWide_slice Tryz.underlying53 hv
 obtain ⟨fuel, hf⟩ := h
 exact bytes_row hf
end
end Go.Proofs.YtocdmkilnbpkdaaGreatDoor
