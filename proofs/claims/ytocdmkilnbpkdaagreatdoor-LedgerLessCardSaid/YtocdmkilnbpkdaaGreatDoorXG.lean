/- What an argument reads as: an array of four bytes. -/
import Derived.Test.YtocdmkilnbpkdaaGreatDoorXE
set_option linter.unusedVariables false
set_option linter.unusedSimpArgs false
namespace Go.Proofs.YtocdmkilnbpkdaaGreatDoor
open Go.RowKit Go.WideShapes Go.ChangeShapes Go.Deep Go.Joins

section
variable {H : Type} {enc : TypeId × Value → H} {w : World} {spare : Nat → Bool} {held : Bool} {n : Nat}
theorem okWide_arr {P : Program} {r : Go.Reach} {base : Nat} {t e : TypeId} {n : Nat} {v : Value} (ht : P.underlying t = some (.array n e)) (h : Value.okWide P w r base t v) : ∃ cs, v = .agg cs ∧ cs.size = P.cellsOf t := by
 simp only [Value.okWide, ht] at h
 obtain ⟨cs, h1, h2, _⟩ := h
 exact ⟨cs, h1, h2⟩
theorem arr_open {P : Program} {r : Go.Reach} {b0 : Nat} {t e : TypeId} {n : Nat} {k : IntKind} {v : Value} {d : DataW H} {p : List MemPlace} (ht : P.underlying t = some (.array n e)) (he : P.underlying e = some (.int k)) (hc : P.cellsOf e = 1) (hn : P.cellsOf t = n)
 (hv : Value.okWide P w r b0 t v) (h : DataW.Trod enc P w 0 spare held t v d p) : ∃ l : List Int, l.length = n ∧ v = .agg (l.map (Value.int k)).toArray ∧ ∀ i, i < n → (Lit.int k (nth l i)).wf = true := by
 obtain ⟨cs, rfl, hsz⟩ := okWide_arr ht hv
 obtain ⟨l⟩ := cs
 obtain ⟨fuel, hf⟩ := h
 obtain ⟨xs, m, _, _, hl, hx, hg⟩ := DataW.trod_array ht hf
 have hll : l.length = n := by have := hsz.trans hn; simpa using this
 obtain ⟨ys, hyl, hy⟩ := list_of (α := Int) (Q := fun i x => l[i]? = some (.int k x) ∧ (Lit.int k x).wf = true) (len := n) (fun i hi => by
  have h1 := hg i hi
  have hxi : xs[i]? = some (xs[i]'(by omega)) := List.getElem?_eq_getElem (by omega)
  rw [hc, hxi, Nat.mul_one] at h1
  obtain ⟨a, e1, _, e2⟩ := DataW.trod_int he h1
  exact ⟨a, at_of_take e1, e2⟩)
 refine ⟨ys, hyl, ?_, fun i hi => (hy i hi).2⟩
 congr 2
 apply List.ext_getElem?
 intro i
 by_cases hi : i < n
 · rw [(hy i hi).1, List.getElem?_map, List.getElem?_eq_getElem (by omega)]
   simp [nth, show i < ys.length by omega]
 · rw [List.getElem?_eq_none (by omega), List.getElem?_eq_none (by simp; omega)]
theorem Tryz.cellsU8 : Tryz.prog.cellsOf 5 = 1 := by kernel_rfl
theorem u8_bd {a : Int} (h : (Lit.int .u8 a).wf = true) : 0 ≤ a ∧ a ≤ 255 := by
 simp [Lit.wf, IntKind.min, IntKind.max, IntKind.signed, IntKind.bits] at h; omega
set_option maxRecDepth 100000 in
theorem u8x4_open {r : Go.Reach} {b0 : Nat} {v : Value} {d : DataW H} {p : List MemPlace} (hv : Value.okWide Tryz.prog w r b0 69 v) (h : DataW.Trod enc Tryz.prog w 0 spare held 69 v d p) : ∃ a b c e : Int, v = .agg #[.int .u8 a, .int .u8 b, .int .u8 c, .int .u8 e] ∧ (0 ≤ a ∧ a ≤ 255) ∧ (0 ≤ b ∧ b ≤ 255) ∧ (0 ≤ c ∧ c ≤ 255) ∧ (0 ≤ e ∧ e ≤ 255) := by
 obtain ⟨l, hl, hv, hw⟩ := arr_open Tryz.underlying69 Tryz.underlying5 Tryz.cellsU8 (by kernel_rfl) hv h
 match l, hl with
 | [a, b, c, e], _ => exact ⟨a, b, c, e, hv, u8_bd (hw 0 (by omega)), u8_bd (hw 1 (by omega)), u8_bd (hw 2 (by omega)), u8_bd (hw 3 (by omega))⟩
end
end Go.Proofs.YtocdmkilnbpkdaaGreatDoor
