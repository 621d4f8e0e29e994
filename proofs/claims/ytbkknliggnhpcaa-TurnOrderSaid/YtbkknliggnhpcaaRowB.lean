/- What further arguments read as: arrays of numbers by value, spans, looks, bytes. -/
import Derived.Test.YtbkknliggnhpcaaGD
set_option linter.unusedVariables false
set_option linter.unusedSimpArgs false
namespace Go.Proofs.Ytbkknliggnhpcaa
open Go.RowKit Go.WideShapes Go.ChangeShapes Go.Deep Go.Joins

section
variable {H : Type} {enc : TypeId × Value → H} {w : World} {spare : Nat → Bool} {held : Bool}
theorem okWide_arr {P : Program} {r : Reach} {base : Nat} {t e : TypeId} {n : Nat} {v : Value} (ht : P.underlying t = some (.array n e)) (h : Value.okWide P w r base t v) : ∃ cs, v = .agg cs ∧ cs.size = P.cellsOf t := by
  simp only [Value.okWide, ht] at h
  obtain ⟨cs, h1, h2, _⟩ := h
  exact ⟨cs, h1, h2⟩
theorem arr_open {P : Program} {r : Reach} {b0 : Nat} {t e : TypeId} {n : Nat} {k : IntKind} {v : Value} {d : DataW H} {p : List MemPlace} (ht : P.underlying t = some (.array n e)) (he : P.underlying e = some (.int k)) (hc : P.cellsOf e = 1) (hn : P.cellsOf t = n)
    (hv : Value.okWide P w r b0 t v) (h : DataW.Trod enc P w 0 spare held t v d p) : ∃ l : List Int, l.length = n ∧ v = .agg (l.map (Value.int k)).toArray ∧ ∀ i, i < n → (Lit.int k (nth l i)).wf = true := by
  obtain ⟨cs, rfl, hsz⟩ := okWide_arr ht hv
  obtain ⟨l⟩ := cs
  obtain ⟨fuel, hf⟩ := h
  obtain ⟨xs, m, _, _, hl, hx, hg⟩ := DataW.trod_array ht hf
  have hll : l.length = n := by have := hsz.trans hn; simpa using this
  obtain ⟨ys, hyl, hy⟩ := list_of (α := Int) (Q := fun i x => l[i]? = some (.int k x) ∧ (Lit.int k x).wf = true) (len := n) (fun i hi => by
    have h1 := hg i hi
    have hxi : xs[i]? = some (xs[i]'(by omega)) := List.getElem?_eq_getElem (by omega)
    rw [hc, hxi, Nat.mul_one] at h1
    obtain ⟨a, e1, _, e2⟩ := DataW.trod_int he h1
    exact ⟨a, at_of_take e1, e2⟩)
  refine ⟨ys, hyl, ?_, fun i hi => (hy i hi).2⟩
  congr 2
  apply List.ext_getElem?
  intro i
  by_cases hi : i < n
  · rw [(hy i hi).1, List.getElem?_map, List.getElem?_eq_getElem (by omega)]
    simp [nth, show i < ys.length by omega]
  · rw [List.getElem?_eq_none (by omega), List.getElem?_eq_none (by simp; omega)]
set_option maxRecDepth 100000 in
theorem ints3_open {r : Reach} {b0 : Nat} {v : Value} {d : DataW H} {p : List MemPlace} (hv : Value.okWide Try.prog w r b0 40 v) (h : DataW.Trod enc Try.prog w 0 spare held 40 v d p) : ∃ a b c : Int, v = .agg #[.int .i64 a, .int .i64 b, .int .i64 c] := by
  obtain ⟨l, hl, hv, _⟩ := arr_open Try.underlying40 Try.underlying3 Try.cellsInt (by kernel_rfl) hv h
  match l, hl with
  | [a, b, c], _ => exact ⟨a, b, c, hv⟩
set_option maxRecDepth 100000 in
theorem ints2_open {r : Reach} {b0 : Nat} {v : Value} {d : DataW H} {p : List MemPlace} (hv : Value.okWide Try.prog w r b0 44 v) (h : DataW.Trod enc Try.prog w 0 spare held 44 v d p) : ∃ a b : Int, v = .agg #[.int .i64 a, .int .i64 b] := by
  obtain ⟨l, hl, hv, _⟩ := arr_open Try.underlying44 Try.underlying3 Try.cellsInt (by kernel_rfl) hv h
  match l, hl with
  | [a, b], _ => exact ⟨a, b, hv⟩
theorem Try.cellsU8 : Try.prog.cellsOf 5 = 1 := by kernel_rfl
theorem u8_bd {a : Int} (h : (Lit.int .u8 a).wf = true) : 0 ≤ a ∧ a ≤ 255 := by
  simp [Lit.wf, IntKind.min, IntKind.max, IntKind.signed, IntKind.bits] at h; omega
set_option maxRecDepth 100000 in
theorem u8x2_open {r : Reach} {b0 : Nat} {v : Value} {d : DataW H} {p : List MemPlace} (hv : Value.okWide Try.prog w r b0 82 v) (h : DataW.Trod enc Try.prog w 0 spare held 82 v d p) : ∃ a b : Int, v = .agg #[.int .u8 a, .int .u8 b] ∧ (0 ≤ a ∧ a ≤ 255) ∧ (0 ≤ b ∧ b ≤ 255) := by
  obtain ⟨l, hl, hv, hw⟩ := arr_open Try.underlying82 Try.underlying5 Try.cellsU8 (by kernel_rfl) hv h
  match l, hl with
  | [a, b], _ => exact ⟨a, b, hv, u8_bd (hw 0 (by omega)), u8_bd (hw 1 (by omega))⟩
set_option maxRecDepth 100000 in
theorem u8x3_open {r : Reach} {b0 : Nat} {v : Value} {d : DataW H} {p : List MemPlace} (hv : Value.okWide Try.prog w r b0 71 v) (h : DataW.Trod enc Try.prog w 0 spare held 71 v d p) : ∃ a b c : Int, v = .agg #[.int .u8 a, .int .u8 b, .int .u8 c] ∧ (0 ≤ a ∧ a ≤ 255) ∧ (0 ≤ b ∧ b ≤ 255) ∧ (0 ≤ c ∧ c ≤ 255) := by
  obtain ⟨l, hl, hv, hw⟩ := arr_open Try.underlying71 Try.underlying5 Try.cellsU8 (by kernel_rfl) hv h
  match l, hl with
  | [a, b, c], _ => exact ⟨a, b, c, hv, u8_bd (hw 0 (by omega)), u8_bd (hw 1 (by omega)), u8_bd (hw 2 (by omega))⟩
set_option maxRecDepth 100000 in
theorem u8x4_open {r : Reach} {b0 : Nat} {v : Value} {d : DataW H} {p : List MemPlace} (hv : Value.okWide Try.prog w r b0 83 v) (h : DataW.Trod enc Try.prog w 0 spare held 83 v d p) : ∃ a b c e : Int, v = .agg #[.int .u8 a, .int .u8 b, .int .u8 c, .int .u8 e] ∧ (0 ≤ a ∧ a ≤ 255) ∧ (0 ≤ b ∧ b ≤ 255) ∧ (0 ≤ c ∧ c ≤ 255) ∧ (0 ≤ e ∧ e ≤ 255) := by
  obtain ⟨l, hl, hv, hw⟩ := arr_open Try.underlying83 Try.underlying5 Try.cellsU8 (by kernel_rfl) hv h
  match l, hl with
  | [a, b, c, e], _ => exact ⟨a, b, c, e, hv, u8_bd (hw 0 (by omega)), u8_bd (hw 1 (by omega)), u8_bd (hw 2 (by omega)), u8_bd (hw 3 (by omega))⟩
set_option maxRecDepth 100000 in
theorem span_open {r : Reach} {b0 : Nat} {v : Value} {d : DataW H} {p : List MemPlace} (hv : Value.okWide Try.prog w r b0 32 v) (h : DataW.Trod enc Try.prog w 0 spare held 32 v d p) : ∃ s : Span, v = .agg #[.int .i64 s.lo, .int .i64 s.hi] := by
  obtain ⟨cs, rfl, hsz⟩ := okWide_struct Try.underlying32 hv
  obtain ⟨l⟩ := cs
  match l, hsz.trans Try.cellsSpan with
  | [x0, x1], _ =>
    obtain ⟨fuel, hf⟩ := h
    obtain ⟨y0, y1, m, _, _, h3, h4⟩ := trod_struct2 Try.underlying32 hf
    obtain ⟨lo, e0, _⟩ := int_at (o := 0) h3
    obtain ⟨hi, e1, _⟩ := int_at (o := 1) h4
    cases e0
    cases e1
    exact ⟨⟨lo, hi⟩, rfl⟩
set_option maxRecDepth 100000 in
theorem seen1_open {r : Reach} {b0 : Nat} {v : Value} {d : DataW H} {p : List MemPlace} (hv : Value.okWide Try.prog w r b0 80 v) (h : DataW.Trod enc Try.prog w 0 spare held 80 v d p) : ∃ s : Seen, v = .agg #[.int .i64 s.lot, .int .i64 s.hour, .bool s.turned] := by
  obtain ⟨cs, rfl, hsz⟩ := okWide_struct Try.underlying80 hv
  obtain ⟨l⟩ := cs
  match l, hsz.trans Try.cellsSeen with
  | [x0, x1, x2], _ =>
    obtain ⟨fuel, hf⟩ := h
    obtain ⟨y0, y1, y2, m, _, _, h3, h4, h5⟩ := trod_struct3 Try.underlying80 hf
    obtain ⟨a, e0, _⟩ := int_at (o := 0) h3
    obtain ⟨b, e1, _⟩ := int_at (o := 1) h4
    obtain ⟨c, e2⟩ := bool_at (o := 2) h5
    cases e0
    cases e1
    cases e2
    exact ⟨⟨a, b, c⟩, rfl⟩
end
end Go.Proofs.Ytbkknliggnhpcaa
