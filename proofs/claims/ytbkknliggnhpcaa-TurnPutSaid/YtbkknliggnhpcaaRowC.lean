/- What further arguments read as: slices of bytes; the lot that is put in, and where. -/
import Derived.Test.YtbkknliggnhpcaaRowB
import Derived.Test.YtbkknliggnhpcaaRefS
set_option linter.unusedVariables false
set_option linter.unusedSimpArgs false
namespace Go.Proofs.Ytbkknliggnhpcaa
open Go.RowKit Go.WideShapes Go.ChangeShapes Go.Deep Go.Joins

section
variable {H : Type} {enc : TypeId × Value → H} {w : World} {spare : Nat → Bool} {held : Bool} {n : Nat}
theorem bytes_row {v : Value} {x : DataW H × List MemPlace} (h : DataW.trod enc Try.prog w 0 spare held n 51 [v] = some x) : ∃ A l cap, v = .slice A l.length cap ∧ BytesS w w.heap.size A cap l := by
  rcases open_slice Try.underlying51 h with ⟨hcs, _⟩ | ⟨a, len, cap, m, n', D, Pl, hcs, _, hl, hm, hmm, _, hi⟩
  · cases hcs; exact ⟨none, [], 0, rfl, ⟨Nat.le_refl _, by simp [maxLen], Row.nil_, fun i => by simp [nth]⟩⟩
  · cases hcs
    have hle : len ≤ m := by rw [hmm]; split <;> omega
    rw [Try.cellsU8] at hi
    obtain ⟨xs, hxl, hx⟩ := list_of (α := Int) (Q := fun i x => (∃ cs, w.cells? 0 (a.add (i * 1)) 1 = some cs ∧ cs[0]? = some (.int .u8 x)) ∧ (Lit.int .u8 x).wf = true) (len := len) (fun i hi' => by
      obtain ⟨cs, h1, h2⟩ := hi i (by omega)
      obtain ⟨k, e, _, hw⟩ := DataW.trod_int Try.underlying5 h2
      exact ⟨k, ⟨cs, h1, by rw [e]; rfl⟩, hw⟩)
    subst hxl
    refine ⟨some a, xs, cap, rfl, ⟨hl, hm, ?_, fun i => ?_⟩⟩
    · have := row_of (w := w) (a := a) (len := xs.length) (k := 1) (by omega) (f := bytesF xs) (fun i hi' => by
        obtain ⟨⟨cs, h1, h2⟩, _⟩ := hx i hi'
        refine ⟨cs, h1, fun j hj => ?_⟩
        obtain rfl : j = 0 := by omega
        rw [h2, Nat.mul_one, Nat.add_zero]; rfl)
      rwa [Nat.mul_one] at this
    · by_cases h : i < xs.length
      · exact u8_bd (hx i h).2
      · rw [nth_out (by omega)]; decide
set_option maxRecDepth 100000 in
theorem bytes_open {r : Reach} {b0 : Nat} {v : Value} {d : DataW H} {p : List MemPlace} (hv : Value.okWide Try.prog w r b0 51 v) (h : DataW.Trod enc Try.prog w 0 spare held 51 v d p) : ∃ A l cap, v = .slice A l.length cap ∧ BytesS w w.heap.size A cap l := by
  obtain ⟨a, len, cap, rfl⟩ := okWide_slice Try.underlying51 hv
  obtain ⟨fuel, hf⟩ := h
  exact bytes_row hf
theorem u8_at {cs : List Value} {o : Nat} {x : DataW H × List MemPlace} (h : DataW.trod enc Try.prog w 0 spare held n 5 ((cs.drop o).take (Try.prog.cellsOf 5)) = some x) : ∃ i : Int, cs[o]? = some (.int .u8 i) ∧ (0 ≤ i ∧ i ≤ 255) := by
  rw [Try.cellsU8] at h
  obtain ⟨i, h1, _, h2⟩ := DataW.trod_int Try.underlying5 h
  exact ⟨i, at_of_take h1, u8_bd h2⟩
theorem Try.cellsPutting : Try.prog.cellsOf 62 = 6 := by kernel_rfl
set_option maxRecDepth 100000 in
theorem putting_open {r : Reach} {b0 : Nat} {v : Value} {d : DataW H} {p : List MemPlace} (hv : Value.okWide Try.prog w r b0 62 v) (h : DataW.Trod enc Try.prog w 0 spare held 62 v d p) :
    ∃ (lo hi xf xu xw : Int) (A : Option Addr) (l : List Int) (cap : Nat), v = .agg #[.int .i64 lo, .int .i64 hi, .int .u8 xf, .int .u8 xu, .int .u8 xw, .slice A l.length cap] ∧ ((0 ≤ xf ∧ xf ≤ 255) ∧ (0 ≤ xu ∧ xu ≤ 255) ∧ (0 ≤ xw ∧ xw ≤ 255)) ∧ BytesS w w.heap.size A cap l := by
  obtain ⟨cs, rfl, hsz⟩ := okWide_struct Try.underlying62 hv
  obtain ⟨l⟩ := cs
  match l, hsz.trans Try.cellsPutting with
  | [x0, x1, x2, x3, x4, x5], _ =>
    obtain ⟨fuel, hf⟩ := h
    obtain ⟨xs, n, _, hx, _, hlen, hg⟩ := DataW.trod_struct Try.underlying62 hf
    have g0 := hg 0 _ rfl
    have g1 := hg 1 _ rfl
    have g2 := hg 2 _ rfl
    have g3 := hg 3 _ rfl
    have g4 := hg 4 _ rfl
    match xs, hlen with
    | [y0, y1, y2, y3, y4], _ =>
      obtain ⟨s, e0, e1⟩ := span_at (o := 0) g0
      obtain ⟨f, e2, k2⟩ := u8_at (o := 2) g1
      obtain ⟨u, e3, k3⟩ := u8_at (o := 3) g2
      obtain ⟨t, e4, k4⟩ := u8_at (o := 4) g3
      obtain ⟨A, l, cap, rfl, hb⟩ := bytes_row (one_at (o := 5) (by kernel_rfl) g4 rfl)
      cases e0
      cases e1
      cases e2
      cases e3
      cases e4
      exact ⟨s.lo, s.hi, f, u, t, A, l, cap, rfl, ⟨k2, k3, k4⟩, hb⟩
end
end Go.Proofs.Ytbkknliggnhpcaa
