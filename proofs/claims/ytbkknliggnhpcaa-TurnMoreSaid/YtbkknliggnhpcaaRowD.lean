/- A cargo as an argument, with the reach of its looks. -/
import Derived.Test.YtbkknliggnhpcaaRowB
import Derived.SizedLaws
set_option linter.unusedVariables false
set_option linter.unusedSimpArgs false
namespace Go.Proofs.Ytbkknliggnhpcaa
open Go.RowKit Go.WideShapes Go.ChangeShapes Go.Deep Go.Joins

section
variable {H : Type} {enc : TypeId × Value → H} {w : World} {spare : Nat → Bool} {held : Bool} {n : Nat}
theorem Try.bytesSeen : Try.prog.bytesOf 80 = 24 := by kernel_rfl
theorem seen_sized {x : DataW H × List MemPlace} {A : Option Addr} {k c : Nat} (h : DataW.trod enc Try.prog w 0 spare held n 25 [.slice A k c] = some x)
    (hw : ∀ m ∈ x.1.weights Try.prog 25, m ≤ reachBytes) : k * 24 ≤ reachBytes := by
  rcases open_slice Try.underlying25 h with ⟨hcs, _⟩ | ⟨a, len, cap, m, n', D, Pl, hcs, _, hl, hm, hmm, hx, hi⟩
  · cases hcs; simp
  · cases hcs
    subst hx
    have h1 := hw ((k + (m - k)) * 24) (by simp [DataW.weights, Try.underlying25, Try.bytesSeen])
    omega
set_option maxRecDepth 100000 in
theorem cargo_sized {r : Reach} {b0 : Nat} {v : Value} {d : DataW H} {p : List MemPlace} (hv : Value.okWide Try.prog w r b0 27 v) (h : DataW.Trod enc Try.prog w 0 spare held 27 v d p)
    (hw : ∀ m ∈ d.weights Try.prog 27, m ≤ reachBytes) :
    ∃ c A1 A2 A3 A4 c1 c2 c3 c4, v = cargoVal c A1 A2 A3 A4 c1 c2 c3 c4 ∧ CargoV w w.heap.size c A1 A2 A3 A4 c1 c2 c3 c4 ∧ c.seen.length * 24 ≤ reachBytes := by
  obtain ⟨cs, rfl, hsz⟩ := okWide_struct Try.underlying27 hv
  obtain ⟨l⟩ := cs
  match l, hsz.trans Try.cellsCargo with
  | [x0, x1, x2, x3, x4], _ =>
    obtain ⟨fuel, hf⟩ := h
    obtain ⟨xs, n, _, hx, _, hlen, hg⟩ := DataW.trod_struct Try.underlying27 hf
    have g0 := hg 0 _ rfl
    have g1 := hg 1 _ rfl
    have g2 := hg 2 _ rfl
    have g3 := hg 3 _ rfl
    have g4 := hg 4 _ rfl
    match xs, hlen with
    | [y0, y1, y2, y3, y4], _ =>
      obtain ⟨A1, l1, c1, rfl, r1, m1, k1⟩ := ints_open (one_at (o := 0) (by kernel_rfl) g0 rfl)
      obtain ⟨i, e1, _⟩ := int_at (o := 1) g1
      obtain ⟨A2, l2, c2, rfl, r2, m2, k2⟩ := spans_open (one_at (o := 2) (by kernel_rfl) g2 rfl)
      obtain ⟨A3, l3, c3, rfl, r3, m3, k3⟩ := lots_open (one_at (o := 3) (by kernel_rfl) g3 rfl)
      have h4 := one_at (o := 4) (by kernel_rfl) g4 rfl
      obtain ⟨A4, l4, c4, rfl, r4, m4, k4⟩ := seen_open h4
      cases e1
      simp only [Prod.mk.injEq] at hx
      obtain ⟨rfl, _⟩ := hx
      refine ⟨⟨l1, i, l2, l3, l4⟩, A1, A2, A3, A4, c1, c2, c3, c4, rfl, ⟨r1, r2, r3, r4, ⟨m1, k1⟩, ⟨m2, k2⟩, ⟨m3, k3⟩, ⟨m4, k4⟩⟩, seen_sized h4 (fun m hm => hw m ?_)⟩
      rw [DataW.weights, Try.underlying27]
      exact DataW.weights_mem_each (j := 4) rfl rfl m hm
end
end Go.Proofs.Ytbkknliggnhpcaa
