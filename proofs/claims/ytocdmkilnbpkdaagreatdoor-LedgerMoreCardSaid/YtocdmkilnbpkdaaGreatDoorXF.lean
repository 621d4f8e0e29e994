/- A book as an argument, with the reach of its tallies. -/
import Derived.Test.YtocdmkilnbpkdaaGreatDoorXE
set_option linter.unusedVariables false
set_option linter.unusedSimpArgs false
namespace Go.Proofs.YtocdmkilnbpkdaaGreatDoor
open Go.RowKit Go.WideShapes Go.ChangeShapes Go.Deep Go.Joins

section
variable {H : Type} {enc : TypeId × Value → H} {w : World} {spare : Nat → Bool} {held : Bool} {n : Nat}
theorem Tryz.bytesTally : Tryz.prog.bytesOf 50 = 24 := by kernel_rfl
theorem tallies_sized {x : DataW H × List MemPlace} {A : Option Addr} {k c : Nat} (h : DataW.trod enc Tryz.prog w 0 spare held n 23 [.slice A k c] = some x)
 (hw : ∀ m ∈ x.1.weights Tryz.prog 23, m ≤ reachBytes) : k * 24 ≤ reachBytes := by
 rcases open_slice Tryz.underlying23 h with ⟨hcs, _⟩ | ⟨a, len, cap, m, n', D, Pl, hcs, _, hl, hm, hmm, hx, hi⟩
 · cases hcs; simp
 · cases hcs
   subst hx
   have h1 := hw ((k + (m - k)) * 24) (by simp [DataW.weights, Tryz.underlying23, Tryz.bytesTally])
   omega
set_option maxRecDepth 100000 in
theorem book_sized {r : Go.Reach} {b0 : Nat} {v : Value} {d : DataW H} {p : List MemPlace} (hv : Value.okWide Tryz.prog w r b0 25 v) (h : DataW.Trod enc Tryz.prog w 0 spare held 25 v d p)
 (hw : ∀ m ∈ d.weights Tryz.prog 25, m ≤ reachBytes) : ∃ b a, v = bookVal b a ∧ BookV w w.heap.size b a ∧ b.tallies.length * 24 ≤ reachBytes := by
 obtain ⟨cs, rfl, hsz⟩ := okWide_struct Tryz.underlying25 hv
 obtain ⟨l⟩ := cs
 match l, hsz.trans Tryz.cellsLeBook with
 | [x0, x1], _ =>
  obtain ⟨fuel, hf⟩ := h
  obtain ⟨xs, n, _, hx, _, hlen, hg⟩ := DataW.trod_struct Tryz.underlying25 hf
  have g0 := hg 0 _ rfl
  have g1 := hg 1 _ rfl
  match xs, hlen with
  | [y0, y1], _ =>
   obtain ⟨A1, l1, c1, rfl, r1, m1, k1, s1⟩ := steps_open (one_at (o := 0) (by kernel_rfl) g0 rfl)
   have h4 := one_at (o := 1) (by kernel_rfl) g1 rfl
   obtain ⟨A2, l2, c2, rfl, r2, m2, k2⟩ := tallies_open h4
   simp only [Prod.mk.injEq] at hx
   obtain ⟨rfl, _⟩ := hx
   refine ⟨⟨l1, l2⟩, ⟨A1, A2, c1, c2⟩, rfl, ⟨r1, r2, s1, ⟨m1, k1⟩, ⟨m2, k2⟩⟩, tallies_sized h4 (fun m hm => hw m ?_)⟩
   rw [DataW.weights, Tryz.underlying25]
   exact DataW.weights_mem_each (j := 1) rfl rfl m hm
end
end Go.Proofs.YtocdmkilnbpkdaaGreatDoor
