/- What further arguments of chapter 11 read as: numbers and arrays of numbers; how long a file's papers and claims can be. -/
import Derived.Test.YtllmahcanipcpaaGreatRE
set_option linter.unusedVariables false
set_option linter.unusedSimpArgs false
namespace Go.Proofs.YtllmahcanipcpaaGreat
open Go.RowKit Go.WideShapes Go.ChangeShapes Go.Deep Go.Joins

section
variable {H : Type} {enc : TypeId × Value → H} {w : World} {spare : Nat → Bool} {held : Bool}
theorem okWide_arr {P : Program} {r : Reach} {base : Nat} {t e : TypeId} {n : Nat} {v : Value} (ht : P.underlying t = some (.array n e)) (h : Value.okWide P w r base t v) : ∃ cs, v = .agg cs ∧ cs.size = P.cellsOf t := by
  simp only [Value.okWide, ht] at h
  obtain ⟨cs, h1, h2, _⟩ := h
  exact ⟨cs, h1, h2⟩
theorem arr_open {P : Program} {r : Reach} {b0 : Nat} {t e : TypeId} {n : Nat} {k : IntKind} {v : Value} {d : DataW H} {p : List MemPlace} (ht : P.underlying t = some (.array n e)) (he : P.underlying e = some (.int k)) (hc : P.cellsOf e = 1) (hn : P.cellsOf t = n)
    (hv : Value.okWide P w r b0 t v) (h : DataW.Trod enc P w 0 spare held t v d p) : ∃ l : List Int, l.length = n ∧ v = .agg (l.map (Value.int k)).toArray ∧ ∀ i, i < n → (Lit.int k (nth l i)).wf = true := by
  obtain ⟨cs, rfl, hsz⟩ := okWide_arr ht hv
  obtain ⟨l⟩ := cs
  obtain ⟨fuel, hf⟩ := h
  obtain ⟨xs, m, _, _, hl, hx, hg⟩ := DataW.trod_array ht hf
  have hll : l.length = n := by have := hsz.trans hn; simpa using this
  obtain ⟨ys, hyl, hy⟩ := list_of (α := Int) (Q := fun i x => l[i]? = some (.int k x) ∧ (Lit.int k x).wf = true) (len := n) (fun i hi => by
    have h1 := hg i hi
    have hxi : xs[i]? = some (xs[i]'(by omega)) := List.getElem?_eq_getElem (by omega)
    rw [hc, hxi, Nat.mul_one] at h1
    obtain ⟨a, e1, _, e2⟩ := DataW.trod_int he h1
    exact ⟨a, at_of_take e1, e2⟩)
  refine ⟨ys, hyl, ?_, fun i hi => (hy i hi).2⟩
  congr 2
  apply List.ext_getElem?
  intro i
  by_cases hi : i < n
  · rw [(hy i hi).1, List.getElem?_map, List.getElem?_eq_getElem (by omega)]
    simp [nth, show i < ys.length by omega]
  · rw [List.getElem?_eq_none (by omega), List.getElem?_eq_none (by simp; omega)]
theorem u8_bd {a : Int} (h : (Lit.int .u8 a).wf = true) : 0 ≤ a ∧ a ≤ 255 := by
  simp [Lit.wf, IntKind.min, IntKind.max, IntKind.signed, IntKind.bits] at h; omega
set_option maxRecDepth 100000 in
theorem ints2_open {r : Reach} {b0 : Nat} {v : Value} {d : DataW H} {p : List MemPlace} (hv : Value.okWide Tryz.prog w r b0 41 v) (h : DataW.Trod enc Tryz.prog w 0 spare held 41 v d p) : ∃ a b : Int, v = .agg #[.int .i64 a, .int .i64 b] := by
  obtain ⟨l, hl, hv, _⟩ := arr_open Tryz.underlying41 Tryz.underlying3 Tryz.cellsInt (by kernel_rfl) hv h
  match l, hl with
  | [a, b], _ => exact ⟨a, b, hv⟩
theorem Tryz.cellsU8 : Tryz.prog.cellsOf 5 = 1 := by kernel_rfl
set_option maxRecDepth 100000 in
theorem u8x3_open {r : Reach} {b0 : Nat} {v : Value} {d : DataW H} {p : List MemPlace} (hv : Value.okWide Tryz.prog w r b0 63 v) (h : DataW.Trod enc Tryz.prog w 0 spare held 63 v d p) : ∃ a b c : Int, v = .agg #[.int .u8 a, .int .u8 b, .int .u8 c] ∧ (0 ≤ a ∧ a ≤ 255) ∧ (0 ≤ b ∧ b ≤ 255) ∧ (0 ≤ c ∧ c ≤ 255) := by
  obtain ⟨l, hl, hv, hw⟩ := arr_open Tryz.underlying63 Tryz.underlying5 Tryz.cellsU8 (by kernel_rfl) hv h
  match l, hl with
  | [a, b, c], _ => exact ⟨a, b, c, hv, u8_bd (hw 0 (by omega)), u8_bd (hw 1 (by omega)), u8_bd (hw 2 (by omega))⟩
end
section
variable {H : Type} {enc : TypeId × Value → H} {w : World} {spare : Nat → Bool} {held : Bool} {n : Nat}
theorem Tryz.bytesClaim : Tryz.prog.bytesOf 59 = 24 := by kernel_rfl
theorem Tryz.bytesPaper : Tryz.prog.bytesOf 98 = 24 := by kernel_rfl
theorem claims_sized {x : DataW H × List MemPlace} {A : Option Addr} {k c : Nat} (h : DataW.trod enc Tryz.prog w 0 spare held n 26 [.slice A k c] = some x)
    (hw : ∀ m ∈ x.1.weights Tryz.prog 26, m ≤ reachBytes) : k * 24 ≤ reachBytes := by
  rcases open_slice Tryz.underlying26 h with ⟨hcs, _⟩ | ⟨a, len, cap, m, n', D, Pl, hcs, _, hl, hm, hmm, hx, hi⟩
  · cases hcs; simp
  · cases hcs
    subst hx
    have h1 := hw ((k + (m - k)) * 24) (by simp [DataW.weights, Tryz.underlying26, Tryz.bytesClaim])
    omega
theorem papers_sized {x : DataW H × List MemPlace} {A : Option Addr} {k c : Nat} (h : DataW.trod enc Tryz.prog w 0 spare held n 25 [.slice A k c] = some x)
    (hw : ∀ m ∈ x.1.weights Tryz.prog 25, m ≤ reachBytes) : k * 24 ≤ reachBytes := by
  rcases open_slice Tryz.underlying25 h with ⟨hcs, _⟩ | ⟨a, len, cap, m, n', D, Pl, hcs, _, hl, hm, hmm, hx, hi⟩
  · cases hcs; simp
  · cases hcs
    subst hx
    have h1 := hw ((k + (m - k)) * 24) (by simp [DataW.weights, Tryz.underlying25, Tryz.bytesPaper])
    omega
set_option maxRecDepth 100000 in
theorem file_sized2 {r : Reach} {b0 : Nat} {v : Value} {d : DataW H} {p : List MemPlace} (hv : Value.okWide Tryz.prog w r b0 28 v) (h : DataW.Trod enc Tryz.prog w 0 spare held 28 v d p)
    (hw : ∀ m ∈ d.weights Tryz.prog 28, m ≤ reachBytes) : ∃ f fa, v = fileVal f fa ∧ FileV w w.heap.size f fa ∧ f.papers.length * 24 ≤ reachBytes ∧ f.claims.length * 24 ≤ reachBytes := by
  obtain ⟨cs, rfl, hsz⟩ := okWide_struct Tryz.underlying28 hv
  obtain ⟨l⟩ := cs
  match l, hsz.trans Tryz.cellsClFile with
  | [x0, x1, x2, x3, x4], _ =>
    obtain ⟨fuel, hf⟩ := h
    obtain ⟨xs, n, _, hx, _, hlen, hg⟩ := DataW.trod_struct Tryz.underlying28 hf
    have g0 := hg 0 _ rfl
    have g1 := hg 1 _ rfl
    have g2 := hg 2 _ rfl
    have g3 := hg 3 _ rfl
    have g4 := hg 4 _ rfl
    match xs, hlen with
    | [y0, y1, y2, y3, y4], _ =>
      simp only [Prod.mk.injEq] at hx
      obtain ⟨rfl, _⟩ := hx
      obtain ⟨A1, l1, c1, rfl, r1, m1, k1, s1⟩ := strs_open (one_at (o := 0) (by kernel_rfl) g0 rfl)
      obtain ⟨A2, l2, c2, rfl, r2, m2, k2⟩ := ints_open (one_at (o := 1) (by kernel_rfl) g1 rfl)
      obtain ⟨A3, l3, c3, R, K, rfl, r3, m3, k3, rt, ft⟩ := lots_open (one_at (o := 2) (by kernel_rfl) g2 rfl) (fun m hm => hw m (by
        rw [DataW.weights, Tryz.underlying28]
        exact DataW.weights_mem_each (j := 2) rfl rfl m hm))
      obtain ⟨A4, l4, c4, rfl, r4, m4, k4⟩ := papers_open (one_at (o := 3) (by kernel_rfl) g3 rfl)
      obtain ⟨A5, l5, c5, rfl, r5, m5, k5⟩ := claims_open (one_at (o := 4) (by kernel_rfl) g4 rfl)
      exact ⟨⟨l1, l2, l3, l4, l5⟩, ⟨A1, A2, A3, A4, A5, c1, c2, c3, c4, c5, R, K⟩, rfl, ⟨r1, r2, r3, r4, r5, rt, s1, fun j hj => by have := ft j hj; unfold reachBytes at this; exact Nat.le_trans this (by decide), ⟨m1, k1⟩, ⟨m2, k2⟩, ⟨m3, k3⟩, ⟨m4, k4⟩, ⟨m5, k5⟩⟩, papers_sized (one_at (o := 3) (by kernel_rfl) g3 rfl) (fun m hm => hw m (by rw [DataW.weights, Tryz.underlying28]; exact DataW.weights_mem_each (j := 3) rfl rfl m hm)), claims_sized (one_at (o := 4) (by kernel_rfl) g4 rfl) (fun m hm => hw m (by rw [DataW.weights, Tryz.underlying28]; exact DataW.weights_mem_each (j := 4) rfl rfl m hm))⟩
end
end Go.Proofs.YtllmahcanipcpaaGreat
