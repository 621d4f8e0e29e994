/- What an argument reads as: a file of chapter 11 by value is data in memory; what the row asks at the end. -/
import Derived.Test.YtllmahcanipcpaaJA
import Derived.ProofKit
import Derived.OpenShut
import Derived.Deep.Slices
import Derived.Deep.Strs
import Derived.Lib.SmallJoins
import Derived.Carry
import Derived.ChangeSame
import Derived.SizedLaws
import Derived.Below
set_option linter.unusedVariables false
set_option linter.unusedSimpArgs false
namespace Go.Proofs.Ytllmahcanipcpaa
open Go.RowKit Go.WideShapes Go.ChangeShapes Go.Deep Go.Joins

theorem list_of {α : Type} [Inhabited α] {Q : Nat → α → Prop} : ∀ {len : Nat}, (∀ i, i < len → ∃ x, Q i x) → ∃ xs : List α, xs.length = len ∧ ∀ i, i < len → Q i (nth xs i)
  | 0, _ => ⟨[], rfl, fun i hi => absurd hi (by omega)⟩
  | n + 1, h => by
    obtain ⟨xs, hl, hq⟩ := list_of (len := n) (fun i hi => h i (by omega))
    obtain ⟨x, hx⟩ := h n (by omega)
    refine ⟨xs ++ [x], by simp [hl], fun i hi => ?_⟩
    by_cases hin : i < n
    · rw [show nth (xs ++ [x]) i = nth xs i by simp [nth, List.getElem?_append_left (show i < xs.length by omega)]]; exact hq i hin
    · obtain rfl : i = xs.length := by omega
      rw [show nth (xs ++ [x]) xs.length = x by simp [nth], hl]; exact hx
theorem cell_spot {w : World} {a : Addr} {v : Value} (h : w.cell? a = some v) : a.spot = none ∧ a.block < w.heap.size := by
  unfold World.cell? at h
  split at h
  · rename_i c t f hc
    have hlt := (Array.getElem?_eq_some_iff.1 hc).1
    split at h
    · cases h
    · rename_i hs
      exact ⟨by cases hsp : a.spot <;> simp_all, hlt⟩
  · cases h
theorem row_of {w : World} {a : Addr} {len k : Nat} (hk : 0 < k) {f : Nat → Value} (h : ∀ i, i < len → ∃ cs, w.cells? 0 (a.add (i * k)) k = some cs ∧ ∀ j, j < k → cs[j]? = some (f (i * k + j))) : Row w w.heap.size (some a) (len * k) f := fun hm => by
  have hlen : 0 < len := Nat.pos_of_ne_zero (fun e => by subst e; simp at hm)
  have hc : ∀ i, i < len → ∀ j, j < k → w.cell? ((a.add (i * k)).add j) = some (f (i * k + j)) := fun i hi j hj => by
    obtain ⟨cs, h1, h2⟩ := h i hi
    obtain ⟨_, _, h4⟩ := World.cells?_some h1
    rw [h4 j hj, h2 j hj]
  have h0 := hc 0 hlen 0 hk
  obtain ⟨hs, hb⟩ := cell_spot h0
  simp only [Nat.zero_mul, Addr.add, if_true] at hs hb
  obtain ⟨b, off, sp⟩ := a
  simp only at hs hb
  subst hs
  refine ⟨b, off, rfl, hb, fun j hj => ?_⟩
  have h1 : j / k < len := by rw [Nat.div_lt_iff_lt_mul hk]; exact hj
  have h2 := hc (j / k) h1 (j % k) (Nat.mod_lt _ hk)
  rw [Nat.div_add_mod' j k] at h2
  rw [← h2, Addr.add_lit, Addr.add_lit, Nat.add_assoc, Nat.div_add_mod' j k]
section
variable {H : Type} {enc : TypeId × Value → H} {w : World} {spare : Nat → Bool} {held : Bool} {n : Nat}
theorem at_of_take {cs : List Value} {o : Nat} {v : Value} (h : (cs.drop o).take 1 = [v]) : cs[o]? = some v := by
  have : (cs.drop o)[0]? = some v := by
    cases hd : cs.drop o with
    | nil => rw [hd] at h; simp at h
    | cons x l => rw [hd] at h; simp at h; simp [h]
  simpa using this
theorem Try.cellsBool : Try.prog.cellsOf 4 = 1 := by kernel_rfl
theorem int_at {cs : List Value} {o : Nat} {x : DataW H × List MemPlace} (h : DataW.trod enc Try.prog w 0 spare held n 3 ((cs.drop o).take (Try.prog.cellsOf 3)) = some x) : ∃ i : Int, cs[o]? = some (.int .i64 i) ∧ (Lit.int .i64 i).wf = true := by
  rw [Try.cellsInt] at h
  obtain ⟨i, h1, _, h2⟩ := DataW.trod_int Try.underlying3 h
  exact ⟨i, at_of_take h1, h2⟩
theorem bool_at {cs : List Value} {o : Nat} {x : DataW H × List MemPlace} (h : DataW.trod enc Try.prog w 0 spare held n 4 ((cs.drop o).take (Try.prog.cellsOf 4)) = some x) : ∃ i : Bool, cs[o]? = some (.bool i) := by
  rw [Try.cellsBool] at h
  obtain ⟨i, h1, _⟩ := DataW.trod_bool Try.underlying4 h
  exact ⟨i, at_of_take h1⟩
theorem Try.cellsSpan : Try.prog.cellsOf 43 = 2 := by kernel_rfl
theorem span_at {cs : List Value} {o : Nat} {x : DataW H × List MemPlace} (h : DataW.trod enc Try.prog w 0 spare held n 43 ((cs.drop o).take (Try.prog.cellsOf 43)) = some x) : ∃ s : Span, cs[o]? = some (.int .i64 s.lo) ∧ cs[o + 1]? = some (.int .i64 s.hi) := by
  rw [Try.cellsSpan] at h
  obtain ⟨y0, y1, m, _, _, h0, h1⟩ := trod_struct2 Try.underlying43 h
  obtain ⟨lo, e0, _⟩ := int_at (o := 0) h0
  obtain ⟨hi, e1, _⟩ := int_at (o := 1) h1
  refine ⟨⟨lo, hi⟩, ?_, ?_⟩
  · have := e0; simpa [List.getElem?_take, List.getElem?_drop] using this
  · have := e1; simpa [List.getElem?_take, List.getElem?_drop] using this
theorem ints_open {v : Value} {x : DataW H × List MemPlace} (h : DataW.trod enc Try.prog w 0 spare held n 23 [v] = some x) : ∃ A xs cap, v = .slice A xs.length cap ∧ Row w w.heap.size A xs.length (intsF xs) ∧ xs.length ≤ cap ∧ cap ≤ maxLen := by
  rcases open_slice Try.underlying23 h with ⟨hcs, _⟩ | ⟨a, len, cap, m, n', D, Pl, hcs, _, hl, hm, hmm, _, hi⟩
  · cases hcs; exact ⟨none, [], 0, rfl, Row.nil_, Nat.le_refl _, by simp [maxLen]⟩
  · cases hcs
    have hle : len ≤ m := by rw [hmm]; split <;> omega
    rw [Try.cellsInt] at hi
    obtain ⟨xs, hxl, hx⟩ := list_of (α := Int) (Q := fun i x => ∃ cs, w.cells? 0 (a.add (i * 1)) 1 = some cs ∧ cs[0]? = some (.int .i64 x)) (len := len) (fun i hi' => by
      obtain ⟨cs, h1, h2⟩ := hi i (by omega)
      obtain ⟨k, e, _⟩ := DataW.trod_int Try.underlying3 h2
      exact ⟨k, cs, h1, by rw [e]; rfl⟩)
    subst hxl
    refine ⟨some a, xs, cap, rfl, ?_, hl, hm⟩
    have := row_of (w := w) (a := a) (len := xs.length) (k := 1) (by omega) (f := intsF xs) (fun i hi' => by
      obtain ⟨cs, h1, h2⟩ := hx i hi'
      refine ⟨cs, h1, fun j hj => ?_⟩
      obtain rfl : j = 0 := by omega
      rw [h2, Nat.mul_one, Nat.add_zero]; rfl)
    rwa [Nat.mul_one] at this
theorem one_at {cs : List Value} {o : Nat} {t : TypeId} {x : DataW H × List MemPlace} (hc : Try.prog.cellsOf t = 1) (h : DataW.trod enc Try.prog w 0 spare held n t ((cs.drop o).take (Try.prog.cellsOf t)) = some x) {v : Value} (hv : cs[o]? = some v) : DataW.trod enc Try.prog w 0 spare held n t [v] = some x := by
  rw [hc] at h
  have : (cs.drop o).take 1 = [v] := by
    have hl := (List.getElem?_eq_some_iff.1 hv).1
    rw [List.drop_eq_getElem_cons hl]
    have := (List.getElem?_eq_some_iff.1 hv).2
    simp [this]
  rwa [this] at h

theorem Try.cellsString : Try.prog.cellsOf 9 = 1 := by kernel_rfl
theorem Try.cellsClLot : Try.prog.cellsOf 56 = 4 := by kernel_rfl
theorem Try.cellsClPaper : Try.prog.cellsOf 48 = 3 := by kernel_rfl
theorem Try.cellsClClaim : Try.prog.cellsOf 52 = 3 := by kernel_rfl
theorem Try.cellsClFile : Try.prog.cellsOf 28 = 5 := by kernel_rfl
theorem Try.bytesInt : Try.prog.bytesOf 3 = 8 := by kernel_rfl
theorem strs_open {v : Value} {x : DataW H × List MemPlace} (h : DataW.trod enc Try.prog w 0 spare held n 22 [v] = some x) : ∃ A xs cap, v = .slice A xs.length cap ∧ Row w w.heap.size A xs.length (strsF xs) ∧ xs.length ≤ cap ∧ cap ≤ maxLen ∧ ∀ j, j < xs.length → (nth xs j).size ≤ maxLen := by
  rcases open_slice Try.underlying22 h with ⟨hcs, _⟩ | ⟨a, len, cap, m, n', D, Pl, hcs, _, hl, hm, hmm, _, hi⟩
  · cases hcs; exact ⟨none, [], 0, rfl, Row.nil_, Nat.le_refl _, by simp [maxLen], fun j hj => absurd hj (Nat.not_lt_zero _)⟩
  · cases hcs
    have hle : len ≤ m := by rw [hmm]; split <;> omega
    rw [Try.cellsString] at hi
    obtain ⟨xs, hxl, hx⟩ := list_of (α := ByteArray) (Q := fun i x => (∃ cs, w.cells? 0 (a.add (i * 1)) 1 = some cs ∧ cs[0]? = some (.string x)) ∧ x.size ≤ maxLen) (len := len) (fun i hi' => by
      obtain ⟨cs, h1, h2⟩ := hi i (by omega)
      obtain ⟨s, e, _, hs⟩ := DataW.trod_string Try.underlying9 h2
      exact ⟨s, ⟨cs, h1, by rw [e]; rfl⟩, hs⟩)
    subst hxl
    refine ⟨some a, xs, cap, rfl, ?_, hl, hm, fun j hj => (hx j hj).2⟩
    have := row_of (w := w) (a := a) (len := xs.length) (k := 1) (by omega) (f := strsF xs) (fun i hi' => by
      obtain ⟨⟨cs, h1, h2⟩, _⟩ := hx i hi'
      refine ⟨cs, h1, fun j hj => ?_⟩
      obtain rfl : j = 0 := by omega
      rw [h2, Nat.mul_one, Nat.add_zero]; rfl)
    rwa [Nat.mul_one] at this
theorem intsS_open {v : Value} {x : DataW H × List MemPlace} (h : DataW.trod enc Try.prog w 0 spare held n 23 [v] = some x) : ∃ A xs cap, v = .slice A xs.length cap ∧ IntsS w w.heap.size A xs.length cap xs := by
  obtain ⟨A, xs, cap, e, hr, h1, h2⟩ := ints_open h
  exact ⟨A, xs, cap, e, rfl, h1, h2, fun hn => hr hn⟩
theorem ints_sized {x : DataW H × List MemPlace} {A : Option Addr} {k c : Nat} (h : DataW.trod enc Try.prog w 0 spare held n 23 [.slice A k c] = some x)
    (hw : ∀ m ∈ x.1.weights Try.prog 23, m ≤ reachBytes) : k * 8 ≤ reachBytes := by
  rcases open_slice Try.underlying23 h with ⟨hcs, _⟩ | ⟨a, len, cap, m, n', D, Pl, hcs, _, hl, hm, hmm, hx, hi⟩
  · cases hcs; simp
  · cases hcs
    subst hx
    have h1 := hw ((k + (m - k)) * 8) (by simp [DataW.weights, Try.underlying23, Try.bytesInt])
    omega
theorem weights_all {P : Program} {e : TypeId} : ∀ {l : List (DataW H)} {d : DataW H} {m : Nat}, d ∈ l → m ∈ d.weights P e → m ∈ DataW.weightsAll P e l
  | x :: l, d, m, hd, hm => by
    rw [DataW.weightsAll, List.mem_append]
    rcases List.mem_cons.1 hd with rfl | hd
    · exact .inl hm
    · exact .inr (weights_all hd hm)
theorem lots_open {v : Value} {x : DataW H × List MemPlace} (h : DataW.trod enc Try.prog w 0 spare held n 24 [v] = some x) (hw : ∀ m ∈ x.1.weights Try.prog 24, m ≤ reachBytes) :
    ∃ A xs cap R K, v = .slice A xs.length cap ∧ Row w w.heap.size A (xs.length * 4) (lotsF xs R K) ∧ xs.length ≤ cap ∧ cap ≤ maxLen ∧ (∀ j, j < xs.length → IntsS w w.heap.size (R j) (nth xs j).route.length (K j) (nth xs j).route) ∧ ∀ j, j < xs.length → (nth xs j).route.length * 8 ≤ reachBytes := by
  rcases open_slice Try.underlying24 h with ⟨hcs, _⟩ | ⟨a, len, cap, m, n', D, Pl, hcs, _, hl, hm, hmm, hxx, hi⟩
  · cases hcs; exact ⟨none, [], 0, fun _ => none, fun _ => 0, rfl, Row.nil_, Nat.le_refl _, by simp [maxLen], fun j hj => absurd hj (Nat.not_lt_zero _), fun j hj => absurd hj (Nat.not_lt_zero _)⟩
  · cases hcs
    have hle : len ≤ m := by rw [hmm]; split <;> omega
    rw [Try.cellsClLot] at hi
    have hwD : ∀ i, i < len → ∀ q ∈ (D i).weights Try.prog 56, q ≤ reachBytes := fun i hi' q hq => by
      apply hw
      rw [hxx]
      simp only [DataW.weights, Try.underlying24]
      exact List.mem_cons_of_mem _ (List.mem_append_left _ (weights_all (List.mem_map.2 ⟨i, List.mem_range.2 hi', rfl⟩) hq))
    obtain ⟨ys, hyl, hy⟩ := list_of (α := Lot × Option Addr × Nat) (Q := fun i y => (∃ cs, w.cells? 0 (a.add (i * 4)) 4 = some cs ∧ cs[0]? = some (.slice y.2.1 y.1.route.length y.2.2) ∧ cs[1]? = some (.int .i64 y.1.turned.lo) ∧ cs[2]? = some (.int .i64 y.1.turned.hi) ∧ cs[3]? = some (.int .i64 y.1.worth)) ∧
        IntsS w w.heap.size y.2.1 y.1.route.length y.2.2 y.1.route ∧ y.1.route.length * 8 ≤ reachBytes) (len := len) (fun i hi' => by
      obtain ⟨cs, h1, h2⟩ := hi i (by omega)
      obtain ⟨y0, y1, y2, q, hxy, hcl, h3, h4, h5⟩ := trod_struct3 Try.underlying56 h2
      have hcl4 : cs.length = 4 := hcl.trans Try.cellsClLot
      obtain ⟨v0, e0⟩ : ∃ v0, cs[0]? = some v0 := ⟨_, List.getElem?_eq_getElem (by omega)⟩
      have h3' := one_at (o := 0) (by kernel_rfl) h3 e0
      obtain ⟨A', xs, cp, rfl, hs⟩ := intsS_open h3'
      obtain ⟨s, e1, e2⟩ := span_at (o := 1) h4
      obtain ⟨g, e3, _⟩ := int_at (o := 3) h5
      refine ⟨⟨⟨xs, s, g⟩, A', cp⟩, ⟨cs, h1, e0, e1, e2, e3⟩, hs, ints_sized h3' (fun q hq => hwD i hi' q ?_)⟩
      simp only [Prod.mk.injEq] at hxy
      rw [hxy.1]
      simp only [DataW.weights, Try.underlying56]
      exact DataW.weights_mem_each (j := 0) rfl rfl q hq)
    subst hyl
    have hnm : ∀ j, j < ys.length → nth (ys.map (·.1)) j = (nth ys j).1 := fun j hj => by simp [nth, hj]
    refine ⟨some a, ys.map (·.1), cap, fun j => (nth ys j).2.1, fun j => (nth ys j).2.2, by rw [List.length_map], ?_, by simpa using hl, hm, fun j hj => ?_, fun j hj => ?_⟩
    · rw [List.length_map]
      refine row_of (by omega) (fun i hi' => ?_)
      obtain ⟨⟨cs, h1, h2, h3, h4, h5⟩, _⟩ := hy i hi'
      refine ⟨cs, h1, fun j hj => ?_⟩
      obtain rfl | rfl | rfl | rfl : j = 0 ∨ j = 1 ∨ j = 2 ∨ j = 3 := by omega
      · rw [h2, lotsF, show (i * 4 + 0) % 4 = 0 by omega, show (i * 4 + 0) / 4 = i by omega, hnm i hi']; rfl
      · rw [h3, lotsF, show (i * 4 + 1) % 4 = 1 by omega, show (i * 4 + 1) / 4 = i by omega, hnm i hi']; rfl
      · rw [h4, lotsF, show (i * 4 + 2) % 4 = 2 by omega, show (i * 4 + 2) / 4 = i by omega, hnm i hi']; rfl
      · rw [h5, lotsF, show (i * 4 + 3) % 4 = 3 by omega, show (i * 4 + 3) / 4 = i by omega, hnm i hi']; rfl
    · have hj' : j < ys.length := by simpa using hj
      rw [hnm j hj']; exact (hy j hj').2.1
    · have hj' : j < ys.length := by simpa using hj
      rw [hnm j hj']; exact (hy j hj').2.2
theorem papers_open {v : Value} {x : DataW H × List MemPlace} (h : DataW.trod enc Try.prog w 0 spare held n 25 [v] = some x) : ∃ A xs cap, v = .slice A xs.length cap ∧ Row w w.heap.size A (xs.length * 3) (papersF xs) ∧ xs.length ≤ cap ∧ cap ≤ maxLen := by
  rcases open_slice Try.underlying25 h with ⟨hcs, _⟩ | ⟨a, len, cap, m, n', D, Pl, hcs, _, hl, hm, hmm, _, hi⟩
  · cases hcs; exact ⟨none, [], 0, rfl, Row.nil_, Nat.le_refl _, by simp [maxLen]⟩
  · cases hcs
    have hle : len ≤ m := by rw [hmm]; split <;> omega
    rw [Try.cellsClPaper] at hi
    obtain ⟨xs, hxl, hx⟩ := list_of (α := Paper) (Q := fun i x => ∃ cs, w.cells? 0 (a.add (i * 3)) 3 = some cs ∧ cs[0]? = some (.int .i64 x.says) ∧ cs[1]? = some (.int .i64 x.lot) ∧ cs[2]? = some (.int .i64 x.of_)) (len := len) (fun i hi' => by
      obtain ⟨cs, h1, h2⟩ := hi i (by omega)
      obtain ⟨y0, y1, y2, m, _, _, h3, h4, h5⟩ := trod_struct3 Try.underlying48 h2
      obtain ⟨e, e0, _⟩ := int_at (o := 0) h3
      obtain ⟨f, e1, _⟩ := int_at (o := 1) h4
      obtain ⟨g, e2, _⟩ := int_at (o := 2) h5
      exact ⟨⟨e, f, g⟩, cs, h1, e0, e1, e2⟩)
    subst hxl
    refine ⟨some a, xs, cap, rfl, row_of (by omega) (fun i hi' => ?_), hl, hm⟩
    obtain ⟨cs, h1, h2, h3, h4⟩ := hx i hi'
    refine ⟨cs, h1, fun j hj => ?_⟩
    obtain rfl | rfl | rfl : j = 0 ∨ j = 1 ∨ j = 2 := by omega
    · rw [h2, papersF, show (i * 3 + 0) % 3 = 0 by omega, show (i * 3 + 0) / 3 = i by omega]; rfl
    · rw [h3, papersF, show (i * 3 + 1) % 3 = 1 by omega, show (i * 3 + 1) / 3 = i by omega]; rfl
    · rw [h4, papersF, show (i * 3 + 2) % 3 = 2 by omega, show (i * 3 + 2) / 3 = i by omega]; rfl
set_option maxRecDepth 100000 in
theorem paper_open {r : Reach} {b0 : Nat} {v : Value} {d : DataW H} {p : List MemPlace} (hv : Value.okWide Try.prog w r b0 48 v) (h : DataW.Trod enc Try.prog w 0 spare held 48 v d p) : ∃ s : Paper, v = .agg #[.int .i64 s.says, .int .i64 s.lot, .int .i64 s.of_] := by
  obtain ⟨cs, rfl, hsz⟩ := okWide_struct Try.underlying48 hv
  obtain ⟨l⟩ := cs
  match l, hsz.trans Try.cellsClPaper with
  | [x0, x1, x2], _ =>
    obtain ⟨fuel, hf⟩ := h
    obtain ⟨y0, y1, y2, m, _, _, h3, h4, h5⟩ := trod_struct3 Try.underlying48 hf
    obtain ⟨e, e0, _⟩ := int_at (o := 0) h3
    obtain ⟨f, e1, _⟩ := int_at (o := 1) h4
    obtain ⟨g, e2, _⟩ := int_at (o := 2) h5
    cases e0
    cases e1
    cases e2
    exact ⟨⟨e, f, g⟩, rfl⟩
theorem claims_open {v : Value} {x : DataW H × List MemPlace} (h : DataW.trod enc Try.prog w 0 spare held n 26 [v] = some x) : ∃ A xs cap, v = .slice A xs.length cap ∧ Row w w.heap.size A (xs.length * 3) (claimsF xs) ∧ xs.length ≤ cap ∧ cap ≤ maxLen := by
  rcases open_slice Try.underlying26 h with ⟨hcs, _⟩ | ⟨a, len, cap, m, n', D, Pl, hcs, _, hl, hm, hmm, _, hi⟩
  · cases hcs; exact ⟨none, [], 0, rfl, Row.nil_, Nat.le_refl _, by simp [maxLen]⟩
  · cases hcs
    have hle : len ≤ m := by rw [hmm]; split <;> omega
    rw [Try.cellsClClaim] at hi
    obtain ⟨xs, hxl, hx⟩ := list_of (α := Claim) (Q := fun i x => ∃ cs, w.cells? 0 (a.add (i * 3)) 3 = some cs ∧ cs[0]? = some (.int .i64 x.lot) ∧ cs[1]? = some (.int .i64 x.against) ∧ cs[2]? = some (.int .i64 x.day)) (len := len) (fun i hi' => by
      obtain ⟨cs, h1, h2⟩ := hi i (by omega)
      obtain ⟨y0, y1, y2, m, _, _, h3, h4, h5⟩ := trod_struct3 Try.underlying52 h2
      obtain ⟨e, e0, _⟩ := int_at (o := 0) h3
      obtain ⟨f, e1, _⟩ := int_at (o := 1) h4
      obtain ⟨g, e2, _⟩ := int_at (o := 2) h5
      exact ⟨⟨e, f, g⟩, cs, h1, e0, e1, e2⟩)
    subst hxl
    refine ⟨some a, xs, cap, rfl, row_of (by omega) (fun i hi' => ?_), hl, hm⟩
    obtain ⟨cs, h1, h2, h3, h4⟩ := hx i hi'
    refine ⟨cs, h1, fun j hj => ?_⟩
    obtain rfl | rfl | rfl : j = 0 ∨ j = 1 ∨ j = 2 := by omega
    · rw [h2, claimsF, show (i * 3 + 0) % 3 = 0 by omega, show (i * 3 + 0) / 3 = i by omega]; rfl
    · rw [h3, claimsF, show (i * 3 + 1) % 3 = 1 by omega, show (i * 3 + 1) / 3 = i by omega]; rfl
    · rw [h4, claimsF, show (i * 3 + 2) % 3 = 2 by omega, show (i * 3 + 2) / 3 = i by omega]; rfl
set_option maxRecDepth 100000 in
theorem claim_open {r : Reach} {b0 : Nat} {v : Value} {d : DataW H} {p : List MemPlace} (hv : Value.okWide Try.prog w r b0 52 v) (h : DataW.Trod enc Try.prog w 0 spare held 52 v d p) : ∃ s : Claim, v = .agg #[.int .i64 s.lot, .int .i64 s.against, .int .i64 s.day] := by
  obtain ⟨cs, rfl, hsz⟩ := okWide_struct Try.underlying52 hv
  obtain ⟨l⟩ := cs
  match l, hsz.trans Try.cellsClClaim with
  | [x0, x1, x2], _ =>
    obtain ⟨fuel, hf⟩ := h
    obtain ⟨y0, y1, y2, m, _, _, h3, h4, h5⟩ := trod_struct3 Try.underlying52 hf
    obtain ⟨e, e0, _⟩ := int_at (o := 0) h3
    obtain ⟨f, e1, _⟩ := int_at (o := 1) h4
    obtain ⟨g, e2, _⟩ := int_at (o := 2) h5
    cases e0
    cases e1
    cases e2
    exact ⟨⟨e, f, g⟩, rfl⟩
set_option maxRecDepth 100000 in
theorem file_sized {r : Reach} {b0 : Nat} {v : Value} {d : DataW H} {p : List MemPlace} (hv : Value.okWide Try.prog w r b0 28 v) (h : DataW.Trod enc Try.prog w 0 spare held 28 v d p)
    (hw : ∀ m ∈ d.weights Try.prog 28, m ≤ reachBytes) : ∃ f fa, v = fileVal f fa ∧ FileV w w.heap.size f fa := by
  obtain ⟨cs, rfl, hsz⟩ := okWide_struct Try.underlying28 hv
  obtain ⟨l⟩ := cs
  match l, hsz.trans Try.cellsClFile with
  | [x0, x1, x2, x3, x4], _ =>
    obtain ⟨fuel, hf⟩ := h
    obtain ⟨xs, n, _, hx, _, hlen, hg⟩ := DataW.trod_struct Try.underlying28 hf
    have g0 := hg 0 _ rfl
    have g1 := hg 1 _ rfl
    have g2 := hg 2 _ rfl
    have g3 := hg 3 _ rfl
    have g4 := hg 4 _ rfl
    match xs, hlen with
    | [y0, y1, y2, y3, y4], _ =>
      simp only [Prod.mk.injEq] at hx
      obtain ⟨rfl, _⟩ := hx
      obtain ⟨A1, l1, c1, rfl, r1, m1, k1, s1⟩ := strs_open (one_at (o := 0) (by kernel_rfl) g0 rfl)
      obtain ⟨A2, l2, c2, rfl, r2, m2, k2⟩ := ints_open (one_at (o := 1) (by kernel_rfl) g1 rfl)
      obtain ⟨A3, l3, c3, R, K, rfl, r3, m3, k3, rt, ft⟩ := lots_open (one_at (o := 2) (by kernel_rfl) g2 rfl) (fun m hm => hw m (by
        rw [DataW.weights, Try.underlying28]
        exact DataW.weights_mem_each (j := 2) rfl rfl m hm))
      obtain ⟨A4, l4, c4, rfl, r4, m4, k4⟩ := papers_open (one_at (o := 3) (by kernel_rfl) g3 rfl)
      obtain ⟨A5, l5, c5, rfl, r5, m5, k5⟩ := claims_open (one_at (o := 4) (by kernel_rfl) g4 rfl)
      exact ⟨⟨l1, l2, l3, l4, l5⟩, ⟨A1, A2, A3, A4, A5, c1, c2, c3, c4, c5, R, K⟩, rfl, ⟨r1, r2, r3, r4, r5, rt, s1, fun j hj => by have := ft j hj; unfold reachBytes at this; exact Nat.le_trans this (by decide), ⟨m1, k1⟩, ⟨m2, k2⟩, ⟨m3, k3⟩, ⟨m4, k4⟩, ⟨m5, k5⟩⟩⟩
end
section
variable {H : Type} {enc : TypeId × Value → H} {P : Program}
theorem post_of_below {f : Func} {s : ChangeSpec} {apart fresh handsOn again : Bool} {W W' : World} {args : Array Value} {v : Value} {ds gs : List (DataW H)} {before pa pv : List MemPlace}
    (hW : DataW.Whole enc P f.params.toList s.vars apart W args.toList ds gs before)
    (hres : ∀ (b : Nat) (sp : Nat → Bool) (hd : Bool), DataW.TrodAll enc P W' b sp hd f.resultTypes.toList (v.resultList f.resultTypes.size) (s.fn H (ds ++ gs)).results [])
    (hargs : ∀ sp : Nat → Bool, (∀ p ∈ before, sp p.block = true) → DataW.TrodAll enc P W' 0 sp true f.params.toList args.toList (s.fn H (ds ++ gs)).args pa)
    (hvars : ∀ sp : Nat → Bool, (∀ p ∈ before, sp p.block = true) → DataW.TrodVars enc P W' sp s.vars (s.fn H (ds ++ gs)).vars pv)
    (hps : before = pa ++ pv) (hb : Below W.heap.size W W')
    (hok : ∀ (j : Nat) (t : TypeId) (r : Value), f.resultTypes[j]? = some t → (v.resultList f.resultTypes.size)[j]? = some r → Value.okWide P W' .any 0 t r) :
    s.post enc P f apart fresh handsOn again W args v W' := by
  have hlt : ∀ p ∈ before, p.block < W.heap.size := fun p hp => hW.lt p hp
  have hold : ∀ p ∈ before, (fun b => decide (b < W.heap.size)) p.block = true := fun p hp => by simpa using hlt p hp
  refine ⟨ds, gs, before, [], pa, pv, hW, hres _ _ _, hargs _ hold, hvars _ hold, World.keptBut_mono (fun p hp => ⟨hp, ?_⟩) (hb.frame (· ∈ before)), fun _ => ?_⟩
  · rw [hps, List.mem_append] at hp
    exact Or.inr hp
  · obtain ⟨_, _, _, _, _, hz, hn⟩ := hW
    refine ⟨hok, _, _, ([] ++ pa) ++ pv, ⟨[] ++ pa, pv, trodAll_append (hargs _ (fun _ _ => rfl)) (hres _ _ _), hvars _ (fun _ _ => rfl), rfl, ?_, ?_⟩, ?_⟩
    · intro b off hp
      have hin : MemPlace.cell b off ∈ before := by rw [hps]; simpa using hp
      rw [hb.frozen (hlt _ hin)]
      exact hz b off hin
    · intro ha
      have := hn ha
      rw [hps] at this
      simpa using this
    · intro p hp _
      rw [hps]
      simpa using hp
end
theorem trodAll_stays {P : Program} (hl : laidOutB P = true) {H : Type} {enc : TypeId × Value → H} {W W' : World} (hb : Below W.heap.size W W') {sp : Nat → Bool} : ∀ {ts : List TypeId} {vs : List Value} {ds : List (DataW H)} {ps : List MemPlace}, DataW.TrodAll enc P W 0 (fun _ => true) true ts vs ds ps →
    (∀ p ∈ ps, p.block < W.heap.size) → (ts.all fun t => P.readableRec t && decide (t < P.types.size)) = true → (∀ p ∈ ps, sp p.block = true) → DataW.TrodAll enc P W' 0 sp true ts vs ds ps
  | [], vs, ds, ps, h, _, _, _ => by
    obtain ⟨rfl, rfl, rfl⟩ := trodAll_nil h
    exact trodAll_mk0
  | t :: ts, vs, ds, ps, h, hlt, hr, hsp => by
    obtain ⟨v, vs', d, ds', p, q, rfl, rfl, rfl, h1, h2⟩ := trodAll_cons h
    simp only [List.all_cons, Bool.and_eq_true, decide_eq_true_eq] at hr
    exact trodAll_cons_mk (WideElems.Trod_stays hl hr.1.1 hr.1.2 h1 (fun x hx => hb.same (hlt x (by simp [hx]))) (fun x hx => hsp x (by simp [hx])))
      (trodAll_stays hl hb h2 (fun x hx => hlt x (by simp [hx])) hr.2 (fun x hx => hsp x (by simp [hx])))
end Go.Proofs.Ytllmahcanipcpaa
