/- The plain law of chapter 11, the program's side: all places, as the program goes through them; what may turn of a looked-at file. -/
import Derived.Test.YtllmahcanipcpaaKQ
set_option linter.unusedVariables false
set_option linter.unusedSimpArgs false
namespace Go.Proofs.Ytllmahcanipcpaa
open Go.RowKit

theorem nth_ext {a b : List Int} {n : Nat} (ha : a.length = n) (hb : b.length = n) (h : ∀ q, q < n → nth a q = nth b q) : a = b := by
  apply List.ext_getElem (by omega)
  intro i h1 h2
  have := h i (by omega)
  rwa [nth_eq h1, nth_eq h2] at this
theorem take_map_range (s : Span) {m : Nat} (hm : (m : Int) ≤ s.hi - s.lo) : (spanVals s).take (m + 1) = (spanVals s).take m ++ [s.lo + m] := by
  have : m < (spanVals s).length := by simp [spanVals]; omega
  rw [take_nth this]
  congr 1
  simp [nth, spanVals, show m < (s.hi - s.lo + 1).toNat by omega]
theorem spanVals_take (s : Span) {m : Nat} (hm : s.hi - s.lo < m) : (spanVals s).take m = spanVals s := List.take_of_length_le (by simp [spanVals]; omega)
theorem mem_spanVals {s : Span} {x : Int} : x ∈ spanVals s ↔ s.lo ≤ x ∧ x ≤ s.hi := by
  simp only [spanVals, List.mem_map, List.mem_range]
  constructor
  · rintro ⟨k, hk, rfl⟩; omega
  · intro h; exact ⟨(x - s.lo).toNat, by omega, by omega⟩
theorem take_flat_prefix {α β : Type} (l : List α) (k : Nat) (f : α → List β) : (l.take k).flatMap f <+: l.flatMap f :=
  ⟨(l.drop k).flatMap f, by rw [← List.flatMap_append, List.take_append_drop]⟩

/-- All ways to go on with places g from lot k on, d lots. -/
def compP (f : File) : Nat → Nat → List Int → List (List Int)
  | 0, _, g => [g]
  | d + 1, k, g => (spanVals (nth f.lots k).turned).flatMap fun x => compP f d (k + 1) (g ++ [x])
theorem allTo_comp (f : File) : ∀ d k, allTo f (k + d) = (allTo f k).flatMap (compP f d k)
  | 0, k => by
    have h : compP f 0 k = fun g => [g] := by funext g; rfl
    rw [h, Nat.add_zero, List.flatMap_singleton']
  | d + 1, k => by
    rw [show k + (d + 1) = (k + 1) + d by omega, allTo_comp f d (k + 1), allTo, List.flatMap_assoc]
    congr 1
    funext g
    rw [compP, List.flatMap_map]
theorem comp_all (f : File) : compP f f.lots.length 0 [] = allP f := by
  have := allTo_comp f f.lots.length 0
  rw [Nat.zero_add] at this
  rw [allP, this, allTo]; simp
theorem comp_mem {f : File} : ∀ {d k : Nat} {g x : List Int}, x ∈ compP f d k g → x.take g.length = g ∧ x.length = g.length + d
  | 0, k, g, x, h => by simp [compP] at h; subst h; simp
  | d + 1, k, g, x, h => by
    simp only [compP, List.mem_flatMap] at h
    obtain ⟨y, _, hy⟩ := h
    obtain ⟨h1, h2⟩ := comp_mem hy
    simp only [List.length_append, List.length_cons, List.length_nil] at h1 h2
    refine ⟨?_, by omega⟩
    have := congrArg (List.take g.length) h1
    rwa [List.take_take, Nat.min_eq_left (by omega), List.take_left] at this
theorem comp_digit {f : File} {d k : Nat} {g x : List Int} {y : Int} (h : x ∈ compP f d k (g ++ [y])) : nth x g.length = y := by
  obtain ⟨h1, h2⟩ := comp_mem h
  simp only [List.length_append, List.length_cons, List.length_nil] at h1 h2
  have h3 : nth (x.take (g.length + 1)) g.length = y := by rw [h1]; simp [nth]
  simpa [nth] using h3
def zeros (n : Nat) : List Int := List.replicate (4 - n) 0
def mkP (f : File) (g : List Int) : List Int := g ++ zeros f.lots.length
theorem mkP_inj {f : File} {g g' : List Int} (h : g.length = g'.length) (e : mkP f g = mkP f g') : g = g' := (List.append_inj e h).1
def todoP (f : File) (d k : Nat) (g : List Int) : List (List Int) := (compP f d k g).map (mkP f)
def statesP (f : File) : List (List Int) := todoP f f.lots.length 0 []
/-- Which papers are so, but for some of them. -/
def soBit (f : File) (but : Nat) (p : List Int) (k : Nat) : Bool := but.testBit k || soP f (nth f.papers k) p
def soToB (f : File) (but : Nat) (p : List Int) (j : Nat) : Bool := (List.range j).all (soBit f but p)
def soB (f : File) (but : Nat) (p : List Int) : Bool := soToB f but p f.papers.length
theorem soToB_succ (f : File) (but : Nat) (p : List Int) (j : Nat) : soToB f but p (j + 1) = (soToB f but p j && soBit f but p j) := by simp [soToB, List.range_succ]
theorem soToB_false {f : File} {but : Nat} {p : List Int} {j : Nat} (h : soToB f but p j = false) (hj : j ≤ f.papers.length) : soB f but p = false := by
  rw [soB, soToB, List.all_eq_false]
  rw [soToB, List.all_eq_false] at h
  obtain ⟨x, hx, h2⟩ := h
  exact ⟨x, by simp at hx ⊢; omega, h2⟩
def truthsB (f : File) (but : Nat) : List (List Int) := (statesP f).filter (soB f but)
theorem todo_zero (f : File) (k : Nat) (g : List Int) : todoP f 0 k g = [mkP f g] := rfl
theorem todo_succ (f : File) (d k : Nat) (g : List Int) : todoP f (d + 1) k g = (spanVals (nth f.lots k).turned).flatMap fun x => todoP f d (k + 1) (g ++ [x]) := by
  rw [todoP, compP, List.map_flatMap]; rfl
theorem todo_apart {f : File} {d k : Nat} {g : List Int} {x y : Int} {s : List Int} (h : s ∈ todoP f d (k + 1) (g ++ [x])) (h' : s ∈ todoP f d (k + 1) (g ++ [y])) : x = y := by
  obtain ⟨a, ha, rfl⟩ := List.mem_map.1 h
  obtain ⟨b, hb, e⟩ := List.mem_map.1 h'
  have h1 := (comp_mem ha).2
  have h2 := (comp_mem hb).2
  simp only [List.length_append, List.length_cons, List.length_nil] at h1 h2
  have := mkP_inj (by omega) e
  subst this
  rw [← comp_digit ha, ← comp_digit hb]
theorem nth_zeros (n k : Nat) : nth (zeros n) k = 0 := by
  rw [nth, zeros, List.getD_eq_getElem?_getD, List.getElem?_replicate]; split <;> rfl
/-- Places of the iterator that stands at the lot behind g. -/
structure StAt (f : File) (g s : List Int) : Prop where
  len : s.length = 4
  take : s.take g.length = g
  zero : ∀ k, f.lots.length ≤ k → nth s k = 0
  bd : ∀ k, 0 ≤ nth s k ∧ nth s k ≤ 3
  ok : ∀ k, k < g.length → (nth f.lots k).turned.lo ≤ nth s k ∧ nth s k ≤ (nth f.lots k).turned.hi
theorem StAt.less {f : File} {g : List Int} {x : Int} {s : List Int} (h : StAt f (g ++ [x]) s) : StAt f g s := by
  refine ⟨h.len, ?_, h.zero, h.bd, fun k hk => h.ok k (by simp; omega)⟩
  have := congrArg (List.take g.length) h.take
  simp only [List.length_append, List.length_cons, List.length_nil] at this
  rwa [List.take_take, Nat.min_eq_left (by omega), List.take_left] at this
theorem StAt.set {f : File} {g s : List Int} (h : StAt f g s) (hg : g.length < f.lots.length) (hl : f.lots.length ≤ 4) {x : Int} (hx : 0 ≤ x ∧ x ≤ 3) (hx2 : (nth f.lots g.length).turned.lo ≤ x ∧ x ≤ (nth f.lots g.length).turned.hi) : StAt f (g ++ [x]) (s.set g.length x) := by
  have hlen := h.len
  refine ⟨by simp [hlen], ?_, fun k hk => ?_, fun k => ?_, fun k hk => ?_⟩
  · simp only [List.length_append, List.length_cons, List.length_nil]
    rw [List.take_succ_eq_append_getElem (by simp; omega)]
    simp only [List.getElem_set_self]
    rw [List.take_set_of_le (Nat.le_refl _), h.take]
  · rw [nth_setG (by omega), if_neg (by omega)]; exact h.zero k hk
  · rw [nth_setG (by omega)]
    split
    · exact hx
    · exact h.bd k
  · simp at hk
    rw [nth_setG (by omega)]
    split
    · rename_i e; rw [e]; exact hx2
    · exact h.ok k (by omega)
theorem StAt.done {f : File} {g s : List Int} (h : StAt f g s) (hg : g.length = f.lots.length) (hl : f.lots.length ≤ 4) : s = mkP f g := by
  have h4 := h.len
  have h5 := h.take
  rw [mkP]
  refine nth_ext h4 (by simp [zeros]; omega) fun q hq => ?_
  rw [nth_app']
  split
  · rename_i hlt
    have : nth (s.take g.length) q = nth s q := by simp [nth, List.getElem?_take, hlt]
    rw [← this, h5]
  · rename_i hge
    rw [nth_zeros, h.zero q (by omega)]
/-- Places that are such as lots can have turned at. -/
structure PlB (f : File) (s : List Int) : Prop where
  len : s.length = 4
  bd : ∀ k, 0 ≤ nth s k ∧ nth s k ≤ 3
  ok : ∀ k, k < f.lots.length → (nth f.lots k).turned.lo ≤ nth s k ∧ nth s k ≤ (nth f.lots k).turned.hi
theorem PlB.pl {f : File} {s : List Int} (h : PlB f s) : PlOk s := ⟨h.len, fun i => (wfI_iff _).2 (by have := h.bd i; omega)⟩
theorem StAt.plB {f : File} {g s : List Int} (h : StAt f g s) (hg : g.length = f.lots.length) : PlB f s := ⟨h.len, h.bd, fun k hk => h.ok k (by omega)⟩
theorem PlB.at_ {f : File} {s : List Int} (h : PlB f s) (hv : Valid f) {k : Nat} (hk : k < f.lots.length) : ∃ j : Nat, nth s k = j ∧ j < (nth f.lots k).route.length ∧ j < 4 := by
  have h1 := h.ok k hk
  have h2 := hv.lot k hk
  have h3 := h.bd k
  exact ⟨(nth s k).toNat, by omega, by omega, by omega⟩
/-- What has come when digits below x are done. -/
def doneTo (f : File) (d k : Nat) (g : List Int) (x : Int) : List (List Int) := ((spanVals (nth f.lots k).turned).take (x - (nth f.lots k).turned.lo).toNat).flatMap fun y => todoP f d (k + 1) (g ++ [y])
theorem doneTo_lo (f : File) (d k : Nat) (g : List Int) : doneTo f d k g (nth f.lots k).turned.lo = [] := by simp [doneTo]
theorem doneTo_succ {f : File} {d k : Nat} {g : List Int} {x : Int} (h1 : (nth f.lots k).turned.lo ≤ x) (h2 : x ≤ (nth f.lots k).turned.hi) : doneTo f d k g (x + 1) = doneTo f d k g x ++ todoP f d (k + 1) (g ++ [x]) := by
  rw [doneTo, show (x + 1 - (nth f.lots k).turned.lo).toNat = (x - (nth f.lots k).turned.lo).toNat + 1 by omega, take_map_range _ (by omega), List.flatMap_append, doneTo]
  congr 1
  simp only [List.flatMap_cons, List.flatMap_nil, List.append_nil]
  rw [show (nth f.lots k).turned.lo + ((x - (nth f.lots k).turned.lo).toNat : Int) = x by omega]
theorem doneTo_all {f : File} {d k : Nat} {g : List Int} {x : Int} (h : (nth f.lots k).turned.hi < x) (h0 : (nth f.lots k).turned.lo ≤ x) : doneTo f d k g x = todoP f (d + 1) k g := by
  rw [doneTo, spanVals_take _ (by omega), todo_succ]
theorem statesP_ok {f : File} (hv : Valid f) {s : List Int} (h : s ∈ statesP f) : PlB f s ∧ ∀ k, f.lots.length ≤ k → nth s k = 0 := by
  have key : ∀ d k g, k + d = f.lots.length → g.length = k → (∀ j, j < k → (nth f.lots j).turned.lo ≤ nth g j ∧ nth g j ≤ (nth f.lots j).turned.hi) → ∀ x ∈ compP f d k g, x.length = f.lots.length ∧ ∀ j, j < f.lots.length → (nth f.lots j).turned.lo ≤ nth x j ∧ nth x j ≤ (nth f.lots j).turned.hi := by
    intro d
    induction d with
    | zero => intro k g h1 h2 h3 x hx; simp [compP] at hx; subst hx; exact ⟨by omega, fun j hj => h3 j (by omega)⟩
    | succ d ih =>
      intro k g h1 h2 h3 x hx
      simp only [compP, List.mem_flatMap] at hx
      obtain ⟨y, hy, hx⟩ := hx
      have hy2 := mem_spanVals.1 hy
      refine ih (k + 1) (g ++ [y]) (by omega) (by simp [h2]) (fun j hj => ?_) x hx
      rw [nth_app']
      split
      · exact h3 j (by omega)
      · obtain rfl : j = k := by omega
        rw [h2, Nat.sub_self]; exact hy2
  obtain ⟨g, hg, rfl⟩ := List.mem_map.1 h
  obtain ⟨h1, h2⟩ := key f.lots.length 0 [] (by omega) rfl (fun j hj => by omega) g hg
  have hl := hv.lots
  have h3 : ∀ k, f.lots.length ≤ k → nth (mkP f g) k = 0 := fun k hk => by rw [mkP, nth_app', if_neg (by omega), nth_zeros]
  have h4 : ∀ k, k < f.lots.length → nth (mkP f g) k = nth g k := fun k hk => by rw [mkP, nth_app', if_pos (by omega)]
  refine ⟨⟨by simp [mkP, zeros, h1]; omega, fun k => ?_, fun k hk => by rw [h4 k hk]; exact h2 k hk⟩, h3⟩
  rcases Nat.lt_or_ge k f.lots.length with hk | hk
  · rw [h4 k hk]
    have := h2 k hk
    have := hv.lot k hk
    have := hv.route k hk
    omega
  · rw [h3 k hk]; omega

theorem map_cell {w : World} {bm : Nat} {es : Array MapEntry} {cl : Nat} (h : w.heap[bm]? = some (.map es cl)) (o : Nat) : w.cell? ⟨bm, o, none⟩ = none := by
  simp [World.cell?, h]
theorem known_cells {w : World} {V : List Int → Int} {b o : Nat} (h : Known w b V) : w.cell? ⟨b, o, none⟩ = none := by
  obtain ⟨es, cl, hb, _⟩ := h
  exact map_cell hb o
theorem Known.ne {w : World} {bm b o : Nat} {V : List Int → Int} {v : Value} (h : Known w bm V) (hc : w.cell? ⟨b, o, none⟩ = some v) : b ≠ bm := by
  rintro rfl; rw [known_cells h] at hc; cases hc
theorem Known.keep {S : Nat → Prop} {w w' : World} {bm : Nat} {V : List Int → Int} (h : Known w bm V) (hk : Keep S w w') (hS : ¬ S bm) : Known w' bm V := h.block (hk.block bm h.lt hS)
/-- The file that is looked at: what came in lies below block L. -/
structure LookG (w : World) (L b bm : Nat) (f : File) (a : FA) (but : Int) (V : List Int → Int) : Prop where
  v : FileV w L f a
  q0 : w.cell? ⟨b, 0, none⟩ = some (.slice a.A1 f.parties.length a.c1)
  q1 : w.cell? ⟨b, 1, none⟩ = some (.slice a.A2 f.untils.length a.c2)
  q2 : w.cell? ⟨b, 2, none⟩ = some (.slice a.A3 f.lots.length a.c3)
  q3 : w.cell? ⟨b, 3, none⟩ = some (.slice a.A4 f.papers.length a.c4)
  q4 : w.cell? ⟨b, 4, none⟩ = some (.slice a.A5 f.claims.length a.c5)
  q5 : w.cell? ⟨b, 5, none⟩ = some (.int .i64 but)
  q6 : w.cell? ⟨b, 6, none⟩ = some (.map (some bm))
  k : Known w bm V
  hb : b < w.heap.size
  hm : bm < w.heap.size
  hL : L ≤ w.heap.size
section
variable {S : Nat → Prop} {w w' : World} {L b bm : Nat} {f : File} {a : FA} {but : Int} {V : List Int → Int}
theorem FileV.keep {B : Nat} (h : FileV w B f a) (hc : ∀ q o, q < B → w'.cell? ⟨q, o, none⟩ = w.cell? ⟨q, o, none⟩) : FileV w' B f a :=
  ⟨h.parties.keep hc, h.untils.keep hc, h.lots.keep hc, h.papers.keep hc, h.claims.keep hc, fun j hj => ⟨(h.routes j hj).len, (h.routes j hj).cap, (h.routes j hj).max, (h.routes j hj).row.keep hc⟩, h.small, h.fit, h.m1, h.m2, h.m3, h.m4, h.m5⟩
theorem LookG.look (h : LookG w L b bm f a but V) : LookF w b bm f a but V := ⟨h.v.more h.hL, h.q0, h.q1, h.q2, h.q3, h.q4, h.q5, h.q6, h.k⟩
theorem LookF.lookG (h : LookF w b bm f a but V) : LookG w w.heap.size b bm f a but V := ⟨h.v, h.q0, h.q1, h.q2, h.q3, h.q4, h.q5, h.q6, h.k, cell_lt h.q0, h.k.lt, Nat.le_refl _⟩
theorem LookG.ne (h : LookG w L b bm f a but V) : b ≠ bm := h.k.ne h.q0
theorem LookG.keep (h : LookG w L b bm f a but V) (hk : Keep S w w') (hS : ∀ k, S k → k = bm ∨ (L ≤ k ∧ k ≠ b)) (hn : Known w' bm V) : LookG w' L b bm f a but V := by
  have hc : ∀ q o, q < L → w'.cell? ⟨q, o, none⟩ = w.cell? ⟨q, o, none⟩ := fun q o hq => by
    by_cases e : q = bm
    · subst e; rw [known_cells hn, known_cells h.k]
    · exact hk.cell (by have := h.hL; omega) (fun hs => by rcases hS q hs with h1 | h1 <;> omega)
  have hcb : ∀ o, w'.cell? ⟨b, o, none⟩ = w.cell? ⟨b, o, none⟩ := fun o => hk.cell h.hb (fun hs => by
    rcases hS b hs with h1 | h1
    · exact h.ne h1
    · exact h1.2 rfl)
  exact ⟨h.v.keep hc, (hcb _).trans h.q0, (hcb _).trans h.q1, (hcb _).trans h.q2, (hcb _).trans h.q3, (hcb _).trans h.q4, (hcb _).trans h.q5, (hcb _).trans h.q6, hn, by have := h.hb; have := hk.size; omega, hn.lt, by have := h.hL; have := hk.size; omega⟩
theorem LookG.keep' (h : LookG w L b bm f a but V) (hk : Keep S w w') (hS : ∀ k, S k → L ≤ k ∧ k ≠ b ∧ k ≠ bm) : LookG w' L b bm f a but V :=
  h.keep hk (fun k hs => .inr ⟨(hS k hs).1, (hS k hs).2.1⟩) (h.k.keep hk (fun hs => (hS _ hs).2.2 rfl))
theorem LookG.more {L' : Nat} (h : LookG w L b bm f a but V) (hL : L ≤ L') (hL' : L' ≤ w.heap.size) : LookG w L' b bm f a but V :=
  ⟨h.v.more hL, h.q0, h.q1, h.q2, h.q3, h.q4, h.q5, h.q6, h.k, h.hb, h.hm, hL'⟩
theorem LookG.less {L' : Nat} (h : LookG w L b bm f a but V) (hv : FileV w L' f a) (hL' : L' ≤ w.heap.size) : LookG w L' b bm f a but V :=
  ⟨hv, h.q0, h.q1, h.q2, h.q3, h.q4, h.q5, h.q6, h.k, h.hb, h.hm, hL'⟩
theorem LookG.still (h : LookG w L b bm f a but V) (hb : Below w.heap.size w w') : LookG w' L b bm f a but V := h.keep' (Keep.of_below' hb (fun _ => False)) (fun _ h => h.elim)
end
end Go.Proofs.Ytllmahcanipcpaa
