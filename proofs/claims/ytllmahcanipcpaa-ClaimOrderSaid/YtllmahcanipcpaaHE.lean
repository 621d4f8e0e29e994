/- The plain law of chapter 11, the program's side: all places, as the program goes through them; what may turn of a looked-at file. -/
import Derived.Test.YtllmahcanipcpaaHD
import Derived.Deep.DeepCutAuto
import Derived.Laws.Shifts
import Derived.Deep.RegionHeld3
import Derived.RangeFuncBound
import Derived.RangeFuncCalls
import Derived.RangeFuncNested
import Derived.OwnWalkIn
import Derived.TacticsInMore
import Derived.Laws.StructEq
import Derived.Laws.EntriesVeiled
import Derived.WalkMore
set_option linter.unusedVariables false
set_option linter.unusedSimpArgs false
namespace Go.Proofs.Ytllmahcanipcpaa
open Go.RowKit

theorem nth_ext {a b : List Int} {n : Nat} (ha : a.length = n) (hb : b.length = n) (h : ∀ q, q < n → nth a q = nth b q) : a = b := by
  apply List.ext_getElem (by omega)
  intro i h1 h2
  have := h i (by omega)
  rwa [nth_eq h1, nth_eq h2] at this
theorem take_map_range (s : Span) {m : Nat} (hm : (m : Int) ≤ s.hi - s.lo) : (spanVals s).take (m + 1) = (spanVals s).take m ++ [s.lo + m] := by
  have : m < (spanVals s).length := by simp [spanVals]; omega
  rw [take_nth this]
  congr 1
  simp [nth, spanVals, show m < (s.hi - s.lo + 1).toNat by omega]
theorem spanVals_take (s : Span) {m : Nat} (hm : s.hi - s.lo < m) : (spanVals s).take m = spanVals s := List.take_of_length_le (by simp [spanVals]; omega)
theorem mem_spanVals {s : Span} {x : Int} : x ∈ spanVals s ↔ s.lo ≤ x ∧ x ≤ s.hi := by
  simp only [spanVals, List.mem_map, List.mem_range]
  constructor
  · rintro ⟨k, hk, rfl⟩; omega
  · intro h; exact ⟨(x - s.lo).toNat, by omega, by omega⟩
theorem take_flat_prefix {α β : Type} (l : List α) (k : Nat) (f : α → List β) : (l.take k).flatMap f <+: l.flatMap f :=
  ⟨(l.drop k).flatMap f, by rw [← List.flatMap_append, List.take_append_drop]⟩

/-- All ways to go on with places g from lot k on, d lots. -/
def compP (f : File) : Nat → Nat → List Int → List (List Int)
  | 0, _, g => [g]
  | d + 1, k, g => (spanVals (nth f.lots k).turned).flatMap fun x => compP f d (k + 1) (g ++ [x])
theorem allTo_comp (f : File) : ∀ d k, allTo f (k + d) = (allTo f k).flatMap (compP f d k)
  | 0, k => by
    have h : compP f 0 k = fun g => [g] := by funext g; rfl
    rw [h, Nat.add_zero, List.flatMap_singleton']
  | d + 1, k => by
    rw [show k + (d + 1) = (k + 1) + d by omega, allTo_comp f d (k + 1), allTo, List.flatMap_assoc]
    congr 1
    funext g
    rw [compP, List.flatMap_map]
theorem comp_all (f : File) : compP f f.lots.length 0 [] = allP f := by
  have := allTo_comp f f.lots.length 0
  rw [Nat.zero_add] at this
  rw [allP, this, allTo]; simp
theorem comp_mem {f : File} : ∀ {d k : Nat} {g x : List Int}, x ∈ compP f d k g → x.take g.length = g ∧ x.length = g.length + d
  | 0, k, g, x, h => by simp [compP] at h; subst h; simp
  | d + 1, k, g, x, h => by
    simp only [compP, List.mem_flatMap] at h
    obtain ⟨y, _, hy⟩ := h
    obtain ⟨h1, h2⟩ := comp_mem hy
    simp only [List.length_append, List.length_cons, List.length_nil] at h1 h2
    refine ⟨?_, by omega⟩
    have := congrArg (List.take g.length) h1
    rwa [List.take_take, Nat.min_eq_left (by omega), List.take_left] at this
theorem comp_digit {f : File} {d k : Nat} {g x : List Int} {y : Int} (h : x ∈ compP f d k (g ++ [y])) : nth x g.length = y := by
  obtain ⟨h1, h2⟩ := comp_mem h
  simp only [List.length_append, List.length_cons, List.length_nil] at h1 h2
  have h3 : nth (x.take (g.length + 1)) g.length = y := by rw [h1]; simp [nth]
  simpa [nth] using h3
def zeros (n : Nat) : List Int := List.replicate (4 - n) 0
def mkP (f : File) (g : List Int) : List Int := g ++ zeros f.lots.length
theorem mkP_inj {f : File} {g g' : List Int} (h : g.length = g'.length) (e : mkP f g = mkP f g') : g = g' := (List.append_inj e h).1
def todoP (f : File) (d k : Nat) (g : List Int) : List (List Int) := (compP f d k g).map (mkP f)
def statesP (f : File) : List (List Int) := todoP f f.lots.length 0 []
/-- Which papers are so, but for some of them. -/
def soBit (f : File) (but : Nat) (p : List Int) (k : Nat) : Bool := but.testBit k || soP f (nth f.papers k) p
def soToB (f : File) (but : Nat) (p : List Int) (j : Nat) : Bool := (List.range j).all (soBit f but p)
def soB (f : File) (but : Nat) (p : List Int) : Bool := soToB f but p f.papers.length
theorem soToB_succ (f : File) (but : Nat) (p : List Int) (j : Nat) : soToB f but p (j + 1) = (soToB f but p j && soBit f but p j) := by simp [soToB, List.range_succ]
theorem soToB_false {f : File} {but : Nat} {p : List Int} {j : Nat} (h : soToB f but p j = false) (hj : j ≤ f.papers.length) : soB f but p = false := by
  rw [soB, soToB, List.all_eq_false]
  rw [soToB, List.all_eq_false] at h
  obtain ⟨x, hx, h2⟩ := h
  exact ⟨x, by simp at hx ⊢; omega, h2⟩
def truthsB (f : File) (but : Nat) : List (List Int) := (statesP f).filter (soB f but)
theorem todo_zero (f : File) (k : Nat) (g : List Int) : todoP f 0 k g = [mkP f g] := rfl
theorem todo_succ (f : File) (d k : Nat) (g : List Int) : todoP f (d + 1) k g = (spanVals (nth f.lots k).turned).flatMap fun x => todoP f d (k + 1) (g ++ [x]) := by
  rw [todoP, compP, List.map_flatMap]; rfl
theorem todo_apart {f : File} {d k : Nat} {g : List Int} {x y : Int} {s : List Int} (h : s ∈ todoP f d (k + 1) (g ++ [x])) (h' : s ∈ todoP f d (k + 1) (g ++ [y])) : x = y := by
  obtain ⟨a, ha, rfl⟩ := List.mem_map.1 h
  obtain ⟨b, hb, e⟩ := List.mem_map.1 h'
  have h1 := (comp_mem ha).2
  have h2 := (comp_mem hb).2
  simp only [List.length_append, List.length_cons, List.length_nil] at h1 h2
  have := mkP_inj (by omega) e
  subst this
  rw [← comp_digit ha, ← comp_digit hb]
theorem nth_zeros (n k : Nat) : nth (zeros n) k = 0 := by
  rw [nth, zeros, List.getD_eq_getElem?_getD, List.getElem?_replicate]; split <;> rfl
/-- Places of the iterator that stands at the lot behind g. -/
structure StAt (f : File) (g s : List Int) : Prop where
  len : s.length = 4
  take : s.take g.length = g
  zero : ∀ k, f.lots.length ≤ k → nth s k = 0
  bd : ∀ k, 0 ≤ nth s k ∧ nth s k ≤ 3
  ok : ∀ k, k < g.length → (nth f.lots k).turned.lo ≤ nth s k ∧ nth s k ≤ (nth f.lots k).turned.hi
theorem StAt.less {f : File} {g : List Int} {x : Int} {s : List Int} (h : StAt f (g ++ [x]) s) : StAt f g s := by
  refine ⟨h.len, ?_, h.zero, h.bd, fun k hk => h.ok k (by simp; omega)⟩
  have := congrArg (List.take g.length) h.take
  simp only [List.length_append, List.length_cons, List.length_nil] at this
  rwa [List.take_take, Nat.min_eq_left (by omega), List.take_left] at this
theorem StAt.set {f : File} {g s : List Int} (h : StAt f g s) (hg : g.length < f.lots.length) (hl : f.lots.length ≤ 4) {x : Int} (hx : 0 ≤ x ∧ x ≤ 3) (hx2 : (nth f.lots g.length).turned.lo ≤ x ∧ x ≤ (nth f.lots g.length).turned.hi) : StAt f (g ++ [x]) (s.set g.length x) := by
  have hlen := h.len
  refine ⟨by simp [hlen], ?_, fun k hk => ?_, fun k => ?_, fun k hk => ?_⟩
  · simp only [List.length_append, List.length_cons, List.length_nil]
    rw [List.take_succ_eq_append_getElem (by simp; omega)]
    simp only [List.getElem_set_self]
    rw [List.take_set_of_le (Nat.le_refl _), h.take]
  · rw [nth_setG (by omega), if_neg (by omega)]; exact h.zero k hk
  · rw [nth_setG (by omega)]
    split
    · exact hx
    · exact h.bd k
  · simp at hk
    rw [nth_setG (by omega)]
    split
    · rename_i e; rw [e]; exact hx2
    · exact h.ok k (by omega)
theorem StAt.done {f : File} {g s : List Int} (h : StAt f g s) (hg : g.length = f.lots.length) (hl : f.lots.length ≤ 4) : s = mkP f g := by
  have h4 := h.len
  have h5 := h.take
  rw [mkP]
  refine nth_ext h4 (by simp [zeros]; omega) fun q hq => ?_
  rw [nth_app']
  split
  · rename_i hlt
    have : nth (s.take g.length) q = nth s q := by simp [nth, List.getElem?_take, hlt]
    rw [← this, h5]
  · rename_i hge
    rw [nth_zeros, h.zero q (by omega)]
/-- Places that are such as lots can have turned at. -/
structure PlB (f : File) (s : List Int) : Prop where
  len : s.length = 4
  bd : ∀ k, 0 ≤ nth s k ∧ nth s k ≤ 3
  ok : ∀ k, k < f.lots.length → (nth f.lots k).turned.lo ≤ nth s k ∧ nth s k ≤ (nth f.lots k).turned.hi
theorem PlB.pl {f : File} {s : List Int} (h : PlB f s) : PlOk s := ⟨h.len, fun i => (wfI_iff _).2 (by have := h.bd i; omega)⟩
theorem StAt.plB {f : File} {g s : List Int} (h : StAt f g s) (hg : g.length = f.lots.length) : PlB f s := ⟨h.len, h.bd, fun k hk => h.ok k (by omega)⟩
theorem PlB.at_ {f : File} {s : List Int} (h : PlB f s) (hv : Valid f) {k : Nat} (hk : k < f.lots.length) : ∃ j : Nat, nth s k = j ∧ j < (nth f.lots k).route.length ∧ j < 4 := by
  have h1 := h.ok k hk
  have h2 := hv.lot k hk
  have h3 := h.bd k
  exact ⟨(nth s k).toNat, by omega, by omega, by omega⟩
/-- What has come when digits below x are done. -/
def doneTo (f : File) (d k : Nat) (g : List Int) (x : Int) : List (List Int) := ((spanVals (nth f.lots k).turned).take (x - (nth f.lots k).turned.lo).toNat).flatMap fun y => todoP f d (k + 1) (g ++ [y])
theorem doneTo_lo (f : File) (d k : Nat) (g : List Int) : doneTo f d k g (nth f.lots k).turned.lo = [] := by simp [doneTo]
theorem doneTo_succ {f : File} {d k : Nat} {g : List Int} {x : Int} (h1 : (nth f.lots k).turned.lo ≤ x) (h2 : x ≤ (nth f.lots k).turned.hi) : doneTo f d k g (x + 1) = doneTo f d k g x ++ todoP f d (k + 1) (g ++ [x]) := by
  rw [doneTo, show (x + 1 - (nth f.lots k).turned.lo).toNat = (x - (nth f.lots k).turned.lo).toNat + 1 by omega, take_map_range _ (by omega), List.flatMap_append, doneTo]
  congr 1
  simp only [List.flatMap_cons, List.flatMap_nil, List.append_nil]
  rw [show (nth f.lots k).turned.lo + ((x - (nth f.lots k).turned.lo).toNat : Int) = x by omega]
theorem doneTo_all {f : File} {d k : Nat} {g : List Int} {x : Int} (h : (nth f.lots k).turned.hi < x) (h0 : (nth f.lots k).turned.lo ≤ x) : doneTo f d k g x = todoP f (d + 1) k g := by
  rw [doneTo, spanVals_take _ (by omega), todo_succ]
theorem statesP_ok {f : File} (hv : Valid f) {s : List Int} (h : s ∈ statesP f) : PlB f s ∧ ∀ k, f.lots.length ≤ k → nth s k = 0 := by
  have key : ∀ d k g, k + d = f.lots.length → g.length = k → (∀ j, j < k → (nth f.lots j).turned.lo ≤ nth g j ∧ nth g j ≤ (nth f.lots j).turned.hi) → ∀ x ∈ compP f d k g, x.length = f.lots.length ∧ ∀ j, j < f.lots.length → (nth f.lots j).turned.lo ≤ nth x j ∧ nth x j ≤ (nth f.lots j).turned.hi := by
    intro d
    induction d with
    | zero => intro k g h1 h2 h3 x hx; simp [compP] at hx; subst hx; exact ⟨by omega, fun j hj => h3 j (by omega)⟩
    | succ d ih =>
      intro k g h1 h2 h3 x hx
      simp only [compP, List.mem_flatMap] at hx
      obtain ⟨y, hy, hx⟩ := hx
      have hy2 := mem_spanVals.1 hy
      refine ih (k + 1) (g ++ [y]) (by omega) (by simp [h2]) (fun j hj => ?_) x hx
      rw [nth_app']
      split
      · exact h3 j (by omega)
      · obtain rfl : j = k := by omega
        rw [h2, Nat.sub_self]; exact hy2
  obtain ⟨g, hg, rfl⟩ := List.mem_map.1 h
  obtain ⟨h1, h2⟩ := key f.lots.length 0 [] (by omega) rfl (fun j hj => by omega) g hg
  have hl := hv.lots
  have h3 : ∀ k, f.lots.length ≤ k → nth (mkP f g) k = 0 := fun k hk => by rw [mkP, nth_app', if_neg (by omega), nth_zeros]
  have h4 : ∀ k, k < f.lots.length → nth (mkP f g) k = nth g k := fun k hk => by rw [mkP, nth_app', if_pos (by omega)]
  refine ⟨⟨by simp [mkP, zeros, h1]; omega, fun k => ?_, fun k hk => by rw [h4 k hk]; exact h2 k hk⟩, h3⟩
  rcases Nat.lt_or_ge k f.lots.length with hk | hk
  · rw [h4 k hk]
    have := h2 k hk
    have := hv.lot k hk
    have := hv.route k hk
    omega
  · rw [h3 k hk]; omega

theorem map_cell {w : World} {bm : Nat} {es : Array MapEntry} {cl : Nat} (h : w.heap[bm]? = some (.map es cl)) (o : Nat) : w.cell? ⟨bm, o, none⟩ = none := by
  simp [World.cell?, h]
theorem known_cells {w : World} {V : List Int → Int} {b o : Nat} (h : Known w b V) : w.cell? ⟨b, o, none⟩ = none := by
  obtain ⟨es, cl, hb, _⟩ := h
  exact map_cell hb o
theorem Known.ne {w : World} {bm b o : Nat} {V : List Int → Int} {v : Value} (h : Known w bm V) (hc : w.cell? ⟨b, o, none⟩ = some v) : b ≠ bm := by
  rintro rfl; rw [known_cells h] at hc; cases hc
theorem Known.keep {S : Nat → Prop} {w w' : World} {bm : Nat} {V : List Int → Int} (h : Known w bm V) (hk : Keep S w w') (hS : ¬ S bm) : Known w' bm V := h.block (hk.block bm h.lt hS)
/-- The file that is looked at: what came in lies below block L. -/
structure LookG (w : World) (L b bm : Nat) (f : File) (a : FA) (but : Int) (V : List Int → Int) : Prop where
  v : FileV w L f a
  q0 : w.cell? ⟨b, 0, none⟩ = some (.slice a.A1 f.parties.length a.c1)
  q1 : w.cell? ⟨b, 1, none⟩ = some (.slice a.A2 f.untils.length a.c2)
  q2 : w.cell? ⟨b, 2, none⟩ = some (.slice a.A3 f.lots.length a.c3)
  q3 : w.cell? ⟨b, 3, none⟩ = some (.slice a.A4 f.papers.length a.c4)
  q4 : w.cell? ⟨b, 4, none⟩ = some (.slice a.A5 f.claims.length a.c5)
  q5 : w.cell? ⟨b, 5, none⟩ = some (.int .i64 but)
  q6 : w.cell? ⟨b, 6, none⟩ = some (.map (some bm))
  k : Known w bm V
  hb : b < w.heap.size
  hm : bm < w.heap.size
  hL : L ≤ w.heap.size
section
variable {S : Nat → Prop} {w w' : World} {L b bm : Nat} {f : File} {a : FA} {but : Int} {V : List Int → Int}
theorem FileV.keep {B : Nat} (h : FileV w B f a) (hc : ∀ q o, q < B → w'.cell? ⟨q, o, none⟩ = w.cell? ⟨q, o, none⟩) : FileV w' B f a :=
  ⟨h.parties.keep hc, h.untils.keep hc, h.lots.keep hc, h.papers.keep hc, h.claims.keep hc, fun j hj => ⟨(h.routes j hj).len, (h.routes j hj).cap, (h.routes j hj).max, (h.routes j hj).row.keep hc⟩, h.small, h.fit, h.m1, h.m2, h.m3, h.m4, h.m5⟩
theorem LookG.look (h : LookG w L b bm f a but V) : LookF w b bm f a but V := ⟨h.v.more h.hL, h.q0, h.q1, h.q2, h.q3, h.q4, h.q5, h.q6, h.k⟩
theorem LookF.lookG (h : LookF w b bm f a but V) : LookG w w.heap.size b bm f a but V := ⟨h.v, h.q0, h.q1, h.q2, h.q3, h.q4, h.q5, h.q6, h.k, cell_lt h.q0, h.k.lt, Nat.le_refl _⟩
theorem LookG.ne (h : LookG w L b bm f a but V) : b ≠ bm := h.k.ne h.q0
theorem LookG.keep (h : LookG w L b bm f a but V) (hk : Keep S w w') (hS : ∀ k, S k → k = bm ∨ (L ≤ k ∧ k ≠ b)) (hn : Known w' bm V) : LookG w' L b bm f a but V := by
  have hc : ∀ q o, q < L → w'.cell? ⟨q, o, none⟩ = w.cell? ⟨q, o, none⟩ := fun q o hq => by
    by_cases e : q = bm
    · subst e; rw [known_cells hn, known_cells h.k]
    · exact hk.cell (by have := h.hL; omega) (fun hs => by rcases hS q hs with h1 | h1 <;> omega)
  have hcb : ∀ o, w'.cell? ⟨b, o, none⟩ = w.cell? ⟨b, o, none⟩ := fun o => hk.cell h.hb (fun hs => by
    rcases hS b hs with h1 | h1
    · exact h.ne h1
    · exact h1.2 rfl)
  exact ⟨h.v.keep hc, (hcb _).trans h.q0, (hcb _).trans h.q1, (hcb _).trans h.q2, (hcb _).trans h.q3, (hcb _).trans h.q4, (hcb _).trans h.q5, (hcb _).trans h.q6, hn, by have := h.hb; have := hk.size; omega, hn.lt, by have := h.hL; have := hk.size; omega⟩
theorem LookG.keep' (h : LookG w L b bm f a but V) (hk : Keep S w w') (hS : ∀ k, S k → L ≤ k ∧ k ≠ b ∧ k ≠ bm) : LookG w' L b bm f a but V :=
  h.keep hk (fun k hs => .inr ⟨(hS k hs).1, (hS k hs).2.1⟩) (h.k.keep hk (fun hs => (hS _ hs).2.2 rfl))
theorem LookG.more {L' : Nat} (h : LookG w L b bm f a but V) (hL : L ≤ L') (hL' : L' ≤ w.heap.size) : LookG w L' b bm f a but V :=
  ⟨h.v.more hL, h.q0, h.q1, h.q2, h.q3, h.q4, h.q5, h.q6, h.k, h.hb, h.hm, hL'⟩
theorem LookG.less {L' : Nat} (h : LookG w L b bm f a but V) (hv : FileV w L' f a) (hL' : L' ≤ w.heap.size) : LookG w L' b bm f a but V :=
  ⟨hv, h.q0, h.q1, h.q2, h.q3, h.q4, h.q5, h.q6, h.k, h.hb, h.hm, hL'⟩
theorem LookG.still (h : LookG w L b bm f a but V) (hb : Below w.heap.size w w') : LookG w' L b bm f a but V := h.keep' (Keep.of_below' hb (fun _ => False)) (fun _ h => h.elim)
end
end Go.Proofs.Ytllmahcanipcpaa
/- The contract of claim's so: whether all papers are so. -/
namespace Go.Proofs.Ytllmahcanipcpaa
open Go.RowKit

theorem idx_place (r : List Int) (p : Int) : idxOf (fun x => x == p) r = placeM r p := rfl
set_option maxHeartbeats 4000000 in
set_option maxRecDepth 100000 in
theorem so_any {w : World} {b bm : Nat} {f : File} {a : FA} {but : Nat} {V : List Int → Int} (h : LookF w b bm f a but V) (hv : Valid f) (hbut : but < 32) {s : List Int} (hs : PlB f s) :
    Calls Try.prog 78 #[.pointer (some ⟨b, 0, none⟩), plVal s] w fun e w' => e = .returned (.bool (soB f but s)) ∧ Below w.heap.size w w' := by
  obtain ⟨A1, A2, A3, A4, A5, c1, c2, c3, c4, c5, R, K⟩ := a
  have q2 := h.q2
  have q3 := h.q3
  have q5 := h.q5
  have hm3 := h.v.m3
  have hm4 := h.v.m4
  dsimp only at q2 q3 hm3 hm4
  unfold maxLen at hm3 hm4
  have hpl := hv.papers
  have hll := hv.lots
  have hlt := cell_lt q3
  have HC := hide h.v
  have HV := hide hv
  have HP := hide hs
  have HPL := hide (show plVal s = .agg #[iv (nth s 0), iv (nth s 1), iv (nth s 2), iv (nth s 3)] from rfl)
  have hB0 : Below w.heap.size w (w.alloc (.cells #[iv (nth s 0), iv (nth s 1), iv (nth s 2), iv (nth s 3)] 86)) := (Below.refl _ _).alloc (Nat.le_refl _) _
  have bk : Blk (w.alloc (.cells #[iv (nth s 0), iv (nth s 1), iv (nth s 2), iv (nth s 3)] 86)) w.heap.size 86 #[iv (nth s 0), iv (nth s 1), iv (nth s 2), iv (nth s 3)] := Blk.made
  have HB0 := hide hB0
  have HBK := hide bk
  clear h hv hs hB0 bk
  simp only [plVal, iv] at *
  go_enter Try.func78, Try.ntmps78
  go_upto_region 1 with (fail)
  generalize (w.alloc (.cells #[.int .i64 (nth s 0), .int .i64 (nth s 1), .int .i64 (nth s 2), .int .i64 (nth s 3)] 86)) = w0 at *
  have HSY := hide (sayings_any w0)
  go_upto_region 2 with (refine HSY.out.mono ?_; rintro e w1 ⟨rfl, hb1⟩)
  have hB2 : Below w.heap.size w (w1.alloc (.cells #[.func (.func 102) #[] #[], .func (.func 103) #[] #[], .func (.func 104) #[] #[], .func (.func 105) #[] #[]] 124)) := (HB0.out.trans (hb1.mono HB0.out.size)).alloc (by have := HB0.out.size; have := hb1.size; omega) _
  have bs : Blk (w1.alloc (.cells #[.func (.func 102) #[] #[], .func (.func 103) #[] #[], .func (.func 104) #[] #[], .func (.func 105) #[] #[]] 124)) w1.heap.size 124 #[.func (.func 102) #[] #[], .func (.func 103) #[] #[], .func (.func 104) #[] #[], .func (.func 105) #[] #[]] := Blk.made
  have bp := (HBK.out.next hb1).alloc (.cells #[.func (.func 102) #[] #[], .func (.func 103) #[] #[], .func (.func 104) #[] #[], .func (.func 105) #[] #[]] 124)
  have hz1 : w.heap.size < w1.heap.size := (HBK.out.next hb1).lt
  generalize (w1.alloc (.cells #[.func (.func 102) #[] #[], .func (.func 103) #[] #[], .func (.func 104) #[] #[], .func (.func 105) #[] #[]] 124)) = w2 at *
  have hgz : w1.heap.size < w2.heap.size := bs.lt
  generalize w1.heap.size = gs at *
  have p2 := (hB2.cell (p := ⟨b, 2, none⟩) hlt).trans q2
  have p3 := (hB2.cell (p := ⟨b, 3, none⟩) hlt).trans q3
  have p5 := (hB2.cell (p := ⟨b, 5, none⟩) hlt).trans q5
  have hw2 := hB2.size
  have HC2 := hide ((HC.out.below hB2).more hw2)
  have HB2 := hide hB2
  have HBS := hide bs
  have HBP := hide bp
  have hb2 : b < w2.heap.size := by omega
  clear hB2 bs bp q2 q3 q5 HC hb1 HB0 HBK HSY
  go_wp2_with fail
  go_loopw [6, 7, 8, 9, 17] (fun _ _ _ _ v17 wr => ∃ j : Nat, j ≤ f.papers.length ∧ v17 = .int .i64 j ∧ Hid (soToB f but s j = true) ∧ Below w2.heap.size w2 wr) (fun _ _ _ _ v17 _ => f.papers.length - (intOf v17).toNat)
  case atStart => exact ⟨0, Nat.zero_le _, rfl, hide rfl, Below.refl _ _⟩
  case round =>
    obtain ⟨j, hj, rfl, HSO, hB⟩ := hrel
    obtain ⟨k1, f1⟩ := bcell hB
    have hzr := hB.size
    have hbr : b < wr.heap.size := by omega
    have HB := hide hB
    by_cases hltj : j < f.papers.length
    · have HSU := hide (soToB_succ f but s j)
      have HSB := hide (show soBit f but s j = (but.testBit j || soP f (nth f.papers j) s) from rfl)
      have hj0 : (0 : Int) ≤ (j : Int) := Int.natCast_nonneg _
      have hj1 : (j : Int) < (f.papers.length : Int) := by omega
      obtain ⟨bs, os, hA4, hbs, g0, g1, g2⟩ := HC2.out.papers.papers hltj
      dsimp only at hA4
      have hpv := HV.out.paper j hltj
      have hbsr : bs < wr.heap.size := by omega
      have hba := bits_and hbut (show j < 5 by omega)
      generalize nth f.papers j = x at *
      obtain ⟨ps, pl, po⟩ := x
      dsimp only at g0 g1 g2 hpv
      subst hA4
      clear hB
      by_cases hbit : but.testBit j = true
      · rw [if_pos hbit] at hba
        have HX := hide (show soToB f but s (j + 1) = true by rw [HSU.out, HSO.out, HSB.out, hbit]; rfl)
        clear hbit
        go_wp2_with fail
        exact ⟨⟨j + 1, by omega, by go_num, HX, HB.out.alloc hzr _⟩, by simp [intOf]; omega⟩
      · rw [if_neg hbit] at hba
        have hbit' : but.testBit j = false := by simpa using hbit
        rw [hbit', Bool.false_or] at HSB
        obtain ⟨k, rfl⟩ : ∃ k : Nat, pl = (k : Int) := ⟨pl.toNat, by omega⟩
        have hk : k < f.lots.length := by omega
        obtain ⟨m, hm, hmr, hm4'⟩ := HP.out.at_ HV.out hk
        obtain ⟨b3, o3, hA3, hb3, y0, _, _, _⟩ := HC2.out.lots.lots hk
        have HRT := hide (HC2.out.routes k hk)
        dsimp only at hA3 y0 HRT
        subst hA3
        have hk0 : (0 : Int) ≤ (k : Int) := Int.natCast_nonneg _
        have hk1 : (k : Int) < (f.lots.length : Int) := by omega
        have hk4 : (k : Int) < 4 := by omega
        have hpk : w2.cell? ⟨w.heap.size, k, none⟩ = some (.int .i64 (nth s k)) := by
          rw [HBP.out.at_]
          match k, (show k < 4 by omega) with
          | 0, _ => rfl
          | 1, _ => rfl
          | 2, _ => rfl
          | 3, _ => rfl
        clear hbit hbit'
        go_upto_region 6 with (fail)
        have hbx : Below w2.heap.size w2 (wr.alloc (.cells #[.int .i64 ps, .int .i64 (k : Int), .int .i64 po] 48)) := HB.out.alloc hzr _
        have bx : Blk (wr.alloc (.cells #[.int .i64 ps, .int .i64 (k : Int), .int .i64 po] 48)) wr.heap.size 48 #[.int .i64 ps, .int .i64 (k : Int), .int .i64 po] := Blk.made
        generalize (wr.alloc (.cells #[.int .i64 ps, .int .i64 (k : Int), .int .i64 po] 48)) = wx at *
        clear k1 f1
        have hzx := hbx.size
        have x0 : wx.cell? ⟨wr.heap.size, 0, none⟩ = some (.int .i64 ps) := bx.at_ 0
        have x1 : wx.cell? ⟨wr.heap.size, 1, none⟩ = some (.int .i64 (k : Int)) := bx.at_ 1
        have x2 : wx.cell? ⟨wr.heap.size, 2, none⟩ = some (.int .i64 po) := bx.at_ 2
        have hxl := bx.lt
        have r2 := (hbx.cell (p := ⟨b, 2, none⟩) hb2).trans p2
        have ry := (hbx.cell (p := ⟨b3, o3 + k * 4, none⟩) hb3).trans y0
        have rp := (hbx.cell (p := ⟨w.heap.size, k, none⟩) (by show w.heap.size < _; omega)).trans hpk
        have HRX := hide (HRT.out.below hbx)
        have HBX := hide hbx
        have HPO := hide hpv
        have HMK := hide hm
        clear hbx g0 g1 g2 hpv hm
        rcases (show ps = 0 ∨ ps = 1 ∨ ps = 2 ∨ ps = 3 by have := HPO.out; omega) with rfl | rfl | rfl | rfl
        · have HSV := hide (show soP f ⟨0, (k : Int), po⟩ s = decide (placeM (nth f.lots k).route po ≤ nth s k) from by simp [soP])
          have yf : wx.cell? ⟨gs, 0, none⟩ = some (.func (.func 102) #[] #[]) := (HBX.out.cell (p := ⟨gs, 0, none⟩) hgz).trans (HBS.out.at_ 0)
          cases hsv : decide (placeM (nth f.lots k).route po ≤ nth s k)
          all_goals
            go_quiet (first | (go_at_call 72; exact Calls.quiet_of_same ((index_any (HRX.out.drewN _) po).mono (fun _ _ h => ⟨by rw [h.1, idx_place], h.2.symm⟩))))
            go_wp2_with (refine (say1_any _ _ _).mono ?_; rintro e w' ⟨rfl, rfl⟩; rw [hsv])
          · go_ret
            exact ⟨ret_b (soToB_false (j := j + 1) (by rw [HSU.out, HSO.out, HSB.out, HSV.out, hsv]; rfl) (by omega)).symm, HB2.out.trans ((below_drewN HBX.out _).mono hw2)⟩
          · exact ⟨⟨j + 1, by omega, by go_num, hide (by rw [HSU.out, HSO.out, HSB.out, HSV.out, hsv]; rfl), below_drewN HBX.out _⟩, by simp [intOf]; omega⟩
        · have HSV := hide (show soP f ⟨1, (k : Int), po⟩ s = decide (nth s k < placeM (nth f.lots k).route po) from by simp [soP])
          have yf : wx.cell? ⟨gs, 1, none⟩ = some (.func (.func 103) #[] #[]) := (HBX.out.cell (p := ⟨gs, 1, none⟩) hgz).trans (HBS.out.at_ 1)
          cases hsv : decide (nth s k < placeM (nth f.lots k).route po)
          all_goals
            go_quiet (first | (go_at_call 72; exact Calls.quiet_of_same ((index_any (HRX.out.drewN _) po).mono (fun _ _ h => ⟨by rw [h.1, idx_place], h.2.symm⟩))))
            go_wp2_with (refine (say2_any _ _ _).mono ?_; rintro e w' ⟨rfl, rfl⟩; rw [hsv])
          · go_ret
            exact ⟨ret_b (soToB_false (j := j + 1) (by rw [HSU.out, HSO.out, HSB.out, HSV.out, hsv]; rfl) (by omega)).symm, HB2.out.trans ((below_drewN HBX.out _).mono hw2)⟩
          · exact ⟨⟨j + 1, by omega, by go_num, hide (by rw [HSU.out, HSO.out, HSB.out, HSV.out, hsv]; rfl), below_drewN HBX.out _⟩, by simp [intOf]; omega⟩
        · obtain ⟨hq1, hq2, hq3⟩ := HPO.out.2.2.2.2.2 (by omega)
          obtain ⟨k2, rfl⟩ : ∃ k2 : Nat, po = (k2 : Int) := ⟨po.toNat, by omega⟩
          have HSV := hide (show soP f ⟨2, (k : Int), (k2 : Int)⟩ s = (withM f s k == withM f s k2) from by simp [soP])
          have hk2 : k2 < f.lots.length := by omega
          obtain ⟨m2, hm2, hmr2, hm24⟩ := HP.out.at_ HV.out hk2
          have hW1 : withM f s k = nth (nth f.lots k).route m := by rw [withM, HMK.out, Int.toNat_natCast]
          have hW2 : withM f s k2 = nth (nth f.lots k2).route m2 := by rw [withM, hm2, Int.toNat_natCast]
          have n4 : ∀ i, i < 4 → nth [nth s 0, nth s 1, nth s 2, nth s 3] i = nth s i := fun i hi => by
            match i, hi with
            | 0, _ => rfl
            | 1, _ => rfl
            | 2, _ => rfl
            | 3, _ => rfl
          have hm' := (n4 k (by omega)).trans HMK.out
          have hm2' := (n4 k2 (by omega)).trans hm2
          have HFX := hide ((HC2.out.below HBX.out).more hzx)
          have yf : wx.cell? ⟨gs, 2, none⟩ = some (.func (.func 104) #[] #[]) := (HBX.out.cell (p := ⟨gs, 2, none⟩) hgz).trans (HBS.out.at_ 2)
          have s0 := (HBX.out.cell (p := ⟨w.heap.size, 0, none⟩) (by show w.heap.size < _; omega)).trans (HBP.out.at_ 0)
          have s1 := (HBX.out.cell (p := ⟨w.heap.size, 1, none⟩) (by show w.heap.size < _; omega)).trans (HBP.out.at_ 1)
          have s2 := (HBX.out.cell (p := ⟨w.heap.size, 2, none⟩) (by show w.heap.size < _; omega)).trans (HBP.out.at_ 2)
          have s3 := (HBX.out.cell (p := ⟨w.heap.size, 3, none⟩) (by show w.heap.size < _; omega)).trans (HBP.out.at_ 3)
          simp only [List.getElem?_toArray, List.getElem?_cons_succ, List.getElem?_cons_zero] at s0 s1 s2 s3
          have HW1 := hide hW1
          have HW2 := hide hW2
          have HM1 := hide hm'
          have HM2 := hide hm2'
          clear hW1 hW2 hm2 hm' hm2' n4 hq3
          go_quiet (first | (go_at_call 72; exact Calls.quiet_of_same ((index_any (HRX.out.drewN _) _).mono (fun _ _ h => ⟨by rw [h.1], h.2.symm⟩))))
          go_upto_region 8 with (fail)
          have hd : Below wx.heap.size wx (wx.drewN nq) := below_drewN (Below.refl _ _) nq
          have HBY := hide (HBX.out.trans (hd.mono hzx))
          have HFY := hide (HFX.out.next hd)
          have r2' := (hd.cell (p := ⟨b, 2, none⟩) (by show b < _; omega)).trans r2
          have x1' := (hd.cell (p := ⟨wr.heap.size, 1, none⟩) hxl).trans x1
          have x2' := (hd.cell (p := ⟨wr.heap.size, 2, none⟩) hxl).trans x2
          have x0' := (hd.cell (p := ⟨wr.heap.size, 0, none⟩) hxl).trans x0
          have yf' := (hd.cell (p := ⟨gs, 2, none⟩) (by show gs < _; omega)).trans yf
          have s0' := (hd.cell (p := ⟨w.heap.size, 0, none⟩) (by show w.heap.size < _; omega)).trans s0
          have s1' := (hd.cell (p := ⟨w.heap.size, 1, none⟩) (by show w.heap.size < _; omega)).trans s1
          have s2' := (hd.cell (p := ⟨w.heap.size, 2, none⟩) (by show w.heap.size < _; omega)).trans s2
          have s3' := (hd.cell (p := ⟨w.heap.size, 3, none⟩) (by show w.heap.size < _; omega)).trans s3
          have hzy := hd.size
          clear hd x0 x1 x2 yf s0 s1 s2 s3 r2 ry rp
          generalize wx.drewN nq = wy at *
          have hzw : w.heap.size < wy.heap.size := by omega
          have hzg : gs < wy.heap.size := by omega
          have hzr' : wr.heap.size < wy.heap.size := by omega
          have HWC : Hid (∀ (t : Later wy) (x : Nat), x = k ∨ x = k2 → Calls Try.prog 50 #[.pointer (some ⟨b, 0, none⟩), .agg #[.int .i64 (nth s 0), .int .i64 (nth s 1), .int .i64 (nth s 2), .int .i64 (nth s 3)], .int .i64 (x : Int)] (grow wy t) fun e w' => e = .returned (.int .i64 (withM f s x)) ∧ Below (grow wy t).heap.size (grow wy t) w') := fun t x hx => by
            rcases hx with rfl | rfl
            · rw [HW1.out]; exact with_any (HFY.out.next (grow_below (t := t))) ((grow_cell (t := t) b 2 (by omega)).trans r2') (nth s 0) (nth s 1) (nth s 2) (nth s 3) hk (by omega) HM1.out hmr
            · rw [HW2.out]; exact with_any (HFY.out.next (grow_below (t := t))) ((grow_cell (t := t) b 2 (by omega)).trans r2') (nth s 0) (nth s 1) (nth s 2) (nth s 3) hk2 (by omega) HM2.out hmr2
          refine wp_region_grow (by kernel_rfl) (by kernel_rfl) ?_
          have hgc := @grow_cell
          repeat (first | go_big_quiet_step ((first | (go_at_call 50; exact Calls.grow_of (HWC.out _ _ (by first | exact .inl rfl | exact .inr rfl))))) | quiet_step ((first | (go_at_call 50; exact Calls.grow_of (HWC.out _ _ (by first | exact .inl rfl | exact .inr rfl))))))
          refine wpQuiet_nil ?_
          rintro _ ⟨t, rfl⟩
          have hbt := grow_below (w := wy) (t := t)
          have x0'' := (hbt.cell (p := ⟨wr.heap.size, 0, none⟩) hzr').trans x0'
          have yf'' := (hbt.cell (p := ⟨gs, 2, none⟩) hzg).trans yf'
          have HBZ := hide (HBY.out.trans (hbt.mono (by have := HBY.out.size; omega)))
          clear hgc x0' x1' x2' yf' s0' s1' s2' s3' r2' hbt
          generalize grow wy t = wz at *
          cases hsv : (withM f s k == withM f s k2)
          all_goals
            have HSX := hide hsv
            clear hsv
            go_wp2_with (refine (say3_any _ _ _).mono ?_; rintro e w' ⟨rfl, rfl⟩; rw [HSX.out])
          · go_ret
            exact ⟨ret_b (soToB_false (j := j + 1) (by rw [HSU.out, HSO.out, HSB.out, HSV.out, HSX.out]; rfl) (by omega)).symm, HB2.out.trans (HBZ.out.mono hw2)⟩
          · exact ⟨⟨j + 1, by omega, by go_num, hide (by rw [HSU.out, HSO.out, HSB.out, HSV.out, HSX.out]; rfl), HBZ.out⟩, by simp [intOf]; omega⟩
        · obtain ⟨hq1, hq2, hq3⟩ := HPO.out.2.2.2.2.2 (by omega)
          obtain ⟨k2, rfl⟩ : ∃ k2 : Nat, po = (k2 : Int) := ⟨po.toNat, by omega⟩
          have HSV := hide (show soP f ⟨3, (k : Int), (k2 : Int)⟩ s = (withM f s k != withM f s k2) from by simp [soP])
          have hk2 : k2 < f.lots.length := by omega
          obtain ⟨m2, hm2, hmr2, hm24⟩ := HP.out.at_ HV.out hk2
          have hW1 : withM f s k = nth (nth f.lots k).route m := by rw [withM, HMK.out, Int.toNat_natCast]
          have hW2 : withM f s k2 = nth (nth f.lots k2).route m2 := by rw [withM, hm2, Int.toNat_natCast]
          have n4 : ∀ i, i < 4 → nth [nth s 0, nth s 1, nth s 2, nth s 3] i = nth s i := fun i hi => by
            match i, hi with
            | 0, _ => rfl
            | 1, _ => rfl
            | 2, _ => rfl
            | 3, _ => rfl
          have hm' := (n4 k (by omega)).trans HMK.out
          have hm2' := (n4 k2 (by omega)).trans hm2
          have HFX := hide ((HC2.out.below HBX.out).more hzx)
          have yf : wx.cell? ⟨gs, 3, none⟩ = some (.func (.func 105) #[] #[]) := (HBX.out.cell (p := ⟨gs, 3, none⟩) hgz).trans (HBS.out.at_ 3)
          have s0 := (HBX.out.cell (p := ⟨w.heap.size, 0, none⟩) (by show w.heap.size < _; omega)).trans (HBP.out.at_ 0)
          have s1 := (HBX.out.cell (p := ⟨w.heap.size, 1, none⟩) (by show w.heap.size < _; omega)).trans (HBP.out.at_ 1)
          have s2 := (HBX.out.cell (p := ⟨w.heap.size, 2, none⟩) (by show w.heap.size < _; omega)).trans (HBP.out.at_ 2)
          have s3 := (HBX.out.cell (p := ⟨w.heap.size, 3, none⟩) (by show w.heap.size < _; omega)).trans (HBP.out.at_ 3)
          simp only [List.getElem?_toArray, List.getElem?_cons_succ, List.getElem?_cons_zero] at s0 s1 s2 s3
          have HW1 := hide hW1
          have HW2 := hide hW2
          have HM1 := hide hm'
          have HM2 := hide hm2'
          clear hW1 hW2 hm2 hm' hm2' n4 hq3
          go_quiet (first | (go_at_call 72; exact Calls.quiet_of_same ((index_any (HRX.out.drewN _) _).mono (fun _ _ h => ⟨by rw [h.1], h.2.symm⟩))))
          go_upto_region 8 with (fail)
          have hd : Below wx.heap.size wx (wx.drewN nq) := below_drewN (Below.refl _ _) nq
          have HBY := hide (HBX.out.trans (hd.mono hzx))
          have HFY := hide (HFX.out.next hd)
          have r2' := (hd.cell (p := ⟨b, 2, none⟩) (by show b < _; omega)).trans r2
          have x1' := (hd.cell (p := ⟨wr.heap.size, 1, none⟩) hxl).trans x1
          have x2' := (hd.cell (p := ⟨wr.heap.size, 2, none⟩) hxl).trans x2
          have x0' := (hd.cell (p := ⟨wr.heap.size, 0, none⟩) hxl).trans x0
          have yf' := (hd.cell (p := ⟨gs, 3, none⟩) (by show gs < _; omega)).trans yf
          have s0' := (hd.cell (p := ⟨w.heap.size, 0, none⟩) (by show w.heap.size < _; omega)).trans s0
          have s1' := (hd.cell (p := ⟨w.heap.size, 1, none⟩) (by show w.heap.size < _; omega)).trans s1
          have s2' := (hd.cell (p := ⟨w.heap.size, 2, none⟩) (by show w.heap.size < _; omega)).trans s2
          have s3' := (hd.cell (p := ⟨w.heap.size, 3, none⟩) (by show w.heap.size < _; omega)).trans s3
          have hzy := hd.size
          clear hd x0 x1 x2 yf s0 s1 s2 s3 r2 ry rp
          generalize wx.drewN nq = wy at *
          have hzw : w.heap.size < wy.heap.size := by omega
          have hzg : gs < wy.heap.size := by omega
          have hzr' : wr.heap.size < wy.heap.size := by omega
          have HWC : Hid (∀ (t : Later wy) (x : Nat), x = k ∨ x = k2 → Calls Try.prog 50 #[.pointer (some ⟨b, 0, none⟩), .agg #[.int .i64 (nth s 0), .int .i64 (nth s 1), .int .i64 (nth s 2), .int .i64 (nth s 3)], .int .i64 (x : Int)] (grow wy t) fun e w' => e = .returned (.int .i64 (withM f s x)) ∧ Below (grow wy t).heap.size (grow wy t) w') := fun t x hx => by
            rcases hx with rfl | rfl
            · rw [HW1.out]; exact with_any (HFY.out.next (grow_below (t := t))) ((grow_cell (t := t) b 2 (by omega)).trans r2') (nth s 0) (nth s 1) (nth s 2) (nth s 3) hk (by omega) HM1.out hmr
            · rw [HW2.out]; exact with_any (HFY.out.next (grow_below (t := t))) ((grow_cell (t := t) b 2 (by omega)).trans r2') (nth s 0) (nth s 1) (nth s 2) (nth s 3) hk2 (by omega) HM2.out hmr2
          refine wp_region_grow (by kernel_rfl) (by kernel_rfl) ?_
          have hgc := @grow_cell
          repeat (first | go_big_quiet_step ((first | (go_at_call 50; exact Calls.grow_of (HWC.out _ _ (by first | exact .inl rfl | exact .inr rfl))))) | quiet_step ((first | (go_at_call 50; exact Calls.grow_of (HWC.out _ _ (by first | exact .inl rfl | exact .inr rfl))))))
          refine wpQuiet_nil ?_
          rintro _ ⟨t, rfl⟩
          have hbt := grow_below (w := wy) (t := t)
          have x0'' := (hbt.cell (p := ⟨wr.heap.size, 0, none⟩) hzr').trans x0'
          have yf'' := (hbt.cell (p := ⟨gs, 3, none⟩) hzg).trans yf'
          have HBZ := hide (HBY.out.trans (hbt.mono (by have := HBY.out.size; omega)))
          clear hgc x0' x1' x2' yf' s0' s1' s2' s3' r2' hbt
          generalize grow wy t = wz at *
          cases hsv : (withM f s k != withM f s k2)
          all_goals
            have HSX := hide hsv
            clear hsv
            go_wp2_with (refine (say4_any _ _ _).mono ?_; rintro e w' ⟨rfl, rfl⟩; rw [HSX.out])
          · go_ret
            exact ⟨ret_b (soToB_false (j := j + 1) (by rw [HSU.out, HSO.out, HSB.out, HSV.out, HSX.out]; rfl) (by omega)).symm, HB2.out.trans (HBZ.out.mono hw2)⟩
          · exact ⟨⟨j + 1, by omega, by go_num, hide (by rw [HSU.out, HSO.out, HSB.out, HSV.out, HSX.out]; rfl), HBZ.out⟩, by simp [intOf]; omega⟩
    · go_wp2
      go_ret
      exact ⟨ret_b (by rw [soB, show f.papers.length = j by omega, HSO.out]), HB2.out.trans (HB.out.mono hw2)⟩
end Go.Proofs.Ytllmahcanipcpaa
/- The memory of claim's iterator of truths; places are compared; its innermost call (all lots have a place). -/
namespace Go.Proofs.Ytllmahcanipcpaa
open Go.RowKit
attribute [local go_sem ↓] Go.wp_at_zero Go.wp_at_succ

theorem Try.keyAtPl : Try.prog.keyTypeAt 3 86 = true := by kernel_rfl
theorem plVal_lit_inj {s t : List Int} (hs : PlOk s) (ht : PlOk t) {l : Lit} (h1 : keyOf Try.prog 86 (plVal s) = some l) (h2 : keyOf Try.prog 86 (plVal t) = some l) : s = t :=
  plVal_inj hs.len ht.len (Try.keyPl.inj h1 h2)
set_option maxRecDepth 100000 in
theorem run_eq_pl {s t : List Int} (hs : PlOk s) (ht : PlOk t) (hne : s ≠ t) (w : World) : (Op.equalIn 10000 86 (plVal s) (plVal t)).run Try.prog w = .ok false w := by
  obtain ⟨ls, hls⟩ := plVal_key s hs
  obtain ⟨lt, hlt⟩ := plVal_key t ht
  obtain ⟨r, hr, hiff⟩ := run_equal_deep w (m := 3) (by omega) Try.keyAtPl Try.widePl hls hlt
  have : r = false := by
    cases r with
    | false => rfl
    | true =>
      have e := hiff.1 rfl
      subst e
      exact absurd (plVal_lit_inj hs ht hls hlt) hne
  subst this
  simp only [Op.equal, Op.maxDepth] at hr
  exact hr
def plRow (s : List Int) : List Int := [nth s 0, nth s 1, nth s 2, nth s 3]
theorem nth4_0 {a b c d : Int} : nth [a, b, c, d] 0 = a := rfl
theorem nth4_1 {a b c d : Int} : nth [a, b, c, d] 1 = b := rfl
theorem nth4_2 {a b c d : Int} : nth [a, b, c, d] 2 = c := rfl
theorem nth4_3 {a b c d : Int} : nth [a, b, c, d] 3 = d := rfl
theorem plRow_set {s : List Int} (hl : s.length = 4) {k : Nat} (hk : k < 4) (x : Int) : (plRow s).set k x = plRow (s.set k x) := by
  match s, hl with
  | [g0, g1, g2, g3], _ =>
    obtain rfl | rfl | rfl | rfl : k = 0 ∨ k = 1 ∨ k = 2 ∨ k = 3 := by omega
    all_goals rfl
/-- What never turns of the blocks: which are which. -/
structure Fix (C : Nat → Prop) (L U b bm p1 pf py pn ps pl : Nat) : Prop where
  hLU : L ≤ U
  hm : bm < U
  hb : b < U
  c : ∀ k, C k → k = bm ∨ ((L ≤ k ∧ k ≠ b) ∧ k < U ∧ k ≠ p1)
  a1 : p1 < U
  f : U ≤ pf ∧ pf ≠ ps ∧ pf ≠ pl
  y : U ≤ py ∧ py ≠ ps ∧ py ≠ pl
  n : U ≤ pn ∧ pn ≠ ps ∧ pn ≠ pl
  s : U ≤ ps
  l : U ≤ pl
  sl : ps ≠ pl
/-- The iterator's memory: the file that is looked at, the iterator's own boxes, the places s, those that came last. -/
structure ItM (W : World) (L U b bm p1 pf py pn ps pl l : Nat) (f : File) (a : FA) (but : Nat) (V : List Int → Int) (s last : List Int) : Prop where
  look : LookG W L b bm f a but V
  e1 : W.cell? ⟨p1, 0, none⟩ = some (.pointer (some ⟨b, 0, none⟩))
  ef : W.cell? ⟨pf, 0, none⟩ = some (.func (.func 78) #[.pointer (some ⟨b, 0, none⟩)] #[])
  ey : W.cell? ⟨py, 0, none⟩ = some (.func (.yield l) #[] #[])
  en : W.cell? ⟨pn, 0, none⟩ = some (.func (.func 79) #[] #[.pointer (some ⟨p1, 0, none⟩), .pointer (some ⟨ps, 0, none⟩), .pointer (some ⟨pl, 0, none⟩), .pointer (some ⟨pf, 0, none⟩), .pointer (some ⟨py, 0, none⟩), .pointer (some ⟨pn, 0, none⟩)])
  rs : OwnE 86 W U ps 4 (plRow s)
  rl : OwnE 86 W U pl 4 (plRow last)
section
variable {S C : Nat → Prop} {W W' : World} {L U b bm p1 pf py pn ps pl l : Nat} {f : File} {a : FA} {but : Nat} {V : List Int → Int} {s last : List Int}
theorem ItM.keep (h : ItM W L U b bm p1 pf py pn ps pl l f a but V s last) (F : Fix C L U b bm p1 pf py pn ps pl) (hk : Keep S W W') (hS : ∀ k, S k → k = bm ∨ C k) (hn : Known W' bm V) :
    ItM W' L U b bm p1 pf py pn ps pl l f a but V s last := by
  have hC : ∀ k, S k → k = bm ∨ ((L ≤ k ∧ k ≠ b) ∧ k < U ∧ k ≠ p1) := fun k hs => (hS k hs).elim .inl (F.c k)
  have hm := F.hm
  have hc : ∀ q o v, (q < U → q = p1) → W.cell? ⟨q, o, none⟩ = some v → W'.cell? ⟨q, o, none⟩ = some v := fun q o v h2 hv => by
    refine (hk.cell (cell_lt hv) (fun hs => ?_)).trans hv
    rcases hC q hs with h3 | ⟨_, h3, h4⟩
    · exact h.look.k.ne hv h3
    · exact h4 (h2 h3)
  have hb : ∀ q, U ≤ q → q < W.heap.size → W'.heap[q]? = W.heap[q]? := fun q h1 h2 => hk.block q h2 (fun hs => by rcases hC q hs with h3 | ⟨_, h3, _⟩ <;> omega)
  have f1 := F.f
  have f2 := F.y
  have f3 := F.n
  exact ⟨h.look.keep hk (fun k hs => (hC k hs).imp id (fun h => h.1)) hn, hc _ _ _ (fun _ => rfl) h.e1, hc _ _ _ (fun _ => by omega) h.ef,
    hc _ _ _ (fun _ => by omega) h.ey, hc _ _ _ (fun _ => by omega) h.en, h.rs.block (hb _ F.s h.rs.lt.2), h.rl.block (hb _ F.l h.rl.lt.2)⟩
theorem ItM.still (h : ItM W L U b bm p1 pf py pn ps pl l f a but V s last) (F : Fix C L U b bm p1 pf py pn ps pl) (hb : Below W.heap.size W W') : ItM W' L U b bm p1 pf py pn ps pl l f a but V s last :=
  h.keep F (Keep.of_below' hb (fun _ => False)) (fun _ h => h.elim) (h.look.k.keep (Keep.of_below' hb (fun _ => False)) (fun h => h))
/-- A store into the places, or into the last ones. -/
theorem ItM.turn {s' last' : List Int} (h : ItM W L U b bm p1 pf py pn ps pl l f a but V s last) (F : Fix C L U b bm p1 pf py pn ps pl) (hk : Keep (fun k => k = ps ∨ k = pl) W W')
    (hs : OwnE 86 W' U ps 4 (plRow s')) (hl : OwnE 86 W' U pl 4 (plRow last')) : ItM W' L U b bm p1 pf py pn ps pl l f a but V s' last' := by
  have hLU := F.hLU
  have hm := F.hm
  have hb := F.hb
  have f1 := F.f
  have f2 := F.y
  have f3 := F.n
  have f4 := F.a1
  have f6 := F.s
  have f7 := F.l
  have hc : ∀ q o v, q ≠ ps → q ≠ pl → W.cell? ⟨q, o, none⟩ = some v → W'.cell? ⟨q, o, none⟩ = some v := fun q o v h1 h2 hv => (hk.cell (cell_lt hv) (fun hs => by rcases hs with h | h <;> omega)).trans hv
  exact ⟨h.look.keep' hk (fun k hs => by rcases hs with h | h <;> omega), hc _ _ _ (by omega) (by omega) h.e1, hc _ _ _ (by omega) (by omega) h.ef,
    hc _ _ _ (by omega) (by omega) h.ey, hc _ _ _ (by omega) (by omega) h.en, hs, hl⟩
end
theorem OwnE.store4 {e : TypeId} {w : World} {base g : Nat} {xs : List Int} (h : OwnE e w base g 4 xs) (y0 y1 y2 y3 : Int) :
    OwnE e ((((w.setCell ⟨g, 0, none⟩ (.int .i64 y0)).setCell ⟨g, 1, none⟩ (.int .i64 y1)).setCell ⟨g, 2, none⟩ (.int .i64 y2)).setCell ⟨g, 3, none⟩ (.int .i64 y3)) base g 4 [y0, y1, y2, y3] := by
  have hl := h.len
  have := (((h.set 0 y0).set 1 y1).set 2 y2).set 3 y3
  match xs, hl with
  | [a, b, c, d], _ => simpa using this
theorem keep_store4 {w : World} {g : Nat} (S : Nat → Prop) (hg : S g) (y0 y1 y2 y3 : Value) :
    Keep S w ((((w.setCell ⟨g, 0, none⟩ y0).setCell ⟨g, 1, none⟩ y1).setCell ⟨g, 2, none⟩ y2).setCell ⟨g, 3, none⟩ y3) :=
  (((Keep.setCell w _ _ S hg).trans (Keep.setCell _ _ _ S hg)).trans (Keep.setCell _ _ _ S hg)).trans (Keep.setCell _ _ _ S hg)

/-- How a call of next ends: all of a list of places have come, or a round has said 'no more'. -/
def NextPost (C : Nat → Prop) (L U b bm p1 pf py pn ps pl l : Nat) (f : File) (a : FA) (but : Nat) (V : List Int → Int) (I Ix : List (List Int) → World → Prop) (pre : List (List Int)) (W : World) (todo : List (List Int)) (last : List Int) (R : List Int → Prop) (e : Ending) (W' : World) : Prop :=
  (e = .returned (.bool true) ∧ I (pre ++ todo.filter (soB f but)) W' ∧ Keep (fun k => k = bm ∨ k = ps ∨ k = pl ∨ C k) W W' ∧
    ∃ s' last', ItM W' L U b bm p1 pf py pn ps pl l f a but V s' last' ∧ R s' ∧ (last' = last ∨ last' ∈ todo) ∧ PlOk last') ∨
  (e = .returned (.bool false) ∧ (∃ q, q ≠ [] ∧ q <+: todo.filter (soB f but) ∧ Ix (pre ++ q) W') ∧ Known W' bm V ∧ Keep (fun k => k = bm ∨ k = ps ∨ k = pl ∨ C k) W W')

set_option maxHeartbeats 1000000 in
set_option maxRecDepth 100000 in
theorem next_leaf {C : Nat → Prop} {W : World} {L U b bm p1 pf py pn ps pl l : Nat} {f : File} {a : FA} {but : Nat} {V : List Int → Int} {s last : List Int} {I Ix : List (List Int) → World → Prop} {pre T : List (List Int)}
    (F : Fix C L U b bm p1 pf py pn ps pl) (hv : Valid f) (hbut : but < 32)
    (hI : ∀ pre W W', I pre W → Keep (fun k => k = bm ∨ U ≤ k) W W' → Known W' bm V → I pre W')
    (hY : ∀ pre x W1, x ∈ T → I pre W1 → LookG W1 L b bm f a but V → YieldAt Fence.wide 0 Try.prog l #[plVal x] W1 fun e W' =>
      Keep C W1 W' ∧ Known W' bm V ∧ ((e = .returned (.bool true) ∧ I (pre ++ [x]) W') ∨ (e = .returned (.bool false) ∧ Ix (pre ++ [x]) W')))
    (hs : PlB f s) (hlast : PlOk last) (hne : s ≠ last) (hmem : soB f but s = true → s ∈ T)
    (h : ItM W L U b bm p1 pf py pn ps pl l f a but V s last) (h0 : I pre W) :
    Calls Try.prog 79 #[.int .i64 (f.lots.length : Int), .pointer (some ⟨p1, 0, none⟩), .pointer (some ⟨ps, 0, none⟩), .pointer (some ⟨pl, 0, none⟩), .pointer (some ⟨pf, 0, none⟩), .pointer (some ⟨py, 0, none⟩), .pointer (some ⟨pn, 0, none⟩)] W
      (NextPost C L U b bm p1 pf py pn ps pl l f a but V I Ix pre W [s] last (fun s' => s' = s)) := by
  have hll := hv.lots
  have hq : ((f.lots.length : Int) == (f.lots.length : Int)) = true := by simp
  have e1 := h.e1
  have ef := h.ef
  have q2 := h.look.q2
  have s0 := h.rs.cell (i := 0) (by omega)
  have s1 := h.rs.cell (i := 1) (by omega)
  have s2 := h.rs.cell (i := 2) (by omega)
  have s3 := h.rs.cell (i := 3) (by omega)
  have l0 := h.rl.cell (i := 0) (by omega)
  have l1 := h.rl.cell (i := 1) (by omega)
  have l2 := h.rl.cell (i := 2) (by omega)
  have l3 := h.rl.cell (i := 3) (by omega)
  have heq := run_eq_pl hs.pl hlast hne
  have hgt : Try.prog.eqGuardType Try.prog.depth 86 = false := by kernel_rfl
  simp only [plVal, iv] at heq
  simp only [plRow, nth4_0, nth4_1, nth4_2, nth4_3] at s0 s1 s2 s3 l0 l1 l2 l3
  have HSO := hide (so_any h.look.look hv hbut hs)
  simp only [plVal, iv] at HSO
  have HH := hide h
  have HV := hide hv
  have HF := hide F
  have H0 := hide h0
  have HNE := hide hne
  have HPS := hide hs
  clear h hv F h0 hne hs
  generalize a.A3 = A3 at *
  generalize a.c3 = c3 at *
  cases hok : soB f but s with
  | false =>
    have HOK := hide hok
    clear hok
    go_enter Try.func79, Try.ntmps79
    go_wp2_with (go_at_call 78; refine HSO.out.mono ?_; rintro e w3 ⟨rfl, hb3⟩; rw [HOK.out])
    go_ret
    have hM := HH.out.still HF.out hb3
    refine .inl ⟨rfl, ?_, Keep.of_below' hb3 _, s, last, hM, rfl, .inl rfl, hlast⟩
    simp [HOK.out]
    exact hI pre W w3 H0.out (Keep.of_below' hb3 _) hM.look.k
  | true =>
    have HOK := hide hok
    have HME := hide (hmem hok)
    clear hok hmem
    go_enter Try.func79, Try.ntmps79
    go_upto_region 4 with (go_at_call 78; refine HSO.out.mono ?_; rintro e w3 ⟨rfl, hb3⟩; rw [HOK.out])
    have HM := hide (HH.out.still HF.out hb3)
    have HI3 := hide (hI pre W w3 H0.out (Keep.of_below' hb3 _) HM.out.look.k)
    have HK3 : Hid (Keep (fun k => k = bm ∨ k = ps ∨ k = pl ∨ C k) W w3) := Keep.of_below' hb3 _
    clear s0 s1 s2 s3 l0 l1 l2 l3 e1 ef q2 hb3 heq hgt
    have s0 := HM.out.rs.cell (i := 0) (by omega)
    have s1 := HM.out.rs.cell (i := 1) (by omega)
    have s2 := HM.out.rs.cell (i := 2) (by omega)
    have s3 := HM.out.rs.cell (i := 3) (by omega)
    have l0 := HM.out.rl.cell (i := 0) (by omega)
    have l1 := HM.out.rl.cell (i := 1) (by omega)
    have l2 := HM.out.rl.cell (i := 2) (by omega)
    have l3 := HM.out.rl.cell (i := 3) (by omega)
    have g0 := HM.out.rl.frozen 0
    have g1 := HM.out.rl.frozen 1
    have g2 := HM.out.rl.frozen 2
    have g3 := HM.out.rl.frozen 3
    simp only [plRow, nth4_0, nth4_1, nth4_2, nth4_3] at s0 s1 s2 s3 l0 l1 l2 l3
    go_upto_region 5 with (fail)
    have hT4 : OwnE 86 ((((w3.setCell ⟨pl, 0, none⟩ (.int .i64 (nth s 0))).setCell ⟨pl, 1, none⟩ (.int .i64 (nth s 1))).setCell ⟨pl, 2, none⟩ (.int .i64 (nth s 2))).setCell ⟨pl, 3, none⟩ (.int .i64 (nth s 3))) U pl 4 (plRow s) := HM.out.rl.store4 (nth s 0) (nth s 1) (nth s 2) (nth s 3)
    have hk4 : Keep (fun k => k = pl) w3 ((((w3.setCell ⟨pl, 0, none⟩ (.int .i64 (nth s 0))).setCell ⟨pl, 1, none⟩ (.int .i64 (nth s 1))).setCell ⟨pl, 2, none⟩ (.int .i64 (nth s 2))).setCell ⟨pl, 3, none⟩ (.int .i64 (nth s 3))) := keep_store4 (w := w3) (g := pl) (fun k => k = pl) rfl (.int .i64 (nth s 0)) (.int .i64 (nth s 1)) (.int .i64 (nth s 2)) (.int .i64 (nth s 3))
    generalize ((((w3.setCell ⟨pl, 0, none⟩ (.int .i64 (nth s 0))).setCell ⟨pl, 1, none⟩ (.int .i64 (nth s 1))).setCell ⟨pl, 2, none⟩ (.int .i64 (nth s 2))).setCell ⟨pl, 3, none⟩ (.int .i64 (nth s 3))) = w4 at *
    have HM4 := hide (HM.out.turn HF.out (hk4.mono (fun k _ h => .inr h)) (HM.out.rs.block (hk4.block _ HM.out.rs.lt.2 HF.out.sl)) hT4)
    have HI4 := hide (hI pre w3 w4 HI3.out (hk4.mono (fun k _ h => by have := HF.out.l; right; omega)) (HM4.out.look.k))
    have HK4 := hide (HK3.out.trans (hk4.mono (fun k _ h => .inr (.inr (.inl h)))))
    obtain ⟨fn, tmps, asg, body, hy, hR⟩ := hY pre s w4 HME.out HI4.out HM4.out.look
    simp only [plVal, iv] at hy
    have HR := hide hR
    have ey := HM4.out.ey
    have s0' := HM4.out.rs.cell (i := 0) (by omega)
    have s1' := HM4.out.rs.cell (i := 1) (by omega)
    have s2' := HM4.out.rs.cell (i := 2) (by omega)
    have s3' := HM4.out.rs.cell (i := 3) (by omega)
    simp only [plRow, nth4_0, nth4_1, nth4_2, nth4_3] at s0' s1' s2' s3'
    clear hT4 hk4 hR s0 s1 s2 s3 l0 l1 l2 l3 g0 g1 g2 g3 hI hY
    refine (wpIn_wide (n := 0)).1 ?_
    gi_wp2
    refine ⟨rfl, HR.out.mono ?_⟩
    rintro e W' ⟨hkC, hnW, (⟨rfl, hIW⟩ | ⟨rfl, hIxW⟩)⟩
    · gi_wp2
      go_wp2
      go_ret
      refine .inl ⟨rfl, ?_, ?_, s, s, HM4.out.keep HF.out hkC (fun k h => .inr h) hnW, rfl, .inr (by simp), HPS.out.pl⟩
      · simpa [HOK.out] using hIW
      · exact HK4.out.trans (hkC.mono (fun k _ h => .inr (.inr (.inr h))))
    · gi_wp2
      go_wp2
      go_ret
      refine .inr ⟨rfl, ⟨[s], by simp, by simp [HOK.out], hIxW⟩, hnW, ?_⟩
      exact HK4.out.trans (hkC.mono (fun k _ h => .inr (.inr (.inr h))))
end Go.Proofs.Ytllmahcanipcpaa
/- claim's next: all places that go on with some come in turn. -/
namespace Go.Proofs.Ytllmahcanipcpaa
open Go.RowKit
attribute [local go_sem ↓] Go.wp_at_zero Go.wp_at_succ

set_option maxHeartbeats 4000000 in
set_option maxRecDepth 100000 in
theorem next_any {C : Nat → Prop} {L U b bm p1 pf py pn ps pl l : Nat} {f : File} {a : FA} {but : Nat} {V : List Int → Int} {I Ix : List (List Int) → World → Prop} {T : List (List Int)}
    (F : Fix C L U b bm p1 pf py pn ps pl) (hv : Valid f) (hbut : but < 32)
    (hI : ∀ pre W W', I pre W → Keep (fun k => k = bm ∨ U ≤ k) W W' → Known W' bm V → I pre W')
    (hY : ∀ pre x W1, x ∈ T → I pre W1 → LookG W1 L b bm f a but V → YieldAt Fence.wide 0 Try.prog l #[plVal x] W1 fun e W' =>
      Keep C W1 W' ∧ Known W' bm V ∧ ((e = .returned (.bool true) ∧ I (pre ++ [x]) W') ∨ (e = .returned (.bool false) ∧ Ix (pre ++ [x]) W'))) :
    ∀ (d lot : Nat), lot + d = f.lots.length → ∀ (g s last : List Int) (pre : List (List Int)) (W : World), g.length = lot → StAt f g s → PlOk last → last ∉ todoP f d lot g →
      (∀ x ∈ todoP f d lot g, soB f but x = true → x ∈ T) → ItM W L U b bm p1 pf py pn ps pl l f a but V s last → I pre W →
      Calls Try.prog 79 #[.int .i64 (lot : Int), .pointer (some ⟨p1, 0, none⟩), .pointer (some ⟨ps, 0, none⟩), .pointer (some ⟨pl, 0, none⟩), .pointer (some ⟨pf, 0, none⟩), .pointer (some ⟨py, 0, none⟩), .pointer (some ⟨pn, 0, none⟩)] W
        (NextPost C L U b bm p1 pf py pn ps pl l f a but V I Ix pre W (todoP f d lot g) last (StAt f g)) := by
  intro d
  induction d with
  | zero =>
    intro lot hlot g s last pre W hg hs hlok hni hT hM h0
    obtain rfl : lot = f.lots.length := by omega
    have hd := hs.done hg hv.lots
    rw [todo_zero, ← hd] at hni hT ⊢
    refine (next_leaf F hv hbut hI hY (hs.plB hg) hlok (fun e => hni (by simp [e])) (fun h => hT s (by simp) h) hM h0).mono ?_
    rintro e W' (⟨h1, h2, h3, s', last', h4, h5, h6⟩ | h)
    · exact .inl ⟨h1, h2, h3, s', last', h4, by rw [h5]; exact hs, h6⟩
    · exact .inr h
  | succ d ih =>
    intro lot hlot g s last pre W hg hs hlok hni hT hM h0
    have hlt : lot < f.lots.length := by omega
    have IH := hide (ih (lot + 1) (by omega))
    clear ih
    have hll := hv.lots
    have e1 := hM.e1
    have q2 := hM.look.q2
    have hq : ((lot : Int) == (f.lots.length : Int)) = false := by simp; omega
    obtain ⟨bl, ol, hA3, hbl, t0, t1, t2, t3⟩ := hM.look.v.lots.lots hlt
    rw [hA3] at q2
    have hsp := hv.lot lot hlt
    have hrt := (hv.route lot hlt).1
    have hm3 := hM.look.v.m3
    unfold maxLen at hm3
    generalize a.c3 = c3 at *
    have hl0 : (0 : Int) ≤ (lot : Int) := Int.natCast_nonneg _
    have hl1 : (lot : Int) < (f.lots.length : Int) := by omega
    have hl2 : (lot : Int) < 4 := by omega
    have HM := hide hM
    have HV := hide hv
    have HF := hide F
    have H0 := hide h0
    have HS := hide hs
    have HNI := hide hni
    have HT := hide hT
    have HY := hide hY
    have HIS := hide hI
    have HG := hide hg
    have HSP := hide hsp
    clear hM hv F h0 hs hni hT hY hI hg hsp hlot hA3
    have z1 := cell_lt e1
    have zb := cell_lt q2
    have zl := cell_lt t0
    go_enter Try.func79, Try.ntmps79
    go_upto_region 7 with (fail)
    have hA : Below W.heap.size W (W.alloc (.cells #[.int .i64 (nth f.lots lot).turned.lo, .int .i64 (nth f.lots lot).turned.hi] 43)) := (Below.refl _ _).alloc (Nat.le_refl _) _
    have hbx : Blk (W.alloc (.cells #[.int .i64 (nth f.lots lot).turned.lo, .int .i64 (nth f.lots lot).turned.hi] 43)) W.heap.size 43 #[.int .i64 (nth f.lots lot).turned.lo, .int .i64 (nth f.lots lot).turned.hi] := Blk.made
    generalize (W.alloc (.cells #[.int .i64 (nth f.lots lot).turned.lo, .int .i64 (nth f.lots lot).turned.hi] 43)) = W1 at *
    have x0 := hbx.at_ 0
    have x1 := hbx.at_ 1
    simp only [List.getElem?_toArray, List.getElem?_cons_zero, List.getElem?_cons_succ] at x0 x1
    have hsz := hbx.lt
    have HX1 := hide x1
    have HK1 : Hid (Keep (fun k => k = bm ∨ k = ps ∨ k = pl ∨ C k) W W1) := Keep.of_below' hA _
    have HM1 := hide (HM.out.still HF.out hA)
    have H1 := hide (HIS.out pre W W1 H0.out (Keep.of_below' hA _) HM1.out.look.k)
    clear hbx x1 hA t0 t1 t2 t3 e1 q2
    have hlo := HSP.out.1
    have hhi := HSP.out.2.1
    have h40 := HSP.out.2.2.1
    generalize hlo' : (nth f.lots lot).turned.lo = lo at *
    generalize hhi' : (nth f.lots lot).turned.hi = hi at *
    have HLO' := hide hlo'
    have HHI' := hide hhi'
    clear hlo' hhi'
    go_wp2_with fail
    go_loopw [10] (fun v10 wr => ∃ (x : Int) (s' last' : List Int), lo ≤ x ∧ x ≤ hi + 1 ∧ v10 = .int .i64 x ∧ ItM wr L U b bm p1 pf py pn ps pl l f a but V s' last' ∧ Hid (StAt f g s') ∧ PlOk last' ∧
      Hid (last' = last ∨ last' ∈ todoP f (d + 1) lot g) ∧ Hid (∀ y, lo ≤ y → y ≤ hi → x ≤ y → last' ∉ todoP f d (lot + 1) (g ++ [y])) ∧ I (pre ++ (doneTo f d lot g x).filter (soB f but)) wr ∧ Keep (fun k => k = bm ∨ k = ps ∨ k = pl ∨ C k) W1 wr) (fun v10 _ => (hi + 1 - intOf v10).toNat)
    case atStart =>
      refine ⟨lo, s, last, by omega, by omega, rfl, HM1.out, HS, hlok, hide (.inl rfl), hide (fun y h1 h2 _ hm => HNI.out ?_), ?_, Keep.refl _ _⟩
      · rw [todo_succ, List.mem_flatMap]
        exact ⟨y, mem_spanVals.2 ⟨by have := HLO'.out; omega, by have := HHI'.out; omega⟩, hm⟩
      · have hd0 := doneTo_lo f d lot g
        rw [HLO'.out] at hd0
        rw [hd0]; simpa using H1.out
    case round =>
      clear HM1 H1
      obtain ⟨x, s', last', hx0, hx1, rfl, hMr, HSr, hlok', HLr, HNr, hIr, hkr⟩ := hrel
      have hns : ¬ (W.heap.size = bm ∨ W.heap.size = ps ∨ W.heap.size = pl ∨ C W.heap.size) := by
        have f1 := HF.out.hm
        have f2 := HF.out.hLU
        have f3 := HM.out.rl.lt
        have f4 := HM.out.rs.lt
        rintro (h | h | h | h)
        · omega
        · omega
        · omega
        · rcases HF.out.c _ h with h' | h' <;> omega
      have y1 := (hkr.cell (o := 1) hsz hns).trans HX1.out
      have HMr := hide hMr
      have HIr := hide hIr
      have HKr := hide hkr
      clear hns hMr hIr hkr
      by_cases hxh : x ≤ hi
      · have ey := HMr.out.en
        have r1 := HMr.out.rs.cell (i := lot) (by omega)
        have r2 := HMr.out.rs.frozen lot
        have hn1 : ¬ pn = ps := HF.out.n.2.1
        have hn2 : ¬ ps = pn := fun h => hn1 h.symm
        have hbx : -9223372036854775808 ≤ x ∧ x ≤ 100 := by omega
        go_upto_region 11 with (fail)
        have hT4 : OwnE 86 (wr.setCell ⟨ps, lot, none⟩ (.int .i64 x)) U ps 4 (plRow (s'.set lot x)) := by
          rw [← plRow_set HSr.out.len (by omega)]; exact HMr.out.rs.set lot x
        have hk4 : Keep (fun k => k = ps) wr (wr.setCell ⟨ps, lot, none⟩ (.int .i64 x)) := Keep.setCell _ _ _ _ rfl
        have ey' := (hk4.cell (o := 0) (b := pn) (cell_lt ey) hn1).trans ey
        generalize (wr.setCell ⟨ps, lot, none⟩ (.int .i64 x)) = w4 at *
        have hM4 := HMr.out.turn HF.out (hk4.mono (fun k _ h => .inl h)) hT4 (HMr.out.rl.block (hk4.block _ HMr.out.rl.lt.2 (fun h => HF.out.sl h.symm)))
        have hI4 := HIS.out _ wr w4 HIr.out (hk4.mono (fun k _ h => by have := HF.out.s; right; omega)) hM4.look.k
        have hst := HSr.out.set (x := x) (by rw [HG.out]; omega) hll (by omega) (by rw [HG.out, HLO'.out, HHI'.out]; omega)
        rw [HG.out] at hst
        have IHC := hide (IH.out (g ++ [x]) _ last' _ w4 (by simp [HG.out]) hst hlok' (HNr.out x hx0 hxh (Int.le_refl _)) (fun z hz hok => HT.out z (by
          rw [todo_succ, List.mem_flatMap]
          exact ⟨x, mem_spanVals.2 ⟨by have := HLO'.out; omega, by have := HHI'.out; omega⟩, hz⟩) hok) hM4 hI4)
        have HK4 := hide (HKr.out.trans (hk4.mono (S' := fun k => k = bm ∨ k = ps ∨ k = pl ∨ C k) (fun k _ h => .inr (.inl h))))
        have hdn := doneTo_succ (f := f) (d := d) (k := lot) (g := g) (x := x) (by have := HLO'.out; omega) (by have := HHI'.out; omega)
        have HDN := hide hdn
        have hnat : ((lot + 1 : Nat) : Int) = (lot : Int) + 1 := by omega
        rw [hnat] at IHC
        clear hT4 hk4 hM4 hI4 hst r1 r2 ey y1 hdn hnat
        go_wp2_with (refine IHC.out.mono ?_; rintro e W' (⟨rfl, hI5, hk5, s5, last5, hM5, hR5, hl5, hlok5⟩ | ⟨rfl, ⟨q, hq0, hqp, hIx5⟩, hn5, hk5⟩))
        · refine ⟨⟨x + 1, s5, last5, by omega, by omega, rfl, hM5, hide hR5.less, hlok5, hide ?_, hide ?_, ?_, HK4.out.trans hk5⟩, by simp [intOf]; omega⟩
          · rcases hl5 with rfl | h
            · exact HLr.out
            · right
              rw [todo_succ, List.mem_flatMap]
              exact ⟨x, mem_spanVals.2 ⟨by have := HLO'.out; omega, by have := HHI'.out; omega⟩, h⟩
          · intro y h1 h2 h3 hm
            rcases hl5 with rfl | h
            · exact HNr.out y h1 h2 (by omega) hm
            · have := todo_apart h hm; omega
          · rw [HDN.out, List.filter_append, ← List.append_assoc]; exact hI5
        · go_ret
          refine .inr ⟨rfl, ⟨(doneTo f d lot g x).filter (soB f but) ++ q, by simp [hq0], ?_, by rw [← List.append_assoc]; exact hIx5⟩, hn5, HK1.out.trans (HK4.out.trans hk5)⟩
          obtain ⟨r, hr⟩ := hqp
          have hpre : doneTo f d lot g (x + 1) <+: todoP f (d + 1) lot g := by
            rw [todo_succ, doneTo]
            exact take_flat_prefix _ _ _
          have h2 := hpre.filter (soB f but)
          rw [HDN.out, List.filter_append, ← hr] at h2
          exact (List.prefix_append_right_inj _).2 (List.prefix_append q r) |>.trans h2
      · have hxe : hi < x := by omega
        go_wp2
        go_ret
        refine .inl ⟨rfl, ?_, HK1.out.trans HKr.out, s', last', HMr.out, HSr.out, HLr.out, hlok'⟩
        rw [← doneTo_all (x := x) (by rw [HHI'.out]; exact hxe) (by rw [HLO'.out]; exact hx0)]
        exact HIr.out
end Go.Proofs.Ytllmahcanipcpaa
/- claim's iterator of truths: all truths come in turn. -/
namespace Go.Proofs.Ytllmahcanipcpaa
open Go.RowKit
attribute [local go_sem ↓] Go.wp_at_zero Go.wp_at_succ

theorem OwnE.base {e : TypeId} {w : World} {base base' g n : Nat} {xs : List Int} (h : OwnE e w base g n xs) (hb : base' ≤ base) : OwnE e w base' g n xs := own_base h hb
theorem OwnE.made4 (w : World) (e : TypeId) (a b c d : Int) : OwnE e (w.alloc (.cells #[iv a, iv b, iv c, iv d] e)) w.heap.size w.heap.size 4 [a, b, c, d] :=
  World.ownsRow_lit w #[iv a, iv b, iv c, iv d] 4 (Nat.le_refl _) (by simp [maxLen]) rfl
theorem plOk4 {a b c d : Int} (ha : wfI a) (hb : wfI b) (hc : wfI c) (hd : wfI d) : PlOk [a, b, c, d] := ⟨rfl, fun i => by
  match i with
  | 0 => exact ha
  | 1 => exact hb
  | 2 => exact hc
  | 3 => exact hd
  | i + 4 => exact (wfI_iff _).2 (by show _ ≤ (0 : Int) ∧ (0 : Int) ≤ _; decide)⟩
theorem nthz (k : Nat) : nth [(0 : Int), 0, 0, 0] k = 0 := by
  match k with
  | 0 | 1 | 2 | 3 => rfl
  | i + 4 => rfl
set_option maxHeartbeats 4000000 in
set_option maxRecDepth 100000 in
theorem truths1_any {C : Nat → Prop} {W : World} {L b bm p1 l : Nat} {f : File} {a : FA} {but : Nat} {V : List Int → Int} {I Ix : List (List Int) → World → Prop}
    (hv : Valid f) (hbut : but < 32) (hC : ∀ k, C k → k = bm ∨ ((L ≤ k ∧ k ≠ b) ∧ k < W.heap.size ∧ k ≠ p1))
    (hI : ∀ pre V1 V', I pre V1 → Keep (fun k => k = bm ∨ W.heap.size ≤ k) V1 V' → Known V' bm V → I pre V')
    (hY : ∀ pre x W1, x ∈ truthsB f but → I pre W1 → LookG W1 L b bm f a but V → YieldAt Fence.wide 0 Try.prog l #[plVal x] W1 fun e W' =>
      Keep C W1 W' ∧ Known W' bm V ∧ ((e = .returned (.bool true) ∧ I (pre ++ [x]) W') ∨ (e = .returned (.bool false) ∧ Ix (pre ++ [x]) W')))
    (h : LookG W L b bm f a but V) (e1 : W.cell? ⟨p1, 0, none⟩ = some (.pointer (some ⟨b, 0, none⟩))) (h0 : I [] W) :
    Calls Try.prog 77 #[.func (.yield l) #[] #[], .pointer (some ⟨p1, 0, none⟩)] W
      (fun e W' => (∃ v, e = .returned v) ∧ Known W' bm V ∧ Keep (fun k => k = bm ∨ C k) W W' ∧ (I (truthsB f but) W' ∨ ∃ q, q ≠ [] ∧ q <+: truthsB f but ∧ Ix q W')) := by
  have z1 := cell_lt e1
  have HH := hide h
  have HV := hide hv
  have H0 := hide h0
  have HY := hide hY
  have HI := hide hI
  have HC := hide hC
  clear h hv h0 hY hI hC
  go_enter Try.func77, Try.ntmps77
  go_upto_region 6 with (fail)
  have s1 : (W.alloc (.cells #[.func (.yield l) #[] #[]] 108)).heap.size = W.heap.size + 1 := by simp
  have b1 : Below W.heap.size W (W.alloc (.cells #[.func (.yield l) #[] #[]] 108)) := (Below.refl _ _).alloc (Nat.le_refl _) _
  have k1 : Blk (W.alloc (.cells #[.func (.yield l) #[] #[]] 108)) W.heap.size 108 #[.func (.yield l) #[] #[]] := Blk.made
  generalize W.alloc (.cells #[.func (.yield l) #[] #[]] 108) = W1 at *
  have s2 : (W1.alloc (.cells #[.func (.func 78) #[.pointer (some ⟨b, 0, none⟩)] #[]] 108)).heap.size = W1.heap.size + 1 := by simp
  have b2 : Below W1.heap.size W1 (W1.alloc (.cells #[.func (.func 78) #[.pointer (some ⟨b, 0, none⟩)] #[]] 108)) := (Below.refl _ _).alloc (Nat.le_refl _) _
  have k2 : Blk (W1.alloc (.cells #[.func (.func 78) #[.pointer (some ⟨b, 0, none⟩)] #[]] 108)) W1.heap.size 108 #[.func (.func 78) #[.pointer (some ⟨b, 0, none⟩)] #[]] := Blk.made
  generalize W1.alloc (.cells #[.func (.func 78) #[.pointer (some ⟨b, 0, none⟩)] #[]] 108) = W2 at *
  have s3 : (W2.alloc (.cells #[.int .i64 0, .int .i64 0, .int .i64 0, .int .i64 0] 86)).heap.size = W2.heap.size + 1 := by simp
  have b3 : Below W2.heap.size W2 (W2.alloc (.cells #[.int .i64 0, .int .i64 0, .int .i64 0, .int .i64 0] 86)) := (Below.refl _ _).alloc (Nat.le_refl _) _
  have k3 : OwnE 86 (W2.alloc (.cells #[.int .i64 0, .int .i64 0, .int .i64 0, .int .i64 0] 86)) W2.heap.size W2.heap.size 4 [0, 0, 0, 0] := OwnE.made4 W2 86 0 0 0 0
  generalize W2.alloc (.cells #[.int .i64 0, .int .i64 0, .int .i64 0, .int .i64 0] 86) = W3 at *
  have s4 : (W3.alloc (.cells #[.int .i64 (-1), .int .i64 0, .int .i64 0, .int .i64 0] 86)).heap.size = W3.heap.size + 1 := by simp
  have b4 : Below W3.heap.size W3 (W3.alloc (.cells #[.int .i64 (-1), .int .i64 0, .int .i64 0, .int .i64 0] 86)) := (Below.refl _ _).alloc (Nat.le_refl _) _
  have k4 : OwnE 86 (W3.alloc (.cells #[.int .i64 (-1), .int .i64 0, .int .i64 0, .int .i64 0] 86)) W3.heap.size W3.heap.size 4 [-1, 0, 0, 0] := OwnE.made4 W3 86 (-1) 0 0 0
  generalize W3.alloc (.cells #[.int .i64 (-1), .int .i64 0, .int .i64 0, .int .i64 0] 86) = W4 at *
  have s5 : (W4.alloc (.cells #[.func (.func 79) #[] #[.pointer (some ⟨p1, 0, none⟩), .pointer (some ⟨W.heap.size + 1 + 1, 0, none⟩), .pointer (some ⟨W.heap.size + 1 + 1 + 1, 0, none⟩), .pointer (some ⟨W.heap.size + 1, 0, none⟩), .pointer (some ⟨W.heap.size, 0, none⟩), .pointer (some ⟨W.heap.size + 1 + 1 + 1 + 1, 0, none⟩)]] 104)).heap.size = W4.heap.size + 1 := by simp
  have b5 : Below W4.heap.size W4 (W4.alloc (.cells #[.func (.func 79) #[] #[.pointer (some ⟨p1, 0, none⟩), .pointer (some ⟨W.heap.size + 1 + 1, 0, none⟩), .pointer (some ⟨W.heap.size + 1 + 1 + 1, 0, none⟩), .pointer (some ⟨W.heap.size + 1, 0, none⟩), .pointer (some ⟨W.heap.size, 0, none⟩), .pointer (some ⟨W.heap.size + 1 + 1 + 1 + 1, 0, none⟩)]] 104)) := (Below.refl _ _).alloc (Nat.le_refl _) _
  have k5 : Blk (W4.alloc (.cells #[.func (.func 79) #[] #[.pointer (some ⟨p1, 0, none⟩), .pointer (some ⟨W.heap.size + 1 + 1, 0, none⟩), .pointer (some ⟨W.heap.size + 1 + 1 + 1, 0, none⟩), .pointer (some ⟨W.heap.size + 1, 0, none⟩), .pointer (some ⟨W.heap.size, 0, none⟩), .pointer (some ⟨W.heap.size + 1 + 1 + 1 + 1, 0, none⟩)]] 104)) W4.heap.size 104 #[.func (.func 79) #[] #[.pointer (some ⟨p1, 0, none⟩), .pointer (some ⟨W.heap.size + 1 + 1, 0, none⟩), .pointer (some ⟨W.heap.size + 1 + 1 + 1, 0, none⟩), .pointer (some ⟨W.heap.size + 1, 0, none⟩), .pointer (some ⟨W.heap.size, 0, none⟩), .pointer (some ⟨W.heap.size + 1 + 1 + 1 + 1, 0, none⟩)]] := Blk.made
  generalize W4.alloc (.cells #[.func (.func 79) #[] #[.pointer (some ⟨p1, 0, none⟩), .pointer (some ⟨W.heap.size + 1 + 1, 0, none⟩), .pointer (some ⟨W.heap.size + 1 + 1 + 1, 0, none⟩), .pointer (some ⟨W.heap.size + 1, 0, none⟩), .pointer (some ⟨W.heap.size, 0, none⟩), .pointer (some ⟨W.heap.size + 1 + 1 + 1 + 1, 0, none⟩)]] 104) = W5 at *
  have hB : Below W.heap.size W W5 := (((b1.trans (b2.mono (by omega))).trans (b3.mono (by omega))).trans (b4.mono (by omega))).trans (b5.mono (by omega))
  have B25 : Below W1.heap.size W1 W5 := ((b2.trans (b3.mono (by omega))).trans (b4.mono (by omega))).trans (b5.mono (by omega))
  have B35 : Below W2.heap.size W2 W5 := (b3.trans (b4.mono (by omega))).trans (b5.mono (by omega))
  have B45 : Below W3.heap.size W3 W5 := b4.trans (b5.mono (by omega))
  have q0 := (k1.next B25).at_ 0
  have q1 := (k2.next B35).at_ 0
  have q4 := k5.at_ 0
  simp only [List.getElem?_toArray, List.getElem?_cons_zero] at q0 q1 q4
  have o3 := (k3.below B45 k3.lt.2).base (base' := W.heap.size) (by omega)
  have o4 := (k4.below b5 k4.lt.2).base (base' := W.heap.size) (by omega)
  have e2 : W2.heap.size = W.heap.size + 1 + 1 := by omega
  have e3 : W3.heap.size = W.heap.size + 1 + 1 + 1 := by omega
  have e4 : W4.heap.size = W.heap.size + 1 + 1 + 1 + 1 := by omega
  rw [s1] at q1
  rw [e2] at o3
  rw [e3] at o4
  rw [e4] at q4
  have zW := hB.size
  have hM : ItM W5 L W.heap.size b bm p1 (W.heap.size + 1) W.heap.size (W.heap.size + 1 + 1 + 1 + 1) (W.heap.size + 1 + 1) (W.heap.size + 1 + 1 + 1) l f a but V [0, 0, 0, 0] [-1, 0, 0, 0] :=
    ⟨HH.out.still hB, (hB.cell (p := ⟨p1, 0, none⟩) z1).trans e1, q1, q0, q4, o3, o4⟩
  have hFx : Fix C L W.heap.size b bm p1 (W.heap.size + 1) W.heap.size (W.heap.size + 1 + 1 + 1 + 1) (W.heap.size + 1 + 1) (W.heap.size + 1 + 1 + 1) :=
    ⟨HH.out.hL, HH.out.hm, HH.out.hb, HC.out, z1, ⟨by omega, by omega, by omega⟩, ⟨by omega, by omega, by omega⟩, ⟨by omega, by omega, by omega⟩, by omega, by omega, by omega⟩
  have h5 := HI.out [] W W5 H0.out (Keep.of_below' hB _) hM.look.k
  have w0 : wfI 0 := (wfI_iff _).2 (by decide)
  have hN := next_any hFx HV.out hbut HI.out HY.out f.lots.length 0 (by omega) [] [0, 0, 0, 0] [-1, 0, 0, 0] [] W5 rfl
    ⟨rfl, rfl, fun k _ => nthz k, fun k => by rw [nthz]; omega, fun k hk => by simp at hk⟩ (plOk4 ((wfI_iff _).2 (by decide)) w0 w0 w0)
    (fun hm => by have := (statesP_ok HV.out hm).1.bd 0; simp [nth] at this) (fun x hx hok => List.mem_filter.2 ⟨hx, hok⟩) hM h5
  rw [show ((0 : Nat) : Int) = 0 from rfl] at hN
  have HN := hide hN
  have HB := hide hB
  clear hN hM hFx h5 B25 B35 B45 b1 b2 b3 b4 b5 k1 k2 k3 k4 k5 o3 o4 q0 q1 hB
  go_wp2_with (go_at_call 79; refine HN.out.mono ?_; rintro e W' (⟨rfl, hI5, hk5, s5, last5, hM5, -, -, -⟩ | ⟨rfl, ⟨q, hq0, hqp, hIx5⟩, hn5, hk5⟩))
  all_goals
    have hK : Keep (fun k => k = bm ∨ C k) W W' := ((Keep.of_below' HB.out (fun k => k = bm ∨ k = W.heap.size + 1 + 1 ∨ k = W.heap.size + 1 + 1 + 1 ∨ C k)).trans hk5).mono (fun k hk h => by
      rcases h with h | h | h | h
      · exact .inl h
      · omega
      · omega
      · exact .inr h)
  · go_end0
    exact ⟨⟨_, rfl⟩, hM5.look.k, hK, .inl hI5⟩
  · go_end0
    exact ⟨⟨_, rfl⟩, hn5, hK, .inr ⟨q, hq0, hqp, hIx5⟩⟩
theorem truths_iter {C : Nat → Prop} {w : World} {L b bm p1 : Nat} {f : File} {a : FA} {but : Nat} {V : List Int → Int}
    (hv : Valid f) (hbut : but < 32) (hC : ∀ k, C k → k = bm ∨ ((L ≤ k ∧ k ≠ b) ∧ k < w.heap.size ∧ k ≠ p1))
    (h : LookG w L b bm f a but V) (e1 : w.cell? ⟨p1, 0, none⟩ = some (.pointer (some ⟨b, 0, none⟩))) :
    IterOk Try.prog 77 #[.pointer (some ⟨p1, 0, none⟩)] plVal C (fun k => k = bm) (fun W => Known W bm V) (truthsB f but) w := by
  intro l C' J Jx W hB hl hlW hC' hJ hY hM h0
  have z1 := cell_lt e1
  have hsz := hB.size
  refine truths1_any (C := C') hv hbut (fun k hk => ?_) hJ (fun pre x W1 hx hj hl => hY pre x W1 hx hj hl.k) (h.still hB) ((hB.cell (p := ⟨p1, 0, none⟩) z1).trans e1) h0
  rcases hC' k hk with h1 | h1
  · rcases hC k h1 with h2 | h2
    · exact .inl h2
    · exact .inr ⟨h2.1, by omega, h2.2.2⟩
  · have := h.hL
    have := h.hb
    exact .inr ⟨⟨by omega, by omega⟩, by omega, by omega⟩
end Go.Proofs.Ytllmahcanipcpaa
/- The contract of claim's some: is there a truth. -/
namespace Go.Proofs.Ytllmahcanipcpaa
open Go.RowKit
attribute [local go_sem ↓] Go.wp_at_zero Go.wp_at_succ
attribute [local go_sem] Oper.semAt_some

theorem Keep.fin {bm : Nat} {w w1 w2 : World} (h : Keep (fun k => k = bm ∨ w.heap.size ≤ k) w w1) (h' : Keep (fun k => w.heap.size ≤ k) w1 w2) : Keep (fun k => k = bm) w w2 :=
  (h.trans (h'.mono (S' := fun k => k = bm ∨ w.heap.size ≤ k) (fun k _ h => .inr h))).mono (fun k hk h => h.elim id (fun h => by omega))
def someB (f : File) (but : Nat) : Bool := !(truthsB f but).isEmpty
set_option maxHeartbeats 4000000 in
set_option maxRecDepth 100000 in
theorem some_any {w : World} {L b bm : Nat} {f : File} {a : FA} {but : Nat} {V : List Int → Int} (h : LookG w L b bm f a but V) (hv : Valid f) (hbut : but < 32) :
    Calls Try.prog 63 #[.pointer (some ⟨b, 0, none⟩)] w fun e w' => e = .returned (.bool (someB f but)) ∧ Keep (fun k => k = bm) w w' ∧ Known w' bm V := by
  have HH := hide h
  have HV := hide hv
  have hb0 := h.hb
  have hm0 := h.hm
  have hL0 := h.hL
  have hA : Below w.heap.size w (w.alloc (.cells #[.bool false] 4)) := (Below.refl _ _).alloc (Nat.le_refl _) _
  have bk : Blk (w.alloc (.cells #[.bool false] 4)) w.heap.size 4 #[.bool false] := Blk.made
  clear h hv
  refine (callsIn_wide (n := 0)).1 (callsIn_of_wp_marks Try.func63 rfl trivial ?_ rfl)
  refine (wpIn_wide (n := 0)).2 ?_
  simp only [Try.ntmps63, List.size_toArray, List.length_cons, List.length_nil, Nat.reduceAdd, Nat.reduceSub, Array.replicate_succ, Array.replicate_zero, List.push_toArray, List.append_toArray, List.nil_append, List.cons_append]
  go_wp2_with fail
  generalize (w.alloc (.cells #[.bool false] 4)) = w0 at *
  refine truths_any.mono ?_
  rintro e w1 ⟨p1, rfl, hp1, hp1', e1, hB1⟩
  have hBw := hA.trans (hB1.mono hA.size)
  have hL1 := HH.out.still hBw
  have bk1 := bk.next hB1
  have hz0 := bk.lt
  have hz1 := hB1.size
  have HBW := hide hBw
  have HL1 := hide hL1
  clear hA hBw hL1 hB1 bk
  go_wp2_with fail
  refine wp_range rfl (enters_of Try.func77 (by kernel_rfl) rfl) rfl (truths_iter (C := fun k => k = w.heap.size) HV.out hbut (fun k hk => .inr ⟨⟨by omega, by omega⟩, by omega, by omega⟩) HL1.out e1) (fun k h => by omega) (fun k h => by omega)
    (fun V V' h hk => h.keep hk (by omega)) (fun pre W => pre = [] ∧ Blk W w.heap.size 4 #[.bool false]) (fun cd _ W => cd = .ret ∧ Blk W w.heap.size 4 #[.bool true]) (fun _ _ _ h hk hm => ⟨h.1, h.2.keep hk (by omega)⟩) (fun _ _ _ _ h hk => ⟨h.1, h.2.keep hk (by omega)⟩) HL1.out.k ⟨rfl, bk1⟩ ?body ?done ?stop
  case body =>
    rintro l pre x W1 hl hx ⟨hi, bi⟩ hm hz
    refine wpIn_skip ⟨Keep.refl _ _, hm, fun W3 hk3 => wpIn_block (wpIn_seq ?_)⟩
    have b3 := bi.keep hk3 (by omega)
    have r0 := b3.at_ 0
    have g0 := b3.free 0
    simp only [List.getElem?_toArray, List.getElem?_cons_zero] at r0
    apply wpIn_one
    case h =>
      gi_wp2
      first | exact ⟨rfl, rfl, rfl⟩ | exact ⟨rfl, rfl⟩ | exact rfl
    case hq =>
    refine wpIn_ret ?_
    have hk4 : Keep (fun k => k = w.heap.size) W3 (W3.setCell ⟨w.heap.size, 0, none⟩ (.bool true)) := Keep.setCell _ _ _ _ rfl
    exact ⟨hk4, (hm.keep hk3 (by omega)).keep hk4 (by omega), rfl, b3.store 0 _⟩
  case done =>
    rintro D W' hD ⟨hT, bi⟩ hm hk hd
    have HS := hide (show someB f but = false by rw [someB, hT]; rfl)
    have HMS : Hid (MarksOk (w.heap.size + 1) [{ target := .collected D, args := #[] }] W') := ⟨⟨D, by omega, rfl, hd, by simp⟩, trivial⟩
    have HKK : Hid (Keep (fun k => k = bm ∨ w.heap.size ≤ k) w W') := (Keep.of_below' HBW.out _).trans (hk.mono (fun k _ h => h.imp id (fun h => by omega)))
    have HKN := hide hm
    have r0 := bi.at_ 0
    have g0 := bi.free 0
    simp only [List.getElem?_toArray, List.getElem?_cons_zero] at r0
    have hz' := bi.lt
    have HBI := hide bi
    clear hk hT hd hm bi
    go_wp2_with fail
    have hk4 : Keep (fun k => k = w.heap.size) W' (W'.setCell ⟨w.heap.size, 0, none⟩ (.bool false)) := Keep.setCell _ _ _ _ rfl
    have b4 := HBI.out.store 0 (.bool false)
    refine leaves_marks (B := w.heap.size + 1) ((HMS.out.keep hk4 (by omega))) (fun w' hkw' => ?_)
    have r4 := (b4.keep hkw' (by omega)).at_ 0
    refine ⟨.bool false, by simp [results, Try.results63, go_sem, r4], by rw [HS.out], ?_, ?_⟩
    · exact (HKK.out.trans (hk4.mono (fun k _ h => .inr (by omega)))).fin (hkw'.mono (fun k _ h => by omega))
    · exact ((HKN.out.keep hk4 (by omega))).keep hkw' (by have := (HKN.out.keep hk4 (by omega)).lt; omega)
  case stop =>
    rintro D cd q W' hD hq0 hqp ⟨rfl, bi⟩ hm hk hd
    have hne : someB f but = true := by
      obtain ⟨r, hr⟩ := hqp
      rw [someB, ← hr]
      cases q with
      | nil => exact absurd rfl hq0
      | cons a q => rfl
    have HS := hide hne
    have HMS : Hid (MarksOk (w.heap.size + 1) [{ target := .collected D, args := #[] }] W') := ⟨⟨D, by omega, rfl, hd, by simp⟩, trivial⟩
    have HKK : Hid (Keep (fun k => k = bm ∨ w.heap.size ≤ k) w W') := (Keep.of_below' HBW.out _).trans (hk.mono (fun k _ h => h.imp id (fun h => by omega)))
    have HKN := hide hm
    have r0 := bi.at_ 0
    simp only [List.getElem?_toArray, List.getElem?_cons_zero] at r0
    have HBI := hide bi
    refine wpIn_ret ?_
    go_wp2_with fail
    refine leaves_marks (B := w.heap.size + 1) HMS.out (fun w' hkw' => ?_)
    have r4 := (HBI.out.keep hkw' (by omega)).at_ 0
    refine ⟨.bool true, by simp [results, Try.results63, go_sem, r4], by rw [HS.out], ?_, ?_⟩
    · exact HKK.out.fin (hkw'.mono (fun k _ h => by omega))
    · exact HKN.out.keep hkw' (by omega)
end Go.Proofs.Ytllmahcanipcpaa
/- Contracts of claim's list. -/
namespace Go.Proofs.Ytllmahcanipcpaa
open Go.RowKit
attribute [local go_sem ↓] Go.wp_at_zero Go.wp_at_succ

def listN (set many : Nat) : List Nat := (List.range many).filter fun i => set.testBit i
theorem listN_succ (set k : Nat) : listN set (k + 1) = listN set k ++ if set.testBit k then [k] else [] := by
  simp only [listN, List.range_succ, List.filter_append, List.filter_cons, List.filter_nil]
theorem listN_le (set k : Nat) : (listN set k).length ≤ k := by simpa [listN] using List.length_filter_le (fun i => set.testBit i) (List.range k)
/-- The row of list, when j numbers have been looked at. -/
def rowN (set many j : Nat) : List Int := natInts (listN set j) ++ List.replicate (many - (listN set j).length) 0
theorem rowN_set {set many j : Nat} (hj : j < many) (h : set.testBit j = true) : (rowN set many j).set (listN set j).length (j : Int) = rowN set many (j + 1) := by
  have hl := listN_le set j
  rw [rowN, rowN, listN_succ, h, if_pos rfl, List.set_append_right _ _ (by simp [natInts])]
  simp only [natInts, List.length_map, Nat.sub_self, List.map_append, List.map_cons, List.map_nil, List.length_append, List.length_cons, List.length_nil, List.append_assoc]
  congr 1
  rw [show many - (listN set j).length = (many - ((listN set j).length + (0 + 1))) + 1 by omega, List.replicate_succ]
  rfl
theorem rowN_same {set many j : Nat} (h : set.testBit j = false) : rowN set many (j + 1) = rowN set many j := by
  rw [rowN, rowN, listN_succ, h]; simp
theorem OwnI.part {w : World} {base g n cap : Nat} {xs ys : List Int} (h : OwnI w base g n cap (xs ++ ys)) : IntsS w w.heap.size (some ⟨g, 0, none⟩) xs.length cap xs := by
  have hi := h.ints
  have hl := h.len
  rw [List.length_append] at hl
  refine ⟨rfl, by have := hi.cap; omega, hi.max, fun hm => ?_⟩
  obtain ⟨b, off, e, hb, hc⟩ := hi.row (by omega)
  refine ⟨b, off, e, hb, fun j hj => ?_⟩
  rw [hc j (by omega), intsF, intsF, nth_app', if_pos hj]
set_option maxHeartbeats 1600000 in
set_option maxRecDepth 100000 in
theorem list_any {set many : Nat} (hs : set < 32) (hm : many ≤ 5) (w : World) :
    Calls Try.prog 51 #[.int .i64 set, .int .i64 many] w fun e w' =>
      ∃ g c, e = .returned (.slice (some ⟨g, 0, none⟩) (listN set many).length c) ∧ IntsS w' w'.heap.size (some ⟨g, 0, none⟩) (listN set many).length c (natInts (listN set many)) ∧ w.heap.size ≤ g ∧ Below w.heap.size w w' := by
  obtain ⟨i0, hi, hz0, hz1, hz2⟩ := info_parts Try.infoInt
  go_enter Try.func51, Try.ntmps51
  go_wp2_with (first
    | (at_make
       go_must (refine wpList_make_full _ rfl _ _ 23 rfl w.heap.size 3 i0 (.int .i64 0) 1 Try.underlying23 hi hz0 hz1 _ _ _ _ many rfl rfl rfl rfl (by rw [hz2]; omega) (by simp [maxLen]; omega) (by simp) ?_)
       intro wm hown1 hg1
       have hbm := (Below.refl w.heap.size _).grown hg1 (by simp) (by simp)
       have hO1 : OwnI wm w.heap.size w.heap.size many many (List.replicate many 0) := by simpa [OwnI, Value.cells, toList_madeCells_one] using hown1))
  go_loopw [6, 7, 11] (fun v6 _ v11 wr => ∃ j : Nat, j ≤ many ∧ v11 = .int .i64 j ∧ v6 = .int .i64 ((listN set j).length : Nat) ∧ Below w.heap.size w wr ∧ Hid (OwnI wr w.heap.size w.heap.size many many (rowN set many j))) (fun _ _ v11 _ => many - (intOf v11).toNat)
  case atStart => exact ⟨0, Nat.zero_le _, rfl, rfl, hbm, hide (by simpa [rowN, listN, natInts] using hO1)⟩
  case round =>
    obtain ⟨j, hj, rfl, rfl, hB, HO⟩ := hrel
    have hj0 : (0 : Int) ≤ (j : Int) := Int.natCast_nonneg _
    have hle := listN_le set j
    by_cases hlt : j < many
    · have hj1 : (j : Int) < (many : Int) := by omega
      have hba := bits_and hs (show j < 5 by omega)
      have hsz := hB.size
      cases hb : set.testBit j with
      | true =>
        rw [hb, if_pos rfl] at hba
        have HR := hide (rowN_set hlt hb)
        have HL := hide (show (listN set (j + 1)).length = (listN set j).length + 1 by rw [listN_succ, hb]; simp)
        generalize (listN set j).length = m at *
        have hm0 : (0 : Int) ≤ (m : Int) := Int.natCast_nonneg _
        have hm1 : (m : Int) ≤ (many : Int) := by omega
        clear hb
        have hA : Below w.heap.size w (wr.alloc (.cells #[.int .i64 (j : Int)] 3)) := hB.alloc hsz _
        have hO2 : OwnI (wr.alloc (.cells #[.int .i64 (j : Int)] 3)) w.heap.size w.heap.size many many (rowN set many j) := HO.out.block (Below.heap_alloc _ _ _ HO.out.lt.2)
        have hcp : (Builtin.copy_ #[23, 23] 3 #[.slice (some ⟨w.heap.size, m, none⟩) (many - m) (many - m), .slice (some ⟨wr.heap.size, 0, none⟩) 1 1]).run Try.prog (wr.alloc (.cells #[.int .i64 (j : Int)] 3)) = .ok (.int .i64 1) ((wr.alloc (.cells #[.int .i64 (j : Int)] 3)).setCell ⟨w.heap.size, m, none⟩ (.int .i64 (j : Int))) := by
          have hmin : Nat.min 1 (many - m) = 1 := Nat.min_eq_left (by omega)
          have hc : (wr.alloc (.cells #[.int .i64 (j : Int)] 3)).cell? ⟨w.heap.size, m, none⟩ = some (.int .i64 (nth (rowN set many j) m)) := hO2.cell (by omega)
          have := run_copy_k (P := Try.prog) (wr.alloc (.cells #[.int .i64 (j : Int)] 3)) 23 23 3 3 1 w.heap.size m (many - m) (many - m) (some ⟨w.heap.size, m, none⟩) (some ⟨wr.heap.size, 0, none⟩) 1 1 [.int .i64 (j : Int)] Try.underlying23 (by kernel_rfl) (by rw [hmin]; rfl)
            (fun _ => ⟨rfl, _, rfl, cell_one_new _ _ _⟩)
            (fun k hk => by obtain rfl : k = 0 := by simpa using hk
                            rw [Nat.add_zero, hc]; rfl)
            (fun k _ => hO2.frozen _) (fun v hv => by simp at hv; subst hv; rfl)
          rw [hmin] at this
          exact this
        have hO3 := hO2.set m (j : Int)
        have hA3 : Below w.heap.size w ((wr.alloc (.cells #[.int .i64 (j : Int)] 3)).setCell ⟨w.heap.size, m, none⟩ (.int .i64 (j : Int))) := hA.setCell (Nat.le_refl _) _
        have HO3 := hide hO3
        have HA3 := hide hA3
        clear hA hO2 hO3 hA3
        go_wp2_with fail
        go_roundw
        case rel => exact ⟨j + 1, by omega, by go_num, by rw [HL.out]; go_num, HA3.out, hide (by rw [← HR.out]; exact HO3.out)⟩
        case measure => simp [intOf]; omega
      | false =>
        rw [hb, if_neg (by simp)] at hba
        have HR := hide (rowN_same (many := many) hb)
        have HL := hide (show (listN set (j + 1)).length = (listN set j).length by rw [listN_succ, hb]; simp)
        clear hb
        go_wp2_with fail
        go_roundw
        case rel => exact ⟨j + 1, by omega, by go_num, by rw [HL.out], hB, hide (by rw [HR.out]; exact HO.out)⟩
        case measure => simp [intOf]; omega
    · obtain rfl : j = many := by omega
      have hm0 : (0 : Int) ≤ ((listN set j).length : Int) := Int.natCast_nonneg _
      have hm1 : ((listN set j).length : Int) ≤ (j : Int) := by omega
      go_wp2_with fail
      go_ret
      have hp := OwnI.part HO.out
      rw [natInts_length] at hp
      exact ⟨_, _, rfl, hp, Nat.le_refl _, hB⟩
end Go.Proofs.Ytllmahcanipcpaa
