/- Words for memory: a book of chapter 12 by value; what Check says of it. Plain facts, no walk. -/
import Derived.Test.YtocdmkilnbpkdaaGreatDoorHA
import Derived.Test.YtocdmkilnbpkdaaGreatDoorZR
set_option linter.unusedVariables false
set_option linter.unusedSimpArgs false
namespace Go.Proofs.YtocdmkilnbpkdaaGreatDoor
open Go.RowKit

structure Step where
 name : ByteArray
 from_ : Int
 loss : Int
deriving Inhabited
structure Tally where
 step : Int
 hands : Int
 off : Int
deriving DecidableEq, Inhabited
structure Book where
 steps : List Step
 tallies : List Tally
deriving Inhabited
/-- Where a book's slices lie. -/
structure BA where
 A1 : Option Addr
 A2 : Option Addr
 c1 : Nat
 c2 : Nat
def strsF (xs : List ByteArray) (j : Nat) : Value := .string (nth xs j)
def stepsF (xs : List Step) (j : Nat) : Value := match j % 3 with | 0 => .string (nth xs (j / 3)).name | 1 => .int .i64 (nth xs (j / 3)).from_ | _ => .int .i64 (nth xs (j / 3)).loss
def talliesF (xs : List Tally) (j : Nat) : Value := .int .i64 (match j % 3 with | 0 => (nth xs (j / 3)).step | 1 => (nth xs (j / 3)).hands | _ => (nth xs (j / 3)).off)
/-- A book by value: its two slices, all below block B. -/
structure BookV (w : World) (B : Nat) (b : Book) (a : BA) : Prop where
 steps : Row w B a.A1 (b.steps.length * 3) (stepsF b.steps)
 tallies : Row w B a.A2 (b.tallies.length * 3) (talliesF b.tallies)
 small : ∀ j, j < b.steps.length → (nth b.steps j).name.size ≤ maxLen
 m1 : b.steps.length ≤ a.c1 ∧ a.c1 ≤ maxLen
 m2 : b.tallies.length ≤ a.c2 ∧ a.c2 ≤ maxLen
abbrev bookCells (b : Book) (a : BA) : Array Value := #[.slice a.A1 b.steps.length a.c1, .slice a.A2 b.tallies.length a.c2]
abbrev bookVal (b : Book) (a : BA) : Value := .agg #[.slice a.A1 b.steps.length a.c1, .slice a.A2 b.tallies.length a.c2]
section
variable {w w' : World} {B B' n : Nat} {A : Option Addr} {b : Book} {a : BA}
theorem BookV.below (h : BookV w B b a) (hb : Below B w w') : BookV w' B b a := ⟨h.steps.below hb, h.tallies.below hb, h.small, h.m1, h.m2⟩
theorem BookV.more (h : BookV w B b a) (hb : B ≤ B') : BookV w B' b a := ⟨h.steps.more hb, h.tallies.more hb, h.small, h.m1, h.m2⟩
theorem BookV.next (h : BookV w w.heap.size b a) (hb : Below w.heap.size w w') : BookV w' w'.heap.size b a := (h.below hb).more hb.size
theorem Row.strs {xs : List ByteArray} (h : Row w B A n (strsF xs)) {i : Nat} (hi : i < n) : ∃ b off, A = some ⟨b, off, none⟩ ∧ b < B ∧ w.cell? ⟨b, off + i, none⟩ = some (.string (nth xs i)) := by
 obtain ⟨b, off, e, hb, hc⟩ := h (by omega)
 exact ⟨b, off, e, hb, hc i hi⟩
theorem Row.steps {xs : List Step} (h : Row w B A (n * 3) (stepsF xs)) {i : Nat} (hi : i < n) :
 ∃ b off, A = some ⟨b, off, none⟩ ∧ b < B ∧ w.cell? ⟨b, off + i * 3, none⟩ = some (.string (nth xs i).name) ∧ w.cell? ⟨b, off + i * 3 + 1, none⟩ = some (.int .i64 (nth xs i).from_) ∧ w.cell? ⟨b, off + i * 3 + 2, none⟩ = some (.int .i64 (nth xs i).loss) := by
 obtain ⟨b, off, e, hb, hc⟩ := h (by omega)
 refine ⟨b, off, e, hb, ?_, ?_, ?_⟩
 · rw [hc (i * 3) (by omega), stepsF, show i * 3 % 3 = 0 by omega, show i * 3 / 3 = i by omega]; rfl
 · rw [Nat.add_assoc, hc (i * 3 + 1) (by omega), stepsF, show (i * 3 + 1) % 3 = 1 by omega, show (i * 3 + 1) / 3 = i by omega]; rfl
 · rw [Nat.add_assoc, hc (i * 3 + 2) (by omega), stepsF, show (i * 3 + 2) % 3 = 2 by omega, show (i * 3 + 2) / 3 = i by omega]; rfl
theorem Row.tallies {xs : List Tally} (h : Row w B A (n * 3) (talliesF xs)) {i : Nat} (hi : i < n) :
 ∃ b off, A = some ⟨b, off, none⟩ ∧ b < B ∧ w.cell? ⟨b, off + i * 3, none⟩ = some (.int .i64 (nth xs i).step) ∧ w.cell? ⟨b, off + i * 3 + 1, none⟩ = some (.int .i64 (nth xs i).hands) ∧ w.cell? ⟨b, off + i * 3 + 2, none⟩ = some (.int .i64 (nth xs i).off) := by
 obtain ⟨b, off, e, hb, hc⟩ := h (by omega)
 refine ⟨b, off, e, hb, ?_, ?_, ?_⟩
 · rw [hc (i * 3) (by omega), talliesF, show i * 3 % 3 = 0 by omega, show i * 3 / 3 = i by omega]; rfl
 · rw [Nat.add_assoc, hc (i * 3 + 1) (by omega), talliesF, show (i * 3 + 1) % 3 = 1 by omega, show (i * 3 + 1) / 3 = i by omega]; rfl
 · rw [Nat.add_assoc, hc (i * 3 + 2) (by omega), talliesF, show (i * 3 + 2) % 3 = 2 by omega, show (i * 3 + 2) / 3 = i by omega]; rfl
end
/-- A book's box. -/
structure BoxB (W : World) (g : Nat) (b : Book) (a : BA) : Prop where
 v : BookV W W.heap.size b a
 k : Blk W g 25 (bookCells b a)
section
variable {W W' : World} {g : Nat} {b : Book} {a : BA}
theorem BoxB.next (h : BoxB W g b a) (hb : Below W.heap.size W W') : BoxB W' g b a := ⟨h.v.next hb, h.k.next hb⟩
theorem BoxB.made (h : BookV W W.heap.size b a) : BoxB (W.alloc (.cells (bookCells b a) 25)) W.heap.size b a := ⟨h.next ((Below.refl _ _).alloc (Nat.le_refl _) _), Blk.made⟩
theorem BoxB.cells (h : BoxB W g b a) : g < W.heap.size ∧ W.cell? ⟨g, 0, none⟩ = some (.slice a.A1 b.steps.length a.c1) ∧ W.cell? ⟨g, 1, none⟩ = some (.slice a.A2 b.tallies.length a.c2) := ⟨h.k.lt, h.k.at_ 0, h.k.at_ 1⟩
end
def offP (lo hi n : Int) : Bool := decide (n < lo) || decide (hi < n)
/-- A byte that a name may have, at its beginning or later. -/
def nameC (later : Bool) (c : Nat) : Bool := decide (97 ≤ c ∧ c ≤ 122) || (later && (decide (c = 46) || decide (48 ≤ c ∧ c ≤ 57)))
def byteAt (s : ByteArray) (i : Nat) : Nat := (s.data.getD i 0).toNat
def nameTo (s : ByteArray) (k : Nat) : Bool := (List.range k).all fun i => nameC (decide (0 < i)) (byteAt s i)
def nameB (s : ByteArray) : Bool := decide (1 ≤ s.size ∧ s.size ≤ 16) && nameTo s s.size
theorem nameTo_succ (s : ByteArray) (k : Nat) : nameTo s (k + 1) = (nameTo s k && nameC (decide (0 < k)) (byteAt s k)) := by simp [nameTo, List.range_succ]
theorem nameTo_false {s : ByteArray} {k : Nat} (h : nameTo s k = false) (hk : k ≤ s.size) : nameTo s s.size = false := by
 rw [nameTo, List.all_eq_false] at h ⊢
 obtain ⟨x, hx, h2⟩ := h
 exact ⟨x, by simp at hx ⊢; omega, h2⟩
/-- The first thing with an error: its index, and the error. -/
def firstE {α : Type} (f : Nat → α → Int) : List α → Nat → Int × Int
 | [], _ => (0, 0)
 | x :: l, i => if f i x = 0 then firstE f l (i + 1) else (i, f i x)
/-- Two strings are the same, as the program sees it. -/
def eqS (s t : ByteArray) : Bool := s.toList == t.toList
theorem eqS_comm (s t : ByteArray) : eqS s t = eqS t s := by rw [Bool.eq_iff_iff, eqS, eqS, beq_iff_eq, beq_iff_eq]; exact eq_comm
theorem offP_false {lo hi n : Int} : offP lo hi n = false ↔ lo ≤ n ∧ n ≤ hi := by simp [offP]
theorem firstE_zero {α : Type} [Inhabited α] {f : Nat → α → Int} : ∀ (xs : List α) (i : Nat), (firstE f xs i).2 = 0 → ∀ j, j < xs.length → f (i + j) (nth xs j) = 0
 | [], _, _, j, hj => by simp at hj
 | x :: l, i, h, j, hj => by
  rw [firstE] at h
  split at h
  · rename_i hx
    cases j with
    | zero => simpa [nth] using hx
    | succ j =>
     have := firstE_zero l (i + 1) h j (by simpa using hj)
     rw [show i + (j + 1) = i + 1 + j by omega]
     simpa [nth] using this
  · rename_i hx; exact absurd h hx
theorem firstE_ok {α : Type} [Inhabited α] {f : Nat → α → Int} : ∀ (xs : List α) (i : Nat), (∀ j, j < xs.length → f (i + j) (nth xs j) = 0) → firstE f xs i = (0, 0)
 | [], _, _ => rfl
 | x :: l, i, h => by
  have h0 : f i x = 0 := by have := h 0 (by simp); simpa [nth] using this
  rw [firstE, if_pos h0]
  refine firstE_ok l (i + 1) fun j hj => ?_
  have := h (j + 1) (by simpa using hj)
  rw [show i + (j + 1) = i + 1 + j by omega] at this
  simpa [nth] using this
/-- The first thing with an error, if there are from least to most. -/
def failM {α : Type} (f : Nat → α → Int) (l : List α) (least most : Int) : Int × Int := if (l.length : Int) < least ∨ most < l.length then (0, 3) else firstE f l 0
theorem failM_zero {α : Type} [Inhabited α] {f : Nat → α → Int} {xs : List α} {least most : Int} (h : (failM f xs least most).2 = 0) : (least ≤ xs.length ∧ (xs.length : Int) ≤ most) ∧ ∀ j, j < xs.length → f j (nth xs j) = 0 := by
 rw [failM] at h
 split at h
 · simp at h
 · exact ⟨by omega, fun j hj => by have := firstE_zero _ _ h j hj; rwa [Nat.zero_add] at this⟩
theorem failM_ok {α : Type} [Inhabited α] {F : Nat → α → Int} {xs : List α} {least most : Int} (hl : least ≤ xs.length ∧ (xs.length : Int) ≤ most) (h : ∀ j, j < xs.length → F j (nth xs j) = 0) : (failM F xs least most).2 = 0 := by
 rw [failM, if_neg (by omega), firstE_ok xs 0 (fun j hj => by rw [Nat.zero_add]; exact h j hj)]
def stepE (b : Book) (i : Nat) (s : Step) : Int :=
 if nameB s.name = false then 6 else if (b.steps.take i).any (fun x => eqS x.name s.name) then 5 else if (if i = 0 then decide (s.from_ ≠ -1) else offP 0 ((i : Int) - 1) s.from_) then 4 else if offP 0 20 s.loss then 7 else 0
def tallyE (b : Book) (_ : Nat) (t : Tally) : Int := if offP 0 ((b.steps.length : Int) - 1) t.step then 4 else if offP 0 99 t.hands || offP 0 9 t.off then 7 else 0
/-- What Check says: the part, the index in it, the error. -/
def checkM (b : Book) : Int × Int × Int :=
 if (failM (stepE b) b.steps 1 6).2 ≠ 0 then (1, failM (stepE b) b.steps 1 6) else if (failM (tallyE b) b.tallies 0 6).2 ≠ 0 then (2, failM (tallyE b) b.tallies 0 6) else (0, 0, 0)
/-- What Check lets by. -/
structure Valid (b : Book) : Prop where
 pos : 0 < b.steps.length
 steps : b.steps.length ≤ 6
 name : ∀ i, i < b.steps.length → nameB (nth b.steps i).name = true
 apart : ∀ i, i < b.steps.length → (b.steps.take i).any (fun x => eqS x.name (nth b.steps i).name) = false
 first : (nth b.steps 0).from_ = -1
 from_ : ∀ i, 0 < i → i < b.steps.length → 0 ≤ (nth b.steps i).from_ ∧ (nth b.steps i).from_ < i
 loss : ∀ i, i < b.steps.length → 0 ≤ (nth b.steps i).loss ∧ (nth b.steps i).loss ≤ 20
 tallies : b.tallies.length ≤ 6
 tally : ∀ i, i < b.tallies.length → (0 ≤ (nth b.tallies i).step ∧ (nth b.tallies i).step < b.steps.length) ∧ (0 ≤ (nth b.tallies i).hands ∧ (nth b.tallies i).hands ≤ 99) ∧ 0 ≤ (nth b.tallies i).off ∧ (nth b.tallies i).off ≤ 9
theorem check_parts {b : Book} : (checkM b).2.2 = 0 ↔ (failM (stepE b) b.steps 1 6).2 = 0 ∧ (failM (tallyE b) b.tallies 0 6).2 = 0 := by
 unfold checkM
 constructor
 · intro h
   split at h
   · rename_i h1; exact absurd h h1
   rename_i h1
   split at h
   · rename_i h2; exact absurd h h2
   rename_i h2
   exact ⟨Classical.not_not.1 h1, Classical.not_not.1 h2⟩
 · rintro ⟨h1, h2⟩
   rw [if_neg (by simp [h1]), if_neg (by simp [h2])]
theorem valid_of {b : Book} (h : (checkM b).2.2 = 0) : Valid b := by
 obtain ⟨h1, h2⟩ := check_parts.1 h
 obtain ⟨a1, b1⟩ := failM_zero h1
 obtain ⟨a2, b2⟩ := failM_zero h2
 have hs : ∀ i, i < b.steps.length → nameB (nth b.steps i).name = true ∧ (b.steps.take i).any (fun x => eqS x.name (nth b.steps i).name) = false ∧ (if i = 0 then decide ((nth b.steps i).from_ ≠ -1) else offP 0 ((i : Int) - 1) (nth b.steps i).from_) = false ∧ offP 0 20 (nth b.steps i).loss = false := fun i hi => by
  have := b1 i hi
  unfold stepE at this
  generalize (if i = 0 then decide ((nth b.steps i).from_ ≠ -1) else offP 0 ((i : Int) - 1) (nth b.steps i).from_) = z at *
  split at this
  · omega
  split at this
  · omega
  split at this
  · omega
  split at this
  · omega
  rename_i x1 x2 x3 x4
  exact ⟨by simpa using x1, by simpa using x2, by simpa using x3, by simpa using x4⟩
 refine ⟨by omega, by omega, fun i hi => (hs i hi).1, fun i hi => (hs i hi).2.1, ?_, fun i h0 hi => ?_, fun i hi => offP_false.1 (hs i hi).2.2.2, by omega, fun i hi => ?_⟩
 · have := (hs 0 (by omega)).2.2.1
   rw [if_pos rfl, decide_eq_false_iff_not] at this
   exact Classical.not_not.1 this
 · have := (hs i hi).2.2.1
   rw [if_neg (by omega)] at this
   have := offP_false.1 this
   omega
 · have := b2 i hi
   unfold tallyE at this
   split at this
   · omega
   split at this
   · omega
   rename_i x1 x2
   simp only [Bool.not_eq_true, Bool.or_eq_false_iff] at x1 x2
   have z1 := offP_false.1 x1
   have z2 := offP_false.1 x2.1
   have z3 := offP_false.1 x2.2
   omega
theorem check_of {b : Book} (h : Valid b) : (checkM b).2.2 = 0 := by
 refine check_parts.2 ⟨failM_ok (by have := h.pos; have := h.steps; omega) fun j hj => ?_, failM_ok (by have := h.tallies; omega) fun j hj => ?_⟩
 · have hf : (if j = 0 then decide ((nth b.steps j).from_ ≠ -1) else offP 0 ((j : Int) - 1) (nth b.steps j).from_) = false := by
    by_cases h0 : j = 0
    · subst h0; rw [if_pos rfl, h.first]; rfl
    · rw [if_neg h0]; exact offP_false.2 (by have := h.from_ j (by omega) hj; omega)
   unfold stepE
   rw [if_neg (by rw [h.name j hj]; simp), if_neg (by rw [h.apart j hj]; simp), if_neg (by rw [hf]; simp), if_neg (by rw [offP_false.2 (h.loss j hj)]; simp)]
 · have ht := h.tally j hj
   unfold tallyE
   rw [if_neg (by rw [offP_false.2 (show 0 ≤ (nth b.tallies j).step ∧ (nth b.tallies j).step ≤ (b.steps.length : Int) - 1 by omega)]; simp), if_neg (by rw [offP_false.2 ht.2.1, offP_false.2 ht.2.2]; simp)]
end Go.Proofs.YtocdmkilnbpkdaaGreatDoor
