/- The plain law of chapter 11: what Check says, what can be, what is paid. No program here but the data's own words. -/
import Derived.Test.YtllmahcanipcpaaKA
import Derived.Test.YtllmahcanipcpaaVR
set_option linter.unusedVariables false
set_option linter.unusedSimpArgs false
namespace Go.Proofs.Ytllmahcanipcpaa

def offP (lo hi n : Int) : Bool := decide (n < lo) || decide (hi < n)
/-- A byte that a name may have, at its beginning or later. -/
def nameC (later : Bool) (c : Nat) : Bool := decide (97 ≤ c ∧ c ≤ 122) || (later && (decide (c = 46) || decide (48 ≤ c ∧ c ≤ 57)))
def byteAt (s : ByteArray) (i : Nat) : Nat := (s.data.getD i 0).toNat
def nameTo (s : ByteArray) (k : Nat) : Bool := (List.range k).all fun i => nameC (decide (0 < i)) (byteAt s i)
def nameB (s : ByteArray) : Bool := decide (1 ≤ s.size ∧ s.size ≤ 16) && nameTo s s.size
theorem nameTo_succ (s : ByteArray) (k : Nat) : nameTo s (k + 1) = (nameTo s k && nameC (decide (0 < k)) (byteAt s k)) := by simp [nameTo, List.range_succ]
theorem nameTo_false {s : ByteArray} {k : Nat} (h : nameTo s k = false) (hk : k ≤ s.size) : nameTo s s.size = false := by
  rw [nameTo, List.all_eq_false] at h ⊢
  obtain ⟨x, hx, h2⟩ := h
  exact ⟨x, by simp at hx ⊢; omega, h2⟩
/-- The first thing with an error: its index, and the error. -/
def firstE {α : Type} (f : Nat → α → Int) : List α → Nat → Int × Int
  | [], _ => (0, 0)
  | x :: l, i => if f i x = 0 then firstE f l (i + 1) else (i, f i x)
def failM {α : Type} (f : Nat → α → Int) (l : List α) (most : Int) : Int × Int := if most < l.length then (0, 3) else firstE f l 0
/-- Two strings are the same, as the program sees it. -/
def eqS (s t : ByteArray) : Bool := s.toList == t.toList
theorem eqS_comm (s t : ByteArray) : eqS s t = eqS t s := by rw [Bool.eq_iff_iff, eqS, eqS, beq_iff_eq, beq_iff_eq]; exact eq_comm
def partyE (f : File) (i : Nat) (s : ByteArray) : Int := if nameB s then (if (f.parties.take i).any (eqS s) then 5 else 0) else 6
def dayE (_ : Nat) (d : Int) : Int := if offP 0 60 d then 7 else 0
def dupB : List Int → Bool
  | [] => false
  | x :: l => hasInt l x || dupB l
def lotE (f : File) (_ : Nat) (l : Lot) : Int :=
  if offP 1 4 l.route.length then 3 else if l.route.any (offP 0 ((f.parties.length : Int) - 1)) then 4 else if dupB l.route then 5
  else if offP 0 ((l.route.length : Int) - 1) l.turned.lo || offP 0 ((l.route.length : Int) - 1) l.turned.hi || offP 1 99 l.worth then 7 else if l.turned.hi < l.turned.lo then 2 else 0
def paperE (f : File) (_ : Nat) (p : Paper) : Int :=
  if offP 0 3 p.says then 7 else if offP 0 ((f.lots.length : Int) - 1) p.lot then 4
  else if p.says < 2 then (if hasInt (nth f.lots p.lot.toNat).route p.of_ then 0 else 4) else if offP 0 ((f.lots.length : Int) - 1) p.of_ then 4 else if p.lot = p.of_ then 2 else 0
def claimE (f : File) (_ : Nat) (c : Claim) : Int :=
  if offP 0 ((f.lots.length : Int) - 1) c.lot || offP 0 ((f.parties.length : Int) - 1) c.against then 4 else if offP 0 60 c.day then 7 else 0
/-- What Check says: the part, the index in it, the error. -/
def checkM (f : File) : Int × Int × Int :=
  if (failM (partyE f) f.parties 4).2 ≠ 0 then (1, failM (partyE f) f.parties 4)
  else if f.untils.length ≠ f.parties.length then (2, 0, 3)
  else if (failM dayE f.untils 4).2 ≠ 0 then (2, failM dayE f.untils 4)
  else if (failM (lotE f) f.lots 4).2 ≠ 0 then (3, failM (lotE f) f.lots 4)
  else if (failM (paperE f) f.papers 5).2 ≠ 0 then (4, failM (paperE f) f.papers 5)
  else if (failM (claimE f) f.claims 5).2 ≠ 0 then (5, failM (claimE f) f.claims 5)
  else (0, 0, 0)
/-- What Check lets by. -/
structure Valid (f : File) : Prop where
  parties : f.parties.length ≤ 4
  untils : f.untils.length = f.parties.length
  day : ∀ i, i < f.untils.length → 0 ≤ nth f.untils i ∧ nth f.untils i ≤ 60
  lots : f.lots.length ≤ 4
  route : ∀ i, i < f.lots.length → (1 ≤ (nth f.lots i).route.length ∧ (nth f.lots i).route.length ≤ 4) ∧ (∀ k, k < (nth f.lots i).route.length → 0 ≤ nth (nth f.lots i).route k ∧ nth (nth f.lots i).route k < f.parties.length) ∧ dupB (nth f.lots i).route = false
  lot : ∀ i, i < f.lots.length → 0 ≤ (nth f.lots i).turned.lo ∧ (nth f.lots i).turned.lo ≤ (nth f.lots i).turned.hi ∧ (nth f.lots i).turned.hi < (nth f.lots i).route.length ∧ 1 ≤ (nth f.lots i).worth ∧ (nth f.lots i).worth ≤ 99
  papers : f.papers.length ≤ 5
  paper : ∀ i, i < f.papers.length → 0 ≤ (nth f.papers i).says ∧ (nth f.papers i).says ≤ 3 ∧ 0 ≤ (nth f.papers i).lot ∧ (nth f.papers i).lot < f.lots.length ∧
    ((nth f.papers i).says < 2 → hasInt (nth f.lots (nth f.papers i).lot.toNat).route (nth f.papers i).of_ = true) ∧ (2 ≤ (nth f.papers i).says → 0 ≤ (nth f.papers i).of_ ∧ (nth f.papers i).of_ < f.lots.length ∧ (nth f.papers i).lot ≠ (nth f.papers i).of_)
  claims : f.claims.length ≤ 5
  claim : ∀ i, i < f.claims.length → 0 ≤ (nth f.claims i).lot ∧ (nth f.claims i).lot < f.lots.length ∧ 0 ≤ (nth f.claims i).against ∧ (nth f.claims i).against < f.parties.length ∧ 0 ≤ (nth f.claims i).day ∧ (nth f.claims i).day ≤ 60
theorem offP_false {lo hi n : Int} : offP lo hi n = false ↔ lo ≤ n ∧ n ≤ hi := by simp [offP]
theorem firstE_zero {α : Type} [Inhabited α] {f : Nat → α → Int} : ∀ (xs : List α) (i : Nat), (firstE f xs i).2 = 0 → ∀ j, j < xs.length → f (i + j) (nth xs j) = 0
  | [], _, _, j, hj => by simp at hj
  | x :: l, i, h, j, hj => by
    rw [firstE] at h
    split at h
    · rename_i hx
      cases j with
      | zero => simpa [nth] using hx
      | succ j =>
        have := firstE_zero l (i + 1) h j (by simpa using hj)
        rw [show i + (j + 1) = i + 1 + j by omega]
        simpa [nth] using this
    · rename_i hx; exact absurd h hx
theorem failM_zero {α : Type} [Inhabited α] {f : Nat → α → Int} {xs : List α} {most : Int} (h : (failM f xs most).2 = 0) : (xs.length : Int) ≤ most ∧ ∀ j, j < xs.length → f j (nth xs j) = 0 := by
  rw [failM] at h
  split at h
  · simp at h
  · exact ⟨by omega, fun j hj => by have := firstE_zero _ _ h j hj; rwa [Nat.zero_add] at this⟩
theorem firstE_ok {α : Type} [Inhabited α] {f : Nat → α → Int} : ∀ (xs : List α) (i : Nat), (∀ j, j < xs.length → f (i + j) (nth xs j) = 0) → firstE f xs i = (0, 0)
  | [], _, _ => rfl
  | x :: l, i, h => by
    have h0 : f i x = 0 := by have := h 0 (by simp); simpa [nth] using this
    rw [firstE, if_pos h0]
    refine firstE_ok l (i + 1) fun j hj => ?_
    have := h (j + 1) (by simpa using hj)
    rw [show i + (j + 1) = i + 1 + j by omega] at this
    simpa [nth] using this
theorem valid_of {f : File} (h : (checkM f).2.2 = 0) : Valid f := by
  unfold checkM at h
  split at h
  · rename_i h1; exact absurd h h1
  rename_i h1
  split at h
  · simp at h
  rename_i h2
  split at h
  · rename_i h3; exact absurd h h3
  rename_i h3
  split at h
  · rename_i h4; exact absurd h h4
  rename_i h4
  split at h
  · rename_i h5; exact absurd h h5
  rename_i h5
  split at h
  · rename_i h6; exact absurd h h6
  rename_i h6
  obtain ⟨a1, _⟩ := failM_zero (Classical.not_not.1 h1)
  obtain ⟨_, b3⟩ := failM_zero (Classical.not_not.1 h3)
  obtain ⟨a4, b4⟩ := failM_zero (Classical.not_not.1 h4)
  obtain ⟨a5, b5⟩ := failM_zero (Classical.not_not.1 h5)
  obtain ⟨a6, b6⟩ := failM_zero (Classical.not_not.1 h6)
  have hl : ∀ i, i < f.lots.length → offP 1 4 (nth f.lots i).route.length = false ∧ (nth f.lots i).route.any (offP 0 ((f.parties.length : Int) - 1)) = false ∧ dupB (nth f.lots i).route = false ∧
      offP 0 (((nth f.lots i).route.length : Int) - 1) (nth f.lots i).turned.lo = false ∧ offP 0 (((nth f.lots i).route.length : Int) - 1) (nth f.lots i).turned.hi = false ∧ offP 1 99 (nth f.lots i).worth = false ∧ ¬ (nth f.lots i).turned.hi < (nth f.lots i).turned.lo := fun i hi => by
    have := b4 i hi
    unfold lotE at this
    split at this
    · omega
    split at this
    · omega
    split at this
    · omega
    split at this
    · omega
    split at this
    · omega
    rename_i x1 x2 x3 x4 x5
    simp only [Bool.not_eq_true, Bool.or_eq_false_iff] at x1 x2 x3 x4
    exact ⟨x1, x2, x3, x4.1.1, x4.1.2, x4.2, x5⟩
  refine ⟨by omega, by omega, fun i hi => ?_, by omega, fun i hi => ?_, fun i hi => ?_, by omega, fun i hi => ?_, by omega, fun i hi => ?_⟩
  · have := b3 i hi
    unfold dayE at this
    split at this
    · omega
    · rename_i hx; exact offP_false.1 (by simpa using hx)
  · obtain ⟨y1, y2, y3, _⟩ := hl i hi
    have z1 := offP_false.1 y1
    refine ⟨by omega, fun k hk => ?_, y3⟩
    rw [List.any_eq_false] at y2
    have := y2 _ (by rw [nth_eq hk]; exact List.getElem_mem hk : nth (nth f.lots i).route k ∈ (nth f.lots i).route)
    have := offP_false.1 (by simpa using this)
    omega
  · obtain ⟨_, _, _, y4, y5, y6, y7⟩ := hl i hi
    have z4 := offP_false.1 y4
    have z5 := offP_false.1 y5
    have z6 := offP_false.1 y6
    omega
  · have := b5 i hi
    unfold paperE at this
    split at this
    · omega
    rename_i x1
    split at this
    · omega
    rename_i x2
    have z1 := offP_false.1 (by simpa using x1)
    have z2 := offP_false.1 (by simpa using x2)
    split at this
    · rename_i x3
      split at this
      · rename_i x4; exact ⟨by omega, by omega, by omega, by omega, fun _ => x4, fun _ => by omega⟩
      · omega
    · rename_i x3
      split at this
      · omega
      rename_i x4
      split at this
      · omega
      rename_i x5
      have z4 := offP_false.1 (by simpa using x4)
      exact ⟨by omega, by omega, by omega, by omega, fun _ => by omega, fun _ => ⟨by omega, by omega, x5⟩⟩
  · have := b6 i hi
    unfold claimE at this
    split at this
    · omega
    rename_i x1
    split at this
    · omega
    rename_i x2
    simp only [Bool.not_eq_true, Bool.or_eq_false_iff] at x1 x2
    have z1 := offP_false.1 x1.1
    have z2 := offP_false.1 x1.2
    have z3 := offP_false.1 x2
    omega
/-- All numbers of a span. -/
def spanVals (s : Span) : List Int := (List.range (s.hi - s.lo + 1).toNat).map fun k : Nat => s.lo + k
def allTo (f : File) : Nat → List (List Int)
  | 0 => [[]]
  | i + 1 => (allTo f i).flatMap fun p => (spanVals (nth f.lots i).turned).map fun x => p ++ [x]
def allP (f : File) : List (List Int) := allTo f f.lots.length
/-- The place of a party in a route. -/
def placeM (r : List Int) (party : Int) : Int := match r.findIdx? (· == party) with | some i => (i : Int) | none => -1
def withM (f : File) (p : List Int) (l : Nat) : Int := nth (nth f.lots l).route (nth p l).toNat
def soP (f : File) (x : Paper) (p : List Int) : Bool :=
  if x.says = 0 then decide (placeM (nth f.lots x.lot.toNat).route x.of_ ≤ nth p x.lot.toNat) else if x.says = 1 then decide (nth p x.lot.toNat < placeM (nth f.lots x.lot.toNat).route x.of_)
  else if x.says = 2 then withM f p x.lot.toNat == withM f p x.of_.toNat else withM f p x.lot.toNat != withM f p x.of_.toNat
def soTo (f : File) (but : List Int) (p : List Int) (j : Nat) : Bool := (List.range j).all fun k => hasInt but k || soP f (nth f.papers k) p
def soM (f : File) (but : List Int) (p : List Int) : Bool := soTo f but p f.papers.length
def truthsM (f : File) (but : List Int) : List (List Int) := (allP f).filter (soM f but)
/-- Whether a claim is the first one for its lot against its party. -/
def firstB (f : File) (n : Nat) : Bool := (List.range f.claims.length).all fun i => !((nth f.claims i).lot == (nth f.claims n).lot && (nth f.claims i).against == (nth f.claims n).against && (decide ((nth f.claims i).day < (nth f.claims n).day) || ((nth f.claims i).day == (nth f.claims n).day && decide (i < n))))
def paidB (f : File) (p : List Int) (n : Nat) : Bool := withM f p (nth f.claims n).lot.toNat == (nth f.claims n).against && decide ((nth f.claims n).day ≤ nth f.untils (nth f.claims n).against.toNat) && firstB f n
def settlesB (f : File) (p : List Int) (l : Int) : Bool := (List.range f.claims.length).any fun i => (nth f.claims i).lot == l && paidB f p i
def sumTo (f : File) (p : List Int) (party : Int) : Nat → Int
  | 0 => 0
  | i + 1 => sumTo f p party i + (if (nth f.claims i).against == party && paidB f p i then (nth f.lots (nth f.claims i).lot.toNat).worth else 0)
def sumM (f : File) (p : List Int) (party : Int) : Int := sumTo f p party f.claims.length
end Go.Proofs.Ytllmahcanipcpaa
