/- Words for memory: a file of chapter 11 by value. Plain facts, no walk. -/
import Derived.Test.YtllmahcanipcpaaHA
import Derived.Deep.QuietTactic
import Derived.BigQuiet
import Derived.Shelf.Abstract
import Derived.Laws.RangeString
import Derived.Laws.RangeAny
import Derived.IntWalk
set_option linter.unusedVariables false
set_option linter.unusedSimpArgs false
namespace Go.Proofs.Ytllmahcanipcpaa
open Go.RowKit

structure Lot where
  route : List Int
  turned : Span
  worth : Int
deriving DecidableEq, Inhabited
structure Paper where
  says : Int
  lot : Int
  of_ : Int
deriving DecidableEq, Inhabited
structure Claim where
  lot : Int
  against : Int
  day : Int
deriving DecidableEq, Inhabited
structure File where
  parties : List ByteArray
  untils : List Int
  lots : List Lot
  papers : List Paper
  claims : List Claim
deriving Inhabited
/-- Where a file's slices lie. -/
structure FA where
  A1 : Option Addr
  A2 : Option Addr
  A3 : Option Addr
  A4 : Option Addr
  A5 : Option Addr
  c1 : Nat
  c2 : Nat
  c3 : Nat
  c4 : Nat
  c5 : Nat
  R : Nat → Option Addr
  K : Nat → Nat
def strsF (xs : List ByteArray) (j : Nat) : Value := .string (nth xs j)
def lotsF (xs : List Lot) (R : Nat → Option Addr) (K : Nat → Nat) (j : Nat) : Value := match j % 4 with | 0 => .slice (R (j / 4)) (nth xs (j / 4)).route.length (K (j / 4)) | 1 => .int .i64 (nth xs (j / 4)).turned.lo | 2 => .int .i64 (nth xs (j / 4)).turned.hi | _ => .int .i64 (nth xs (j / 4)).worth
def papersF (xs : List Paper) (j : Nat) : Value := .int .i64 (match j % 3 with | 0 => (nth xs (j / 3)).says | 1 => (nth xs (j / 3)).lot | _ => (nth xs (j / 3)).of_)
def claimsF (xs : List Claim) (j : Nat) : Value := .int .i64 (match j % 3 with | 0 => (nth xs (j / 3)).lot | 1 => (nth xs (j / 3)).against | _ => (nth xs (j / 3)).day)
/-- A file by value: its five slices, and the routes of its lots, all below block B. -/
structure FileV (w : World) (B : Nat) (f : File) (a : FA) : Prop where
  parties : Row w B a.A1 f.parties.length (strsF f.parties)
  untils : Row w B a.A2 f.untils.length (intsF f.untils)
  lots : Row w B a.A3 (f.lots.length * 4) (lotsF f.lots a.R a.K)
  papers : Row w B a.A4 (f.papers.length * 3) (papersF f.papers)
  claims : Row w B a.A5 (f.claims.length * 3) (claimsF f.claims)
  routes : ∀ j, j < f.lots.length → IntsS w B (a.R j) (nth f.lots j).route.length (a.K j) (nth f.lots j).route
  small : ∀ j, j < f.parties.length → (nth f.parties j).size ≤ maxLen
  fit : ∀ j, j < f.lots.length → (nth f.lots j).route.length * 8 ≤ 140737488355328
  m1 : f.parties.length ≤ a.c1 ∧ a.c1 ≤ maxLen
  m2 : f.untils.length ≤ a.c2 ∧ a.c2 ≤ maxLen
  m3 : f.lots.length ≤ a.c3 ∧ a.c3 ≤ maxLen
  m4 : f.papers.length ≤ a.c4 ∧ a.c4 ≤ maxLen
  m5 : f.claims.length ≤ a.c5 ∧ a.c5 ≤ maxLen
abbrev fileCells (f : File) (a : FA) : Array Value := #[.slice a.A1 f.parties.length a.c1, .slice a.A2 f.untils.length a.c2, .slice a.A3 f.lots.length a.c3, .slice a.A4 f.papers.length a.c4, .slice a.A5 f.claims.length a.c5]
abbrev fileVal (f : File) (a : FA) : Value := .agg #[.slice a.A1 f.parties.length a.c1, .slice a.A2 f.untils.length a.c2, .slice a.A3 f.lots.length a.c3, .slice a.A4 f.papers.length a.c4, .slice a.A5 f.claims.length a.c5]
section
variable {w w' : World} {B B' n : Nat} {A : Option Addr} {f : File} {a : FA}
theorem FileV.below (h : FileV w B f a) (hb : Below B w w') : FileV w' B f a :=
  ⟨h.parties.below hb, h.untils.below hb, h.lots.below hb, h.papers.below hb, h.claims.below hb, fun j hj => (h.routes j hj).below hb, h.small, h.fit, h.m1, h.m2, h.m3, h.m4, h.m5⟩
theorem FileV.more (h : FileV w B f a) (hb : B ≤ B') : FileV w B' f a :=
  ⟨h.parties.more hb, h.untils.more hb, h.lots.more hb, h.papers.more hb, h.claims.more hb, fun j hj => (h.routes j hj).more hb, h.small, h.fit, h.m1, h.m2, h.m3, h.m4, h.m5⟩
theorem FileV.next (h : FileV w w.heap.size f a) (hb : Below w.heap.size w w') : FileV w' w'.heap.size f a := (h.below hb).more hb.size
theorem Row.strs {xs : List ByteArray} (h : Row w B A n (strsF xs)) {i : Nat} (hi : i < n) : ∃ b off, A = some ⟨b, off, none⟩ ∧ b < B ∧ w.cell? ⟨b, off + i, none⟩ = some (.string (nth xs i)) := by
  obtain ⟨b, off, e, hb, hc⟩ := h (by omega)
  exact ⟨b, off, e, hb, hc i hi⟩
theorem Row.lots {xs : List Lot} {R : Nat → Option Addr} {K : Nat → Nat} (h : Row w B A (n * 4) (lotsF xs R K)) {i : Nat} (hi : i < n) :
    ∃ b off, A = some ⟨b, off, none⟩ ∧ b < B ∧ w.cell? ⟨b, off + i * 4, none⟩ = some (.slice (R i) (nth xs i).route.length (K i)) ∧ w.cell? ⟨b, off + i * 4 + 1, none⟩ = some (.int .i64 (nth xs i).turned.lo) ∧
      w.cell? ⟨b, off + i * 4 + 2, none⟩ = some (.int .i64 (nth xs i).turned.hi) ∧ w.cell? ⟨b, off + i * 4 + 3, none⟩ = some (.int .i64 (nth xs i).worth) := by
  obtain ⟨b, off, e, hb, hc⟩ := h (by omega)
  refine ⟨b, off, e, hb, ?_, ?_, ?_, ?_⟩
  · rw [hc (i * 4) (by omega), lotsF, show i * 4 % 4 = 0 by omega, show i * 4 / 4 = i by omega]; rfl
  · rw [Nat.add_assoc, hc (i * 4 + 1) (by omega), lotsF, show (i * 4 + 1) % 4 = 1 by omega, show (i * 4 + 1) / 4 = i by omega]; rfl
  · rw [Nat.add_assoc, hc (i * 4 + 2) (by omega), lotsF, show (i * 4 + 2) % 4 = 2 by omega, show (i * 4 + 2) / 4 = i by omega]; rfl
  · rw [Nat.add_assoc, hc (i * 4 + 3) (by omega), lotsF, show (i * 4 + 3) % 4 = 3 by omega, show (i * 4 + 3) / 4 = i by omega]; rfl
theorem Row.papers {xs : List Paper} (h : Row w B A (n * 3) (papersF xs)) {i : Nat} (hi : i < n) :
    ∃ b off, A = some ⟨b, off, none⟩ ∧ b < B ∧ w.cell? ⟨b, off + i * 3, none⟩ = some (.int .i64 (nth xs i).says) ∧ w.cell? ⟨b, off + i * 3 + 1, none⟩ = some (.int .i64 (nth xs i).lot) ∧ w.cell? ⟨b, off + i * 3 + 2, none⟩ = some (.int .i64 (nth xs i).of_) := by
  obtain ⟨b, off, e, hb, hc⟩ := h (by omega)
  refine ⟨b, off, e, hb, ?_, ?_, ?_⟩
  · rw [hc (i * 3) (by omega), papersF, show i * 3 % 3 = 0 by omega, show i * 3 / 3 = i by omega]; rfl
  · rw [Nat.add_assoc, hc (i * 3 + 1) (by omega), papersF, show (i * 3 + 1) % 3 = 1 by omega, show (i * 3 + 1) / 3 = i by omega]; rfl
  · rw [Nat.add_assoc, hc (i * 3 + 2) (by omega), papersF, show (i * 3 + 2) % 3 = 2 by omega, show (i * 3 + 2) / 3 = i by omega]; rfl
theorem Row.claims {xs : List Claim} (h : Row w B A (n * 3) (claimsF xs)) {i : Nat} (hi : i < n) :
    ∃ b off, A = some ⟨b, off, none⟩ ∧ b < B ∧ w.cell? ⟨b, off + i * 3, none⟩ = some (.int .i64 (nth xs i).lot) ∧ w.cell? ⟨b, off + i * 3 + 1, none⟩ = some (.int .i64 (nth xs i).against) ∧ w.cell? ⟨b, off + i * 3 + 2, none⟩ = some (.int .i64 (nth xs i).day) := by
  obtain ⟨b, off, e, hb, hc⟩ := h (by omega)
  refine ⟨b, off, e, hb, ?_, ?_, ?_⟩
  · rw [hc (i * 3) (by omega), claimsF, show i * 3 % 3 = 0 by omega, show i * 3 / 3 = i by omega]; rfl
  · rw [Nat.add_assoc, hc (i * 3 + 1) (by omega), claimsF, show (i * 3 + 1) % 3 = 1 by omega, show (i * 3 + 1) / 3 = i by omega]; rfl
  · rw [Nat.add_assoc, hc (i * 3 + 2) (by omega), claimsF, show (i * 3 + 2) % 3 = 2 by omega, show (i * 3 + 2) / 3 = i by omega]; rfl
end
/-- A file's box. -/
structure BoxF (W : World) (g : Nat) (f : File) (a : FA) : Prop where
  v : FileV W W.heap.size f a
  k : Blk W g 28 (fileCells f a)
section
variable {W W' : World} {g : Nat} {f : File} {a : FA}
theorem BoxF.next (h : BoxF W g f a) (hb : Below W.heap.size W W') : BoxF W' g f a := ⟨h.v.next hb, h.k.next hb⟩
theorem BoxF.made (h : FileV W W.heap.size f a) : BoxF (W.alloc (.cells (fileCells f a) 28)) W.heap.size f a := ⟨h.next ((Below.refl _ _).alloc (Nat.le_refl _) _), Blk.made⟩
theorem BoxF.cells (h : BoxF W g f a) : g < W.heap.size ∧ W.cell? ⟨g, 0, none⟩ = some (.slice a.A1 f.parties.length a.c1) ∧ W.cell? ⟨g, 1, none⟩ = some (.slice a.A2 f.untils.length a.c2) ∧ W.cell? ⟨g, 2, none⟩ = some (.slice a.A3 f.lots.length a.c3) ∧ W.cell? ⟨g, 3, none⟩ = some (.slice a.A4 f.papers.length a.c4) ∧ W.cell? ⟨g, 4, none⟩ = some (.slice a.A5 f.claims.length a.c5) :=
  ⟨h.k.lt, h.k.at_ 0, h.k.at_ 1, h.k.at_ 2, h.k.at_ 3, h.k.at_ 4⟩
end
end Go.Proofs.Ytllmahcanipcpaa
/- Contracts of the small helpers of the reference package 01: In, Inside, Ends, Join, Settled, Bit, Has, Less, Ints, Fewer, Rising. -/
namespace Go.Proofs.Ytllmahcanipcpaa
open Go.RowKit
theorem ret_b {a b : Bool} (h : a = b) : Ending.returned (.bool a) = Ending.returned (.bool b) := by rw [h]
theorem ret_i {a b : Int} (h : a = b) : Ending.returned (.int .i64 a) = Ending.returned (.int .i64 b) := by rw [h]

def inB (n lo hi : Int) : Bool := decide (lo ≤ n ∧ n ≤ hi)
set_option maxHeartbeats 400000 in
theorem in_any (n lo hi : Int) (w : World) : Calls Try.prog 45 #[.int .i64 n, .int .i64 lo, .int .i64 hi] w fun e w' => e = .returned (.bool (inB n lo hi)) ∧ w = w' := by
  go_enter Try.func45, Try.ntmps45
  by_cases h : lo ≤ n <;> by_cases h2 : n ≤ hi
  all_goals
    go_wp2
    go_ret
    exact ⟨ret_b (by simp [inB]; omega), rfl⟩
def endsE (s : Span) (lo hi : Int) : Int := if inB s.lo lo hi && inB s.hi lo hi then (if s.hi < s.lo then 2 else 0) else 7
set_option maxHeartbeats 400000 in
theorem ends_any (s : Span) (lo hi : Int) (w : World) : Calls Try.prog 76 #[.agg #[.int .i64 s.lo, .int .i64 s.hi], .int .i64 lo, .int .i64 hi] w fun e w' => e = .returned (.int .i64 (endsE s lo hi)) ∧ Below w.heap.size w w' := by
  go_enter Try.func76, Try.ntmps76
  go_wp2_with (go_at_call 45; refine (in_any _ _ _ _).mono ?_; rintro e w' ⟨rfl, rfl⟩)
  all_goals
    go_ret
    exact ⟨ret_i (by simp_all [endsE]), (Below.refl _ _).alloc (Nat.le_refl _) _⟩
def settledM (some all : Int) : Int := if some = all then 1 else if some = 0 then 2 else 0
def hasInt (xs : List Int) (k : Int) : Bool := xs.any (· == k)
theorem hasInt_snoc (xs : List Int) (j : Nat) (k : Int) (h : j < xs.length) : hasInt (xs.take (j + 1)) k = (hasInt (xs.take j) k || nth xs j == k) := by
  rw [take_nth h]; simp [hasInt]
set_option maxHeartbeats 400000 in
theorem has_any {A : Option Addr} {n c B : Nat} {xs : List Int} {w : World} (h : IntsS w B A n c xs) (k : Int) :
    Calls Try.prog 25 #[.slice A n c, .int .i64 k] w fun e w' => e = .returned (.bool (hasInt xs k)) ∧ w = w' := by
  have hm := h.bd
  have HL := hide h.len
  go_enter Try.func25, Try.ntmps25
  go_wp2
  go_loop [5, 6] (fun m i => ∃ j : Nat, j ≤ n ∧ i = .int .i64 j ∧ m = .bool (hasInt (xs.take j) k)) (fun _ i => n - (intOf i).toNat)
  case atStart => exact ⟨0, Nat.zero_le _, rfl, rfl⟩
  case round =>
    obtain ⟨j, hj, rfl, rfl⟩ := hrel
    by_cases hlt : j < n
    · obtain ⟨b, off, rfl, hb, hc⟩ := h.at_ hlt
      have HS := hide (hasInt_snoc xs j k (by rw [HL.out]; exact hlt))
      go_wp2
      all_goals
        go_round
        case rel => exact ⟨j + 1, by omega, by go_num, by rw [HS.out]; simp_all⟩
        case measure => simp [intOf]; omega
    · go_wp2
      go_ret
      exact ⟨by rw [List.take_of_length_le (by rw [HL.out]; omega)]; rfl, rfl⟩
def lessB : List Int → List Int → Bool
  | _, [] => false
  | [], _ :: _ => true
  | x :: a, y :: b => if x = y then lessB a b else decide (x < y)
theorem lessB_same (a b : List Int) : ∀ j, j ≤ a.length → j ≤ b.length → (∀ k, k < j → nth a k = nth b k) → lessB a b = lessB (a.drop j) (b.drop j) := by
  intro j
  induction j generalizing a b with
  | zero => intros; rfl
  | succ j ih =>
    intro h1 h2 h
    cases a with
    | nil => simp at h1
    | cons x a =>
      cases b with
      | nil => simp at h2
      | cons y b =>
        have h0 := h 0 (by omega)
        simp only [nth, List.getD_cons_zero] at h0
        subst h0
        simp only [lessB, if_true, List.drop_succ_cons]
        exact ih a b (by simpa using h1) (by simpa using h2) (fun k hk => by have := h (k + 1) (by omega); simpa [nth] using this)
theorem drop_nth {α : Type} [Inhabited α] {l : List α} {j : Nat} (h : j < l.length) : l.drop j = nth l j :: l.drop (j + 1) := by
  rw [List.drop_eq_getElem_cons h, nth_eq h]
set_option maxHeartbeats 400000 in
theorem less_any {A A' : Option Addr} {n n' c c' B B' : Nat} {xs ys : List Int} {w : World} (h : IntsS w B A n c xs) (h' : IntsS w B' A' n' c' ys) :
    Calls Try.prog 55 #[.slice A n c, .slice A' n' c'] w fun e w' => e = .returned (.bool (lessB xs ys)) ∧ Dr w w' := by
  have hm := h.bd
  have hm' := h'.bd
  have HL := hide h.len
  have HL' := hide h'.len
  go_enter Try.func55, Try.ntmps55
  go_wp2
  go_loopw [5] (fun i wr => ∃ j q : Nat, j ≤ n ∧ j ≤ n' ∧ i = .int .i64 j ∧ wr = w.drewN q ∧ Hid (∀ k, k < j → nth xs k = nth ys k)) (fun i _ => n - (intOf i).toNat)
  case atStart => exact ⟨0, 0, Nat.zero_le _, Nat.zero_le _, rfl, rfl, fun k hk => by omega⟩
  case round =>
    obtain ⟨j, q, hj, hj', rfl, rfl, H⟩ := hrel
    by_cases hlt : j < n
    · by_cases hlt' : j < n'
      · obtain ⟨b, off, rfl, hb, hc⟩ := h.at_ hlt
        obtain ⟨b', off', rfl, hb', hc'⟩ := h'.at_ hlt'
        by_cases he : nth xs j = nth ys j
        · have hd : (nth xs j == nth ys j) = true := by simpa using he
          have HE := hide he
          clear he
          go_wp2_with fail
          go_quiet (fail)
          go_wp2
          go_roundw
          case rel => exact ⟨j + 1, _, by omega, by omega, by go_num, rfl, fun k hk => by
            rcases Nat.lt_or_ge k j with h1 | h1
            · exact H.out k h1
            · rw [show k = j by omega]; exact HE.out⟩
          case measure => simp [intOf]; omega
        · have hd : (nth xs j == nth ys j) = false := by simpa using he
          have hg : ((j : Int) == (n : Int)) = false := by simp; omega
          have HE := hide he
          clear he
          go_wp2_with fail
          go_quiet (fail)
          go_wp2_with fail
          go_quiet (fail)
          go_wp2
          go_ret
          exact ⟨ret_b (by rw [lessB_same xs ys j (by rw [HL.out]; exact hj) (by rw [HL'.out]; exact hj') H.out, drop_nth (l := xs) (by rw [HL.out]; exact hlt), drop_nth (l := ys) (by rw [HL'.out]; exact hlt'), lessB, if_neg HE.out]), by repeat (first | exact Dr.refl _ | refine Dr.drewN ?_ _)⟩
      · go_wp2_with fail
        go_quiet (fail)
        go_wp2
        go_ret
        exact ⟨ret_b (by rw [lessB_same xs ys j (by rw [HL.out]; exact hj) (by rw [HL'.out]; exact hj') H.out, List.drop_of_length_le (by rw [HL'.out]; omega : ys.length ≤ j)]; simp [lessB]), by repeat (first | exact Dr.refl _ | refine Dr.drewN ?_ _)⟩
    · have hg : ((j : Int) == (n : Int)) = true := by simp; omega
      by_cases hlt' : j < n'
      · go_wp2_with fail
        go_quiet (fail)
        go_wp2_with fail
        go_quiet (fail)
        go_wp2
        go_ret
        exact ⟨ret_b (by rw [lessB_same xs ys j (by rw [HL.out]; exact hj) (by rw [HL'.out]; exact hj') H.out, List.drop_of_length_le (by rw [HL.out]; omega : xs.length ≤ j), drop_nth (l := ys) (by rw [HL'.out]; exact hlt')]; simp [lessB]), by repeat (first | exact Dr.refl _ | refine Dr.drewN ?_ _)⟩
      · go_wp2_with fail
        go_quiet (fail)
        go_wp2
        go_ret
        exact ⟨ret_b (by rw [lessB_same xs ys j (by rw [HL.out]; exact hj) (by rw [HL'.out]; exact hj') H.out, List.drop_of_length_le (by rw [HL'.out]; omega : ys.length ≤ j)]; simp [lessB]), by repeat (first | exact Dr.refl _ | refine Dr.drewN ?_ _)⟩
def intsB (a b : List Int) : Bool := a.length == b.length && !lessB a b && !lessB b a
theorem lessB_irrefl (a : List Int) : lessB a a = false := by induction a <;> simp_all [lessB]
theorem lessB_tri (a b : List Int) : a.length = b.length → lessB a b = false → lessB b a = false → a = b := by
  induction a generalizing b with
  | nil => intro h _ _; exact (List.eq_nil_of_length_eq_zero (by simpa using h.symm)).symm
  | cons x a ih =>
    cases b with
    | nil => intro h; simp at h
    | cons y b =>
      intro h h1 h2
      by_cases hxy : x = y
      · subst hxy
        simp only [lessB, if_true] at h1 h2
        rw [ih b (by simpa using h) h1 h2]
      · rw [lessB, if_neg hxy] at h1
        rw [lessB, if_neg (Ne.symm hxy)] at h2
        simp only [decide_eq_false_iff_not] at h1 h2
        omega
theorem intsB_iff (a b : List Int) : intsB a b = true ↔ a = b := by
  simp only [intsB, Bool.and_eq_true, beq_iff_eq, Bool.not_eq_true']
  constructor
  · rintro ⟨⟨h, h1⟩, h2⟩; exact lessB_tri a b h h1 h2
  · rintro rfl; exact ⟨⟨rfl, lessB_irrefl a⟩, lessB_irrefl a⟩
set_option maxHeartbeats 400000 in
set_option maxRecDepth 100000 in
theorem ints_any {A A' : Option Addr} {n n' c c' B B' : Nat} {xs ys : List Int} {w : World} (h : IntsS w B A n c xs) (h' : IntsS w B' A' n' c' ys) :
    Calls Try.prog 12 #[.slice A n c, .slice A' n' c'] w fun e w' => e = .returned (.bool (intsB xs ys)) ∧ Dr w w' := by
  have hm := h.bd
  have hm' := h'.bd
  have HL := hide h.len
  have HL' := hide h'.len
  by_cases hn : n = n'
  · subst hn
    go_enter Try.func12, Try.ntmps12
    go_wp2_with (go_at_call 55; refine (less_any (by first | exact h | exact h'.drewN _) (by first | exact h' | exact h.drewN _)).mono ?_; rintro e w' ⟨rfl, n1, rfl⟩)
    all_goals go_ret
    all_goals refine ⟨ret_b ?_, by repeat (first | exact Dr.refl _ | refine Dr.drewN ?_ _)⟩
    all_goals simp_all [intsB, HL.out, HL'.out]
  · have hd : ((n : Int) == (n' : Int)) = false := by simp; omega
    go_enter Try.func12, Try.ntmps12
    go_wp2
    go_ret
    exact ⟨ret_b (by simp [intsB, HL.out, HL'.out, hn]), Dr.refl _⟩
def fewerB (xs ys : List Int) : Bool := if xs.length = ys.length then lessB xs ys else decide (xs.length < ys.length)
def bitB : Nat → Int → Bool
  | 0, b => b.tmod 2 == 1
  | n + 1, b => bitB n (b.tdiv 2)
/-- Bit, for bits not below 0. -/
theorem bitB_succ (n : Nat) (b : Int) : bitB (n + 1) b = bitB n (b.tdiv 2) := rfl
def risingB : List Int → Int → Int → Bool
  | [], _, _ => true
  | x :: l, last, below => if x ≤ last ∨ below ≤ x then false else risingB l x below
end Go.Proofs.Ytllmahcanipcpaa
/- The plain law of chapter 11: what Check says, what can be, what is paid. No program here but the data's own words. -/
namespace Go.Proofs.Ytllmahcanipcpaa

def offP (lo hi n : Int) : Bool := decide (n < lo) || decide (hi < n)
/-- A byte that a name may have, at its beginning or later. -/
def nameC (later : Bool) (c : Nat) : Bool := decide (97 ≤ c ∧ c ≤ 122) || (later && (decide (c = 46) || decide (48 ≤ c ∧ c ≤ 57)))
def byteAt (s : ByteArray) (i : Nat) : Nat := (s.data.getD i 0).toNat
def nameTo (s : ByteArray) (k : Nat) : Bool := (List.range k).all fun i => nameC (decide (0 < i)) (byteAt s i)
def nameB (s : ByteArray) : Bool := decide (1 ≤ s.size ∧ s.size ≤ 16) && nameTo s s.size
theorem nameTo_succ (s : ByteArray) (k : Nat) : nameTo s (k + 1) = (nameTo s k && nameC (decide (0 < k)) (byteAt s k)) := by simp [nameTo, List.range_succ]
theorem nameTo_false {s : ByteArray} {k : Nat} (h : nameTo s k = false) (hk : k ≤ s.size) : nameTo s s.size = false := by
  rw [nameTo, List.all_eq_false] at h ⊢
  obtain ⟨x, hx, h2⟩ := h
  exact ⟨x, by simp at hx ⊢; omega, h2⟩
/-- The first thing with an error: its index, and the error. -/
def firstE {α : Type} (f : Nat → α → Int) : List α → Nat → Int × Int
  | [], _ => (0, 0)
  | x :: l, i => if f i x = 0 then firstE f l (i + 1) else (i, f i x)
def failM {α : Type} (f : Nat → α → Int) (l : List α) (most : Int) : Int × Int := if most < l.length then (0, 3) else firstE f l 0
/-- Two strings are the same, as the program sees it. -/
def eqS (s t : ByteArray) : Bool := s.toList == t.toList
theorem eqS_comm (s t : ByteArray) : eqS s t = eqS t s := by rw [Bool.eq_iff_iff, eqS, eqS, beq_iff_eq, beq_iff_eq]; exact eq_comm
def partyE (f : File) (i : Nat) (s : ByteArray) : Int := if nameB s then (if (f.parties.take i).any (eqS s) then 5 else 0) else 6
def dayE (_ : Nat) (d : Int) : Int := if offP 0 60 d then 7 else 0
def dupB : List Int → Bool
  | [] => false
  | x :: l => hasInt l x || dupB l
def lotE (f : File) (_ : Nat) (l : Lot) : Int :=
  if offP 1 4 l.route.length then 3 else if l.route.any (offP 0 ((f.parties.length : Int) - 1)) then 4 else if dupB l.route then 5
  else if offP 0 ((l.route.length : Int) - 1) l.turned.lo || offP 0 ((l.route.length : Int) - 1) l.turned.hi || offP 1 99 l.worth then 7 else if l.turned.hi < l.turned.lo then 2 else 0
def paperE (f : File) (_ : Nat) (p : Paper) : Int :=
  if offP 0 3 p.says then 7 else if offP 0 ((f.lots.length : Int) - 1) p.lot then 4
  else if p.says < 2 then (if hasInt (nth f.lots p.lot.toNat).route p.of_ then 0 else 4) else if offP 0 ((f.lots.length : Int) - 1) p.of_ then 4 else if p.lot = p.of_ then 2 else 0
def claimE (f : File) (_ : Nat) (c : Claim) : Int :=
  if offP 0 ((f.lots.length : Int) - 1) c.lot || offP 0 ((f.parties.length : Int) - 1) c.against then 4 else if offP 0 60 c.day then 7 else 0
/-- What Check says: the part, the index in it, the error. -/
def checkM (f : File) : Int × Int × Int :=
  if (failM (partyE f) f.parties 4).2 ≠ 0 then (1, failM (partyE f) f.parties 4)
  else if f.untils.length ≠ f.parties.length then (2, 0, 3)
  else if (failM dayE f.untils 4).2 ≠ 0 then (2, failM dayE f.untils 4)
  else if (failM (lotE f) f.lots 4).2 ≠ 0 then (3, failM (lotE f) f.lots 4)
  else if (failM (paperE f) f.papers 5).2 ≠ 0 then (4, failM (paperE f) f.papers 5)
  else if (failM (claimE f) f.claims 5).2 ≠ 0 then (5, failM (claimE f) f.claims 5)
  else (0, 0, 0)
/-- What Check lets by. -/
structure Valid (f : File) : Prop where
  parties : f.parties.length ≤ 4
  untils : f.untils.length = f.parties.length
  day : ∀ i, i < f.untils.length → 0 ≤ nth f.untils i ∧ nth f.untils i ≤ 60
  lots : f.lots.length ≤ 4
  route : ∀ i, i < f.lots.length → (1 ≤ (nth f.lots i).route.length ∧ (nth f.lots i).route.length ≤ 4) ∧ (∀ k, k < (nth f.lots i).route.length → 0 ≤ nth (nth f.lots i).route k ∧ nth (nth f.lots i).route k < f.parties.length) ∧ dupB (nth f.lots i).route = false
  lot : ∀ i, i < f.lots.length → 0 ≤ (nth f.lots i).turned.lo ∧ (nth f.lots i).turned.lo ≤ (nth f.lots i).turned.hi ∧ (nth f.lots i).turned.hi < (nth f.lots i).route.length ∧ 1 ≤ (nth f.lots i).worth ∧ (nth f.lots i).worth ≤ 99
  papers : f.papers.length ≤ 5
  paper : ∀ i, i < f.papers.length → 0 ≤ (nth f.papers i).says ∧ (nth f.papers i).says ≤ 3 ∧ 0 ≤ (nth f.papers i).lot ∧ (nth f.papers i).lot < f.lots.length ∧
    ((nth f.papers i).says < 2 → hasInt (nth f.lots (nth f.papers i).lot.toNat).route (nth f.papers i).of_ = true) ∧ (2 ≤ (nth f.papers i).says → 0 ≤ (nth f.papers i).of_ ∧ (nth f.papers i).of_ < f.lots.length ∧ (nth f.papers i).lot ≠ (nth f.papers i).of_)
  claims : f.claims.length ≤ 5
  claim : ∀ i, i < f.claims.length → 0 ≤ (nth f.claims i).lot ∧ (nth f.claims i).lot < f.lots.length ∧ 0 ≤ (nth f.claims i).against ∧ (nth f.claims i).against < f.parties.length ∧ 0 ≤ (nth f.claims i).day ∧ (nth f.claims i).day ≤ 60
theorem offP_false {lo hi n : Int} : offP lo hi n = false ↔ lo ≤ n ∧ n ≤ hi := by simp [offP]
theorem firstE_zero {α : Type} [Inhabited α] {f : Nat → α → Int} : ∀ (xs : List α) (i : Nat), (firstE f xs i).2 = 0 → ∀ j, j < xs.length → f (i + j) (nth xs j) = 0
  | [], _, _, j, hj => by simp at hj
  | x :: l, i, h, j, hj => by
    rw [firstE] at h
    split at h
    · rename_i hx
      cases j with
      | zero => simpa [nth] using hx
      | succ j =>
        have := firstE_zero l (i + 1) h j (by simpa using hj)
        rw [show i + (j + 1) = i + 1 + j by omega]
        simpa [nth] using this
    · rename_i hx; exact absurd h hx
theorem failM_zero {α : Type} [Inhabited α] {f : Nat → α → Int} {xs : List α} {most : Int} (h : (failM f xs most).2 = 0) : (xs.length : Int) ≤ most ∧ ∀ j, j < xs.length → f j (nth xs j) = 0 := by
  rw [failM] at h
  split at h
  · simp at h
  · exact ⟨by omega, fun j hj => by have := firstE_zero _ _ h j hj; rwa [Nat.zero_add] at this⟩
theorem firstE_ok {α : Type} [Inhabited α] {f : Nat → α → Int} : ∀ (xs : List α) (i : Nat), (∀ j, j < xs.length → f (i + j) (nth xs j) = 0) → firstE f xs i = (0, 0)
  | [], _, _ => rfl
  | x :: l, i, h => by
    have h0 : f i x = 0 := by have := h 0 (by simp); simpa [nth] using this
    rw [firstE, if_pos h0]
    refine firstE_ok l (i + 1) fun j hj => ?_
    have := h (j + 1) (by simpa using hj)
    rw [show i + (j + 1) = i + 1 + j by omega] at this
    simpa [nth] using this
theorem valid_of {f : File} (h : (checkM f).2.2 = 0) : Valid f := by
  unfold checkM at h
  split at h
  · rename_i h1; exact absurd h h1
  rename_i h1
  split at h
  · simp at h
  rename_i h2
  split at h
  · rename_i h3; exact absurd h h3
  rename_i h3
  split at h
  · rename_i h4; exact absurd h h4
  rename_i h4
  split at h
  · rename_i h5; exact absurd h h5
  rename_i h5
  split at h
  · rename_i h6; exact absurd h h6
  rename_i h6
  obtain ⟨a1, _⟩ := failM_zero (Classical.not_not.1 h1)
  obtain ⟨_, b3⟩ := failM_zero (Classical.not_not.1 h3)
  obtain ⟨a4, b4⟩ := failM_zero (Classical.not_not.1 h4)
  obtain ⟨a5, b5⟩ := failM_zero (Classical.not_not.1 h5)
  obtain ⟨a6, b6⟩ := failM_zero (Classical.not_not.1 h6)
  have hl : ∀ i, i < f.lots.length → offP 1 4 (nth f.lots i).route.length = false ∧ (nth f.lots i).route.any (offP 0 ((f.parties.length : Int) - 1)) = false ∧ dupB (nth f.lots i).route = false ∧
      offP 0 (((nth f.lots i).route.length : Int) - 1) (nth f.lots i).turned.lo = false ∧ offP 0 (((nth f.lots i).route.length : Int) - 1) (nth f.lots i).turned.hi = false ∧ offP 1 99 (nth f.lots i).worth = false ∧ ¬ (nth f.lots i).turned.hi < (nth f.lots i).turned.lo := fun i hi => by
    have := b4 i hi
    unfold lotE at this
    split at this
    · omega
    split at this
    · omega
    split at this
    · omega
    split at this
    · omega
    split at this
    · omega
    rename_i x1 x2 x3 x4 x5
    simp only [Bool.not_eq_true, Bool.or_eq_false_iff] at x1 x2 x3 x4
    exact ⟨x1, x2, x3, x4.1.1, x4.1.2, x4.2, x5⟩
  refine ⟨by omega, by omega, fun i hi => ?_, by omega, fun i hi => ?_, fun i hi => ?_, by omega, fun i hi => ?_, by omega, fun i hi => ?_⟩
  · have := b3 i hi
    unfold dayE at this
    split at this
    · omega
    · rename_i hx; exact offP_false.1 (by simpa using hx)
  · obtain ⟨y1, y2, y3, _⟩ := hl i hi
    have z1 := offP_false.1 y1
    refine ⟨by omega, fun k hk => ?_, y3⟩
    rw [List.any_eq_false] at y2
    have := y2 _ (by rw [nth_eq hk]; exact List.getElem_mem hk : nth (nth f.lots i).route k ∈ (nth f.lots i).route)
    have := offP_false.1 (by simpa using this)
    omega
  · obtain ⟨_, _, _, y4, y5, y6, y7⟩ := hl i hi
    have z4 := offP_false.1 y4
    have z5 := offP_false.1 y5
    have z6 := offP_false.1 y6
    omega
  · have := b5 i hi
    unfold paperE at this
    split at this
    · omega
    rename_i x1
    split at this
    · omega
    rename_i x2
    have z1 := offP_false.1 (by simpa using x1)
    have z2 := offP_false.1 (by simpa using x2)
    split at this
    · rename_i x3
      split at this
      · rename_i x4; exact ⟨by omega, by omega, by omega, by omega, fun _ => x4, fun _ => by omega⟩
      · omega
    · rename_i x3
      split at this
      · omega
      rename_i x4
      split at this
      · omega
      rename_i x5
      have z4 := offP_false.1 (by simpa using x4)
      exact ⟨by omega, by omega, by omega, by omega, fun _ => by omega, fun _ => ⟨by omega, by omega, x5⟩⟩
  · have := b6 i hi
    unfold claimE at this
    split at this
    · omega
    rename_i x1
    split at this
    · omega
    rename_i x2
    simp only [Bool.not_eq_true, Bool.or_eq_false_iff] at x1 x2
    have z1 := offP_false.1 x1.1
    have z2 := offP_false.1 x1.2
    have z3 := offP_false.1 x2
    omega
/-- All numbers of a span. -/
def spanVals (s : Span) : List Int := (List.range (s.hi - s.lo + 1).toNat).map fun k : Nat => s.lo + k
def allTo (f : File) : Nat → List (List Int)
  | 0 => [[]]
  | i + 1 => (allTo f i).flatMap fun p => (spanVals (nth f.lots i).turned).map fun x => p ++ [x]
def allP (f : File) : List (List Int) := allTo f f.lots.length
/-- The place of a party in a route. -/
def placeM (r : List Int) (party : Int) : Int := match r.findIdx? (· == party) with | some i => (i : Int) | none => -1
def withM (f : File) (p : List Int) (l : Nat) : Int := nth (nth f.lots l).route (nth p l).toNat
def soP (f : File) (x : Paper) (p : List Int) : Bool :=
  if x.says = 0 then decide (placeM (nth f.lots x.lot.toNat).route x.of_ ≤ nth p x.lot.toNat) else if x.says = 1 then decide (nth p x.lot.toNat < placeM (nth f.lots x.lot.toNat).route x.of_)
  else if x.says = 2 then withM f p x.lot.toNat == withM f p x.of_.toNat else withM f p x.lot.toNat != withM f p x.of_.toNat
def soTo (f : File) (but : List Int) (p : List Int) (j : Nat) : Bool := (List.range j).all fun k => hasInt but k || soP f (nth f.papers k) p
def soM (f : File) (but : List Int) (p : List Int) : Bool := soTo f but p f.papers.length
def truthsM (f : File) (but : List Int) : List (List Int) := (allP f).filter (soM f but)
/-- Whether a claim is the first one for its lot against its party. -/
def firstB (f : File) (n : Nat) : Bool := (List.range f.claims.length).all fun i => !((nth f.claims i).lot == (nth f.claims n).lot && (nth f.claims i).against == (nth f.claims n).against && (decide ((nth f.claims i).day < (nth f.claims n).day) || ((nth f.claims i).day == (nth f.claims n).day && decide (i < n))))
def paidB (f : File) (p : List Int) (n : Nat) : Bool := withM f p (nth f.claims n).lot.toNat == (nth f.claims n).against && decide ((nth f.claims n).day ≤ nth f.untils (nth f.claims n).against.toNat) && firstB f n
def settlesB (f : File) (p : List Int) (l : Int) : Bool := (List.range f.claims.length).any fun i => (nth f.claims i).lot == l && paidB f p i
def sumTo (f : File) (p : List Int) (party : Int) : Nat → Int
  | 0 => 0
  | i + 1 => sumTo f p party i + (if (nth f.claims i).against == party && paidB f p i then (nth f.lots (nth f.claims i).lot.toNat).worth else 0)
def sumM (f : File) (p : List Int) (party : Int) : Int := sumTo f p party f.claims.length
end Go.Proofs.Ytllmahcanipcpaa
/- Contracts of small functions of the program and the library: IndexFunc, ContainsFunc, Contains, Index; off; Name. -/
namespace Go.Proofs.Ytllmahcanipcpaa
open Go.RowKit

/-- A function value that answers, for each integer, in every world that has grown out of w, and leaves the world alone. -/
def PredOn (g : FuncId) (lb : Array Value) (p : Int → Bool) (w : World) : Prop :=
  ∀ (x : Int) (W : World), Below w.heap.size w W → Calls Try.prog g (#[.int .i64 x] ++ lb) W fun e w' => e = .returned (.bool (p x)) ∧ W = w'

def idxOf (p : Int → Bool) (xs : List Int) : Int := match xs.findIdx? p with | some i => (i : Int) | none => -1
theorem idxOf_hit {p : Int → Bool} {xs : List Int} {j : Nat} (hj : j < xs.length) (h : p (nth xs j) = true) (hk : ∀ k, k < j → p (nth xs k) = false) : idxOf p xs = j := by
  have : xs.findIdx? p = some j := by
    rw [List.findIdx?_eq_some_iff_getElem]
    refine ⟨hj, by rw [← nth_eq hj]; exact h, fun k hk' => ?_⟩
    rw [← nth_eq (by omega), hk k hk']; simp
  simp [idxOf, this]
theorem idxOf_miss {p : Int → Bool} {xs : List Int} (hk : ∀ k, k < xs.length → p (nth xs k) = false) : idxOf p xs = -1 := by
  have : xs.findIdx? p = none := by
    rw [List.findIdx?_eq_none_iff]
    intro x hx
    obtain ⟨k, hk', rfl⟩ := List.getElem_of_mem hx
    rw [← nth_eq hk']; exact hk k hk'
  simp [idxOf, this]
theorem idxOf_any (p : Int → Bool) (xs : List Int) : decide (0 ≤ idxOf p xs) = xs.any p := by
  unfold idxOf
  cases h : xs.findIdx? p with
  | none =>
    have : xs.any p = false := by
      rw [List.findIdx?_eq_none_iff] at h
      rw [List.any_eq_false]
      intro x hx; simpa using h x hx
    simp [this]
  | some i =>
    have : xs.any p = true := by
      rw [List.findIdx?_eq_some_iff_getElem] at h
      obtain ⟨hi, hp, _⟩ := h
      exact List.any_eq_true.2 ⟨_, List.getElem_mem hi, hp⟩
    simp [this]
set_option maxHeartbeats 400000 in
set_option maxRecDepth 100000 in
theorem indexFunc_any {A : Option Addr} {n c B : Nat} {xs : List Int} {w : World} (h : IntsS w B A n c xs) (g : FuncId) (lb : Array Value) (p : Int → Bool) (hp : PredOn g lb p w) (eg : Enters Try.prog g) :
    Calls Try.prog 85 #[.slice A n c, .func (.func g) #[] lb] w fun e w' => e = .returned (.int .i64 (idxOf p xs)) ∧ w = w' := by
  have hm := h.bd
  have HL := hide h.len
  have eg' : ∀ (args : Array Value) (w : World), (callFunc g args).run Try.prog w = .ok (.enter g args) w := eg
  clear eg
  go_enter Try.func85, Try.ntmps85
  go_wp2_with fail
  go_loop [5, 8] (fun _ i => ∃ j : Nat, j ≤ n ∧ i = .int .i64 j ∧ Hid (∀ k, k < j → p (nth xs k) = false)) (fun _ i => n - (intOf i).toNat)
  case atStart => exact ⟨0, Nat.zero_le _, rfl, fun k hk => by omega⟩
  case round =>
    obtain ⟨j, hj, rfl, H⟩ := hrel
    by_cases hlt : j < n
    · obtain ⟨b, off, rfl, hb, hc⟩ := h.at_ hlt
      have hcall := hp (nth xs j) w (Below.refl _ _)
      clear hp
      cases hq : p (nth xs j) with
      | true =>
        rw [hq] at hcall
        have HQ := hide hq
        clear hq
        go_wp2_with (go_at_fn g; refine hcall.mono ?_; rintro e w' ⟨rfl, rfl⟩)
        go_ret
        exact ⟨ret_i (idxOf_hit (by rw [HL.out]; exact hlt) HQ.out H.out).symm, rfl⟩
      | false =>
        rw [hq] at hcall
        have HQ := hide hq
        clear hq
        go_wp2_with (go_at_fn g; refine hcall.mono ?_; rintro e w' ⟨rfl, rfl⟩)
        go_round
        case rel => exact ⟨j + 1, by omega, by go_num, fun k hk => by
          rcases Nat.lt_or_ge k j with h1 | h1
          · exact H.out k h1
          · rw [show k = j by omega]; exact HQ.out⟩
        case measure => simp [intOf]; omega
    · go_wp2
      go_ret
      exact ⟨ret_i (idxOf_miss (fun k hk => H.out k (by rw [HL.out] at hk; omega))).symm, rfl⟩
set_option maxHeartbeats 400000 in
theorem containsFunc_any {A : Option Addr} {n c B : Nat} {xs : List Int} {w : World} (h : IntsS w B A n c xs) (g : FuncId) (lb : Array Value) (p : Int → Bool) (hp : PredOn g lb p w) (eg : Enters Try.prog g) :
    Calls Try.prog 67 #[.slice A n c, .func (.func g) #[] lb] w fun e w' => e = .returned (.bool (xs.any p)) ∧ w = w' := by
  have H := hide (indexFunc_any h g lb p hp eg)
  clear hp eg
  go_enter Try.func67, Try.ntmps67
  go_wp2_with (go_at_call 85; refine H.out.mono ?_; rintro e w' ⟨rfl, rfl⟩)
  go_ret
  exact ⟨ret_b (idxOf_any _ _), rfl⟩

set_option maxHeartbeats 400000 in
theorem off1_any (lo hi n : Int) (b b' : Nat) (w : World) (h1 : w.cell? ⟨b, 0, none⟩ = some (.int .i64 lo)) (h2 : w.cell? ⟨b', 0, none⟩ = some (.int .i64 hi)) :
    Calls Try.prog 68 #[.int .i64 n, .pointer (some ⟨b, 0, none⟩), .pointer (some ⟨b', 0, none⟩)] w fun e w' => e = .returned (.bool (offP lo hi n)) ∧ w = w' := by
  go_enter Try.func68, Try.ntmps68
  by_cases h3 : n < lo <;> by_cases h4 : hi < n
  all_goals
    go_wp2
    go_ret
    exact ⟨ret_b (by simp [offP]; omega), rfl⟩
set_option maxHeartbeats 400000 in
theorem off_any {A : Option Addr} {n c : Nat} {xs : List Int} {w : World} (h : IntsS w w.heap.size A n c xs) (lo hi : Int) :
    Calls Try.prog 33 #[.int .i64 lo, .int .i64 hi, .slice A n c] w fun e w' => e = .returned (.bool (xs.any (offP lo hi))) ∧ Below w.heap.size w w' := by
  have hb : Below w.heap.size w ((w.alloc (.cells #[.int .i64 lo] 3)).alloc (.cells #[.int .i64 hi] 3)) := ((Below.refl _ _).alloc (Nat.le_refl _) _).alloc (by simp) _
  have H := hide (containsFunc_any (h.below hb) 68 #[.pointer (some ⟨w.heap.size, 0, none⟩), .pointer (some ⟨w.heap.size + 1, 0, none⟩)] (offP lo hi)
    (fun x W hW => off1_any lo hi x _ _ W (by rw [hW.cell (by simp; omega), World.cell?_alloc_past _ _ _ (by simp), World.cell?_alloc_at _ _ _ _ rfl]; rfl) (by rw [hW.cell (by simp), World.cell?_alloc_at _ _ _ _ (by simp)]; rfl))
    (enters_of Try.func68 (by kernel_rfl) rfl))
  go_enter Try.func33, Try.ntmps33
  go_wp2_with (go_at_call 67; refine H.out.mono ?_; rintro e w' ⟨rfl, rfl⟩)
  go_ret
  exact ⟨rfl, hb⟩
theorem off_1 {w : World} {b : Nat} (hb : w.heap.size = b) (lo hi x : Int) :
    Calls Try.prog 33 #[.int .i64 lo, .int .i64 hi, .slice (some ⟨b, 0, none⟩) 1 1] (w.alloc (.cells #[.int .i64 x] 3)) fun e w' => e = .returned (.bool (offP lo hi x)) ∧ Below w.heap.size w w' :=
  (off_any ((IntsS.lit1 hb x).more (by simp [← hb])) lo hi).mono fun _ _ ⟨he, h⟩ => ⟨he.trans (by simp), ((Below.refl _ w).alloc (Nat.le_refl _) _).trans (h.mono (by simp))⟩
theorem off_2 {w : World} {b : Nat} (hb : w.heap.size = b) (lo hi x y : Int) :
    Calls Try.prog 33 #[.int .i64 lo, .int .i64 hi, .slice (some ⟨b, 0, none⟩) 2 2] (w.alloc (.cells #[.int .i64 x, .int .i64 y] 3)) fun e w' => e = .returned (.bool (offP lo hi x || offP lo hi y)) ∧ Below w.heap.size w w' :=
  (off_any ((IntsS.lit2 hb x y).more (by simp [← hb])) lo hi).mono fun _ _ ⟨he, h⟩ => ⟨he.trans (by simp), ((Below.refl _ w).alloc (Nat.le_refl _) _).trans (h.mono (by simp))⟩

theorem off_1d {w : World} {b : Nat} (hb : w.heap.size = b) (lo hi x : Int) :
    Calls Try.prog 33 #[.int .i64 lo, .int .i64 hi, .slice (some ⟨b, 0, none⟩) 1 1] (w.alloc (.cells #[.int .i64 x] 3)).drew fun e w' => e = .returned (.bool (offP lo hi x)) ∧ Below w.heap.size w w' :=
  (off_1 (w := w.drew) hb lo hi x).mono fun _ _ ⟨he, h⟩ => ⟨he, ((Below.refl _ w).drew).trans h⟩
set_option maxHeartbeats 400000 in
theorem hoff1_any (lo hi n : Int) (b b' : Nat) (w : World) (h1 : w.cell? ⟨b, 0, none⟩ = some (.int .i64 lo)) (h2 : w.cell? ⟨b', 0, none⟩ = some (.int .i64 hi)) :
    Calls Try.prog 84 #[.int .i64 n, .pointer (some ⟨b, 0, none⟩), .pointer (some ⟨b', 0, none⟩)] w fun e w' => e = .returned (.bool (offP lo hi n)) ∧ w = w' := by
  go_enter Try.func84, Try.ntmps84
  by_cases h3 : n < lo <;> by_cases h4 : hi < n
  all_goals
    go_wp2
    go_ret
    exact ⟨ret_b (by simp [offP]; omega), rfl⟩
set_option maxHeartbeats 400000 in
theorem hoff_any {A : Option Addr} {n c : Nat} {xs : List Int} {w : World} (h : IntsS w w.heap.size A n c xs) (lo hi : Int) :
    Calls Try.prog 65 #[.int .i64 lo, .int .i64 hi, .slice A n c] w fun e w' => e = .returned (.bool (xs.any (offP lo hi))) ∧ Below w.heap.size w w' := by
  have hb : Below w.heap.size w ((w.alloc (.cells #[.int .i64 lo] 3)).alloc (.cells #[.int .i64 hi] 3)) := ((Below.refl _ _).alloc (Nat.le_refl _) _).alloc (by simp) _
  have H := hide (containsFunc_any (h.below hb) 84 #[.pointer (some ⟨w.heap.size, 0, none⟩), .pointer (some ⟨w.heap.size + 1, 0, none⟩)] (offP lo hi)
    (fun x W hW => hoff1_any lo hi x _ _ W (by rw [hW.cell (by simp; omega), World.cell?_alloc_past _ _ _ (by simp), World.cell?_alloc_at _ _ _ _ rfl]; rfl) (by rw [hW.cell (by simp), World.cell?_alloc_at _ _ _ _ (by simp)]; rfl))
    (enters_of Try.func84 (by kernel_rfl) rfl))
  go_enter Try.func65, Try.ntmps65
  go_wp2_with (go_at_call 67; refine H.out.mono ?_; rintro e w' ⟨rfl, rfl⟩)
  go_ret
  exact ⟨rfl, hb⟩
theorem hoff_1 {w : World} {b : Nat} (hb : w.heap.size = b) (lo hi x : Int) :
    Calls Try.prog 65 #[.int .i64 lo, .int .i64 hi, .slice (some ⟨b, 0, none⟩) 1 1] (w.alloc (.cells #[.int .i64 x] 3)) fun e w' => e = .returned (.bool (offP lo hi x)) ∧ Below w.heap.size w w' :=
  (hoff_any ((IntsS.lit1 hb x).more (by simp [← hb])) lo hi).mono fun _ _ ⟨he, h⟩ => ⟨he.trans (by simp), ((Below.refl _ w).alloc (Nat.le_refl _) _).trans (h.mono (by simp))⟩
theorem hoff_2 {w : World} {b : Nat} (hb : w.heap.size = b) (lo hi x y : Int) :
    Calls Try.prog 65 #[.int .i64 lo, .int .i64 hi, .slice (some ⟨b, 0, none⟩) 2 2] (w.alloc (.cells #[.int .i64 x, .int .i64 y] 3)) fun e w' => e = .returned (.bool (offP lo hi x || offP lo hi y)) ∧ Below w.heap.size w w' :=
  (hoff_any ((IntsS.lit2 hb x y).more (by simp [← hb])) lo hi).mono fun _ _ ⟨he, h⟩ => ⟨he.trans (by simp), ((Below.refl _ w).alloc (Nat.le_refl _) _).trans (h.mono (by simp))⟩

theorem hoff_1d {w : World} {b : Nat} (hb : w.heap.size = b) (lo hi x : Int) :
    Calls Try.prog 65 #[.int .i64 lo, .int .i64 hi, .slice (some ⟨b, 0, none⟩) 1 1] (w.alloc (.cells #[.int .i64 x] 3)).drew fun e w' => e = .returned (.bool (offP lo hi x)) ∧ Below w.heap.size w w' :=
  (hoff_1 (w := w.drew) hb lo hi x).mono fun _ _ ⟨he, h⟩ => ⟨he, ((Below.refl _ w).drew).trans h⟩
set_option maxHeartbeats 400000 in
theorem index_any {A : Option Addr} {n c B : Nat} {xs : List Int} {w : World} (h : IntsS w B A n c xs) (v : Int) :
    Calls Try.prog 72 #[.slice A n c, .int .i64 v] w fun e w' => e = .returned (.int .i64 (idxOf (fun x => x == v) xs)) ∧ w = w' := by
  have hm := h.bd
  have HL := hide h.len
  go_enter Try.func72, Try.ntmps72
  go_wp2_with fail
  go_loop [5, 8] (fun _ i => ∃ j : Nat, j ≤ n ∧ i = .int .i64 j ∧ Hid (∀ k, k < j → (nth xs k == v) = false)) (fun _ i => n - (intOf i).toNat)
  case atStart => exact ⟨0, Nat.zero_le _, rfl, fun k hk => by omega⟩
  case round =>
    obtain ⟨j, hj, rfl, H⟩ := hrel
    by_cases hlt : j < n
    · obtain ⟨b, off, rfl, hb, hc⟩ := h.at_ hlt
      cases hq : (nth xs j == v) with
      | true =>
        have hq' : (v == nth xs j) = true := by rw [beq_iff_eq] at hq ⊢; exact hq.symm
        have HQ := hide hq
        clear hq
        go_wp2_with fail
        go_ret
        exact ⟨ret_i (idxOf_hit (by rw [HL.out]; exact hlt) HQ.out H.out).symm, rfl⟩
      | false =>
        have hq' : (v == nth xs j) = false := by rw [beq_eq_false_iff_ne] at hq ⊢; exact fun e => hq e.symm
        have HQ := hide hq
        clear hq
        go_wp2_with fail
        go_round
        case rel => exact ⟨j + 1, by omega, by go_num, fun k hk => by
          rcases Nat.lt_or_ge k j with h1 | h1
          · exact H.out k h1
          · rw [show k = j by omega]; exact HQ.out⟩
        case measure => simp [intOf]; omega
    · go_wp2
      go_ret
      exact ⟨ret_i (idxOf_miss (fun k hk => H.out k (by rw [HL.out] at hk; omega))).symm, rfl⟩
set_option maxHeartbeats 400000 in
theorem contains_any {A : Option Addr} {n c B : Nat} {xs : List Int} {w : World} (h : IntsS w B A n c xs) (v : Int) :
    Calls Try.prog 41 #[.slice A n c, .int .i64 v] w fun e w' => e = .returned (.bool (hasInt xs v)) ∧ w = w' := by
  have H := hide (index_any h v)
  go_enter Try.func41, Try.ntmps41
  go_wp2_with (go_at_call 72; refine H.out.mono ?_; rintro e w' ⟨rfl, rfl⟩)
  go_ret
  exact ⟨ret_b (idxOf_any _ _), rfl⟩
/-- The first index at which a list of strings has one. -/
def idxS (xs : List ByteArray) (v : ByteArray) : Int := match xs.findIdx? (eqS v) with | some i => (i : Int) | none => -1
theorem idxS_hit {xs : List ByteArray} {v : ByteArray} {j : Nat} (hj : j < xs.length) (h : eqS v (nth xs j) = true) (hk : ∀ k, k < j → eqS v (nth xs k) = false) : idxS xs v = j := by
  have : xs.findIdx? (eqS v) = some j := by
    rw [List.findIdx?_eq_some_iff_getElem]
    refine ⟨hj, by rw [← nth_eq hj]; exact h, fun k hk' => ?_⟩
    rw [← nth_eq (by omega), hk k hk']; simp
  simp [idxS, this]
theorem idxS_miss {xs : List ByteArray} {v : ByteArray} (hk : ∀ k, k < xs.length → eqS v (nth xs k) = false) : idxS xs v = -1 := by
  have : xs.findIdx? (eqS v) = none := by
    rw [List.findIdx?_eq_none_iff]
    intro x hx
    obtain ⟨k, hk', rfl⟩ := List.getElem_of_mem hx
    rw [← nth_eq hk']; exact hk k hk'
  simp [idxS, this]
theorem idxS_any (xs : List ByteArray) (v : ByteArray) : decide (0 ≤ idxS xs v) = xs.any (eqS v) := by
  unfold idxS
  cases h : xs.findIdx? (eqS v) with
  | none =>
    have : xs.any (eqS v) = false := by
      rw [List.findIdx?_eq_none_iff] at h
      rw [List.any_eq_false]
      intro x hx; simpa using h x hx
    simp [this]
  | some i =>
    have : xs.any (eqS v) = true := by
      rw [List.findIdx?_eq_some_iff_getElem] at h
      obtain ⟨hi, hp, _⟩ := h
      exact List.any_eq_true.2 ⟨_, List.getElem_mem hi, hp⟩
    simp [this]
set_option maxHeartbeats 400000 in
theorem indexS_any {A : Option Addr} {n c B : Nat} {xs : List ByteArray} {w : World} (h : Row w B A n (strsF xs)) (hl : n ≤ xs.length) (hm : n ≤ 9223372036854775807) (v : ByteArray) :
    Calls Try.prog 66 #[.slice A n c, .string v] w fun e w' => e = .returned (.int .i64 (idxS (xs.take n) v)) ∧ w = w' := by
  go_enter Try.func66, Try.ntmps66
  go_wp2_with fail
  go_loop [5, 8] (fun _ i => ∃ j : Nat, j ≤ n ∧ i = .int .i64 j ∧ Hid (∀ k, k < j → eqS v (nth xs k) = false)) (fun _ i => n - (intOf i).toNat)
  case atStart => exact ⟨0, Nat.zero_le _, rfl, fun k hk => by omega⟩
  case round =>
    obtain ⟨j, hj, rfl, H⟩ := hrel
    have hnt : ∀ k, k < n → nth (xs.take n) k = nth xs k := fun k hk => by simp [nth, hk]
    have HNT := hide hnt
    clear hnt
    by_cases hlt : j < n
    · obtain ⟨b, off, rfl, hb, hc⟩ := h.strs hlt
      cases hq : eqS v (nth xs j) with
      | true =>
        have hq' : (v.toList == (nth xs j).toList) = true := hq
        have HQ := hide hq
        clear hq
        go_wp2_with fail
        go_ret
        exact ⟨ret_i (idxS_hit (by simp; omega) (by rw [HNT.out j hlt]; exact HQ.out) (fun k hk => by rw [HNT.out k (by omega)]; exact H.out k hk)).symm, rfl⟩
      | false =>
        have hq' : (v.toList == (nth xs j).toList) = false := hq
        have HQ := hide hq
        clear hq
        go_wp2_with fail
        go_round
        case rel => exact ⟨j + 1, by omega, by go_num, fun k hk => by
          rcases Nat.lt_or_ge k j with h1 | h1
          · exact H.out k h1
          · rw [show k = j by omega]; exact HQ.out⟩
        case measure => simp [intOf]; omega
    · go_wp2
      go_ret
      exact ⟨ret_i (idxS_miss (fun k hk => by
        have hk' : k < n := by simp at hk; omega
        rw [HNT.out k hk']; exact H.out k (by omega))).symm, rfl⟩
set_option maxHeartbeats 400000 in
theorem containsS_any {A : Option Addr} {n c B : Nat} {xs : List ByteArray} {w : World} (h : Row w B A n (strsF xs)) (hl : n ≤ xs.length) (hm : n ≤ 9223372036854775807) (v : ByteArray) :
    Calls Try.prog 30 #[.slice A n c, .string v] w fun e w' => e = .returned (.bool ((xs.take n).any (eqS v))) ∧ w = w' := by
  have H := hide (indexS_any (c := c) h hl hm v)
  go_enter Try.func30, Try.ntmps30
  go_wp2_with (go_at_call 66; refine H.out.mono ?_; rintro e w' ⟨rfl, rfl⟩)
  go_ret
  exact ⟨ret_b (idxS_any _ _), rfl⟩
end Go.Proofs.Ytllmahcanipcpaa
/- Contracts of Name (package hand), and of Name, Where and Fresh (reference 01). -/
namespace Go.Proofs.Ytllmahcanipcpaa
open Go.RowKit

theorem byteAt_eq {s : ByteArray} {i : Nat} (h : i < s.size) : byteAt s i = (s[i]'h).toNat := by
  have h' : i < s.data.size := h
  rw [byteAt, Array.getD_eq_getD_getElem?, Array.getElem?_eq_getElem h', Option.getD_some]; rfl
theorem below_iter {B : Nat} {w : World} (s : ByteArray) (pos : Nat) (h : B ≤ w.heap.size) : Below B w (w.iter s pos) := (Below.refl _ _).alloc h _
theorem nameB_bad {s : ByteArray} {k : Nat} (hk : k < s.size) (h : nameC (decide (0 < k)) (byteAt s k) = false) : nameB s = false := by
  rw [nameB, nameTo_false (k := k + 1) (by rw [nameTo_succ, h]; simp) (by omega)]; simp
set_option maxHeartbeats 2000000 in
set_option maxRecDepth 100000 in
theorem name_any (s : ByteArray) (w : World) : Calls Try.prog 29 #[.string s] w fun e w' => e = .returned (.bool (nameB s)) ∧ Below w.heap.size w w' := by
  go_enter Try.func29, Try.ntmps29
  go_wp2_with fail
  go_loopw [3, 4, 5] (fun _ _ _ wr => ∃ pos : Nat, wr = w.iter s pos ∧ pos ≤ s.size ∧ Hid (nameTo s pos = true)) (fun _ _ _ wr => s.size - wr.iterPos w.heap.size)
  case atStart => exact ⟨0, rfl, Nat.zero_le _, rfl⟩
  case round =>
    obtain ⟨pos, rfl, hps, HN⟩ := hrel
    by_cases hp : pos < s.size
    · have HBY := hide (byteAt_eq hp)
      have HNS := hide (nameTo_succ s pos)
      by_cases ha : (s[pos]'hp).toNat < 128
      · have hnx : ∀ ty, (Instr.next (.pointer (some ⟨w.heap.size, 0, none⟩)) true ty).run Try.prog (w.iter s pos) = _ := fun ty => run_next_ascii w s pos ty hp ha
        generalize (s[pos]'hp).toNat = c at *
        have hp0 : (0 : Int) ≤ (pos : Int) := Int.natCast_nonneg _
        have hc0 : (0 : Int) ≤ (c : Int) := Int.natCast_nonneg _
        by_cases h1 : 97 ≤ c ∧ c ≤ 122
        · have h1a : (97 : Int) ≤ (c : Int) := by omega
          have h1b : (c : Int) ≤ 122 := by omega
          have HG := hide (show nameC (decide (0 < pos)) c = true by simp [nameC, h1])
          clear h1
          go_wp2_with fail
          go_roundw
          case rel => exact ⟨pos + 1, rfl, by omega, by show _ = _; rw [HNS.out, HN.out, HBY.out, HG.out]; rfl⟩
          case measure => simp; omega
        · rcases (show (c : Int) < 97 ∨ 122 < (c : Int) by omega) with h2 | h2
          · have t1 := decide_eq_false (show ¬ (97 : Int) ≤ (c : Int) by omega)
            by_cases h0 : pos = 0
            · have h0' : ((pos : Int) == 0) = true := by rw [beq_iff_eq]; omega
              have HG := hide (show nameC (decide (0 < pos)) c = false by simp [nameC, h0]; omega)
              clear h1 h0
              go_wp2_with fail
              go_ret
              exact ⟨ret_b (nameB_bad hp (by rw [HBY.out, HG.out])).symm, below_iter _ _ (Nat.le_refl _)⟩
            · have h0' : ((pos : Int) == 0) = false := by rw [beq_eq_false_iff_ne]; omega
              by_cases h3 : c = 46
              · have h3' : ((c : Int) != 46) = false := by simp; omega
                have HG := hide (show nameC (decide (0 < pos)) c = true by simp [nameC, h3]; omega)
                clear h1 h0 h3
                go_wp2_with fail
                go_roundw
                case rel => exact ⟨pos + 1, rfl, by omega, by show _ = _; rw [HNS.out, HN.out, HBY.out, HG.out]; rfl⟩
                case measure => simp; omega
              · have h3' : ((c : Int) != 46) = true := by simp; omega
                by_cases h4 : 48 ≤ c ∧ c ≤ 57
                · have t3 := decide_eq_false (show ¬ (c : Int) < 48 by omega)
                  have t4 := decide_eq_false (show ¬ (57 : Int) < (c : Int) by omega)
                  have HG := hide (show nameC (decide (0 < pos)) c = true by simp [nameC, h4]; omega)
                  clear h1 h0 h3 h4
                  go_wp2_with fail
                  go_roundw
                  case rel => exact ⟨pos + 1, rfl, by omega, by show _ = _; rw [HNS.out, HN.out, HBY.out, HG.out]; rfl⟩
                  case measure => simp; omega
                · have HG := hide (show nameC (decide (0 < pos)) c = false by simp [nameC]; omega)
                  rcases (show (c : Int) < 48 ∨ 57 < (c : Int) by omega) with h5 | h5
                  · have t3 := decide_eq_true (show (c : Int) < 48 by omega)
                    clear h1 h0 h3 h4
                    go_wp2_with fail
                    go_ret
                    exact ⟨ret_b (nameB_bad hp (by rw [HBY.out, HG.out])).symm, below_iter _ _ (Nat.le_refl _)⟩
                  · have t3 := decide_eq_false (show ¬ (c : Int) < 48 by omega)
                    have t4 := decide_eq_true (show (57 : Int) < (c : Int) by omega)
                    clear h1 h0 h3 h4
                    go_wp2_with fail
                    go_ret
                    exact ⟨ret_b (nameB_bad hp (by rw [HBY.out, HG.out])).symm, below_iter _ _ (Nat.le_refl _)⟩
          · have h3' : ((c : Int) != 46) = true := by simp; omega
            have t1 := decide_eq_true (show (97 : Int) ≤ (c : Int) by omega)
            have t2 := decide_eq_false (show ¬ (c : Int) ≤ 122 by omega)
            have t3 := decide_eq_false (show ¬ (c : Int) < 48 by omega)
            have t4 := decide_eq_true (show (57 : Int) < (c : Int) by omega)
            have HG := hide (show nameC (decide (0 < pos)) c = false by simp [nameC]; omega)
            cases h0' : ((pos : Int) == 0)
            all_goals
              clear h1
              go_wp2_with fail
              go_ret
              exact ⟨ret_b (nameB_bad hp (by rw [HBY.out, HG.out])).symm, below_iter _ _ (Nat.le_refl _)⟩
      · have hnx : ∀ ty, (Instr.next (.pointer (some ⟨w.heap.size, 0, none⟩)) true ty).run Try.prog (w.iter s pos) = _ := fun ty => run_next_any w s pos ty hp
        have hd := (decode_high s pos hp (by omega)).1
        have HG := hide (show nameC (decide (0 < pos)) (byteAt s pos) = false by rw [HBY.out]; simp [nameC]; omega)
        generalize (Utf8.decode s pos).1 = r at *
        generalize (Utf8.decode s pos).2 = wd at *
        have t1 := decide_eq_true (show (97 : Int) ≤ (r : Int) by omega)
        have t2 := decide_eq_false (show ¬ (r : Int) ≤ 122 by omega)
        have t3 := decide_eq_false (show ¬ (r : Int) < 48 by omega)
        have t4 := decide_eq_true (show (57 : Int) < (r : Int) by omega)
        have h3' : ((r : Int) != 46) = true := by simp; omega
        cases h0' : ((pos : Int) == 0)
        all_goals
          clear ha
          go_wp2_with fail
          go_ret
          exact ⟨ret_b (nameB_bad hp HG.out).symm, below_iter _ _ (Nat.le_refl _)⟩
    · have hnx : ∀ ty, (Instr.next (.pointer (some ⟨w.heap.size, 0, none⟩)) true ty).run Try.prog (w.iter s pos) = _ := fun ty => run_next_end w s pos ty hp
      have hpe : pos = s.size := by omega
      subst hpe
      go_wp2_with (go_at_call 65; refine (hoff_1 (by simp) _ _ _).mono ?_; rintro e w' ⟨rfl, hb⟩)
      go_ret
      refine ⟨ret_b ?_, (below_iter _ _ (Nat.le_refl _)).trans (hb.mono (below_iter (B := w.heap.size) _ _ (Nat.le_refl _)).size)⟩
      rw [nameB, HN.out, Bool.and_true, Bool.eq_iff_iff]
      simp [offP]; omega
set_option maxHeartbeats 2000000 in
set_option maxRecDepth 100000 in
theorem name7_any (s : ByteArray) (hs : s.size ≤ maxLen) (w : World) : Calls Try.prog 74 #[.string s] w fun e w' => e = .returned (.bool (nameB s)) ∧ w = w' := by
  unfold maxLen at hs
  go_enter Try.func74, Try.ntmps74
  go_wp2_with (go_at_call 45; refine (in_any _ _ _ _).mono ?_; rintro e w' ⟨rfl, rfl⟩)
  go_loop [3, 4, 5] (fun fi i _ => ∃ k : Nat, k ≤ s.size ∧ i = .int .i64 k ∧ fi = .bool (inB s.size 1 16 && nameTo s k)) (fun _ i _ => s.size - (intOf i).toNat)
  case atStart => exact ⟨0, Nat.zero_le _, rfl, by simp [nameTo]⟩
  case round =>
    obtain ⟨k, hk, rfl, rfl⟩ := hrel
    have hk0 : (0 : Int) ≤ (k : Int) := Int.natCast_nonneg _
    by_cases hlt : k < s.size
    · have hk1 : (k : Int) < (s.size : Int) := by omega
      have HBY := hide (byteAt_eq hlt)
      have HNS := hide (nameTo_succ s k)
      have hcb : byteAt s k < 256 := by rw [byteAt_eq hlt]; exact UInt8.toNat_lt _
      have hix : ∀ w, (Instr.index 9 (.string s) (.int .i64 (k : Int))).run Try.prog w = .ok (.int .u8 (byteAt s k : Int)) w := fun w => by
        rw [run_index_string _ _ _ _ _ Try.underlying9, dif_pos ⟨hk0, hk1⟩, byteAt_eq hlt]; simp
      have HNC := hide (show nameC (decide (0 < k)) (byteAt s k) = (inB (byteAt s k : Int) 97 122 || (decide ((k : Int) > 0) && (((byteAt s k : Int) == 46) || inB (byteAt s k : Int) 48 57))) by
        rw [nameC, inB, inB]
        have e1 : decide (97 ≤ byteAt s k ∧ byteAt s k ≤ 122) = decide (97 ≤ (byteAt s k : Int) ∧ (byteAt s k : Int) ≤ 122) := by rw [decide_eq_decide]; omega
        have e2 : decide (48 ≤ byteAt s k ∧ byteAt s k ≤ 57) = decide (48 ≤ (byteAt s k : Int) ∧ (byteAt s k : Int) ≤ 57) := by rw [decide_eq_decide]; omega
        have e3 : decide (byteAt s k = 46) = ((byteAt s k : Int) == 46) := by rw [Bool.eq_iff_iff]; simp; omega
        have e4 : decide (0 < k) = decide ((k : Int) > 0) := by rw [decide_eq_decide]; omega
        rw [e1, e2, e3, e4])
      generalize byteAt s k = c at *
      have hw : IntKind.i64.wrap (c : Int) = c := IntWalk.i64_in _ (by omega)
      rcases (show 0 < k ∨ ¬ 0 < k by omega) with h0' | h0'
      all_goals have h0 : decide ((k : Int) > 0) = decide (0 < k) := by rw [decide_eq_decide]; omega
      all_goals first | rw [decide_eq_true h0'] at h0 | rw [decide_eq_false h0'] at h0
      all_goals cases h46 : ((c : Int) == 46)
      all_goals cases hf : (inB s.size 1 16 && nameTo s k)
      all_goals cases hA : inB (c : Int) 97 122
      all_goals
        have HF := hide hf
        rw [hA, h0, h46] at HNC
        clear hf h0
        go_wp2_with (go_at_call 45; refine (in_any _ _ _ _).mono ?_; rintro e w' ⟨rfl, rfl⟩; try rw [hA])
        go_round
        case rel => exact ⟨k + 1, by omega, by go_num, by rw [HNS.out, ← Bool.and_assoc, HF.out, HNC.out]; simp⟩
        case measure => simp [intOf]; omega
    · have hke : k = s.size := by omega
      subst hke
      go_wp2
      go_ret
      refine ⟨ret_b ?_, rfl⟩
      rw [nameB, inB]; congr 1; rw [decide_eq_decide]; omega
/-- The first index at which the reference finds a string. -/
theorem where7_any {A : Option Addr} {n c B : Nat} {xs : List ByteArray} {w : World} (h : Row w B A n (strsF xs)) (hl : n ≤ xs.length) (hm : n ≤ 9223372036854775807) (v : ByteArray) :
    Calls Try.prog 73 #[.slice A n c, .string v] w fun e w' => e = .returned (.int .i64 (idxS (xs.take n) v)) ∧ w = w' := by
  have hnt : ∀ k, k < n → nth (xs.take n) k = nth xs k := fun k hk => by simp [nth, hk]
  have HNT := hide hnt
  clear hnt
  go_enter Try.func73, Try.ntmps73
  go_wp2_with fail
  go_loop [5] (fun i => ∃ j : Nat, j ≤ n ∧ i = .int .i64 j ∧ Hid (∀ k, k < j → eqS v (nth xs k) = false)) (fun i => n - (intOf i).toNat)
  case atStart => exact ⟨0, Nat.zero_le _, rfl, fun k hk => by omega⟩
  case round =>
    obtain ⟨j, hj, rfl, H⟩ := hrel
    have hj0 : (0 : Int) ≤ (j : Int) := Int.natCast_nonneg _
    by_cases hlt : j < n
    · have hj1 : (j : Int) < (n : Int) := by omega
      have hj2 : ((j : Int) == (n : Int)) = false := by rw [beq_eq_false_iff_ne]; omega
      obtain ⟨b, off, rfl, hb, hc⟩ := h.strs hlt
      cases hq : eqS v (nth xs j) with
      | true =>
        have hq' : ((nth xs j).toList == v.toList) = true := by rw [eqS_comm] at hq; exact hq
        have hq2 : ((nth xs j).toList != v.toList) = false := by simp [bne, hq']
        have HQ := hide hq
        clear hq
        go_wp2_with fail
        go_ret
        exact ⟨ret_i (idxS_hit (by simp; omega) (by rw [HNT.out j hlt]; exact HQ.out) (fun k hk => by rw [HNT.out k (by omega)]; exact H.out k hk)).symm, rfl⟩
      | false =>
        have hq' : ((nth xs j).toList == v.toList) = false := by rw [eqS_comm] at hq; exact hq
        have hq2 : ((nth xs j).toList != v.toList) = true := by simp [bne, hq']
        have HQ := hide hq
        clear hq
        go_wp2_with fail
        go_round
        case rel => exact ⟨j + 1, by omega, by go_num, fun k hk => by
          rcases Nat.lt_or_ge k j with h1 | h1
          · exact H.out k h1
          · rw [show k = j by omega]; exact HQ.out⟩
        case measure => simp [intOf]; omega
    · have hje : j = n := by omega
      subst hje
      have hj2 : ((j : Int) == (j : Int)) = true := by simp
      have hj3 : decide ((j : Int) < (j : Int)) = false := by simp
      go_wp2
      go_ret
      exact ⟨ret_i (idxS_miss (fun k hk => by
        have hk' : k < j := by simp at hk; omega
        rw [HNT.out k hk']; exact H.out k (by omega))).symm, rfl⟩
theorem fresh7_any {A : Option Addr} {n c B : Nat} {xs : List ByteArray} {w : World} (h : Row w B A n (strsF xs)) (hl : n ≤ xs.length) (hm : n ≤ 9223372036854775807) (v : ByteArray) (hs : v.size ≤ maxLen) :
    Calls Try.prog 44 #[.string v, .slice A n c] w fun e w' => e = .returned (.int .i64 (if nameB v then (if (xs.take n).any (eqS v) then 5 else 0) else 6)) ∧ w = w' := by
  have HW := hide (where7_any (c := c) h hl hm v)
  have HN := hide (name7_any v hs w)
  have HI := hide (idxS_any (xs.take n) v)
  generalize (xs.take n).any (eqS v) = tw at *
  generalize idxS (xs.take n) v = ix at *
  cases hb : nameB v
  all_goals cases tw
  all_goals
    have HB := hide hb
    have hi := HI.out
    have hi2 : decide (ix ≥ 0) = _ := hi
    clear hb
    go_enter Try.func44, Try.ntmps44
    go_wp2_with (first | (go_at_call 73; refine HW.out.mono ?_; rintro e w' ⟨rfl, rfl⟩) | (go_at_call 74; refine HN.out.mono ?_; rintro e w' ⟨rfl, rfl⟩; rw [HB.out]))
    go_ret
    exact ⟨rfl, rfl⟩
end Go.Proofs.Ytllmahcanipcpaa
