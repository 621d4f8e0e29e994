/- Words for memory: a file of chapter 11 by value. Plain facts, no walk. -/
import Derived.Test.YtllmahcanipcpaaVA
set_option linter.unusedVariables false
set_option linter.unusedSimpArgs false
namespace Go.Proofs.Ytllmahcanipcpaa
open Go.RowKit

structure Lot where
  route : List Int
  turned : Span
  worth : Int
deriving DecidableEq, Inhabited
structure Paper where
  says : Int
  lot : Int
  of_ : Int
deriving DecidableEq, Inhabited
structure Claim where
  lot : Int
  against : Int
  day : Int
deriving DecidableEq, Inhabited
structure File where
  parties : List ByteArray
  untils : List Int
  lots : List Lot
  papers : List Paper
  claims : List Claim
deriving Inhabited
/-- Where a file's slices lie. -/
structure FA where
  A1 : Option Addr
  A2 : Option Addr
  A3 : Option Addr
  A4 : Option Addr
  A5 : Option Addr
  c1 : Nat
  c2 : Nat
  c3 : Nat
  c4 : Nat
  c5 : Nat
  R : Nat → Option Addr
  K : Nat → Nat
def strsF (xs : List ByteArray) (j : Nat) : Value := .string (nth xs j)
def lotsF (xs : List Lot) (R : Nat → Option Addr) (K : Nat → Nat) (j : Nat) : Value := match j % 4 with | 0 => .slice (R (j / 4)) (nth xs (j / 4)).route.length (K (j / 4)) | 1 => .int .i64 (nth xs (j / 4)).turned.lo | 2 => .int .i64 (nth xs (j / 4)).turned.hi | _ => .int .i64 (nth xs (j / 4)).worth
def papersF (xs : List Paper) (j : Nat) : Value := .int .i64 (match j % 3 with | 0 => (nth xs (j / 3)).says | 1 => (nth xs (j / 3)).lot | _ => (nth xs (j / 3)).of_)
def claimsF (xs : List Claim) (j : Nat) : Value := .int .i64 (match j % 3 with | 0 => (nth xs (j / 3)).lot | 1 => (nth xs (j / 3)).against | _ => (nth xs (j / 3)).day)
/-- A file by value: its five slices, and the routes of its lots, all below block B. -/
structure FileV (w : World) (B : Nat) (f : File) (a : FA) : Prop where
  parties : Row w B a.A1 f.parties.length (strsF f.parties)
  untils : Row w B a.A2 f.untils.length (intsF f.untils)
  lots : Row w B a.A3 (f.lots.length * 4) (lotsF f.lots a.R a.K)
  papers : Row w B a.A4 (f.papers.length * 3) (papersF f.papers)
  claims : Row w B a.A5 (f.claims.length * 3) (claimsF f.claims)
  routes : ∀ j, j < f.lots.length → IntsS w B (a.R j) (nth f.lots j).route.length (a.K j) (nth f.lots j).route
  small : ∀ j, j < f.parties.length → (nth f.parties j).size ≤ maxLen
  fit : ∀ j, j < f.lots.length → (nth f.lots j).route.length * 8 ≤ 140737488355328
  m1 : f.parties.length ≤ a.c1 ∧ a.c1 ≤ maxLen
  m2 : f.untils.length ≤ a.c2 ∧ a.c2 ≤ maxLen
  m3 : f.lots.length ≤ a.c3 ∧ a.c3 ≤ maxLen
  m4 : f.papers.length ≤ a.c4 ∧ a.c4 ≤ maxLen
  m5 : f.claims.length ≤ a.c5 ∧ a.c5 ≤ maxLen
abbrev fileCells (f : File) (a : FA) : Array Value := #[.slice a.A1 f.parties.length a.c1, .slice a.A2 f.untils.length a.c2, .slice a.A3 f.lots.length a.c3, .slice a.A4 f.papers.length a.c4, .slice a.A5 f.claims.length a.c5]
abbrev fileVal (f : File) (a : FA) : Value := .agg #[.slice a.A1 f.parties.length a.c1, .slice a.A2 f.untils.length a.c2, .slice a.A3 f.lots.length a.c3, .slice a.A4 f.papers.length a.c4, .slice a.A5 f.claims.length a.c5]
section
variable {w w' : World} {B B' n : Nat} {A : Option Addr} {f : File} {a : FA}
theorem FileV.below (h : FileV w B f a) (hb : Below B w w') : FileV w' B f a :=
  ⟨h.parties.below hb, h.untils.below hb, h.lots.below hb, h.papers.below hb, h.claims.below hb, fun j hj => (h.routes j hj).below hb, h.small, h.fit, h.m1, h.m2, h.m3, h.m4, h.m5⟩
theorem FileV.more (h : FileV w B f a) (hb : B ≤ B') : FileV w B' f a :=
  ⟨h.parties.more hb, h.untils.more hb, h.lots.more hb, h.papers.more hb, h.claims.more hb, fun j hj => (h.routes j hj).more hb, h.small, h.fit, h.m1, h.m2, h.m3, h.m4, h.m5⟩
theorem FileV.next (h : FileV w w.heap.size f a) (hb : Below w.heap.size w w') : FileV w' w'.heap.size f a := (h.below hb).more hb.size
theorem Row.strs {xs : List ByteArray} (h : Row w B A n (strsF xs)) {i : Nat} (hi : i < n) : ∃ b off, A = some ⟨b, off, none⟩ ∧ b < B ∧ w.cell? ⟨b, off + i, none⟩ = some (.string (nth xs i)) := by
  obtain ⟨b, off, e, hb, hc⟩ := h (by omega)
  exact ⟨b, off, e, hb, hc i hi⟩
theorem Row.lots {xs : List Lot} {R : Nat → Option Addr} {K : Nat → Nat} (h : Row w B A (n * 4) (lotsF xs R K)) {i : Nat} (hi : i < n) :
    ∃ b off, A = some ⟨b, off, none⟩ ∧ b < B ∧ w.cell? ⟨b, off + i * 4, none⟩ = some (.slice (R i) (nth xs i).route.length (K i)) ∧ w.cell? ⟨b, off + i * 4 + 1, none⟩ = some (.int .i64 (nth xs i).turned.lo) ∧
      w.cell? ⟨b, off + i * 4 + 2, none⟩ = some (.int .i64 (nth xs i).turned.hi) ∧ w.cell? ⟨b, off + i * 4 + 3, none⟩ = some (.int .i64 (nth xs i).worth) := by
  obtain ⟨b, off, e, hb, hc⟩ := h (by omega)
  refine ⟨b, off, e, hb, ?_, ?_, ?_, ?_⟩
  · rw [hc (i * 4) (by omega), lotsF, show i * 4 % 4 = 0 by omega, show i * 4 / 4 = i by omega]; rfl
  · rw [Nat.add_assoc, hc (i * 4 + 1) (by omega), lotsF, show (i * 4 + 1) % 4 = 1 by omega, show (i * 4 + 1) / 4 = i by omega]; rfl
  · rw [Nat.add_assoc, hc (i * 4 + 2) (by omega), lotsF, show (i * 4 + 2) % 4 = 2 by omega, show (i * 4 + 2) / 4 = i by omega]; rfl
  · rw [Nat.add_assoc, hc (i * 4 + 3) (by omega), lotsF, show (i * 4 + 3) % 4 = 3 by omega, show (i * 4 + 3) / 4 = i by omega]; rfl
theorem Row.papers {xs : List Paper} (h : Row w B A (n * 3) (papersF xs)) {i : Nat} (hi : i < n) :
    ∃ b off, A = some ⟨b, off, none⟩ ∧ b < B ∧ w.cell? ⟨b, off + i * 3, none⟩ = some (.int .i64 (nth xs i).says) ∧ w.cell? ⟨b, off + i * 3 + 1, none⟩ = some (.int .i64 (nth xs i).lot) ∧ w.cell? ⟨b, off + i * 3 + 2, none⟩ = some (.int .i64 (nth xs i).of_) := by
  obtain ⟨b, off, e, hb, hc⟩ := h (by omega)
  refine ⟨b, off, e, hb, ?_, ?_, ?_⟩
  · rw [hc (i * 3) (by omega), papersF, show i * 3 % 3 = 0 by omega, show i * 3 / 3 = i by omega]; rfl
  · rw [Nat.add_assoc, hc (i * 3 + 1) (by omega), papersF, show (i * 3 + 1) % 3 = 1 by omega, show (i * 3 + 1) / 3 = i by omega]; rfl
  · rw [Nat.add_assoc, hc (i * 3 + 2) (by omega), papersF, show (i * 3 + 2) % 3 = 2 by omega, show (i * 3 + 2) / 3 = i by omega]; rfl
theorem Row.claims {xs : List Claim} (h : Row w B A (n * 3) (claimsF xs)) {i : Nat} (hi : i < n) :
    ∃ b off, A = some ⟨b, off, none⟩ ∧ b < B ∧ w.cell? ⟨b, off + i * 3, none⟩ = some (.int .i64 (nth xs i).lot) ∧ w.cell? ⟨b, off + i * 3 + 1, none⟩ = some (.int .i64 (nth xs i).against) ∧ w.cell? ⟨b, off + i * 3 + 2, none⟩ = some (.int .i64 (nth xs i).day) := by
  obtain ⟨b, off, e, hb, hc⟩ := h (by omega)
  refine ⟨b, off, e, hb, ?_, ?_, ?_⟩
  · rw [hc (i * 3) (by omega), claimsF, show i * 3 % 3 = 0 by omega, show i * 3 / 3 = i by omega]; rfl
  · rw [Nat.add_assoc, hc (i * 3 + 1) (by omega), claimsF, show (i * 3 + 1) % 3 = 1 by omega, show (i * 3 + 1) / 3 = i by omega]; rfl
  · rw [Nat.add_assoc, hc (i * 3 + 2) (by omega), claimsF, show (i * 3 + 2) % 3 = 2 by omega, show (i * 3 + 2) / 3 = i by omega]; rfl
end
/-- A file's box. -/
structure BoxF (W : World) (g : Nat) (f : File) (a : FA) : Prop where
  v : FileV W W.heap.size f a
  k : Blk W g 28 (fileCells f a)
section
variable {W W' : World} {g : Nat} {f : File} {a : FA}
theorem BoxF.next (h : BoxF W g f a) (hb : Below W.heap.size W W') : BoxF W' g f a := ⟨h.v.next hb, h.k.next hb⟩
theorem BoxF.made (h : FileV W W.heap.size f a) : BoxF (W.alloc (.cells (fileCells f a) 28)) W.heap.size f a := ⟨h.next ((Below.refl _ _).alloc (Nat.le_refl _) _), Blk.made⟩
theorem BoxF.cells (h : BoxF W g f a) : g < W.heap.size ∧ W.cell? ⟨g, 0, none⟩ = some (.slice a.A1 f.parties.length a.c1) ∧ W.cell? ⟨g, 1, none⟩ = some (.slice a.A2 f.untils.length a.c2) ∧ W.cell? ⟨g, 2, none⟩ = some (.slice a.A3 f.lots.length a.c3) ∧ W.cell? ⟨g, 3, none⟩ = some (.slice a.A4 f.papers.length a.c4) ∧ W.cell? ⟨g, 4, none⟩ = some (.slice a.A5 f.claims.length a.c5) :=
  ⟨h.k.lt, h.k.at_ 0, h.k.at_ 1, h.k.at_ 2, h.k.at_ 3, h.k.at_ 4⟩
end
end Go.Proofs.Ytllmahcanipcpaa
