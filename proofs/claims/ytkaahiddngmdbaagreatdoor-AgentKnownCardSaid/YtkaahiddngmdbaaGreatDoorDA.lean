/- Words for memory: a board of package chain by value; ContainsFunc; chain's off. -/
import Derived.Test.YtkaahiddngmdbaaGreatDoorHA
import Derived.Deep.DeepCutAuto
import Derived.OwnWalkIn
import Derived.TacticsInMore
import Derived.Shelf.Abstract
import Derived.Laws.RangeString
import Derived.Laws.RangeAny
set_option linter.unusedVariables false
set_option linter.unusedSimpArgs false
namespace Go.Proofs.YtkaahiddngmdbaaGreatDoor
open Go.RowKit

theorem ret_b {a b : Bool} (h : a = b) : Ending.returned (.bool a) = Ending.returned (.bool b) := by rw [h]
theorem ret_i {a b : Int} (h : a = b) : Ending.returned (.int .i64 a) = Ending.returned (.int .i64 b) := by rw [h]
def offP (lo hi n : Int) : Bool := decide (n < lo) || decide (hi < n)
theorem offP_false {lo hi n : Int} : offP lo hi n = false ↔ lo ≤ n ∧ n ≤ hi := by simp [offP]
structure Hour where
 hold : Int
 load : Span
deriving Inhabited
structure Ctr where
 name : ByteArray
 skip : Int
 twice : Int
 start : Int
 zero : List Int
 shown : List Int
deriving Inhabited
structure Board where
 holds : Int
 hours : List Hour
 ctrs : List Ctr
deriving Inhabited
/-- Where a counter's slices lie, and a board's. -/
structure CtrA where
 az : Option Addr
 cz : Nat
 aw : Option Addr
 cw : Nat
deriving Inhabited
structure BrdA where
 A1 : Option Addr
 A2 : Option Addr
 c1 : Nat
 c2 : Nat
 ca : List CtrA
def hoursF (xs : List Hour) (j : Nat) : Value := match j % 3 with | 0 => .int .i64 (nth xs (j / 3)).hold | 1 => .int .i64 (nth xs (j / 3)).load.lo | _ => .int .i64 (nth xs (j / 3)).load.hi
def ctrsF (xs : List Ctr) (ca : List CtrA) (j : Nat) : Value := match j % 6 with
 | 0 => .string (nth xs (j / 6)).name | 1 => .int .i64 (nth xs (j / 6)).skip | 2 => .int .i64 (nth xs (j / 6)).twice | 3 => .int .i64 (nth xs (j / 6)).start
 | 4 => .slice (nth ca (j / 6)).az (nth xs (j / 6)).zero.length (nth ca (j / 6)).cz | _ => .slice (nth ca (j / 6)).aw (nth xs (j / 6)).shown.length (nth ca (j / 6)).cw
/-- A board by value: its slices, all below block B. -/
structure BrdV (w : World) (B : Nat) (b : Board) (a : BrdA) : Prop where
 hours : Row w B a.A1 (b.hours.length * 3) (hoursF b.hours)
 ctrs : Row w B a.A2 (b.ctrs.length * 6) (ctrsF b.ctrs a.ca)
 zero : ∀ i, i < b.ctrs.length → IntsS w B (nth a.ca i).az (nth b.ctrs i).zero.length (nth a.ca i).cz (nth b.ctrs i).zero
 shown : ∀ i, i < b.ctrs.length → IntsS w B (nth a.ca i).aw (nth b.ctrs i).shown.length (nth a.ca i).cw (nth b.ctrs i).shown
 m1 : b.hours.length ≤ a.c1 ∧ b.hours.length ≤ maxLen
 m2 : b.ctrs.length ≤ a.c2 ∧ b.ctrs.length ≤ maxLen
abbrev brdCells (b : Board) (a : BrdA) : Array Value := #[.int .i64 b.holds, .slice a.A1 b.hours.length a.c1, .slice a.A2 b.ctrs.length a.c2]
abbrev brdVal (b : Board) (a : BrdA) : Value := .agg (brdCells b a)
section
variable {w w' : World} {B B' n : Nat} {A : Option Addr} {b : Board} {a : BrdA}
theorem BrdV.below (h : BrdV w B b a) (hb : Below B w w') : BrdV w' B b a := ⟨h.hours.below hb, h.ctrs.below hb, fun i hi => (h.zero i hi).below hb, fun i hi => (h.shown i hi).below hb, h.m1, h.m2⟩
theorem BrdV.more (h : BrdV w B b a) (hb : B ≤ B') : BrdV w B' b a := ⟨h.hours.more hb, h.ctrs.more hb, fun i hi => (h.zero i hi).more hb, fun i hi => (h.shown i hi).more hb, h.m1, h.m2⟩
theorem BrdV.next (h : BrdV w w.heap.size b a) (hb : Below w.heap.size w w') : BrdV w' w'.heap.size b a := (h.below hb).more hb.size
theorem Row.hours {xs : List Hour} (h : Row w B A (n * 3) (hoursF xs)) {i : Nat} (hi : i < n) :
 ∃ b off, A = some ⟨b, off, none⟩ ∧ b < B ∧ w.cell? ⟨b, off + i * 3, none⟩ = some (.int .i64 (nth xs i).hold) ∧ w.cell? ⟨b, off + i * 3 + 1, none⟩ = some (.int .i64 (nth xs i).load.lo) ∧ w.cell? ⟨b, off + i * 3 + 2, none⟩ = some (.int .i64 (nth xs i).load.hi) := by
 obtain ⟨b, off, e, hb, hc⟩ := h (by omega)
 refine ⟨b, off, e, hb, ?_, ?_, ?_⟩
 · rw [hc (i * 3) (by omega), hoursF, show i * 3 % 3 = 0 by omega, show i * 3 / 3 = i by omega]; rfl
 · rw [Nat.add_assoc, hc (i * 3 + 1) (by omega), hoursF, show (i * 3 + 1) % 3 = 1 by omega, show (i * 3 + 1) / 3 = i by omega]; rfl
 · rw [Nat.add_assoc, hc (i * 3 + 2) (by omega), hoursF, show (i * 3 + 2) % 3 = 2 by omega, show (i * 3 + 2) / 3 = i by omega]; rfl
theorem Row.ctrs {xs : List Ctr} {ca : List CtrA} (h : Row w B A (n * 6) (ctrsF xs ca)) {i : Nat} (hi : i < n) :
 ∃ b off, A = some ⟨b, off, none⟩ ∧ b < B ∧ w.cell? ⟨b, off + i * 6, none⟩ = some (.string (nth xs i).name) ∧ w.cell? ⟨b, off + i * 6 + 1, none⟩ = some (.int .i64 (nth xs i).skip) ∧ w.cell? ⟨b, off + i * 6 + 2, none⟩ = some (.int .i64 (nth xs i).twice) ∧
  w.cell? ⟨b, off + i * 6 + 3, none⟩ = some (.int .i64 (nth xs i).start) ∧ w.cell? ⟨b, off + i * 6 + 4, none⟩ = some (.slice (nth ca i).az (nth xs i).zero.length (nth ca i).cz) ∧ w.cell? ⟨b, off + i * 6 + 5, none⟩ = some (.slice (nth ca i).aw (nth xs i).shown.length (nth ca i).cw) := by
 obtain ⟨b, off, e, hb, hc⟩ := h (by omega)
 refine ⟨b, off, e, hb, ?_, ?_, ?_, ?_, ?_, ?_⟩
 · rw [hc (i * 6) (by omega), ctrsF, show i * 6 % 6 = 0 by omega, show i * 6 / 6 = i by omega]; rfl
 · rw [Nat.add_assoc, hc (i * 6 + 1) (by omega), ctrsF, show (i * 6 + 1) % 6 = 1 by omega, show (i * 6 + 1) / 6 = i by omega]; rfl
 · rw [Nat.add_assoc, hc (i * 6 + 2) (by omega), ctrsF, show (i * 6 + 2) % 6 = 2 by omega, show (i * 6 + 2) / 6 = i by omega]; rfl
 · rw [Nat.add_assoc, hc (i * 6 + 3) (by omega), ctrsF, show (i * 6 + 3) % 6 = 3 by omega, show (i * 6 + 3) / 6 = i by omega]; rfl
 · rw [Nat.add_assoc, hc (i * 6 + 4) (by omega), ctrsF, show (i * 6 + 4) % 6 = 4 by omega, show (i * 6 + 4) / 6 = i by omega]; rfl
 · rw [Nat.add_assoc, hc (i * 6 + 5) (by omega), ctrsF, show (i * 6 + 5) % 6 = 5 by omega, show (i * 6 + 5) / 6 = i by omega]; rfl
end
/-- A board as Check lets it pass, as far as the walks lean on it. -/
structure ValidB (b : Board) : Prop where
 hours : b.hours.length ≤ 4
 ctrs : b.ctrs.length ≤ 2
 lo : ∀ i, i < b.hours.length → 0 ≤ (nth b.hours i).load.lo ∧ (nth b.hours i).load.lo ≤ 40
 hi : ∀ i, i < b.hours.length → (nth b.hours i).load.lo ≤ (nth b.hours i).load.hi ∧ (nth b.hours i).load.hi ≤ 40
 skip : ∀ i, i < b.ctrs.length → 0 ≤ (nth b.ctrs i).skip ∧ (nth b.ctrs i).skip ≤ 3
 twice : ∀ i, i < b.ctrs.length → 0 ≤ (nth b.ctrs i).twice ∧ (nth b.ctrs i).twice ≤ 3
 start : ∀ i, i < b.ctrs.length → 0 ≤ (nth b.ctrs i).start ∧ (nth b.ctrs i).start ≤ 99
 zero : ∀ i, i < b.ctrs.length → (nth b.ctrs i).zero.length = b.hours.length
 shown : ∀ i, i < b.ctrs.length → (nth b.ctrs i).shown.length = b.hours.length

/-- A function value that answers, for each integer, in every world that has grown out of w, and leaves the world alone. -/
def PredOn (g : FuncId) (lb : Array Value) (p : Int → Bool) (w : World) : Prop :=
 ∀ (x : Int) (W : World), Below w.heap.size w W → Calls Tryz.prog g (#[.int .i64 x] ++ lb) W fun e w' => e = .returned (.bool (p x)) ∧ W = w'

def idxOf (p : Int → Bool) (xs : List Int) : Int := match xs.findIdx? p with | some i => (i : Int) | none => -1
theorem idxOf_hit {p : Int → Bool} {xs : List Int} {j : Nat} (hj : j < xs.length) (h : p (nth xs j) = true) (hk : ∀ k, k < j → p (nth xs k) = false) : idxOf p xs = j := by
 have : xs.findIdx? p = some j := by
  rw [List.findIdx?_eq_some_iff_getElem]
  refine ⟨hj, by rw [← nth_eq hj]; exact h, fun k hk' => ?_⟩
  rw [← nth_eq (by omega), hk k hk']; simp
 simp [idxOf, this]
theorem idxOf_miss {p : Int → Bool} {xs : List Int} (hk : ∀ k, k < xs.length → p (nth xs k) = false) : idxOf p xs = -1 := by
 have : xs.findIdx? p = none := by
  rw [List.findIdx?_eq_none_iff]
  intro x hx
  obtain ⟨k, hk', rfl⟩ := List.getElem_of_mem hx
  rw [← nth_eq hk']; exact hk k hk'
 simp [idxOf, this]
theorem idxOf_any (p : Int → Bool) (xs : List Int) : decide (0 ≤ idxOf p xs) = xs.any p := by
 unfold idxOf
 cases h : xs.findIdx? p with
 | none =>
  have : xs.any p = false := by
   rw [List.findIdx?_eq_none_iff] at h
   rw [List.any_eq_false]
   intro x hx; simpa using h x hx
  simp [this]
 | some i =>
  have : xs.any p = true := by
   rw [List.findIdx?_eq_some_iff_getElem] at h
   obtain ⟨hi, hp, _⟩ := h
   exact List.any_eq_true.2 ⟨_, List.getElem_mem hi, hp⟩
  simp [this]
set_option maxHeartbeats 400000 in
set_option maxRecDepth 100000 in
theorem indexFunc_any {A : Option Addr} {n c B : Nat} {xs : List Int} {w : World} (h : IntsS w B A n c xs) (g : FuncId) (lb : Array Value) (p : Int → Bool) (hp : PredOn g lb p w) (eg : Enters Tryz.prog g) :
 Calls Tryz.prog 219 #[.slice A n c, .func (.func g) #[] lb] w fun e w' => e = .returned (.int .i64 (idxOf p xs)) ∧ w = w' := by
 have hm := h.bd
 have HL := hide h.len
 have eg' : ∀ (args : Array Value) (w : World), (callFunc g args).run Tryz.prog w = .ok (.enter g args) w := eg
 clear eg
 go_enter Tryz.func219, Tryz.ntmps219
 go_wp2_with fail
 go_loop [5, 8] (fun _ i => ∃ j : Nat, j ≤ n ∧ i = .int .i64 j ∧ Hid (∀ k, k < j → p (nth xs k) = false)) (fun _ i => n - (intOf i).toNat)
 case atStart => exact ⟨0, Nat.zero_le _, rfl, fun k hk => by omega⟩
 case round =>
  obtain ⟨j, hj, rfl, H⟩ := hrel
  by_cases hlt : j < n
  · obtain ⟨b, off, rfl, hb, hc⟩ := h.at_ hlt
    have hcall := hp (nth xs j) w (Below.refl _ _)
    clear hp
    cases hq : p (nth xs j) with
    | true =>
     rw [hq] at hcall
     have HQ := hide hq
     clear hq
     go_wp2_with (go_at_fn g; refine hcall.mono ?_; rintro e w' ⟨rfl, rfl⟩)
     go_ret
     exact ⟨ret_i (idxOf_hit (by rw [HL.out]; exact hlt) HQ.out H.out).symm, rfl⟩
    | false =>
     rw [hq] at hcall
     have HQ := hide hq
     clear hq
     go_wp2_with (go_at_fn g; refine hcall.mono ?_; rintro e w' ⟨rfl, rfl⟩)
     go_round
     case rel => exact ⟨j + 1, by omega, by go_num, fun k hk => by
      rcases Nat.lt_or_ge k j with h1 | h1
      · exact H.out k h1
      · rw [show k = j by omega]; exact HQ.out⟩
     case measure => simp [intOf]; omega
  · go_wp2
    go_ret
    exact ⟨ret_i (idxOf_miss (fun k hk => H.out k (by rw [HL.out] at hk; omega))).symm, rfl⟩
set_option maxHeartbeats 400000 in
theorem containsFunc_any {A : Option Addr} {n c B : Nat} {xs : List Int} {w : World} (h : IntsS w B A n c xs) (g : FuncId) (lb : Array Value) (p : Int → Bool) (hp : PredOn g lb p w) (eg : Enters Tryz.prog g) :
 Calls Tryz.prog 112 #[.slice A n c, .func (.func g) #[] lb] w fun e w' => e = .returned (.bool (xs.any p)) ∧ w = w' := by
 have H := hide (indexFunc_any h g lb p hp eg)
 clear hp eg
 go_enter Tryz.func112, Tryz.ntmps112
 go_wp2_with (go_at_call 219; refine H.out.mono ?_; rintro e w' ⟨rfl, rfl⟩)
 go_ret
 exact ⟨ret_b (idxOf_any _ _), rfl⟩

theorem coff1_any (lo hi n : Int) (b b' : Nat) (w : World) (h1 : w.cell? ⟨b, 0, none⟩ = some (.int .i64 lo)) (h2 : w.cell? ⟨b', 0, none⟩ = some (.int .i64 hi)) :
 Calls Tryz.prog 220 #[.int .i64 n, .pointer (some ⟨b, 0, none⟩), .pointer (some ⟨b', 0, none⟩)] w fun e w' => e = .returned (.bool (offP lo hi n)) ∧ w = w' := by
 go_enter Tryz.func220, Tryz.ntmps220
 by_cases h3 : n < lo <;> by_cases h4 : hi < n
 all_goals
  go_wp2
  go_ret
  exact ⟨ret_b (by simp [offP]; omega), rfl⟩
set_option maxHeartbeats 400000 in
theorem coff_any {A : Option Addr} {n c : Nat} {xs : List Int} {w : World} (h : IntsS w w.heap.size A n c xs) (lo hi : Int) :
 Calls Tryz.prog 114 #[.int .i64 lo, .int .i64 hi, .slice A n c] w fun e w' => e = .returned (.bool (xs.any (offP lo hi))) ∧ Below w.heap.size w w' := by
 have hb : Below w.heap.size w ((w.alloc (.cells #[.int .i64 lo] 3)).alloc (.cells #[.int .i64 hi] 3)) := ((Below.refl _ _).alloc (Nat.le_refl _) _).alloc (by simp) _
 have H := hide (containsFunc_any (h.below hb) 220 #[.pointer (some ⟨w.heap.size, 0, none⟩), .pointer (some ⟨w.heap.size + 1, 0, none⟩)] (offP lo hi)
  (fun x W hW => coff1_any lo hi x _ _ W (by rw [hW.cell (by simp; omega), World.cell?_alloc_past _ _ _ (by simp), World.cell?_alloc_at _ _ _ _ rfl]; rfl) (by rw [hW.cell (by simp), World.cell?_alloc_at _ _ _ _ (by simp)]; rfl))
  (enters_of Tryz.func220 (by kernel_rfl) rfl))
 go_enter Tryz.func114, Tryz.ntmps114
 go_wp2_with (go_at_call 112; refine H.out.mono ?_; rintro e w' ⟨rfl, rfl⟩)
 go_ret
 exact ⟨rfl, hb⟩
theorem coff_1 {w : World} {b : Nat} (hb : w.heap.size = b) (lo hi x : Int) :
 Calls Tryz.prog 114 #[.int .i64 lo, .int .i64 hi, .slice (some ⟨b, 0, none⟩) 1 1] (w.alloc (.cells #[.int .i64 x] 3)) fun e w' => e = .returned (.bool (offP lo hi x)) ∧ Below w.heap.size w w' :=
 (coff_any ((IntsS.lit1 hb x).more (by simp [← hb])) lo hi).mono fun _ _ ⟨he, h⟩ => ⟨he.trans (by simp), ((Below.refl _ w).alloc (Nat.le_refl _) _).trans (h.mono (by simp))⟩
theorem coff_2 {w : World} {b : Nat} (hb : w.heap.size = b) (lo hi x y : Int) :
 Calls Tryz.prog 114 #[.int .i64 lo, .int .i64 hi, .slice (some ⟨b, 0, none⟩) 2 2] (w.alloc (.cells #[.int .i64 x, .int .i64 y] 3)) fun e w' => e = .returned (.bool (offP lo hi x || offP lo hi y)) ∧ Below w.heap.size w w' :=
 (coff_any ((IntsS.lit2 hb x y).more (by simp [← hb])) lo hi).mono fun _ _ ⟨he, h⟩ => ⟨he.trans (by simp), ((Below.refl _ w).alloc (Nat.le_refl _) _).trans (h.mono (by simp))⟩

end Go.Proofs.YtkaahiddngmdbaaGreatDoor
