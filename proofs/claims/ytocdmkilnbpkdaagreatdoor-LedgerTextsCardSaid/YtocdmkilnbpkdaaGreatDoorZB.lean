/- Contracts of small functions of the program and the library: IndexFunc, ContainsFunc; beyond, off. -/
import Derived.Test.YtocdmkilnbpkdaaGreatDoorZA
import Derived.Shelf.Abstract
import Derived.Laws.RangeString
import Derived.Laws.RangeAny
set_option linter.unusedVariables false
set_option linter.unusedSimpArgs false
namespace Go.Proofs.YtocdmkilnbpkdaaGreatDoor
open Go.RowKit

/-- A function value that answers, for each integer, in every world that has grown out of w, and leaves the world alone. -/
def PredOn (g : FuncId) (lb : Array Value) (p : Int → Bool) (w : World) : Prop :=
 ∀ (x : Int) (W : World), Below w.heap.size w W → Calls Tryz.prog g (#[.int .i64 x] ++ lb) W fun e w' => e = .returned (.bool (p x)) ∧ W = w'

def idxOf (p : Int → Bool) (xs : List Int) : Int := match xs.findIdx? p with | some i => (i : Int) | none => -1
theorem idxOf_hit {p : Int → Bool} {xs : List Int} {j : Nat} (hj : j < xs.length) (h : p (nth xs j) = true) (hk : ∀ k, k < j → p (nth xs k) = false) : idxOf p xs = j := by
 have : xs.findIdx? p = some j := by
  rw [List.findIdx?_eq_some_iff_getElem]
  refine ⟨hj, by rw [← nth_eq hj]; exact h, fun k hk' => ?_⟩
  rw [← nth_eq (by omega), hk k hk']; simp
 simp [idxOf, this]
theorem idxOf_miss {p : Int → Bool} {xs : List Int} (hk : ∀ k, k < xs.length → p (nth xs k) = false) : idxOf p xs = -1 := by
 have : xs.findIdx? p = none := by
  rw [List.findIdx?_eq_none_iff]
  intro x hx
  obtain ⟨k, hk', rfl⟩ := List.getElem_of_mem hx
  rw [← nth_eq hk']; exact hk k hk'
 simp [idxOf, this]
theorem idxOf_any (p : Int → Bool) (xs : List Int) : decide (0 ≤ idxOf p xs) = xs.any p := by
 unfold idxOf
 cases h : xs.findIdx? p with
 | none =>
  have : xs.any p = false := by
   rw [List.findIdx?_eq_none_iff] at h
   rw [List.any_eq_false]
   intro x hx; simpa using h x hx
  simp [this]
 | some i =>
  have : xs.any p = true := by
   rw [List.findIdx?_eq_some_iff_getElem] at h
   obtain ⟨hi, hp, _⟩ := h
   exact List.any_eq_true.2 ⟨_, List.getElem_mem hi, hp⟩
  simp [this]
set_option maxHeartbeats 400000 in
set_option maxRecDepth 100000 in
theorem indexFunc_any {A : Option Addr} {n c B : Nat} {xs : List Int} {w : World} (h : IntsS w B A n c xs) (g : FuncId) (lb : Array Value) (p : Int → Bool) (hp : PredOn g lb p w) (eg : Enters Tryz.prog g) :
 Calls Tryz.prog 127 #[.slice A n c, .func (.func g) #[] lb] w fun e w' => e = .returned (.int .i64 (idxOf p xs)) ∧ w = w' := by
 have hm := h.bd
 have HL := hide h.len
 have eg' : ∀ (args : Array Value) (w : World), (callFunc g args).run Tryz.prog w = .ok (.enter g args) w := eg
 clear eg
 go_enter Tryz.func127, Tryz.ntmps127
 go_wp2_with fail
 go_loop [5, 8] (fun _ i => ∃ j : Nat, j ≤ n ∧ i = .int .i64 j ∧ Hid (∀ k, k < j → p (nth xs k) = false)) (fun _ i => n - (intOf i).toNat)
 case atStart => exact ⟨0, Nat.zero_le _, rfl, fun k hk => by omega⟩
 case round =>
  obtain ⟨j, hj, rfl, H⟩ := hrel
  by_cases hlt : j < n
  · obtain ⟨b, off, rfl, hb, hc⟩ := h.at_ hlt
    have hcall := hp (nth xs j) w (Below.refl _ _)
    clear hp
    cases hq : p (nth xs j) with
    | true =>
     rw [hq] at hcall
     have HQ := hide hq
     clear hq
     go_wp2_with (go_at_fn g; refine hcall.mono ?_; rintro e w' ⟨rfl, rfl⟩)
     go_ret
     exact ⟨ret_i (idxOf_hit (by rw [HL.out]; exact hlt) HQ.out H.out).symm, rfl⟩
    | false =>
     rw [hq] at hcall
     have HQ := hide hq
     clear hq
     go_wp2_with (go_at_fn g; refine hcall.mono ?_; rintro e w' ⟨rfl, rfl⟩)
     go_round
     case rel => exact ⟨j + 1, by omega, by go_num, fun k hk => by
      rcases Nat.lt_or_ge k j with h1 | h1
      · exact H.out k h1
      · rw [show k = j by omega]; exact HQ.out⟩
     case measure => simp [intOf]; omega
  · go_wp2
    go_ret
    exact ⟨ret_i (idxOf_miss (fun k hk => H.out k (by rw [HL.out] at hk; omega))).symm, rfl⟩
set_option maxHeartbeats 400000 in
theorem containsFunc_any {A : Option Addr} {n c B : Nat} {xs : List Int} {w : World} (h : IntsS w B A n c xs) (g : FuncId) (lb : Array Value) (p : Int → Bool) (hp : PredOn g lb p w) (eg : Enters Tryz.prog g) :
 Calls Tryz.prog 94 #[.slice A n c, .func (.func g) #[] lb] w fun e w' => e = .returned (.bool (xs.any p)) ∧ w = w' := by
 have H := hide (indexFunc_any h g lb p hp eg)
 clear hp eg
 go_enter Tryz.func94, Tryz.ntmps94
 go_wp2_with (go_at_call 127; refine H.out.mono ?_; rintro e w' ⟨rfl, rfl⟩)
 go_ret
 exact ⟨ret_b (idxOf_any _ _), rfl⟩

set_option maxHeartbeats 400000 in
theorem beyond1_any (lo hi n : Int) (b b' : Nat) (w : World) (h1 : w.cell? ⟨b, 0, none⟩ = some (.int .i64 lo)) (h2 : w.cell? ⟨b', 0, none⟩ = some (.int .i64 hi)) :
 Calls Tryz.prog 95 #[.int .i64 n, .pointer (some ⟨b, 0, none⟩), .pointer (some ⟨b', 0, none⟩)] w fun e w' => e = .returned (.bool (offP lo hi n)) ∧ w = w' := by
 go_enter Tryz.func95, Tryz.ntmps95
 by_cases h3 : n < lo <;> by_cases h4 : hi < n
 all_goals
  go_wp2
  go_ret
  exact ⟨ret_b (by simp [offP]; omega), rfl⟩
set_option maxHeartbeats 400000 in
theorem beyond_any {A : Option Addr} {n c : Nat} {xs : List Int} {w : World} (h : IntsS w w.heap.size A n c xs) (lo hi : Int) :
 Calls Tryz.prog 62 #[.int .i64 lo, .int .i64 hi, .slice A n c] w fun e w' => e = .returned (.bool (xs.any (offP lo hi))) ∧ Below w.heap.size w w' := by
 have hb : Below w.heap.size w ((w.alloc (.cells #[.int .i64 lo] 3)).alloc (.cells #[.int .i64 hi] 3)) := ((Below.refl _ _).alloc (Nat.le_refl _) _).alloc (by simp) _
 have H := hide (containsFunc_any (h.below hb) 95 #[.pointer (some ⟨w.heap.size, 0, none⟩), .pointer (some ⟨w.heap.size + 1, 0, none⟩)] (offP lo hi)
  (fun x W hW => beyond1_any lo hi x _ _ W (by rw [hW.cell (by simp; omega), World.cell?_alloc_past _ _ _ (by simp), World.cell?_alloc_at _ _ _ _ rfl]; rfl) (by rw [hW.cell (by simp), World.cell?_alloc_at _ _ _ _ (by simp)]; rfl))
  (enters_of Tryz.func95 (by kernel_rfl) rfl))
 go_enter Tryz.func62, Tryz.ntmps62
 go_wp2_with (go_at_call 94; refine H.out.mono ?_; rintro e w' ⟨rfl, rfl⟩)
 go_ret
 exact ⟨rfl, hb⟩
theorem beyond_1 {w : World} {b : Nat} (hb : w.heap.size = b) (lo hi x : Int) :
 Calls Tryz.prog 62 #[.int .i64 lo, .int .i64 hi, .slice (some ⟨b, 0, none⟩) 1 1] (w.alloc (.cells #[.int .i64 x] 3)) fun e w' => e = .returned (.bool (offP lo hi x)) ∧ Below w.heap.size w w' :=
 (beyond_any ((IntsS.lit1 hb x).more (by simp [← hb])) lo hi).mono fun _ _ ⟨he, h⟩ => ⟨he.trans (by simp), ((Below.refl _ w).alloc (Nat.le_refl _) _).trans (h.mono (by simp))⟩
set_option maxHeartbeats 400000 in
theorem hoff1_any (lo hi n : Int) (b b' : Nat) (w : World) (h1 : w.cell? ⟨b, 0, none⟩ = some (.int .i64 lo)) (h2 : w.cell? ⟨b', 0, none⟩ = some (.int .i64 hi)) :
 Calls Tryz.prog 126 #[.int .i64 n, .pointer (some ⟨b, 0, none⟩), .pointer (some ⟨b', 0, none⟩)] w fun e w' => e = .returned (.bool (offP lo hi n)) ∧ w = w' := by
 go_enter Tryz.func126, Tryz.ntmps126
 by_cases h3 : n < lo <;> by_cases h4 : hi < n
 all_goals
  go_wp2
  go_ret
  exact ⟨ret_b (by simp [offP]; omega), rfl⟩
set_option maxHeartbeats 400000 in
theorem hoff_any {A : Option Addr} {n c : Nat} {xs : List Int} {w : World} (h : IntsS w w.heap.size A n c xs) (lo hi : Int) :
 Calls Tryz.prog 92 #[.int .i64 lo, .int .i64 hi, .slice A n c] w fun e w' => e = .returned (.bool (xs.any (offP lo hi))) ∧ Below w.heap.size w w' := by
 have hb : Below w.heap.size w ((w.alloc (.cells #[.int .i64 lo] 3)).alloc (.cells #[.int .i64 hi] 3)) := ((Below.refl _ _).alloc (Nat.le_refl _) _).alloc (by simp) _
 have H := hide (containsFunc_any (h.below hb) 126 #[.pointer (some ⟨w.heap.size, 0, none⟩), .pointer (some ⟨w.heap.size + 1, 0, none⟩)] (offP lo hi)
  (fun x W hW => hoff1_any lo hi x _ _ W (by rw [hW.cell (by simp; omega), World.cell?_alloc_past _ _ _ (by simp), World.cell?_alloc_at _ _ _ _ rfl]; rfl) (by rw [hW.cell (by simp), World.cell?_alloc_at _ _ _ _ (by simp)]; rfl))
  (enters_of Tryz.func126 (by kernel_rfl) rfl))
 go_enter Tryz.func92, Tryz.ntmps92
 go_wp2_with (go_at_call 94; refine H.out.mono ?_; rintro e w' ⟨rfl, rfl⟩)
 go_ret
 exact ⟨rfl, hb⟩
theorem hoff_1 {w : World} {b : Nat} (hb : w.heap.size = b) (lo hi x : Int) :
 Calls Tryz.prog 92 #[.int .i64 lo, .int .i64 hi, .slice (some ⟨b, 0, none⟩) 1 1] (w.alloc (.cells #[.int .i64 x] 3)) fun e w' => e = .returned (.bool (offP lo hi x)) ∧ Below w.heap.size w w' :=
 (hoff_any ((IntsS.lit1 hb x).more (by simp [← hb])) lo hi).mono fun _ _ ⟨he, h⟩ => ⟨he.trans (by simp), ((Below.refl _ w).alloc (Nat.le_refl _) _).trans (h.mono (by simp))⟩
/-- The first index at which a list of strings has one. -/
def idxS (xs : List ByteArray) (v : ByteArray) : Int := match xs.findIdx? (eqS v) with | some i => (i : Int) | none => -1
theorem idxS_hit {xs : List ByteArray} {v : ByteArray} {j : Nat} (hj : j < xs.length) (h : eqS v (nth xs j) = true) (hk : ∀ k, k < j → eqS v (nth xs k) = false) : idxS xs v = j := by
 have : xs.findIdx? (eqS v) = some j := by
  rw [List.findIdx?_eq_some_iff_getElem]
  refine ⟨hj, by rw [← nth_eq hj]; exact h, fun k hk' => ?_⟩
  rw [← nth_eq (by omega), hk k hk']; simp
 simp [idxS, this]
theorem idxS_miss {xs : List ByteArray} {v : ByteArray} (hk : ∀ k, k < xs.length → eqS v (nth xs k) = false) : idxS xs v = -1 := by
 have : xs.findIdx? (eqS v) = none := by
  rw [List.findIdx?_eq_none_iff]
  intro x hx
  obtain ⟨k, hk', rfl⟩ := List.getElem_of_mem hx
  rw [← nth_eq hk']; exact hk k hk'
 simp [idxS, this]
theorem idxS_any (xs : List ByteArray) (v : ByteArray) : decide (0 ≤ idxS xs v) = xs.any (eqS v) := by
 unfold idxS
 cases h : xs.findIdx? (eqS v) with
 | none =>
  have : xs.any (eqS v) = false := by
   rw [List.findIdx?_eq_none_iff] at h
   rw [List.any_eq_false]
   intro x hx; simpa using h x hx
  simp [this]
 | some i =>
  have : xs.any (eqS v) = true := by
   rw [List.findIdx?_eq_some_iff_getElem] at h
   obtain ⟨hi, hp, _⟩ := h
   exact List.any_eq_true.2 ⟨_, List.getElem_mem hi, hp⟩
  simp [this]
end Go.Proofs.YtocdmkilnbpkdaaGreatDoor
