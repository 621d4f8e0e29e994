/- Contracts of the law's span and Cargo; what the program answers of the examples' cargos. -/
import Derived.Test.YtbkknliggnhpcaaGI
import Derived.Test.YtbkknliggnhpcaaPb
import Derived.Test.YtbkknliggnhpcaaGH
set_option linter.unusedVariables false
set_option linter.unusedSimpArgs false
namespace Go.Proofs.Ytbkknliggnhpcaa
open Go.RowKit
attribute [local go_sem ↓] Go.wp_at_zero Go.wp_at_succ

theorem row_lit {w : World} (T : TypeId) (vs : Array Value) {n : Nat} {f : Nat → Value} (h : ∀ j, j < n → vs[j]? = some (f j)) : Row (w.alloc (.cells vs T)) (w.heap.size + 1) (some ⟨w.heap.size, 0, none⟩) n f := fun _ =>
  ⟨_, _, rfl, by omega, fun j hj => by rw [World.cell?_alloc_at _ _ _ _ rfl, Nat.zero_add]; exact h j hj⟩
theorem row_keep1 {w w' : World} {B b off m : Nat} {f : Nat → Value} (h : Row w B (some ⟨b, off, none⟩) m f) (hk : ∀ o, w'.cell? ⟨b, o, none⟩ = w.cell? ⟨b, o, none⟩) : Row w' B (some ⟨b, off, none⟩) m f := fun hm => by
  obtain ⟨b', o', e, h1, h2⟩ := h hm
  cases e
  exact ⟨b, off, rfl, h1, fun j hj => (hk _).trans (h2 j hj)⟩
theorem keep5 (w : World) (g : Nat) (a b c d e : Value) : Keep (fun q => q = g) w (((((w.setCell ⟨g, 0, none⟩ a).setCell ⟨g, 1, none⟩ b).setCell ⟨g, 2, none⟩ c).setCell ⟨g, 3, none⟩ d).setCell ⟨g, 4, none⟩ e) :=
  ((((Keep.setCell _ _ _ (fun q => q = g) rfl).trans (Keep.setCell _ _ _ (fun q => q = g) rfl)).trans (Keep.setCell _ _ _ (fun q => q = g) rfl)).trans (Keep.setCell _ _ _ (fun q => q = g) rfl)).trans (Keep.setCell _ _ _ (fun q => q = g) rfl)
theorem cells5 {w : World} {g : Nat} (a b c d e : Value) (h0 : ∃ v, w.cell? ⟨g, 0, none⟩ = some v) (h1 : ∃ v, w.cell? ⟨g, 1, none⟩ = some v) (h2 : ∃ v, w.cell? ⟨g, 2, none⟩ = some v) (h3 : ∃ v, w.cell? ⟨g, 3, none⟩ = some v) (h4 : ∃ v, w.cell? ⟨g, 4, none⟩ = some v) :
    (((((w.setCell ⟨g, 0, none⟩ a).setCell ⟨g, 1, none⟩ b).setCell ⟨g, 2, none⟩ c).setCell ⟨g, 3, none⟩ d).setCell ⟨g, 4, none⟩ e).cell? ⟨g, 0, none⟩ = some a ∧ (((((w.setCell ⟨g, 0, none⟩ a).setCell ⟨g, 1, none⟩ b).setCell ⟨g, 2, none⟩ c).setCell ⟨g, 3, none⟩ d).setCell ⟨g, 4, none⟩ e).cell? ⟨g, 1, none⟩ = some b ∧
    (((((w.setCell ⟨g, 0, none⟩ a).setCell ⟨g, 1, none⟩ b).setCell ⟨g, 2, none⟩ c).setCell ⟨g, 3, none⟩ d).setCell ⟨g, 4, none⟩ e).cell? ⟨g, 2, none⟩ = some c ∧ (((((w.setCell ⟨g, 0, none⟩ a).setCell ⟨g, 1, none⟩ b).setCell ⟨g, 2, none⟩ c).setCell ⟨g, 3, none⟩ d).setCell ⟨g, 4, none⟩ e).cell? ⟨g, 3, none⟩ = some d ∧
    (((((w.setCell ⟨g, 0, none⟩ a).setCell ⟨g, 1, none⟩ b).setCell ⟨g, 2, none⟩ c).setCell ⟨g, 3, none⟩ d).setCell ⟨g, 4, none⟩ e).cell? ⟨g, 4, none⟩ = some e := by
  have h := World.cell?_setCells_in g [a, b, c, d, e] 0 w (fun j hj => by
    have : ∀ j, j < 5 → ∃ v, w.cell? ⟨g, j, none⟩ = some v := fun j hj => by
      match j, hj with
      | 0, _ => exact h0
      | 1, _ => exact h1
      | 2, _ => exact h2
      | 3, _ => exact h3
      | 4, _ => exact h4
    obtain ⟨v, hv⟩ := this j (by simpa using hj)
    rw [Nat.zero_add, hv]; rfl)
  exact ⟨h 0 (by simp), h 1 (by simp), h 2 (by simp), h 3 (by simp), h 4 (by simp)⟩
theorem span_any (lo hi : Int) (w : World) : Calls Try.prog 53 #[.int .i64 lo, .int .i64 hi] w fun e w' => e = .returned (.agg #[.int .i64 lo, .int .i64 hi]) ∧ Below w.heap.size w w' := by
  go_enter Try.func53, Try.ntmps53
  go_wp2
  exact bodyPost_ret (v := .agg #[.int .i64 lo, .int .i64 hi]) (by simp [results, Try.results53, go_sem]) rfl ⟨rfl, (Below.refl _ _).alloc (Nat.le_refl _) _⟩
def lawC (l : List Seen) : Cargo := ⟨[0, 0, 0, 1, 0, 0], 2, [⟨1, 2⟩, ⟨1, 1⟩], [⟨0, 0, ⟨4, 5⟩⟩, ⟨0, 0, ⟨10, 10⟩⟩, ⟨1, 2, ⟨6, 6⟩⟩], l⟩
def lawH (h : Int) : Cargo := lawC (if 0 ≤ h then [⟨0, h, false⟩] else [])

set_option maxRecDepth 100000 in
theorem ex_turns : turnsV (lawC []) 0 = (([2, 4], 1), 0) ∧ turnsV (lawC []) 1 = (([4, 6], 1), 0) ∧ turnsV (lawC []) 2 = (([0, 0], 2), 0) ∧ turnsV (lawC [⟨0, 3, false⟩]) 1 = (([6, 6], 1), 0) ∧ turnsV (lawC [⟨0, 4, false⟩]) 0 = (([0, 0], 0), 8) :=
  ⟨by kernel_rfl, by kernel_rfl, by kernel_rfl, by kernel_rfl, by kernel_rfl⟩
theorem ex_safe : safeV (lawC []) 3 = ([1, 2], 0) ∧ safeV (lawC []) 4 = ([2], 0) := ⟨by kernel_rfl, by kernel_rfl⟩
theorem ex_first : firstV (lawC []) 0 = ([0], 0) ∧ firstV (lawC []) 1 = ([], 0) := ⟨by kernel_rfl, by kernel_rfl⟩
theorem ex_spoils : spoilsV (lawC []) 0 1 = (1, 0) ∧ spoilsV (lawC []) 1 0 = (2, 0) ∧ spoilsV (lawC []) 1 1 = (0, 2) := ⟨by kernel_rfl, by kernel_rfl, by kernel_rfl⟩
theorem ex_put : putV (lawC []) 8 8 1 5 = ([1], 0) := by kernel_rfl
theorem ex_out : outV (lawC []) 0 4 = ([0], 0) ∧ outV (lawC []) 0 5 = ([0, 1], 0) := ⟨by kernel_rfl, by kernel_rfl⟩
theorem ex_wrong : wrongV (lawC [⟨0, 4, false⟩]) = ([0], 0) ∧ wrongV (lawC [⟨0, 3, false⟩]) = ([], 0) := ⟨by kernel_rfl, by kernel_rfl⟩

set_option maxHeartbeats 1600000 in
set_option maxRecDepth 100000 in
theorem cargo_any (h : Int) (w : World) : Calls Try.prog 34 #[.int .i64 h] w fun e w' => ∃ A1 A2 A3 A4 c1 c2 c3 c4, e = .returned (cargoVal (lawH h) A1 A2 A3 A4 c1 c2 c3 c4) ∧ CargoV w' w'.heap.size (lawH h) A1 A2 A3 A4 c1 c2 c3 c4 ∧ Below w.heap.size w w' := by
  go_enter Try.func34, Try.ntmps34
  go_wp2_with fail
  have hb1 : Below w.heap.size w ((w.alloc (.cells #[.slice none 0 0, .int .i64 0, .slice none 0 0, .slice none 0 0, .slice none 0 0] 27)).alloc (.cells #[.int .i64 0, .int .i64 0, .int .i64 0, .int .i64 1, .int .i64 0, .int .i64 0] 3)) := ((Below.refl _ _).alloc (Nat.le_refl _) _).alloc (by simp) _
  have hcl : ∀ o : Nat, ((w.alloc (.cells #[.slice none 0 0, .int .i64 0, .slice none 0 0, .slice none 0 0, .slice none 0 0] 27)).alloc (.cells #[.int .i64 0, .int .i64 0, .int .i64 0, .int .i64 1, .int .i64 0, .int .i64 0] 3)).cell? ⟨w.heap.size, o, none⟩ = (#[Value.slice none 0 0, .int .i64 0, .slice none 0 0, .slice none 0 0, .slice none 0 0])[o]? := fun o => by
    rw [World.cell?_alloc_past _ _ _ (by simp), World.cell?_alloc_at _ _ _ _ rfl]
  have hfr : ∀ o : Nat, ((w.alloc (.cells #[.slice none 0 0, .int .i64 0, .slice none 0 0, .slice none 0 0, .slice none 0 0] 27)).alloc (.cells #[.int .i64 0, .int .i64 0, .int .i64 0, .int .i64 1, .int .i64 0, .int .i64 0] 3)).frozen? ⟨w.heap.size, o, none⟩ = false := fun o => by
    rw [World.frozen?_alloc_past _ _ _ (by simp)]; exact World.frozen?_alloc_at _ _ _ _ rfl
  have r1 : Row ((w.alloc (.cells #[.slice none 0 0, .int .i64 0, .slice none 0 0, .slice none 0 0, .slice none 0 0] 27)).alloc (.cells #[.int .i64 0, .int .i64 0, .int .i64 0, .int .i64 1, .int .i64 0, .int .i64 0] 3)) (w.heap.size + 1 + 1) (some ⟨w.heap.size + 1, 0, none⟩) 6 (intsF [0, 0, 0, 1, 0, 0]) := by
    have := row_lit (w := (w.alloc (.cells #[.slice none 0 0, .int .i64 0, .slice none 0 0, .slice none 0 0, .slice none 0 0] 27))) 3 #[.int .i64 0, .int .i64 0, .int .i64 0, .int .i64 1, .int .i64 0, .int .i64 0] (n := 6) (f := intsF [0, 0, 0, 1, 0, 0]) (fun j hj => by
      match j, hj with
      | 0, _ => rfl
      | 1, _ => rfl
      | 2, _ => rfl
      | 3, _ => rfl
      | 4, _ => rfl
      | 5, _ => rfl)
    simpa using this
  have hz1 : ((w.alloc (.cells #[.slice none 0 0, .int .i64 0, .slice none 0 0, .slice none 0 0, .slice none 0 0] 27)).alloc (.cells #[.int .i64 0, .int .i64 0, .int .i64 0, .int .i64 1, .int .i64 0, .int .i64 0] 3)).heap.size = w.heap.size + 1 + 1 := by simp
  have HB1 := hide hb1
  have HCL := hide hcl
  have HFR := hide hfr
  have HR1 := hide r1
  have HZ1 := hide hz1
  clear hb1 hcl hfr r1 hz1
  generalize ((w.alloc (.cells #[.slice none 0 0, .int .i64 0, .slice none 0 0, .slice none 0 0, .slice none 0 0] 27)).alloc (.cells #[.int .i64 0, .int .i64 0, .int .i64 0, .int .i64 1, .int .i64 0, .int .i64 0] 3)) = w1 at *
  refine (span_any 1 2 _).mono ?_
  rintro e w2 ⟨rfl, hb2⟩
  go_wp2_with fail
  refine (span_any 1 1 _).mono ?_
  rintro e w3 ⟨rfl, hb3⟩
  go_wp2_with fail
  have r2 : Row (w3.alloc (.cells #[.int .i64 1, .int .i64 2, .int .i64 1, .int .i64 1] 32)) (w3.heap.size + 1) (some ⟨w3.heap.size, 0, none⟩) 4 (spansF [⟨1, 2⟩, ⟨1, 1⟩]) := row_lit 32 #[.int .i64 1, .int .i64 2, .int .i64 1, .int .i64 1] (fun j hj => by
      match j, hj with
      | 0, _ => rfl
      | 1, _ => rfl
      | 2, _ => rfl
      | 3, _ => rfl)
  have hb4 : Below w3.heap.size w3 (w3.alloc (.cells #[.int .i64 1, .int .i64 2, .int .i64 1, .int .i64 1] 32)) := (Below.refl _ _).alloc (Nat.le_refl _) _
  have hz4 : (w3.alloc (.cells #[.int .i64 1, .int .i64 2, .int .i64 1, .int .i64 1] 32)).heap.size = w3.heap.size + 1 := by simp
  generalize (w3.alloc (.cells #[.int .i64 1, .int .i64 2, .int .i64 1, .int .i64 1] 32)) = w4 at *
  refine (span_any 4 5 _).mono ?_
  rintro e w5 ⟨rfl, hb5⟩
  go_wp2_with fail
  refine (span_any 10 10 _).mono ?_
  rintro e w5' ⟨rfl, hb5'⟩
  go_wp2_with fail
  refine (span_any 6 6 _).mono ?_
  rintro e w6 ⟨rfl, hb6⟩
  have hz2 := hb2.size
  have hz3 := hb3.size
  have hz5 := hb5.size
  have hz5' := hb5'.size
  have hz6 := hb6.size
  have HZ4 := hide hz4
  have hz4' : w3.heap.size < w4.heap.size := by omega
  have hz1' : w.heap.size + 1 < w1.heap.size := by have := HZ1.out; omega
  clear hz4
  have hb16 : Below w1.heap.size w1 w6 := hb2.trans ((hb3.trans ((hb4.trans ((hb5.trans ((hb5'.trans (hb6.mono hz5')).mono hz5)).mono (by omega))).mono hz3)).mono hz2)
  have hb46 : Below w4.heap.size w4 w6 := hb5.trans ((hb5'.trans (hb6.mono hz5')).mono hz5)
  have HB16 := hide (HB1.out.trans (hb16.mono (by omega)))
  have HR1 := hide (HR1.out.below (hb16.mono (by have := HZ1.out; omega)))
  have HR2 := hide (r2.below (hb46.mono (by have := HZ4.out; omega)))
  have c0 := (hb16.cell (p := ⟨w.heap.size, 0, none⟩) (by show w.heap.size < _; omega)).trans (HCL.out 0)
  have c1 := (hb16.cell (p := ⟨w.heap.size, 1, none⟩) (by show w.heap.size < _; omega)).trans (HCL.out 1)
  have c2 := (hb16.cell (p := ⟨w.heap.size, 2, none⟩) (by show w.heap.size < _; omega)).trans (HCL.out 2)
  have c3 := (hb16.cell (p := ⟨w.heap.size, 3, none⟩) (by show w.heap.size < _; omega)).trans (HCL.out 3)
  have c4 := (hb16.cell (p := ⟨w.heap.size, 4, none⟩) (by show w.heap.size < _; omega)).trans (HCL.out 4)
  simp only [List.getElem?_toArray, List.getElem?_cons_succ, List.getElem?_cons_zero] at c0 c1 c2 c3 c4
  have f0 := (hb16.frozen (p := ⟨w.heap.size, 0, none⟩) (by show w.heap.size < _; omega)).trans (HFR.out 0)
  have f1 := (hb16.frozen (p := ⟨w.heap.size, 1, none⟩) (by show w.heap.size < _; omega)).trans (HFR.out 1)
  have f2 := (hb16.frozen (p := ⟨w.heap.size, 2, none⟩) (by show w.heap.size < _; omega)).trans (HFR.out 2)
  have f3 := (hb16.frozen (p := ⟨w.heap.size, 3, none⟩) (by show w.heap.size < _; omega)).trans (HFR.out 3)
  have f4 := (hb16.frozen (p := ⟨w.heap.size, 4, none⟩) (by show w.heap.size < _; omega)).trans (HFR.out 4)
  have zz : w.heap.size < w6.heap.size := by omega
  have zz1 : w.heap.size + 1 < w6.heap.size := by omega
  have zz3 : w3.heap.size < w6.heap.size := by omega
  have zw3 : w.heap.size + 1 < w3.heap.size := by omega
  clear hb16 hb46 hb2 hb3 hb4 hb5 hb5' hb6 r2 hz2 hz3 hz5 hz5' hz6 hz4' hz1' HB1 HCL HFR HZ1 HZ4
  go_upto_region 2 with (fail)
  have hb7 : Below w6.heap.size w6 ((w6.alloc (.cells #[.int .i64 0, .int .i64 0, .int .i64 4, .int .i64 5, .int .i64 0, .int .i64 0, .int .i64 10, .int .i64 10, .int .i64 1, .int .i64 2, .int .i64 6, .int .i64 6] 57)).alloc (.cells #[.slice (some ⟨w.heap.size + 1, 0, none⟩) 6 6, .int .i64 2, .slice (some ⟨w3.heap.size, 0, none⟩) 2 2, .slice (some ⟨w6.heap.size, 0, none⟩) 3 3, .slice none 0 0] 27)) := ((Below.refl _ _).alloc (Nat.le_refl _) _).alloc (by simp) _
  have r3 : Row ((w6.alloc (.cells #[.int .i64 0, .int .i64 0, .int .i64 4, .int .i64 5, .int .i64 0, .int .i64 0, .int .i64 10, .int .i64 10, .int .i64 1, .int .i64 2, .int .i64 6, .int .i64 6] 57)).alloc (.cells #[.slice (some ⟨w.heap.size + 1, 0, none⟩) 6 6, .int .i64 2, .slice (some ⟨w3.heap.size, 0, none⟩) 2 2, .slice (some ⟨w6.heap.size, 0, none⟩) 3 3, .slice none 0 0] 27)) (w6.heap.size + 1) (some ⟨w6.heap.size, 0, none⟩) 12 (lotsF [⟨0, 0, ⟨4, 5⟩⟩, ⟨0, 0, ⟨10, 10⟩⟩, ⟨1, 2, ⟨6, 6⟩⟩]) := (row_lit (w := w6) 57 #[.int .i64 0, .int .i64 0, .int .i64 4, .int .i64 5, .int .i64 0, .int .i64 0, .int .i64 10, .int .i64 10, .int .i64 1, .int .i64 2, .int .i64 6, .int .i64 6] (fun j hj => by
      match j, hj with
      | 0, _ => rfl
      | 1, _ => rfl
      | 2, _ => rfl
      | 3, _ => rfl
      | 4, _ => rfl
      | 5, _ => rfl
      | 6, _ => rfl
      | 7, _ => rfl
      | 8, _ => rfl
      | 9, _ => rfl
      | 10, _ => rfl
      | 11, _ => rfl)).below ((Below.refl _ _).alloc (by simp) _)
  have dd : ∀ o : Nat, ((w6.alloc (.cells #[.int .i64 0, .int .i64 0, .int .i64 4, .int .i64 5, .int .i64 0, .int .i64 0, .int .i64 10, .int .i64 10, .int .i64 1, .int .i64 2, .int .i64 6, .int .i64 6] 57)).alloc (.cells #[.slice (some ⟨w.heap.size + 1, 0, none⟩) 6 6, .int .i64 2, .slice (some ⟨w3.heap.size, 0, none⟩) 2 2, .slice (some ⟨w6.heap.size, 0, none⟩) 3 3, .slice none 0 0] 27)).cell? ⟨w6.heap.size + 1, o, none⟩ = (#[.slice (some ⟨w.heap.size + 1, 0, none⟩) 6 6, .int .i64 2, .slice (some ⟨w3.heap.size, 0, none⟩) 2 2, .slice (some ⟨w6.heap.size, 0, none⟩) 3 3, .slice none 0 0] : Array Value)[o]? := fun o => by rw [World.cell?_alloc_at _ _ _ _ (by simp)]
  have df : ((w6.alloc (.cells #[.int .i64 0, .int .i64 0, .int .i64 4, .int .i64 5, .int .i64 0, .int .i64 0, .int .i64 10, .int .i64 10, .int .i64 1, .int .i64 2, .int .i64 6, .int .i64 6] 57)).alloc (.cells #[.slice (some ⟨w.heap.size + 1, 0, none⟩) 6 6, .int .i64 2, .slice (some ⟨w3.heap.size, 0, none⟩) 2 2, .slice (some ⟨w6.heap.size, 0, none⟩) 3 3, .slice none 0 0] 27)).frozen? ⟨w6.heap.size + 1, 4, none⟩ = false := World.frozen?_alloc_at _ _ _ _ (by simp)
  have hz7 : ((w6.alloc (.cells #[.int .i64 0, .int .i64 0, .int .i64 4, .int .i64 5, .int .i64 0, .int .i64 0, .int .i64 10, .int .i64 10, .int .i64 1, .int .i64 2, .int .i64 6, .int .i64 6] 57)).alloc (.cells #[.slice (some ⟨w.heap.size + 1, 0, none⟩) 6 6, .int .i64 2, .slice (some ⟨w3.heap.size, 0, none⟩) 2 2, .slice (some ⟨w6.heap.size, 0, none⟩) 3 3, .slice none 0 0] 27)).heap.size = w6.heap.size + 1 + 1 := by simp
  generalize ((w6.alloc (.cells #[.int .i64 0, .int .i64 0, .int .i64 4, .int .i64 5, .int .i64 0, .int .i64 0, .int .i64 10, .int .i64 10, .int .i64 1, .int .i64 2, .int .i64 6, .int .i64 6] 57)).alloc (.cells #[.slice (some ⟨w.heap.size + 1, 0, none⟩) 6 6, .int .i64 2, .slice (some ⟨w3.heap.size, 0, none⟩) 2 2, .slice (some ⟨w6.heap.size, 0, none⟩) 3 3, .slice none 0 0] 27)) = w7 at *
  have c0 := (hb7.cell (p := ⟨w.heap.size, 0, none⟩) zz).trans c0
  have c1 := (hb7.cell (p := ⟨w.heap.size, 1, none⟩) zz).trans c1
  have c2 := (hb7.cell (p := ⟨w.heap.size, 2, none⟩) zz).trans c2
  have c3 := (hb7.cell (p := ⟨w.heap.size, 3, none⟩) zz).trans c3
  have c4 := (hb7.cell (p := ⟨w.heap.size, 4, none⟩) zz).trans c4
  have f0 := (hb7.frozen (p := ⟨w.heap.size, 0, none⟩) zz).trans f0
  have f1 := (hb7.frozen (p := ⟨w.heap.size, 1, none⟩) zz).trans f1
  have f2 := (hb7.frozen (p := ⟨w.heap.size, 2, none⟩) zz).trans f2
  have f3 := (hb7.frozen (p := ⟨w.heap.size, 3, none⟩) zz).trans f3
  have f4 := (hb7.frozen (p := ⟨w.heap.size, 4, none⟩) zz).trans f4
  have d0 := dd 0
  have d1 := dd 1
  have d2 := dd 2
  have d3 := dd 3
  have d4 := dd 4
  simp only [List.getElem?_toArray, List.getElem?_cons_succ, List.getElem?_cons_zero] at d0 d1 d2 d3 d4
  have zz7 : w.heap.size < w7.heap.size := by omega
  have zz8 : w6.heap.size + 1 < w7.heap.size := by omega
  have HB7 := hide (HB16.out.trans (hb7.mono (by omega)))
  have HR1 := hide (HR1.out.below (hb7.mono (by omega)))
  have HR2 := hide (HR2.out.below (hb7.mono (by omega)))
  have HR3 := hide r3
  have HLA := hide (show lawH h = lawC (if 0 ≤ h then [⟨0, h, false⟩] else []) from rfl)
  clear dd hb7 r3 hz7 HB16
  by_cases hh : 0 ≤ h
  · have HL := hide (show lawH h = lawC [⟨0, h, false⟩] by rw [HLA.out, if_pos hh])
    go_wp2_with fail
    have hk8 : Keep (fun q => q = w6.heap.size + 1) w7 (w7.setCell ⟨w6.heap.size + 1, 4, none⟩ (.slice (some ⟨w7.heap.size, 0, none⟩) 1 1)) := Keep.setCell _ _ _ (fun q => q = w6.heap.size + 1) rfl
    have hk9 := keep5 (w7.setCell ⟨w6.heap.size + 1, 4, none⟩ (.slice (some ⟨w7.heap.size, 0, none⟩) 1 1)) w.heap.size (.slice (some ⟨w.heap.size + 1, 0, none⟩) 6 6) (.int .i64 2) (.slice (some ⟨w3.heap.size, 0, none⟩) 2 2) (.slice (some ⟨w6.heap.size, 0, none⟩) 3 3) (.slice (some ⟨w7.heap.size, 0, none⟩) 1 1)
    have hkF : Keep (fun q => q = w.heap.size ∨ q = w6.heap.size + 1) w7 (((((((w7.setCell ⟨w6.heap.size + 1, 4, none⟩ (.slice (some ⟨w7.heap.size, 0, none⟩) 1 1)).setCell ⟨w.heap.size, 0, none⟩ (.slice (some ⟨w.heap.size + 1, 0, none⟩) 6 6)).setCell ⟨w.heap.size, 1, none⟩ (.int .i64 2)).setCell ⟨w.heap.size, 2, none⟩ (.slice (some ⟨w3.heap.size, 0, none⟩) 2 2)).setCell ⟨w.heap.size, 3, none⟩ (.slice (some ⟨w6.heap.size, 0, none⟩) 3 3)).setCell ⟨w.heap.size, 4, none⟩ (.slice (some ⟨w7.heap.size, 0, none⟩) 1 1)).alloc (.cells #[.int .i64 0, .int .i64 h, .bool false] 80)) := ((hk8.mono (fun q _ e => .inr e)).trans (hk9.mono (fun q _ e => .inl e))).trans (Keep.alloc _ _ _)
    have hBF : Below w.heap.size w (((((((w7.setCell ⟨w6.heap.size + 1, 4, none⟩ (.slice (some ⟨w7.heap.size, 0, none⟩) 1 1)).setCell ⟨w.heap.size, 0, none⟩ (.slice (some ⟨w.heap.size + 1, 0, none⟩) 6 6)).setCell ⟨w.heap.size, 1, none⟩ (.int .i64 2)).setCell ⟨w.heap.size, 2, none⟩ (.slice (some ⟨w3.heap.size, 0, none⟩) 2 2)).setCell ⟨w.heap.size, 3, none⟩ (.slice (some ⟨w6.heap.size, 0, none⟩) 3 3)).setCell ⟨w.heap.size, 4, none⟩ (.slice (some ⟨w7.heap.size, 0, none⟩) 1 1)).alloc (.cells #[.int .i64 0, .int .i64 h, .bool false] 80)) := HB7.out.trans (hkF.below (fun k h => by rcases h with h | h <;> omega) (by omega))
    have hr4 : Row (((((((w7.setCell ⟨w6.heap.size + 1, 4, none⟩ (.slice (some ⟨w7.heap.size, 0, none⟩) 1 1)).setCell ⟨w.heap.size, 0, none⟩ (.slice (some ⟨w.heap.size + 1, 0, none⟩) 6 6)).setCell ⟨w.heap.size, 1, none⟩ (.int .i64 2)).setCell ⟨w.heap.size, 2, none⟩ (.slice (some ⟨w3.heap.size, 0, none⟩) 2 2)).setCell ⟨w.heap.size, 3, none⟩ (.slice (some ⟨w6.heap.size, 0, none⟩) 3 3)).setCell ⟨w.heap.size, 4, none⟩ (.slice (some ⟨w7.heap.size, 0, none⟩) 1 1)).alloc (.cells #[.int .i64 0, .int .i64 h, .bool false] 80)) (((((((w7.setCell ⟨w6.heap.size + 1, 4, none⟩ (.slice (some ⟨w7.heap.size, 0, none⟩) 1 1)).setCell ⟨w.heap.size, 0, none⟩ (.slice (some ⟨w.heap.size + 1, 0, none⟩) 6 6)).setCell ⟨w.heap.size, 1, none⟩ (.int .i64 2)).setCell ⟨w.heap.size, 2, none⟩ (.slice (some ⟨w3.heap.size, 0, none⟩) 2 2)).setCell ⟨w.heap.size, 3, none⟩ (.slice (some ⟨w6.heap.size, 0, none⟩) 3 3)).setCell ⟨w.heap.size, 4, none⟩ (.slice (some ⟨w7.heap.size, 0, none⟩) 1 1)).heap.size + 1) (some ⟨((((((w7.setCell ⟨w6.heap.size + 1, 4, none⟩ (.slice (some ⟨w7.heap.size, 0, none⟩) 1 1)).setCell ⟨w.heap.size, 0, none⟩ (.slice (some ⟨w.heap.size + 1, 0, none⟩) 6 6)).setCell ⟨w.heap.size, 1, none⟩ (.int .i64 2)).setCell ⟨w.heap.size, 2, none⟩ (.slice (some ⟨w3.heap.size, 0, none⟩) 2 2)).setCell ⟨w.heap.size, 3, none⟩ (.slice (some ⟨w6.heap.size, 0, none⟩) 3 3)).setCell ⟨w.heap.size, 4, none⟩ (.slice (some ⟨w7.heap.size, 0, none⟩) 1 1)).heap.size, 0, none⟩) 3 (seenF [⟨0, h, false⟩]) := row_lit 80 #[.int .i64 0, .int .i64 h, .bool false] (fun j hj => by
      match j, hj with
      | 0, _ => rfl
      | 1, _ => rfl
      | 2, _ => rfl)
    have hzs : ((((((w7.setCell ⟨w6.heap.size + 1, 4, none⟩ (.slice (some ⟨w7.heap.size, 0, none⟩) 1 1)).setCell ⟨w.heap.size, 0, none⟩ (.slice (some ⟨w.heap.size + 1, 0, none⟩) 6 6)).setCell ⟨w.heap.size, 1, none⟩ (.int .i64 2)).setCell ⟨w.heap.size, 2, none⟩ (.slice (some ⟨w3.heap.size, 0, none⟩) 2 2)).setCell ⟨w.heap.size, 3, none⟩ (.slice (some ⟨w6.heap.size, 0, none⟩) 3 3)).setCell ⟨w.heap.size, 4, none⟩ (.slice (some ⟨w7.heap.size, 0, none⟩) 1 1)).heap.size = w7.heap.size := by simp
    rw [hzs] at hr4
    have hg := cells5 (w := (w7.setCell ⟨w6.heap.size + 1, 4, none⟩ (.slice (some ⟨w7.heap.size, 0, none⟩) 1 1))) (g := w.heap.size) (.slice (some ⟨w.heap.size + 1, 0, none⟩) 6 6) (.int .i64 2) (.slice (some ⟨w3.heap.size, 0, none⟩) 2 2) (.slice (some ⟨w6.heap.size, 0, none⟩) 3 3) (.slice (some ⟨w7.heap.size, 0, none⟩) 1 1) ⟨_, (hk8.cell (by omega) (by omega)).trans c0⟩ ⟨_, (hk8.cell (by omega) (by omega)).trans c1⟩ ⟨_, (hk8.cell (by omega) (by omega)).trans c2⟩ ⟨_, (hk8.cell (by omega) (by omega)).trans c3⟩ ⟨_, (hk8.cell (by omega) (by omega)).trans c4⟩
    have hg2 : ∀ o, (((((((w7.setCell ⟨w6.heap.size + 1, 4, none⟩ (.slice (some ⟨w7.heap.size, 0, none⟩) 1 1)).setCell ⟨w.heap.size, 0, none⟩ (.slice (some ⟨w.heap.size + 1, 0, none⟩) 6 6)).setCell ⟨w.heap.size, 1, none⟩ (.int .i64 2)).setCell ⟨w.heap.size, 2, none⟩ (.slice (some ⟨w3.heap.size, 0, none⟩) 2 2)).setCell ⟨w.heap.size, 3, none⟩ (.slice (some ⟨w6.heap.size, 0, none⟩) 3 3)).setCell ⟨w.heap.size, 4, none⟩ (.slice (some ⟨w7.heap.size, 0, none⟩) 1 1)).alloc (.cells #[.int .i64 0, .int .i64 h, .bool false] 80)).cell? ⟨w.heap.size, o, none⟩ = ((((((w7.setCell ⟨w6.heap.size + 1, 4, none⟩ (.slice (some ⟨w7.heap.size, 0, none⟩) 1 1)).setCell ⟨w.heap.size, 0, none⟩ (.slice (some ⟨w.heap.size + 1, 0, none⟩) 6 6)).setCell ⟨w.heap.size, 1, none⟩ (.int .i64 2)).setCell ⟨w.heap.size, 2, none⟩ (.slice (some ⟨w3.heap.size, 0, none⟩) 2 2)).setCell ⟨w.heap.size, 3, none⟩ (.slice (some ⟨w6.heap.size, 0, none⟩) 3 3)).setCell ⟨w.heap.size, 4, none⟩ (.slice (some ⟨w7.heap.size, 0, none⟩) 1 1)).cell? ⟨w.heap.size, o, none⟩ := fun o => World.cell?_alloc_past _ _ _ (by rw [hzs]; exact zz7)
    have g0 := (hg2 0).trans hg.1
    have g1 := (hg2 1).trans hg.2.1
    have g2 := (hg2 2).trans hg.2.2.1
    have g3 := (hg2 3).trans hg.2.2.2.1
    have g4 := (hg2 4).trans hg.2.2.2.2
    have hzF : (((((((w7.setCell ⟨w6.heap.size + 1, 4, none⟩ (.slice (some ⟨w7.heap.size, 0, none⟩) 1 1)).setCell ⟨w.heap.size, 0, none⟩ (.slice (some ⟨w.heap.size + 1, 0, none⟩) 6 6)).setCell ⟨w.heap.size, 1, none⟩ (.int .i64 2)).setCell ⟨w.heap.size, 2, none⟩ (.slice (some ⟨w3.heap.size, 0, none⟩) 2 2)).setCell ⟨w.heap.size, 3, none⟩ (.slice (some ⟨w6.heap.size, 0, none⟩) 3 3)).setCell ⟨w.heap.size, 4, none⟩ (.slice (some ⟨w7.heap.size, 0, none⟩) 1 1)).alloc (.cells #[.int .i64 0, .int .i64 h, .bool false] 80)).heap.size = w7.heap.size + 1 := by simp
    clear hg hg2 hzs hk9
    generalize (((((((w7.setCell ⟨w6.heap.size + 1, 4, none⟩ (.slice (some ⟨w7.heap.size, 0, none⟩) 1 1)).setCell ⟨w.heap.size, 0, none⟩ (.slice (some ⟨w.heap.size + 1, 0, none⟩) 6 6)).setCell ⟨w.heap.size, 1, none⟩ (.int .i64 2)).setCell ⟨w.heap.size, 2, none⟩ (.slice (some ⟨w3.heap.size, 0, none⟩) 2 2)).setCell ⟨w.heap.size, 3, none⟩ (.slice (some ⟨w6.heap.size, 0, none⟩) 3 3)).setCell ⟨w.heap.size, 4, none⟩ (.slice (some ⟨w7.heap.size, 0, none⟩) 1 1)).alloc (.cells #[.int .i64 0, .int .i64 h, .bool false] 80)) = X at *
    refine bodyPost_ret (v := .agg #[.slice (some ⟨w.heap.size + 1, 0, none⟩) 6 6, .int .i64 2, .slice (some ⟨w3.heap.size, 0, none⟩) 2 2, .slice (some ⟨w6.heap.size, 0, none⟩) 3 3, .slice (some ⟨w7.heap.size, 0, none⟩) 1 1]) ?_ rfl ?_
    · simp [results, Try.results34, go_sem, g0, g1, g2, g3, g4]
    · rw [HL.out]
      exact ⟨some ⟨w.heap.size + 1, 0, none⟩, some ⟨w3.heap.size, 0, none⟩, some ⟨w6.heap.size, 0, none⟩, some ⟨w7.heap.size, 0, none⟩, 6, 2, 3, 1, rfl, ⟨(row_keep1 HR1.out (fun o => hkF.cell (by omega) (by omega))).more (by omega), (row_keep1 HR2.out (fun o => hkF.cell (by omega) (by omega))).more (by omega), (row_keep1 HR3.out (fun o => hkF.cell (by omega) (by omega))).more (by omega), hr4.more (by omega), ⟨Nat.le_refl 6, by decide⟩, ⟨Nat.le_refl 2, by decide⟩, ⟨Nat.le_refl 3, by decide⟩, ⟨Nat.le_refl 1, by decide⟩⟩, hBF⟩
  · have hh1 : decide (0 ≤ h) = false := by simpa using hh
    have HL := hide (show lawH h = lawC [] by rw [HLA.out, if_neg hh])
    go_wp2_with fail
    have hkF := keep5 (w7) w.heap.size (.slice (some ⟨w.heap.size + 1, 0, none⟩) 6 6) (.int .i64 2) (.slice (some ⟨w3.heap.size, 0, none⟩) 2 2) (.slice (some ⟨w6.heap.size, 0, none⟩) 3 3) (.slice none 0 0)
    have hBF : Below w.heap.size w (((((w7.setCell ⟨w.heap.size, 0, none⟩ (.slice (some ⟨w.heap.size + 1, 0, none⟩) 6 6)).setCell ⟨w.heap.size, 1, none⟩ (.int .i64 2)).setCell ⟨w.heap.size, 2, none⟩ (.slice (some ⟨w3.heap.size, 0, none⟩) 2 2)).setCell ⟨w.heap.size, 3, none⟩ (.slice (some ⟨w6.heap.size, 0, none⟩) 3 3)).setCell ⟨w.heap.size, 4, none⟩ (.slice none 0 0)) := HB7.out.trans (hkF.below (fun k h => Nat.le_of_eq (Eq.symm h)) (by omega))
    refine bodyPost_ret (v := .agg #[.slice (some ⟨w.heap.size + 1, 0, none⟩) 6 6, .int .i64 2, .slice (some ⟨w3.heap.size, 0, none⟩) 2 2, .slice (some ⟨w6.heap.size, 0, none⟩) 3 3, .slice none 0 0]) ?_ rfl ?_
    · simp [results, Try.results34, go_sem, c0, c1, c2, c3, c4, f0, f1, f2, f3, f4]
    · rw [HL.out]
      have hzF := hkF.size
      exact ⟨some ⟨w.heap.size + 1, 0, none⟩, some ⟨w3.heap.size, 0, none⟩, some ⟨w6.heap.size, 0, none⟩, none, 6, 2, 3, 0, rfl, ⟨(row_keep1 HR1.out (fun o => hkF.cell (by omega) (by omega))).more (by omega), (row_keep1 HR2.out (fun o => hkF.cell (by omega) (by omega))).more (by omega), (row_keep1 HR3.out (fun o => hkF.cell (by omega) (by omega))).more (by omega), Row.nil_, by decide, by decide, by decide, by decide⟩, hBF⟩
end Go.Proofs.Ytbkknliggnhpcaa
