/- A looked-at file in memory; the contract of claim's look. -/
import Derived.Test.YtllmahcanipcpaaKL
set_option linter.unusedVariables false
set_option linter.unusedSimpArgs false
namespace Go.Proofs.Ytllmahcanipcpaa
open Go.RowKit

/-- Block b is a looked-at file: its five slices, the papers and claims left out, the map of what is known. -/
structure LookF (w : World) (b bm : Nat) (f : File) (a : FA) (but : Int) (V : List Int → Int) : Prop where
  v : FileV w w.heap.size f a
  q0 : w.cell? ⟨b, 0, none⟩ = some (.slice a.A1 f.parties.length a.c1)
  q1 : w.cell? ⟨b, 1, none⟩ = some (.slice a.A2 f.untils.length a.c2)
  q2 : w.cell? ⟨b, 2, none⟩ = some (.slice a.A3 f.lots.length a.c3)
  q3 : w.cell? ⟨b, 3, none⟩ = some (.slice a.A4 f.papers.length a.c4)
  q4 : w.cell? ⟨b, 4, none⟩ = some (.slice a.A5 f.claims.length a.c5)
  q5 : w.cell? ⟨b, 5, none⟩ = some (.int .i64 but)
  q6 : w.cell? ⟨b, 6, none⟩ = some (.map (some bm))
  k : Known w bm V
set_option maxHeartbeats 1000000 in
set_option maxRecDepth 100000 in
theorem look_any {w : World} {f : File} {a : FA} {but : Int} (h : FileV w w.heap.size f a) (V : List Int → Int) :
    Calls Try.prog 62 #[fileVal f a, .int .i64 but] w fun e w' => ∃ b bm, e = .returned (.pointer (some ⟨b, 0, none⟩)) ∧ w.heap.size ≤ b ∧ w.heap.size ≤ bm ∧ Below w.heap.size w w' ∧ LookF w' b bm f a but V := by
  have hmm := @run_makeMap Try.prog
  go_enter Try.func62, Try.ntmps62
  go_wp2_with fail
  refine bodyPost_ret (v := .pointer (some ⟨w.heap.size + 1 + 1, 0, none⟩)) (by simp [results, Try.results62, go_sem]) rfl ⟨w.heap.size + 1 + 1, w.heap.size + 1, rfl, by omega, by omega, ?_, ?_⟩
  · exact (((Below.refl _ _).alloc (Nat.le_refl _) _).alloc (by simp) _).alloc (by simp; omega) _
  · generalize hw1 : w.alloc (Obj.cells #[.slice a.A1 f.parties.length a.c1, .slice a.A2 f.untils.length a.c2, .slice a.A3 f.lots.length a.c3, .slice a.A4 f.papers.length a.c4, .slice a.A5 f.claims.length a.c5] 28) = wa
    have hs1 : wa.heap.size = w.heap.size + 1 := by rw [← hw1]; simp
    have hB1 : Below w.heap.size w wa := by rw [← hw1]; exact (Below.refl _ _).alloc (Nat.le_refl _) _
    rw [← hs1]
    have hB2 : Below wa.heap.size wa (wa.alloc (Obj.map #[] 0)) := (Below.refl _ _).alloc (Nat.le_refl _) _
    have hkn := known_made wa V
    generalize hw2 : wa.alloc (Obj.map #[] 0) = wb at *
    have hs2 : wb.heap.size = wa.heap.size + 1 := by rw [← hw2]; simp
    rw [← hs2]
    have q := @Blk.made wb 111 #[.slice a.A1 f.parties.length a.c1, .slice a.A2 f.untils.length a.c2, .slice a.A3 f.lots.length a.c3, .slice a.A4 f.papers.length a.c4, .slice a.A5 f.claims.length a.c5, .int .i64 but, .map (some wa.heap.size)]
    have hB3 : Below wb.heap.size wb (wb.alloc (Obj.cells #[.slice a.A1 f.parties.length a.c1, .slice a.A2 f.untils.length a.c2, .slice a.A3 f.lots.length a.c3, .slice a.A4 f.papers.length a.c4, .slice a.A5 f.claims.length a.c5, .int .i64 but, .map (some wa.heap.size)] 111)) := (Below.refl _ _).alloc (Nat.le_refl _) _
    exact ⟨((h.next hB1).next hB2).next hB3, q.at_ 0, q.at_ 1, q.at_ 2, q.at_ 3, q.at_ 4, q.at_ 5, q.at_ 6, hkn.block (hB3.block _ (by omega))⟩
set_option maxRecDepth 100000 in
theorem truths_any {w : World} {b : Nat} :
    Calls Try.prog 49 #[.pointer (some ⟨b, 0, none⟩)] w fun e w' => ∃ p1, e = .returned (.func (.func 77) #[] #[.pointer (some ⟨p1, 0, none⟩)]) ∧
      w.heap.size ≤ p1 ∧ p1 < w'.heap.size ∧ w'.cell? ⟨p1, 0, none⟩ = some (.pointer (some ⟨b, 0, none⟩)) ∧ Below w.heap.size w w' := by
  go_enter Try.func49, Try.ntmps49
  go_wp2_with fail
  go_ret
  refine ⟨w.heap.size, rfl, by omega, by simp, ?_, (Below.refl _ _).alloc (Nat.le_refl _) _⟩
  rw [World.cell?_alloc_at _ _ _ _ (by simp)]; rfl
end Go.Proofs.Ytllmahcanipcpaa
