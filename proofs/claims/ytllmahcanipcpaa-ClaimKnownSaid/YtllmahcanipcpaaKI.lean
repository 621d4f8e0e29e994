/- The contract of claim's with: who is where, in a state. -/
import Derived.Test.YtllmahcanipcpaaKH
set_option linter.unusedVariables false
set_option linter.unusedSimpArgs false
namespace Go.Proofs.Ytllmahcanipcpaa
open Go.RowKit

set_option maxHeartbeats 2000000 in
set_option maxRecDepth 100000 in
theorem with_any {w : World} {b k : Nat} {f : File} {a : FA} (h : FileV w w.heap.size f a) (e2 : w.cell? ⟨b, 2, none⟩ = some (.slice a.A3 f.lots.length a.c3)) (s0 s1 s2 s3 : Int) (hk : k < f.lots.length) (hk4 : k < 4) {j : Nat}
    (hs : nth [s0, s1, s2, s3] k = (j : Int)) (hj : j < (nth f.lots k).route.length) :
    Calls Try.prog 50 #[.pointer (some ⟨b, 0, none⟩), .agg #[.int .i64 s0, .int .i64 s1, .int .i64 s2, .int .i64 s3], .int .i64 (k : Int)] w fun e w' => e = .returned (.int .i64 (nth (nth f.lots k).route j)) ∧ Below w.heap.size w w' := by
  have hA : Below w.heap.size w (w.alloc (.cells #[.int .i64 s0, .int .i64 s1, .int .i64 s2, .int .i64 s3] 86)) := (Below.refl _ _).alloc (Nat.le_refl _) _
  have bk : Blk (w.alloc (.cells #[.int .i64 s0, .int .i64 s1, .int .i64 s2, .int .i64 s3] 86)) w.heap.size 86 #[.int .i64 s0, .int .i64 s1, .int .i64 s2, .int .i64 s3] := Blk.made
  have zb := cell_lt e2
  obtain ⟨b3, o3, hA3, hb3, y0, _, _, _⟩ := h.lots.lots hk
  obtain ⟨b4, o4, hA4, hb4, y4⟩ := (h.routes k hk).at_ hj
  have hm4 := (h.routes k hk).bd
  have hm3 := h.m3
  unfold maxLen at hm3
  rw [hA3] at e2
  rw [hA4] at y0
  have e2' := (hA.cell (p := ⟨b, 2, none⟩) zb).trans e2
  have y0' := (hA.cell (p := ⟨b3, o3 + k * 4, none⟩) hb3).trans y0
  have y4' := (hA.cell (p := ⟨b4, o4 + j, none⟩) hb4).trans y4
  have hkc : (w.alloc (.cells #[.int .i64 s0, .int .i64 s1, .int .i64 s2, .int .i64 s3] 86)).cell? ⟨w.heap.size, k, none⟩ = some (.int .i64 (j : Int)) := by
    rw [bk.at_, ← hs]
    match k, hk4 with
    | 0, _ => rfl
    | 1, _ => rfl
    | 2, _ => rfl
    | 3, _ => rfl
  have HB := hide hA
  have hz := bk.lt
  have hk0 : (0 : Int) ≤ (k : Int) := Int.natCast_nonneg _
  have hk1 : (k : Int) < (f.lots.length : Int) := by omega
  have hk2 : (k : Int) < 4 := by omega
  have hj0 : (0 : Int) ≤ (j : Int) := Int.natCast_nonneg _
  have hj1 : (j : Int) < ((nth f.lots k).route.length : Int) := by omega
  clear h hA bk hs e2 y0 y4 hA3 hA4 hb3 hb4 zb
  go_enter Try.func50, Try.ntmps50
  go_upto_region 1 with (fail)
  generalize (w.alloc (.cells #[.int .i64 s0, .int .i64 s1, .int .i64 s2, .int .i64 s3] 86)) = v0 at *
  go_quiet (fail)
  go_wp2_with fail
  go_ret
  exact ⟨rfl, ⟨HB.out.os, HB.out.tape, HB.out.output, HB.out.size, HB.out.block⟩⟩
end Go.Proofs.Ytllmahcanipcpaa
