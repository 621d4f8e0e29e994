/- Contract of the law's later. -/
import Derived.Test.YtbkknliggnhpcaaWrapA
import Derived.Test.YtbkknliggnhpcaaQo
set_option linter.unusedVariables false
set_option linter.unusedSimpArgs false
namespace Go.Proofs.Ytbkknliggnhpcaa
open Go.RowKit
attribute [local go_sem ↓] Go.wp_at_zero Go.wp_at_succ

set_option maxHeartbeats 2000000 in
set_option maxRecDepth 100000 in
theorem later_any (p0 p1 m q0 q1 n : Int) (w : World) (h : laterB p0 p1 m q0 q1 n = true) :
    Calls Try.prog 54 #[.agg #[.int .i64 p0, .int .i64 p1], .int .i64 m, .agg #[.int .i64 q0, .int .i64 q1], .int .i64 n] w fun e w' => e = .returned (.bool true) ∧ Below w.heap.size w w' := by
  have hA1 : Below w.heap.size w (w.alloc (.cells #[.int .i64 p0, .int .i64 p1] 32)) := (Below.refl _ _).alloc (Nat.le_refl _) _
  have hA2 : Below (w.alloc (.cells #[.int .i64 p0, .int .i64 p1] 32)).heap.size (w.alloc (.cells #[.int .i64 p0, .int .i64 p1] 32)) ((w.alloc (.cells #[.int .i64 p0, .int .i64 p1] 32)).alloc (.cells #[.int .i64 q0, .int .i64 q1] 32)) := (Below.refl _ _).alloc (Nat.le_refl _) _
  have HP := hide ((BoxS.made (w := w) (a := p0) (b := p1)).next hA2)
  have HQ : Hid (BoxS ((w.alloc (.cells #[.int .i64 p0, .int .i64 p1] 32)).alloc (.cells #[.int .i64 q0, .int .i64 q1] 32)) (w.heap.size + 1) q0 q1) := hide (by have := BoxS.made (w := w.alloc (.cells #[.int .i64 p0, .int .i64 p1] 32)) (a := q0) (b := q1); simpa using this)
  have HB := hide (hA1.trans (hA2.mono hA1.size))
  have HL := hide h
  clear hA1 hA2 h
  go_enter Try.func54, Try.ntmps54
  go_upto_region 1 with (fail)
  generalize ((w.alloc (.cells #[.int .i64 p0, .int .i64 p1] 32)).alloc (.cells #[.int .i64 q0, .int .i64 q1] 32)) = v0 at *
  obtain ⟨zp, y0, y1⟩ := HP.out
  obtain ⟨zq, x0, x1⟩ := HQ.out
  have hl := HL.out
  rw [laterB] at hl
  cases e1 : (n == 2)
  · have f1 : ¬ n = 2 := by simpa using e1
    rw [if_neg f1] at hl
    clear f1
    cases e2 : (m == 2)
    · have hl2 : ((m != 1 || n == 1) && decide (q0 ≤ p0) && (m != 1 || decide (q1 ≤ p1))) = true := by rw [e2] at hl; simpa using hl
      simp only [Bool.and_eq_true] at hl2
      obtain ⟨⟨k1, k2⟩, k3⟩ := hl2
      have k2' : decide (p0 ≥ q0) = true := k2
      clear hl
      cases e3 : (m != 1)
      · have k1' : (n == 1) = true := by rw [e3] at k1; simpa using k1
        have k3' : decide (q1 ≤ p1) = true := by rw [e3] at k3; simpa using k3
        have k4' : decide (p1 ≥ q1) = true := k3'
        clear k1 k3
        go_wp2_with fail
        go_ret
        exact ⟨rfl, HB.out⟩
      · clear k1 k3
        go_wp2_with fail
        go_ret
        exact ⟨rfl, HB.out⟩
    · clear hl
      go_wp2_with fail
      go_ret
      exact ⟨rfl, HB.out⟩
  · have f1 : n = 2 := by simpa using e1
    rw [if_pos f1] at hl
    clear f1
    go_wp2_with fail
    go_ret
    exact ⟨rfl, HB.out⟩
end Go.Proofs.Ytbkknliggnhpcaa
