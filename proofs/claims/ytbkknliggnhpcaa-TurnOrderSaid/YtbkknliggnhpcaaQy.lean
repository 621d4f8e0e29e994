/- What Out finds lies among the lots of its hold. -/
import Derived.Test.YtbkknliggnhpcaaQv
import Derived.Test.YtbkknliggnhpcaaPi
set_option linter.unusedVariables false
set_option linter.unusedSimpArgs false
namespace Go.Proofs.Ytbkknliggnhpcaa

theorem mem_of_sub {c : Cargo} (hn : c.lots.length ≤ 4) {hd s : Nat} (hs : s < 2 ^ c.lots.length) (h : ((s &&& (31 - ofB c (hd : Int) c.lots.length)) == 0) = true) {q : Nat} (hq : q ∈ listN s c.lots.length) : q ∈ ofL c hd [] := by
  have h16 : 2 ^ c.lots.length ≤ 16 := Nat.pow_le_pow_right (by omega) hn
  have ha := ofB_lt c (hd : Int) c.lots.length
  rw [sub_zero (by omega) (by omega), List.all_eq_true] at h
  rw [listN, List.mem_filter, List.mem_range] at hq
  have h1 := h q (List.mem_range.2 (by omega))
  have hb : s.testBit q = true := by simpa using hq.2
  rw [hb] at h1
  rw [ofL_listN c hd hn, listN, List.mem_filter, List.mem_range]
  exact ⟨hq.1, by simpa using h1⟩
theorem outE_ok {c : Cargo} (hv : Valid c) (hs : someM c [] = true) {hd : Nat} (h : hd < c.holds.length) {un : Int} (hu : 0 ≤ un ∧ un ≤ c.heat.length) : outE7 c hd un = 0 := by
  have h1 : indexE c hd c.holds.length = 0 := by rw [indexE, if_pos (valid_check hv), offP_ok (by omega)]; rfl
  have h2 : hourE c un 0 = 0 := by rw [hourE, if_neg (fun h' => by rw [offP_ok hu] at h'; simp at h')]
  rw [outE7, h1, h2, truthE, if_neg (fun h' => by rw [hs] at h'; simp at h')]
end Go.Proofs.Ytbkknliggnhpcaa
