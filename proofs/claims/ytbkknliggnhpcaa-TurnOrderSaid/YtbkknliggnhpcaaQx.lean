/- What Turns and Safe say of a valid cargo that has a truth. -/
import Derived.Test.YtbkknliggnhpcaaQs
import Derived.Test.YtbkknliggnhpcaaQv
import Derived.Test.YtbkknliggnhpcaaPc
set_option linter.unusedVariables false
set_option linter.unusedSimpArgs false
namespace Go.Proofs.Ytbkknliggnhpcaa

theorem hourE_ok {c : Cargo} {n : Int} (h : 0 ≤ n ∧ n ≤ c.heat.length) : hourE c n 0 = 0 := by
  rw [hourE, if_neg (fun h' => by rw [offP_ok h] at h'; simp at h')]
theorem truthE_ok {c : Cargo} (h : someM c [] = true) : truthE c 0 = 0 := by
  rw [truthE, if_neg (fun h' => by rw [h] at h'; simp at h')]
theorem indexE_ok {c : Cargo} (hv : Valid c) {n below : Int} (h : 0 ≤ n ∧ n < below) : indexE c n below = 0 := by
  rw [indexE, if_pos (valid_check hv), offP_ok (by omega)]; rfl
theorem safeE_ok {c : Cargo} (hv : Valid c) (hs : someM c [] = true) {at_ : Int} (h : 0 ≤ at_ ∧ at_ ≤ c.heat.length) : safeE c at_ = 0 := by
  rw [safeE, valid_check hv, hourE_ok h, truthE_ok hs]
theorem turnsE_ok {c : Cargo} (hv : Valid c) (hs : someM c [] = true) {i : Nat} (h : i < c.lots.length) : turnsE c i = 0 := by
  rw [turnsE, indexE_ok hv (by omega), truthE_ok hs]
theorem firstE_ok7 {c : Cargo} (hv : Valid c) (hs : someM c [] = true) {hd : Nat} (h : hd < c.holds.length) : firstE7 c hd = 0 := by
  rw [firstE7, indexE_ok hv (by omega), truthE_ok hs]
theorem turnsR_ok {c : Cargo} (hv : Valid c) (hs : someM c [] = true) {i : Nat} (h : i < c.lots.length) :
    turnsR c i = ((((hoursM c i).foldl (spanStep c.heat.length) (true, [0, 0])).2, settledM (turnedH c.heat.length (hoursM c i)).length (hoursM c i).length), 0) := by
  rw [turnsR, if_neg (by rw [turnsE_ok hv hs h]; simp), Int.toNat_natCast]
theorem safeR_has {c : Cargo} (hv : Valid c) (hs : someM c [] = true) {at_ : Int} (h : 0 ≤ at_ ∧ at_ ≤ c.heat.length) {i : Nat} (hi : i < c.lots.length) : hasInt (natInts (safeR c at_)) i = greenM c i at_ := by
  rw [safeR, if_pos (safeE_ok hv hs h), safeM, safeTo, has_filter]; simp [hi]
theorem safeR_rising {c : Cargo} (hv : Valid c) (hs : someM c [] = true) {at_ : Int} (h : 0 ≤ at_ ∧ at_ ≤ c.heat.length) : risingB (natInts (safeR c at_)) (-1) c.lots.length = true := by
  rw [safeR, if_pos (safeE_ok hv hs h), safeM, safeTo]; exact rising_range _ _
end Go.Proofs.Ytbkknliggnhpcaa
