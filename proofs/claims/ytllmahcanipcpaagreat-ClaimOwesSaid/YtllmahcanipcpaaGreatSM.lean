/- The plain law of chapter 11: what Pays and Held of the program say is what the reference says. -/
import Derived.Test.YtllmahcanipcpaaGreatJA
import Derived.Test.YtllmahcanipcpaaGreatSL
set_option linter.unusedVariables false
set_option linter.unusedSimpArgs false
namespace Go.Proofs.YtllmahcanipcpaaGreat
open Go.RowKit
theorem told3_map (f : File) (G : List (List Int)) (q : List Int → Bool) (hq : ∀ g, q (mkP f g) = q g) : told3 (G.map (mkP f)) q = told3 G q := by
  have h : (q ∘ mkP f) = q := by funext g; exact hq g
  rw [told3, told3, List.all_map, List.any_map, h]
theorem told_eq (f : File) (n : Nat) {G : List (List Int)} (h : G ≠ []) : told3 (G.map (mkP f)) (fun p => paidB f p n) = toldM f n G := by
  rw [told3_map f G _ (fun g => paidB_mkP f g n), toldM, cntP_all _ _ h]
theorem err_some {f : File} {e : Int} (h : errK f e = 0) : truthsM f [] ≠ [] := fun e' => by
  have := (errK_zero h).2.2
  rw [e'] at this
  exact absurd this (by decide)
theorem pays_eq (f : File) (n : Int) : payV f n = payR f n := by
  rw [payV, payR, enter_err]
  by_cases h : errK f (indexM f n f.claims.length) = 0
  · rw [if_pos h, if_pos h, truthsB_zero, told_eq f _ (err_some h)]
  · rw [if_neg h, if_neg h]
theorem enter_check (f : File) : enterE f 0 1 0 = errK f (checkM f).2.2 := by
  rw [enter_err]
  congr 1
  unfold indexM
  rw [if_neg (fun h => by simp [offP] at h)]
theorem told_may (T : List (List Int)) (q : List Int → Bool) : (told3 T q == 0) = (T.any q && !T.all q) := by
  unfold told3
  cases ha : T.all q <;> cases hb : T.any q <;> simp
theorem held_eq (f : File) : heldV f = heldR f := by
  rw [heldV, heldR, enter_check]
  by_cases h : errK f (checkM f).2.2 = 0
  · rw [if_pos h, if_pos h]
    congr 1
    rw [heldL, heldTo, truthsB_zero]
    refine List.filter_congr fun n _ => ?_
    rw [← told_eq f n (err_some h), told_may]
  · rw [if_neg h, if_neg h]
end Go.Proofs.YtllmahcanipcpaaGreat
