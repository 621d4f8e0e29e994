/- The plain law of chapter 11: what Open and Owes of the program say is what the reference says. -/
import Derived.Test.YtllmahcanipcpaaGreatSM
import Derived.Test.YtllmahcanipcpaaGreatSO
set_option linter.unusedVariables false
set_option linter.unusedSimpArgs false
namespace Go.Proofs.YtllmahcanipcpaaGreat
open Go.RowKit
theorem open_eq (f : File) : openV f = openR f := by
  rw [openV, openR, enter_check]
  by_cases h : errK f (checkM f).2.2 = 0
  · rw [if_pos h, if_pos h]
    congr 1
    rw [openTo, openTo7, truthsB_zero]
    refine List.filter_congr fun l _ => ?_
    rw [List.all_map, List.not_all_eq_any_not]
    congr 1
    funext g
    simp only [Function.comp, paysB_eq, settlesB_mkP]
  · rw [if_neg h, if_neg h]
theorem sumTo_mkP (f : File) (g : List Int) (party : Int) : ∀ k, sumTo f (mkP f g) party k = sumTo f g party k
  | 0 => rfl
  | k + 1 => by rw [sumTo, sumTo, sumTo_mkP f g party k, paidB_mkP]
theorem sumM_mkP (f : File) (g : List Int) (party : Int) : sumM f (mkP f g) party = sumM f g party := sumTo_mkP f g party _
theorem owe_fold (f : File) (party : Int) : ∀ (G : List (List Int)) (s : Span), (G.map (mkP f)).foldl (oweF f party) (some s) = some (G.foldl (fun s g => joinS s (sumM f g party)) s)
  | [], s => rfl
  | g :: G, s => by
    rw [List.map_cons, List.foldl_cons, List.foldl_cons, ← owe_fold f party G]
    congr 1
    simp only [oweF, joinS, sumM_mkP]
theorem owe_map (f : File) (party : Int) {G : List (List Int)} (h : G ≠ []) : oweP f party (G.map (mkP f)) = oweTo f party G G.length := by
  cases G with
  | nil => exact absurd rfl h
  | cons g G =>
    have e : oweF f party none (mkP f g) = some ⟨sumM f g party, sumM f g party⟩ := by simp only [oweF, sumM_mkP]
    rw [oweP, oweS, List.map_cons, List.foldl_cons, e, owe_fold, oweTo, List.take_length, List.foldl_cons, show nth (g :: G) 0 = g from rfl]
    simp [joinS]
theorem owes_eq (f : File) (n : Int) : owesV f n = owesR f n := by
  rw [owesV, owesR, enter_err]
  by_cases h : errK f (indexM f n f.parties.length) = 0
  · rw [if_pos h, if_pos h, truthsB_zero, owe_map f n (err_some h)]
  · rw [if_neg h, if_neg h]
end Go.Proofs.YtllmahcanipcpaaGreat
