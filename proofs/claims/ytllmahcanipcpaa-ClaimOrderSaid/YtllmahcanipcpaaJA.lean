/- The plain law of chapter 11: what the program's side says is what the reference's side says. -/
import Derived.Test.YtllmahcanipcpaaSG
set_option linter.unusedVariables false
set_option linter.unusedSimpArgs false
namespace Go.Proofs.Ytllmahcanipcpaa
open Go.RowKit

theorem nth_mkP (f : File) (g : List Int) (k : Nat) : nth (mkP f g) k = nth g k := by
  rw [mkP, nth_app']
  split
  · rfl
  · rename_i h
    rw [nth_zeros, nth, List.getD_eq_getElem?_getD, List.getElem?_eq_none (by omega)]; rfl
theorem withM_mkP (f : File) (g : List Int) (l : Nat) : withM f (mkP f g) l = withM f g l := by rw [withM, nth_mkP]; rfl
theorem soP_mkP (f : File) (x : Paper) (g : List Int) : soP f x (mkP f g) = soP f x g := by simp only [soP, nth_mkP, withM_mkP]
theorem paidB_mkP (f : File) (g : List Int) (n : Nat) : paidB f (mkP f g) n = paidB f g n := by simp only [paidB, withM_mkP]
theorem settlesB_mkP (f : File) (g : List Int) (l : Int) : settlesB f (mkP f g) l = settlesB f g l := by simp only [settlesB, paidB_mkP]
theorem statesP_eq (f : File) : statesP f = (allP f).map (mkP f) := by rw [statesP, todoP, comp_all]
theorem soB_mkP {f : File} {n : Nat} {but : List Int} (h : ∀ k : Nat, k < f.papers.length → n.testBit k = hasInt but k) (g : List Int) : soB f n (mkP f g) = soM f but g := by
  rw [soB, soM, soToB, soTo, Bool.eq_iff_iff, List.all_eq_true, List.all_eq_true]
  constructor
  · intro hh k hk
    have := hh k hk
    rw [soBit, soP_mkP, h k (List.mem_range.1 hk)] at this
    exact this
  · intro hh k hk
    have := hh k hk
    rw [soBit, soP_mkP, h k (List.mem_range.1 hk)]
    exact this
theorem truthsB_eq {f : File} {n : Nat} {but : List Int} (h : ∀ k : Nat, k < f.papers.length → n.testBit k = hasInt but k) : truthsB f n = (truthsM f but).map (mkP f) := by
  rw [truthsB, statesP_eq, truthsM, List.filter_map]
  congr 1
  refine List.filter_congr fun g _ => ?_
  exact soB_mkP h g
theorem truthsB_zero (f : File) : truthsB f 0 = (truthsM f []).map (mkP f) := truthsB_eq fun k _ => by simp [hasInt]
theorem someB_zero (f : File) : someB f 0 = !decide ((truthsM f []).length = 0) := by
  rw [someB, truthsB_zero]
  cases truthsM f [] <;> simp
theorem enter_err (f : File) (n below : Int) : enterE f n below 0 = errK f (indexM f n below) := by
  unfold enterE errK indexM
  rw [someB_zero]
  by_cases h1 : (checkM f).2.2 = 0
  · rw [if_neg (by omega)]
    cases h2 : offP 0 (below - 1) n with
    | true => simp [h1]
    | false =>
      by_cases h3 : (truthsM f []).length = 0 <;> simp [h1, h3]
  · have h2 : (if (checkM f).2.2 = 0 ∧ offP 0 (below - 1) n = true then (4 : Int) else (checkM f).2.2) = (checkM f).2.2 := if_neg (fun h => h1 h.1)
    rw [if_pos h1, h2, if_pos h1]
theorem who_eq (f : File) (l : Int) : whoV f l = whoR f l := by
  rw [whoV, whoR, enter_err]
  congr 2
  rw [whoL, whoTo, truthsB_zero]
  refine List.filter_congr fun p _ => ?_
  rw [List.any_map]
  congr 1
  funext g
  simp only [Function.comp, withM_mkP]
end Go.Proofs.Ytllmahcanipcpaa
