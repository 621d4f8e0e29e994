/- The contract of the reference's Who. -/
import Derived.Test.YtllmahcanipcpaaGreatSF
import Derived.OwnWalkIn
import Derived.TacticsInMore
import Derived.Deep.DeepCutAuto
set_option linter.unusedVariables false
set_option linter.unusedSimpArgs false
namespace Go.Proofs.YtllmahcanipcpaaGreat
open Go.RowKit
attribute [local go_sem ↓] Go.wp_at_zero Go.wp_at_succ
attribute [local go_sem] Oper.semAt_some

/-- The parties with which a lot turned in some truth. -/
def whoTo (f : File) (l : Nat) (j : Nat) : List Nat := (List.range j).filter fun p => (truthsM f []).any fun g => withM f g l == (p : Int)
def whoR (f : File) (l : Int) : List Nat × Int := if errK f (indexM f l f.lots.length) = 0 then (whoTo f l.toNat f.parties.length, 0) else ([], errK f (indexM f l f.lots.length))
theorem whoTo_succ (f : File) (l j : Nat) : whoTo f l (j + 1) = whoTo f l j ++ if (truthsM f []).any (fun g => withM f g l == (j : Int)) then [j] else [] := by
  simp only [whoTo, List.range_succ, List.filter_append, List.filter_cons, List.filter_nil]
theorem whoTo_le (f : File) (l j : Nat) : (whoTo f l j).length ≤ j := by
  have := List.length_filter_le (fun p : Nat => (truthsM f []).any fun g => withM f g l == (p : Int)) (List.range j)
  simpa [whoTo] using this
theorem any_take {α : Type} [Inhabited α] (G : List α) (q : α → Bool) {i : Nat} (hi : i < G.length) : (G.take (i + 1)).any q = ((G.take i).any q || q (nth G i)) := by
  rw [take_nth hi]; simp
theorem truthsM_pl {f : File} (hv : Valid f) {but g : List Int} (hg : g ∈ truthsM f but) : Pl f g := allP_pl hv (List.mem_filter.1 hg).1
theorem truthsM_256 {f : File} (hv : Valid f) (but : List Int) : (truthsM f but).length ≤ 256 := Nat.le_trans (List.length_filter_le _ _) (allP_256 hv)
theorem ret_lst {w1 : World} {A : Option Addr} {n c : Nat} {e : Int} {l : List Nat} {P : Prop} (hl : n = l.length) (hs : IntsS w1 w1.heap.size A n c (natInts l)) (hp : P) :
    ∃ A' c', Ending.returned (.tuple #[.slice A n c, .int .i64 e]) = .returned (.tuple #[.slice A' l.length c', .int .i64 e]) ∧ IntsS w1 w1.heap.size A' l.length c' (natInts l) ∧ P := by
  subst hl; exact ⟨A, c, rfl, hs, hp⟩
end Go.Proofs.YtllmahcanipcpaaGreat
