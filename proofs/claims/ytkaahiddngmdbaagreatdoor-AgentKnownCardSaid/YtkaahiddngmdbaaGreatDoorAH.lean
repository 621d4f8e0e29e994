/- Plain: the hand of a text. -/
import Derived.Test.YtkaahiddngmdbaaGreatDoorHA
set_option linter.unusedVariables false
set_option linter.unusedSimpArgs false
namespace Go.Proofs.YtkaahiddngmdbaaGreatDoor
def handTo (n : Int) (s : List UInt8) : Int := s.foldl (fun n c => (31 * n + c.toNat) % 9973) n
theorem handTo_nil (n : Int) : handTo n [] = n := rfl
theorem handTo_cons (n : Int) (c : UInt8) (s : List UInt8) : handTo n (c :: s) = handTo ((31 * n + c.toNat) % 9973) s := rfl
theorem handTo_bd : ∀ {s : List UInt8} {n : Int}, 0 ≤ n ∧ n ≤ 9972 → 0 ≤ handTo n s ∧ handTo n s ≤ 9972
 | [], _, h => h
 | c :: s, n, _ => handTo_bd (s := s) (n := (31 * n + c.toNat) % 9973) (by omega)
theorem handTo_app (n : Int) (a b : List UInt8) : handTo n (a ++ b) = handTo (handTo n a) b := List.foldl_append ..
theorem handTo_snoc (n : Int) (a : List UInt8) (c : UInt8) : handTo n (a ++ [c]) = (31 * handTo n a + c.toNat) % 9973 := by rw [handTo_app]; rfl
theorem handTo_inj : ∀ {s : List UInt8} {n m : Int}, 0 ≤ n ∧ n ≤ 9972 → 0 ≤ m ∧ m ≤ 9972 → handTo n s = handTo m s → n = m
 | [], _, _, _, _, h => h
 | c :: s, n, m, hn, hm, h => by
  have := handTo_inj (s := s) (n := (31 * n + c.toNat) % 9973) (m := (31 * m + c.toNat) % 9973) (by omega) (by omega) h
  omega
/-- One byte turned: the hand turns just if the byte does. -/
theorem hand_turned (p q : List UInt8) (x y : UInt8) : (handTo 0 (p ++ y :: q) = handTo 0 (p ++ x :: q)) ↔ x = y := by
 have hb := handTo_bd (s := p) (n := 0) (by omega)
 rw [handTo_app, handTo_app, handTo_cons, handTo_cons]
 constructor
 · intro h
   have h2 := handTo_inj (by omega) (by omega) h
   have hx := x.toNat_lt
   have hy := y.toNat_lt
   exact UInt8.toNat_inj.1 (by omega)
 · rintro rfl; rfl
theorem hand_split {l : List UInt8} {i : Nat} (hi : i < l.length) : l = l.take i ++ l[i] :: l.drop (i + 1) := by
 rw [List.getElem_cons_drop, List.take_append_drop]
end Go.Proofs.YtkaahiddngmdbaaGreatDoor
