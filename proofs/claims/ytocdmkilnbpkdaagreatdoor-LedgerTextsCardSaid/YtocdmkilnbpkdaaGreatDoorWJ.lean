/- The deferred closure of Read: it recovers what a reader panics with. -/
import Derived.Test.YtocdmkilnbpkdaaGreatDoorWI
import Derived.OwnWalkIn
import Derived.Laws.EntriesVeiled
import Derived.Recover
import Derived.RecoverIn
import Derived.Laws.StructEq
import Derived.TacticsInMore
import Derived.Deep.DeepCutAuto
set_option linter.unusedVariables false
set_option linter.unusedSimpArgs false
namespace Go.Proofs.YtocdmkilnbpkdaaGreatDoor
open Go.RowKit
attribute [local go_sem] Oper.semAt_some

abbrev BADR : List PanicEntry := [{ v := .iface 109 (.agg #[]), recovered := true }]
theorem bad_eq (w : World) : (binOp BinOp.eql 20 (.iface 109 (.agg #[])) (.iface 109 (.agg #[]))).run Tryz.prog w = .ok (.bool true) w := by kernel_rfl
attribute [local go_sem] bad_eq
set_option maxRecDepth 100000 in
theorem catch_bad {w : World} {p q : Nat} {x0 x1 y : Value} (hp : Blk w p 25 #[x0, x1]) (hq : Blk w q 26 #[y]) (hpq : p ≠ q) :
 CallsDIn Fence.wide 0 Tryz.prog 80 #[.pointer (some ⟨p, 0, none⟩), .pointer (some ⟨q, 0, none⟩)] (.panicking BAD) w fun e u' w' =>
  e = .returned (.tuple #[]) ∧ u' = .panicking BADR ∧ Blk w' p 25 #[.slice none 0 0, .slice none 0 0] ∧ Blk w' q 26 #[.int .i64 6] ∧ Keep (fun k => k = p ∨ k = q) w w' := by
 refine callsDIn_of_wpSIn Tryz.func80 rfl trivial fun c₀ cs hu => ?_
 apply wpSIn_seq
 apply wpSIn_region
 simp [wpOpsSIn, go_sem, recoverD, hu, Tryz.ntmps80, Exit.thenS]
 simp only [Array.replicate_succ, Array.replicate_zero, List.push_toArray, List.append_toArray, List.nil_append, List.cons_append, List.setIfInBounds_toArray, List.set_cons_succ, List.set_cons_zero]
 refine wpSIn_of_wpIn rfl ((wpIn_wide (n := 0)).2 ?_)
 have c0 := hp.at_ 0
 have c1 := hp.at_ 1
 have d0 := hq.at_ 0
 have f0 := hp.free 0
 have f1 := hp.free 1
 have g0 := hq.free 0
 simp only [List.getElem?_toArray, List.getElem?_cons_zero, List.getElem?_cons_succ] at c0 c1 d0
 go_wp2_with fail
 have k0 : ∀ (v : World) (o : Nat) (x : Value), Keep (fun k => k = p) v (v.setCell ⟨p, o, none⟩ x) := fun v o x => Keep.setCell _ _ _ _ rfl
 have k1 : ∀ (v : World) (o : Nat) (x : Value), Keep (fun k => k = q) v (v.setCell ⟨q, o, none⟩ x) := fun v o x => Keep.setCell _ _ _ _ rfl
 exact ⟨rfl, .panicking BADR, rfl, .tuple #[], by simp [results, Tryz.results80, go_sem], rfl, rfl, ((hp.store 0 _).store 1 _).keep (k1 _ _ _) hpq, (((hq.keep (k0 _ _ _) hpq.symm).keep (k0 _ _ _) hpq.symm).store 0 _),
  (((k0 _ _ _).mono (fun k _ h => .inl h)).trans ((k0 _ _ _).mono (fun k _ h => .inl h))).trans ((k1 _ _ _).mono (fun k _ h => .inr h))⟩
set_option maxRecDepth 100000 in
theorem catch_none {w : World} {p q : Value} :
 CallsDIn Fence.wide 0 Tryz.prog 80 #[p, q] .returning w fun e u' w' => e = .returned (.tuple #[]) ∧ u' = .returning ∧ w' = w := by
 refine callsDIn_of_wpSIn Tryz.func80 rfl trivial fun c₀ cs hu => ?_
 apply wpSIn_seq
 apply wpSIn_region
 simp [wpOpsSIn, go_sem, recoverD, hu, Tryz.ntmps80, Exit.thenS]
 simp only [Array.replicate_succ, Array.replicate_zero, List.push_toArray, List.append_toArray, List.nil_append, List.cons_append, List.setIfInBounds_toArray, List.set_cons_succ, List.set_cons_zero]
 refine wpSIn_of_wpIn rfl ((wpIn_wide (n := 0)).2 ?_)
 go_wp2_with fail
 · refine ⟨rfl, .returning, ?_, .tuple #[], by simp [results, Tryz.results80, go_sem], rfl, rfl, rfl⟩
   cases c₀
   simp_all
end Go.Proofs.YtocdmkilnbpkdaaGreatDoor
