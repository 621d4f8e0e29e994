/- The law's Awake: the examples come out as the document says. -/
import Derived.Test.YtbkknliggnhpcaaLawA
import Derived.Test.YtbkknliggnhpcaaBox
import Derived.Deep.RegionHeld3
import Derived.Laws.StructEq
set_option linter.unusedVariables false
set_option linter.unusedSimpArgs false
namespace Go.Proofs.Ytbkknliggnhpcaa
open Go.RowKit
attribute [local go_sem ↓] Go.wp_at_zero Go.wp_at_succ

section
variable {A1 A2 A3 A4 : Option Addr} {c1 c2 c3 c4 : Nat} {w : World}
theorem ex_turns0 (h : CargoV w w.heap.size (lawC []) A1 A2 A3 A4 c1 c2 c3 c4) : Calls Try.prog 18 #[cargoVal (lawC []) A1 A2 A3 A4 c1 c2 c3 c4, .int .i64 0] w fun e w' => e = .returned (.tuple #[.agg #[.int .i64 2, .int .i64 4], .int .i64 1, .int .i64 0]) ∧ Below w.heap.size w w' := by
  have := turns_any h 0; rw [ex_turns.1] at this; exact this
theorem ex_turns1 (h : CargoV w w.heap.size (lawC []) A1 A2 A3 A4 c1 c2 c3 c4) : Calls Try.prog 18 #[cargoVal (lawC []) A1 A2 A3 A4 c1 c2 c3 c4, .int .i64 1] w fun e w' => e = .returned (.tuple #[.agg #[.int .i64 4, .int .i64 6], .int .i64 1, .int .i64 0]) ∧ Below w.heap.size w w' := by
  have := turns_any h 1; rw [ex_turns.2.1] at this; exact this
theorem ex_turns2 (h : CargoV w w.heap.size (lawC []) A1 A2 A3 A4 c1 c2 c3 c4) : Calls Try.prog 18 #[cargoVal (lawC []) A1 A2 A3 A4 c1 c2 c3 c4, .int .i64 2] w fun e w' => e = .returned (.tuple #[.agg #[.int .i64 0, .int .i64 0], .int .i64 2, .int .i64 0]) ∧ Below w.heap.size w w' := by
  have := turns_any h 2; rw [ex_turns.2.2.1] at this; exact this
theorem ex_turns3 (h : CargoV w w.heap.size (lawC [⟨0, 3, false⟩]) A1 A2 A3 A4 c1 c2 c3 c4) : Calls Try.prog 18 #[cargoVal (lawC [⟨0, 3, false⟩]) A1 A2 A3 A4 c1 c2 c3 c4, .int .i64 1] w fun e w' => e = .returned (.tuple #[.agg #[.int .i64 6, .int .i64 6], .int .i64 1, .int .i64 0]) ∧ Below w.heap.size w w' := by
  have := turns_any h 1; rw [ex_turns.2.2.2.1] at this; exact this
theorem ex_turns4 (h : CargoV w w.heap.size (lawC [⟨0, 4, false⟩]) A1 A2 A3 A4 c1 c2 c3 c4) : Calls Try.prog 18 #[cargoVal (lawC [⟨0, 4, false⟩]) A1 A2 A3 A4 c1 c2 c3 c4, .int .i64 0] w fun e w' => e = .returned (.tuple #[.agg #[.int .i64 0, .int .i64 0], .int .i64 0, .int .i64 8]) ∧ Below w.heap.size w w' := by
  have := turns_any h 0; rw [ex_turns.2.2.2.2] at this; exact this
theorem ex_safe3 (h : CargoV w w.heap.size (lawC []) A1 A2 A3 A4 c1 c2 c3 c4) : Calls Try.prog 20 #[cargoVal (lawC []) A1 A2 A3 A4 c1 c2 c3 c4, .int .i64 3] w fun e w' => ∃ A cp, e = .returned (.tuple #[.slice A 2 cp, .int .i64 0]) ∧ IntsS w' w'.heap.size A 2 cp [1, 2] ∧ Below w.heap.size w w' := by
  have := safe_any h 3; rw [ex_safe.1] at this; exact this
theorem ex_safe4 (h : CargoV w w.heap.size (lawC []) A1 A2 A3 A4 c1 c2 c3 c4) : Calls Try.prog 20 #[cargoVal (lawC []) A1 A2 A3 A4 c1 c2 c3 c4, .int .i64 4] w fun e w' => ∃ A cp, e = .returned (.tuple #[.slice A 1 cp, .int .i64 0]) ∧ IntsS w' w'.heap.size A 1 cp [2] ∧ Below w.heap.size w w' := by
  have := safe_any h 4; rw [ex_safe.2] at this; exact this
theorem ex_first0 (h : CargoV w w.heap.size (lawC []) A1 A2 A3 A4 c1 c2 c3 c4) : Calls Try.prog 24 #[cargoVal (lawC []) A1 A2 A3 A4 c1 c2 c3 c4, .int .i64 0] w fun e w' => ∃ A cp, e = .returned (.tuple #[.slice A 1 cp, .int .i64 0]) ∧ IntsS w' w'.heap.size A 1 cp [0] ∧ Below w.heap.size w w' := by
  have := first_any h 0; rw [ex_first.1] at this; exact this
theorem ex_first1 (h : CargoV w w.heap.size (lawC []) A1 A2 A3 A4 c1 c2 c3 c4) : Calls Try.prog 24 #[cargoVal (lawC []) A1 A2 A3 A4 c1 c2 c3 c4, .int .i64 1] w fun e w' => ∃ A cp, e = .returned (.tuple #[.slice A 0 cp, .int .i64 0]) ∧ IntsS w' w'.heap.size A 0 cp [] ∧ Below w.heap.size w w' := by
  have := first_any h 1; rw [ex_first.2] at this; exact this
theorem ex_spoils01 (h : CargoV w w.heap.size (lawC []) A1 A2 A3 A4 c1 c2 c3 c4) : Calls Try.prog 26 #[cargoVal (lawC []) A1 A2 A3 A4 c1 c2 c3 c4, .int .i64 0, .int .i64 1] w fun e w' => e = .returned (.tuple #[.int .i64 1, .int .i64 0]) ∧ Below w.heap.size w w' := by
  have := spoils_any h 0 1; rw [ex_spoils.1] at this; exact this
theorem ex_spoils10 (h : CargoV w w.heap.size (lawC []) A1 A2 A3 A4 c1 c2 c3 c4) : Calls Try.prog 26 #[cargoVal (lawC []) A1 A2 A3 A4 c1 c2 c3 c4, .int .i64 1, .int .i64 0] w fun e w' => e = .returned (.tuple #[.int .i64 2, .int .i64 0]) ∧ Below w.heap.size w w' := by
  have := spoils_any h 1 0; rw [ex_spoils.2.1] at this; exact this
theorem ex_spoils11 (h : CargoV w w.heap.size (lawC []) A1 A2 A3 A4 c1 c2 c3 c4) : Calls Try.prog 26 #[cargoVal (lawC []) A1 A2 A3 A4 c1 c2 c3 c4, .int .i64 1, .int .i64 1] w fun e w' => e = .returned (.tuple #[.int .i64 0, .int .i64 2]) ∧ Below w.heap.size w w' := by
  have := spoils_any h 1 1; rw [ex_spoils.2.2] at this; exact this
theorem ex_putC (h : CargoV w w.heap.size (lawC []) A1 A2 A3 A4 c1 c2 c3 c4) : Calls Try.prog 28 #[cargoVal (lawC []) A1 A2 A3 A4 c1 c2 c3 c4, .agg #[.int .i64 8, .int .i64 8], .int .i64 1, .int .i64 5] w fun e w' => ∃ A cp, e = .returned (.tuple #[.slice A 1 cp, .int .i64 0]) ∧ IntsS w' w'.heap.size A 1 cp [1] ∧ Below w.heap.size w w' := by
  have := put_any h 8 8 1 5; rw [ex_put] at this; exact this
theorem ex_out4 (h : CargoV w w.heap.size (lawC []) A1 A2 A3 A4 c1 c2 c3 c4) : Calls Try.prog 30 #[cargoVal (lawC []) A1 A2 A3 A4 c1 c2 c3 c4, .int .i64 0, .int .i64 4] w fun e w' => ∃ A cp, e = .returned (.tuple #[.slice A 1 cp, .int .i64 0]) ∧ IntsS w' w'.heap.size A 1 cp [0] ∧ Below w.heap.size w w' := by
  have := out_any h 0 4; rw [ex_out.1] at this; exact this
theorem ex_out5 (h : CargoV w w.heap.size (lawC []) A1 A2 A3 A4 c1 c2 c3 c4) : Calls Try.prog 30 #[cargoVal (lawC []) A1 A2 A3 A4 c1 c2 c3 c4, .int .i64 0, .int .i64 5] w fun e w' => ∃ A cp, e = .returned (.tuple #[.slice A 2 cp, .int .i64 0]) ∧ IntsS w' w'.heap.size A 2 cp [0, 1] ∧ Below w.heap.size w w' := by
  have := out_any h 0 5; rw [ex_out.2] at this; exact this
theorem ex_wrong4 (h : CargoV w w.heap.size (lawC [⟨0, 4, false⟩]) A1 A2 A3 A4 c1 c2 c3 c4) : Calls Try.prog 32 #[cargoVal (lawC [⟨0, 4, false⟩]) A1 A2 A3 A4 c1 c2 c3 c4] w fun e w' => ∃ A cp, e = .returned (.tuple #[.slice A 1 cp, .int .i64 0]) ∧ IntsS w' w'.heap.size A 1 cp [0] ∧ Below w.heap.size w w' := by
  have := wrong_any h; rw [ex_wrong.1] at this; exact this
theorem ex_wrong3 (h : CargoV w w.heap.size (lawC [⟨0, 3, false⟩]) A1 A2 A3 A4 c1 c2 c3 c4) : Calls Try.prog 32 #[cargoVal (lawC [⟨0, 3, false⟩]) A1 A2 A3 A4 c1 c2 c3 c4] w fun e w' => ∃ A cp, e = .returned (.tuple #[.slice A 0 cp, .int .i64 0]) ∧ IntsS w' w'.heap.size A 0 cp [] ∧ Below w.heap.size w w' := by
  have := wrong_any h; rw [ex_wrong.2] at this; exact this
end
theorem wp_region_grow3 {P : Program} {ops : Array Oper} {Q : Exit → Act → World → Prop} {a0 : Act} {w : World} {dst : Nat → Tmp} {mono pre : Nat → Bool} {Pv : Nat → Value → World → Prop} {id : Nat} (hm : P.follows .mixedOrders = true) (hok : growOk ops dst mono pre a0.tmps.size = true) (hst : ∀ i v W W', Pv i v W → Below W.heap.size W W' → Pv i v W')
    (hstep : ∀ i, i < ops.size → mono i = true → ∀ listed vs a W, GrownU ops.size a0 w.drew dst Pv listed vs a W → (∀ o, ops[i]? = some o → ∀ e ∈ o.after, Region.binds .any e = true → listed.getD e.on false = true) →
      ∀ K : Act → World → Prop, (∀ v W', Below W.heap.size W W' → Pv i v W' → K (a.put (some (dst i)) v) W') → wpOp P ops Q i K a W)
    (hend : ∀ listed vs a W, Grown ops.size a0 w.drew dst mono Pv listed vs a W → GrownU ops.size a0 w.drew dst Pv listed vs a W → (∀ i, i < ops.size → pre i = true → listed.getD i false = true) → wpAny P .any ops Q (leftOver listed ops.size) listed a W) :
    (Code.region id ops true).wp P Q a0 w :=
  wp_region_grow2 hm hok hst hstep (fun l v a W h hp => hend l v a W h (h.user (grow_facts hok).1 (grow_facts hok).2) hp)
theorem wpOp_enterW {P : Program} {ops : Array Oper} {Q : Exit → Act → World → Prop} {i : Nat} {o : Oper} {K : Act → World → Prop} {a : Act} {W W' : World} {f : FuncId} {args : Array Value} (ho : ops[i]? = some o) (hg : Region.wanted o (yielded ops a.tmps) = true) (hr : (execOp a.eval o).run P W = .ok (.enter f args) W')
    (hc : Calls P f args W' fun e w'' => ∃ v, e = .returned v ∧ K (a.put o.dst v) w'') : wpOp P ops Q i K a W := by
  unfold wpOp
  simp only [ho, hg, if_true]
  left
  unfold Oper.wp
  rw [hr]
  exact hc.mono (fun e w'' ⟨v, he, hk⟩ => by rw [he]; exact hk)
set_option maxHeartbeats 4000000 in
set_option maxRecDepth 100000 in
theorem awake_any (w : World) : Calls Try.prog 23 #[] w fun e w' => e = .returned (.bool true) ∧ Below w.heap.size w w' := by
  go_enter Try.func23, Try.ntmps23
  go_wp2_with fail
  refine (cargo_any (-1) _).mono ?_
  rintro e w1 ⟨A1, A2, A3, A4, c1, c2, c3, c4, rfl, hv1, hb1⟩
  rw [show lawH (-1) = lawC [] from rfl] at hv1 ⊢
  go_wp2_with fail
  refine (cargo_any 3 _).mono ?_
  rintro e w2 ⟨B1, B2, B3, B4, d1, d2, d3, d4, rfl, hv2, hb2⟩
  rw [show lawH 3 = lawC [⟨0, 3, false⟩] from rfl] at hv2 ⊢
  go_wp2_with fail
  refine (cargo_any 4 _).mono ?_
  rintro e w3 ⟨C1, C2, C3, C4, e1, e2, e3, e4, rfl, hv3, hb3⟩
  rw [show lawH 4 = lawC [⟨0, 4, false⟩] from rfl] at hv3 ⊢
  have hv1 := (hv1.next hb2).next hb3
  have hv2 := hv2.next hb3
  have HB := hide (hb1.trans ((hb2.trans (hb3.mono hb2.size)).mono hb1.size))
  go_upto_region 2 with (fail)
  have hA1 : Below w3.heap.size w3 (w3.alloc (.cells #[.slice A1 (lawC []).heat.length c1, .int .i64 (lawC []).gas, .slice A2 (lawC []).holds.length c2, .slice A3 (lawC []).lots.length c3, .slice A4 (lawC []).seen.length c4] 27)) := (Below.refl _ _).alloc (Nat.le_refl _) _
  have hA2 : Below (w3.alloc (.cells #[.slice A1 (lawC []).heat.length c1, .int .i64 (lawC []).gas, .slice A2 (lawC []).holds.length c2, .slice A3 (lawC []).lots.length c3, .slice A4 (lawC []).seen.length c4] 27)).heap.size (w3.alloc (.cells #[.slice A1 (lawC []).heat.length c1, .int .i64 (lawC []).gas, .slice A2 (lawC []).holds.length c2, .slice A3 (lawC []).lots.length c3, .slice A4 (lawC []).seen.length c4] 27)) ((w3.alloc (.cells #[.slice A1 (lawC []).heat.length c1, .int .i64 (lawC []).gas, .slice A2 (lawC []).holds.length c2, .slice A3 (lawC []).lots.length c3, .slice A4 (lawC []).seen.length c4] 27)).alloc (.cells #[.slice B1 (lawC [⟨0, 3, false⟩]).heat.length d1, .int .i64 (lawC [⟨0, 3, false⟩]).gas, .slice B2 (lawC [⟨0, 3, false⟩]).holds.length d2, .slice B3 (lawC [⟨0, 3, false⟩]).lots.length d3, .slice B4 (lawC [⟨0, 3, false⟩]).seen.length d4] 27)) := (Below.refl _ _).alloc (Nat.le_refl _) _
  have hA3 : Below ((w3.alloc (.cells #[.slice A1 (lawC []).heat.length c1, .int .i64 (lawC []).gas, .slice A2 (lawC []).holds.length c2, .slice A3 (lawC []).lots.length c3, .slice A4 (lawC []).seen.length c4] 27)).alloc (.cells #[.slice B1 (lawC [⟨0, 3, false⟩]).heat.length d1, .int .i64 (lawC [⟨0, 3, false⟩]).gas, .slice B2 (lawC [⟨0, 3, false⟩]).holds.length d2, .slice B3 (lawC [⟨0, 3, false⟩]).lots.length d3, .slice B4 (lawC [⟨0, 3, false⟩]).seen.length d4] 27)).heap.size ((w3.alloc (.cells #[.slice A1 (lawC []).heat.length c1, .int .i64 (lawC []).gas, .slice A2 (lawC []).holds.length c2, .slice A3 (lawC []).lots.length c3, .slice A4 (lawC []).seen.length c4] 27)).alloc (.cells #[.slice B1 (lawC [⟨0, 3, false⟩]).heat.length d1, .int .i64 (lawC [⟨0, 3, false⟩]).gas, .slice B2 (lawC [⟨0, 3, false⟩]).holds.length d2, .slice B3 (lawC [⟨0, 3, false⟩]).lots.length d3, .slice B4 (lawC [⟨0, 3, false⟩]).seen.length d4] 27)) (((w3.alloc (.cells #[.slice A1 (lawC []).heat.length c1, .int .i64 (lawC []).gas, .slice A2 (lawC []).holds.length c2, .slice A3 (lawC []).lots.length c3, .slice A4 (lawC []).seen.length c4] 27)).alloc (.cells #[.slice B1 (lawC [⟨0, 3, false⟩]).heat.length d1, .int .i64 (lawC [⟨0, 3, false⟩]).gas, .slice B2 (lawC [⟨0, 3, false⟩]).holds.length d2, .slice B3 (lawC [⟨0, 3, false⟩]).lots.length d3, .slice B4 (lawC [⟨0, 3, false⟩]).seen.length d4] 27)).alloc (.cells #[.slice C1 (lawC [⟨0, 4, false⟩]).heat.length e1, .int .i64 (lawC [⟨0, 4, false⟩]).gas, .slice C2 (lawC [⟨0, 4, false⟩]).holds.length e2, .slice C3 (lawC [⟨0, 4, false⟩]).lots.length e3, .slice C4 (lawC [⟨0, 4, false⟩]).seen.length e4] 27)) := (Below.refl _ _).alloc (Nat.le_refl _) _
  have hK0 : BoxC (((w3.alloc (.cells #[.slice A1 (lawC []).heat.length c1, .int .i64 (lawC []).gas, .slice A2 (lawC []).holds.length c2, .slice A3 (lawC []).lots.length c3, .slice A4 (lawC []).seen.length c4] 27)).alloc (.cells #[.slice B1 (lawC [⟨0, 3, false⟩]).heat.length d1, .int .i64 (lawC [⟨0, 3, false⟩]).gas, .slice B2 (lawC [⟨0, 3, false⟩]).holds.length d2, .slice B3 (lawC [⟨0, 3, false⟩]).lots.length d3, .slice B4 (lawC [⟨0, 3, false⟩]).seen.length d4] 27)).alloc (.cells #[.slice C1 (lawC [⟨0, 4, false⟩]).heat.length e1, .int .i64 (lawC [⟨0, 4, false⟩]).gas, .slice C2 (lawC [⟨0, 4, false⟩]).holds.length e2, .slice C3 (lawC [⟨0, 4, false⟩]).lots.length e3, .slice C4 (lawC [⟨0, 4, false⟩]).seen.length e4] 27)) (w3.heap.size) (lawC []) A1 A2 A3 A4 c1 c2 c3 c4 := ((BoxC.made hv1).next hA2).next hA3
  have hK3 : BoxC (((w3.alloc (.cells #[.slice A1 (lawC []).heat.length c1, .int .i64 (lawC []).gas, .slice A2 (lawC []).holds.length c2, .slice A3 (lawC []).lots.length c3, .slice A4 (lawC []).seen.length c4] 27)).alloc (.cells #[.slice B1 (lawC [⟨0, 3, false⟩]).heat.length d1, .int .i64 (lawC [⟨0, 3, false⟩]).gas, .slice B2 (lawC [⟨0, 3, false⟩]).holds.length d2, .slice B3 (lawC [⟨0, 3, false⟩]).lots.length d3, .slice B4 (lawC [⟨0, 3, false⟩]).seen.length d4] 27)).alloc (.cells #[.slice C1 (lawC [⟨0, 4, false⟩]).heat.length e1, .int .i64 (lawC [⟨0, 4, false⟩]).gas, .slice C2 (lawC [⟨0, 4, false⟩]).holds.length e2, .slice C3 (lawC [⟨0, 4, false⟩]).lots.length e3, .slice C4 (lawC [⟨0, 4, false⟩]).seen.length e4] 27)) (w3.heap.size + 1) (lawC [⟨0, 3, false⟩]) B1 B2 B3 B4 d1 d2 d3 d4 := by have := (BoxC.made (hv2.next hA1)).next hA3; simpa using this
  have hK4 : BoxC (((w3.alloc (.cells #[.slice A1 (lawC []).heat.length c1, .int .i64 (lawC []).gas, .slice A2 (lawC []).holds.length c2, .slice A3 (lawC []).lots.length c3, .slice A4 (lawC []).seen.length c4] 27)).alloc (.cells #[.slice B1 (lawC [⟨0, 3, false⟩]).heat.length d1, .int .i64 (lawC [⟨0, 3, false⟩]).gas, .slice B2 (lawC [⟨0, 3, false⟩]).holds.length d2, .slice B3 (lawC [⟨0, 3, false⟩]).lots.length d3, .slice B4 (lawC [⟨0, 3, false⟩]).seen.length d4] 27)).alloc (.cells #[.slice C1 (lawC [⟨0, 4, false⟩]).heat.length e1, .int .i64 (lawC [⟨0, 4, false⟩]).gas, .slice C2 (lawC [⟨0, 4, false⟩]).holds.length e2, .slice C3 (lawC [⟨0, 4, false⟩]).lots.length e3, .slice C4 (lawC [⟨0, 4, false⟩]).seen.length e4] 27)) (w3.heap.size + 1 + 1) (lawC [⟨0, 4, false⟩]) C1 C2 C3 C4 e1 e2 e3 e4 := by have := BoxC.made ((hv3.next hA1).next hA2); simpa using this
  have hBA := hA1.trans ((hA2.trans (hA3.mono hA2.size)).mono hA1.size)
  have HB := hide (HB.out.trans (hBA.mono (by have := HB.out.size; exact this)))
  have HK0 := hide hK0
  have HK3 := hide hK3
  have HK4 := hide hK4
  clear hK0 hK3 hK4 hA1 hA2 hA3 hBA hv1 hv2 hv3 hb1 hb2 hb3
  generalize (((w3.alloc (.cells #[.slice A1 (lawC []).heat.length c1, .int .i64 (lawC []).gas, .slice A2 (lawC []).holds.length c2, .slice A3 (lawC []).lots.length c3, .slice A4 (lawC []).seen.length c4] 27)).alloc (.cells #[.slice B1 (lawC [⟨0, 3, false⟩]).heat.length d1, .int .i64 (lawC [⟨0, 3, false⟩]).gas, .slice B2 (lawC [⟨0, 3, false⟩]).holds.length d2, .slice B3 (lawC [⟨0, 3, false⟩]).lots.length d3, .slice B4 (lawC [⟨0, 3, false⟩]).seen.length d4] 27)).alloc (.cells #[.slice C1 (lawC [⟨0, 4, false⟩]).heat.length e1, .int .i64 (lawC [⟨0, 4, false⟩]).gas, .slice C2 (lawC [⟨0, 4, false⟩]).holds.length e2, .slice C3 (lawC [⟨0, 4, false⟩]).lots.length e3, .slice C4 (lawC [⟨0, 4, false⟩]).seen.length e4] 27)) = v0 at *
  obtain ⟨hv, z, x0, x1, x2, x3, x4⟩ := HK0.out
  have HV := hide hv
  clear hv
  go_upto_region 3 with (go_at_call 18; refine (ex_turns0 HV.out).mono ?_; rintro e v1 ⟨rfl, hb⟩)
  have HK0 := hide (HK0.out.next hb)
  have HK3 := hide (HK3.out.next hb)
  have HK4 := hide (HK4.out.next hb)
  have HB := hide (HB.out.trans (hb.mono (by have := HB.out.size; exact this)))
  clear hb z x0 x1 x2 x3 x4 HV
  have hA : Below v1.heap.size v1 (v1.alloc (.cells #[.int .i64 2, .int .i64 4] 32)) := (Below.refl _ _).alloc (Nat.le_refl _) _
  have HS1 : Hid (BoxS (v1.alloc (.cells #[.int .i64 2, .int .i64 4] 32)) v1.heap.size 2 4) := hide BoxS.made
  have HK0 := hide (HK0.out.next hA)
  have HK3 := hide (HK3.out.next hA)
  have HK4 := hide (HK4.out.next hA)
  have HB := hide (HB.out.trans (hA.mono (by have := HB.out.size; exact this)))
  clear hA
  generalize (v1.alloc (.cells #[.int .i64 2, .int .i64 4] 32)) = u1 at *
  obtain ⟨hv, z, x0, x1, x2, x3, x4⟩ := HK0.out
  have HV := hide hv
  clear hv
  go_upto_region 4 with (go_at_call 18; refine (ex_turns1 HV.out).mono ?_; rintro e v2 ⟨rfl, hb⟩)
  have HK0 := hide (HK0.out.next hb)
  have HK3 := hide (HK3.out.next hb)
  have HK4 := hide (HK4.out.next hb)
  have HS1 := hide (HS1.out.next hb)
  have HB := hide (HB.out.trans (hb.mono (by have := HB.out.size; exact this)))
  clear hb z x0 x1 x2 x3 x4 HV
  have hA : Below v2.heap.size v2 (v2.alloc (.cells #[.int .i64 4, .int .i64 6] 32)) := (Below.refl _ _).alloc (Nat.le_refl _) _
  have HS2 : Hid (BoxS (v2.alloc (.cells #[.int .i64 4, .int .i64 6] 32)) v2.heap.size 4 6) := hide BoxS.made
  have HK0 := hide (HK0.out.next hA)
  have HK3 := hide (HK3.out.next hA)
  have HK4 := hide (HK4.out.next hA)
  have HS1 := hide (HS1.out.next hA)
  have HB := hide (HB.out.trans (hA.mono (by have := HB.out.size; exact this)))
  clear hA
  generalize (v2.alloc (.cells #[.int .i64 4, .int .i64 6] 32)) = u2 at *
  obtain ⟨hv, z, x0, x1, x2, x3, x4⟩ := HK0.out
  have HV := hide hv
  clear hv
  go_upto_region 5 with (go_at_call 18; refine (ex_turns2 HV.out).mono ?_; rintro e v3 ⟨rfl, hb⟩)
  have HK0 := hide (HK0.out.next hb)
  have HK3 := hide (HK3.out.next hb)
  have HK4 := hide (HK4.out.next hb)
  have HS1 := hide (HS1.out.next hb)
  have HS2 := hide (HS2.out.next hb)
  have HB := hide (HB.out.trans (hb.mono (by have := HB.out.size; exact this)))
  clear hb z x0 x1 x2 x3 x4 HV
  have hA : Below v3.heap.size v3 (v3.alloc (.cells #[.int .i64 0, .int .i64 0] 32)) := (Below.refl _ _).alloc (Nat.le_refl _) _
  have HS3 : Hid (BoxS (v3.alloc (.cells #[.int .i64 0, .int .i64 0] 32)) v3.heap.size 0 0) := hide BoxS.made
  have HK0 := hide (HK0.out.next hA)
  have HK3 := hide (HK3.out.next hA)
  have HK4 := hide (HK4.out.next hA)
  have HS1 := hide (HS1.out.next hA)
  have HS2 := hide (HS2.out.next hA)
  have HB := hide (HB.out.trans (hA.mono (by have := HB.out.size; exact this)))
  clear hA
  generalize (v3.alloc (.cells #[.int .i64 0, .int .i64 0] 32)) = u3 at *
  obtain ⟨hv, z, x0, x1, x2, x3, x4⟩ := HK3.out
  have HV := hide hv
  clear hv
  go_upto_region 6 with (go_at_call 18; refine (ex_turns3 HV.out).mono ?_; rintro e v4 ⟨rfl, hb⟩)
  have HK0 := hide (HK0.out.next hb)
  have HK3 := hide (HK3.out.next hb)
  have HK4 := hide (HK4.out.next hb)
  have HS1 := hide (HS1.out.next hb)
  have HS2 := hide (HS2.out.next hb)
  have HS3 := hide (HS3.out.next hb)
  have HB := hide (HB.out.trans (hb.mono (by have := HB.out.size; exact this)))
  clear hb z x0 x1 x2 x3 x4 HV
  have hA : Below v4.heap.size v4 (v4.alloc (.cells #[.int .i64 6, .int .i64 6] 32)) := (Below.refl _ _).alloc (Nat.le_refl _) _
  have HS4 : Hid (BoxS (v4.alloc (.cells #[.int .i64 6, .int .i64 6] 32)) v4.heap.size 6 6) := hide BoxS.made
  have HK0 := hide (HK0.out.next hA)
  have HK3 := hide (HK3.out.next hA)
  have HK4 := hide (HK4.out.next hA)
  have HS1 := hide (HS1.out.next hA)
  have HS2 := hide (HS2.out.next hA)
  have HS3 := hide (HS3.out.next hA)
  have HB := hide (HB.out.trans (hA.mono (by have := HB.out.size; exact this)))
  clear hA
  generalize (v4.alloc (.cells #[.int .i64 6, .int .i64 6] 32)) = u4 at *
  obtain ⟨hv, z, x0, x1, x2, x3, x4⟩ := HK0.out
  have HV := hide hv
  clear hv
  go_upto_region 7 with (go_at_call 20; refine (ex_safe3 HV.out).mono ?_; rintro e v5 ⟨R5, r5, rfl, hi, hb⟩)
  have HK0 := hide (HK0.out.next hb)
  have HK3 := hide (HK3.out.next hb)
  have HK4 := hide (HK4.out.next hb)
  have HS1 := hide (HS1.out.next hb)
  have HS2 := hide (HS2.out.next hb)
  have HS3 := hide (HS3.out.next hb)
  have HS4 := hide (HS4.out.next hb)
  have HB := hide (HB.out.trans (hb.mono (by have := HB.out.size; exact this)))
  have HI5 := hide hi
  clear hi
  clear hb z x0 x1 x2 x3 x4 HV
  obtain ⟨hv, z, x0, x1, x2, x3, x4⟩ := HK0.out
  have HV := hide hv
  clear hv
  go_upto_region 8 with (go_at_call 24; refine (ex_first0 HV.out).mono ?_; rintro e v6 ⟨R6, r6, rfl, hi, hb⟩)
  have HK0 := hide (HK0.out.next hb)
  have HK3 := hide (HK3.out.next hb)
  have HK4 := hide (HK4.out.next hb)
  have HS1 := hide (HS1.out.next hb)
  have HS2 := hide (HS2.out.next hb)
  have HS3 := hide (HS3.out.next hb)
  have HS4 := hide (HS4.out.next hb)
  have HI5 := hide (HI5.out.next hb)
  have HB := hide (HB.out.trans (hb.mono (by have := HB.out.size; exact this)))
  have HI6 := hide hi
  clear hi
  clear hb z x0 x1 x2 x3 x4 HV
  obtain ⟨hv, z, x0, x1, x2, x3, x4⟩ := HK0.out
  have HV := hide hv
  clear hv
  go_upto_region 9 with (go_at_call 26; refine (ex_spoils01 HV.out).mono ?_; rintro e v7 ⟨rfl, hb⟩)
  have HK0 := hide (HK0.out.next hb)
  have HK3 := hide (HK3.out.next hb)
  have HK4 := hide (HK4.out.next hb)
  have HS1 := hide (HS1.out.next hb)
  have HS2 := hide (HS2.out.next hb)
  have HS3 := hide (HS3.out.next hb)
  have HS4 := hide (HS4.out.next hb)
  have HI5 := hide (HI5.out.next hb)
  have HI6 := hide (HI6.out.next hb)
  have HB := hide (HB.out.trans (hb.mono (by have := HB.out.size; exact this)))
  clear hb z x0 x1 x2 x3 x4 HV
  obtain ⟨hv, z, x0, x1, x2, x3, x4⟩ := HK0.out
  have HV := hide hv
  clear hv
  go_region_held3 (fun w' => w'.cell? ⟨w3.heap.size, 0, none⟩ = some (.slice A1 (lawC []).heat.length c1) ∧ w'.cell? ⟨w3.heap.size, 1, none⟩ = some (.int .i64 (lawC []).gas) ∧ w'.cell? ⟨w3.heap.size, 2, none⟩ = some (.slice A2 (lawC []).holds.length c2) ∧ w'.cell? ⟨w3.heap.size, 3, none⟩ = some (.slice A3 (lawC []).lots.length c3) ∧ w'.cell? ⟨w3.heap.size, 4, none⟩ = some (.slice A4 (lawC []).seen.length c4))
    (first | exact ⟨x0, x1, x2, x3, x4⟩ | exact ⟨(hb8.cell (p := ⟨_, _, _⟩) z).trans x0, (hb8.cell (p := ⟨_, _, _⟩) z).trans x1, (hb8.cell (p := ⟨_, _, _⟩) z).trans x2, (hb8.cell (p := ⟨_, _, _⟩) z).trans x3, (hb8.cell (p := ⟨_, _, _⟩) z).trans x4⟩ | exact ⟨(hb9.cell (p := ⟨_, _, _⟩) z).trans x0, (hb9.cell (p := ⟨_, _, _⟩) z).trans x1, (hb9.cell (p := ⟨_, _, _⟩) z).trans x2, (hb9.cell (p := ⟨_, _, _⟩) z).trans x3, (hb9.cell (p := ⟨_, _, _⟩) z).trans x4⟩ | go_keep)
    (first
      | (go_at_call 53; refine (span_any 8 8 _).mono ?_; rintro e v8' ⟨rfl, hb8'⟩; have hb8 := ((Below.refl v7.heap.size v7).drew).trans hb8')
      | (go_at_call 28; refine (ex_putC (HV.out.next hb8)).mono ?_; rintro e v8 ⟨R8, r8, rfl, hi, hb9'⟩; have hb9 := hb8.trans (hb9'.mono hb8.size)))
  have HK0 := hide (HK0.out.next hb9)
  have HK3 := hide (HK3.out.next hb9)
  have HK4 := hide (HK4.out.next hb9)
  have HS1 := hide (HS1.out.next hb9)
  have HS2 := hide (HS2.out.next hb9)
  have HS3 := hide (HS3.out.next hb9)
  have HS4 := hide (HS4.out.next hb9)
  have HI5 := hide (HI5.out.next hb9)
  have HI6 := hide (HI6.out.next hb9)
  have HB := hide (HB.out.trans (hb9.mono (by have := HB.out.size; exact this)))
  have HI8 := hide hi
  clear hi hb8 hb8' hb9 hb9' z x0 x1 x2 x3 x4 HV
  obtain ⟨hv, z, x0, x1, x2, x3, x4⟩ := HK0.out
  have HV := hide hv
  clear hv
  go_upto_region 11 with (go_at_call 30; refine (ex_out4 HV.out).mono ?_; rintro e v9 ⟨R9, r9, rfl, hi, hb⟩)
  have HK0 := hide (HK0.out.next hb)
  have HK3 := hide (HK3.out.next hb)
  have HK4 := hide (HK4.out.next hb)
  have HS1 := hide (HS1.out.next hb)
  have HS2 := hide (HS2.out.next hb)
  have HS3 := hide (HS3.out.next hb)
  have HS4 := hide (HS4.out.next hb)
  have HI5 := hide (HI5.out.next hb)
  have HI6 := hide (HI6.out.next hb)
  have HI8 := hide (HI8.out.next hb)
  have HB := hide (HB.out.trans (hb.mono (by have := HB.out.size; exact this)))
  have HI9 := hide hi
  clear hi
  clear hb z x0 x1 x2 x3 x4 HV
  obtain ⟨hv, z, x0, x1, x2, x3, x4⟩ := HK4.out
  have HV := hide hv
  clear hv
  go_upto_region 12 with (go_at_call 32; refine (ex_wrong4 HV.out).mono ?_; rintro e v10 ⟨R10, r10, rfl, hi, hb⟩)
  have HK0 := hide (HK0.out.next hb)
  have HK3 := hide (HK3.out.next hb)
  have HK4 := hide (HK4.out.next hb)
  have HS1 := hide (HS1.out.next hb)
  have HS2 := hide (HS2.out.next hb)
  have HS3 := hide (HS3.out.next hb)
  have HS4 := hide (HS4.out.next hb)
  have HI5 := hide (HI5.out.next hb)
  have HI6 := hide (HI6.out.next hb)
  have HI8 := hide (HI8.out.next hb)
  have HI9 := hide (HI9.out.next hb)
  have HB := hide (HB.out.trans (hb.mono (by have := HB.out.size; exact this)))
  have HI10 := hide hi
  clear hi
  clear hb z x0 x1 x2 x3 x4 HV
  obtain ⟨hv, z, x0, x1, x2, x3, x4⟩ := HK4.out
  have HV := hide hv
  clear hv
  go_upto_region 13 with (go_at_call 18; refine (ex_turns4 HV.out).mono ?_; rintro e v11 ⟨rfl, hb⟩)
  have HK0 := hide (HK0.out.next hb)
  have HK3 := hide (HK3.out.next hb)
  have HK4 := hide (HK4.out.next hb)
  have HS1 := hide (HS1.out.next hb)
  have HS2 := hide (HS2.out.next hb)
  have HS3 := hide (HS3.out.next hb)
  have HS4 := hide (HS4.out.next hb)
  have HI5 := hide (HI5.out.next hb)
  have HI6 := hide (HI6.out.next hb)
  have HI8 := hide (HI8.out.next hb)
  have HI9 := hide (HI9.out.next hb)
  have HI10 := hide (HI10.out.next hb)
  have HB := hide (HB.out.trans (hb.mono (by have := HB.out.size; exact this)))
  clear hb z x0 x1 x2 x3 x4 HV
  have hA : Below v11.heap.size v11 (v11.alloc (.cells #[.int .i64 0, .int .i64 0] 32)) := (Below.refl _ _).alloc (Nat.le_refl _) _
  have HS11 : Hid (BoxS (v11.alloc (.cells #[.int .i64 0, .int .i64 0] 32)) v11.heap.size 0 0) := hide BoxS.made
  have HK0 := hide (HK0.out.next hA)
  have HK3 := hide (HK3.out.next hA)
  have HK4 := hide (HK4.out.next hA)
  have HS1 := hide (HS1.out.next hA)
  have HS2 := hide (HS2.out.next hA)
  have HS3 := hide (HS3.out.next hA)
  have HS4 := hide (HS4.out.next hA)
  have HI5 := hide (HI5.out.next hA)
  have HI6 := hide (HI6.out.next hA)
  have HI8 := hide (HI8.out.next hA)
  have HI9 := hide (HI9.out.next hA)
  have HI10 := hide (HI10.out.next hA)
  have HB := hide (HB.out.trans (hA.mono (by have := HB.out.size; exact this)))
  clear hA
  generalize (v11.alloc (.cells #[.int .i64 0, .int .i64 0] 32)) = u11 at *
  obtain ⟨hv, z, x0, x1, x2, x3, x4⟩ := HK0.out
  have HV := hide hv
  clear hv
  go_wp2_with fail
  refine (ex_spoils11 HV.out).mono ?_
  rintro e v12 ⟨rfl, hb⟩
  have HS1 := hide (HS1.out.next hb)
  have HS2 := hide (HS2.out.next hb)
  have HS3 := hide (HS3.out.next hb)
  have HS4 := hide (HS4.out.next hb)
  have HI5 := hide (HI5.out.next hb)
  have HI6 := hide (HI6.out.next hb)
  have HI8 := hide (HI8.out.next hb)
  have HI9 := hide (HI9.out.next hb)
  have HI10 := hide (HI10.out.next hb)
  have HS11 := hide (HS11.out.next hb)
  have HB := hide (HB.out.trans (hb.mono (by have := HB.out.size; exact this)))
  clear hb
  clear z x0 x1 x2 x3 x4 HV
  go_wp2_with fail
  simp only [List.append_eq, List.cons_append, List.nil_append]
  refine wp_post (fun a W => a.tmps[0]?.getD undef = .bool true ∧ a.defers = [] ∧ Below v12.heap.size v12 W) ?reg ?imp
  case reg =>
    refine wp_region_grow3 (dst := fun i => [102, 103, 104, 105, 106, 107, 108, 109, 110, 111, 112, 113, 114, 115, 116, 117, 118, 119, 120, 121, 122, 123, 124, 125, 126, 127, 128, 129, 130, 131, 132, 133, 134, 135, 136, 137, 138, 139, 140, 141, 142, 143, 144, 145, 146, 147, 148, 149, 150, 151, 152, 153, 154, 155, 156, 157, 158, 159, 160, 161, 162, 163, 164, 165, 166, 167, 168, 169, 170, 171, 172, 173, 174, 175, 176, 177, 178, 179, 180, 181, 182, 183, 184, 185, 186, 187, 188, 189, 190, 191, 192, 193, 194, 195, 196, 197, 198, 199, 200, 201, 202, 203, 0].getD i 0) (mono := fun i => decide (i < 103)) (pre := fun i => decide (i < 103))
      (Pv := fun i v W => match i with
        | 0 => v = .int .i64 0
        | 1 => v = .bool true
        | 2 => v = .bool true
        | 3 => v = .int .i64 0
        | 4 => v = .bool true
        | 5 => v = .bool true
        | 6 => v = .bool true
        | 7 => v = .int .i64 0
        | 8 => v = .bool true
        | 9 => v = .bool true
        | 10 => v = .bool true
        | 11 => v = .int .i64 0
        | 12 => v = .bool true
        | 13 => v = .bool true
        | 14 => v = .bool true
        | 15 => v = .int .i64 0
        | 16 => v = .bool true
        | 17 => v = .bool true
        | 18 => v = .bool true
        | 19 => v = .int .i64 0
        | 20 => v = .bool true
        | 21 => v = .bool true
        | 22 => v = .bool true
        | 23 => v = .int .i64 0
        | 24 => v = .bool true
        | 25 => v = .bool true
        | 26 => v = .bool true
        | 27 => v = .int .i64 0
        | 28 => v = .bool true
        | 29 => v = .bool true
        | 30 => v = .bool true
        | 31 => v = .int .i64 0
        | 32 => v = .bool true
        | 33 => v = .bool true
        | 34 => v = .bool true
        | 35 => v = .int .i64 0
        | 36 => v = .bool true
        | 37 => v = .bool true
        | 38 => v = .bool true
        | 39 => v = .int .i64 8
        | 40 => v = .bool true
        | 41 => v = .bool true
        | 42 => v = .bool true
        | 43 => v = .int .i64 2
        | 44 => v = .bool true
        | 45 => v = .bool true
        | 46 => v = .bool true
        | 47 => v = .agg #[.int .i64 2, .int .i64 4]
        | 48 => v = .agg #[.int .i64 2, .int .i64 4]
        | 49 => v = .bool true
        | 50 => v = .bool true
        | 51 => v = .bool true
        | 52 => v = .int .i64 1
        | 53 => v = .bool true
        | 54 => v = .bool true
        | 55 => v = .bool true
        | 56 => v = .agg #[.int .i64 4, .int .i64 6]
        | 57 => v = .agg #[.int .i64 4, .int .i64 6]
        | 58 => v = .bool true
        | 59 => v = .bool true
        | 60 => v = .bool true
        | 61 => v = .int .i64 2
        | 62 => v = .bool true
        | 63 => v = .bool true
        | 64 => v = .bool true
        | 65 => v = .agg #[.int .i64 6, .int .i64 6]
        | 66 => v = .agg #[.int .i64 6, .int .i64 6]
        | 67 => v = .bool true
        | 68 => v = .bool true
        | 69 => v = .bool true
        | 70 => v = .int .i64 1
        | 71 => v = .bool true
        | 72 => v = .bool true
        | 73 => v = .bool true
        | 74 => v = .slice R5 2 r5
        | 75 => ∃ A cp, v = .slice A 2 cp ∧ IntsS W W.heap.size A 2 cp [1, 2]
        | 76 => v = .bool true
        | 77 => v = .bool true
        | 78 => v = .bool true
        | 79 => v = .slice R6 1 r6
        | 80 => ∃ A cp, v = .slice A 1 cp ∧ IntsS W W.heap.size A 1 cp [0]
        | 81 => v = .bool true
        | 82 => v = .bool true
        | 83 => v = .bool true
        | 84 => v = .int .i64 1
        | 85 => v = .bool true
        | 86 => v = .bool true
        | 87 => v = .bool true
        | 88 => v = .slice R8 1 r8
        | 89 => ∃ A cp, v = .slice A 1 cp ∧ IntsS W W.heap.size A 1 cp [1]
        | 90 => v = .bool true
        | 91 => v = .bool true
        | 92 => v = .bool true
        | 93 => v = .slice R9 1 r9
        | 94 => ∃ A cp, v = .slice A 1 cp ∧ IntsS W W.heap.size A 1 cp [0]
        | 95 => v = .bool true
        | 96 => v = .bool true
        | 97 => v = .bool true
        | 98 => v = .slice R10 1 r10
        | 99 => ∃ A cp, v = .slice A 1 cp ∧ IntsS W W.heap.size A 1 cp [0]
        | 100 => v = .bool true
        | 101 => v = .bool true
        | 102 => v = .bool true
        | _ => True) (by kernel_rfl) (by kernel_rfl) ?hst ?hstep ?hend
    case hst =>
      intro i v W W' h hb
      match i, h with
      | 0, h => exact h
      | 1, h => exact h
      | 2, h => exact h
      | 3, h => exact h
      | 4, h => exact h
      | 5, h => exact h
      | 6, h => exact h
      | 7, h => exact h
      | 8, h => exact h
      | 9, h => exact h
      | 10, h => exact h
      | 11, h => exact h
      | 12, h => exact h
      | 13, h => exact h
      | 14, h => exact h
      | 15, h => exact h
      | 16, h => exact h
      | 17, h => exact h
      | 18, h => exact h
      | 19, h => exact h
      | 20, h => exact h
      | 21, h => exact h
      | 22, h => exact h
      | 23, h => exact h
      | 24, h => exact h
      | 25, h => exact h
      | 26, h => exact h
      | 27, h => exact h
      | 28, h => exact h
      | 29, h => exact h
      | 30, h => exact h
      | 31, h => exact h
      | 32, h => exact h
      | 33, h => exact h
      | 34, h => exact h
      | 35, h => exact h
      | 36, h => exact h
      | 37, h => exact h
      | 38, h => exact h
      | 39, h => exact h
      | 40, h => exact h
      | 41, h => exact h
      | 42, h => exact h
      | 43, h => exact h
      | 44, h => exact h
      | 45, h => exact h
      | 46, h => exact h
      | 47, h => exact h
      | 48, h => exact h
      | 49, h => exact h
      | 50, h => exact h
      | 51, h => exact h
      | 52, h => exact h
      | 53, h => exact h
      | 54, h => exact h
      | 55, h => exact h
      | 56, h => exact h
      | 57, h => exact h
      | 58, h => exact h
      | 59, h => exact h
      | 60, h => exact h
      | 61, h => exact h
      | 62, h => exact h
      | 63, h => exact h
      | 64, h => exact h
      | 65, h => exact h
      | 66, h => exact h
      | 67, h => exact h
      | 68, h => exact h
      | 69, h => exact h
      | 70, h => exact h
      | 71, h => exact h
      | 72, h => exact h
      | 73, h => exact h
      | 74, h => exact h
      | 75, h => (obtain ⟨A, cp, h1, h2⟩ := h; exact ⟨A, cp, h1, h2.next hb⟩)
      | 76, h => exact h
      | 77, h => exact h
      | 78, h => exact h
      | 79, h => exact h
      | 80, h => (obtain ⟨A, cp, h1, h2⟩ := h; exact ⟨A, cp, h1, h2.next hb⟩)
      | 81, h => exact h
      | 82, h => exact h
      | 83, h => exact h
      | 84, h => exact h
      | 85, h => exact h
      | 86, h => exact h
      | 87, h => exact h
      | 88, h => exact h
      | 89, h => (obtain ⟨A, cp, h1, h2⟩ := h; exact ⟨A, cp, h1, h2.next hb⟩)
      | 90, h => exact h
      | 91, h => exact h
      | 92, h => exact h
      | 93, h => exact h
      | 94, h => (obtain ⟨A, cp, h1, h2⟩ := h; exact ⟨A, cp, h1, h2.next hb⟩)
      | 95, h => exact h
      | 96, h => exact h
      | 97, h => exact h
      | 98, h => exact h
      | 99, h => (obtain ⟨A, cp, h1, h2⟩ := h; exact ⟨A, cp, h1, h2.next hb⟩)
      | 100, h => exact h
      | 101, h => exact h
      | 102, h => exact h
      | i + 103, h => exact trivial
    case hstep =>
      intro i hi hm listed vs a W hU haft K hK
      have hb := ((Below.refl v12.heap.size v12).drew).trans hU.below
      match i, hi, hm with
      | 0, hi, hm =>
        have z6 : a.tmps[6]?.getD undef = .int .i64 0 := hU.same 6 (by kernel_rfl)
        refine wpOp_value (v := .int .i64 0) (W' := W) rfl rfl ?_ (hK _ _ (Below.refl _ _) rfl)
        go_simp
      | 1, hi, hm =>
        have l0 := haft _ rfl { on := 0, ground := .data } (by simp) rfl
        have p0 := hU.pv 0 l0
        have s0 : a.tmps[102]?.getD undef = vs 0 := hU.slot 0 (by decide) l0
        have hv0 : vs 0 = .int .i64 0 := p0
        rw [hv0] at s0
        refine wpOp_value (v := .bool true) (W' := W) rfl rfl ?_ (hK _ _ (Below.refl _ _) rfl)
        go_simp
      | 2, hi, hm =>
        have l1 := haft _ rfl { on := 1, ground := .data } (by simp) rfl
        have p1 := hU.pv 1 l1
        have s1 : a.tmps[103]?.getD undef = vs 1 := hU.slot 1 (by decide) l1
        have hv1 : vs 1 = .bool true := p1
        rw [hv1] at s1
        refine wpOp_value (v := .bool true) (W' := W) rfl rfl ?_ (hK _ _ (Below.refl _ _) rfl)
        go_simp
      | 3, hi, hm =>
        have l2 := haft _ rfl { on := 2, ground := .guard } (by simp) rfl
        have p2 := hU.pv 2 l2
        have s2 : a.tmps[104]?.getD undef = vs 2 := hU.slot 2 (by decide) l2
        have hv2 : vs 2 = .bool true := p2
        rw [hv2] at s2
        have z9 : a.tmps[9]?.getD undef = .int .i64 0 := hU.same 9 (by kernel_rfl)
        refine wpOp_wanted (v := .int .i64 0) (W' := W) rfl ?_ ?_ (hK _ _ (Below.refl _ _) rfl)
        · refine wanted_yes (j := 2) (d := 104) ?_ ?_ s2 <;> rfl
        go_simp
      | 4, hi, hm =>
        have l2 := haft _ rfl { on := 2, ground := .guard } (by simp) rfl
        have p2 := hU.pv 2 l2
        have s2 : a.tmps[104]?.getD undef = vs 2 := hU.slot 2 (by decide) l2
        have hv2 : vs 2 = .bool true := p2
        rw [hv2] at s2
        have l3 := haft _ rfl { on := 3, ground := .data } (by simp) rfl
        have p3 := hU.pv 3 l3
        have s3 : a.tmps[105]?.getD undef = vs 3 := hU.slot 3 (by decide) l3
        have hv3 : vs 3 = .int .i64 0 := p3
        rw [hv3] at s3
        refine wpOp_wanted (v := .bool true) (W' := W) rfl ?_ ?_ (hK _ _ (Below.refl _ _) rfl)
        · refine wanted_yes (j := 2) (d := 104) ?_ ?_ s2 <;> rfl
        go_simp
      | 5, hi, hm =>
        have l2 := haft _ rfl { on := 2, ground := .data } (by simp) rfl
        have p2 := hU.pv 2 l2
        have s2 : a.tmps[104]?.getD undef = vs 2 := hU.slot 2 (by decide) l2
        have hv2 : vs 2 = .bool true := p2
        rw [hv2] at s2
        have l4 := haft _ rfl { on := 4, ground := .data } (by simp) rfl
        have p4 := hU.pv 4 l4
        have s4 : a.tmps[106]?.getD undef = vs 4 := hU.slot 4 (by decide) l4
        have hv4 : vs 4 = .bool true := p4
        rw [hv4] at s4
        refine wpOp_value (v := .bool true) (W' := W) rfl rfl ?_ (hK _ _ (Below.refl _ _) rfl)
        go_simp
      | 6, hi, hm =>
        have l5 := haft _ rfl { on := 5, ground := .data } (by simp) rfl
        have p5 := hU.pv 5 l5
        have s5 : a.tmps[107]?.getD undef = vs 5 := hU.slot 5 (by decide) l5
        have hv5 : vs 5 = .bool true := p5
        rw [hv5] at s5
        refine wpOp_value (v := .bool true) (W' := W) rfl rfl ?_ (hK _ _ (Below.refl _ _) rfl)
        go_simp
      | 7, hi, hm =>
        have l6 := haft _ rfl { on := 6, ground := .guard } (by simp) rfl
        have p6 := hU.pv 6 l6
        have s6 : a.tmps[108]?.getD undef = vs 6 := hU.slot 6 (by decide) l6
        have hv6 : vs 6 = .bool true := p6
        rw [hv6] at s6
        have z12 : a.tmps[12]?.getD undef = .int .i64 0 := hU.same 12 (by kernel_rfl)
        refine wpOp_wanted (v := .int .i64 0) (W' := W) rfl ?_ ?_ (hK _ _ (Below.refl _ _) rfl)
        · refine wanted_yes (j := 6) (d := 108) ?_ ?_ s6 <;> rfl
        go_simp
      | 8, hi, hm =>
        have l6 := haft _ rfl { on := 6, ground := .guard } (by simp) rfl
        have p6 := hU.pv 6 l6
        have s6 : a.tmps[108]?.getD undef = vs 6 := hU.slot 6 (by decide) l6
        have hv6 : vs 6 = .bool true := p6
        rw [hv6] at s6
        have l7 := haft _ rfl { on := 7, ground := .data } (by simp) rfl
        have p7 := hU.pv 7 l7
        have s7 : a.tmps[109]?.getD undef = vs 7 := hU.slot 7 (by decide) l7
        have hv7 : vs 7 = .int .i64 0 := p7
        rw [hv7] at s7
        refine wpOp_wanted (v := .bool true) (W' := W) rfl ?_ ?_ (hK _ _ (Below.refl _ _) rfl)
        · refine wanted_yes (j := 6) (d := 108) ?_ ?_ s6 <;> rfl
        go_simp
      | 9, hi, hm =>
        have l6 := haft _ rfl { on := 6, ground := .data } (by simp) rfl
        have p6 := hU.pv 6 l6
        have s6 : a.tmps[108]?.getD undef = vs 6 := hU.slot 6 (by decide) l6
        have hv6 : vs 6 = .bool true := p6
        rw [hv6] at s6
        have l8 := haft _ rfl { on := 8, ground := .data } (by simp) rfl
        have p8 := hU.pv 8 l8
        have s8 : a.tmps[110]?.getD undef = vs 8 := hU.slot 8 (by decide) l8
        have hv8 : vs 8 = .bool true := p8
        rw [hv8] at s8
        refine wpOp_value (v := .bool true) (W' := W) rfl rfl ?_ (hK _ _ (Below.refl _ _) rfl)
        go_simp
      | 10, hi, hm =>
        have l9 := haft _ rfl { on := 9, ground := .data } (by simp) rfl
        have p9 := hU.pv 9 l9
        have s9 : a.tmps[111]?.getD undef = vs 9 := hU.slot 9 (by decide) l9
        have hv9 : vs 9 = .bool true := p9
        rw [hv9] at s9
        refine wpOp_value (v := .bool true) (W' := W) rfl rfl ?_ (hK _ _ (Below.refl _ _) rfl)
        go_simp
      | 11, hi, hm =>
        have l10 := haft _ rfl { on := 10, ground := .guard } (by simp) rfl
        have p10 := hU.pv 10 l10
        have s10 : a.tmps[112]?.getD undef = vs 10 := hU.slot 10 (by decide) l10
        have hv10 : vs 10 = .bool true := p10
        rw [hv10] at s10
        have z15 : a.tmps[15]?.getD undef = .int .i64 0 := hU.same 15 (by kernel_rfl)
        refine wpOp_wanted (v := .int .i64 0) (W' := W) rfl ?_ ?_ (hK _ _ (Below.refl _ _) rfl)
        · refine wanted_yes (j := 10) (d := 112) ?_ ?_ s10 <;> rfl
        go_simp
      | 12, hi, hm =>
        have l10 := haft _ rfl { on := 10, ground := .guard } (by simp) rfl
        have p10 := hU.pv 10 l10
        have s10 : a.tmps[112]?.getD undef = vs 10 := hU.slot 10 (by decide) l10
        have hv10 : vs 10 = .bool true := p10
        rw [hv10] at s10
        have l11 := haft _ rfl { on := 11, ground := .data } (by simp) rfl
        have p11 := hU.pv 11 l11
        have s11 : a.tmps[113]?.getD undef = vs 11 := hU.slot 11 (by decide) l11
        have hv11 : vs 11 = .int .i64 0 := p11
        rw [hv11] at s11
        refine wpOp_wanted (v := .bool true) (W' := W) rfl ?_ ?_ (hK _ _ (Below.refl _ _) rfl)
        · refine wanted_yes (j := 10) (d := 112) ?_ ?_ s10 <;> rfl
        go_simp
      | 13, hi, hm =>
        have l10 := haft _ rfl { on := 10, ground := .data } (by simp) rfl
        have p10 := hU.pv 10 l10
        have s10 : a.tmps[112]?.getD undef = vs 10 := hU.slot 10 (by decide) l10
        have hv10 : vs 10 = .bool true := p10
        rw [hv10] at s10
        have l12 := haft _ rfl { on := 12, ground := .data } (by simp) rfl
        have p12 := hU.pv 12 l12
        have s12 : a.tmps[114]?.getD undef = vs 12 := hU.slot 12 (by decide) l12
        have hv12 : vs 12 = .bool true := p12
        rw [hv12] at s12
        refine wpOp_value (v := .bool true) (W' := W) rfl rfl ?_ (hK _ _ (Below.refl _ _) rfl)
        go_simp
      | 14, hi, hm =>
        have l13 := haft _ rfl { on := 13, ground := .data } (by simp) rfl
        have p13 := hU.pv 13 l13
        have s13 : a.tmps[115]?.getD undef = vs 13 := hU.slot 13 (by decide) l13
        have hv13 : vs 13 = .bool true := p13
        rw [hv13] at s13
        refine wpOp_value (v := .bool true) (W' := W) rfl rfl ?_ (hK _ _ (Below.refl _ _) rfl)
        go_simp
      | 15, hi, hm =>
        have l14 := haft _ rfl { on := 14, ground := .guard } (by simp) rfl
        have p14 := hU.pv 14 l14
        have s14 : a.tmps[116]?.getD undef = vs 14 := hU.slot 14 (by decide) l14
        have hv14 : vs 14 = .bool true := p14
        rw [hv14] at s14
        have z17 : a.tmps[17]?.getD undef = .int .i64 0 := hU.same 17 (by kernel_rfl)
        refine wpOp_wanted (v := .int .i64 0) (W' := W) rfl ?_ ?_ (hK _ _ (Below.refl _ _) rfl)
        · refine wanted_yes (j := 14) (d := 116) ?_ ?_ s14 <;> rfl
        go_simp
      | 16, hi, hm =>
        have l14 := haft _ rfl { on := 14, ground := .guard } (by simp) rfl
        have p14 := hU.pv 14 l14
        have s14 : a.tmps[116]?.getD undef = vs 14 := hU.slot 14 (by decide) l14
        have hv14 : vs 14 = .bool true := p14
        rw [hv14] at s14
        have l15 := haft _ rfl { on := 15, ground := .data } (by simp) rfl
        have p15 := hU.pv 15 l15
        have s15 : a.tmps[117]?.getD undef = vs 15 := hU.slot 15 (by decide) l15
        have hv15 : vs 15 = .int .i64 0 := p15
        rw [hv15] at s15
        refine wpOp_wanted (v := .bool true) (W' := W) rfl ?_ ?_ (hK _ _ (Below.refl _ _) rfl)
        · refine wanted_yes (j := 14) (d := 116) ?_ ?_ s14 <;> rfl
        go_simp
      | 17, hi, hm =>
        have l14 := haft _ rfl { on := 14, ground := .data } (by simp) rfl
        have p14 := hU.pv 14 l14
        have s14 : a.tmps[116]?.getD undef = vs 14 := hU.slot 14 (by decide) l14
        have hv14 : vs 14 = .bool true := p14
        rw [hv14] at s14
        have l16 := haft _ rfl { on := 16, ground := .data } (by simp) rfl
        have p16 := hU.pv 16 l16
        have s16 : a.tmps[118]?.getD undef = vs 16 := hU.slot 16 (by decide) l16
        have hv16 : vs 16 = .bool true := p16
        rw [hv16] at s16
        refine wpOp_value (v := .bool true) (W' := W) rfl rfl ?_ (hK _ _ (Below.refl _ _) rfl)
        go_simp
      | 18, hi, hm =>
        have l17 := haft _ rfl { on := 17, ground := .data } (by simp) rfl
        have p17 := hU.pv 17 l17
        have s17 : a.tmps[119]?.getD undef = vs 17 := hU.slot 17 (by decide) l17
        have hv17 : vs 17 = .bool true := p17
        rw [hv17] at s17
        refine wpOp_value (v := .bool true) (W' := W) rfl rfl ?_ (hK _ _ (Below.refl _ _) rfl)
        go_simp
      | 19, hi, hm =>
        have l18 := haft _ rfl { on := 18, ground := .guard } (by simp) rfl
        have p18 := hU.pv 18 l18
        have s18 : a.tmps[120]?.getD undef = vs 18 := hU.slot 18 (by decide) l18
        have hv18 : vs 18 = .bool true := p18
        rw [hv18] at s18
        have z19 : a.tmps[19]?.getD undef = .int .i64 0 := hU.same 19 (by kernel_rfl)
        refine wpOp_wanted (v := .int .i64 0) (W' := W) rfl ?_ ?_ (hK _ _ (Below.refl _ _) rfl)
        · refine wanted_yes (j := 18) (d := 120) ?_ ?_ s18 <;> rfl
        go_simp
      | 20, hi, hm =>
        have l18 := haft _ rfl { on := 18, ground := .guard } (by simp) rfl
        have p18 := hU.pv 18 l18
        have s18 : a.tmps[120]?.getD undef = vs 18 := hU.slot 18 (by decide) l18
        have hv18 : vs 18 = .bool true := p18
        rw [hv18] at s18
        have l19 := haft _ rfl { on := 19, ground := .data } (by simp) rfl
        have p19 := hU.pv 19 l19
        have s19 : a.tmps[121]?.getD undef = vs 19 := hU.slot 19 (by decide) l19
        have hv19 : vs 19 = .int .i64 0 := p19
        rw [hv19] at s19
        refine wpOp_wanted (v := .bool true) (W' := W) rfl ?_ ?_ (hK _ _ (Below.refl _ _) rfl)
        · refine wanted_yes (j := 18) (d := 120) ?_ ?_ s18 <;> rfl
        go_simp
      | 21, hi, hm =>
        have l18 := haft _ rfl { on := 18, ground := .data } (by simp) rfl
        have p18 := hU.pv 18 l18
        have s18 : a.tmps[120]?.getD undef = vs 18 := hU.slot 18 (by decide) l18
        have hv18 : vs 18 = .bool true := p18
        rw [hv18] at s18
        have l20 := haft _ rfl { on := 20, ground := .data } (by simp) rfl
        have p20 := hU.pv 20 l20
        have s20 : a.tmps[122]?.getD undef = vs 20 := hU.slot 20 (by decide) l20
        have hv20 : vs 20 = .bool true := p20
        rw [hv20] at s20
        refine wpOp_value (v := .bool true) (W' := W) rfl rfl ?_ (hK _ _ (Below.refl _ _) rfl)
        go_simp
      | 22, hi, hm =>
        have l21 := haft _ rfl { on := 21, ground := .data } (by simp) rfl
        have p21 := hU.pv 21 l21
        have s21 : a.tmps[123]?.getD undef = vs 21 := hU.slot 21 (by decide) l21
        have hv21 : vs 21 = .bool true := p21
        rw [hv21] at s21
        refine wpOp_value (v := .bool true) (W' := W) rfl rfl ?_ (hK _ _ (Below.refl _ _) rfl)
        go_simp
      | 23, hi, hm =>
        have l22 := haft _ rfl { on := 22, ground := .guard } (by simp) rfl
        have p22 := hU.pv 22 l22
        have s22 : a.tmps[124]?.getD undef = vs 22 := hU.slot 22 (by decide) l22
        have hv22 : vs 22 = .bool true := p22
        rw [hv22] at s22
        have z21 : a.tmps[21]?.getD undef = .int .i64 0 := hU.same 21 (by kernel_rfl)
        refine wpOp_wanted (v := .int .i64 0) (W' := W) rfl ?_ ?_ (hK _ _ (Below.refl _ _) rfl)
        · refine wanted_yes (j := 22) (d := 124) ?_ ?_ s22 <;> rfl
        go_simp
      | 24, hi, hm =>
        have l22 := haft _ rfl { on := 22, ground := .guard } (by simp) rfl
        have p22 := hU.pv 22 l22
        have s22 : a.tmps[124]?.getD undef = vs 22 := hU.slot 22 (by decide) l22
        have hv22 : vs 22 = .bool true := p22
        rw [hv22] at s22
        have l23 := haft _ rfl { on := 23, ground := .data } (by simp) rfl
        have p23 := hU.pv 23 l23
        have s23 : a.tmps[125]?.getD undef = vs 23 := hU.slot 23 (by decide) l23
        have hv23 : vs 23 = .int .i64 0 := p23
        rw [hv23] at s23
        refine wpOp_wanted (v := .bool true) (W' := W) rfl ?_ ?_ (hK _ _ (Below.refl _ _) rfl)
        · refine wanted_yes (j := 22) (d := 124) ?_ ?_ s22 <;> rfl
        go_simp
      | 25, hi, hm =>
        have l22 := haft _ rfl { on := 22, ground := .data } (by simp) rfl
        have p22 := hU.pv 22 l22
        have s22 : a.tmps[124]?.getD undef = vs 22 := hU.slot 22 (by decide) l22
        have hv22 : vs 22 = .bool true := p22
        rw [hv22] at s22
        have l24 := haft _ rfl { on := 24, ground := .data } (by simp) rfl
        have p24 := hU.pv 24 l24
        have s24 : a.tmps[126]?.getD undef = vs 24 := hU.slot 24 (by decide) l24
        have hv24 : vs 24 = .bool true := p24
        rw [hv24] at s24
        refine wpOp_value (v := .bool true) (W' := W) rfl rfl ?_ (hK _ _ (Below.refl _ _) rfl)
        go_simp
      | 26, hi, hm =>
        have l25 := haft _ rfl { on := 25, ground := .data } (by simp) rfl
        have p25 := hU.pv 25 l25
        have s25 : a.tmps[127]?.getD undef = vs 25 := hU.slot 25 (by decide) l25
        have hv25 : vs 25 = .bool true := p25
        rw [hv25] at s25
        refine wpOp_value (v := .bool true) (W' := W) rfl rfl ?_ (hK _ _ (Below.refl _ _) rfl)
        go_simp
      | 27, hi, hm =>
        have l26 := haft _ rfl { on := 26, ground := .guard } (by simp) rfl
        have p26 := hU.pv 26 l26
        have s26 : a.tmps[128]?.getD undef = vs 26 := hU.slot 26 (by decide) l26
        have hv26 : vs 26 = .bool true := p26
        rw [hv26] at s26
        have z23 : a.tmps[23]?.getD undef = .int .i64 0 := hU.same 23 (by kernel_rfl)
        refine wpOp_wanted (v := .int .i64 0) (W' := W) rfl ?_ ?_ (hK _ _ (Below.refl _ _) rfl)
        · refine wanted_yes (j := 26) (d := 128) ?_ ?_ s26 <;> rfl
        go_simp
      | 28, hi, hm =>
        have l26 := haft _ rfl { on := 26, ground := .guard } (by simp) rfl
        have p26 := hU.pv 26 l26
        have s26 : a.tmps[128]?.getD undef = vs 26 := hU.slot 26 (by decide) l26
        have hv26 : vs 26 = .bool true := p26
        rw [hv26] at s26
        have l27 := haft _ rfl { on := 27, ground := .data } (by simp) rfl
        have p27 := hU.pv 27 l27
        have s27 : a.tmps[129]?.getD undef = vs 27 := hU.slot 27 (by decide) l27
        have hv27 : vs 27 = .int .i64 0 := p27
        rw [hv27] at s27
        refine wpOp_wanted (v := .bool true) (W' := W) rfl ?_ ?_ (hK _ _ (Below.refl _ _) rfl)
        · refine wanted_yes (j := 26) (d := 128) ?_ ?_ s26 <;> rfl
        go_simp
      | 29, hi, hm =>
        have l26 := haft _ rfl { on := 26, ground := .data } (by simp) rfl
        have p26 := hU.pv 26 l26
        have s26 : a.tmps[128]?.getD undef = vs 26 := hU.slot 26 (by decide) l26
        have hv26 : vs 26 = .bool true := p26
        rw [hv26] at s26
        have l28 := haft _ rfl { on := 28, ground := .data } (by simp) rfl
        have p28 := hU.pv 28 l28
        have s28 : a.tmps[130]?.getD undef = vs 28 := hU.slot 28 (by decide) l28
        have hv28 : vs 28 = .bool true := p28
        rw [hv28] at s28
        refine wpOp_value (v := .bool true) (W' := W) rfl rfl ?_ (hK _ _ (Below.refl _ _) rfl)
        go_simp
      | 30, hi, hm =>
        have l29 := haft _ rfl { on := 29, ground := .data } (by simp) rfl
        have p29 := hU.pv 29 l29
        have s29 : a.tmps[131]?.getD undef = vs 29 := hU.slot 29 (by decide) l29
        have hv29 : vs 29 = .bool true := p29
        rw [hv29] at s29
        refine wpOp_value (v := .bool true) (W' := W) rfl rfl ?_ (hK _ _ (Below.refl _ _) rfl)
        go_simp
      | 31, hi, hm =>
        have l30 := haft _ rfl { on := 30, ground := .guard } (by simp) rfl
        have p30 := hU.pv 30 l30
        have s30 : a.tmps[132]?.getD undef = vs 30 := hU.slot 30 (by decide) l30
        have hv30 : vs 30 = .bool true := p30
        rw [hv30] at s30
        have z25 : a.tmps[25]?.getD undef = .int .i64 0 := hU.same 25 (by kernel_rfl)
        refine wpOp_wanted (v := .int .i64 0) (W' := W) rfl ?_ ?_ (hK _ _ (Below.refl _ _) rfl)
        · refine wanted_yes (j := 30) (d := 132) ?_ ?_ s30 <;> rfl
        go_simp
      | 32, hi, hm =>
        have l30 := haft _ rfl { on := 30, ground := .guard } (by simp) rfl
        have p30 := hU.pv 30 l30
        have s30 : a.tmps[132]?.getD undef = vs 30 := hU.slot 30 (by decide) l30
        have hv30 : vs 30 = .bool true := p30
        rw [hv30] at s30
        have l31 := haft _ rfl { on := 31, ground := .data } (by simp) rfl
        have p31 := hU.pv 31 l31
        have s31 : a.tmps[133]?.getD undef = vs 31 := hU.slot 31 (by decide) l31
        have hv31 : vs 31 = .int .i64 0 := p31
        rw [hv31] at s31
        refine wpOp_wanted (v := .bool true) (W' := W) rfl ?_ ?_ (hK _ _ (Below.refl _ _) rfl)
        · refine wanted_yes (j := 30) (d := 132) ?_ ?_ s30 <;> rfl
        go_simp
      | 33, hi, hm =>
        have l30 := haft _ rfl { on := 30, ground := .data } (by simp) rfl
        have p30 := hU.pv 30 l30
        have s30 : a.tmps[132]?.getD undef = vs 30 := hU.slot 30 (by decide) l30
        have hv30 : vs 30 = .bool true := p30
        rw [hv30] at s30
        have l32 := haft _ rfl { on := 32, ground := .data } (by simp) rfl
        have p32 := hU.pv 32 l32
        have s32 : a.tmps[134]?.getD undef = vs 32 := hU.slot 32 (by decide) l32
        have hv32 : vs 32 = .bool true := p32
        rw [hv32] at s32
        refine wpOp_value (v := .bool true) (W' := W) rfl rfl ?_ (hK _ _ (Below.refl _ _) rfl)
        go_simp
      | 34, hi, hm =>
        have l33 := haft _ rfl { on := 33, ground := .data } (by simp) rfl
        have p33 := hU.pv 33 l33
        have s33 : a.tmps[135]?.getD undef = vs 33 := hU.slot 33 (by decide) l33
        have hv33 : vs 33 = .bool true := p33
        rw [hv33] at s33
        refine wpOp_value (v := .bool true) (W' := W) rfl rfl ?_ (hK _ _ (Below.refl _ _) rfl)
        go_simp
      | 35, hi, hm =>
        have l34 := haft _ rfl { on := 34, ground := .guard } (by simp) rfl
        have p34 := hU.pv 34 l34
        have s34 : a.tmps[136]?.getD undef = vs 34 := hU.slot 34 (by decide) l34
        have hv34 : vs 34 = .bool true := p34
        rw [hv34] at s34
        have z27 : a.tmps[27]?.getD undef = .int .i64 0 := hU.same 27 (by kernel_rfl)
        refine wpOp_wanted (v := .int .i64 0) (W' := W) rfl ?_ ?_ (hK _ _ (Below.refl _ _) rfl)
        · refine wanted_yes (j := 34) (d := 136) ?_ ?_ s34 <;> rfl
        go_simp
      | 36, hi, hm =>
        have l34 := haft _ rfl { on := 34, ground := .guard } (by simp) rfl
        have p34 := hU.pv 34 l34
        have s34 : a.tmps[136]?.getD undef = vs 34 := hU.slot 34 (by decide) l34
        have hv34 : vs 34 = .bool true := p34
        rw [hv34] at s34
        have l35 := haft _ rfl { on := 35, ground := .data } (by simp) rfl
        have p35 := hU.pv 35 l35
        have s35 : a.tmps[137]?.getD undef = vs 35 := hU.slot 35 (by decide) l35
        have hv35 : vs 35 = .int .i64 0 := p35
        rw [hv35] at s35
        refine wpOp_wanted (v := .bool true) (W' := W) rfl ?_ ?_ (hK _ _ (Below.refl _ _) rfl)
        · refine wanted_yes (j := 34) (d := 136) ?_ ?_ s34 <;> rfl
        go_simp
      | 37, hi, hm =>
        have l34 := haft _ rfl { on := 34, ground := .data } (by simp) rfl
        have p34 := hU.pv 34 l34
        have s34 : a.tmps[136]?.getD undef = vs 34 := hU.slot 34 (by decide) l34
        have hv34 : vs 34 = .bool true := p34
        rw [hv34] at s34
        have l36 := haft _ rfl { on := 36, ground := .data } (by simp) rfl
        have p36 := hU.pv 36 l36
        have s36 : a.tmps[138]?.getD undef = vs 36 := hU.slot 36 (by decide) l36
        have hv36 : vs 36 = .bool true := p36
        rw [hv36] at s36
        refine wpOp_value (v := .bool true) (W' := W) rfl rfl ?_ (hK _ _ (Below.refl _ _) rfl)
        go_simp
      | 38, hi, hm =>
        have l37 := haft _ rfl { on := 37, ground := .data } (by simp) rfl
        have p37 := hU.pv 37 l37
        have s37 : a.tmps[139]?.getD undef = vs 37 := hU.slot 37 (by decide) l37
        have hv37 : vs 37 = .bool true := p37
        rw [hv37] at s37
        refine wpOp_value (v := .bool true) (W' := W) rfl rfl ?_ (hK _ _ (Below.refl _ _) rfl)
        go_simp
      | 39, hi, hm =>
        have l38 := haft _ rfl { on := 38, ground := .guard } (by simp) rfl
        have p38 := hU.pv 38 l38
        have s38 : a.tmps[140]?.getD undef = vs 38 := hU.slot 38 (by decide) l38
        have hv38 : vs 38 = .bool true := p38
        rw [hv38] at s38
        have z30 : a.tmps[30]?.getD undef = .int .i64 8 := hU.same 30 (by kernel_rfl)
        refine wpOp_wanted (v := .int .i64 8) (W' := W) rfl ?_ ?_ (hK _ _ (Below.refl _ _) rfl)
        · refine wanted_yes (j := 38) (d := 140) ?_ ?_ s38 <;> rfl
        go_simp
      | 40, hi, hm =>
        have l38 := haft _ rfl { on := 38, ground := .guard } (by simp) rfl
        have p38 := hU.pv 38 l38
        have s38 : a.tmps[140]?.getD undef = vs 38 := hU.slot 38 (by decide) l38
        have hv38 : vs 38 = .bool true := p38
        rw [hv38] at s38
        have l39 := haft _ rfl { on := 39, ground := .data } (by simp) rfl
        have p39 := hU.pv 39 l39
        have s39 : a.tmps[141]?.getD undef = vs 39 := hU.slot 39 (by decide) l39
        have hv39 : vs 39 = .int .i64 8 := p39
        rw [hv39] at s39
        refine wpOp_wanted (v := .bool true) (W' := W) rfl ?_ ?_ (hK _ _ (Below.refl _ _) rfl)
        · refine wanted_yes (j := 38) (d := 140) ?_ ?_ s38 <;> rfl
        go_simp
      | 41, hi, hm =>
        have l38 := haft _ rfl { on := 38, ground := .data } (by simp) rfl
        have p38 := hU.pv 38 l38
        have s38 : a.tmps[140]?.getD undef = vs 38 := hU.slot 38 (by decide) l38
        have hv38 : vs 38 = .bool true := p38
        rw [hv38] at s38
        have l40 := haft _ rfl { on := 40, ground := .data } (by simp) rfl
        have p40 := hU.pv 40 l40
        have s40 : a.tmps[142]?.getD undef = vs 40 := hU.slot 40 (by decide) l40
        have hv40 : vs 40 = .bool true := p40
        rw [hv40] at s40
        refine wpOp_value (v := .bool true) (W' := W) rfl rfl ?_ (hK _ _ (Below.refl _ _) rfl)
        go_simp
      | 42, hi, hm =>
        have l41 := haft _ rfl { on := 41, ground := .data } (by simp) rfl
        have p41 := hU.pv 41 l41
        have s41 : a.tmps[143]?.getD undef = vs 41 := hU.slot 41 (by decide) l41
        have hv41 : vs 41 = .bool true := p41
        rw [hv41] at s41
        refine wpOp_value (v := .bool true) (W' := W) rfl rfl ?_ (hK _ _ (Below.refl _ _) rfl)
        go_simp
      | 43, hi, hm =>
        have l42 := haft _ rfl { on := 42, ground := .guard } (by simp) rfl
        have p42 := hU.pv 42 l42
        have s42 : a.tmps[144]?.getD undef = vs 42 := hU.slot 42 (by decide) l42
        have hv42 : vs 42 = .bool true := p42
        rw [hv42] at s42
        have z32 : a.tmps[32]?.getD undef = .int .i64 2 := hU.same 32 (by kernel_rfl)
        refine wpOp_wanted (v := .int .i64 2) (W' := W) rfl ?_ ?_ (hK _ _ (Below.refl _ _) rfl)
        · refine wanted_yes (j := 42) (d := 144) ?_ ?_ s42 <;> rfl
        go_simp
      | 44, hi, hm =>
        have l42 := haft _ rfl { on := 42, ground := .guard } (by simp) rfl
        have p42 := hU.pv 42 l42
        have s42 : a.tmps[144]?.getD undef = vs 42 := hU.slot 42 (by decide) l42
        have hv42 : vs 42 = .bool true := p42
        rw [hv42] at s42
        have l43 := haft _ rfl { on := 43, ground := .data } (by simp) rfl
        have p43 := hU.pv 43 l43
        have s43 : a.tmps[145]?.getD undef = vs 43 := hU.slot 43 (by decide) l43
        have hv43 : vs 43 = .int .i64 2 := p43
        rw [hv43] at s43
        refine wpOp_wanted (v := .bool true) (W' := W) rfl ?_ ?_ (hK _ _ (Below.refl _ _) rfl)
        · refine wanted_yes (j := 42) (d := 144) ?_ ?_ s42 <;> rfl
        go_simp
      | 45, hi, hm =>
        have l42 := haft _ rfl { on := 42, ground := .data } (by simp) rfl
        have p42 := hU.pv 42 l42
        have s42 : a.tmps[144]?.getD undef = vs 42 := hU.slot 42 (by decide) l42
        have hv42 : vs 42 = .bool true := p42
        rw [hv42] at s42
        have l44 := haft _ rfl { on := 44, ground := .data } (by simp) rfl
        have p44 := hU.pv 44 l44
        have s44 : a.tmps[146]?.getD undef = vs 44 := hU.slot 44 (by decide) l44
        have hv44 : vs 44 = .bool true := p44
        rw [hv44] at s44
        refine wpOp_value (v := .bool true) (W' := W) rfl rfl ?_ (hK _ _ (Below.refl _ _) rfl)
        go_simp
      | 46, hi, hm =>
        have l45 := haft _ rfl { on := 45, ground := .data } (by simp) rfl
        have p45 := hU.pv 45 l45
        have s45 : a.tmps[147]?.getD undef = vs 45 := hU.slot 45 (by decide) l45
        have hv45 : vs 45 = .bool true := p45
        rw [hv45] at s45
        refine wpOp_value (v := .bool true) (W' := W) rfl rfl ?_ (hK _ _ (Below.refl _ _) rfl)
        go_simp
      | 47, hi, hm =>
        have l46 := haft _ rfl { on := 46, ground := .guard } (by simp) rfl
        have p46 := hU.pv 46 l46
        have s46 : a.tmps[148]?.getD undef = vs 46 := hU.slot 46 (by decide) l46
        have hv46 : vs 46 = .bool true := p46
        rw [hv46] at s46
        have z4 : a.tmps[4]?.getD undef = .pointer (some ⟨v1.heap.size, 0, none⟩) := hU.same 4 (by kernel_rfl)
        have y0 := (hb.cell (p := ⟨v1.heap.size, 0, none⟩) HS1.out.1).trans HS1.out.2.1
        have y1 := (hb.cell (p := ⟨v1.heap.size, 1, none⟩) HS1.out.1).trans HS1.out.2.2
        refine wpOp_wanted (v := .agg #[.int .i64 2, .int .i64 4]) (W' := W) rfl ?_ ?_ (hK _ _ (Below.refl _ _) rfl)
        · refine wanted_yes (j := 46) (d := 148) ?_ ?_ s46 <;> rfl
        go_simp
      | 48, hi, hm =>
        have l46 := haft _ rfl { on := 46, ground := .guard } (by simp) rfl
        have p46 := hU.pv 46 l46
        have s46 : a.tmps[148]?.getD undef = vs 46 := hU.slot 46 (by decide) l46
        have hv46 : vs 46 = .bool true := p46
        rw [hv46] at s46
        refine wpOp_enterW (f := 53) (args := #[.int .i64 2, .int .i64 4]) (W' := W) rfl ?_ ?_ ((span_any 2 4 W).mono (fun e w'' h => ?_))
        · refine wanted_yes (j := 46) (d := 148) ?_ ?_ s46 <;> rfl
        · go_simp
        · obtain ⟨he, hbw⟩ := h
          exact ⟨_, he, hK _ _ hbw rfl⟩
      | 49, hi, hm =>
        have l46 := haft _ rfl { on := 46, ground := .guard } (by simp) rfl
        have p46 := hU.pv 46 l46
        have s46 : a.tmps[148]?.getD undef = vs 46 := hU.slot 46 (by decide) l46
        have hv46 : vs 46 = .bool true := p46
        rw [hv46] at s46
        have l47 := haft _ rfl { on := 47, ground := .data } (by simp) rfl
        have p47 := hU.pv 47 l47
        have s47 : a.tmps[149]?.getD undef = vs 47 := hU.slot 47 (by decide) l47
        have hv47 : vs 47 = .agg #[.int .i64 2, .int .i64 4] := p47
        rw [hv47] at s47
        have l48 := haft _ rfl { on := 48, ground := .data } (by simp) rfl
        have p48 := hU.pv 48 l48
        have s48 : a.tmps[150]?.getD undef = vs 48 := hU.slot 48 (by decide) l48
        have hv48 : vs 48 = .agg #[.int .i64 2, .int .i64 4] := p48
        rw [hv48] at s48
        refine wpOp_wanted (v := .bool true) (W' := W) rfl ?_ ?_ (hK _ _ (Below.refl _ _) rfl)
        · refine wanted_yes (j := 46) (d := 148) ?_ ?_ s46 <;> rfl
        go_simp
      | 50, hi, hm =>
        have l46 := haft _ rfl { on := 46, ground := .data } (by simp) rfl
        have p46 := hU.pv 46 l46
        have s46 : a.tmps[148]?.getD undef = vs 46 := hU.slot 46 (by decide) l46
        have hv46 : vs 46 = .bool true := p46
        rw [hv46] at s46
        have l49 := haft _ rfl { on := 49, ground := .data } (by simp) rfl
        have p49 := hU.pv 49 l49
        have s49 : a.tmps[151]?.getD undef = vs 49 := hU.slot 49 (by decide) l49
        have hv49 : vs 49 = .bool true := p49
        rw [hv49] at s49
        refine wpOp_value (v := .bool true) (W' := W) rfl rfl ?_ (hK _ _ (Below.refl _ _) rfl)
        go_simp
      | 51, hi, hm =>
        have l50 := haft _ rfl { on := 50, ground := .data } (by simp) rfl
        have p50 := hU.pv 50 l50
        have s50 : a.tmps[152]?.getD undef = vs 50 := hU.slot 50 (by decide) l50
        have hv50 : vs 50 = .bool true := p50
        rw [hv50] at s50
        refine wpOp_value (v := .bool true) (W' := W) rfl rfl ?_ (hK _ _ (Below.refl _ _) rfl)
        go_simp
      | 52, hi, hm =>
        have l51 := haft _ rfl { on := 51, ground := .guard } (by simp) rfl
        have p51 := hU.pv 51 l51
        have s51 : a.tmps[153]?.getD undef = vs 51 := hU.slot 51 (by decide) l51
        have hv51 : vs 51 = .bool true := p51
        rw [hv51] at s51
        have z5 : a.tmps[5]?.getD undef = .int .i64 1 := hU.same 5 (by kernel_rfl)
        refine wpOp_wanted (v := .int .i64 1) (W' := W) rfl ?_ ?_ (hK _ _ (Below.refl _ _) rfl)
        · refine wanted_yes (j := 51) (d := 153) ?_ ?_ s51 <;> rfl
        go_simp
      | 53, hi, hm =>
        have l51 := haft _ rfl { on := 51, ground := .guard } (by simp) rfl
        have p51 := hU.pv 51 l51
        have s51 : a.tmps[153]?.getD undef = vs 51 := hU.slot 51 (by decide) l51
        have hv51 : vs 51 = .bool true := p51
        rw [hv51] at s51
        have l52 := haft _ rfl { on := 52, ground := .data } (by simp) rfl
        have p52 := hU.pv 52 l52
        have s52 : a.tmps[154]?.getD undef = vs 52 := hU.slot 52 (by decide) l52
        have hv52 : vs 52 = .int .i64 1 := p52
        rw [hv52] at s52
        refine wpOp_wanted (v := .bool true) (W' := W) rfl ?_ ?_ (hK _ _ (Below.refl _ _) rfl)
        · refine wanted_yes (j := 51) (d := 153) ?_ ?_ s51 <;> rfl
        go_simp
      | 54, hi, hm =>
        have l51 := haft _ rfl { on := 51, ground := .data } (by simp) rfl
        have p51 := hU.pv 51 l51
        have s51 : a.tmps[153]?.getD undef = vs 51 := hU.slot 51 (by decide) l51
        have hv51 : vs 51 = .bool true := p51
        rw [hv51] at s51
        have l53 := haft _ rfl { on := 53, ground := .data } (by simp) rfl
        have p53 := hU.pv 53 l53
        have s53 : a.tmps[155]?.getD undef = vs 53 := hU.slot 53 (by decide) l53
        have hv53 : vs 53 = .bool true := p53
        rw [hv53] at s53
        refine wpOp_value (v := .bool true) (W' := W) rfl rfl ?_ (hK _ _ (Below.refl _ _) rfl)
        go_simp
      | 55, hi, hm =>
        have l54 := haft _ rfl { on := 54, ground := .data } (by simp) rfl
        have p54 := hU.pv 54 l54
        have s54 : a.tmps[156]?.getD undef = vs 54 := hU.slot 54 (by decide) l54
        have hv54 : vs 54 = .bool true := p54
        rw [hv54] at s54
        refine wpOp_value (v := .bool true) (W' := W) rfl rfl ?_ (hK _ _ (Below.refl _ _) rfl)
        go_simp
      | 56, hi, hm =>
        have l55 := haft _ rfl { on := 55, ground := .guard } (by simp) rfl
        have p55 := hU.pv 55 l55
        have s55 : a.tmps[157]?.getD undef = vs 55 := hU.slot 55 (by decide) l55
        have hv55 : vs 55 = .bool true := p55
        rw [hv55] at s55
        have z7 : a.tmps[7]?.getD undef = .pointer (some ⟨v2.heap.size, 0, none⟩) := hU.same 7 (by kernel_rfl)
        have y0 := (hb.cell (p := ⟨v2.heap.size, 0, none⟩) HS2.out.1).trans HS2.out.2.1
        have y1 := (hb.cell (p := ⟨v2.heap.size, 1, none⟩) HS2.out.1).trans HS2.out.2.2
        refine wpOp_wanted (v := .agg #[.int .i64 4, .int .i64 6]) (W' := W) rfl ?_ ?_ (hK _ _ (Below.refl _ _) rfl)
        · refine wanted_yes (j := 55) (d := 157) ?_ ?_ s55 <;> rfl
        go_simp
      | 57, hi, hm =>
        have l55 := haft _ rfl { on := 55, ground := .guard } (by simp) rfl
        have p55 := hU.pv 55 l55
        have s55 : a.tmps[157]?.getD undef = vs 55 := hU.slot 55 (by decide) l55
        have hv55 : vs 55 = .bool true := p55
        rw [hv55] at s55
        refine wpOp_enterW (f := 53) (args := #[.int .i64 4, .int .i64 6]) (W' := W) rfl ?_ ?_ ((span_any 4 6 W).mono (fun e w'' h => ?_))
        · refine wanted_yes (j := 55) (d := 157) ?_ ?_ s55 <;> rfl
        · go_simp
        · obtain ⟨he, hbw⟩ := h
          exact ⟨_, he, hK _ _ hbw rfl⟩
      | 58, hi, hm =>
        have l55 := haft _ rfl { on := 55, ground := .guard } (by simp) rfl
        have p55 := hU.pv 55 l55
        have s55 : a.tmps[157]?.getD undef = vs 55 := hU.slot 55 (by decide) l55
        have hv55 : vs 55 = .bool true := p55
        rw [hv55] at s55
        have l56 := haft _ rfl { on := 56, ground := .data } (by simp) rfl
        have p56 := hU.pv 56 l56
        have s56 : a.tmps[158]?.getD undef = vs 56 := hU.slot 56 (by decide) l56
        have hv56 : vs 56 = .agg #[.int .i64 4, .int .i64 6] := p56
        rw [hv56] at s56
        have l57 := haft _ rfl { on := 57, ground := .data } (by simp) rfl
        have p57 := hU.pv 57 l57
        have s57 : a.tmps[159]?.getD undef = vs 57 := hU.slot 57 (by decide) l57
        have hv57 : vs 57 = .agg #[.int .i64 4, .int .i64 6] := p57
        rw [hv57] at s57
        refine wpOp_wanted (v := .bool true) (W' := W) rfl ?_ ?_ (hK _ _ (Below.refl _ _) rfl)
        · refine wanted_yes (j := 55) (d := 157) ?_ ?_ s55 <;> rfl
        go_simp
      | 59, hi, hm =>
        have l55 := haft _ rfl { on := 55, ground := .data } (by simp) rfl
        have p55 := hU.pv 55 l55
        have s55 : a.tmps[157]?.getD undef = vs 55 := hU.slot 55 (by decide) l55
        have hv55 : vs 55 = .bool true := p55
        rw [hv55] at s55
        have l58 := haft _ rfl { on := 58, ground := .data } (by simp) rfl
        have p58 := hU.pv 58 l58
        have s58 : a.tmps[160]?.getD undef = vs 58 := hU.slot 58 (by decide) l58
        have hv58 : vs 58 = .bool true := p58
        rw [hv58] at s58
        refine wpOp_value (v := .bool true) (W' := W) rfl rfl ?_ (hK _ _ (Below.refl _ _) rfl)
        go_simp
      | 60, hi, hm =>
        have l59 := haft _ rfl { on := 59, ground := .data } (by simp) rfl
        have p59 := hU.pv 59 l59
        have s59 : a.tmps[161]?.getD undef = vs 59 := hU.slot 59 (by decide) l59
        have hv59 : vs 59 = .bool true := p59
        rw [hv59] at s59
        refine wpOp_value (v := .bool true) (W' := W) rfl rfl ?_ (hK _ _ (Below.refl _ _) rfl)
        go_simp
      | 61, hi, hm =>
        have l60 := haft _ rfl { on := 60, ground := .guard } (by simp) rfl
        have p60 := hU.pv 60 l60
        have s60 : a.tmps[162]?.getD undef = vs 60 := hU.slot 60 (by decide) l60
        have hv60 : vs 60 = .bool true := p60
        rw [hv60] at s60
        have z11 : a.tmps[11]?.getD undef = .int .i64 2 := hU.same 11 (by kernel_rfl)
        refine wpOp_wanted (v := .int .i64 2) (W' := W) rfl ?_ ?_ (hK _ _ (Below.refl _ _) rfl)
        · refine wanted_yes (j := 60) (d := 162) ?_ ?_ s60 <;> rfl
        go_simp
      | 62, hi, hm =>
        have l60 := haft _ rfl { on := 60, ground := .guard } (by simp) rfl
        have p60 := hU.pv 60 l60
        have s60 : a.tmps[162]?.getD undef = vs 60 := hU.slot 60 (by decide) l60
        have hv60 : vs 60 = .bool true := p60
        rw [hv60] at s60
        have l61 := haft _ rfl { on := 61, ground := .data } (by simp) rfl
        have p61 := hU.pv 61 l61
        have s61 : a.tmps[163]?.getD undef = vs 61 := hU.slot 61 (by decide) l61
        have hv61 : vs 61 = .int .i64 2 := p61
        rw [hv61] at s61
        refine wpOp_wanted (v := .bool true) (W' := W) rfl ?_ ?_ (hK _ _ (Below.refl _ _) rfl)
        · refine wanted_yes (j := 60) (d := 162) ?_ ?_ s60 <;> rfl
        go_simp
      | 63, hi, hm =>
        have l60 := haft _ rfl { on := 60, ground := .data } (by simp) rfl
        have p60 := hU.pv 60 l60
        have s60 : a.tmps[162]?.getD undef = vs 60 := hU.slot 60 (by decide) l60
        have hv60 : vs 60 = .bool true := p60
        rw [hv60] at s60
        have l62 := haft _ rfl { on := 62, ground := .data } (by simp) rfl
        have p62 := hU.pv 62 l62
        have s62 : a.tmps[164]?.getD undef = vs 62 := hU.slot 62 (by decide) l62
        have hv62 : vs 62 = .bool true := p62
        rw [hv62] at s62
        refine wpOp_value (v := .bool true) (W' := W) rfl rfl ?_ (hK _ _ (Below.refl _ _) rfl)
        go_simp
      | 64, hi, hm =>
        have l63 := haft _ rfl { on := 63, ground := .data } (by simp) rfl
        have p63 := hU.pv 63 l63
        have s63 : a.tmps[165]?.getD undef = vs 63 := hU.slot 63 (by decide) l63
        have hv63 : vs 63 = .bool true := p63
        rw [hv63] at s63
        refine wpOp_value (v := .bool true) (W' := W) rfl rfl ?_ (hK _ _ (Below.refl _ _) rfl)
        go_simp
      | 65, hi, hm =>
        have l64 := haft _ rfl { on := 64, ground := .guard } (by simp) rfl
        have p64 := hU.pv 64 l64
        have s64 : a.tmps[166]?.getD undef = vs 64 := hU.slot 64 (by decide) l64
        have hv64 : vs 64 = .bool true := p64
        rw [hv64] at s64
        have z13 : a.tmps[13]?.getD undef = .pointer (some ⟨v4.heap.size, 0, none⟩) := hU.same 13 (by kernel_rfl)
        have y0 := (hb.cell (p := ⟨v4.heap.size, 0, none⟩) HS4.out.1).trans HS4.out.2.1
        have y1 := (hb.cell (p := ⟨v4.heap.size, 1, none⟩) HS4.out.1).trans HS4.out.2.2
        refine wpOp_wanted (v := .agg #[.int .i64 6, .int .i64 6]) (W' := W) rfl ?_ ?_ (hK _ _ (Below.refl _ _) rfl)
        · refine wanted_yes (j := 64) (d := 166) ?_ ?_ s64 <;> rfl
        go_simp
      | 66, hi, hm =>
        have l64 := haft _ rfl { on := 64, ground := .guard } (by simp) rfl
        have p64 := hU.pv 64 l64
        have s64 : a.tmps[166]?.getD undef = vs 64 := hU.slot 64 (by decide) l64
        have hv64 : vs 64 = .bool true := p64
        rw [hv64] at s64
        refine wpOp_enterW (f := 53) (args := #[.int .i64 6, .int .i64 6]) (W' := W) rfl ?_ ?_ ((span_any 6 6 W).mono (fun e w'' h => ?_))
        · refine wanted_yes (j := 64) (d := 166) ?_ ?_ s64 <;> rfl
        · go_simp
        · obtain ⟨he, hbw⟩ := h
          exact ⟨_, he, hK _ _ hbw rfl⟩
      | 67, hi, hm =>
        have l64 := haft _ rfl { on := 64, ground := .guard } (by simp) rfl
        have p64 := hU.pv 64 l64
        have s64 : a.tmps[166]?.getD undef = vs 64 := hU.slot 64 (by decide) l64
        have hv64 : vs 64 = .bool true := p64
        rw [hv64] at s64
        have l65 := haft _ rfl { on := 65, ground := .data } (by simp) rfl
        have p65 := hU.pv 65 l65
        have s65 : a.tmps[167]?.getD undef = vs 65 := hU.slot 65 (by decide) l65
        have hv65 : vs 65 = .agg #[.int .i64 6, .int .i64 6] := p65
        rw [hv65] at s65
        have l66 := haft _ rfl { on := 66, ground := .data } (by simp) rfl
        have p66 := hU.pv 66 l66
        have s66 : a.tmps[168]?.getD undef = vs 66 := hU.slot 66 (by decide) l66
        have hv66 : vs 66 = .agg #[.int .i64 6, .int .i64 6] := p66
        rw [hv66] at s66
        refine wpOp_wanted (v := .bool true) (W' := W) rfl ?_ ?_ (hK _ _ (Below.refl _ _) rfl)
        · refine wanted_yes (j := 64) (d := 166) ?_ ?_ s64 <;> rfl
        go_simp
      | 68, hi, hm =>
        have l64 := haft _ rfl { on := 64, ground := .data } (by simp) rfl
        have p64 := hU.pv 64 l64
        have s64 : a.tmps[166]?.getD undef = vs 64 := hU.slot 64 (by decide) l64
        have hv64 : vs 64 = .bool true := p64
        rw [hv64] at s64
        have l67 := haft _ rfl { on := 67, ground := .data } (by simp) rfl
        have p67 := hU.pv 67 l67
        have s67 : a.tmps[169]?.getD undef = vs 67 := hU.slot 67 (by decide) l67
        have hv67 : vs 67 = .bool true := p67
        rw [hv67] at s67
        refine wpOp_value (v := .bool true) (W' := W) rfl rfl ?_ (hK _ _ (Below.refl _ _) rfl)
        go_simp
      | 69, hi, hm =>
        have l68 := haft _ rfl { on := 68, ground := .data } (by simp) rfl
        have p68 := hU.pv 68 l68
        have s68 : a.tmps[170]?.getD undef = vs 68 := hU.slot 68 (by decide) l68
        have hv68 : vs 68 = .bool true := p68
        rw [hv68] at s68
        refine wpOp_value (v := .bool true) (W' := W) rfl rfl ?_ (hK _ _ (Below.refl _ _) rfl)
        go_simp
      | 70, hi, hm =>
        have l69 := haft _ rfl { on := 69, ground := .guard } (by simp) rfl
        have p69 := hU.pv 69 l69
        have s69 : a.tmps[171]?.getD undef = vs 69 := hU.slot 69 (by decide) l69
        have hv69 : vs 69 = .bool true := p69
        rw [hv69] at s69
        have z14 : a.tmps[14]?.getD undef = .int .i64 1 := hU.same 14 (by kernel_rfl)
        refine wpOp_wanted (v := .int .i64 1) (W' := W) rfl ?_ ?_ (hK _ _ (Below.refl _ _) rfl)
        · refine wanted_yes (j := 69) (d := 171) ?_ ?_ s69 <;> rfl
        go_simp
      | 71, hi, hm =>
        have l69 := haft _ rfl { on := 69, ground := .guard } (by simp) rfl
        have p69 := hU.pv 69 l69
        have s69 : a.tmps[171]?.getD undef = vs 69 := hU.slot 69 (by decide) l69
        have hv69 : vs 69 = .bool true := p69
        rw [hv69] at s69
        have l70 := haft _ rfl { on := 70, ground := .data } (by simp) rfl
        have p70 := hU.pv 70 l70
        have s70 : a.tmps[172]?.getD undef = vs 70 := hU.slot 70 (by decide) l70
        have hv70 : vs 70 = .int .i64 1 := p70
        rw [hv70] at s70
        refine wpOp_wanted (v := .bool true) (W' := W) rfl ?_ ?_ (hK _ _ (Below.refl _ _) rfl)
        · refine wanted_yes (j := 69) (d := 171) ?_ ?_ s69 <;> rfl
        go_simp
      | 72, hi, hm =>
        have l69 := haft _ rfl { on := 69, ground := .data } (by simp) rfl
        have p69 := hU.pv 69 l69
        have s69 : a.tmps[171]?.getD undef = vs 69 := hU.slot 69 (by decide) l69
        have hv69 : vs 69 = .bool true := p69
        rw [hv69] at s69
        have l71 := haft _ rfl { on := 71, ground := .data } (by simp) rfl
        have p71 := hU.pv 71 l71
        have s71 : a.tmps[173]?.getD undef = vs 71 := hU.slot 71 (by decide) l71
        have hv71 : vs 71 = .bool true := p71
        rw [hv71] at s71
        refine wpOp_value (v := .bool true) (W' := W) rfl rfl ?_ (hK _ _ (Below.refl _ _) rfl)
        go_simp
      | 73, hi, hm =>
        have l72 := haft _ rfl { on := 72, ground := .data } (by simp) rfl
        have p72 := hU.pv 72 l72
        have s72 : a.tmps[174]?.getD undef = vs 72 := hU.slot 72 (by decide) l72
        have hv72 : vs 72 = .bool true := p72
        rw [hv72] at s72
        refine wpOp_value (v := .bool true) (W' := W) rfl rfl ?_ (hK _ _ (Below.refl _ _) rfl)
        go_simp
      | 74, hi, hm =>
        have l73 := haft _ rfl { on := 73, ground := .guard } (by simp) rfl
        have p73 := hU.pv 73 l73
        have s73 : a.tmps[175]?.getD undef = vs 73 := hU.slot 73 (by decide) l73
        have hv73 : vs 73 = .bool true := p73
        rw [hv73] at s73
        have z16 : a.tmps[16]?.getD undef = .slice R5 2 r5 := hU.same 16 (by kernel_rfl)
        refine wpOp_wanted (v := .slice R5 2 r5) (W' := W) rfl ?_ ?_ (hK _ _ (Below.refl _ _) rfl)
        · refine wanted_yes (j := 73) (d := 175) ?_ ?_ s73 <;> rfl
        go_simp
      | 75, hi, hm =>
        have l73 := haft _ rfl { on := 73, ground := .guard } (by simp) rfl
        have p73 := hU.pv 73 l73
        have s73 : a.tmps[175]?.getD undef = vs 73 := hU.slot 73 (by decide) l73
        have hv73 : vs 73 = .bool true := p73
        rw [hv73] at s73
        refine wpOp_wanted (v := .slice (some ⟨W.heap.size, 0, none⟩) 2 2) (W' := (W.alloc (.cells #[.int .i64 1, .int .i64 2] 3))) rfl ?_ ?_ (hK _ _ ((Below.refl _ _).alloc (Nat.le_refl _) _) ⟨_, _, rfl, (IntsS.lit2 rfl 1 2).more (by simp)⟩)
        · refine wanted_yes (j := 73) (d := 175) ?_ ?_ s73 <;> rfl
        go_simp
      | 76, hi, hm =>
        have l73 := haft _ rfl { on := 73, ground := .guard } (by simp) rfl
        have p73 := hU.pv 73 l73
        have s73 : a.tmps[175]?.getD undef = vs 73 := hU.slot 73 (by decide) l73
        have hv73 : vs 73 = .bool true := p73
        rw [hv73] at s73
        have l74 := haft _ rfl { on := 74, ground := .data } (by simp) rfl
        have p74 := hU.pv 74 l74
        have s74 : a.tmps[176]?.getD undef = vs 74 := hU.slot 74 (by decide) l74
        have hv74 : vs 74 = .slice R5 2 r5 := p74
        rw [hv74] at s74
        have l75 := haft _ rfl { on := 75, ground := .data } (by simp) rfl
        have p75 := hU.pv 75 l75
        have s75 : a.tmps[177]?.getD undef = vs 75 := hU.slot 75 (by decide) l75
        obtain ⟨A, cp, hv75, hi75⟩ := p75
        rw [hv75] at s75
        refine wpOp_enterW (f := 22) (args := #[.slice R5 2 r5, .slice A 2 cp]) (W' := W) rfl ?_ ?_ ((ints_any (HI5.out.next hb) hi75).mono (fun e w'' h => ?_))
        · refine wanted_yes (j := 73) (d := 175) ?_ ?_ s73 <;> rfl
        · go_simp
        · obtain ⟨he, hd⟩ := h
          exact ⟨_, he, hK _ _ (hd.below _) (by exact congrArg Value.bool (show intsB [1, 2] [1, 2] = true from by decide))⟩
      | 77, hi, hm =>
        have l73 := haft _ rfl { on := 73, ground := .data } (by simp) rfl
        have p73 := hU.pv 73 l73
        have s73 : a.tmps[175]?.getD undef = vs 73 := hU.slot 73 (by decide) l73
        have hv73 : vs 73 = .bool true := p73
        rw [hv73] at s73
        have l76 := haft _ rfl { on := 76, ground := .data } (by simp) rfl
        have p76 := hU.pv 76 l76
        have s76 : a.tmps[178]?.getD undef = vs 76 := hU.slot 76 (by decide) l76
        have hv76 : vs 76 = .bool true := p76
        rw [hv76] at s76
        refine wpOp_value (v := .bool true) (W' := W) rfl rfl ?_ (hK _ _ (Below.refl _ _) rfl)
        go_simp
      | 78, hi, hm =>
        have l77 := haft _ rfl { on := 77, ground := .data } (by simp) rfl
        have p77 := hU.pv 77 l77
        have s77 : a.tmps[179]?.getD undef = vs 77 := hU.slot 77 (by decide) l77
        have hv77 : vs 77 = .bool true := p77
        rw [hv77] at s77
        refine wpOp_value (v := .bool true) (W' := W) rfl rfl ?_ (hK _ _ (Below.refl _ _) rfl)
        go_simp
      | 79, hi, hm =>
        have l78 := haft _ rfl { on := 78, ground := .guard } (by simp) rfl
        have p78 := hU.pv 78 l78
        have s78 : a.tmps[180]?.getD undef = vs 78 := hU.slot 78 (by decide) l78
        have hv78 : vs 78 = .bool true := p78
        rw [hv78] at s78
        have z18 : a.tmps[18]?.getD undef = .slice R6 1 r6 := hU.same 18 (by kernel_rfl)
        refine wpOp_wanted (v := .slice R6 1 r6) (W' := W) rfl ?_ ?_ (hK _ _ (Below.refl _ _) rfl)
        · refine wanted_yes (j := 78) (d := 180) ?_ ?_ s78 <;> rfl
        go_simp
      | 80, hi, hm =>
        have l78 := haft _ rfl { on := 78, ground := .guard } (by simp) rfl
        have p78 := hU.pv 78 l78
        have s78 : a.tmps[180]?.getD undef = vs 78 := hU.slot 78 (by decide) l78
        have hv78 : vs 78 = .bool true := p78
        rw [hv78] at s78
        refine wpOp_wanted (v := .slice (some ⟨W.heap.size, 0, none⟩) 1 1) (W' := (W.alloc (.cells #[.int .i64 0] 3))) rfl ?_ ?_ (hK _ _ ((Below.refl _ _).alloc (Nat.le_refl _) _) ⟨_, _, rfl, (IntsS.lit1 rfl 0).more (by simp)⟩)
        · refine wanted_yes (j := 78) (d := 180) ?_ ?_ s78 <;> rfl
        go_simp
      | 81, hi, hm =>
        have l78 := haft _ rfl { on := 78, ground := .guard } (by simp) rfl
        have p78 := hU.pv 78 l78
        have s78 : a.tmps[180]?.getD undef = vs 78 := hU.slot 78 (by decide) l78
        have hv78 : vs 78 = .bool true := p78
        rw [hv78] at s78
        have l79 := haft _ rfl { on := 79, ground := .data } (by simp) rfl
        have p79 := hU.pv 79 l79
        have s79 : a.tmps[181]?.getD undef = vs 79 := hU.slot 79 (by decide) l79
        have hv79 : vs 79 = .slice R6 1 r6 := p79
        rw [hv79] at s79
        have l80 := haft _ rfl { on := 80, ground := .data } (by simp) rfl
        have p80 := hU.pv 80 l80
        have s80 : a.tmps[182]?.getD undef = vs 80 := hU.slot 80 (by decide) l80
        obtain ⟨A, cp, hv80, hi80⟩ := p80
        rw [hv80] at s80
        refine wpOp_enterW (f := 22) (args := #[.slice R6 1 r6, .slice A 1 cp]) (W' := W) rfl ?_ ?_ ((ints_any (HI6.out.next hb) hi80).mono (fun e w'' h => ?_))
        · refine wanted_yes (j := 78) (d := 180) ?_ ?_ s78 <;> rfl
        · go_simp
        · obtain ⟨he, hd⟩ := h
          exact ⟨_, he, hK _ _ (hd.below _) (by exact congrArg Value.bool (show intsB [0] [0] = true from by decide))⟩
      | 82, hi, hm =>
        have l78 := haft _ rfl { on := 78, ground := .data } (by simp) rfl
        have p78 := hU.pv 78 l78
        have s78 : a.tmps[180]?.getD undef = vs 78 := hU.slot 78 (by decide) l78
        have hv78 : vs 78 = .bool true := p78
        rw [hv78] at s78
        have l81 := haft _ rfl { on := 81, ground := .data } (by simp) rfl
        have p81 := hU.pv 81 l81
        have s81 : a.tmps[183]?.getD undef = vs 81 := hU.slot 81 (by decide) l81
        have hv81 : vs 81 = .bool true := p81
        rw [hv81] at s81
        refine wpOp_value (v := .bool true) (W' := W) rfl rfl ?_ (hK _ _ (Below.refl _ _) rfl)
        go_simp
      | 83, hi, hm =>
        have l82 := haft _ rfl { on := 82, ground := .data } (by simp) rfl
        have p82 := hU.pv 82 l82
        have s82 : a.tmps[184]?.getD undef = vs 82 := hU.slot 82 (by decide) l82
        have hv82 : vs 82 = .bool true := p82
        rw [hv82] at s82
        refine wpOp_value (v := .bool true) (W' := W) rfl rfl ?_ (hK _ _ (Below.refl _ _) rfl)
        go_simp
      | 84, hi, hm =>
        have l83 := haft _ rfl { on := 83, ground := .guard } (by simp) rfl
        have p83 := hU.pv 83 l83
        have s83 : a.tmps[185]?.getD undef = vs 83 := hU.slot 83 (by decide) l83
        have hv83 : vs 83 = .bool true := p83
        rw [hv83] at s83
        have z20 : a.tmps[20]?.getD undef = .int .i64 1 := hU.same 20 (by kernel_rfl)
        refine wpOp_wanted (v := .int .i64 1) (W' := W) rfl ?_ ?_ (hK _ _ (Below.refl _ _) rfl)
        · refine wanted_yes (j := 83) (d := 185) ?_ ?_ s83 <;> rfl
        go_simp
      | 85, hi, hm =>
        have l83 := haft _ rfl { on := 83, ground := .guard } (by simp) rfl
        have p83 := hU.pv 83 l83
        have s83 : a.tmps[185]?.getD undef = vs 83 := hU.slot 83 (by decide) l83
        have hv83 : vs 83 = .bool true := p83
        rw [hv83] at s83
        have l84 := haft _ rfl { on := 84, ground := .data } (by simp) rfl
        have p84 := hU.pv 84 l84
        have s84 : a.tmps[186]?.getD undef = vs 84 := hU.slot 84 (by decide) l84
        have hv84 : vs 84 = .int .i64 1 := p84
        rw [hv84] at s84
        refine wpOp_wanted (v := .bool true) (W' := W) rfl ?_ ?_ (hK _ _ (Below.refl _ _) rfl)
        · refine wanted_yes (j := 83) (d := 185) ?_ ?_ s83 <;> rfl
        go_simp
      | 86, hi, hm =>
        have l83 := haft _ rfl { on := 83, ground := .data } (by simp) rfl
        have p83 := hU.pv 83 l83
        have s83 : a.tmps[185]?.getD undef = vs 83 := hU.slot 83 (by decide) l83
        have hv83 : vs 83 = .bool true := p83
        rw [hv83] at s83
        have l85 := haft _ rfl { on := 85, ground := .data } (by simp) rfl
        have p85 := hU.pv 85 l85
        have s85 : a.tmps[187]?.getD undef = vs 85 := hU.slot 85 (by decide) l85
        have hv85 : vs 85 = .bool true := p85
        rw [hv85] at s85
        refine wpOp_value (v := .bool true) (W' := W) rfl rfl ?_ (hK _ _ (Below.refl _ _) rfl)
        go_simp
      | 87, hi, hm =>
        have l86 := haft _ rfl { on := 86, ground := .data } (by simp) rfl
        have p86 := hU.pv 86 l86
        have s86 : a.tmps[188]?.getD undef = vs 86 := hU.slot 86 (by decide) l86
        have hv86 : vs 86 = .bool true := p86
        rw [hv86] at s86
        refine wpOp_value (v := .bool true) (W' := W) rfl rfl ?_ (hK _ _ (Below.refl _ _) rfl)
        go_simp
      | 88, hi, hm =>
        have l87 := haft _ rfl { on := 87, ground := .guard } (by simp) rfl
        have p87 := hU.pv 87 l87
        have s87 : a.tmps[189]?.getD undef = vs 87 := hU.slot 87 (by decide) l87
        have hv87 : vs 87 = .bool true := p87
        rw [hv87] at s87
        have z22 : a.tmps[22]?.getD undef = .slice R8 1 r8 := hU.same 22 (by kernel_rfl)
        refine wpOp_wanted (v := .slice R8 1 r8) (W' := W) rfl ?_ ?_ (hK _ _ (Below.refl _ _) rfl)
        · refine wanted_yes (j := 87) (d := 189) ?_ ?_ s87 <;> rfl
        go_simp
      | 89, hi, hm =>
        have l87 := haft _ rfl { on := 87, ground := .guard } (by simp) rfl
        have p87 := hU.pv 87 l87
        have s87 : a.tmps[189]?.getD undef = vs 87 := hU.slot 87 (by decide) l87
        have hv87 : vs 87 = .bool true := p87
        rw [hv87] at s87
        refine wpOp_wanted (v := .slice (some ⟨W.heap.size, 0, none⟩) 1 1) (W' := (W.alloc (.cells #[.int .i64 1] 3))) rfl ?_ ?_ (hK _ _ ((Below.refl _ _).alloc (Nat.le_refl _) _) ⟨_, _, rfl, (IntsS.lit1 rfl 1).more (by simp)⟩)
        · refine wanted_yes (j := 87) (d := 189) ?_ ?_ s87 <;> rfl
        go_simp
      | 90, hi, hm =>
        have l87 := haft _ rfl { on := 87, ground := .guard } (by simp) rfl
        have p87 := hU.pv 87 l87
        have s87 : a.tmps[189]?.getD undef = vs 87 := hU.slot 87 (by decide) l87
        have hv87 : vs 87 = .bool true := p87
        rw [hv87] at s87
        have l88 := haft _ rfl { on := 88, ground := .data } (by simp) rfl
        have p88 := hU.pv 88 l88
        have s88 : a.tmps[190]?.getD undef = vs 88 := hU.slot 88 (by decide) l88
        have hv88 : vs 88 = .slice R8 1 r8 := p88
        rw [hv88] at s88
        have l89 := haft _ rfl { on := 89, ground := .data } (by simp) rfl
        have p89 := hU.pv 89 l89
        have s89 : a.tmps[191]?.getD undef = vs 89 := hU.slot 89 (by decide) l89
        obtain ⟨A, cp, hv89, hi89⟩ := p89
        rw [hv89] at s89
        refine wpOp_enterW (f := 22) (args := #[.slice R8 1 r8, .slice A 1 cp]) (W' := W) rfl ?_ ?_ ((ints_any (HI8.out.next hb) hi89).mono (fun e w'' h => ?_))
        · refine wanted_yes (j := 87) (d := 189) ?_ ?_ s87 <;> rfl
        · go_simp
        · obtain ⟨he, hd⟩ := h
          exact ⟨_, he, hK _ _ (hd.below _) (by exact congrArg Value.bool (show intsB [1] [1] = true from by decide))⟩
      | 91, hi, hm =>
        have l87 := haft _ rfl { on := 87, ground := .data } (by simp) rfl
        have p87 := hU.pv 87 l87
        have s87 : a.tmps[189]?.getD undef = vs 87 := hU.slot 87 (by decide) l87
        have hv87 : vs 87 = .bool true := p87
        rw [hv87] at s87
        have l90 := haft _ rfl { on := 90, ground := .data } (by simp) rfl
        have p90 := hU.pv 90 l90
        have s90 : a.tmps[192]?.getD undef = vs 90 := hU.slot 90 (by decide) l90
        have hv90 : vs 90 = .bool true := p90
        rw [hv90] at s90
        refine wpOp_value (v := .bool true) (W' := W) rfl rfl ?_ (hK _ _ (Below.refl _ _) rfl)
        go_simp
      | 92, hi, hm =>
        have l91 := haft _ rfl { on := 91, ground := .data } (by simp) rfl
        have p91 := hU.pv 91 l91
        have s91 : a.tmps[193]?.getD undef = vs 91 := hU.slot 91 (by decide) l91
        have hv91 : vs 91 = .bool true := p91
        rw [hv91] at s91
        refine wpOp_value (v := .bool true) (W' := W) rfl rfl ?_ (hK _ _ (Below.refl _ _) rfl)
        go_simp
      | 93, hi, hm =>
        have l92 := haft _ rfl { on := 92, ground := .guard } (by simp) rfl
        have p92 := hU.pv 92 l92
        have s92 : a.tmps[194]?.getD undef = vs 92 := hU.slot 92 (by decide) l92
        have hv92 : vs 92 = .bool true := p92
        rw [hv92] at s92
        have z24 : a.tmps[24]?.getD undef = .slice R9 1 r9 := hU.same 24 (by kernel_rfl)
        refine wpOp_wanted (v := .slice R9 1 r9) (W' := W) rfl ?_ ?_ (hK _ _ (Below.refl _ _) rfl)
        · refine wanted_yes (j := 92) (d := 194) ?_ ?_ s92 <;> rfl
        go_simp
      | 94, hi, hm =>
        have l92 := haft _ rfl { on := 92, ground := .guard } (by simp) rfl
        have p92 := hU.pv 92 l92
        have s92 : a.tmps[194]?.getD undef = vs 92 := hU.slot 92 (by decide) l92
        have hv92 : vs 92 = .bool true := p92
        rw [hv92] at s92
        refine wpOp_wanted (v := .slice (some ⟨W.heap.size, 0, none⟩) 1 1) (W' := (W.alloc (.cells #[.int .i64 0] 3))) rfl ?_ ?_ (hK _ _ ((Below.refl _ _).alloc (Nat.le_refl _) _) ⟨_, _, rfl, (IntsS.lit1 rfl 0).more (by simp)⟩)
        · refine wanted_yes (j := 92) (d := 194) ?_ ?_ s92 <;> rfl
        go_simp
      | 95, hi, hm =>
        have l92 := haft _ rfl { on := 92, ground := .guard } (by simp) rfl
        have p92 := hU.pv 92 l92
        have s92 : a.tmps[194]?.getD undef = vs 92 := hU.slot 92 (by decide) l92
        have hv92 : vs 92 = .bool true := p92
        rw [hv92] at s92
        have l93 := haft _ rfl { on := 93, ground := .data } (by simp) rfl
        have p93 := hU.pv 93 l93
        have s93 : a.tmps[195]?.getD undef = vs 93 := hU.slot 93 (by decide) l93
        have hv93 : vs 93 = .slice R9 1 r9 := p93
        rw [hv93] at s93
        have l94 := haft _ rfl { on := 94, ground := .data } (by simp) rfl
        have p94 := hU.pv 94 l94
        have s94 : a.tmps[196]?.getD undef = vs 94 := hU.slot 94 (by decide) l94
        obtain ⟨A, cp, hv94, hi94⟩ := p94
        rw [hv94] at s94
        refine wpOp_enterW (f := 22) (args := #[.slice R9 1 r9, .slice A 1 cp]) (W' := W) rfl ?_ ?_ ((ints_any (HI9.out.next hb) hi94).mono (fun e w'' h => ?_))
        · refine wanted_yes (j := 92) (d := 194) ?_ ?_ s92 <;> rfl
        · go_simp
        · obtain ⟨he, hd⟩ := h
          exact ⟨_, he, hK _ _ (hd.below _) (by exact congrArg Value.bool (show intsB [0] [0] = true from by decide))⟩
      | 96, hi, hm =>
        have l92 := haft _ rfl { on := 92, ground := .data } (by simp) rfl
        have p92 := hU.pv 92 l92
        have s92 : a.tmps[194]?.getD undef = vs 92 := hU.slot 92 (by decide) l92
        have hv92 : vs 92 = .bool true := p92
        rw [hv92] at s92
        have l95 := haft _ rfl { on := 95, ground := .data } (by simp) rfl
        have p95 := hU.pv 95 l95
        have s95 : a.tmps[197]?.getD undef = vs 95 := hU.slot 95 (by decide) l95
        have hv95 : vs 95 = .bool true := p95
        rw [hv95] at s95
        refine wpOp_value (v := .bool true) (W' := W) rfl rfl ?_ (hK _ _ (Below.refl _ _) rfl)
        go_simp
      | 97, hi, hm =>
        have l96 := haft _ rfl { on := 96, ground := .data } (by simp) rfl
        have p96 := hU.pv 96 l96
        have s96 : a.tmps[198]?.getD undef = vs 96 := hU.slot 96 (by decide) l96
        have hv96 : vs 96 = .bool true := p96
        rw [hv96] at s96
        refine wpOp_value (v := .bool true) (W' := W) rfl rfl ?_ (hK _ _ (Below.refl _ _) rfl)
        go_simp
      | 98, hi, hm =>
        have l97 := haft _ rfl { on := 97, ground := .guard } (by simp) rfl
        have p97 := hU.pv 97 l97
        have s97 : a.tmps[199]?.getD undef = vs 97 := hU.slot 97 (by decide) l97
        have hv97 : vs 97 = .bool true := p97
        rw [hv97] at s97
        have z26 : a.tmps[26]?.getD undef = .slice R10 1 r10 := hU.same 26 (by kernel_rfl)
        refine wpOp_wanted (v := .slice R10 1 r10) (W' := W) rfl ?_ ?_ (hK _ _ (Below.refl _ _) rfl)
        · refine wanted_yes (j := 97) (d := 199) ?_ ?_ s97 <;> rfl
        go_simp
      | 99, hi, hm =>
        have l97 := haft _ rfl { on := 97, ground := .guard } (by simp) rfl
        have p97 := hU.pv 97 l97
        have s97 : a.tmps[199]?.getD undef = vs 97 := hU.slot 97 (by decide) l97
        have hv97 : vs 97 = .bool true := p97
        rw [hv97] at s97
        refine wpOp_wanted (v := .slice (some ⟨W.heap.size, 0, none⟩) 1 1) (W' := (W.alloc (.cells #[.int .i64 0] 3))) rfl ?_ ?_ (hK _ _ ((Below.refl _ _).alloc (Nat.le_refl _) _) ⟨_, _, rfl, (IntsS.lit1 rfl 0).more (by simp)⟩)
        · refine wanted_yes (j := 97) (d := 199) ?_ ?_ s97 <;> rfl
        go_simp
      | 100, hi, hm =>
        have l97 := haft _ rfl { on := 97, ground := .guard } (by simp) rfl
        have p97 := hU.pv 97 l97
        have s97 : a.tmps[199]?.getD undef = vs 97 := hU.slot 97 (by decide) l97
        have hv97 : vs 97 = .bool true := p97
        rw [hv97] at s97
        have l98 := haft _ rfl { on := 98, ground := .data } (by simp) rfl
        have p98 := hU.pv 98 l98
        have s98 : a.tmps[200]?.getD undef = vs 98 := hU.slot 98 (by decide) l98
        have hv98 : vs 98 = .slice R10 1 r10 := p98
        rw [hv98] at s98
        have l99 := haft _ rfl { on := 99, ground := .data } (by simp) rfl
        have p99 := hU.pv 99 l99
        have s99 : a.tmps[201]?.getD undef = vs 99 := hU.slot 99 (by decide) l99
        obtain ⟨A, cp, hv99, hi99⟩ := p99
        rw [hv99] at s99
        refine wpOp_enterW (f := 22) (args := #[.slice R10 1 r10, .slice A 1 cp]) (W' := W) rfl ?_ ?_ ((ints_any (HI10.out.next hb) hi99).mono (fun e w'' h => ?_))
        · refine wanted_yes (j := 97) (d := 199) ?_ ?_ s97 <;> rfl
        · go_simp
        · obtain ⟨he, hd⟩ := h
          exact ⟨_, he, hK _ _ (hd.below _) (by exact congrArg Value.bool (show intsB [0] [0] = true from by decide))⟩
      | 101, hi, hm =>
        have l97 := haft _ rfl { on := 97, ground := .data } (by simp) rfl
        have p97 := hU.pv 97 l97
        have s97 : a.tmps[199]?.getD undef = vs 97 := hU.slot 97 (by decide) l97
        have hv97 : vs 97 = .bool true := p97
        rw [hv97] at s97
        have l100 := haft _ rfl { on := 100, ground := .data } (by simp) rfl
        have p100 := hU.pv 100 l100
        have s100 : a.tmps[202]?.getD undef = vs 100 := hU.slot 100 (by decide) l100
        have hv100 : vs 100 = .bool true := p100
        rw [hv100] at s100
        refine wpOp_value (v := .bool true) (W' := W) rfl rfl ?_ (hK _ _ (Below.refl _ _) rfl)
        go_simp
      | 102, hi, hm =>
        have l101 := haft _ rfl { on := 101, ground := .data } (by simp) rfl
        have p101 := hU.pv 101 l101
        have s101 : a.tmps[203]?.getD undef = vs 101 := hU.slot 101 (by decide) l101
        have hv101 : vs 101 = .bool true := p101
        rw [hv101] at s101
        refine wpOp_value (v := .bool true) (W' := W) rfl rfl ?_ (hK _ _ (Below.refl _ _) rfl)
        go_simp
      | i + 103, hi, hm => exact absurd (of_decide_eq_true hm) (by omega)
    case hend =>
      intro listed vs a W hG hGU hpre
      have hb := ((Below.refl v12.heap.size v12).drew).trans hG.below
      have hT := hG.lst hpre 0 #[true, true, true, true, true, true, true, true, true, true, true, true, true, true, true, true, true, true, true, true, true, true, true, true, true, true, true, true, true, true, true, true, true, true, true, true, true, true, true, true, true, true, true, true, true, true, true, true, true, true, true, true, true, true, true, true, true, true, true, true, true, true, true, true, true, true, true, true, true, true, true, true, true, true, true, true, true, true, true, true, true, true, true, true, true, true, true, true, true, true, true, true, true, true, true, true, true, true, true, true, true, true, true] rfl (by kernel_rfl) (hpre 0 (by decide) (by decide))
      have h0 : a.tmps[0]?.getD undef = vs 102 := hGU.slot 102 (by decide) (hpre 102 (by decide) (by decide))
      have hv : vs 102 = .bool true := hG.pv 102 (hpre 102 (by decide) (by decide))
      have hdf := hG.defers
      rw [hG.lo hT (k := 0) (by kernel_rfl)]
      subst hT
      refine wpAny_done (by kernel_rfl) ?_ _
      refine ⟨rfl, ?_, hdf, hb⟩
      rw [← hv, ← h0]
  case imp =>
  rintro ⟨tm, df⟩ W ⟨h0, hd, hb⟩
  simp only at h0 hd
  subst hd
  have HB := hide (HB.out.trans (hb.mono (by have := HB.out.size; exact this)))
  clear hb
  go_wp2_with fail
  exact bodyPost_ret (v := .bool true) (by simp [results, Try.results23, go_sem, h0]) rfl ⟨rfl, HB.out⟩
end Go.Proofs.Ytbkknliggnhpcaa
