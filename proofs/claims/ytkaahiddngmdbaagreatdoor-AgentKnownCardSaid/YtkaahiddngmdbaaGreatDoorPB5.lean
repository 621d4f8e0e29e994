/- The row of AgentKnown: the law returns true: the examples of the document. -/
import Derived.Test.YtkaahiddngmdbaaGreatDoorAX
import Derived.Test.YtkaahiddngmdbaaGreatDoorEO
set_option linter.unusedVariables false
set_option linter.unusedSimpArgs false
namespace Go.Proofs.YtkaahiddngmdbaaGreatDoor
open Go.ChangeShapes Go.WideShapes Go.ChangeAt Go.RowKit

theorem Tryz.ownAgentKnown : ownKnob Tryz.prog.godebug = none := by kernel_rfl
set_option maxRecDepth 100000 in
theorem agentKnown_lifted (os : Os) (started : os.Started) (H : Type) (enc : TypeId × Value → H) :
 ReturnsInHanded {} Tryz.checked os 3 .any (fun w args => (Rows.agentKnownSpec.pre enc Tryz.prog Tryz.f3 Rows.agentKnownRow.domain false w args ∧ laidMetH Tryz.prog Rows.agentKnownRow.laid w) ∧ sizedMet enc Tryz.prog Tryz.f3 (OpenSpec.ofChange Rows.agentKnownSpec) false w args) (Rows.agentKnownSpec.post enc Tryz.prog Tryz.f3 false true false false) := by
 refine handed_laid2 (C := Tryz.checked) (X := fun w _ => laidMetH Tryz.prog Rows.agentKnownRow.laid w) Tryz.ownAgentKnown started (by kernel_rfl) Tryz.func3
  (ChangeSpec.witness_shaped (enc := enc) (C := Tryz.checked) (os := os) (X := fun w _ => laidMetH Tryz.prog Rows.agentKnownRow.laid w) false (World.laidAll Tryz.prog os Rows.agentKnownRow.laid) #[] 8 (World.laidAll_os _ _ _)
   (World.shaped_of_ZipB (by kernel_rfl) (by kernel_rfl)) (by kernel_rfl) (by kernel_rfl) (by kernel_rfl)
   (by rw [MakeChecks.laidMetH_plain _ _ _ (by kernel_rfl)]; exact laidMet_laidAll _ (by kernel_rfl) (by kernel_rfl))) ?_
 intro W base args ds gs before hval0 hW hsz hshape hlaid0
 have hlaid : laidMet Tryz.prog Rows.agentKnownRow.laid W.memory := by rw [MakeChecks.laidMetH_plain _ _ _ (by kernel_rfl)] at hlaid0; exact hlaid0
 have hW' := hW
 have hmx := Tryz.max_cells hshape
 have hpw : ∃ elem fr, W.heap[0]? = some (.cells ((List.range 20).map fun i => Value.int .u64 ((10 ^ i : Nat) : Int)).toArray elem fr) := Tryz.pow_cells (w := W.memory) (Lib.laidMet.reads hlaid (by simp [Rows.agentKnownRow]))
 have h2 : 2 ≤ W.heap.size := by
  obtain ⟨m, elem, fr, h⟩ := hmx
  have := (Array.getElem?_eq_some_iff.1 h).1
  omega
 obtain ⟨p, q, hA0, hV, rfl, hfz, hnd⟩ := hW
 have hA : DataW.TrodAll enc Tryz.prog W 0 (fun _ => true) true Tryz.f3.params.toList args.toList ds p := hA0
 have hK := hA0
 rw [Tryz.params3] at hA
 obtain ⟨rfl, rfl, rfl⟩ := trodAll_none hA
 obtain ⟨rfl, rfl⟩ := trodVars_none hV
 clear hA0 hval0
 simp only [List.append_nil] at hW'
 refine (Go.Ev.agentKnown_calls h2 hpw hmx).mono fun e W' ⟨he, hb⟩ => ?_
 subst he
 exact ⟨_, rfl, post_of_below (pa := _) (pv := []) hW' (fun _ _ _ => trodAll_cons_mk (shut_bool Tryz.underlying4 _) trodAll_mk0)
  (fun sp hsp => trodAll_stays Tryz.laidOut hb hK (fun p hp => by simp at hp) (by kernel_rfl) (fun p hp => by simp at hp)) (fun _ _ => rfl) (by simp)
  hb (ok_one (by kernel_rfl) rfl (okWide_bool_mk Tryz.underlying4 _))⟩
end Go.Proofs.YtkaahiddngmdbaaGreatDoor
