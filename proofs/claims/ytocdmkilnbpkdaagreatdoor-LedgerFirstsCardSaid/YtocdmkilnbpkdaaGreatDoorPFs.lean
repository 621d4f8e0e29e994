/- The statement LedgerFirsts: for any book the law returns true, and its argument reads as before: First and Wrong return what the document says. Its card. -/
import Derived.Test.YtocdmkilnbpkdaaGreatDoorIH
import Derived.Test.YtocdmkilnbpkdaaGreatDoorXE
import Derived.Test.YtocdmkilnbpkdaaGreatDoorTie
import Derived.Test.YtocdmkilnbpkdaaGreatDoorCards
import Derived.SevenTiedAt
set_option linter.unusedVariables false
set_option linter.unusedSimpArgs false

namespace Go.Proofs.YtocdmkilnbpkdaaGreatDoor
open Go.ChangeShapes Go.WideShapes Go.ChangeAt Go.RowKit

theorem Tryz.ownLedgerFirsts : ownKnob Tryz.prog.godebug = none := by kernel_rfl
set_option maxRecDepth 100000 in
theorem ledgerFirsts_lifted (os : Os) (started : os.Started) (H : Type) (enc : TypeId × Value → H) :
 ReturnsInHanded {} Tryz.checked os 5 .any (fun w args => (Rows.ledgerFirstsSpec.pre enc Tryz.prog Tryz.f5 Rows.ledgerFirstsRow.domain false w args ∧ laidMetH Tryz.prog Rows.ledgerFirstsRow.laid w) ∧ sizedMet enc Tryz.prog Tryz.f5 (OpenSpec.ofChange Rows.ledgerFirstsSpec) false w args) (Rows.ledgerFirstsSpec.post enc Tryz.prog Tryz.f5 false true false false) := by
 refine handed_laid (C := Tryz.checked) (X := fun w _ => laidMetH Tryz.prog Rows.ledgerFirstsRow.laid w) Tryz.ownLedgerFirsts started (by kernel_rfl) Tryz.func5
  (ChangeSpec.witness_shaped (enc := enc) (C := Tryz.checked) (os := os) (X := fun w _ => laidMetH Tryz.prog Rows.ledgerFirstsRow.laid w) false (World.laidAll Tryz.prog os Rows.ledgerFirstsRow.laid) #[.agg #[.slice none 0 0, .slice none 0 0]] 8 (World.laidAll_os _ _ _)
   (World.shaped_of_ZipB (by kernel_rfl) (by kernel_rfl)) (by kernel_rfl) (by kernel_rfl) (by kernel_rfl)
   (by rw [MakeChecks.laidMetH_plain _ _ _ (by kernel_rfl)]; exact laidMet_laidAll _ (by kernel_rfl) (by kernel_rfl))) ?_
 intro W base args ds gs before hval0 hW hsz hshape
 have hval : ∀ (j : Nat) t v, Tryz.f5.params[j]? = some t → args[j]? = some v → Value.okWide Tryz.prog W .any base t v := hval0
 have hW' := hW
 obtain ⟨⟨mx, hmx⟩, hw0⟩ := Tryz.maxLen_cell hshape
 obtain ⟨p, q, hA0, hV, rfl, hfz, hnd⟩ := hW
 have hA : DataW.TrodAll enc Tryz.prog W 0 (fun _ => true) true Tryz.f5.params.toList args.toList ds p := hA0
 have hK := hA0
 rw [Tryz.params5] at hA hval
 obtain ⟨v0, d0, rfl, rfl, h0⟩ := trodAll_one hA
 obtain ⟨rfl, rfl⟩ := trodVars_none hV
 obtain ⟨b0, ba0, rfl, hc0⟩ := book_open (hval 0 25 v0 rfl rfl) h0
 clear hA0 hval0
 simp only [List.append_nil] at hW'
 have hlt := fun p hp => hW'.lt p hp
 refine (ledgerFirsts_any hmx hw0 hc0).mono fun e W' ⟨he, hb⟩ => ?_
 subst he
 exact ⟨_, rfl, post_of_below (pa := _) (pv := []) hW' (fun _ _ _ => trodAll_cons_mk (shut_bool Tryz.underlying4 _) trodAll_mk0)
  (fun sp hsp => trodAll_stays Tryz.laidOut hb hK hlt (by kernel_rfl) hsp) (fun _ _ => rfl) (by simp)
  hb (ok_one (by kernel_rfl) rfl (okWide_bool_mk Tryz.underlying4 _))⟩
theorem ledgerFirsts_over : Rows.ledgerFirstsRow.holds Tryz.pinned (OpenSpec.ofChange Rows.ledgerFirstsSpec) :=
 OpenClaim.holds_of_wide 5 Tryz.f5 rfl rfl rfl rfl rfl rfl rfl ⟨rfl, rfl, rfl, rfl, rfl⟩ rfl rfl rfl rfl rfl (by kernel_rfl) Tryz.func5 (by kernel_rfl)
  (of_decide_eq_true (by kernel_rfl)) (by unfold Func.isWrapper; first | (rw [if_pos (by decide +kernel)]; kernel_rfl) | (rw [if_neg (by decide +kernel)]; exact ⟨rfl, rfl⟩))
  (fun os started H enc _ => ledgerFirsts_lifted os started H enc)
theorem ledgerFirstsCard_holds : Rows.LedgerFirstsCardSaid :=
 Claim7.holds_tied_plain_at .later [] [.data, .data, .data, .data, .pinned] true (true, "01ded02460ce82866c027a5900453280c59ee36f7748b76890711b2169238b42") true ledgerFirsts_over (fun _ h => by cases h) (by kernel_rfl) (fun _ h => by cases h) ledgerFirsts_row_tie rfl ⟨rfl, rfl⟩ (by kernel_rfl) rfl
  (fun f fn hf hfn => by
   obtain rfl : f = 5 := Option.some.inj ((show Tryz.prog.funcNamed "ratoon/ratoonlaw12.LedgerFirsts" = some 5 by kernel_rfl).symm.trans hf) |>.symm
   obtain rfl : fn = Tryz.f5 := (Option.some.inj (Tryz.func5.symm.trans hfn)).symm
   exact ⟨by kernel_rfl, fun j t ht => by
    rw [Tryz.params5] at ht
    have hm : t ∈ ([25] : List TypeId) := by simpa using Array.mem_of_getElem? ht
    have hall : (([25] : List TypeId).all fun u => !Tryz.prog.wantsStandIn u) = true := by kernel_rfl
    exact (show Tryz.prog.wantsStandIn t = false by simpa using List.all_eq_true.1 hall t hm)⟩)
  (by kernel_rfl)
#print axioms ledgerFirstsCard_holds
end Go.Proofs.YtocdmkilnbpkdaaGreatDoor
