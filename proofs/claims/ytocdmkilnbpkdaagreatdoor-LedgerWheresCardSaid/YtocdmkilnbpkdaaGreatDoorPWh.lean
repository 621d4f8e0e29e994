/- The statement LedgerWheres: for any book the law returns true, and its argument reads as before: Missing and Where return what the document says. Its card. -/
import Derived.Test.YtocdmkilnbpkdaaGreatDoorUB
import Derived.Test.YtocdmkilnbpkdaaGreatDoorXE
import Derived.Test.YtocdmkilnbpkdaaGreatDoorTie
import Derived.Test.YtocdmkilnbpkdaaGreatDoorCards
import Derived.SevenTiedAt
set_option linter.unusedVariables false
set_option linter.unusedSimpArgs false

namespace Go.Proofs.YtocdmkilnbpkdaaGreatDoor
open Go.ChangeShapes Go.WideShapes Go.ChangeAt Go.RowKit

theorem Tryz.ownLedgerWheres : ownKnob Tryz.prog.godebug = none := by kernel_rfl
set_option maxRecDepth 100000 in
theorem ledgerWheres_lifted (os : Os) (started : os.Started) (H : Type) (enc : TypeId × Value → H) :
 ReturnsInHanded {} Tryz.checked os 4 .any (fun w args => (Rows.ledgerWheresSpec.pre enc Tryz.prog Tryz.f4 Rows.ledgerWheresRow.domain false w args ∧ laidMetH Tryz.prog Rows.ledgerWheresRow.laid w) ∧ sizedMet enc Tryz.prog Tryz.f4 (OpenSpec.ofChange Rows.ledgerWheresSpec) false w args) (Rows.ledgerWheresSpec.post enc Tryz.prog Tryz.f4 false true false false) := by
 refine handed_laid (C := Tryz.checked) (X := fun w _ => laidMetH Tryz.prog Rows.ledgerWheresRow.laid w) Tryz.ownLedgerWheres started (by kernel_rfl) Tryz.func4
  (ChangeSpec.witness_shaped (enc := enc) (C := Tryz.checked) (os := os) (X := fun w _ => laidMetH Tryz.prog Rows.ledgerWheresRow.laid w) false (World.laidAll Tryz.prog os Rows.ledgerWheresRow.laid) #[.agg #[.slice none 0 0, .slice none 0 0]] 8 (World.laidAll_os _ _ _)
   (World.shaped_of_ZipB (by kernel_rfl) (by kernel_rfl)) (by kernel_rfl) (by kernel_rfl) (by kernel_rfl)
   (by rw [MakeChecks.laidMetH_plain _ _ _ (by kernel_rfl)]; exact laidMet_laidAll _ (by kernel_rfl) (by kernel_rfl))) ?_
 intro W base args ds gs before hval0 hW hsz hshape
 have hval : ∀ (j : Nat) t v, Tryz.f4.params[j]? = some t → args[j]? = some v → Value.okWide Tryz.prog W .any base t v := hval0
 have hW' := hW
 obtain ⟨⟨mx, hmx⟩, hw0⟩ := Tryz.maxLen_cell hshape
 obtain ⟨p, q, hA0, hV, rfl, hfz, hnd⟩ := hW
 have hA : DataW.TrodAll enc Tryz.prog W 0 (fun _ => true) true Tryz.f4.params.toList args.toList ds p := hA0
 have hK := hA0
 rw [Tryz.params4] at hA hval
 obtain ⟨v0, d0, rfl, rfl, h0⟩ := trodAll_one hA
 obtain ⟨rfl, rfl⟩ := trodVars_none hV
 obtain ⟨b0, ba0, rfl, hc0⟩ := book_open (hval 0 25 v0 rfl rfl) h0
 clear hA0 hval0
 simp only [List.append_nil] at hW'
 have hlt := fun p hp => hW'.lt p hp
 refine (ledgerWheres_any hmx hw0 hc0).mono fun e W' ⟨he, hb⟩ => ?_
 subst he
 exact ⟨_, rfl, post_of_below (pa := _) (pv := []) hW' (fun _ _ _ => trodAll_cons_mk (shut_bool Tryz.underlying4 _) trodAll_mk0)
  (fun sp hsp => trodAll_stays Tryz.laidOut hb hK hlt (by kernel_rfl) hsp) (fun _ _ => rfl) (by simp)
  hb (ok_one (by kernel_rfl) rfl (okWide_bool_mk Tryz.underlying4 _))⟩
theorem ledgerWheres_over : Rows.ledgerWheresRow.holds Tryz.pinned (OpenSpec.ofChange Rows.ledgerWheresSpec) :=
 OpenClaim.holds_of_wide 4 Tryz.f4 rfl rfl rfl rfl rfl rfl rfl ⟨rfl, rfl, rfl, rfl, rfl⟩ rfl rfl rfl rfl rfl (by kernel_rfl) Tryz.func4 (by kernel_rfl)
  (of_decide_eq_true (by kernel_rfl)) (by unfold Func.isWrapper; first | (rw [if_pos (by decide +kernel)]; kernel_rfl) | (rw [if_neg (by decide +kernel)]; exact ⟨rfl, rfl⟩))
  (fun os started H enc _ => ledgerWheres_lifted os started H enc)
theorem ledgerWheresCard_holds : Rows.LedgerWheresCardSaid :=
 Claim7.holds_tied_plain_at .later [] [.data, .data, .data, .data, .pinned] true (true, "01ded02460ce82866c027a5900453280c59ee36f7748b76890711b2169238b42") true ledgerWheres_over (fun _ h => by cases h) (by kernel_rfl) (fun _ h => by cases h) ledgerWheres_row_tie rfl ⟨rfl, rfl⟩ (by kernel_rfl) rfl
  (fun f fn hf hfn => by
   obtain rfl : f = 4 := Option.some.inj ((show Tryz.prog.funcNamed "ratoon/ratoonlaw12.LedgerWheres" = some 4 by kernel_rfl).symm.trans hf) |>.symm
   obtain rfl : fn = Tryz.f4 := (Option.some.inj (Tryz.func4.symm.trans hfn)).symm
   exact ⟨by kernel_rfl, fun j t ht => by
    rw [Tryz.params4] at ht
    have hm : t ∈ ([25] : List TypeId) := by simpa using Array.mem_of_getElem? ht
    have hall : (([25] : List TypeId).all fun u => !Tryz.prog.wantsStandIn u) = true := by kernel_rfl
    exact (show Tryz.prog.wantsStandIn t = false by simpa using List.all_eq_true.1 hall t hm)⟩)
  (by kernel_rfl)
#print axioms ledgerWheresCard_holds
end Go.Proofs.YtocdmkilnbpkdaaGreatDoor
