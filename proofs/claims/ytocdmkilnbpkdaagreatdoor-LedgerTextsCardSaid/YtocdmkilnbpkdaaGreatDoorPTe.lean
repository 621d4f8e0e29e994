/- The statement LedgerTexts: for any book and string the law returns true, and its arguments read as before: Write and Read return what the document says. Its card. -/
import Derived.Test.YtocdmkilnbpkdaaGreatDoorUN
import Derived.Test.YtocdmkilnbpkdaaGreatDoorXE
import Derived.Test.YtocdmkilnbpkdaaGreatDoorTie
import Derived.Test.YtocdmkilnbpkdaaGreatDoorCards
import Derived.SevenTiedAt
import Derived.ChangeMaps5
set_option linter.unusedVariables false
set_option linter.unusedSimpArgs false
namespace Go.Proofs.YtocdmkilnbpkdaaGreatDoor
open Go.ChangeShapes Go.WideShapes Go.ChangeAt Go.RowKit

theorem Tryz.ownLedgerTexts : ownKnob Tryz.prog.godebug = none := by kernel_rfl
set_option maxRecDepth 100000 in
theorem ledgerTexts_lifted (os : Os) (started : os.Started) (H : Type) (enc : TypeId × Value → H) :
 ReturnsInHanded {} Tryz.checked os 6 .any (fun w args => (Rows.ledgerTextsSpec.pre enc Tryz.prog Tryz.f6 Rows.ledgerTextsRow.domain false w args ∧ laidMetH Tryz.prog Rows.ledgerTextsRow.laid w) ∧ sizedMet enc Tryz.prog Tryz.f6 (OpenSpec.ofChange Rows.ledgerTextsSpec) false w args) (Rows.ledgerTextsSpec.post enc Tryz.prog Tryz.f6 false true false false) := by
 refine handed_laid (C := Tryz.checked) (X := fun w _ => laidMetH Tryz.prog Rows.ledgerTextsRow.laid w) Tryz.ownLedgerTexts started (by kernel_rfl) Tryz.func6
  (ChangeSpec.witness_shaped (enc := enc) (C := Tryz.checked) (os := os) (X := fun w _ => laidMetH Tryz.prog Rows.ledgerTextsRow.laid w) false (World.laidAll Tryz.prog os Rows.ledgerTextsRow.laid) #[.agg #[.slice none 0 0, .slice none 0 0], .string ⟨#[]⟩] 8 (World.laidAll_os _ _ _)
   (World.shaped_of_ZipB (by kernel_rfl) (by kernel_rfl)) (by kernel_rfl) (by kernel_rfl) (by kernel_rfl)
   (by rw [MakeChecks.laidMetH_plain _ _ _ (by kernel_rfl)]; exact laidMet_laidAll _ (by kernel_rfl) (by kernel_rfl))) ?_
 intro W base args ds gs before hval0 hW hsz hshape
 have hval : ∀ (j : Nat) t v, Tryz.f6.params[j]? = some t → args[j]? = some v → Value.okWide Tryz.prog W .any base t v := hval0
 have hW' := hW
 obtain ⟨⟨mx, hmx⟩, hw0⟩ := Tryz.maxLen_cell hshape
 obtain ⟨p, q, hA0, hV, rfl, hfz, hnd⟩ := hW
 have hA : DataW.TrodAll enc Tryz.prog W 0 (fun _ => true) true Tryz.f6.params.toList args.toList ds p := hA0
 have hK := hA0
 rw [Tryz.params6] at hA hval
 obtain ⟨v0, v1, d0, d1, p0, p1, rfl, rfl, rfl, h0, h1⟩ := trodAll_two hA
 obtain ⟨rfl, rfl⟩ := trodVars_none hV
 obtain ⟨b0, ba0, rfl, hc0⟩ := book_open (hval 0 25 v0 rfl rfl) h0
 obtain ⟨s1, rfl, rfl, rfl, hs1⟩ := ChangeMaps.open_string Tryz.underlying9 (hval 1 9 v1 rfl rfl) h1
 clear hA0 hval0
 simp only [List.append_nil] at hW'
 have hlt := fun p hp => hW'.lt p hp
 refine (ledgerTexts_any hmx hw0 hc0 s1).mono fun e W' ⟨he, hb⟩ => ?_
 subst he
 exact ⟨_, rfl, post_of_below (pa := _) (pv := []) hW' (fun _ _ _ => trodAll_cons_mk (shut_bool Tryz.underlying4 _) trodAll_mk0)
  (fun sp hsp => trodAll_stays Tryz.laidOut hb hK (fun p hp => hlt p (by simpa using hp)) (by kernel_rfl) (fun p hp => hsp p (by simpa using hp))) (fun _ _ => rfl) (by simp)
  hb (ok_one (by kernel_rfl) rfl (okWide_bool_mk Tryz.underlying4 _))⟩
theorem ledgerTexts_over : Rows.ledgerTextsRow.holds Tryz.pinned (OpenSpec.ofChange Rows.ledgerTextsSpec) :=
 OpenClaim.holds_of_wide 6 Tryz.f6 rfl rfl rfl rfl rfl rfl rfl ⟨rfl, rfl, rfl, rfl, rfl⟩ rfl rfl rfl rfl rfl (by kernel_rfl) Tryz.func6 (by kernel_rfl)
  (of_decide_eq_true (by kernel_rfl)) (by unfold Func.isWrapper; first | (rw [if_pos (by decide +kernel)]; kernel_rfl) | (rw [if_neg (by decide +kernel)]; exact ⟨rfl, rfl⟩))
  (fun os started H enc _ => ledgerTexts_lifted os started H enc)
theorem ledgerTextsCard_holds : Rows.LedgerTextsCardSaid :=
 Claim7.holds_tied_plain_at .later [] [.data, .data, .data, .data, .pinned] true (true, "01ded02460ce82866c027a5900453280c59ee36f7748b76890711b2169238b42") true ledgerTexts_over (fun _ h => by cases h) (by kernel_rfl) (fun _ h => by cases h) ledgerTexts_row_tie rfl ⟨rfl, rfl⟩ (by kernel_rfl) rfl
  (fun f fn hf hfn => by
   obtain rfl : f = 6 := Option.some.inj ((show Tryz.prog.funcNamed "ratoon/ratoonlaw12.LedgerTexts" = some 6 by kernel_rfl).symm.trans hf) |>.symm
   obtain rfl : fn = Tryz.f6 := (Option.some.inj (Tryz.func6.symm.trans hfn)).symm
   exact ⟨by kernel_rfl, fun j t ht => by
    rw [Tryz.params6] at ht
    have hm : t ∈ ([25, 9] : List TypeId) := by simpa using Array.mem_of_getElem? ht
    have hall : (([25, 9] : List TypeId).all fun u => !Tryz.prog.wantsStandIn u) = true := by kernel_rfl
    exact (show Tryz.prog.wantsStandIn t = false by simpa using List.all_eq_true.1 hall t hm)⟩)
  (by kernel_rfl)
#print axioms ledgerTextsCard_holds
end Go.Proofs.YtocdmkilnbpkdaaGreatDoor
