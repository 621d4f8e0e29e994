/- The statement LedgerTrue: for any book and numbers the law returns true, and its arguments read as before: if tallies are off by what they can be, of any truth, nothing is denied. Its card. -/
import Derived.Test.YtocdmkilnbpkdaaGreatDoorIF
import Derived.Test.YtocdmkilnbpkdaaGreatDoorIG
import Derived.Test.YtocdmkilnbpkdaaGreatDoorTie
import Derived.Test.YtocdmkilnbpkdaaGreatDoorCards
import Derived.SevenTiedAt
set_option linter.unusedVariables false
set_option linter.unusedSimpArgs false

namespace Go.Proofs.YtocdmkilnbpkdaaGreatDoor
open Go.ChangeShapes Go.WideShapes Go.ChangeAt Go.RowKit

theorem Tryz.ownLedgerTrue : ownKnob Tryz.prog.godebug = none := by kernel_rfl
set_option maxRecDepth 100000 in
theorem ledgerTrue_lifted (os : Os) (started : os.Started) (H : Type) (enc : TypeId × Value → H) :
 ReturnsInHanded {} Tryz.checked os 8 .any (fun w args => (Rows.ledgerTrueSpec.pre enc Tryz.prog Tryz.f8 Rows.ledgerTrueRow.domain false w args ∧ laidMetH Tryz.prog Rows.ledgerTrueRow.laid w) ∧ sizedMet enc Tryz.prog Tryz.f8 (OpenSpec.ofChange Rows.ledgerTrueSpec) false w args) (Rows.ledgerTrueSpec.post enc Tryz.prog Tryz.f8 false true false false) := by
 refine handed_laid (C := Tryz.checked) (X := fun w _ => laidMetH Tryz.prog Rows.ledgerTrueRow.laid w) Tryz.ownLedgerTrue started (by kernel_rfl) Tryz.func8
  (ChangeSpec.witness_shaped (enc := enc) (C := Tryz.checked) (os := os) (X := fun w _ => laidMetH Tryz.prog Rows.ledgerTrueRow.laid w) false (World.laidAll Tryz.prog os Rows.ledgerTrueRow.laid) #[.agg #[.slice none 0 0, .slice none 0 0], .slice none 0 0] 8 (World.laidAll_os _ _ _)
   (World.shaped_of_ZipB (by kernel_rfl) (by kernel_rfl)) (by kernel_rfl) (by kernel_rfl) (by kernel_rfl)
   (by rw [MakeChecks.laidMetH_plain _ _ _ (by kernel_rfl)]; exact laidMet_laidAll _ (by kernel_rfl) (by kernel_rfl))) ?_
 intro W base args ds gs before hval0 hW hsz hshape
 have hval : ∀ (j : Nat) t v, Tryz.f8.params[j]? = some t → args[j]? = some v → Value.okWide Tryz.prog W .any base t v := hval0
 have hW' := hW
 obtain ⟨⟨mx, hmx⟩, hw0⟩ := Tryz.maxLen_cell hshape
 obtain ⟨p, q, hA0, hV, rfl, hfz, hnd⟩ := hW
 have hA : DataW.TrodAll enc Tryz.prog W 0 (fun _ => true) true Tryz.f8.params.toList args.toList ds p := hA0
 have hK := hA0
 rw [Tryz.params8] at hA hval
 obtain ⟨v0, v1, d0, d1, p0, p1, rfl, rfl, rfl, h0, h1⟩ := trodAll_two hA
 obtain ⟨rfl, rfl⟩ := trodVars_none hV
 obtain ⟨b0, ba0, rfl, hc0⟩ := book_open (hval 0 25 v0 rfl rfl) h0
 obtain ⟨A1, l1, cp1, rfl, hx1⟩ := bytes_open (hval 1 53 v1 rfl rfl) h1
 clear hA0 hval0
 simp only [List.append_nil] at hW'
 have hlt := fun p hp => hW'.lt p hp
 refine (ledgerTrue_any hmx hw0 hc0 hx1).mono fun e W' ⟨he, hb⟩ => ?_
 subst he
 exact ⟨_, rfl, post_of_below (pa := _) (pv := []) hW' (fun _ _ _ => trodAll_cons_mk (shut_bool Tryz.underlying4 _) trodAll_mk0)
  (fun sp hsp => trodAll_stays Tryz.laidOut hb hK (fun p hp => hlt p (by simpa using hp)) (by kernel_rfl) (fun p hp => hsp p (by simpa using hp))) (fun _ _ => rfl) (by simp)
  hb (ok_one (by kernel_rfl) rfl (okWide_bool_mk Tryz.underlying4 _))⟩
theorem ledgerTrue_over : Rows.ledgerTrueRow.holds Tryz.pinned (OpenSpec.ofChange Rows.ledgerTrueSpec) :=
 OpenClaim.holds_of_wide 8 Tryz.f8 rfl rfl rfl rfl rfl rfl rfl ⟨rfl, rfl, rfl, rfl, rfl⟩ rfl rfl rfl rfl rfl (by kernel_rfl) Tryz.func8 (by kernel_rfl)
  (of_decide_eq_true (by kernel_rfl)) (by unfold Func.isWrapper; first | (rw [if_pos (by decide +kernel)]; kernel_rfl) | (rw [if_neg (by decide +kernel)]; exact ⟨rfl, rfl⟩))
  (fun os started H enc _ => ledgerTrue_lifted os started H enc)
theorem ledgerTrueCard_holds : Rows.LedgerTrueCardSaid :=
 Claim7.holds_tied_plain_at .later [] [.data, .data, .data, .data, .pinned] true (true, "01ded02460ce82866c027a5900453280c59ee36f7748b76890711b2169238b42") true ledgerTrue_over (fun _ h => by cases h) (by kernel_rfl) (fun _ h => by cases h) ledgerTrue_row_tie rfl ⟨rfl, rfl⟩ (by kernel_rfl) rfl
  (fun f fn hf hfn => by
   obtain rfl : f = 8 := Option.some.inj ((show Tryz.prog.funcNamed "ratoon/ratoonlaw12.LedgerTrue" = some 8 by kernel_rfl).symm.trans hf) |>.symm
   obtain rfl : fn = Tryz.f8 := (Option.some.inj (Tryz.func8.symm.trans hfn)).symm
   exact ⟨by kernel_rfl, fun j t ht => by
    rw [Tryz.params8] at ht
    have hm : t ∈ ([25, 53] : List TypeId) := by simpa using Array.mem_of_getElem? ht
    have hall : (([25, 53] : List TypeId).all fun u => !Tryz.prog.wantsStandIn u) = true := by kernel_rfl
    exact (show Tryz.prog.wantsStandIn t = false by simpa using List.all_eq_true.1 hall t hm)⟩)
  (by kernel_rfl)
#print axioms ledgerTrueCard_holds
end Go.Proofs.YtocdmkilnbpkdaaGreatDoor
