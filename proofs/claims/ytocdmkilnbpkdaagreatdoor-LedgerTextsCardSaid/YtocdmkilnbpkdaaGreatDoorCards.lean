/-
  DERIVED. GIVEN WITH THE SEED: THE CARDS: each row of YtocdmkilnbpkdaaGreatDoorRows.lean that lists a variable, with what it lists TIED to the program's text (the seventh form; the later family's looks); each row that meets fmt, with fmt's text TOLD by the authors' own Lean function (tested against real Go, not proved from fmt's source: count such statements apart). THE CARD IS WHAT COUNTS. Prove the row's statement (the work); the ties are given (YtocdmkilnbpkdaaGreatDoorTie.lean); close each card by the builder's one call (the guide's Derived/Test/ToyasCard.lean, 'card_holds'). Laid BY PROGRAM, IN A SANDBOX (cutbox-door.mjs). By AI agents, Wed Nov 11 2026. No macro, syntax, notation, axiom, sorry.
-/
import Derived.Test.YtocdmkilnbpkdaaGreatDoorRows
import GoSem.ClaimSeven
namespace Go.Proofs.YtocdmkilnbpkdaaGreatDoor
namespace Rows

/-- THE TIED CARD OF 'ratoonlaw12.LedgerHands'. -/
def ledgerHandsCard : Claim7 := { stood := { row := ledgerHandsRow, standIns := [], harness := (true, "01ded02460ce82866c027a5900453280c59ee36f7748b76890711b2169238b42"), looks := true }, kinds := [], alts := [], laidByText := true, laidKinds := [.data, .data, .data, .data, .pinned], laidTests := true, laidLooks := .later }
def LedgerHandsCardSaid : Prop := Claim7.holds Tryz.pinned (.plain (OpenSpec.ofChange ledgerHandsSpec)) ledgerHandsCard

/-- THE TIED CARD OF 'ratoonlaw12.LedgerWheres'. -/
def ledgerWheresCard : Claim7 := { stood := { row := ledgerWheresRow, standIns := [], harness := (true, "01ded02460ce82866c027a5900453280c59ee36f7748b76890711b2169238b42"), looks := true }, kinds := [], alts := [], laidByText := true, laidKinds := [.data, .data, .data, .data, .pinned], laidTests := true, laidLooks := .later }
def LedgerWheresCardSaid : Prop := Claim7.holds Tryz.pinned (.plain (OpenSpec.ofChange ledgerWheresSpec)) ledgerWheresCard

/-- THE TIED CARD OF 'ratoonlaw12.LedgerFirsts'. -/
def ledgerFirstsCard : Claim7 := { stood := { row := ledgerFirstsRow, standIns := [], harness := (true, "01ded02460ce82866c027a5900453280c59ee36f7748b76890711b2169238b42"), looks := true }, kinds := [], alts := [], laidByText := true, laidKinds := [.data, .data, .data, .data, .pinned], laidTests := true, laidLooks := .later }
def LedgerFirstsCardSaid : Prop := Claim7.holds Tryz.pinned (.plain (OpenSpec.ofChange ledgerFirstsSpec)) ledgerFirstsCard

/-- THE TIED CARD OF 'ratoonlaw12.LedgerTexts'. -/
def ledgerTextsCard : Claim7 := { stood := { row := ledgerTextsRow, standIns := [], harness := (true, "01ded02460ce82866c027a5900453280c59ee36f7748b76890711b2169238b42"), looks := true }, kinds := [], alts := [], laidByText := true, laidKinds := [.data, .data, .data, .data, .pinned], laidTests := true, laidLooks := .later }
def LedgerTextsCardSaid : Prop := Claim7.holds Tryz.pinned (.plain (OpenSpec.ofChange ledgerTextsSpec)) ledgerTextsCard

/-- THE TIED CARD OF 'ratoonlaw12.LedgerKnown'. -/
def ledgerKnownCard : Claim7 := { stood := { row := ledgerKnownRow, standIns := [], harness := (true, "01ded02460ce82866c027a5900453280c59ee36f7748b76890711b2169238b42"), looks := true }, kinds := [], alts := [], laidByText := true, laidKinds := [.data, .data, .data, .data, .pinned], laidTests := true, laidLooks := .later }
def LedgerKnownCardSaid : Prop := Claim7.holds Tryz.pinned (.plain (OpenSpec.ofChange ledgerKnownSpec)) ledgerKnownCard

/-- THE TIED CARD OF 'ratoonlaw12.LedgerTrue'. -/
def ledgerTrueCard : Claim7 := { stood := { row := ledgerTrueRow, standIns := [], harness := (true, "01ded02460ce82866c027a5900453280c59ee36f7748b76890711b2169238b42"), looks := true }, kinds := [], alts := [], laidByText := true, laidKinds := [.data, .data, .data, .data, .pinned], laidTests := true, laidLooks := .later }
def LedgerTrueCardSaid : Prop := Claim7.holds Tryz.pinned (.plain (OpenSpec.ofChange ledgerTrueSpec)) ledgerTrueCard

/-- THE TIED CARD OF 'ratoonlaw12.LedgerFirst'. -/
def ledgerFirstCard : Claim7 := { stood := { row := ledgerFirstRow, standIns := [], harness := (true, "01ded02460ce82866c027a5900453280c59ee36f7748b76890711b2169238b42"), looks := true }, kinds := [], alts := [], laidByText := true, laidKinds := [.data, .data, .data, .data, .pinned], laidTests := true, laidLooks := .later }
def LedgerFirstCardSaid : Prop := Claim7.holds Tryz.pinned (.plain (OpenSpec.ofChange ledgerFirstSpec)) ledgerFirstCard

/-- THE TIED CARD OF 'ratoonlaw12.LedgerFewest'. -/
def ledgerFewestCard : Claim7 := { stood := { row := ledgerFewestRow, standIns := [], harness := (true, "01ded02460ce82866c027a5900453280c59ee36f7748b76890711b2169238b42"), looks := true }, kinds := [], alts := [], laidByText := true, laidKinds := [.data, .data, .data, .data, .pinned], laidTests := true, laidLooks := .later }
def LedgerFewestCardSaid : Prop := Claim7.holds Tryz.pinned (.plain (OpenSpec.ofChange ledgerFewestSpec)) ledgerFewestCard

/-- THE TIED CARD OF 'ratoonlaw12.LedgerMore'. -/
def ledgerMoreCard : Claim7 := { stood := { row := ledgerMoreRow, standIns := [], harness := (true, "01ded02460ce82866c027a5900453280c59ee36f7748b76890711b2169238b42"), looks := true }, kinds := [], alts := [], laidByText := true, laidKinds := [.data, .data, .data, .data, .pinned], laidTests := true, laidLooks := .later }
def LedgerMoreCardSaid : Prop := Claim7.holds Tryz.pinned (.plain (OpenSpec.ofChange ledgerMoreSpec)) ledgerMoreCard

/-- THE TIED CARD OF 'ratoonlaw12.LedgerSum'. -/
def ledgerSumCard : Claim7 := { stood := { row := ledgerSumRow, standIns := [], harness := (true, "01ded02460ce82866c027a5900453280c59ee36f7748b76890711b2169238b42"), looks := true }, kinds := [], alts := [], laidByText := true, laidKinds := [.data, .data, .data, .data, .pinned], laidTests := true, laidLooks := .later }
def LedgerSumCardSaid : Prop := Claim7.holds Tryz.pinned (.plain (OpenSpec.ofChange ledgerSumSpec)) ledgerSumCard

/-- THE TIED CARD OF 'ratoonlaw12.LedgerMissing'. -/
def ledgerMissingCard : Claim7 := { stood := { row := ledgerMissingRow, standIns := [], harness := (true, "01ded02460ce82866c027a5900453280c59ee36f7748b76890711b2169238b42"), looks := true }, kinds := [], alts := [], laidByText := true, laidKinds := [.data, .data, .data, .data, .pinned], laidTests := true, laidLooks := .later }
def LedgerMissingCardSaid : Prop := Claim7.holds Tryz.pinned (.plain (OpenSpec.ofChange ledgerMissingSpec)) ledgerMissingCard

/-- THE TIED CARD OF 'ratoonlaw12.LedgerRound'. -/
def ledgerRoundCard : Claim7 := { stood := { row := ledgerRoundRow, standIns := [], harness := (true, "01ded02460ce82866c027a5900453280c59ee36f7748b76890711b2169238b42"), looks := true }, kinds := [], alts := [], laidByText := true, laidKinds := [.data, .data, .data, .data, .pinned], laidTests := true, laidLooks := .later }
def LedgerRoundCardSaid : Prop := Claim7.holds Tryz.pinned (.plain (OpenSpec.ofChange ledgerRoundSpec)) ledgerRoundCard

/-- THE TIED CARD OF 'ratoonlaw12.LedgerLess'. -/
def ledgerLessCard : Claim7 := { stood := { row := ledgerLessRow, standIns := [], harness := (true, "01ded02460ce82866c027a5900453280c59ee36f7748b76890711b2169238b42"), looks := true }, kinds := [], alts := [], laidByText := true, laidKinds := [.data, .data, .data, .data, .pinned], laidTests := true, laidLooks := .later }
def LedgerLessCardSaid : Prop := Claim7.holds Tryz.pinned (.plain (OpenSpec.ofChange ledgerLessSpec)) ledgerLessCard

/-- THE TIED CARD OF 'ratoonlaw12.LedgerStep'. -/
def ledgerStepCard : Claim7 := { stood := { row := ledgerStepRow, standIns := [], harness := (true, "01ded02460ce82866c027a5900453280c59ee36f7748b76890711b2169238b42"), looks := true }, kinds := [], alts := [], laidByText := true, laidKinds := [.data, .data, .data, .data, .pinned], laidTests := true, laidLooks := .later }
def LedgerStepCardSaid : Prop := Claim7.holds Tryz.pinned (.plain (OpenSpec.ofChange ledgerStepSpec)) ledgerStepCard

/-- THE SECOND FORM's CARD OF 'ratoonlaw12.LedgerHands'. -/
def ledgerHandsUptoCard : Claim7 := { stood := { row := ledgerHandsUptoRow, standIns := [], harness := (true, "01ded02460ce82866c027a5900453280c59ee36f7748b76890711b2169238b42"), looks := true }, kinds := [], alts := [], laidByText := true, laidKinds := [.data, .data, .data, .data, .pinned], laidTests := true, laidLooks := .later }
def LedgerHandsUptoCardSaid : Prop := Claim7.holds Tryz.pinned (.plain (OpenSpec.upto ledgerHandsSpec)) ledgerHandsUptoCard

/-- THE SECOND FORM's CARD OF 'ratoonlaw12.LedgerWheres'. -/
def ledgerWheresUptoCard : Claim7 := { stood := { row := ledgerWheresUptoRow, standIns := [], harness := (true, "01ded02460ce82866c027a5900453280c59ee36f7748b76890711b2169238b42"), looks := true }, kinds := [], alts := [], laidByText := true, laidKinds := [.data, .data, .data, .data, .pinned], laidTests := true, laidLooks := .later }
def LedgerWheresUptoCardSaid : Prop := Claim7.holds Tryz.pinned (.plain (OpenSpec.upto ledgerWheresSpec)) ledgerWheresUptoCard

/-- THE SECOND FORM's CARD OF 'ratoonlaw12.LedgerFirsts'. -/
def ledgerFirstsUptoCard : Claim7 := { stood := { row := ledgerFirstsUptoRow, standIns := [], harness := (true, "01ded02460ce82866c027a5900453280c59ee36f7748b76890711b2169238b42"), looks := true }, kinds := [], alts := [], laidByText := true, laidKinds := [.data, .data, .data, .data, .pinned], laidTests := true, laidLooks := .later }
def LedgerFirstsUptoCardSaid : Prop := Claim7.holds Tryz.pinned (.plain (OpenSpec.upto ledgerFirstsSpec)) ledgerFirstsUptoCard

/-- THE SECOND FORM's CARD OF 'ratoonlaw12.LedgerTexts'. -/
def ledgerTextsUptoCard : Claim7 := { stood := { row := ledgerTextsUptoRow, standIns := [], harness := (true, "01ded02460ce82866c027a5900453280c59ee36f7748b76890711b2169238b42"), looks := true }, kinds := [], alts := [], laidByText := true, laidKinds := [.data, .data, .data, .data, .pinned], laidTests := true, laidLooks := .later }
def LedgerTextsUptoCardSaid : Prop := Claim7.holds Tryz.pinned (.plain (OpenSpec.upto ledgerTextsSpec)) ledgerTextsUptoCard

/-- THE SECOND FORM's CARD OF 'ratoonlaw12.LedgerKnown'. -/
def ledgerKnownUptoCard : Claim7 := { stood := { row := ledgerKnownUptoRow, standIns := [], harness := (true, "01ded02460ce82866c027a5900453280c59ee36f7748b76890711b2169238b42"), looks := true }, kinds := [], alts := [], laidByText := true, laidKinds := [.data, .data, .data, .data, .pinned], laidTests := true, laidLooks := .later }
def LedgerKnownUptoCardSaid : Prop := Claim7.holds Tryz.pinned (.plain (OpenSpec.upto ledgerKnownSpec)) ledgerKnownUptoCard

/-- THE SECOND FORM's CARD OF 'ratoonlaw12.LedgerTrue'. -/
def ledgerTrueUptoCard : Claim7 := { stood := { row := ledgerTrueUptoRow, standIns := [], harness := (true, "01ded02460ce82866c027a5900453280c59ee36f7748b76890711b2169238b42"), looks := true }, kinds := [], alts := [], laidByText := true, laidKinds := [.data, .data, .data, .data, .pinned], laidTests := true, laidLooks := .later }
def LedgerTrueUptoCardSaid : Prop := Claim7.holds Tryz.pinned (.plain (OpenSpec.upto ledgerTrueSpec)) ledgerTrueUptoCard

/-- THE SECOND FORM's CARD OF 'ratoonlaw12.LedgerFirst'. -/
def ledgerFirstUptoCard : Claim7 := { stood := { row := ledgerFirstUptoRow, standIns := [], harness := (true, "01ded02460ce82866c027a5900453280c59ee36f7748b76890711b2169238b42"), looks := true }, kinds := [], alts := [], laidByText := true, laidKinds := [.data, .data, .data, .data, .pinned], laidTests := true, laidLooks := .later }
def LedgerFirstUptoCardSaid : Prop := Claim7.holds Tryz.pinned (.plain (OpenSpec.upto ledgerFirstSpec)) ledgerFirstUptoCard

/-- THE SECOND FORM's CARD OF 'ratoonlaw12.LedgerFewest'. -/
def ledgerFewestUptoCard : Claim7 := { stood := { row := ledgerFewestUptoRow, standIns := [], harness := (true, "01ded02460ce82866c027a5900453280c59ee36f7748b76890711b2169238b42"), looks := true }, kinds := [], alts := [], laidByText := true, laidKinds := [.data, .data, .data, .data, .pinned], laidTests := true, laidLooks := .later }
def LedgerFewestUptoCardSaid : Prop := Claim7.holds Tryz.pinned (.plain (OpenSpec.upto ledgerFewestSpec)) ledgerFewestUptoCard

/-- THE SECOND FORM's CARD OF 'ratoonlaw12.LedgerMore'. -/
def ledgerMoreUptoCard : Claim7 := { stood := { row := ledgerMoreUptoRow, standIns := [], harness := (true, "01ded02460ce82866c027a5900453280c59ee36f7748b76890711b2169238b42"), looks := true }, kinds := [], alts := [], laidByText := true, laidKinds := [.data, .data, .data, .data, .pinned], laidTests := true, laidLooks := .later }
def LedgerMoreUptoCardSaid : Prop := Claim7.holds Tryz.pinned (.plain (OpenSpec.upto ledgerMoreSpec)) ledgerMoreUptoCard

/-- THE SECOND FORM's CARD OF 'ratoonlaw12.LedgerSum'. -/
def ledgerSumUptoCard : Claim7 := { stood := { row := ledgerSumUptoRow, standIns := [], harness := (true, "01ded02460ce82866c027a5900453280c59ee36f7748b76890711b2169238b42"), looks := true }, kinds := [], alts := [], laidByText := true, laidKinds := [.data, .data, .data, .data, .pinned], laidTests := true, laidLooks := .later }
def LedgerSumUptoCardSaid : Prop := Claim7.holds Tryz.pinned (.plain (OpenSpec.upto ledgerSumSpec)) ledgerSumUptoCard

/-- THE SECOND FORM's CARD OF 'ratoonlaw12.LedgerMissing'. -/
def ledgerMissingUptoCard : Claim7 := { stood := { row := ledgerMissingUptoRow, standIns := [], harness := (true, "01ded02460ce82866c027a5900453280c59ee36f7748b76890711b2169238b42"), looks := true }, kinds := [], alts := [], laidByText := true, laidKinds := [.data, .data, .data, .data, .pinned], laidTests := true, laidLooks := .later }
def LedgerMissingUptoCardSaid : Prop := Claim7.holds Tryz.pinned (.plain (OpenSpec.upto ledgerMissingSpec)) ledgerMissingUptoCard

/-- THE SECOND FORM's CARD OF 'ratoonlaw12.LedgerRound'. -/
def ledgerRoundUptoCard : Claim7 := { stood := { row := ledgerRoundUptoRow, standIns := [], harness := (true, "01ded02460ce82866c027a5900453280c59ee36f7748b76890711b2169238b42"), looks := true }, kinds := [], alts := [], laidByText := true, laidKinds := [.data, .data, .data, .data, .pinned], laidTests := true, laidLooks := .later }
def LedgerRoundUptoCardSaid : Prop := Claim7.holds Tryz.pinned (.plain (OpenSpec.upto ledgerRoundSpec)) ledgerRoundUptoCard

/-- THE SECOND FORM's CARD OF 'ratoonlaw12.LedgerLess'. -/
def ledgerLessUptoCard : Claim7 := { stood := { row := ledgerLessUptoRow, standIns := [], harness := (true, "01ded02460ce82866c027a5900453280c59ee36f7748b76890711b2169238b42"), looks := true }, kinds := [], alts := [], laidByText := true, laidKinds := [.data, .data, .data, .data, .pinned], laidTests := true, laidLooks := .later }
def LedgerLessUptoCardSaid : Prop := Claim7.holds Tryz.pinned (.plain (OpenSpec.upto ledgerLessSpec)) ledgerLessUptoCard

/-- THE SECOND FORM's CARD OF 'ratoonlaw12.LedgerStep'. -/
def ledgerStepUptoCard : Claim7 := { stood := { row := ledgerStepUptoRow, standIns := [], harness := (true, "01ded02460ce82866c027a5900453280c59ee36f7748b76890711b2169238b42"), looks := true }, kinds := [], alts := [], laidByText := true, laidKinds := [.data, .data, .data, .data, .pinned], laidTests := true, laidLooks := .later }
def LedgerStepUptoCardSaid : Prop := Claim7.holds Tryz.pinned (.plain (OpenSpec.upto ledgerStepSpec)) ledgerStepUptoCard
end Rows
end Go.Proofs.YtocdmkilnbpkdaaGreatDoor
