/-
  DERIVED. GIVEN WITH THE SEED: THE CARDS: each row of YtkaahiddngmdbaaGreatDoorRows.lean that lists a variable, with what it lists TIED to the program's text (the seventh form; the later family's looks); each row that meets fmt, with fmt's text TOLD by the authors' own Lean function (tested against real Go, not proved from fmt's source: count such statements apart). THE CARD IS WHAT COUNTS. Prove the row's statement (the work); the ties are given (YtkaahiddngmdbaaGreatDoorTie.lean); close each card by the builder's one call (the guide's Derived/Test/ToyasCard.lean, 'card_holds'). Laid BY PROGRAM, IN A SANDBOX (cutbox-door.mjs). By AI agents, Wed Nov 11 2026. No macro, syntax, notation, axiom, sorry.
-/
import Derived.Test.YtkaahiddngmdbaaGreatDoorRows
import GoSem.ClaimSeven
namespace Go.Proofs.YtkaahiddngmdbaaGreatDoor
namespace Rows

/-- THE TIED CARD OF 'ratoonlaw13.AgentKnown'. -/
def agentKnownCard : Claim7 := { stood := { row := agentKnownRow, standIns := [], harness := (true, "e2c15947f2e73db7b6b75a776b03eb1527c3689832d571407f9092d33be9948f"), looks := true }, kinds := [], alts := [], laidByText := true, laidKinds := [.data, .data, .data, .data, .pinned], laidTests := true, laidLooks := .later }
def AgentKnownCardSaid : Prop := Claim7.holds Tryz.pinned (.plain (OpenSpec.ofChange agentKnownSpec)) agentKnownCard

/-- THE TIED CARD OF 'ratoonlaw13.AgentHands'. -/
def agentHandsCard : Claim7 := { stood := { row := agentHandsRow, standIns := [], harness := (true, "e2c15947f2e73db7b6b75a776b03eb1527c3689832d571407f9092d33be9948f"), looks := true }, kinds := [], alts := [], laidByText := true, laidKinds := [.data, .data, .data, .data, .pinned], laidTests := true, laidLooks := .later }
def AgentHandsCardSaid : Prop := Claim7.holds Tryz.pinned (.plain (OpenSpec.ofChange agentHandsSpec)) agentHandsCard

/-- THE SECOND FORM's CARD OF 'ratoonlaw13.AgentKnown'. -/
def agentKnownUptoCard : Claim7 := { stood := { row := agentKnownUptoRow, standIns := [], harness := (true, "e2c15947f2e73db7b6b75a776b03eb1527c3689832d571407f9092d33be9948f"), looks := true }, kinds := [], alts := [], laidByText := true, laidKinds := [.data, .data, .data, .data, .pinned], laidTests := true, laidLooks := .later }
def AgentKnownUptoCardSaid : Prop := Claim7.holds Tryz.pinned (.plain (OpenSpec.upto agentKnownSpec)) agentKnownUptoCard

/-- THE SECOND FORM's CARD OF 'ratoonlaw13.AgentHands'. -/
def agentHandsUptoCard : Claim7 := { stood := { row := agentHandsUptoRow, standIns := [], harness := (true, "e2c15947f2e73db7b6b75a776b03eb1527c3689832d571407f9092d33be9948f"), looks := true }, kinds := [], alts := [], laidByText := true, laidKinds := [.data, .data, .data, .data, .pinned], laidTests := true, laidLooks := .later }
def AgentHandsUptoCardSaid : Prop := Claim7.holds Tryz.pinned (.plain (OpenSpec.upto agentHandsSpec)) agentHandsUptoCard
end Rows
end Go.Proofs.YtkaahiddngmdbaaGreatDoor
