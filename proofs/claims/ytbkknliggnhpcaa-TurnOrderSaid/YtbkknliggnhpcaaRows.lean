/-
  No cell of these rows narrows 'for every input' (looked for: loops, veiled, ifaces, maps, wideKeys, modest, calm, conditions, laid).
  DERIVED. THE GIVEN ROWS OF THIS SEAT. 13 by the template 'for every input the law returns true; each argument reads behind the call as it read before'; 0 by the template 'total and deterministic' (their statements: YtbkknliggnhpcaaTotals.lean).
  GIVEN WITH THE SEED: the statements are not yours to turn. If you find one false, say at which input.
  Laid BY PROGRAM, IN A SANDBOX (cutbox-rows.mjs): the forced cells as the released guide's own fill.sh prints them over the translation 0855eaf59be12053… (all of the seat's roots in one cut). By AI agents, Wed Nov 11 2026. No macro, syntax, notation, axiom, sorry.
-/
import Derived.Test.YtbkknliggnhpcaaChecked
import GoSem.Claim
import GoSem.ClaimJoined
import GoSem.ClaimMapViews
import Derived.JoinedTies
import Derived.KernelRfl
namespace Go.Proofs.Ytbkknliggnhpcaa
/- THE CELL 'sum', in the pinned program and in every row, IS THE sha256 OF THE DUMP (.gsa) THAT YtbkknliggnhpcaaProg.lean LOADS. Nothing in Lean hashes anything: it is a label: what it is worth is what the hold of that sum in a sandbox is worth. -/
noncomputable def Try.pinned : Pinned := { name := "ytbkknliggnhpcaa", sum := "0855eaf59be120532d805f29e42148f73b6d3faa2dcdcd466fe4259aae558d03", checked := Try.checked }
namespace Rows
def none {H : Type} : Left H := { results := [], args := [] }

/-- 'ratoonlaw07.TurnTurns': WHATEVER THE INPUT: true; the input reads as it did. -/
def turnTurnsSpec : ChangeSpec := { name := "turnTurns", fn := fun _ => fun
  | [d1, d2, d3] => { results := [.lit (.bool true)], args := [d1, d2, d3] }
  | _ => none }
def turnTurnsRow : OpenClaim := { program := "ytbkknliggnhpcaa", sum := "0855eaf59be120532d805f29e42148f73b6d3faa2dcdcd466fe4259aae558d03", func := "ratoon/ratoonlaw07.TurnTurns", spec := "turnTurns", unfollowed := true, recurses := true, plainKeys := false, apart := false }
def TurnTurnsSaid : Prop := turnTurnsRow.holds Try.pinned (OpenSpec.ofChange turnTurnsSpec)

/-- ITS FALSE NEIGHBOUR: 'it returns false'. Refute it at one input. -/
def turnTurnsWrong : ChangeSpec := { name := "turnTurns", fn := fun _ => fun
  | [d1, d2, d3] => { results := [.lit (.bool false)], args := [d1, d2, d3] }
  | _ => none }
def TurnTurnsWrongFalsely : Prop := turnTurnsRow.holds Try.pinned (OpenSpec.ofChange turnTurnsWrong)

/-- 'ratoonlaw07.TurnFirsts': WHATEVER THE INPUT: true; the input reads as it did. -/
def turnFirstsSpec : ChangeSpec := { name := "turnFirsts", fn := fun _ => fun
  | [d1, d2] => { results := [.lit (.bool true)], args := [d1, d2] }
  | _ => none }
def turnFirstsRow : OpenClaim := { program := "ytbkknliggnhpcaa", sum := "0855eaf59be120532d805f29e42148f73b6d3faa2dcdcd466fe4259aae558d03", func := "ratoon/ratoonlaw07.TurnFirsts", spec := "turnFirsts", unfollowed := true, recurses := true, plainKeys := false, apart := false }
def TurnFirstsSaid : Prop := turnFirstsRow.holds Try.pinned (OpenSpec.ofChange turnFirstsSpec)

/-- ITS FALSE NEIGHBOUR: 'it returns false'. Refute it at one input. -/
def turnFirstsWrong : ChangeSpec := { name := "turnFirsts", fn := fun _ => fun
  | [d1, d2] => { results := [.lit (.bool false)], args := [d1, d2] }
  | _ => none }
def TurnFirstsWrongFalsely : Prop := turnFirstsRow.holds Try.pinned (OpenSpec.ofChange turnFirstsWrong)

/-- 'ratoonlaw07.TurnPuts': WHATEVER THE INPUT: true; the input reads as it did. -/
def turnPutsSpec : ChangeSpec := { name := "turnPuts", fn := fun _ => fun
  | [d1, d2, d3] => { results := [.lit (.bool true)], args := [d1, d2, d3] }
  | _ => none }
def turnPutsRow : OpenClaim := { program := "ytbkknliggnhpcaa", sum := "0855eaf59be120532d805f29e42148f73b6d3faa2dcdcd466fe4259aae558d03", func := "ratoon/ratoonlaw07.TurnPuts", spec := "turnPuts", unfollowed := true, recurses := true, plainKeys := false, apart := false }
def TurnPutsSaid : Prop := turnPutsRow.holds Try.pinned (OpenSpec.ofChange turnPutsSpec)

/-- ITS FALSE NEIGHBOUR: 'it returns false'. Refute it at one input. -/
def turnPutsWrong : ChangeSpec := { name := "turnPuts", fn := fun _ => fun
  | [d1, d2, d3] => { results := [.lit (.bool false)], args := [d1, d2, d3] }
  | _ => none }
def TurnPutsWrongFalsely : Prop := turnPutsRow.holds Try.pinned (OpenSpec.ofChange turnPutsWrong)

/-- 'ratoonlaw07.TurnOuts': WHATEVER THE INPUT: true; the input reads as it did. -/
def turnOutsSpec : ChangeSpec := { name := "turnOuts", fn := fun _ => fun
  | [d1, d2] => { results := [.lit (.bool true)], args := [d1, d2] }
  | _ => none }
def turnOutsRow : OpenClaim := { program := "ytbkknliggnhpcaa", sum := "0855eaf59be120532d805f29e42148f73b6d3faa2dcdcd466fe4259aae558d03", func := "ratoon/ratoonlaw07.TurnOuts", spec := "turnOuts", unfollowed := true, recurses := true, plainKeys := false, apart := false }
def TurnOutsSaid : Prop := turnOutsRow.holds Try.pinned (OpenSpec.ofChange turnOutsSpec)

/-- ITS FALSE NEIGHBOUR: 'it returns false'. Refute it at one input. -/
def turnOutsWrong : ChangeSpec := { name := "turnOuts", fn := fun _ => fun
  | [d1, d2] => { results := [.lit (.bool false)], args := [d1, d2] }
  | _ => none }
def TurnOutsWrongFalsely : Prop := turnOutsRow.holds Try.pinned (OpenSpec.ofChange turnOutsWrong)

/-- 'ratoonlaw07.TurnKnown': WHATEVER THE INPUT: true; the input reads as it did. -/
def turnKnownSpec : ChangeSpec := { name := "turnKnown", fn := fun _ => fun
  | [] => { results := [.lit (.bool true)], args := [] }
  | _ => none }
def turnKnownRow : OpenClaim := { program := "ytbkknliggnhpcaa", sum := "0855eaf59be120532d805f29e42148f73b6d3faa2dcdcd466fe4259aae558d03", func := "ratoon/ratoonlaw07.TurnKnown", spec := "turnKnown", unfollowed := true, recurses := true, plainKeys := false, apart := false }
def TurnKnownSaid : Prop := turnKnownRow.holds Try.pinned (OpenSpec.ofChange turnKnownSpec)

/-- ITS FALSE NEIGHBOUR: 'it returns false'. Refute it at one input. -/
def turnKnownWrong : ChangeSpec := { name := "turnKnown", fn := fun _ => fun
  | [] => { results := [.lit (.bool false)], args := [] }
  | _ => none }
def TurnKnownWrongFalsely : Prop := turnKnownRow.holds Try.pinned (OpenSpec.ofChange turnKnownWrong)

/-- 'ratoonlaw07.TurnTrue': WHATEVER THE INPUT: true; the input reads as it did. -/
def turnTrueSpec : ChangeSpec := { name := "turnTrue", fn := fun _ => fun
  | [d1, d2, d3] => { results := [.lit (.bool true)], args := [d1, d2, d3] }
  | _ => none }
def turnTrueRow : OpenClaim := { program := "ytbkknliggnhpcaa", sum := "0855eaf59be120532d805f29e42148f73b6d3faa2dcdcd466fe4259aae558d03", func := "ratoon/ratoonlaw07.TurnTrue", spec := "turnTrue", unfollowed := true, recurses := true, plainKeys := false, apart := false }
def TurnTrueSaid : Prop := turnTrueRow.holds Try.pinned (OpenSpec.ofChange turnTrueSpec)

/-- ITS FALSE NEIGHBOUR: 'it returns false'. Refute it at one input. -/
def turnTrueWrong : ChangeSpec := { name := "turnTrue", fn := fun _ => fun
  | [d1, d2, d3] => { results := [.lit (.bool false)], args := [d1, d2, d3] }
  | _ => none }
def TurnTrueWrongFalsely : Prop := turnTrueRow.holds Try.pinned (OpenSpec.ofChange turnTrueWrong)

/-- 'ratoonlaw07.TurnPut': WHATEVER THE INPUT: true; the input reads as it did. -/
def turnPutSpec : ChangeSpec := { name := "turnPut", fn := fun _ => fun
  | [d1, d2] => { results := [.lit (.bool true)], args := [d1, d2] }
  | _ => none }
def turnPutRow : OpenClaim := { program := "ytbkknliggnhpcaa", sum := "0855eaf59be120532d805f29e42148f73b6d3faa2dcdcd466fe4259aae558d03", func := "ratoon/ratoonlaw07.TurnPut", spec := "turnPut", unfollowed := true, recurses := true, plainKeys := false, apart := false }
def TurnPutSaid : Prop := turnPutRow.holds Try.pinned (OpenSpec.ofChange turnPutSpec)

/-- ITS FALSE NEIGHBOUR: 'it returns false'. Refute it at one input. -/
def turnPutWrong : ChangeSpec := { name := "turnPut", fn := fun _ => fun
  | [d1, d2] => { results := [.lit (.bool false)], args := [d1, d2] }
  | _ => none }
def TurnPutWrongFalsely : Prop := turnPutRow.holds Try.pinned (OpenSpec.ofChange turnPutWrong)

/-- 'ratoonlaw07.TurnOut': WHATEVER THE INPUT: true; the input reads as it did. -/
def turnOutSpec : ChangeSpec := { name := "turnOut", fn := fun _ => fun
  | [d1, d2, d3] => { results := [.lit (.bool true)], args := [d1, d2, d3] }
  | _ => none }
def turnOutRow : OpenClaim := { program := "ytbkknliggnhpcaa", sum := "0855eaf59be120532d805f29e42148f73b6d3faa2dcdcd466fe4259aae558d03", func := "ratoon/ratoonlaw07.TurnOut", spec := "turnOut", unfollowed := true, recurses := true, plainKeys := false, apart := false }
def TurnOutSaid : Prop := turnOutRow.holds Try.pinned (OpenSpec.ofChange turnOutSpec)

/-- ITS FALSE NEIGHBOUR: 'it returns false'. Refute it at one input. -/
def turnOutWrong : ChangeSpec := { name := "turnOut", fn := fun _ => fun
  | [d1, d2, d3] => { results := [.lit (.bool false)], args := [d1, d2, d3] }
  | _ => none }
def TurnOutWrongFalsely : Prop := turnOutRow.holds Try.pinned (OpenSpec.ofChange turnOutWrong)

/-- 'ratoonlaw07.TurnFewest': WHATEVER THE INPUT: true; the input reads as it did. -/
def turnFewestSpec : ChangeSpec := { name := "turnFewest", fn := fun _ => fun
  | [d1, d2] => { results := [.lit (.bool true)], args := [d1, d2] }
  | _ => none }
def turnFewestRow : OpenClaim := { program := "ytbkknliggnhpcaa", sum := "0855eaf59be120532d805f29e42148f73b6d3faa2dcdcd466fe4259aae558d03", func := "ratoon/ratoonlaw07.TurnFewest", spec := "turnFewest", unfollowed := true, recurses := true, plainKeys := false, apart := false }
def TurnFewestSaid : Prop := turnFewestRow.holds Try.pinned (OpenSpec.ofChange turnFewestSpec)

/-- ITS FALSE NEIGHBOUR: 'it returns false'. Refute it at one input. -/
def turnFewestWrong : ChangeSpec := { name := "turnFewest", fn := fun _ => fun
  | [d1, d2] => { results := [.lit (.bool false)], args := [d1, d2] }
  | _ => none }
def TurnFewestWrongFalsely : Prop := turnFewestRow.holds Try.pinned (OpenSpec.ofChange turnFewestWrong)

/-- 'ratoonlaw07.TurnMore': WHATEVER THE INPUT: true; the input reads as it did. -/
def turnMoreSpec : ChangeSpec := { name := "turnMore", fn := fun _ => fun
  | [d1, d2, d3] => { results := [.lit (.bool true)], args := [d1, d2, d3] }
  | _ => none }
def turnMoreRow : OpenClaim := { program := "ytbkknliggnhpcaa", sum := "0855eaf59be120532d805f29e42148f73b6d3faa2dcdcd466fe4259aae558d03", func := "ratoon/ratoonlaw07.TurnMore", spec := "turnMore", unfollowed := true, recurses := true, plainKeys := false, apart := false }
def TurnMoreSaid : Prop := turnMoreRow.holds Try.pinned (OpenSpec.ofChange turnMoreSpec)

/-- ITS FALSE NEIGHBOUR: 'it returns false'. Refute it at one input. -/
def turnMoreWrong : ChangeSpec := { name := "turnMore", fn := fun _ => fun
  | [d1, d2, d3] => { results := [.lit (.bool false)], args := [d1, d2, d3] }
  | _ => none }
def TurnMoreWrongFalsely : Prop := turnMoreRow.holds Try.pinned (OpenSpec.ofChange turnMoreWrong)

/-- 'ratoonlaw07.TurnLater': WHATEVER THE INPUT: true; the input reads as it did. -/
def turnLaterSpec : ChangeSpec := { name := "turnLater", fn := fun _ => fun
  | [d1, d2, d3] => { results := [.lit (.bool true)], args := [d1, d2, d3] }
  | _ => none }
def turnLaterRow : OpenClaim := { program := "ytbkknliggnhpcaa", sum := "0855eaf59be120532d805f29e42148f73b6d3faa2dcdcd466fe4259aae558d03", func := "ratoon/ratoonlaw07.TurnLater", spec := "turnLater", unfollowed := true, recurses := true, plainKeys := false, apart := false }
def TurnLaterSaid : Prop := turnLaterRow.holds Try.pinned (OpenSpec.ofChange turnLaterSpec)

/-- ITS FALSE NEIGHBOUR: 'it returns false'. Refute it at one input. -/
def turnLaterWrong : ChangeSpec := { name := "turnLater", fn := fun _ => fun
  | [d1, d2, d3] => { results := [.lit (.bool false)], args := [d1, d2, d3] }
  | _ => none }
def TurnLaterWrongFalsely : Prop := turnLaterRow.holds Try.pinned (OpenSpec.ofChange turnLaterWrong)

/-- 'ratoonlaw07.TurnAlone': WHATEVER THE INPUT: true; the input reads as it did. -/
def turnAloneSpec : ChangeSpec := { name := "turnAlone", fn := fun _ => fun
  | [d1, d2] => { results := [.lit (.bool true)], args := [d1, d2] }
  | _ => none }
def turnAloneRow : OpenClaim := { program := "ytbkknliggnhpcaa", sum := "0855eaf59be120532d805f29e42148f73b6d3faa2dcdcd466fe4259aae558d03", func := "ratoon/ratoonlaw07.TurnAlone", spec := "turnAlone", unfollowed := true, recurses := true, plainKeys := false, apart := false }
def TurnAloneSaid : Prop := turnAloneRow.holds Try.pinned (OpenSpec.ofChange turnAloneSpec)

/-- ITS FALSE NEIGHBOUR: 'it returns false'. Refute it at one input. -/
def turnAloneWrong : ChangeSpec := { name := "turnAlone", fn := fun _ => fun
  | [d1, d2] => { results := [.lit (.bool false)], args := [d1, d2] }
  | _ => none }
def TurnAloneWrongFalsely : Prop := turnAloneRow.holds Try.pinned (OpenSpec.ofChange turnAloneWrong)

/-- 'ratoonlaw07.TurnOrder': WHATEVER THE INPUT: true; the input reads as it did. -/
def turnOrderSpec : ChangeSpec := { name := "turnOrder", fn := fun _ => fun
  | [d1, d2] => { results := [.lit (.bool true)], args := [d1, d2] }
  | _ => none }
def turnOrderRow : OpenClaim := { program := "ytbkknliggnhpcaa", sum := "0855eaf59be120532d805f29e42148f73b6d3faa2dcdcd466fe4259aae558d03", func := "ratoon/ratoonlaw07.TurnOrder", spec := "turnOrder", unfollowed := true, recurses := true, plainKeys := false, apart := false }
def TurnOrderSaid : Prop := turnOrderRow.holds Try.pinned (OpenSpec.ofChange turnOrderSpec)

/-- ITS FALSE NEIGHBOUR: 'it returns false'. Refute it at one input. -/
def turnOrderWrong : ChangeSpec := { name := "turnOrder", fn := fun _ => fun
  | [d1, d2] => { results := [.lit (.bool false)], args := [d1, d2] }
  | _ => none }
def TurnOrderWrongFalsely : Prop := turnOrderRow.holds Try.pinned (OpenSpec.ofChange turnOrderWrong)

/- THE SECOND FORM. 'bulk': how many values and letters a reading holds, each counted each time it is reached (what is shared counts as often as it is met; a slice's spare places count too). A statement '..UptoSaid' is the law's where the arguments, and the package variables that the reading takes, are together of bulk at most 1048576: NARROWER than '..Said'. Prove '..Said' where nothing that the law and all that it calls make is longer than what came in: it says more and counts as full. Else prove '..UptoSaid'. A law counts once. -/
mutual
def uptoBulk {H : Type} : DataW H → Nat
  | .lit (.string bytes) => bytes.length + 1
  | .lit _ => 1
  | .nil => 1
  | .ptr d => uptoBulk d + 1
  | .slice elems spare => uptoBulkAll elems + uptoBulkAll spare + 1
  | .agg parts => uptoBulkAll parts + 1
  | .iface _ d => uptoBulk d + 1
  | .map entries => uptoBulkEntries entries + 1
  | .held _ => 1
def uptoBulkAll {H : Type} : List (DataW H) → Nat
  | [] => 0
  | d :: r => uptoBulk d + uptoBulkAll r
def uptoBulkEntries {H : Type} : List (Lit × DataW H) → Nat
  | [] => 0
  | x :: r => uptoBulkEntry x + uptoBulkEntries r
def uptoBulkEntry {H : Type} : Lit × DataW H → Nat
  | (.string bytes, d) => bytes.length + uptoBulk d + 1
  | (_, d) => uptoBulk d + 1
 end
def uptoSmall : (H : Type) → List (DataW H) → Bool := fun _ ds => decide (uptoBulkAll ds ≤ 1048576)
def OpenSpec.upto (s : _root_.Go.ChangeSpec) : _root_.Go.OpenSpec := { _root_.Go.OpenSpec.ofChange s with cond := some uptoSmall }

/-- 'ratoonlaw07.TurnTurns', WHERE WHAT IT READS IS OF BULK AT MOST 1048576: true; the input reads as it did. -/
def turnTurnsUptoRow : OpenClaim := { program := "ytbkknliggnhpcaa", sum := "0855eaf59be120532d805f29e42148f73b6d3faa2dcdcd466fe4259aae558d03", func := "ratoon/ratoonlaw07.TurnTurns", spec := "turnTurns", unfollowed := true, recurses := true, plainKeys := false, apart := false, narrowed := true }
def TurnTurnsUptoSaid : Prop := turnTurnsUptoRow.holds Try.pinned (OpenSpec.upto turnTurnsSpec)

/-- 'ratoonlaw07.TurnFirsts', WHERE WHAT IT READS IS OF BULK AT MOST 1048576: true; the input reads as it did. -/
def turnFirstsUptoRow : OpenClaim := { program := "ytbkknliggnhpcaa", sum := "0855eaf59be120532d805f29e42148f73b6d3faa2dcdcd466fe4259aae558d03", func := "ratoon/ratoonlaw07.TurnFirsts", spec := "turnFirsts", unfollowed := true, recurses := true, plainKeys := false, apart := false, narrowed := true }
def TurnFirstsUptoSaid : Prop := turnFirstsUptoRow.holds Try.pinned (OpenSpec.upto turnFirstsSpec)

/-- 'ratoonlaw07.TurnPuts', WHERE WHAT IT READS IS OF BULK AT MOST 1048576: true; the input reads as it did. -/
def turnPutsUptoRow : OpenClaim := { program := "ytbkknliggnhpcaa", sum := "0855eaf59be120532d805f29e42148f73b6d3faa2dcdcd466fe4259aae558d03", func := "ratoon/ratoonlaw07.TurnPuts", spec := "turnPuts", unfollowed := true, recurses := true, plainKeys := false, apart := false, narrowed := true }
def TurnPutsUptoSaid : Prop := turnPutsUptoRow.holds Try.pinned (OpenSpec.upto turnPutsSpec)

/-- 'ratoonlaw07.TurnOuts', WHERE WHAT IT READS IS OF BULK AT MOST 1048576: true; the input reads as it did. -/
def turnOutsUptoRow : OpenClaim := { program := "ytbkknliggnhpcaa", sum := "0855eaf59be120532d805f29e42148f73b6d3faa2dcdcd466fe4259aae558d03", func := "ratoon/ratoonlaw07.TurnOuts", spec := "turnOuts", unfollowed := true, recurses := true, plainKeys := false, apart := false, narrowed := true }
def TurnOutsUptoSaid : Prop := turnOutsUptoRow.holds Try.pinned (OpenSpec.upto turnOutsSpec)

/-- 'ratoonlaw07.TurnKnown', WHERE WHAT IT READS IS OF BULK AT MOST 1048576: true; the input reads as it did. -/
def turnKnownUptoRow : OpenClaim := { program := "ytbkknliggnhpcaa", sum := "0855eaf59be120532d805f29e42148f73b6d3faa2dcdcd466fe4259aae558d03", func := "ratoon/ratoonlaw07.TurnKnown", spec := "turnKnown", unfollowed := true, recurses := true, plainKeys := false, apart := false, narrowed := true }
def TurnKnownUptoSaid : Prop := turnKnownUptoRow.holds Try.pinned (OpenSpec.upto turnKnownSpec)

/-- 'ratoonlaw07.TurnTrue', WHERE WHAT IT READS IS OF BULK AT MOST 1048576: true; the input reads as it did. -/
def turnTrueUptoRow : OpenClaim := { program := "ytbkknliggnhpcaa", sum := "0855eaf59be120532d805f29e42148f73b6d3faa2dcdcd466fe4259aae558d03", func := "ratoon/ratoonlaw07.TurnTrue", spec := "turnTrue", unfollowed := true, recurses := true, plainKeys := false, apart := false, narrowed := true }
def TurnTrueUptoSaid : Prop := turnTrueUptoRow.holds Try.pinned (OpenSpec.upto turnTrueSpec)

/-- 'ratoonlaw07.TurnPut', WHERE WHAT IT READS IS OF BULK AT MOST 1048576: true; the input reads as it did. -/
def turnPutUptoRow : OpenClaim := { program := "ytbkknliggnhpcaa", sum := "0855eaf59be120532d805f29e42148f73b6d3faa2dcdcd466fe4259aae558d03", func := "ratoon/ratoonlaw07.TurnPut", spec := "turnPut", unfollowed := true, recurses := true, plainKeys := false, apart := false, narrowed := true }
def TurnPutUptoSaid : Prop := turnPutUptoRow.holds Try.pinned (OpenSpec.upto turnPutSpec)

/-- 'ratoonlaw07.TurnOut', WHERE WHAT IT READS IS OF BULK AT MOST 1048576: true; the input reads as it did. -/
def turnOutUptoRow : OpenClaim := { program := "ytbkknliggnhpcaa", sum := "0855eaf59be120532d805f29e42148f73b6d3faa2dcdcd466fe4259aae558d03", func := "ratoon/ratoonlaw07.TurnOut", spec := "turnOut", unfollowed := true, recurses := true, plainKeys := false, apart := false, narrowed := true }
def TurnOutUptoSaid : Prop := turnOutUptoRow.holds Try.pinned (OpenSpec.upto turnOutSpec)

/-- 'ratoonlaw07.TurnFewest', WHERE WHAT IT READS IS OF BULK AT MOST 1048576: true; the input reads as it did. -/
def turnFewestUptoRow : OpenClaim := { program := "ytbkknliggnhpcaa", sum := "0855eaf59be120532d805f29e42148f73b6d3faa2dcdcd466fe4259aae558d03", func := "ratoon/ratoonlaw07.TurnFewest", spec := "turnFewest", unfollowed := true, recurses := true, plainKeys := false, apart := false, narrowed := true }
def TurnFewestUptoSaid : Prop := turnFewestUptoRow.holds Try.pinned (OpenSpec.upto turnFewestSpec)

/-- 'ratoonlaw07.TurnMore', WHERE WHAT IT READS IS OF BULK AT MOST 1048576: true; the input reads as it did. -/
def turnMoreUptoRow : OpenClaim := { program := "ytbkknliggnhpcaa", sum := "0855eaf59be120532d805f29e42148f73b6d3faa2dcdcd466fe4259aae558d03", func := "ratoon/ratoonlaw07.TurnMore", spec := "turnMore", unfollowed := true, recurses := true, plainKeys := false, apart := false, narrowed := true }
def TurnMoreUptoSaid : Prop := turnMoreUptoRow.holds Try.pinned (OpenSpec.upto turnMoreSpec)

/-- 'ratoonlaw07.TurnLater', WHERE WHAT IT READS IS OF BULK AT MOST 1048576: true; the input reads as it did. -/
def turnLaterUptoRow : OpenClaim := { program := "ytbkknliggnhpcaa", sum := "0855eaf59be120532d805f29e42148f73b6d3faa2dcdcd466fe4259aae558d03", func := "ratoon/ratoonlaw07.TurnLater", spec := "turnLater", unfollowed := true, recurses := true, plainKeys := false, apart := false, narrowed := true }
def TurnLaterUptoSaid : Prop := turnLaterUptoRow.holds Try.pinned (OpenSpec.upto turnLaterSpec)

/-- 'ratoonlaw07.TurnAlone', WHERE WHAT IT READS IS OF BULK AT MOST 1048576: true; the input reads as it did. -/
def turnAloneUptoRow : OpenClaim := { program := "ytbkknliggnhpcaa", sum := "0855eaf59be120532d805f29e42148f73b6d3faa2dcdcd466fe4259aae558d03", func := "ratoon/ratoonlaw07.TurnAlone", spec := "turnAlone", unfollowed := true, recurses := true, plainKeys := false, apart := false, narrowed := true }
def TurnAloneUptoSaid : Prop := turnAloneUptoRow.holds Try.pinned (OpenSpec.upto turnAloneSpec)

/-- 'ratoonlaw07.TurnOrder', WHERE WHAT IT READS IS OF BULK AT MOST 1048576: true; the input reads as it did. -/
def turnOrderUptoRow : OpenClaim := { program := "ytbkknliggnhpcaa", sum := "0855eaf59be120532d805f29e42148f73b6d3faa2dcdcd466fe4259aae558d03", func := "ratoon/ratoonlaw07.TurnOrder", spec := "turnOrder", unfollowed := true, recurses := true, plainKeys := false, apart := false, narrowed := true }
def TurnOrderUptoSaid : Prop := turnOrderUptoRow.holds Try.pinned (OpenSpec.upto turnOrderSpec)

end Rows
end Go.Proofs.Ytbkknliggnhpcaa
