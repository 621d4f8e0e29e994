/-
  No cell of these rows narrows 'for every input' (looked for: loops, veiled, ifaces, maps, wideKeys, modest, calm, conditions, laid).
  DERIVED. THE GIVEN ROWS OF THIS SEAT. 8 by the template 'for every input the law returns true; each argument reads behind the call as it read before'; 0 by the template 'total and deterministic' (their statements: YtllmahcanipcpaaGreatTotals.lean).
  GIVEN WITH THE SEED: the statements are not yours to turn. If you find one false, say at which input.
  Laid BY PROGRAM, IN A SANDBOX (cutbox-rows.mjs): the forced cells as the released guide's own fill.sh prints them over the translation 3fa0b0ec0efbcaa2… (all of the seat's roots in one cut). By AI agents, Wed Nov 11 2026. No macro, syntax, notation, axiom, sorry.
-/
import Derived.Test.YtllmahcanipcpaaGreatChecked
import GoSem.Claim
import GoSem.ClaimJoined
import GoSem.ClaimMapViews
import Derived.JoinedTies
import Derived.KernelRfl
namespace Go.Proofs.YtllmahcanipcpaaGreat
/- THE CELL 'sum', in the pinned program and in every row, IS THE sha256 OF THE DUMP (.gsa) THAT YtllmahcanipcpaaGreatProg.lean LOADS. Nothing in Lean hashes anything: it is a label: what it is worth is what the hold of that sum in a sandbox is worth. -/
noncomputable def Tryz.pinned : Pinned := { name := "ytllmahcanipcpaagreat", sum := "3fa0b0ec0efbcaa2f309f9d10f91208295319cc268dbf6fcccfcba2858869ce7", checked := Tryz.checked }
namespace Rows
def none {H : Type} : Left H := { results := [], args := [] }

/-- 'ratoonlaw11.ClaimPays': WHATEVER THE INPUT: true; the input reads as it did. -/
def claimPaysSpec : ChangeSpec := { name := "claimPays", fn := fun _ => fun
  | [d1, d2] => { results := [.lit (.bool true)], args := [d1, d2] }
  | _ => none }
def claimPaysRow : OpenClaim := { program := "ytllmahcanipcpaagreat", sum := "3fa0b0ec0efbcaa2f309f9d10f91208295319cc268dbf6fcccfcba2858869ce7", func := "ratoon/ratoonlaw11.ClaimPays", spec := "claimPays", unfollowed := true, recurses := true, plainKeys := false, apart := false }
def ClaimPaysSaid : Prop := claimPaysRow.holds Tryz.pinned (OpenSpec.ofChange claimPaysSpec)

/-- ITS FALSE NEIGHBOUR: 'it returns false'. Refute it at one input. -/
def claimPaysWrong : ChangeSpec := { name := "claimPays", fn := fun _ => fun
  | [d1, d2] => { results := [.lit (.bool false)], args := [d1, d2] }
  | _ => none }
def ClaimPaysWrongFalsely : Prop := claimPaysRow.holds Tryz.pinned (OpenSpec.ofChange claimPaysWrong)

/-- 'ratoonlaw11.ClaimOwes': WHATEVER THE INPUT: true; the input reads as it did. -/
def claimOwesSpec : ChangeSpec := { name := "claimOwes", fn := fun _ => fun
  | [d1, d2] => { results := [.lit (.bool true)], args := [d1, d2] }
  | _ => none }
def claimOwesRow : OpenClaim := { program := "ytllmahcanipcpaagreat", sum := "3fa0b0ec0efbcaa2f309f9d10f91208295319cc268dbf6fcccfcba2858869ce7", func := "ratoon/ratoonlaw11.ClaimOwes", spec := "claimOwes", unfollowed := true, recurses := true, plainKeys := false, apart := false }
def ClaimOwesSaid : Prop := claimOwesRow.holds Tryz.pinned (OpenSpec.ofChange claimOwesSpec)

/-- ITS FALSE NEIGHBOUR: 'it returns false'. Refute it at one input. -/
def claimOwesWrong : ChangeSpec := { name := "claimOwes", fn := fun _ => fun
  | [d1, d2] => { results := [.lit (.bool false)], args := [d1, d2] }
  | _ => none }
def ClaimOwesWrongFalsely : Prop := claimOwesRow.holds Tryz.pinned (OpenSpec.ofChange claimOwesWrong)

/-- 'ratoonlaw11.ClaimNexts': WHATEVER THE INPUT: true; the input reads as it did. -/
def claimNextsSpec : ChangeSpec := { name := "claimNexts", fn := fun _ => fun
  | [d1, d2] => { results := [.lit (.bool true)], args := [d1, d2] }
  | _ => none }
def claimNextsRow : OpenClaim := { program := "ytllmahcanipcpaagreat", sum := "3fa0b0ec0efbcaa2f309f9d10f91208295319cc268dbf6fcccfcba2858869ce7", func := "ratoon/ratoonlaw11.ClaimNexts", spec := "claimNexts", unfollowed := true, recurses := true, plainKeys := false, apart := false }
def ClaimNextsSaid : Prop := claimNextsRow.holds Tryz.pinned (OpenSpec.ofChange claimNextsSpec)

/-- ITS FALSE NEIGHBOUR: 'it returns false'. Refute it at one input. -/
def claimNextsWrong : ChangeSpec := { name := "claimNexts", fn := fun _ => fun
  | [d1, d2] => { results := [.lit (.bool false)], args := [d1, d2] }
  | _ => none }
def ClaimNextsWrongFalsely : Prop := claimNextsRow.holds Tryz.pinned (OpenSpec.ofChange claimNextsWrong)

/-- 'ratoonlaw11.ClaimTrue': WHATEVER THE INPUT: true; the input reads as it did. -/
def claimTrueSpec : ChangeSpec := { name := "claimTrue", fn := fun _ => fun
  | [d1, d2] => { results := [.lit (.bool true)], args := [d1, d2] }
  | _ => none }
def claimTrueRow : OpenClaim := { program := "ytllmahcanipcpaagreat", sum := "3fa0b0ec0efbcaa2f309f9d10f91208295319cc268dbf6fcccfcba2858869ce7", func := "ratoon/ratoonlaw11.ClaimTrue", spec := "claimTrue", unfollowed := true, recurses := true, plainKeys := false, apart := false }
def ClaimTrueSaid : Prop := claimTrueRow.holds Tryz.pinned (OpenSpec.ofChange claimTrueSpec)

/-- ITS FALSE NEIGHBOUR: 'it returns false'. Refute it at one input. -/
def claimTrueWrong : ChangeSpec := { name := "claimTrue", fn := fun _ => fun
  | [d1, d2] => { results := [.lit (.bool false)], args := [d1, d2] }
  | _ => none }
def ClaimTrueWrongFalsely : Prop := claimTrueRow.holds Tryz.pinned (OpenSpec.ofChange claimTrueWrong)

/-- 'ratoonlaw11.ClaimOnce': WHATEVER THE INPUT: true; the input reads as it did. -/
def claimOnceSpec : ChangeSpec := { name := "claimOnce", fn := fun _ => fun
  | [d1, d2] => { results := [.lit (.bool true)], args := [d1, d2] }
  | _ => none }
def claimOnceRow : OpenClaim := { program := "ytllmahcanipcpaagreat", sum := "3fa0b0ec0efbcaa2f309f9d10f91208295319cc268dbf6fcccfcba2858869ce7", func := "ratoon/ratoonlaw11.ClaimOnce", spec := "claimOnce", unfollowed := true, recurses := true, plainKeys := false, apart := false }
def ClaimOnceSaid : Prop := claimOnceRow.holds Tryz.pinned (OpenSpec.ofChange claimOnceSpec)

/-- ITS FALSE NEIGHBOUR: 'it returns false'. Refute it at one input. -/
def claimOnceWrong : ChangeSpec := { name := "claimOnce", fn := fun _ => fun
  | [d1, d2] => { results := [.lit (.bool false)], args := [d1, d2] }
  | _ => none }
def ClaimOnceWrongFalsely : Prop := claimOnceRow.holds Tryz.pinned (OpenSpec.ofChange claimOnceWrong)

/-- 'ratoonlaw11.ClaimFewest': WHATEVER THE INPUT: true; the input reads as it did. -/
def claimFewestSpec : ChangeSpec := { name := "claimFewest", fn := fun _ => fun
  | [d1, d2] => { results := [.lit (.bool true)], args := [d1, d2] }
  | _ => none }
def claimFewestRow : OpenClaim := { program := "ytllmahcanipcpaagreat", sum := "3fa0b0ec0efbcaa2f309f9d10f91208295319cc268dbf6fcccfcba2858869ce7", func := "ratoon/ratoonlaw11.ClaimFewest", spec := "claimFewest", unfollowed := true, recurses := true, plainKeys := false, apart := false }
def ClaimFewestSaid : Prop := claimFewestRow.holds Tryz.pinned (OpenSpec.ofChange claimFewestSpec)

/-- ITS FALSE NEIGHBOUR: 'it returns false'. Refute it at one input. -/
def claimFewestWrong : ChangeSpec := { name := "claimFewest", fn := fun _ => fun
  | [d1, d2] => { results := [.lit (.bool false)], args := [d1, d2] }
  | _ => none }
def ClaimFewestWrongFalsely : Prop := claimFewestRow.holds Tryz.pinned (OpenSpec.ofChange claimFewestWrong)

/-- 'ratoonlaw11.ClaimNext': WHATEVER THE INPUT: true; the input reads as it did. -/
def claimNextSpec : ChangeSpec := { name := "claimNext", fn := fun _ => fun
  | [d1, d2] => { results := [.lit (.bool true)], args := [d1, d2] }
  | _ => none }
def claimNextRow : OpenClaim := { program := "ytllmahcanipcpaagreat", sum := "3fa0b0ec0efbcaa2f309f9d10f91208295319cc268dbf6fcccfcba2858869ce7", func := "ratoon/ratoonlaw11.ClaimNext", spec := "claimNext", unfollowed := true, recurses := true, plainKeys := false, apart := false }
def ClaimNextSaid : Prop := claimNextRow.holds Tryz.pinned (OpenSpec.ofChange claimNextSpec)

/-- ITS FALSE NEIGHBOUR: 'it returns false'. Refute it at one input. -/
def claimNextWrong : ChangeSpec := { name := "claimNext", fn := fun _ => fun
  | [d1, d2] => { results := [.lit (.bool false)], args := [d1, d2] }
  | _ => none }
def ClaimNextWrongFalsely : Prop := claimNextRow.holds Tryz.pinned (OpenSpec.ofChange claimNextWrong)

/-- 'ratoonlaw11.ClaimClaim': WHATEVER THE INPUT: true; the input reads as it did. -/
def claimClaimSpec : ChangeSpec := { name := "claimClaim", fn := fun _ => fun
  | [d1, d2] => { results := [.lit (.bool true)], args := [d1, d2] }
  | _ => none }
def claimClaimRow : OpenClaim := { program := "ytllmahcanipcpaagreat", sum := "3fa0b0ec0efbcaa2f309f9d10f91208295319cc268dbf6fcccfcba2858869ce7", func := "ratoon/ratoonlaw11.ClaimClaim", spec := "claimClaim", unfollowed := true, recurses := true, plainKeys := false, apart := false }
def ClaimClaimSaid : Prop := claimClaimRow.holds Tryz.pinned (OpenSpec.ofChange claimClaimSpec)

/-- ITS FALSE NEIGHBOUR: 'it returns false'. Refute it at one input. -/
def claimClaimWrong : ChangeSpec := { name := "claimClaim", fn := fun _ => fun
  | [d1, d2] => { results := [.lit (.bool false)], args := [d1, d2] }
  | _ => none }
def ClaimClaimWrongFalsely : Prop := claimClaimRow.holds Tryz.pinned (OpenSpec.ofChange claimClaimWrong)

/- THE SECOND FORM. 'bulk': how many values and letters a reading holds, each counted each time it is reached (what is shared counts as often as it is met; a slice's spare places count too). A statement '..UptoSaid' is the law's where the arguments, and the package variables that the reading takes, are together of bulk at most 1048576: NARROWER than '..Said'. Prove '..Said' where nothing that the law and all that it calls make is longer than what came in: it says more and counts as full. Else prove '..UptoSaid'. A law counts once. -/
mutual
def uptoBulk {H : Type} : DataW H → Nat
  | .lit (.string bytes) => bytes.length + 1
  | .lit _ => 1
  | .nil => 1
  | .ptr d => uptoBulk d + 1
  | .slice elems spare => uptoBulkAll elems + uptoBulkAll spare + 1
  | .agg parts => uptoBulkAll parts + 1
  | .iface _ d => uptoBulk d + 1
  | .map entries => uptoBulkEntries entries + 1
  | .held _ => 1
def uptoBulkAll {H : Type} : List (DataW H) → Nat
  | [] => 0
  | d :: r => uptoBulk d + uptoBulkAll r
def uptoBulkEntries {H : Type} : List (Lit × DataW H) → Nat
  | [] => 0
  | x :: r => uptoBulkEntry x + uptoBulkEntries r
def uptoBulkEntry {H : Type} : Lit × DataW H → Nat
  | (.string bytes, d) => bytes.length + uptoBulk d + 1
  | (_, d) => uptoBulk d + 1
 end
def uptoSmall : (H : Type) → List (DataW H) → Bool := fun _ ds => decide (uptoBulkAll ds ≤ 1048576)
def OpenSpec.upto (s : _root_.Go.ChangeSpec) : _root_.Go.OpenSpec := { _root_.Go.OpenSpec.ofChange s with cond := some uptoSmall }

/-- 'ratoonlaw11.ClaimPays', WHERE WHAT IT READS IS OF BULK AT MOST 1048576: true; the input reads as it did. -/
def claimPaysUptoRow : OpenClaim := { program := "ytllmahcanipcpaagreat", sum := "3fa0b0ec0efbcaa2f309f9d10f91208295319cc268dbf6fcccfcba2858869ce7", func := "ratoon/ratoonlaw11.ClaimPays", spec := "claimPays", unfollowed := true, recurses := true, plainKeys := false, apart := false, narrowed := true }
def ClaimPaysUptoSaid : Prop := claimPaysUptoRow.holds Tryz.pinned (OpenSpec.upto claimPaysSpec)

/-- 'ratoonlaw11.ClaimOwes', WHERE WHAT IT READS IS OF BULK AT MOST 1048576: true; the input reads as it did. -/
def claimOwesUptoRow : OpenClaim := { program := "ytllmahcanipcpaagreat", sum := "3fa0b0ec0efbcaa2f309f9d10f91208295319cc268dbf6fcccfcba2858869ce7", func := "ratoon/ratoonlaw11.ClaimOwes", spec := "claimOwes", unfollowed := true, recurses := true, plainKeys := false, apart := false, narrowed := true }
def ClaimOwesUptoSaid : Prop := claimOwesUptoRow.holds Tryz.pinned (OpenSpec.upto claimOwesSpec)

/-- 'ratoonlaw11.ClaimNexts', WHERE WHAT IT READS IS OF BULK AT MOST 1048576: true; the input reads as it did. -/
def claimNextsUptoRow : OpenClaim := { program := "ytllmahcanipcpaagreat", sum := "3fa0b0ec0efbcaa2f309f9d10f91208295319cc268dbf6fcccfcba2858869ce7", func := "ratoon/ratoonlaw11.ClaimNexts", spec := "claimNexts", unfollowed := true, recurses := true, plainKeys := false, apart := false, narrowed := true }
def ClaimNextsUptoSaid : Prop := claimNextsUptoRow.holds Tryz.pinned (OpenSpec.upto claimNextsSpec)

/-- 'ratoonlaw11.ClaimTrue', WHERE WHAT IT READS IS OF BULK AT MOST 1048576: true; the input reads as it did. -/
def claimTrueUptoRow : OpenClaim := { program := "ytllmahcanipcpaagreat", sum := "3fa0b0ec0efbcaa2f309f9d10f91208295319cc268dbf6fcccfcba2858869ce7", func := "ratoon/ratoonlaw11.ClaimTrue", spec := "claimTrue", unfollowed := true, recurses := true, plainKeys := false, apart := false, narrowed := true }
def ClaimTrueUptoSaid : Prop := claimTrueUptoRow.holds Tryz.pinned (OpenSpec.upto claimTrueSpec)

/-- 'ratoonlaw11.ClaimOnce', WHERE WHAT IT READS IS OF BULK AT MOST 1048576: true; the input reads as it did. -/
def claimOnceUptoRow : OpenClaim := { program := "ytllmahcanipcpaagreat", sum := "3fa0b0ec0efbcaa2f309f9d10f91208295319cc268dbf6fcccfcba2858869ce7", func := "ratoon/ratoonlaw11.ClaimOnce", spec := "claimOnce", unfollowed := true, recurses := true, plainKeys := false, apart := false, narrowed := true }
def ClaimOnceUptoSaid : Prop := claimOnceUptoRow.holds Tryz.pinned (OpenSpec.upto claimOnceSpec)

/-- 'ratoonlaw11.ClaimFewest', WHERE WHAT IT READS IS OF BULK AT MOST 1048576: true; the input reads as it did. -/
def claimFewestUptoRow : OpenClaim := { program := "ytllmahcanipcpaagreat", sum := "3fa0b0ec0efbcaa2f309f9d10f91208295319cc268dbf6fcccfcba2858869ce7", func := "ratoon/ratoonlaw11.ClaimFewest", spec := "claimFewest", unfollowed := true, recurses := true, plainKeys := false, apart := false, narrowed := true }
def ClaimFewestUptoSaid : Prop := claimFewestUptoRow.holds Tryz.pinned (OpenSpec.upto claimFewestSpec)

/-- 'ratoonlaw11.ClaimNext', WHERE WHAT IT READS IS OF BULK AT MOST 1048576: true; the input reads as it did. -/
def claimNextUptoRow : OpenClaim := { program := "ytllmahcanipcpaagreat", sum := "3fa0b0ec0efbcaa2f309f9d10f91208295319cc268dbf6fcccfcba2858869ce7", func := "ratoon/ratoonlaw11.ClaimNext", spec := "claimNext", unfollowed := true, recurses := true, plainKeys := false, apart := false, narrowed := true }
def ClaimNextUptoSaid : Prop := claimNextUptoRow.holds Tryz.pinned (OpenSpec.upto claimNextSpec)

/-- 'ratoonlaw11.ClaimClaim', WHERE WHAT IT READS IS OF BULK AT MOST 1048576: true; the input reads as it did. -/
def claimClaimUptoRow : OpenClaim := { program := "ytllmahcanipcpaagreat", sum := "3fa0b0ec0efbcaa2f309f9d10f91208295319cc268dbf6fcccfcba2858869ce7", func := "ratoon/ratoonlaw11.ClaimClaim", spec := "claimClaim", unfollowed := true, recurses := true, plainKeys := false, apart := false, narrowed := true }
def ClaimClaimUptoSaid : Prop := claimClaimUptoRow.holds Tryz.pinned (OpenSpec.upto claimClaimSpec)

end Rows
end Go.Proofs.YtllmahcanipcpaaGreat
