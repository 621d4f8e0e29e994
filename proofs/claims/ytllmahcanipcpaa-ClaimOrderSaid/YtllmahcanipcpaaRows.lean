/-
  No cell of these rows narrows 'for every input' (looked for: loops, veiled, ifaces, maps, wideKeys, modest, calm, conditions, laid).
  DERIVED. THE GIVEN ROWS OF THIS SEAT. 5 by the template 'for every input the law returns true; each argument reads behind the call as it read before'; 0 by the template 'total and deterministic' (their statements: YtllmahcanipcpaaTotals.lean).
  GIVEN WITH THE SEED: the statements are not yours to turn. If you find one false, say at which input.
  Laid BY PROGRAM, IN A SANDBOX (cutbox-rows.mjs): the forced cells as the released guide's own fill.sh prints them over the translation cba9f7164f413b51… (all of the seat's roots in one cut). By AI agents, Wed Nov 11 2026. No macro, syntax, notation, axiom, sorry.
-/
import Derived.Test.YtllmahcanipcpaaChecked
import GoSem.Claim
import GoSem.ClaimJoined
import GoSem.ClaimMapViews
import Derived.JoinedTies
import Derived.KernelRfl
namespace Go.Proofs.Ytllmahcanipcpaa
/- THE CELL 'sum', in the pinned program and in every row, IS THE sha256 OF THE DUMP (.gsa) THAT YtllmahcanipcpaaProg.lean LOADS. Nothing in Lean hashes anything: it is a label: what it is worth is what the hold of that sum in a sandbox is worth. -/
noncomputable def Try.pinned : Pinned := { name := "ytllmahcanipcpaa", sum := "cba9f7164f413b514725a911e97c02289b0cb9bf083d734cbcd7b4e011e65691", checked := Try.checked }
namespace Rows
def none {H : Type} : Left H := { results := [], args := [] }

/-- 'ratoonlaw11.ClaimWhos': WHATEVER THE INPUT: true; the input reads as it did. -/
def claimWhosSpec : ChangeSpec := { name := "claimWhos", fn := fun _ => fun
  | [d1, d2] => { results := [.lit (.bool true)], args := [d1, d2] }
  | _ => none }
def claimWhosRow : OpenClaim := { program := "ytllmahcanipcpaa", sum := "cba9f7164f413b514725a911e97c02289b0cb9bf083d734cbcd7b4e011e65691", func := "ratoon/ratoonlaw11.ClaimWhos", spec := "claimWhos", unfollowed := true, recurses := true, plainKeys := false, apart := false }
def ClaimWhosSaid : Prop := claimWhosRow.holds Try.pinned (OpenSpec.ofChange claimWhosSpec)

/-- ITS FALSE NEIGHBOUR: 'it returns false'. Refute it at one input. -/
def claimWhosWrong : ChangeSpec := { name := "claimWhos", fn := fun _ => fun
  | [d1, d2] => { results := [.lit (.bool false)], args := [d1, d2] }
  | _ => none }
def ClaimWhosWrongFalsely : Prop := claimWhosRow.holds Try.pinned (OpenSpec.ofChange claimWhosWrong)

/-- 'ratoonlaw11.ClaimKnown': WHATEVER THE INPUT: true; the input reads as it did. -/
def claimKnownSpec : ChangeSpec := { name := "claimKnown", fn := fun _ => fun
  | [] => { results := [.lit (.bool true)], args := [] }
  | _ => none }
def claimKnownRow : OpenClaim := { program := "ytllmahcanipcpaa", sum := "cba9f7164f413b514725a911e97c02289b0cb9bf083d734cbcd7b4e011e65691", func := "ratoon/ratoonlaw11.ClaimKnown", spec := "claimKnown", unfollowed := true, recurses := true, plainKeys := false, apart := false }
def ClaimKnownSaid : Prop := claimKnownRow.holds Try.pinned (OpenSpec.ofChange claimKnownSpec)

/-- ITS FALSE NEIGHBOUR: 'it returns false'. Refute it at one input. -/
def claimKnownWrong : ChangeSpec := { name := "claimKnown", fn := fun _ => fun
  | [] => { results := [.lit (.bool false)], args := [] }
  | _ => none }
def ClaimKnownWrongFalsely : Prop := claimKnownRow.holds Try.pinned (OpenSpec.ofChange claimKnownWrong)

/-- 'ratoonlaw11.ClaimMore': WHATEVER THE INPUT: true; the input reads as it did. -/
def claimMoreSpec : ChangeSpec := { name := "claimMore", fn := fun _ => fun
  | [d1, d2] => { results := [.lit (.bool true)], args := [d1, d2] }
  | _ => none }
def claimMoreRow : OpenClaim := { program := "ytllmahcanipcpaa", sum := "cba9f7164f413b514725a911e97c02289b0cb9bf083d734cbcd7b4e011e65691", func := "ratoon/ratoonlaw11.ClaimMore", spec := "claimMore", unfollowed := true, recurses := true, plainKeys := false, apart := false }
def ClaimMoreSaid : Prop := claimMoreRow.holds Try.pinned (OpenSpec.ofChange claimMoreSpec)

/-- ITS FALSE NEIGHBOUR: 'it returns false'. Refute it at one input. -/
def claimMoreWrong : ChangeSpec := { name := "claimMore", fn := fun _ => fun
  | [d1, d2] => { results := [.lit (.bool false)], args := [d1, d2] }
  | _ => none }
def ClaimMoreWrongFalsely : Prop := claimMoreRow.holds Try.pinned (OpenSpec.ofChange claimMoreWrong)

/-- 'ratoonlaw11.ClaimLate': WHATEVER THE INPUT: true; the input reads as it did. -/
def claimLateSpec : ChangeSpec := { name := "claimLate", fn := fun _ => fun
  | [d1, d2] => { results := [.lit (.bool true)], args := [d1, d2] }
  | _ => none }
def claimLateRow : OpenClaim := { program := "ytllmahcanipcpaa", sum := "cba9f7164f413b514725a911e97c02289b0cb9bf083d734cbcd7b4e011e65691", func := "ratoon/ratoonlaw11.ClaimLate", spec := "claimLate", unfollowed := true, recurses := true, plainKeys := false, apart := false }
def ClaimLateSaid : Prop := claimLateRow.holds Try.pinned (OpenSpec.ofChange claimLateSpec)

/-- ITS FALSE NEIGHBOUR: 'it returns false'. Refute it at one input. -/
def claimLateWrong : ChangeSpec := { name := "claimLate", fn := fun _ => fun
  | [d1, d2] => { results := [.lit (.bool false)], args := [d1, d2] }
  | _ => none }
def ClaimLateWrongFalsely : Prop := claimLateRow.holds Try.pinned (OpenSpec.ofChange claimLateWrong)

/-- 'ratoonlaw11.ClaimOrder': WHATEVER THE INPUT: true; the input reads as it did. -/
def claimOrderSpec : ChangeSpec := { name := "claimOrder", fn := fun _ => fun
  | [d] => { results := [.lit (.bool true)], args := [d] }
  | _ => none }
def claimOrderRow : OpenClaim := { program := "ytllmahcanipcpaa", sum := "cba9f7164f413b514725a911e97c02289b0cb9bf083d734cbcd7b4e011e65691", func := "ratoon/ratoonlaw11.ClaimOrder", spec := "claimOrder", unfollowed := true, recurses := true, plainKeys := false, apart := false }
def ClaimOrderSaid : Prop := claimOrderRow.holds Try.pinned (OpenSpec.ofChange claimOrderSpec)

/-- ITS FALSE NEIGHBOUR: 'it returns false'. Refute it at one input. -/
def claimOrderWrong : ChangeSpec := { name := "claimOrder", fn := fun _ => fun
  | [d] => { results := [.lit (.bool false)], args := [d] }
  | _ => none }
def ClaimOrderWrongFalsely : Prop := claimOrderRow.holds Try.pinned (OpenSpec.ofChange claimOrderWrong)

/- THE SECOND FORM. 'bulk': how many values and letters a reading holds, each counted each time it is reached (what is shared counts as often as it is met; a slice's spare places count too). A statement '..UptoSaid' is the law's where the arguments, and the package variables that the reading takes, are together of bulk at most 1048576: NARROWER than '..Said'. Prove '..Said' where nothing that the law and all that it calls make is longer than what came in: it says more and counts as full. Else prove '..UptoSaid'. A law counts once. -/
mutual
def uptoBulk {H : Type} : DataW H → Nat
  | .lit (.string bytes) => bytes.length + 1
  | .lit _ => 1
  | .nil => 1
  | .ptr d => uptoBulk d + 1
  | .slice elems spare => uptoBulkAll elems + uptoBulkAll spare + 1
  | .agg parts => uptoBulkAll parts + 1
  | .iface _ d => uptoBulk d + 1
  | .map entries => uptoBulkEntries entries + 1
  | .held _ => 1
def uptoBulkAll {H : Type} : List (DataW H) → Nat
  | [] => 0
  | d :: r => uptoBulk d + uptoBulkAll r
def uptoBulkEntries {H : Type} : List (Lit × DataW H) → Nat
  | [] => 0
  | x :: r => uptoBulkEntry x + uptoBulkEntries r
def uptoBulkEntry {H : Type} : Lit × DataW H → Nat
  | (.string bytes, d) => bytes.length + uptoBulk d + 1
  | (_, d) => uptoBulk d + 1
 end
def uptoSmall : (H : Type) → List (DataW H) → Bool := fun _ ds => decide (uptoBulkAll ds ≤ 1048576)
def OpenSpec.upto (s : _root_.Go.ChangeSpec) : _root_.Go.OpenSpec := { _root_.Go.OpenSpec.ofChange s with cond := some uptoSmall }

/-- 'ratoonlaw11.ClaimWhos', WHERE WHAT IT READS IS OF BULK AT MOST 1048576: true; the input reads as it did. -/
def claimWhosUptoRow : OpenClaim := { program := "ytllmahcanipcpaa", sum := "cba9f7164f413b514725a911e97c02289b0cb9bf083d734cbcd7b4e011e65691", func := "ratoon/ratoonlaw11.ClaimWhos", spec := "claimWhos", unfollowed := true, recurses := true, plainKeys := false, apart := false, narrowed := true }
def ClaimWhosUptoSaid : Prop := claimWhosUptoRow.holds Try.pinned (OpenSpec.upto claimWhosSpec)

/-- 'ratoonlaw11.ClaimKnown', WHERE WHAT IT READS IS OF BULK AT MOST 1048576: true; the input reads as it did. -/
def claimKnownUptoRow : OpenClaim := { program := "ytllmahcanipcpaa", sum := "cba9f7164f413b514725a911e97c02289b0cb9bf083d734cbcd7b4e011e65691", func := "ratoon/ratoonlaw11.ClaimKnown", spec := "claimKnown", unfollowed := true, recurses := true, plainKeys := false, apart := false, narrowed := true }
def ClaimKnownUptoSaid : Prop := claimKnownUptoRow.holds Try.pinned (OpenSpec.upto claimKnownSpec)

/-- 'ratoonlaw11.ClaimMore', WHERE WHAT IT READS IS OF BULK AT MOST 1048576: true; the input reads as it did. -/
def claimMoreUptoRow : OpenClaim := { program := "ytllmahcanipcpaa", sum := "cba9f7164f413b514725a911e97c02289b0cb9bf083d734cbcd7b4e011e65691", func := "ratoon/ratoonlaw11.ClaimMore", spec := "claimMore", unfollowed := true, recurses := true, plainKeys := false, apart := false, narrowed := true }
def ClaimMoreUptoSaid : Prop := claimMoreUptoRow.holds Try.pinned (OpenSpec.upto claimMoreSpec)

/-- 'ratoonlaw11.ClaimLate', WHERE WHAT IT READS IS OF BULK AT MOST 1048576: true; the input reads as it did. -/
def claimLateUptoRow : OpenClaim := { program := "ytllmahcanipcpaa", sum := "cba9f7164f413b514725a911e97c02289b0cb9bf083d734cbcd7b4e011e65691", func := "ratoon/ratoonlaw11.ClaimLate", spec := "claimLate", unfollowed := true, recurses := true, plainKeys := false, apart := false, narrowed := true }
def ClaimLateUptoSaid : Prop := claimLateUptoRow.holds Try.pinned (OpenSpec.upto claimLateSpec)

/-- 'ratoonlaw11.ClaimOrder', WHERE WHAT IT READS IS OF BULK AT MOST 1048576: true; the input reads as it did. -/
def claimOrderUptoRow : OpenClaim := { program := "ytllmahcanipcpaa", sum := "cba9f7164f413b514725a911e97c02289b0cb9bf083d734cbcd7b4e011e65691", func := "ratoon/ratoonlaw11.ClaimOrder", spec := "claimOrder", unfollowed := true, recurses := true, plainKeys := false, apart := false, narrowed := true }
def ClaimOrderUptoSaid : Prop := claimOrderUptoRow.holds Try.pinned (OpenSpec.upto claimOrderSpec)

end Rows
end Go.Proofs.Ytllmahcanipcpaa
