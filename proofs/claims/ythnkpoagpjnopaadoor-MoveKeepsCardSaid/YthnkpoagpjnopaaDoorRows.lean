/-
  NARROWER THAN 'FOR EVERY INPUT', by the rows' own cells (each row's printed sentence says how): MoveBuilds: laid · MoveWants: laid · MoveKeeps: laid.
  DERIVED. THE GIVEN ROWS OF THIS SEAT. 3 by the template 'for every input the law returns true; each argument reads behind the call as it read before'; 0 by the template 'total and deterministic' (their statements: YthnkpoagpjnopaaDoorTotals.lean).
  GIVEN WITH THE SEED: the statements are not yours to turn. If you find one false, say at which input.
  Laid BY PROGRAM, IN A SANDBOX (cutbox-rows.mjs): the forced cells as the released guide's own fill.sh prints them over the translation 37851188cae07113… (all of the seat's roots in one cut). By AI agents, Wed Nov 11 2026. No macro, syntax, notation, axiom, sorry.
-/
import Derived.Test.YthnkpoagpjnopaaDoorChecked
import GoSem.Claim
import GoSem.ClaimJoined
import GoSem.ClaimMapViews
import Derived.JoinedTies
import Derived.KernelRfl
namespace Go.Proofs.YthnkpoagpjnopaaDoor
/- THE CELL 'sum', in the pinned program and in every row, IS THE sha256 OF THE DUMP (.gsa) THAT YthnkpoagpjnopaaDoorProg.lean LOADS. Nothing in Lean hashes anything: it is a label: what it is worth is what the hold of that sum in a sandbox is worth. -/
noncomputable def Tryd.pinned : Pinned := { name := "ythnkpoagpjnopaadoor", sum := "37851188cae07113e69e845d4fd90c73aa4290fef8045eefaa63015bcf88b6ba", checked := Tryd.checked }
namespace Rows
def none {H : Type} : Left H := { results := [], args := [] }

/- WHAT THE LISTED PACKAGE-LEVEL VARIABLES READ AS WHEN THE CALL BEGINS. Each datum BY PROGRAM (the guide's laid-datum.mjs) off the statement by which the dump's own 'gosem.cut.vars' lays the variable. In a bare row this is a premise. The card (YthnkpoagpjnopaaDoorCards.lean) ties it to the program's text. -/
def laid_escheat_op_fields {H : Type} : DataW H := .agg [.lit (.string []), .lit (.string [112]), .lit (.string [112]), .lit (.string [112]), .lit (.string [112, 116]), .lit (.string [112]), .lit (.string [112, 116]), .lit (.string [112, 115]), .lit (.string [112]), .lit (.string [104]), .lit (.string [104, 111, 100]), .lit (.string [107]), .lit (.string [107]), .lit (.string [105, 109, 100]), .lit (.string [100, 115, 111])]

/-- 'escheatlaw28.MoveBuilds': WHATEVER THE INPUT: true; the input reads as it did. -/
def moveBuildsSpec : ChangeSpec := { name := "moveBuilds", fn := fun _ => fun
  | [d1, d2, d3] => { results := [.lit (.bool true)], args := [d1, d2, d3] }
  | _ => none }
def moveBuildsRow : OpenClaim := { program := "ythnkpoagpjnopaadoor", sum := "37851188cae07113e69e845d4fd90c73aa4290fef8045eefaa63015bcf88b6ba", func := "escheat/escheatlaw28.MoveBuilds", spec := "moveBuilds", inPlace := ["internal/abi.NoEscape", "internal/bytealg.MakeNoZero", "internal/bytealg.IndexByteString"], unfollowed := true, recurses := true, named := ["escheat/op.fields"], plainKeys := false, apart := false, laid := [("escheat/op.fields", laid_escheat_op_fields)] }
def MoveBuildsSaid : Prop := moveBuildsRow.holds Tryd.pinned (OpenSpec.ofChange moveBuildsSpec)

/-- ITS FALSE NEIGHBOUR: 'it returns false'. Refute it at one input. -/
def moveBuildsWrong : ChangeSpec := { name := "moveBuilds", fn := fun _ => fun
  | [d1, d2, d3] => { results := [.lit (.bool false)], args := [d1, d2, d3] }
  | _ => none }
def MoveBuildsWrongFalsely : Prop := moveBuildsRow.holds Tryd.pinned (OpenSpec.ofChange moveBuildsWrong)

/-- 'escheatlaw28.MoveWants': WHATEVER THE INPUT: true; the input reads as it did. -/
def moveWantsSpec : ChangeSpec := { name := "moveWants", fn := fun _ => fun
  | [d1, d2, d3] => { results := [.lit (.bool true)], args := [d1, d2, d3] }
  | _ => none }
def moveWantsRow : OpenClaim := { program := "ythnkpoagpjnopaadoor", sum := "37851188cae07113e69e845d4fd90c73aa4290fef8045eefaa63015bcf88b6ba", func := "escheat/escheatlaw28.MoveWants", spec := "moveWants", inPlace := ["internal/abi.NoEscape", "internal/bytealg.MakeNoZero", "internal/bytealg.IndexByteString"], unfollowed := true, recurses := true, named := ["escheat/op.fields"], plainKeys := false, apart := false, laid := [("escheat/op.fields", laid_escheat_op_fields)] }
def MoveWantsSaid : Prop := moveWantsRow.holds Tryd.pinned (OpenSpec.ofChange moveWantsSpec)

/-- ITS FALSE NEIGHBOUR: 'it returns false'. Refute it at one input. -/
def moveWantsWrong : ChangeSpec := { name := "moveWants", fn := fun _ => fun
  | [d1, d2, d3] => { results := [.lit (.bool false)], args := [d1, d2, d3] }
  | _ => none }
def MoveWantsWrongFalsely : Prop := moveWantsRow.holds Tryd.pinned (OpenSpec.ofChange moveWantsWrong)

/-- 'escheatlaw28.MoveKeeps': WHATEVER THE INPUT: true; the input reads as it did. -/
def moveKeepsSpec : ChangeSpec := { name := "moveKeeps", fn := fun _ => fun
  | [d1, d2, d3] => { results := [.lit (.bool true)], args := [d1, d2, d3] }
  | _ => none }
def moveKeepsRow : OpenClaim := { program := "ythnkpoagpjnopaadoor", sum := "37851188cae07113e69e845d4fd90c73aa4290fef8045eefaa63015bcf88b6ba", func := "escheat/escheatlaw28.MoveKeeps", spec := "moveKeeps", inPlace := ["internal/abi.NoEscape", "internal/bytealg.MakeNoZero", "internal/bytealg.IndexByteString"], unfollowed := true, recurses := true, named := ["escheat/op.fields"], plainKeys := false, apart := false, laid := [("escheat/op.fields", laid_escheat_op_fields)] }
def MoveKeepsSaid : Prop := moveKeepsRow.holds Tryd.pinned (OpenSpec.ofChange moveKeepsSpec)

/-- ITS FALSE NEIGHBOUR: 'it returns false'. Refute it at one input. -/
def moveKeepsWrong : ChangeSpec := { name := "moveKeeps", fn := fun _ => fun
  | [d1, d2, d3] => { results := [.lit (.bool false)], args := [d1, d2, d3] }
  | _ => none }
def MoveKeepsWrongFalsely : Prop := moveKeepsRow.holds Tryd.pinned (OpenSpec.ofChange moveKeepsWrong)

/- THE SECOND FORM. 'bulk': how many values and letters a reading holds, each counted each time it is reached (what is shared counts as often as it is met; a slice's spare places count too). A statement '..UptoSaid' is the law's where the arguments, and the package variables that the reading takes, are together of bulk at most 1048576: NARROWER than '..Said'. Prove '..Said' where nothing that the law and all that it calls make is longer than what came in: it says more and counts as full. Else prove '..UptoSaid'. A law counts once. -/
mutual
def uptoBulk {H : Type} : DataW H → Nat
  | .lit (.string bytes) => bytes.length + 1
  | .lit _ => 1
  | .nil => 1
  | .ptr d => uptoBulk d + 1
  | .slice elems spare => uptoBulkAll elems + uptoBulkAll spare + 1
  | .agg parts => uptoBulkAll parts + 1
  | .iface _ d => uptoBulk d + 1
  | .map entries => uptoBulkEntries entries + 1
  | .held _ => 1
def uptoBulkAll {H : Type} : List (DataW H) → Nat
  | [] => 0
  | d :: r => uptoBulk d + uptoBulkAll r
def uptoBulkEntries {H : Type} : List (Lit × DataW H) → Nat
  | [] => 0
  | x :: r => uptoBulkEntry x + uptoBulkEntries r
def uptoBulkEntry {H : Type} : Lit × DataW H → Nat
  | (.string bytes, d) => bytes.length + uptoBulk d + 1
  | (_, d) => uptoBulk d + 1
 end
def uptoSmall : (H : Type) → List (DataW H) → Bool := fun _ ds => decide (uptoBulkAll ds ≤ 1048576)
def OpenSpec.upto (s : _root_.Go.ChangeSpec) : _root_.Go.OpenSpec := { _root_.Go.OpenSpec.ofChange s with cond := some uptoSmall }

/-- 'escheatlaw28.MoveBuilds', WHERE WHAT IT READS IS OF BULK AT MOST 1048576: true; the input reads as it did. -/
def moveBuildsUptoRow : OpenClaim := { program := "ythnkpoagpjnopaadoor", sum := "37851188cae07113e69e845d4fd90c73aa4290fef8045eefaa63015bcf88b6ba", func := "escheat/escheatlaw28.MoveBuilds", spec := "moveBuilds", inPlace := ["internal/abi.NoEscape", "internal/bytealg.MakeNoZero", "internal/bytealg.IndexByteString"], unfollowed := true, recurses := true, named := ["escheat/op.fields"], plainKeys := false, apart := false, laid := [("escheat/op.fields", laid_escheat_op_fields)], narrowed := true }
def MoveBuildsUptoSaid : Prop := moveBuildsUptoRow.holds Tryd.pinned (OpenSpec.upto moveBuildsSpec)

/-- 'escheatlaw28.MoveWants', WHERE WHAT IT READS IS OF BULK AT MOST 1048576: true; the input reads as it did. -/
def moveWantsUptoRow : OpenClaim := { program := "ythnkpoagpjnopaadoor", sum := "37851188cae07113e69e845d4fd90c73aa4290fef8045eefaa63015bcf88b6ba", func := "escheat/escheatlaw28.MoveWants", spec := "moveWants", inPlace := ["internal/abi.NoEscape", "internal/bytealg.MakeNoZero", "internal/bytealg.IndexByteString"], unfollowed := true, recurses := true, named := ["escheat/op.fields"], plainKeys := false, apart := false, laid := [("escheat/op.fields", laid_escheat_op_fields)], narrowed := true }
def MoveWantsUptoSaid : Prop := moveWantsUptoRow.holds Tryd.pinned (OpenSpec.upto moveWantsSpec)

/-- 'escheatlaw28.MoveKeeps', WHERE WHAT IT READS IS OF BULK AT MOST 1048576: true; the input reads as it did. -/
def moveKeepsUptoRow : OpenClaim := { program := "ythnkpoagpjnopaadoor", sum := "37851188cae07113e69e845d4fd90c73aa4290fef8045eefaa63015bcf88b6ba", func := "escheat/escheatlaw28.MoveKeeps", spec := "moveKeeps", inPlace := ["internal/abi.NoEscape", "internal/bytealg.MakeNoZero", "internal/bytealg.IndexByteString"], unfollowed := true, recurses := true, named := ["escheat/op.fields"], plainKeys := false, apart := false, laid := [("escheat/op.fields", laid_escheat_op_fields)], narrowed := true }
def MoveKeepsUptoSaid : Prop := moveKeepsUptoRow.holds Tryd.pinned (OpenSpec.upto moveKeepsSpec)

end Rows
end Go.Proofs.YthnkpoagpjnopaaDoor
