/-
  NARROWER THAN 'FOR EVERY INPUT', by the rows' own cells (each row's printed sentence says how): OpEncodes: laid · OpDecodes: laid · OpBack: laid · OpSames: laid · OpOthers: laid.
  DERIVED. THE GIVEN ROWS OF THIS SEAT. 5 by the template 'for every input the law returns true; each argument reads behind the call as it read before'; 0 by the template 'total and deterministic' (their statements: YtlffcilgmockmaaDoorTotals.lean).
  GIVEN WITH THE SEED: the statements are not yours to turn. If you find one false, say at which input.
  Laid BY PROGRAM, IN A SANDBOX (cutbox-rows.mjs): the forced cells as the released guide's own fill.sh prints them over the translation 57fc5d74df08dcf2… (all of the seat's roots in one cut). By AI agents, Wed Nov 11 2026. No macro, syntax, notation, axiom, sorry.
-/
import Derived.Test.YtlffcilgmockmaaDoorChecked
import GoSem.Claim
import GoSem.ClaimJoined
import GoSem.ClaimMapViews
import Derived.JoinedTies
import Derived.KernelRfl
namespace Go.Proofs.YtlffcilgmockmaaDoor
/- THE CELL 'sum', in the pinned program and in every row, IS THE sha256 OF THE DUMP (.gsa) THAT YtlffcilgmockmaaDoorProg.lean LOADS. Nothing in Lean hashes anything: it is a label: what it is worth is what the hold of that sum in a sandbox is worth. -/
noncomputable def Tryd.pinned : Pinned := { name := "ytlffcilgmockmaadoor", sum := "57fc5d74df08dcf2e050fec08551859188205c612d031abcc160a1b007e7eec2", checked := Tryd.checked }
namespace Rows
def none {H : Type} : Left H := { results := [], args := [] }

/- WHAT THE LISTED PACKAGE-LEVEL VARIABLES READ AS WHEN THE CALL BEGINS. Each datum BY PROGRAM (the guide's laid-datum.mjs) off the statement by which the dump's own 'gosem.cut.vars' lays the variable. In a bare row this is a premise. The card (YtlffcilgmockmaaDoorCards.lean) ties it to the program's text. -/
def laid_escheat_op_fields {H : Type} : DataW H := .agg [.lit (.string []), .lit (.string [112]), .lit (.string [112]), .lit (.string [112]), .lit (.string [112, 116]), .lit (.string [112]), .lit (.string [112, 116]), .lit (.string [112, 115]), .lit (.string [112]), .lit (.string [104]), .lit (.string [104, 111, 100]), .lit (.string [107]), .lit (.string [107]), .lit (.string [105, 109, 100]), .lit (.string [100, 115, 111])]

/-- 'escheatlaw06.OpEncodes': WHATEVER THE INPUT: true; the input reads as it did. -/
def opEncodesSpec : ChangeSpec := { name := "opEncodes", fn := fun _ => fun
  | [d] => { results := [.lit (.bool true)], args := [d] }
  | _ => none }
def opEncodesRow : OpenClaim := { program := "ytlffcilgmockmaadoor", sum := "57fc5d74df08dcf2e050fec08551859188205c612d031abcc160a1b007e7eec2", func := "escheat/escheatlaw06.OpEncodes", spec := "opEncodes", inPlace := ["internal/bytealg.IndexByteString", "internal/abi.NoEscape"], unfollowed := true, recurses := true, named := ["escheat/op.fields"], apart := false, laid := [("escheat/op.fields", laid_escheat_op_fields)] }
def OpEncodesSaid : Prop := opEncodesRow.holds Tryd.pinned (OpenSpec.ofChange opEncodesSpec)

/-- ITS FALSE NEIGHBOUR: 'it returns false'. Refute it at one input. -/
def opEncodesWrong : ChangeSpec := { name := "opEncodes", fn := fun _ => fun
  | [d] => { results := [.lit (.bool false)], args := [d] }
  | _ => none }
def OpEncodesWrongFalsely : Prop := opEncodesRow.holds Tryd.pinned (OpenSpec.ofChange opEncodesWrong)

/-- 'escheatlaw06.OpDecodes': WHATEVER THE INPUT: true; the input reads as it did. -/
def opDecodesSpec : ChangeSpec := { name := "opDecodes", fn := fun _ => fun
  | [d] => { results := [.lit (.bool true)], args := [d] }
  | _ => none }
def opDecodesRow : OpenClaim := { program := "ytlffcilgmockmaadoor", sum := "57fc5d74df08dcf2e050fec08551859188205c612d031abcc160a1b007e7eec2", func := "escheat/escheatlaw06.OpDecodes", spec := "opDecodes", inPlace := ["internal/bytealg.IndexByteString", "internal/abi.NoEscape"], unfollowed := true, recurses := true, named := ["escheat/op.fields"], apart := false, laid := [("escheat/op.fields", laid_escheat_op_fields)] }
def OpDecodesSaid : Prop := opDecodesRow.holds Tryd.pinned (OpenSpec.ofChange opDecodesSpec)

/-- ITS FALSE NEIGHBOUR: 'it returns false'. Refute it at one input. -/
def opDecodesWrong : ChangeSpec := { name := "opDecodes", fn := fun _ => fun
  | [d] => { results := [.lit (.bool false)], args := [d] }
  | _ => none }
def OpDecodesWrongFalsely : Prop := opDecodesRow.holds Tryd.pinned (OpenSpec.ofChange opDecodesWrong)

/-- 'escheatlaw06.OpBack': WHATEVER THE INPUT: true; the input reads as it did. -/
def opBackSpec : ChangeSpec := { name := "opBack", fn := fun _ => fun
  | [d1, d2] => { results := [.lit (.bool true)], args := [d1, d2] }
  | _ => none }
def opBackRow : OpenClaim := { program := "ytlffcilgmockmaadoor", sum := "57fc5d74df08dcf2e050fec08551859188205c612d031abcc160a1b007e7eec2", func := "escheat/escheatlaw06.OpBack", spec := "opBack", inPlace := ["internal/bytealg.IndexByteString", "internal/abi.NoEscape"], unfollowed := true, recurses := true, named := ["escheat/op.fields"], apart := false, laid := [("escheat/op.fields", laid_escheat_op_fields)] }
def OpBackSaid : Prop := opBackRow.holds Tryd.pinned (OpenSpec.ofChange opBackSpec)

/-- ITS FALSE NEIGHBOUR: 'it returns false'. Refute it at one input. -/
def opBackWrong : ChangeSpec := { name := "opBack", fn := fun _ => fun
  | [d1, d2] => { results := [.lit (.bool false)], args := [d1, d2] }
  | _ => none }
def OpBackWrongFalsely : Prop := opBackRow.holds Tryd.pinned (OpenSpec.ofChange opBackWrong)

/-- 'escheatlaw06.OpSames': WHATEVER THE INPUT: true; the input reads as it did. -/
def opSamesSpec : ChangeSpec := { name := "opSames", fn := fun _ => fun
  | [d1, d2] => { results := [.lit (.bool true)], args := [d1, d2] }
  | _ => none }
def opSamesRow : OpenClaim := { program := "ytlffcilgmockmaadoor", sum := "57fc5d74df08dcf2e050fec08551859188205c612d031abcc160a1b007e7eec2", func := "escheat/escheatlaw06.OpSames", spec := "opSames", inPlace := ["internal/bytealg.IndexByteString", "internal/abi.NoEscape"], unfollowed := true, recurses := true, named := ["escheat/op.fields"], apart := false, laid := [("escheat/op.fields", laid_escheat_op_fields)] }
def OpSamesSaid : Prop := opSamesRow.holds Tryd.pinned (OpenSpec.ofChange opSamesSpec)

/-- ITS FALSE NEIGHBOUR: 'it returns false'. Refute it at one input. -/
def opSamesWrong : ChangeSpec := { name := "opSames", fn := fun _ => fun
  | [d1, d2] => { results := [.lit (.bool false)], args := [d1, d2] }
  | _ => none }
def OpSamesWrongFalsely : Prop := opSamesRow.holds Tryd.pinned (OpenSpec.ofChange opSamesWrong)

/-- 'escheatlaw06.OpOthers': WHATEVER THE INPUT: true; the input reads as it did. -/
def opOthersSpec : ChangeSpec := { name := "opOthers", fn := fun _ => fun
  | [d1, d2] => { results := [.lit (.bool true)], args := [d1, d2] }
  | _ => none }
def opOthersRow : OpenClaim := { program := "ytlffcilgmockmaadoor", sum := "57fc5d74df08dcf2e050fec08551859188205c612d031abcc160a1b007e7eec2", func := "escheat/escheatlaw06.OpOthers", spec := "opOthers", inPlace := ["internal/bytealg.IndexByteString", "internal/abi.NoEscape"], unfollowed := true, recurses := true, named := ["escheat/op.fields"], apart := false, laid := [("escheat/op.fields", laid_escheat_op_fields)] }
def OpOthersSaid : Prop := opOthersRow.holds Tryd.pinned (OpenSpec.ofChange opOthersSpec)

/-- ITS FALSE NEIGHBOUR: 'it returns false'. Refute it at one input. -/
def opOthersWrong : ChangeSpec := { name := "opOthers", fn := fun _ => fun
  | [d1, d2] => { results := [.lit (.bool false)], args := [d1, d2] }
  | _ => none }
def OpOthersWrongFalsely : Prop := opOthersRow.holds Tryd.pinned (OpenSpec.ofChange opOthersWrong)

/- THE SECOND FORM. 'bulk': how many values and letters a reading holds, each counted each time it is reached (what is shared counts as often as it is met; a slice's spare places count too). A statement '..UptoSaid' is the law's where the arguments, and the package variables that the reading takes, are together of bulk at most 1048576: NARROWER than '..Said'. Prove '..Said' where nothing that the law and all that it calls make is longer than what came in: it says more and counts as full. Else prove '..UptoSaid'. A law counts once. -/
mutual
def uptoBulk {H : Type} : DataW H → Nat
  | .lit (.string bytes) => bytes.length + 1
  | .lit _ => 1
  | .nil => 1
  | .ptr d => uptoBulk d + 1
  | .slice elems spare => uptoBulkAll elems + uptoBulkAll spare + 1
  | .agg parts => uptoBulkAll parts + 1
  | .iface _ d => uptoBulk d + 1
  | .map entries => uptoBulkEntries entries + 1
  | .held _ => 1
def uptoBulkAll {H : Type} : List (DataW H) → Nat
  | [] => 0
  | d :: r => uptoBulk d + uptoBulkAll r
def uptoBulkEntries {H : Type} : List (Lit × DataW H) → Nat
  | [] => 0
  | x :: r => uptoBulkEntry x + uptoBulkEntries r
def uptoBulkEntry {H : Type} : Lit × DataW H → Nat
  | (.string bytes, d) => bytes.length + uptoBulk d + 1
  | (_, d) => uptoBulk d + 1
 end
def uptoSmall : (H : Type) → List (DataW H) → Bool := fun _ ds => decide (uptoBulkAll ds ≤ 1048576)
def OpenSpec.upto (s : _root_.Go.ChangeSpec) : _root_.Go.OpenSpec := { _root_.Go.OpenSpec.ofChange s with cond := some uptoSmall }

/-- 'escheatlaw06.OpEncodes', WHERE WHAT IT READS IS OF BULK AT MOST 1048576: true; the input reads as it did. -/
def opEncodesUptoRow : OpenClaim := { program := "ytlffcilgmockmaadoor", sum := "57fc5d74df08dcf2e050fec08551859188205c612d031abcc160a1b007e7eec2", func := "escheat/escheatlaw06.OpEncodes", spec := "opEncodes", inPlace := ["internal/bytealg.IndexByteString", "internal/abi.NoEscape"], unfollowed := true, recurses := true, named := ["escheat/op.fields"], apart := false, laid := [("escheat/op.fields", laid_escheat_op_fields)], narrowed := true }
def OpEncodesUptoSaid : Prop := opEncodesUptoRow.holds Tryd.pinned (OpenSpec.upto opEncodesSpec)

/-- 'escheatlaw06.OpDecodes', WHERE WHAT IT READS IS OF BULK AT MOST 1048576: true; the input reads as it did. -/
def opDecodesUptoRow : OpenClaim := { program := "ytlffcilgmockmaadoor", sum := "57fc5d74df08dcf2e050fec08551859188205c612d031abcc160a1b007e7eec2", func := "escheat/escheatlaw06.OpDecodes", spec := "opDecodes", inPlace := ["internal/bytealg.IndexByteString", "internal/abi.NoEscape"], unfollowed := true, recurses := true, named := ["escheat/op.fields"], apart := false, laid := [("escheat/op.fields", laid_escheat_op_fields)], narrowed := true }
def OpDecodesUptoSaid : Prop := opDecodesUptoRow.holds Tryd.pinned (OpenSpec.upto opDecodesSpec)

/-- 'escheatlaw06.OpBack', WHERE WHAT IT READS IS OF BULK AT MOST 1048576: true; the input reads as it did. -/
def opBackUptoRow : OpenClaim := { program := "ytlffcilgmockmaadoor", sum := "57fc5d74df08dcf2e050fec08551859188205c612d031abcc160a1b007e7eec2", func := "escheat/escheatlaw06.OpBack", spec := "opBack", inPlace := ["internal/bytealg.IndexByteString", "internal/abi.NoEscape"], unfollowed := true, recurses := true, named := ["escheat/op.fields"], apart := false, laid := [("escheat/op.fields", laid_escheat_op_fields)], narrowed := true }
def OpBackUptoSaid : Prop := opBackUptoRow.holds Tryd.pinned (OpenSpec.upto opBackSpec)

/-- 'escheatlaw06.OpSames', WHERE WHAT IT READS IS OF BULK AT MOST 1048576: true; the input reads as it did. -/
def opSamesUptoRow : OpenClaim := { program := "ytlffcilgmockmaadoor", sum := "57fc5d74df08dcf2e050fec08551859188205c612d031abcc160a1b007e7eec2", func := "escheat/escheatlaw06.OpSames", spec := "opSames", inPlace := ["internal/bytealg.IndexByteString", "internal/abi.NoEscape"], unfollowed := true, recurses := true, named := ["escheat/op.fields"], apart := false, laid := [("escheat/op.fields", laid_escheat_op_fields)], narrowed := true }
def OpSamesUptoSaid : Prop := opSamesUptoRow.holds Tryd.pinned (OpenSpec.upto opSamesSpec)

/-- 'escheatlaw06.OpOthers', WHERE WHAT IT READS IS OF BULK AT MOST 1048576: true; the input reads as it did. -/
def opOthersUptoRow : OpenClaim := { program := "ytlffcilgmockmaadoor", sum := "57fc5d74df08dcf2e050fec08551859188205c612d031abcc160a1b007e7eec2", func := "escheat/escheatlaw06.OpOthers", spec := "opOthers", inPlace := ["internal/bytealg.IndexByteString", "internal/abi.NoEscape"], unfollowed := true, recurses := true, named := ["escheat/op.fields"], apart := false, laid := [("escheat/op.fields", laid_escheat_op_fields)], narrowed := true }
def OpOthersUptoSaid : Prop := opOthersUptoRow.holds Tryd.pinned (OpenSpec.upto opOthersSpec)

end Rows
end Go.Proofs.YtlffcilgmockmaaDoor
