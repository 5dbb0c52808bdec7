/-
  No cell of these rows narrows 'for every input' (looked for: loops, veiled, ifaces, maps, wideKeys, modest, calm, conditions, laid).
  DERIVED. THE GIVEN ROWS OF THIS SEAT. 7 by the template 'for every input the law returns true; each argument reads behind the call as it read before'; 0 by the template 'total and deterministic' (their statements: YtlegggefgjlkbaaTotals.lean).
  GIVEN WITH THE SEED: the statements are not yours to turn. If you find one false, say at which input.
  Laid BY PROGRAM, IN A SANDBOX (cutbox-rows.mjs): the forced cells as the released guide's own fill.sh prints them over the translation b746694617450ce9… (all of the seat's roots in one cut). By AI agents, Wed Nov 11 2026. No macro, syntax, notation, axiom, sorry.
-/
import Derived.Test.YtlegggefgjlkbaaChecked
import GoSem.Claim
import GoSem.ClaimJoined
import GoSem.ClaimMapViews
import Derived.JoinedTies
import Derived.KernelRfl
namespace Go.Proofs.Ytlegggefgjlkbaa
/- THE CELL 'sum', in the pinned program and in every row, IS THE sha256 OF THE DUMP (.gsa) THAT YtlegggefgjlkbaaProg.lean LOADS. Nothing in Lean hashes anything: it is a label: what it is worth is what the hold of that sum in a sandbox is worth. -/
noncomputable def Try.pinned : Pinned := { name := "ytlegggefgjlkbaa", sum := "b746694617450ce9051bec48b34fa434f900a8a2c04294516cf9f101ed45b6d1", checked := Try.checked }
namespace Rows
def none {H : Type} : Left H := { results := [], args := [] }

/-- 'escheatlaw01.ShiftBytes': WHATEVER THE INPUT: true; the input reads as it did. -/
def shiftBytesSpec : ChangeSpec := { name := "shiftBytes", fn := fun _ => fun
  | [d1, d2, d3] => { results := [.lit (.bool true)], args := [d1, d2, d3] }
  | _ => none }
def shiftBytesRow : OpenClaim := { program := "ytlegggefgjlkbaa", sum := "b746694617450ce9051bec48b34fa434f900a8a2c04294516cf9f101ed45b6d1", func := "escheat/escheatlaw01.ShiftBytes", spec := "shiftBytes", apart := false }
def ShiftBytesSaid : Prop := shiftBytesRow.holds Try.pinned (OpenSpec.ofChange shiftBytesSpec)

/-- ITS FALSE NEIGHBOUR: 'it returns false'. Refute it at one input. -/
def shiftBytesWrong : ChangeSpec := { name := "shiftBytes", fn := fun _ => fun
  | [d1, d2, d3] => { results := [.lit (.bool false)], args := [d1, d2, d3] }
  | _ => none }
def ShiftBytesWrongFalsely : Prop := shiftBytesRow.holds Try.pinned (OpenSpec.ofChange shiftBytesWrong)

/-- 'escheatlaw01.ShiftSigns': WHATEVER THE INPUT: true; the input reads as it did. -/
def shiftSignsSpec : ChangeSpec := { name := "shiftSigns", fn := fun _ => fun
  | [d1, d2, d3] => { results := [.lit (.bool true)], args := [d1, d2, d3] }
  | _ => none }
def shiftSignsRow : OpenClaim := { program := "ytlegggefgjlkbaa", sum := "b746694617450ce9051bec48b34fa434f900a8a2c04294516cf9f101ed45b6d1", func := "escheat/escheatlaw01.ShiftSigns", spec := "shiftSigns", apart := false }
def ShiftSignsSaid : Prop := shiftSignsRow.holds Try.pinned (OpenSpec.ofChange shiftSignsSpec)

/-- ITS FALSE NEIGHBOUR: 'it returns false'. Refute it at one input. -/
def shiftSignsWrong : ChangeSpec := { name := "shiftSigns", fn := fun _ => fun
  | [d1, d2, d3] => { results := [.lit (.bool false)], args := [d1, d2, d3] }
  | _ => none }
def ShiftSignsWrongFalsely : Prop := shiftSignsRow.holds Try.pinned (OpenSpec.ofChange shiftSignsWrong)

/-- 'escheatlaw01.ShiftTurns': WHATEVER THE INPUT: true; the input reads as it did. -/
def shiftTurnsSpec : ChangeSpec := { name := "shiftTurns", fn := fun _ => fun
  | [d1, d2, d3] => { results := [.lit (.bool true)], args := [d1, d2, d3] }
  | _ => none }
def shiftTurnsRow : OpenClaim := { program := "ytlegggefgjlkbaa", sum := "b746694617450ce9051bec48b34fa434f900a8a2c04294516cf9f101ed45b6d1", func := "escheat/escheatlaw01.ShiftTurns", spec := "shiftTurns", apart := false }
def ShiftTurnsSaid : Prop := shiftTurnsRow.holds Try.pinned (OpenSpec.ofChange shiftTurnsSpec)

/-- ITS FALSE NEIGHBOUR: 'it returns false'. Refute it at one input. -/
def shiftTurnsWrong : ChangeSpec := { name := "shiftTurns", fn := fun _ => fun
  | [d1, d2, d3] => { results := [.lit (.bool false)], args := [d1, d2, d3] }
  | _ => none }
def ShiftTurnsWrongFalsely : Prop := shiftTurnsRow.holds Try.pinned (OpenSpec.ofChange shiftTurnsWrong)

/-- 'escheatlaw01.ShiftFits': WHATEVER THE INPUT: true; the input reads as it did. -/
def shiftFitsSpec : ChangeSpec := { name := "shiftFits", fn := fun _ => fun
  | [d1, d2] => { results := [.lit (.bool true)], args := [d1, d2] }
  | _ => none }
def shiftFitsRow : OpenClaim := { program := "ytlegggefgjlkbaa", sum := "b746694617450ce9051bec48b34fa434f900a8a2c04294516cf9f101ed45b6d1", func := "escheat/escheatlaw01.ShiftFits", spec := "shiftFits", apart := false }
def ShiftFitsSaid : Prop := shiftFitsRow.holds Try.pinned (OpenSpec.ofChange shiftFitsSpec)

/-- ITS FALSE NEIGHBOUR: 'it returns false'. Refute it at one input. -/
def shiftFitsWrong : ChangeSpec := { name := "shiftFits", fn := fun _ => fun
  | [d1, d2] => { results := [.lit (.bool false)], args := [d1, d2] }
  | _ => none }
def ShiftFitsWrongFalsely : Prop := shiftFitsRow.holds Try.pinned (OpenSpec.ofChange shiftFitsWrong)

/-- 'escheatlaw01.ShiftFields': WHATEVER THE INPUT: true; the input reads as it did. -/
def shiftFieldsSpec : ChangeSpec := { name := "shiftFields", fn := fun _ => fun
  | [d1, d2, d3] => { results := [.lit (.bool true)], args := [d1, d2, d3] }
  | _ => none }
def shiftFieldsRow : OpenClaim := { program := "ytlegggefgjlkbaa", sum := "b746694617450ce9051bec48b34fa434f900a8a2c04294516cf9f101ed45b6d1", func := "escheat/escheatlaw01.ShiftFields", spec := "shiftFields", apart := false }
def ShiftFieldsSaid : Prop := shiftFieldsRow.holds Try.pinned (OpenSpec.ofChange shiftFieldsSpec)

/-- ITS FALSE NEIGHBOUR: 'it returns false'. Refute it at one input. -/
def shiftFieldsWrong : ChangeSpec := { name := "shiftFields", fn := fun _ => fun
  | [d1, d2, d3] => { results := [.lit (.bool false)], args := [d1, d2, d3] }
  | _ => none }
def ShiftFieldsWrongFalsely : Prop := shiftFieldsRow.holds Try.pinned (OpenSpec.ofChange shiftFieldsWrong)

/-- 'escheatlaw01.ShiftBack': WHATEVER THE INPUT: true; the input reads as it did. -/
def shiftBackSpec : ChangeSpec := { name := "shiftBack", fn := fun _ => fun
  | [d1, d2, d3] => { results := [.lit (.bool true)], args := [d1, d2, d3] }
  | _ => none }
def shiftBackRow : OpenClaim := { program := "ytlegggefgjlkbaa", sum := "b746694617450ce9051bec48b34fa434f900a8a2c04294516cf9f101ed45b6d1", func := "escheat/escheatlaw01.ShiftBack", spec := "shiftBack", apart := false }
def ShiftBackSaid : Prop := shiftBackRow.holds Try.pinned (OpenSpec.ofChange shiftBackSpec)

/-- ITS FALSE NEIGHBOUR: 'it returns false'. Refute it at one input. -/
def shiftBackWrong : ChangeSpec := { name := "shiftBack", fn := fun _ => fun
  | [d1, d2, d3] => { results := [.lit (.bool false)], args := [d1, d2, d3] }
  | _ => none }
def ShiftBackWrongFalsely : Prop := shiftBackRow.holds Try.pinned (OpenSpec.ofChange shiftBackWrong)

/-- 'escheatlaw01.ShiftHalves': WHATEVER THE INPUT: true; the input reads as it did. -/
def shiftHalvesSpec : ChangeSpec := { name := "shiftHalves", fn := fun _ => fun
  | [d1, d2] => { results := [.lit (.bool true)], args := [d1, d2] }
  | _ => none }
def shiftHalvesRow : OpenClaim := { program := "ytlegggefgjlkbaa", sum := "b746694617450ce9051bec48b34fa434f900a8a2c04294516cf9f101ed45b6d1", func := "escheat/escheatlaw01.ShiftHalves", spec := "shiftHalves", apart := false }
def ShiftHalvesSaid : Prop := shiftHalvesRow.holds Try.pinned (OpenSpec.ofChange shiftHalvesSpec)

/-- ITS FALSE NEIGHBOUR: 'it returns false'. Refute it at one input. -/
def shiftHalvesWrong : ChangeSpec := { name := "shiftHalves", fn := fun _ => fun
  | [d1, d2] => { results := [.lit (.bool false)], args := [d1, d2] }
  | _ => none }
def ShiftHalvesWrongFalsely : Prop := shiftHalvesRow.holds Try.pinned (OpenSpec.ofChange shiftHalvesWrong)

/- THE SECOND FORM. 'bulk': how many values and letters a reading holds, each counted each time it is reached (what is shared counts as often as it is met; a slice's spare places count too). A statement '..UptoSaid' is the law's where the arguments, and the package variables that the reading takes, are together of bulk at most 1048576: NARROWER than '..Said'. Prove '..Said' where nothing that the law and all that it calls make is longer than what came in: it says more and counts as full. Else prove '..UptoSaid'. A law counts once. -/
mutual
def uptoBulk {H : Type} : DataW H → Nat
  | .lit (.string bytes) => bytes.length + 1
  | .lit _ => 1
  | .nil => 1
  | .ptr d => uptoBulk d + 1
  | .slice elems spare => uptoBulkAll elems + uptoBulkAll spare + 1
  | .agg parts => uptoBulkAll parts + 1
  | .iface _ d => uptoBulk d + 1
  | .map entries => uptoBulkEntries entries + 1
  | .held _ => 1
def uptoBulkAll {H : Type} : List (DataW H) → Nat
  | [] => 0
  | d :: r => uptoBulk d + uptoBulkAll r
def uptoBulkEntries {H : Type} : List (Lit × DataW H) → Nat
  | [] => 0
  | x :: r => uptoBulkEntry x + uptoBulkEntries r
def uptoBulkEntry {H : Type} : Lit × DataW H → Nat
  | (.string bytes, d) => bytes.length + uptoBulk d + 1
  | (_, d) => uptoBulk d + 1
 end
def uptoSmall : (H : Type) → List (DataW H) → Bool := fun _ ds => decide (uptoBulkAll ds ≤ 1048576)
def OpenSpec.upto (s : _root_.Go.ChangeSpec) : _root_.Go.OpenSpec := { _root_.Go.OpenSpec.ofChange s with cond := some uptoSmall }

/-- 'escheatlaw01.ShiftBytes', WHERE WHAT IT READS IS OF BULK AT MOST 1048576: true; the input reads as it did. -/
def shiftBytesUptoRow : OpenClaim := { program := "ytlegggefgjlkbaa", sum := "b746694617450ce9051bec48b34fa434f900a8a2c04294516cf9f101ed45b6d1", func := "escheat/escheatlaw01.ShiftBytes", spec := "shiftBytes", apart := false, narrowed := true }
def ShiftBytesUptoSaid : Prop := shiftBytesUptoRow.holds Try.pinned (OpenSpec.upto shiftBytesSpec)

/-- 'escheatlaw01.ShiftSigns', WHERE WHAT IT READS IS OF BULK AT MOST 1048576: true; the input reads as it did. -/
def shiftSignsUptoRow : OpenClaim := { program := "ytlegggefgjlkbaa", sum := "b746694617450ce9051bec48b34fa434f900a8a2c04294516cf9f101ed45b6d1", func := "escheat/escheatlaw01.ShiftSigns", spec := "shiftSigns", apart := false, narrowed := true }
def ShiftSignsUptoSaid : Prop := shiftSignsUptoRow.holds Try.pinned (OpenSpec.upto shiftSignsSpec)

/-- 'escheatlaw01.ShiftTurns', WHERE WHAT IT READS IS OF BULK AT MOST 1048576: true; the input reads as it did. -/
def shiftTurnsUptoRow : OpenClaim := { program := "ytlegggefgjlkbaa", sum := "b746694617450ce9051bec48b34fa434f900a8a2c04294516cf9f101ed45b6d1", func := "escheat/escheatlaw01.ShiftTurns", spec := "shiftTurns", apart := false, narrowed := true }
def ShiftTurnsUptoSaid : Prop := shiftTurnsUptoRow.holds Try.pinned (OpenSpec.upto shiftTurnsSpec)

/-- 'escheatlaw01.ShiftFits', WHERE WHAT IT READS IS OF BULK AT MOST 1048576: true; the input reads as it did. -/
def shiftFitsUptoRow : OpenClaim := { program := "ytlegggefgjlkbaa", sum := "b746694617450ce9051bec48b34fa434f900a8a2c04294516cf9f101ed45b6d1", func := "escheat/escheatlaw01.ShiftFits", spec := "shiftFits", apart := false, narrowed := true }
def ShiftFitsUptoSaid : Prop := shiftFitsUptoRow.holds Try.pinned (OpenSpec.upto shiftFitsSpec)

/-- 'escheatlaw01.ShiftFields', WHERE WHAT IT READS IS OF BULK AT MOST 1048576: true; the input reads as it did. -/
def shiftFieldsUptoRow : OpenClaim := { program := "ytlegggefgjlkbaa", sum := "b746694617450ce9051bec48b34fa434f900a8a2c04294516cf9f101ed45b6d1", func := "escheat/escheatlaw01.ShiftFields", spec := "shiftFields", apart := false, narrowed := true }
def ShiftFieldsUptoSaid : Prop := shiftFieldsUptoRow.holds Try.pinned (OpenSpec.upto shiftFieldsSpec)

/-- 'escheatlaw01.ShiftBack', WHERE WHAT IT READS IS OF BULK AT MOST 1048576: true; the input reads as it did. -/
def shiftBackUptoRow : OpenClaim := { program := "ytlegggefgjlkbaa", sum := "b746694617450ce9051bec48b34fa434f900a8a2c04294516cf9f101ed45b6d1", func := "escheat/escheatlaw01.ShiftBack", spec := "shiftBack", apart := false, narrowed := true }
def ShiftBackUptoSaid : Prop := shiftBackUptoRow.holds Try.pinned (OpenSpec.upto shiftBackSpec)

/-- 'escheatlaw01.ShiftHalves', WHERE WHAT IT READS IS OF BULK AT MOST 1048576: true; the input reads as it did. -/
def shiftHalvesUptoRow : OpenClaim := { program := "ytlegggefgjlkbaa", sum := "b746694617450ce9051bec48b34fa434f900a8a2c04294516cf9f101ed45b6d1", func := "escheat/escheatlaw01.ShiftHalves", spec := "shiftHalves", apart := false, narrowed := true }
def ShiftHalvesUptoSaid : Prop := shiftHalvesUptoRow.holds Try.pinned (OpenSpec.upto shiftHalvesSpec)

end Rows
end Go.Proofs.Ytlegggefgjlkbaa
