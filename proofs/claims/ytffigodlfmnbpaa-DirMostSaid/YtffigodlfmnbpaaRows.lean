/-
  No cell of these rows narrows 'for every input' (looked for: loops, veiled, ifaces, maps, wideKeys, modest, calm, conditions, laid).
  DERIVED. THE GIVEN ROWS OF THIS SEAT. 4 by the template 'for every input the law returns true; each argument reads behind the call as it read before'; 0 by the template 'total and deterministic' (their statements: YtffigodlfmnbpaaTotals.lean).
  GIVEN WITH THE SEED: the statements are not yours to turn. If you find one false, say at which input.
  Laid BY PROGRAM, IN A SANDBOX (cutbox-rows.mjs): the forced cells as the released guide's own fill.sh prints them over the translation 13084607fa874858… (all of the seat's roots in one cut). By AI agents, Wed Nov 11 2026. No macro, syntax, notation, axiom, sorry.
-/
import Derived.Test.YtffigodlfmnbpaaChecked
import GoSem.Claim
import GoSem.ClaimJoined
import GoSem.ClaimMapViews
import Derived.JoinedTies
import Derived.KernelRfl
namespace Go.Proofs.Ytffigodlfmnbpaa
/- THE CELL 'sum', in the pinned program and in every row, IS THE sha256 OF THE DUMP (.gsa) THAT YtffigodlfmnbpaaProg.lean LOADS. Nothing in Lean hashes anything: it is a label: what it is worth is what the hold of that sum in a sandbox is worth. -/
noncomputable def Try.pinned : Pinned := { name := "ytffigodlfmnbpaa", sum := "13084607fa87485815cb94f4f49afa4eebd0e98eaaebc0f30cdb95426f10c851", checked := Try.checked }
namespace Rows
def none {H : Type} : Left H := { results := [], args := [] }

/-- 'escheatlaw21.DirLast': WHATEVER THE INPUT: true; the input reads as it did. -/
def dirLastSpec : ChangeSpec := { name := "dirLast", fn := fun _ => fun
  | [d1, d2] => { results := [.lit (.bool true)], args := [d1, d2] }
  | _ => none }
def dirLastRow : OpenClaim := { program := "ytffigodlfmnbpaa", sum := "13084607fa87485815cb94f4f49afa4eebd0e98eaaebc0f30cdb95426f10c851", func := "escheat/escheatlaw21.DirLast", spec := "dirLast", unfollowed := true, recurses := true, plainKeys := false, apart := false }
def DirLastSaid : Prop := dirLastRow.holds Try.pinned (OpenSpec.ofChange dirLastSpec)

/-- ITS FALSE NEIGHBOUR: 'it returns false'. Refute it at one input. -/
def dirLastWrong : ChangeSpec := { name := "dirLast", fn := fun _ => fun
  | [d1, d2] => { results := [.lit (.bool false)], args := [d1, d2] }
  | _ => none }
def DirLastWrongFalsely : Prop := dirLastRow.holds Try.pinned (OpenSpec.ofChange dirLastWrong)

/-- 'escheatlaw21.DirMost': WHATEVER THE INPUT: true; the input reads as it did. -/
def dirMostSpec : ChangeSpec := { name := "dirMost", fn := fun _ => fun
  | [d] => { results := [.lit (.bool true)], args := [d] }
  | _ => none }
def dirMostRow : OpenClaim := { program := "ytffigodlfmnbpaa", sum := "13084607fa87485815cb94f4f49afa4eebd0e98eaaebc0f30cdb95426f10c851", func := "escheat/escheatlaw21.DirMost", spec := "dirMost", unfollowed := true, recurses := true, plainKeys := false, apart := false }
def DirMostSaid : Prop := dirMostRow.holds Try.pinned (OpenSpec.ofChange dirMostSpec)

/-- ITS FALSE NEIGHBOUR: 'it returns false'. Refute it at one input. -/
def dirMostWrong : ChangeSpec := { name := "dirMost", fn := fun _ => fun
  | [d] => { results := [.lit (.bool false)], args := [d] }
  | _ => none }
def DirMostWrongFalsely : Prop := dirMostRow.holds Try.pinned (OpenSpec.ofChange dirMostWrong)

/-- 'escheatlaw21.DirPlays': WHATEVER THE INPUT: true; the input reads as it did. -/
def dirPlaysSpec : ChangeSpec := { name := "dirPlays", fn := fun _ => fun
  | [d] => { results := [.lit (.bool true)], args := [d] }
  | _ => none }
def dirPlaysRow : OpenClaim := { program := "ytffigodlfmnbpaa", sum := "13084607fa87485815cb94f4f49afa4eebd0e98eaaebc0f30cdb95426f10c851", func := "escheat/escheatlaw21.DirPlays", spec := "dirPlays", unfollowed := true, recurses := true, plainKeys := false, apart := false }
def DirPlaysSaid : Prop := dirPlaysRow.holds Try.pinned (OpenSpec.ofChange dirPlaysSpec)

/-- ITS FALSE NEIGHBOUR: 'it returns false'. Refute it at one input. -/
def dirPlaysWrong : ChangeSpec := { name := "dirPlays", fn := fun _ => fun
  | [d] => { results := [.lit (.bool false)], args := [d] }
  | _ => none }
def DirPlaysWrongFalsely : Prop := dirPlaysRow.holds Try.pinned (OpenSpec.ofChange dirPlaysWrong)

/-- 'escheatlaw21.DirNone': WHATEVER THE INPUT: true; the input reads as it did. -/
def dirNoneSpec : ChangeSpec := { name := "dirNone", fn := fun _ => fun
  | [d] => { results := [.lit (.bool true)], args := [d] }
  | _ => none }
def dirNoneRow : OpenClaim := { program := "ytffigodlfmnbpaa", sum := "13084607fa87485815cb94f4f49afa4eebd0e98eaaebc0f30cdb95426f10c851", func := "escheat/escheatlaw21.DirNone", spec := "dirNone", unfollowed := true, recurses := true, plainKeys := false, apart := false }
def DirNoneSaid : Prop := dirNoneRow.holds Try.pinned (OpenSpec.ofChange dirNoneSpec)

/-- ITS FALSE NEIGHBOUR: 'it returns false'. Refute it at one input. -/
def dirNoneWrong : ChangeSpec := { name := "dirNone", fn := fun _ => fun
  | [d] => { results := [.lit (.bool false)], args := [d] }
  | _ => none }
def DirNoneWrongFalsely : Prop := dirNoneRow.holds Try.pinned (OpenSpec.ofChange dirNoneWrong)

/- THE SECOND FORM. 'bulk': how many values and letters a reading holds, each counted each time it is reached (what is shared counts as often as it is met; a slice's spare places count too). A statement '..UptoSaid' is the law's where the arguments, and the package variables that the reading takes, are together of bulk at most 1048576: NARROWER than '..Said'. Prove '..Said' where nothing that the law and all that it calls make is longer than what came in: it says more and counts as full. Else prove '..UptoSaid'. A law counts once. -/
mutual
def uptoBulk {H : Type} : DataW H → Nat
  | .lit (.string bytes) => bytes.length + 1
  | .lit _ => 1
  | .nil => 1
  | .ptr d => uptoBulk d + 1
  | .slice elems spare => uptoBulkAll elems + uptoBulkAll spare + 1
  | .agg parts => uptoBulkAll parts + 1
  | .iface _ d => uptoBulk d + 1
  | .map entries => uptoBulkEntries entries + 1
  | .held _ => 1
def uptoBulkAll {H : Type} : List (DataW H) → Nat
  | [] => 0
  | d :: r => uptoBulk d + uptoBulkAll r
def uptoBulkEntries {H : Type} : List (Lit × DataW H) → Nat
  | [] => 0
  | x :: r => uptoBulkEntry x + uptoBulkEntries r
def uptoBulkEntry {H : Type} : Lit × DataW H → Nat
  | (.string bytes, d) => bytes.length + uptoBulk d + 1
  | (_, d) => uptoBulk d + 1
 end
def uptoSmall : (H : Type) → List (DataW H) → Bool := fun _ ds => decide (uptoBulkAll ds ≤ 1048576)
def OpenSpec.upto (s : _root_.Go.ChangeSpec) : _root_.Go.OpenSpec := { _root_.Go.OpenSpec.ofChange s with cond := some uptoSmall }

/-- 'escheatlaw21.DirLast', WHERE WHAT IT READS IS OF BULK AT MOST 1048576: true; the input reads as it did. -/
def dirLastUptoRow : OpenClaim := { program := "ytffigodlfmnbpaa", sum := "13084607fa87485815cb94f4f49afa4eebd0e98eaaebc0f30cdb95426f10c851", func := "escheat/escheatlaw21.DirLast", spec := "dirLast", unfollowed := true, recurses := true, plainKeys := false, apart := false, narrowed := true }
def DirLastUptoSaid : Prop := dirLastUptoRow.holds Try.pinned (OpenSpec.upto dirLastSpec)

/-- 'escheatlaw21.DirMost', WHERE WHAT IT READS IS OF BULK AT MOST 1048576: true; the input reads as it did. -/
def dirMostUptoRow : OpenClaim := { program := "ytffigodlfmnbpaa", sum := "13084607fa87485815cb94f4f49afa4eebd0e98eaaebc0f30cdb95426f10c851", func := "escheat/escheatlaw21.DirMost", spec := "dirMost", unfollowed := true, recurses := true, plainKeys := false, apart := false, narrowed := true }
def DirMostUptoSaid : Prop := dirMostUptoRow.holds Try.pinned (OpenSpec.upto dirMostSpec)

/-- 'escheatlaw21.DirPlays', WHERE WHAT IT READS IS OF BULK AT MOST 1048576: true; the input reads as it did. -/
def dirPlaysUptoRow : OpenClaim := { program := "ytffigodlfmnbpaa", sum := "13084607fa87485815cb94f4f49afa4eebd0e98eaaebc0f30cdb95426f10c851", func := "escheat/escheatlaw21.DirPlays", spec := "dirPlays", unfollowed := true, recurses := true, plainKeys := false, apart := false, narrowed := true }
def DirPlaysUptoSaid : Prop := dirPlaysUptoRow.holds Try.pinned (OpenSpec.upto dirPlaysSpec)

/-- 'escheatlaw21.DirNone', WHERE WHAT IT READS IS OF BULK AT MOST 1048576: true; the input reads as it did. -/
def dirNoneUptoRow : OpenClaim := { program := "ytffigodlfmnbpaa", sum := "13084607fa87485815cb94f4f49afa4eebd0e98eaaebc0f30cdb95426f10c851", func := "escheat/escheatlaw21.DirNone", spec := "dirNone", unfollowed := true, recurses := true, plainKeys := false, apart := false, narrowed := true }
def DirNoneUptoSaid : Prop := dirNoneUptoRow.holds Try.pinned (OpenSpec.upto dirNoneSpec)

end Rows
end Go.Proofs.Ytffigodlfmnbpaa
