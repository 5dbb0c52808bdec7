/-
  No cell of these rows narrows 'for every input' (looked for: loops, veiled, ifaces, maps, wideKeys, modest, calm, conditions, laid).
  DERIVED. THE GIVEN ROWS OF THIS SEAT. 4 by the template 'for every input the law returns true; each argument reads behind the call as it read before'; 0 by the template 'total and deterministic' (their statements: YtjfdbcmmmoipcaaTotals.lean).
  GIVEN WITH THE SEED: the statements are not yours to turn. If you find one false, say at which input.
  Laid BY PROGRAM, IN A SANDBOX (cutbox-rows.mjs): the forced cells as the released guide's own fill.sh prints them over the translation f83a987697cef6bf… (all of the seat's roots in one cut). By AI agents, Wed Nov 11 2026. No macro, syntax, notation, axiom, sorry.
-/
import Derived.Test.YtjfdbcmmmoipcaaChecked
import GoSem.Claim
import GoSem.ClaimJoined
import GoSem.ClaimMapViews
import Derived.JoinedTies
import Derived.KernelRfl
namespace Go.Proofs.Ytjfdbcmmmoipcaa
/- THE CELL 'sum', in the pinned program and in every row, IS THE sha256 OF THE DUMP (.gsa) THAT YtjfdbcmmmoipcaaProg.lean LOADS. Nothing in Lean hashes anything: it is a label: what it is worth is what the hold of that sum in a sandbox is worth. -/
noncomputable def Try.pinned : Pinned := { name := "ytjfdbcmmmoipcaa", sum := "f83a987697cef6bf1549abae5a0a1be7a6ff6552515a362a674a08a07cd845a7", checked := Try.checked }
namespace Rows
def none {H : Type} : Left H := { results := [], args := [] }

/-- 'escheatlaw23.HandleExpires': WHATEVER THE INPUT: true; the input reads as it did. -/
def handleExpiresSpec : ChangeSpec := { name := "handleExpires", fn := fun _ => fun
  | [d1, d2] => { results := [.lit (.bool true)], args := [d1, d2] }
  | _ => none }
def handleExpiresRow : OpenClaim := { program := "ytjfdbcmmmoipcaa", sum := "f83a987697cef6bf1549abae5a0a1be7a6ff6552515a362a674a08a07cd845a7", func := "escheat/escheatlaw23.HandleExpires", spec := "handleExpires", unfollowed := true, recurses := true, plainKeys := false, apart := false }
def HandleExpiresSaid : Prop := handleExpiresRow.holds Try.pinned (OpenSpec.ofChange handleExpiresSpec)

/-- ITS FALSE NEIGHBOUR: 'it returns false'. Refute it at one input. -/
def handleExpiresWrong : ChangeSpec := { name := "handleExpires", fn := fun _ => fun
  | [d1, d2] => { results := [.lit (.bool false)], args := [d1, d2] }
  | _ => none }
def HandleExpiresWrongFalsely : Prop := handleExpiresRow.holds Try.pinned (OpenSpec.ofChange handleExpiresWrong)

/-- 'escheatlaw23.HandleMost': WHATEVER THE INPUT: true; the input reads as it did. -/
def handleMostSpec : ChangeSpec := { name := "handleMost", fn := fun _ => fun
  | [d1, d2] => { results := [.lit (.bool true)], args := [d1, d2] }
  | _ => none }
def handleMostRow : OpenClaim := { program := "ytjfdbcmmmoipcaa", sum := "f83a987697cef6bf1549abae5a0a1be7a6ff6552515a362a674a08a07cd845a7", func := "escheat/escheatlaw23.HandleMost", spec := "handleMost", unfollowed := true, recurses := true, plainKeys := false, apart := false }
def HandleMostSaid : Prop := handleMostRow.holds Try.pinned (OpenSpec.ofChange handleMostSpec)

/-- ITS FALSE NEIGHBOUR: 'it returns false'. Refute it at one input. -/
def handleMostWrong : ChangeSpec := { name := "handleMost", fn := fun _ => fun
  | [d1, d2] => { results := [.lit (.bool false)], args := [d1, d2] }
  | _ => none }
def HandleMostWrongFalsely : Prop := handleMostRow.holds Try.pinned (OpenSpec.ofChange handleMostWrong)

/-- 'escheatlaw23.HandlePlays': WHATEVER THE INPUT: true; the input reads as it did. -/
def handlePlaysSpec : ChangeSpec := { name := "handlePlays", fn := fun _ => fun
  | [d] => { results := [.lit (.bool true)], args := [d] }
  | _ => none }
def handlePlaysRow : OpenClaim := { program := "ytjfdbcmmmoipcaa", sum := "f83a987697cef6bf1549abae5a0a1be7a6ff6552515a362a674a08a07cd845a7", func := "escheat/escheatlaw23.HandlePlays", spec := "handlePlays", unfollowed := true, recurses := true, plainKeys := false, apart := false }
def HandlePlaysSaid : Prop := handlePlaysRow.holds Try.pinned (OpenSpec.ofChange handlePlaysSpec)

/-- ITS FALSE NEIGHBOUR: 'it returns false'. Refute it at one input. -/
def handlePlaysWrong : ChangeSpec := { name := "handlePlays", fn := fun _ => fun
  | [d] => { results := [.lit (.bool false)], args := [d] }
  | _ => none }
def HandlePlaysWrongFalsely : Prop := handlePlaysRow.holds Try.pinned (OpenSpec.ofChange handlePlaysWrong)

/-- 'escheatlaw23.HandleNone': WHATEVER THE INPUT: true; the input reads as it did. -/
def handleNoneSpec : ChangeSpec := { name := "handleNone", fn := fun _ => fun
  | [d] => { results := [.lit (.bool true)], args := [d] }
  | _ => none }
def handleNoneRow : OpenClaim := { program := "ytjfdbcmmmoipcaa", sum := "f83a987697cef6bf1549abae5a0a1be7a6ff6552515a362a674a08a07cd845a7", func := "escheat/escheatlaw23.HandleNone", spec := "handleNone", unfollowed := true, recurses := true, plainKeys := false, apart := false }
def HandleNoneSaid : Prop := handleNoneRow.holds Try.pinned (OpenSpec.ofChange handleNoneSpec)

/-- ITS FALSE NEIGHBOUR: 'it returns false'. Refute it at one input. -/
def handleNoneWrong : ChangeSpec := { name := "handleNone", fn := fun _ => fun
  | [d] => { results := [.lit (.bool false)], args := [d] }
  | _ => none }
def HandleNoneWrongFalsely : Prop := handleNoneRow.holds Try.pinned (OpenSpec.ofChange handleNoneWrong)

/- THE SECOND FORM. 'bulk': how many values and letters a reading holds, each counted each time it is reached (what is shared counts as often as it is met; a slice's spare places count too). A statement '..UptoSaid' is the law's where the arguments, and the package variables that the reading takes, are together of bulk at most 1048576: NARROWER than '..Said'. Prove '..Said' where nothing that the law and all that it calls make is longer than what came in: it says more and counts as full. Else prove '..UptoSaid'. A law counts once. -/
mutual
def uptoBulk {H : Type} : DataW H → Nat
  | .lit (.string bytes) => bytes.length + 1
  | .lit _ => 1
  | .nil => 1
  | .ptr d => uptoBulk d + 1
  | .slice elems spare => uptoBulkAll elems + uptoBulkAll spare + 1
  | .agg parts => uptoBulkAll parts + 1
  | .iface _ d => uptoBulk d + 1
  | .map entries => uptoBulkEntries entries + 1
  | .held _ => 1
def uptoBulkAll {H : Type} : List (DataW H) → Nat
  | [] => 0
  | d :: r => uptoBulk d + uptoBulkAll r
def uptoBulkEntries {H : Type} : List (Lit × DataW H) → Nat
  | [] => 0
  | x :: r => uptoBulkEntry x + uptoBulkEntries r
def uptoBulkEntry {H : Type} : Lit × DataW H → Nat
  | (.string bytes, d) => bytes.length + uptoBulk d + 1
  | (_, d) => uptoBulk d + 1
 end
def uptoSmall : (H : Type) → List (DataW H) → Bool := fun _ ds => decide (uptoBulkAll ds ≤ 1048576)
def OpenSpec.upto (s : _root_.Go.ChangeSpec) : _root_.Go.OpenSpec := { _root_.Go.OpenSpec.ofChange s with cond := some uptoSmall }

/-- 'escheatlaw23.HandleExpires', WHERE WHAT IT READS IS OF BULK AT MOST 1048576: true; the input reads as it did. -/
def handleExpiresUptoRow : OpenClaim := { program := "ytjfdbcmmmoipcaa", sum := "f83a987697cef6bf1549abae5a0a1be7a6ff6552515a362a674a08a07cd845a7", func := "escheat/escheatlaw23.HandleExpires", spec := "handleExpires", unfollowed := true, recurses := true, plainKeys := false, apart := false, narrowed := true }
def HandleExpiresUptoSaid : Prop := handleExpiresUptoRow.holds Try.pinned (OpenSpec.upto handleExpiresSpec)

/-- 'escheatlaw23.HandleMost', WHERE WHAT IT READS IS OF BULK AT MOST 1048576: true; the input reads as it did. -/
def handleMostUptoRow : OpenClaim := { program := "ytjfdbcmmmoipcaa", sum := "f83a987697cef6bf1549abae5a0a1be7a6ff6552515a362a674a08a07cd845a7", func := "escheat/escheatlaw23.HandleMost", spec := "handleMost", unfollowed := true, recurses := true, plainKeys := false, apart := false, narrowed := true }
def HandleMostUptoSaid : Prop := handleMostUptoRow.holds Try.pinned (OpenSpec.upto handleMostSpec)

/-- 'escheatlaw23.HandlePlays', WHERE WHAT IT READS IS OF BULK AT MOST 1048576: true; the input reads as it did. -/
def handlePlaysUptoRow : OpenClaim := { program := "ytjfdbcmmmoipcaa", sum := "f83a987697cef6bf1549abae5a0a1be7a6ff6552515a362a674a08a07cd845a7", func := "escheat/escheatlaw23.HandlePlays", spec := "handlePlays", unfollowed := true, recurses := true, plainKeys := false, apart := false, narrowed := true }
def HandlePlaysUptoSaid : Prop := handlePlaysUptoRow.holds Try.pinned (OpenSpec.upto handlePlaysSpec)

/-- 'escheatlaw23.HandleNone', WHERE WHAT IT READS IS OF BULK AT MOST 1048576: true; the input reads as it did. -/
def handleNoneUptoRow : OpenClaim := { program := "ytjfdbcmmmoipcaa", sum := "f83a987697cef6bf1549abae5a0a1be7a6ff6552515a362a674a08a07cd845a7", func := "escheat/escheatlaw23.HandleNone", spec := "handleNone", unfollowed := true, recurses := true, plainKeys := false, apart := false, narrowed := true }
def HandleNoneUptoSaid : Prop := handleNoneUptoRow.holds Try.pinned (OpenSpec.upto handleNoneSpec)

end Rows
end Go.Proofs.Ytjfdbcmmmoipcaa
