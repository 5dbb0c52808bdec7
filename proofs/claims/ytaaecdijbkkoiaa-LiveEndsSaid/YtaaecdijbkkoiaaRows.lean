/-
  No cell of these rows narrows 'for every input' (looked for: loops, veiled, ifaces, maps, wideKeys, modest, calm, conditions, laid).
  DERIVED. THE GIVEN ROWS OF THIS SEAT. 4 by the template 'for every input the law returns true; each argument reads behind the call as it read before'; 0 by the template 'total and deterministic' (their statements: YtaaecdijbkkoiaaTotals.lean).
  GIVEN WITH THE SEED: the statements are not yours to turn. If you find one false, say at which input.
  Laid BY PROGRAM, IN A SANDBOX (cutbox-rows.mjs): the forced cells as the released guide's own fill.sh prints them over the translation 570961a89024879e… (all of the seat's roots in one cut). By AI agents, Wed Nov 11 2026. No macro, syntax, notation, axiom, sorry.
-/
import Derived.Test.YtaaecdijbkkoiaaChecked
import GoSem.Claim
import GoSem.ClaimJoined
import GoSem.ClaimMapViews
import Derived.JoinedTies
import Derived.KernelRfl
namespace Go.Proofs.Ytaaecdijbkkoiaa
/- THE CELL 'sum', in the pinned program and in every row, IS THE sha256 OF THE DUMP (.gsa) THAT YtaaecdijbkkoiaaProg.lean LOADS. Nothing in Lean hashes anything: it is a label: what it is worth is what the hold of that sum in a sandbox is worth. -/
noncomputable def Try.pinned : Pinned := { name := "ytaaecdijbkkoiaa", sum := "570961a89024879eaf24caf7a4e1ffdbef774209a12578009d2557d797d2440f", checked := Try.checked }
namespace Rows
def none {H : Type} : Left H := { results := [], args := [] }

/-- 'escheatlaw27.LiveCounts': WHATEVER THE INPUT: true; the input reads as it did. -/
def liveCountsSpec : ChangeSpec := { name := "liveCounts", fn := fun _ => fun
  | [d1, d2, d3] => { results := [.lit (.bool true)], args := [d1, d2, d3] }
  | _ => none }
def liveCountsRow : OpenClaim := { program := "ytaaecdijbkkoiaa", sum := "570961a89024879eaf24caf7a4e1ffdbef774209a12578009d2557d797d2440f", func := "escheat/escheatlaw27.LiveCounts", spec := "liveCounts", unfollowed := true, recurses := true, plainKeys := false, apart := false }
def LiveCountsSaid : Prop := liveCountsRow.holds Try.pinned (OpenSpec.ofChange liveCountsSpec)

/-- ITS FALSE NEIGHBOUR: 'it returns false'. Refute it at one input. -/
def liveCountsWrong : ChangeSpec := { name := "liveCounts", fn := fun _ => fun
  | [d1, d2, d3] => { results := [.lit (.bool false)], args := [d1, d2, d3] }
  | _ => none }
def LiveCountsWrongFalsely : Prop := liveCountsRow.holds Try.pinned (OpenSpec.ofChange liveCountsWrong)

/-- 'escheatlaw27.LiveNone': WHATEVER THE INPUT: true; the input reads as it did. -/
def liveNoneSpec : ChangeSpec := { name := "liveNone", fn := fun _ => fun
  | [d] => { results := [.lit (.bool true)], args := [d] }
  | _ => none }
def liveNoneRow : OpenClaim := { program := "ytaaecdijbkkoiaa", sum := "570961a89024879eaf24caf7a4e1ffdbef774209a12578009d2557d797d2440f", func := "escheat/escheatlaw27.LiveNone", spec := "liveNone", unfollowed := true, recurses := true, plainKeys := false, apart := false }
def LiveNoneSaid : Prop := liveNoneRow.holds Try.pinned (OpenSpec.ofChange liveNoneSpec)

/-- ITS FALSE NEIGHBOUR: 'it returns false'. Refute it at one input. -/
def liveNoneWrong : ChangeSpec := { name := "liveNone", fn := fun _ => fun
  | [d] => { results := [.lit (.bool false)], args := [d] }
  | _ => none }
def LiveNoneWrongFalsely : Prop := liveNoneRow.holds Try.pinned (OpenSpec.ofChange liveNoneWrong)

/-- 'escheatlaw27.LiveTells': WHATEVER THE INPUT: true; the input reads as it did. -/
def liveTellsSpec : ChangeSpec := { name := "liveTells", fn := fun _ => fun
  | [d1, d2, d3] => { results := [.lit (.bool true)], args := [d1, d2, d3] }
  | _ => none }
def liveTellsRow : OpenClaim := { program := "ytaaecdijbkkoiaa", sum := "570961a89024879eaf24caf7a4e1ffdbef774209a12578009d2557d797d2440f", func := "escheat/escheatlaw27.LiveTells", spec := "liveTells", unfollowed := true, recurses := true, plainKeys := false, apart := false }
def LiveTellsSaid : Prop := liveTellsRow.holds Try.pinned (OpenSpec.ofChange liveTellsSpec)

/-- ITS FALSE NEIGHBOUR: 'it returns false'. Refute it at one input. -/
def liveTellsWrong : ChangeSpec := { name := "liveTells", fn := fun _ => fun
  | [d1, d2, d3] => { results := [.lit (.bool false)], args := [d1, d2, d3] }
  | _ => none }
def LiveTellsWrongFalsely : Prop := liveTellsRow.holds Try.pinned (OpenSpec.ofChange liveTellsWrong)

/-- 'escheatlaw27.LiveEnds': WHATEVER THE INPUT: true; the input reads as it did. -/
def liveEndsSpec : ChangeSpec := { name := "liveEnds", fn := fun _ => fun
  | [d1, d2] => { results := [.lit (.bool true)], args := [d1, d2] }
  | _ => none }
def liveEndsRow : OpenClaim := { program := "ytaaecdijbkkoiaa", sum := "570961a89024879eaf24caf7a4e1ffdbef774209a12578009d2557d797d2440f", func := "escheat/escheatlaw27.LiveEnds", spec := "liveEnds", unfollowed := true, recurses := true, plainKeys := false, apart := false }
def LiveEndsSaid : Prop := liveEndsRow.holds Try.pinned (OpenSpec.ofChange liveEndsSpec)

/-- ITS FALSE NEIGHBOUR: 'it returns false'. Refute it at one input. -/
def liveEndsWrong : ChangeSpec := { name := "liveEnds", fn := fun _ => fun
  | [d1, d2] => { results := [.lit (.bool false)], args := [d1, d2] }
  | _ => none }
def LiveEndsWrongFalsely : Prop := liveEndsRow.holds Try.pinned (OpenSpec.ofChange liveEndsWrong)

/- THE SECOND FORM. 'bulk': how many values and letters a reading holds, each counted each time it is reached (what is shared counts as often as it is met; a slice's spare places count too). A statement '..UptoSaid' is the law's where the arguments, and the package variables that the reading takes, are together of bulk at most 1048576: NARROWER than '..Said'. Prove '..Said' where nothing that the law and all that it calls make is longer than what came in: it says more and counts as full. Else prove '..UptoSaid'. A law counts once. -/
mutual
def uptoBulk {H : Type} : DataW H → Nat
  | .lit (.string bytes) => bytes.length + 1
  | .lit _ => 1
  | .nil => 1
  | .ptr d => uptoBulk d + 1
  | .slice elems spare => uptoBulkAll elems + uptoBulkAll spare + 1
  | .agg parts => uptoBulkAll parts + 1
  | .iface _ d => uptoBulk d + 1
  | .map entries => uptoBulkEntries entries + 1
  | .held _ => 1
def uptoBulkAll {H : Type} : List (DataW H) → Nat
  | [] => 0
  | d :: r => uptoBulk d + uptoBulkAll r
def uptoBulkEntries {H : Type} : List (Lit × DataW H) → Nat
  | [] => 0
  | x :: r => uptoBulkEntry x + uptoBulkEntries r
def uptoBulkEntry {H : Type} : Lit × DataW H → Nat
  | (.string bytes, d) => bytes.length + uptoBulk d + 1
  | (_, d) => uptoBulk d + 1
 end
def uptoSmall : (H : Type) → List (DataW H) → Bool := fun _ ds => decide (uptoBulkAll ds ≤ 1048576)
def OpenSpec.upto (s : _root_.Go.ChangeSpec) : _root_.Go.OpenSpec := { _root_.Go.OpenSpec.ofChange s with cond := some uptoSmall }

/-- 'escheatlaw27.LiveCounts', WHERE WHAT IT READS IS OF BULK AT MOST 1048576: true; the input reads as it did. -/
def liveCountsUptoRow : OpenClaim := { program := "ytaaecdijbkkoiaa", sum := "570961a89024879eaf24caf7a4e1ffdbef774209a12578009d2557d797d2440f", func := "escheat/escheatlaw27.LiveCounts", spec := "liveCounts", unfollowed := true, recurses := true, plainKeys := false, apart := false, narrowed := true }
def LiveCountsUptoSaid : Prop := liveCountsUptoRow.holds Try.pinned (OpenSpec.upto liveCountsSpec)

/-- 'escheatlaw27.LiveNone', WHERE WHAT IT READS IS OF BULK AT MOST 1048576: true; the input reads as it did. -/
def liveNoneUptoRow : OpenClaim := { program := "ytaaecdijbkkoiaa", sum := "570961a89024879eaf24caf7a4e1ffdbef774209a12578009d2557d797d2440f", func := "escheat/escheatlaw27.LiveNone", spec := "liveNone", unfollowed := true, recurses := true, plainKeys := false, apart := false, narrowed := true }
def LiveNoneUptoSaid : Prop := liveNoneUptoRow.holds Try.pinned (OpenSpec.upto liveNoneSpec)

/-- 'escheatlaw27.LiveTells', WHERE WHAT IT READS IS OF BULK AT MOST 1048576: true; the input reads as it did. -/
def liveTellsUptoRow : OpenClaim := { program := "ytaaecdijbkkoiaa", sum := "570961a89024879eaf24caf7a4e1ffdbef774209a12578009d2557d797d2440f", func := "escheat/escheatlaw27.LiveTells", spec := "liveTells", unfollowed := true, recurses := true, plainKeys := false, apart := false, narrowed := true }
def LiveTellsUptoSaid : Prop := liveTellsUptoRow.holds Try.pinned (OpenSpec.upto liveTellsSpec)

/-- 'escheatlaw27.LiveEnds', WHERE WHAT IT READS IS OF BULK AT MOST 1048576: true; the input reads as it did. -/
def liveEndsUptoRow : OpenClaim := { program := "ytaaecdijbkkoiaa", sum := "570961a89024879eaf24caf7a4e1ffdbef774209a12578009d2557d797d2440f", func := "escheat/escheatlaw27.LiveEnds", spec := "liveEnds", unfollowed := true, recurses := true, plainKeys := false, apart := false, narrowed := true }
def LiveEndsUptoSaid : Prop := liveEndsUptoRow.holds Try.pinned (OpenSpec.upto liveEndsSpec)

end Rows
end Go.Proofs.Ytaaecdijbkkoiaa
