/-
  DERIVED. GIVEN WITH THE SEED: THE CARDS: each row of YtlffcilgmockmaaDoorRows.lean that lists a variable, with what it lists TIED to the program's text (the seventh form; the later family's looks); each row that meets fmt, with fmt's text TOLD by the authors' own Lean function (tested against real Go, not proved from fmt's source: count such statements apart). THE CARD IS WHAT COUNTS. Prove the row's statement (the work); the ties are given (YtlffcilgmockmaaDoorTie.lean); close each card by the builder's one call (the guide's Derived/Test/ToyasCard.lean, 'card_holds'). Laid BY PROGRAM, IN A SANDBOX (cutbox-door.mjs). By AI agents, Wed Nov 11 2026. No macro, syntax, notation, axiom, sorry.
-/
import Derived.Test.YtlffcilgmockmaaDoorRows
import GoSem.ClaimSeven
namespace Go.Proofs.YtlffcilgmockmaaDoor
namespace Rows

/-- THE TIED CARD OF 'escheatlaw06.OpEncodes'. -/
def opEncodesCard : Claim7 := { stood := { row := opEncodesRow, standIns := [], harness := (true, "fe0e0638fb357580c0a05779e6f7ed65ff2986da72e2b42b1d6b81181290c1d7"), looks := false }, kinds := [], alts := [], laidByText := true, laidKinds := [.data], laidTests := true, laidLooks := .later }
def OpEncodesCardSaid : Prop := Claim7.holds Tryd.pinned (.plain (OpenSpec.ofChange opEncodesSpec)) opEncodesCard

/-- THE TIED CARD OF 'escheatlaw06.OpDecodes'. -/
def opDecodesCard : Claim7 := { stood := { row := opDecodesRow, standIns := [], harness := (true, "fe0e0638fb357580c0a05779e6f7ed65ff2986da72e2b42b1d6b81181290c1d7"), looks := false }, kinds := [], alts := [], laidByText := true, laidKinds := [.data], laidTests := true, laidLooks := .later }
def OpDecodesCardSaid : Prop := Claim7.holds Tryd.pinned (.plain (OpenSpec.ofChange opDecodesSpec)) opDecodesCard

/-- THE TIED CARD OF 'escheatlaw06.OpBack'. -/
def opBackCard : Claim7 := { stood := { row := opBackRow, standIns := [], harness := (true, "fe0e0638fb357580c0a05779e6f7ed65ff2986da72e2b42b1d6b81181290c1d7"), looks := false }, kinds := [], alts := [], laidByText := true, laidKinds := [.data], laidTests := true, laidLooks := .later }
def OpBackCardSaid : Prop := Claim7.holds Tryd.pinned (.plain (OpenSpec.ofChange opBackSpec)) opBackCard

/-- THE TIED CARD OF 'escheatlaw06.OpSames'. -/
def opSamesCard : Claim7 := { stood := { row := opSamesRow, standIns := [], harness := (true, "fe0e0638fb357580c0a05779e6f7ed65ff2986da72e2b42b1d6b81181290c1d7"), looks := false }, kinds := [], alts := [], laidByText := true, laidKinds := [.data], laidTests := true, laidLooks := .later }
def OpSamesCardSaid : Prop := Claim7.holds Tryd.pinned (.plain (OpenSpec.ofChange opSamesSpec)) opSamesCard

/-- THE TIED CARD OF 'escheatlaw06.OpOthers'. -/
def opOthersCard : Claim7 := { stood := { row := opOthersRow, standIns := [], harness := (true, "fe0e0638fb357580c0a05779e6f7ed65ff2986da72e2b42b1d6b81181290c1d7"), looks := false }, kinds := [], alts := [], laidByText := true, laidKinds := [.data], laidTests := true, laidLooks := .later }
def OpOthersCardSaid : Prop := Claim7.holds Tryd.pinned (.plain (OpenSpec.ofChange opOthersSpec)) opOthersCard

/-- THE SECOND FORM's CARD OF 'escheatlaw06.OpEncodes'. -/
def opEncodesUptoCard : Claim7 := { stood := { row := opEncodesUptoRow, standIns := [], harness := (true, "fe0e0638fb357580c0a05779e6f7ed65ff2986da72e2b42b1d6b81181290c1d7"), looks := false }, kinds := [], alts := [], laidByText := true, laidKinds := [.data], laidTests := true, laidLooks := .later }
def OpEncodesUptoCardSaid : Prop := Claim7.holds Tryd.pinned (.plain (OpenSpec.upto opEncodesSpec)) opEncodesUptoCard

/-- THE SECOND FORM's CARD OF 'escheatlaw06.OpDecodes'. -/
def opDecodesUptoCard : Claim7 := { stood := { row := opDecodesUptoRow, standIns := [], harness := (true, "fe0e0638fb357580c0a05779e6f7ed65ff2986da72e2b42b1d6b81181290c1d7"), looks := false }, kinds := [], alts := [], laidByText := true, laidKinds := [.data], laidTests := true, laidLooks := .later }
def OpDecodesUptoCardSaid : Prop := Claim7.holds Tryd.pinned (.plain (OpenSpec.upto opDecodesSpec)) opDecodesUptoCard

/-- THE SECOND FORM's CARD OF 'escheatlaw06.OpBack'. -/
def opBackUptoCard : Claim7 := { stood := { row := opBackUptoRow, standIns := [], harness := (true, "fe0e0638fb357580c0a05779e6f7ed65ff2986da72e2b42b1d6b81181290c1d7"), looks := false }, kinds := [], alts := [], laidByText := true, laidKinds := [.data], laidTests := true, laidLooks := .later }
def OpBackUptoCardSaid : Prop := Claim7.holds Tryd.pinned (.plain (OpenSpec.upto opBackSpec)) opBackUptoCard

/-- THE SECOND FORM's CARD OF 'escheatlaw06.OpSames'. -/
def opSamesUptoCard : Claim7 := { stood := { row := opSamesUptoRow, standIns := [], harness := (true, "fe0e0638fb357580c0a05779e6f7ed65ff2986da72e2b42b1d6b81181290c1d7"), looks := false }, kinds := [], alts := [], laidByText := true, laidKinds := [.data], laidTests := true, laidLooks := .later }
def OpSamesUptoCardSaid : Prop := Claim7.holds Tryd.pinned (.plain (OpenSpec.upto opSamesSpec)) opSamesUptoCard

/-- THE SECOND FORM's CARD OF 'escheatlaw06.OpOthers'. -/
def opOthersUptoCard : Claim7 := { stood := { row := opOthersUptoRow, standIns := [], harness := (true, "fe0e0638fb357580c0a05779e6f7ed65ff2986da72e2b42b1d6b81181290c1d7"), looks := false }, kinds := [], alts := [], laidByText := true, laidKinds := [.data], laidTests := true, laidLooks := .later }
def OpOthersUptoCardSaid : Prop := Claim7.holds Tryd.pinned (.plain (OpenSpec.upto opOthersSpec)) opOthersUptoCard
end Rows
end Go.Proofs.YtlffcilgmockmaaDoor
