/-
  DERIVED. GIVEN WITH THE SEED: THE CARDS: each row of YthnkpoagpjnopaaDoorRows.lean that lists a variable, with what it lists TIED to the program's text (the seventh form; the later family's looks); each row that meets fmt, with fmt's text TOLD by the authors' own Lean function (tested against real Go, not proved from fmt's source: count such statements apart). THE CARD IS WHAT COUNTS. Prove the row's statement (the work); the ties are given (YthnkpoagpjnopaaDoorTie.lean); close each card by the builder's one call (the guide's Derived/Test/ToyasCard.lean, 'card_holds'). Laid BY PROGRAM, IN A SANDBOX (cutbox-door.mjs). By AI agents, Wed Nov 11 2026. No macro, syntax, notation, axiom, sorry.
-/
import Derived.Test.YthnkpoagpjnopaaDoorRows
import GoSem.ClaimSeven
namespace Go.Proofs.YthnkpoagpjnopaaDoor
namespace Rows

/-- THE TIED CARD OF 'escheatlaw28.MoveBuilds'. -/
def moveBuildsCard : Claim7 := { stood := { row := moveBuildsRow, standIns := [], harness := (true, "89d226dc8466e2a4f7fef16676865b1766496fb8c91b328c224dc10bfa792935"), looks := false }, kinds := [], alts := [], laidByText := true, laidKinds := [.data], laidTests := true, laidLooks := .later }
def MoveBuildsCardSaid : Prop := Claim7.holds Tryd.pinned (.plain (OpenSpec.ofChange moveBuildsSpec)) moveBuildsCard

/-- THE TIED CARD OF 'escheatlaw28.MoveWants'. -/
def moveWantsCard : Claim7 := { stood := { row := moveWantsRow, standIns := [], harness := (true, "89d226dc8466e2a4f7fef16676865b1766496fb8c91b328c224dc10bfa792935"), looks := false }, kinds := [], alts := [], laidByText := true, laidKinds := [.data], laidTests := true, laidLooks := .later }
def MoveWantsCardSaid : Prop := Claim7.holds Tryd.pinned (.plain (OpenSpec.ofChange moveWantsSpec)) moveWantsCard

/-- THE TIED CARD OF 'escheatlaw28.MoveKeeps'. -/
def moveKeepsCard : Claim7 := { stood := { row := moveKeepsRow, standIns := [], harness := (true, "89d226dc8466e2a4f7fef16676865b1766496fb8c91b328c224dc10bfa792935"), looks := false }, kinds := [], alts := [], laidByText := true, laidKinds := [.data], laidTests := true, laidLooks := .later }
def MoveKeepsCardSaid : Prop := Claim7.holds Tryd.pinned (.plain (OpenSpec.ofChange moveKeepsSpec)) moveKeepsCard

/-- THE SECOND FORM's CARD OF 'escheatlaw28.MoveBuilds'. -/
def moveBuildsUptoCard : Claim7 := { stood := { row := moveBuildsUptoRow, standIns := [], harness := (true, "89d226dc8466e2a4f7fef16676865b1766496fb8c91b328c224dc10bfa792935"), looks := false }, kinds := [], alts := [], laidByText := true, laidKinds := [.data], laidTests := true, laidLooks := .later }
def MoveBuildsUptoCardSaid : Prop := Claim7.holds Tryd.pinned (.plain (OpenSpec.upto moveBuildsSpec)) moveBuildsUptoCard

/-- THE SECOND FORM's CARD OF 'escheatlaw28.MoveWants'. -/
def moveWantsUptoCard : Claim7 := { stood := { row := moveWantsUptoRow, standIns := [], harness := (true, "89d226dc8466e2a4f7fef16676865b1766496fb8c91b328c224dc10bfa792935"), looks := false }, kinds := [], alts := [], laidByText := true, laidKinds := [.data], laidTests := true, laidLooks := .later }
def MoveWantsUptoCardSaid : Prop := Claim7.holds Tryd.pinned (.plain (OpenSpec.upto moveWantsSpec)) moveWantsUptoCard

/-- THE SECOND FORM's CARD OF 'escheatlaw28.MoveKeeps'. -/
def moveKeepsUptoCard : Claim7 := { stood := { row := moveKeepsUptoRow, standIns := [], harness := (true, "89d226dc8466e2a4f7fef16676865b1766496fb8c91b328c224dc10bfa792935"), looks := false }, kinds := [], alts := [], laidByText := true, laidKinds := [.data], laidTests := true, laidLooks := .later }
def MoveKeepsUptoCardSaid : Prop := Claim7.holds Tryd.pinned (.plain (OpenSpec.upto moveKeepsSpec)) moveKeepsUptoCard
end Rows
end Go.Proofs.YthnkpoagpjnopaaDoor
