/-
  DERIVED. GIVEN WITH THE SEED: THE CARDS: each row of YtakegkongmnekaaGreatDoorRows.lean that lists a variable, with what it lists TIED to the program's text (the seventh form; the later family's looks); each row that meets fmt, with fmt's text TOLD by the authors' own Lean function (tested against real Go, not proved from fmt's source: count such statements apart). THE CARD IS WHAT COUNTS. Prove the row's statement (the work); the ties are given (YtakegkongmnekaaGreatDoorTie.lean); close each card by the builder's one call (the guide's Derived/Test/ToyasCard.lean, 'card_holds'). Laid BY PROGRAM, IN A SANDBOX (cutbox-door.mjs). By AI agents, Wed Nov 11 2026. No macro, syntax, notation, axiom, sorry.
-/
import Derived.Test.YtakegkongmnekaaGreatDoorRows
import GoSem.ClaimSeven
namespace Go.Proofs.YtakegkongmnekaaGreatDoor
namespace Rows

/-- THE TIED CARD OF 'tomelaw25.ExprOf'. -/
def exprOfCard : Claim7 := { stood := { row := exprOfRow, standIns := [], harness := (true, "220cacc3f45a2cbc0496581970943b1a17bcbf988319e69e8dd6b040a655c0e5"), looks := true }, kinds := [], alts := [], laidByText := true, laidKinds := [.data, .pinned], laidTests := true, laidLooks := .later }
def ExprOfCardSaid : Prop := Claim7.holds Tryz.pinned (.plain (OpenSpec.ofChange exprOfSpec)) exprOfCard

/-- THE TIED CARD OF 'tomelaw25.ExprPrints'. -/
def exprPrintsCard : Claim7 := { stood := { row := exprPrintsRow, standIns := [], harness := (true, "220cacc3f45a2cbc0496581970943b1a17bcbf988319e69e8dd6b040a655c0e5"), looks := true }, kinds := [], alts := [], laidByText := true, laidKinds := [.data, .pinned], laidTests := true, laidLooks := .later }
def ExprPrintsCardSaid : Prop := Claim7.holds Tryz.pinned (.plain (OpenSpec.ofChange exprPrintsSpec)) exprPrintsCard

/-- THE TIED CARD OF 'tomelaw25.ExprAgain'. -/
def exprAgainCard : Claim7 := { stood := { row := exprAgainRow, standIns := [], harness := (true, "220cacc3f45a2cbc0496581970943b1a17bcbf988319e69e8dd6b040a655c0e5"), looks := true }, kinds := [], alts := [], laidByText := true, laidKinds := [.data, .pinned], laidTests := true, laidLooks := .later }
def ExprAgainCardSaid : Prop := Claim7.holds Tryz.pinned (.plain (OpenSpec.ofChange exprAgainSpec)) exprAgainCard

/-- THE SECOND FORM's CARD OF 'tomelaw25.ExprOf'. -/
def exprOfUptoCard : Claim7 := { stood := { row := exprOfUptoRow, standIns := [], harness := (true, "220cacc3f45a2cbc0496581970943b1a17bcbf988319e69e8dd6b040a655c0e5"), looks := true }, kinds := [], alts := [], laidByText := true, laidKinds := [.data, .pinned], laidTests := true, laidLooks := .later }
def ExprOfUptoCardSaid : Prop := Claim7.holds Tryz.pinned (.plain (OpenSpec.upto exprOfSpec)) exprOfUptoCard

/-- THE SECOND FORM's CARD OF 'tomelaw25.ExprPrints'. -/
def exprPrintsUptoCard : Claim7 := { stood := { row := exprPrintsUptoRow, standIns := [], harness := (true, "220cacc3f45a2cbc0496581970943b1a17bcbf988319e69e8dd6b040a655c0e5"), looks := true }, kinds := [], alts := [], laidByText := true, laidKinds := [.data, .pinned], laidTests := true, laidLooks := .later }
def ExprPrintsUptoCardSaid : Prop := Claim7.holds Tryz.pinned (.plain (OpenSpec.upto exprPrintsSpec)) exprPrintsUptoCard

/-- THE SECOND FORM's CARD OF 'tomelaw25.ExprAgain'. -/
def exprAgainUptoCard : Claim7 := { stood := { row := exprAgainUptoRow, standIns := [], harness := (true, "220cacc3f45a2cbc0496581970943b1a17bcbf988319e69e8dd6b040a655c0e5"), looks := true }, kinds := [], alts := [], laidByText := true, laidKinds := [.data, .pinned], laidTests := true, laidLooks := .later }
def ExprAgainUptoCardSaid : Prop := Claim7.holds Tryz.pinned (.plain (OpenSpec.upto exprAgainSpec)) exprAgainUptoCard
end Rows
end Go.Proofs.YtakegkongmnekaaGreatDoor
