/-
  DERIVED. GIVEN WITH THE SEED: THE CARDS: each row of YtplflngjpajcmaaGreatDoorRows.lean that lists a variable, with what it lists TIED to the program's text (the seventh form; the later family's looks); each row that meets fmt, with fmt's text TOLD by the authors' own Lean function (tested against real Go, not proved from fmt's source: count such statements apart). THE CARD IS WHAT COUNTS. Prove the row's statement (the work); the ties are given (YtplflngjpajcmaaGreatDoorTie.lean); close each card by the builder's one call (the guide's Derived/Test/ToyasCard.lean, 'card_holds'). Laid BY PROGRAM, IN A SANDBOX (cutbox-door.mjs). By AI agents, Wed Nov 11 2026. No macro, syntax, notation, axiom, sorry.
-/
import Derived.Test.YtplflngjpajcmaaGreatDoorRows
import GoSem.ClaimSeven
namespace Go.Proofs.YtplflngjpajcmaaGreatDoor
namespace Rows

/-- THE TIED CARD OF 'tomelaw27.StmtParses'. -/
def stmtParsesCard : Claim7 := { stood := { row := stmtParsesRow, standIns := [], harness := (true, "12eaa4cfcdef349b1f341950abd65f7cfa7e69a01c617b0b9abbb543b918e293"), looks := true }, kinds := [], alts := [], laidByText := true, laidKinds := [.data, .pinned], laidTests := true, laidLooks := .later }
def StmtParsesCardSaid : Prop := Claim7.holds Tryz.pinned (.plain (OpenSpec.ofChange stmtParsesSpec)) stmtParsesCard

/-- THE TIED CARD OF 'tomelaw27.StmtPrints'. -/
def stmtPrintsCard : Claim7 := { stood := { row := stmtPrintsRow, standIns := [], harness := (true, "12eaa4cfcdef349b1f341950abd65f7cfa7e69a01c617b0b9abbb543b918e293"), looks := true }, kinds := [], alts := [], laidByText := true, laidKinds := [.data, .pinned], laidTests := true, laidLooks := .later }
def StmtPrintsCardSaid : Prop := Claim7.holds Tryz.pinned (.plain (OpenSpec.ofChange stmtPrintsSpec)) stmtPrintsCard

/-- THE TIED CARD OF 'tomelaw27.StmtAgain'. -/
def stmtAgainCard : Claim7 := { stood := { row := stmtAgainRow, standIns := [], harness := (true, "12eaa4cfcdef349b1f341950abd65f7cfa7e69a01c617b0b9abbb543b918e293"), looks := true }, kinds := [], alts := [], laidByText := true, laidKinds := [.data, .pinned], laidTests := true, laidLooks := .later }
def StmtAgainCardSaid : Prop := Claim7.holds Tryz.pinned (.plain (OpenSpec.ofChange stmtAgainSpec)) stmtAgainCard

/-- THE TIED CARD OF 'tomelaw27.StmtReads'. -/
def stmtReadsCard : Claim7 := { stood := { row := stmtReadsRow, standIns := [], harness := (true, "12eaa4cfcdef349b1f341950abd65f7cfa7e69a01c617b0b9abbb543b918e293"), looks := true }, kinds := [], alts := [], laidByText := true, laidKinds := [.data, .pinned], laidTests := true, laidLooks := .later }
def StmtReadsCardSaid : Prop := Claim7.holds Tryz.pinned (.plain (OpenSpec.ofChange stmtReadsSpec)) stmtReadsCard

/-- THE SECOND FORM's CARD OF 'tomelaw27.StmtParses'. -/
def stmtParsesUptoCard : Claim7 := { stood := { row := stmtParsesUptoRow, standIns := [], harness := (true, "12eaa4cfcdef349b1f341950abd65f7cfa7e69a01c617b0b9abbb543b918e293"), looks := true }, kinds := [], alts := [], laidByText := true, laidKinds := [.data, .pinned], laidTests := true, laidLooks := .later }
def StmtParsesUptoCardSaid : Prop := Claim7.holds Tryz.pinned (.plain (OpenSpec.upto stmtParsesSpec)) stmtParsesUptoCard

/-- THE SECOND FORM's CARD OF 'tomelaw27.StmtPrints'. -/
def stmtPrintsUptoCard : Claim7 := { stood := { row := stmtPrintsUptoRow, standIns := [], harness := (true, "12eaa4cfcdef349b1f341950abd65f7cfa7e69a01c617b0b9abbb543b918e293"), looks := true }, kinds := [], alts := [], laidByText := true, laidKinds := [.data, .pinned], laidTests := true, laidLooks := .later }
def StmtPrintsUptoCardSaid : Prop := Claim7.holds Tryz.pinned (.plain (OpenSpec.upto stmtPrintsSpec)) stmtPrintsUptoCard

/-- THE SECOND FORM's CARD OF 'tomelaw27.StmtAgain'. -/
def stmtAgainUptoCard : Claim7 := { stood := { row := stmtAgainUptoRow, standIns := [], harness := (true, "12eaa4cfcdef349b1f341950abd65f7cfa7e69a01c617b0b9abbb543b918e293"), looks := true }, kinds := [], alts := [], laidByText := true, laidKinds := [.data, .pinned], laidTests := true, laidLooks := .later }
def StmtAgainUptoCardSaid : Prop := Claim7.holds Tryz.pinned (.plain (OpenSpec.upto stmtAgainSpec)) stmtAgainUptoCard

/-- THE SECOND FORM's CARD OF 'tomelaw27.StmtReads'. -/
def stmtReadsUptoCard : Claim7 := { stood := { row := stmtReadsUptoRow, standIns := [], harness := (true, "12eaa4cfcdef349b1f341950abd65f7cfa7e69a01c617b0b9abbb543b918e293"), looks := true }, kinds := [], alts := [], laidByText := true, laidKinds := [.data, .pinned], laidTests := true, laidLooks := .later }
def StmtReadsUptoCardSaid : Prop := Claim7.holds Tryz.pinned (.plain (OpenSpec.upto stmtReadsSpec)) stmtReadsUptoCard
end Rows
end Go.Proofs.YtplflngjpajcmaaGreatDoor
