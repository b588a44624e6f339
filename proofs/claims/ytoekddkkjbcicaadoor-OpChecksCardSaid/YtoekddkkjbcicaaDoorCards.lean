/-
  DERIVED. GIVEN WITH THE SEED: THE CARDS: each row of YtoekddkkjbcicaaDoorRows.lean that lists a variable, with what it lists TIED to the program's text (the seventh form; the later family's looks); each row that meets fmt, with fmt's text TOLD by the authors' own Lean function (tested against real Go, not proved from fmt's source: count such statements apart). THE CARD IS WHAT COUNTS. Prove the row's statement (the work); the ties are given (YtoekddkkjbcicaaDoorTie.lean); close each card by the builder's one call (the guide's Derived/Test/ToyasCard.lean, 'card_holds'). Laid BY PROGRAM, IN A SANDBOX (cutbox-door.mjs). By AI agents, Wed Nov 11 2026. No macro, syntax, notation, axiom, sorry.
-/
import Derived.Test.YtoekddkkjbcicaaDoorRows
import GoSem.ClaimSeven
namespace Go.Proofs.YtoekddkkjbcicaaDoor
namespace Rows

/-- THE TIED CARD OF 'tomelaw40.OpNames'. -/
def opNamesCard : Claim7 := { stood := { row := opNamesRow, standIns := [], harness := (true, "274cb4373ce3ed663b584105b047a0830d2e2268b59c4bb6aaca6c518a35a4ca"), looks := false }, kinds := [], alts := [], laidByText := true, laidKinds := [.data, .data], laidTests := true, laidLooks := .later }
def OpNamesCardSaid : Prop := Claim7.holds Tryd.pinned (.plain (OpenSpec.ofChange opNamesSpec)) opNamesCard

/-- THE TIED CARD OF 'tomelaw40.OpParses'. -/
def opParsesCard : Claim7 := { stood := { row := opParsesRow, standIns := [], harness := (true, "274cb4373ce3ed663b584105b047a0830d2e2268b59c4bb6aaca6c518a35a4ca"), looks := false }, kinds := [], alts := [], laidByText := true, laidKinds := [.data, .data], laidTests := true, laidLooks := .later }
def OpParsesCardSaid : Prop := Claim7.holds Tryd.pinned (.plain (OpenSpec.ofChange opParsesSpec)) opParsesCard

/-- THE TIED CARD OF 'tomelaw40.OpSpoilt'. -/
def opSpoiltCard : Claim7 := { stood := { row := opSpoiltRow, standIns := [], harness := (true, "274cb4373ce3ed663b584105b047a0830d2e2268b59c4bb6aaca6c518a35a4ca"), looks := false }, kinds := [], alts := [], laidByText := true, laidKinds := [.data, .data], laidTests := true, laidLooks := .later }
def OpSpoiltCardSaid : Prop := Claim7.holds Tryd.pinned (.plain (OpenSpec.ofChange opSpoiltSpec)) opSpoiltCard

/-- THE TIED CARD OF 'tomelaw40.OpChecks'. -/
def opChecksCard : Claim7 := { stood := { row := opChecksRow, standIns := [], harness := (true, "274cb4373ce3ed663b584105b047a0830d2e2268b59c4bb6aaca6c518a35a4ca"), looks := false }, kinds := [], alts := [], laidByText := true, laidKinds := [.data, .data], laidTests := true, laidLooks := .later }
def OpChecksCardSaid : Prop := Claim7.holds Tryd.pinned (.plain (OpenSpec.ofChange opChecksSpec)) opChecksCard

/-- THE SECOND FORM's CARD OF 'tomelaw40.OpNames'. -/
def opNamesUptoCard : Claim7 := { stood := { row := opNamesUptoRow, standIns := [], harness := (true, "274cb4373ce3ed663b584105b047a0830d2e2268b59c4bb6aaca6c518a35a4ca"), looks := false }, kinds := [], alts := [], laidByText := true, laidKinds := [.data, .data], laidTests := true, laidLooks := .later }
def OpNamesUptoCardSaid : Prop := Claim7.holds Tryd.pinned (.plain (OpenSpec.upto opNamesSpec)) opNamesUptoCard

/-- THE SECOND FORM's CARD OF 'tomelaw40.OpParses'. -/
def opParsesUptoCard : Claim7 := { stood := { row := opParsesUptoRow, standIns := [], harness := (true, "274cb4373ce3ed663b584105b047a0830d2e2268b59c4bb6aaca6c518a35a4ca"), looks := false }, kinds := [], alts := [], laidByText := true, laidKinds := [.data, .data], laidTests := true, laidLooks := .later }
def OpParsesUptoCardSaid : Prop := Claim7.holds Tryd.pinned (.plain (OpenSpec.upto opParsesSpec)) opParsesUptoCard

/-- THE SECOND FORM's CARD OF 'tomelaw40.OpSpoilt'. -/
def opSpoiltUptoCard : Claim7 := { stood := { row := opSpoiltUptoRow, standIns := [], harness := (true, "274cb4373ce3ed663b584105b047a0830d2e2268b59c4bb6aaca6c518a35a4ca"), looks := false }, kinds := [], alts := [], laidByText := true, laidKinds := [.data, .data], laidTests := true, laidLooks := .later }
def OpSpoiltUptoCardSaid : Prop := Claim7.holds Tryd.pinned (.plain (OpenSpec.upto opSpoiltSpec)) opSpoiltUptoCard

/-- THE SECOND FORM's CARD OF 'tomelaw40.OpChecks'. -/
def opChecksUptoCard : Claim7 := { stood := { row := opChecksUptoRow, standIns := [], harness := (true, "274cb4373ce3ed663b584105b047a0830d2e2268b59c4bb6aaca6c518a35a4ca"), looks := false }, kinds := [], alts := [], laidByText := true, laidKinds := [.data, .data], laidTests := true, laidLooks := .later }
def OpChecksUptoCardSaid : Prop := Claim7.holds Tryd.pinned (.plain (OpenSpec.upto opChecksSpec)) opChecksUptoCard
end Rows
end Go.Proofs.YtoekddkkjbcicaaDoor
