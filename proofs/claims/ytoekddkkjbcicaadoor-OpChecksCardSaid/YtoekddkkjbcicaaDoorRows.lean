/-
  NARROWER THAN 'FOR EVERY INPUT', by the rows' own cells (each row's printed sentence says how): OpNames: laid · OpParses: laid · OpSpoilt: laid · OpChecks: laid.
  DERIVED. THE GIVEN ROWS OF THIS SEAT. 4 by the template 'for every input the law returns true; each argument reads behind the call as it read before'; 0 by the template 'total and deterministic' (their statements: YtoekddkkjbcicaaDoorTotals.lean).
  GIVEN WITH THE SEED: the statements are not yours to turn. If you find one false, say at which input.
  Laid BY PROGRAM, IN A SANDBOX (cutbox-rows.mjs): the forced cells as the released guide's own fill.sh prints them over the translation 95171b62ea134912… (all of the seat's roots in one cut). By AI agents, Wed Nov 11 2026. No macro, syntax, notation, axiom, sorry.
-/
import Derived.Test.YtoekddkkjbcicaaDoorChecked
import GoSem.Claim
import GoSem.ClaimJoined
import GoSem.ClaimMapViews
import Derived.JoinedTies
import Derived.KernelRfl
namespace Go.Proofs.YtoekddkkjbcicaaDoor
/- THE CELL 'sum', in the pinned program and in every row, IS THE sha256 OF THE DUMP (.gsa) THAT YtoekddkkjbcicaaDoorProg.lean LOADS. Nothing in Lean hashes anything: it is a label: what it is worth is what the hold of that sum in a sandbox is worth. -/
noncomputable def Tryd.pinned : Pinned := { name := "ytoekddkkjbcicaadoor", sum := "95171b62ea134912606d9996e08190c272ef11d796d00426b7cbe88b4c8afc42", checked := Tryd.checked }
namespace Rows
def none {H : Type} : Left H := { results := [], args := [] }

/- WHAT THE LISTED PACKAGE-LEVEL VARIABLES READ AS WHEN THE CALL BEGINS. Each datum BY PROGRAM (the guide's laid-datum.mjs) off the statement by which the dump's own 'gosem.cut.vars' lays the variable. In a bare row this is a premise. The card (YtoekddkkjbcicaaDoorCards.lean) ties it to the program's text. -/
def laid_tome_op_names {H : Type} : DataW H := .agg [.lit (.string [104, 97, 108, 116]), .lit (.string [106, 117, 109, 112]), .lit (.string [105, 102]), .lit (.string [105, 102, 110, 111, 116]), .lit (.string [118, 97, 108, 117, 101]), .lit (.string [99, 111, 112, 121]), .lit (.string [116, 97, 98, 108, 101]), .lit (.string [105, 110, 100, 101, 120]), .lit (.string [102, 105, 114, 115, 116]), .lit (.string [110, 101, 120, 116]), .lit (.string [115, 101, 101, 107, 103, 101]), .lit (.string [115, 101, 101, 107, 103, 116]), .lit (.string [115, 116, 111, 112, 103, 116]), .lit (.string [115, 116, 111, 112, 103, 101]), .lit (.string [99, 111, 108]), .lit (.string [102, 105, 110, 100]), .lit (.string [117, 110]), .lit (.string [98, 105, 110]), .lit (.string [102, 110]), .lit (.string [99, 97, 115, 116]), .lit (.string [114, 111, 119]), .lit (.string [115, 111, 114, 116]), .lit (.string [115, 111, 114, 116, 112, 117, 116]), .lit (.string [115, 111, 114, 116, 116, 111, 112]), .lit (.string [115, 111, 114, 116, 110, 101, 120, 116]), .lit (.string [115, 111, 114, 116, 99, 111, 108]), .lit (.string [115, 101, 116]), .lit (.string [115, 101, 101, 110]), .lit (.string [104, 97, 115]), .lit (.string [97, 103, 103]), .lit (.string [97, 103, 103, 97, 100, 100]), .lit (.string [97, 103, 103, 101, 110, 100]), .lit (.string [99, 111, 117, 110, 116]), .lit (.string [115, 97, 109, 101])]
def laid_tome_op_forms {H : Type} : DataW H := .agg [.lit (.string [46, 46, 46, 46, 46, 46]), .lit (.string [46, 112, 46, 46, 46, 46]), .lit (.string [114, 112, 46, 46, 46, 46]), .lit (.string [114, 112, 46, 46, 46, 46]), .lit (.string [46, 114, 46, 118, 46, 46]), .lit (.string [114, 114, 46, 46, 46, 46]), .lit (.string [116, 46, 46, 46, 110, 46]), .lit (.string [116, 46, 46, 46, 110, 46]), .lit (.string [116, 112, 46, 46, 46, 46]), .lit (.string [116, 112, 46, 46, 46, 46]), .lit (.string [116, 112, 114, 109, 46, 46]), .lit (.string [116, 112, 114, 109, 46, 46]), .lit (.string [116, 112, 114, 109, 46, 46]), .lit (.string [116, 112, 114, 109, 46, 46]), .lit (.string [116, 99, 114, 46, 46, 46]), .lit (.string [116, 112, 114, 46, 46, 46]), .lit (.string [114, 114, 46, 46, 117, 46]), .lit (.string [114, 114, 114, 46, 98, 46]), .lit (.string [114, 114, 109, 46, 110, 46]), .lit (.string [114, 114, 46, 46, 99, 46]), .lit (.string [114, 109, 46, 46, 46, 46]), .lit (.string [116, 46, 46, 46, 46, 107]), .lit (.string [116, 114, 109, 46, 46, 46]), .lit (.string [116, 112, 46, 46, 46, 46]), .lit (.string [116, 112, 46, 46, 46, 46]), .lit (.string [116, 99, 114, 46, 46, 46]), .lit (.string [116, 46, 46, 46, 46, 46]), .lit (.string [116, 112, 114, 109, 46, 46]), .lit (.string [116, 112, 114, 109, 46, 46]), .lit (.string [116, 98, 46, 46, 97, 46]), .lit (.string [116, 114, 46, 46, 46, 46]), .lit (.string [116, 114, 46, 46, 46, 46]), .lit (.string [114, 112, 46, 46, 46, 46]), .lit (.string [114, 112, 114, 109, 46, 46])]

/-- 'tomelaw40.OpNames': WHATEVER THE INPUT: true; the input reads as it did. -/
def opNamesSpec : ChangeSpec := { name := "opNames", fn := fun _ => fun
  | [d] => { results := [.lit (.bool true)], args := [d] }
  | _ => none }
def opNamesRow : OpenClaim := { program := "ytoekddkkjbcicaadoor", sum := "95171b62ea134912606d9996e08190c272ef11d796d00426b7cbe88b4c8afc42", func := "tome/tomelaw40.OpNames", spec := "opNames", named := ["tome/op.names", "tome/op.forms"], apart := false, laid := [("tome/op.names", laid_tome_op_names), ("tome/op.forms", laid_tome_op_forms)] }
def OpNamesSaid : Prop := opNamesRow.holds Tryd.pinned (OpenSpec.ofChange opNamesSpec)

/-- ITS FALSE NEIGHBOUR: 'it returns false'. Refute it at one input. -/
def opNamesWrong : ChangeSpec := { name := "opNames", fn := fun _ => fun
  | [d] => { results := [.lit (.bool false)], args := [d] }
  | _ => none }
def OpNamesWrongFalsely : Prop := opNamesRow.holds Tryd.pinned (OpenSpec.ofChange opNamesWrong)

/-- 'tomelaw40.OpParses': WHATEVER THE INPUT: true; the input reads as it did. -/
def opParsesSpec : ChangeSpec := { name := "opParses", fn := fun _ => fun
  | [d] => { results := [.lit (.bool true)], args := [d] }
  | _ => none }
def opParsesRow : OpenClaim := { program := "ytoekddkkjbcicaadoor", sum := "95171b62ea134912606d9996e08190c272ef11d796d00426b7cbe88b4c8afc42", func := "tome/tomelaw40.OpParses", spec := "opParses", recurses := true, named := ["tome/op.names", "tome/op.forms"], apart := false, laid := [("tome/op.names", laid_tome_op_names), ("tome/op.forms", laid_tome_op_forms)] }
def OpParsesSaid : Prop := opParsesRow.holds Tryd.pinned (OpenSpec.ofChange opParsesSpec)

/-- ITS FALSE NEIGHBOUR: 'it returns false'. Refute it at one input. -/
def opParsesWrong : ChangeSpec := { name := "opParses", fn := fun _ => fun
  | [d] => { results := [.lit (.bool false)], args := [d] }
  | _ => none }
def OpParsesWrongFalsely : Prop := opParsesRow.holds Tryd.pinned (OpenSpec.ofChange opParsesWrong)

/-- 'tomelaw40.OpSpoilt': WHATEVER THE INPUT: true; the input reads as it did. -/
def opSpoiltSpec : ChangeSpec := { name := "opSpoilt", fn := fun _ => fun
  | [d1, d2, d3] => { results := [.lit (.bool true)], args := [d1, d2, d3] }
  | _ => none }
def opSpoiltRow : OpenClaim := { program := "ytoekddkkjbcicaadoor", sum := "95171b62ea134912606d9996e08190c272ef11d796d00426b7cbe88b4c8afc42", func := "tome/tomelaw40.OpSpoilt", spec := "opSpoilt", recurses := true, named := ["tome/op.names", "tome/op.forms"], apart := false, laid := [("tome/op.names", laid_tome_op_names), ("tome/op.forms", laid_tome_op_forms)] }
def OpSpoiltSaid : Prop := opSpoiltRow.holds Tryd.pinned (OpenSpec.ofChange opSpoiltSpec)

/-- ITS FALSE NEIGHBOUR: 'it returns false'. Refute it at one input. -/
def opSpoiltWrong : ChangeSpec := { name := "opSpoilt", fn := fun _ => fun
  | [d1, d2, d3] => { results := [.lit (.bool false)], args := [d1, d2, d3] }
  | _ => none }
def OpSpoiltWrongFalsely : Prop := opSpoiltRow.holds Tryd.pinned (OpenSpec.ofChange opSpoiltWrong)

/-- 'tomelaw40.OpChecks': WHATEVER THE INPUT: true; the input reads as it did. -/
def opChecksSpec : ChangeSpec := { name := "opChecks", fn := fun _ => fun
  | [d] => { results := [.lit (.bool true)], args := [d] }
  | _ => none }
def opChecksRow : OpenClaim := { program := "ytoekddkkjbcicaadoor", sum := "95171b62ea134912606d9996e08190c272ef11d796d00426b7cbe88b4c8afc42", func := "tome/tomelaw40.OpChecks", spec := "opChecks", recurses := true, named := ["tome/op.names", "tome/op.forms"], apart := false, laid := [("tome/op.names", laid_tome_op_names), ("tome/op.forms", laid_tome_op_forms)] }
def OpChecksSaid : Prop := opChecksRow.holds Tryd.pinned (OpenSpec.ofChange opChecksSpec)

/-- ITS FALSE NEIGHBOUR: 'it returns false'. Refute it at one input. -/
def opChecksWrong : ChangeSpec := { name := "opChecks", fn := fun _ => fun
  | [d] => { results := [.lit (.bool false)], args := [d] }
  | _ => none }
def OpChecksWrongFalsely : Prop := opChecksRow.holds Tryd.pinned (OpenSpec.ofChange opChecksWrong)

/- THE SECOND FORM. 'bulk': how many values and letters a reading holds, each counted each time it is reached (what is shared counts as often as it is met; a slice's spare places count too). A statement '..UptoSaid' is the law's where the arguments, and the package variables that the reading takes, are together of bulk at most 1048576: NARROWER than '..Said'. Prove '..Said' where nothing that the law and all that it calls make is longer than what came in: it says more and counts as full. Else prove '..UptoSaid'. A law counts once. -/
mutual
def uptoBulk {H : Type} : DataW H → Nat
  | .lit (.string bytes) => bytes.length + 1
  | .lit _ => 1
  | .nil => 1
  | .ptr d => uptoBulk d + 1
  | .slice elems spare => uptoBulkAll elems + uptoBulkAll spare + 1
  | .agg parts => uptoBulkAll parts + 1
  | .iface _ d => uptoBulk d + 1
  | .map entries => uptoBulkEntries entries + 1
  | .held _ => 1
def uptoBulkAll {H : Type} : List (DataW H) → Nat
  | [] => 0
  | d :: r => uptoBulk d + uptoBulkAll r
def uptoBulkEntries {H : Type} : List (Lit × DataW H) → Nat
  | [] => 0
  | x :: r => uptoBulkEntry x + uptoBulkEntries r
def uptoBulkEntry {H : Type} : Lit × DataW H → Nat
  | (.string bytes, d) => bytes.length + uptoBulk d + 1
  | (_, d) => uptoBulk d + 1
 end
def uptoSmall : (H : Type) → List (DataW H) → Bool := fun _ ds => decide (uptoBulkAll ds ≤ 1048576)
def OpenSpec.upto (s : _root_.Go.ChangeSpec) : _root_.Go.OpenSpec := { _root_.Go.OpenSpec.ofChange s with cond := some uptoSmall }

/-- 'tomelaw40.OpNames', WHERE WHAT IT READS IS OF BULK AT MOST 1048576: true; the input reads as it did. -/
def opNamesUptoRow : OpenClaim := { program := "ytoekddkkjbcicaadoor", sum := "95171b62ea134912606d9996e08190c272ef11d796d00426b7cbe88b4c8afc42", func := "tome/tomelaw40.OpNames", spec := "opNames", named := ["tome/op.names", "tome/op.forms"], apart := false, laid := [("tome/op.names", laid_tome_op_names), ("tome/op.forms", laid_tome_op_forms)], narrowed := true }
def OpNamesUptoSaid : Prop := opNamesUptoRow.holds Tryd.pinned (OpenSpec.upto opNamesSpec)

/-- 'tomelaw40.OpParses', WHERE WHAT IT READS IS OF BULK AT MOST 1048576: true; the input reads as it did. -/
def opParsesUptoRow : OpenClaim := { program := "ytoekddkkjbcicaadoor", sum := "95171b62ea134912606d9996e08190c272ef11d796d00426b7cbe88b4c8afc42", func := "tome/tomelaw40.OpParses", spec := "opParses", recurses := true, named := ["tome/op.names", "tome/op.forms"], apart := false, laid := [("tome/op.names", laid_tome_op_names), ("tome/op.forms", laid_tome_op_forms)], narrowed := true }
def OpParsesUptoSaid : Prop := opParsesUptoRow.holds Tryd.pinned (OpenSpec.upto opParsesSpec)

/-- 'tomelaw40.OpSpoilt', WHERE WHAT IT READS IS OF BULK AT MOST 1048576: true; the input reads as it did. -/
def opSpoiltUptoRow : OpenClaim := { program := "ytoekddkkjbcicaadoor", sum := "95171b62ea134912606d9996e08190c272ef11d796d00426b7cbe88b4c8afc42", func := "tome/tomelaw40.OpSpoilt", spec := "opSpoilt", recurses := true, named := ["tome/op.names", "tome/op.forms"], apart := false, laid := [("tome/op.names", laid_tome_op_names), ("tome/op.forms", laid_tome_op_forms)], narrowed := true }
def OpSpoiltUptoSaid : Prop := opSpoiltUptoRow.holds Tryd.pinned (OpenSpec.upto opSpoiltSpec)

/-- 'tomelaw40.OpChecks', WHERE WHAT IT READS IS OF BULK AT MOST 1048576: true; the input reads as it did. -/
def opChecksUptoRow : OpenClaim := { program := "ytoekddkkjbcicaadoor", sum := "95171b62ea134912606d9996e08190c272ef11d796d00426b7cbe88b4c8afc42", func := "tome/tomelaw40.OpChecks", spec := "opChecks", recurses := true, named := ["tome/op.names", "tome/op.forms"], apart := false, laid := [("tome/op.names", laid_tome_op_names), ("tome/op.forms", laid_tome_op_forms)], narrowed := true }
def OpChecksUptoSaid : Prop := opChecksUptoRow.holds Tryd.pinned (OpenSpec.upto opChecksSpec)

end Rows
end Go.Proofs.YtoekddkkjbcicaaDoor
