/- A region that draws its order, whose operations read and whose callees only make new blocks: one walk in the order of the text. -/
import Derived.Test.YtoekddkkjbcicaaDoorMem
set_option linter.unusedVariables false
set_option linter.unusedSimpArgs false
namespace Go.Proofs.YtoekddkkjbcicaaDoor
open Go.RowKit
/-- w' where it has grown from w by new blocks alone; else w. -/
noncomputable def upon (w x : World) : World := @ite _ (Below w.heap.size w x) (Classical.propDecidable _) x w
theorem upon_of {w x : World} (h : Below w.heap.size w x) : upon w x = x := by unfold upon; exact if_pos h
theorem upon_below (w x : World) : Below w.heap.size w (upon w x) := by
  by_cases h : Below w.heap.size w x
  · rw [upon_of h]; exact h
  · have : upon w x = w := by unfold upon; exact if_neg h
    rw [this]; exact Below.refl _ _
theorem upon_cell {w : World} {b o : Nat} {v : Value} (hb : b < w.heap.size) (h : w.cell? ⟨b, o, none⟩ = some v) : ∀ x, (upon w x).cell? ⟨b, o, none⟩ = some v :=
  fun x => ((upon_below w x).cell (p := ⟨b, o, none⟩) hb).trans h
theorem upon_call {P : Program} {f : FuncId} {args : Array Value} {w x : World} {v : Value}
    (h : Calls P f args (upon w x) fun e w' => e = .returned v ∧ Below (upon w x).heap.size (upon w x) w') : Calls P f args (upon w x) fun e w' => e = .returned v ∧ ∃ y, w' = upon w y :=
  h.mono fun e w' ⟨he, hb⟩ => ⟨he, w', (upon_of (below_next (upon_below w x) hb)).symm⟩
theorem upon_same {P : Program} {f : FuncId} {args : Array Value} {w x : World} {v : Value}
    (h : Calls P f args (upon w x) fun e w' => e = .returned v ∧ w' = upon w x) : Calls P f args (upon w x) fun e w' => e = .returned v ∧ ∃ y, w' = upon w y :=
  h.mono fun e w' ⟨he, hb⟩ => ⟨he, x, hb⟩
theorem wp_region_upon {P : Program} {id : Nat} {Q : Exit → Act → World → Prop} {a : Act} {w : World} {l : List Oper} (hm : P.follows .mixedOrders = true) (hB : Region.lexB .any l.toArray = true)
    (h : wpQuiet P l.toArray (fun w' => ∃ x, w' = upon w x) (fun a' => ∀ w', (∃ x, w' = upon w x) → Q .normal a' w') l a) : (Code.region id l.toArray true).wp P Q a w :=
  wp_region_quiet (C := fun w' => ∃ x, w' = upon w x) hm hB ⟨w.drew, (upon_of ((Below.refl _ _).drew)).symm⟩ (by simpa using h)
end Go.Proofs.YtoekddkkjbcicaaDoor
