import Derived.Test.YtoekddkkjbcicaaDoorOqD
import Derived.Test.YtoekddkkjbcicaaDoorLaw
import Derived.Test.YtoekddkkjbcicaaDoorRows
import Derived.Test.YtoekddkkjbcicaaDoorTie
import Derived.Test.YtoekddkkjbcicaaDoorCards
import Derived.LaidMore
import Derived.Stop.Joined
import Derived.SevenTiedAt
set_option linter.unusedVariables false
set_option linter.unusedSimpArgs false
namespace Go.Proofs.YtoekddkkjbcicaaDoor
open Go.RowKit
open Go.ChangeShapes Go.WideShapes Go.ChangeAt Go.WideElems
section
variable {H : Type} {enc : TypeId × Value → H} {P : Program}
theorem arr_of_trod {w : World} {base fuel n : Nat} {t e : TypeId} {spare : Nat → Bool} {held : Bool} {cs : List Value} {p : List MemPlace} (ht : P.underlying t = some (.array n e)) (he : P.underlying e = some .string) (hce : P.cellsOf e = 1)
    (L : List (List UInt8)) (hn : L.length = n) (h : DataW.trod enc P w base spare held fuel t cs = some (.agg (L.map fun s => .lit (.string s)), p)) :
    ∀ (i : Nat) (s : List UInt8), L[i]? = some s → cs[i]? = some (Value.string (Lx.bs s)) := by
  obtain ⟨xs, m, rfl, hx, hlen, hxn, hel⟩ := DataW.trod_array ht h
  intro i s hi
  have hin : i < n := by rw [← hn]; exact (List.getElem?_eq_some_iff.1 hi).1
  have h1 := hel i hin
  rw [hce, Nat.mul_one] at h1
  obtain ⟨x, hxi⟩ : ∃ x, xs[i]? = some x := ⟨_, List.getElem?_eq_getElem (by omega)⟩
  rw [hxi] at h1
  obtain ⟨b, hb, hxe, _⟩ := DataW.trod_string he h1
  have hm : (xs.map (·.1))[i]? = (L.map fun s => (DataW.lit (.string s) : DataW H))[i]? := by
    have := (Prod.mk.injEq _ _ _ _ ▸ hx : _ ∧ _).1
    simp only [DataW.agg.injEq] at this
    rw [this]
  rw [List.getElem?_map, List.getElem?_map, hxi, hi, hxe] at hm
  simp only [Option.map_some, Option.some.injEq, DataW.lit.injEq, Lit.string.injEq] at hm
  have hbs : b = Lx.bs s := by rw [← hm]; exact (Lx.bs_ls b).symm
  have h0 : ((cs.drop i).take 1)[0]? = some (.string b) := by rw [hb]; rfl
  rw [List.getElem?_take_of_lt (by decide), List.getElem?_drop, Nat.add_zero] at h0
  rw [h0, hbs]
end
theorem g_names : Tryd.prog.globalNamed "tome/op.names" = some 0 := by kernel_rfl
theorem g_forms : Tryd.prog.globalNamed "tome/op.forms" = some 1 := by kernel_rfl
theorem t_names : (Tryd.prog.globals[0]?).map (·.type) = some 45 := by kernel_rfl
theorem t_forms : (Tryd.prog.globals[1]?).map (·.type) = some 45 := by kernel_rfl
abbrev laidL : List (String × DataW Unit) := [("tome/op.names", Rows.laid_tome_op_names), ("tome/op.forms", Rows.laid_tome_op_forms)]
theorem cells_string : Tryd.prog.cellsOf 9 = 1 := by kernel_rfl
/-- What the condition gives the walks: the two laid variables. -/
theorem laid_of {W : World} (h : laidMetH Tryd.prog laidL W) : Laid W := by
  rw [MakeChecks.laidMetH_plain _ _ _ (by kernel_rfl)] at h
  obtain ⟨ps, ⟨g0, t0, cs0, f0, p0, q0, hg0, ht0, hv0, hd0, ⟨g1, t1, cs1, f1, p1, q1, hg1, ht1, hv1, hd1, _, _⟩, _⟩, _, _⟩ := h
  obtain rfl := Option.some.inj (g_names.symm.trans hg0)
  obtain rfl := Option.some.inj (g_forms.symm.trans hg1)
  obtain rfl := Option.some.inj (t_names.symm.trans ht0)
  obtain rfl := Option.some.inj (t_forms.symm.trans ht1)
  have h0 := arr_of_trod Tryd.underlying45 Tryd.underlying9 cells_string Ox.names rfl hd0
  have h1 := arr_of_trod Tryd.underlying45 Tryd.underlying9 cells_string Ox.forms rfl hd1
  have c0 : ∀ i s, Ox.names[i]? = some s → W.cell? ⟨0, i, none⟩ = some (.string (Lx.bs s)) := fun i s hi => by
    rw [World.var?_cell hg0 hv0 i]; simpa using h0 i s hi
  have c1 : ∀ i s, Ox.forms[i]? = some s → W.cell? ⟨1, i, none⟩ = some (.string (Lx.bs s)) := fun i s hi => by
    rw [World.var?_cell hg1 hv1 i]; simpa using h1 i s hi
  refine ⟨?_, c0, c1⟩
  have := c1 0 _ rfl
  unfold World.cell? at this
  by_cases hs : 1 < W.heap.size
  · omega
  · rw [Array.getElem?_eq_none (by show W.heap.size ≤ 1; omega)] at this
    cases this
theorem door_met (os : Os) (args : Array Value) : laidMetH Tryd.prog laidL ((World.doorLaid Tryd.prog 400 os).forCall (fun _ _ => 0) ⟨#[], args, []⟩).memory :=
  laidMetH_of_parts3 (fuel := 8) (laidMet_of_run' 8 (by kernel_rfl) (by kernel_rfl)) (by kernel_rfl) (by kernel_rfl)
theorem opOwn_ : ownKnob Tryd.prog.godebug = none := by kernel_rfl
end Go.Proofs.YtoekddkkjbcicaaDoor
