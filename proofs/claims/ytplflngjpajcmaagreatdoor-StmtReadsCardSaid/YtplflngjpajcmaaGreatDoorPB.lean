/- Part of the proof: see the last text. -/
import Derived.Lib.Strings
import Derived.Laws.Concat
import Derived.WalkKit
import Derived.Laws.BytesArg
import Derived.BigQuiet
import Derived.Deep.QuietTactic
import Derived.Lib.Hide
import Derived.BigGuardPart
import Derived.Still
import Derived.Laws.CopyOwn
import Derived.Laws.Tables
import Derived.Laws.Strings
import GoSem.Op.String
import Derived.Laws.Cover3
import Derived.Laws.StructEq
import Derived.Scope
import Derived.Test.YtplflngjpajcmaaGreatDoorProg
import Derived.Defers
import Derived.Recover
import Derived.WalkSpells
import Derived.Deep.RegionHeld3
import Derived.BigRegion
import Derived.RegionTactic
import Derived.Deep.Cut
import Derived.Deep.DeepCutAuto
import Derived.WalkLawsBesides
import Derived.Lib.SplitLaws
import Derived.Lib.Replace
import Derived.Shelf.Strings.OnBuilder
import Derived.Shelf.Strings.Replace
import Derived.Deep.RegionLaw
import Derived.Deep.RegionWith
import Derived.ProofKit
import Derived.OpenShut
import Derived.ChangeMaps5
import Derived.Test.YtplflngjpajcmaaGreatDoorRows
import Derived.Test.YtplflngjpajcmaaGreatDoorTie
import Derived.Test.YtplflngjpajcmaaGreatDoorCards
import Derived.LaidMore
import Derived.Stop.Joined
import Derived.SevenTiedAt
import Derived.Shelf.Vars
import Derived.Lay
import Derived.LaidOnce
import Derived.Deep.Slices
import Derived.SizedLaws
import Derived.WideShapes
import Derived.WideKeyArgs
set_option maxRecDepth 20000
set_option linter.unusedVariables false
set_option linter.unusedSimpArgs false
theorem dz {A : Prop} (h : A := by (first | omega | (simp only [List.length_map, List.length_append, List.length_cons, List.length_nil]; first | done | omega))) : A := h
theorem dq {A : Prop} (h : A := by (first | omega | decide | assumption)) : A := h
theorem zw {B : Nat} {w w' : Go.World} (h : Go.RowKit.Below B w w' := by (repeat (first | with_reducible exact Below.refl _ _ | with_reducible assumption | with_reducible refine Below.drew ?_ | with_reducible refine zc3 ?_ _ | with_reducible refine below_al ?_ _ | with_reducible refine Below.setCell ?_ ?_ _ | exact Nat.le_refl _ | omega | (simp; done) | (simp; omega)))) : Go.RowKit.Below B w w' := h
theorem zb : type_of% (And.intro (And.intro (And.intro @decide_eq_true_eq (And.intro @decide_eq_false_iff_not @beq_iff_eq.{0})) (And.intro @bne_iff_ne.{0} (And.intro @Bool.not_eq_true' @Bool.not_eq_false'))) (And.intro (And.intro @bne_eq_false_iff_eq.{0} (And.intro @beq_eq_false_iff_ne.{0} @ne_eq.{1})) (And.intro @Decidable.not_not (And.intro @Bool.not_true @Bool.not_false)))) := (And.intro (And.intro (And.intro @decide_eq_true_eq (And.intro @decide_eq_false_iff_not @beq_iff_eq.{0})) (And.intro @bne_iff_ne.{0} (And.intro @Bool.not_eq_true' @Bool.not_eq_false'))) (And.intro (And.intro @bne_eq_false_iff_eq.{0} (And.intro @beq_eq_false_iff_ne.{0} @ne_eq.{1})) (And.intro @Decidable.not_not (And.intro @Bool.not_true @Bool.not_false))))
theorem qb0 : type_of% (And.intro @Bool.false_eq_true @if_false.{1}) := (And.intro @Bool.false_eq_true @if_false.{1})
theorem qa1 : type_of% @List.eq_nil_of_length_eq_zero.{0} := @List.eq_nil_of_length_eq_zero.{0}
theorem qa2 : type_of% @Array.getD_eq_getD_getElem?.{0} := @Array.getD_eq_getD_getElem?.{0}
theorem qa3 : type_of% @List.getD_eq_getElem?_getD.{0} := @List.getD_eq_getElem?_getD.{0}
theorem qa4 : type_of% @List.getElem?_eq_some_iff.{0} := @List.getElem?_eq_some_iff.{0}
theorem qa5 : type_of% @List.getElem?_eq_getElem.{0} := @List.getElem?_eq_getElem.{0}
theorem qa6 : type_of% @List.getElem?_cons_zero.{0} := @List.getElem?_cons_zero.{0}
theorem qa7 : type_of% @Nat.add_sub_cancel_left := @Nat.add_sub_cancel_left
theorem qa8 : type_of% @List.mem_of_getElem?.{0} := @List.mem_of_getElem?.{0}
theorem qa9 : type_of% @List.map_congr_left.{0,0} := @List.map_congr_left.{0,0}
theorem qa10 : type_of% @List.mem_map_of_mem.{0,0} := @List.mem_map_of_mem.{0,0}
theorem qa11 : type_of% @beq_eq_false_iff_ne.{0} := @beq_eq_false_iff_ne.{0}
theorem qa12 : type_of% @Bool.false_eq_true := @Bool.false_eq_true
theorem qa13 : type_of% @List.length_append.{0} := @List.length_append.{0}
theorem qa14 : type_of% @Nat.lt_of_lt_of_le := @Nat.lt_of_lt_of_le
theorem qa15 : type_of% @List.getElem?_map.{0,0} := @List.getElem?_map.{0,0}
theorem qa16 : type_of% @decide_eq_true_eq := @decide_eq_true_eq
theorem qa17 : type_of% @Option.some.injEq.{0} := @Option.some.injEq.{0}
theorem qa18 : type_of% @Bool.not_eq_true' := @Bool.not_eq_true'
theorem qa19 : type_of% @List.append_assoc.{0} := @List.append_assoc.{0}
theorem qa20 : type_of% @List.length_cons.{0} := @List.length_cons.{0}
theorem qa21 : type_of% @Bool.and_eq_true := @Bool.and_eq_true
theorem qa22 : type_of% @List.all_eq_true.{0} := @List.all_eq_true.{0}
theorem qa23 : type_of% @List.length_take.{0} := @List.length_take.{0}
theorem qa24 : type_of% @List.length_drop.{0} := @List.length_drop.{0}
theorem qa25 : type_of% @List.length_nil.{0} := @List.length_nil.{0}
theorem qa26 : type_of% @List.nil_append.{0} := @List.nil_append.{0}
theorem qa27 : type_of% @Bool.or_eq_true := @Bool.or_eq_true
theorem qa28 : type_of% @decide_eq_false := @decide_eq_false
theorem qa29 : type_of% @List.mem_append.{0} := @List.mem_append.{0}
theorem qa30 : type_of% @decide_eq_true := @decide_eq_true
theorem qa31 : type_of% @List.drop_drop.{0} := @List.drop_drop.{0}
theorem qa32 : type_of% @List.map_cons.{0,0} := @List.map_cons.{0,0}
theorem qa33 : type_of% @List.mem_cons.{0} := @List.mem_cons.{0}
theorem qa34 : type_of% @List.all_cons.{0} := @List.all_cons.{0}
theorem qa35 : type_of% @List.mem_map.{0,0} := @List.mem_map.{0,0}
theorem qa36 : type_of% @Nat.le_trans := @Nat.le_trans
theorem qa37 : type_of% @Nat.le_refl := @Nat.le_refl
theorem qa38 : type_of% @Go.Lib.hid := @Go.Lib.hid
theorem qa39 : type_of% @if_true.{1} := @if_true.{1}
