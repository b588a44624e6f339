/- Part of the proof: see the last text. -/
import Derived.Lib.Strings
import Derived.Laws.Concat
import Derived.WalkKit
import Derived.Laws.BytesArg
import Derived.BigQuiet
import Derived.Deep.QuietTactic
import Derived.Lib.Hide
import Derived.BigGuardPart
import Derived.Still
import Derived.Laws.CopyOwn
import Derived.Laws.Tables
import Derived.Laws.Strings
import GoSem.Op.String
import Derived.Laws.Cover3
import Derived.Laws.StructEq
import Derived.Scope
import Derived.Test.YtlooegbcfkoloaaGreatDoorProg
import Derived.Defers
import Derived.Recover
import Derived.WalkSpells
import Derived.Deep.RegionHeld3
import Derived.BigRegion
import Derived.RegionTactic
import Derived.Deep.Cut
import Derived.Deep.DeepCutAuto
import Derived.WalkLawsBesides
import Derived.Lib.SplitLaws
import Derived.Lib.Replace
import Derived.Shelf.Strings.OnBuilder
import Derived.Shelf.Strings.Replace
import Derived.Deep.RegionLaw
import Derived.Deep.RegionWith
import Derived.ProofKit
import Derived.OpenShut
import Derived.ChangeMaps5
import Derived.Test.YtlooegbcfkoloaaGreatDoorRows
import Derived.Test.YtlooegbcfkoloaaGreatDoorTie
import Derived.Test.YtlooegbcfkoloaaGreatDoorCards
import Derived.LaidMore
import Derived.Stop.Joined
import Derived.SevenTiedAt
import Derived.Shelf.Vars
import Derived.Lay
import Derived.LaidOnce
import Derived.Lib.Join
set_option maxRecDepth 20000
set_option linter.unusedVariables false
set_option linter.unusedSimpArgs false
theorem dz {A : Prop} (h : A := by (first | omega | (simp only [List.length_map, List.length_append, List.length_cons, List.length_nil]; first | done | omega))) : A := h
theorem dq {A : Prop} (h : A := by (first | omega | decide | assumption)) : A := h
theorem zw {B : Nat} {w w' : Go.World} (h : Go.RowKit.Below B w w' := by (repeat (first | with_reducible exact Below.refl _ _ | with_reducible assumption | with_reducible refine Below.drew ?_ | with_reducible refine zh3 ?_ _ | with_reducible refine below_al ?_ _ | with_reducible refine Below.setCell ?_ ?_ _ | exact Nat.le_refl _ | omega | (simp; done) | (simp; omega)))) : Go.RowKit.Below B w w' := h
theorem zb : type_of% (And.intro (And.intro (And.intro @decide_eq_true_eq (And.intro @decide_eq_false_iff_not @beq_iff_eq.{0})) (And.intro @bne_iff_ne.{0} (And.intro @Bool.not_eq_true' @Bool.not_eq_false'))) (And.intro (And.intro @bne_eq_false_iff_eq.{0} (And.intro @beq_eq_false_iff_ne.{0} @ne_eq.{1})) (And.intro @Decidable.not_not (And.intro @Bool.not_true @Bool.not_false)))) := (And.intro (And.intro (And.intro @decide_eq_true_eq (And.intro @decide_eq_false_iff_not @beq_iff_eq.{0})) (And.intro @bne_iff_ne.{0} (And.intro @Bool.not_eq_true' @Bool.not_eq_false'))) (And.intro (And.intro @bne_eq_false_iff_eq.{0} (And.intro @beq_eq_false_iff_ne.{0} @ne_eq.{1})) (And.intro @Decidable.not_not (And.intro @Bool.not_true @Bool.not_false))))
