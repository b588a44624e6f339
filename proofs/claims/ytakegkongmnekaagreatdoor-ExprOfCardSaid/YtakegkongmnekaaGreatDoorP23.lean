/- Part of the proof: see the last text. -/
import Derived.Test.YtakegkongmnekaaGreatDoorP22
set_option maxRecDepth 20000
set_option linter.unusedVariables false
set_option linter.unusedSimpArgs false
namespace Vm
open Go Go.RowKit
theorem zlx (st : Nat → Ent) (T : TypeId) (cs : List V) : Ent.frz st (.blk T cs) = .blk T (cs.map (res st)) := rfl
theorem zlw (st : Nat → Ent) (T z : Nat) (xs : List V) : Ent.frz st (.row T z xs) = .row T z xs := rfl
theorem zhM (st : Nat → Ent) : Ent.frz st .gone = .gone := rfl
def envF (x : X) : List Nat → List (Nat × V) | [] => [] | t :: r => (t, res x.st (x.env t)) :: envF x r
def stF (x : X) : List Nat → List (Nat × Ent) | [] => [] | t :: r => (t, (x.st t).frz x.st) :: stF x r
theorem zoe (live keep : List Nat) (x : X) : scrub live keep (x.frz true) = mkX (envF x live) (stF x keep) := by
 rw [zbi]
 have h1 : ∀ l, envL (x.frz true).env l = envF x l := fun l => by induction l with | nil => rfl | cons t r ih => rw [envL, envF, ih]; rfl
 have h2 : ∀ l, stL (x.frz true).st l = stF x l := fun l => by induction l with | nil => rfl | cons t r ih => rw [stL, stF, ih]; rfl
 rw [h1, h2]
def onF (p : Nat → Bool) (x : X) : List Nat → Prop | [] => True | t :: r => (res x.st (x.env t)).on p = true ∧ onF p x r
def onG (p : Nat → Bool) (x : X) : List Nat → Prop | [] => True | t :: r => ((x.st t).frz x.st).on p = true ∧ onG p x r
theorem zlr {n0 : Nat} {live keep : List Nat} {x : X} (h1 : (List.range n0).all (keep.contains ·) = true) (h2 : onF (keep.contains ·) x live) (h3 : onG (keep.contains ·) x keep) : okScrub n0 live keep (x.frz true) := by
 refine ziA h1 ?_ ?_
 ·clear h1 h3
  generalize (keep.contains ·) = p at *
  induction live with
  | nil => trivial
  | cons t r ih => exact ⟨h2.1, ih h2.2⟩
 ·clear h1 h2
  generalize (keep.contains ·) = p at *
  induction keep with
  | nil => trivial
  | cons t r ih => exact ⟨h3.1, ih h3.2⟩
theorem loF {A : Prop} (h : A := by
  exact zlr (by rfl) (by first | (simp (config := {maxSteps := 1000000}) (disch := omega) [onF, onS, zcW, zdt, zdu, zds, zcn, zck, zdx, zdr, zci, zcj, zbt, zbL, zfZ, zbK, zdw, zf0, zdv, zcm, zcl, res_bool, res_int, res_str, res_list, res_ip, res_ptr, res_row, res_nilp, res_fn, res_nils, zdp, zd4, zhw, res_tup, zd3, res_any, zlx, zlw, zhM, List.map_cons, List.map_nil, List.take_of_length_le, Nat.le_refl, if_true, ↓zaj, ↓zak, ↓zar, ↓zaq, ↓zap, ↓zas, ↓zaz, ↓zab, ↓zae, ↓zaa, ↓zac, ↓ev_t, ↓ev_c, *]; done) | fail) (by first | (simp (config := {maxSteps := 1000000}) (disch := omega) [onG, onS, zcW, zdt, zdu, zds, zcn, zck, zdx, zdr, zci, zcj, zbt, zbL, zfZ, zbK, zdw, zf0, zdv, zcm, zcl, res_bool, res_int, res_str, res_list, res_ip, res_ptr, res_row, res_nilp, res_fn, res_nils, zdp, zd4, zhw, res_tup, zd3, res_any, zlx, zlw, zhM, List.map_cons, List.map_nil, List.take_of_length_le, Nat.le_refl, if_true, ↓zaj, ↓zak, ↓zar, ↓zaq, ↓zap, ↓zas, ↓zaz, ↓zab, ↓zae, ↓zaa, ↓zac, ↓ev_t, ↓ev_c, *]; done) | fail)) : A := h
theorem leF {A : Prop} (h : A := by
  rw [zoe]; first | (simp (config := {maxSteps := 1000000}) (disch := omega) [envF, stF, res_bool, res_int, res_str, res_list, res_ip, res_ptr, res_row, res_nilp, res_fn, res_nils, zdp, zd4, zhw, res_tup, zd3, res_any, zlx, zlw, zhM, List.map_cons, List.map_nil, List.take_of_length_le, Nat.le_refl, if_true, ↓zaj, ↓zak, ↓zar, ↓zaq, ↓zap, ↓zas, ↓zaz, ↓zab, ↓zae, ↓zaa, ↓zac, ↓ev_t, ↓ev_c, *]; first | rfl | done) | fail) : A := h
end Vm
