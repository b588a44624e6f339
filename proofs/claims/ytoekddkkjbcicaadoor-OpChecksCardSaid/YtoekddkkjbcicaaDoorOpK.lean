import Derived.Test.YtoekddkkjbcicaaDoorOpJ
set_option linter.unusedVariables false
set_option linter.unusedSimpArgs false
namespace Go.Proofs.YtoekddkkjbcicaaDoor
open Go.RowKit
attribute [local simp] Lx.bs_size
/-- What the listed variables hold. -/
def Laid (w : World) : Prop :=
  2 ≤ w.heap.size ∧ (∀ i s, Ox.names[i]? = some s → w.cell? ⟨0, i, none⟩ = some (.string (Lx.bs s))) ∧ (∀ i s, Ox.forms[i]? = some s → w.cell? ⟨1, i, none⟩ = some (.string (Lx.bs s)))
theorem laid_keep {w w1 : World} (h : Laid w) (hb : Below w.heap.size w w1) : Laid w1 := by
  obtain ⟨h0, h1, h2⟩ := h
  have := hb.size
  exact ⟨by omega, fun i s hi => (hb.cell (p := ⟨0, i, none⟩) (by show 0 < _; omega)).trans (h1 i s hi), fun i s hi => (hb.cell (p := ⟨1, i, none⟩) (by show 1 < _; omega)).trans (h2 i s hi)⟩
theorem opName_any (code : Int) (w : World) (hl : Laid w) :
    Calls Tryd.prog 7 #[.int .i64 code] w fun e w' => e = .returned (.string (Lx.bs (Ox.nameOf code))) ∧ w = w' := by
  by_cases h : 0 ≤ code ∧ code ≤ 33
  · obtain ⟨c, hc⟩ : ∃ c : Nat, code = (c : Int) := ⟨code.toNat, by omega⟩
    subst hc
    have hc33 : c ≤ 33 := by omega
    have hr : Ox.nameOf (c : Int) = (Ox.names[c]?).getD [] := by
      rw [Ox.nameOf, decide_eq_false (by omega), decide_eq_false (by omega)]; rfl
    obtain ⟨s, hs⟩ : ∃ s, Ox.names[c]? = some s := ⟨_, List.getElem?_eq_getElem (show c < Ox.names.length from by have : Ox.names.length = 34 := rfl; omega)⟩
    rw [hr, hs]
    have a0 := hl.2.1 c s hs
    show Calls Tryd.prog 7 #[.int .i64 c] w fun e w' => e = .returned (.string (Lx.bs s)) ∧ w = w'
    clear hr hs hl h
    go_enter Tryd.func7, Tryd.ntmps7
    go_wp2
    go_ret
    exact ⟨rfl, rfl⟩
  · have hr : Ox.nameOf code = [] := by
      rw [Ox.nameOf]
      by_cases h0 : code < 0
      · rw [decide_eq_true h0]; rfl
      · rw [decide_eq_false h0, decide_eq_true (by omega)]; rfl
    rw [hr]
    by_cases h0 : code < 0
    · have d0 : decide (code < 0) = true := decide_eq_true h0
      go_enter Tryd.func7, Tryd.ntmps7
      go_wp2
      go_ret
      exact ⟨rfl, rfl⟩
    · have d0 : decide (code < 0) = false := decide_eq_false h0
      have d1 : decide (33 < code) = true := decide_eq_true (by omega)
      go_enter Tryd.func7, Tryd.ntmps7
      go_wp2
      go_ret
      exact ⟨rfl, rfl⟩
theorem rnames_any (w : World) :
    Calls Tryd.prog 20 #[] w fun e w' => ∃ v, e = .returned v ∧ Row1 w' v 34 (sts Ox.names) ∧ Below w.heap.size w w' := by
  go_enter Tryd.func20, Tryd.ntmps20
  go_wp2
  go_ret
  exact ⟨_, rfl, row1_new (n := 34) (by simp) rfl (by decide), by (repeat (first | with_reducible exact Below.refl _ _ | with_reducible assumption | with_reducible refine Below.drew ?_ | with_reducible refine below_drewN ?_ _ | with_reducible refine below_al ?_ _ | with_reducible refine Below.setCell ?_ ?_ _ | exact Nat.le_refl _ | omega | (simp; done) | (simp; omega)))⟩
theorem rshapes_any (w : World) :
    Calls Tryd.prog 25 #[] w fun e w' => ∃ v, e = .returned v ∧ Row1 w' v 34 (sts Ox.shapes) ∧ Below w.heap.size w w' := by
  go_enter Tryd.func25, Tryd.ntmps25
  go_wp2
  go_ret
  exact ⟨_, rfl, row1_new (n := 34) (by simp) rfl (by decide), by (repeat (first | with_reducible exact Below.refl _ _ | with_reducible assumption | with_reducible refine Below.drew ?_ | with_reducible refine below_drewN ?_ _ | with_reducible refine below_al ?_ _ | with_reducible refine Below.setCell ?_ ?_ _ | exact Nat.le_refl _ | omega | (simp; done) | (simp; omega)))⟩
theorem row1_some {w : World} {v : Value} {n : Nat} {xs : List Value} (h : Row1 w v n xs) (h0 : 0 < n) : ∃ g c, v = .slice (some ⟨g, 0, none⟩) n c ∧ g < w.heap.size ∧ n ≤ c ∧ c ≤ maxLen ∧ ∀ j u, xs[j]? = some u → w.cell? ⟨g, j, none⟩ = some u := by
  rcases h with ⟨h1, _⟩ | h
  · omega
  · exact h
theorem rName_any (code : Int) (w : World) :
    Calls Tryd.prog 8 #[.int .i64 code] w fun e w' => e = .returned (.string (Lx.bs (Ox.nameOf code))) ∧ Below w.heap.size w w' := by
  by_cases h : 0 ≤ code ∧ code ≤ 33
  · obtain ⟨c, hc⟩ : ∃ c : Nat, code = (c : Int) := ⟨code.toNat, by omega⟩
    subst hc
    have hc33 : c < 34 := by omega
    have hr : Ox.nameOf (c : Int) = (Ox.names[c]?).getD [] := by
      rw [Ox.nameOf, decide_eq_false (by omega), decide_eq_false (by omega)]; rfl
    obtain ⟨s, hs⟩ : ∃ s, Ox.names[c]? = some s := ⟨_, List.getElem?_eq_getElem (show c < Ox.names.length from by have : Ox.names.length = 34 := rfl; omega)⟩
    rw [hr, hs]
    have HS := Lib.hid hs
    show Calls Tryd.prog 8 #[.int .i64 c] w fun e w' => e = .returned (.string (Lx.bs s)) ∧ Below w.heap.size w w'
    clear hr hs h
    go_enter Tryd.func8, Tryd.ntmps8
    go_wp2_with fail
    refine (rnames_any w).mono ?_
    rintro e w1 ⟨v, rfl, hrow, hb1⟩
    obtain ⟨g, cc, rfl, hg, hcc, hm, hx⟩ := row1_some hrow (by omega)
    have a0 : w1.cell? ⟨g, c, none⟩ = some (.string (Lx.bs s)) := hx c _ (sts_at HS.out)
    clear hrow hx
    go_wp2
    go_ret
    exact ⟨rfl, hb1⟩
  · have hr : Ox.nameOf code = [] := by
      rw [Ox.nameOf]
      by_cases h0 : code < 0
      · rw [decide_eq_true h0]; rfl
      · rw [decide_eq_false h0, decide_eq_true (by omega)]; rfl
    rw [hr]
    by_cases h0 : code < 0
    · have d0 : decide (code < 0) = true := decide_eq_true h0
      go_enter Tryd.func8, Tryd.ntmps8
      go_wp2
      go_ret
      exact ⟨rfl, Below.refl _ _⟩
    · have d0 : decide (code < 0) = false := decide_eq_false h0
      have d1 : decide (33 < code) = true := decide_eq_true (by omega)
      go_enter Tryd.func8, Tryd.ntmps8
      go_wp2
      go_ret
      exact ⟨rfl, Below.refl _ _⟩
end Go.Proofs.YtoekddkkjbcicaaDoor
