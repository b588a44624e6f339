import Derived.Test.YtoekddkkjbcicaaDoorOpE
import Derived.BigRegion
set_option linter.unusedVariables false
set_option linter.unusedSimpArgs false
namespace Go.Proofs.YtoekddkkjbcicaaDoor
open Go.RowKit
attribute [local simp] Lx.bs_size
def ints (l : List Int) : List Value := l.map fun n => .int .i64 n
def SevE (w : World) (o : Ox.Op) (e : Ending) (w' : World) : Prop :=
  ∃ v, e = .returned (.tuple #[v, .int .i64 (Ox.several o).2]) ∧ Row1 w' v (Ox.several o).1.length (ints (Ox.several o).1) ∧ Below w.heap.size w w'
theorem row1_new {W : World} {C : Array Value} {T : TypeId} {n g : Nat} (hg : g = W.heap.size) (hn : C.size = n) (hm : n ≤ 1000) : Row1 (W.alloc (.cells C T)) (.slice (some ⟨g, 0, none⟩) n n) n C.toList := by
  subst hg
  refine .inr ⟨_, _, rfl, by simp, Nat.le_refl _, by simp only [maxLen]; omega, fun j u hu => ?_⟩
  rw [cell_new]
  simpa using hu
set_option maxHeartbeats 1000000 in
theorem several_any (o : Ox.Op) (kv : Value) (w : World) :
    Calls Tryd.prog 29 #[.agg #[.int .i64 o.code, .int .i64 o.p1, .int .i64 o.p2, .int .i64 o.p3, .int .i64 o.vk, .int .i64 o.vn, .string (Lx.bs o.vs), kv, .string (Lx.bs o.name)]] w fun e w' => SevE w o e w' := by
  obtain ⟨code, p1, p2, p3, vk, vn, vs, keys, name⟩ := o
  by_cases h10 : code = 10
  · subst h10
    go_enter Tryd.func29, Tryd.ntmps29
    go_wp2
    go_region
    all_goals
      go_wp2
      go_ret2
      exact ⟨_, rfl, row1_new (n := 1) (by simp) rfl (by omega), by (repeat (first | with_reducible exact Below.refl _ _ | with_reducible assumption | with_reducible refine Below.drew ?_ | with_reducible refine below_drewN ?_ _ | with_reducible refine below_al ?_ _ | with_reducible refine Below.setCell ?_ ?_ _ | exact Nat.le_refl _ | omega | (simp; done) | (simp; omega)))⟩
  by_cases h11 : code = 11
  · subst h11
    go_enter Tryd.func29, Tryd.ntmps29
    go_wp2
    go_region
    all_goals
      go_wp2
      go_ret2
      exact ⟨_, rfl, row1_new (n := 1) (by simp) rfl (by omega), by (repeat (first | with_reducible exact Below.refl _ _ | with_reducible assumption | with_reducible refine Below.drew ?_ | with_reducible refine below_drewN ?_ _ | with_reducible refine below_al ?_ _ | with_reducible refine Below.setCell ?_ ?_ _ | exact Nat.le_refl _ | omega | (simp; done) | (simp; omega)))⟩
  by_cases h12 : code = 12
  · subst h12
    go_enter Tryd.func29, Tryd.ntmps29
    go_wp2
    go_region
    all_goals
      go_wp2
      go_ret2
      exact ⟨_, rfl, row1_new (n := 1) (by simp) rfl (by omega), by (repeat (first | with_reducible exact Below.refl _ _ | with_reducible assumption | with_reducible refine Below.drew ?_ | with_reducible refine below_drewN ?_ _ | with_reducible refine below_al ?_ _ | with_reducible refine Below.setCell ?_ ?_ _ | exact Nat.le_refl _ | omega | (simp; done) | (simp; omega)))⟩
  by_cases h13 : code = 13
  · subst h13
    go_enter Tryd.func29, Tryd.ntmps29
    go_wp2
    go_region
    all_goals
      go_wp2
      go_ret2
      exact ⟨_, rfl, row1_new (n := 1) (by simp) rfl (by omega), by (repeat (first | with_reducible exact Below.refl _ _ | with_reducible assumption | with_reducible refine Below.drew ?_ | with_reducible refine below_drewN ?_ _ | with_reducible refine below_al ?_ _ | with_reducible refine Below.setCell ?_ ?_ _ | exact Nat.le_refl _ | omega | (simp; done) | (simp; omega)))⟩
  by_cases h27 : code = 27
  · subst h27
    go_enter Tryd.func29, Tryd.ntmps29
    go_wp2
    go_region
    all_goals
      go_wp2
      go_ret2
      exact ⟨_, rfl, row1_new (n := 1) (by simp) rfl (by omega), by (repeat (first | with_reducible exact Below.refl _ _ | with_reducible assumption | with_reducible refine Below.drew ?_ | with_reducible refine below_drewN ?_ _ | with_reducible refine below_al ?_ _ | with_reducible refine Below.setCell ?_ ?_ _ | exact Nat.le_refl _ | omega | (simp; done) | (simp; omega)))⟩
  by_cases h28 : code = 28
  · subst h28
    go_enter Tryd.func29, Tryd.ntmps29
    go_wp2
    go_region
    all_goals
      go_wp2
      go_ret2
      exact ⟨_, rfl, row1_new (n := 1) (by simp) rfl (by omega), by (repeat (first | with_reducible exact Below.refl _ _ | with_reducible assumption | with_reducible refine Below.drew ?_ | with_reducible refine below_drewN ?_ _ | with_reducible refine below_al ?_ _ | with_reducible refine Below.setCell ?_ ?_ _ | exact Nat.le_refl _ | omega | (simp; done) | (simp; omega)))⟩
  by_cases h33 : code = 33
  · subst h33
    go_enter Tryd.func29, Tryd.ntmps29
    go_wp2
    go_region
    all_goals
      go_wp2
      go_ret2
      exact ⟨_, rfl, row1_new (n := 2) (by simp) rfl (by omega), by (repeat (first | with_reducible exact Below.refl _ _ | with_reducible assumption | with_reducible refine Below.drew ?_ | with_reducible refine below_drewN ?_ _ | with_reducible refine below_al ?_ _ | with_reducible refine Below.setCell ?_ ?_ _ | exact Nat.le_refl _ | omega | (simp; done) | (simp; omega)))⟩
  by_cases h18 : code = 18
  · subst h18
    go_enter Tryd.func29, Tryd.ntmps29
    go_wp2
    go_region
    all_goals
      go_wp2
      go_ret2
      exact ⟨_, rfl, row1_new (n := 1) (by simp) rfl (by omega), by (repeat (first | with_reducible exact Below.refl _ _ | with_reducible assumption | with_reducible refine Below.drew ?_ | with_reducible refine below_drewN ?_ _ | with_reducible refine below_al ?_ _ | with_reducible refine Below.setCell ?_ ?_ _ | exact Nat.le_refl _ | omega | (simp; done) | (simp; omega)))⟩
  by_cases h20 : code = 20
  · subst h20
    go_enter Tryd.func29, Tryd.ntmps29
    go_wp2
    go_region
    all_goals
      go_wp2
      go_ret2
      exact ⟨_, rfl, row1_new (n := 1) (by simp) rfl (by omega), by (repeat (first | with_reducible exact Below.refl _ _ | with_reducible assumption | with_reducible refine Below.drew ?_ | with_reducible refine below_drewN ?_ _ | with_reducible refine below_al ?_ _ | with_reducible refine Below.setCell ?_ ?_ _ | exact Nat.le_refl _ | omega | (simp; done) | (simp; omega)))⟩
  by_cases h22 : code = 22
  · subst h22
    go_enter Tryd.func29, Tryd.ntmps29
    go_wp2
    go_region
    all_goals
      go_wp2
      go_ret2
      exact ⟨_, rfl, row1_new (n := 1) (by simp) rfl (by omega), by (repeat (first | with_reducible exact Below.refl _ _ | with_reducible assumption | with_reducible refine Below.drew ?_ | with_reducible refine below_drewN ?_ _ | with_reducible refine below_al ?_ _ | with_reducible refine Below.setCell ?_ ?_ _ | exact Nat.le_refl _ | omega | (simp; done) | (simp; omega)))⟩
  have d10 : (code == 10) = false := by simpa using h10
  have d11 : (code == 11) = false := by simpa using h11
  have d12 : (code == 12) = false := by simpa using h12
  have d13 : (code == 13) = false := by simpa using h13
  have d27 : (code == 27) = false := by simpa using h27
  have d28 : (code == 28) = false := by simpa using h28
  have d33 : (code == 33) = false := by simpa using h33
  have d18 : (code == 18) = false := by simpa using h18
  have d20 : (code == 20) = false := by simpa using h20
  have d22 : (code == 22) = false := by simpa using h22
  have hs : Ox.several ⟨code, p1, p2, p3, vk, vn, vs, keys, name⟩ = ([], 0) := by
    unfold Ox.several Ox.sevC
    simp only [decide_eq_false h10, decide_eq_false h11, decide_eq_false h12, decide_eq_false h13, decide_eq_false h27, decide_eq_false h28, Bool.or_false, if_neg h33, if_neg h18, if_neg h20, if_neg h22]
    rfl
  unfold SevE
  rw [hs]
  clear hs h10 h11 h12 h13 h27 h28 h33 h18 h20 h22
  go_enter Tryd.func29, Tryd.ntmps29
  go_wp2
  go_ret2
  exact ⟨_, rfl, .inl ⟨rfl, rfl⟩, by (repeat (first | with_reducible exact Below.refl _ _ | with_reducible assumption | with_reducible refine Below.drew ?_ | with_reducible refine below_drewN ?_ _ | with_reducible refine below_al ?_ _ | with_reducible refine Below.setCell ?_ ?_ _ | exact Nat.le_refl _ | omega | (simp; done) | (simp; omega)))⟩
end Go.Proofs.YtoekddkkjbcicaaDoor
