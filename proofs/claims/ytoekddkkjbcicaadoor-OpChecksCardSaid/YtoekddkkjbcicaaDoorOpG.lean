import Derived.Test.YtoekddkkjbcicaaDoorOpF
set_option linter.unusedVariables false
set_option linter.unusedSimpArgs false
namespace Go.Proofs.YtoekddkkjbcicaaDoor
open Go.RowKit
attribute [local simp] Lx.bs_size
theorem ret_z {k : IntKind} {a b : Int} (h : a = b) : Ending.returned (.int k a) = .returned (.int k b) := by rw [h]
set_option maxHeartbeats 2000000 in
theorem valued_any (k : UInt8) (vk vn : Int) (vs : Ox.S) (w : World) :
    Calls Tryd.prog 50 #[.int .u8 k.toNat, .agg #[.int .i64 vk, .int .i64 vn, .string (Lx.bs vs)]] w fun e w' => e = .returned (.bool (Ox.valued k vk vn vs)) ∧ Below w.heap.size w w' := by
  by_cases h0 : vs = []
  · have he : (Lx.bs vs).toList.isEmpty = true := by rw [Lx.bs_toList, h0]; rfl
    have hl : vs.length = 0 := by rw [h0]; rfl
    have H0 := Lib.hid h0
    clear h0
    go_enter Tryd.func50, Tryd.ntmps50
    go_wp2
    all_goals
      go_ret
      refine ⟨ret_b ?_, by (repeat (first | with_reducible exact Below.refl _ _ | with_reducible assumption | with_reducible refine Below.drew ?_ | with_reducible refine below_drewN ?_ _ | with_reducible refine below_al ?_ _ | with_reducible refine Below.setCell ?_ ?_ _ | exact Nat.le_refl _ | omega | (simp; done) | (simp; omega)))⟩
      have h0 := H0.out
      subst h0
      unfold Ox.valued
      simp at * <;> (repeat' split) <;> first | omega | (simp; omega) | (rw [Bool.eq_iff_iff]; simp; omega) | (simp_all; done)
  · have he : (Lx.bs vs).toList.isEmpty = false := by rw [Lx.bs_toList]; simpa using h0
    have H0 := Lib.hid h0
    clear h0
    go_enter Tryd.func50, Tryd.ntmps50
    go_wp2
    all_goals
      go_ret
      refine ⟨ret_b ?_, by (repeat (first | with_reducible exact Below.refl _ _ | with_reducible assumption | with_reducible refine Below.drew ?_ | with_reducible refine below_drewN ?_ _ | with_reducible refine below_al ?_ _ | with_reducible refine Below.setCell ?_ ?_ _ | exact Nat.le_refl _ | omega | (simp; done) | (simp; omega)))⟩
      have h0 := H0.out
      have h02 : decide (vs = []) = false := decide_eq_false h0
      have h03 : decide (vs ≠ []) = true := decide_eq_true h0
      unfold Ox.valued
      rw [h02, h03]
      simp at * <;> (repeat' split) <;> first | omega | (simp; omega) | (rw [Bool.eq_iff_iff]; simp; omega) | (simp_all; done)
def rvalueP (k : UInt8) (vk vn : Int) (vs : Ox.S) : Bool :=
  if k.toNat = 118 then decide (0 ≤ vk) && decide (vk ≤ 3) && (decide (vk = 1) || decide (vn = 0)) && (decide (2 ≤ vk) || decide (vs = [])) && decide (vs.length ≤ 4096)
  else if k.toNat = 109 then decide (vk = 1) && decide (vs = []) && decide (1 ≤ vn) && decide (vn ≤ 1024)
  else decide (vk = 0) && decide (vn = 0) && decide (vs = [])
def check4 (vk vn : Int) (vs : Ox.S) : Int :=
  if decide (0 ≤ vk) && decide (vk ≤ 3) && (decide (vk = 1) || decide (vn = 0)) && (decide (2 ≤ vk) || decide (vs = [])) then (if vs.length ≤ 4096 then 0 else 3) else 1
set_option maxHeartbeats 2000000 in
theorem check4_any (vk vn : Int) (vs : Ox.S) (w : World) :
    Calls Tryd.prog 52 #[.agg #[.int .i64 vk, .int .i64 vn, .string (Lx.bs vs)]] w fun e w' => e = .returned (.int .i64 (check4 vk vn vs)) ∧ Below w.heap.size w w' := by
  by_cases h0 : vs = []
  · have he : (Lx.bs vs).toList.isEmpty = true := by rw [Lx.bs_toList, h0]; rfl
    have hl : vs.length = 0 := by rw [h0]; rfl
    have H0 := Lib.hid h0
    clear h0
    go_enter Tryd.func52, Tryd.ntmps52
    go_wp2
    all_goals
      go_ret
      refine ⟨ret_z ?_, by (repeat (first | with_reducible exact Below.refl _ _ | with_reducible assumption | with_reducible refine Below.drew ?_ | with_reducible refine below_drewN ?_ _ | with_reducible refine below_al ?_ _ | with_reducible refine Below.setCell ?_ ?_ _ | exact Nat.le_refl _ | omega | (simp; done) | (simp; omega)))⟩
      have h0 := H0.out
      subst h0
      unfold check4
      simp at * <;> (repeat' split) <;> first | omega | (simp; omega) | (simp_all; done) | (simp_all; omega)
  · have he : (Lx.bs vs).toList.isEmpty = false := by rw [Lx.bs_toList]; simpa using h0
    have H0 := Lib.hid h0
    clear h0
    go_enter Tryd.func52, Tryd.ntmps52
    go_wp2
    all_goals
      go_ret
      refine ⟨ret_z ?_, by (repeat (first | with_reducible exact Below.refl _ _ | with_reducible assumption | with_reducible refine Below.drew ?_ | with_reducible refine below_drewN ?_ _ | with_reducible refine below_al ?_ _ | with_reducible refine Below.setCell ?_ ?_ _ | exact Nat.le_refl _ | omega | (simp; done) | (simp; omega)))⟩
      have h0 := H0.out
      have h02 : decide (vs = []) = false := decide_eq_false h0
      unfold check4
      rw [h02]
      simp at * <;> (repeat' split) <;> first | omega | (simp; omega) | (simp_all; done) | (simp_all; omega)
theorem cat3 (a b c : Ox.S) : Lx.bs (a ++ b ++ c) = Lx.bs a ++ Lx.bs b ++ Lx.bs c := by rw [Lx.bs_append, Lx.bs_append]
theorem ret_s {a b : ByteArray} (h : a = b) : Ending.returned (.string a) = .returned (.string b) := by rw [h]
theorem val_any (vk vn : Int) (vs : Ox.S) (w : World) (h1 : -9223372036854775808 ≤ vn) (h2 : vn ≤ 9223372036854775807) (h3 : vs.length ≤ 1000000) :
    Calls Tryd.prog 43 #[.agg #[.int .i64 vk, .int .i64 vn, .string (Lx.bs vs)]] w fun e w' => e = .returned (.string (Lx.bs (Ox.valS vk vn vs))) ∧ Below w.heap.size w w' := by
  have hhl : (Ox.hex vs).length ≤ 2000000 := by rw [hex_len]; omega
  by_cases k1 : vk = 1
  · subst k1
    have hr : Ox.valS 1 vn vs = Ox.num vn := rfl
    rw [hr]
    go_enter Tryd.func43, Tryd.ntmps43
    go_wp2_with fail
    refine (tnum_any vn _ h1 h2).mono ?_
    rintro e w1 ⟨rfl, hb1⟩
    go_wp2
    go_ret
    exact ⟨rfl, below_next (by (repeat (first | with_reducible exact Below.refl _ _ | with_reducible assumption | with_reducible refine Below.drew ?_ | with_reducible refine below_drewN ?_ _ | with_reducible refine below_al ?_ _ | with_reducible refine Below.setCell ?_ ?_ _ | exact Nat.le_refl _ | omega | (simp; done) | (simp; omega)))) hb1⟩
  by_cases k2 : vk = 2
  · subst k2
    obtain ⟨R, hR⟩ : ∃ R, R = Ox.valS 2 vn vs := ⟨_, rfl⟩
    have HR := Lib.hid (show Lx.bs R = (⟨#[116, 39]⟩ : ByteArray) ++ Lx.bs (Ox.hex vs) ++ ⟨#[39]⟩ from by rw [hR]; exact cat3 [116, 39] (Ox.hex vs) [39])
    rw [← hR]
    clear hR
    go_enter Tryd.func43, Tryd.ntmps43
    go_wp2_with fail
    refine (thex_any (Lx.bs vs) _ (by simp; omega)).mono ?_
    rintro e w1 ⟨rfl, hb1⟩
    rw [Lx.ls_bs]
    go_wp2
    go_ret
    exact ⟨ret_s HR.out.symm, below_next (by (repeat (first | with_reducible exact Below.refl _ _ | with_reducible assumption | with_reducible refine Below.drew ?_ | with_reducible refine below_drewN ?_ _ | with_reducible refine below_al ?_ _ | with_reducible refine Below.setCell ?_ ?_ _ | exact Nat.le_refl _ | omega | (simp; done) | (simp; omega)))) hb1⟩
  by_cases k3 : vk = 3
  · subst k3
    obtain ⟨R, hR⟩ : ∃ R, R = Ox.valS 3 vn vs := ⟨_, rfl⟩
    have HR := Lib.hid (show Lx.bs R = (⟨#[120, 39]⟩ : ByteArray) ++ Lx.bs (Ox.hex vs) ++ ⟨#[39]⟩ from by rw [hR]; exact cat3 [120, 39] (Ox.hex vs) [39])
    rw [← hR]
    clear hR
    go_enter Tryd.func43, Tryd.ntmps43
    go_wp2_with fail
    refine (thex_any (Lx.bs vs) _ (by simp; omega)).mono ?_
    rintro e w1 ⟨rfl, hb1⟩
    rw [Lx.ls_bs]
    go_wp2
    go_ret
    exact ⟨ret_s HR.out.symm, below_next (by (repeat (first | with_reducible exact Below.refl _ _ | with_reducible assumption | with_reducible refine Below.drew ?_ | with_reducible refine below_drewN ?_ _ | with_reducible refine below_al ?_ _ | with_reducible refine Below.setCell ?_ ?_ _ | exact Nat.le_refl _ | omega | (simp; done) | (simp; omega)))) hb1⟩
  have hr : Ox.valS vk vn vs = [110, 117, 108, 108] := by rw [Ox.valS, if_neg k1, if_neg k2, if_neg k3]
  rw [hr]
  have d1 : (vk == 1) = false := by simpa using k1
  have d2 : (vk == 2) = false := by simpa using k2
  have d3 : (vk == 3) = false := by simpa using k3
  clear k1 k2 k3 hr
  go_enter Tryd.func43, Tryd.ntmps43
  go_wp2
  go_ret
  exact ⟨rfl, by (repeat (first | with_reducible exact Below.refl _ _ | with_reducible assumption | with_reducible refine Below.drew ?_ | with_reducible refine below_drewN ?_ _ | with_reducible refine below_al ?_ _ | with_reducible refine Below.setCell ?_ ?_ _ | exact Nat.le_refl _ | omega | (simp; done) | (simp; omega)))⟩
/-- A value's word, of a value as it must be. -/
theorem rquote_any (vk vn : Int) (vs : Ox.S) (w : World) (hk : vk = 0 ∨ vk = 1 ∨ vk = 3) (h1 : -9223372036854775808 ≤ vn) (h2 : vn ≤ 9223372036854775807) (h3 : vs.length ≤ 1000000) :
    Calls Tryd.prog 41 #[.agg #[.int .i64 vk, .int .i64 vn, .string (Lx.bs vs)]] w fun e w' => e = .returned (.string (Lx.bs (Ox.valS vk vn vs))) ∧ Below w.heap.size w w' := by
  have hhl : (Ox.hex vs).length ≤ 2000000 := by rw [hex_len]; omega
  rcases hk with k1 | k1 | k1
  · subst k1
    have hr : Ox.valS 0 vn vs = [110, 117, 108, 108] := rfl
    rw [hr]
    go_enter Tryd.func41, Tryd.ntmps41
    go_wp2
    go_ret
    exact ⟨rfl, by (repeat (first | with_reducible exact Below.refl _ _ | with_reducible assumption | with_reducible refine Below.drew ?_ | with_reducible refine below_drewN ?_ _ | with_reducible refine below_al ?_ _ | with_reducible refine Below.setCell ?_ ?_ _ | exact Nat.le_refl _ | omega | (simp; done) | (simp; omega)))⟩
  · subst k1
    have hr : Ox.valS 1 vn vs = Ox.num vn := rfl
    rw [hr]
    go_enter Tryd.func41, Tryd.ntmps41
    go_wp2_with fail
    refine (rnum_any vn _ h1 h2).mono ?_
    rintro e w1 ⟨rfl, hb1⟩
    go_wp2
    go_ret
    exact ⟨rfl, below_next (by (repeat (first | with_reducible exact Below.refl _ _ | with_reducible assumption | with_reducible refine Below.drew ?_ | with_reducible refine below_drewN ?_ _ | with_reducible refine below_al ?_ _ | with_reducible refine Below.setCell ?_ ?_ _ | exact Nat.le_refl _ | omega | (simp; done) | (simp; omega)))) hb1⟩
  · subst k1
    obtain ⟨R, hR⟩ : ∃ R, R = Ox.valS 3 vn vs := ⟨_, rfl⟩
    have HR := Lib.hid (show Lx.bs R = (⟨#[120, 39]⟩ : ByteArray) ++ Lx.bs (Ox.hex vs) ++ ⟨#[39]⟩ from by rw [hR]; exact cat3 [120, 39] (Ox.hex vs) [39])
    rw [← hR]
    clear hR
    go_enter Tryd.func41, Tryd.ntmps41
    go_wp2_with fail
    refine (rhex_any (Lx.bs vs) _ (by simp; omega)).mono ?_
    rintro e w1 ⟨rfl, hb1⟩
    rw [Lx.ls_bs]
    go_wp2
    go_ret
    exact ⟨ret_s HR.out.symm, below_next (by (repeat (first | with_reducible exact Below.refl _ _ | with_reducible assumption | with_reducible refine Below.drew ?_ | with_reducible refine below_drewN ?_ _ | with_reducible refine below_al ?_ _ | with_reducible refine Below.setCell ?_ ?_ _ | exact Nat.le_refl _ | omega | (simp; done) | (simp; omega)))) hb1⟩
theorem rval_any (vk vn : Int) (vs : Ox.S) (w : World) (hk : vk = 0 ∨ vk = 1 ∨ vk = 2 ∨ vk = 3) (h1 : -9223372036854775808 ≤ vn) (h2 : vn ≤ 9223372036854775807) (h3 : vs.length ≤ 1000000) :
    Calls Tryd.prog 27 #[.agg #[.int .i64 vk, .int .i64 vn, .string (Lx.bs vs)]] w fun e w' => e = .returned (.string (Lx.bs (Ox.valS vk vn vs))) ∧ Below w.heap.size w w' := by
  have hhl : (Ox.hex vs).length ≤ 2000000 := by rw [hex_len]; omega
  by_cases k2 : vk = 2
  · subst k2
    obtain ⟨R, hR⟩ : ∃ R, R = Ox.valS 2 vn vs := ⟨_, rfl⟩
    have HR := Lib.hid (show Lx.bs R = (⟨#[116, 39]⟩ : ByteArray) ++ Lx.bs (Ox.hex vs) ++ ⟨#[39]⟩ from by rw [hR]; exact cat3 [116, 39] (Ox.hex vs) [39])
    rw [← hR]
    clear hR
    go_enter Tryd.func27, Tryd.ntmps27
    go_wp2_with fail
    refine (rhex_any (Lx.bs vs) _ (by simp; omega)).mono ?_
    rintro e w1 ⟨rfl, hb1⟩
    rw [Lx.ls_bs]
    go_wp2
    go_ret
    exact ⟨ret_s HR.out.symm, below_next (by (repeat (first | with_reducible exact Below.refl _ _ | with_reducible assumption | with_reducible refine Below.drew ?_ | with_reducible refine below_drewN ?_ _ | with_reducible refine below_al ?_ _ | with_reducible refine Below.setCell ?_ ?_ _ | exact Nat.le_refl _ | omega | (simp; done) | (simp; omega)))) hb1⟩
  · have d2 : (vk == 2) = false := by simpa using k2
    have HK := Lib.hid (show vk = 0 ∨ vk = 1 ∨ vk = 3 by omega)
    clear hk k2
    go_enter Tryd.func27, Tryd.ntmps27
    go_wp2_with fail
    refine (rquote_any vk vn vs _ HK.out h1 h2 h3).mono ?_
    rintro e w1 ⟨rfl, hb1⟩
    go_wp2
    go_ret
    exact ⟨rfl, below_next (by (repeat (first | with_reducible exact Below.refl _ _ | with_reducible assumption | with_reducible refine Below.drew ?_ | with_reducible refine below_drewN ?_ _ | with_reducible refine below_al ?_ _ | with_reducible refine Below.setCell ?_ ?_ _ | exact Nat.le_refl _ | omega | (simp; done) | (simp; omega)))) hb1⟩
end Go.Proofs.YtoekddkkjbcicaaDoor
