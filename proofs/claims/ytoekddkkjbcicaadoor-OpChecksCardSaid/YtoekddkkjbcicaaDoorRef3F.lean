import Derived.Test.YtoekddkkjbcicaaDoorRef3A
import Derived.Test.YtoekddkkjbcicaaDoorLxF
set_option linter.unusedVariables false
set_option linter.unusedSimpArgs false
namespace Go.Proofs.YtoekddkkjbcicaaDoor
open Go.RowKit
attribute [local simp] Lx.bs_size
set_option maxHeartbeats 1000000 in
theorem rname_any (s : ByteArray) (w : World) :
    Calls Tryd.prog 53 #[.string s] w fun e w' => e = .returned (.bool (Lx.nameOk (Lx.ls s))) ∧ Below w.heap.size w w' := by
  have hrl : Lx.nameOk (Lx.ls s) = (decide (1 ≤ s.size) && decide (s.size ≤ 32) && Lx.nmR 0 (Lx.fold (Lx.ls s))) := rfl
  rw [hrl]
  clear hrl
  by_cases h1 : s.size < 1
  · have e : decide (1 ≤ s.size) = false := decide_eq_false (by omega)
    have d1 : decide ((s.size : Int) < 1) = true := decide_eq_true (by omega)
    rw [e]
    go_enter Tryd.func53, Tryd.ntmps53
    go_wp2
    go_ret
    exact ⟨rfl, Below.refl _ _⟩
  have d1 : decide ((s.size : Int) < 1) = false := decide_eq_false (by omega)
  have e1 : decide (1 ≤ s.size) = true := decide_eq_true (by omega)
  rw [e1]
  by_cases h2 : 32 < s.size
  · have e : decide (s.size ≤ 32) = false := decide_eq_false (by omega)
    have d2 : decide (32 < (s.size : Int)) = true := decide_eq_true (by omega)
    rw [e]
    go_enter Tryd.func53, Tryd.ntmps53
    go_wp2
    go_ret
    exact ⟨rfl, Below.refl _ _⟩
  have d2 : decide (32 < (s.size : Int)) = false := decide_eq_false (by omega)
  have e2 : decide (s.size ≤ 32) = true := decide_eq_true (by omega)
  rw [e2]
  simp only [Bool.true_and]
  obtain ⟨F, hF⟩ : ∃ F, F = Lx.bs (Lx.fold (Lx.ls s)) := ⟨_, rfl⟩
  have hF2 : Lx.fold (Lx.ls s) = Lx.suf F 0 := by rw [Lx.suf_zero, hF, Lx.ls_bs]
  have hFs : F.size = s.size := by rw [hF, Lx.bs_size, Lx.fold_length, Lx.ls_length]
  have hFl : F.size ≤ 32 := by omega
  generalize hR : Lx.nmR 0 (Lx.fold (Lx.ls s)) = R
  rw [hF2] at hR
  have HR := Lib.hid hR
  have HF := Lib.hid hF
  clear hF hF2 hFs hR e1 e2
  go_enter Tryd.func53, Tryd.ntmps53
  go_wp2_with fail
  refine (rfold_any s w (by omega)).mono ?_
  rintro e w1 ⟨rfl, hb1⟩
  rw [← HF.out]
  go_wp2
  go_loopw [4, 5] (fun i _ wr => ∃ k : Nat, k ≤ F.size ∧ i = .int .i64 k ∧ Below w.heap.size w wr ∧ Hid (Lx.nmR k (Lx.suf F k) = R)) (fun i _ _ => F.size - (intOf i).toNat)
  case atStart => exact ⟨0, by omega, rfl, hb1, HR⟩
  case round =>
    obtain ⟨k, hk, rfl, hb, HK⟩ := hrel
    by_cases hlt : k < F.size
    · have dl : decide ((k : Int) < (F.size : Int)) = true := decide_eq_true (by omega)
      by_cases h48 : F[k].toNat < 48
      · have HK' := Lib.hid ((Lx.nmR_no hlt (Lx.nmAt_no rfl (by omega) (by omega) (by omega))).symm.trans HK.out)
        have d48 : decide ((48 : Int) ≤ (F[k].toNat : Int)) = false := by simp; omega
        have d95 : ((F[k].toNat : Int) != 95) = true := by simp; omega
        have d97 : decide ((97 : Int) ≤ (F[k].toNat : Int)) = false := by simp; omega
        clear h48
        go_wp2
        go_ret
        exact ⟨by rw [← HK'.out]; rfl, hb⟩
      by_cases h57 : F[k].toNat ≤ 57
      · by_cases h0 : k = 0
        · subst h0
          have HK' := Lib.hid ((Lx.nmR_no hlt (Lx.nmAt_no rfl (by omega) (by omega) (by omega))).symm.trans HK.out)
          have d48 : decide ((48 : Int) ≤ (F[0].toNat : Int)) = true := by simp; omega
          have d57 : decide ((F[0].toNat : Int) ≤ 57) = true := by simp; omega
          have d95 : ((F[0].toNat : Int) != 95) = true := by simp; omega
          have d97 : decide ((97 : Int) ≤ (F[0].toNat : Int)) = false := by simp; omega
          clear h48 h57
          go_wp2
          go_ret
          exact ⟨by rw [← HK'.out]; rfl, hb⟩
        · have HK' := Lib.hid ((Lx.nmR_go hlt (Lx.nmAt_yes rfl (by omega))).symm.trans HK.out)
          have d48 : decide ((48 : Int) ≤ (F[k].toNat : Int)) = true := by simp; omega
          have d57 : decide ((F[k].toNat : Int) ≤ 57) = true := by simp; omega
          have d95 : ((F[k].toNat : Int) != 95) = true := by simp; omega
          have d97 : decide ((97 : Int) ≤ (F[k].toNat : Int)) = false := by simp; omega
          have d0 : decide (0 < k) = true := decide_eq_true (by omega)
          clear h48 h57 h0
          go_wp2
          go_roundw
          case rel => exact ⟨k + 1, by omega, by go_num, hb, HK'⟩
          case measure => simp [intOf]; omega
      by_cases h95 : F[k].toNat < 95
      · have HK' := Lib.hid ((Lx.nmR_no hlt (Lx.nmAt_no rfl (by omega) (by omega) (by omega))).symm.trans HK.out)
        have d48 : decide ((48 : Int) ≤ (F[k].toNat : Int)) = true := by simp; omega
        have d57 : decide ((F[k].toNat : Int) ≤ 57) = false := by simp; omega
        have d95 : ((F[k].toNat : Int) != 95) = true := by simp; omega
        have d97 : decide ((97 : Int) ≤ (F[k].toNat : Int)) = false := by simp; omega
        clear h48 h57 h95
        go_wp2
        go_ret
        exact ⟨by rw [← HK'.out]; rfl, hb⟩
      by_cases h95b : F[k].toNat = 95
      · have HK' := Lib.hid ((Lx.nmR_go hlt (Lx.nmAt_yes rfl (by omega))).symm.trans HK.out)
        have d48 : decide ((48 : Int) ≤ (F[k].toNat : Int)) = true := by simp; omega
        have d57 : decide ((F[k].toNat : Int) ≤ 57) = false := by simp; omega
        have d95 : ((F[k].toNat : Int) != 95) = false := by simp; omega
        clear h48 h57 h95 h95b
        go_wp2
        go_roundw
        case rel => exact ⟨k + 1, by omega, by go_num, hb, HK'⟩
        case measure => simp [intOf]; omega
      by_cases h97 : F[k].toNat < 97
      · have HK' := Lib.hid ((Lx.nmR_no hlt (Lx.nmAt_no rfl (by omega) (by omega) (by omega))).symm.trans HK.out)
        have d48 : decide ((48 : Int) ≤ (F[k].toNat : Int)) = true := by simp; omega
        have d57 : decide ((F[k].toNat : Int) ≤ 57) = false := by simp; omega
        have d95 : ((F[k].toNat : Int) != 95) = true := by simp; omega
        have d97 : decide ((97 : Int) ≤ (F[k].toNat : Int)) = false := by simp; omega
        clear h48 h57 h95 h95b h97
        go_wp2
        go_ret
        exact ⟨by rw [← HK'.out]; rfl, hb⟩
      by_cases h122 : F[k].toNat ≤ 122
      · have HK' := Lib.hid ((Lx.nmR_go hlt (Lx.nmAt_yes rfl (by omega))).symm.trans HK.out)
        have d48 : decide ((48 : Int) ≤ (F[k].toNat : Int)) = true := by simp; omega
        have d57 : decide ((F[k].toNat : Int) ≤ 57) = false := by simp; omega
        have d95 : ((F[k].toNat : Int) != 95) = true := by simp; omega
        have d97 : decide ((97 : Int) ≤ (F[k].toNat : Int)) = true := by simp; omega
        have d122 : decide ((F[k].toNat : Int) ≤ 122) = true := by simp; omega
        clear h48 h57 h95 h95b h97 h122
        go_wp2
        go_roundw
        case rel => exact ⟨k + 1, by omega, by go_num, hb, HK'⟩
        case measure => simp [intOf]; omega
      have HK' := Lib.hid ((Lx.nmR_no hlt (Lx.nmAt_no rfl (by omega) (by omega) (by omega))).symm.trans HK.out)
      have d48 : decide ((48 : Int) ≤ (F[k].toNat : Int)) = true := by simp; omega
      have d57 : decide ((F[k].toNat : Int) ≤ 57) = false := by simp; omega
      have d95 : ((F[k].toNat : Int) != 95) = true := by simp; omega
      have d97 : decide ((97 : Int) ≤ (F[k].toNat : Int)) = true := by simp; omega
      have d122 : decide ((F[k].toNat : Int) ≤ 122) = false := by simp; omega
      clear h48 h57 h95 h95b h97 h122
      go_wp2
      go_ret
      exact ⟨by rw [← HK'.out]; rfl, hb⟩
    · obtain rfl : k = F.size := by omega
      have HK' := Lib.hid ((Lx.nmR_end (Nat.le_refl _)).symm.trans HK.out)
      go_wp2
      go_ret
      exact ⟨by rw [← HK'.out]; rfl, hb⟩
end Go.Proofs.YtoekddkkjbcicaaDoor
