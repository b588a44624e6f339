import Derived.Test.YtepdpdlakgnpmaaProg
import Derived.Test.YtepdpdlakgnpmaaMem
set_option linter.unusedVariables false
set_option linter.unusedSimpArgs false
namespace Go.Proofs.Ytepdpdlakgnpmaa
open Go.RowKit
theorem refdigit_any (c : UInt8) (w : World) :
    Calls Try.prog 36 #[.int .u8 c.toNat] w fun e w' => e = .returned (.bool (Lx.dig c)) ∧ w = w' := by
  go_enter Try.func36, Try.ntmps36
  go_wp2
  all_goals (go_ret; refine ⟨ret_b ?_, rfl⟩; rw [Bool.eq_iff_iff]; simp [Lx.dig]; omega)
theorem refletter_any (c : UInt8) (w : World) :
    Calls Try.prog 38 #[.int .u8 c.toNat] w fun e w' => e = .returned (.bool (Lx.let_ c)) ∧ w = w' := by
  go_enter Try.func38, Try.ntmps38
  go_wp2
  all_goals (go_ret; refine ⟨ret_b ?_, rfl⟩; rw [Bool.eq_iff_iff]; simp [Lx.let_]; omega)
theorem skip_any (s : ByteArray) (k0 : Nat) (w : World) (hs : s.size ≤ 9223372036854775000) (hk : k0 ≤ s.size) :
    Calls Try.prog 20 #[.string s, .int .i64 k0] w fun e w' => e = .returned (.int .i64 ((k0 + Lx.skipN false (Lx.suf s k0) : Nat) : Int)) ∧ w = w' := by
  generalize hR : k0 + Lx.skipN false (Lx.suf s k0) = R
  have HR := Lib.hid hR
  clear hR
  go_enter Try.func20, Try.ntmps20
  go_wp2
  go_loop [1] (fun i => ∃ k : Nat, k ≤ s.size ∧ i = .int .i64 k ∧ Hid (k + Lx.skipN false (Lx.suf s k) = R)) (fun i => s.size - (intOf i).toNat)
  case atStart => exact ⟨k0, hk, rfl, HR⟩
  case round =>
    obtain ⟨k, hk, rfl, HK⟩ := hrel
    by_cases hlt : k < s.size
    · go_wp2
      all_goals (try simp only [bne_iff_ne, bne_eq_false_iff_eq, beq_iff_eq, beq_eq_false_iff_ne, ne_eq] at *)
      all_goals first
        | (go_round
           case rel => exact ⟨k + 1, by omega, by go_num, Lib.hid (by rw [← HK.out, Lx.skip_blank hlt (by omega)])⟩
           case measure => simp [intOf]; omega)
        | (go_ret
           exact ⟨ret_i (by rw [← HK.out, Lx.skip_stop hlt (by omega) (by omega) (by omega) (by omega) (by intro h1 h2; omega)]), rfl⟩)
        | skip
      have HK1 : Hid (k + Lx.skipN true (Lx.suf s k) = R) := Lib.hid (by rw [← HK.out, Lx.skip_com (by omega) (by omega) (by omega)])
      go_loop [1] (fun i => ∃ j : Nat, k ≤ j ∧ j ≤ s.size ∧ i = .int .i64 j ∧ Hid (j + Lx.skipN true (Lx.suf s j) = R)) (fun i => s.size - (intOf i).toNat)
      case atStart => exact ⟨k, by omega, by omega, rfl, HK1⟩
      case round =>
        obtain ⟨j, hkj, hj, rfl, HJ⟩ := hrel
        by_cases hltj : j < s.size
        · go_wp2
          all_goals (try simp only [bne_iff_ne, bne_eq_false_iff_eq, beq_iff_eq, beq_eq_false_iff_ne, ne_eq] at *)
          · go_round
            case rel => exact ⟨j + 1, by omega, by omega, by go_num, Lib.hid (by rw [← HJ.out, Lx.skip_in hltj (by omega)])⟩
            case measure => simp [intOf]; omega
          · have hne : k ≠ j := by
              intro e
              subst e
              omega
            go_round
            case rel => exact ⟨j, by omega, rfl, Lib.hid (by rw [← HJ.out, Lx.skip_out hltj (by omega)])⟩
            case measure => simp [intOf]; omega
        · go_wp2
          go_round
          case rel => exact ⟨j, by omega, rfl, Lib.hid (by rw [← HJ.out, Lx.skip_end (by omega), Lx.skip_end (by omega)])⟩
          case measure => simp [intOf]; omega
    · go_wp2
      go_ret
      exact ⟨ret_i (by rw [← HK.out, Lx.skip_end (by omega)]), rfl⟩
end Go.Proofs.Ytepdpdlakgnpmaa
