import Derived.Test.YtepdpdlakgnpmaaLexF
set_option linter.unusedVariables false
set_option linter.unusedSimpArgs false
namespace Go.Proofs.Ytepdpdlakgnpmaa
open Go.RowKit
theorem blanks_any (s : ByteArray) (k0 : Nat) (w : World) (hs : s.size ≤ 1000000000) (hk : k0 ≤ s.size) :
    Calls Try.prog 18 #[.string s, .int .i64 k0] w fun e w' => e = .returned (.int .i64 ((k0 + Lx.skipN false (Lx.suf s k0) : Nat) : Int)) ∧ w = w' := by
  generalize hR : k0 + Lx.skipN false (Lx.suf s k0) = R
  have HR := Lib.hid hR
  clear hR
  go_enter Try.func18, Try.ntmps18

  go_wp2
  go_step3
  go_wp2
  go_step3
  go_wp2
  go_loop [1] (fun i => ∃ k : Nat, k ≤ s.size ∧ i = .int .i64 k ∧ Hid (k + Lx.skipN false (Lx.suf s k) = R)) (fun i => s.size - (intOf i).toNat)
  case atStart => exact ⟨k0, hk, rfl, HR⟩
  case round =>
    obtain ⟨k, hk, rfl, HK⟩ := hrel
    by_cases hlt : k < s.size
    · go_wp2
      all_goals (try simp only [bne_iff_ne, bne_eq_false_iff_eq, beq_iff_eq, beq_eq_false_iff_ne, ne_eq, Bool.not_eq_true', Bool.not_eq_false', Bool.not_eq_true, Bool.not_eq_false] at *)
      all_goals first
        | (go_round
           case rel => exact ⟨k + 1, by omega, by go_num, Lib.hid (by rw [← HK.out, Lx.skip_blank hlt (by omega)])⟩
           case measure => simp [intOf]; omega)
        | (skip
           go_ret
           exact ⟨ret_i (by rw [← HK.out, Lx.skip_stop hlt (by omega) (by omega) (by omega) (by omega) (by intro h1 h2; omega)]), rfl⟩)
        | skip
      rotate_left
      · go_wp2
        rw [Exit.noGoto_ret]
        go_ret
        exact ⟨ret_i (by rw [← HK.out, Lx.skip_stop hlt (by omega) (by omega) (by omega) (by omega) (by intro h1 h2; omega)]), rfl⟩
      have HK1 : Hid (k + Lx.skipN true (Lx.suf s k) = R) := Lib.hid (by rw [← HK.out, Lx.skip_com (by omega) (by omega) (by omega)])
      go_loop [1] (fun i => ∃ j : Nat, k ≤ j ∧ j ≤ s.size ∧ i = .int .i64 j ∧ Hid (j + Lx.skipN true (Lx.suf s j) = R)) (fun i => s.size - (intOf i).toNat)
      case atStart => exact ⟨k, by omega, by omega, rfl, HK1⟩
      case round =>
        obtain ⟨j, hkj, hj, rfl, HJ⟩ := hrel
        by_cases hltj : j < s.size
        · go_wp2
          all_goals (try simp only [bne_iff_ne, bne_eq_false_iff_eq, beq_iff_eq, beq_eq_false_iff_ne, ne_eq, Bool.not_eq_true', Bool.not_eq_false', Bool.not_eq_true, Bool.not_eq_false] at *)
          · go_round
            case rel => exact ⟨j + 1, by omega, by omega, by go_num, Lib.hid (by rw [← HJ.out, Lx.skip_in hltj (by omega)])⟩
            case measure => simp [intOf]; omega
          · have hne : k ≠ j := by
              intro e
              subst e
              omega
            go_round
            case rel => exact ⟨j, by omega, rfl, Lib.hid (by rw [← HJ.out, Lx.skip_out hltj (by omega)])⟩
            case measure => simp [intOf]; omega
        · go_wp2
          go_round
          case rel => exact ⟨j, by omega, rfl, Lib.hid (by rw [← HJ.out, Lx.skip_end (by omega), Lx.skip_end (by omega)])⟩
          case measure => simp [intOf]; omega
    · go_wp2

      go_ret
      exact ⟨ret_i (by rw [← HK.out, Lx.skip_end (by omega)]), rfl⟩
end Go.Proofs.Ytepdpdlakgnpmaa
