import Derived.Test.YtepdpdlakgnpmaaLexG
import Derived.Test.YtepdpdlakgnpmaaLxE
set_option linter.unusedVariables false
set_option linter.unusedSimpArgs false
namespace Go.Proofs.Ytepdpdlakgnpmaa
open Go.RowKit
attribute [local simp] Lx.bs_size
theorem pnoq_any (c : UInt8) (w : World) :
    Calls Try.prog 41 #[.int .u8 c.toNat] w fun e w' => e = .returned (.bool (Lx.noq c)) ∧ w = w' := by
  go_enter Try.func41, Try.ntmps41
  go_wp2
  go_ret
  refine ⟨ret_b ?_, rfl⟩
  rw [Bool.eq_iff_iff]
  simp [Lx.noq, ← UInt8.toNat_inj]
  omega
theorem pno10_any (c : UInt8) (w : World) :
    Calls Try.prog 42 #[.int .u8 c.toNat] w fun e w' => e = .returned (.bool (Lx.no10 c)) ∧ w = w' := by
  go_enter Try.func42, Try.ntmps42
  go_wp2
  go_ret
  refine ⟨ret_b ?_, rfl⟩
  rw [Bool.eq_iff_iff]
  simp [Lx.no10, ← UInt8.toNat_inj]
  omega
set_option maxHeartbeats 1000000 in
theorem part_any (s : ByteArray) (k0 : Nat) (w : World) (hs : s.size ≤ 1000000000) (hk : k0 ≤ s.size) :
    Calls Try.prog 24 #[.string s, .int .i64 k0] w fun e w' => e = .returned (.int .i64 ((k0 + Lx.pN 0 (Lx.suf s k0) : Nat) : Int)) ∧ w = w' := by
  have hp0 : Lx.pAt s k0 (k0 + Lx.pN 0 (Lx.suf s k0)) := .inl ⟨hk, rfl⟩
  generalize k0 + Lx.pN 0 (Lx.suf s k0) = R at hp0 ⊢
  have HP0 := Lib.hid hp0
  clear hp0
  go_enter Try.func24, Try.ntmps24
  go_wp2
  go_loop [1] (fun i => ∃ k : Nat, k ≤ s.size + 1 ∧ i = .int .i64 k ∧ Hid (Lx.pAt s k R)) (fun i => s.size + 1 - (intOf i).toNat)
  case atStart => exact ⟨k0, by omega, rfl, HP0⟩
  case round =>
    obtain ⟨k, hk, rfl, HP⟩ := hrel
    by_cases hlt : k < s.size
    · have hmn := Lx.many_le Lx.noq (Lx.suf s (k + 1))
      have hm1 := Lx.many_le Lx.no10 (Lx.suf s k)
      rw [Lx.suf_length] at hmn hm1
      by_cases h59 : s[k].toNat = 59
      · have d1 : ((s[k].toNat : Int) == 59) = true := by rw [h59]; rfl
        have hf : k = R := by
          rcases HP.out with ⟨_, h⟩ | ⟨h, _⟩
          · rw [← h, Lx.p_semi hlt h59]
          · omega
        subst hf
        clear h59
        go_wp2
        go_ret
        exact ⟨rfl, rfl⟩
      · have d1 : ((s[k].toNat : Int) == 59) = false := by simp; omega
        by_cases h39 : s[k].toNat = 39
        · have d2 : ((s[k].toNat : Int) == 39) = true := by rw [h39]; rfl
          have HP' := Lib.hid (Lx.pAt_quote hlt h39 HP.out)
          obtain ⟨m, hm⟩ : ∃ m, m = Lx.many Lx.noq (Lx.suf s (k + 1)) := ⟨_, rfl⟩
          rw [← hm] at hmn HP'
          have HM := Lib.hid hm
          clear h59 h39 hm hm1
          go_wp2_with fail
          refine (while_any 41 Lx.noq (by intro args w; go_simp) pnoq_any s (k + 1) _ (by omega) (by omega)).mono ?_
          rintro e w' ⟨rfl, rfl⟩
          rw [← HM.out]
          go_wp2
          go_round
          case rel => exact ⟨k + 1 + m + 1, by omega, by go_num, HP'⟩
          case measure => simp [intOf]; omega
        · have d2 : ((s[k].toNat : Int) == 39) = false := by simp; omega
          by_cases h45 : s[k].toNat = 45
          · have d3 : ((s[k].toNat : Int) == 45) = true := by rw [h45]; rfl
            by_cases hl2 : k + 1 < s.size
            · have d4 : decide ((k : Int) + 1 < (s.size : Int)) = true := decide_eq_true (by omega)
              by_cases h452 : s[k + 1].toNat = 45
              · have d5 : ((s[k + 1].toNat : Int) == 45) = true := by rw [h452]; rfl
                have HP' := Lib.hid (Lx.pAt_com hl2 h45 h452 HP.out)
                have hm2 : 1 ≤ Lx.many Lx.no10 (Lx.suf s k) := by
                  have e : Lx.no10 s[k] = true := by simp [Lx.no10, Lx.u8_of (n := 45) (by omega) h45]
                  rw [Lx.suf_cons hlt]; simp [Lx.many, e]
                obtain ⟨m, hm⟩ : ∃ m, m = Lx.many Lx.no10 (Lx.suf s k) := ⟨_, rfl⟩
                rw [← hm] at hm1 hm2 HP'
                have HM := Lib.hid hm
                clear h59 h39 hm hmn h45 h452
                go_wp2_with fail
                refine (while_any 42 Lx.no10 (by intro args w; go_simp) pno10_any s k _ (by omega) (by omega)).mono ?_
                rintro e w' ⟨rfl, rfl⟩
                rw [← HM.out]
                go_wp2
                go_round
                case rel => exact ⟨k + m, by omega, by go_num, HP'⟩
                case measure => simp [intOf]; omega
              · have d5 : ((s[k + 1].toNat : Int) == 45) = false := by simp; omega
                have HP' : Hid (Lx.pAt s (k + 1) R) := by
                  rcases HP.out with ⟨_, h⟩ | ⟨h, _⟩
                  · exact .inl ⟨by omega, by rw [← h, Lx.p_plain hlt h59 h39 (fun _ _ => h452)]⟩
                  · omega
                clear h59 h39 hmn hm1 h45 h452
                go_wp2
                go_round
                case rel => exact ⟨k + 1, by omega, by go_num, HP'⟩
                case measure => simp [intOf]; omega
            · have d4 : decide ((k : Int) + 1 < (s.size : Int)) = false := decide_eq_false (by omega)
              have HP' : Hid (Lx.pAt s (k + 1) R) := by
                rcases HP.out with ⟨_, h⟩ | ⟨h, _⟩
                · exact .inl ⟨by omega, by rw [← h, Lx.p_plain hlt h59 h39 (fun _ h => absurd h hl2)]⟩
                · omega
              clear h59 h39 hmn hm1 h45
              go_wp2
              go_round
              case rel => exact ⟨k + 1, by omega, by go_num, HP'⟩
              case measure => simp [intOf]; omega
          · have d3 : ((s[k].toNat : Int) == 45) = false := by simp; omega
            have HP' : Hid (Lx.pAt s (k + 1) R) := by
              rcases HP.out with ⟨_, h⟩ | ⟨h, _⟩
              · exact .inl ⟨by omega, by rw [← h, Lx.p_plain hlt h59 h39 (fun h => absurd h h45)]⟩
              · omega
            clear h59 h39 hmn hm1 h45
            go_wp2
            go_round
            case rel => exact ⟨k + 1, by omega, by go_num, HP'⟩
            case measure => simp [intOf]; omega
    · have hf : R = s.size := by
        rcases HP.out with ⟨h1, h⟩ | ⟨_, h⟩
        · rw [← h, Lx.p_end (by omega)]; omega
        · exact h
      subst hf
      go_wp2
      go_ret
      exact ⟨rfl, rfl⟩
end Go.Proofs.Ytepdpdlakgnpmaa
