import Derived.Test.YtepdpdlakgnpmaaRef3C
set_option linter.unusedVariables false
set_option linter.unusedSimpArgs false
namespace Go.Proofs.Ytepdpdlakgnpmaa
open Go.RowKit
attribute [local simp] Lx.bs_size Lx.bs_append
theorem bare_no (s : ByteArray) (w : World) (hs : s.size ≤ 1000000000) (h : (Lx.inside (Lx.ls s)).2 = false) :
    Calls Try.prog 55 #[.string s] w fun e w' => e = optE (Lx.bare (Lx.ls s)) ∧ w = w' := by
  have hR : Lx.bare (Lx.ls s) = none := by rw [Lx.bare, if_neg (by rw [h]; decide)]
  rw [hR]
  by_cases h2 : s.size < 2
  · have d1 : decide ((s.size : Int) < 2) = true := decide_eq_true (by omega)
    go_enter Try.func55, Try.ntmps55
    go_wp2
    go_ret2
    exact ⟨rfl, rfl⟩
  · have d1 : decide ((s.size : Int) < 2) = false := decide_eq_false (by omega)
    have h0 : 0 < s.size := by omega
    have e1 : ((s.size : Int) - 1).toNat = s.size - 1 := by omega
    have hb : s.size - 1 < s.size := by omega
    by_cases h3 : s[0].toNat = 39
    · have d2 : ((s[0].toNat : Int) != 39) = false := by simp; omega
      have h4 : (s[s.size - 1]'hb).toNat ≠ 39 := by
        intro h4
        rw [Lx.inside_is (by omega) h3 h4] at h
        cases h
      have d3 : (((s[s.size - 1]'hb).toNat : Int) != 39) = true := by simp; omega
      clear h h3 h4 hR
      go_enter Try.func55, Try.ntmps55
      go_wp2
      go_ret2
      exact ⟨rfl, rfl⟩
    · have d2 : ((s[0].toNat : Int) != 39) = true := by simp; omega
      clear h h3 hR
      go_enter Try.func55, Try.ntmps55
      go_wp2
      go_ret2
      exact ⟨rfl, rfl⟩

theorem bare_yes (s : ByteArray) (w : World) (hs : s.size ≤ 1000000000) (h0 : 2 ≤ s.size) (h1 : s[0].toNat = 39) (h2 : s[s.size - 1].toNat = 39) :
    Calls Try.prog 55 #[.string s] w fun e w' => e = optE (Lx.bare (Lx.ls s)) ∧ w = w' := by
  have hR : Lx.bare (Lx.ls s) = Lx.single (Lx.ls (s.extract 1 (s.size - 1))) := by rw [Lx.bare, Lx.inside_is h0 h1 h2, if_pos rfl]
  rw [hR]
  have d1 : decide ((s.size : Int) < 2) = false := decide_eq_false (by omega)
  have h0' : 0 < s.size := by omega
  have d2 : ((s[0].toNat : Int) != 39) = false := by simp; omega
  have e1 : ((s.size : Int) - 1).toNat = s.size - 1 := by omega
  have d3 : ((s[s.size - 1].toNat : Int) != 39) = false := by simp; omega
  have hds : (s.extract 1 (s.size - 1)).size ≤ 1000000000 := by rw [Lx.extract_size _ _ _ (by omega)]; omega
  have HDS := Lib.hid hds
  clear hR h1 h2 hds
  obtain ⟨d, hd⟩ : ∃ d, d = s.extract 1 (s.size - 1) := ⟨_, rfl⟩
  rw [← hd] at HDS ⊢
  have HD := Lib.hid hd
  clear hd
  generalize hR : Lx.single (Lx.ls d) = R
  have HR := Lib.hid hR
  clear hR
  go_enter Try.func55, Try.ntmps55
  go_wp2
  rw [← HD.out]
  have hds := HDS.out
  go_loop [5, 6] (fun v i => ∃ (k : Nat) (acc : List UInt8), k ≤ d.size ∧ acc.length ≤ k ∧ i = .int .i64 k ∧ v = .string (Lx.bs acc) ∧ Hid (Lx.onto acc (Lx.single (Lx.suf d k)) = R)) (fun _ i => d.size - (intOf i).toNat)
  case atStart => exact ⟨0, [], by omega, by simp, rfl, rfl, Lib.hid (by rw [Lx.onto_nil, Lx.suf_zero]; exact HR.out)⟩
  case round =>
    obtain ⟨k, acc, hk, hak, rfl, rfl, HK⟩ := hrel
    by_cases hlt : k < d.size
    · by_cases h39 : d[k].toNat = 39
      · have g1 : ((d[k].toNat : Int) == 39) = true := by simp; omega
        by_cases hlt2 : k + 1 < d.size
        · have g2 : ((k : Int) + 1 == (d.size : Int)) = false := by simp; omega
          by_cases h392 : d[k + 1].toNat = 39
          · have g3 : ((d[k + 1].toNat : Int) != 39) = false := by simp; omega
            have HK' := Lib.hid (Eq.trans (Lx.single_pair hlt2 h39 h392 acc).symm HK.out)
            have hone := Lx.one_at hlt2
            have H392 := Lib.hid h392
            have H39 := Lib.hid h39
            clear h39 h392
            go_wp2
            go_round
            case rel => exact ⟨k + 2, acc ++ [d[k + 1]], by omega, by simp; omega, by go_num, rfl, HK'⟩
            case measure => simp [intOf]; omega
          · have g3 : ((d[k + 1].toNat : Int) != 39) = true := by simp; omega
            have hf := Lx.single_bad hlt h39 (fun _ => h392) acc
            rw [HK.out] at hf
            subst hf
            have H39 := Lib.hid h39
            clear h39 h392
            go_wp2
            go_ret2
            exact ⟨rfl, rfl⟩
        · have g2 : ((k : Int) + 1 == (d.size : Int)) = true := by simp; omega
          have hf := Lx.single_bad hlt h39 (fun h => absurd h hlt2) acc
          rw [HK.out] at hf
          subst hf
          have H39 := Lib.hid h39
          clear h39
          go_wp2
          go_ret2
          exact ⟨rfl, rfl⟩
      · have g1 : ((d[k].toNat : Int) == 39) = false := by simp; omega
        have HK' := Lib.hid (Eq.trans (Lx.single_plain hlt h39 acc).symm HK.out)
        have hone := Lx.one_at hlt
        go_wp2
        go_round
        case rel => exact ⟨k + 1, acc ++ [d[k]], by omega, by simp; omega, by go_num, rfl, HK'⟩
        case measure => simp [intOf]; omega
    · obtain rfl : k = d.size := by omega
      have hf : R = some acc := by rw [← HK.out, Lx.single_end (Nat.le_refl _)]
      subst hf
      go_wp2
      go_ret2
      exact ⟨rfl, rfl⟩
end Go.Proofs.Ytepdpdlakgnpmaa
