import Derived.Test.YtepdpdlakgnpmaaText
import Derived.Test.YtepdpdlakgnpmaaTextB
import Derived.Test.YtepdpdlakgnpmaaLxD
set_option linter.unusedVariables false
set_option linter.unusedSimpArgs false
namespace Go.Proofs.Ytepdpdlakgnpmaa
open Go.RowKit
attribute [local simp] Lx.bs_size Lx.bs_append
theorem words_lit : (⟨((([32, 97, 108, 108, 32, 97, 110, 100, 32, 97, 115, 32, 97, 115, 99, 32, 98, 101, 116, 119, 101, 101, 110, 32, 98, 121, 32, 99, 97, 115, 101, 32, 99].append [97, 115, 116, 32, 99, 111, 108, 108, 97, 116, 101, 32, 99, 114, 101, 97, 116, 101, 32, 99, 114, 111, 115, 115, 32, 100, 101, 108, 101, 116, 101, 32, 100, 101]).append ([115, 99, 32, 100, 105, 115, 116, 105, 110, 99, 116, 32, 100, 114, 111, 112, 32, 101, 108, 115, 101, 32, 101, 110, 100, 32, 101, 120, 99, 101, 112, 116, 32, 101].append [120, 105, 115, 116, 115, 32, 102, 114, 111, 109, 32, 103, 114, 111, 117, 112, 32, 104, 97, 118, 105, 110, 103, 32, 105, 102, 32, 105, 110, 32, 105, 110, 100, 101])).append (([120, 32, 105, 110, 110, 101, 114, 32, 105, 110, 115, 101, 114, 116, 32, 105, 110, 116, 101, 114, 115, 101, 99, 116, 32, 105, 110, 116, 111, 32, 105, 115, 32].append [106, 111, 105, 110, 32, 108, 101, 102, 116, 32, 108, 105, 107, 101, 32, 108, 105, 109, 105, 116, 32, 110, 111, 116, 32, 110, 117, 108, 108, 32, 111, 102, 102, 115]).append ([101, 116, 32, 111, 110, 32, 111, 114, 32, 111, 114, 100, 101, 114, 32, 115, 101, 108, 101, 99, 116, 32, 115, 101, 116, 32, 116, 97, 98, 108, 101, 32, 116, 104].append [101, 110, 32, 117, 110, 105, 111, 110, 32, 117, 112, 100, 97, 116, 101, 32, 118, 97, 108, 117, 101, 115, 32, 119, 104, 101, 110, 32, 119, 104, 101, 114, 101, 32]))).toArray⟩ : ByteArray) = Lx.bs Lx.wordsB := by
  have h : (((([32, 97, 108, 108, 32, 97, 110, 100, 32, 97, 115, 32, 97, 115, 99, 32, 98, 101, 116, 119, 101, 101, 110, 32, 98, 121, 32, 99, 97, 115, 101, 32, 99].append [97, 115, 116, 32, 99, 111, 108, 108, 97, 116, 101, 32, 99, 114, 101, 97, 116, 101, 32, 99, 114, 111, 115, 115, 32, 100, 101, 108, 101, 116, 101, 32, 100, 101]).append ([115, 99, 32, 100, 105, 115, 116, 105, 110, 99, 116, 32, 100, 114, 111, 112, 32, 101, 108, 115, 101, 32, 101, 110, 100, 32, 101, 120, 99, 101, 112, 116, 32, 101].append [120, 105, 115, 116, 115, 32, 102, 114, 111, 109, 32, 103, 114, 111, 117, 112, 32, 104, 97, 118, 105, 110, 103, 32, 105, 102, 32, 105, 110, 32, 105, 110, 100, 101])).append (([120, 32, 105, 110, 110, 101, 114, 32, 105, 110, 115, 101, 114, 116, 32, 105, 110, 116, 101, 114, 115, 101, 99, 116, 32, 105, 110, 116, 111, 32, 105, 115, 32].append [106, 111, 105, 110, 32, 108, 101, 102, 116, 32, 108, 105, 107, 101, 32, 108, 105, 109, 105, 116, 32, 110, 111, 116, 32, 110, 117, 108, 108, 32, 111, 102, 102, 115]).append ([101, 116, 32, 111, 110, 32, 111, 114, 32, 111, 114, 100, 101, 114, 32, 115, 101, 108, 101, 99, 116, 32, 115, 101, 116, 32, 116, 97, 98, 108, 101, 32, 116, 104].append [101, 110, 32, 117, 110, 105, 111, 110, 32, 117, 112, 100, 97, 116, 101, 32, 118, 97, 108, 117, 101, 115, 32, 119, 104, 101, 110, 32, 119, 104, 101, 114, 101, 32]))) : List UInt8) = Lx.wordsB := by decide +kernel
  rw [h]; rfl
set_option maxRecDepth 100000 in
set_option maxHeartbeats 1000000 in
theorem word_any (s : ByteArray) (w : World) (hs : s.size ≤ 1000000000) :
    Calls Try.prog 12 #[.string s] w fun e w' => e = .returned (.bool (Lx.isW (Lx.ls s))) ∧ Below w.heap.size w w' := by
  obtain ⟨F, hF⟩ : ∃ F, F = Lx.bs (Lx.fold (Lx.ls s)) := ⟨_, rfl⟩
  have HF := Lib.hid hF
  have hFl : F.size ≤ 1000000000 := by rw [hF, Lx.bs_size, Lx.fold_length]; exact hs
  clear hF
  generalize hR : Lx.isW (Lx.ls s) = R
  have HR := Lib.hid hR
  clear hR
  obtain ⟨W, hW⟩ : ∃ W, W = Lx.bs Lx.wordsB := ⟨_, rfl⟩
  have hlit := words_lit
  rw [← hW] at hlit
  have HL := Lib.hid hlit
  have hWs : W.size = 270 := by rw [hW, Lx.bs_size, Lx.wordsB_length]
  have HW := Lib.hid hW
  have hW1 : W.size ≤ 270 := by omega
  have hW2 : 270 ≤ W.size := by omega
  clear hW hWs hlit
  go_enter Try.func12, Try.ntmps12
  rw [HL.out]
  go_wp2_with fail
  refine (fold_any s _ (by omega)).mono ?_
  rintro e w1 ⟨rfl, hb1⟩
  rw [← HF.out]
  go_wp2
  go_loop [9] (fun i => ∃ k : Nat, k ≤ F.size ∧ i = .int .i64 k ∧ Hid (∀ j (h : j < F.size), j < k → 97 ≤ F[j].toNat ∧ F[j].toNat ≤ 122)) (fun i => F.size - (intOf i).toNat)
  case atStart => exact ⟨0, by omega, rfl, Lib.hid (fun j _ h => by omega)⟩
  case round =>
    obtain ⟨k, hk, rfl, HK⟩ := hrel
    by_cases hlt : k < F.size
    · by_cases hl : 97 ≤ F[k].toNat ∧ F[k].toNat ≤ 122
      · obtain ⟨l1, l2⟩ := hl
        have d1 : decide ((F[k].toNat : Int) < 97) = false := decide_eq_false (by omega)
        have d2 : decide (122 < (F[k].toNat : Int)) = false := decide_eq_false (by omega)
        go_wp2
        go_round
        case rel =>
          refine ⟨k + 1, by omega, by go_num, Lib.hid (fun j h hj => ?_)⟩
          by_cases e : j = k
          · subst e; exact ⟨l1, l2⟩
          · exact HK.out j h (by omega)
        case measure => simp [intOf]; omega
      · have hf : R = false := by
          rw [← HR.out]
          apply Lx.isW_low
          rw [← Lx.ls_bs (Lx.fold (Lx.ls s)), ← HF.out, ← Bool.not_eq_true, Lx.lowL_iff]
          exact fun h => hl (h k hlt)
        subst hf
        go_wp2
        all_goals first
          | (go_ret; exact ⟨rfl, hb1⟩)
          | (exfalso; omega)
    · have HK2 : Hid (∀ j (h : j < F.size), 97 ≤ F[j].toNat ∧ F[j].toNat ≤ 122) := fun j h => HK.out j h (by omega)
      go_wp2
      have hlow : Lx.isW (Lx.ls s) = Lx.hasW (Lx.ls F) (Lx.ls W) := by
        have h1 : Lx.ls F = Lx.fold (Lx.ls s) := by rw [HF.out, Lx.ls_bs]
        have h2 : Lx.ls W = Lx.wordsB := by rw [HW.out, Lx.ls_bs]
        rw [h1, h2, Lx.isW_of]
        rw [← h1]
        exact Lx.lowL_iff.2 HK2.out
      have HLOW := Lib.hid hlow
      clear hlow
      go_loop [4] (fun i => ∃ k : Nat, k ≤ 270 ∧ i = .int .i64 k ∧ Hid (Lx.hasW (Lx.ls F) ((Lx.ls W).drop k) = R)) (fun i => 270 - (intOf i).toNat)
      case atStart => exact ⟨0, by omega, rfl, Lib.hid (by rw [List.drop_zero, ← HLOW.out]; exact HR.out)⟩
      case round =>
        obtain ⟨q, hq, rfl, HQ⟩ := hrel
        by_cases hne : F.toList.isEmpty = true
        · have hf : R = false := by
            rw [← HR.out]
            apply Lx.isW_nil
            have h1 : Lx.ls F = [] := by rw [← Lx.toList_ls]; simpa using hne
            rw [HF.out, Lx.ls_bs] at h1
            exact List.eq_nil_of_length_eq_zero (by rw [← Lx.fold_length, h1]; rfl)
          subst hf
          by_cases hin : q + F.size + 2 ≤ 270
          · go_wp2
            all_goals first
              | (go_ret; exact ⟨rfl, hb1⟩)
              | (exfalso; omega)
          · go_wp2
            all_goals first
              | (go_ret; exact ⟨rfl, hb1⟩)
              | (exfalso; omega)
        · have d2 : F.toList.isEmpty = false := by simpa using hne
          clear hne
          by_cases hin : q + F.size + 2 ≤ 270
          · have hstep : Lx.hasW (Lx.ls F) ((Lx.ls W).drop q) = (Lx.atW (Lx.ls W) (Lx.ls F) q || Lx.hasW (Lx.ls F) ((Lx.ls W).drop (q + 1))) := Lx.hasW_at _ _ (by rw [Lx.ls_length]; omega)
            have HS := Lib.hid hstep
            clear hstep
            go_wp2
            all_goals (try simp only [bne_iff_ne, bne_eq_false_iff_eq, beq_iff_eq, beq_eq_false_iff_ne, ne_eq, Bool.not_eq_true', Bool.not_eq_false', Bool.not_eq_true, Bool.not_eq_false] at *)
            · have h := Lx.atW_yes (W := W) (F := F) (q := q) (by omega) (by omega) (by assumption) (by omega)
              have hf : R = true := by rw [← HQ.out, HS.out, h, Bool.true_or]
              go_ret
              exact ⟨by rw [hf]; rfl, hb1⟩
            · have h := Lx.atW_no (W := W) (F := F) (q := q) (by omega) (.inr (.inr (by omega)))
              go_round
              case rel => exact ⟨q + 1, by omega, by go_num, Lib.hid (by rw [← HQ.out, HS.out, h, Bool.false_or])⟩
              case measure => simp [intOf]; omega
            · have h := Lx.atW_no (W := W) (F := F) (q := q) (by omega) (.inr (.inl (by assumption)))
              go_round
              case rel => exact ⟨q + 1, by omega, by go_num, Lib.hid (by rw [← HQ.out, HS.out, h, Bool.false_or])⟩
              case measure => simp [intOf]; omega
            · have h := Lx.atW_no (W := W) (F := F) (q := q) (by omega) (.inl (by omega))
              go_round
              case rel => exact ⟨q + 1, by omega, by go_num, Lib.hid (by rw [← HQ.out, HS.out, h, Bool.false_or])⟩
              case measure => simp [intOf]; omega
            · exfalso; omega
          · have hf : R = false := by rw [← HQ.out]; exact Lx.hasW_far _ _ (by rw [List.length_drop, Lx.ls_length, Lx.ls_length]; omega)
            subst hf
            go_wp2
            all_goals first
              | (go_ret; exact ⟨rfl, hb1⟩)
              | (exfalso; omega)
end Go.Proofs.Ytepdpdlakgnpmaa
