import Derived.Test.YtepdpdlakgnpmaaRef3A
import Derived.WalkLawsBesides
set_option linter.unusedVariables false
set_option linter.unusedSimpArgs false
namespace Go.Proofs.Ytepdpdlakgnpmaa
open Go.RowKit
attribute [local simp] Lx.bs_size Lx.bs_append
theorem rdigits_any (s : ByteArray) (w : World) (hs : s.size ≤ 1000000000) :
    Calls Try.prog 48 #[.string s] w fun e w' => e = .returned (.bool (Lx.digsOk (Lx.ls s))) ∧ w = w' := by
  generalize hR : Lx.digsOk (Lx.ls s) = R
  have HR := Lib.hid hR
  clear hR
  go_enter Try.func48, Try.ntmps48
  go_wp2
  go_loop [3] (fun i => ∃ k : Nat, k ≤ s.size ∧ i = .int .i64 k ∧ Hid (∀ j (h : j < s.size), j < k → Lx.dig s[j] = true)) (fun i => s.size - (intOf i).toNat)
  case atStart => exact ⟨0, by omega, rfl, Lib.hid (fun j _ h => by omega)⟩
  case round =>
    obtain ⟨k, hk, rfl, HK⟩ := hrel
    by_cases hlt : k < s.size
    · by_cases hd : 48 ≤ s[k].toNat ∧ s[k].toNat ≤ 57
      · obtain ⟨hd1, hd2⟩ := hd
        have d1 : decide ((s[k].toNat : Int) < 48) = false := by simp; omega
        have d2 : decide (57 < (s[k].toNat : Int)) = false := by simp; omega
        go_wp2
        go_round
        case rel =>
          refine ⟨k + 1, by omega, by go_num, Lib.hid (fun j h hj => ?_)⟩
          by_cases e : j = k
          · subst e; exact Lx.dig_iff.2 ⟨hd1, hd2⟩
          · exact HK.out j h (by omega)
        case measure => simp [intOf]; omega
      · have hf : R = false := by rw [← HR.out]; exact Lx.digs_all_false hlt (Lx.dig_not.2 (by omega))
        subst hf
        go_wp2
        all_goals first
          | (go_ret; exact ⟨rfl, rfl⟩)
          | (exfalso; omega)
    · obtain rfl : k = s.size := by omega
      have HK2 : Hid (∀ j (h : j < s.size), Lx.dig s[j] = true) := fun j h => HK.out j h h
      by_cases h1 : s.size = 1
      · have hf : R = true := by rw [← HR.out]; exact Lx.digs_all_true HK2.out (.inl h1)
        subst hf
        have d1 : ((s.size : Int) == 1) = true := by simp; omega
        have H1 := Lib.hid h1
        clear h1
        go_wp2
        go_ret
        exact ⟨rfl, rfl⟩
      · have d1 : ((s.size : Int) == 1) = false := by simp; omega
        by_cases h2 : 1 < s.size
        · have d2 : decide (1 < (s.size : Int)) = true := by simp; omega
          have h0 : 0 < s.size := by omega
          by_cases h3 : s[0].toNat = 48
          · have hf : R = false := by rw [← HR.out]; exact Lx.digs_zero h2 h3
            subst hf
            have d3 : ((s[0].toNat : Int) != 48) = false := by simp; omega
            have H3 := Lib.hid h3
            clear h3
            go_wp2
            go_ret
            exact ⟨rfl, rfl⟩
          · have hf : R = true := by rw [← HR.out]; exact Lx.digs_all_true HK2.out (.inr ⟨h2, h3⟩)
            subst hf
            have d3 : ((s[0].toNat : Int) != 48) = true := by simp; omega
            clear h3
            go_wp2
            go_ret
            exact ⟨rfl, rfl⟩
        · have hf : R = false := by rw [← HR.out, Lx.ls_nil (by omega)]; rfl
          subst hf
          have d2 : decide (1 < (s.size : Int)) = false := by simp; omega
          go_wp2
          go_ret
          exact ⟨rfl, rfl⟩

theorem rread_bad (s : ByteArray) (w : World) (hs : s.size ≤ 1000000000) (h : Lx.digsOk (Lx.cutp (Lx.ls s)).1 = false) :
    Calls Try.prog 39 #[.string s] w fun e w' => e = .returned (.tuple #[.int .i64 (Lx.read (Lx.ls s)).1, .int .i64 (Lx.read (Lx.ls s)).2]) ∧ w = w' := by
  have hR : Lx.read (Lx.ls s) = (0, 8) := by rw [Lx.read_eq, Lx.readD, h]; rfl
  rw [hR]
  by_cases h0 : 0 < s.size
  · by_cases h1 : s[0].toNat = 45
    · rw [Lx.cutp_yes h0 h1] at h
      have H := Lib.hid h
      have d1 : decide (0 < (s.size : Int)) = true := by simp; omega
      have d2 : ((s[0].toNat : Int) == 45) = true := by simp; omega
      have H1 := Lib.hid h1
      clear h hR h1
      go_enter Try.func39, Try.ntmps39
      go_wp2_with fail
      refine (rdigits_any _ w (by rw [Lx.extract_size _ _ _ (Nat.le_refl _)]; omega)).mono ?_
      rintro e w' ⟨rfl, rfl⟩
      rw [H.out]
      go_wp2
      go_ret2
      exact ⟨rfl, rfl⟩
    · rw [Lx.cutp_no (.inr ⟨h0, h1⟩)] at h
      have H := Lib.hid h
      have d1 : decide (0 < (s.size : Int)) = true := by simp; omega
      have d2 : ((s[0].toNat : Int) == 45) = false := by simp; omega
      clear h hR h1
      go_enter Try.func39, Try.ntmps39
      go_wp2_with fail
      refine (rdigits_any _ w hs).mono ?_
      rintro e w' ⟨rfl, rfl⟩
      rw [H.out]
      go_wp2
      go_ret2
      exact ⟨rfl, rfl⟩
  · rw [Lx.cutp_no (.inl (by omega))] at h
    have H := Lib.hid h
    have d1 : decide (0 < (s.size : Int)) = false := decide_eq_false (by omega)
    clear h hR
    go_enter Try.func39, Try.ntmps39
    go_wp2_with fail
    refine (rdigits_any _ w hs).mono ?_
    rintro e w' ⟨rfl, rfl⟩
    rw [H.out]
    go_wp2
    go_ret2
    exact ⟨rfl, rfl⟩

theorem rread_neg_olong (s : ByteArray) (w : World) (hs : s.size ≤ 1000000000) (d : ByteArray) (h0 : 0 < s.size) (h1 : s[0].toNat = 45) (hd : d = s.extract 1 s.size) (hok : Lx.digsOk (Lx.ls d) = true) (hz : Lx.ls d ≠ [48]) (hf : 9223372036854775808 < Lx.dec (Lx.ls d)) (hl : 19 < d.size) :
    Calls Try.prog 39 #[.string s] w fun e w' => e = .returned (.tuple #[.int .i64 (Lx.read (Lx.ls s)).1, .int .i64 (Lx.read (Lx.ls s)).2]) ∧ w = w' := by
  have hcut : Lx.cutp (Lx.ls s) = (Lx.ls d, true) := by rw [hd]; exact Lx.cutp_yes h0 h1
  have hds : d.size ≤ 1000000000 := by rw [hd]; rw [Lx.extract_size _ _ _ (Nat.le_refl _)]; omega
  rw [Lx.read_eq, hcut]
  generalize hR : Lx.readD (Lx.ls d) true = R
  have HR := Lib.hid hR
  have HO := Lib.hid hok
  have HD := Lib.hid hd
  have d1 : decide (0 < (s.size : Int)) = true := by simp; omega
  have d2 : ((s[0].toNat : Int) == 45) = true := by simp; omega
  have HZ := Lib.hid hz
  have d3 : (d.toList == [48]) = false := by rw [Lx.toList_ls]; simpa using hz
  have HF := Lib.hid hf
  have d4 : decide (19 < (d.size : Int)) = true := decide_eq_true (by omega)
  clear hR hcut hd hok h1 hz hf
  go_enter Try.func39, Try.ntmps39
  go_wp2_with fail
  rw [← HD.out]
  refine (rdigits_any _ w hds).mono ?_
  rintro e w' ⟨rfl, rfl⟩
  rw [HO.out]
  have hf : R = (0, 9) := by
    rw [← HR.out]
    exact Lx.readD_over (neg := true) (k := d.size) HO.out (.inr HZ.out) (Nat.le_refl _) (by rw [Lx.take_all]; simpa [Lx.most_eq] using HF.out)
  subst hf
  go_wp2
  go_ret2
  exact ⟨rfl, rfl⟩

theorem rread_neg_osame (s : ByteArray) (w : World) (hs : s.size ≤ 1000000000) (d : ByteArray) (h0 : 0 < s.size) (h1 : s[0].toNat = 45) (hd : d = s.extract 1 s.size) (hok : Lx.digsOk (Lx.ls d) = true) (hz : Lx.ls d ≠ [48]) (hf : 9223372036854775808 < Lx.dec (Lx.ls d)) (hl : d.size = 19) :
    Calls Try.prog 39 #[.string s] w fun e w' => e = .returned (.tuple #[.int .i64 (Lx.read (Lx.ls s)).1, .int .i64 (Lx.read (Lx.ls s)).2]) ∧ w = w' := by
  have hcut : Lx.cutp (Lx.ls s) = (Lx.ls d, true) := by rw [hd]; exact Lx.cutp_yes h0 h1
  have hds : d.size ≤ 1000000000 := by rw [hd]; rw [Lx.extract_size _ _ _ (Nat.le_refl _)]; omega
  rw [Lx.read_eq, hcut]
  generalize hR : Lx.readD (Lx.ls d) true = R
  have HR := Lib.hid hR
  have HO := Lib.hid hok
  have HD := Lib.hid hd
  have d1 : decide (0 < (s.size : Int)) = true := by simp; omega
  have d2 : ((s[0].toNat : Int) == 45) = true := by simp; omega
  have HZ := Lib.hid hz
  have d3 : (d.toList == [48]) = false := by rw [Lx.toList_ls]; simpa using hz
  have HF := Lib.hid hf
  have d4 : decide (19 < (d.size : Int)) = false := decide_eq_false (by omega)
  have d5 : ((d.size : Int) == 19) = true := by rw [hl]; rfl
  have hov := Lx.over_iff (m := [57, 50, 50, 51, 51, 55, 50, 48, 51, 54, 56, 53, 52, 55, 55, 53, 56, 48, 56]) hok rfl (by decide) hl
  have hle : d.size ≤ 19 := by omega
  have hov2 : (!(Op.bytesLess d.toList [57, 50, 50, 51, 51, 55, 50, 48, 51, 54, 56, 53, 52, 55, 55, 53, 56, 48, 56] || d.toList == [57, 50, 50, 51, 51, 55, 50, 48, 51, 54, 56, 53, 52, 55, 55, 53, 56, 48, 56])) = true := by
    rw [Lx.toList_ls, hov]
    first | exact decide_eq_true hf | exact decide_eq_false (Nat.not_lt.2 hf)
  clear hov
  obtain ⟨x, hx⟩ : ∃ x, x = Op.bytesLess d.toList [57, 50, 50, 51, 51, 55, 50, 48, 51, 54, 56, 53, 52, 55, 55, 53, 56, 48, 56] := ⟨_, rfl⟩
  obtain ⟨y, hy⟩ : ∃ y, y = (d.toList == [57, 50, 50, 51, 51, 55, 50, 48, 51, 54, 56, 53, 52, 55, 55, 53, 56, 48, 56]) := ⟨_, rfl⟩
  rw [← hx, ← hy] at hov2
  have q1 := hx.symm
  have q2 := hy.symm
  clear hx hy
  clear hR hcut hd hok h1 hz hf hl
  cases x <;> cases y <;> simp only [Bool.or_true, Bool.or_false, Bool.not_true, Bool.not_false, Bool.false_eq_true, Bool.true_eq_false, reduceCtorEq] at hov2
  all_goals
    go_enter Try.func39, Try.ntmps39
    go_wp2_with fail
    rw [← HD.out]
    refine (rdigits_any _ w hds).mono ?_
    rintro e w' ⟨rfl, rfl⟩
    rw [HO.out]
    have hf : R = (0, 9) := by
      rw [← HR.out]
      exact Lx.readD_over (neg := true) (k := d.size) HO.out (.inr HZ.out) (Nat.le_refl _) (by rw [Lx.take_all]; simpa [Lx.most_eq] using HF.out)
    subst hf
    go_wp2
    go_ret2
    exact ⟨rfl, rfl⟩

theorem rread_neg_fsame (s : ByteArray) (w : World) (hs : s.size ≤ 1000000000) (d : ByteArray) (h0 : 0 < s.size) (h1 : s[0].toNat = 45) (hd : d = s.extract 1 s.size) (hok : Lx.digsOk (Lx.ls d) = true) (hz : Lx.ls d ≠ [48]) (hf : Lx.dec (Lx.ls d) ≤ 9223372036854775808) (hl : d.size = 19) :
    Calls Try.prog 39 #[.string s] w fun e w' => e = .returned (.tuple #[.int .i64 (Lx.read (Lx.ls s)).1, .int .i64 (Lx.read (Lx.ls s)).2]) ∧ w = w' := by
  have hcut : Lx.cutp (Lx.ls s) = (Lx.ls d, true) := by rw [hd]; exact Lx.cutp_yes h0 h1
  have hds : d.size ≤ 1000000000 := by rw [hd]; rw [Lx.extract_size _ _ _ (Nat.le_refl _)]; omega
  rw [Lx.read_eq, hcut]
  generalize hR : Lx.readD (Lx.ls d) true = R
  have HR := Lib.hid hR
  have HO := Lib.hid hok
  have HD := Lib.hid hd
  have d1 : decide (0 < (s.size : Int)) = true := by simp; omega
  have d2 : ((s[0].toNat : Int) == 45) = true := by simp; omega
  have HZ := Lib.hid hz
  have d3 : (d.toList == [48]) = false := by rw [Lx.toList_ls]; simpa using hz
  have HF := Lib.hid hf
  have d4 : decide (19 < (d.size : Int)) = false := decide_eq_false (by omega)
  have d5 : ((d.size : Int) == 19) = true := by rw [hl]; rfl
  have hov := Lx.over_iff (m := [57, 50, 50, 51, 51, 55, 50, 48, 51, 54, 56, 53, 52, 55, 55, 53, 56, 48, 56]) hok rfl (by decide) hl
  have hle : d.size ≤ 19 := by omega
  have hov2 : (!(Op.bytesLess d.toList [57, 50, 50, 51, 51, 55, 50, 48, 51, 54, 56, 53, 52, 55, 55, 53, 56, 48, 56] || d.toList == [57, 50, 50, 51, 51, 55, 50, 48, 51, 54, 56, 53, 52, 55, 55, 53, 56, 48, 56])) = false := by
    rw [Lx.toList_ls, hov]
    first | exact decide_eq_true hf | exact decide_eq_false (Nat.not_lt.2 hf)
  clear hov
  obtain ⟨x, hx⟩ : ∃ x, x = Op.bytesLess d.toList [57, 50, 50, 51, 51, 55, 50, 48, 51, 54, 56, 53, 52, 55, 55, 53, 56, 48, 56] := ⟨_, rfl⟩
  obtain ⟨y, hy⟩ : ∃ y, y = (d.toList == [57, 50, 50, 51, 51, 55, 50, 48, 51, 54, 56, 53, 52, 55, 55, 53, 56, 48, 56]) := ⟨_, rfl⟩
  rw [← hx, ← hy] at hov2
  have q1 := hx.symm
  have q2 := hy.symm
  clear hx hy
  clear hR hcut hd hok h1 hz hf hl
  cases x <;> cases y <;> simp only [Bool.or_true, Bool.or_false, Bool.not_true, Bool.not_false, Bool.false_eq_true, Bool.true_eq_false, reduceCtorEq] at hov2
  all_goals
    go_enter Try.func39, Try.ntmps39
    go_wp2_with fail
    rw [← HD.out]
    refine (rdigits_any _ w hds).mono ?_
    rintro e w' ⟨rfl, rfl⟩
    rw [HO.out]
    go_wp2
    go_loop [7, 8] (fun n i => ∃ k : Nat, ∃ m : Nat, k ≤ d.size ∧ i = .int .i64 k ∧ n = .int .i64 (-(m : Int)) ∧ m ≤ 9223372036854775808 ∧ Hid (m = Lx.dec ((Lx.ls d).take k))) (fun _ i => d.size - (intOf i).toNat)
    case atStart => exact ⟨0, 0, by omega, rfl, rfl, by omega, Lib.hid rfl⟩
    case round =>
      obtain ⟨k, m, hk, rfl, rfl, hm, HM⟩ := hrel
      by_cases hlt : k < d.size
      · obtain ⟨c1, c2⟩ := Lx.digsOk_all HO.out hlt
        have hst := Lx.dec_step hlt
        rw [← HM.out] at hst
        have hst2 : 10 * m + (d[k].toNat - 48) ≤ 9223372036854775808 := Nat.le_trans hst HF.out
        clear hst
        go_wp2
        go_round
        case rel => exact ⟨k + 1, 10 * m + (d[k].toNat - 48), by omega, by go_num, by congr 1; omega, by omega, Lib.hid (by rw [Lx.dec_take_succ hlt, HM.out])⟩
        case measure => simp [intOf]; omega
      · obtain rfl : k = d.size := by omega
        have hm2 : m = Lx.dec (Lx.ls d) := by rw [HM.out, Lx.take_all]
        have hf := Lx.readD_fits (neg := true) HO.out (.inr HZ.out) (by simpa [Lx.most_eq] using HF.out)
        have HE := Lib.hid hf
        have HM2 := Lib.hid hm2
        clear hf hm2
        go_wp2
        go_ret2
        refine ⟨?_, rfl⟩
        rw [← HR.out, HE.out, ← HM2.out]
        simp only [Array.getD_eq_getD_getElem?]
        refine ret_2 (int_eq ?_) rfl
        simp

theorem rread_neg_fshort (s : ByteArray) (w : World) (hs : s.size ≤ 1000000000) (d : ByteArray) (h0 : 0 < s.size) (h1 : s[0].toNat = 45) (hd : d = s.extract 1 s.size) (hok : Lx.digsOk (Lx.ls d) = true) (hz : Lx.ls d ≠ [48]) (hf : Lx.dec (Lx.ls d) ≤ 9223372036854775808) (hl : d.size < 19) :
    Calls Try.prog 39 #[.string s] w fun e w' => e = .returned (.tuple #[.int .i64 (Lx.read (Lx.ls s)).1, .int .i64 (Lx.read (Lx.ls s)).2]) ∧ w = w' := by
  have hcut : Lx.cutp (Lx.ls s) = (Lx.ls d, true) := by rw [hd]; exact Lx.cutp_yes h0 h1
  have hds : d.size ≤ 1000000000 := by rw [hd]; rw [Lx.extract_size _ _ _ (Nat.le_refl _)]; omega
  rw [Lx.read_eq, hcut]
  generalize hR : Lx.readD (Lx.ls d) true = R
  have HR := Lib.hid hR
  have HO := Lib.hid hok
  have HD := Lib.hid hd
  have d1 : decide (0 < (s.size : Int)) = true := by simp; omega
  have d2 : ((s[0].toNat : Int) == 45) = true := by simp; omega
  have HZ := Lib.hid hz
  have d3 : (d.toList == [48]) = false := by rw [Lx.toList_ls]; simpa using hz
  have HF := Lib.hid hf
  have d4 : decide (19 < (d.size : Int)) = false := decide_eq_false (by omega)
  have d5 : ((d.size : Int) == 19) = false := by simp; omega
  clear hR hcut hd hok h1 hz hf
  go_enter Try.func39, Try.ntmps39
  go_wp2_with fail
  rw [← HD.out]
  refine (rdigits_any _ w hds).mono ?_
  rintro e w' ⟨rfl, rfl⟩
  rw [HO.out]
  go_wp2
  go_loop [7, 8] (fun n i => ∃ k : Nat, ∃ m : Nat, k ≤ d.size ∧ i = .int .i64 k ∧ n = .int .i64 (-(m : Int)) ∧ m ≤ 9223372036854775808 ∧ Hid (m = Lx.dec ((Lx.ls d).take k))) (fun _ i => d.size - (intOf i).toNat)
  case atStart => exact ⟨0, 0, by omega, rfl, rfl, by omega, Lib.hid rfl⟩
  case round =>
    obtain ⟨k, m, hk, rfl, rfl, hm, HM⟩ := hrel
    by_cases hlt : k < d.size
    · obtain ⟨c1, c2⟩ := Lx.digsOk_all HO.out hlt
      have hst := Lx.dec_step hlt
      rw [← HM.out] at hst
      have hst2 : 10 * m + (d[k].toNat - 48) ≤ 9223372036854775808 := Nat.le_trans hst HF.out
      clear hst
      go_wp2
      go_round
      case rel => exact ⟨k + 1, 10 * m + (d[k].toNat - 48), by omega, by go_num, by congr 1; omega, by omega, Lib.hid (by rw [Lx.dec_take_succ hlt, HM.out])⟩
      case measure => simp [intOf]; omega
    · obtain rfl : k = d.size := by omega
      have hm2 : m = Lx.dec (Lx.ls d) := by rw [HM.out, Lx.take_all]
      have hf := Lx.readD_fits (neg := true) HO.out (.inr HZ.out) (by simpa [Lx.most_eq] using HF.out)
      have HE := Lib.hid hf
      have HM2 := Lib.hid hm2
      clear hf hm2
      go_wp2
      go_ret2
      refine ⟨?_, rfl⟩
      rw [← HR.out, HE.out, ← HM2.out]
      simp only [Array.getD_eq_getD_getElem?]
      refine ret_2 (int_eq ?_) rfl
      simp

theorem rread_pos_olong (s : ByteArray) (w : World) (hs : s.size ≤ 1000000000) (h0 : 0 < s.size) (h1 : s[0].toNat ≠ 45) (hok : Lx.digsOk (Lx.ls s) = true) (hf : 9223372036854775807 < Lx.dec (Lx.ls s)) (hl : 19 <  s.size) :
    Calls Try.prog 39 #[.string s] w fun e w' => e = .returned (.tuple #[.int .i64 (Lx.read (Lx.ls s)).1, .int .i64 (Lx.read (Lx.ls s)).2]) ∧ w = w' := by
  have hcut : Lx.cutp (Lx.ls s) = (Lx.ls s, false) := by exact Lx.cutp_no (.inr ⟨h0, h1⟩)
  have hds := hs
  rw [Lx.read_eq, hcut]
  generalize hR : Lx.readD (Lx.ls s) false = R
  have HR := Lib.hid hR
  have HO := Lib.hid hok
  have d1 : decide (0 < (s.size : Int)) = true := by simp; omega
  have d2 : ((s[0].toNat : Int) == 45) = false := by simp; omega
  have HF := Lib.hid hf
  have d4 : decide (19 < (s.size : Int)) = true := decide_eq_true (by omega)
  clear hR hcut hok h1 hf
  go_enter Try.func39, Try.ntmps39
  go_wp2_with fail
  refine (rdigits_any _ w hds).mono ?_
  rintro e w' ⟨rfl, rfl⟩
  rw [HO.out]
  have hf : R = (0, 9) := by
    rw [← HR.out]
    exact Lx.readD_over (neg := false) (k :=  s.size) HO.out (.inl rfl) (Nat.le_refl _) (by rw [Lx.take_all]; simpa [Lx.most_eq] using HF.out)
  subst hf
  go_wp2
  go_ret2
  exact ⟨rfl, rfl⟩

theorem rread_pos_osame (s : ByteArray) (w : World) (hs : s.size ≤ 1000000000) (h0 : 0 < s.size) (h1 : s[0].toNat ≠ 45) (hok : Lx.digsOk (Lx.ls s) = true) (hf : 9223372036854775807 < Lx.dec (Lx.ls s)) (hl :  s.size = 19) :
    Calls Try.prog 39 #[.string s] w fun e w' => e = .returned (.tuple #[.int .i64 (Lx.read (Lx.ls s)).1, .int .i64 (Lx.read (Lx.ls s)).2]) ∧ w = w' := by
  have hcut : Lx.cutp (Lx.ls s) = (Lx.ls s, false) := by exact Lx.cutp_no (.inr ⟨h0, h1⟩)
  have hds := hs
  rw [Lx.read_eq, hcut]
  generalize hR : Lx.readD (Lx.ls s) false = R
  have HR := Lib.hid hR
  have HO := Lib.hid hok
  have d1 : decide (0 < (s.size : Int)) = true := by simp; omega
  have d2 : ((s[0].toNat : Int) == 45) = false := by simp; omega
  have HF := Lib.hid hf
  have d4 : decide (19 < (s.size : Int)) = false := decide_eq_false (by omega)
  have d5 : ((s.size : Int) == 19) = true := by rw [hl]; rfl
  have hov := Lx.over_iff (m := [57, 50, 50, 51, 51, 55, 50, 48, 51, 54, 56, 53, 52, 55, 55, 53, 56, 48, 55]) hok rfl (by decide) hl
  have hle :  s.size ≤ 19 := by omega
  have hov2 : (!(Op.bytesLess s.toList [57, 50, 50, 51, 51, 55, 50, 48, 51, 54, 56, 53, 52, 55, 55, 53, 56, 48, 55] || s.toList == [57, 50, 50, 51, 51, 55, 50, 48, 51, 54, 56, 53, 52, 55, 55, 53, 56, 48, 55])) = true := by
    rw [Lx.toList_ls, hov]
    first | exact decide_eq_true hf | exact decide_eq_false (Nat.not_lt.2 hf)
  clear hov
  obtain ⟨x, hx⟩ : ∃ x, x = Op.bytesLess s.toList [57, 50, 50, 51, 51, 55, 50, 48, 51, 54, 56, 53, 52, 55, 55, 53, 56, 48, 55] := ⟨_, rfl⟩
  obtain ⟨y, hy⟩ : ∃ y, y = (s.toList == [57, 50, 50, 51, 51, 55, 50, 48, 51, 54, 56, 53, 52, 55, 55, 53, 56, 48, 55]) := ⟨_, rfl⟩
  rw [← hx, ← hy] at hov2
  have q1 := hx.symm
  have q2 := hy.symm
  clear hx hy
  clear hR hcut hok h1 hf hl
  cases x <;> cases y <;> simp only [Bool.or_true, Bool.or_false, Bool.not_true, Bool.not_false, Bool.false_eq_true, Bool.true_eq_false, reduceCtorEq] at hov2
  all_goals
    go_enter Try.func39, Try.ntmps39
    go_wp2_with fail
    refine (rdigits_any _ w hds).mono ?_
    rintro e w' ⟨rfl, rfl⟩
    rw [HO.out]
    have hf : R = (0, 9) := by
      rw [← HR.out]
      exact Lx.readD_over (neg := false) (k :=  s.size) HO.out (.inl rfl) (Nat.le_refl _) (by rw [Lx.take_all]; simpa [Lx.most_eq] using HF.out)
    subst hf
    go_wp2
    go_ret2
    exact ⟨rfl, rfl⟩

theorem rread_pos_fsame (s : ByteArray) (w : World) (hs : s.size ≤ 1000000000) (h0 : 0 < s.size) (h1 : s[0].toNat ≠ 45) (hok : Lx.digsOk (Lx.ls s) = true) (hf : Lx.dec (Lx.ls s) ≤ 9223372036854775807) (hl :  s.size = 19) :
    Calls Try.prog 39 #[.string s] w fun e w' => e = .returned (.tuple #[.int .i64 (Lx.read (Lx.ls s)).1, .int .i64 (Lx.read (Lx.ls s)).2]) ∧ w = w' := by
  have hcut : Lx.cutp (Lx.ls s) = (Lx.ls s, false) := by exact Lx.cutp_no (.inr ⟨h0, h1⟩)
  have hds := hs
  rw [Lx.read_eq, hcut]
  generalize hR : Lx.readD (Lx.ls s) false = R
  have HR := Lib.hid hR
  have HO := Lib.hid hok
  have d1 : decide (0 < (s.size : Int)) = true := by simp; omega
  have d2 : ((s[0].toNat : Int) == 45) = false := by simp; omega
  have HF := Lib.hid hf
  have d4 : decide (19 < (s.size : Int)) = false := decide_eq_false (by omega)
  have d5 : ((s.size : Int) == 19) = true := by rw [hl]; rfl
  have hov := Lx.over_iff (m := [57, 50, 50, 51, 51, 55, 50, 48, 51, 54, 56, 53, 52, 55, 55, 53, 56, 48, 55]) hok rfl (by decide) hl
  have hle :  s.size ≤ 19 := by omega
  have hov2 : (!(Op.bytesLess s.toList [57, 50, 50, 51, 51, 55, 50, 48, 51, 54, 56, 53, 52, 55, 55, 53, 56, 48, 55] || s.toList == [57, 50, 50, 51, 51, 55, 50, 48, 51, 54, 56, 53, 52, 55, 55, 53, 56, 48, 55])) = false := by
    rw [Lx.toList_ls, hov]
    first | exact decide_eq_true hf | exact decide_eq_false (Nat.not_lt.2 hf)
  clear hov
  obtain ⟨x, hx⟩ : ∃ x, x = Op.bytesLess s.toList [57, 50, 50, 51, 51, 55, 50, 48, 51, 54, 56, 53, 52, 55, 55, 53, 56, 48, 55] := ⟨_, rfl⟩
  obtain ⟨y, hy⟩ : ∃ y, y = (s.toList == [57, 50, 50, 51, 51, 55, 50, 48, 51, 54, 56, 53, 52, 55, 55, 53, 56, 48, 55]) := ⟨_, rfl⟩
  rw [← hx, ← hy] at hov2
  have q1 := hx.symm
  have q2 := hy.symm
  clear hx hy
  clear hR hcut hok h1 hf hl
  cases x <;> cases y <;> simp only [Bool.or_true, Bool.or_false, Bool.not_true, Bool.not_false, Bool.false_eq_true, Bool.true_eq_false, reduceCtorEq] at hov2
  all_goals
    go_enter Try.func39, Try.ntmps39
    go_wp2_with fail
    refine (rdigits_any _ w hds).mono ?_
    rintro e w' ⟨rfl, rfl⟩
    rw [HO.out]
    go_wp2
    go_loop [7, 8] (fun n i => ∃ k : Nat, ∃ m : Nat, k ≤  s.size ∧ i = .int .i64 k ∧ n = .int .i64 (-(m : Int)) ∧ m ≤ 9223372036854775807 ∧ Hid (m = Lx.dec ((Lx.ls s).take k))) (fun _ i =>  s.size - (intOf i).toNat)
    case atStart => exact ⟨0, 0, by omega, rfl, rfl, by omega, Lib.hid rfl⟩
    case round =>
      obtain ⟨k, m, hk, rfl, rfl, hm, HM⟩ := hrel
      by_cases hlt : k <  s.size
      · obtain ⟨c1, c2⟩ := Lx.digsOk_all HO.out hlt
        have hst := Lx.dec_step hlt
        rw [← HM.out] at hst
        have hst2 : 10 * m + (s[k].toNat - 48) ≤ 9223372036854775807 := Nat.le_trans hst HF.out
        clear hst
        go_wp2
        go_round
        case rel => exact ⟨k + 1, 10 * m + (s[k].toNat - 48), by omega, by go_num, by congr 1; omega, by omega, Lib.hid (by rw [Lx.dec_take_succ hlt, HM.out])⟩
        case measure => simp [intOf]; omega
      · obtain rfl : k =  s.size := by omega
        have hm2 : m = Lx.dec (Lx.ls s) := by rw [HM.out, Lx.take_all]
        have hf := Lx.readD_fits (neg := false) HO.out (.inl rfl) (by simpa [Lx.most_eq] using HF.out)
        have HE := Lib.hid hf
        have HM2 := Lib.hid hm2
        clear hf hm2
        go_wp2
        go_ret2
        refine ⟨?_, rfl⟩
        rw [← HR.out, HE.out, ← HM2.out]
        simp only [Array.getD_eq_getD_getElem?]
        refine ret_2 (int_eq ?_) rfl
        simp

theorem rread_pos_fshort (s : ByteArray) (w : World) (hs : s.size ≤ 1000000000) (h0 : 0 < s.size) (h1 : s[0].toNat ≠ 45) (hok : Lx.digsOk (Lx.ls s) = true) (hf : Lx.dec (Lx.ls s) ≤ 9223372036854775807) (hl :  s.size < 19) :
    Calls Try.prog 39 #[.string s] w fun e w' => e = .returned (.tuple #[.int .i64 (Lx.read (Lx.ls s)).1, .int .i64 (Lx.read (Lx.ls s)).2]) ∧ w = w' := by
  have hcut : Lx.cutp (Lx.ls s) = (Lx.ls s, false) := by exact Lx.cutp_no (.inr ⟨h0, h1⟩)
  have hds := hs
  rw [Lx.read_eq, hcut]
  generalize hR : Lx.readD (Lx.ls s) false = R
  have HR := Lib.hid hR
  have HO := Lib.hid hok
  have d1 : decide (0 < (s.size : Int)) = true := by simp; omega
  have d2 : ((s[0].toNat : Int) == 45) = false := by simp; omega
  have HF := Lib.hid hf
  have d4 : decide (19 < (s.size : Int)) = false := decide_eq_false (by omega)
  have d5 : ((s.size : Int) == 19) = false := by simp; omega
  clear hR hcut hok h1 hf
  go_enter Try.func39, Try.ntmps39
  go_wp2_with fail
  refine (rdigits_any _ w hds).mono ?_
  rintro e w' ⟨rfl, rfl⟩
  rw [HO.out]
  go_wp2
  go_loop [7, 8] (fun n i => ∃ k : Nat, ∃ m : Nat, k ≤  s.size ∧ i = .int .i64 k ∧ n = .int .i64 (-(m : Int)) ∧ m ≤ 9223372036854775807 ∧ Hid (m = Lx.dec ((Lx.ls s).take k))) (fun _ i =>  s.size - (intOf i).toNat)
  case atStart => exact ⟨0, 0, by omega, rfl, rfl, by omega, Lib.hid rfl⟩
  case round =>
    obtain ⟨k, m, hk, rfl, rfl, hm, HM⟩ := hrel
    by_cases hlt : k <  s.size
    · obtain ⟨c1, c2⟩ := Lx.digsOk_all HO.out hlt
      have hst := Lx.dec_step hlt
      rw [← HM.out] at hst
      have hst2 : 10 * m + (s[k].toNat - 48) ≤ 9223372036854775807 := Nat.le_trans hst HF.out
      clear hst
      go_wp2
      go_round
      case rel => exact ⟨k + 1, 10 * m + (s[k].toNat - 48), by omega, by go_num, by congr 1; omega, by omega, Lib.hid (by rw [Lx.dec_take_succ hlt, HM.out])⟩
      case measure => simp [intOf]; omega
    · obtain rfl : k =  s.size := by omega
      have hm2 : m = Lx.dec (Lx.ls s) := by rw [HM.out, Lx.take_all]
      have hf := Lx.readD_fits (neg := false) HO.out (.inl rfl) (by simpa [Lx.most_eq] using HF.out)
      have HE := Lib.hid hf
      have HM2 := Lib.hid hm2
      clear hf hm2
      go_wp2
      go_ret2
      refine ⟨?_, rfl⟩
      rw [← HR.out, HE.out, ← HM2.out]
      simp only [Array.getD_eq_getD_getElem?]
      refine ret_2 (int_eq ?_) rfl
      simp

theorem rread_zero (s : ByteArray) (w : World) (hs : s.size ≤ 1000000000) (h0 : 0 < s.size) (h1 : s[0].toNat = 45) (hz : Lx.ls (s.extract 1 s.size) = [48]) :
    Calls Try.prog 39 #[.string s] w fun e w' => e = .returned (.tuple #[.int .i64 (Lx.read (Lx.ls s)).1, .int .i64 (Lx.read (Lx.ls s)).2]) ∧ w = w' := by
  have hR : Lx.read (Lx.ls s) = (0, 8) := by rw [Lx.read_eq, Lx.cutp_yes h0 h1, hz]; rfl
  rw [hR]
  have d1 : decide (0 < (s.size : Int)) = true := by simp; omega
  have d2 : ((s[0].toNat : Int) == 45) = true := by simp; omega
  have d3 : ((s.extract 1 s.size).toList == [48]) = true := by rw [Lx.toList_ls, hz]; rfl
  have HO : Hid (Lx.digsOk (Lx.ls (s.extract 1 s.size)) = true) := by unfold Hid; rw [hz]; rfl
  clear hR hz h1
  go_enter Try.func39, Try.ntmps39
  go_wp2_with fail
  refine (rdigits_any _ w (by rw [Lx.extract_size _ _ _ (Nat.le_refl _)]; omega)).mono ?_
  rintro e w' ⟨rfl, rfl⟩
  rw [HO.out]
  go_wp2
  go_ret2
  exact ⟨rfl, rfl⟩

theorem rread_any (s : ByteArray) (w : World) (hs : s.size ≤ 1000000000) :
    Calls Try.prog 39 #[.string s] w fun e w' => e = .returned (.tuple #[.int .i64 (Lx.read (Lx.ls s)).1, .int .i64 (Lx.read (Lx.ls s)).2]) ∧ w = w' := by
  cases hok : Lx.digsOk (Lx.cutp (Lx.ls s)).1 with
  | false => exact rread_bad s w hs hok
  | true =>
    by_cases h0 : 0 < s.size
    · by_cases h1 : s[0].toNat = 45
      · rw [Lx.cutp_yes h0 h1] at hok
        have hok : Lx.digsOk (Lx.ls (s.extract 1 s.size)) = true := hok
        by_cases hz : Lx.ls (s.extract 1 s.size) = [48]
        · exact rread_zero s w hs h0 h1 hz
        · by_cases hf : Lx.dec (Lx.ls (s.extract 1 s.size)) ≤ 9223372036854775808
          · rcases Nat.lt_trichotomy (s.extract 1 s.size).size 19 with hl | hl | hl
            · exact rread_neg_fshort s w hs _ h0 h1 rfl hok hz hf hl
            · exact rread_neg_fsame s w hs _ h0 h1 rfl hok hz hf hl
            · have := Lx.long_over hok hl; omega
          · rcases Nat.lt_trichotomy (s.extract 1 s.size).size 19 with hl | hl | hl
            · have := Lx.short_fits hok hl; omega
            · exact rread_neg_osame s w hs _ h0 h1 rfl hok hz (Nat.lt_of_not_le hf) hl
            · exact rread_neg_olong s w hs _ h0 h1 rfl hok hz (Nat.lt_of_not_le hf) hl
      · rw [Lx.cutp_no (.inr ⟨h0, h1⟩)] at hok
        have hok : Lx.digsOk (Lx.ls s) = true := hok
        by_cases hf : Lx.dec (Lx.ls s) ≤ 9223372036854775807
        · rcases Nat.lt_trichotomy s.size 19 with hl | hl | hl
          · exact rread_pos_fshort s w hs h0 h1 hok hf hl
          · exact rread_pos_fsame s w hs h0 h1 hok hf hl
          · have := Lx.long_over hok hl; omega
        · rcases Nat.lt_trichotomy s.size 19 with hl | hl | hl
          · have := Lx.short_fits hok hl; omega
          · exact rread_pos_osame s w hs h0 h1 hok (Nat.lt_of_not_le hf) hl
          · exact rread_pos_olong s w hs h0 h1 hok (Nat.lt_of_not_le hf) hl
    · rw [Lx.cutp_no (.inl (by omega)), Lx.ls_nil (by omega)] at hok
      cases hok
end Go.Proofs.Ytepdpdlakgnpmaa
