import Derived.Test.YtepdpdlakgnpmaaLexA
import Derived.Test.YtepdpdlakgnpmaaLxC
import Derived.Test.YtepdpdlakgnpmaaTextB
set_option linter.unusedVariables false
set_option linter.unusedSimpArgs false
namespace Go.Proofs.Ytepdpdlakgnpmaa
open Go.RowKit
def endE (o : Option Nat) : Ending := .returned (.tuple #[.int .i64 ((o.getD 0 : Nat) : Int), .bool o.isSome])
theorem quoted_any (s : ByteArray) (k0 : Nat) (w : World) (hs : s.size ≤ 1000000000) (hk0 : k0 < s.size) :
    Calls Try.prog 32 #[.string s, .int .i64 k0] w fun e w' => e = endE (Lx.shift (Lx.qEnd (Lx.suf s (k0 + 1))) (k0 + 1)) ∧ w = w' := by
  generalize hR : Lx.shift (Lx.qEnd (Lx.suf s (k0 + 1))) (k0 + 1) = R
  have HR := Lib.hid hR
  clear hR
  go_enter Try.func32, Try.ntmps32
  go_wp2
  go_loop [6] (fun i => ∃ k : Nat, k ≤ s.size ∧ i = .int .i64 k ∧ Hid (Lx.shift (Lx.qEnd (Lx.suf s k)) k = R)) (fun i => s.size - (intOf i).toNat)
  case atStart => exact ⟨k0 + 1, by omega, by go_num, HR⟩
  case round =>
    obtain ⟨k, hk, rfl, HK⟩ := hrel
    by_cases hlt : k < s.size
    · by_cases h39 : s[k].toNat = 39
      · have d1 : ((s[k].toNat : Int) != 39) = false := by simp; omega
        by_cases hlt2 : k + 1 < s.size
        · have d2 : ((k : Int) + 1 == (s.size : Int)) = false := by simp; omega
          by_cases h392 : s[k + 1].toNat = 39
          · have d3 : ((s[k + 1].toNat : Int) != 39) = false := by simp; omega
            have HK' := Lib.hid (Eq.trans (Lx.q_pair hlt2 h39 h392).symm HK.out)
            have H39 := Lib.hid h39
            have H392 := Lib.hid h392
            clear h39 h392
            go_wp2
            go_round
            case rel => exact ⟨k + 2, by omega, by go_num, HK'⟩
            case measure => simp [intOf]; omega
          · have d3 : ((s[k + 1].toNat : Int) != 39) = true := by simp; omega
            have hf := Lx.q_stop hlt h39 (fun _ => h392)
            rw [HK.out] at hf
            subst hf
            have H39 := Lib.hid h39
            clear h39 h392
            go_wp2
            go_ret2
            exact ⟨rfl, rfl⟩
        · have d2 : ((k : Int) + 1 == (s.size : Int)) = true := by simp; omega
          have hf := Lx.q_stop hlt h39 (fun h => absurd h hlt2)
          rw [HK.out] at hf
          subst hf
          have H39 := Lib.hid h39
          clear h39
          go_wp2
          go_ret2
          exact ⟨rfl, rfl⟩
      · have d1 : ((s[k].toNat : Int) != 39) = true := by simp; omega
        have HK' := Lib.hid (Eq.trans (Lx.q_go hlt h39).symm HK.out)
        clear h39
        go_wp2
        go_round
        case rel => exact ⟨k + 1, by omega, by go_num, HK'⟩
        case measure => simp [intOf]; omega
    · have hf : R = none := by rw [← HK.out, Lx.q_end (by omega)]
      subst hf
      go_wp2
      go_ret2
      exact ⟨rfl, rfl⟩
theorem noq_any (c : UInt8) (w : World) :
    Calls Try.prog 43 #[.int .u8 c.toNat] w fun e w' => e = .returned (.bool (Lx.noq c)) ∧ w = w' := by
  go_enter Try.func43, Try.ntmps43
  go_wp2
  go_ret
  refine ⟨ret_b ?_, rfl⟩
  rw [Bool.eq_iff_iff]
  simp [Lx.noq, ← UInt8.toNat_inj]
  omega
theorem blob_any (s : ByteArray) (k : Nat) (w : World) (hs : s.size ≤ 1000000000) (hk : k < s.size) :
    Calls Try.prog 26 #[.string s, .int .i64 k] w fun e w' => e = endE (if Lx.isBlob (Lx.suf s k) then some (k + 2 + Lx.many Lx.noq (Lx.suf s (k + 2)) + 1) else none) ∧ w = w' := by
  by_cases hx : s[k].toNat = 120 ∨ s[k].toNat = 88
  · have dd : ((s[k].toNat : Int) != 120) = false ∨ ((s[k].toNat : Int) != 120) = true ∧ ((s[k].toNat : Int) != 88) = false := by
      rcases hx with h | h
      · left; simp; omega
      · right; simp; omega
    by_cases hl : k + 1 < s.size
    · have d2 : decide ((s.size : Int) ≤ (k : Int) + 1) = false := decide_eq_false (by omega)
      by_cases h39 : s[k + 1].toNat = 39
      · have d3 : ((s[k + 1].toNat : Int) != 39) = false := by simp; omega
        rw [Lx.isBlob_yes hl hx h39, if_pos rfl]
        have hm := Lx.many_le Lx.noq (Lx.suf s (k + 2))
        rw [Lx.suf_length] at hm
        obtain ⟨m, hm2⟩ : ∃ m, m = Lx.many Lx.noq (Lx.suf s (k + 2)) := ⟨_, rfl⟩
        rw [← hm2] at hm ⊢
        have HM := Lib.hid hm2
        clear h39 hx hm2
        rcases dd with d1 | ⟨d1, d1'⟩
        all_goals
          go_enter Try.func26, Try.ntmps26
          go_wp2_with fail
          refine (while_any 43 Lx.noq (by intro args w; go_simp) noq_any s (k + 2) w (by omega) (by omega)).mono ?_
          rintro e w' ⟨rfl, rfl⟩
          rw [← HM.out]
          go_wp2
          go_ret2
          exact ⟨rfl, rfl⟩
      · have d3 : ((s[k + 1].toNat : Int) != 39) = true := by simp; omega
        rw [Lx.isBlob_no (by omega) (.inr (fun _ => h39)), if_neg (by decide)]
        clear h39 hx
        rcases dd with d1 | ⟨d1, d1'⟩
        all_goals
          go_enter Try.func26, Try.ntmps26
          go_wp2
          go_ret2
          exact ⟨rfl, rfl⟩
    · have d2 : decide ((s.size : Int) ≤ (k : Int) + 1) = true := decide_eq_true (by omega)
      rw [Lx.isBlob_no (by omega) (.inr (fun h => absurd h hl)), if_neg (by decide)]
      clear hx
      rcases dd with d1 | ⟨d1, d1'⟩
      all_goals
        go_enter Try.func26, Try.ntmps26
        go_wp2
        go_ret2
        exact ⟨rfl, rfl⟩
  · have d1 : ((s[k].toNat : Int) != 120) = true := by simp; omega
    have d1' : ((s[k].toNat : Int) != 88) = true := by simp; omega
    rw [Lx.isBlob_no hk (.inl (by omega)), if_neg (by decide)]
    clear hx
    go_enter Try.func26, Try.ntmps26
    go_wp2
    go_ret2
    exact ⟨rfl, rfl⟩
def signE (k n : Nat) : Ending := .returned (.tuple #[.int .i64 ((if n = 0 then 0 else k + n : Nat) : Int), .bool (!(n == 0))])
theorem sign_two (s : ByteArray) (k : Nat) (w : World) (hs : s.size ≤ 1000000000) (hk : k < s.size) (h2 : k + 2 ≤ s.size) (hm : Lx.marks2.contains ((Lx.suf s k).take 2) = true) :
    Calls Try.prog 33 #[.string s, .int .i64 k] w fun e w' => e = signE k (Lx.markN (Lx.suf s k)) ∧ w = w' := by
  rw [Lx.markN_2 hm]
  rw [← Lx.take2 h2] at hm
  simp only [Lx.marks2, List.contains_eq_mem, List.mem_cons, List.not_mem_nil, or_false, decide_eq_true_eq] at hm
  rcases hm with hm | hm | hm | hm
  · have q0 : ((s.extract k (k + 2)).toList == [124, 124]) = true := by rw [hm]; rfl
    clear hm
    go_enter Try.func33, Try.ntmps33
    go_wp2
    go_ret2
    exact ⟨rfl, rfl⟩
  · have q0 : ((s.extract k (k + 2)).toList == [124, 124]) = false := by rw [hm]; rfl
    have q1 : ((s.extract k (k + 2)).toList == [60, 62]) = true := by rw [hm]; rfl
    clear hm
    go_enter Try.func33, Try.ntmps33
    go_wp2
    go_ret2
    exact ⟨rfl, rfl⟩
  · have q0 : ((s.extract k (k + 2)).toList == [124, 124]) = false := by rw [hm]; rfl
    have q1 : ((s.extract k (k + 2)).toList == [60, 62]) = false := by rw [hm]; rfl
    have q2 : ((s.extract k (k + 2)).toList == [60, 61]) = true := by rw [hm]; rfl
    clear hm
    go_enter Try.func33, Try.ntmps33
    go_wp2
    go_ret2
    exact ⟨rfl, rfl⟩
  · have q0 : ((s.extract k (k + 2)).toList == [124, 124]) = false := by rw [hm]; rfl
    have q1 : ((s.extract k (k + 2)).toList == [60, 62]) = false := by rw [hm]; rfl
    have q2 : ((s.extract k (k + 2)).toList == [60, 61]) = false := by rw [hm]; rfl
    have q3 : ((s.extract k (k + 2)).toList == [62, 61]) = true := by rw [hm]; rfl
    clear hm
    go_enter Try.func33, Try.ntmps33
    go_wp2
    go_ret2
    exact ⟨rfl, rfl⟩
set_option maxHeartbeats 2000000 in
theorem sign_one (s : ByteArray) (k : Nat) (w : World) (hs : s.size ≤ 1000000000) (hk : k < s.size) (h2 : k + 2 ≤ s.size) (hm : Lx.marks2.contains ((Lx.suf s k).take 2) = false) :
    Calls Try.prog 33 #[.string s, .int .i64 k] w fun e w' => e = signE k (Lx.markN (Lx.suf s k)) ∧ w = w' := by
  have hM := Lx.markN_1 hk hm
  rw [Lx.contains1] at hM
  rw [← Lx.take2 h2] at hm
  simp only [Lx.marks2, List.contains_eq_mem, List.mem_cons, List.not_mem_nil, or_false, decide_eq_false_iff_not, not_or] at hm
  obtain ⟨n0, n1, n2, n3⟩ := hm
  have q0 : ((s.extract k (k + 2)).toList == [124, 124]) = false := beq_eq_false_iff_ne.2 n0
  have q1 : ((s.extract k (k + 2)).toList == [60, 62]) = false := beq_eq_false_iff_ne.2 n1
  have q2 : ((s.extract k (k + 2)).toList == [60, 61]) = false := beq_eq_false_iff_ne.2 n2
  have q3 : ((s.extract k (k + 2)).toList == [62, 61]) = false := beq_eq_false_iff_ne.2 n3
  clear n0 n1 n2 n3
  by_cases c0 : s[k].toNat = 61
  · have hM1 : Lx.markN (Lx.suf s k) = 1 := by rw [hM, c0]; rfl
    rw [hM1]
    have e0 : ((s[k].toNat : Int) == 61) = true := by rw [c0]; rfl
    clear hM hM1 c0
    go_enter Try.func33, Try.ntmps33
    go_wp2
    go_ret2
    exact ⟨rfl, rfl⟩
  by_cases c1 : s[k].toNat = 60
  · have hM1 : Lx.markN (Lx.suf s k) = 1 := by rw [hM, c1]; rfl
    rw [hM1]
    have e0 : ((s[k].toNat : Int) == 61) = false := by rw [c1]; rfl
    have e1 : ((s[k].toNat : Int) == 60) = true := by rw [c1]; rfl
    clear hM hM1 c0 c1
    go_enter Try.func33, Try.ntmps33
    go_wp2
    go_ret2
    exact ⟨rfl, rfl⟩
  by_cases c2 : s[k].toNat = 62
  · have hM1 : Lx.markN (Lx.suf s k) = 1 := by rw [hM, c2]; rfl
    rw [hM1]
    have e0 : ((s[k].toNat : Int) == 61) = false := by rw [c2]; rfl
    have e1 : ((s[k].toNat : Int) == 60) = false := by rw [c2]; rfl
    have e2 : ((s[k].toNat : Int) == 62) = true := by rw [c2]; rfl
    clear hM hM1 c0 c1 c2
    go_enter Try.func33, Try.ntmps33
    go_wp2
    go_ret2
    exact ⟨rfl, rfl⟩
  by_cases c3 : s[k].toNat = 43
  · have hM1 : Lx.markN (Lx.suf s k) = 1 := by rw [hM, c3]; rfl
    rw [hM1]
    have e0 : ((s[k].toNat : Int) == 61) = false := by rw [c3]; rfl
    have e1 : ((s[k].toNat : Int) == 60) = false := by rw [c3]; rfl
    have e2 : ((s[k].toNat : Int) == 62) = false := by rw [c3]; rfl
    have e3 : ((s[k].toNat : Int) == 43) = true := by rw [c3]; rfl
    clear hM hM1 c0 c1 c2 c3
    go_enter Try.func33, Try.ntmps33
    go_wp2
    go_ret2
    exact ⟨rfl, rfl⟩
  by_cases c4 : s[k].toNat = 45
  · have hM1 : Lx.markN (Lx.suf s k) = 1 := by rw [hM, c4]; rfl
    rw [hM1]
    have e0 : ((s[k].toNat : Int) == 61) = false := by rw [c4]; rfl
    have e1 : ((s[k].toNat : Int) == 60) = false := by rw [c4]; rfl
    have e2 : ((s[k].toNat : Int) == 62) = false := by rw [c4]; rfl
    have e3 : ((s[k].toNat : Int) == 43) = false := by rw [c4]; rfl
    have e4 : ((s[k].toNat : Int) == 45) = true := by rw [c4]; rfl
    clear hM hM1 c0 c1 c2 c3 c4
    go_enter Try.func33, Try.ntmps33
    go_wp2
    go_ret2
    exact ⟨rfl, rfl⟩
  by_cases c5 : s[k].toNat = 42
  · have hM1 : Lx.markN (Lx.suf s k) = 1 := by rw [hM, c5]; rfl
    rw [hM1]
    have e0 : ((s[k].toNat : Int) == 61) = false := by rw [c5]; rfl
    have e1 : ((s[k].toNat : Int) == 60) = false := by rw [c5]; rfl
    have e2 : ((s[k].toNat : Int) == 62) = false := by rw [c5]; rfl
    have e3 : ((s[k].toNat : Int) == 43) = false := by rw [c5]; rfl
    have e4 : ((s[k].toNat : Int) == 45) = false := by rw [c5]; rfl
    have e5 : ((s[k].toNat : Int) == 42) = true := by rw [c5]; rfl
    clear hM hM1 c0 c1 c2 c3 c4 c5
    go_enter Try.func33, Try.ntmps33
    go_wp2
    go_ret2
    exact ⟨rfl, rfl⟩
  by_cases c6 : s[k].toNat = 47
  · have hM1 : Lx.markN (Lx.suf s k) = 1 := by rw [hM, c6]; rfl
    rw [hM1]
    have e0 : ((s[k].toNat : Int) == 61) = false := by rw [c6]; rfl
    have e1 : ((s[k].toNat : Int) == 60) = false := by rw [c6]; rfl
    have e2 : ((s[k].toNat : Int) == 62) = false := by rw [c6]; rfl
    have e3 : ((s[k].toNat : Int) == 43) = false := by rw [c6]; rfl
    have e4 : ((s[k].toNat : Int) == 45) = false := by rw [c6]; rfl
    have e5 : ((s[k].toNat : Int) == 42) = false := by rw [c6]; rfl
    have e6 : ((s[k].toNat : Int) == 47) = true := by rw [c6]; rfl
    clear hM hM1 c0 c1 c2 c3 c4 c5 c6
    go_enter Try.func33, Try.ntmps33
    go_wp2
    go_ret2
    exact ⟨rfl, rfl⟩
  by_cases c7 : s[k].toNat = 37
  · have hM1 : Lx.markN (Lx.suf s k) = 1 := by rw [hM, c7]; rfl
    rw [hM1]
    have e0 : ((s[k].toNat : Int) == 61) = false := by rw [c7]; rfl
    have e1 : ((s[k].toNat : Int) == 60) = false := by rw [c7]; rfl
    have e2 : ((s[k].toNat : Int) == 62) = false := by rw [c7]; rfl
    have e3 : ((s[k].toNat : Int) == 43) = false := by rw [c7]; rfl
    have e4 : ((s[k].toNat : Int) == 45) = false := by rw [c7]; rfl
    have e5 : ((s[k].toNat : Int) == 42) = false := by rw [c7]; rfl
    have e6 : ((s[k].toNat : Int) == 47) = false := by rw [c7]; rfl
    have e7 : ((s[k].toNat : Int) == 37) = true := by rw [c7]; rfl
    clear hM hM1 c0 c1 c2 c3 c4 c5 c6 c7
    go_enter Try.func33, Try.ntmps33
    go_wp2
    go_ret2
    exact ⟨rfl, rfl⟩
  by_cases c8 : s[k].toNat = 40
  · have hM1 : Lx.markN (Lx.suf s k) = 1 := by rw [hM, c8]; rfl
    rw [hM1]
    have e0 : ((s[k].toNat : Int) == 61) = false := by rw [c8]; rfl
    have e1 : ((s[k].toNat : Int) == 60) = false := by rw [c8]; rfl
    have e2 : ((s[k].toNat : Int) == 62) = false := by rw [c8]; rfl
    have e3 : ((s[k].toNat : Int) == 43) = false := by rw [c8]; rfl
    have e4 : ((s[k].toNat : Int) == 45) = false := by rw [c8]; rfl
    have e5 : ((s[k].toNat : Int) == 42) = false := by rw [c8]; rfl
    have e6 : ((s[k].toNat : Int) == 47) = false := by rw [c8]; rfl
    have e7 : ((s[k].toNat : Int) == 37) = false := by rw [c8]; rfl
    have e8 : ((s[k].toNat : Int) == 40) = true := by rw [c8]; rfl
    clear hM hM1 c0 c1 c2 c3 c4 c5 c6 c7 c8
    go_enter Try.func33, Try.ntmps33
    go_wp2
    go_ret2
    exact ⟨rfl, rfl⟩
  by_cases c9 : s[k].toNat = 41
  · have hM1 : Lx.markN (Lx.suf s k) = 1 := by rw [hM, c9]; rfl
    rw [hM1]
    have e0 : ((s[k].toNat : Int) == 61) = false := by rw [c9]; rfl
    have e1 : ((s[k].toNat : Int) == 60) = false := by rw [c9]; rfl
    have e2 : ((s[k].toNat : Int) == 62) = false := by rw [c9]; rfl
    have e3 : ((s[k].toNat : Int) == 43) = false := by rw [c9]; rfl
    have e4 : ((s[k].toNat : Int) == 45) = false := by rw [c9]; rfl
    have e5 : ((s[k].toNat : Int) == 42) = false := by rw [c9]; rfl
    have e6 : ((s[k].toNat : Int) == 47) = false := by rw [c9]; rfl
    have e7 : ((s[k].toNat : Int) == 37) = false := by rw [c9]; rfl
    have e8 : ((s[k].toNat : Int) == 40) = false := by rw [c9]; rfl
    have e9 : ((s[k].toNat : Int) == 41) = true := by rw [c9]; rfl
    clear hM hM1 c0 c1 c2 c3 c4 c5 c6 c7 c8 c9
    go_enter Try.func33, Try.ntmps33
    go_wp2
    go_ret2
    exact ⟨rfl, rfl⟩
  by_cases c10 : s[k].toNat = 44
  · have hM1 : Lx.markN (Lx.suf s k) = 1 := by rw [hM, c10]; rfl
    rw [hM1]
    have e0 : ((s[k].toNat : Int) == 61) = false := by rw [c10]; rfl
    have e1 : ((s[k].toNat : Int) == 60) = false := by rw [c10]; rfl
    have e2 : ((s[k].toNat : Int) == 62) = false := by rw [c10]; rfl
    have e3 : ((s[k].toNat : Int) == 43) = false := by rw [c10]; rfl
    have e4 : ((s[k].toNat : Int) == 45) = false := by rw [c10]; rfl
    have e5 : ((s[k].toNat : Int) == 42) = false := by rw [c10]; rfl
    have e6 : ((s[k].toNat : Int) == 47) = false := by rw [c10]; rfl
    have e7 : ((s[k].toNat : Int) == 37) = false := by rw [c10]; rfl
    have e8 : ((s[k].toNat : Int) == 40) = false := by rw [c10]; rfl
    have e9 : ((s[k].toNat : Int) == 41) = false := by rw [c10]; rfl
    have e10 : ((s[k].toNat : Int) == 44) = true := by rw [c10]; rfl
    clear hM hM1 c0 c1 c2 c3 c4 c5 c6 c7 c8 c9 c10
    go_enter Try.func33, Try.ntmps33
    go_wp2
    go_ret2
    exact ⟨rfl, rfl⟩
  by_cases c11 : s[k].toNat = 46
  · have hM1 : Lx.markN (Lx.suf s k) = 1 := by rw [hM, c11]; rfl
    rw [hM1]
    have e0 : ((s[k].toNat : Int) == 61) = false := by rw [c11]; rfl
    have e1 : ((s[k].toNat : Int) == 60) = false := by rw [c11]; rfl
    have e2 : ((s[k].toNat : Int) == 62) = false := by rw [c11]; rfl
    have e3 : ((s[k].toNat : Int) == 43) = false := by rw [c11]; rfl
    have e4 : ((s[k].toNat : Int) == 45) = false := by rw [c11]; rfl
    have e5 : ((s[k].toNat : Int) == 42) = false := by rw [c11]; rfl
    have e6 : ((s[k].toNat : Int) == 47) = false := by rw [c11]; rfl
    have e7 : ((s[k].toNat : Int) == 37) = false := by rw [c11]; rfl
    have e8 : ((s[k].toNat : Int) == 40) = false := by rw [c11]; rfl
    have e9 : ((s[k].toNat : Int) == 41) = false := by rw [c11]; rfl
    have e10 : ((s[k].toNat : Int) == 44) = false := by rw [c11]; rfl
    have e11 : ((s[k].toNat : Int) == 46) = true := by rw [c11]; rfl
    clear hM hM1 c0 c1 c2 c3 c4 c5 c6 c7 c8 c9 c10 c11
    go_enter Try.func33, Try.ntmps33
    go_wp2
    go_ret2
    exact ⟨rfl, rfl⟩
  by_cases c12 : s[k].toNat = 59
  · have hM1 : Lx.markN (Lx.suf s k) = 1 := by rw [hM, c12]; rfl
    rw [hM1]
    have e0 : ((s[k].toNat : Int) == 61) = false := by rw [c12]; rfl
    have e1 : ((s[k].toNat : Int) == 60) = false := by rw [c12]; rfl
    have e2 : ((s[k].toNat : Int) == 62) = false := by rw [c12]; rfl
    have e3 : ((s[k].toNat : Int) == 43) = false := by rw [c12]; rfl
    have e4 : ((s[k].toNat : Int) == 45) = false := by rw [c12]; rfl
    have e5 : ((s[k].toNat : Int) == 42) = false := by rw [c12]; rfl
    have e6 : ((s[k].toNat : Int) == 47) = false := by rw [c12]; rfl
    have e7 : ((s[k].toNat : Int) == 37) = false := by rw [c12]; rfl
    have e8 : ((s[k].toNat : Int) == 40) = false := by rw [c12]; rfl
    have e9 : ((s[k].toNat : Int) == 41) = false := by rw [c12]; rfl
    have e10 : ((s[k].toNat : Int) == 44) = false := by rw [c12]; rfl
    have e11 : ((s[k].toNat : Int) == 46) = false := by rw [c12]; rfl
    have e12 : ((s[k].toNat : Int) == 59) = true := by rw [c12]; rfl
    clear hM hM1 c0 c1 c2 c3 c4 c5 c6 c7 c8 c9 c10 c11 c12
    go_enter Try.func33, Try.ntmps33
    go_wp2
    go_ret2
    exact ⟨rfl, rfl⟩
  have hM0 : Lx.markN (Lx.suf s k) = 0 := by rw [hM]; simp [c0, c1, c2, c3, c4, c5, c6, c7, c8, c9, c10, c11, c12]
  rw [hM0]
  have e0 : ((s[k].toNat : Int) == 61) = false := by simp; omega
  have e1 : ((s[k].toNat : Int) == 60) = false := by simp; omega
  have e2 : ((s[k].toNat : Int) == 62) = false := by simp; omega
  have e3 : ((s[k].toNat : Int) == 43) = false := by simp; omega
  have e4 : ((s[k].toNat : Int) == 45) = false := by simp; omega
  have e5 : ((s[k].toNat : Int) == 42) = false := by simp; omega
  have e6 : ((s[k].toNat : Int) == 47) = false := by simp; omega
  have e7 : ((s[k].toNat : Int) == 37) = false := by simp; omega
  have e8 : ((s[k].toNat : Int) == 40) = false := by simp; omega
  have e9 : ((s[k].toNat : Int) == 41) = false := by simp; omega
  have e10 : ((s[k].toNat : Int) == 44) = false := by simp; omega
  have e11 : ((s[k].toNat : Int) == 46) = false := by simp; omega
  have e12 : ((s[k].toNat : Int) == 59) = false := by simp; omega
  clear hM hM0 c0 c1 c2 c3 c4 c5 c6 c7 c8 c9 c10 c11 c12
  go_enter Try.func33, Try.ntmps33
  go_wp2
  go_ret2
  exact ⟨rfl, rfl⟩
set_option maxHeartbeats 2000000 in
theorem sign_short (s : ByteArray) (k : Nat) (w : World) (hs : s.size ≤ 1000000000) (hk : k < s.size) (h2 : s.size < k + 2) :
    Calls Try.prog 33 #[.string s, .int .i64 k] w fun e w' => e = signE k (Lx.markN (Lx.suf s k)) ∧ w = w' := by
  have hm := Lx.short2 h2
  have hM := Lx.markN_1 hk hm
  rw [Lx.contains1] at hM
  clear hm
  by_cases c0 : s[k].toNat = 61
  · have hM1 : Lx.markN (Lx.suf s k) = 1 := by rw [hM, c0]; rfl
    rw [hM1]
    have e0 : ((s[k].toNat : Int) == 61) = true := by rw [c0]; rfl
    clear hM hM1 c0
    go_enter Try.func33, Try.ntmps33
    go_wp2
    go_ret2
    exact ⟨rfl, rfl⟩
  by_cases c1 : s[k].toNat = 60
  · have hM1 : Lx.markN (Lx.suf s k) = 1 := by rw [hM, c1]; rfl
    rw [hM1]
    have e0 : ((s[k].toNat : Int) == 61) = false := by rw [c1]; rfl
    have e1 : ((s[k].toNat : Int) == 60) = true := by rw [c1]; rfl
    clear hM hM1 c0 c1
    go_enter Try.func33, Try.ntmps33
    go_wp2
    go_ret2
    exact ⟨rfl, rfl⟩
  by_cases c2 : s[k].toNat = 62
  · have hM1 : Lx.markN (Lx.suf s k) = 1 := by rw [hM, c2]; rfl
    rw [hM1]
    have e0 : ((s[k].toNat : Int) == 61) = false := by rw [c2]; rfl
    have e1 : ((s[k].toNat : Int) == 60) = false := by rw [c2]; rfl
    have e2 : ((s[k].toNat : Int) == 62) = true := by rw [c2]; rfl
    clear hM hM1 c0 c1 c2
    go_enter Try.func33, Try.ntmps33
    go_wp2
    go_ret2
    exact ⟨rfl, rfl⟩
  by_cases c3 : s[k].toNat = 43
  · have hM1 : Lx.markN (Lx.suf s k) = 1 := by rw [hM, c3]; rfl
    rw [hM1]
    have e0 : ((s[k].toNat : Int) == 61) = false := by rw [c3]; rfl
    have e1 : ((s[k].toNat : Int) == 60) = false := by rw [c3]; rfl
    have e2 : ((s[k].toNat : Int) == 62) = false := by rw [c3]; rfl
    have e3 : ((s[k].toNat : Int) == 43) = true := by rw [c3]; rfl
    clear hM hM1 c0 c1 c2 c3
    go_enter Try.func33, Try.ntmps33
    go_wp2
    go_ret2
    exact ⟨rfl, rfl⟩
  by_cases c4 : s[k].toNat = 45
  · have hM1 : Lx.markN (Lx.suf s k) = 1 := by rw [hM, c4]; rfl
    rw [hM1]
    have e0 : ((s[k].toNat : Int) == 61) = false := by rw [c4]; rfl
    have e1 : ((s[k].toNat : Int) == 60) = false := by rw [c4]; rfl
    have e2 : ((s[k].toNat : Int) == 62) = false := by rw [c4]; rfl
    have e3 : ((s[k].toNat : Int) == 43) = false := by rw [c4]; rfl
    have e4 : ((s[k].toNat : Int) == 45) = true := by rw [c4]; rfl
    clear hM hM1 c0 c1 c2 c3 c4
    go_enter Try.func33, Try.ntmps33
    go_wp2
    go_ret2
    exact ⟨rfl, rfl⟩
  by_cases c5 : s[k].toNat = 42
  · have hM1 : Lx.markN (Lx.suf s k) = 1 := by rw [hM, c5]; rfl
    rw [hM1]
    have e0 : ((s[k].toNat : Int) == 61) = false := by rw [c5]; rfl
    have e1 : ((s[k].toNat : Int) == 60) = false := by rw [c5]; rfl
    have e2 : ((s[k].toNat : Int) == 62) = false := by rw [c5]; rfl
    have e3 : ((s[k].toNat : Int) == 43) = false := by rw [c5]; rfl
    have e4 : ((s[k].toNat : Int) == 45) = false := by rw [c5]; rfl
    have e5 : ((s[k].toNat : Int) == 42) = true := by rw [c5]; rfl
    clear hM hM1 c0 c1 c2 c3 c4 c5
    go_enter Try.func33, Try.ntmps33
    go_wp2
    go_ret2
    exact ⟨rfl, rfl⟩
  by_cases c6 : s[k].toNat = 47
  · have hM1 : Lx.markN (Lx.suf s k) = 1 := by rw [hM, c6]; rfl
    rw [hM1]
    have e0 : ((s[k].toNat : Int) == 61) = false := by rw [c6]; rfl
    have e1 : ((s[k].toNat : Int) == 60) = false := by rw [c6]; rfl
    have e2 : ((s[k].toNat : Int) == 62) = false := by rw [c6]; rfl
    have e3 : ((s[k].toNat : Int) == 43) = false := by rw [c6]; rfl
    have e4 : ((s[k].toNat : Int) == 45) = false := by rw [c6]; rfl
    have e5 : ((s[k].toNat : Int) == 42) = false := by rw [c6]; rfl
    have e6 : ((s[k].toNat : Int) == 47) = true := by rw [c6]; rfl
    clear hM hM1 c0 c1 c2 c3 c4 c5 c6
    go_enter Try.func33, Try.ntmps33
    go_wp2
    go_ret2
    exact ⟨rfl, rfl⟩
  by_cases c7 : s[k].toNat = 37
  · have hM1 : Lx.markN (Lx.suf s k) = 1 := by rw [hM, c7]; rfl
    rw [hM1]
    have e0 : ((s[k].toNat : Int) == 61) = false := by rw [c7]; rfl
    have e1 : ((s[k].toNat : Int) == 60) = false := by rw [c7]; rfl
    have e2 : ((s[k].toNat : Int) == 62) = false := by rw [c7]; rfl
    have e3 : ((s[k].toNat : Int) == 43) = false := by rw [c7]; rfl
    have e4 : ((s[k].toNat : Int) == 45) = false := by rw [c7]; rfl
    have e5 : ((s[k].toNat : Int) == 42) = false := by rw [c7]; rfl
    have e6 : ((s[k].toNat : Int) == 47) = false := by rw [c7]; rfl
    have e7 : ((s[k].toNat : Int) == 37) = true := by rw [c7]; rfl
    clear hM hM1 c0 c1 c2 c3 c4 c5 c6 c7
    go_enter Try.func33, Try.ntmps33
    go_wp2
    go_ret2
    exact ⟨rfl, rfl⟩
  by_cases c8 : s[k].toNat = 40
  · have hM1 : Lx.markN (Lx.suf s k) = 1 := by rw [hM, c8]; rfl
    rw [hM1]
    have e0 : ((s[k].toNat : Int) == 61) = false := by rw [c8]; rfl
    have e1 : ((s[k].toNat : Int) == 60) = false := by rw [c8]; rfl
    have e2 : ((s[k].toNat : Int) == 62) = false := by rw [c8]; rfl
    have e3 : ((s[k].toNat : Int) == 43) = false := by rw [c8]; rfl
    have e4 : ((s[k].toNat : Int) == 45) = false := by rw [c8]; rfl
    have e5 : ((s[k].toNat : Int) == 42) = false := by rw [c8]; rfl
    have e6 : ((s[k].toNat : Int) == 47) = false := by rw [c8]; rfl
    have e7 : ((s[k].toNat : Int) == 37) = false := by rw [c8]; rfl
    have e8 : ((s[k].toNat : Int) == 40) = true := by rw [c8]; rfl
    clear hM hM1 c0 c1 c2 c3 c4 c5 c6 c7 c8
    go_enter Try.func33, Try.ntmps33
    go_wp2
    go_ret2
    exact ⟨rfl, rfl⟩
  by_cases c9 : s[k].toNat = 41
  · have hM1 : Lx.markN (Lx.suf s k) = 1 := by rw [hM, c9]; rfl
    rw [hM1]
    have e0 : ((s[k].toNat : Int) == 61) = false := by rw [c9]; rfl
    have e1 : ((s[k].toNat : Int) == 60) = false := by rw [c9]; rfl
    have e2 : ((s[k].toNat : Int) == 62) = false := by rw [c9]; rfl
    have e3 : ((s[k].toNat : Int) == 43) = false := by rw [c9]; rfl
    have e4 : ((s[k].toNat : Int) == 45) = false := by rw [c9]; rfl
    have e5 : ((s[k].toNat : Int) == 42) = false := by rw [c9]; rfl
    have e6 : ((s[k].toNat : Int) == 47) = false := by rw [c9]; rfl
    have e7 : ((s[k].toNat : Int) == 37) = false := by rw [c9]; rfl
    have e8 : ((s[k].toNat : Int) == 40) = false := by rw [c9]; rfl
    have e9 : ((s[k].toNat : Int) == 41) = true := by rw [c9]; rfl
    clear hM hM1 c0 c1 c2 c3 c4 c5 c6 c7 c8 c9
    go_enter Try.func33, Try.ntmps33
    go_wp2
    go_ret2
    exact ⟨rfl, rfl⟩
  by_cases c10 : s[k].toNat = 44
  · have hM1 : Lx.markN (Lx.suf s k) = 1 := by rw [hM, c10]; rfl
    rw [hM1]
    have e0 : ((s[k].toNat : Int) == 61) = false := by rw [c10]; rfl
    have e1 : ((s[k].toNat : Int) == 60) = false := by rw [c10]; rfl
    have e2 : ((s[k].toNat : Int) == 62) = false := by rw [c10]; rfl
    have e3 : ((s[k].toNat : Int) == 43) = false := by rw [c10]; rfl
    have e4 : ((s[k].toNat : Int) == 45) = false := by rw [c10]; rfl
    have e5 : ((s[k].toNat : Int) == 42) = false := by rw [c10]; rfl
    have e6 : ((s[k].toNat : Int) == 47) = false := by rw [c10]; rfl
    have e7 : ((s[k].toNat : Int) == 37) = false := by rw [c10]; rfl
    have e8 : ((s[k].toNat : Int) == 40) = false := by rw [c10]; rfl
    have e9 : ((s[k].toNat : Int) == 41) = false := by rw [c10]; rfl
    have e10 : ((s[k].toNat : Int) == 44) = true := by rw [c10]; rfl
    clear hM hM1 c0 c1 c2 c3 c4 c5 c6 c7 c8 c9 c10
    go_enter Try.func33, Try.ntmps33
    go_wp2
    go_ret2
    exact ⟨rfl, rfl⟩
  by_cases c11 : s[k].toNat = 46
  · have hM1 : Lx.markN (Lx.suf s k) = 1 := by rw [hM, c11]; rfl
    rw [hM1]
    have e0 : ((s[k].toNat : Int) == 61) = false := by rw [c11]; rfl
    have e1 : ((s[k].toNat : Int) == 60) = false := by rw [c11]; rfl
    have e2 : ((s[k].toNat : Int) == 62) = false := by rw [c11]; rfl
    have e3 : ((s[k].toNat : Int) == 43) = false := by rw [c11]; rfl
    have e4 : ((s[k].toNat : Int) == 45) = false := by rw [c11]; rfl
    have e5 : ((s[k].toNat : Int) == 42) = false := by rw [c11]; rfl
    have e6 : ((s[k].toNat : Int) == 47) = false := by rw [c11]; rfl
    have e7 : ((s[k].toNat : Int) == 37) = false := by rw [c11]; rfl
    have e8 : ((s[k].toNat : Int) == 40) = false := by rw [c11]; rfl
    have e9 : ((s[k].toNat : Int) == 41) = false := by rw [c11]; rfl
    have e10 : ((s[k].toNat : Int) == 44) = false := by rw [c11]; rfl
    have e11 : ((s[k].toNat : Int) == 46) = true := by rw [c11]; rfl
    clear hM hM1 c0 c1 c2 c3 c4 c5 c6 c7 c8 c9 c10 c11
    go_enter Try.func33, Try.ntmps33
    go_wp2
    go_ret2
    exact ⟨rfl, rfl⟩
  by_cases c12 : s[k].toNat = 59
  · have hM1 : Lx.markN (Lx.suf s k) = 1 := by rw [hM, c12]; rfl
    rw [hM1]
    have e0 : ((s[k].toNat : Int) == 61) = false := by rw [c12]; rfl
    have e1 : ((s[k].toNat : Int) == 60) = false := by rw [c12]; rfl
    have e2 : ((s[k].toNat : Int) == 62) = false := by rw [c12]; rfl
    have e3 : ((s[k].toNat : Int) == 43) = false := by rw [c12]; rfl
    have e4 : ((s[k].toNat : Int) == 45) = false := by rw [c12]; rfl
    have e5 : ((s[k].toNat : Int) == 42) = false := by rw [c12]; rfl
    have e6 : ((s[k].toNat : Int) == 47) = false := by rw [c12]; rfl
    have e7 : ((s[k].toNat : Int) == 37) = false := by rw [c12]; rfl
    have e8 : ((s[k].toNat : Int) == 40) = false := by rw [c12]; rfl
    have e9 : ((s[k].toNat : Int) == 41) = false := by rw [c12]; rfl
    have e10 : ((s[k].toNat : Int) == 44) = false := by rw [c12]; rfl
    have e11 : ((s[k].toNat : Int) == 46) = false := by rw [c12]; rfl
    have e12 : ((s[k].toNat : Int) == 59) = true := by rw [c12]; rfl
    clear hM hM1 c0 c1 c2 c3 c4 c5 c6 c7 c8 c9 c10 c11 c12
    go_enter Try.func33, Try.ntmps33
    go_wp2
    go_ret2
    exact ⟨rfl, rfl⟩
  have hM0 : Lx.markN (Lx.suf s k) = 0 := by rw [hM]; simp [c0, c1, c2, c3, c4, c5, c6, c7, c8, c9, c10, c11, c12]
  rw [hM0]
  have e0 : ((s[k].toNat : Int) == 61) = false := by simp; omega
  have e1 : ((s[k].toNat : Int) == 60) = false := by simp; omega
  have e2 : ((s[k].toNat : Int) == 62) = false := by simp; omega
  have e3 : ((s[k].toNat : Int) == 43) = false := by simp; omega
  have e4 : ((s[k].toNat : Int) == 45) = false := by simp; omega
  have e5 : ((s[k].toNat : Int) == 42) = false := by simp; omega
  have e6 : ((s[k].toNat : Int) == 47) = false := by simp; omega
  have e7 : ((s[k].toNat : Int) == 37) = false := by simp; omega
  have e8 : ((s[k].toNat : Int) == 40) = false := by simp; omega
  have e9 : ((s[k].toNat : Int) == 41) = false := by simp; omega
  have e10 : ((s[k].toNat : Int) == 44) = false := by simp; omega
  have e11 : ((s[k].toNat : Int) == 46) = false := by simp; omega
  have e12 : ((s[k].toNat : Int) == 59) = false := by simp; omega
  clear hM hM0 c0 c1 c2 c3 c4 c5 c6 c7 c8 c9 c10 c11 c12
  go_enter Try.func33, Try.ntmps33
  go_wp2
  go_ret2
  exact ⟨rfl, rfl⟩
theorem sign_any (s : ByteArray) (k : Nat) (w : World) (hs : s.size ≤ 1000000000) (hk : k < s.size) :
    Calls Try.prog 33 #[.string s, .int .i64 k] w fun e w' => e = signE k (Lx.markN (Lx.suf s k)) ∧ w = w' := by
  by_cases h2 : k + 2 ≤ s.size
  · cases hm : Lx.marks2.contains ((Lx.suf s k).take 2) with
    | true => exact sign_two s k w hs hk h2 hm
    | false => exact sign_one s k w hs hk h2 hm
  · exact sign_short s k w hs hk (by omega)
end Go.Proofs.Ytepdpdlakgnpmaa
