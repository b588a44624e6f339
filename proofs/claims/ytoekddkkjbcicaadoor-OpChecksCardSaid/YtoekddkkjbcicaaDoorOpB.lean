import Derived.Test.YtoekddkkjbcicaaDoorOpA
set_option linter.unusedVariables false
set_option linter.unusedSimpArgs false
namespace Go.Proofs.YtoekddkkjbcicaaDoor
open Go.RowKit
attribute [local simp] Lx.bs_size
theorem tletter_yes (c : Int) (w : World) (h : (97 ≤ c ∧ c ≤ 122) ∨ (65 ≤ c ∧ c ≤ 90)) :
    Calls Tryd.prog 63 #[.int .i32 c] w fun e w' => e = .returned (.bool true) ∧ w = w' :=
  (tletter_any c w).mono fun e w' ⟨h1, h3⟩ => ⟨by rw [h1]; refine ret_b ?_; simp; omega, h3⟩
theorem tletter_no (c : Int) (w : World) (h : ¬ ((97 ≤ c ∧ c ≤ 122) ∨ (65 ≤ c ∧ c ≤ 90))) :
    Calls Tryd.prog 63 #[.int .i32 c] w fun e w' => e = .returned (.bool false) ∧ w = w' :=
  (tletter_any c w).mono fun e w' ⟨h1, h3⟩ => ⟨by rw [h1]; refine ret_b ?_; rw [← Bool.not_eq_true]; simp; omega, h3⟩
def nmQ : Nat → List UInt8 → Bool
  | _, [] => true
  | k, c :: r => (Lx.let_ c || Lx.dig c && decide (0 < k)) && nmQ (k + 1) r
theorem nmQ_eq : ∀ (l : List UInt8) (k : Nat), Lx.nmR k (Lx.fold l) = nmQ k l
  | [], _ => rfl
  | c :: r, k => by
    show (Lx.nmAt k (Lx.lo c) && Lx.nmR (k + 1) (Lx.fold r)) = _
    rw [nmQ, nmQ_eq r (k + 1)]
    congr 1
    rw [Bool.eq_iff_iff]
    have hc : c.toNat < 256 := c.toNat_lt
    unfold Lx.nmAt Lx.nmh Lx.dig Lx.let_ Lx.lo
    simp only [Bool.or_eq_true, Bool.and_eq_true, decide_eq_true_eq]
    split
    · rename_i h1
      have : (UInt8.ofNat (c.toNat + 32)).toNat = c.toNat + 32 := by simp; omega
      rw [this]
      omega
    · rename_i h1
      omega
theorem nmQ_go {s : ByteArray} {k : Nat} (h : k < s.size) (h1 : (97 ≤ s[k].toNat ∧ s[k].toNat ≤ 122) ∨ (65 ≤ s[k].toNat ∧ s[k].toNat ≤ 90) ∨ s[k].toNat = 95 ∨ (48 ≤ s[k].toNat ∧ s[k].toNat ≤ 57 ∧ 0 < k)) : nmQ k (Lx.suf s k) = nmQ (k + 1) (Lx.suf s (k + 1)) := by
  rw [Lx.suf_cons h, nmQ]
  have : (Lx.let_ s[k] || Lx.dig s[k] && decide (0 < k)) = true := by
    unfold Lx.let_ Lx.dig
    simp only [Bool.or_eq_true, Bool.and_eq_true, decide_eq_true_eq]
    omega
  rw [this, Bool.true_and]
theorem nmQ_no {s : ByteArray} {k : Nat} (h : k < s.size) (h1 : ¬ ((97 ≤ s[k].toNat ∧ s[k].toNat ≤ 122) ∨ (65 ≤ s[k].toNat ∧ s[k].toNat ≤ 90) ∨ s[k].toNat = 95 ∨ (48 ≤ s[k].toNat ∧ s[k].toNat ≤ 57 ∧ 0 < k))) : nmQ k (Lx.suf s k) = false := by
  rw [Lx.suf_cons h, nmQ]
  have : (Lx.let_ s[k] || Lx.dig s[k] && decide (0 < k)) = false := by
    rw [← Bool.not_eq_true]
    unfold Lx.let_ Lx.dig
    simp only [Bool.or_eq_true, Bool.and_eq_true, decide_eq_true_eq]
    omega
  rw [this, Bool.false_and]
theorem nmQ_end {s : ByteArray} {k : Nat} (h : s.size ≤ k) : nmQ k (Lx.suf s k) = true := by rw [Lx.suf_nil h]; rfl
set_option maxHeartbeats 1000000 in
theorem tname_any (s : ByteArray) (w : World) :
    Calls Tryd.prog 58 #[.string s] w fun e w' => e = .returned (.bool (Lx.nameOk (Lx.ls s))) ∧ Below w.heap.size w w' := by
  have hrl : Lx.nameOk (Lx.ls s) = (decide (1 ≤ s.size) && decide (s.size ≤ 32) && Lx.nmR 0 (Lx.fold (Lx.ls s))) := rfl
  rw [hrl]
  clear hrl
  by_cases h1 : s.size < 1
  · have e : decide (1 ≤ s.size) = false := decide_eq_false (by omega)
    have he : s.toList.isEmpty = true := by rw [Lx.toList_ls, Lx.ls_nil (by omega)]; rfl
    rw [e]
    go_enter Tryd.func58, Tryd.ntmps58
    go_wp2
    go_ret
    exact ⟨rfl, Below.refl _ _⟩
  have he : s.toList.isEmpty = false := by rw [Lx.toList_ls, Lx.ls_cons (by omega)]; rfl
  have e1 : decide (1 ≤ s.size) = true := decide_eq_true (by omega)
  rw [e1]
  by_cases h2 : 32 < s.size
  · have e : decide (s.size ≤ 32) = false := decide_eq_false (by omega)
    have d2 : decide (32 < (s.size : Int)) = true := decide_eq_true (by omega)
    rw [e]
    go_enter Tryd.func58, Tryd.ntmps58
    go_wp2
    go_ret
    exact ⟨rfl, Below.refl _ _⟩
  have d2 : decide (32 < (s.size : Int)) = false := decide_eq_false (by omega)
  have e2 : decide (s.size ≤ 32) = true := decide_eq_true (by omega)
  rw [e2]
  simp only [Bool.true_and]
  rw [nmQ_eq]
  generalize hR : nmQ 0 (Lx.ls s) = R
  rw [← Lx.suf_zero] at hR
  have HR := Lib.hid hR
  clear hR e1 e2
  go_enter Tryd.func58, Tryd.ntmps58
  go_wp2
  go_loopw [3, 4, 14] (fun _ _ _ wr => ∃ k : Nat, k ≤ s.size ∧ wr = w.iter s k ∧ Hid (nmQ k (Lx.suf s k) = R)) (fun _ _ _ wr => s.size - wr.iterPos w.heap.size)
  case atStart => exact ⟨0, by omega, rfl, HR⟩
  case round =>
    obtain ⟨k, hk, rfl, HK⟩ := hrel
    have hb := below_iter w s k
    by_cases hlt : k < s.size
    · by_cases ha : s[k].toNat < 128
      · have hn := fun ty => run_next_ascii (P := Tryd.prog) w s k ty hlt (by omega)
        by_cases hl : (97 ≤ s[k].toNat ∧ s[k].toNat ≤ 122) ∨ (65 ≤ s[k].toNat ∧ s[k].toNat ≤ 90)
        · have HK' := Lib.hid ((nmQ_go hlt (by omega)).symm.trans HK.out)
          go_wp2_with (first | (go_at_call 63; refine (tletter_yes _ _ (by omega)).mono ?_; rintro e w' ⟨rfl, rfl⟩) | (go_at_call 64; refine (tdigit_no _ _ (by omega)).mono ?_; rintro e w' ⟨rfl, rfl⟩))
          go_roundw
          case rel => exact ⟨k + 1, by omega, rfl, HK'⟩
          case measure => simp; omega
        by_cases h95 : s[k].toNat = 95
        · have HK' := Lib.hid ((nmQ_go hlt (by omega)).symm.trans HK.out)
          have d95 : ((s[k].toNat : Int) != 95) = false := by simp; omega
          go_wp2_with (first | (go_at_call 63; refine (tletter_no _ _ (by omega)).mono ?_; rintro e w' ⟨rfl, rfl⟩) | (go_at_call 64; refine (tdigit_no _ _ (by omega)).mono ?_; rintro e w' ⟨rfl, rfl⟩))
          go_roundw
          case rel => exact ⟨k + 1, by omega, rfl, HK'⟩
          case measure => simp; omega
        by_cases h0 : k = 0
        · subst h0
          have HK' := Lib.hid ((nmQ_no hlt (by omega)).symm.trans HK.out)
          have d95 : ((s[0].toNat : Int) != 95) = true := by simp; omega
          go_wp2_with (first | (go_at_call 63; refine (tletter_no _ _ (by omega)).mono ?_; rintro e w' ⟨rfl, rfl⟩) | (go_at_call 64; refine (tdigit_no _ _ (by omega)).mono ?_; rintro e w' ⟨rfl, rfl⟩))
          go_ret
          exact ⟨by rw [← HK'.out]; rfl, below_iter _ _ _⟩
        have dk : ((k : Int) == 0) = false := by simp; omega
        by_cases hd : 48 ≤ s[k].toNat ∧ s[k].toNat ≤ 57
        · have HK' := Lib.hid ((nmQ_go hlt (by omega)).symm.trans HK.out)
          have d95 : ((s[k].toNat : Int) != 95) = true := by simp; omega
          go_wp2_with (first | (go_at_call 63; refine (tletter_no _ _ (by omega)).mono ?_; rintro e w' ⟨rfl, rfl⟩) | (go_at_call 64; refine (tdigit_yes _ _ (by omega) (by omega)).mono ?_; rintro e w' ⟨rfl, rfl⟩))
          go_roundw
          case rel => exact ⟨k + 1, by omega, rfl, HK'⟩
          case measure => simp; omega
        · have HK' := Lib.hid ((nmQ_no hlt (by omega)).symm.trans HK.out)
          have d95 : ((s[k].toNat : Int) != 95) = true := by simp; omega
          go_wp2_with (first | (go_at_call 63; refine (tletter_no _ _ (by omega)).mono ?_; rintro e w' ⟨rfl, rfl⟩) | (go_at_call 64; refine (tdigit_no _ _ (by omega)).mono ?_; rintro e w' ⟨rfl, rfl⟩))
          go_ret
          exact ⟨by rw [← HK'.out]; rfl, below_iter _ _ _⟩
      · have HK' := Lib.hid ((nmQ_no hlt (by omega)).symm.trans HK.out)
        have hn := fun ty => run_next_any (P := Tryd.prog) w s k ty hlt
        have hh := (decode_high s k hlt (by omega)).1
        have d95 : (((Utf8.decode s k).1 : Int) != 95) = true := by simp; omega
        by_cases h0 : k = 0
        · subst h0
          go_wp2_with (go_at_call 63; refine (tletter_no _ _ (by omega)).mono ?_; rintro e w' ⟨rfl, rfl⟩)
          go_ret
          exact ⟨by rw [← HK'.out]; rfl, below_iter _ _ _⟩
        · have dk : ((k : Int) == 0) = false := by simp; omega
          go_wp2_with (first | (go_at_call 63; refine (tletter_no _ _ (by omega)).mono ?_; rintro e w' ⟨rfl, rfl⟩) | (go_at_call 64; refine (tdigit_no _ _ (by omega)).mono ?_; rintro e w' ⟨rfl, rfl⟩))
          go_ret
          exact ⟨by rw [← HK'.out]; rfl, below_iter _ _ _⟩
    · have hn := fun ty => run_next_end (P := Tryd.prog) w s k ty hlt
      have HK' := Lib.hid ((nmQ_end (by omega)).symm.trans HK.out)
      go_wp2
      go_ret
      exact ⟨by rw [← HK'.out]; rfl, hb⟩
end Go.Proofs.YtoekddkkjbcicaaDoor
