import Derived.Test.YtepdpdlakgnpmaaRef3A
import Derived.Test.YtepdpdlakgnpmaaTextD
set_option linter.unusedVariables false
set_option linter.unusedSimpArgs false
namespace Go.Proofs.Ytepdpdlakgnpmaa
open Go.RowKit
attribute [local simp] Lx.bs_size Lx.bs_append
theorem hexs_at {k : Nat} (hk : k < 16) : ((⟨#[48, 49, 50, 51, 52, 53, 54, 55, 56, 57, 97, 98, 99, 100, 101, 102]⟩ : ByteArray)[k]'(by exact hk)) = Lx.hexs.getD k 0 := by
  rw [List.getD_eq_getElem?_getD, List.getElem?_eq_getElem (by exact hk)]
  rfl
theorem rdigit_any (c : UInt8) (w : World) :
    Calls Try.prog 59 #[.int .u8 c.toNat] w fun e w' => e = .returned (.int .i64 (match Lx.rnib c with | some x => (x : Int) | none => -1)) ∧ w = w' := by
  generalize hR : (match Lx.rnib c with | some x => (x : Int) | none => -1) = R
  have HR := Lib.hid hR
  clear hR
  go_enter Try.func59, Try.ntmps59
  go_wp2
  go_loop [3] (fun i => ∃ k : Nat, k ≤ 16 ∧ i = .int .i64 k ∧ Hid (∀ j, j < k → Lx.rnib c ≠ some j)) (fun i => 16 - (intOf i).toNat)
  case atStart => exact ⟨0, by omega, rfl, Lib.hid (fun j h => by omega)⟩
  case round =>
    obtain ⟨k, hk, rfl, HK⟩ := hrel
    by_cases hlt : k < 16
    · have hx := hexs_at hlt
      have hiff := Lx.rnib_iff hlt c
      have HX := Lib.hid hx
      have HI := Lib.hid hiff
      clear hx hiff
      go_wp2
      · have h : ((⟨#[48, 49, 50, 51, 52, 53, 54, 55, 56, 57, 97, 98, 99, 100, 101, 102]⟩ : ByteArray)[k]'(by exact hlt)).toNat = c.toNat := by
          have : ((((⟨#[48, 49, 50, 51, 52, 53, 54, 55, 56, 57, 97, 98, 99, 100, 101, 102]⟩ : ByteArray)[k]'(by exact hlt)).toNat : Int) == (c.toNat : Int)) = true := by assumption
          have := eq_of_beq this
          omega
        rw [HX.out] at h
        have hn := HI.out.1 h
        go_ret
        refine ⟨?_, rfl⟩
        rw [← HR.out, hn]
        rfl
      · have h : ((⟨#[48, 49, 50, 51, 52, 53, 54, 55, 56, 57, 97, 98, 99, 100, 101, 102]⟩ : ByteArray)[k]'(by exact hlt)).toNat ≠ c.toNat := by
          have : ((((⟨#[48, 49, 50, 51, 52, 53, 54, 55, 56, 57, 97, 98, 99, 100, 101, 102]⟩ : ByteArray)[k]'(by exact hlt)).toNat : Int) == (c.toNat : Int)) = false := by assumption
          have := ne_of_beq_false this
          omega
        rw [HX.out] at h
        go_round
        case rel =>
          refine ⟨k + 1, by omega, by go_num, Lib.hid (fun j hj e => ?_)⟩
          by_cases hjk : j = k
          · subst hjk; exact h (HI.out.2 e)
          · exact HK.out j (by omega) e
        case measure => simp [intOf]; omega
    · obtain rfl : k = 16 := by omega
      go_wp2
      go_ret
      refine ⟨?_, rfl⟩
      cases hn : Lx.rnib c with
      | none => rw [← HR.out, hn]; rfl
      | some x => exact absurd hn (HK.out x (Lx.rnib_lt hn))
theorem rdig_yes (c : UInt8) (w : World) (x : Nat) (h : Lx.rnib c = some x) :
    Calls Try.prog 59 #[.int .u8 c.toNat] w fun e w' => e = .returned (.int .i64 (x : Int)) ∧ w = w' :=
  (rdigit_any c w).mono fun e w' ⟨h1, h3⟩ => ⟨by rw [h1, h], h3⟩
theorem rdig_no (c : UInt8) (w : World) (h : Lx.rnib c = none) :
    Calls Try.prog 59 #[.int .u8 c.toNat] w fun e w' => e = .returned (.int .i64 (-1)) ∧ w = w' :=
  (rdigit_any c w).mono fun e w' ⟨h1, h3⟩ => ⟨by rw [h1, h], h3⟩
theorem u8_nib {x y : Nat} (hx : x < 16) (hy : y < 16) : ((UInt8.ofNat (16 * x + y)).toNat : Int) = 16 * (x : Int) + (y : Int) := by simp; omega

theorem runhex_any (s : ByteArray) (w : World) (hs : s.size ≤ 1000000000) :
    Calls Try.prog 56 #[.string s] w fun e w' => e = optE (Lx.runhex (Lx.ls s)) ∧ Below w.heap.size w w' := by
  generalize hR : Lx.runhex (Lx.ls s) = R
  have HR := Lib.hid hR
  clear hR
  by_cases hodd : s.size % 2 = 1
  · have hf : R = none := by rw [← HR.out, Lx.runhex_odd (Lx.ls s) (by rw [Lx.ls_length]; exact hodd)]
    subst hf
    have d0 : ((s.size : Int) % 2 != 0) = true := by simp; omega
    clear hodd
    go_enter Try.func56, Try.ntmps56
    go_wp2
    go_ret2
    exact ⟨rfl, by (repeat (first | with_reducible exact Below.refl _ _ | with_reducible assumption | with_reducible refine Below.drew ?_ | with_reducible refine below_drewN ?_ _ | with_reducible refine below_al ?_ _ | with_reducible refine Below.setCell ?_ ?_ _ | exact Nat.le_refl _ | omega | (simp; done) | (simp; omega)))⟩
  have d0 : ((s.size : Int) % 2 != 0) = false := by simp; omega
  go_enter Try.func56, Try.ntmps56
  go_wp2
  go_loopw [4, 5] (fun v i wr => ∃ (k : Nat) (acc : List UInt8), k ≤ s.size ∧ (s.size - k) % 2 = 0 ∧ acc.length ≤ k ∧ i = .int .i64 k ∧ v = .string (Lx.bs acc) ∧ Below w.heap.size w wr ∧ Hid (Lx.onto acc (Lx.runhex (Lx.suf s k)) = R)) (fun _ i _ => s.size - (intOf i).toNat)
  case atStart => exact ⟨0, [], by omega, by omega, by simp, rfl, rfl, by (repeat (first | with_reducible exact Below.refl _ _ | with_reducible assumption | with_reducible refine Below.drew ?_ | with_reducible refine below_drewN ?_ _ | with_reducible refine below_al ?_ _ | with_reducible refine Below.setCell ?_ ?_ _ | exact Nat.le_refl _ | omega | (simp; done) | (simp; omega))), Lib.hid (by rw [Lx.onto_nil, Lx.suf_zero]; exact HR.out)⟩
  case round =>
    obtain ⟨k, acc, hk, hpar, hak, rfl, rfl, hb, HK⟩ := hrel
    by_cases hlt : k < s.size
    · have hlt2 : k + 1 < s.size := by omega
      cases hx : Lx.rnib s[k] with
      | none =>
        have hf := Lx.runhex_bad hlt2 (.inl hx) acc
        rw [HK.out] at hf
        subst hf
        have HX := Lib.hid hx
        clear hx
        cases hy : Lx.rnib s[k + 1] with
        | none =>
          have HY := Lib.hid hy
          clear hy
          go_wp2_with fail
          refine (rdig_no _ _ HX.out).mono ?_
          rintro e w' ⟨rfl, rfl⟩
          go_wp2_with fail
          refine (rdig_no _ _ HY.out).mono ?_
          rintro e w' ⟨rfl, rfl⟩
          go_wp2
          go_ret2
          exact ⟨rfl, hb⟩
        | some y =>
          have HY := Lib.hid hy
          clear hy
          go_wp2_with fail
          refine (rdig_no _ _ HX.out).mono ?_
          rintro e w' ⟨rfl, rfl⟩
          go_wp2_with fail
          refine (rdig_yes _ _ _ HY.out).mono ?_
          rintro e w' ⟨rfl, rfl⟩
          go_wp2
          go_ret2
          exact ⟨rfl, hb⟩
      | some x =>
        have HX := Lib.hid hx
        have hx16 := Lx.rnib_lt hx
        clear hx
        cases hy : Lx.rnib s[k + 1] with
        | none =>
          have hf := Lx.runhex_bad hlt2 (.inr hy) acc
          rw [HK.out] at hf
          subst hf
          have HY := Lib.hid hy
          clear hy
          go_wp2_with fail
          refine (rdig_yes _ _ _ HX.out).mono ?_
          rintro e w' ⟨rfl, rfl⟩
          go_wp2_with fail
          refine (rdig_no _ _ HY.out).mono ?_
          rintro e w' ⟨rfl, rfl⟩
          go_wp2
          go_ret2
          exact ⟨rfl, hb⟩
        | some y =>
          have HK' := Lib.hid (Eq.trans (Lx.runhex_go hlt2 HX.out hy acc).symm HK.out)
          have hy16 := Lx.rnib_lt hy
          have HY := Lib.hid hy
          clear hy
          have hconv := one_conv wr (UInt8.ofNat (16 * x + y))
          rw [u8_nib hx16 hy16] at hconv
          go_wp2_with fail
          refine (rdig_yes _ _ _ HX.out).mono ?_
          rintro e w' ⟨rfl, rfl⟩
          go_wp2_with fail
          refine (rdig_yes _ _ _ HY.out).mono ?_
          rintro e w' ⟨rfl, rfl⟩
          have d3 : decide ((x : Int) < 0) = false := decide_eq_false (by omega)
          have d4 : decide ((y : Int) < 0) = false := decide_eq_false (by omega)
          go_wp2
          go_roundw
          case rel => exact ⟨k + 2, acc ++ [UInt8.ofNat (16 * x + y)], by omega, by omega, by simp; omega, by go_num, by simp, by (repeat (first | with_reducible exact Below.refl _ _ | with_reducible assumption | with_reducible refine Below.drew ?_ | with_reducible refine below_drewN ?_ _ | with_reducible refine below_al ?_ _ | with_reducible refine Below.setCell ?_ ?_ _ | exact Nat.le_refl _ | omega | (simp; done) | (simp; omega))), HK'⟩
          case measure => simp [intOf]; omega
    · obtain rfl : k = s.size := by omega
      have hf : R = some acc := by rw [← HK.out, Lx.runhex_end (Nat.le_refl _)]
      subst hf
      go_wp2
      go_ret2
      exact ⟨rfl, hb⟩
end Go.Proofs.Ytepdpdlakgnpmaa
