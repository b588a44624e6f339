import Derived.Test.YtepdpdlakgnpmaaProg
import Derived.Test.YtepdpdlakgnpmaaMem
set_option linter.unusedVariables false
set_option linter.unusedSimpArgs false
namespace Go.Proofs.Ytepdpdlakgnpmaa
open Go.RowKit
theorem digit_any (c : UInt8) (w : World) :
    Calls Try.prog 30 #[.int .u8 c.toNat] w fun e w' => e = .returned (.bool (Lx.dig c)) ∧ w = w' := by
  go_enter Try.func30, Try.ntmps30
  go_wp2
  all_goals (go_ret; refine ⟨ret_b ?_, rfl⟩; rw [Bool.eq_iff_iff]; simp [Lx.dig]; omega)
theorem letter_any (c : UInt8) (w : World) :
    Calls Try.prog 25 #[.int .u8 c.toNat] w fun e w' => e = .returned (.bool (Lx.let_ c)) ∧ w = w' := by
  go_enter Try.func25, Try.ntmps25
  go_wp2
  all_goals (go_ret; refine ⟨ret_b ?_, rfl⟩; rw [Bool.eq_iff_iff]; simp [Lx.let_]; omega)
theorem nam_any (c : UInt8) (w : World) :
    Calls Try.prog 29 #[.int .u8 c.toNat] w fun e w' => e = .returned (.bool (Lx.nam c)) ∧ w = w' := by
  go_enter Try.func29, Try.ntmps29
  go_wp2_with (first
    | (go_at_call 25; refine (letter_any _ _).mono ?_; rintro e w' ⟨rfl, rfl⟩)
    | (go_at_call 30; refine (digit_any _ _).mono ?_; rintro e w' ⟨rfl, rfl⟩))
  all_goals (go_ret; refine ⟨ret_b ?_, rfl⟩; simp [Lx.nam, *])
theorem while_any (f : Nat) (p : UInt8 → Bool) (hc : ∀ (args : Array Value) (w : World), (callFunc f args).run Try.prog w = .ok (.enter f args) w)
    (hf : ∀ (c : UInt8) (w : World), Calls Try.prog f #[.int .u8 c.toNat] w fun e w' => e = .returned (.bool (p c)) ∧ w = w')
    (s : ByteArray) (k0 : Nat) (w : World) (hs : s.size ≤ 9223372036854775000) (hk : k0 ≤ s.size) :
    Calls Try.prog 28 #[.string s, .int .i64 k0, .func (.func f) #[] #[]] w fun e w' => e = .returned (.int .i64 ((k0 + Lx.many p (Lx.suf s k0) : Nat) : Int)) ∧ w = w' := by
  generalize hR : k0 + Lx.many p (Lx.suf s k0) = R
  have HR := Lib.hid hR
  clear hR
  have HF := Lib.hid hf
  clear hf
  go_enter Try.func28, Try.ntmps28
  go_wp2
  go_loop [1] (fun i => ∃ k : Nat, k ≤ s.size ∧ i = .int .i64 k ∧ Hid (k + Lx.many p (Lx.suf s k) = R)) (fun i => s.size - (intOf i).toNat)
  case atStart => exact ⟨k0, hk, rfl, HR⟩
  case round =>
    obtain ⟨k, hk, rfl, HK⟩ := hrel
    by_cases hlt : k < s.size
    · go_wp2_with fail
      refine (HF.out _ _).mono ?_
      rintro e w' ⟨rfl, rfl⟩
      cases hp : p s[k]
      · have HP := Lib.hid hp; clear hp
        go_wp2
        go_ret
        exact ⟨ret_i (by rw [← HK.out, Lx.many_stop hlt HP.out]), rfl⟩
      · have HP := Lib.hid hp; clear hp
        go_wp2
        go_round
        case rel => exact ⟨k + 1, by omega, by go_num, Lib.hid (by rw [← HK.out, Lx.many_go hlt HP.out])⟩
        case measure => simp [intOf]; omega
    · go_wp2
      go_ret
      exact ⟨ret_i (by rw [← HK.out, Lx.many_end (by omega)]), rfl⟩
theorem while_dig (s : ByteArray) (k0 : Nat) (w : World) (hs : s.size ≤ 9223372036854775000) (hk : k0 ≤ s.size) :
    Calls Try.prog 28 #[.string s, .int .i64 k0, .func (.func 30) #[] #[]] w fun e w' => e = .returned (.int .i64 ((k0 + Lx.many Lx.dig (Lx.suf s k0) : Nat) : Int)) ∧ w = w' :=
  while_any 30 _ (by intro args w; go_simp) digit_any s k0 w hs hk
end Go.Proofs.Ytepdpdlakgnpmaa
