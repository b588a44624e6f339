import Derived.Test.YtepdpdlakgnpmaaTextC
set_option linter.unusedVariables false
set_option linter.unusedSimpArgs false
namespace Go.Proofs.Ytepdpdlakgnpmaa
open Go.RowKit
theorem nib_yes (c : UInt8) (w : World) (x : Nat) (h : Lx.nib c = some x) :
    Calls Try.prog 57 #[.int .u8 c.toNat] w fun e w' => e = .returned (.tuple #[.int .u8 (x : Int), .bool true]) ∧ w = w' :=
  (nibble_any c w).mono fun e w' ⟨h1, h3⟩ => ⟨by unfold NibRet at h1; rw [h1, h]; rfl, h3⟩
theorem nib_no (c : UInt8) (w : World) (h : Lx.nib c = none) :
    Calls Try.prog 57 #[.int .u8 c.toNat] w fun e w' => e = .returned (.tuple #[.int .u8 0, .bool false]) ∧ w = w' :=
  (nibble_any c w).mono fun e w' ⟨h1, h3⟩ => ⟨by unfold NibRet at h1; rw [h1, h]; rfl, h3⟩

theorem or_fin : ∀ x : Fin 16, ∀ y : Fin 16, bits BinOp.or IntKind.u8 ((x.val : Int) * 16) (y.val : Int) = ((UInt8.ofNat (16 * x.val + y.val)).toNat : Int) := by decide +kernel
theorem or_nib {x y : Nat} (hx : x < 16) (hy : y < 16) : bits BinOp.or IntKind.u8 ((x : Int) * 16) (y : Int) = ((UInt8.ofNat (16 * x + y)).toNat : Int) := or_fin ⟨x, hx⟩ ⟨y, hy⟩

theorem unhex_any (s : ByteArray) (w : World) (hs : s.size ≤ 1000000000) :
    Calls Try.prog 52 #[.string s] w fun e w' => e = optE (Lx.unhexL (Lx.ls s)) ∧ Below w.heap.size w w' := by
  generalize hR : Lx.unhexL (Lx.ls s) = R
  have HR := Lib.hid hR
  clear hR
  obtain ⟨i0, hi, hz0, hz1, hz2⟩ := info_of uint8_info
  by_cases hodd : s.size % 2 = 1
  · have hf : R = none := by rw [← HR.out, Lx.unhex_odd (Lx.ls s) (by rw [Lx.ls_length]; exact hodd)]
    subst hf
    have d0 : ((s.size : Int) % 2 != 0) = true := by simp; omega
    clear hodd
    go_enter Try.func52, Try.ntmps52
    go_wp2
    go_ret2
    exact ⟨rfl, by (repeat (first | with_reducible exact Below.refl _ _ | with_reducible assumption | with_reducible refine Below.drew ?_ | with_reducible refine below_drewN ?_ _ | with_reducible refine below_al ?_ _ | with_reducible refine Below.setCell ?_ ?_ _ | exact Nat.le_refl _ | omega | (simp; done) | (simp; omega)))⟩
  have d0 : ((s.size : Int) % 2 != 0) = false := by simp; omega
  go_enter Try.func52, Try.ntmps52
  go_wp2_with (refine wpList_make_own _ rfl _ _ 36 rfl w.heap.size 5 i0 _ 1 Try.underlying36 hi hz0 hz1 _ _ _ (s.size / 2) rfl rfl (by omega) (by rw [hz2]; omega) (by simp only [maxLen]; omega) (Nat.le_refl _) ?_; intro w1 hown hg)
  have hb1 : Below w.heap.size w w1 := (Below.refl _ _).grown hg (Nat.le_refl _) (by simp)
  go_loopw [4, 5] (fun v i wr => ∃ (k : Nat) (acc : List UInt8), k ≤ s.size ∧ (s.size - k) % 2 = 0 ∧ acc.length ≤ k ∧ i = .int .i64 k ∧ wr.ownsRow w.heap.size 5 1 v acc.length (u8s acc) ∧ Below w.heap.size w wr ∧ Hid (Lx.onto acc (Lx.unhexL (Lx.suf s k)) = R)) (fun _ i _ => s.size - (intOf i).toNat)
  case atStart => exact ⟨0, [], by omega, by omega, by simp, rfl, hown, hb1, Lib.hid (by rw [Lx.onto_nil, Lx.suf_zero]; exact HR.out)⟩
  case round =>
    obtain ⟨k, acc, hk, hpar, hak, rfl, hown, hb, HK⟩ := hrel
    clear hb1
    by_cases hlt : k < s.size
    · have hlt2 : k + 1 < s.size := by omega
      cases hx : Lx.nib s[k] with
      | none =>
        have hf := Lx.unhex_bad hlt2 (.inl hx) acc
        rw [HK.out] at hf
        subst hf
        have HX := Lib.hid hx
        clear hx
        cases hy : Lx.nib s[k + 1] with
        | none =>
          have HY := Lib.hid hy
          clear hy
          go_wp2_with fail
          refine (nib_no _ _ HX.out).mono ?_
          rintro e w' ⟨rfl, rfl⟩
          go_wp2_with fail
          refine (nib_no _ _ HY.out).mono ?_
          rintro e w' ⟨rfl, rfl⟩
          go_wp2
          go_ret2
          exact ⟨rfl, hb⟩
        | some y =>
          have HY := Lib.hid hy
          clear hy
          go_wp2_with fail
          refine (nib_no _ _ HX.out).mono ?_
          rintro e w' ⟨rfl, rfl⟩
          go_wp2_with fail
          refine (nib_yes _ _ _ HY.out).mono ?_
          rintro e w' ⟨rfl, rfl⟩
          go_wp2
          go_ret2
          exact ⟨rfl, hb⟩
      | some x =>
        have HX := Lib.hid hx
        clear hx
        cases hy : Lx.nib s[k + 1] with
        | none =>
          have hf := Lx.unhex_bad hlt2 (.inr hy) acc
          rw [HK.out] at hf
          subst hf
          have HY := Lib.hid hy
          clear hy
          go_wp2_with fail
          refine (nib_yes _ _ _ HX.out).mono ?_
          rintro e w' ⟨rfl, rfl⟩
          go_wp2_with fail
          refine (nib_no _ _ HY.out).mono ?_
          rintro e w' ⟨rfl, rfl⟩
          go_wp2
          go_ret2
          exact ⟨rfl, hb⟩
        | some y =>
          have HK' := Lib.hid (Eq.trans (Lx.unhex_go hlt2 HX.out hy acc).symm HK.out)
          have hx16 := Lx.nib_lt HX.out
          have hy16 := Lx.nib_lt hy
          have HY := Lib.hid hy
          clear hy
          go_wp2_with fail
          refine (nib_yes _ _ _ HX.out).mono ?_
          rintro e w' ⟨rfl, rfl⟩
          go_wp2_with fail
          refine (nib_yes _ _ _ HY.out).mono ?_
          rintro e w' ⟨rfl, rfl⟩
          have hor := or_nib hx16 hy16
          go_wp2_with (at_builtin; refine wpList_app1 rfl (.tmp 45) (.tmp 50) 36 5 rfl Try.underlying36 uint8_info rfl (by decide) _ _ rfl (by intro u hu; simp at hu; subst hu; rfl) w.heap.size _ _ _ rfl hown rfl (by simp only [maxLen]; omega) (by omega) hb.size w.heap.size (Nat.le_refl _) ?_; intro v1 w1 hown1 hb1)
          go_roundw
          case rel => exact ⟨k + 2, acc ++ [UInt8.ofNat (16 * x + y)], by omega, by omega, by simp; omega, by go_num, by simpa [u8s_snoc] using hown1, hb.trans hb1, HK'⟩
          case measure => simp [intOf]; omega
    · obtain rfl : k = s.size := by omega
      have hf : R = some acc := by rw [← HK.out, Lx.unhex_end (Nat.le_refl _)]
      subst hf
      have hback := back_own (P := Try.prog) Try.underlying36 Try.underlying5 Try.underlying9 hown
      go_wp2
      go_ret2
      exact ⟨rfl, hb⟩
end Go.Proofs.Ytepdpdlakgnpmaa
