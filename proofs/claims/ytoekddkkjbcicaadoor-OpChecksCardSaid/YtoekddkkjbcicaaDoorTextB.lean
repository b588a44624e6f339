import Derived.Test.YtoekddkkjbcicaaDoorText
import Derived.WalkSpells

set_option linter.unusedVariables false
set_option linter.unusedSimpArgs false
namespace Go.Proofs.YtoekddkkjbcicaaDoor
open Go.RowKit

theorem tdigit_any (c : Int) (w : World) :
    Calls Tryd.prog 64 #[.int .i32 c] w fun e w' => e = .returned (.bool (decide (48 ≤ c) && decide (c ≤ 57))) ∧ w = w' := by
  go_enter Tryd.func64, Tryd.ntmps64
  go_wp2
  all_goals (go_ret; refine ⟨ret_b ?_, rfl⟩; rw [Bool.eq_iff_iff]; simp; omega)

theorem tdigit_yes (c : Int) (w : World) (h : 48 ≤ c) (h2 : c ≤ 57) :
    Calls Tryd.prog 64 #[.int .i32 c] w fun e w' => e = .returned (.bool true) ∧ w = w' :=
  (tdigit_any c w).mono fun e w' ⟨h1, h3⟩ => ⟨by rw [h1]; simp [h, h2], h3⟩
theorem tdigit_no (c : Int) (w : World) (h : c < 48 ∨ 57 < c) :
    Calls Tryd.prog 64 #[.int .i32 c] w fun e w' => e = .returned (.bool false) ∧ w = w' :=
  (tdigit_any c w).mono fun e w' ⟨h1, h3⟩ => ⟨by rw [h1]; refine ret_b ?_; rw [← Bool.not_eq_true]; simp; omega, h3⟩

def NibRet (c : UInt8) (e : Ending) : Prop := e = .returned (.tuple #[.int .u8 ((Lx.nib c).getD 0 : Nat), .bool (Lx.nib c).isSome])
theorem ret_2 {a b c d : Value} (h : a = c) (h2 : b = d) : Ending.returned (.tuple #[a, b]) = .returned (.tuple #[c, d]) := by rw [h, h2]
theorem int_eq {k : IntKind} {a b : Int} (h : a = b) : Value.int k a = .int k b := by rw [h]
/-- A value and what is wrong, as they come back. -/
def valE (v : (Int × Int × List UInt8) × Int) : Ending := .returned (.tuple #[.agg #[.int .i64 v.1.1, .int .i64 v.1.2.1, .string (Lx.bs v.1.2.2)], .int .i64 v.2])

theorem cutp_any (s : ByteArray) (w : World) (hs : s.size ≤ 9223372036854775000) :
    Calls Tryd.prog 61 #[.string s, .string ⟨#[45]⟩] w fun e w' => e = .returned (.tuple #[.string (Lx.bs (Lx.cutp (Lx.ls s)).1), .bool (Lx.cutp (Lx.ls s)).2]) ∧ w = w' := by
  generalize hR : Lx.cutp (Lx.ls s) = R
  have HR := Lib.hid hR
  clear hR
  go_enter Tryd.func61, Tryd.ntmps61
  go_wp2
  all_goals go_ret2
  all_goals (refine ⟨?_, rfl⟩)
  all_goals (have hR := HR.out)
  all_goals (simp only [Lx.take_one, Bool.not_eq_true', Bool.not_eq_false', beq_eq_false_iff_ne, beq_iff_eq] at *)
  · rw [Lx.cutp, if_neg (by simpa using ‹_›)] at hR; subst hR; rw [Lx.bs_ls]; rfl
  · rw [Lx.cutp, if_pos (by simpa using ‹_›)] at hR; subst hR; exact ret_2 (congrArg Value.string (by rw [Lx.extract_end, List.drop_one])) rfl
  · rw [Lx.cutp, Lx.ls_nil (by omega), if_neg (by simp)] at hR; subst hR; exact ret_2 (congrArg Value.string (Lx.ls_inj (by rw [Lx.ls_nil (by omega)]; rfl))) rfl

/-- digits: a row of them, none ahead. -/

theorem iterPos_iter' (w : World) (s : ByteArray) (p : Nat) : (w.iter s p).iterPos w.heap.size = p := World.iterPos_iter w s p
theorem below_iter (w : World) (s : ByteArray) (p : Nat) : Below w.heap.size w (w.iter s p) := (Below.refl _ _).alloc (Nat.le_refl _) _

theorem digits_good (s : ByteArray) (w : World) (hs : s.size ≤ 9223372036854775000) (h0 : 0 < s.size) (h1 : s.size = 1 ∨ s[0].toNat ≠ 48) :
    Calls Tryd.prog 62 #[.string s] w fun e w' => e = .returned (.bool (Lx.digsOk (Lx.ls s))) ∧ Below w.heap.size w w' := by
  rw [Lx.digs_good h0 h1]
  generalize hR : (Lx.suf s 0).all Lx.dig = R
  have HR := Lib.hid hR
  clear hR
  have he : s.toList.isEmpty = false := by rw [Lx.toList_ls, Lx.ls_cons h0]; rfl
  rcases h1 with h1 | h1
  case' inl => have g : decide ((1 : Int) < (s.size : Int)) = false := by simp; omega
  case' inr => have g : ((s[0].toNat : Int) == 48) = false := by simp; omega
  case' inl => clear h1
  case' inr => clear h1
  all_goals
    go_enter Tryd.func62, Tryd.ntmps62
    go_wp2
  all_goals
    go_loopw [4] (fun _ wr => ∃ k : Nat, k ≤ s.size ∧ wr = w.iter s k ∧ Hid ((Lx.suf s k).all Lx.dig = R)) (fun _ wr => s.size - wr.iterPos w.heap.size)
    case atStart => exact ⟨0, by omega, rfl, HR⟩
    case round =>
      obtain ⟨k, hk, rfl, HK⟩ := hrel
      have hb := below_iter w s k
      by_cases hlt : k < s.size
      · by_cases hd : 48 ≤ s[k].toNat ∧ s[k].toNat ≤ 57
        · obtain ⟨hd1, hd2⟩ := hd
          have hn := fun ty => run_next_ascii (P := Tryd.prog) w s k ty hlt (by omega)
          go_wp2_with (go_at_call 64; refine (tdigit_yes _ _ (by omega) (by omega)).mono ?_; rintro e w' ⟨rfl, rfl⟩)
          go_roundw
          case rel => exact ⟨k + 1, by omega, rfl, Lib.hid (by rw [← HK.out, Lx.all_go hlt (Lx.dig_iff.2 ⟨hd1, hd2⟩)])⟩
          case measure => simp; omega
        · have hf : R = false := by rw [← HK.out, Lx.all_stop hlt (Lx.dig_not.2 (by omega))]
          subst hf
          by_cases ha : s[k].toNat < 128
          · have hn := fun ty => run_next_ascii (P := Tryd.prog) w s k ty hlt ha
            go_wp2_with (go_at_call 64; refine (tdigit_no _ _ (by omega)).mono ?_; rintro e w' ⟨rfl, rfl⟩)
            go_ret
            exact ⟨rfl, below_iter _ _ _⟩
          · have hn := fun ty => run_next_any (P := Tryd.prog) w s k ty hlt
            have hh := (decode_high s k hlt (by omega)).1
            go_wp2_with (go_at_call 64; refine (tdigit_no _ _ (by omega)).mono ?_; rintro e w' ⟨rfl, rfl⟩)
            go_ret
            exact ⟨rfl, below_iter _ _ _⟩
      · have hn := fun ty => run_next_end (P := Tryd.prog) w s k ty hlt
        have hf : R = true := by rw [← HK.out, Lx.all_end (by omega)]
        subst hf
        go_wp2
        go_ret
        exact ⟨rfl, hb⟩
theorem digits_any (s : ByteArray) (w : World) (hs : s.size ≤ 9223372036854775000) :
    Calls Tryd.prog 62 #[.string s] w fun e w' => e = .returned (.bool (Lx.digsOk (Lx.ls s))) ∧ Below w.heap.size w w' := by
  by_cases h0 : 0 < s.size
  · by_cases h1 : s.size = 1 ∨ s[0].toNat ≠ 48
    · exact digits_good s w hs h0 h1
    · rw [Lx.digs_zero (by omega) (by omega)]
      have he : s.toList.isEmpty = false := by rw [Lx.toList_ls, Lx.ls_cons h0]; rfl
      have g1 : decide ((1 : Int) < (s.size : Int)) = true := by simp; omega
      have g : ((s[0].toNat : Int) == 48) = true := by simp; omega
      clear h1
      go_enter Tryd.func62, Tryd.ntmps62
      go_wp2
      go_ret
      exact ⟨rfl, by (repeat (first | with_reducible exact Below.refl _ _ | with_reducible assumption | with_reducible refine Below.drew ?_ | with_reducible refine below_drewN ?_ _ | with_reducible refine below_al ?_ _ | with_reducible refine Below.setCell ?_ ?_ _ | exact Nat.le_refl _ | omega | (simp; done) | (simp; omega)))⟩
  · have hl : Lx.ls s = [] := Lx.ls_nil (by omega)
    have he : s.toList.isEmpty = true := by rw [Lx.toList_ls, hl]; rfl
    rw [show Lx.digsOk (Lx.ls s) = false from by rw [hl]; rfl]
    clear hl
    go_enter Tryd.func62, Tryd.ntmps62
    go_wp2
    go_ret
    exact ⟨rfl, by (repeat (first | with_reducible exact Below.refl _ _ | with_reducible assumption | with_reducible refine Below.drew ?_ | with_reducible refine below_drewN ?_ _ | with_reducible refine below_al ?_ _ | with_reducible refine Below.setCell ?_ ?_ _ | exact Nat.le_refl _ | omega | (simp; done) | (simp; omega)))⟩

theorem read_bad (s : ByteArray) (w : World) (hs : s.size ≤ 9223372036854775000) (h : Lx.digsOk (Lx.cutp (Lx.ls s)).1 = false) :
    Calls Tryd.prog 56 #[.string s] w fun e w' => e = .returned (.tuple #[.int .i64 (Lx.read (Lx.ls s)).1, .int .i64 (Lx.read (Lx.ls s)).2]) ∧ Below w.heap.size w w' := by
  have hR : Lx.read (Lx.ls s) = (0, 8) := by rw [Lx.read_eq, Lx.readD, h]; rfl
  rw [hR]
  have H := Lib.hid h
  clear h hR
  go_enter Tryd.func56, Tryd.ntmps56
  go_wp2_with fail
  refine (cutp_any s w hs).mono ?_
  rintro e w' ⟨rfl, rfl⟩
  go_wp2_with fail
  refine (digits_any _ w ?_).mono ?_
  · rw [Lx.bs_size]; exact Nat.le_trans (Lx.cutp_le _) hs
  rintro e w1 ⟨rfl, hb⟩
  rw [Lx.ls_bs, H.out]
  go_wp2
  go_ret2
  exact ⟨rfl, hb⟩

theorem wrap_neg (m : Nat) (h : m ≤ 9223372036854775808) : wrap64 (IntKind.u64.wrap (-(m : Int))) = if True then -(m : Int) else (m : Int) := by
  rw [if_pos trivial]
  unfold wrap64 IntKind.wrap
  simp [IntKind.bits, IntKind.signed]
  omega
theorem read_zero (s : ByteArray) (w : World) (hs : s.size ≤ 9223372036854775000) (h : Lx.cutp (Lx.ls s) = ([48], true)) :
    Calls Tryd.prog 56 #[.string s] w fun e w' => e = .returned (.tuple #[.int .i64 (Lx.read (Lx.ls s)).1, .int .i64 (Lx.read (Lx.ls s)).2]) ∧ Below w.heap.size w w' := by
  have hR : Lx.read (Lx.ls s) = (0, 8) := by rw [Lx.read_eq, h]; rfl
  rw [hR]
  have H := Lib.hid h
  have hq : ((Lx.bs [48]).toList == [48]) = true := by rw [Lx.bs_toList]; rfl
  have hd : Lx.digsOk [48] = true := rfl
  have HD := Lib.hid hd
  clear h hR hd
  go_enter Tryd.func56, Tryd.ntmps56
  go_wp2_with fail
  refine (cutp_any s w hs).mono ?_
  rintro e w' ⟨rfl, rfl⟩
  rw [H.out]
  go_wp2_with fail
  refine (digits_any _ w ?_).mono ?_
  · rw [Lx.bs_size]; decide
  rintro e w1 ⟨rfl, hb⟩
  rw [Lx.ls_bs, HD.out]
  go_wp2
  go_ret2
  exact ⟨rfl, hb⟩

theorem read_loop_pos (s : ByteArray) (w : World) (hs : s.size ≤ 9223372036854775000) (d : ByteArray) (hds : d.size ≤ 9223372036854775000) (h : Lx.cutp (Lx.ls s) = (Lx.ls d, false)) (hok : Lx.digsOk (Lx.ls d) = true) :
    Calls Tryd.prog 56 #[.string s] w fun e w' => e = .returned (.tuple #[.int .i64 (Lx.read (Lx.ls s)).1, .int .i64 (Lx.read (Lx.ls s)).2]) ∧ Below w.heap.size w w' := by
  rw [Lx.read_eq, h]
  generalize hR : Lx.readD (Lx.ls d) false = R
  have HR := Lib.hid hR
  have H := Lib.hid h
  have HO := Lib.hid hok
  clear hR h hok
  go_enter Tryd.func56, Tryd.ntmps56
  go_wp2_with fail
  refine (cutp_any s w hs).mono ?_
  rintro e w' ⟨rfl, rfl⟩
  rw [H.out]
  simp only [Lx.bs_ls]
  go_wp2_with fail
  refine (digits_any d w hds).mono ?_
  rintro e w1 ⟨rfl, hb⟩
  rw [HO.out]
  go_wp2
  go_loopw [7] (fun n wr => ∃ k : Nat, ∃ m : Nat, k ≤ d.size ∧ wr = w1.iter d k ∧ n = .int .u64 m ∧ m ≤ 9223372036854775807 ∧ Hid (m = Lx.dec ((Lx.ls d).take k))) (fun _ wr => d.size - wr.iterPos w1.heap.size)
  case atStart => exact ⟨0, 0, by omega, rfl, rfl, by omega, Lib.hid rfl⟩
  case round =>
    obtain ⟨k, m, hk, rfl, rfl, hm, HM⟩ := hrel
    by_cases hlt : k < d.size
    · obtain ⟨c1, c2⟩ := Lx.digsOk_all HO.out hlt
      have hn := fun ty => run_next_ascii (P := Tryd.prog) w1 d k ty hlt (by omega)
      go_wp2
      · have hf := Lx.readD_over (k := k + 1) HO.out (.inl rfl) (by omega) (by rw [Lx.dec_take_succ hlt, ← HM.out, Lx.most_eq]; simp only [reduceIte, if_true, if_false, Bool.false_eq_true]; omega)
        go_ret2
        exact ⟨by rw [← HR.out, hf]; rfl, hb.trans (Below.mono (below_iter _ _ _) hb.size)⟩
      · go_roundw
        case rel => exact ⟨k + 1, 10 * m + (d[k].toNat - 48), by omega, rfl, by congr 1; omega, by omega, Lib.hid (by rw [Lx.dec_take_succ hlt, HM.out])⟩
        case measure => simp; omega
    · have hn := fun ty => run_next_end (P := Tryd.prog) w1 d k ty hlt
      obtain rfl : k = d.size := by omega
      have hm2 : m = Lx.dec (Lx.ls d) := by rw [HM.out, Lx.take_all]
      have hf := Lx.readD_fits HO.out (.inl rfl) (by rw [← hm2, Lx.most_eq]; simp only [reduceIte, if_true, if_false, Bool.false_eq_true]; omega)
      have HF := Lib.hid hf
      have HM2 := Lib.hid hm2
      clear hf hm2
      go_wp2
      go_ret2
      refine ⟨?_, hb.trans (Below.mono (below_iter _ _ _) hb.size)⟩
      rw [← HR.out, HF.out, ← HM2.out]
      simp only [Array.getD_eq_getD_getElem?]
      refine ret_2 (int_eq ?_) rfl
      first | rfl | exact wrap_neg m hm
theorem read_loop_neg (s : ByteArray) (w : World) (hs : s.size ≤ 9223372036854775000) (d : ByteArray) (hds : d.size ≤ 9223372036854775000) (h : Lx.cutp (Lx.ls s) = (Lx.ls d, true)) (hok : Lx.digsOk (Lx.ls d) = true) (hz : Lx.ls d ≠ [48]) :
    Calls Tryd.prog 56 #[.string s] w fun e w' => e = .returned (.tuple #[.int .i64 (Lx.read (Lx.ls s)).1, .int .i64 (Lx.read (Lx.ls s)).2]) ∧ Below w.heap.size w w' := by
  rw [Lx.read_eq, h]
  generalize hR : Lx.readD (Lx.ls d) true = R
  have HR := Lib.hid hR
  have H := Lib.hid h
  have HO := Lib.hid hok
  have HZ := Lib.hid hz
  have hz' : (d.toList == [48]) = false := by rw [Lx.toList_ls]; simpa using hz
  clear hz
  clear hR h hok
  go_enter Tryd.func56, Tryd.ntmps56
  go_wp2_with fail
  refine (cutp_any s w hs).mono ?_
  rintro e w' ⟨rfl, rfl⟩
  rw [H.out]
  simp only [Lx.bs_ls]
  go_wp2_with fail
  refine (digits_any d w hds).mono ?_
  rintro e w1 ⟨rfl, hb⟩
  rw [HO.out]
  go_wp2
  go_loopw [7] (fun n wr => ∃ k : Nat, ∃ m : Nat, k ≤ d.size ∧ wr = w1.iter d k ∧ n = .int .u64 m ∧ m ≤ 9223372036854775808 ∧ Hid (m = Lx.dec ((Lx.ls d).take k))) (fun _ wr => d.size - wr.iterPos w1.heap.size)
  case atStart => exact ⟨0, 0, by omega, rfl, rfl, by omega, Lib.hid rfl⟩
  case round =>
    obtain ⟨k, m, hk, rfl, rfl, hm, HM⟩ := hrel
    by_cases hlt : k < d.size
    · obtain ⟨c1, c2⟩ := Lx.digsOk_all HO.out hlt
      have hn := fun ty => run_next_ascii (P := Tryd.prog) w1 d k ty hlt (by omega)
      go_wp2
      · have hf := Lx.readD_over (neg := true) (k := k + 1) HO.out (.inr HZ.out) (by omega) (by rw [Lx.dec_take_succ hlt, ← HM.out, Lx.most_eq]; simp only [reduceIte, if_true, if_false, Bool.false_eq_true]; omega)
        go_ret2
        exact ⟨by rw [← HR.out, hf]; rfl, hb.trans (Below.mono (below_iter _ _ _) hb.size)⟩
      · go_roundw
        case rel => exact ⟨k + 1, 10 * m + (d[k].toNat - 48), by omega, rfl, by congr 1; omega, by omega, Lib.hid (by rw [Lx.dec_take_succ hlt, HM.out])⟩
        case measure => simp; omega
    · have hn := fun ty => run_next_end (P := Tryd.prog) w1 d k ty hlt
      obtain rfl : k = d.size := by omega
      have hm2 : m = Lx.dec (Lx.ls d) := by rw [HM.out, Lx.take_all]
      have hf := Lx.readD_fits (neg := true) HO.out (.inr HZ.out) (by rw [← hm2, Lx.most_eq]; simp only [reduceIte, if_true, if_false, Bool.false_eq_true]; omega)
      have HF := Lib.hid hf
      have HM2 := Lib.hid hm2
      clear hf hm2
      go_wp2
      go_ret2
      refine ⟨?_, hb.trans (Below.mono (below_iter _ _ _) hb.size)⟩
      rw [← HR.out, HF.out, ← HM2.out]
      simp only [Array.getD_eq_getD_getElem?]
      refine ret_2 (int_eq ?_) rfl
      first | rfl | exact wrap_neg m hm
theorem read_any (s : ByteArray) (w : World) (hs : s.size ≤ 9223372036854775000) :
    Calls Tryd.prog 56 #[.string s] w fun e w' => e = .returned (.tuple #[.int .i64 (Lx.read (Lx.ls s)).1, .int .i64 (Lx.read (Lx.ls s)).2]) ∧ Below w.heap.size w w' := by
  obtain ⟨d, b, hc⟩ : ∃ d b, Lx.cutp (Lx.ls s) = (d, b) := ⟨_, _, rfl⟩
  have hl := Lx.cutp_le (Lx.ls s)
  rw [hc, Lx.ls_length] at hl
  have hc' : Lx.cutp (Lx.ls s) = (Lx.ls (Lx.bs d), b) := by rw [Lx.ls_bs]; exact hc
  have hds : (Lx.bs d).size ≤ 9223372036854775000 := by rw [Lx.bs_size]; exact Nat.le_trans hl hs
  cases hok : Lx.digsOk d with
  | false => exact read_bad s w hs (by rw [hc]; exact hok)
  | true =>
    cases b with
    | false => exact read_loop_pos s w hs (Lx.bs d) hds hc' (by rw [Lx.ls_bs]; exact hok)
    | true =>
      by_cases hz : d = [48]
      · subst hz; exact read_zero s w hs hc
      · exact read_loop_neg s w hs (Lx.bs d) hds hc' (by rw [Lx.ls_bs]; exact hok) (by rw [Lx.ls_bs]; exact hz)
end Go.Proofs.YtoekddkkjbcicaaDoor
