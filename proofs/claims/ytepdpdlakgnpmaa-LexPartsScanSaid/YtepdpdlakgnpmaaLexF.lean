import Derived.Test.YtepdpdlakgnpmaaLexE
set_option linter.unusedVariables false
set_option linter.unusedSimpArgs false
namespace Go.Proofs.Ytepdpdlakgnpmaa
open Go.RowKit
attribute [local simp] Lx.bs_size
set_option maxHeartbeats 1000000 in
theorem token_num_letter (s : ByteArray) (k : Nat) (w : World) (hs : s.size ≤ 1000000000) (hk : k < s.size) (hl : Lx.let_ s[k] = false) (hdg : Lx.dig s[k] = true) (n : Nat) (hn0 : n = Lx.many Lx.dig (Lx.suf s k)) (he : k + n < s.size) (hle : Lx.let_ s[k + n] = true) :
    Calls Try.prog 19 #[.string s, .int .i64 k] w fun e w' => e = tokE (Lx.tok (Lx.suf s k)) k ∧ Below w.heap.size w w' := by
  have hT : Lx.tok (Lx.suf s k) = Lx.numT (Lx.suf s k) n := by
    rw [hn0, Lx.suf_cons hk, Lx.tok]
    simp only [hl, hdg, Bool.false_eq_true, if_true, if_false]
  have hd : (Lx.suf s k).drop n = Lx.suf s (k + n) := by rw [Lx.suf_eq, Lx.suf_eq, List.drop_drop]
  have hh : (Lx.suf s (k + n)).head?.any Lx.let_ = true := by rw [Lx.suf_cons he]; exact hle
  rw [hT, Lx.numT, hd, hh]
  rw [if_pos rfl]
  have hml := Lx.many_le Lx.dig (Lx.suf s k)
  rw [Lx.suf_length, ← hn0] at hml
  obtain ⟨m, hm⟩ : ∃ m, m = k + n := ⟨_, rfl⟩
  have HM : Hid (m = k + Lx.many Lx.dig (Lx.suf s k)) := by unfold Hid; rw [hm, hn0]
  have HM2 := Lib.hid hm
  have hm1 : k ≤ m := by omega
  have hm2 : m ≤ s.size := by omega
  have hlt : m < s.size := by omega
  have hle' : Lx.let_ s[m] = true := by subst hm; exact hle
  have HLE := Lib.hid hle'
  have d1 : decide ((m : Int) < (s.size : Int)) = true := decide_eq_true (by omega)
  have HLET := Lib.hid hl
  have HDIG := Lib.hid hdg
  clear hl hdg hT hd hh hm hn0 hml he hle hle'
  go_enter Try.func19, Try.ntmps19
  go_wp2_with fail
  refine (letter_any _ _).mono ?_
  rintro e w' ⟨rfl, rfl⟩
  rw [HLET.out]
  go_wp2_with fail
  refine (digit_any _ _).mono ?_
  rintro e w' ⟨rfl, rfl⟩
  rw [HDIG.out]
  go_wp2_with fail
  refine (while_dig s k _ (by omega) (by omega)).mono ?_
  rintro e w' ⟨rfl, rfl⟩
  rw [← HM.out]
  go_wp2_with fail
  refine (letter_any _ _).mono ?_
  rintro e w' ⟨rfl, rfl⟩
  rw [HLE.out]
  go_wp2
  refine bodyPost_agg2 (B := w.heap.size) Try.results19 Try.underlying33 (by kernel_rfl) rfl (heap_alloc_new w _) rfl ⟨?_, by (repeat (first | with_reducible exact Below.refl _ _ | with_reducible assumption | with_reducible refine Below.drew ?_ | with_reducible refine below_drewN ?_ _ | with_reducible refine below_al ?_ _ | with_reducible refine Below.setCell ?_ ?_ _ | exact Nat.le_refl _ | omega | (simp; done) | (simp; omega)))⟩
  rw [tokE_bad (by decide)]; rfl
set_option maxHeartbeats 1000000 in
theorem token_num_ok (s : ByteArray) (k : Nat) (w : World) (hs : s.size ≤ 1000000000) (hk : k < s.size) (hl : Lx.let_ s[k] = false) (hdg : Lx.dig s[k] = true) (n : Nat) (hn0 : n = Lx.many Lx.dig (Lx.suf s k)) (he : k + n < s.size) (hle : Lx.let_ s[k + n] = false) (hr : (Lx.read ((Lx.suf s k).take n)).2 = 0) :
    Calls Try.prog 19 #[.string s, .int .i64 k] w fun e w' => e = tokE (Lx.tok (Lx.suf s k)) k ∧ Below w.heap.size w w' := by
  have hT : Lx.tok (Lx.suf s k) = Lx.numT (Lx.suf s k) n := by
    rw [hn0, Lx.suf_cons hk, Lx.tok]
    simp only [hl, hdg, Bool.false_eq_true, if_true, if_false]
  have hd : (Lx.suf s k).drop n = Lx.suf s (k + n) := by rw [Lx.suf_eq, Lx.suf_eq, List.drop_drop]
  have hh : (Lx.suf s (k + n)).head?.any Lx.let_ = false := by rw [Lx.suf_cons he]; exact hle
  rw [hT, Lx.numT, hd, hh]
  rw [if_neg (by decide), if_pos hr]
  have hml := Lx.many_le Lx.dig (Lx.suf s k)
  rw [Lx.suf_length, ← hn0] at hml
  obtain ⟨m, hm⟩ : ∃ m, m = k + n := ⟨_, rfl⟩
  have HM : Hid (m = k + Lx.many Lx.dig (Lx.suf s k)) := by unfold Hid; rw [hm, hn0]
  have HM2 := Lib.hid hm
  have hm1 : k ≤ m := by omega
  have hm2 : m ≤ s.size := by omega
  have hlt : m < s.size := by omega
  have hle' : Lx.let_ s[m] = false := by subst hm; exact hle
  have HLE := Lib.hid hle'
  have d1 : decide ((m : Int) < (s.size : Int)) = true := decide_eq_true (by omega)
  have hsl : s.extract k m = Lx.bs ((Lx.suf s k).take n) := by rw [Lx.extract_bs, hm, Nat.add_sub_cancel_left]; rfl
  have hst : (Lx.bs ((Lx.suf s k).take n)).size ≤ 1000000000 := by rw [Lx.bs_size, List.length_take, Lx.suf_length]; omega
  obtain ⟨t, ht⟩ : ∃ t, t = (Lx.suf s k).take n := ⟨_, rfl⟩
  rw [← ht] at hsl hst hr ⊢
  have HS := Lib.hid hsl
  have HST := Lib.hid hst
  obtain ⟨v, hv⟩ : ∃ v, v = Lx.read t := ⟨_, rfl⟩
  rw [← hv] at hr ⊢
  have HV := Lib.hid hv
  have HR := Lib.hid hr
  have d2 : (v.2 != 0) = false := by simp [hr]
  clear hsl hst hv ht hr
  have HLET := Lib.hid hl
  have HDIG := Lib.hid hdg
  clear hl hdg hT hd hh hm hn0 hml he hle hle'
  go_enter Try.func19, Try.ntmps19
  go_wp2_with fail
  refine (letter_any _ _).mono ?_
  rintro e w' ⟨rfl, rfl⟩
  rw [HLET.out]
  go_wp2_with fail
  refine (digit_any _ _).mono ?_
  rintro e w' ⟨rfl, rfl⟩
  rw [HDIG.out]
  go_wp2_with fail
  refine (while_dig s k _ (by omega) (by omega)).mono ?_
  rintro e w' ⟨rfl, rfl⟩
  rw [← HM.out]
  go_wp2_with fail
  refine (letter_any _ _).mono ?_
  rintro e w' ⟨rfl, rfl⟩
  rw [HLE.out]
  go_wp2_with fail
  rw [HS.out]
  refine (read_any _ _ (by have := HST.out; omega)).mono ?_
  rintro e w1 ⟨rfl, hb1⟩
  rw [Lx.ls_bs, ← HV.out]
  have hB1 := below_next (w := w) (by (repeat (first | with_reducible exact Below.refl _ _ | with_reducible assumption | with_reducible refine Below.drew ?_ | with_reducible refine below_drewN ?_ _ | with_reducible refine below_al ?_ _ | with_reducible refine Below.setCell ?_ ?_ _ | exact Nat.le_refl _ | omega | (simp; done) | (simp; omega)))) hb1; obtain ⟨hc1, hf1⟩ := bcell hb1
  have K0 := blk_next (heap_alloc_new w _) hb1
  have hs1 := HS.out
  have K1 := K0
  have K1' := K1
  obtain ⟨c, f⟩ := blk_cells K1; have c0 := c 0 _ rfl; have c1 := c 1 _ rfl; have c2 := c 2 _ rfl; have c3 := c 3 _ rfl; have c4 := c 4 _ rfl; have c5 := c 5 _ rfl; have f0 := f 0; have f1 := f 1; have f2 := f 2; have f3 := f 3; have f4 := f 4; have f5 := f 5; clear c f
  clear K1
  clear hc1 hf1
  go_wp2
  refine bodyPost_agg2 (B := w.heap.size) Try.results19 Try.underlying33 (by kernel_rfl) rfl (stored6 K1' _ _ _ _ _ _) rfl ⟨?_, by (repeat (first | with_reducible exact Below.refl _ _ | with_reducible assumption | with_reducible refine Below.drew ?_ | with_reducible refine below_drewN ?_ _ | with_reducible refine below_al ?_ _ | with_reducible refine Below.setCell ?_ ?_ _ | exact Nat.le_refl _ | omega | (simp; done) | (simp; omega)))⟩
  have hm := HM2.out; subst hm; rw [tokE_ok rfl]; rfl
set_option maxHeartbeats 1000000 in
theorem token_num_ok_end (s : ByteArray) (k : Nat) (w : World) (hs : s.size ≤ 1000000000) (hk : k < s.size) (hl : Lx.let_ s[k] = false) (hdg : Lx.dig s[k] = true) (n : Nat) (hn0 : n = Lx.many Lx.dig (Lx.suf s k)) (he : k + n = s.size) (hr : (Lx.read ((Lx.suf s k).take n)).2 = 0) :
    Calls Try.prog 19 #[.string s, .int .i64 k] w fun e w' => e = tokE (Lx.tok (Lx.suf s k)) k ∧ Below w.heap.size w w' := by
  have hT : Lx.tok (Lx.suf s k) = Lx.numT (Lx.suf s k) n := by
    rw [hn0, Lx.suf_cons hk, Lx.tok]
    simp only [hl, hdg, Bool.false_eq_true, if_true, if_false]
  have hd : (Lx.suf s k).drop n = Lx.suf s (k + n) := by rw [Lx.suf_eq, Lx.suf_eq, List.drop_drop]
  have hh : (Lx.suf s (k + n)).head?.any Lx.let_ = false := by rw [Lx.suf_nil (by omega)]; rfl
  rw [hT, Lx.numT, hd, hh]
  rw [if_neg (by decide), if_pos hr]
  have hml := Lx.many_le Lx.dig (Lx.suf s k)
  rw [Lx.suf_length, ← hn0] at hml
  obtain ⟨m, hm⟩ : ∃ m, m = k + n := ⟨_, rfl⟩
  have HM : Hid (m = k + Lx.many Lx.dig (Lx.suf s k)) := by unfold Hid; rw [hm, hn0]
  have HM2 := Lib.hid hm
  have hm1 : k ≤ m := by omega
  have hm2 : m ≤ s.size := by omega
  have d1 : decide ((m : Int) < (s.size : Int)) = false := decide_eq_false (by omega)
  have d1n : decide (m < s.size) = false := decide_eq_false (by omega)
  have hsl : s.extract k m = Lx.bs ((Lx.suf s k).take n) := by rw [Lx.extract_bs, hm, Nat.add_sub_cancel_left]; rfl
  have hst : (Lx.bs ((Lx.suf s k).take n)).size ≤ 1000000000 := by rw [Lx.bs_size, List.length_take, Lx.suf_length]; omega
  obtain ⟨t, ht⟩ : ∃ t, t = (Lx.suf s k).take n := ⟨_, rfl⟩
  rw [← ht] at hsl hst hr ⊢
  have HS := Lib.hid hsl
  have HST := Lib.hid hst
  obtain ⟨v, hv⟩ : ∃ v, v = Lx.read t := ⟨_, rfl⟩
  rw [← hv] at hr ⊢
  have HV := Lib.hid hv
  have HR := Lib.hid hr
  have d2 : (v.2 != 0) = false := by simp [hr]
  clear hsl hst hv ht hr
  have HLET := Lib.hid hl
  have HDIG := Lib.hid hdg
  clear hl hdg hT hd hh hm hn0 hml he
  go_enter Try.func19, Try.ntmps19
  go_wp2_with fail
  refine (letter_any _ _).mono ?_
  rintro e w' ⟨rfl, rfl⟩
  rw [HLET.out]
  go_wp2_with fail
  refine (digit_any _ _).mono ?_
  rintro e w' ⟨rfl, rfl⟩
  rw [HDIG.out]
  go_wp2_with fail
  refine (while_dig s k _ (by omega) (by omega)).mono ?_
  rintro e w' ⟨rfl, rfl⟩
  rw [← HM.out]
  go_wp2_with fail
  rw [HS.out]
  refine (read_any _ _ (by have := HST.out; omega)).mono ?_
  rintro e w1 ⟨rfl, hb1⟩
  rw [Lx.ls_bs, ← HV.out]
  have hB1 := below_next (w := w) (by (repeat (first | with_reducible exact Below.refl _ _ | with_reducible assumption | with_reducible refine Below.drew ?_ | with_reducible refine below_drewN ?_ _ | with_reducible refine below_al ?_ _ | with_reducible refine Below.setCell ?_ ?_ _ | exact Nat.le_refl _ | omega | (simp; done) | (simp; omega)))) hb1; obtain ⟨hc1, hf1⟩ := bcell hb1
  have K0 := blk_next (heap_alloc_new w _) hb1
  have hs1 := HS.out
  have K1 := K0
  have K1' := K1
  obtain ⟨c, f⟩ := blk_cells K1; have c0 := c 0 _ rfl; have c1 := c 1 _ rfl; have c2 := c 2 _ rfl; have c3 := c 3 _ rfl; have c4 := c 4 _ rfl; have c5 := c 5 _ rfl; have f0 := f 0; have f1 := f 1; have f2 := f 2; have f3 := f 3; have f4 := f 4; have f5 := f 5; clear c f
  clear K1
  clear hc1 hf1
  go_wp2
  refine bodyPost_agg2 (B := w.heap.size) Try.results19 Try.underlying33 (by kernel_rfl) rfl (stored6 K1' _ _ _ _ _ _) rfl ⟨?_, by (repeat (first | with_reducible exact Below.refl _ _ | with_reducible assumption | with_reducible refine Below.drew ?_ | with_reducible refine below_drewN ?_ _ | with_reducible refine below_al ?_ _ | with_reducible refine Below.setCell ?_ ?_ _ | exact Nat.le_refl _ | omega | (simp; done) | (simp; omega)))⟩
  have hm := HM2.out; subst hm; rw [tokE_ok rfl]; rfl
set_option maxHeartbeats 1000000 in
theorem token_num_bad (s : ByteArray) (k : Nat) (w : World) (hs : s.size ≤ 1000000000) (hk : k < s.size) (hl : Lx.let_ s[k] = false) (hdg : Lx.dig s[k] = true) (n : Nat) (hn0 : n = Lx.many Lx.dig (Lx.suf s k)) (he : k + n < s.size) (hle : Lx.let_ s[k + n] = false) (hr : (Lx.read ((Lx.suf s k).take n)).2 ≠ 0) :
    Calls Try.prog 19 #[.string s, .int .i64 k] w fun e w' => e = tokE (Lx.tok (Lx.suf s k)) k ∧ Below w.heap.size w w' := by
  have hT : Lx.tok (Lx.suf s k) = Lx.numT (Lx.suf s k) n := by
    rw [hn0, Lx.suf_cons hk, Lx.tok]
    simp only [hl, hdg, Bool.false_eq_true, if_true, if_false]
  have hd : (Lx.suf s k).drop n = Lx.suf s (k + n) := by rw [Lx.suf_eq, Lx.suf_eq, List.drop_drop]
  have hh : (Lx.suf s (k + n)).head?.any Lx.let_ = false := by rw [Lx.suf_cons he]; exact hle
  rw [hT, Lx.numT, hd, hh]
  rw [if_neg (by decide), if_neg hr]
  have hml := Lx.many_le Lx.dig (Lx.suf s k)
  rw [Lx.suf_length, ← hn0] at hml
  obtain ⟨m, hm⟩ : ∃ m, m = k + n := ⟨_, rfl⟩
  have HM : Hid (m = k + Lx.many Lx.dig (Lx.suf s k)) := by unfold Hid; rw [hm, hn0]
  have HM2 := Lib.hid hm
  have hm1 : k ≤ m := by omega
  have hm2 : m ≤ s.size := by omega
  have hlt : m < s.size := by omega
  have hle' : Lx.let_ s[m] = false := by subst hm; exact hle
  have HLE := Lib.hid hle'
  have d1 : decide ((m : Int) < (s.size : Int)) = true := decide_eq_true (by omega)
  have hsl : s.extract k m = Lx.bs ((Lx.suf s k).take n) := by rw [Lx.extract_bs, hm, Nat.add_sub_cancel_left]; rfl
  have hst : (Lx.bs ((Lx.suf s k).take n)).size ≤ 1000000000 := by rw [Lx.bs_size, List.length_take, Lx.suf_length]; omega
  obtain ⟨t, ht⟩ : ∃ t, t = (Lx.suf s k).take n := ⟨_, rfl⟩
  rw [← ht] at hsl hst hr ⊢
  have HS := Lib.hid hsl
  have HST := Lib.hid hst
  obtain ⟨v, hv⟩ : ∃ v, v = Lx.read t := ⟨_, rfl⟩
  rw [← hv] at hr ⊢
  have HV := Lib.hid hv
  have HR := Lib.hid hr
  have d2 : (v.2 != 0) = true := by simp [hr]
  clear hsl hst hv ht hr
  have HLET := Lib.hid hl
  have HDIG := Lib.hid hdg
  clear hl hdg hT hd hh hm hn0 hml he hle hle'
  go_enter Try.func19, Try.ntmps19
  go_wp2_with fail
  refine (letter_any _ _).mono ?_
  rintro e w' ⟨rfl, rfl⟩
  rw [HLET.out]
  go_wp2_with fail
  refine (digit_any _ _).mono ?_
  rintro e w' ⟨rfl, rfl⟩
  rw [HDIG.out]
  go_wp2_with fail
  refine (while_dig s k _ (by omega) (by omega)).mono ?_
  rintro e w' ⟨rfl, rfl⟩
  rw [← HM.out]
  go_wp2_with fail
  refine (letter_any _ _).mono ?_
  rintro e w' ⟨rfl, rfl⟩
  rw [HLE.out]
  go_wp2_with fail
  rw [HS.out]
  refine (read_any _ _ (by have := HST.out; omega)).mono ?_
  rintro e w1 ⟨rfl, hb1⟩
  rw [Lx.ls_bs, ← HV.out]
  have hB1 := below_next (w := w) (by (repeat (first | with_reducible exact Below.refl _ _ | with_reducible assumption | with_reducible refine Below.drew ?_ | with_reducible refine below_drewN ?_ _ | with_reducible refine below_al ?_ _ | with_reducible refine Below.setCell ?_ ?_ _ | exact Nat.le_refl _ | omega | (simp; done) | (simp; omega)))) hb1; obtain ⟨hc1, hf1⟩ := bcell hb1
  have K0 := blk_next (heap_alloc_new w _) hb1
  have K1 := K0
  have K1' := K1
  obtain ⟨c, f⟩ := blk_cells K1; have c0 := c 0 _ rfl; have c1 := c 1 _ rfl; have c2 := c 2 _ rfl; have c3 := c 3 _ rfl; have c4 := c 4 _ rfl; have c5 := c 5 _ rfl; have f0 := f 0; have f1 := f 1; have f2 := f 2; have f3 := f 3; have f4 := f 4; have f5 := f 5; clear c f
  clear K1
  clear hc1 hf1
  go_wp2
  refine bodyPost_agg2 (B := w.heap.size) Try.results19 Try.underlying33 (by kernel_rfl) rfl (stored6 K1' _ _ _ _ _ _) rfl ⟨?_, by (repeat (first | with_reducible exact Below.refl _ _ | with_reducible assumption | with_reducible refine Below.drew ?_ | with_reducible refine below_drewN ?_ _ | with_reducible refine below_al ?_ _ | with_reducible refine Below.setCell ?_ ?_ _ | exact Nat.le_refl _ | omega | (simp; done) | (simp; omega)))⟩
  rw [tokE_bad HR.out]; rfl
set_option maxHeartbeats 1000000 in
theorem token_num_bad_end (s : ByteArray) (k : Nat) (w : World) (hs : s.size ≤ 1000000000) (hk : k < s.size) (hl : Lx.let_ s[k] = false) (hdg : Lx.dig s[k] = true) (n : Nat) (hn0 : n = Lx.many Lx.dig (Lx.suf s k)) (he : k + n = s.size) (hr : (Lx.read ((Lx.suf s k).take n)).2 ≠ 0) :
    Calls Try.prog 19 #[.string s, .int .i64 k] w fun e w' => e = tokE (Lx.tok (Lx.suf s k)) k ∧ Below w.heap.size w w' := by
  have hT : Lx.tok (Lx.suf s k) = Lx.numT (Lx.suf s k) n := by
    rw [hn0, Lx.suf_cons hk, Lx.tok]
    simp only [hl, hdg, Bool.false_eq_true, if_true, if_false]
  have hd : (Lx.suf s k).drop n = Lx.suf s (k + n) := by rw [Lx.suf_eq, Lx.suf_eq, List.drop_drop]
  have hh : (Lx.suf s (k + n)).head?.any Lx.let_ = false := by rw [Lx.suf_nil (by omega)]; rfl
  rw [hT, Lx.numT, hd, hh]
  rw [if_neg (by decide), if_neg hr]
  have hml := Lx.many_le Lx.dig (Lx.suf s k)
  rw [Lx.suf_length, ← hn0] at hml
  obtain ⟨m, hm⟩ : ∃ m, m = k + n := ⟨_, rfl⟩
  have HM : Hid (m = k + Lx.many Lx.dig (Lx.suf s k)) := by unfold Hid; rw [hm, hn0]
  have HM2 := Lib.hid hm
  have hm1 : k ≤ m := by omega
  have hm2 : m ≤ s.size := by omega
  have d1 : decide ((m : Int) < (s.size : Int)) = false := decide_eq_false (by omega)
  have d1n : decide (m < s.size) = false := decide_eq_false (by omega)
  have hsl : s.extract k m = Lx.bs ((Lx.suf s k).take n) := by rw [Lx.extract_bs, hm, Nat.add_sub_cancel_left]; rfl
  have hst : (Lx.bs ((Lx.suf s k).take n)).size ≤ 1000000000 := by rw [Lx.bs_size, List.length_take, Lx.suf_length]; omega
  obtain ⟨t, ht⟩ : ∃ t, t = (Lx.suf s k).take n := ⟨_, rfl⟩
  rw [← ht] at hsl hst hr ⊢
  have HS := Lib.hid hsl
  have HST := Lib.hid hst
  obtain ⟨v, hv⟩ : ∃ v, v = Lx.read t := ⟨_, rfl⟩
  rw [← hv] at hr ⊢
  have HV := Lib.hid hv
  have HR := Lib.hid hr
  have d2 : (v.2 != 0) = true := by simp [hr]
  clear hsl hst hv ht hr
  have HLET := Lib.hid hl
  have HDIG := Lib.hid hdg
  clear hl hdg hT hd hh hm hn0 hml he
  go_enter Try.func19, Try.ntmps19
  go_wp2_with fail
  refine (letter_any _ _).mono ?_
  rintro e w' ⟨rfl, rfl⟩
  rw [HLET.out]
  go_wp2_with fail
  refine (digit_any _ _).mono ?_
  rintro e w' ⟨rfl, rfl⟩
  rw [HDIG.out]
  go_wp2_with fail
  refine (while_dig s k _ (by omega) (by omega)).mono ?_
  rintro e w' ⟨rfl, rfl⟩
  rw [← HM.out]
  go_wp2_with fail
  rw [HS.out]
  refine (read_any _ _ (by have := HST.out; omega)).mono ?_
  rintro e w1 ⟨rfl, hb1⟩
  rw [Lx.ls_bs, ← HV.out]
  have hB1 := below_next (w := w) (by (repeat (first | with_reducible exact Below.refl _ _ | with_reducible assumption | with_reducible refine Below.drew ?_ | with_reducible refine below_drewN ?_ _ | with_reducible refine below_al ?_ _ | with_reducible refine Below.setCell ?_ ?_ _ | exact Nat.le_refl _ | omega | (simp; done) | (simp; omega)))) hb1; obtain ⟨hc1, hf1⟩ := bcell hb1
  have K0 := blk_next (heap_alloc_new w _) hb1
  have K1 := K0
  have K1' := K1
  obtain ⟨c, f⟩ := blk_cells K1; have c0 := c 0 _ rfl; have c1 := c 1 _ rfl; have c2 := c 2 _ rfl; have c3 := c 3 _ rfl; have c4 := c 4 _ rfl; have c5 := c 5 _ rfl; have f0 := f 0; have f1 := f 1; have f2 := f 2; have f3 := f 3; have f4 := f 4; have f5 := f 5; clear c f
  clear K1
  clear hc1 hf1
  go_wp2
  refine bodyPost_agg2 (B := w.heap.size) Try.results19 Try.underlying33 (by kernel_rfl) rfl (stored6 K1' _ _ _ _ _ _) rfl ⟨?_, by (repeat (first | with_reducible exact Below.refl _ _ | with_reducible assumption | with_reducible refine Below.drew ?_ | with_reducible refine below_drewN ?_ _ | with_reducible refine below_al ?_ _ | with_reducible refine Below.setCell ?_ ?_ _ | exact Nat.le_refl _ | omega | (simp; done) | (simp; omega)))⟩
  rw [tokE_bad HR.out]; rfl
set_option maxHeartbeats 1000000 in
theorem token_quo_none (s : ByteArray) (k : Nat) (w : World) (hs : s.size ≤ 1000000000) (hk : k < s.size) (hc : s[k].toNat = 39) (hq : Lx.qEnd (Lx.suf s (k + 1)) = none) :
    Calls Try.prog 19 #[.string s, .int .i64 k] w fun e w' => e = tokE (Lx.tok (Lx.suf s k)) k ∧ Below w.heap.size w w' := by
  have e39 : s[k] = 39 := Lx.u8_of (n := 39) (by omega) hc
  have hl : Lx.let_ s[k] = false := by rw [e39]; rfl
  have hdg : Lx.dig s[k] = false := by rw [e39]; rfl
  have hT : Lx.tok (Lx.suf s k) = Lx.bad 8 := by
    rw [Lx.suf_cons hk, Lx.tok]
    simp only [hl, hdg, Bool.false_eq_true, if_false]
    rw [if_pos (by rw [e39]; rfl), hq]
    rfl
  rw [hT]
  have d1 : ((s[k].toNat : Int) == 39) = true := by rw [hc]; rfl
  have HLET := Lib.hid hl
  have HDIG := Lib.hid hdg
  have hsh : Lx.shift (Lx.qEnd (Lx.suf s (k + 1))) (k + 1) = none := by rw [hq]; rfl
  have HQ := Lib.hid hsh
  clear hl hdg hT e39 hc hq hsh
  go_enter Try.func19, Try.ntmps19
  go_wp2_with fail
  refine (letter_any _ _).mono ?_
  rintro e w' ⟨rfl, rfl⟩
  rw [HLET.out]
  go_wp2_with fail
  refine (digit_any _ _).mono ?_
  rintro e w' ⟨rfl, rfl⟩
  rw [HDIG.out]
  go_wp2_with fail
  refine (quoted_any s k _ hs hk).mono ?_
  rintro e w' ⟨rfl, rfl⟩
  rw [HQ.out]
  unfold endE
  go_wp2
  refine bodyPost_agg2 (B := w.heap.size) Try.results19 Try.underlying33 (by kernel_rfl) rfl (heap_alloc_new w _) rfl ⟨?_, by (repeat (first | with_reducible exact Below.refl _ _ | with_reducible assumption | with_reducible refine Below.drew ?_ | with_reducible refine below_drewN ?_ _ | with_reducible refine below_al ?_ _ | with_reducible refine Below.setCell ?_ ?_ _ | exact Nat.le_refl _ | omega | (simp; done) | (simp; omega)))⟩
  rw [tokE_bad (by decide)]; rfl
set_option maxHeartbeats 1000000 in
theorem token_quo_ok (s : ByteArray) (k : Nat) (w : World) (hs : s.size ≤ 1000000000) (hk : k < s.size) (hc : s[k].toNat = 39) (n : Nat) (hq : (Lx.qEnd (Lx.suf s (k + 1))).map (· + 1) = some n) (hn : k + n ≤ s.size) (he : (Lx.valT (Lx.suf s k) n).1 = 0) :
    Calls Try.prog 19 #[.string s, .int .i64 k] w fun e w' => e = tokE (Lx.tok (Lx.suf s k)) k ∧ Below w.heap.size w w' := by
  have e39 : s[k] = 39 := Lx.u8_of (n := 39) (by omega) hc
  have hl : Lx.let_ s[k] = false := by rw [e39]; rfl
  have hdg : Lx.dig s[k] = false := by rw [e39]; rfl
  have hT : Lx.tok (Lx.suf s k) = Lx.valT (Lx.suf s k) n := by
    rw [Lx.suf_cons hk, Lx.tok]
    simp only [hl, hdg, Bool.false_eq_true, if_false]
    rw [if_pos (by rw [e39]; rfl), hq]
    rfl
  rw [hT]
  obtain ⟨r, hr⟩ : ∃ r, r = Lx.valT (Lx.suf s k) n := ⟨_, rfl⟩
  rw [← hr]
  have HR := Lib.hid hr
  rw [← hr] at he
  have HE := Lib.hid he
  clear hr he
  have d1 : ((s[k].toNat : Int) == 39) = true := by rw [hc]; rfl
  have HLET := Lib.hid hl
  have HDIG := Lib.hid hdg
  have hsh : Lx.shift (Lx.qEnd (Lx.suf s (k + 1))) (k + 1) = some (k + n) := by
    cases h : Lx.qEnd (Lx.suf s (k + 1)) with
    | none => rw [h] at hq; cases hq
    | some q => rw [h] at hq; simp at hq; simp [Lx.shift]; omega
  have HQ := Lib.hid hsh
  clear hl hdg hT e39 hc hq hsh
  go_enter Try.func19, Try.ntmps19
  go_wp2_with fail
  refine (letter_any _ _).mono ?_
  rintro e w' ⟨rfl, rfl⟩
  rw [HLET.out]
  go_wp2_with fail
  refine (digit_any _ _).mono ?_
  rintro e w' ⟨rfl, rfl⟩
  rw [HDIG.out]
  go_wp2_with fail
  refine (quoted_any s k _ hs hk).mono ?_
  rintro e w' ⟨rfl, rfl⟩
  rw [HQ.out]
  unfold endE
  go_wp2_with fail
  refine (lvalue_at s k n _ _ hs (by omega) (by omega)).mono ?_
  rintro e w1 ⟨he, hb1⟩
  rw [← HR.out, tokE_ok HE.out] at he
  subst he
  have hB1 := below_next (w := w) (by (repeat (first | with_reducible exact Below.refl _ _ | with_reducible assumption | with_reducible refine Below.drew ?_ | with_reducible refine below_drewN ?_ _ | with_reducible refine below_al ?_ _ | with_reducible refine Below.setCell ?_ ?_ _ | exact Nat.le_refl _ | omega | (simp; done) | (simp; omega)))) hb1; obtain ⟨hc1, hf1⟩ := bcell hb1
  have K0 := blk_next (heap_alloc_new w _) hb1
  have K1 := K0
  have K1' := K1
  obtain ⟨c, f⟩ := blk_cells K1; have c0 := c 0 _ rfl; have c1 := c 1 _ rfl; have c2 := c 2 _ rfl; have c3 := c 3 _ rfl; have c4 := c 4 _ rfl; have c5 := c 5 _ rfl; have f0 := f 0; have f1 := f 1; have f2 := f 2; have f3 := f 3; have f4 := f 4; have f5 := f 5; clear c f
  clear K1
  clear hc1 hf1
  go_wp2
  refine bodyPost_agg2 (B := w.heap.size) Try.results19 Try.underlying33 (by kernel_rfl) rfl (stored6 K1' _ _ _ _ _ _) rfl ⟨?_, by (repeat (first | with_reducible exact Below.refl _ _ | with_reducible assumption | with_reducible refine Below.drew ?_ | with_reducible refine below_drewN ?_ _ | with_reducible refine below_al ?_ _ | with_reducible refine Below.setCell ?_ ?_ _ | exact Nat.le_refl _ | omega | (simp; done) | (simp; omega)))⟩
  rw [tokE_ok HE.out]; rfl
set_option maxHeartbeats 1000000 in
theorem token_quo_bad (s : ByteArray) (k : Nat) (w : World) (hs : s.size ≤ 1000000000) (hk : k < s.size) (hc : s[k].toNat = 39) (n : Nat) (hq : (Lx.qEnd (Lx.suf s (k + 1))).map (· + 1) = some n) (hn : k + n ≤ s.size) (he : (Lx.valT (Lx.suf s k) n).1 ≠ 0) :
    Calls Try.prog 19 #[.string s, .int .i64 k] w fun e w' => e = tokE (Lx.tok (Lx.suf s k)) k ∧ Below w.heap.size w w' := by
  have e39 : s[k] = 39 := Lx.u8_of (n := 39) (by omega) hc
  have hl : Lx.let_ s[k] = false := by rw [e39]; rfl
  have hdg : Lx.dig s[k] = false := by rw [e39]; rfl
  have hT : Lx.tok (Lx.suf s k) = Lx.valT (Lx.suf s k) n := by
    rw [Lx.suf_cons hk, Lx.tok]
    simp only [hl, hdg, Bool.false_eq_true, if_false]
    rw [if_pos (by rw [e39]; rfl), hq]
    rfl
  rw [hT]
  obtain ⟨r, hr⟩ : ∃ r, r = Lx.valT (Lx.suf s k) n := ⟨_, rfl⟩
  rw [← hr]
  have HR := Lib.hid hr
  rw [← hr] at he
  have HE := Lib.hid he
  clear hr he
  have d1 : ((s[k].toNat : Int) == 39) = true := by rw [hc]; rfl
  have HLET := Lib.hid hl
  have HDIG := Lib.hid hdg
  have hsh : Lx.shift (Lx.qEnd (Lx.suf s (k + 1))) (k + 1) = some (k + n) := by
    cases h : Lx.qEnd (Lx.suf s (k + 1)) with
    | none => rw [h] at hq; cases hq
    | some q => rw [h] at hq; simp at hq; simp [Lx.shift]; omega
  have HQ := Lib.hid hsh
  clear hl hdg hT e39 hc hq hsh
  go_enter Try.func19, Try.ntmps19
  go_wp2_with fail
  refine (letter_any _ _).mono ?_
  rintro e w' ⟨rfl, rfl⟩
  rw [HLET.out]
  go_wp2_with fail
  refine (digit_any _ _).mono ?_
  rintro e w' ⟨rfl, rfl⟩
  rw [HDIG.out]
  go_wp2_with fail
  refine (quoted_any s k _ hs hk).mono ?_
  rintro e w' ⟨rfl, rfl⟩
  rw [HQ.out]
  unfold endE
  go_wp2_with fail
  refine (lvalue_at s k n _ _ hs (by omega) (by omega)).mono ?_
  rintro e w1 ⟨he, hb1⟩
  rw [← HR.out, tokE_bad HE.out] at he
  subst he
  have hB1 := below_next (w := w) (by (repeat (first | with_reducible exact Below.refl _ _ | with_reducible assumption | with_reducible refine Below.drew ?_ | with_reducible refine below_drewN ?_ _ | with_reducible refine below_al ?_ _ | with_reducible refine Below.setCell ?_ ?_ _ | exact Nat.le_refl _ | omega | (simp; done) | (simp; omega)))) hb1; obtain ⟨hc1, hf1⟩ := bcell hb1
  have K0 := blk_next (heap_alloc_new w _) hb1
  have K1 := K0
  have K1' := K1
  obtain ⟨c, f⟩ := blk_cells K1; have c0 := c 0 _ rfl; have c1 := c 1 _ rfl; have c2 := c 2 _ rfl; have c3 := c 3 _ rfl; have c4 := c 4 _ rfl; have c5 := c 5 _ rfl; have f0 := f 0; have f1 := f 1; have f2 := f 2; have f3 := f 3; have f4 := f 4; have f5 := f 5; clear c f
  clear K1
  clear hc1 hf1
  go_wp2
  refine bodyPost_agg2 (B := w.heap.size) Try.results19 Try.underlying33 (by kernel_rfl) rfl (stored6 K1' _ _ _ _ _ _) rfl ⟨?_, by (repeat (first | with_reducible exact Below.refl _ _ | with_reducible assumption | with_reducible refine Below.drew ?_ | with_reducible refine below_drewN ?_ _ | with_reducible refine below_al ?_ _ | with_reducible refine Below.setCell ?_ ?_ _ | exact Nat.le_refl _ | omega | (simp; done) | (simp; omega)))⟩
  rw [tokE_bad HE.out]; rfl
set_option maxHeartbeats 1000000 in
theorem token_mark_none (s : ByteArray) (k : Nat) (w : World) (hs : s.size ≤ 1000000000) (hk : k < s.size) (hl : Lx.let_ s[k] = false) (hdg : Lx.dig s[k] = false) (hc : s[k].toNat ≠ 39) (n : Nat) (hn0 : n = Lx.markN (Lx.suf s k)) (hz : n = 0) (hn : k + n ≤ s.size) :
    Calls Try.prog 19 #[.string s, .int .i64 k] w fun e w' => e = tokE (Lx.tok (Lx.suf s k)) k ∧ Below w.heap.size w w' := by
  have hT : Lx.tok (Lx.suf s k) = Lx.markT (Lx.suf s k) := by
    have hq : (s[k] == 39) = false := by simp [Lx.beq_nat, hc]
    rw [Lx.suf_cons hk, Lx.tok]
    simp only [hl, hdg, hq, Bool.false_eq_true, if_false]
  rw [hT, Lx.markT, ← hn0]
  have d1 : ((s[k].toNat : Int) == 39) = false := by simp; omega
  have HLET := Lib.hid hl
  have HDIG := Lib.hid hdg
  have HN := Lib.hid hn0
  rw [if_pos hz]
  subst hz
  clear hl hdg hT hc hn0
  go_enter Try.func19, Try.ntmps19
  go_wp2_with fail
  refine (letter_any _ _).mono ?_
  rintro e w' ⟨rfl, rfl⟩
  rw [HLET.out]
  go_wp2_with fail
  refine (digit_any _ _).mono ?_
  rintro e w' ⟨rfl, rfl⟩
  rw [HDIG.out]
  go_wp2_with fail
  refine (sign_any s k _ hs hk).mono ?_
  rintro e w' ⟨rfl, rfl⟩
  rw [← HN.out]
  unfold signE
  go_wp2
  refine bodyPost_agg2 (B := w.heap.size) Try.results19 Try.underlying33 (by kernel_rfl) rfl (heap_alloc_new w _) rfl ⟨?_, by (repeat (first | with_reducible exact Below.refl _ _ | with_reducible assumption | with_reducible refine Below.drew ?_ | with_reducible refine below_drewN ?_ _ | with_reducible refine below_al ?_ _ | with_reducible refine Below.setCell ?_ ?_ _ | exact Nat.le_refl _ | omega | (simp; done) | (simp; omega)))⟩
  rw [tokE_bad (by decide)]; rfl
set_option maxHeartbeats 1000000 in
theorem token_mark_some (s : ByteArray) (k : Nat) (w : World) (hs : s.size ≤ 1000000000) (hk : k < s.size) (hl : Lx.let_ s[k] = false) (hdg : Lx.dig s[k] = false) (hc : s[k].toNat ≠ 39) (n : Nat) (hn0 : n = Lx.markN (Lx.suf s k)) (hz : n ≠ 0) (hn : k + n ≤ s.size) :
    Calls Try.prog 19 #[.string s, .int .i64 k] w fun e w' => e = tokE (Lx.tok (Lx.suf s k)) k ∧ Below w.heap.size w w' := by
  have hT : Lx.tok (Lx.suf s k) = Lx.markT (Lx.suf s k) := by
    have hq : (s[k] == 39) = false := by simp [Lx.beq_nat, hc]
    rw [Lx.suf_cons hk, Lx.tok]
    simp only [hl, hdg, hq, Bool.false_eq_true, if_false]
  rw [hT, Lx.markT, ← hn0]
  have d1 : ((s[k].toNat : Int) == 39) = false := by simp; omega
  have HLET := Lib.hid hl
  have HDIG := Lib.hid hdg
  have HN := Lib.hid hn0
  rw [if_neg hz]
  obtain ⟨m, hm⟩ : ∃ m, m = k + n := ⟨_, rfl⟩
  have HM2 := Lib.hid hm
  have hm1 : k ≤ m := by omega
  have hm2 : m ≤ s.size := by omega
  have hsl : s.extract k m = Lx.bs ((Lx.suf s k).take n) := by rw [Lx.extract_bs, hm, Nat.add_sub_cancel_left]; rfl
  have hE : signE k n = .returned (.tuple #[.int .i64 (m : Int), .bool true]) := by rw [hm]; simp [signE, hz]
  have HE := Lib.hid hE
  clear hl hdg hT hc hn0 hz hE hm
  go_enter Try.func19, Try.ntmps19
  go_wp2_with fail
  refine (letter_any _ _).mono ?_
  rintro e w' ⟨rfl, rfl⟩
  rw [HLET.out]
  go_wp2_with fail
  refine (digit_any _ _).mono ?_
  rintro e w' ⟨rfl, rfl⟩
  rw [HDIG.out]
  go_wp2_with fail
  refine (sign_any s k _ hs hk).mono ?_
  rintro e w' ⟨rfl, rfl⟩
  rw [← HN.out]
  rw [HE.out]
  go_wp2
  refine bodyPost_agg2 (B := w.heap.size) Try.results19 Try.underlying33 (by kernel_rfl) rfl (heap_alloc_new w _) rfl ⟨?_, by (repeat (first | with_reducible exact Below.refl _ _ | with_reducible assumption | with_reducible refine Below.drew ?_ | with_reducible refine below_drewN ?_ _ | with_reducible refine below_al ?_ _ | with_reducible refine Below.setCell ?_ ?_ _ | exact Nat.le_refl _ | omega | (simp; done) | (simp; omega)))⟩
  rw [tokE_ok rfl, HM2.out]; rfl
theorem token_any (s : ByteArray) (k : Nat) (w : World) (hs : s.size ≤ 1000000000) (hk : k < s.size) :
    Calls Try.prog 19 #[.string s, .int .i64 k] w fun e w' => e = tokE (Lx.tok (Lx.suf s k)) k ∧ Below w.heap.size w w' := by
  by_cases hl : Lx.let_ s[k] = true
  · by_cases hb : Lx.isBlob (Lx.suf s k) = true
    · by_cases hm : s.size ≤ k + 2 + Lx.many Lx.noq (Lx.suf s (k + 2))
      · exact token_blob_none s k w hs hk hl hb hm
      · by_cases he : (Lx.valT (Lx.suf s k) (2 + Lx.many Lx.noq (Lx.suf s (k + 2)) + 1)).1 = 0
        · exact token_blob_ok s k w hs hk hl hb _ rfl (by omega) he
        · exact token_blob_bad s k w hs hk hl hb _ rfl (by omega) he
    · have hb : Lx.isBlob (Lx.suf s k) = false := by simpa using hb
      by_cases hw : Lx.isW ((Lx.suf s k).take (Lx.many Lx.nam (Lx.suf s k))) = true
      · exact token_name_word s k w hs hk hl hb hw
      · have hw : Lx.isW ((Lx.suf s k).take (Lx.many Lx.nam (Lx.suf s k))) = false := by simpa using hw
        by_cases hn : 32 < Lx.many Lx.nam (Lx.suf s k)
        · exact token_name_long s k w hs hk hl hb hw hn
        · exact token_name_plain s k w hs hk hl hb hw hn
  · have hl : Lx.let_ s[k] = false := by simpa using hl
    by_cases hdg : Lx.dig s[k] = true
    · have hml := Lx.many_le Lx.dig (Lx.suf s k)
      rw [Lx.suf_length] at hml
      by_cases he : k + Lx.many Lx.dig (Lx.suf s k) < s.size
      · by_cases hle : Lx.let_ s[k + Lx.many Lx.dig (Lx.suf s k)] = true
        · exact token_num_letter s k w hs hk hl hdg _ rfl he hle
        · have hle : Lx.let_ s[k + Lx.many Lx.dig (Lx.suf s k)] = false := by simpa using hle
          by_cases hr : (Lx.read ((Lx.suf s k).take (Lx.many Lx.dig (Lx.suf s k)))).2 = 0
          · exact token_num_ok s k w hs hk hl hdg _ rfl he hle hr
          · exact token_num_bad s k w hs hk hl hdg _ rfl he hle hr
      · by_cases hr : (Lx.read ((Lx.suf s k).take (Lx.many Lx.dig (Lx.suf s k)))).2 = 0
        · exact token_num_ok_end s k w hs hk hl hdg _ rfl (by omega) hr
        · exact token_num_bad_end s k w hs hk hl hdg _ rfl (by omega) hr
    · have hdg : Lx.dig s[k] = false := by simpa using hdg
      by_cases hc : s[k].toNat = 39
      · cases hq : Lx.qEnd (Lx.suf s (k + 1)) with
        | none => exact token_quo_none s k w hs hk hc hq
        | some q =>
          have hql := Lx.qEnd_le _ q hq
          rw [Lx.suf_length] at hql
          by_cases he : (Lx.valT (Lx.suf s k) (q + 1)).1 = 0
          · exact token_quo_ok s k w hs hk hc (q + 1) (by rw [hq]; rfl) (by omega) he
          · exact token_quo_bad s k w hs hk hc (q + 1) (by rw [hq]; rfl) (by omega) he
      · have hml := Lx.markN_le (Lx.suf s k)
        rw [Lx.suf_length] at hml
        by_cases hz : Lx.markN (Lx.suf s k) = 0
        · exact token_mark_none s k w hs hk hl hdg hc _ rfl hz (by omega)
        · exact token_mark_some s k w hs hk hl hdg hc _ rfl hz (by omega)
end Go.Proofs.Ytepdpdlakgnpmaa
