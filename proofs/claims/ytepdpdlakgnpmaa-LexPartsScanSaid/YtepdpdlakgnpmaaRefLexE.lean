import Derived.Test.YtepdpdlakgnpmaaRefLexD
set_option linter.unusedVariables false
set_option linter.unusedSimpArgs false
namespace Go.Proofs.Ytepdpdlakgnpmaa
open Go.RowKit
attribute [local simp] Lx.bs_size
set_option maxHeartbeats 1000000 in
theorem one_num_letter (s : ByteArray) (k : Nat) (w : World) (hs : s.size ≤ 1000000000) (hk : k < s.size) (hdg : Lx.dig s[k] = true) (n : Nat) (hn0 : n = Lx.many Lx.dig (Lx.suf s k)) (he : k + n < s.size) (hle : Lx.let_ s[k + n] = true) :
    Calls Try.prog 21 #[.string s, .int .i64 k] w fun e w' => OneE (Lx.tok (Lx.suf s k)) k e ∧ Below w.heap.size w w' := by
  have hdi := Lx.dig_iff.1 hdg
  have hl : Lx.let_ s[k] = false := by simp [Lx.let_]; omega
  have hT : Lx.tok (Lx.suf s k) = Lx.numT (Lx.suf s k) n := by
    rw [hn0, Lx.suf_cons hk, Lx.tok]
    simp only [hl, hdg, Bool.false_eq_true, if_true, if_false]
  have hd : (Lx.suf s k).drop n = Lx.suf s (k + n) := by rw [Lx.suf_eq, Lx.suf_eq, List.drop_drop]
  have hh : (Lx.suf s (k + n)).head?.any Lx.let_ = true := by rw [Lx.suf_cons he]; exact hle
  rw [hT, Lx.numT, hd, hh]
  rw [if_pos rfl]
  have hml := Lx.many_le Lx.dig (Lx.suf s k)
  rw [Lx.suf_length, ← hn0] at hml
  obtain ⟨m, hm⟩ : ∃ m, m = k + n := ⟨_, rfl⟩
  have HM : Hid (m = k + Lx.many Lx.dig (Lx.suf s k)) := by unfold Hid; rw [hm, hn0]
  have HM2 := Lib.hid hm
  have hm1 : k ≤ m := by omega
  have hm2 : m ≤ s.size := by omega
  have hlt : m < s.size := by omega
  have hle' : Lx.let_ s[m] = true := by subst hm; exact hle
  have HLE := Lib.hid hle'
  have d1 : decide ((m : Int) < (s.size : Int)) = true := decide_eq_true (by omega)
  have x0 : ((s[k].toNat : Int) == 39) = false := by simp; omega
  have x1 : ((s[k].toNat : Int) == 120) = false := by simp; omega
  have x2 : ((s[k].toNat : Int) == 88) = false := by simp; omega
  have HDIG := Lib.hid hdg
  clear hl hdg hdi hT hd hh hm hn0 hml he hle hle'
  go_enter Try.func21, Try.ntmps21
  go_wp2_with fail
  refine (refdigit_any _ _).mono ?_
  rintro e w' ⟨rfl, rfl⟩
  rw [HDIG.out]
  go_wp2_with fail
  refine (run_dig s k _ hs (by omega)).mono ?_
  rintro e w' ⟨rfl, rfl⟩
  rw [← HM.out]
  go_wp2_with fail
  refine (refletter_any _ _).mono ?_
  rintro e w' ⟨rfl, rfl⟩
  rw [HLE.out]
  go_wp2
  refine bodyPost_agg1 (B := w.heap.size) Try.results21 Try.underlying33 (by kernel_rfl) rfl (heap_alloc_new w _) rfl ⟨?_, by (repeat (first | with_reducible exact Below.refl _ _ | with_reducible assumption | with_reducible refine Below.drew ?_ | with_reducible refine below_drewN ?_ _ | with_reducible refine below_al ?_ _ | with_reducible refine Below.setCell ?_ ?_ _ | exact Nat.le_refl _ | omega | (simp; done) | (simp; omega)))⟩
  exact OneE_bad0 (by decide) rfl
set_option maxHeartbeats 1000000 in
theorem one_num_ok (s : ByteArray) (k : Nat) (w : World) (hs : s.size ≤ 1000000000) (hk : k < s.size) (hdg : Lx.dig s[k] = true) (n : Nat) (hn0 : n = Lx.many Lx.dig (Lx.suf s k)) (he : k + n < s.size) (hle : Lx.let_ s[k + n] = false) :
    Calls Try.prog 21 #[.string s, .int .i64 k] w fun e w' => OneE (Lx.tok (Lx.suf s k)) k e ∧ Below w.heap.size w w' := by
  have hdi := Lx.dig_iff.1 hdg
  have hl : Lx.let_ s[k] = false := by simp [Lx.let_]; omega
  have hT : Lx.tok (Lx.suf s k) = Lx.numT (Lx.suf s k) n := by
    rw [hn0, Lx.suf_cons hk, Lx.tok]
    simp only [hl, hdg, Bool.false_eq_true, if_true, if_false]
  have hd : (Lx.suf s k).drop n = Lx.suf s (k + n) := by rw [Lx.suf_eq, Lx.suf_eq, List.drop_drop]
  have hh : (Lx.suf s (k + n)).head?.any Lx.let_ = false := by rw [Lx.suf_cons he]; exact hle
  rw [hT, Lx.numT, hd, hh]
  rw [if_neg (by decide)]
  have hml := Lx.many_le Lx.dig (Lx.suf s k)
  rw [Lx.suf_length, ← hn0] at hml
  obtain ⟨m, hm⟩ : ∃ m, m = k + n := ⟨_, rfl⟩
  have HM : Hid (m = k + Lx.many Lx.dig (Lx.suf s k)) := by unfold Hid; rw [hm, hn0]
  have HM2 := Lib.hid hm
  have hm1 : k ≤ m := by omega
  have hm2 : m ≤ s.size := by omega
  have hlt : m < s.size := by omega
  have hle' : Lx.let_ s[m] = false := by subst hm; exact hle
  have HLE := Lib.hid hle'
  have d1 : decide ((m : Int) < (s.size : Int)) = true := decide_eq_true (by omega)
  have hsl : s.extract k m = Lx.bs ((Lx.suf s k).take n) := by rw [Lx.extract_bs, hm, Nat.add_sub_cancel_left]; rfl
  have hst : (Lx.bs ((Lx.suf s k).take n)).size ≤ 1000000000 := by rw [Lx.bs_size, List.length_take, Lx.suf_length]; omega
  obtain ⟨t, ht⟩ : ∃ t, t = (Lx.suf s k).take n := ⟨_, rfl⟩
  rw [← ht] at hsl hst ⊢
  have HS := Lib.hid hsl
  have HST := Lib.hid hst
  obtain ⟨v, hv⟩ : ∃ v, v = Lx.read t := ⟨_, rfl⟩
  rw [← hv]
  have HV := Lib.hid hv
  obtain ⟨r, hr⟩ : ∃ r : Lx.TR, r = if v.2 = 0 then (0, ⟨3, t, (1, v.1, [])⟩, n) else Lx.bad v.2 := ⟨_, rfl⟩
  rw [← hr]
  have HR := Lib.hid hr
  clear hsl hst hv ht hr
  have x0 : ((s[k].toNat : Int) == 39) = false := by simp; omega
  have x1 : ((s[k].toNat : Int) == 120) = false := by simp; omega
  have x2 : ((s[k].toNat : Int) == 88) = false := by simp; omega
  have HDIG := Lib.hid hdg
  clear hl hdg hdi hT hd hh hm hn0 hml he hle hle'
  go_enter Try.func21, Try.ntmps21
  go_wp2_with fail
  refine (refdigit_any _ _).mono ?_
  rintro e w' ⟨rfl, rfl⟩
  rw [HDIG.out]
  go_wp2_with fail
  refine (run_dig s k _ hs (by omega)).mono ?_
  rintro e w' ⟨rfl, rfl⟩
  rw [← HM.out]
  go_wp2_with fail
  refine (refletter_any _ _).mono ?_
  rintro e w' ⟨rfl, rfl⟩
  rw [HLE.out]
  go_wp2_with fail
  rw [HS.out]
  refine (rread_any _ _ HST.out).mono ?_
  rintro e w' ⟨rfl, rfl⟩
  rw [Lx.ls_bs, ← HV.out]
  have hs1 := HS.out
  go_wp2
  refine bodyPost_agg1 (B := w.heap.size) Try.results21 Try.underlying33 (by kernel_rfl) rfl (heap_alloc_new w _) rfl ⟨?_, by (repeat (first | with_reducible exact Below.refl _ _ | with_reducible assumption | with_reducible refine Below.drew ?_ | with_reducible refine below_drewN ?_ _ | with_reducible refine below_al ?_ _ | with_reducible refine Below.setCell ?_ ?_ _ | exact Nat.le_refl _ | omega | (simp; done) | (simp; omega)))⟩
  by_cases he : v.2 = 0
  · refine OneE_ok (by rw [HR.out, if_pos he]) ?_
    rw [HR.out, if_pos he]
    show Ending.returned (.tuple #[_, .int .i64 v.2]) = _
    rw [he]
    rfl
  · have e1 : r.1 = v.2 := by rw [HR.out, if_neg he]; rfl
    refine ⟨⟨3, t, (1, v.1, [])⟩, (k : Int), ?_, fun h => absurd (e1.symm.trans h) he⟩
    rw [e1]
    rfl
set_option maxHeartbeats 1000000 in
theorem one_num_ok_end (s : ByteArray) (k : Nat) (w : World) (hs : s.size ≤ 1000000000) (hk : k < s.size) (hdg : Lx.dig s[k] = true) (n : Nat) (hn0 : n = Lx.many Lx.dig (Lx.suf s k)) (he : k + n = s.size) :
    Calls Try.prog 21 #[.string s, .int .i64 k] w fun e w' => OneE (Lx.tok (Lx.suf s k)) k e ∧ Below w.heap.size w w' := by
  have hdi := Lx.dig_iff.1 hdg
  have hl : Lx.let_ s[k] = false := by simp [Lx.let_]; omega
  have hT : Lx.tok (Lx.suf s k) = Lx.numT (Lx.suf s k) n := by
    rw [hn0, Lx.suf_cons hk, Lx.tok]
    simp only [hl, hdg, Bool.false_eq_true, if_true, if_false]
  have hd : (Lx.suf s k).drop n = Lx.suf s (k + n) := by rw [Lx.suf_eq, Lx.suf_eq, List.drop_drop]
  have hh : (Lx.suf s (k + n)).head?.any Lx.let_ = false := by rw [Lx.suf_nil (by omega)]; rfl
  rw [hT, Lx.numT, hd, hh]
  rw [if_neg (by decide)]
  have hml := Lx.many_le Lx.dig (Lx.suf s k)
  rw [Lx.suf_length, ← hn0] at hml
  obtain ⟨m, hm⟩ : ∃ m, m = k + n := ⟨_, rfl⟩
  have HM : Hid (m = k + Lx.many Lx.dig (Lx.suf s k)) := by unfold Hid; rw [hm, hn0]
  have HM2 := Lib.hid hm
  have hm1 : k ≤ m := by omega
  have hm2 : m ≤ s.size := by omega
  have d1 : decide ((m : Int) < (s.size : Int)) = false := decide_eq_false (by omega)
  have d1n : decide (m < s.size) = false := decide_eq_false (by omega)
  have hsl : s.extract k m = Lx.bs ((Lx.suf s k).take n) := by rw [Lx.extract_bs, hm, Nat.add_sub_cancel_left]; rfl
  have hst : (Lx.bs ((Lx.suf s k).take n)).size ≤ 1000000000 := by rw [Lx.bs_size, List.length_take, Lx.suf_length]; omega
  obtain ⟨t, ht⟩ : ∃ t, t = (Lx.suf s k).take n := ⟨_, rfl⟩
  rw [← ht] at hsl hst ⊢
  have HS := Lib.hid hsl
  have HST := Lib.hid hst
  obtain ⟨v, hv⟩ : ∃ v, v = Lx.read t := ⟨_, rfl⟩
  rw [← hv]
  have HV := Lib.hid hv
  obtain ⟨r, hr⟩ : ∃ r : Lx.TR, r = if v.2 = 0 then (0, ⟨3, t, (1, v.1, [])⟩, n) else Lx.bad v.2 := ⟨_, rfl⟩
  rw [← hr]
  have HR := Lib.hid hr
  clear hsl hst hv ht hr
  have x0 : ((s[k].toNat : Int) == 39) = false := by simp; omega
  have x1 : ((s[k].toNat : Int) == 120) = false := by simp; omega
  have x2 : ((s[k].toNat : Int) == 88) = false := by simp; omega
  have HDIG := Lib.hid hdg
  clear hl hdg hdi hT hd hh hm hn0 hml he
  go_enter Try.func21, Try.ntmps21
  go_wp2_with fail
  refine (refdigit_any _ _).mono ?_
  rintro e w' ⟨rfl, rfl⟩
  rw [HDIG.out]
  go_wp2_with fail
  refine (run_dig s k _ hs (by omega)).mono ?_
  rintro e w' ⟨rfl, rfl⟩
  rw [← HM.out]
  go_wp2_with fail
  rw [HS.out]
  refine (rread_any _ _ HST.out).mono ?_
  rintro e w' ⟨rfl, rfl⟩
  rw [Lx.ls_bs, ← HV.out]
  have hs1 := HS.out
  go_wp2
  refine bodyPost_agg1 (B := w.heap.size) Try.results21 Try.underlying33 (by kernel_rfl) rfl (heap_alloc_new w _) rfl ⟨?_, by (repeat (first | with_reducible exact Below.refl _ _ | with_reducible assumption | with_reducible refine Below.drew ?_ | with_reducible refine below_drewN ?_ _ | with_reducible refine below_al ?_ _ | with_reducible refine Below.setCell ?_ ?_ _ | exact Nat.le_refl _ | omega | (simp; done) | (simp; omega)))⟩
  by_cases he : v.2 = 0
  · refine OneE_ok (by rw [HR.out, if_pos he]) ?_
    rw [HR.out, if_pos he]
    show Ending.returned (.tuple #[_, .int .i64 v.2]) = _
    rw [he]
    rfl
  · have e1 : r.1 = v.2 := by rw [HR.out, if_neg he]; rfl
    refine ⟨⟨3, t, (1, v.1, [])⟩, (k : Int), ?_, fun h => absurd (e1.symm.trans h) he⟩
    rw [e1]
    rfl
theorem blob_guard {s : ByteArray} {k : Nat} (hk : k < s.size) (hb : Lx.isBlob (Lx.suf s k) = false) :
    (((s[k].toNat : Int) == 120) = false ∧ ((s[k].toNat : Int) == 88) = false) ∨ (((s[k].toNat : Int) == 120) = true ∧ decide ((k : Int) + 1 < (s.size : Int)) = false) ∨
    (((s[k].toNat : Int) == 120) = true ∧ decide ((k : Int) + 1 < (s.size : Int)) = true ∧ ∃ h : k + 1 < s.size, ((s[k + 1].toNat : Int) == 39) = false) ∨
    (((s[k].toNat : Int) == 120) = false ∧ ((s[k].toNat : Int) == 88) = true ∧ decide ((k : Int) + 1 < (s.size : Int)) = false) ∨
    (((s[k].toNat : Int) == 120) = false ∧ ((s[k].toNat : Int) == 88) = true ∧ decide ((k : Int) + 1 < (s.size : Int)) = true ∧ ∃ h : k + 1 < s.size, ((s[k + 1].toNat : Int) == 39) = false) := by
  by_cases h1 : s[k].toNat = 120 ∨ s[k].toNat = 88
  · by_cases h2 : k + 1 < s.size
    · have h3 : s[k + 1].toNat ≠ 39 := fun h => by rw [Lx.isBlob_yes h2 h1 h] at hb; cases hb
      have f3 : ((s[k + 1].toNat : Int) == 39) = false := by simp; omega
      have f2 : decide ((k : Int) + 1 < (s.size : Int)) = true := decide_eq_true (by omega)
      rcases h1 with h1 | h1
      · exact .inr (.inr (.inl ⟨by rw [h1]; rfl, f2, h2, f3⟩))
      · exact .inr (.inr (.inr (.inr ⟨by rw [h1]; rfl, by rw [h1]; rfl, f2, h2, f3⟩)))
    · have f2 : decide ((k : Int) + 1 < (s.size : Int)) = false := decide_eq_false (by omega)
      rcases h1 with h1 | h1
      · exact .inr (.inl ⟨by rw [h1]; rfl, f2⟩)
      · exact .inr (.inr (.inr (.inl ⟨by rw [h1]; rfl, by rw [h1]; rfl, f2⟩)))
  · exact .inl ⟨by simp; omega, by simp; omega⟩
set_option maxHeartbeats 2000000 in
theorem one_name_word (s : ByteArray) (k : Nat) (w : World) (hs : s.size ≤ 1000000000) (hk : k < s.size) (hl : Lx.let_ s[k] = true) (hb : Lx.isBlob (Lx.suf s k) = false) (hw : Lx.isW ((Lx.suf s k).take (Lx.many Lx.nam (Lx.suf s k))) = true) :
    Calls Try.prog 21 #[.string s, .int .i64 k] w fun e w' => OneE (Lx.tok (Lx.suf s k)) k e ∧ Below w.heap.size w w' := by
  have hT : Lx.tok (Lx.suf s k) = Lx.nameT (Lx.suf s k) (Lx.many Lx.nam (Lx.suf s k)) := by
    have hb' := hb
    rw [Lx.suf_cons hk] at hb' ⊢
    rw [Lx.tok]
    simp only [hl, if_true, hb', Bool.false_eq_true, if_false]
  rw [hT, Lx.nameT]
  have hli : (65 ≤ s[k].toNat ∧ s[k].toNat ≤ 90) ∨ (97 ≤ s[k].toNat ∧ s[k].toNat ≤ 122) ∨ s[k].toNat = 95 := by
    unfold Lx.let_ at hl; simp at hl; omega
  have dd := blob_guard hk hb
  have x0 : ((s[k].toNat : Int) == 39) = false := by simp; omega
  have hdg : Lx.dig s[k] = false := Lx.dig_not.2 (by omega)
  have HDIG := Lib.hid hdg
  clear hli hdg
  have hml := Lx.many_le Lx.nam (Lx.suf s k)
  rw [Lx.suf_length] at hml
  obtain ⟨n, hn0⟩ : ∃ n, n = Lx.many Lx.nam (Lx.suf s k) := ⟨_, rfl⟩
  rw [← hn0] at hw hml ⊢
  obtain ⟨m, hm⟩ : ∃ m, m = k + n := ⟨_, rfl⟩
  have HM : Hid (m = k + Lx.many Lx.nam (Lx.suf s k)) := by unfold Hid; rw [hm, hn0]
  have hm1 : k ≤ m := by omega
  have hm2 : m ≤ s.size := by omega
  have hsl : s.extract k m = Lx.bs ((Lx.suf s k).take n) := by rw [Lx.extract_bs, hm, Nat.add_sub_cancel_left]; rfl
  have htl : ((Lx.suf s k).take n).length = n := by rw [List.length_take, Lx.suf_length]; omega
  obtain ⟨t, ht⟩ : ∃ t, t = (Lx.suf s k).take n := ⟨_, rfl⟩
  rw [← ht] at hsl htl hw ⊢
  have hst : (Lx.bs t).size ≤ 1000000000 := by rw [Lx.bs_size, htl]; omega
  have HS := Lib.hid hsl
  have HST := Lib.hid hst
  have HW := Lib.hid hw
  have HLET := Lib.hid hl
  rw [if_pos hw]
  clear hl hb hT hn0 hm hsl htl hst hw ht hml
  rcases dd with ⟨g1, g2⟩ | ⟨g1, g2⟩ | ⟨g1, g2, h1, g3⟩ | ⟨g1, g2, g3⟩ | ⟨g1, g2, g3, h1, g4⟩
  all_goals
    go_enter Try.func21, Try.ntmps21
    go_wp2_with fail
    refine (refdigit_any _ _).mono ?_
    rintro e w' ⟨rfl, rfl⟩
    rw [HDIG.out]
    go_wp2_with fail
    refine (refletter_any _ _).mono ?_
    rintro e w' ⟨rfl, rfl⟩
    rw [HLET.out]
    go_wp2_with fail
    refine (run_nam s k _ hs (by omega)).mono ?_
    rintro e w' ⟨rfl, rfl⟩
    rw [← HM.out]
    go_wp2_with fail
    rw [HS.out]
    refine (rword_any _ _ HST.out).mono ?_
    rintro e w1 ⟨rfl, hb1⟩
    rw [Lx.ls_bs, HW.out]
    have hB1 := below_next (w := w) (by (repeat (first | with_reducible exact Below.refl _ _ | with_reducible assumption | with_reducible refine Below.drew ?_ | with_reducible refine below_drewN ?_ _ | with_reducible refine below_al ?_ _ | with_reducible refine Below.setCell ?_ ?_ _ | exact Nat.le_refl _ | omega | (simp; done) | (simp; omega)))) hb1; obtain ⟨hc1, hf1⟩ := bcell hb1
    have K0 := blk_next (heap_alloc_new w _) hb1
    go_wp2_with fail
    refine (rfold_any _ _ HST.out).mono ?_
    rintro e w2 ⟨rfl, hb2⟩
    rw [Lx.ls_bs]
    have hB2 := below_next (w := w) (by (repeat (first | with_reducible exact Below.refl _ _ | with_reducible assumption | with_reducible refine Below.drew ?_ | with_reducible refine below_drewN ?_ _ | with_reducible refine below_al ?_ _ | with_reducible refine Below.setCell ?_ ?_ _ | exact Nat.le_refl _ | omega | (simp; done) | (simp; omega)))) hb2; obtain ⟨hc2, hf2⟩ := bcell hb2
    have K0 := blk_next K0 hb2
    clear hc2 hf2
    have K1 := K0
    have K1' := K1
    obtain ⟨c, f⟩ := blk_cells K1; have c0 := c 0 _ rfl; have c1 := c 1 _ rfl; have c2 := c 2 _ rfl; have c3 := c 3 _ rfl; have c4 := c 4 _ rfl; have c5 := c 5 _ rfl; have f0 := f 0; have f1 := f 1; have f2 := f 2; have f3 := f 3; have f4 := f 4; have f5 := f 5; clear c f
    clear K1
    clear hc1 hf1
    go_wp2
    refine bodyPost_agg1 (B := w.heap.size) Try.results21 Try.underlying33 (by kernel_rfl) rfl (stored6 K1' _ _ _ _ _ _) rfl ⟨?_, by (repeat (first | with_reducible exact Below.refl _ _ | with_reducible assumption | with_reducible refine Below.drew ?_ | with_reducible refine below_drewN ?_ _ | with_reducible refine below_al ?_ _ | with_reducible refine Below.setCell ?_ ?_ _ | exact Nat.le_refl _ | omega | (simp; done) | (simp; omega)))⟩
    exact OneE_ok rfl rfl
set_option maxHeartbeats 2000000 in
theorem one_name_long (s : ByteArray) (k : Nat) (w : World) (hs : s.size ≤ 1000000000) (hk : k < s.size) (hl : Lx.let_ s[k] = true) (hb : Lx.isBlob (Lx.suf s k) = false) (hw : Lx.isW ((Lx.suf s k).take (Lx.many Lx.nam (Lx.suf s k))) = false) (hn : 32 < Lx.many Lx.nam (Lx.suf s k)) :
    Calls Try.prog 21 #[.string s, .int .i64 k] w fun e w' => OneE (Lx.tok (Lx.suf s k)) k e ∧ Below w.heap.size w w' := by
  have hT : Lx.tok (Lx.suf s k) = Lx.nameT (Lx.suf s k) (Lx.many Lx.nam (Lx.suf s k)) := by
    have hb' := hb
    rw [Lx.suf_cons hk] at hb' ⊢
    rw [Lx.tok]
    simp only [hl, if_true, hb', Bool.false_eq_true, if_false]
  rw [hT, Lx.nameT]
  have hli : (65 ≤ s[k].toNat ∧ s[k].toNat ≤ 90) ∨ (97 ≤ s[k].toNat ∧ s[k].toNat ≤ 122) ∨ s[k].toNat = 95 := by
    unfold Lx.let_ at hl; simp at hl; omega
  have dd := blob_guard hk hb
  have x0 : ((s[k].toNat : Int) == 39) = false := by simp; omega
  have hdg : Lx.dig s[k] = false := Lx.dig_not.2 (by omega)
  have HDIG := Lib.hid hdg
  clear hli hdg
  have hml := Lx.many_le Lx.nam (Lx.suf s k)
  rw [Lx.suf_length] at hml
  obtain ⟨n, hn0⟩ : ∃ n, n = Lx.many Lx.nam (Lx.suf s k) := ⟨_, rfl⟩
  rw [← hn0] at hw hml ⊢
  rw [← hn0] at hn
  obtain ⟨m, hm⟩ : ∃ m, m = k + n := ⟨_, rfl⟩
  have HM : Hid (m = k + Lx.many Lx.nam (Lx.suf s k)) := by unfold Hid; rw [hm, hn0]
  have hm1 : k ≤ m := by omega
  have hm2 : m ≤ s.size := by omega
  have hsl : s.extract k m = Lx.bs ((Lx.suf s k).take n) := by rw [Lx.extract_bs, hm, Nat.add_sub_cancel_left]; rfl
  have htl : ((Lx.suf s k).take n).length = n := by rw [List.length_take, Lx.suf_length]; omega
  obtain ⟨t, ht⟩ : ∃ t, t = (Lx.suf s k).take n := ⟨_, rfl⟩
  rw [← ht] at hsl htl hw ⊢
  have hst : (Lx.bs t).size ≤ 1000000000 := by rw [Lx.bs_size, htl]; omega
  have HS := Lib.hid hsl
  have HST := Lib.hid hst
  have HW := Lib.hid hw
  have HLET := Lib.hid hl
  rw [if_neg (by rw [hw]; decide), if_pos hn]
  have d1 : decide (32 < (t.length : Int)) = true := decide_eq_true (by omega)
  clear hl hb hT hn0 hm hsl htl hst hw ht hml hn
  rcases dd with ⟨g1, g2⟩ | ⟨g1, g2⟩ | ⟨g1, g2, h1, g3⟩ | ⟨g1, g2, g3⟩ | ⟨g1, g2, g3, h1, g4⟩
  all_goals
    go_enter Try.func21, Try.ntmps21
    go_wp2_with fail
    refine (refdigit_any _ _).mono ?_
    rintro e w' ⟨rfl, rfl⟩
    rw [HDIG.out]
    go_wp2_with fail
    refine (refletter_any _ _).mono ?_
    rintro e w' ⟨rfl, rfl⟩
    rw [HLET.out]
    go_wp2_with fail
    refine (run_nam s k _ hs (by omega)).mono ?_
    rintro e w' ⟨rfl, rfl⟩
    rw [← HM.out]
    go_wp2_with fail
    rw [HS.out]
    refine (rword_any _ _ HST.out).mono ?_
    rintro e w1 ⟨rfl, hb1⟩
    rw [Lx.ls_bs, HW.out]
    have hB1 := below_next (w := w) (by (repeat (first | with_reducible exact Below.refl _ _ | with_reducible assumption | with_reducible refine Below.drew ?_ | with_reducible refine below_drewN ?_ _ | with_reducible refine below_al ?_ _ | with_reducible refine Below.setCell ?_ ?_ _ | exact Nat.le_refl _ | omega | (simp; done) | (simp; omega)))) hb1; obtain ⟨hc1, hf1⟩ := bcell hb1
    have K0 := blk_next (heap_alloc_new w _) hb1
    have K1 := K0
    have K1' := K1
    obtain ⟨c, f⟩ := blk_cells K1; have c0 := c 0 _ rfl; have c1 := c 1 _ rfl; have c2 := c 2 _ rfl; have c3 := c 3 _ rfl; have c4 := c 4 _ rfl; have c5 := c 5 _ rfl; have f0 := f 0; have f1 := f 1; have f2 := f 2; have f3 := f 3; have f4 := f 4; have f5 := f 5; clear c f
    clear K1
    clear hc1 hf1
    go_wp2
    refine bodyPost_agg1 (B := w.heap.size) Try.results21 Try.underlying33 (by kernel_rfl) rfl (stored6 K1' _ _ _ _ _ _) rfl ⟨?_, by (repeat (first | with_reducible exact Below.refl _ _ | with_reducible assumption | with_reducible refine Below.drew ?_ | with_reducible refine below_drewN ?_ _ | with_reducible refine below_al ?_ _ | with_reducible refine Below.setCell ?_ ?_ _ | exact Nat.le_refl _ | omega | (simp; done) | (simp; omega)))⟩
    exact OneE_bad0 (by decide) rfl
set_option maxHeartbeats 2000000 in
theorem one_name_plain (s : ByteArray) (k : Nat) (w : World) (hs : s.size ≤ 1000000000) (hk : k < s.size) (hl : Lx.let_ s[k] = true) (hb : Lx.isBlob (Lx.suf s k) = false) (hw : Lx.isW ((Lx.suf s k).take (Lx.many Lx.nam (Lx.suf s k))) = false) (hn : ¬ 32 < Lx.many Lx.nam (Lx.suf s k)) :
    Calls Try.prog 21 #[.string s, .int .i64 k] w fun e w' => OneE (Lx.tok (Lx.suf s k)) k e ∧ Below w.heap.size w w' := by
  have hT : Lx.tok (Lx.suf s k) = Lx.nameT (Lx.suf s k) (Lx.many Lx.nam (Lx.suf s k)) := by
    have hb' := hb
    rw [Lx.suf_cons hk] at hb' ⊢
    rw [Lx.tok]
    simp only [hl, if_true, hb', Bool.false_eq_true, if_false]
  rw [hT, Lx.nameT]
  have hli : (65 ≤ s[k].toNat ∧ s[k].toNat ≤ 90) ∨ (97 ≤ s[k].toNat ∧ s[k].toNat ≤ 122) ∨ s[k].toNat = 95 := by
    unfold Lx.let_ at hl; simp at hl; omega
  have dd := blob_guard hk hb
  have x0 : ((s[k].toNat : Int) == 39) = false := by simp; omega
  have hdg : Lx.dig s[k] = false := Lx.dig_not.2 (by omega)
  have HDIG := Lib.hid hdg
  clear hli hdg
  have hml := Lx.many_le Lx.nam (Lx.suf s k)
  rw [Lx.suf_length] at hml
  obtain ⟨n, hn0⟩ : ∃ n, n = Lx.many Lx.nam (Lx.suf s k) := ⟨_, rfl⟩
  rw [← hn0] at hw hml ⊢
  rw [← hn0] at hn
  obtain ⟨m, hm⟩ : ∃ m, m = k + n := ⟨_, rfl⟩
  have HM : Hid (m = k + Lx.many Lx.nam (Lx.suf s k)) := by unfold Hid; rw [hm, hn0]
  have hm1 : k ≤ m := by omega
  have hm2 : m ≤ s.size := by omega
  have hsl : s.extract k m = Lx.bs ((Lx.suf s k).take n) := by rw [Lx.extract_bs, hm, Nat.add_sub_cancel_left]; rfl
  have htl : ((Lx.suf s k).take n).length = n := by rw [List.length_take, Lx.suf_length]; omega
  obtain ⟨t, ht⟩ : ∃ t, t = (Lx.suf s k).take n := ⟨_, rfl⟩
  rw [← ht] at hsl htl hw ⊢
  have hst : (Lx.bs t).size ≤ 1000000000 := by rw [Lx.bs_size, htl]; omega
  have HS := Lib.hid hsl
  have HST := Lib.hid hst
  have HW := Lib.hid hw
  have HLET := Lib.hid hl
  rw [if_neg (by rw [hw]; decide), if_neg hn]
  have d1 : decide (32 < (t.length : Int)) = false := decide_eq_false (by omega)
  clear hl hb hT hn0 hm hsl htl hst hw ht hml hn
  rcases dd with ⟨g1, g2⟩ | ⟨g1, g2⟩ | ⟨g1, g2, h1, g3⟩ | ⟨g1, g2, g3⟩ | ⟨g1, g2, g3, h1, g4⟩
  all_goals
    go_enter Try.func21, Try.ntmps21
    go_wp2_with fail
    refine (refdigit_any _ _).mono ?_
    rintro e w' ⟨rfl, rfl⟩
    rw [HDIG.out]
    go_wp2_with fail
    refine (refletter_any _ _).mono ?_
    rintro e w' ⟨rfl, rfl⟩
    rw [HLET.out]
    go_wp2_with fail
    refine (run_nam s k _ hs (by omega)).mono ?_
    rintro e w' ⟨rfl, rfl⟩
    rw [← HM.out]
    go_wp2_with fail
    rw [HS.out]
    refine (rword_any _ _ HST.out).mono ?_
    rintro e w1 ⟨rfl, hb1⟩
    rw [Lx.ls_bs, HW.out]
    have hB1 := below_next (w := w) (by (repeat (first | with_reducible exact Below.refl _ _ | with_reducible assumption | with_reducible refine Below.drew ?_ | with_reducible refine below_drewN ?_ _ | with_reducible refine below_al ?_ _ | with_reducible refine Below.setCell ?_ ?_ _ | exact Nat.le_refl _ | omega | (simp; done) | (simp; omega)))) hb1; obtain ⟨hc1, hf1⟩ := bcell hb1
    have K0 := blk_next (heap_alloc_new w _) hb1
    have K1 := K0
    have K1' := K1
    obtain ⟨c, f⟩ := blk_cells K1; have c0 := c 0 _ rfl; have c1 := c 1 _ rfl; have c2 := c 2 _ rfl; have c3 := c 3 _ rfl; have c4 := c 4 _ rfl; have c5 := c 5 _ rfl; have f0 := f 0; have f1 := f 1; have f2 := f 2; have f3 := f 3; have f4 := f 4; have f5 := f 5; clear c f
    clear K1
    clear hc1 hf1
    go_wp2
    refine bodyPost_agg1 (B := w.heap.size) Try.results21 Try.underlying33 (by kernel_rfl) rfl (stored6 K1' _ _ _ _ _ _) rfl ⟨?_, by (repeat (first | with_reducible exact Below.refl _ _ | with_reducible assumption | with_reducible refine Below.drew ?_ | with_reducible refine below_drewN ?_ _ | with_reducible refine below_al ?_ _ | with_reducible refine Below.setCell ?_ ?_ _ | exact Nat.le_refl _ | omega | (simp; done) | (simp; omega)))⟩
    exact OneE_ok rfl rfl
set_option maxHeartbeats 1000000 in
theorem one_mark_none (s : ByteArray) (k : Nat) (w : World) (hs : s.size ≤ 1000000000) (hk : k < s.size) (hl : Lx.let_ s[k] = false) (hdg : Lx.dig s[k] = false) (hc : s[k].toNat ≠ 39) (hz : Lx.markN (Lx.suf s k) = 0) :
    Calls Try.prog 21 #[.string s, .int .i64 k] w fun e w' => OneE (Lx.tok (Lx.suf s k)) k e ∧ Below w.heap.size w w' := by
  have hT : Lx.tok (Lx.suf s k) = Lx.markT (Lx.suf s k) := by
    have hq : (s[k] == 39) = false := by simp [Lx.beq_nat, hc]
    rw [Lx.suf_cons hk, Lx.tok]
    simp only [hl, hdg, hq, Bool.false_eq_true, if_false]
  rw [hT, Lx.markT]
  have hms := Lx.markS_eq (Lx.suf s k)
  have hli : ¬ (65 ≤ s[k].toNat ∧ s[k].toNat ≤ 90) ∧ ¬ (97 ≤ s[k].toNat ∧ s[k].toNat ≤ 122) := by
    rw [← Bool.not_eq_true] at hl
    unfold Lx.let_ at hl
    simp only [Bool.or_eq_true, Bool.and_eq_true, decide_eq_true_eq] at hl
    omega
  rw [if_pos hz]
  rw [hz] at hms
  obtain ⟨M, hM⟩ : ∃ M, M = Lx.markS (Lx.suf s k) := ⟨_, rfl⟩
  have hM0 : (Lx.bs M).toList.isEmpty = true := by rw [Lx.bs_toList, hM, hms]; rfl
  have HMM := Lib.hid hM
  have x0 : ((s[k].toNat : Int) == 39) = false := by simp; omega
  have x1 : ((s[k].toNat : Int) == 120) = false := by simp; omega
  have x2 : ((s[k].toNat : Int) == 88) = false := by simp; omega
  have HLET := Lib.hid hl
  have HDIG := Lib.hid hdg
  clear hl hdg hT hc hz hli hms hM
  go_enter Try.func21, Try.ntmps21
  go_wp2_with fail
  refine (refdigit_any _ _).mono ?_
  rintro e w' ⟨rfl, rfl⟩
  rw [HDIG.out]
  go_wp2_with fail
  refine (refletter_any _ _).mono ?_
  rintro e w' ⟨rfl, rfl⟩
  rw [HLET.out]
  go_wp2_with fail
  refine (mark_any s k _ hs hk).mono ?_
  rintro e w1 ⟨rfl, hb1⟩
  rw [← HMM.out]
  have hB1 := below_next (w := w) (by (repeat (first | with_reducible exact Below.refl _ _ | with_reducible assumption | with_reducible refine Below.drew ?_ | with_reducible refine below_drewN ?_ _ | with_reducible refine below_al ?_ _ | with_reducible refine Below.setCell ?_ ?_ _ | exact Nat.le_refl _ | omega | (simp; done) | (simp; omega)))) hb1; obtain ⟨hc1, hf1⟩ := bcell hb1
  have K0 := blk_next (heap_alloc_new w _) hb1
  have K1 := K0
  have K1' := K1
  obtain ⟨c, f⟩ := blk_cells K1; have c0 := c 0 _ rfl; have c1 := c 1 _ rfl; have c2 := c 2 _ rfl; have c3 := c 3 _ rfl; have c4 := c 4 _ rfl; have c5 := c 5 _ rfl; have f0 := f 0; have f1 := f 1; have f2 := f 2; have f3 := f 3; have f4 := f 4; have f5 := f 5; clear c f
  clear K1
  clear hc1 hf1
  go_wp2
  refine bodyPost_agg1 (B := w.heap.size) Try.results21 Try.underlying33 (by kernel_rfl) rfl (stored6 K1' _ _ _ _ _ _) rfl ⟨?_, by (repeat (first | with_reducible exact Below.refl _ _ | with_reducible assumption | with_reducible refine Below.drew ?_ | with_reducible refine below_drewN ?_ _ | with_reducible refine below_al ?_ _ | with_reducible refine Below.setCell ?_ ?_ _ | exact Nat.le_refl _ | omega | (simp; done) | (simp; omega)))⟩
  exact OneE_bad0 (by decide) rfl
set_option maxHeartbeats 1000000 in
theorem one_mark_some (s : ByteArray) (k : Nat) (w : World) (hs : s.size ≤ 1000000000) (hk : k < s.size) (hl : Lx.let_ s[k] = false) (hdg : Lx.dig s[k] = false) (hc : s[k].toNat ≠ 39) (hz : Lx.markN (Lx.suf s k) ≠ 0) :
    Calls Try.prog 21 #[.string s, .int .i64 k] w fun e w' => OneE (Lx.tok (Lx.suf s k)) k e ∧ Below w.heap.size w w' := by
  have hT : Lx.tok (Lx.suf s k) = Lx.markT (Lx.suf s k) := by
    have hq : (s[k] == 39) = false := by simp [Lx.beq_nat, hc]
    rw [Lx.suf_cons hk, Lx.tok]
    simp only [hl, hdg, hq, Bool.false_eq_true, if_false]
  rw [hT, Lx.markT]
  have hms := Lx.markS_eq (Lx.suf s k)
  have hli : ¬ (65 ≤ s[k].toNat ∧ s[k].toNat ≤ 90) ∧ ¬ (97 ≤ s[k].toNat ∧ s[k].toNat ≤ 122) := by
    rw [← Bool.not_eq_true] at hl
    unfold Lx.let_ at hl
    simp only [Bool.or_eq_true, Bool.and_eq_true, decide_eq_true_eq] at hl
    omega
  rw [if_neg hz]
  obtain ⟨M, hM⟩ : ∃ M, M = Lx.markS (Lx.suf s k) := ⟨_, rfl⟩
  have hM0 : (Lx.bs M).toList.isEmpty = false := by
    rw [Lx.bs_toList, hM, hms]
    have hle := Lx.markN_le (Lx.suf s k)
    cases h : (Lx.suf s k).take (Lx.markN (Lx.suf s k)) with
    | nil => have h2 := congrArg List.length h; rw [List.length_take, List.length_nil] at h2; omega
    | cons a b => rfl
  rw [← hms, ← hM]
  have HMM := Lib.hid hM
  have x0 : ((s[k].toNat : Int) == 39) = false := by simp; omega
  have x1 : ((s[k].toNat : Int) == 120) = false := by simp; omega
  have x2 : ((s[k].toNat : Int) == 88) = false := by simp; omega
  have HLET := Lib.hid hl
  have HDIG := Lib.hid hdg
  clear hl hdg hT hc hz hli hms hM
  go_enter Try.func21, Try.ntmps21
  go_wp2_with fail
  refine (refdigit_any _ _).mono ?_
  rintro e w' ⟨rfl, rfl⟩
  rw [HDIG.out]
  go_wp2_with fail
  refine (refletter_any _ _).mono ?_
  rintro e w' ⟨rfl, rfl⟩
  rw [HLET.out]
  go_wp2_with fail
  refine (mark_any s k _ hs hk).mono ?_
  rintro e w1 ⟨rfl, hb1⟩
  rw [← HMM.out]
  have hB1 := below_next (w := w) (by (repeat (first | with_reducible exact Below.refl _ _ | with_reducible assumption | with_reducible refine Below.drew ?_ | with_reducible refine below_drewN ?_ _ | with_reducible refine below_al ?_ _ | with_reducible refine Below.setCell ?_ ?_ _ | exact Nat.le_refl _ | omega | (simp; done) | (simp; omega)))) hb1; obtain ⟨hc1, hf1⟩ := bcell hb1
  have K0 := blk_next (heap_alloc_new w _) hb1
  have K1 := K0
  have K1' := K1
  obtain ⟨c, f⟩ := blk_cells K1; have c0 := c 0 _ rfl; have c1 := c 1 _ rfl; have c2 := c 2 _ rfl; have c3 := c 3 _ rfl; have c4 := c 4 _ rfl; have c5 := c 5 _ rfl; have f0 := f 0; have f1 := f 1; have f2 := f 2; have f3 := f 3; have f4 := f 4; have f5 := f 5; clear c f
  clear K1
  clear hc1 hf1
  go_wp2
  refine bodyPost_agg1 (B := w.heap.size) Try.results21 Try.underlying33 (by kernel_rfl) rfl (stored6 K1' _ _ _ _ _ _) rfl ⟨?_, by (repeat (first | with_reducible exact Below.refl _ _ | with_reducible assumption | with_reducible refine Below.drew ?_ | with_reducible refine below_drewN ?_ _ | with_reducible refine below_al ?_ _ | with_reducible refine Below.setCell ?_ ?_ _ | exact Nat.le_refl _ | omega | (simp; done) | (simp; omega)))⟩
  exact OneE_ok rfl rfl
theorem one_any (s : ByteArray) (k : Nat) (w : World) (hs : s.size ≤ 1000000000) (hk : k < s.size) :
    Calls Try.prog 21 #[.string s, .int .i64 k] w fun e w' => OneE (Lx.tok (Lx.suf s k)) k e ∧ Below w.heap.size w w' := by
  by_cases hc : s[k].toNat = 39
  · cases hq : Lx.qEnd (Lx.suf s (k + 1)) with
    | none => exact one_quo_none s k w hs hk hc hq
    | some q =>
      have hql := Lx.qEnd_le _ q hq
      rw [Lx.suf_length] at hql
      exact one_quo_some s k w hs hk hc (q + 1) (by rw [hq]; rfl) (by omega)
  · by_cases hl : Lx.let_ s[k] = true
    · cases hb : Lx.isBlob (Lx.suf s k) with
      | true =>
        have h2 : k + 1 < s.size ∧ (s[k].toNat = 120 ∨ s[k].toNat = 88) := by
          by_cases h3 : k + 1 < s.size
          · refine ⟨h3, ?_⟩
            by_cases h4 : s[k].toNat = 120 ∨ s[k].toNat = 88
            · exact h4
            · rw [Lx.isBlob_no hk (.inl (by omega))] at hb; cases hb
          · rw [Lx.isBlob_no hk (.inr (fun h => absurd h h3))] at hb; cases hb
        obtain ⟨h2, h4⟩ := h2
        have h39 : s[k + 1].toNat = 39 := by
          by_cases h5 : s[k + 1].toNat = 39
          · exact h5
          · rw [Lx.isBlob_no hk (.inr (fun _ => h5))] at hb; cases hb
        cases hq : Lx.bEnd (Lx.suf s (k + 2)) with
        | none => exact one_blob_none s k w hs hk h4 h2 h39 hq
        | some q =>
          have hql : q ≤ s.size - (k + 2) := by
            unfold Lx.bEnd at hq
            rw [Lx.suf_length] at hq
            split at hq
            · simp at hq; omega
            · cases hq
          exact one_blob_some s k w hs hk h4 h2 h39 (q + 2) (by rw [hq]; rfl) (by omega)
      | false =>
        by_cases hw : Lx.isW ((Lx.suf s k).take (Lx.many Lx.nam (Lx.suf s k))) = true
        · exact one_name_word s k w hs hk hl hb hw
        · have hw : Lx.isW ((Lx.suf s k).take (Lx.many Lx.nam (Lx.suf s k))) = false := by simpa using hw
          by_cases hn : 32 < Lx.many Lx.nam (Lx.suf s k)
          · exact one_name_long s k w hs hk hl hb hw hn
          · exact one_name_plain s k w hs hk hl hb hw hn
    · have hl : Lx.let_ s[k] = false := by simpa using hl
      by_cases hdg : Lx.dig s[k] = true
      · have hml := Lx.many_le Lx.dig (Lx.suf s k)
        rw [Lx.suf_length] at hml
        by_cases he : k + Lx.many Lx.dig (Lx.suf s k) < s.size
        · by_cases hle : Lx.let_ s[k + Lx.many Lx.dig (Lx.suf s k)] = true
          · exact one_num_letter s k w hs hk hdg _ rfl he hle
          · exact one_num_ok s k w hs hk hdg _ rfl he (by simpa using hle)
        · exact one_num_ok_end s k w hs hk hdg _ rfl (by omega)
      · have hdg : Lx.dig s[k] = false := by simpa using hdg
        by_cases hz : Lx.markN (Lx.suf s k) = 0
        · exact one_mark_none s k w hs hk hl hdg hc hz
        · exact one_mark_some s k w hs hk hl hdg hc hz
end Go.Proofs.Ytepdpdlakgnpmaa
