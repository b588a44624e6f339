import Derived.Test.YtepdpdlakgnpmaaLexB
import Derived.Test.YtepdpdlakgnpmaaLexC
import Derived.Test.YtepdpdlakgnpmaaLexD
set_option linter.unusedVariables false
set_option linter.unusedSimpArgs false
namespace Go.Proofs.Ytepdpdlakgnpmaa
open Go.RowKit
attribute [local simp] Lx.bs_size
theorem tokE_ok {r : Lx.TR} {k : Nat} (h : r.1 = 0) : tokE r k = .returned (.tuple #[.agg #[.int .i64 r.2.1.kind, .string (Lx.bs r.2.1.text), .int .i64 r.2.1.val.1, .int .i64 r.2.1.val.2.1, .string (Lx.bs r.2.1.val.2.2), .int .i64 k], .int .i64 ((k + r.2.2 : Nat) : Int), .int .i64 0]) := by
  simp [tokE, tokV, h]
theorem tokE_bad {r : Lx.TR} {k : Nat} (h : r.1 ≠ 0) : tokE r k = .returned (.tuple #[.agg #[.int .i64 0, .string ⟨#[]⟩, .int .i64 0, .int .i64 0, .string ⟨#[]⟩, .int .i64 0], .int .i64 0, .int .i64 r.1]) := by
  simp [tokE, tok0, h]
theorem lvalue_at (s : ByteArray) (k n : Nat) (x : Int) (w : World) (hs : s.size ≤ 1000000000) (hn : k + n ≤ s.size) (hx : x = ((k + n : Nat) : Int)) :
    Calls Try.prog 27 #[.string s, .int .i64 k, .int .i64 x] w fun e w' => e = tokE (Lx.valT (Lx.suf s k) n) k ∧ Below w.heap.size w w' := by
  subst hx
  exact lvalue_any s k n w hs hn
set_option maxHeartbeats 1000000 in
theorem token_blob_none (s : ByteArray) (k : Nat) (w : World) (hs : s.size ≤ 1000000000) (hk : k < s.size) (hl : Lx.let_ s[k] = true) (hb : Lx.isBlob (Lx.suf s k) = true) (hm : s.size ≤ k + 2 + Lx.many Lx.noq (Lx.suf s (k + 2))) :
    Calls Try.prog 19 #[.string s, .int .i64 k] w fun e w' => e = tokE (Lx.tok (Lx.suf s k)) k ∧ Below w.heap.size w w' := by
  have hT : Lx.tok (Lx.suf s k) = Lx.bad 8 := by
    have hd : (Lx.suf s k).drop 2 = Lx.suf s (k + 2) := by rw [Lx.suf_eq, Lx.suf_eq, List.drop_drop]
    have hb' := hb
    rw [Lx.suf_cons hk] at hb' hd ⊢
    rw [Lx.tok]
    simp only [hl, if_true, hb', hd]
    rw [Lx.bEnd, Lx.suf_length]
    rw [if_neg (by omega)]; rfl
  rw [hT]
  have HLET := Lib.hid hl
  have HB := Lib.hid hb
  obtain ⟨m, hm2⟩ : ∃ m, m = Lx.many Lx.noq (Lx.suf s (k + 2)) := ⟨_, rfl⟩
  rw [← hm2] at hm
  have HM := Lib.hid hm2
  have d1 : decide ((s.size : Int) < (((k + 2 + m + 1 : Nat)) : Int)) = true := decide_eq_true (by omega)
  have hmx := Lx.many_le Lx.noq (Lx.suf s (k + 2))
  rw [← hm2, Lx.suf_length] at hmx
  clear hl hb hT hm2
  go_enter Try.func19, Try.ntmps19
  go_wp2_with fail
  refine (letter_any _ _).mono ?_
  rintro e w' ⟨rfl, rfl⟩
  rw [HLET.out]
  go_wp2_with fail
  refine (blob_any s k _ hs hk).mono ?_
  rintro e w' ⟨rfl, rfl⟩
  rw [HB.out, if_pos rfl, ← HM.out]
  unfold endE
  go_wp2
  refine bodyPost_agg2 (B := w.heap.size) Try.results19 Try.underlying33 (by kernel_rfl) rfl (heap_alloc_new w _) rfl ⟨?_, by (repeat (first | with_reducible exact Below.refl _ _ | with_reducible assumption | with_reducible refine Below.drew ?_ | with_reducible refine below_drewN ?_ _ | with_reducible refine below_al ?_ _ | with_reducible refine Below.setCell ?_ ?_ _ | exact Nat.le_refl _ | omega | (simp; done) | (simp; omega)))⟩
  rw [tokE_bad (by decide)]; rfl
set_option maxHeartbeats 1000000 in
theorem token_blob_ok (s : ByteArray) (k : Nat) (w : World) (hs : s.size ≤ 1000000000) (hk : k < s.size) (hl : Lx.let_ s[k] = true) (hb : Lx.isBlob (Lx.suf s k) = true) (n : Nat) (hm : n = 2 + Lx.many Lx.noq (Lx.suf s (k + 2)) + 1) (hn : k + n ≤ s.size) (he : (Lx.valT (Lx.suf s k) n).1 = 0) :
    Calls Try.prog 19 #[.string s, .int .i64 k] w fun e w' => e = tokE (Lx.tok (Lx.suf s k)) k ∧ Below w.heap.size w w' := by
  have hT : Lx.tok (Lx.suf s k) = Lx.valT (Lx.suf s k) n := by
    have hd : (Lx.suf s k).drop 2 = Lx.suf s (k + 2) := by rw [Lx.suf_eq, Lx.suf_eq, List.drop_drop]
    have hb' := hb
    rw [Lx.suf_cons hk] at hb' hd ⊢
    rw [Lx.tok]
    simp only [hl, if_true, hb', hd]
    rw [Lx.bEnd, Lx.suf_length]
    rw [if_pos (by omega), Option.map_some, Lx.optV]
    congr 1
    omega
  rw [hT]
  obtain ⟨r, hr⟩ : ∃ r, r = Lx.valT (Lx.suf s k) n := ⟨_, rfl⟩
  rw [← hr]
  have HR := Lib.hid hr
  rw [← hr] at he
  have HE := Lib.hid he
  clear hr he
  have HLET := Lib.hid hl
  have HB := Lib.hid hb
  obtain ⟨m, hm2⟩ : ∃ m, m = Lx.many Lx.noq (Lx.suf s (k + 2)) := ⟨_, rfl⟩
  rw [← hm2] at hm
  have HM := Lib.hid hm2
  have hm3 : n ≤ 2 + m + 1 := by omega
  have hm4 : 2 + m + 1 ≤ n := by omega
  clear hl hb hT hm2 hm
  go_enter Try.func19, Try.ntmps19
  go_wp2_with fail
  refine (letter_any _ _).mono ?_
  rintro e w' ⟨rfl, rfl⟩
  rw [HLET.out]
  go_wp2_with fail
  refine (blob_any s k _ hs hk).mono ?_
  rintro e w' ⟨rfl, rfl⟩
  rw [HB.out, if_pos rfl, ← HM.out]
  unfold endE
  go_wp2_with fail
  refine (lvalue_at s k n _ _ hs (by omega) (by omega)).mono ?_
  rintro e w1 ⟨he, hb1⟩
  rw [← HR.out, tokE_ok HE.out] at he
  subst he
  have hB1 := below_next (w := w) (by (repeat (first | with_reducible exact Below.refl _ _ | with_reducible assumption | with_reducible refine Below.drew ?_ | with_reducible refine below_drewN ?_ _ | with_reducible refine below_al ?_ _ | with_reducible refine Below.setCell ?_ ?_ _ | exact Nat.le_refl _ | omega | (simp; done) | (simp; omega)))) hb1; obtain ⟨hc1, hf1⟩ := bcell hb1
  have K0 := blk_next (heap_alloc_new w _) hb1
  have K1 := K0
  have K1' := K1
  obtain ⟨c, f⟩ := blk_cells K1; have c0 := c 0 _ rfl; have c1 := c 1 _ rfl; have c2 := c 2 _ rfl; have c3 := c 3 _ rfl; have c4 := c 4 _ rfl; have c5 := c 5 _ rfl; have f0 := f 0; have f1 := f 1; have f2 := f 2; have f3 := f 3; have f4 := f 4; have f5 := f 5; clear c f
  clear K1
  clear hc1 hf1
  go_wp2
  refine bodyPost_agg2 (B := w.heap.size) Try.results19 Try.underlying33 (by kernel_rfl) rfl (stored6 K1' _ _ _ _ _ _) rfl ⟨?_, by (repeat (first | with_reducible exact Below.refl _ _ | with_reducible assumption | with_reducible refine Below.drew ?_ | with_reducible refine below_drewN ?_ _ | with_reducible refine below_al ?_ _ | with_reducible refine Below.setCell ?_ ?_ _ | exact Nat.le_refl _ | omega | (simp; done) | (simp; omega)))⟩
  rw [tokE_ok HE.out]; rfl
set_option maxHeartbeats 1000000 in
theorem token_blob_bad (s : ByteArray) (k : Nat) (w : World) (hs : s.size ≤ 1000000000) (hk : k < s.size) (hl : Lx.let_ s[k] = true) (hb : Lx.isBlob (Lx.suf s k) = true) (n : Nat) (hm : n = 2 + Lx.many Lx.noq (Lx.suf s (k + 2)) + 1) (hn : k + n ≤ s.size) (he : (Lx.valT (Lx.suf s k) n).1 ≠ 0) :
    Calls Try.prog 19 #[.string s, .int .i64 k] w fun e w' => e = tokE (Lx.tok (Lx.suf s k)) k ∧ Below w.heap.size w w' := by
  have hT : Lx.tok (Lx.suf s k) = Lx.valT (Lx.suf s k) n := by
    have hd : (Lx.suf s k).drop 2 = Lx.suf s (k + 2) := by rw [Lx.suf_eq, Lx.suf_eq, List.drop_drop]
    have hb' := hb
    rw [Lx.suf_cons hk] at hb' hd ⊢
    rw [Lx.tok]
    simp only [hl, if_true, hb', hd]
    rw [Lx.bEnd, Lx.suf_length]
    rw [if_pos (by omega), Option.map_some, Lx.optV]
    congr 1
    omega
  rw [hT]
  obtain ⟨r, hr⟩ : ∃ r, r = Lx.valT (Lx.suf s k) n := ⟨_, rfl⟩
  rw [← hr]
  have HR := Lib.hid hr
  rw [← hr] at he
  have HE := Lib.hid he
  clear hr he
  have HLET := Lib.hid hl
  have HB := Lib.hid hb
  obtain ⟨m, hm2⟩ : ∃ m, m = Lx.many Lx.noq (Lx.suf s (k + 2)) := ⟨_, rfl⟩
  rw [← hm2] at hm
  have HM := Lib.hid hm2
  have hm3 : n ≤ 2 + m + 1 := by omega
  have hm4 : 2 + m + 1 ≤ n := by omega
  clear hl hb hT hm2 hm
  go_enter Try.func19, Try.ntmps19
  go_wp2_with fail
  refine (letter_any _ _).mono ?_
  rintro e w' ⟨rfl, rfl⟩
  rw [HLET.out]
  go_wp2_with fail
  refine (blob_any s k _ hs hk).mono ?_
  rintro e w' ⟨rfl, rfl⟩
  rw [HB.out, if_pos rfl, ← HM.out]
  unfold endE
  go_wp2_with fail
  refine (lvalue_at s k n _ _ hs (by omega) (by omega)).mono ?_
  rintro e w1 ⟨he, hb1⟩
  rw [← HR.out, tokE_bad HE.out] at he
  subst he
  have hB1 := below_next (w := w) (by (repeat (first | with_reducible exact Below.refl _ _ | with_reducible assumption | with_reducible refine Below.drew ?_ | with_reducible refine below_drewN ?_ _ | with_reducible refine below_al ?_ _ | with_reducible refine Below.setCell ?_ ?_ _ | exact Nat.le_refl _ | omega | (simp; done) | (simp; omega)))) hb1; obtain ⟨hc1, hf1⟩ := bcell hb1
  have K0 := blk_next (heap_alloc_new w _) hb1
  have K1 := K0
  have K1' := K1
  obtain ⟨c, f⟩ := blk_cells K1; have c0 := c 0 _ rfl; have c1 := c 1 _ rfl; have c2 := c 2 _ rfl; have c3 := c 3 _ rfl; have c4 := c 4 _ rfl; have c5 := c 5 _ rfl; have f0 := f 0; have f1 := f 1; have f2 := f 2; have f3 := f 3; have f4 := f 4; have f5 := f 5; clear c f
  clear K1
  clear hc1 hf1
  go_wp2
  refine bodyPost_agg2 (B := w.heap.size) Try.results19 Try.underlying33 (by kernel_rfl) rfl (stored6 K1' _ _ _ _ _ _) rfl ⟨?_, by (repeat (first | with_reducible exact Below.refl _ _ | with_reducible assumption | with_reducible refine Below.drew ?_ | with_reducible refine below_drewN ?_ _ | with_reducible refine below_al ?_ _ | with_reducible refine Below.setCell ?_ ?_ _ | exact Nat.le_refl _ | omega | (simp; done) | (simp; omega)))⟩
  rw [tokE_bad HE.out]; rfl
set_option maxHeartbeats 1000000 in
theorem token_name_word (s : ByteArray) (k : Nat) (w : World) (hs : s.size ≤ 1000000000) (hk : k < s.size) (hl : Lx.let_ s[k] = true) (hb : Lx.isBlob (Lx.suf s k) = false) (hw : Lx.isW ((Lx.suf s k).take (Lx.many Lx.nam (Lx.suf s k))) = true) :
    Calls Try.prog 19 #[.string s, .int .i64 k] w fun e w' => e = tokE (Lx.tok (Lx.suf s k)) k ∧ Below w.heap.size w w' := by
  have hT : Lx.tok (Lx.suf s k) = Lx.nameT (Lx.suf s k) (Lx.many Lx.nam (Lx.suf s k)) := by
    have hb' := hb
    rw [Lx.suf_cons hk] at hb' ⊢
    rw [Lx.tok]
    simp only [hl, if_true, hb', Bool.false_eq_true, if_false]
  rw [hT, Lx.nameT]
  have hml := Lx.many_le Lx.nam (Lx.suf s k)
  rw [Lx.suf_length] at hml
  obtain ⟨n, hn0⟩ : ∃ n, n = Lx.many Lx.nam (Lx.suf s k) := ⟨_, rfl⟩
  rw [← hn0] at hw hml ⊢
  obtain ⟨m, hm⟩ : ∃ m, m = k + n := ⟨_, rfl⟩
  have HM : Hid (m = k + Lx.many Lx.nam (Lx.suf s k)) := by unfold Hid; rw [hm, hn0]
  have HM2 := Lib.hid hm
  have hm1 : k ≤ m := by omega
  have hm2 : m ≤ s.size := by omega
  have hsl : s.extract k m = Lx.bs ((Lx.suf s k).take n) := by rw [Lx.extract_bs, hm, Nat.add_sub_cancel_left]; rfl
  have htl : ((Lx.suf s k).take n).length = n := by rw [List.length_take, Lx.suf_length]; omega
  obtain ⟨t, ht⟩ : ∃ t, t = (Lx.suf s k).take n := ⟨_, rfl⟩
  rw [← ht] at hsl htl hw ⊢
  have hst : (Lx.bs t).size ≤ 1000000000 := by rw [Lx.bs_size, htl]; omega
  have HS := Lib.hid hsl
  have HST := Lib.hid hst
  have HW := Lib.hid hw
  have HLET := Lib.hid hl
  have HB := Lib.hid hb
  rw [if_pos hw]
  clear hl hb hT hn0 hm hsl htl hst hw ht hml
  go_enter Try.func19, Try.ntmps19
  go_wp2_with fail
  refine (letter_any _ _).mono ?_
  rintro e w' ⟨rfl, rfl⟩
  rw [HLET.out]
  go_wp2_with fail
  refine (blob_any s k _ hs hk).mono ?_
  rintro e w' ⟨rfl, rfl⟩
  rw [HB.out, if_neg (by decide)]
  unfold endE
  go_wp2_with fail
  refine (while_any 29 Lx.nam (by intro args w; go_simp) nam_any s k _ (by omega) (by omega)).mono ?_
  rintro e w' ⟨rfl, rfl⟩
  rw [← HM.out]
  go_wp2_with fail
  rw [HS.out]
  refine (word_any _ _ HST.out).mono ?_
  rintro e w1 ⟨rfl, hb1⟩
  rw [Lx.ls_bs, HW.out]
  have hB1 := below_next (w := w) (by (repeat (first | with_reducible exact Below.refl _ _ | with_reducible assumption | with_reducible refine Below.drew ?_ | with_reducible refine below_drewN ?_ _ | with_reducible refine below_al ?_ _ | with_reducible refine Below.setCell ?_ ?_ _ | exact Nat.le_refl _ | omega | (simp; done) | (simp; omega)))) hb1; obtain ⟨hc1, hf1⟩ := bcell hb1
  have K0 := blk_next (heap_alloc_new w _) hb1
  go_wp2_with fail
  refine (fold_any _ _ (by have := HST.out; omega)).mono ?_
  rintro e w2 ⟨rfl, hb2⟩
  rw [Lx.ls_bs]
  have hB2 := below_next (w := w) (by (repeat (first | with_reducible exact Below.refl _ _ | with_reducible assumption | with_reducible refine Below.drew ?_ | with_reducible refine below_drewN ?_ _ | with_reducible refine below_al ?_ _ | with_reducible refine Below.setCell ?_ ?_ _ | exact Nat.le_refl _ | omega | (simp; done) | (simp; omega)))) hb2; obtain ⟨hc2, hf2⟩ := bcell hb2
  have K0 := blk_next K0 hb2
  clear hc2 hf2
  have K1 := K0
  have K1' := K1
  obtain ⟨c, f⟩ := blk_cells K1; have c0 := c 0 _ rfl; have c1 := c 1 _ rfl; have c2 := c 2 _ rfl; have c3 := c 3 _ rfl; have c4 := c 4 _ rfl; have c5 := c 5 _ rfl; have f0 := f 0; have f1 := f 1; have f2 := f 2; have f3 := f 3; have f4 := f 4; have f5 := f 5; clear c f
  clear K1
  clear hc1 hf1
  go_wp2
  refine bodyPost_agg2 (B := w.heap.size) Try.results19 Try.underlying33 (by kernel_rfl) rfl (stored6 K1' _ _ _ _ _ _) rfl ⟨?_, by (repeat (first | with_reducible exact Below.refl _ _ | with_reducible assumption | with_reducible refine Below.drew ?_ | with_reducible refine below_drewN ?_ _ | with_reducible refine below_al ?_ _ | with_reducible refine Below.setCell ?_ ?_ _ | exact Nat.le_refl _ | omega | (simp; done) | (simp; omega)))⟩
  rw [tokE_ok rfl, HM2.out]; rfl
set_option maxHeartbeats 1000000 in
theorem token_name_long (s : ByteArray) (k : Nat) (w : World) (hs : s.size ≤ 1000000000) (hk : k < s.size) (hl : Lx.let_ s[k] = true) (hb : Lx.isBlob (Lx.suf s k) = false) (hw : Lx.isW ((Lx.suf s k).take (Lx.many Lx.nam (Lx.suf s k))) = false) (hn : 32 < Lx.many Lx.nam (Lx.suf s k)) :
    Calls Try.prog 19 #[.string s, .int .i64 k] w fun e w' => e = tokE (Lx.tok (Lx.suf s k)) k ∧ Below w.heap.size w w' := by
  have hT : Lx.tok (Lx.suf s k) = Lx.nameT (Lx.suf s k) (Lx.many Lx.nam (Lx.suf s k)) := by
    have hb' := hb
    rw [Lx.suf_cons hk] at hb' ⊢
    rw [Lx.tok]
    simp only [hl, if_true, hb', Bool.false_eq_true, if_false]
  rw [hT, Lx.nameT]
  have hml := Lx.many_le Lx.nam (Lx.suf s k)
  rw [Lx.suf_length] at hml
  obtain ⟨n, hn0⟩ : ∃ n, n = Lx.many Lx.nam (Lx.suf s k) := ⟨_, rfl⟩
  rw [← hn0] at hw hml ⊢
  rw [← hn0] at hn
  obtain ⟨m, hm⟩ : ∃ m, m = k + n := ⟨_, rfl⟩
  have HM : Hid (m = k + Lx.many Lx.nam (Lx.suf s k)) := by unfold Hid; rw [hm, hn0]
  have HM2 := Lib.hid hm
  have hm1 : k ≤ m := by omega
  have hm2 : m ≤ s.size := by omega
  have hsl : s.extract k m = Lx.bs ((Lx.suf s k).take n) := by rw [Lx.extract_bs, hm, Nat.add_sub_cancel_left]; rfl
  have htl : ((Lx.suf s k).take n).length = n := by rw [List.length_take, Lx.suf_length]; omega
  obtain ⟨t, ht⟩ : ∃ t, t = (Lx.suf s k).take n := ⟨_, rfl⟩
  rw [← ht] at hsl htl hw ⊢
  have hst : (Lx.bs t).size ≤ 1000000000 := by rw [Lx.bs_size, htl]; omega
  have HS := Lib.hid hsl
  have HST := Lib.hid hst
  have HW := Lib.hid hw
  have HLET := Lib.hid hl
  have HB := Lib.hid hb
  rw [if_neg (by rw [hw]; decide), if_pos hn]
  have d1 : decide (32 < (t.length : Int)) = true := decide_eq_true (by omega)
  clear hl hb hT hn0 hm hsl htl hst hw ht hml hn
  go_enter Try.func19, Try.ntmps19
  go_wp2_with fail
  refine (letter_any _ _).mono ?_
  rintro e w' ⟨rfl, rfl⟩
  rw [HLET.out]
  go_wp2_with fail
  refine (blob_any s k _ hs hk).mono ?_
  rintro e w' ⟨rfl, rfl⟩
  rw [HB.out, if_neg (by decide)]
  unfold endE
  go_wp2_with fail
  refine (while_any 29 Lx.nam (by intro args w; go_simp) nam_any s k _ (by omega) (by omega)).mono ?_
  rintro e w' ⟨rfl, rfl⟩
  rw [← HM.out]
  go_wp2_with fail
  rw [HS.out]
  refine (word_any _ _ HST.out).mono ?_
  rintro e w1 ⟨rfl, hb1⟩
  rw [Lx.ls_bs, HW.out]
  have hB1 := below_next (w := w) (by (repeat (first | with_reducible exact Below.refl _ _ | with_reducible assumption | with_reducible refine Below.drew ?_ | with_reducible refine below_drewN ?_ _ | with_reducible refine below_al ?_ _ | with_reducible refine Below.setCell ?_ ?_ _ | exact Nat.le_refl _ | omega | (simp; done) | (simp; omega)))) hb1; obtain ⟨hc1, hf1⟩ := bcell hb1
  have K0 := blk_next (heap_alloc_new w _) hb1
  have K1 := K0
  have K1' := K1
  obtain ⟨c, f⟩ := blk_cells K1; have c0 := c 0 _ rfl; have c1 := c 1 _ rfl; have c2 := c 2 _ rfl; have c3 := c 3 _ rfl; have c4 := c 4 _ rfl; have c5 := c 5 _ rfl; have f0 := f 0; have f1 := f 1; have f2 := f 2; have f3 := f 3; have f4 := f 4; have f5 := f 5; clear c f
  clear K1
  clear hc1 hf1
  go_wp2
  refine bodyPost_agg2 (B := w.heap.size) Try.results19 Try.underlying33 (by kernel_rfl) rfl (stored6 K1' _ _ _ _ _ _) rfl ⟨?_, by (repeat (first | with_reducible exact Below.refl _ _ | with_reducible assumption | with_reducible refine Below.drew ?_ | with_reducible refine below_drewN ?_ _ | with_reducible refine below_al ?_ _ | with_reducible refine Below.setCell ?_ ?_ _ | exact Nat.le_refl _ | omega | (simp; done) | (simp; omega)))⟩
  rw [tokE_bad (by decide)]; rfl
set_option maxHeartbeats 1000000 in
theorem token_name_plain (s : ByteArray) (k : Nat) (w : World) (hs : s.size ≤ 1000000000) (hk : k < s.size) (hl : Lx.let_ s[k] = true) (hb : Lx.isBlob (Lx.suf s k) = false) (hw : Lx.isW ((Lx.suf s k).take (Lx.many Lx.nam (Lx.suf s k))) = false) (hn : ¬ 32 < Lx.many Lx.nam (Lx.suf s k)) :
    Calls Try.prog 19 #[.string s, .int .i64 k] w fun e w' => e = tokE (Lx.tok (Lx.suf s k)) k ∧ Below w.heap.size w w' := by
  have hT : Lx.tok (Lx.suf s k) = Lx.nameT (Lx.suf s k) (Lx.many Lx.nam (Lx.suf s k)) := by
    have hb' := hb
    rw [Lx.suf_cons hk] at hb' ⊢
    rw [Lx.tok]
    simp only [hl, if_true, hb', Bool.false_eq_true, if_false]
  rw [hT, Lx.nameT]
  have hml := Lx.many_le Lx.nam (Lx.suf s k)
  rw [Lx.suf_length] at hml
  obtain ⟨n, hn0⟩ : ∃ n, n = Lx.many Lx.nam (Lx.suf s k) := ⟨_, rfl⟩
  rw [← hn0] at hw hml ⊢
  rw [← hn0] at hn
  obtain ⟨m, hm⟩ : ∃ m, m = k + n := ⟨_, rfl⟩
  have HM : Hid (m = k + Lx.many Lx.nam (Lx.suf s k)) := by unfold Hid; rw [hm, hn0]
  have HM2 := Lib.hid hm
  have hm1 : k ≤ m := by omega
  have hm2 : m ≤ s.size := by omega
  have hsl : s.extract k m = Lx.bs ((Lx.suf s k).take n) := by rw [Lx.extract_bs, hm, Nat.add_sub_cancel_left]; rfl
  have htl : ((Lx.suf s k).take n).length = n := by rw [List.length_take, Lx.suf_length]; omega
  obtain ⟨t, ht⟩ : ∃ t, t = (Lx.suf s k).take n := ⟨_, rfl⟩
  rw [← ht] at hsl htl hw ⊢
  have hst : (Lx.bs t).size ≤ 1000000000 := by rw [Lx.bs_size, htl]; omega
  have HS := Lib.hid hsl
  have HST := Lib.hid hst
  have HW := Lib.hid hw
  have HLET := Lib.hid hl
  have HB := Lib.hid hb
  rw [if_neg (by rw [hw]; decide), if_neg hn]
  have d1 : decide (32 < (t.length : Int)) = false := decide_eq_false (by omega)
  clear hl hb hT hn0 hm hsl htl hst hw ht hml hn
  go_enter Try.func19, Try.ntmps19
  go_wp2_with fail
  refine (letter_any _ _).mono ?_
  rintro e w' ⟨rfl, rfl⟩
  rw [HLET.out]
  go_wp2_with fail
  refine (blob_any s k _ hs hk).mono ?_
  rintro e w' ⟨rfl, rfl⟩
  rw [HB.out, if_neg (by decide)]
  unfold endE
  go_wp2_with fail
  refine (while_any 29 Lx.nam (by intro args w; go_simp) nam_any s k _ (by omega) (by omega)).mono ?_
  rintro e w' ⟨rfl, rfl⟩
  rw [← HM.out]
  go_wp2_with fail
  rw [HS.out]
  refine (word_any _ _ HST.out).mono ?_
  rintro e w1 ⟨rfl, hb1⟩
  rw [Lx.ls_bs, HW.out]
  have hB1 := below_next (w := w) (by (repeat (first | with_reducible exact Below.refl _ _ | with_reducible assumption | with_reducible refine Below.drew ?_ | with_reducible refine below_drewN ?_ _ | with_reducible refine below_al ?_ _ | with_reducible refine Below.setCell ?_ ?_ _ | exact Nat.le_refl _ | omega | (simp; done) | (simp; omega)))) hb1; obtain ⟨hc1, hf1⟩ := bcell hb1
  have K0 := blk_next (heap_alloc_new w _) hb1
  have K1 := K0
  have K1' := K1
  obtain ⟨c, f⟩ := blk_cells K1; have c0 := c 0 _ rfl; have c1 := c 1 _ rfl; have c2 := c 2 _ rfl; have c3 := c 3 _ rfl; have c4 := c 4 _ rfl; have c5 := c 5 _ rfl; have f0 := f 0; have f1 := f 1; have f2 := f 2; have f3 := f 3; have f4 := f 4; have f5 := f 5; clear c f
  clear K1
  clear hc1 hf1
  go_wp2
  refine bodyPost_agg2 (B := w.heap.size) Try.results19 Try.underlying33 (by kernel_rfl) rfl (stored6 K1' _ _ _ _ _ _) rfl ⟨?_, by (repeat (first | with_reducible exact Below.refl _ _ | with_reducible assumption | with_reducible refine Below.drew ?_ | with_reducible refine below_drewN ?_ _ | with_reducible refine below_al ?_ _ | with_reducible refine Below.setCell ?_ ?_ _ | exact Nat.le_refl _ | omega | (simp; done) | (simp; omega)))⟩
  rw [tokE_ok rfl, HM2.out]; rfl
end Go.Proofs.Ytepdpdlakgnpmaa
