import Derived.Test.YtepdpdlakgnpmaaTextD
set_option linter.unusedVariables false
set_option linter.unusedSimpArgs false
namespace Go.Proofs.Ytepdpdlakgnpmaa
open Go.RowKit
theorem unq_null (s : ByteArray) (w : World) (hs : s.size ≤ 1000000000) (h : Lx.fold (Lx.ls s) = [110, 117, 108, 108]) :
    Calls Try.prog 44 #[.string s] w fun e w' => e = valE (Lx.unquote (Lx.ls s)) ∧ Below w.heap.size w w' := by
  have hR : Lx.unquote (Lx.ls s) = ((0, 0, []), 0) := by rw [Lx.unquote, h]; rfl
  rw [hR]
  have hq : ((Lx.bs (Lx.fold (Lx.ls s))).toList == [110, 117, 108, 108]) = true := by rw [Lx.bs_toList, h]; rfl
  clear h hR
  go_enter Try.func44, Try.ntmps44
  go_wp2_with fail
  refine (fold_any s _ (by omega)).mono ?_
  rintro e w1 ⟨rfl, hb1⟩
  have hB1 := below_next (w := w) (by (repeat (first | with_reducible exact Below.refl _ _ | with_reducible assumption | with_reducible refine Below.drew ?_ | with_reducible refine below_drewN ?_ _ | with_reducible refine below_al ?_ _ | with_reducible refine Below.setCell ?_ ?_ _ | exact Nat.le_refl _ | omega | (simp; done) | (simp; omega)))) hb1; obtain ⟨hc1, hf1⟩ := bcell hb1
  go_wp2
  exact bodyPost_ret (v := .tuple #[.agg #[.int .i64 0, .int .i64 0, .string ⟨#[]⟩], .int .i64 0]) (by simp [results, Try.results44, go_sem, hc1]) rfl ⟨rfl, by (repeat (first | with_reducible exact Below.refl _ _ | with_reducible assumption | with_reducible refine Below.drew ?_ | with_reducible refine below_drewN ?_ _ | with_reducible refine below_al ?_ _ | with_reducible refine Below.setCell ?_ ?_ _ | exact Nat.le_refl _ | omega | (simp; done) | (simp; omega)))⟩

theorem unq_text (s : ByteArray) (w : World) (hs : s.size ≤ 1000000000) (h : Lx.fold (Lx.ls s) ≠ [110, 117, 108, 108]) (h2 : (Lx.inside (Lx.ls s)).2 = true) :
    Calls Try.prog 44 #[.string s] w fun e w' => e = valE (Lx.unquote (Lx.ls s)) ∧ Below w.heap.size w w' := by
  have hR : Lx.unquote (Lx.ls s) = Lx.mkV 2 (Lx.single (Lx.inside (Lx.ls s)).1) := by rw [Lx.unquote, if_neg (by simpa using h), if_pos h2]
  rw [hR]
  have hq : ((Lx.bs (Lx.fold (Lx.ls s))).toList == [110, 117, 108, 108]) = false := by rw [Lx.bs_toList]; simpa using h
  have H2 := Lib.hid h2
  clear h hR h2
  have hl : (Lx.bs (Lx.inside (Lx.ls s)).1).size ≤ 1000000000 := by rw [Lx.bs_size]; exact Nat.le_trans (Lx.inside_le _) hs
  obtain ⟨r, hr⟩ : ∃ r, r = Lx.single (Lx.inside (Lx.ls s)).1 := ⟨_, rfl⟩
  have HR := Lib.hid hr
  obtain ⟨v, hv⟩ : ∃ v, v = Lx.mkV 2 r := ⟨_, rfl⟩
  have HV := Lib.hid hv
  rw [← hr, ← hv]
  clear hr hv
  go_enter Try.func44, Try.ntmps44
  go_wp2_with fail
  refine (fold_any s _ (by omega)).mono ?_
  rintro e w1 ⟨rfl, hb1⟩
  have hB1 := below_next (w := w) (by (repeat (first | with_reducible exact Below.refl _ _ | with_reducible assumption | with_reducible refine Below.drew ?_ | with_reducible refine below_drewN ?_ _ | with_reducible refine below_al ?_ _ | with_reducible refine Below.setCell ?_ ?_ _ | exact Nat.le_refl _ | omega | (simp; done) | (simp; omega)))) hb1; obtain ⟨hc1, hf1⟩ := bcell hb1
  go_wp2_with fail
  refine (inside_any s _ (by omega)).mono ?_
  rintro e w' ⟨rfl, rfl⟩
  rw [H2.out]
  go_wp2_with fail
  refine (single_any _ _ hl).mono ?_
  rintro e w2 ⟨rfl, hb2⟩
  rw [Lx.ls_bs, ← HR.out]
  unfold optE
  have hB2 := below_next (w := w) (by (repeat (first | with_reducible exact Below.refl _ _ | with_reducible assumption | with_reducible refine Below.drew ?_ | with_reducible refine below_drewN ?_ _ | with_reducible refine below_al ?_ _ | with_reducible refine Below.setCell ?_ ?_ _ | exact Nat.le_refl _ | omega | (simp; done) | (simp; omega)))) hb2; obtain ⟨hc2, hf2⟩ := bcell hb2
  go_wp2_with fail
  refine (made_any 2 _ _ r (fun t ht => by rw [Lx.ls_bs, ht]; rfl)).mono ?_
  rintro e w3 ⟨rfl, hb3⟩
  rw [← HV.out]
  have hret : valE v = .returned (.tuple #[.agg #[.int .i64 v.1.1, .int .i64 v.1.2.1, .string (Lx.bs v.1.2.2)], .int .i64 v.2]) := rfl
  rw [hret]
  have HRET := Lib.hid hret
  clear hret
  have hB3 := below_next (w := w) (by (repeat (first | with_reducible exact Below.refl _ _ | with_reducible assumption | with_reducible refine Below.drew ?_ | with_reducible refine below_drewN ?_ _ | with_reducible refine below_al ?_ _ | with_reducible refine Below.setCell ?_ ?_ _ | exact Nat.le_refl _ | omega | (simp; done) | (simp; omega)))) hb3; obtain ⟨hc3, hf3⟩ := bcell hb3
  have K1 := blk_next (heap_alloc_new w _) hb1
  have K3 := blk_next (blk_next K1 hb2) hb3
  obtain ⟨c, f⟩ := blk_cells K3
  have c0 := c 0 _ rfl; have c1 := c 1 _ rfl; have c2 := c 2 _ rfl
  have f0 := f 0; have f1 := f 1; have f2 := f 2
  clear c f hc1 hc2 hc3 hf1 hf2 hf3
  go_wp2
  exact bodyPost_ret (v := .tuple #[.agg #[.int .i64 v.1.1, .int .i64 v.1.2.1, .string (Lx.bs v.1.2.2)], .int .i64 v.2]) (by simp [results, Try.results44, go_sem, c0, c1, c2]) rfl ⟨rfl, by (repeat (first | with_reducible exact Below.refl _ _ | with_reducible assumption | with_reducible refine Below.drew ?_ | with_reducible refine below_drewN ?_ _ | with_reducible refine below_al ?_ _ | with_reducible refine Below.setCell ?_ ?_ _ | exact Nat.le_refl _ | omega | (simp; done) | (simp; omega)))⟩

set_option maxHeartbeats 1600000 in
theorem unq_hex_true (s : ByteArray) (w : World) (hs : s.size ≤ 1000000000) (h : Lx.fold (Lx.ls s) ≠ [110, 117, 108, 108]) (h2 : (Lx.inside (Lx.ls s)).2 = false)
    (h3 : 0 < s.size) (h4 : Lx.fold ((Lx.ls s).take 1) = [120]) (hb : (Lx.inside (Lx.ls s).tail).2 = true) :
    Calls Try.prog 44 #[.string s] w fun e w' => e = valE (Lx.unquote (Lx.ls s)) ∧ Below w.heap.size w w' := by
  have hne : (Lx.ls s).isEmpty = false := by rw [Lx.ls_cons h3]; rfl
  have hR : Lx.unquote (Lx.ls s) = Lx.mkV 3 (if (Lx.inside (Lx.ls s).tail).2 then Lx.unhexL (Lx.inside (Lx.ls s).tail).1 else none) := by
    rw [Lx.unquote, if_neg (by simpa using h), if_neg (by simp [h2]), if_pos (by rw [hne, h4]; rfl)]
  rw [hR]
  have hq : ((Lx.bs (Lx.fold (Lx.ls s))).toList == [110, 117, 108, 108]) = false := by rw [Lx.bs_toList]; simpa using h
  have hq2 : s.toList.isEmpty = false := by rw [Lx.toList_ls]; exact hne
  have hq3 : ((Lx.bs (Lx.fold (Lx.ls (s.extract 0 1)))).toList == [120]) = true := by rw [Lx.bs_toList, Lx.ls_extract, List.drop_zero]; simpa using h4
  have e1 : Lx.ls (s.extract 1 s.size) = (Lx.ls s).tail := by rw [Lx.extract_end, Lx.ls_bs, List.drop_one]
  have z1 : (s.extract 1 s.size).size = s.size - 1 := Lx.extract_size s 1 s.size (Nat.le_refl _)
  have z0 : (s.extract 0 1).size = 1 := Lx.extract_size s 0 1 h3
  have hl : (Lx.bs (Lx.inside (Lx.ls s).tail).1).size ≤ 1000000000 := by
    rw [Lx.bs_size]; refine Nat.le_trans (Lx.inside_le _) ?_; rw [List.length_tail, Lx.ls_length]; omega
  have H2 := Lib.hid h2
  have E1 := Lib.hid e1
  have Z1 := Lib.hid z1
  have Z0 := Lib.hid z0
  have HL := Lib.hid hl
  clear h hR h2 hne h4 e1 z1 z0 hl
  obtain ⟨r, hr⟩ : ∃ r, r = Lx.unhexL (Lx.inside (Lx.ls s).tail).1 := ⟨_, rfl⟩
  have HR := Lib.hid hr
  rw [← hr]
  clear hr
  rw [hb]
  have HB := Lib.hid hb
  clear hb
  rw [if_pos rfl]
  obtain ⟨v, hv⟩ : ∃ v, v = Lx.mkV 3 r := ⟨_, rfl⟩
  rw [← hv]
  have HV := Lib.hid hv
  clear hv
  go_enter Try.func44, Try.ntmps44
  go_wp2_with fail
  refine (fold_any s _ (by omega)).mono ?_
  rintro e w1 ⟨rfl, hb1⟩
  have hB1 := below_next (w := w) (by (repeat (first | with_reducible exact Below.refl _ _ | with_reducible assumption | with_reducible refine Below.drew ?_ | with_reducible refine below_drewN ?_ _ | with_reducible refine below_al ?_ _ | with_reducible refine Below.setCell ?_ ?_ _ | exact Nat.le_refl _ | omega | (simp; done) | (simp; omega)))) hb1; obtain ⟨hc1, hf1⟩ := bcell hb1
  go_wp2_with fail
  refine (inside_any s _ (by omega)).mono ?_
  rintro e w' ⟨rfl, rfl⟩
  rw [H2.out]
  go_wp2_with fail
  refine (fold_any _ _ (by rw [Z0.out]; omega)).mono ?_
  rintro e w2 ⟨rfl, hb2⟩
  have hB2 := below_next (w := w) (by (repeat (first | with_reducible exact Below.refl _ _ | with_reducible assumption | with_reducible refine Below.drew ?_ | with_reducible refine below_drewN ?_ _ | with_reducible refine below_al ?_ _ | with_reducible refine Below.setCell ?_ ?_ _ | exact Nat.le_refl _ | omega | (simp; done) | (simp; omega)))) hb2; obtain ⟨hc2, hf2⟩ := bcell hb2
  go_wp2_with fail
  refine (inside_any _ _ (by rw [Z1.out]; omega)).mono ?_
  rintro e w' ⟨rfl, rfl⟩
  rw [E1.out, HB.out]
  go_wp2_with fail
  refine (unhex_any _ _ HL.out).mono ?_
  rintro e w3 ⟨rfl, hb3⟩
  rw [Lx.ls_bs, ← HR.out]
  unfold optE
  have hB3 := below_next (w := w) (by (repeat (first | with_reducible exact Below.refl _ _ | with_reducible assumption | with_reducible refine Below.drew ?_ | with_reducible refine below_drewN ?_ _ | with_reducible refine below_al ?_ _ | with_reducible refine Below.setCell ?_ ?_ _ | exact Nat.le_refl _ | omega | (simp; done) | (simp; omega)))) hb3; obtain ⟨hc3, hf3⟩ := bcell hb3
  go_wp2_with fail
  refine (made_any 3 _ _ r (fun t ht => by rw [Lx.ls_bs, ht]; rfl)).mono ?_
  rintro e w4 ⟨rfl, hb4⟩
  rw [← HV.out]
  unfold valE
  have hB4 := below_next (w := w) (by (repeat (first | with_reducible exact Below.refl _ _ | with_reducible assumption | with_reducible refine Below.drew ?_ | with_reducible refine below_drewN ?_ _ | with_reducible refine below_al ?_ _ | with_reducible refine Below.setCell ?_ ?_ _ | exact Nat.le_refl _ | omega | (simp; done) | (simp; omega)))) hb4; obtain ⟨hc4, hf4⟩ := bcell hb4
  have K1 := blk_next (heap_alloc_new w _) hb1
  have K3 := blk_next (blk_next (blk_next K1 hb2) hb3) hb4
  obtain ⟨c, f⟩ := blk_cells K3
  have c0 := c 0 _ rfl; have c1 := c 1 _ rfl; have c2 := c 2 _ rfl
  have f0 := f 0; have f1 := f 1; have f2 := f 2
  clear c f hc1 hc2 hc3 hf1 hf2 hf3 hc4 hf4
  go_wp2
  exact bodyPost_ret (v := .tuple #[.agg #[.int .i64 v.1.1, .int .i64 v.1.2.1, .string (Lx.bs v.1.2.2)], .int .i64 v.2]) (by simp [results, Try.results44, go_sem, c0, c1, c2]) rfl ⟨rfl, by (repeat (first | with_reducible exact Below.refl _ _ | with_reducible assumption | with_reducible refine Below.drew ?_ | with_reducible refine below_drewN ?_ _ | with_reducible refine below_al ?_ _ | with_reducible refine Below.setCell ?_ ?_ _ | exact Nat.le_refl _ | omega | (simp; done) | (simp; omega)))⟩

set_option maxHeartbeats 1600000 in
theorem unq_hex_false (s : ByteArray) (w : World) (hs : s.size ≤ 1000000000) (h : Lx.fold (Lx.ls s) ≠ [110, 117, 108, 108]) (h2 : (Lx.inside (Lx.ls s)).2 = false)
    (h3 : 0 < s.size) (h4 : Lx.fold ((Lx.ls s).take 1) = [120]) (hb : (Lx.inside (Lx.ls s).tail).2 = false) :
    Calls Try.prog 44 #[.string s] w fun e w' => e = valE (Lx.unquote (Lx.ls s)) ∧ Below w.heap.size w w' := by
  have hne : (Lx.ls s).isEmpty = false := by rw [Lx.ls_cons h3]; rfl
  have hR : Lx.unquote (Lx.ls s) = Lx.mkV 3 (if (Lx.inside (Lx.ls s).tail).2 then Lx.unhexL (Lx.inside (Lx.ls s).tail).1 else none) := by
    rw [Lx.unquote, if_neg (by simpa using h), if_neg (by simp [h2]), if_pos (by rw [hne, h4]; rfl)]
  rw [hR]
  have hq : ((Lx.bs (Lx.fold (Lx.ls s))).toList == [110, 117, 108, 108]) = false := by rw [Lx.bs_toList]; simpa using h
  have hq2 : s.toList.isEmpty = false := by rw [Lx.toList_ls]; exact hne
  have hq3 : ((Lx.bs (Lx.fold (Lx.ls (s.extract 0 1)))).toList == [120]) = true := by rw [Lx.bs_toList, Lx.ls_extract, List.drop_zero]; simpa using h4
  have e1 : Lx.ls (s.extract 1 s.size) = (Lx.ls s).tail := by rw [Lx.extract_end, Lx.ls_bs, List.drop_one]
  have z1 : (s.extract 1 s.size).size = s.size - 1 := Lx.extract_size s 1 s.size (Nat.le_refl _)
  have z0 : (s.extract 0 1).size = 1 := Lx.extract_size s 0 1 h3
  have hl : (Lx.bs (Lx.inside (Lx.ls s).tail).1).size ≤ 1000000000 := by
    rw [Lx.bs_size]; refine Nat.le_trans (Lx.inside_le _) ?_; rw [List.length_tail, Lx.ls_length]; omega
  have H2 := Lib.hid h2
  have E1 := Lib.hid e1
  have Z1 := Lib.hid z1
  have Z0 := Lib.hid z0
  have HL := Lib.hid hl
  clear h hR h2 hne h4 e1 z1 z0 hl
  obtain ⟨r, hr⟩ : ∃ r, r = Lx.unhexL (Lx.inside (Lx.ls s).tail).1 := ⟨_, rfl⟩
  have HR := Lib.hid hr
  rw [← hr]
  clear hr
  rw [hb]
  have HB := Lib.hid hb
  clear hb
  rw [if_neg (by decide)]
  obtain ⟨v, hv⟩ : ∃ v, v = Lx.mkV 3 none := ⟨_, rfl⟩
  rw [← hv]
  have HV := Lib.hid hv
  clear hv
  go_enter Try.func44, Try.ntmps44
  go_wp2_with fail
  refine (fold_any s _ (by omega)).mono ?_
  rintro e w1 ⟨rfl, hb1⟩
  have hB1 := below_next (w := w) (by (repeat (first | with_reducible exact Below.refl _ _ | with_reducible assumption | with_reducible refine Below.drew ?_ | with_reducible refine below_drewN ?_ _ | with_reducible refine below_al ?_ _ | with_reducible refine Below.setCell ?_ ?_ _ | exact Nat.le_refl _ | omega | (simp; done) | (simp; omega)))) hb1; obtain ⟨hc1, hf1⟩ := bcell hb1
  go_wp2_with fail
  refine (inside_any s _ (by omega)).mono ?_
  rintro e w' ⟨rfl, rfl⟩
  rw [H2.out]
  go_wp2_with fail
  refine (fold_any _ _ (by rw [Z0.out]; omega)).mono ?_
  rintro e w2 ⟨rfl, hb2⟩
  have hB2 := below_next (w := w) (by (repeat (first | with_reducible exact Below.refl _ _ | with_reducible assumption | with_reducible refine Below.drew ?_ | with_reducible refine below_drewN ?_ _ | with_reducible refine below_al ?_ _ | with_reducible refine Below.setCell ?_ ?_ _ | exact Nat.le_refl _ | omega | (simp; done) | (simp; omega)))) hb2; obtain ⟨hc2, hf2⟩ := bcell hb2
  go_wp2_with fail
  refine (inside_any _ _ (by rw [Z1.out]; omega)).mono ?_
  rintro e w' ⟨rfl, rfl⟩
  rw [E1.out, HB.out]
  go_wp2_with fail
  refine (unhex_any _ _ HL.out).mono ?_
  rintro e w3 ⟨rfl, hb3⟩
  rw [Lx.ls_bs, ← HR.out]
  unfold optE
  have hB3 := below_next (w := w) (by (repeat (first | with_reducible exact Below.refl _ _ | with_reducible assumption | with_reducible refine Below.drew ?_ | with_reducible refine below_drewN ?_ _ | with_reducible refine below_al ?_ _ | with_reducible refine Below.setCell ?_ ?_ _ | exact Nat.le_refl _ | omega | (simp; done) | (simp; omega)))) hb3; obtain ⟨hc3, hf3⟩ := bcell hb3
  go_wp2_with fail
  refine (made_any 3 _ _ none (fun t ht => by cases ht)).mono ?_
  rintro e w4 ⟨rfl, hb4⟩
  rw [← HV.out]
  unfold valE
  have hB4 := below_next (w := w) (by (repeat (first | with_reducible exact Below.refl _ _ | with_reducible assumption | with_reducible refine Below.drew ?_ | with_reducible refine below_drewN ?_ _ | with_reducible refine below_al ?_ _ | with_reducible refine Below.setCell ?_ ?_ _ | exact Nat.le_refl _ | omega | (simp; done) | (simp; omega)))) hb4; obtain ⟨hc4, hf4⟩ := bcell hb4
  have K1 := blk_next (heap_alloc_new w _) hb1
  have K3 := blk_next (blk_next (blk_next K1 hb2) hb3) hb4
  obtain ⟨c, f⟩ := blk_cells K3
  have c0 := c 0 _ rfl; have c1 := c 1 _ rfl; have c2 := c 2 _ rfl
  have f0 := f 0; have f1 := f 1; have f2 := f 2
  clear c f hc1 hc2 hc3 hf1 hf2 hf3 hc4 hf4
  go_wp2
  exact bodyPost_ret (v := .tuple #[.agg #[.int .i64 v.1.1, .int .i64 v.1.2.1, .string (Lx.bs v.1.2.2)], .int .i64 v.2]) (by simp [results, Try.results44, go_sem, c0, c1, c2]) rfl ⟨rfl, by (repeat (first | with_reducible exact Below.refl _ _ | with_reducible assumption | with_reducible refine Below.drew ?_ | with_reducible refine below_drewN ?_ _ | with_reducible refine below_al ?_ _ | with_reducible refine Below.setCell ?_ ?_ _ | exact Nat.le_refl _ | omega | (simp; done) | (simp; omega)))⟩

set_option maxHeartbeats 1600000 in
theorem unq_num_x (s : ByteArray) (w : World) (hs : s.size ≤ 1000000000) (h : Lx.fold (Lx.ls s) ≠ [110, 117, 108, 108]) (h2 : (Lx.inside (Lx.ls s)).2 = false)
    (h0 : 0 < s.size) (h3 : ¬ (0 < s.size ∧ Lx.fold ((Lx.ls s).take 1) = [120])) :
    Calls Try.prog 44 #[.string s] w fun e w' => e = valE (Lx.unquote (Lx.ls s)) ∧ Below w.heap.size w w' := by
  obtain ⟨r, hr⟩ : ∃ r, r = Lx.read (Lx.ls s) := ⟨_, rfl⟩
  have hR : Lx.unquote (Lx.ls s) = if r.2 ≠ 0 then ((0, 0, []), r.2) else ((1, r.1, []), 0) := by
    rw [Lx.unquote, if_neg (by simpa using h), if_neg (by simp [h2]), if_neg, hr]
    by_cases h0 : 0 < s.size
    · have : Lx.fold ((Lx.ls s).take 1) ≠ [120] := fun e => h3 ⟨h0, e⟩
      simpa using fun _ => this
    · rw [Lx.ls_nil (by omega)]; simp
  rw [hR]
  obtain ⟨v, hv⟩ : ∃ v : (Int × Int × List UInt8) × Int, v = if r.2 ≠ 0 then ((0, 0, []), r.2) else ((1, r.1, []), 0) := ⟨_, rfl⟩
  rw [← hv]
  have HV := Lib.hid hv
  clear hv
  have hq : ((Lx.bs (Lx.fold (Lx.ls s))).toList == [110, 117, 108, 108]) = false := by rw [Lx.bs_toList]; simpa using h
  have H2 := Lib.hid h2
  have HR := Lib.hid hr
  clear hr hR h2
  have hq2 : s.toList.isEmpty = false := by rw [Lx.toList_ls, Lx.ls_cons h0]; rfl
  have hq3 : ((Lx.bs (Lx.fold (Lx.ls (s.extract 0 1)))).toList == [120]) = false := by
    rw [Lx.bs_toList, Lx.ls_extract, List.drop_zero]; simpa using fun e => h3 ⟨h0, e⟩
  have z0 : (s.extract 0 1).size = 1 := Lx.extract_size s 0 1 h0
  have Z0 := Lib.hid z0
  clear z0
  clear h h3
  go_enter Try.func44, Try.ntmps44
  go_wp2_with fail
  refine (fold_any s _ (by omega)).mono ?_
  rintro e w1 ⟨rfl, hb1⟩
  have hB1 := below_next (w := w) (by (repeat (first | with_reducible exact Below.refl _ _ | with_reducible assumption | with_reducible refine Below.drew ?_ | with_reducible refine below_drewN ?_ _ | with_reducible refine below_al ?_ _ | with_reducible refine Below.setCell ?_ ?_ _ | exact Nat.le_refl _ | omega | (simp; done) | (simp; omega)))) hb1; obtain ⟨hc1, hf1⟩ := bcell hb1
  have K1 := blk_next (heap_alloc_new w _) hb1
  go_wp2_with fail
  refine (inside_any s _ (by omega)).mono ?_
  rintro e w' ⟨rfl, rfl⟩
  rw [H2.out]
  go_wp2_with fail
  refine (fold_any _ _ (by rw [Z0.out]; omega)).mono ?_
  rintro e w2 ⟨rfl, hb2⟩
  have hB2 := below_next (w := w) (by (repeat (first | with_reducible exact Below.refl _ _ | with_reducible assumption | with_reducible refine Below.drew ?_ | with_reducible refine below_drewN ?_ _ | with_reducible refine below_al ?_ _ | with_reducible refine Below.setCell ?_ ?_ _ | exact Nat.le_refl _ | omega | (simp; done) | (simp; omega)))) hb2; obtain ⟨hc2, hf2⟩ := bcell hb2
  have K1 := blk_next K1 hb2
  go_wp2_with fail
  refine (read_any s _ (by omega)).mono ?_
  rintro e w3 ⟨rfl, hb3⟩
  rw [← HR.out]
  have hB3 := below_next (w := w) (by (repeat (first | with_reducible exact Below.refl _ _ | with_reducible assumption | with_reducible refine Below.drew ?_ | with_reducible refine below_drewN ?_ _ | with_reducible refine below_al ?_ _ | with_reducible refine Below.setCell ?_ ?_ _ | exact Nat.le_refl _ | omega | (simp; done) | (simp; omega)))) hb3; obtain ⟨hc3, hf3⟩ := bcell hb3
  have K3 := blk_next K1 hb3
  obtain ⟨c, f⟩ := blk_cells K3
  have c0 := c 0 _ rfl; have c1 := c 1 _ rfl; have c2 := c 2 _ rfl
  have f0 := f 0; have f1 := f 1; have f2 := f 2
  clear c f hc1 hc3 hf1 hf3
  by_cases he : r.2 = 0
  · have d1 : (r.2 != 0) = false := by simp [he]
    have HE := Lib.hid he
    clear he
    go_wp2
    exact bodyPost_ret (v := .tuple #[.agg #[.int .i64 1, .int .i64 r.1, .string ⟨#[]⟩], .int .i64 0]) (by simp [results, Try.results44, go_sem, c0, c1, c2]) rfl ⟨by rw [HV.out, if_neg (by simp [HE.out])]; rfl, by (repeat (first | with_reducible exact Below.refl _ _ | with_reducible assumption | with_reducible refine Below.drew ?_ | with_reducible refine below_drewN ?_ _ | with_reducible refine below_al ?_ _ | with_reducible refine Below.setCell ?_ ?_ _ | exact Nat.le_refl _ | omega | (simp; done) | (simp; omega)))⟩
  · have d1 : (r.2 != 0) = true := by simp [he]
    have HE := Lib.hid he
    clear he
    go_wp2
    exact bodyPost_ret (v := .tuple #[.agg #[.int .i64 0, .int .i64 0, .string ⟨#[]⟩], .int .i64 r.2]) (by simp [results, Try.results44, go_sem, c0, c1, c2]) rfl ⟨by rw [HV.out, if_pos HE.out]; rfl, by (repeat (first | with_reducible exact Below.refl _ _ | with_reducible assumption | with_reducible refine Below.drew ?_ | with_reducible refine below_drewN ?_ _ | with_reducible refine below_al ?_ _ | with_reducible refine Below.setCell ?_ ?_ _ | exact Nat.le_refl _ | omega | (simp; done) | (simp; omega)))⟩

set_option maxHeartbeats 1600000 in
theorem unq_num_e (s : ByteArray) (w : World) (hs : s.size ≤ 1000000000) (h : Lx.fold (Lx.ls s) ≠ [110, 117, 108, 108]) (h2 : (Lx.inside (Lx.ls s)).2 = false)
    (h0 : ¬ 0 < s.size) (h3 : ¬ (0 < s.size ∧ Lx.fold ((Lx.ls s).take 1) = [120])) :
    Calls Try.prog 44 #[.string s] w fun e w' => e = valE (Lx.unquote (Lx.ls s)) ∧ Below w.heap.size w w' := by
  obtain ⟨r, hr⟩ : ∃ r, r = Lx.read (Lx.ls s) := ⟨_, rfl⟩
  have hR : Lx.unquote (Lx.ls s) = if r.2 ≠ 0 then ((0, 0, []), r.2) else ((1, r.1, []), 0) := by
    rw [Lx.unquote, if_neg (by simpa using h), if_neg (by simp [h2]), if_neg, hr]
    by_cases h0 : 0 < s.size
    · have : Lx.fold ((Lx.ls s).take 1) ≠ [120] := fun e => h3 ⟨h0, e⟩
      simpa using fun _ => this
    · rw [Lx.ls_nil (by omega)]; simp
  rw [hR]
  obtain ⟨v, hv⟩ : ∃ v : (Int × Int × List UInt8) × Int, v = if r.2 ≠ 0 then ((0, 0, []), r.2) else ((1, r.1, []), 0) := ⟨_, rfl⟩
  rw [← hv]
  have HV := Lib.hid hv
  clear hv
  have hq : ((Lx.bs (Lx.fold (Lx.ls s))).toList == [110, 117, 108, 108]) = false := by rw [Lx.bs_toList]; simpa using h
  have H2 := Lib.hid h2
  have HR := Lib.hid hr
  clear hr hR h2
  have hq2 : s.toList.isEmpty = true := by rw [Lx.toList_ls, Lx.ls_nil (by omega)]; rfl
  clear h h3
  go_enter Try.func44, Try.ntmps44
  go_wp2_with fail
  refine (fold_any s _ (by omega)).mono ?_
  rintro e w1 ⟨rfl, hb1⟩
  have hB1 := below_next (w := w) (by (repeat (first | with_reducible exact Below.refl _ _ | with_reducible assumption | with_reducible refine Below.drew ?_ | with_reducible refine below_drewN ?_ _ | with_reducible refine below_al ?_ _ | with_reducible refine Below.setCell ?_ ?_ _ | exact Nat.le_refl _ | omega | (simp; done) | (simp; omega)))) hb1; obtain ⟨hc1, hf1⟩ := bcell hb1
  have K1 := blk_next (heap_alloc_new w _) hb1
  go_wp2_with fail
  refine (inside_any s _ (by omega)).mono ?_
  rintro e w' ⟨rfl, rfl⟩
  rw [H2.out]
  go_wp2_with fail
  refine (read_any s _ (by omega)).mono ?_
  rintro e w3 ⟨rfl, hb3⟩
  rw [← HR.out]
  have hB3 := below_next (w := w) (by (repeat (first | with_reducible exact Below.refl _ _ | with_reducible assumption | with_reducible refine Below.drew ?_ | with_reducible refine below_drewN ?_ _ | with_reducible refine below_al ?_ _ | with_reducible refine Below.setCell ?_ ?_ _ | exact Nat.le_refl _ | omega | (simp; done) | (simp; omega)))) hb3; obtain ⟨hc3, hf3⟩ := bcell hb3
  have K3 := blk_next K1 hb3
  obtain ⟨c, f⟩ := blk_cells K3
  have c0 := c 0 _ rfl; have c1 := c 1 _ rfl; have c2 := c 2 _ rfl
  have f0 := f 0; have f1 := f 1; have f2 := f 2
  clear c f hc1 hc3 hf1 hf3
  by_cases he : r.2 = 0
  · have d1 : (r.2 != 0) = false := by simp [he]
    have HE := Lib.hid he
    clear he
    go_wp2
    exact bodyPost_ret (v := .tuple #[.agg #[.int .i64 1, .int .i64 r.1, .string ⟨#[]⟩], .int .i64 0]) (by simp [results, Try.results44, go_sem, c0, c1, c2]) rfl ⟨by rw [HV.out, if_neg (by simp [HE.out])]; rfl, by (repeat (first | with_reducible exact Below.refl _ _ | with_reducible assumption | with_reducible refine Below.drew ?_ | with_reducible refine below_drewN ?_ _ | with_reducible refine below_al ?_ _ | with_reducible refine Below.setCell ?_ ?_ _ | exact Nat.le_refl _ | omega | (simp; done) | (simp; omega)))⟩
  · have d1 : (r.2 != 0) = true := by simp [he]
    have HE := Lib.hid he
    clear he
    go_wp2
    exact bodyPost_ret (v := .tuple #[.agg #[.int .i64 0, .int .i64 0, .string ⟨#[]⟩], .int .i64 r.2]) (by simp [results, Try.results44, go_sem, c0, c1, c2]) rfl ⟨by rw [HV.out, if_pos HE.out]; rfl, by (repeat (first | with_reducible exact Below.refl _ _ | with_reducible assumption | with_reducible refine Below.drew ?_ | with_reducible refine below_drewN ?_ _ | with_reducible refine below_al ?_ _ | with_reducible refine Below.setCell ?_ ?_ _ | exact Nat.le_refl _ | omega | (simp; done) | (simp; omega)))⟩

theorem unquote_any (s : ByteArray) (w : World) (hs : s.size ≤ 1000000000) :
    Calls Try.prog 44 #[.string s] w fun e w' => e = valE (Lx.unquote (Lx.ls s)) ∧ Below w.heap.size w w' := by
  by_cases h : Lx.fold (Lx.ls s) = [110, 117, 108, 108]
  · exact unq_null s w hs h
  · cases h2 : (Lx.inside (Lx.ls s)).2 with
    | true => exact unq_text s w hs h h2
    | false =>
      by_cases h3 : 0 < s.size ∧ Lx.fold ((Lx.ls s).take 1) = [120]
      · cases hb : (Lx.inside (Lx.ls s).tail).2 with
        | true => exact unq_hex_true s w hs h h2 h3.1 h3.2 hb
        | false => exact unq_hex_false s w hs h h2 h3.1 h3.2 hb
      · by_cases h0 : 0 < s.size
        · exact unq_num_x s w hs h h2 h0 h3
        · exact unq_num_e s w hs h h2 h0 h3
end Go.Proofs.Ytepdpdlakgnpmaa
