import Derived.Test.YtoekddkkjbcicaaDoorOpO
set_option linter.unusedVariables false
set_option linter.unusedSimpArgs false
namespace Go.Proofs.YtoekddkkjbcicaaDoor
open Go.RowKit
attribute [local simp] Lx.bs_size
theorem at_ls {s : ByteArray} {i : Nat} (h : i < s.size) : Ox.at_ (Lx.ls s) i = s[i] := by rw [Ox.at_, Lx.ls_get h]; rfl
theorem unhex_none {p : Ox.S} (h : Ox.unhexP p = none) : Ox.unhex p = ([], false) := by rw [Ox.unhex, h]
theorem unhex_some {p t : Ox.S} (h : Ox.unhexP p = some t) : Ox.unhex p = (t, decide (p.length % 2 = 0)) := by rw [Ox.unhex, h]
def valE2 (v : Ox.V × Bool) : Ending := .returned (.tuple #[.agg #[.int .i64 v.1.1, .int .i64 v.1.2.1, .string (Lx.bs v.1.2.2)], .bool v.2])
theorem unval_quoted {s : ByteArray} (h3 : 3 ≤ s.size) (h1 : s[1] = 39) (hl : s[s.size - 1] = 39) (h0 : s[0] = 116 ∨ s[0] = 120) (hn : Lx.ls s ≠ [110, 117, 108, 108]) :
    Ox.unval (Lx.ls s) = ((if s[0] = 120 then 3 else 2, 0, (Ox.unhex (((Lx.ls s).drop 2).take (s.size - 3))).1), (Ox.unhex (((Lx.ls s).drop 2).take (s.size - 3))).2) := by
  rw [Ox.unval, if_neg hn, Lx.ls_length, at_ls (by omega), at_ls (by omega), at_ls (by omega), h1, hl]
  have hq : (s[0] == 116 || s[0] == 120) = true := by rcases h0 with h | h <;> simp [h]
  rw [hq, decide_eq_true h3]
  simp
theorem unval_other {s : ByteArray} (hn : Lx.ls s ≠ [110, 117, 108, 108]) (h : s.size < 3 ∨ (∃ h3 : 3 ≤ s.size, s[1] ≠ 39 ∨ s[s.size - 1] ≠ 39 ∨ (s[0] ≠ 116 ∧ s[0] ≠ 120))) :
    Ox.unval (Lx.ls s) = ((1, (Lx.read (Lx.ls s)).1, []), decide ((Lx.read (Lx.ls s)).2 = 0)) := by
  rw [Ox.unval, if_neg hn, if_neg]
  rw [Lx.ls_length]
  rcases h with h | ⟨h3, h⟩
  · rw [decide_eq_false (by omega)]; simp
  · rw [at_ls (by omega), at_ls (by omega), at_ls (by omega)]
    rcases h with h | h | ⟨h, h2⟩
    · simp [h]
    · simp [h]
    · simp [h, h2]
theorem unval_null (s : ByteArray) (w : World) (h : Lx.ls s = [110, 117, 108, 108]) :
    Calls Tryd.prog 46 #[.string s] w fun e w' => e = valE2 (Ox.unval (Lx.ls s)) ∧ Below w.heap.size w w' := by
  have hr : Ox.unval (Lx.ls s) = ((0, 0, []), true) := by rw [Ox.unval, if_pos h]
  rw [hr]
  have d0 : (s.toList == [110, 117, 108, 108]) = true := by rw [Lx.toList_ls, h]; rfl
  clear h hr
  go_enter Tryd.func46, Tryd.ntmps46
  go_wp2
  first
    | exact bodyPost_agg1 (B := w.heap.size) Tryd.results46 Tryd.underlying36 (by kernel_rfl) rfl (heap_alloc_new w _) rfl ⟨rfl, by (repeat (first | with_reducible exact Below.refl _ _ | with_reducible assumption | with_reducible refine Below.drew ?_ | with_reducible refine below_drewN ?_ _ | with_reducible refine below_al ?_ _ | with_reducible refine Below.setCell ?_ ?_ _ | exact Nat.le_refl _ | omega | (simp; done) | (simp; omega)))⟩
    | exact bodyPost_agg1 (B := w.heap.size) Tryd.results46 Tryd.underlying36 (by kernel_rfl) rfl (stored3 (heap_alloc_new w _) _ _ _) rfl ⟨rfl, by (repeat (first | with_reducible exact Below.refl _ _ | with_reducible assumption | with_reducible refine Below.drew ?_ | with_reducible refine below_drewN ?_ _ | with_reducible refine below_al ?_ _ | with_reducible refine Below.setCell ?_ ?_ _ | exact Nat.le_refl _ | omega | (simp; done) | (simp; omega)))⟩
theorem unval_o0 (s : ByteArray) (w : World) (hs : s.size ≤ 1000000000) (hn : Lx.ls s ≠ [110, 117, 108, 108]) (h : s.size < 3) :
    Calls Tryd.prog 46 #[.string s] w fun e w' => e = valE2 ((1, (Lx.read (Lx.ls s)).1, []), decide ((Lx.read (Lx.ls s)).2 = 0)) ∧ Below w.heap.size w w' := by
  have d0 : (s.toList == [110, 117, 108, 108]) = false := by rw [Lx.toList_ls]; simpa using hn
  obtain ⟨n, hnn⟩ : ∃ n, n = (Lx.read (Lx.ls s)).1 := ⟨_, rfl⟩
  obtain ⟨x, hx⟩ : ∃ x, x = (Lx.read (Lx.ls s)).2 := ⟨_, rfl⟩
  rw [← hnn, ← hx]
  have HN := Lib.hid hnn
  have HX := Lib.hid hx
  have d1 : decide ((3 : Int) ≤ (s.size : Int)) = false := decide_eq_false (by omega)
  clear hn hnn hx
  go_enter Tryd.func46, Tryd.ntmps46
  go_wp2_with fail
  refine (read_any s _ (by omega)).mono ?_
  rintro e w1 ⟨rfl, hb1⟩
  rw [← HN.out, ← HX.out]
  have K2 := blk_next (heap_alloc_new w (.cells #[.int .i64 0, .int .i64 0, .string ⟨#[]⟩] 36)) hb1
  obtain ⟨c, f⟩ := blk_cells K2
  have c0 := c 0 _ rfl; have c1 := c 1 _ rfl; have c2 := c 2 _ rfl
  have f0 := f 0; have f1 := f 1; have f2 := f 2
  clear c f
  go_wp2
  refine bodyPost_agg1 (B := w.heap.size) Tryd.results46 Tryd.underlying36 (by kernel_rfl) rfl (stored3 K2 _ _ _) rfl ⟨by unfold valE2; exact ret_2 rfl (congrArg Value.bool (by rw [Bool.eq_iff_iff]; simp)), ?_⟩
  have hB := below_next (w := w) (below_al (Below.refl _ _) _) hb1
  exact ((hB.setCell (Nat.le_refl _) _).setCell (Nat.le_refl _) _).setCell (Nat.le_refl _) _
theorem unval_o1 (s : ByteArray) (w : World) (hs : s.size ≤ 1000000000) (hn : Lx.ls s ≠ [110, 117, 108, 108]) (h3 : 3 ≤ s.size) (h : s[1].toNat ≠ 39) :
    Calls Tryd.prog 46 #[.string s] w fun e w' => e = valE2 ((1, (Lx.read (Lx.ls s)).1, []), decide ((Lx.read (Lx.ls s)).2 = 0)) ∧ Below w.heap.size w w' := by
  have d0 : (s.toList == [110, 117, 108, 108]) = false := by rw [Lx.toList_ls]; simpa using hn
  obtain ⟨n, hnn⟩ : ∃ n, n = (Lx.read (Lx.ls s)).1 := ⟨_, rfl⟩
  obtain ⟨x, hx⟩ : ∃ x, x = (Lx.read (Lx.ls s)).2 := ⟨_, rfl⟩
  rw [← hnn, ← hx]
  have HN := Lib.hid hnn
  have HX := Lib.hid hx
  have d1 : decide ((3 : Int) ≤ (s.size : Int)) = true := decide_eq_true (by omega)
  have s1 : 1 < s.size := by omega
  have s0 : 0 < s.size := by omega
  have si1 : (1 : Int) < (s.size : Int) := by omega
  have sj1 : (0 : Int) ≤ (s.size : Int) - 1 := by omega
  have sj2 : (s.size : Int) - 1 < (s.size : Int) := by omega
  have sj3 : ((s.size : Int) - 1).toNat = s.size - 1 := by omega
  have sj4 : s.size - 1 < s.size := by omega
  have e1 : ((s[1].toNat : Int) == 39) = false := by simp; omega
  clear h
  clear hn hnn hx
  go_enter Tryd.func46, Tryd.ntmps46
  go_wp2_with fail
  refine (read_any s _ (by omega)).mono ?_
  rintro e w1 ⟨rfl, hb1⟩
  rw [← HN.out, ← HX.out]
  have K2 := blk_next (heap_alloc_new w (.cells #[.int .i64 0, .int .i64 0, .string ⟨#[]⟩] 36)) hb1
  obtain ⟨c, f⟩ := blk_cells K2
  have c0 := c 0 _ rfl; have c1 := c 1 _ rfl; have c2 := c 2 _ rfl
  have f0 := f 0; have f1 := f 1; have f2 := f 2
  clear c f
  go_wp2
  refine bodyPost_agg1 (B := w.heap.size) Tryd.results46 Tryd.underlying36 (by kernel_rfl) rfl (stored3 K2 _ _ _) rfl ⟨by unfold valE2; exact ret_2 rfl (congrArg Value.bool (by rw [Bool.eq_iff_iff]; simp)), ?_⟩
  have hB := below_next (w := w) (below_al (Below.refl _ _) _) hb1
  exact ((hB.setCell (Nat.le_refl _) _).setCell (Nat.le_refl _) _).setCell (Nat.le_refl _) _
theorem unval_o2 (s : ByteArray) (w : World) (hs : s.size ≤ 1000000000) (hn : Lx.ls s ≠ [110, 117, 108, 108]) (h3 : 3 ≤ s.size) (h : s[1].toNat = 39) (h2 : s[s.size - 1].toNat ≠ 39) :
    Calls Tryd.prog 46 #[.string s] w fun e w' => e = valE2 ((1, (Lx.read (Lx.ls s)).1, []), decide ((Lx.read (Lx.ls s)).2 = 0)) ∧ Below w.heap.size w w' := by
  have d0 : (s.toList == [110, 117, 108, 108]) = false := by rw [Lx.toList_ls]; simpa using hn
  obtain ⟨n, hnn⟩ : ∃ n, n = (Lx.read (Lx.ls s)).1 := ⟨_, rfl⟩
  obtain ⟨x, hx⟩ : ∃ x, x = (Lx.read (Lx.ls s)).2 := ⟨_, rfl⟩
  rw [← hnn, ← hx]
  have HN := Lib.hid hnn
  have HX := Lib.hid hx
  have d1 : decide ((3 : Int) ≤ (s.size : Int)) = true := decide_eq_true (by omega)
  have s1 : 1 < s.size := by omega
  have s0 : 0 < s.size := by omega
  have si1 : (1 : Int) < (s.size : Int) := by omega
  have sj1 : (0 : Int) ≤ (s.size : Int) - 1 := by omega
  have sj2 : (s.size : Int) - 1 < (s.size : Int) := by omega
  have sj3 : ((s.size : Int) - 1).toNat = s.size - 1 := by omega
  have sj4 : s.size - 1 < s.size := by omega
  have e1 : ((s[1].toNat : Int) == 39) = true := by simp; omega
  have e2 : ((s[s.size - 1].toNat : Int) == 39) = false := by simp; omega
  clear h h2
  clear hn hnn hx
  go_enter Tryd.func46, Tryd.ntmps46
  go_wp2_with fail
  refine (read_any s _ (by omega)).mono ?_
  rintro e w1 ⟨rfl, hb1⟩
  rw [← HN.out, ← HX.out]
  have K2 := blk_next (heap_alloc_new w (.cells #[.int .i64 0, .int .i64 0, .string ⟨#[]⟩] 36)) hb1
  obtain ⟨c, f⟩ := blk_cells K2
  have c0 := c 0 _ rfl; have c1 := c 1 _ rfl; have c2 := c 2 _ rfl
  have f0 := f 0; have f1 := f 1; have f2 := f 2
  clear c f
  go_wp2
  refine bodyPost_agg1 (B := w.heap.size) Tryd.results46 Tryd.underlying36 (by kernel_rfl) rfl (stored3 K2 _ _ _) rfl ⟨by unfold valE2; exact ret_2 rfl (congrArg Value.bool (by rw [Bool.eq_iff_iff]; simp)), ?_⟩
  have hB := below_next (w := w) (below_al (Below.refl _ _) _) hb1
  exact ((hB.setCell (Nat.le_refl _) _).setCell (Nat.le_refl _) _).setCell (Nat.le_refl _) _
theorem unval_o3 (s : ByteArray) (w : World) (hs : s.size ≤ 1000000000) (hn : Lx.ls s ≠ [110, 117, 108, 108]) (h3 : 3 ≤ s.size) (h : s[1].toNat = 39) (h2 : s[s.size - 1].toNat = 39) (h4 : s[0].toNat ≠ 116) (h5 : s[0].toNat ≠ 120) :
    Calls Tryd.prog 46 #[.string s] w fun e w' => e = valE2 ((1, (Lx.read (Lx.ls s)).1, []), decide ((Lx.read (Lx.ls s)).2 = 0)) ∧ Below w.heap.size w w' := by
  have d0 : (s.toList == [110, 117, 108, 108]) = false := by rw [Lx.toList_ls]; simpa using hn
  obtain ⟨n, hnn⟩ : ∃ n, n = (Lx.read (Lx.ls s)).1 := ⟨_, rfl⟩
  obtain ⟨x, hx⟩ : ∃ x, x = (Lx.read (Lx.ls s)).2 := ⟨_, rfl⟩
  rw [← hnn, ← hx]
  have HN := Lib.hid hnn
  have HX := Lib.hid hx
  have d1 : decide ((3 : Int) ≤ (s.size : Int)) = true := decide_eq_true (by omega)
  have s1 : 1 < s.size := by omega
  have s0 : 0 < s.size := by omega
  have si1 : (1 : Int) < (s.size : Int) := by omega
  have sj1 : (0 : Int) ≤ (s.size : Int) - 1 := by omega
  have sj2 : (s.size : Int) - 1 < (s.size : Int) := by omega
  have sj3 : ((s.size : Int) - 1).toNat = s.size - 1 := by omega
  have sj4 : s.size - 1 < s.size := by omega
  have e1 : ((s[1].toNat : Int) == 39) = true := by simp; omega
  have e2 : ((s[s.size - 1].toNat : Int) == 39) = true := by simp; omega
  have e3 : ((s[0].toNat : Int) == 116) = false := by simp; omega
  have e4 : ((s[0].toNat : Int) == 120) = false := by simp; omega
  clear h h2 h4 h5
  clear hn hnn hx
  go_enter Tryd.func46, Tryd.ntmps46
  go_wp2_with fail
  refine (read_any s _ (by omega)).mono ?_
  rintro e w1 ⟨rfl, hb1⟩
  rw [← HN.out, ← HX.out]
  have K2 := blk_next (heap_alloc_new w (.cells #[.int .i64 0, .int .i64 0, .string ⟨#[]⟩] 36)) hb1
  obtain ⟨c, f⟩ := blk_cells K2
  have c0 := c 0 _ rfl; have c1 := c 1 _ rfl; have c2 := c 2 _ rfl
  have f0 := f 0; have f1 := f 1; have f2 := f 2
  clear c f
  go_wp2
  refine bodyPost_agg1 (B := w.heap.size) Tryd.results46 Tryd.underlying36 (by kernel_rfl) rfl (stored3 K2 _ _ _) rfl ⟨by unfold valE2; exact ret_2 rfl (congrArg Value.bool (by rw [Bool.eq_iff_iff]; simp)), ?_⟩
  have hB := below_next (w := w) (below_al (Below.refl _ _) _) hb1
  exact ((hB.setCell (Nat.le_refl _) _).setCell (Nat.le_refl _) _).setCell (Nat.le_refl _) _
theorem unval_q116 (s : ByteArray) (w : World) (hs : s.size ≤ 1000000000) (hn : Lx.ls s ≠ [110, 117, 108, 108]) (h3 : 3 ≤ s.size) (h : s[1].toNat = 39) (h2 : s[s.size - 1].toNat = 39) (h4 : s[0].toNat = 116) :
    Calls Tryd.prog 46 #[.string s] w fun e w' => e = valE2 ((2, 0, (Ox.unhex (((Lx.ls s).drop 2).take (s.size - 3))).1), (Ox.unhex (((Lx.ls s).drop 2).take (s.size - 3))).2) ∧ Below w.heap.size w w' := by
  have d0 : (s.toList == [110, 117, 108, 108]) = false := by rw [Lx.toList_ls]; simpa using hn
  obtain ⟨P, hP⟩ : ∃ P, P = ((Lx.ls s).drop 2).take (s.size - 3) := ⟨_, rfl⟩
  rw [← hP]
  have hPl : P.length = s.size - 3 := by rw [hP, List.length_take, List.length_drop, Lx.ls_length]; omega
  have hsl : s.extract 2 (s.size - 1) = Lx.bs P := by rw [Lx.extract_bs, hP]; rfl
  have HS := Lib.hid hsl
  have hPs : (Lx.bs P).size ≤ 1000000000 := by rw [Lx.bs_size]; omega
  have HPS := Lib.hid hPs
  have hB : bytesE (Lx.bs P).size (Ox.unhexP (Lx.ls (Lx.bs P))) = .returned (.tuple #[.string (Lx.bs (Ox.unhex P).1), .bool (Ox.unhex P).2]) := by
    rw [Lx.ls_bs, Lx.bs_size]
    cases hu : Ox.unhexP P with
    | none => rw [unhex_none hu]; rfl
    | some t => rw [unhex_some hu]; rfl
  have HB := Lib.hid hB
  obtain ⟨U, hU⟩ : ∃ U, U = Ox.unhex P := ⟨_, rfl⟩
  rw [← hU] at HB ⊢
  obtain ⟨t, ok⟩ := U
  have d1 : decide ((3 : Int) ≤ (s.size : Int)) = true := decide_eq_true (by omega)
  have s1 : 1 < s.size := by omega
  have s0 : 0 < s.size := by omega
  have si1 : (1 : Int) < (s.size : Int) := by omega
  have sj1 : (0 : Int) ≤ (s.size : Int) - 1 := by omega
  have sj2 : (s.size : Int) - 1 < (s.size : Int) := by omega
  have sj3 : ((s.size : Int) - 1).toNat = s.size - 1 := by omega
  have sj4 : s.size - 1 < s.size := by omega
  have sk1 : (2 : Int) ≤ (s.size : Int) - 1 := by omega
  have sk2 : (s.size : Int) - 1 ≤ (s.size : Int) := by omega
  have e1 : ((s[1].toNat : Int) == 39) = true := by simp; omega
  have e2 : ((s[s.size - 1].toNat : Int) == 39) = true := by simp; omega
  have e3 : ((s[0].toNat : Int) == 116) = true := by simp; omega
  have e4 : ((s[0].toNat : Int) == 120) = false := by simp; omega
  clear h h2 h4 hn hP hPl hsl hPs hB hU
  go_enter Tryd.func46, Tryd.ntmps46
  go_wp2_with fail
  rw [HS.out]
  refine (bytes_any _ _ HPS.out).mono ?_
  rintro e w1 ⟨he, hb1⟩
  rw [HB.out] at he
  subst he
  have K2 := blk_next (heap_alloc_new w (.cells #[.int .i64 0, .int .i64 0, .string ⟨#[]⟩] 36)) hb1
  obtain ⟨c, f⟩ := blk_cells K2
  have c0 := c 0 _ rfl; have c1 := c 1 _ rfl; have c2 := c 2 _ rfl
  have f0 := f 0; have f1 := f 1; have f2 := f 2
  clear c f
  go_wp2
  refine bodyPost_agg1 (B := w.heap.size) Tryd.results46 Tryd.underlying36 (by kernel_rfl) rfl (stored3 K2 _ _ _) rfl ⟨rfl, ?_⟩
  have hB := below_next (w := w) (below_al (Below.refl _ _) _) hb1
  exact ((hB.setCell (Nat.le_refl _) _).setCell (Nat.le_refl _) _).setCell (Nat.le_refl _) _
theorem unval_q120 (s : ByteArray) (w : World) (hs : s.size ≤ 1000000000) (hn : Lx.ls s ≠ [110, 117, 108, 108]) (h3 : 3 ≤ s.size) (h : s[1].toNat = 39) (h2 : s[s.size - 1].toNat = 39) (h4 : s[0].toNat = 120) :
    Calls Tryd.prog 46 #[.string s] w fun e w' => e = valE2 ((3, 0, (Ox.unhex (((Lx.ls s).drop 2).take (s.size - 3))).1), (Ox.unhex (((Lx.ls s).drop 2).take (s.size - 3))).2) ∧ Below w.heap.size w w' := by
  have d0 : (s.toList == [110, 117, 108, 108]) = false := by rw [Lx.toList_ls]; simpa using hn
  obtain ⟨P, hP⟩ : ∃ P, P = ((Lx.ls s).drop 2).take (s.size - 3) := ⟨_, rfl⟩
  rw [← hP]
  have hPl : P.length = s.size - 3 := by rw [hP, List.length_take, List.length_drop, Lx.ls_length]; omega
  have hsl : s.extract 2 (s.size - 1) = Lx.bs P := by rw [Lx.extract_bs, hP]; rfl
  have HS := Lib.hid hsl
  have hPs : (Lx.bs P).size ≤ 1000000000 := by rw [Lx.bs_size]; omega
  have HPS := Lib.hid hPs
  have hB : bytesE (Lx.bs P).size (Ox.unhexP (Lx.ls (Lx.bs P))) = .returned (.tuple #[.string (Lx.bs (Ox.unhex P).1), .bool (Ox.unhex P).2]) := by
    rw [Lx.ls_bs, Lx.bs_size]
    cases hu : Ox.unhexP P with
    | none => rw [unhex_none hu]; rfl
    | some t => rw [unhex_some hu]; rfl
  have HB := Lib.hid hB
  obtain ⟨U, hU⟩ : ∃ U, U = Ox.unhex P := ⟨_, rfl⟩
  rw [← hU] at HB ⊢
  obtain ⟨t, ok⟩ := U
  have d1 : decide ((3 : Int) ≤ (s.size : Int)) = true := decide_eq_true (by omega)
  have s1 : 1 < s.size := by omega
  have s0 : 0 < s.size := by omega
  have si1 : (1 : Int) < (s.size : Int) := by omega
  have sj1 : (0 : Int) ≤ (s.size : Int) - 1 := by omega
  have sj2 : (s.size : Int) - 1 < (s.size : Int) := by omega
  have sj3 : ((s.size : Int) - 1).toNat = s.size - 1 := by omega
  have sj4 : s.size - 1 < s.size := by omega
  have sk1 : (2 : Int) ≤ (s.size : Int) - 1 := by omega
  have sk2 : (s.size : Int) - 1 ≤ (s.size : Int) := by omega
  have e1 : ((s[1].toNat : Int) == 39) = true := by simp; omega
  have e2 : ((s[s.size - 1].toNat : Int) == 39) = true := by simp; omega
  have e3 : ((s[0].toNat : Int) == 116) = false := by simp; omega
  have e4 : ((s[0].toNat : Int) == 120) = true := by simp; omega
  clear h h2 h4 hn hP hPl hsl hPs hB hU
  go_enter Tryd.func46, Tryd.ntmps46
  go_wp2_with fail
  rw [HS.out]
  refine (bytes_any _ _ HPS.out).mono ?_
  rintro e w1 ⟨he, hb1⟩
  rw [HB.out] at he
  subst he
  have K2 := blk_next (heap_alloc_new w (.cells #[.int .i64 0, .int .i64 0, .string ⟨#[]⟩] 36)) hb1
  obtain ⟨c, f⟩ := blk_cells K2
  have c0 := c 0 _ rfl; have c1 := c 1 _ rfl; have c2 := c 2 _ rfl
  have f0 := f 0; have f1 := f 1; have f2 := f 2
  clear c f
  go_wp2
  refine bodyPost_agg1 (B := w.heap.size) Tryd.results46 Tryd.underlying36 (by kernel_rfl) rfl (stored3 K2 _ _ _) rfl ⟨rfl, ?_⟩
  have hB := below_next (w := w) (below_al (Below.refl _ _) _) hb1
  exact ((hB.setCell (Nat.le_refl _) _).setCell (Nat.le_refl _) _).setCell (Nat.le_refl _) _
theorem unval_any (s : ByteArray) (w : World) (hs : s.size ≤ 1000000000) :
    Calls Tryd.prog 46 #[.string s] w fun e w' => e = valE2 (Ox.unval (Lx.ls s)) ∧ Below w.heap.size w w' := by
  by_cases hn : Lx.ls s = [110, 117, 108, 108]
  · exact unval_null s w hn
  by_cases h3 : s.size < 3
  · rw [unval_other hn (.inl h3)]; exact unval_o0 s w hs hn h3
  have h3' : 3 ≤ s.size := by omega
  by_cases h1 : s[1].toNat = 39
  · by_cases h2 : s[s.size - 1].toNat = 39
    · have e1 : s[1] = 39 := Lx.u8_of (n := 39) (by omega) h1
      have e2 : s[s.size - 1] = 39 := Lx.u8_of (n := 39) (by omega) h2
      by_cases h4 : s[0].toNat = 116
      · have e4 : s[0] = 116 := Lx.u8_of (n := 116) (by omega) h4
        rw [unval_quoted h3' e1 e2 (.inl e4) hn, e4]
        exact unval_q116 s w hs hn h3' h1 h2 h4
      · by_cases h5 : s[0].toNat = 120
        · have e5 : s[0] = 120 := Lx.u8_of (n := 120) (by omega) h5
          rw [unval_quoted h3' e1 e2 (.inr e5) hn, e5]
          exact unval_q120 s w hs hn h3' h1 h2 h5
        · rw [unval_other hn (.inr ⟨h3', .inr (.inr ⟨fun h => h4 (by rw [h]; rfl), fun h => h5 (by rw [h]; rfl)⟩)⟩)]
          exact unval_o3 s w hs hn h3' h1 h2 h4 h5
    · rw [unval_other hn (.inr ⟨h3', .inr (.inl fun h => h2 (by rw [h]; rfl))⟩)]
      exact unval_o2 s w hs hn h3' h1 h2
  · rw [unval_other hn (.inr ⟨h3', .inl fun h => h1 (by rw [h]; rfl)⟩)]
    exact unval_o1 s w hs hn h3' h1
end Go.Proofs.YtoekddkkjbcicaaDoor
