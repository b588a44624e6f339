import Derived.Test.YtepdpdlakgnpmaaRef3D
import Derived.Test.YtepdpdlakgnpmaaRef3B
import Derived.Test.YtepdpdlakgnpmaaTextE
set_option linter.unusedVariables false
set_option linter.unusedSimpArgs false
namespace Go.Proofs.Ytepdpdlakgnpmaa
open Go.RowKit
attribute [local simp] Lx.bs_size Lx.bs_append
set_option maxHeartbeats 800000 in
theorem runq_null (s : ByteArray) (w : World) (hs : s.size ≤ 1000000000) (h : Lx.fold (Lx.ls s) = [110, 117, 108, 108]) :
    Calls Try.prog 47 #[.string s] w fun e w' => e = valE (Lx.unquote (Lx.ls s)) ∧ Below w.heap.size w w' := by
  have hR : Lx.unquote (Lx.ls s) = ((0, 0, []), 0) := by rw [Lx.unquote, h]; rfl
  rw [hR]
  obtain ⟨F, hF⟩ : ∃ F, F = Lx.bs (Lx.fold (Lx.ls s)) := ⟨_, rfl⟩
  have HF := Lib.hid hF
  have hFs : F.size = s.size := by rw [hF, Lx.foldB_size]
  have HFS := Lib.hid hFs
  have hFl : F.size ≤ 1000000000 := by omega
  have hq : (F.toList == [110, 117, 108, 108]) = true := by rw [hF, Lx.bs_toList, h]; rfl
  clear h hR hF hFs
  go_enter Try.func47, Try.ntmps47
  go_wp2_with fail
  refine (rfold_any s _ hs).mono ?_
  rintro e w1 ⟨rfl, hb1⟩
  rw [← HF.out]
  have hB1 := below_next (w := w) (by (repeat (first | with_reducible exact Below.refl _ _ | with_reducible assumption | with_reducible refine Below.drew ?_ | with_reducible refine below_drewN ?_ _ | with_reducible refine below_al ?_ _ | with_reducible refine Below.setCell ?_ ?_ _ | exact Nat.le_refl _ | omega | (simp; done) | (simp; omega)))) hb1; obtain ⟨hc1, hf1⟩ := bcell hb1
  have K1 := blk_next (heap_alloc_new w _) hb1
  have hz := blk_lt K1
  obtain ⟨c, f⟩ := blk_cells K1
  have c0 := c 0 _ rfl; have c1 := c 1 _ rfl; have c2 := c 2 _ rfl
  have f0 := f 0; have f1 := f 1; have f2 := f 2
  have a0 : ∀ o, (w1.alloc o).cell? ⟨w.heap.size, 0, none⟩ = some (.int .i64 0) := fun o => (blk_cells (blk_alloc K1 o)).1 0 _ rfl
  have a1 : ∀ o, (w1.alloc o).cell? ⟨w.heap.size, 1, none⟩ = some (.int .i64 0) := fun o => (blk_cells (blk_alloc K1 o)).1 1 _ rfl
  have a2 : ∀ o, (w1.alloc o).cell? ⟨w.heap.size, 2, none⟩ = some (.string ⟨#[]⟩) := fun o => (blk_cells (blk_alloc K1 o)).1 2 _ rfl
  have g : ∀ o k, (w1.alloc o).frozen? ⟨w.heap.size, k, none⟩ = false := fun o k => (blk_cells (blk_alloc K1 o)).2 k
  clear c f hc1 hf1
  go_wp2
  exact bodyPost_ret (v := .tuple #[.agg #[.int .i64 0, .int .i64 0, .string ⟨#[]⟩], .int .i64 0]) (by simp [results, Try.results47, go_sem, World.cell?_alloc_lt, hz, c0, c1, c2]) rfl ⟨rfl, by (repeat (first | with_reducible exact Below.refl _ _ | with_reducible assumption | with_reducible refine Below.drew ?_ | with_reducible refine below_drewN ?_ _ | with_reducible refine below_al ?_ _ | with_reducible refine Below.setCell ?_ ?_ _ | exact Nat.le_refl _ | omega | (simp; done) | (simp; omega)))⟩
set_option maxHeartbeats 1600000 in
theorem runq_quote (s : ByteArray) (w : World) (hs : s.size ≤ 1000000000) (h : Lx.fold (Lx.ls s) ≠ [110, 117, 108, 108]) (h0 : 0 < s.size) (h1 : s[0].toNat = 39) :
    Calls Try.prog 47 #[.string s] w fun e w' => e = valE (Lx.unquote (Lx.ls s)) ∧ Below w.heap.size w w' := by
  rw [Lx.unq_quote h h0 h1]
  obtain ⟨r, hr⟩ : ∃ r, r = Lx.bare (Lx.ls s) := ⟨_, rfl⟩
  rw [← hr]
  have HR := Lib.hid hr
  obtain ⟨F, hF⟩ : ∃ F, F = Lx.bs (Lx.fold (Lx.ls s)) := ⟨_, rfl⟩
  have HF := Lib.hid hF
  have hFs : F.size = s.size := by rw [hF, Lx.foldB_size]
  have HFS := Lib.hid hFs
  have hFl : F.size ≤ 1000000000 := by omega
  have hq : (F.toList == [110, 117, 108, 108]) = false := by rw [hF, Lx.bs_toList]; simpa using h
  have d1 : decide (0 < (s.size : Int)) = true := decide_eq_true (by omega)
  have d2 : ((s[0].toNat : Int) == 39) = true := by simp; omega
  have hbare : ∀ w, Calls Try.prog 55 #[.string s] w fun e w' => e = optE (Lx.bare (Lx.ls s)) ∧ w = w' := by
    intro w
    cases hi : (Lx.inside (Lx.ls s)).2 with
    | false => exact bare_no s w hs hi
    | true =>
      by_cases h2 : 2 ≤ s.size
      · by_cases h3 : s[s.size - 1].toNat = 39
        · exact bare_yes s w hs h2 h1 h3
        · rw [Lx.inside_not (.inr ⟨h0, .inr h3⟩)] at hi; cases hi
      · rw [Lx.inside_not (.inl (by omega))] at hi; cases hi
  have HB := Lib.hid hbare
  clear hbare h hF hFs hr h1
  go_enter Try.func47, Try.ntmps47
  go_wp2_with fail
  refine (rfold_any s _ hs).mono ?_
  rintro e w1 ⟨rfl, hb1⟩
  rw [← HF.out]
  have hB1 := below_next (w := w) (by (repeat (first | with_reducible exact Below.refl _ _ | with_reducible assumption | with_reducible refine Below.drew ?_ | with_reducible refine below_drewN ?_ _ | with_reducible refine below_al ?_ _ | with_reducible refine Below.setCell ?_ ?_ _ | exact Nat.le_refl _ | omega | (simp; done) | (simp; omega)))) hb1; obtain ⟨hc1, hf1⟩ := bcell hb1
  have K1 := blk_next (heap_alloc_new w _) hb1
  have hz := blk_lt K1
  obtain ⟨c, f⟩ := blk_cells K1
  have c0 := c 0 _ rfl; have c1 := c 1 _ rfl; have c2 := c 2 _ rfl
  have f0 := f 0; have f1 := f 1; have f2 := f 2
  have a0 : ∀ o, (w1.alloc o).cell? ⟨w.heap.size, 0, none⟩ = some (.int .i64 0) := fun o => (blk_cells (blk_alloc K1 o)).1 0 _ rfl
  have a1 : ∀ o, (w1.alloc o).cell? ⟨w.heap.size, 1, none⟩ = some (.int .i64 0) := fun o => (blk_cells (blk_alloc K1 o)).1 1 _ rfl
  have a2 : ∀ o, (w1.alloc o).cell? ⟨w.heap.size, 2, none⟩ = some (.string ⟨#[]⟩) := fun o => (blk_cells (blk_alloc K1 o)).1 2 _ rfl
  have g : ∀ o k, (w1.alloc o).frozen? ⟨w.heap.size, k, none⟩ = false := fun o k => (blk_cells (blk_alloc K1 o)).2 k
  clear c f hc1 hf1
  go_wp2_with fail
  refine (HB.out _).mono ?_
  rintro e w' ⟨rfl, rfl⟩
  rw [← HR.out]
  unfold optE
  cases r with
  | none =>
    go_wp2
    exact bodyPost_ret (v := .tuple #[.agg #[.int .i64 0, .int .i64 0, .string ⟨#[]⟩], .int .i64 8]) (by simp [results, Try.results47, go_sem, World.cell?_alloc_lt, hz, c0, c1, c2]) rfl ⟨rfl, by (repeat (first | with_reducible exact Below.refl _ _ | with_reducible assumption | with_reducible refine Below.drew ?_ | with_reducible refine below_drewN ?_ _ | with_reducible refine below_al ?_ _ | with_reducible refine Below.setCell ?_ ?_ _ | exact Nat.le_refl _ | omega | (simp; done) | (simp; omega)))⟩
  | some t =>
    by_cases hl : 4096 < t.length
    · have d5 : decide (4096 < (t.length : Int)) = true := decide_eq_true (by omega)
      have HL := Lib.hid hl
      clear hl
      go_wp2
      exact bodyPost_ret (v := .tuple #[.agg #[.int .i64 0, .int .i64 0, .string ⟨#[]⟩], .int .i64 3]) (by simp [results, Try.results47, go_sem, World.cell?_alloc_lt, hz, c0, c1, c2]) rfl ⟨by rw [Lx.mkV]; simp only [HL.out, if_true]; rfl, by (repeat (first | with_reducible exact Below.refl _ _ | with_reducible assumption | with_reducible refine Below.drew ?_ | with_reducible refine below_drewN ?_ _ | with_reducible refine below_al ?_ _ | with_reducible refine Below.setCell ?_ ?_ _ | exact Nat.le_refl _ | omega | (simp; done) | (simp; omega)))⟩
    · have d5 : decide (4096 < (t.length : Int)) = false := decide_eq_false (by omega)
      have HL := Lib.hid hl
      clear hl
      go_wp2
      exact bodyPost_ret (v := .tuple #[.agg #[.int .i64 2, .int .i64 0, .string (Lx.bs t)], .int .i64 0]) (by simp [results, Try.results47, go_sem, World.cell?_alloc_lt, hz, c0, c1, c2]) rfl ⟨by rw [Lx.mkV]; simp only [HL.out, if_false]; rfl, by (repeat (first | with_reducible exact Below.refl _ _ | with_reducible assumption | with_reducible refine Below.drew ?_ | with_reducible refine below_drewN ?_ _ | with_reducible refine below_al ?_ _ | with_reducible refine Below.setCell ?_ ?_ _ | exact Nat.le_refl _ | omega | (simp; done) | (simp; omega)))⟩
set_option maxHeartbeats 1600000 in
theorem runq_x (s : ByteArray) (w : World) (hs : s.size ≤ 1000000000) (h : Lx.fold (Lx.ls s) ≠ [110, 117, 108, 108]) (h0 : 2 < s.size) (h1 : s[0].toNat ≠ 39) (h2 : (Lx.lo s[0]).toNat = 120) (h3 : s[1].toNat = 39) (h4 : s[s.size - 1].toNat = 39) :
    Calls Try.prog 47 #[.string s] w fun e w' => e = valE (Lx.unquote (Lx.ls s)) ∧ Below w.heap.size w w' := by
  rw [Lx.unq_x h h0 h1 h2 h3 h4]
  have p0 : 0 < s.size := by omega
  obtain ⟨F, hF⟩ : ∃ F, F = Lx.bs (Lx.fold (Lx.ls s)) := ⟨_, rfl⟩
  have HF := Lib.hid hF
  have hFs : F.size = s.size := by rw [hF, Lx.foldB_size]
  have HFS := Lib.hid hFs
  have hFl : F.size ≤ 1000000000 := by omega
  have hq : (F.toList == [110, 117, 108, 108]) = false := by rw [hF, Lx.bs_toList]; simpa using h
  have d1 : decide (0 < (s.size : Int)) = true := decide_eq_true (by omega)
  have d2 : ((s[0].toNat : Int) == 39) = false := by simp; omega
  have l0 : 2 < F.size := by omega
  have d3 : decide (2 < (F.size : Int)) = true := decide_eq_true (by omega)
  have q0 : 0 < F.size := by omega
  have q1 : 1 < F.size := by omega
  have q2 : F.size - 1 < F.size := by omega
  have e1 : ((F.size : Int) - 1).toNat = F.size - 1 := by omega
  have d4 : (((F[0]'q0).toNat : Int) == 120) = true := by
    have : F[0]'q0 = Lx.lo s[0] := by subst hF; exact Lx.foldB_at _
    rw [this, h2]; rfl
  have d5 : (((F[1]'q1).toNat : Int) == 39) = true := by
    have : F[1]'q1 = Lx.lo s[1] := by subst hF; exact Lx.foldB_at _
    rw [this, (Lx.lo_39 _).2 h3]; rfl
  have d6 : (((F[F.size - 1]'q2).toNat : Int) == 39) = true := by
    have : F[F.size - 1]'q2 = Lx.lo (s[s.size - 1]'(by omega)) := by
      have h5 := Lx.foldB_at (s := s) (k := s.size - 1) (by omega)
      subst hF
      rw [← h5]
      congr 1
      rw [hFs]
    rw [this, (Lx.lo_39 _).2 h4]; rfl
  rw [show Lx.bs (Lx.fold (Lx.ls s)) = F from hF.symm, show s.size - 1 = F.size - 1 from by omega]
  have hsl : (F.extract 2 (F.size - 1)).size ≤ 1000000000 := by rw [Lx.extract_size _ _ _ (by omega)]; omega
  have HSL := Lib.hid hsl
  obtain ⟨r, hr⟩ : ∃ r, r = Lx.runhex (Lx.ls (F.extract 2 (F.size - 1))) := ⟨_, rfl⟩
  rw [← hr]
  have HR := Lib.hid hr
  clear h hF hFs hr h1 h2 h3 h4 hsl
  go_enter Try.func47, Try.ntmps47
  go_wp2_with fail
  refine (rfold_any s _ hs).mono ?_
  rintro e w1 ⟨rfl, hb1⟩
  rw [← HF.out]
  have hB1 := below_next (w := w) (by (repeat (first | with_reducible exact Below.refl _ _ | with_reducible assumption | with_reducible refine Below.drew ?_ | with_reducible refine below_drewN ?_ _ | with_reducible refine below_al ?_ _ | with_reducible refine Below.setCell ?_ ?_ _ | exact Nat.le_refl _ | omega | (simp; done) | (simp; omega)))) hb1; obtain ⟨hc1, hf1⟩ := bcell hb1
  have K1 := blk_next (heap_alloc_new w _) hb1
  have hz := blk_lt K1
  obtain ⟨c, f⟩ := blk_cells K1
  have c0 := c 0 _ rfl; have c1 := c 1 _ rfl; have c2 := c 2 _ rfl
  have f0 := f 0; have f1 := f 1; have f2 := f 2
  have a0 : ∀ o, (w1.alloc o).cell? ⟨w.heap.size, 0, none⟩ = some (.int .i64 0) := fun o => (blk_cells (blk_alloc K1 o)).1 0 _ rfl
  have a1 : ∀ o, (w1.alloc o).cell? ⟨w.heap.size, 1, none⟩ = some (.int .i64 0) := fun o => (blk_cells (blk_alloc K1 o)).1 1 _ rfl
  have a2 : ∀ o, (w1.alloc o).cell? ⟨w.heap.size, 2, none⟩ = some (.string ⟨#[]⟩) := fun o => (blk_cells (blk_alloc K1 o)).1 2 _ rfl
  have g : ∀ o k, (w1.alloc o).frozen? ⟨w.heap.size, k, none⟩ = false := fun o k => (blk_cells (blk_alloc K1 o)).2 k
  clear c f hc1 hf1
  go_wp2_with fail
  refine (runhex_any _ _ HSL.out).mono ?_
  rintro e w3 ⟨rfl, hb3⟩
  rw [← HR.out]
  unfold optE
  have hB3 := below_next (w := w) (by (repeat (first | with_reducible exact Below.refl _ _ | with_reducible assumption | with_reducible refine Below.drew ?_ | with_reducible refine below_drewN ?_ _ | with_reducible refine below_al ?_ _ | with_reducible refine Below.setCell ?_ ?_ _ | exact Nat.le_refl _ | omega | (simp; done) | (simp; omega)))) hb3; obtain ⟨hc3, hf3⟩ := bcell hb3
  have K3 := blk_next (blk_alloc K1 _) hb3
  have K4 := blk_next (heap_alloc_new w1 _) hb3
  obtain ⟨c, f⟩ := blk_cells K3
  have b0 := c 0 _ rfl; have b1 := c 1 _ rfl; have b2 := c 2 _ rfl
  obtain ⟨c', f'⟩ := blk_cells K4
  have v0 := c' 0 _ rfl; have v1 := c' 1 _ rfl; have v2 := c' 2 _ rfl
  have hzn : w.heap.size ≠ w1.heap.size := by omega
  have hzn' : w1.heap.size ≠ w.heap.size := by omega
  clear c c' hc3 hf3 a0 a1 a2 g
  cases r with
  | none =>
    go_wp2
    exact bodyPost_ret (v := .tuple #[.agg #[.int .i64 0, .int .i64 0, .string ⟨#[]⟩], .int .i64 8]) (by simp [results, Try.results47, go_sem, World.cell?_alloc_lt, hz, b0, b1, b2, hzn, hzn']) rfl ⟨rfl, by (repeat (first | with_reducible exact Below.refl _ _ | with_reducible assumption | with_reducible refine Below.drew ?_ | with_reducible refine below_drewN ?_ _ | with_reducible refine below_al ?_ _ | with_reducible refine Below.setCell ?_ ?_ _ | exact Nat.le_refl _ | omega | (simp; done) | (simp; omega)))⟩
  | some t =>
    by_cases hl : 4096 < t.length
    · have d5 : decide (4096 < (t.length : Int)) = true := decide_eq_true (by omega)
      have HL := Lib.hid hl
      clear hl
      go_wp2
      exact bodyPost_ret (v := .tuple #[.agg #[.int .i64 0, .int .i64 0, .string ⟨#[]⟩], .int .i64 3]) (by simp [results, Try.results47, go_sem, World.cell?_alloc_lt, hz, b0, b1, b2, hzn, hzn']) rfl ⟨by rw [Lx.mkV]; simp only [HL.out, if_true]; rfl, by (repeat (first | with_reducible exact Below.refl _ _ | with_reducible assumption | with_reducible refine Below.drew ?_ | with_reducible refine below_drewN ?_ _ | with_reducible refine below_al ?_ _ | with_reducible refine Below.setCell ?_ ?_ _ | exact Nat.le_refl _ | omega | (simp; done) | (simp; omega)))⟩
    · have d5 : decide (4096 < (t.length : Int)) = false := decide_eq_false (by omega)
      have HL := Lib.hid hl
      clear hl
      go_wp2
      exact bodyPost_ret (v := .tuple #[.agg #[.int .i64 3, .int .i64 0, .string (Lx.bs t)], .int .i64 0]) (by simp [results, Try.results47, go_sem, World.cell?_alloc_lt, hz, b0, b1, b2, hzn, hzn']) rfl ⟨by rw [Lx.mkV]; simp only [HL.out, if_false]; rfl, by (repeat (first | with_reducible exact Below.refl _ _ | with_reducible assumption | with_reducible refine Below.drew ?_ | with_reducible refine below_drewN ?_ _ | with_reducible refine below_al ?_ _ | with_reducible refine Below.setCell ?_ ?_ _ | exact Nat.le_refl _ | omega | (simp; done) | (simp; omega)))⟩
set_option maxHeartbeats 1600000 in
theorem runq_n0 (s : ByteArray) (w : World) (hs : s.size ≤ 1000000000) (h : Lx.fold (Lx.ls s) ≠ [110, 117, 108, 108]) (h0 : ¬ 0 < s.size) (hR : Lx.unquote (Lx.ls s) = if (Lx.read (Lx.ls s)).2 ≠ 0 then ((0, 0, []), (Lx.read (Lx.ls s)).2) else ((1, (Lx.read (Lx.ls s)).1, []), 0)) :
    Calls Try.prog 47 #[.string s] w fun e w' => e = valE (Lx.unquote (Lx.ls s)) ∧ Below w.heap.size w w' := by
  rw [hR]
  obtain ⟨r, hr⟩ : ∃ r, r = Lx.read (Lx.ls s) := ⟨_, rfl⟩
  rw [← hr]
  have HR := Lib.hid hr
  obtain ⟨F, hF⟩ : ∃ F, F = Lx.bs (Lx.fold (Lx.ls s)) := ⟨_, rfl⟩
  have HF := Lib.hid hF
  have hFs : F.size = s.size := by rw [hF, Lx.foldB_size]
  have HFS := Lib.hid hFs
  have hFl : F.size ≤ 1000000000 := by omega
  have hq : (F.toList == [110, 117, 108, 108]) = false := by rw [hF, Lx.bs_toList]; simpa using h
  have d1 : decide (0 < (s.size : Int)) = false := decide_eq_false (by omega)
  have d3 : decide (2 < (F.size : Int)) = false := decide_eq_false (by omega)
  clear h hF hFs hr hR 
  by_cases he : r.2 = 0
  · have d9 : (r.2 != 0) = false := by simp [he]
    have HE := Lib.hid he
    rw [if_neg (by simp [he])]
    clear he
    go_enter Try.func47, Try.ntmps47
    go_wp2_with fail
    refine (rfold_any s _ hs).mono ?_
    rintro e w1 ⟨rfl, hb1⟩
    rw [← HF.out]
    have hB1 := below_next (w := w) (by (repeat (first | with_reducible exact Below.refl _ _ | with_reducible assumption | with_reducible refine Below.drew ?_ | with_reducible refine below_drewN ?_ _ | with_reducible refine below_al ?_ _ | with_reducible refine Below.setCell ?_ ?_ _ | exact Nat.le_refl _ | omega | (simp; done) | (simp; omega)))) hb1; obtain ⟨hc1, hf1⟩ := bcell hb1
    have K1 := blk_next (heap_alloc_new w _) hb1
    have hz := blk_lt K1
    obtain ⟨c, f⟩ := blk_cells K1
    have c0 := c 0 _ rfl; have c1 := c 1 _ rfl; have c2 := c 2 _ rfl
    have f0 := f 0; have f1 := f 1; have f2 := f 2
    have a0 : ∀ o, (w1.alloc o).cell? ⟨w.heap.size, 0, none⟩ = some (.int .i64 0) := fun o => (blk_cells (blk_alloc K1 o)).1 0 _ rfl
    have a1 : ∀ o, (w1.alloc o).cell? ⟨w.heap.size, 1, none⟩ = some (.int .i64 0) := fun o => (blk_cells (blk_alloc K1 o)).1 1 _ rfl
    have a2 : ∀ o, (w1.alloc o).cell? ⟨w.heap.size, 2, none⟩ = some (.string ⟨#[]⟩) := fun o => (blk_cells (blk_alloc K1 o)).1 2 _ rfl
    have g : ∀ o k, (w1.alloc o).frozen? ⟨w.heap.size, k, none⟩ = false := fun o k => (blk_cells (blk_alloc K1 o)).2 k
    clear c f hc1 hf1
    go_wp2_with fail
    refine (rread_any s _ hs).mono ?_
    rintro e w' ⟨rfl, rfl⟩
    rw [← HR.out]
    go_wp2
    exact bodyPost_ret (v := .tuple #[.agg #[.int .i64 1, .int .i64 r.1, .string ⟨#[]⟩], .int .i64 0]) (by simp [results, Try.results47, go_sem, World.cell?_alloc_lt, hz, c0, c1, c2]) rfl ⟨rfl, by (repeat (first | with_reducible exact Below.refl _ _ | with_reducible assumption | with_reducible refine Below.drew ?_ | with_reducible refine below_drewN ?_ _ | with_reducible refine below_al ?_ _ | with_reducible refine Below.setCell ?_ ?_ _ | exact Nat.le_refl _ | omega | (simp; done) | (simp; omega)))⟩
  · have d9 : (r.2 != 0) = true := by simp [he]
    have HE := Lib.hid he
    rw [if_pos he]
    clear he
    go_enter Try.func47, Try.ntmps47
    go_wp2_with fail
    refine (rfold_any s _ hs).mono ?_
    rintro e w1 ⟨rfl, hb1⟩
    rw [← HF.out]
    have hB1 := below_next (w := w) (by (repeat (first | with_reducible exact Below.refl _ _ | with_reducible assumption | with_reducible refine Below.drew ?_ | with_reducible refine below_drewN ?_ _ | with_reducible refine below_al ?_ _ | with_reducible refine Below.setCell ?_ ?_ _ | exact Nat.le_refl _ | omega | (simp; done) | (simp; omega)))) hb1; obtain ⟨hc1, hf1⟩ := bcell hb1
    have K1 := blk_next (heap_alloc_new w _) hb1
    have hz := blk_lt K1
    obtain ⟨c, f⟩ := blk_cells K1
    have c0 := c 0 _ rfl; have c1 := c 1 _ rfl; have c2 := c 2 _ rfl
    have f0 := f 0; have f1 := f 1; have f2 := f 2
    have a0 : ∀ o, (w1.alloc o).cell? ⟨w.heap.size, 0, none⟩ = some (.int .i64 0) := fun o => (blk_cells (blk_alloc K1 o)).1 0 _ rfl
    have a1 : ∀ o, (w1.alloc o).cell? ⟨w.heap.size, 1, none⟩ = some (.int .i64 0) := fun o => (blk_cells (blk_alloc K1 o)).1 1 _ rfl
    have a2 : ∀ o, (w1.alloc o).cell? ⟨w.heap.size, 2, none⟩ = some (.string ⟨#[]⟩) := fun o => (blk_cells (blk_alloc K1 o)).1 2 _ rfl
    have g : ∀ o k, (w1.alloc o).frozen? ⟨w.heap.size, k, none⟩ = false := fun o k => (blk_cells (blk_alloc K1 o)).2 k
    clear c f hc1 hf1
    go_wp2_with fail
    refine (rread_any s _ hs).mono ?_
    rintro e w' ⟨rfl, rfl⟩
    rw [← HR.out]
    go_wp2
    exact bodyPost_ret (v := .tuple #[.agg #[.int .i64 0, .int .i64 0, .string ⟨#[]⟩], .int .i64 r.2]) (by simp [results, Try.results47, go_sem, World.cell?_alloc_lt, hz, c0, c1, c2]) rfl ⟨rfl, by (repeat (first | with_reducible exact Below.refl _ _ | with_reducible assumption | with_reducible refine Below.drew ?_ | with_reducible refine below_drewN ?_ _ | with_reducible refine below_al ?_ _ | with_reducible refine Below.setCell ?_ ?_ _ | exact Nat.le_refl _ | omega | (simp; done) | (simp; omega)))⟩
set_option maxHeartbeats 1600000 in
theorem runq_n1 (s : ByteArray) (w : World) (hs : s.size ≤ 1000000000) (h : Lx.fold (Lx.ls s) ≠ [110, 117, 108, 108]) (h0 : 0 < s.size) (h1 : s[0].toNat ≠ 39) (h2 : ¬ 2 < s.size) (hR : Lx.unquote (Lx.ls s) = if (Lx.read (Lx.ls s)).2 ≠ 0 then ((0, 0, []), (Lx.read (Lx.ls s)).2) else ((1, (Lx.read (Lx.ls s)).1, []), 0)) :
    Calls Try.prog 47 #[.string s] w fun e w' => e = valE (Lx.unquote (Lx.ls s)) ∧ Below w.heap.size w w' := by
  rw [hR]
  obtain ⟨r, hr⟩ : ∃ r, r = Lx.read (Lx.ls s) := ⟨_, rfl⟩
  rw [← hr]
  have HR := Lib.hid hr
  obtain ⟨F, hF⟩ : ∃ F, F = Lx.bs (Lx.fold (Lx.ls s)) := ⟨_, rfl⟩
  have HF := Lib.hid hF
  have hFs : F.size = s.size := by rw [hF, Lx.foldB_size]
  have HFS := Lib.hid hFs
  have hFl : F.size ≤ 1000000000 := by omega
  have hq : (F.toList == [110, 117, 108, 108]) = false := by rw [hF, Lx.bs_toList]; simpa using h
  have d1 : decide (0 < (s.size : Int)) = true := decide_eq_true (by omega)
  have d2 : ((s[0].toNat : Int) == 39) = false := by simp; omega
  have d3 : decide (2 < (F.size : Int)) = false := decide_eq_false (by omega)
  clear h hF hFs hr hR h1
  by_cases he : r.2 = 0
  · have d9 : (r.2 != 0) = false := by simp [he]
    have HE := Lib.hid he
    rw [if_neg (by simp [he])]
    clear he
    go_enter Try.func47, Try.ntmps47
    go_wp2_with fail
    refine (rfold_any s _ hs).mono ?_
    rintro e w1 ⟨rfl, hb1⟩
    rw [← HF.out]
    have hB1 := below_next (w := w) (by (repeat (first | with_reducible exact Below.refl _ _ | with_reducible assumption | with_reducible refine Below.drew ?_ | with_reducible refine below_drewN ?_ _ | with_reducible refine below_al ?_ _ | with_reducible refine Below.setCell ?_ ?_ _ | exact Nat.le_refl _ | omega | (simp; done) | (simp; omega)))) hb1; obtain ⟨hc1, hf1⟩ := bcell hb1
    have K1 := blk_next (heap_alloc_new w _) hb1
    have hz := blk_lt K1
    obtain ⟨c, f⟩ := blk_cells K1
    have c0 := c 0 _ rfl; have c1 := c 1 _ rfl; have c2 := c 2 _ rfl
    have f0 := f 0; have f1 := f 1; have f2 := f 2
    have a0 : ∀ o, (w1.alloc o).cell? ⟨w.heap.size, 0, none⟩ = some (.int .i64 0) := fun o => (blk_cells (blk_alloc K1 o)).1 0 _ rfl
    have a1 : ∀ o, (w1.alloc o).cell? ⟨w.heap.size, 1, none⟩ = some (.int .i64 0) := fun o => (blk_cells (blk_alloc K1 o)).1 1 _ rfl
    have a2 : ∀ o, (w1.alloc o).cell? ⟨w.heap.size, 2, none⟩ = some (.string ⟨#[]⟩) := fun o => (blk_cells (blk_alloc K1 o)).1 2 _ rfl
    have g : ∀ o k, (w1.alloc o).frozen? ⟨w.heap.size, k, none⟩ = false := fun o k => (blk_cells (blk_alloc K1 o)).2 k
    clear c f hc1 hf1
    go_wp2_with fail
    refine (rread_any s _ hs).mono ?_
    rintro e w' ⟨rfl, rfl⟩
    rw [← HR.out]
    go_wp2
    exact bodyPost_ret (v := .tuple #[.agg #[.int .i64 1, .int .i64 r.1, .string ⟨#[]⟩], .int .i64 0]) (by simp [results, Try.results47, go_sem, World.cell?_alloc_lt, hz, c0, c1, c2]) rfl ⟨rfl, by (repeat (first | with_reducible exact Below.refl _ _ | with_reducible assumption | with_reducible refine Below.drew ?_ | with_reducible refine below_drewN ?_ _ | with_reducible refine below_al ?_ _ | with_reducible refine Below.setCell ?_ ?_ _ | exact Nat.le_refl _ | omega | (simp; done) | (simp; omega)))⟩
  · have d9 : (r.2 != 0) = true := by simp [he]
    have HE := Lib.hid he
    rw [if_pos he]
    clear he
    go_enter Try.func47, Try.ntmps47
    go_wp2_with fail
    refine (rfold_any s _ hs).mono ?_
    rintro e w1 ⟨rfl, hb1⟩
    rw [← HF.out]
    have hB1 := below_next (w := w) (by (repeat (first | with_reducible exact Below.refl _ _ | with_reducible assumption | with_reducible refine Below.drew ?_ | with_reducible refine below_drewN ?_ _ | with_reducible refine below_al ?_ _ | with_reducible refine Below.setCell ?_ ?_ _ | exact Nat.le_refl _ | omega | (simp; done) | (simp; omega)))) hb1; obtain ⟨hc1, hf1⟩ := bcell hb1
    have K1 := blk_next (heap_alloc_new w _) hb1
    have hz := blk_lt K1
    obtain ⟨c, f⟩ := blk_cells K1
    have c0 := c 0 _ rfl; have c1 := c 1 _ rfl; have c2 := c 2 _ rfl
    have f0 := f 0; have f1 := f 1; have f2 := f 2
    have a0 : ∀ o, (w1.alloc o).cell? ⟨w.heap.size, 0, none⟩ = some (.int .i64 0) := fun o => (blk_cells (blk_alloc K1 o)).1 0 _ rfl
    have a1 : ∀ o, (w1.alloc o).cell? ⟨w.heap.size, 1, none⟩ = some (.int .i64 0) := fun o => (blk_cells (blk_alloc K1 o)).1 1 _ rfl
    have a2 : ∀ o, (w1.alloc o).cell? ⟨w.heap.size, 2, none⟩ = some (.string ⟨#[]⟩) := fun o => (blk_cells (blk_alloc K1 o)).1 2 _ rfl
    have g : ∀ o k, (w1.alloc o).frozen? ⟨w.heap.size, k, none⟩ = false := fun o k => (blk_cells (blk_alloc K1 o)).2 k
    clear c f hc1 hf1
    go_wp2_with fail
    refine (rread_any s _ hs).mono ?_
    rintro e w' ⟨rfl, rfl⟩
    rw [← HR.out]
    go_wp2
    exact bodyPost_ret (v := .tuple #[.agg #[.int .i64 0, .int .i64 0, .string ⟨#[]⟩], .int .i64 r.2]) (by simp [results, Try.results47, go_sem, World.cell?_alloc_lt, hz, c0, c1, c2]) rfl ⟨rfl, by (repeat (first | with_reducible exact Below.refl _ _ | with_reducible assumption | with_reducible refine Below.drew ?_ | with_reducible refine below_drewN ?_ _ | with_reducible refine below_al ?_ _ | with_reducible refine Below.setCell ?_ ?_ _ | exact Nat.le_refl _ | omega | (simp; done) | (simp; omega)))⟩
set_option maxHeartbeats 1600000 in
theorem runq_n2 (s : ByteArray) (w : World) (hs : s.size ≤ 1000000000) (h : Lx.fold (Lx.ls s) ≠ [110, 117, 108, 108]) (h0 : 0 < s.size) (h1 : s[0].toNat ≠ 39) (h2 : 2 < s.size) (h3 : (Lx.lo s[0]).toNat ≠ 120) (hR : Lx.unquote (Lx.ls s) = if (Lx.read (Lx.ls s)).2 ≠ 0 then ((0, 0, []), (Lx.read (Lx.ls s)).2) else ((1, (Lx.read (Lx.ls s)).1, []), 0)) :
    Calls Try.prog 47 #[.string s] w fun e w' => e = valE (Lx.unquote (Lx.ls s)) ∧ Below w.heap.size w w' := by
  rw [hR]
  obtain ⟨r, hr⟩ : ∃ r, r = Lx.read (Lx.ls s) := ⟨_, rfl⟩
  rw [← hr]
  have HR := Lib.hid hr
  obtain ⟨F, hF⟩ : ∃ F, F = Lx.bs (Lx.fold (Lx.ls s)) := ⟨_, rfl⟩
  have HF := Lib.hid hF
  have hFs : F.size = s.size := by rw [hF, Lx.foldB_size]
  have HFS := Lib.hid hFs
  have hFl : F.size ≤ 1000000000 := by omega
  have hq : (F.toList == [110, 117, 108, 108]) = false := by rw [hF, Lx.bs_toList]; simpa using h
  have d1 : decide (0 < (s.size : Int)) = true := decide_eq_true (by omega)
  have d2 : ((s[0].toNat : Int) == 39) = false := by simp; omega
  have d3 : decide (2 < (F.size : Int)) = true := decide_eq_true (by omega)
  have q0 : 0 < F.size := by omega
  have q1 : 1 < F.size := by omega
  have q2 : F.size - 1 < F.size := by omega
  have e1 : ((F.size : Int) - 1).toNat = F.size - 1 := by omega
  have z0 : F[0]'q0 = Lx.lo s[0] := by subst hF; exact Lx.foldB_at _
  have z1 : F[1]'q1 = Lx.lo s[1] := by subst hF; exact Lx.foldB_at _
  have z2 : F[F.size - 1]'q2 = Lx.lo (s[s.size - 1]'(by omega)) := by
    have h5 := Lx.foldB_at (s := s) (k := s.size - 1) (by omega)
    subst hF
    rw [← h5]
    congr 1
    rw [hFs]
  have d4 : (((F[0]'q0).toNat : Int) == 120) = false := by rw [z0]; simp; omega
  clear h hF hFs hr hR h1 h3 z0 z1 z2
  by_cases he : r.2 = 0
  · have d9 : (r.2 != 0) = false := by simp [he]
    have HE := Lib.hid he
    rw [if_neg (by simp [he])]
    clear he
    go_enter Try.func47, Try.ntmps47
    go_wp2_with fail
    refine (rfold_any s _ hs).mono ?_
    rintro e w1 ⟨rfl, hb1⟩
    rw [← HF.out]
    have hB1 := below_next (w := w) (by (repeat (first | with_reducible exact Below.refl _ _ | with_reducible assumption | with_reducible refine Below.drew ?_ | with_reducible refine below_drewN ?_ _ | with_reducible refine below_al ?_ _ | with_reducible refine Below.setCell ?_ ?_ _ | exact Nat.le_refl _ | omega | (simp; done) | (simp; omega)))) hb1; obtain ⟨hc1, hf1⟩ := bcell hb1
    have K1 := blk_next (heap_alloc_new w _) hb1
    have hz := blk_lt K1
    obtain ⟨c, f⟩ := blk_cells K1
    have c0 := c 0 _ rfl; have c1 := c 1 _ rfl; have c2 := c 2 _ rfl
    have f0 := f 0; have f1 := f 1; have f2 := f 2
    have a0 : ∀ o, (w1.alloc o).cell? ⟨w.heap.size, 0, none⟩ = some (.int .i64 0) := fun o => (blk_cells (blk_alloc K1 o)).1 0 _ rfl
    have a1 : ∀ o, (w1.alloc o).cell? ⟨w.heap.size, 1, none⟩ = some (.int .i64 0) := fun o => (blk_cells (blk_alloc K1 o)).1 1 _ rfl
    have a2 : ∀ o, (w1.alloc o).cell? ⟨w.heap.size, 2, none⟩ = some (.string ⟨#[]⟩) := fun o => (blk_cells (blk_alloc K1 o)).1 2 _ rfl
    have g : ∀ o k, (w1.alloc o).frozen? ⟨w.heap.size, k, none⟩ = false := fun o k => (blk_cells (blk_alloc K1 o)).2 k
    clear c f hc1 hf1
    go_wp2_with fail
    refine (rread_any s _ hs).mono ?_
    rintro e w' ⟨rfl, rfl⟩
    rw [← HR.out]
    go_wp2
    exact bodyPost_ret (v := .tuple #[.agg #[.int .i64 1, .int .i64 r.1, .string ⟨#[]⟩], .int .i64 0]) (by simp [results, Try.results47, go_sem, World.cell?_alloc_lt, hz, c0, c1, c2]) rfl ⟨rfl, by (repeat (first | with_reducible exact Below.refl _ _ | with_reducible assumption | with_reducible refine Below.drew ?_ | with_reducible refine below_drewN ?_ _ | with_reducible refine below_al ?_ _ | with_reducible refine Below.setCell ?_ ?_ _ | exact Nat.le_refl _ | omega | (simp; done) | (simp; omega)))⟩
  · have d9 : (r.2 != 0) = true := by simp [he]
    have HE := Lib.hid he
    rw [if_pos he]
    clear he
    go_enter Try.func47, Try.ntmps47
    go_wp2_with fail
    refine (rfold_any s _ hs).mono ?_
    rintro e w1 ⟨rfl, hb1⟩
    rw [← HF.out]
    have hB1 := below_next (w := w) (by (repeat (first | with_reducible exact Below.refl _ _ | with_reducible assumption | with_reducible refine Below.drew ?_ | with_reducible refine below_drewN ?_ _ | with_reducible refine below_al ?_ _ | with_reducible refine Below.setCell ?_ ?_ _ | exact Nat.le_refl _ | omega | (simp; done) | (simp; omega)))) hb1; obtain ⟨hc1, hf1⟩ := bcell hb1
    have K1 := blk_next (heap_alloc_new w _) hb1
    have hz := blk_lt K1
    obtain ⟨c, f⟩ := blk_cells K1
    have c0 := c 0 _ rfl; have c1 := c 1 _ rfl; have c2 := c 2 _ rfl
    have f0 := f 0; have f1 := f 1; have f2 := f 2
    have a0 : ∀ o, (w1.alloc o).cell? ⟨w.heap.size, 0, none⟩ = some (.int .i64 0) := fun o => (blk_cells (blk_alloc K1 o)).1 0 _ rfl
    have a1 : ∀ o, (w1.alloc o).cell? ⟨w.heap.size, 1, none⟩ = some (.int .i64 0) := fun o => (blk_cells (blk_alloc K1 o)).1 1 _ rfl
    have a2 : ∀ o, (w1.alloc o).cell? ⟨w.heap.size, 2, none⟩ = some (.string ⟨#[]⟩) := fun o => (blk_cells (blk_alloc K1 o)).1 2 _ rfl
    have g : ∀ o k, (w1.alloc o).frozen? ⟨w.heap.size, k, none⟩ = false := fun o k => (blk_cells (blk_alloc K1 o)).2 k
    clear c f hc1 hf1
    go_wp2_with fail
    refine (rread_any s _ hs).mono ?_
    rintro e w' ⟨rfl, rfl⟩
    rw [← HR.out]
    go_wp2
    exact bodyPost_ret (v := .tuple #[.agg #[.int .i64 0, .int .i64 0, .string ⟨#[]⟩], .int .i64 r.2]) (by simp [results, Try.results47, go_sem, World.cell?_alloc_lt, hz, c0, c1, c2]) rfl ⟨rfl, by (repeat (first | with_reducible exact Below.refl _ _ | with_reducible assumption | with_reducible refine Below.drew ?_ | with_reducible refine below_drewN ?_ _ | with_reducible refine below_al ?_ _ | with_reducible refine Below.setCell ?_ ?_ _ | exact Nat.le_refl _ | omega | (simp; done) | (simp; omega)))⟩
set_option maxHeartbeats 1600000 in
theorem runq_n3 (s : ByteArray) (w : World) (hs : s.size ≤ 1000000000) (h : Lx.fold (Lx.ls s) ≠ [110, 117, 108, 108]) (h0 : 0 < s.size) (h1 : s[0].toNat ≠ 39) (h2 : 2 < s.size) (h3 : (Lx.lo s[0]).toNat = 120) (h4 : s[1].toNat ≠ 39) (hR : Lx.unquote (Lx.ls s) = if (Lx.read (Lx.ls s)).2 ≠ 0 then ((0, 0, []), (Lx.read (Lx.ls s)).2) else ((1, (Lx.read (Lx.ls s)).1, []), 0)) :
    Calls Try.prog 47 #[.string s] w fun e w' => e = valE (Lx.unquote (Lx.ls s)) ∧ Below w.heap.size w w' := by
  rw [hR]
  obtain ⟨r, hr⟩ : ∃ r, r = Lx.read (Lx.ls s) := ⟨_, rfl⟩
  rw [← hr]
  have HR := Lib.hid hr
  obtain ⟨F, hF⟩ : ∃ F, F = Lx.bs (Lx.fold (Lx.ls s)) := ⟨_, rfl⟩
  have HF := Lib.hid hF
  have hFs : F.size = s.size := by rw [hF, Lx.foldB_size]
  have HFS := Lib.hid hFs
  have hFl : F.size ≤ 1000000000 := by omega
  have hq : (F.toList == [110, 117, 108, 108]) = false := by rw [hF, Lx.bs_toList]; simpa using h
  have d1 : decide (0 < (s.size : Int)) = true := decide_eq_true (by omega)
  have d2 : ((s[0].toNat : Int) == 39) = false := by simp; omega
  have d3 : decide (2 < (F.size : Int)) = true := decide_eq_true (by omega)
  have q0 : 0 < F.size := by omega
  have q1 : 1 < F.size := by omega
  have q2 : F.size - 1 < F.size := by omega
  have e1 : ((F.size : Int) - 1).toNat = F.size - 1 := by omega
  have z0 : F[0]'q0 = Lx.lo s[0] := by subst hF; exact Lx.foldB_at _
  have z1 : F[1]'q1 = Lx.lo s[1] := by subst hF; exact Lx.foldB_at _
  have z2 : F[F.size - 1]'q2 = Lx.lo (s[s.size - 1]'(by omega)) := by
    have h5 := Lx.foldB_at (s := s) (k := s.size - 1) (by omega)
    subst hF
    rw [← h5]
    congr 1
    rw [hFs]
  have d4 : (((F[0]'q0).toNat : Int) == 120) = true := by rw [z0]; simp; omega
  have d5 : (((F[1]'q1).toNat : Int) == 39) = false := by
    have h5 := (not_congr (Lx.lo_39 s[1])).2 h4
    rw [z1]; simp; omega
  clear h hF hFs hr hR h1 h3 h4 z0 z1 z2
  by_cases he : r.2 = 0
  · have d9 : (r.2 != 0) = false := by simp [he]
    have HE := Lib.hid he
    rw [if_neg (by simp [he])]
    clear he
    go_enter Try.func47, Try.ntmps47
    go_wp2_with fail
    refine (rfold_any s _ hs).mono ?_
    rintro e w1 ⟨rfl, hb1⟩
    rw [← HF.out]
    have hB1 := below_next (w := w) (by (repeat (first | with_reducible exact Below.refl _ _ | with_reducible assumption | with_reducible refine Below.drew ?_ | with_reducible refine below_drewN ?_ _ | with_reducible refine below_al ?_ _ | with_reducible refine Below.setCell ?_ ?_ _ | exact Nat.le_refl _ | omega | (simp; done) | (simp; omega)))) hb1; obtain ⟨hc1, hf1⟩ := bcell hb1
    have K1 := blk_next (heap_alloc_new w _) hb1
    have hz := blk_lt K1
    obtain ⟨c, f⟩ := blk_cells K1
    have c0 := c 0 _ rfl; have c1 := c 1 _ rfl; have c2 := c 2 _ rfl
    have f0 := f 0; have f1 := f 1; have f2 := f 2
    have a0 : ∀ o, (w1.alloc o).cell? ⟨w.heap.size, 0, none⟩ = some (.int .i64 0) := fun o => (blk_cells (blk_alloc K1 o)).1 0 _ rfl
    have a1 : ∀ o, (w1.alloc o).cell? ⟨w.heap.size, 1, none⟩ = some (.int .i64 0) := fun o => (blk_cells (blk_alloc K1 o)).1 1 _ rfl
    have a2 : ∀ o, (w1.alloc o).cell? ⟨w.heap.size, 2, none⟩ = some (.string ⟨#[]⟩) := fun o => (blk_cells (blk_alloc K1 o)).1 2 _ rfl
    have g : ∀ o k, (w1.alloc o).frozen? ⟨w.heap.size, k, none⟩ = false := fun o k => (blk_cells (blk_alloc K1 o)).2 k
    clear c f hc1 hf1
    go_wp2_with fail
    refine (rread_any s _ hs).mono ?_
    rintro e w' ⟨rfl, rfl⟩
    rw [← HR.out]
    go_wp2
    exact bodyPost_ret (v := .tuple #[.agg #[.int .i64 1, .int .i64 r.1, .string ⟨#[]⟩], .int .i64 0]) (by simp [results, Try.results47, go_sem, World.cell?_alloc_lt, hz, c0, c1, c2]) rfl ⟨rfl, by (repeat (first | with_reducible exact Below.refl _ _ | with_reducible assumption | with_reducible refine Below.drew ?_ | with_reducible refine below_drewN ?_ _ | with_reducible refine below_al ?_ _ | with_reducible refine Below.setCell ?_ ?_ _ | exact Nat.le_refl _ | omega | (simp; done) | (simp; omega)))⟩
  · have d9 : (r.2 != 0) = true := by simp [he]
    have HE := Lib.hid he
    rw [if_pos he]
    clear he
    go_enter Try.func47, Try.ntmps47
    go_wp2_with fail
    refine (rfold_any s _ hs).mono ?_
    rintro e w1 ⟨rfl, hb1⟩
    rw [← HF.out]
    have hB1 := below_next (w := w) (by (repeat (first | with_reducible exact Below.refl _ _ | with_reducible assumption | with_reducible refine Below.drew ?_ | with_reducible refine below_drewN ?_ _ | with_reducible refine below_al ?_ _ | with_reducible refine Below.setCell ?_ ?_ _ | exact Nat.le_refl _ | omega | (simp; done) | (simp; omega)))) hb1; obtain ⟨hc1, hf1⟩ := bcell hb1
    have K1 := blk_next (heap_alloc_new w _) hb1
    have hz := blk_lt K1
    obtain ⟨c, f⟩ := blk_cells K1
    have c0 := c 0 _ rfl; have c1 := c 1 _ rfl; have c2 := c 2 _ rfl
    have f0 := f 0; have f1 := f 1; have f2 := f 2
    have a0 : ∀ o, (w1.alloc o).cell? ⟨w.heap.size, 0, none⟩ = some (.int .i64 0) := fun o => (blk_cells (blk_alloc K1 o)).1 0 _ rfl
    have a1 : ∀ o, (w1.alloc o).cell? ⟨w.heap.size, 1, none⟩ = some (.int .i64 0) := fun o => (blk_cells (blk_alloc K1 o)).1 1 _ rfl
    have a2 : ∀ o, (w1.alloc o).cell? ⟨w.heap.size, 2, none⟩ = some (.string ⟨#[]⟩) := fun o => (blk_cells (blk_alloc K1 o)).1 2 _ rfl
    have g : ∀ o k, (w1.alloc o).frozen? ⟨w.heap.size, k, none⟩ = false := fun o k => (blk_cells (blk_alloc K1 o)).2 k
    clear c f hc1 hf1
    go_wp2_with fail
    refine (rread_any s _ hs).mono ?_
    rintro e w' ⟨rfl, rfl⟩
    rw [← HR.out]
    go_wp2
    exact bodyPost_ret (v := .tuple #[.agg #[.int .i64 0, .int .i64 0, .string ⟨#[]⟩], .int .i64 r.2]) (by simp [results, Try.results47, go_sem, World.cell?_alloc_lt, hz, c0, c1, c2]) rfl ⟨rfl, by (repeat (first | with_reducible exact Below.refl _ _ | with_reducible assumption | with_reducible refine Below.drew ?_ | with_reducible refine below_drewN ?_ _ | with_reducible refine below_al ?_ _ | with_reducible refine Below.setCell ?_ ?_ _ | exact Nat.le_refl _ | omega | (simp; done) | (simp; omega)))⟩
set_option maxHeartbeats 1600000 in
theorem runq_n4 (s : ByteArray) (w : World) (hs : s.size ≤ 1000000000) (h : Lx.fold (Lx.ls s) ≠ [110, 117, 108, 108]) (h0 : 0 < s.size) (h1 : s[0].toNat ≠ 39) (h2 : 2 < s.size) (h3 : (Lx.lo s[0]).toNat = 120) (h4 : s[1].toNat = 39) (h5 : s[s.size - 1].toNat ≠ 39) (hR : Lx.unquote (Lx.ls s) = if (Lx.read (Lx.ls s)).2 ≠ 0 then ((0, 0, []), (Lx.read (Lx.ls s)).2) else ((1, (Lx.read (Lx.ls s)).1, []), 0)) :
    Calls Try.prog 47 #[.string s] w fun e w' => e = valE (Lx.unquote (Lx.ls s)) ∧ Below w.heap.size w w' := by
  rw [hR]
  obtain ⟨r, hr⟩ : ∃ r, r = Lx.read (Lx.ls s) := ⟨_, rfl⟩
  rw [← hr]
  have HR := Lib.hid hr
  obtain ⟨F, hF⟩ : ∃ F, F = Lx.bs (Lx.fold (Lx.ls s)) := ⟨_, rfl⟩
  have HF := Lib.hid hF
  have hFs : F.size = s.size := by rw [hF, Lx.foldB_size]
  have HFS := Lib.hid hFs
  have hFl : F.size ≤ 1000000000 := by omega
  have hq : (F.toList == [110, 117, 108, 108]) = false := by rw [hF, Lx.bs_toList]; simpa using h
  have d1 : decide (0 < (s.size : Int)) = true := decide_eq_true (by omega)
  have d2 : ((s[0].toNat : Int) == 39) = false := by simp; omega
  have d3 : decide (2 < (F.size : Int)) = true := decide_eq_true (by omega)
  have q0 : 0 < F.size := by omega
  have q1 : 1 < F.size := by omega
  have q2 : F.size - 1 < F.size := by omega
  have e1 : ((F.size : Int) - 1).toNat = F.size - 1 := by omega
  have z0 : F[0]'q0 = Lx.lo s[0] := by subst hF; exact Lx.foldB_at _
  have z1 : F[1]'q1 = Lx.lo s[1] := by subst hF; exact Lx.foldB_at _
  have z2 : F[F.size - 1]'q2 = Lx.lo (s[s.size - 1]'(by omega)) := by
    have h5 := Lx.foldB_at (s := s) (k := s.size - 1) (by omega)
    subst hF
    rw [← h5]
    congr 1
    rw [hFs]
  have d4 : (((F[0]'q0).toNat : Int) == 120) = true := by rw [z0]; simp; omega
  have d5 : (((F[1]'q1).toNat : Int) == 39) = true := by
    have h5 := (Lx.lo_39 s[1]).2 h4
    rw [z1]; simp; omega
  have d6 : (((F[F.size - 1]'q2).toNat : Int) == 39) = false := by
    have h6 := (not_congr (Lx.lo_39 (s[s.size - 1]'(by omega)))).2 h5
    rw [z2]; simp; omega
  clear h hF hFs hr hR h1 h3 h4 h5 z0 z1 z2
  by_cases he : r.2 = 0
  · have d9 : (r.2 != 0) = false := by simp [he]
    have HE := Lib.hid he
    rw [if_neg (by simp [he])]
    clear he
    go_enter Try.func47, Try.ntmps47
    go_wp2_with fail
    refine (rfold_any s _ hs).mono ?_
    rintro e w1 ⟨rfl, hb1⟩
    rw [← HF.out]
    have hB1 := below_next (w := w) (by (repeat (first | with_reducible exact Below.refl _ _ | with_reducible assumption | with_reducible refine Below.drew ?_ | with_reducible refine below_drewN ?_ _ | with_reducible refine below_al ?_ _ | with_reducible refine Below.setCell ?_ ?_ _ | exact Nat.le_refl _ | omega | (simp; done) | (simp; omega)))) hb1; obtain ⟨hc1, hf1⟩ := bcell hb1
    have K1 := blk_next (heap_alloc_new w _) hb1
    have hz := blk_lt K1
    obtain ⟨c, f⟩ := blk_cells K1
    have c0 := c 0 _ rfl; have c1 := c 1 _ rfl; have c2 := c 2 _ rfl
    have f0 := f 0; have f1 := f 1; have f2 := f 2
    have a0 : ∀ o, (w1.alloc o).cell? ⟨w.heap.size, 0, none⟩ = some (.int .i64 0) := fun o => (blk_cells (blk_alloc K1 o)).1 0 _ rfl
    have a1 : ∀ o, (w1.alloc o).cell? ⟨w.heap.size, 1, none⟩ = some (.int .i64 0) := fun o => (blk_cells (blk_alloc K1 o)).1 1 _ rfl
    have a2 : ∀ o, (w1.alloc o).cell? ⟨w.heap.size, 2, none⟩ = some (.string ⟨#[]⟩) := fun o => (blk_cells (blk_alloc K1 o)).1 2 _ rfl
    have g : ∀ o k, (w1.alloc o).frozen? ⟨w.heap.size, k, none⟩ = false := fun o k => (blk_cells (blk_alloc K1 o)).2 k
    clear c f hc1 hf1
    go_wp2_with fail
    refine (rread_any s _ hs).mono ?_
    rintro e w' ⟨rfl, rfl⟩
    rw [← HR.out]
    go_wp2
    exact bodyPost_ret (v := .tuple #[.agg #[.int .i64 1, .int .i64 r.1, .string ⟨#[]⟩], .int .i64 0]) (by simp [results, Try.results47, go_sem, World.cell?_alloc_lt, hz, c0, c1, c2]) rfl ⟨rfl, by (repeat (first | with_reducible exact Below.refl _ _ | with_reducible assumption | with_reducible refine Below.drew ?_ | with_reducible refine below_drewN ?_ _ | with_reducible refine below_al ?_ _ | with_reducible refine Below.setCell ?_ ?_ _ | exact Nat.le_refl _ | omega | (simp; done) | (simp; omega)))⟩
  · have d9 : (r.2 != 0) = true := by simp [he]
    have HE := Lib.hid he
    rw [if_pos he]
    clear he
    go_enter Try.func47, Try.ntmps47
    go_wp2_with fail
    refine (rfold_any s _ hs).mono ?_
    rintro e w1 ⟨rfl, hb1⟩
    rw [← HF.out]
    have hB1 := below_next (w := w) (by (repeat (first | with_reducible exact Below.refl _ _ | with_reducible assumption | with_reducible refine Below.drew ?_ | with_reducible refine below_drewN ?_ _ | with_reducible refine below_al ?_ _ | with_reducible refine Below.setCell ?_ ?_ _ | exact Nat.le_refl _ | omega | (simp; done) | (simp; omega)))) hb1; obtain ⟨hc1, hf1⟩ := bcell hb1
    have K1 := blk_next (heap_alloc_new w _) hb1
    have hz := blk_lt K1
    obtain ⟨c, f⟩ := blk_cells K1
    have c0 := c 0 _ rfl; have c1 := c 1 _ rfl; have c2 := c 2 _ rfl
    have f0 := f 0; have f1 := f 1; have f2 := f 2
    have a0 : ∀ o, (w1.alloc o).cell? ⟨w.heap.size, 0, none⟩ = some (.int .i64 0) := fun o => (blk_cells (blk_alloc K1 o)).1 0 _ rfl
    have a1 : ∀ o, (w1.alloc o).cell? ⟨w.heap.size, 1, none⟩ = some (.int .i64 0) := fun o => (blk_cells (blk_alloc K1 o)).1 1 _ rfl
    have a2 : ∀ o, (w1.alloc o).cell? ⟨w.heap.size, 2, none⟩ = some (.string ⟨#[]⟩) := fun o => (blk_cells (blk_alloc K1 o)).1 2 _ rfl
    have g : ∀ o k, (w1.alloc o).frozen? ⟨w.heap.size, k, none⟩ = false := fun o k => (blk_cells (blk_alloc K1 o)).2 k
    clear c f hc1 hf1
    go_wp2_with fail
    refine (rread_any s _ hs).mono ?_
    rintro e w' ⟨rfl, rfl⟩
    rw [← HR.out]
    go_wp2
    exact bodyPost_ret (v := .tuple #[.agg #[.int .i64 0, .int .i64 0, .string ⟨#[]⟩], .int .i64 r.2]) (by simp [results, Try.results47, go_sem, World.cell?_alloc_lt, hz, c0, c1, c2]) rfl ⟨rfl, by (repeat (first | with_reducible exact Below.refl _ _ | with_reducible assumption | with_reducible refine Below.drew ?_ | with_reducible refine below_drewN ?_ _ | with_reducible refine below_al ?_ _ | with_reducible refine Below.setCell ?_ ?_ _ | exact Nat.le_refl _ | omega | (simp; done) | (simp; omega)))⟩
theorem runquote_any (s : ByteArray) (w : World) (hs : s.size ≤ 1000000000) :
    Calls Try.prog 47 #[.string s] w fun e w' => e = valE (Lx.unquote (Lx.ls s)) ∧ Below w.heap.size w w' := by
  by_cases h : Lx.fold (Lx.ls s) = [110, 117, 108, 108]
  · exact runq_null s w hs h
  · by_cases h0 : 0 < s.size
    · by_cases h1 : s[0].toNat = 39
      · exact runq_quote s w hs h h0 h1
      · by_cases h2 : 2 < s.size
        · by_cases h3 : (Lx.lo s[0]).toNat = 120
          · by_cases h4 : s[1].toNat = 39
            · by_cases h5 : s[s.size - 1].toNat = 39
              · exact runq_x s w hs h h2 h1 h3 h4 h5
              · exact runq_n4 s w hs h h0 h1 h2 h3 h4 h5 (Lx.unq_read h (.inr ⟨h0, h1⟩) (fun ⟨_, _, _, b⟩ => h5 b))
            · exact runq_n3 s w hs h h0 h1 h2 h3 h4 (Lx.unq_read h (.inr ⟨h0, h1⟩) (fun ⟨_, _, b, _⟩ => h4 b))
          · exact runq_n2 s w hs h h0 h1 h2 h3 (Lx.unq_read h (.inr ⟨h0, h1⟩) (fun ⟨_, b, _, _⟩ => h3 b))
        · exact runq_n1 s w hs h h0 h1 h2 (Lx.unq_read h (.inr ⟨h0, h1⟩) (fun ⟨b, _⟩ => h2 b))
    · exact runq_n0 s w hs h h0 (Lx.unq_read h (.inl (by omega)) (fun ⟨b, _⟩ => h0 (by omega)))
end Go.Proofs.Ytepdpdlakgnpmaa
