import Derived.Test.YtepdpdlakgnpmaaRefLexC
import Derived.Test.YtepdpdlakgnpmaaRef3E
import Derived.Test.YtepdpdlakgnpmaaLexD
set_option linter.unusedVariables false
set_option linter.unusedSimpArgs false
namespace Go.Proofs.Ytepdpdlakgnpmaa
open Go.RowKit
attribute [local simp] Lx.bs_size
/-- What One hands back: what is wrong; where nothing is, the token. -/
def OneE (r : Lx.TR) (k : Nat) (e : Ending) : Prop :=
  ∃ (t : Lx.T) (j : Int), e = .returned (.tuple #[.agg #[.int .i64 t.kind, .string (Lx.bs t.text), .int .i64 t.val.1, .int .i64 t.val.2.1, .string (Lx.bs t.val.2.2), .int .i64 j], .int .i64 r.1]) ∧ (r.1 = 0 → t = r.2.1 ∧ j = (k : Int))
theorem OneE_ok {r : Lx.TR} {k : Nat} {e : Ending} (h : r.1 = 0) (he : e = .returned (.tuple #[.agg #[.int .i64 r.2.1.kind, .string (Lx.bs r.2.1.text), .int .i64 r.2.1.val.1, .int .i64 r.2.1.val.2.1, .string (Lx.bs r.2.1.val.2.2), .int .i64 (k : Int)], .int .i64 0])) : OneE r k e :=
  ⟨r.2.1, k, by rw [he, h], fun _ => ⟨rfl, rfl⟩⟩
theorem OneE_bad0 {r : Lx.TR} {k : Nat} {e : Ending} (h : r.1 ≠ 0) (he : e = .returned (.tuple #[.agg #[.int .i64 0, .string ⟨#[]⟩, .int .i64 0, .int .i64 0, .string ⟨#[]⟩, .int .i64 0], .int .i64 r.1])) : OneE r k e :=
  ⟨⟨0, [], (0, 0, [])⟩, 0, he, fun h' => absurd h' h⟩
theorem rvalue_neg (s : ByteArray) (k : Nat) (w : World) :
    Calls Try.prog 34 #[.string s, .int .i64 k, .int .i64 (-1)] w fun e w' => e = .returned (.tuple #[.agg #[.int .i64 0, .string ⟨#[]⟩, .int .i64 0, .int .i64 0, .string ⟨#[]⟩, .int .i64 0], .int .i64 8]) ∧ Below w.heap.size w w' := by
  go_enter Try.func34, Try.ntmps34
  go_wp2
  refine bodyPost_agg1 (B := w.heap.size) Try.results34 Try.underlying33 (by kernel_rfl) rfl (heap_alloc_new w _) rfl ⟨rfl, by (repeat (first | with_reducible exact Below.refl _ _ | with_reducible assumption | with_reducible refine Below.drew ?_ | with_reducible refine below_drewN ?_ _ | with_reducible refine below_al ?_ _ | with_reducible refine Below.setCell ?_ ?_ _ | exact Nat.le_refl _ | omega | (simp; done) | (simp; omega)))⟩
set_option maxHeartbeats 1000000 in
theorem rvalue_any (s : ByteArray) (k n : Nat) (x : Int) (w : World) (hs : s.size ≤ 1000000000) (hn : k + n ≤ s.size) (hx : x = ((k + n : Nat) : Int)) :
    Calls Try.prog 34 #[.string s, .int .i64 k, .int .i64 x] w fun e w' => (e = .returned (.tuple #[.agg #[.int .i64 3, .string (Lx.bs ((Lx.suf s k).take n)), .int .i64 (Lx.unquote ((Lx.suf s k).take n)).1.1, .int .i64 (Lx.unquote ((Lx.suf s k).take n)).1.2.1, .string (Lx.bs (Lx.unquote ((Lx.suf s k).take n)).1.2.2), .int .i64 (k : Int)], .int .i64 (Lx.unquote ((Lx.suf s k).take n)).2])) ∧ Below w.heap.size w w' := by
  subst hx
  have hsl : s.extract k (k + n) = Lx.bs ((Lx.suf s k).take n) := by rw [Lx.extract_bs, Nat.add_sub_cancel_left]; rfl
  have hll : (Lx.bs ((Lx.suf s k).take n)).size ≤ 1000000000 := by rw [Lx.bs_size, List.length_take, Lx.suf_length]; omega
  obtain ⟨t, ht⟩ : ∃ t, t = (Lx.suf s k).take n := ⟨_, rfl⟩
  rw [← ht] at hsl hll ⊢
  obtain ⟨v, hv⟩ : ∃ v, v = Lx.unquote t := ⟨_, rfl⟩
  rw [← hv]
  have HV := Lib.hid hv
  have HS := Lib.hid hsl
  have HL := Lib.hid hll
  clear hv hsl hll ht
  obtain ⟨m, hm⟩ : ∃ m, m = k + n := ⟨_, rfl⟩
  rw [← hm] at hn HS ⊢
  have hm1 : k ≤ m := by omega
  clear hm
  have d1 : decide ((m : Int) < 0) = false := decide_eq_false (by omega)
  go_enter Try.func34, Try.ntmps34
  go_wp2_with fail
  rw [HS.out]
  refine (runquote_any _ _ HL.out).mono ?_
  rintro e w1 ⟨rfl, hb1⟩
  rw [Lx.ls_bs, ← HV.out]
  unfold valE
  have hB1 := below_next (w := w) (by (repeat (first | with_reducible exact Below.refl _ _ | with_reducible assumption | with_reducible refine Below.drew ?_ | with_reducible refine below_drewN ?_ _ | with_reducible refine below_al ?_ _ | with_reducible refine Below.setCell ?_ ?_ _ | exact Nat.le_refl _ | omega | (simp; done) | (simp; omega)))) hb1; obtain ⟨hc1, hf1⟩ := bcell hb1
  have K1 := blk_next (heap_alloc_new w _) hb1
  go_wp2
  have K2 := blk_alloc K1 (.cells #[.int .i64 v.1.1, .int .i64 v.1.2.1, .string (Lx.bs v.1.2.2)] 31)
  have K3 := heap_alloc_new w1 (.cells #[.int .i64 v.1.1, .int .i64 v.1.2.1, .string (Lx.bs v.1.2.2)] 31)
  have hb2 : Below w.heap.size w (w1.alloc (.cells #[.int .i64 v.1.1, .int .i64 v.1.2.1, .string (Lx.bs v.1.2.2)] 31)) := by (repeat (first | with_reducible exact Below.refl _ _ | with_reducible assumption | with_reducible refine Below.drew ?_ | with_reducible refine below_drewN ?_ _ | with_reducible refine below_al ?_ _ | with_reducible refine Below.setCell ?_ ?_ _ | exact Nat.le_refl _ | omega | (simp; done) | (simp; omega)))
  have hs0 := HS.out
  obtain ⟨B2, hB2⟩ : ∃ B, B = w1.heap.size := ⟨_, rfl⟩
  have hlt := blk_lt K1
  rw [← hB2] at K3 hlt ⊢
  generalize hw2 : w1.alloc (.cells #[.int .i64 v.1.1, .int .i64 v.1.2.1, .string (Lx.bs v.1.2.2)] 31) = w2 at K2 K3 hb2 ⊢
  have K1 := K2
  have K1' := K2
  obtain ⟨c, f⟩ := blk_cells K1; have c0 := c 0 _ rfl; have c1 := c 1 _ rfl; have c2 := c 2 _ rfl; have c3 := c 3 _ rfl; have c4 := c 4 _ rfl; have c5 := c 5 _ rfl; have f0 := f 0; have f1 := f 1; have f2 := f 2; have f3 := f 3; have f4 := f 4; have f5 := f 5; clear c f
  obtain ⟨c', f'⟩ := blk_cells K3
  have v0 := c' 0 _ rfl; have v1 := c' 1 _ rfl; have v2 := c' 2 _ rfl
  clear c' f' hc1 hf1 hB2 hw2 K1 K2 K3 hb1 hB1
  go_region
  go_wp2
  refine bodyPost_agg1 (B := w.heap.size) Try.results34 Try.underlying33 (by kernel_rfl) rfl (blk_drew (stored6 K1' _ _ _ _ _ _)) rfl ⟨?_, by (repeat (first | with_reducible exact Below.refl _ _ | with_reducible assumption | with_reducible refine Below.drew ?_ | with_reducible refine below_drewN ?_ _ | with_reducible refine below_al ?_ _ | with_reducible refine Below.setCell ?_ ?_ _ | exact Nat.le_refl _ | omega | (simp; done) | (simp; omega)))⟩
  rfl
set_option maxHeartbeats 1000000 in
theorem one_quo_none (s : ByteArray) (k : Nat) (w : World) (hs : s.size ≤ 1000000000) (hk : k < s.size) (hc : s[k].toNat = 39) (hq : Lx.qEnd (Lx.suf s (k + 1)) = none) :
    Calls Try.prog 21 #[.string s, .int .i64 k] w fun e w' => OneE (Lx.tok (Lx.suf s k)) k e ∧ Below w.heap.size w w' := by
  have e39 : s[k] = 39 := Lx.u8_of (n := 39) (by omega) hc
  have hT : Lx.tok (Lx.suf s k) = Lx.bad 8 := by
    have hl : Lx.let_ s[k] = false := by rw [e39]; rfl
    have hdg : Lx.dig s[k] = false := by rw [e39]; rfl
    rw [Lx.suf_cons hk, Lx.tok]
    simp only [hl, hdg, Bool.false_eq_true, if_false]
    rw [if_pos (by rw [e39]; rfl), hq]
    rfl
  rw [hT]
  have hsh : Lx.shift (Lx.qEnd (Lx.suf s (k + 1))) (k + 1) = none := by rw [hq]; rfl
  have d1 : ((s[k].toNat : Int) == 39) = true := by rw [hc]; rfl
  have HQ := Lib.hid hsh
  clear hT e39 hc hq hsh
  go_enter Try.func21, Try.ntmps21
  go_wp2_with fail
  refine (rquoted_true s k _ hs hk).mono ?_
  rintro e w' ⟨rfl, rfl⟩
  rw [HQ.out]
  unfold plainE
  go_wp2_with fail
  refine (rvalue_neg s k _).mono ?_
  rintro e w1 ⟨rfl, hb1⟩
  have hB1 := below_next (w := w) (by (repeat (first | with_reducible exact Below.refl _ _ | with_reducible assumption | with_reducible refine Below.drew ?_ | with_reducible refine below_drewN ?_ _ | with_reducible refine below_al ?_ _ | with_reducible refine Below.setCell ?_ ?_ _ | exact Nat.le_refl _ | omega | (simp; done) | (simp; omega)))) hb1; obtain ⟨hc1, hf1⟩ := bcell hb1
  have K0 := blk_next (heap_alloc_new w _) hb1
  have K1 := K0
  have K1' := K1
  obtain ⟨c, f⟩ := blk_cells K1; have c0 := c 0 _ rfl; have c1 := c 1 _ rfl; have c2 := c 2 _ rfl; have c3 := c 3 _ rfl; have c4 := c 4 _ rfl; have c5 := c 5 _ rfl; have f0 := f 0; have f1 := f 1; have f2 := f 2; have f3 := f 3; have f4 := f 4; have f5 := f 5; clear c f
  clear K1
  clear hc1 hf1
  go_wp2
  refine bodyPost_agg1 (B := w.heap.size) Try.results21 Try.underlying33 (by kernel_rfl) rfl (stored6 K1' _ _ _ _ _ _) rfl ⟨?_, by (repeat (first | with_reducible exact Below.refl _ _ | with_reducible assumption | with_reducible refine Below.drew ?_ | with_reducible refine below_drewN ?_ _ | with_reducible refine below_al ?_ _ | with_reducible refine Below.setCell ?_ ?_ _ | exact Nat.le_refl _ | omega | (simp; done) | (simp; omega)))⟩
  exact OneE_bad0 (by decide) rfl
set_option maxHeartbeats 1000000 in
theorem one_quo_some (s : ByteArray) (k : Nat) (w : World) (hs : s.size ≤ 1000000000) (hk : k < s.size) (hc : s[k].toNat = 39) (n : Nat) (hq : (Lx.qEnd (Lx.suf s (k + 1))).map (· + 1) = some n) (hn : k + n ≤ s.size) :
    Calls Try.prog 21 #[.string s, .int .i64 k] w fun e w' => OneE (Lx.tok (Lx.suf s k)) k e ∧ Below w.heap.size w w' := by
  have e39 : s[k] = 39 := Lx.u8_of (n := 39) (by omega) hc
  have hT : Lx.tok (Lx.suf s k) = Lx.valT (Lx.suf s k) n := by
    have hl : Lx.let_ s[k] = false := by rw [e39]; rfl
    have hdg : Lx.dig s[k] = false := by rw [e39]; rfl
    rw [Lx.suf_cons hk, Lx.tok]
    simp only [hl, hdg, Bool.false_eq_true, if_false]
    rw [if_pos (by rw [e39]; rfl), hq]
    rfl
  rw [hT]
  obtain ⟨r, hr⟩ : ∃ r, r = Lx.valT (Lx.suf s k) n := ⟨_, rfl⟩
  rw [← hr]
  have HR := Lib.hid hr
  obtain ⟨v, hv⟩ : ∃ v, v = Lx.unquote ((Lx.suf s k).take n) := ⟨_, rfl⟩
  have HV := Lib.hid hv
  clear hr hv
  have hsh : Lx.shift (Lx.qEnd (Lx.suf s (k + 1))) (k + 1) = some (k + n) := by
    cases h : Lx.qEnd (Lx.suf s (k + 1)) with
    | none => rw [h] at hq; cases hq
    | some q => rw [h] at hq; simp at hq; simp [Lx.shift]; omega
  have d1 : ((s[k].toNat : Int) == 39) = true := by rw [hc]; rfl
  have HQ := Lib.hid hsh
  clear hT e39 hc hq hsh
  go_enter Try.func21, Try.ntmps21
  go_wp2_with fail
  refine (rquoted_true s k _ hs hk).mono ?_
  rintro e w' ⟨rfl, rfl⟩
  rw [HQ.out]
  unfold plainE
  go_wp2_with fail
  refine (rvalue_any s k n _ _ hs (by omega) (by omega)).mono ?_
  rintro e w1 ⟨rfl, hb1⟩
  rw [← HV.out]
  have hB1 := below_next (w := w) (by (repeat (first | with_reducible exact Below.refl _ _ | with_reducible assumption | with_reducible refine Below.drew ?_ | with_reducible refine below_drewN ?_ _ | with_reducible refine below_al ?_ _ | with_reducible refine Below.setCell ?_ ?_ _ | exact Nat.le_refl _ | omega | (simp; done) | (simp; omega)))) hb1; obtain ⟨hc1, hf1⟩ := bcell hb1
  have K0 := blk_next (heap_alloc_new w _) hb1
  have K1 := K0
  have K1' := K1
  obtain ⟨c, f⟩ := blk_cells K1; have c0 := c 0 _ rfl; have c1 := c 1 _ rfl; have c2 := c 2 _ rfl; have c3 := c 3 _ rfl; have c4 := c 4 _ rfl; have c5 := c 5 _ rfl; have f0 := f 0; have f1 := f 1; have f2 := f 2; have f3 := f 3; have f4 := f 4; have f5 := f 5; clear c f
  clear K1
  clear hc1 hf1
  go_wp2
  refine bodyPost_agg1 (B := w.heap.size) Try.results21 Try.underlying33 (by kernel_rfl) rfl (stored6 K1' _ _ _ _ _ _) rfl ⟨?_, by (repeat (first | with_reducible exact Below.refl _ _ | with_reducible assumption | with_reducible refine Below.drew ?_ | with_reducible refine below_drewN ?_ _ | with_reducible refine below_al ?_ _ | with_reducible refine Below.setCell ?_ ?_ _ | exact Nat.le_refl _ | omega | (simp; done) | (simp; omega)))⟩
  by_cases he : v.2 = 0
  · refine OneE_ok (by rw [HR.out]; simp [Lx.valT, ← HV.out, he]) ?_
    rw [HR.out]
    simp [Lx.valT, ← HV.out, he]
  · have e1 : r.1 = v.2 := by rw [HR.out]; simp [Lx.valT, ← HV.out, he, Lx.bad]
    refine ⟨⟨3, (Lx.suf s k).take n, v.1⟩, (k : Int), ?_, fun h => absurd (e1.symm.trans h) he⟩
    rw [e1]
    rfl
set_option maxHeartbeats 1000000 in
theorem one_blob_none (s : ByteArray) (k : Nat) (w : World) (hs : s.size ≤ 1000000000) (hk : k < s.size) (hx : s[k].toNat = 120 ∨ s[k].toNat = 88) (hl2 : k + 1 < s.size) (h39 : s[k + 1].toNat = 39) (hq : Lx.bEnd (Lx.suf s (k + 2)) = none) :
    Calls Try.prog 21 #[.string s, .int .i64 k] w fun e w' => OneE (Lx.tok (Lx.suf s k)) k e ∧ Below w.heap.size w w' := by
  have hl : Lx.let_ s[k] = true := by simp [Lx.let_]; omega
  have hT : Lx.tok (Lx.suf s k) = Lx.bad 8 := by
    have hd : (Lx.suf s k).drop 2 = Lx.suf s (k + 2) := by rw [Lx.suf_eq, Lx.suf_eq, List.drop_drop]
    have hb' := Lx.isBlob_yes hl2 hx h39
    rw [Lx.suf_cons hk] at hb' hd ⊢
    rw [Lx.tok]
    simp only [hl, if_true, hb', hd, hq]
    rfl
  rw [hT]
  have hsh : Lx.shift (Lx.bEnd (Lx.suf s (k + 1 + 1))) (k + 1 + 1) = none := by rw [show k + 1 + 1 = k + 2 from rfl, hq]; rfl
  have d0 : ((s[k].toNat : Int) == 39) = false := by simp; omega
  have d3 : ((s[k + 1].toNat : Int) == 39) = true := by rw [h39]; rfl
  have d2 : decide ((k : Int) + 1 < (s.size : Int)) = true := decide_eq_true (by omega)
  have HQ := Lib.hid hsh
  have dd : ((s[k].toNat : Int) == 120) = true ∨ ((s[k].toNat : Int) == 120) = false ∧ ((s[k].toNat : Int) == 88) = true := by
    rcases hx with h | h
    · left; rw [h]; rfl
    · right; rw [h]; exact ⟨rfl, rfl⟩
  clear hT h39 hq hsh hl hx
  rcases dd with d1 | ⟨d1, d1'⟩
  all_goals
    go_enter Try.func21, Try.ntmps21
    go_wp2_with fail
    refine (rquoted_false s (k + 1) _ hs (by omega)).mono ?_
    rintro e w' ⟨rfl, rfl⟩
    rw [HQ.out]
    unfold plainE
    go_wp2_with fail
    refine (rvalue_neg s k _).mono ?_
    rintro e w1 ⟨rfl, hb1⟩
    have hB1 := below_next (w := w) (by (repeat (first | with_reducible exact Below.refl _ _ | with_reducible assumption | with_reducible refine Below.drew ?_ | with_reducible refine below_drewN ?_ _ | with_reducible refine below_al ?_ _ | with_reducible refine Below.setCell ?_ ?_ _ | exact Nat.le_refl _ | omega | (simp; done) | (simp; omega)))) hb1; obtain ⟨hc1, hf1⟩ := bcell hb1
    have K0 := blk_next (heap_alloc_new w _) hb1
    have K1 := K0
    have K1' := K1
    obtain ⟨c, f⟩ := blk_cells K1; have c0 := c 0 _ rfl; have c1 := c 1 _ rfl; have c2 := c 2 _ rfl; have c3 := c 3 _ rfl; have c4 := c 4 _ rfl; have c5 := c 5 _ rfl; have f0 := f 0; have f1 := f 1; have f2 := f 2; have f3 := f 3; have f4 := f 4; have f5 := f 5; clear c f
    clear K1
    clear hc1 hf1
    go_wp2
    refine bodyPost_agg1 (B := w.heap.size) Try.results21 Try.underlying33 (by kernel_rfl) rfl (stored6 K1' _ _ _ _ _ _) rfl ⟨?_, by (repeat (first | with_reducible exact Below.refl _ _ | with_reducible assumption | with_reducible refine Below.drew ?_ | with_reducible refine below_drewN ?_ _ | with_reducible refine below_al ?_ _ | with_reducible refine Below.setCell ?_ ?_ _ | exact Nat.le_refl _ | omega | (simp; done) | (simp; omega)))⟩
    exact OneE_bad0 (by decide) rfl
set_option maxHeartbeats 1000000 in
theorem one_blob_some (s : ByteArray) (k : Nat) (w : World) (hs : s.size ≤ 1000000000) (hk : k < s.size) (hx : s[k].toNat = 120 ∨ s[k].toNat = 88) (hl2 : k + 1 < s.size) (h39 : s[k + 1].toNat = 39) (n : Nat) (hq : (Lx.bEnd (Lx.suf s (k + 2))).map (· + 2) = some n) (hn : k + n ≤ s.size) :
    Calls Try.prog 21 #[.string s, .int .i64 k] w fun e w' => OneE (Lx.tok (Lx.suf s k)) k e ∧ Below w.heap.size w w' := by
  have hl : Lx.let_ s[k] = true := by simp [Lx.let_]; omega
  have hT : Lx.tok (Lx.suf s k) = Lx.valT (Lx.suf s k) n := by
    have hd : (Lx.suf s k).drop 2 = Lx.suf s (k + 2) := by rw [Lx.suf_eq, Lx.suf_eq, List.drop_drop]
    have hb' := Lx.isBlob_yes hl2 hx h39
    rw [Lx.suf_cons hk] at hb' hd ⊢
    rw [Lx.tok]
    simp only [hl, if_true, hb', hd, hq]
    rfl
  rw [hT]
  obtain ⟨r, hr⟩ : ∃ r, r = Lx.valT (Lx.suf s k) n := ⟨_, rfl⟩
  rw [← hr]
  have HR := Lib.hid hr
  obtain ⟨v, hv⟩ : ∃ v, v = Lx.unquote ((Lx.suf s k).take n) := ⟨_, rfl⟩
  have HV := Lib.hid hv
  clear hr hv
  have hsh : Lx.shift (Lx.bEnd (Lx.suf s (k + 1 + 1))) (k + 1 + 1) = some (k + n) := by
    rw [show k + 1 + 1 = k + 2 from rfl]
    cases h : Lx.bEnd (Lx.suf s (k + 2)) with
    | none => rw [h] at hq; cases hq
    | some q => rw [h] at hq; simp at hq; simp [Lx.shift]; omega
  have d0 : ((s[k].toNat : Int) == 39) = false := by simp; omega
  have d3 : ((s[k + 1].toNat : Int) == 39) = true := by rw [h39]; rfl
  have d2 : decide ((k : Int) + 1 < (s.size : Int)) = true := decide_eq_true (by omega)
  have HQ := Lib.hid hsh
  have dd : ((s[k].toNat : Int) == 120) = true ∨ ((s[k].toNat : Int) == 120) = false ∧ ((s[k].toNat : Int) == 88) = true := by
    rcases hx with h | h
    · left; rw [h]; rfl
    · right; rw [h]; exact ⟨rfl, rfl⟩
  clear hT h39 hq hsh hl hx
  rcases dd with d1 | ⟨d1, d1'⟩
  all_goals
    go_enter Try.func21, Try.ntmps21
    go_wp2_with fail
    refine (rquoted_false s (k + 1) _ hs (by omega)).mono ?_
    rintro e w' ⟨rfl, rfl⟩
    rw [HQ.out]
    unfold plainE
    go_wp2_with fail
    refine (rvalue_any s k n _ _ hs (by omega) (by omega)).mono ?_
    rintro e w1 ⟨rfl, hb1⟩
    rw [← HV.out]
    have hB1 := below_next (w := w) (by (repeat (first | with_reducible exact Below.refl _ _ | with_reducible assumption | with_reducible refine Below.drew ?_ | with_reducible refine below_drewN ?_ _ | with_reducible refine below_al ?_ _ | with_reducible refine Below.setCell ?_ ?_ _ | exact Nat.le_refl _ | omega | (simp; done) | (simp; omega)))) hb1; obtain ⟨hc1, hf1⟩ := bcell hb1
    have K0 := blk_next (heap_alloc_new w _) hb1
    have K1 := K0
    have K1' := K1
    obtain ⟨c, f⟩ := blk_cells K1; have c0 := c 0 _ rfl; have c1 := c 1 _ rfl; have c2 := c 2 _ rfl; have c3 := c 3 _ rfl; have c4 := c 4 _ rfl; have c5 := c 5 _ rfl; have f0 := f 0; have f1 := f 1; have f2 := f 2; have f3 := f 3; have f4 := f 4; have f5 := f 5; clear c f
    clear K1
    clear hc1 hf1
    go_wp2
    refine bodyPost_agg1 (B := w.heap.size) Try.results21 Try.underlying33 (by kernel_rfl) rfl (stored6 K1' _ _ _ _ _ _) rfl ⟨?_, by (repeat (first | with_reducible exact Below.refl _ _ | with_reducible assumption | with_reducible refine Below.drew ?_ | with_reducible refine below_drewN ?_ _ | with_reducible refine below_al ?_ _ | with_reducible refine Below.setCell ?_ ?_ _ | exact Nat.le_refl _ | omega | (simp; done) | (simp; omega)))⟩
    by_cases he : v.2 = 0
    · refine OneE_ok (by rw [HR.out]; simp [Lx.valT, ← HV.out, he]) ?_
      rw [HR.out]
      simp [Lx.valT, ← HV.out, he]
    · have e1 : r.1 = v.2 := by rw [HR.out]; simp [Lx.valT, ← HV.out, he, Lx.bad]
      refine ⟨⟨3, (Lx.suf s k).take n, v.1⟩, (k : Int), ?_, fun h => absurd (e1.symm.trans h) he⟩
      rw [e1]
      rfl
end Go.Proofs.Ytepdpdlakgnpmaa
