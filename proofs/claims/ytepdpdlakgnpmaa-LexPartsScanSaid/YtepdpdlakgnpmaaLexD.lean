import Derived.Test.YtepdpdlakgnpmaaTextE
import Derived.Test.YtepdpdlakgnpmaaLxC
import Derived.BigRegion
import Derived.RegionTactic
import Derived.Deep.Cut
set_option linter.unusedVariables false
set_option linter.unusedSimpArgs false
namespace Go.Proofs.Ytepdpdlakgnpmaa
open Go.RowKit
attribute [local simp] Lx.bs_size
def tokV (t : Lx.T) (k : Int) : Value := .agg #[.int .i64 t.kind, .string (Lx.bs t.text), .int .i64 t.val.1, .int .i64 t.val.2.1, .string (Lx.bs t.val.2.2), .int .i64 k]
def tok0 : Value := .agg #[.int .i64 0, .string ⟨#[]⟩, .int .i64 0, .int .i64 0, .string ⟨#[]⟩, .int .i64 0]
def tokE (r : Lx.TR) (k : Nat) : Ending := .returned (.tuple #[if r.1 = 0 then tokV r.2.1 k else tok0, .int .i64 ((if r.1 = 0 then k + r.2.2 else 0 : Nat) : Int), .int .i64 r.1])
set_option maxHeartbeats 1000000 in
theorem lvalue_any (s : ByteArray) (k n : Nat) (w : World) (hs : s.size ≤ 1000000000) (hn : k + n ≤ s.size) :
    Calls Try.prog 27 #[.string s, .int .i64 k, .int .i64 ((k + n : Nat) : Int)] w fun e w' => e = tokE (Lx.valT (Lx.suf s k) n) k ∧ Below w.heap.size w w' := by
  have hsl : s.extract k (k + n) = Lx.bs ((Lx.suf s k).take n) := by rw [Lx.extract_bs, Nat.add_sub_cancel_left]; rfl
  have hll : (Lx.bs ((Lx.suf s k).take n)).size ≤ 1000000000 := by rw [Lx.bs_size, List.length_take, Lx.suf_length]; omega
  have hT : Lx.valT (Lx.suf s k) n = if (Lx.unquote ((Lx.suf s k).take n)).2 = 0 then (0, ⟨3, (Lx.suf s k).take n, (Lx.unquote ((Lx.suf s k).take n)).1⟩, n) else Lx.bad (Lx.unquote ((Lx.suf s k).take n)).2 := rfl
  rw [hT]
  obtain ⟨t, ht⟩ : ∃ t, t = (Lx.suf s k).take n := ⟨_, rfl⟩
  rw [← ht] at hsl hll ⊢
  obtain ⟨v, hv⟩ : ∃ v, v = Lx.unquote t := ⟨_, rfl⟩
  rw [← hv]
  have HV := Lib.hid hv
  have HS := Lib.hid hsl
  have HL := Lib.hid hll
  clear hv hsl hll ht hT
  have i1 : ((k + n : Nat) : Int).toNat = k + n := by omega
  obtain ⟨m, hm⟩ : ∃ m, m = k + n := ⟨_, rfl⟩
  rw [← hm] at i1 hn HS ⊢
  have hm1 : k ≤ m := by omega
  have HM := Lib.hid hm
  clear hm i1
  by_cases he : v.2 = 0
  · have d1 : (v.2 != 0) = false := by simp [he]
    have HE := Lib.hid he
    rw [if_pos he]
    clear he
    go_enter Try.func27, Try.ntmps27
    go_wp2_with fail
    rw [HS.out]
    refine (unquote_any _ _ HL.out).mono ?_
    rintro e w1 ⟨rfl, hb1⟩
    rw [Lx.ls_bs, ← HV.out]
    unfold valE
    have hB1 := below_next (w := w) (by (repeat (first | with_reducible exact Below.refl _ _ | with_reducible assumption | with_reducible refine Below.drew ?_ | with_reducible refine below_drewN ?_ _ | with_reducible refine below_al ?_ _ | with_reducible refine Below.setCell ?_ ?_ _ | exact Nat.le_refl _ | omega | (simp; done) | (simp; omega)))) hb1; obtain ⟨hc1, hf1⟩ := bcell hb1
    have K1 := blk_next (heap_alloc_new w _) hb1
    go_wp2
    have K2 := blk_alloc K1 (.cells #[.int .i64 v.1.1, .int .i64 v.1.2.1, .string (Lx.bs v.1.2.2)] 31)
    have K3 := heap_alloc_new w1 (.cells #[.int .i64 v.1.1, .int .i64 v.1.2.1, .string (Lx.bs v.1.2.2)] 31)
    have hb2 : Below w.heap.size w (w1.alloc (.cells #[.int .i64 v.1.1, .int .i64 v.1.2.1, .string (Lx.bs v.1.2.2)] 31)) := by (repeat (first | with_reducible exact Below.refl _ _ | with_reducible assumption | with_reducible refine Below.drew ?_ | with_reducible refine below_drewN ?_ _ | with_reducible refine below_al ?_ _ | with_reducible refine Below.setCell ?_ ?_ _ | exact Nat.le_refl _ | omega | (simp; done) | (simp; omega)))
    have hs0 := HS.out
    obtain ⟨B2, hB2⟩ : ∃ B, B = w1.heap.size := ⟨_, rfl⟩
    have hlt := blk_lt K1
    rw [← hB2] at K3 hlt ⊢
    generalize hw2 : w1.alloc (.cells #[.int .i64 v.1.1, .int .i64 v.1.2.1, .string (Lx.bs v.1.2.2)] 31) = w2 at K2 K3 hb2 ⊢
    have K1 := K2
    have K1' := K2
    obtain ⟨c, f⟩ := blk_cells K1; have c0 := c 0 _ rfl; have c1 := c 1 _ rfl; have c2 := c 2 _ rfl; have c3 := c 3 _ rfl; have c4 := c 4 _ rfl; have c5 := c 5 _ rfl; have f0 := f 0; have f1 := f 1; have f2 := f 2; have f3 := f 3; have f4 := f 4; have f5 := f 5; clear c f
    obtain ⟨c', f'⟩ := blk_cells K3
    have v0 := c' 0 _ rfl; have v1 := c' 1 _ rfl; have v2 := c' 2 _ rfl
    clear c' f' hc1 hf1 hB2 hw2 K1 K2 K3 hb1 hB1
    go_region
    go_wp2
    refine bodyPost_agg2 (B := w.heap.size) Try.results27 Try.underlying33 (by kernel_rfl) rfl (blk_drew (stored6 K1' _ _ _ _ _ _)) rfl ⟨?_, by (repeat (first | with_reducible exact Below.refl _ _ | with_reducible assumption | with_reducible refine Below.drew ?_ | with_reducible refine below_drewN ?_ _ | with_reducible refine below_al ?_ _ | with_reducible refine Below.setCell ?_ ?_ _ | exact Nat.le_refl _ | omega | (simp; done) | (simp; omega)))⟩
    simp [tokE, tokV, HM.out]
  · have d1 : (v.2 != 0) = true := by simp [he]
    have HE := Lib.hid he
    rw [if_neg he]
    clear he
    go_enter Try.func27, Try.ntmps27
    go_wp2_with fail
    rw [HS.out]
    refine (unquote_any _ _ HL.out).mono ?_
    rintro e w1 ⟨rfl, hb1⟩
    rw [Lx.ls_bs, ← HV.out]
    unfold valE
    have hB1 := below_next (w := w) (by (repeat (first | with_reducible exact Below.refl _ _ | with_reducible assumption | with_reducible refine Below.drew ?_ | with_reducible refine below_drewN ?_ _ | with_reducible refine below_al ?_ _ | with_reducible refine Below.setCell ?_ ?_ _ | exact Nat.le_refl _ | omega | (simp; done) | (simp; omega)))) hb1; obtain ⟨hc1, hf1⟩ := bcell hb1
    have K1 := blk_next (heap_alloc_new w _) hb1
    go_upto_region 3 with fail
    have K2 := blk_alloc K1 (.cells #[.int .i64 v.1.1, .int .i64 v.1.2.1, .string (Lx.bs v.1.2.2)] 31)
    have K3 := heap_alloc_new w1 (.cells #[.int .i64 v.1.1, .int .i64 v.1.2.1, .string (Lx.bs v.1.2.2)] 31)
    have hb2 : Below w.heap.size w (w1.alloc (.cells #[.int .i64 v.1.1, .int .i64 v.1.2.1, .string (Lx.bs v.1.2.2)] 31)) := by (repeat (first | with_reducible exact Below.refl _ _ | with_reducible assumption | with_reducible refine Below.drew ?_ | with_reducible refine below_drewN ?_ _ | with_reducible refine below_al ?_ _ | with_reducible refine Below.setCell ?_ ?_ _ | exact Nat.le_refl _ | omega | (simp; done) | (simp; omega)))
    have hs0 := HS.out
    obtain ⟨B2, hB2⟩ : ∃ B, B = w1.heap.size := ⟨_, rfl⟩
    have hlt := blk_lt K1
    rw [← hB2] at K3 hlt ⊢
    generalize hw2 : w1.alloc (.cells #[.int .i64 v.1.1, .int .i64 v.1.2.1, .string (Lx.bs v.1.2.2)] 31) = w2 at K2 K3 hb2 ⊢
    have K1 := K2
    have K1' := K2
    obtain ⟨c, f⟩ := blk_cells K1; have c0 := c 0 _ rfl; have c1 := c 1 _ rfl; have c2 := c 2 _ rfl; have c3 := c 3 _ rfl; have c4 := c 4 _ rfl; have c5 := c 5 _ rfl; have f0 := f 0; have f1 := f 1; have f2 := f 2; have f3 := f 3; have f4 := f 4; have f5 := f 5; clear c f
    obtain ⟨c', f'⟩ := blk_cells K3
    have v0 := c' 0 _ rfl; have v1 := c' 1 _ rfl; have v2 := c' 2 _ rfl
    clear c' f' hc1 hf1 hB2 hw2 K1 K2 K3 hb1 hB1
    go_wp2
    refine bodyPost_agg2 (B := w.heap.size) Try.results27 Try.underlying33 (by kernel_rfl) rfl (stored6 K1' _ _ _ _ _ _) rfl ⟨?_, by (repeat (first | with_reducible exact Below.refl _ _ | with_reducible assumption | with_reducible refine Below.drew ?_ | with_reducible refine below_drewN ?_ _ | with_reducible refine below_al ?_ _ | with_reducible refine Below.setCell ?_ ?_ _ | exact Nat.le_refl _ | omega | (simp; done) | (simp; omega)))⟩
    simp [tokE, tok0, Lx.bad, HE.out]
end Go.Proofs.Ytepdpdlakgnpmaa
