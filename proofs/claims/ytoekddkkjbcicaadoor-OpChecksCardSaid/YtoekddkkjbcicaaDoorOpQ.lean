import Derived.Test.YtoekddkkjbcicaaDoorOpP
set_option linter.unusedVariables false
set_option linter.unusedSimpArgs false
namespace Go.Proofs.YtoekddkkjbcicaaDoor
open Go.RowKit
attribute [local simp] Lx.bs_size
theorem read_range (l : Ox.S) : -9223372036854775808 ≤ (Lx.read l).1 ∧ (Lx.read l).1 ≤ 9223372036854775807 := by
  unfold Lx.read Lx.most
  simp only
  repeat' split
  all_goals simp
  all_goals omega
def keyE (k : Ox.Key × Bool) : Ending := .returned (.tuple #[.agg #[.int .i64 k.1.col, .int .i64 k.1.coll, .bool k.1.desc], .bool k.2])
theorem unkey_short (s : ByteArray) (w : World) (h : s.size < 3) :
    Calls Tryd.prog 48 #[.string s] w fun e w' => e = keyE (Ox.unkey (Lx.ls s)) ∧ Below w.heap.size w w' := by
  have hr : Ox.unkey (Lx.ls s) = (⟨0, 0, false⟩, false) := by rw [Ox.unkey, if_pos (by rw [Lx.ls_length]; exact h)]
  rw [hr]
  have d0 : decide ((s.size : Int) < 3) = true := decide_eq_true (by omega)
  go_enter Tryd.func48, Tryd.ntmps48
  go_wp2
  first
    | exact bodyPost_agg1 (B := w.heap.size) Tryd.results48 Tryd.underlying49 (by kernel_rfl) rfl (heap_alloc_new w _) rfl ⟨rfl, by (repeat (first | with_reducible exact Below.refl _ _ | with_reducible assumption | with_reducible refine Below.drew ?_ | with_reducible refine below_drewN ?_ _ | with_reducible refine below_al ?_ _ | with_reducible refine Below.setCell ?_ ?_ _ | exact Nat.le_refl _ | omega | (simp; done) | (simp; omega)))⟩
    | exact bodyPost_agg1 (B := w.heap.size) Tryd.results48 Tryd.underlying49 (by kernel_rfl) rfl (stored3 (heap_alloc_new w _) _ _ _) rfl ⟨rfl, by (repeat (first | with_reducible exact Below.refl _ _ | with_reducible assumption | with_reducible refine Below.drew ?_ | with_reducible refine below_drewN ?_ _ | with_reducible refine below_al ?_ _ | with_reducible refine Below.setCell ?_ ?_ _ | exact Nat.le_refl _ | omega | (simp; done) | (simp; omega)))⟩
set_option maxHeartbeats 2000000 in
theorem unkey_b_false (s : ByteArray) (w : World) (hs : s.size ≤ 1000000000) (h3 : 3 ≤ s.size) (hl : s[s.size - 1].toNat ≠ 110) (n : Int) (dsc q : Bool) (P : Ox.S) (hP : P = (Lx.ls s).take (s.size - 2)) (hn : Ox.number P = (n, false))
    (hd : ((s[s.size - 2].toNat : Int) == 100) = dsc) (hq : ((Lx.bs (Ox.keyS ⟨n, 0, dsc⟩)).toList == s.toList) = q) (hn1 : -9223372036854775808 ≤ n) (hn2 : n ≤ 9223372036854775807) :
    Calls Tryd.prog 48 #[.string s] w fun e w' => e = keyE (⟨n, 0, dsc⟩, false) ∧ Below w.heap.size w w' := by
  have d0 : decide ((s.size : Int) < 3) = false := decide_eq_false (by omega)
  have hPl : P.length = s.size - 2 := by rw [hP, List.length_take, Lx.ls_length]; omega
  have hsl : s.extract 0 (s.size - 2) = Lx.bs P := by rw [Lx.extract_bs, hP]; rfl
  have HS := Lib.hid hsl
  have HPS := Lib.hid (show (Lx.bs P).size ≤ 9223372036854775000 by rw [Lx.bs_size]; omega)
  have HN := Lib.hid hn
  have sj1 : (0 : Int) ≤ (s.size : Int) - 1 := by omega
  have sj2 : (s.size : Int) - 1 < (s.size : Int) := by omega
  have sj3 : ((s.size : Int) - 1).toNat = s.size - 1 := by omega
  have sj4 : s.size - 1 < s.size := by omega
  have sk1 : (0 : Int) ≤ (s.size : Int) - 2 := by omega
  have sk2 : (s.size : Int) - 2 < (s.size : Int) := by omega
  have sk5 : (s.size : Int) - 2 ≤ (s.size : Int) := by omega
  have sk3 : ((s.size : Int) - 2).toNat = s.size - 2 := by omega
  have sk4 : s.size - 2 < s.size := by omega
  have e1 : ((s[s.size - 1].toNat : Int) == 110) = false := by simp; omega
  clear hP hPl hsl hn hl
  go_enter Tryd.func48, Tryd.ntmps48
  go_wp2_with fail
  rw [HS.out]
  refine (number_any _ _ HPS.out).mono ?_
  rintro e w1 ⟨rfl, hb1⟩
  rw [Lx.ls_bs, HN.out]
  have K2 := blk_next (heap_alloc_new w (.cells #[.int .i64 0, .int .i64 0, .bool false] 49)) hb1
  have hB := below_next (w := w) (below_al (Below.refl _ _) _) hb1
  have hbs : w.heap.size < w1.heap.size := blk_lt K2
  obtain ⟨c, f⟩ := blk_cells K2
  have c0 := c 0 _ rfl; have c1 := c 1 _ rfl; have c2 := c 2 _ rfl
  have f0 := f 0; have f1 := f 1; have f2 := f 2
  clear c f
  go_wp2
  go_region
  all_goals
    go_wp2
    first
      | exact bodyPost_agg1 (B := w.heap.size) Tryd.results48 Tryd.underlying49 (by kernel_rfl) rfl (blk_drew (blk_alloc (stored3 K2 _ _ _) _)) rfl ⟨rfl, (below_al (((hB.setCell (Nat.le_refl _) _).setCell (Nat.le_refl _) _).setCell (Nat.le_refl _) _) _).drew⟩
      | exact bodyPost_agg1 (B := w.heap.size) Tryd.results48 Tryd.underlying49 (by kernel_rfl) rfl (blk_drew (stored3 (blk_alloc K2 _) _ _ _)) rfl ⟨rfl, ((((below_al hB _).setCell (Nat.le_refl _) _).setCell (Nat.le_refl _) _).setCell (Nat.le_refl _) _).drew⟩
set_option maxHeartbeats 2000000 in
theorem unkey_b_true (s : ByteArray) (w : World) (hs : s.size ≤ 1000000000) (h3 : 3 ≤ s.size) (hl : s[s.size - 1].toNat ≠ 110) (n : Int) (dsc q : Bool) (P : Ox.S) (hP : P = (Lx.ls s).take (s.size - 2)) (hn : Ox.number P = (n, true))
    (hd : ((s[s.size - 2].toNat : Int) == 100) = dsc) (hq : ((Lx.bs (Ox.keyS ⟨n, 0, dsc⟩)).toList == s.toList) = q) (hn1 : -9223372036854775808 ≤ n) (hn2 : n ≤ 9223372036854775807) :
    Calls Tryd.prog 48 #[.string s] w fun e w' => e = keyE (⟨n, 0, dsc⟩, q) ∧ Below w.heap.size w w' := by
  have d0 : decide ((s.size : Int) < 3) = false := decide_eq_false (by omega)
  have hPl : P.length = s.size - 2 := by rw [hP, List.length_take, Lx.ls_length]; omega
  have hsl : s.extract 0 (s.size - 2) = Lx.bs P := by rw [Lx.extract_bs, hP]; rfl
  have HS := Lib.hid hsl
  have HPS := Lib.hid (show (Lx.bs P).size ≤ 9223372036854775000 by rw [Lx.bs_size]; omega)
  have HN := Lib.hid hn
  have sj1 : (0 : Int) ≤ (s.size : Int) - 1 := by omega
  have sj2 : (s.size : Int) - 1 < (s.size : Int) := by omega
  have sj3 : ((s.size : Int) - 1).toNat = s.size - 1 := by omega
  have sj4 : s.size - 1 < s.size := by omega
  have sk1 : (0 : Int) ≤ (s.size : Int) - 2 := by omega
  have sk2 : (s.size : Int) - 2 < (s.size : Int) := by omega
  have sk5 : (s.size : Int) - 2 ≤ (s.size : Int) := by omega
  have sk3 : ((s.size : Int) - 2).toNat = s.size - 2 := by omega
  have sk4 : s.size - 2 < s.size := by omega
  have e1 : ((s[s.size - 1].toNat : Int) == 110) = false := by simp; omega
  clear hP hPl hsl hn hl
  go_enter Tryd.func48, Tryd.ntmps48
  go_wp2_with fail
  rw [HS.out]
  refine (number_any _ _ HPS.out).mono ?_
  rintro e w1 ⟨rfl, hb1⟩
  rw [Lx.ls_bs, HN.out]
  have K2 := blk_next (heap_alloc_new w (.cells #[.int .i64 0, .int .i64 0, .bool false] 49)) hb1
  have hB := below_next (w := w) (below_al (Below.refl _ _) _) hb1
  have hbs : w.heap.size < w1.heap.size := blk_lt K2
  obtain ⟨c, f⟩ := blk_cells K2
  have c0 := c 0 _ rfl; have c1 := c 1 _ rfl; have c2 := c 2 _ rfl
  have f0 := f 0; have f1 := f 1; have f2 := f 2
  clear c f
  go_wp2
  have K6 : (w1.alloc (.cells #[.int .i64 n, .int .i64 0, .bool dsc] 49)).heap[w1.heap.size]? = some (.cells #[.int .i64 n, .int .i64 0, .bool dsc] 49) := heap_alloc_new w1 _
  have K2W : (w1.alloc (.cells #[.int .i64 n, .int .i64 0, .bool dsc] 49)).heap[w.heap.size]? = some (.cells #[.int .i64 0, .int .i64 0, .bool false] 49) := blk_alloc K2 _
  have hBW : Below w.heap.size w (w1.alloc (.cells #[.int .i64 n, .int .i64 0, .bool dsc] 49)) := below_al hB _
  obtain ⟨g6, hg6⟩ : ∃ g6, g6 = w1.heap.size := ⟨_, rfl⟩
  clear c0 c1 c2 f0 f1 f2 K2 hb1 hB
  generalize (w1.alloc (.cells #[.int .i64 n, .int .i64 0, .bool dsc] 49)) = W at K6 K2W hBW ⊢
  rw [← hg6] at K6 ⊢
  clear hg6
  obtain ⟨c6, _⟩ := blk_cells K6
  have d60 := c6 0 _ rfl; have d61 := c6 1 _ rfl; have d62 := c6 2 _ rfl
  clear c6
  go_region_with (go_at_call 44; refine (key_any n 0 dsc _ hn1 hn2).mono ?_; rintro e w2 ⟨rfl, hb2⟩; have K26 := blk_next (W := W.drew) K6 hb2; have K22 := blk_next (W := W.drew) K2W hb2; obtain ⟨cA, fA⟩ := blk_cells K26; obtain ⟨cB, fB⟩ := blk_cells K22; have y0 := cA 0 _ rfl; have y1 := cA 1 _ rfl; have y2 := cA 2 _ rfl; have z0 := cB 0 _ rfl; have z1 := cB 1 _ rfl; have z2 := cB 2 _ rfl; have v0 := fB 0; have v1 := fB 1; have v2 := fB 2; clear cA fA cB fB)
  all_goals
    go_wp2
    refine bodyPost_agg1 (B := w.heap.size) Tryd.results48 Tryd.underlying49 (by kernel_rfl) rfl (stored3 K22 _ _ _) rfl ⟨rfl, ?_⟩
    exact (((below_next hBW.drew hb2).setCell (Nat.le_refl _) _).setCell (Nat.le_refl _) _).setCell (Nat.le_refl _) _
set_option maxHeartbeats 2000000 in
theorem unkey_n_false (s : ByteArray) (w : World) (hs : s.size ≤ 1000000000) (h3 : 3 ≤ s.size) (hl : s[s.size - 1].toNat = 110) (n : Int) (dsc q : Bool) (P : Ox.S) (hP : P = (Lx.ls s).take (s.size - 2)) (hn : Ox.number P = (n, false))
    (hd : ((s[s.size - 2].toNat : Int) == 100) = dsc) (hq : ((Lx.bs (Ox.keyS ⟨n, 1, dsc⟩)).toList == s.toList) = q) (hn1 : -9223372036854775808 ≤ n) (hn2 : n ≤ 9223372036854775807) :
    Calls Tryd.prog 48 #[.string s] w fun e w' => e = keyE (⟨n, 1, dsc⟩, false) ∧ Below w.heap.size w w' := by
  have d0 : decide ((s.size : Int) < 3) = false := decide_eq_false (by omega)
  have hPl : P.length = s.size - 2 := by rw [hP, List.length_take, Lx.ls_length]; omega
  have hsl : s.extract 0 (s.size - 2) = Lx.bs P := by rw [Lx.extract_bs, hP]; rfl
  have HS := Lib.hid hsl
  have HPS := Lib.hid (show (Lx.bs P).size ≤ 9223372036854775000 by rw [Lx.bs_size]; omega)
  have HN := Lib.hid hn
  have sj1 : (0 : Int) ≤ (s.size : Int) - 1 := by omega
  have sj2 : (s.size : Int) - 1 < (s.size : Int) := by omega
  have sj3 : ((s.size : Int) - 1).toNat = s.size - 1 := by omega
  have sj4 : s.size - 1 < s.size := by omega
  have sk1 : (0 : Int) ≤ (s.size : Int) - 2 := by omega
  have sk2 : (s.size : Int) - 2 < (s.size : Int) := by omega
  have sk5 : (s.size : Int) - 2 ≤ (s.size : Int) := by omega
  have sk3 : ((s.size : Int) - 2).toNat = s.size - 2 := by omega
  have sk4 : s.size - 2 < s.size := by omega
  have e1 : ((s[s.size - 1].toNat : Int) == 110) = true := by simp; omega
  clear hP hPl hsl hn hl
  go_enter Tryd.func48, Tryd.ntmps48
  go_wp2_with fail
  rw [HS.out]
  refine (number_any _ _ HPS.out).mono ?_
  rintro e w1 ⟨rfl, hb1⟩
  rw [Lx.ls_bs, HN.out]
  have K2 := blk_next (heap_alloc_new w (.cells #[.int .i64 0, .int .i64 0, .bool false] 49)) hb1
  have hB := below_next (w := w) (below_al (Below.refl _ _) _) hb1
  have hbs : w.heap.size < w1.heap.size := blk_lt K2
  obtain ⟨c, f⟩ := blk_cells K2
  have c0 := c 0 _ rfl; have c1 := c 1 _ rfl; have c2 := c 2 _ rfl
  have f0 := f 0; have f1 := f 1; have f2 := f 2
  clear c f
  go_wp2
  go_region
  all_goals
    go_wp2
    first
      | exact bodyPost_agg1 (B := w.heap.size) Tryd.results48 Tryd.underlying49 (by kernel_rfl) rfl (blk_drew (blk_alloc (stored3 K2 _ _ _) _)) rfl ⟨rfl, (below_al (((hB.setCell (Nat.le_refl _) _).setCell (Nat.le_refl _) _).setCell (Nat.le_refl _) _) _).drew⟩
      | exact bodyPost_agg1 (B := w.heap.size) Tryd.results48 Tryd.underlying49 (by kernel_rfl) rfl (blk_drew (stored3 (blk_alloc K2 _) _ _ _)) rfl ⟨rfl, ((((below_al hB _).setCell (Nat.le_refl _) _).setCell (Nat.le_refl _) _).setCell (Nat.le_refl _) _).drew⟩
set_option maxHeartbeats 2000000 in
theorem unkey_n_true (s : ByteArray) (w : World) (hs : s.size ≤ 1000000000) (h3 : 3 ≤ s.size) (hl : s[s.size - 1].toNat = 110) (n : Int) (dsc q : Bool) (P : Ox.S) (hP : P = (Lx.ls s).take (s.size - 2)) (hn : Ox.number P = (n, true))
    (hd : ((s[s.size - 2].toNat : Int) == 100) = dsc) (hq : ((Lx.bs (Ox.keyS ⟨n, 1, dsc⟩)).toList == s.toList) = q) (hn1 : -9223372036854775808 ≤ n) (hn2 : n ≤ 9223372036854775807) :
    Calls Tryd.prog 48 #[.string s] w fun e w' => e = keyE (⟨n, 1, dsc⟩, q) ∧ Below w.heap.size w w' := by
  have d0 : decide ((s.size : Int) < 3) = false := decide_eq_false (by omega)
  have hPl : P.length = s.size - 2 := by rw [hP, List.length_take, Lx.ls_length]; omega
  have hsl : s.extract 0 (s.size - 2) = Lx.bs P := by rw [Lx.extract_bs, hP]; rfl
  have HS := Lib.hid hsl
  have HPS := Lib.hid (show (Lx.bs P).size ≤ 9223372036854775000 by rw [Lx.bs_size]; omega)
  have HN := Lib.hid hn
  have sj1 : (0 : Int) ≤ (s.size : Int) - 1 := by omega
  have sj2 : (s.size : Int) - 1 < (s.size : Int) := by omega
  have sj3 : ((s.size : Int) - 1).toNat = s.size - 1 := by omega
  have sj4 : s.size - 1 < s.size := by omega
  have sk1 : (0 : Int) ≤ (s.size : Int) - 2 := by omega
  have sk2 : (s.size : Int) - 2 < (s.size : Int) := by omega
  have sk5 : (s.size : Int) - 2 ≤ (s.size : Int) := by omega
  have sk3 : ((s.size : Int) - 2).toNat = s.size - 2 := by omega
  have sk4 : s.size - 2 < s.size := by omega
  have e1 : ((s[s.size - 1].toNat : Int) == 110) = true := by simp; omega
  clear hP hPl hsl hn hl
  go_enter Tryd.func48, Tryd.ntmps48
  go_wp2_with fail
  rw [HS.out]
  refine (number_any _ _ HPS.out).mono ?_
  rintro e w1 ⟨rfl, hb1⟩
  rw [Lx.ls_bs, HN.out]
  have K2 := blk_next (heap_alloc_new w (.cells #[.int .i64 0, .int .i64 0, .bool false] 49)) hb1
  have hB := below_next (w := w) (below_al (Below.refl _ _) _) hb1
  have hbs : w.heap.size < w1.heap.size := blk_lt K2
  obtain ⟨c, f⟩ := blk_cells K2
  have c0 := c 0 _ rfl; have c1 := c 1 _ rfl; have c2 := c 2 _ rfl
  have f0 := f 0; have f1 := f 1; have f2 := f 2
  clear c f
  go_wp2
  have K6 : (w1.alloc (.cells #[.int .i64 n, .int .i64 1, .bool dsc] 49)).heap[w1.heap.size]? = some (.cells #[.int .i64 n, .int .i64 1, .bool dsc] 49) := heap_alloc_new w1 _
  have K2W : (w1.alloc (.cells #[.int .i64 n, .int .i64 1, .bool dsc] 49)).heap[w.heap.size]? = some (.cells #[.int .i64 0, .int .i64 0, .bool false] 49) := blk_alloc K2 _
  have hBW : Below w.heap.size w (w1.alloc (.cells #[.int .i64 n, .int .i64 1, .bool dsc] 49)) := below_al hB _
  obtain ⟨g6, hg6⟩ : ∃ g6, g6 = w1.heap.size := ⟨_, rfl⟩
  clear c0 c1 c2 f0 f1 f2 K2 hb1 hB
  generalize (w1.alloc (.cells #[.int .i64 n, .int .i64 1, .bool dsc] 49)) = W at K6 K2W hBW ⊢
  rw [← hg6] at K6 ⊢
  clear hg6
  obtain ⟨c6, _⟩ := blk_cells K6
  have d60 := c6 0 _ rfl; have d61 := c6 1 _ rfl; have d62 := c6 2 _ rfl
  clear c6
  go_region_with (go_at_call 44; refine (key_any n 1 dsc _ hn1 hn2).mono ?_; rintro e w2 ⟨rfl, hb2⟩; have K26 := blk_next (W := W.drew) K6 hb2; have K22 := blk_next (W := W.drew) K2W hb2; obtain ⟨cA, fA⟩ := blk_cells K26; obtain ⟨cB, fB⟩ := blk_cells K22; have y0 := cA 0 _ rfl; have y1 := cA 1 _ rfl; have y2 := cA 2 _ rfl; have z0 := cB 0 _ rfl; have z1 := cB 1 _ rfl; have z2 := cB 2 _ rfl; have v0 := fB 0; have v1 := fB 1; have v2 := fB 2; clear cA fA cB fB)
  all_goals
    go_wp2
    refine bodyPost_agg1 (B := w.heap.size) Tryd.results48 Tryd.underlying49 (by kernel_rfl) rfl (stored3 K22 _ _ _) rfl ⟨rfl, ?_⟩
    exact (((below_next hBW.drew hb2).setCell (Nat.le_refl _) _).setCell (Nat.le_refl _) _).setCell (Nat.le_refl _) _
theorem unkey_any (s : ByteArray) (w : World) (hs : s.size ≤ 1000000000) :
    Calls Tryd.prog 48 #[.string s] w fun e w' => e = keyE (Ox.unkey (Lx.ls s)) ∧ Below w.heap.size w w' := by
  by_cases h : s.size < 3
  · exact unkey_short s w h
  have h3 : 3 ≤ s.size := by omega
  obtain ⟨P, hP⟩ : ∃ P, P = (Lx.ls s).take (s.size - 2) := ⟨_, rfl⟩
  obtain ⟨N, hN⟩ : ∃ N, Ox.number P = N := ⟨_, rfl⟩
  obtain ⟨n, ok⟩ := N
  have hr : n = (Lx.read P).1 := by have := congrArg Prod.fst hN; exact this.symm
  have hrr := read_range P
  rw [← hr] at hrr
  have hd : ((s[s.size - 2].toNat : Int) == 100) = (Ox.at_ (Lx.ls s) (s.size - 2) == 100) := by
    rw [at_ls (by omega), Lx.beq_nat, Bool.eq_iff_iff]
    simp
    omega
  by_cases hl : s[s.size - 1].toNat = 110
  · have hk : Ox.unkeyK (Lx.ls s) = ⟨n, 1, Ox.at_ (Lx.ls s) (s.size - 2) == 100⟩ := by
      have e : (Ox.at_ (Lx.ls s) (s.size - 1) == 110) = true := by rw [at_ls (by omega), Lx.beq_nat]; simpa using hl
      rw [Ox.unkeyK, Lx.ls_length, ← hP, hN, e]; rfl
    have hu : Ox.unkey (Lx.ls s) = (⟨n, 1, Ox.at_ (Lx.ls s) (s.size - 2) == 100⟩, ok && Ox.keyS ⟨n, 1, Ox.at_ (Lx.ls s) (s.size - 2) == 100⟩ == Lx.ls s) := by
      rw [Ox.unkey, if_neg (by rw [Lx.ls_length]; exact h), hk, Lx.ls_length, ← hP, hN]
    rw [hu]
    have hq : ((Lx.bs (Ox.keyS ⟨n, 1, Ox.at_ (Lx.ls s) (s.size - 2) == 100⟩)).toList == s.toList) = (Ox.keyS ⟨n, 1, Ox.at_ (Lx.ls s) (s.size - 2) == 100⟩ == Lx.ls s) := by rw [Lx.bs_toList, Lx.toList_ls]
    cases ok with
    | false => exact unkey_n_false s w hs h3 hl n _ _ P hP hN hd hq hrr.1 hrr.2
    | true => exact unkey_n_true s w hs h3 hl n _ _ P hP hN hd hq hrr.1 hrr.2
  · have hk : Ox.unkeyK (Lx.ls s) = ⟨n, 0, Ox.at_ (Lx.ls s) (s.size - 2) == 100⟩ := by
      have e : (Ox.at_ (Lx.ls s) (s.size - 1) == 110) = false := by rw [at_ls (by omega), Lx.beq_nat]; simpa using hl
      rw [Ox.unkeyK, Lx.ls_length, ← hP, hN, e]; rfl
    have hu : Ox.unkey (Lx.ls s) = (⟨n, 0, Ox.at_ (Lx.ls s) (s.size - 2) == 100⟩, ok && Ox.keyS ⟨n, 0, Ox.at_ (Lx.ls s) (s.size - 2) == 100⟩ == Lx.ls s) := by
      rw [Ox.unkey, if_neg (by rw [Lx.ls_length]; exact h), hk, Lx.ls_length, ← hP, hN]
    rw [hu]
    have hq : ((Lx.bs (Ox.keyS ⟨n, 0, Ox.at_ (Lx.ls s) (s.size - 2) == 100⟩)).toList == s.toList) = (Ox.keyS ⟨n, 0, Ox.at_ (Lx.ls s) (s.size - 2) == 100⟩ == Lx.ls s) := by rw [Lx.bs_toList, Lx.toList_ls]
    cases ok with
    | false => exact unkey_b_false s w hs h3 hl n _ _ P hP hN hd hq hrr.1 hrr.2
    | true => exact unkey_b_true s w hs h3 hl n _ _ P hP hN hd hq hrr.1 hrr.2
end Go.Proofs.YtoekddkkjbcicaaDoor
