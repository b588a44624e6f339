import Derived.Test.YtoekddkkjbcicaaDoorOqB
import Derived.Test.YtoekddkkjbcicaaDoorQuiet
set_option linter.unusedVariables false
set_option linter.unusedSimpArgs false
namespace Go.Proofs.YtoekddkkjbcicaaDoor
open Go.RowKit
attribute [local simp] Lx.bs_size
def pairOk (j a b : Nat) : Bool :=
  if j < 3 then ([(114, 114), (112, 106), (116, 99), (99, 107), (109, 110), (98, 98), (46, 46)] : List (Nat × Nat)).contains (a, b)
  else if j = 4 then ([(110, 116), (110, 102), (117, 117), (98, 98), (99, 121), (97, 97), (46, 46)] : List (Nat × Nat)).contains (a, b)
  else a == b
theorem letters : ∀ i : Fin 34, ∀ j : Fin 6, pairOk j.val (Ox.at_ (Ox.form (i.val : Int)) j.val).toNat (Ox.at_ (Ox.shape (i.val : Int)) j.val).toNat = true := by decide +kernel
theorem number_eq {a b : UInt8} (j : Nat) (hj : j < 3) (h : pairOk j a.toNat b.toNat = true) (n many : Int) : numberP b n many = Ox.within a n many := by
  unfold pairOk at h
  rw [if_pos hj] at h
  simp only [List.contains_cons, List.contains_nil, Bool.or_false, Bool.or_eq_true, beq_iff_eq, Prod.mk.injEq] at h
  unfold numberP Ox.within
  rcases h with ⟨h1, h2⟩ | ⟨h1, h2⟩ | ⟨h1, h2⟩ | ⟨h1, h2⟩ | ⟨h1, h2⟩ | ⟨h1, h2⟩ | ⟨h1, h2⟩ <;> simp [h1, h2] <;> (rw [Bool.eq_iff_iff]; simp; omega)
theorem word_eq {a b : UInt8} (h : pairOk 4 a.toNat b.toNat = true) (s : Ox.S) : wordP b s = Ox.named a s := by
  unfold pairOk at h
  rw [if_neg (by decide), if_pos rfl] at h
  simp only [List.contains_cons, List.contains_nil, Bool.or_false, Bool.or_eq_true, beq_iff_eq, Prod.mk.injEq] at h
  unfold wordP Ox.named
  rcases h with ⟨h1, h2⟩ | ⟨h1, h2⟩ | ⟨h1, h2⟩ | ⟨h1, h2⟩ | ⟨h1, h2⟩ | ⟨h1, h2⟩ | ⟨h1, h2⟩ <;> simp [h1, h2]
theorem same_letter {a b : UInt8} (j : Nat) (hj : j = 3 ∨ j = 5) (h : pairOk j a.toNat b.toNat = true) : b = a := by
  unfold pairOk at h
  rw [if_neg (by omega), if_neg (by omega)] at h
  exact (UInt8.toNat.inj (eq_of_beq h)).symm
theorem mx_le (a b c : Int) : mx a b ≤ c ↔ a ≤ c ∧ b ≤ c := by unfold mx; split <;> omega
/-- What stands together fits if and only if the reference's count does. -/
theorem right_top {o : Ox.Op} {many : Int} (hc : Ox.coded o = true) (hf : Ox.formed o many = true) : (Ox.several o).1.all (fun r => decide (r + (Ox.several o).2 ≤ 1024)) = decide (rtop o ≤ 1024) := by
  obtain ⟨code, p1, p2, p3, vk, vn, vs, keys, name⟩ := o
  unfold Ox.coded at hc
  simp only [Bool.and_eq_true, decide_eq_true_eq] at hc
  have hpb := regP_pos hf
  unfold Ox.formed at hf
  simp only [Bool.and_eq_true] at hf
  obtain ⟨⟨⟨⟨⟨f1, f2⟩, f3⟩, f4⟩, f5⟩, f6⟩ := hf
  by_cases hs : Ox.sevC code = true
  · have e : Ox.several ⟨code, p1, p2, p3, vk, vn, vs, keys, name⟩ = ([p3], vn) := by simp [Ox.several, hs]
    have e2 : rtop ⟨code, p1, p2, p3, vk, vn, vs, keys, name⟩ = p3 + vn := by simp [rtop, hs]
    rw [e, e2]
    simp
  · have hs' : Ox.sevC code = false := by simpa using hs
    by_cases h33 : code = 33
    · subst h33
      have e : Ox.several ⟨33, p1, p2, p3, vk, vn, vs, keys, name⟩ = ([p1, p3], vn) := rfl
      have e2 : rtop ⟨33, p1, p2, p3, vk, vn, vs, keys, name⟩ = mx p1 p3 + vn := rfl
      rw [e, e2, Bool.eq_iff_iff]
      simp
      unfold mx
      split <;> omega
    by_cases h18 : code = 18
    · subst h18
      have e : Ox.several ⟨18, p1, p2, p3, vk, vn, vs, keys, name⟩ = ([p1], p3) := rfl
      have e2 : rtop ⟨18, p1, p2, p3, vk, vn, vs, keys, name⟩ = mx (p2 + 1) (mx (p1 + p3) (p1 + 1)) := rfl
      have q1 : 0 ≤ p1 ∧ p1 < 1024 := hpb 0 (by decide) rfl
      have q2 : 0 ≤ p2 ∧ p2 < 1024 := hpb 1 (by decide) rfl
      rw [e, e2, Bool.eq_iff_iff]
      simp [mx_le]
      omega
    by_cases h20 : code = 20
    · subst h20
      have e : Ox.several ⟨20, p1, p2, p3, vk, vn, vs, keys, name⟩ = ([p1], p2) := rfl
      have e2 : rtop ⟨20, p1, p2, p3, vk, vn, vs, keys, name⟩ = mx (p1 + 1) (p1 + p2) := rfl
      have q1 : 0 ≤ p1 ∧ p1 < 1024 := hpb 0 (by decide) rfl
      rw [e, e2, Bool.eq_iff_iff]
      simp [mx_le]
      omega
    by_cases h22 : code = 22
    · subst h22
      have e : Ox.several ⟨22, p1, p2, p3, vk, vn, vs, keys, name⟩ = ([p2], p3) := rfl
      have e2 : rtop ⟨22, p1, p2, p3, vk, vn, vs, keys, name⟩ = mx (p2 + 1) (p2 + p3) := rfl
      have q2 : 0 ≤ p2 ∧ p2 < 1024 := hpb 1 (by decide) rfl
      rw [e, e2, Bool.eq_iff_iff]
      simp [mx_le]
      omega
    have e : Ox.several ⟨code, p1, p2, p3, vk, vn, vs, keys, name⟩ = ([], 0) := by simp [Ox.several, hs', h33, h18, h20, h22]
    have e2 : rtop ⟨code, p1, p2, p3, vk, vn, vs, keys, name⟩ = regP (Ox.shape code) ⟨code, p1, p2, p3, vk, vn, vs, keys, name⟩ 0 3 := by simp [rtop, hs', h33, h18, h20, h22]
    rw [e, e2]
    have hlt : ∀ j, j < 3 → (Ox.at_ (Ox.shape code) j).toNat = 114 → pN ⟨code, p1, p2, p3, vk, vn, vs, keys, name⟩ j < 1024 := by
      intro j hj h
      refine (hpb j hj ?_).2
      have hl := letters ⟨code.toNat, by omega⟩ ⟨j, by omega⟩
      simp only at hl
      have hcc : ((code.toNat : Nat) : Int) = code := by omega
      rw [hcc, h] at hl
      unfold pairOk at hl
      rw [if_pos hj] at hl
      simp only [List.contains_cons, List.contains_nil, Bool.or_false, Bool.or_eq_true, beq_iff_eq, Prod.mk.injEq] at hl
      simp only
      omega
    have hle : ∀ j, j ≤ 3 → regP (Ox.shape code) ⟨code, p1, p2, p3, vk, vn, vs, keys, name⟩ 0 j ≤ 1024 := by
      intro j
      induction j with
      | zero => intro _; simp [regP]
      | succ j ih =>
        intro hj
        rw [regP]
        split
        · rename_i h
          rw [mx_le]
          exact ⟨ih (by omega), by have := hlt j (by omega) h; omega⟩
        · exact ih (by omega)
    rw [decide_eq_true (hle 3 (by decide))]
    rfl
theorem number_q (k : UInt8) (n many : Int) (b : Bool) (w : World) (h : numberP k n many = b) :
    Calls Tryd.prog 36 #[.int .u8 k.toNat, .int .i64 n, .int .i64 many] w fun e w' => e = .returned (.bool b) ∧ w' = w :=
  (rnumber_any k n many w).mono fun e w' ⟨h1, h2⟩ => ⟨by rw [h1, h], h2.symm⟩
theorem rvalue_q (k : UInt8) (vk vn : Int) (vs : Ox.S) (b : Bool) (w : World) (h : Ox.valued k vk vn vs = b) :
    Calls Tryd.prog 37 #[.int .u8 k.toNat, .agg #[.int .i64 vk, .int .i64 vn, .string (Lx.bs vs)]] w fun e w' => e = .returned (.bool b) ∧ Below w.heap.size w w' :=
  (r40value_any k vk vn vs w).mono fun e w' ⟨h1, h2⟩ => ⟨by rw [h1, h], h2⟩
theorem rword_q (k : UInt8) (s : Ox.S) (b : Bool) (w : World) (hs : s.length ≤ 1000000) (h : wordP k s = b) :
    Calls Tryd.prog 38 #[.int .u8 k.toNat, .string (Lx.bs s)] w fun e w' => e = .returned (.bool b) ∧ Below w.heap.size w w' :=
  (rword40_any k (Lx.bs s) w (by rw [Lx.bs_size]; exact hs)).mono fun e w' ⟨h1, h2⟩ => ⟨by rw [h1, Lx.ls_bs, h], h2⟩
theorem rkeys_q (k : UInt8) (v : Value) (l : List Ox.Key) (b : Bool) (w : World) (hl : l.length ≤ 100000) (hk : KAt w v l) (h : Ox.keyed k l = b) :
    Calls Tryd.prog 39 #[.int .u8 k.toNat, v] w fun e w' => e = .returned (.bool b) ∧ Below w.heap.size w w' :=
  (rkeys_any k v l w hl hk).mono fun e w' ⟨h1, h2⟩ => ⟨by rw [h1, h], h2⟩
theorem rRight_uncoded (o : Ox.Op) (kv : Value) (many : Int) (w : World) (h : Ox.coded o = false) :
    Calls Tryd.prog 24 #[.agg #[.int .i64 o.code, .int .i64 o.p1, .int .i64 o.p2, .int .i64 o.p3, .int .i64 o.vk, .int .i64 o.vn, .string (Lx.bs o.vs), kv, .string (Lx.bs o.name)], .int .i64 many] w fun e w' => e = .returned (.bool (Ox.right o many)) ∧ Below w.heap.size w w' := by
  have hr : Ox.right o many = false := by rw [Ox.right, h]; rfl
  rw [hr]
  by_cases h0 : o.code < 0
  · have d0 : decide (o.code < 0) = true := decide_eq_true h0
    go_enter Tryd.func24, Tryd.ntmps24
    go_wp2
    go_ret
    exact ⟨rfl, by (repeat (first | with_reducible exact Below.refl _ _ | with_reducible assumption | with_reducible refine Below.drew ?_ | with_reducible refine below_drewN ?_ _ | with_reducible refine below_al ?_ _ | with_reducible refine Below.setCell ?_ ?_ _ | exact Nat.le_refl _ | omega | (simp; done) | (simp; omega)))⟩
  · have d0 : decide (o.code < 0) = false := decide_eq_false h0
    have d1 : decide (33 < o.code) = true := by
      refine decide_eq_true ?_
      unfold Ox.coded at h
      simp at h
      omega
    go_enter Tryd.func24, Tryd.ntmps24
    go_wp2
    go_ret
    exact ⟨rfl, by (repeat (first | with_reducible exact Below.refl _ _ | with_reducible assumption | with_reducible refine Below.drew ?_ | with_reducible refine below_drewN ?_ _ | with_reducible refine below_al ?_ _ | with_reducible refine Below.setCell ?_ ?_ _ | exact Nat.le_refl _ | omega | (simp; done) | (simp; omega)))⟩
set_option maxRecDepth 100000 in
set_option maxHeartbeats 4000000 in
theorem rRight_0 (o : Ox.Op) (kv : Value) (many : Int) (w : World) (hk : KAt w kv o.keys) (hkl : o.keys.length ≤ 100000) (hnl : o.name.length ≤ 1000000) (c : Nat) (hc : o.code = (c : Int)) (hc34 : c < 34) (f : Ox.S) (hf : Ox.shapes[c]? = some f) (hf6 : f.length = 6)
    (g0 : numberP (Ox.at_ f 0) o.p1 many = false)
    : Calls Tryd.prog 24 #[.agg #[.int .i64 o.code, .int .i64 o.p1, .int .i64 o.p2, .int .i64 o.p3, .int .i64 o.vk, .int .i64 o.vn, .string (Lx.bs o.vs), kv, .string (Lx.bs o.name)], .int .i64 many] w fun e w' => e = .returned (.bool false) ∧ Below w.heap.size w w' := by
  obtain ⟨F, hF⟩ : ∃ F, F = Lx.bs f := ⟨_, rfl⟩
  have hF6 : 6 ≤ F.size := by rw [hF, Lx.bs_size]; omega
  have fs0 : 0 < F.size := by omega
  have fi0 : (0 : Int) < (F.size : Int) := by omega
  have fs1 : 1 < F.size := by omega
  have fi1 : (1 : Int) < (F.size : Int) := by omega
  have fs2 : 2 < F.size := by omega
  have fi2 : (2 : Int) < (F.size : Int) := by omega
  have fs3 : 3 < F.size := by omega
  have fi3 : (3 : Int) < (F.size : Int) := by omega
  have fs4 : 4 < F.size := by omega
  have fi4 : (4 : Int) < (F.size : Int) := by omega
  have fs5 : 5 < F.size := by omega
  have fi5 : (5 : Int) < (F.size : Int) := by omega
  have hFa : ∀ i (h : i < F.size), F[i] = Ox.at_ f i := by subst hF; intro i h; exact at_bs f i h
  rw [← hFa 0 (by omega)] at g0
  have G0 := Lib.hid g0
  have HSH : Hid ((sts Ox.shapes)[c]? = some (.string F)) := Lib.hid (by rw [hF]; exact sts_at hf)
  have d0 : decide ((c : Int) < 0) = false := decide_eq_false (by omega)
  have d1 : decide (33 < (c : Int)) = false := decide_eq_false (by omega)
  have hci : (c : Int) < 34 := by omega
  obtain ⟨ka, kn, kc, rfl⟩ := kat_form hk
  have K1 := heap_alloc_new w (.cells #[.int .i64 o.code, .int .i64 o.p1, .int .i64 o.p2, .int .i64 o.p3, .int .i64 o.vk, .int .i64 o.vn, .string (Lx.bs o.vs), .slice ka kn kc, .string (Lx.bs o.name)] 39)
  have hbo := below_al (Below.refl w.heap.size w) (.cells #[.int .i64 o.code, .int .i64 o.p1, .int .i64 o.p2, .int .i64 o.p3, .int .i64 o.vk, .int .i64 o.vn, .string (Lx.bs o.vs), .slice ka kn kc, .string (Lx.bs o.name)] 39)
  have hk1 := kat_keep hk hbo
  have HC := Lib.hid hc
  rw [hc] at K1 hbo hk1 ⊢
  clear hk hf hf6 hF hFa hc g0
  go_enter Tryd.func24, Tryd.ntmps24
  go_wp2
  generalize (w.alloc (.cells #[.int .i64 (c : Int), .int .i64 o.p1, .int .i64 o.p2, .int .i64 o.p3, .int .i64 o.vk, .int .i64 o.vn, .string (Lx.bs o.vs), .slice ka kn kc, .string (Lx.bs o.name)] 39)) = W0 at K1 hbo hk1 ⊢
  obtain ⟨cW, _⟩ := blk_cells K1
  have hsz := blk_lt K1
  have hbo9 := hbo
  generalize w.heap.size = xb at cW hsz hbo K1 ⊢
  have x0 : W0.cell? ⟨xb, 0, none⟩ = some (.int .i64 (c : Int)) := cW 0 _ rfl
  go_region_with (go_at_call 25; refine (rshapes_any _).mono ?_; rintro e wa ⟨va, rfl, hrow, hba⟩; obtain ⟨ga, ca, rfl, hga, hca, hma, hxa⟩ := row1_some hrow (by omega); have A0 : wa.cell? ⟨ga, c, none⟩ = some (.string F) := hxa c _ HSH.out; have X0 : wa.cell? ⟨xb, 0, none⟩ = some (.int .i64 (c : Int)) := (hba.cell (p := ⟨xb, 0, none⟩) (by simpa using hsz)).trans x0; clear hrow hxa)
  all_goals
    have hBa : Below W0.heap.size W0 wa := (Below.refl W0.heap.size W0).drew.trans (hba.mono (by simp))
    have hxa : xb < wa.heap.size := Nat.lt_of_lt_of_le hsz hBa.size
    have m1 : wa.cell? ⟨xb, 1, none⟩ = some (.int .i64 o.p1) := (hBa.cell (p := ⟨xb, 1, none⟩) hsz).trans (cW 1 _ rfl)
    have m2 : wa.cell? ⟨xb, 2, none⟩ = some (.int .i64 o.p2) := (hBa.cell (p := ⟨xb, 2, none⟩) hsz).trans (cW 2 _ rfl)
    have m3 : wa.cell? ⟨xb, 3, none⟩ = some (.int .i64 o.p3) := (hBa.cell (p := ⟨xb, 3, none⟩) hsz).trans (cW 3 _ rfl)
    have m4 : wa.cell? ⟨xb, 4, none⟩ = some (.int .i64 o.vk) := (hBa.cell (p := ⟨xb, 4, none⟩) hsz).trans (cW 4 _ rfl)
    have m5 : wa.cell? ⟨xb, 5, none⟩ = some (.int .i64 o.vn) := (hBa.cell (p := ⟨xb, 5, none⟩) hsz).trans (cW 5 _ rfl)
    have m6 : wa.cell? ⟨xb, 6, none⟩ = some (.string (Lx.bs o.vs)) := (hBa.cell (p := ⟨xb, 6, none⟩) hsz).trans (cW 6 _ rfl)
    have m7 : wa.cell? ⟨xb, 7, none⟩ = some (.slice ka kn kc) := (hBa.cell (p := ⟨xb, 7, none⟩) hsz).trans (cW 7 _ rfl)
    have m8 : wa.cell? ⟨xb, 8, none⟩ = some (.string (Lx.bs o.name)) := (hBa.cell (p := ⟨xb, 8, none⟩) hsz).trans (cW 8 _ rfl)
    have hka := kat_keep hk1 hBa
    have hBf := below_next (w := w) hbo9 hBa
    clear hba A0 hbo K1
    go_wp2
    go_simp
    have x1 := upon_cell hxa m1
    have x2 := upon_cell hxa m2
    have x3 := upon_cell hxa m3
    have x4 := upon_cell hxa m4
    have x5 := upon_cell hxa m5
    have x6 := upon_cell hxa m6
    have x7 := upon_cell hxa m7
    have x8 := upon_cell hxa m8
    refine wp_region_upon (by kernel_rfl) (by kernel_rfl) ?_
    repeat (go_big_quiet_step (first
      | (go_at_call 36; exact upon_same (number_q _ _ _ _ _ (by first | with_reducible exact G0.out)))))
    refine wpQuiet_nil ?_
    rintro _ ⟨wx, rfl⟩
    have bx := below_next hBf (upon_below wa wx)
    go_wp2
    go_ret
    exact ⟨rfl, bx⟩
set_option maxRecDepth 100000 in
set_option maxHeartbeats 4000000 in
theorem rRight_1 (o : Ox.Op) (kv : Value) (many : Int) (w : World) (hk : KAt w kv o.keys) (hkl : o.keys.length ≤ 100000) (hnl : o.name.length ≤ 1000000) (c : Nat) (hc : o.code = (c : Int)) (hc34 : c < 34) (f : Ox.S) (hf : Ox.shapes[c]? = some f) (hf6 : f.length = 6)
    (g0 : numberP (Ox.at_ f 0) o.p1 many = true)
    (g1 : numberP (Ox.at_ f 1) o.p2 many = false)
    : Calls Tryd.prog 24 #[.agg #[.int .i64 o.code, .int .i64 o.p1, .int .i64 o.p2, .int .i64 o.p3, .int .i64 o.vk, .int .i64 o.vn, .string (Lx.bs o.vs), kv, .string (Lx.bs o.name)], .int .i64 many] w fun e w' => e = .returned (.bool false) ∧ Below w.heap.size w w' := by
  obtain ⟨F, hF⟩ : ∃ F, F = Lx.bs f := ⟨_, rfl⟩
  have hF6 : 6 ≤ F.size := by rw [hF, Lx.bs_size]; omega
  have fs0 : 0 < F.size := by omega
  have fi0 : (0 : Int) < (F.size : Int) := by omega
  have fs1 : 1 < F.size := by omega
  have fi1 : (1 : Int) < (F.size : Int) := by omega
  have fs2 : 2 < F.size := by omega
  have fi2 : (2 : Int) < (F.size : Int) := by omega
  have fs3 : 3 < F.size := by omega
  have fi3 : (3 : Int) < (F.size : Int) := by omega
  have fs4 : 4 < F.size := by omega
  have fi4 : (4 : Int) < (F.size : Int) := by omega
  have fs5 : 5 < F.size := by omega
  have fi5 : (5 : Int) < (F.size : Int) := by omega
  have hFa : ∀ i (h : i < F.size), F[i] = Ox.at_ f i := by subst hF; intro i h; exact at_bs f i h
  rw [← hFa 0 (by omega)] at g0
  have G0 := Lib.hid g0
  rw [← hFa 1 (by omega)] at g1
  have G1 := Lib.hid g1
  have HSH : Hid ((sts Ox.shapes)[c]? = some (.string F)) := Lib.hid (by rw [hF]; exact sts_at hf)
  have d0 : decide ((c : Int) < 0) = false := decide_eq_false (by omega)
  have d1 : decide (33 < (c : Int)) = false := decide_eq_false (by omega)
  have hci : (c : Int) < 34 := by omega
  obtain ⟨ka, kn, kc, rfl⟩ := kat_form hk
  have K1 := heap_alloc_new w (.cells #[.int .i64 o.code, .int .i64 o.p1, .int .i64 o.p2, .int .i64 o.p3, .int .i64 o.vk, .int .i64 o.vn, .string (Lx.bs o.vs), .slice ka kn kc, .string (Lx.bs o.name)] 39)
  have hbo := below_al (Below.refl w.heap.size w) (.cells #[.int .i64 o.code, .int .i64 o.p1, .int .i64 o.p2, .int .i64 o.p3, .int .i64 o.vk, .int .i64 o.vn, .string (Lx.bs o.vs), .slice ka kn kc, .string (Lx.bs o.name)] 39)
  have hk1 := kat_keep hk hbo
  have HC := Lib.hid hc
  rw [hc] at K1 hbo hk1 ⊢
  clear hk hf hf6 hF hFa hc g0 g1
  go_enter Tryd.func24, Tryd.ntmps24
  go_wp2
  generalize (w.alloc (.cells #[.int .i64 (c : Int), .int .i64 o.p1, .int .i64 o.p2, .int .i64 o.p3, .int .i64 o.vk, .int .i64 o.vn, .string (Lx.bs o.vs), .slice ka kn kc, .string (Lx.bs o.name)] 39)) = W0 at K1 hbo hk1 ⊢
  obtain ⟨cW, _⟩ := blk_cells K1
  have hsz := blk_lt K1
  have hbo9 := hbo
  generalize w.heap.size = xb at cW hsz hbo K1 ⊢
  have x0 : W0.cell? ⟨xb, 0, none⟩ = some (.int .i64 (c : Int)) := cW 0 _ rfl
  go_region_with (go_at_call 25; refine (rshapes_any _).mono ?_; rintro e wa ⟨va, rfl, hrow, hba⟩; obtain ⟨ga, ca, rfl, hga, hca, hma, hxa⟩ := row1_some hrow (by omega); have A0 : wa.cell? ⟨ga, c, none⟩ = some (.string F) := hxa c _ HSH.out; have X0 : wa.cell? ⟨xb, 0, none⟩ = some (.int .i64 (c : Int)) := (hba.cell (p := ⟨xb, 0, none⟩) (by simpa using hsz)).trans x0; clear hrow hxa)
  all_goals
    have hBa : Below W0.heap.size W0 wa := (Below.refl W0.heap.size W0).drew.trans (hba.mono (by simp))
    have hxa : xb < wa.heap.size := Nat.lt_of_lt_of_le hsz hBa.size
    have m1 : wa.cell? ⟨xb, 1, none⟩ = some (.int .i64 o.p1) := (hBa.cell (p := ⟨xb, 1, none⟩) hsz).trans (cW 1 _ rfl)
    have m2 : wa.cell? ⟨xb, 2, none⟩ = some (.int .i64 o.p2) := (hBa.cell (p := ⟨xb, 2, none⟩) hsz).trans (cW 2 _ rfl)
    have m3 : wa.cell? ⟨xb, 3, none⟩ = some (.int .i64 o.p3) := (hBa.cell (p := ⟨xb, 3, none⟩) hsz).trans (cW 3 _ rfl)
    have m4 : wa.cell? ⟨xb, 4, none⟩ = some (.int .i64 o.vk) := (hBa.cell (p := ⟨xb, 4, none⟩) hsz).trans (cW 4 _ rfl)
    have m5 : wa.cell? ⟨xb, 5, none⟩ = some (.int .i64 o.vn) := (hBa.cell (p := ⟨xb, 5, none⟩) hsz).trans (cW 5 _ rfl)
    have m6 : wa.cell? ⟨xb, 6, none⟩ = some (.string (Lx.bs o.vs)) := (hBa.cell (p := ⟨xb, 6, none⟩) hsz).trans (cW 6 _ rfl)
    have m7 : wa.cell? ⟨xb, 7, none⟩ = some (.slice ka kn kc) := (hBa.cell (p := ⟨xb, 7, none⟩) hsz).trans (cW 7 _ rfl)
    have m8 : wa.cell? ⟨xb, 8, none⟩ = some (.string (Lx.bs o.name)) := (hBa.cell (p := ⟨xb, 8, none⟩) hsz).trans (cW 8 _ rfl)
    have hka := kat_keep hk1 hBa
    have hBf := below_next (w := w) hbo9 hBa
    clear hba A0 hbo K1
    go_wp2
    go_simp
    have x1 := upon_cell hxa m1
    have x2 := upon_cell hxa m2
    have x3 := upon_cell hxa m3
    have x4 := upon_cell hxa m4
    have x5 := upon_cell hxa m5
    have x6 := upon_cell hxa m6
    have x7 := upon_cell hxa m7
    have x8 := upon_cell hxa m8
    refine wp_region_upon (by kernel_rfl) (by kernel_rfl) ?_
    repeat (go_big_quiet_step (first
      | (go_at_call 36; exact upon_same (number_q _ _ _ _ _ (by first | with_reducible exact G0.out | with_reducible exact G1.out)))))
    refine wpQuiet_nil ?_
    rintro _ ⟨wx, rfl⟩
    have bx := below_next hBf (upon_below wa wx)
    go_wp2
    go_ret
    exact ⟨rfl, bx⟩
set_option maxRecDepth 100000 in
set_option maxHeartbeats 4000000 in
theorem rRight_2 (o : Ox.Op) (kv : Value) (many : Int) (w : World) (hk : KAt w kv o.keys) (hkl : o.keys.length ≤ 100000) (hnl : o.name.length ≤ 1000000) (c : Nat) (hc : o.code = (c : Int)) (hc34 : c < 34) (f : Ox.S) (hf : Ox.shapes[c]? = some f) (hf6 : f.length = 6)
    (g0 : numberP (Ox.at_ f 0) o.p1 many = true)
    (g1 : numberP (Ox.at_ f 1) o.p2 many = true)
    (g2 : numberP (Ox.at_ f 2) o.p3 many = false)
    : Calls Tryd.prog 24 #[.agg #[.int .i64 o.code, .int .i64 o.p1, .int .i64 o.p2, .int .i64 o.p3, .int .i64 o.vk, .int .i64 o.vn, .string (Lx.bs o.vs), kv, .string (Lx.bs o.name)], .int .i64 many] w fun e w' => e = .returned (.bool false) ∧ Below w.heap.size w w' := by
  obtain ⟨F, hF⟩ : ∃ F, F = Lx.bs f := ⟨_, rfl⟩
  have hF6 : 6 ≤ F.size := by rw [hF, Lx.bs_size]; omega
  have fs0 : 0 < F.size := by omega
  have fi0 : (0 : Int) < (F.size : Int) := by omega
  have fs1 : 1 < F.size := by omega
  have fi1 : (1 : Int) < (F.size : Int) := by omega
  have fs2 : 2 < F.size := by omega
  have fi2 : (2 : Int) < (F.size : Int) := by omega
  have fs3 : 3 < F.size := by omega
  have fi3 : (3 : Int) < (F.size : Int) := by omega
  have fs4 : 4 < F.size := by omega
  have fi4 : (4 : Int) < (F.size : Int) := by omega
  have fs5 : 5 < F.size := by omega
  have fi5 : (5 : Int) < (F.size : Int) := by omega
  have hFa : ∀ i (h : i < F.size), F[i] = Ox.at_ f i := by subst hF; intro i h; exact at_bs f i h
  rw [← hFa 0 (by omega)] at g0
  have G0 := Lib.hid g0
  rw [← hFa 1 (by omega)] at g1
  have G1 := Lib.hid g1
  rw [← hFa 2 (by omega)] at g2
  have G2 := Lib.hid g2
  have HSH : Hid ((sts Ox.shapes)[c]? = some (.string F)) := Lib.hid (by rw [hF]; exact sts_at hf)
  have d0 : decide ((c : Int) < 0) = false := decide_eq_false (by omega)
  have d1 : decide (33 < (c : Int)) = false := decide_eq_false (by omega)
  have hci : (c : Int) < 34 := by omega
  obtain ⟨ka, kn, kc, rfl⟩ := kat_form hk
  have K1 := heap_alloc_new w (.cells #[.int .i64 o.code, .int .i64 o.p1, .int .i64 o.p2, .int .i64 o.p3, .int .i64 o.vk, .int .i64 o.vn, .string (Lx.bs o.vs), .slice ka kn kc, .string (Lx.bs o.name)] 39)
  have hbo := below_al (Below.refl w.heap.size w) (.cells #[.int .i64 o.code, .int .i64 o.p1, .int .i64 o.p2, .int .i64 o.p3, .int .i64 o.vk, .int .i64 o.vn, .string (Lx.bs o.vs), .slice ka kn kc, .string (Lx.bs o.name)] 39)
  have hk1 := kat_keep hk hbo
  have HC := Lib.hid hc
  rw [hc] at K1 hbo hk1 ⊢
  clear hk hf hf6 hF hFa hc g0 g1 g2
  go_enter Tryd.func24, Tryd.ntmps24
  go_wp2
  generalize (w.alloc (.cells #[.int .i64 (c : Int), .int .i64 o.p1, .int .i64 o.p2, .int .i64 o.p3, .int .i64 o.vk, .int .i64 o.vn, .string (Lx.bs o.vs), .slice ka kn kc, .string (Lx.bs o.name)] 39)) = W0 at K1 hbo hk1 ⊢
  obtain ⟨cW, _⟩ := blk_cells K1
  have hsz := blk_lt K1
  have hbo9 := hbo
  generalize w.heap.size = xb at cW hsz hbo K1 ⊢
  have x0 : W0.cell? ⟨xb, 0, none⟩ = some (.int .i64 (c : Int)) := cW 0 _ rfl
  go_region_with (go_at_call 25; refine (rshapes_any _).mono ?_; rintro e wa ⟨va, rfl, hrow, hba⟩; obtain ⟨ga, ca, rfl, hga, hca, hma, hxa⟩ := row1_some hrow (by omega); have A0 : wa.cell? ⟨ga, c, none⟩ = some (.string F) := hxa c _ HSH.out; have X0 : wa.cell? ⟨xb, 0, none⟩ = some (.int .i64 (c : Int)) := (hba.cell (p := ⟨xb, 0, none⟩) (by simpa using hsz)).trans x0; clear hrow hxa)
  all_goals
    have hBa : Below W0.heap.size W0 wa := (Below.refl W0.heap.size W0).drew.trans (hba.mono (by simp))
    have hxa : xb < wa.heap.size := Nat.lt_of_lt_of_le hsz hBa.size
    have m1 : wa.cell? ⟨xb, 1, none⟩ = some (.int .i64 o.p1) := (hBa.cell (p := ⟨xb, 1, none⟩) hsz).trans (cW 1 _ rfl)
    have m2 : wa.cell? ⟨xb, 2, none⟩ = some (.int .i64 o.p2) := (hBa.cell (p := ⟨xb, 2, none⟩) hsz).trans (cW 2 _ rfl)
    have m3 : wa.cell? ⟨xb, 3, none⟩ = some (.int .i64 o.p3) := (hBa.cell (p := ⟨xb, 3, none⟩) hsz).trans (cW 3 _ rfl)
    have m4 : wa.cell? ⟨xb, 4, none⟩ = some (.int .i64 o.vk) := (hBa.cell (p := ⟨xb, 4, none⟩) hsz).trans (cW 4 _ rfl)
    have m5 : wa.cell? ⟨xb, 5, none⟩ = some (.int .i64 o.vn) := (hBa.cell (p := ⟨xb, 5, none⟩) hsz).trans (cW 5 _ rfl)
    have m6 : wa.cell? ⟨xb, 6, none⟩ = some (.string (Lx.bs o.vs)) := (hBa.cell (p := ⟨xb, 6, none⟩) hsz).trans (cW 6 _ rfl)
    have m7 : wa.cell? ⟨xb, 7, none⟩ = some (.slice ka kn kc) := (hBa.cell (p := ⟨xb, 7, none⟩) hsz).trans (cW 7 _ rfl)
    have m8 : wa.cell? ⟨xb, 8, none⟩ = some (.string (Lx.bs o.name)) := (hBa.cell (p := ⟨xb, 8, none⟩) hsz).trans (cW 8 _ rfl)
    have hka := kat_keep hk1 hBa
    have hBf := below_next (w := w) hbo9 hBa
    clear hba A0 hbo K1
    go_wp2
    go_simp
    have x1 := upon_cell hxa m1
    have x2 := upon_cell hxa m2
    have x3 := upon_cell hxa m3
    have x4 := upon_cell hxa m4
    have x5 := upon_cell hxa m5
    have x6 := upon_cell hxa m6
    have x7 := upon_cell hxa m7
    have x8 := upon_cell hxa m8
    refine wp_region_upon (by kernel_rfl) (by kernel_rfl) ?_
    repeat (go_big_quiet_step (first
      | (go_at_call 36; exact upon_same (number_q _ _ _ _ _ (by first | with_reducible exact G0.out | with_reducible exact G1.out | with_reducible exact G2.out)))))
    refine wpQuiet_nil ?_
    rintro _ ⟨wx, rfl⟩
    have bx := below_next hBf (upon_below wa wx)
    go_wp2
    go_ret
    exact ⟨rfl, bx⟩
set_option maxRecDepth 100000 in
set_option maxHeartbeats 4000000 in
theorem rRight_3 (o : Ox.Op) (kv : Value) (many : Int) (w : World) (hk : KAt w kv o.keys) (hkl : o.keys.length ≤ 100000) (hnl : o.name.length ≤ 1000000) (c : Nat) (hc : o.code = (c : Int)) (hc34 : c < 34) (f : Ox.S) (hf : Ox.shapes[c]? = some f) (hf6 : f.length = 6)
    (g0 : numberP (Ox.at_ f 0) o.p1 many = true)
    (g1 : numberP (Ox.at_ f 1) o.p2 many = true)
    (g2 : numberP (Ox.at_ f 2) o.p3 many = true)
    (g3 : Ox.valued (Ox.at_ f 3) o.vk o.vn o.vs = false)
    : Calls Tryd.prog 24 #[.agg #[.int .i64 o.code, .int .i64 o.p1, .int .i64 o.p2, .int .i64 o.p3, .int .i64 o.vk, .int .i64 o.vn, .string (Lx.bs o.vs), kv, .string (Lx.bs o.name)], .int .i64 many] w fun e w' => e = .returned (.bool false) ∧ Below w.heap.size w w' := by
  obtain ⟨F, hF⟩ : ∃ F, F = Lx.bs f := ⟨_, rfl⟩
  have hF6 : 6 ≤ F.size := by rw [hF, Lx.bs_size]; omega
  have fs0 : 0 < F.size := by omega
  have fi0 : (0 : Int) < (F.size : Int) := by omega
  have fs1 : 1 < F.size := by omega
  have fi1 : (1 : Int) < (F.size : Int) := by omega
  have fs2 : 2 < F.size := by omega
  have fi2 : (2 : Int) < (F.size : Int) := by omega
  have fs3 : 3 < F.size := by omega
  have fi3 : (3 : Int) < (F.size : Int) := by omega
  have fs4 : 4 < F.size := by omega
  have fi4 : (4 : Int) < (F.size : Int) := by omega
  have fs5 : 5 < F.size := by omega
  have fi5 : (5 : Int) < (F.size : Int) := by omega
  have hFa : ∀ i (h : i < F.size), F[i] = Ox.at_ f i := by subst hF; intro i h; exact at_bs f i h
  rw [← hFa 0 (by omega)] at g0
  have G0 := Lib.hid g0
  rw [← hFa 1 (by omega)] at g1
  have G1 := Lib.hid g1
  rw [← hFa 2 (by omega)] at g2
  have G2 := Lib.hid g2
  rw [← hFa 3 (by omega)] at g3
  have G3 := Lib.hid g3
  have HSH : Hid ((sts Ox.shapes)[c]? = some (.string F)) := Lib.hid (by rw [hF]; exact sts_at hf)
  have d0 : decide ((c : Int) < 0) = false := decide_eq_false (by omega)
  have d1 : decide (33 < (c : Int)) = false := decide_eq_false (by omega)
  have hci : (c : Int) < 34 := by omega
  obtain ⟨ka, kn, kc, rfl⟩ := kat_form hk
  have K1 := heap_alloc_new w (.cells #[.int .i64 o.code, .int .i64 o.p1, .int .i64 o.p2, .int .i64 o.p3, .int .i64 o.vk, .int .i64 o.vn, .string (Lx.bs o.vs), .slice ka kn kc, .string (Lx.bs o.name)] 39)
  have hbo := below_al (Below.refl w.heap.size w) (.cells #[.int .i64 o.code, .int .i64 o.p1, .int .i64 o.p2, .int .i64 o.p3, .int .i64 o.vk, .int .i64 o.vn, .string (Lx.bs o.vs), .slice ka kn kc, .string (Lx.bs o.name)] 39)
  have hk1 := kat_keep hk hbo
  have HC := Lib.hid hc
  rw [hc] at K1 hbo hk1 ⊢
  clear hk hf hf6 hF hFa hc g0 g1 g2 g3
  go_enter Tryd.func24, Tryd.ntmps24
  go_wp2
  generalize (w.alloc (.cells #[.int .i64 (c : Int), .int .i64 o.p1, .int .i64 o.p2, .int .i64 o.p3, .int .i64 o.vk, .int .i64 o.vn, .string (Lx.bs o.vs), .slice ka kn kc, .string (Lx.bs o.name)] 39)) = W0 at K1 hbo hk1 ⊢
  obtain ⟨cW, _⟩ := blk_cells K1
  have hsz := blk_lt K1
  have hbo9 := hbo
  generalize w.heap.size = xb at cW hsz hbo K1 ⊢
  have x0 : W0.cell? ⟨xb, 0, none⟩ = some (.int .i64 (c : Int)) := cW 0 _ rfl
  go_region_with (go_at_call 25; refine (rshapes_any _).mono ?_; rintro e wa ⟨va, rfl, hrow, hba⟩; obtain ⟨ga, ca, rfl, hga, hca, hma, hxa⟩ := row1_some hrow (by omega); have A0 : wa.cell? ⟨ga, c, none⟩ = some (.string F) := hxa c _ HSH.out; have X0 : wa.cell? ⟨xb, 0, none⟩ = some (.int .i64 (c : Int)) := (hba.cell (p := ⟨xb, 0, none⟩) (by simpa using hsz)).trans x0; clear hrow hxa)
  all_goals
    have hBa : Below W0.heap.size W0 wa := (Below.refl W0.heap.size W0).drew.trans (hba.mono (by simp))
    have hxa : xb < wa.heap.size := Nat.lt_of_lt_of_le hsz hBa.size
    have m1 : wa.cell? ⟨xb, 1, none⟩ = some (.int .i64 o.p1) := (hBa.cell (p := ⟨xb, 1, none⟩) hsz).trans (cW 1 _ rfl)
    have m2 : wa.cell? ⟨xb, 2, none⟩ = some (.int .i64 o.p2) := (hBa.cell (p := ⟨xb, 2, none⟩) hsz).trans (cW 2 _ rfl)
    have m3 : wa.cell? ⟨xb, 3, none⟩ = some (.int .i64 o.p3) := (hBa.cell (p := ⟨xb, 3, none⟩) hsz).trans (cW 3 _ rfl)
    have m4 : wa.cell? ⟨xb, 4, none⟩ = some (.int .i64 o.vk) := (hBa.cell (p := ⟨xb, 4, none⟩) hsz).trans (cW 4 _ rfl)
    have m5 : wa.cell? ⟨xb, 5, none⟩ = some (.int .i64 o.vn) := (hBa.cell (p := ⟨xb, 5, none⟩) hsz).trans (cW 5 _ rfl)
    have m6 : wa.cell? ⟨xb, 6, none⟩ = some (.string (Lx.bs o.vs)) := (hBa.cell (p := ⟨xb, 6, none⟩) hsz).trans (cW 6 _ rfl)
    have m7 : wa.cell? ⟨xb, 7, none⟩ = some (.slice ka kn kc) := (hBa.cell (p := ⟨xb, 7, none⟩) hsz).trans (cW 7 _ rfl)
    have m8 : wa.cell? ⟨xb, 8, none⟩ = some (.string (Lx.bs o.name)) := (hBa.cell (p := ⟨xb, 8, none⟩) hsz).trans (cW 8 _ rfl)
    have hka := kat_keep hk1 hBa
    have hBf := below_next (w := w) hbo9 hBa
    clear hba A0 hbo K1
    go_wp2
    go_simp
    have x1 := upon_cell hxa m1
    have x2 := upon_cell hxa m2
    have x3 := upon_cell hxa m3
    have x4 := upon_cell hxa m4
    have x5 := upon_cell hxa m5
    have x6 := upon_cell hxa m6
    have x7 := upon_cell hxa m7
    have x8 := upon_cell hxa m8
    refine wp_region_upon (by kernel_rfl) (by kernel_rfl) ?_
    repeat (go_big_quiet_step (first
      | (go_at_call 36; exact upon_same (number_q _ _ _ _ _ (by first | with_reducible exact G0.out | with_reducible exact G1.out | with_reducible exact G2.out)))
      | (go_at_call 37; exact upon_call (rvalue_q _ _ _ _ _ _ (by with_reducible exact G3.out)))))
    refine wpQuiet_nil ?_
    rintro _ ⟨wx, rfl⟩
    have bx := below_next hBf (upon_below wa wx)
    go_wp2
    go_ret
    exact ⟨rfl, bx⟩
set_option maxRecDepth 100000 in
set_option maxHeartbeats 4000000 in
theorem rRight_4 (o : Ox.Op) (kv : Value) (many : Int) (w : World) (hk : KAt w kv o.keys) (hkl : o.keys.length ≤ 100000) (hnl : o.name.length ≤ 1000000) (c : Nat) (hc : o.code = (c : Int)) (hc34 : c < 34) (f : Ox.S) (hf : Ox.shapes[c]? = some f) (hf6 : f.length = 6)
    (g0 : numberP (Ox.at_ f 0) o.p1 many = true)
    (g1 : numberP (Ox.at_ f 1) o.p2 many = true)
    (g2 : numberP (Ox.at_ f 2) o.p3 many = true)
    (g3 : Ox.valued (Ox.at_ f 3) o.vk o.vn o.vs = true)
    (g4 : wordP (Ox.at_ f 4) o.name = false)
    : Calls Tryd.prog 24 #[.agg #[.int .i64 o.code, .int .i64 o.p1, .int .i64 o.p2, .int .i64 o.p3, .int .i64 o.vk, .int .i64 o.vn, .string (Lx.bs o.vs), kv, .string (Lx.bs o.name)], .int .i64 many] w fun e w' => e = .returned (.bool false) ∧ Below w.heap.size w w' := by
  obtain ⟨F, hF⟩ : ∃ F, F = Lx.bs f := ⟨_, rfl⟩
  have hF6 : 6 ≤ F.size := by rw [hF, Lx.bs_size]; omega
  have fs0 : 0 < F.size := by omega
  have fi0 : (0 : Int) < (F.size : Int) := by omega
  have fs1 : 1 < F.size := by omega
  have fi1 : (1 : Int) < (F.size : Int) := by omega
  have fs2 : 2 < F.size := by omega
  have fi2 : (2 : Int) < (F.size : Int) := by omega
  have fs3 : 3 < F.size := by omega
  have fi3 : (3 : Int) < (F.size : Int) := by omega
  have fs4 : 4 < F.size := by omega
  have fi4 : (4 : Int) < (F.size : Int) := by omega
  have fs5 : 5 < F.size := by omega
  have fi5 : (5 : Int) < (F.size : Int) := by omega
  have hFa : ∀ i (h : i < F.size), F[i] = Ox.at_ f i := by subst hF; intro i h; exact at_bs f i h
  rw [← hFa 0 (by omega)] at g0
  have G0 := Lib.hid g0
  rw [← hFa 1 (by omega)] at g1
  have G1 := Lib.hid g1
  rw [← hFa 2 (by omega)] at g2
  have G2 := Lib.hid g2
  rw [← hFa 3 (by omega)] at g3
  have G3 := Lib.hid g3
  rw [← hFa 4 (by omega)] at g4
  have G4 := Lib.hid g4
  have HSH : Hid ((sts Ox.shapes)[c]? = some (.string F)) := Lib.hid (by rw [hF]; exact sts_at hf)
  have d0 : decide ((c : Int) < 0) = false := decide_eq_false (by omega)
  have d1 : decide (33 < (c : Int)) = false := decide_eq_false (by omega)
  have hci : (c : Int) < 34 := by omega
  obtain ⟨ka, kn, kc, rfl⟩ := kat_form hk
  have K1 := heap_alloc_new w (.cells #[.int .i64 o.code, .int .i64 o.p1, .int .i64 o.p2, .int .i64 o.p3, .int .i64 o.vk, .int .i64 o.vn, .string (Lx.bs o.vs), .slice ka kn kc, .string (Lx.bs o.name)] 39)
  have hbo := below_al (Below.refl w.heap.size w) (.cells #[.int .i64 o.code, .int .i64 o.p1, .int .i64 o.p2, .int .i64 o.p3, .int .i64 o.vk, .int .i64 o.vn, .string (Lx.bs o.vs), .slice ka kn kc, .string (Lx.bs o.name)] 39)
  have hk1 := kat_keep hk hbo
  have HC := Lib.hid hc
  rw [hc] at K1 hbo hk1 ⊢
  clear hk hf hf6 hF hFa hc g0 g1 g2 g3 g4
  go_enter Tryd.func24, Tryd.ntmps24
  go_wp2
  generalize (w.alloc (.cells #[.int .i64 (c : Int), .int .i64 o.p1, .int .i64 o.p2, .int .i64 o.p3, .int .i64 o.vk, .int .i64 o.vn, .string (Lx.bs o.vs), .slice ka kn kc, .string (Lx.bs o.name)] 39)) = W0 at K1 hbo hk1 ⊢
  obtain ⟨cW, _⟩ := blk_cells K1
  have hsz := blk_lt K1
  have hbo9 := hbo
  generalize w.heap.size = xb at cW hsz hbo K1 ⊢
  have x0 : W0.cell? ⟨xb, 0, none⟩ = some (.int .i64 (c : Int)) := cW 0 _ rfl
  go_region_with (go_at_call 25; refine (rshapes_any _).mono ?_; rintro e wa ⟨va, rfl, hrow, hba⟩; obtain ⟨ga, ca, rfl, hga, hca, hma, hxa⟩ := row1_some hrow (by omega); have A0 : wa.cell? ⟨ga, c, none⟩ = some (.string F) := hxa c _ HSH.out; have X0 : wa.cell? ⟨xb, 0, none⟩ = some (.int .i64 (c : Int)) := (hba.cell (p := ⟨xb, 0, none⟩) (by simpa using hsz)).trans x0; clear hrow hxa)
  all_goals
    have hBa : Below W0.heap.size W0 wa := (Below.refl W0.heap.size W0).drew.trans (hba.mono (by simp))
    have hxa : xb < wa.heap.size := Nat.lt_of_lt_of_le hsz hBa.size
    have m1 : wa.cell? ⟨xb, 1, none⟩ = some (.int .i64 o.p1) := (hBa.cell (p := ⟨xb, 1, none⟩) hsz).trans (cW 1 _ rfl)
    have m2 : wa.cell? ⟨xb, 2, none⟩ = some (.int .i64 o.p2) := (hBa.cell (p := ⟨xb, 2, none⟩) hsz).trans (cW 2 _ rfl)
    have m3 : wa.cell? ⟨xb, 3, none⟩ = some (.int .i64 o.p3) := (hBa.cell (p := ⟨xb, 3, none⟩) hsz).trans (cW 3 _ rfl)
    have m4 : wa.cell? ⟨xb, 4, none⟩ = some (.int .i64 o.vk) := (hBa.cell (p := ⟨xb, 4, none⟩) hsz).trans (cW 4 _ rfl)
    have m5 : wa.cell? ⟨xb, 5, none⟩ = some (.int .i64 o.vn) := (hBa.cell (p := ⟨xb, 5, none⟩) hsz).trans (cW 5 _ rfl)
    have m6 : wa.cell? ⟨xb, 6, none⟩ = some (.string (Lx.bs o.vs)) := (hBa.cell (p := ⟨xb, 6, none⟩) hsz).trans (cW 6 _ rfl)
    have m7 : wa.cell? ⟨xb, 7, none⟩ = some (.slice ka kn kc) := (hBa.cell (p := ⟨xb, 7, none⟩) hsz).trans (cW 7 _ rfl)
    have m8 : wa.cell? ⟨xb, 8, none⟩ = some (.string (Lx.bs o.name)) := (hBa.cell (p := ⟨xb, 8, none⟩) hsz).trans (cW 8 _ rfl)
    have hka := kat_keep hk1 hBa
    have hBf := below_next (w := w) hbo9 hBa
    clear hba A0 hbo K1
    go_wp2
    go_simp
    have x1 := upon_cell hxa m1
    have x2 := upon_cell hxa m2
    have x3 := upon_cell hxa m3
    have x4 := upon_cell hxa m4
    have x5 := upon_cell hxa m5
    have x6 := upon_cell hxa m6
    have x7 := upon_cell hxa m7
    have x8 := upon_cell hxa m8
    refine wp_region_upon (by kernel_rfl) (by kernel_rfl) ?_
    repeat (go_big_quiet_step (first
      | (go_at_call 36; exact upon_same (number_q _ _ _ _ _ (by first | with_reducible exact G0.out | with_reducible exact G1.out | with_reducible exact G2.out)))
      | (go_at_call 37; exact upon_call (rvalue_q _ _ _ _ _ _ (by with_reducible exact G3.out)))
      | (go_at_call 38; exact upon_call (rword_q _ _ _ _ hnl (by with_reducible exact G4.out)))))
    refine wpQuiet_nil ?_
    rintro _ ⟨wx, rfl⟩
    have bx := below_next hBf (upon_below wa wx)
    go_wp2
    go_ret
    exact ⟨rfl, bx⟩
set_option maxRecDepth 100000 in
set_option maxHeartbeats 4000000 in
theorem rRight_5 (o : Ox.Op) (kv : Value) (many : Int) (w : World) (hk : KAt w kv o.keys) (hkl : o.keys.length ≤ 100000) (hnl : o.name.length ≤ 1000000) (c : Nat) (hc : o.code = (c : Int)) (hc34 : c < 34) (f : Ox.S) (hf : Ox.shapes[c]? = some f) (hf6 : f.length = 6)
    (g0 : numberP (Ox.at_ f 0) o.p1 many = true)
    (g1 : numberP (Ox.at_ f 1) o.p2 many = true)
    (g2 : numberP (Ox.at_ f 2) o.p3 many = true)
    (g3 : Ox.valued (Ox.at_ f 3) o.vk o.vn o.vs = true)
    (g4 : wordP (Ox.at_ f 4) o.name = true)
    (g5 : Ox.keyed (Ox.at_ f 5) o.keys = false)
    : Calls Tryd.prog 24 #[.agg #[.int .i64 o.code, .int .i64 o.p1, .int .i64 o.p2, .int .i64 o.p3, .int .i64 o.vk, .int .i64 o.vn, .string (Lx.bs o.vs), kv, .string (Lx.bs o.name)], .int .i64 many] w fun e w' => e = .returned (.bool false) ∧ Below w.heap.size w w' := by
  obtain ⟨F, hF⟩ : ∃ F, F = Lx.bs f := ⟨_, rfl⟩
  have hF6 : 6 ≤ F.size := by rw [hF, Lx.bs_size]; omega
  have fs0 : 0 < F.size := by omega
  have fi0 : (0 : Int) < (F.size : Int) := by omega
  have fs1 : 1 < F.size := by omega
  have fi1 : (1 : Int) < (F.size : Int) := by omega
  have fs2 : 2 < F.size := by omega
  have fi2 : (2 : Int) < (F.size : Int) := by omega
  have fs3 : 3 < F.size := by omega
  have fi3 : (3 : Int) < (F.size : Int) := by omega
  have fs4 : 4 < F.size := by omega
  have fi4 : (4 : Int) < (F.size : Int) := by omega
  have fs5 : 5 < F.size := by omega
  have fi5 : (5 : Int) < (F.size : Int) := by omega
  have hFa : ∀ i (h : i < F.size), F[i] = Ox.at_ f i := by subst hF; intro i h; exact at_bs f i h
  rw [← hFa 0 (by omega)] at g0
  have G0 := Lib.hid g0
  rw [← hFa 1 (by omega)] at g1
  have G1 := Lib.hid g1
  rw [← hFa 2 (by omega)] at g2
  have G2 := Lib.hid g2
  rw [← hFa 3 (by omega)] at g3
  have G3 := Lib.hid g3
  rw [← hFa 4 (by omega)] at g4
  have G4 := Lib.hid g4
  rw [← hFa 5 (by omega)] at g5
  have G5 := Lib.hid g5
  have HSH : Hid ((sts Ox.shapes)[c]? = some (.string F)) := Lib.hid (by rw [hF]; exact sts_at hf)
  have d0 : decide ((c : Int) < 0) = false := decide_eq_false (by omega)
  have d1 : decide (33 < (c : Int)) = false := decide_eq_false (by omega)
  have hci : (c : Int) < 34 := by omega
  obtain ⟨ka, kn, kc, rfl⟩ := kat_form hk
  have K1 := heap_alloc_new w (.cells #[.int .i64 o.code, .int .i64 o.p1, .int .i64 o.p2, .int .i64 o.p3, .int .i64 o.vk, .int .i64 o.vn, .string (Lx.bs o.vs), .slice ka kn kc, .string (Lx.bs o.name)] 39)
  have hbo := below_al (Below.refl w.heap.size w) (.cells #[.int .i64 o.code, .int .i64 o.p1, .int .i64 o.p2, .int .i64 o.p3, .int .i64 o.vk, .int .i64 o.vn, .string (Lx.bs o.vs), .slice ka kn kc, .string (Lx.bs o.name)] 39)
  have hk1 := kat_keep hk hbo
  have HC := Lib.hid hc
  rw [hc] at K1 hbo hk1 ⊢
  clear hk hf hf6 hF hFa hc g0 g1 g2 g3 g4 g5
  go_enter Tryd.func24, Tryd.ntmps24
  go_wp2
  generalize (w.alloc (.cells #[.int .i64 (c : Int), .int .i64 o.p1, .int .i64 o.p2, .int .i64 o.p3, .int .i64 o.vk, .int .i64 o.vn, .string (Lx.bs o.vs), .slice ka kn kc, .string (Lx.bs o.name)] 39)) = W0 at K1 hbo hk1 ⊢
  obtain ⟨cW, _⟩ := blk_cells K1
  have hsz := blk_lt K1
  have hbo9 := hbo
  generalize w.heap.size = xb at cW hsz hbo K1 ⊢
  have x0 : W0.cell? ⟨xb, 0, none⟩ = some (.int .i64 (c : Int)) := cW 0 _ rfl
  go_region_with (go_at_call 25; refine (rshapes_any _).mono ?_; rintro e wa ⟨va, rfl, hrow, hba⟩; obtain ⟨ga, ca, rfl, hga, hca, hma, hxa⟩ := row1_some hrow (by omega); have A0 : wa.cell? ⟨ga, c, none⟩ = some (.string F) := hxa c _ HSH.out; have X0 : wa.cell? ⟨xb, 0, none⟩ = some (.int .i64 (c : Int)) := (hba.cell (p := ⟨xb, 0, none⟩) (by simpa using hsz)).trans x0; clear hrow hxa)
  all_goals
    have hBa : Below W0.heap.size W0 wa := (Below.refl W0.heap.size W0).drew.trans (hba.mono (by simp))
    have hxa : xb < wa.heap.size := Nat.lt_of_lt_of_le hsz hBa.size
    have m1 : wa.cell? ⟨xb, 1, none⟩ = some (.int .i64 o.p1) := (hBa.cell (p := ⟨xb, 1, none⟩) hsz).trans (cW 1 _ rfl)
    have m2 : wa.cell? ⟨xb, 2, none⟩ = some (.int .i64 o.p2) := (hBa.cell (p := ⟨xb, 2, none⟩) hsz).trans (cW 2 _ rfl)
    have m3 : wa.cell? ⟨xb, 3, none⟩ = some (.int .i64 o.p3) := (hBa.cell (p := ⟨xb, 3, none⟩) hsz).trans (cW 3 _ rfl)
    have m4 : wa.cell? ⟨xb, 4, none⟩ = some (.int .i64 o.vk) := (hBa.cell (p := ⟨xb, 4, none⟩) hsz).trans (cW 4 _ rfl)
    have m5 : wa.cell? ⟨xb, 5, none⟩ = some (.int .i64 o.vn) := (hBa.cell (p := ⟨xb, 5, none⟩) hsz).trans (cW 5 _ rfl)
    have m6 : wa.cell? ⟨xb, 6, none⟩ = some (.string (Lx.bs o.vs)) := (hBa.cell (p := ⟨xb, 6, none⟩) hsz).trans (cW 6 _ rfl)
    have m7 : wa.cell? ⟨xb, 7, none⟩ = some (.slice ka kn kc) := (hBa.cell (p := ⟨xb, 7, none⟩) hsz).trans (cW 7 _ rfl)
    have m8 : wa.cell? ⟨xb, 8, none⟩ = some (.string (Lx.bs o.name)) := (hBa.cell (p := ⟨xb, 8, none⟩) hsz).trans (cW 8 _ rfl)
    have hka := kat_keep hk1 hBa
    have hBf := below_next (w := w) hbo9 hBa
    clear hba A0 hbo K1
    go_wp2
    go_simp
    have x1 := upon_cell hxa m1
    have x2 := upon_cell hxa m2
    have x3 := upon_cell hxa m3
    have x4 := upon_cell hxa m4
    have x5 := upon_cell hxa m5
    have x6 := upon_cell hxa m6
    have x7 := upon_cell hxa m7
    have x8 := upon_cell hxa m8
    refine wp_region_upon (by kernel_rfl) (by kernel_rfl) ?_
    repeat (go_big_quiet_step (first
      | (go_at_call 36; exact upon_same (number_q _ _ _ _ _ (by first | with_reducible exact G0.out | with_reducible exact G1.out | with_reducible exact G2.out)))
      | (go_at_call 37; exact upon_call (rvalue_q _ _ _ _ _ _ (by with_reducible exact G3.out)))
      | (go_at_call 38; exact upon_call (rword_q _ _ _ _ hnl (by with_reducible exact G4.out)))
      | (go_at_call 39; exact upon_call (rkeys_q _ _ _ _ _ hkl (kat_keep hka (upon_below _ _)) (by with_reducible exact G5.out)))))
    refine wpQuiet_nil ?_
    rintro _ ⟨wx, rfl⟩
    have bx := below_next hBf (upon_below wa wx)
    go_wp2
    go_ret
    exact ⟨rfl, bx⟩
set_option maxRecDepth 100000 in
set_option maxHeartbeats 4000000 in
theorem rRight_6 (o : Ox.Op) (kv : Value) (many : Int) (w : World) (hk : KAt w kv o.keys) (hkl : o.keys.length ≤ 100000) (hnl : o.name.length ≤ 1000000) (c : Nat) (hc : o.code = (c : Int)) (hc34 : c < 34) (f : Ox.S) (hf : Ox.shapes[c]? = some f) (hf6 : f.length = 6)
    (g0 : numberP (Ox.at_ f 0) o.p1 many = true)
    (g1 : numberP (Ox.at_ f 1) o.p2 many = true)
    (g2 : numberP (Ox.at_ f 2) o.p3 many = true)
    (g3 : Ox.valued (Ox.at_ f 3) o.vk o.vn o.vs = true)
    (g4 : wordP (Ox.at_ f 4) o.name = true)
    (g5 : Ox.keyed (Ox.at_ f 5) o.keys = true)
    (b1 : 0 ≤ o.p1) (b2 : o.p1 ≤ 1000000) (b3 : 0 ≤ o.p2) (b4 : o.p2 ≤ 1000000) (b5 : 0 ≤ o.p3) (b6 : o.p3 ≤ 1000000) (hvn : Ox.sevC (c : Int) = true ∨ c = 33 → 0 ≤ o.vn ∧ o.vn ≤ 1024)
    : Calls Tryd.prog 24 #[.agg #[.int .i64 o.code, .int .i64 o.p1, .int .i64 o.p2, .int .i64 o.p3, .int .i64 o.vk, .int .i64 o.vn, .string (Lx.bs o.vs), kv, .string (Lx.bs o.name)], .int .i64 many] w fun e w' => e = .returned (.bool (decide (rtop o ≤ 1024))) ∧ Below w.heap.size w w' := by
  obtain ⟨F, hF⟩ : ∃ F, F = Lx.bs f := ⟨_, rfl⟩
  have hF6 : 6 ≤ F.size := by rw [hF, Lx.bs_size]; omega
  have fs0 : 0 < F.size := by omega
  have fi0 : (0 : Int) < (F.size : Int) := by omega
  have fs1 : 1 < F.size := by omega
  have fi1 : (1 : Int) < (F.size : Int) := by omega
  have fs2 : 2 < F.size := by omega
  have fi2 : (2 : Int) < (F.size : Int) := by omega
  have fs3 : 3 < F.size := by omega
  have fi3 : (3 : Int) < (F.size : Int) := by omega
  have fs4 : 4 < F.size := by omega
  have fi4 : (4 : Int) < (F.size : Int) := by omega
  have fs5 : 5 < F.size := by omega
  have fi5 : (5 : Int) < (F.size : Int) := by omega
  have hFa : ∀ i (h : i < F.size), F[i] = Ox.at_ f i := by subst hF; intro i h; exact at_bs f i h
  rw [← hFa 0 (by omega)] at g0
  have G0 := Lib.hid g0
  rw [← hFa 1 (by omega)] at g1
  have G1 := Lib.hid g1
  rw [← hFa 2 (by omega)] at g2
  have G2 := Lib.hid g2
  rw [← hFa 3 (by omega)] at g3
  have G3 := Lib.hid g3
  rw [← hFa 4 (by omega)] at g4
  have G4 := Lib.hid g4
  rw [← hFa 5 (by omega)] at g5
  have G5 := Lib.hid g5
  have HSH : Hid ((sts Ox.shapes)[c]? = some (.string F)) := Lib.hid (by rw [hF]; exact sts_at hf)
  have d0 : decide ((c : Int) < 0) = false := decide_eq_false (by omega)
  have d1 : decide (33 < (c : Int)) = false := decide_eq_false (by omega)
  have hci : (c : Int) < 34 := by omega
  obtain ⟨ka, kn, kc, rfl⟩ := kat_form hk
  have K1 := heap_alloc_new w (.cells #[.int .i64 o.code, .int .i64 o.p1, .int .i64 o.p2, .int .i64 o.p3, .int .i64 o.vk, .int .i64 o.vn, .string (Lx.bs o.vs), .slice ka kn kc, .string (Lx.bs o.name)] 39)
  have hbo := below_al (Below.refl w.heap.size w) (.cells #[.int .i64 o.code, .int .i64 o.p1, .int .i64 o.p2, .int .i64 o.p3, .int .i64 o.vk, .int .i64 o.vn, .string (Lx.bs o.vs), .slice ka kn kc, .string (Lx.bs o.name)] 39)
  have hk1 := kat_keep hk hbo
  have HC := Lib.hid hc
  rw [hc] at K1 hbo hk1 ⊢
  have HVN := Lib.hid hvn
  clear hvn
  clear hk hf hf6 hF hFa hc g0 g1 g2 g3 g4 g5
  go_enter Tryd.func24, Tryd.ntmps24
  go_wp2
  generalize (w.alloc (.cells #[.int .i64 (c : Int), .int .i64 o.p1, .int .i64 o.p2, .int .i64 o.p3, .int .i64 o.vk, .int .i64 o.vn, .string (Lx.bs o.vs), .slice ka kn kc, .string (Lx.bs o.name)] 39)) = W0 at K1 hbo hk1 ⊢
  obtain ⟨cW, _⟩ := blk_cells K1
  have hsz := blk_lt K1
  have hbo9 := hbo
  generalize w.heap.size = xb at cW hsz hbo K1 ⊢
  have x0 : W0.cell? ⟨xb, 0, none⟩ = some (.int .i64 (c : Int)) := cW 0 _ rfl
  go_region_with (go_at_call 25; refine (rshapes_any _).mono ?_; rintro e wa ⟨va, rfl, hrow, hba⟩; obtain ⟨ga, ca, rfl, hga, hca, hma, hxa⟩ := row1_some hrow (by omega); have A0 : wa.cell? ⟨ga, c, none⟩ = some (.string F) := hxa c _ HSH.out; have X0 : wa.cell? ⟨xb, 0, none⟩ = some (.int .i64 (c : Int)) := (hba.cell (p := ⟨xb, 0, none⟩) (by simpa using hsz)).trans x0; clear hrow hxa)
  all_goals
    have hBa : Below W0.heap.size W0 wa := (Below.refl W0.heap.size W0).drew.trans (hba.mono (by simp))
    have hxa : xb < wa.heap.size := Nat.lt_of_lt_of_le hsz hBa.size
    have m1 : wa.cell? ⟨xb, 1, none⟩ = some (.int .i64 o.p1) := (hBa.cell (p := ⟨xb, 1, none⟩) hsz).trans (cW 1 _ rfl)
    have m2 : wa.cell? ⟨xb, 2, none⟩ = some (.int .i64 o.p2) := (hBa.cell (p := ⟨xb, 2, none⟩) hsz).trans (cW 2 _ rfl)
    have m3 : wa.cell? ⟨xb, 3, none⟩ = some (.int .i64 o.p3) := (hBa.cell (p := ⟨xb, 3, none⟩) hsz).trans (cW 3 _ rfl)
    have m4 : wa.cell? ⟨xb, 4, none⟩ = some (.int .i64 o.vk) := (hBa.cell (p := ⟨xb, 4, none⟩) hsz).trans (cW 4 _ rfl)
    have m5 : wa.cell? ⟨xb, 5, none⟩ = some (.int .i64 o.vn) := (hBa.cell (p := ⟨xb, 5, none⟩) hsz).trans (cW 5 _ rfl)
    have m6 : wa.cell? ⟨xb, 6, none⟩ = some (.string (Lx.bs o.vs)) := (hBa.cell (p := ⟨xb, 6, none⟩) hsz).trans (cW 6 _ rfl)
    have m7 : wa.cell? ⟨xb, 7, none⟩ = some (.slice ka kn kc) := (hBa.cell (p := ⟨xb, 7, none⟩) hsz).trans (cW 7 _ rfl)
    have m8 : wa.cell? ⟨xb, 8, none⟩ = some (.string (Lx.bs o.name)) := (hBa.cell (p := ⟨xb, 8, none⟩) hsz).trans (cW 8 _ rfl)
    have hka := kat_keep hk1 hBa
    have hBf := below_next (w := w) hbo9 hBa
    clear hba A0 hbo K1
    go_wp2
    go_simp
    have x1 := upon_cell hxa m1
    have x2 := upon_cell hxa m2
    have x3 := upon_cell hxa m3
    have x4 := upon_cell hxa m4
    have x5 := upon_cell hxa m5
    have x6 := upon_cell hxa m6
    have x7 := upon_cell hxa m7
    have x8 := upon_cell hxa m8
    refine wp_region_upon (by kernel_rfl) (by kernel_rfl) ?_
    repeat (go_big_quiet_step (first
      | (go_at_call 36; exact upon_same (number_q _ _ _ _ _ (by first | with_reducible exact G0.out | with_reducible exact G1.out | with_reducible exact G2.out)))
      | (go_at_call 37; exact upon_call (rvalue_q _ _ _ _ _ _ (by with_reducible exact G3.out)))
      | (go_at_call 38; exact upon_call (rword_q _ _ _ _ hnl (by with_reducible exact G4.out)))
      | (go_at_call 39; exact upon_call (rkeys_q _ _ _ _ _ hkl (kat_keep hka (upon_below _ _)) (by with_reducible exact G5.out)))))
    refine wpQuiet_nil ?_
    rintro _ ⟨wx, rfl⟩
    have bx := below_next hBf (upon_below wa wx)
    have y0 := upon_cell hxa X0 wx
    have y1 := x1 wx
    have y2 := x2 wx
    have y3 := x3 wx
    have y4 := x4 wx
    have y5 := x5 wx
    have y6 := x6 wx
    have y7 := x7 wx
    have y8 := x8 wx
    clear x1 x2 x3 x4 x5 x6 x7 x8
    go_wp2_with fail
    refine (rTop_any o _ _ ka kn kc rfl c hc34 HC.out b1 b2 b3 b4 b5 b6 HVN.out).mono ?_
    rintro e wy ⟨rfl, hby⟩
    have bz := below_next bx hby
    go_wp2
    go_ret
    exact ⟨rfl, bz⟩
theorem formed_bounds {o : Ox.Op} {many : Int} (hm : many ≤ 1000000) (hf : Ox.formed o many = true) : (0 ≤ o.p1 ∧ o.p1 ≤ 1000000) ∧ (0 ≤ o.p2 ∧ o.p2 ≤ 1000000) ∧ (0 ≤ o.p3 ∧ o.p3 ≤ 1000000) := by
  unfold Ox.formed at hf
  simp only [Bool.and_eq_true] at hf
  obtain ⟨⟨⟨⟨⟨f1, f2⟩, f3⟩, _⟩, _⟩, _⟩ := hf
  have h : ∀ (k : UInt8) (n : Int), Ox.within k n many = true → 0 ≤ n ∧ n ≤ 1000000 := by
    intro k n h
    unfold Ox.within at h
    (repeat' split at h) <;> simp only [Bool.and_eq_true, Bool.or_eq_true, decide_eq_true_eq] at h <;> omega
  exact ⟨h _ _ f1, h _ _ f2, h _ _ f3⟩
theorem formed_vn {o : Ox.Op} {many : Int} (c : Nat) (hc : o.code = (c : Int)) (hf : Ox.formed o many = true) (h : Ox.sevC (c : Int) = true ∨ c = 33) : 0 ≤ o.vn ∧ o.vn ≤ 1024 := by
  have h3 : Ox.at_ (Ox.form o.code) 3 = 109 := by
    rw [hc]
    rcases h with h | rfl
    · unfold Ox.sevC at h
      simp only [Bool.or_eq_true, decide_eq_true_eq] at h
      rcases h with ((((h | h) | h) | h) | h) | h <;> · rw [h]; rfl
    · rfl
  unfold Ox.formed at hf
  simp only [Bool.and_eq_true] at hf
  have h4 := hf.1.1.2
  rw [h3] at h4
  simp [Ox.valued] at h4
  omega
theorem rRight_any (o : Ox.Op) (kv : Value) (many : Int) (w : World) (hm : many ≤ 1000000) (hk : KAt w kv o.keys) (hkl : o.keys.length ≤ 100000) (hnl : o.name.length ≤ 1000000) :
    Calls Tryd.prog 24 #[.agg #[.int .i64 o.code, .int .i64 o.p1, .int .i64 o.p2, .int .i64 o.p3, .int .i64 o.vk, .int .i64 o.vn, .string (Lx.bs o.vs), kv, .string (Lx.bs o.name)], .int .i64 many] w fun e w' => e = .returned (.bool (Ox.right o many)) ∧ Below w.heap.size w w' := by
  cases hco : Ox.coded o with
  | false => exact rRight_uncoded o kv many w hco
  | true =>
    have hc2 := hco
    unfold Ox.coded at hc2
    simp only [Bool.and_eq_true, decide_eq_true_eq] at hc2
    obtain ⟨c, hc⟩ : ∃ c : Nat, o.code = (c : Int) := ⟨o.code.toNat, by omega⟩
    have hc34 : c < 34 := by omega
    obtain ⟨f, hf, hf6, hfe⟩ := shape_at hc34
    have hlet : ∀ j, j < 6 → pairOk j (Ox.at_ (Ox.form o.code) j).toNat (Ox.at_ f j).toNat = true := by
      intro j hj
      have := letters ⟨c, hc34⟩ ⟨j, hj⟩
      simp only [hfe] at this
      rw [hc]; exact this
    have hfo : Ox.formed o many = (numberP (Ox.at_ f 0) o.p1 many && numberP (Ox.at_ f 1) o.p2 many && numberP (Ox.at_ f 2) o.p3 many && Ox.valued (Ox.at_ f 3) o.vk o.vn o.vs && wordP (Ox.at_ f 4) o.name && Ox.keyed (Ox.at_ f 5) o.keys) := by
      rw [number_eq 0 (by decide) (hlet 0 (by decide)), number_eq 1 (by decide) (hlet 1 (by decide)), number_eq 2 (by decide) (hlet 2 (by decide)), same_letter 3 (.inl rfl) (hlet 3 (by decide)), word_eq (hlet 4 (by decide)), same_letter 5 (.inr rfl) (hlet 5 (by decide))]
      rfl
    have hr : Ox.right o many = (Ox.formed o many && (Ox.several o).1.all (fun r => decide (r + (Ox.several o).2 ≤ 1024))) := by rw [Ox.right, hco, Bool.true_and]
    cases g0 : numberP (Ox.at_ f 0) o.p1 many with
    | false => rw [hr, hfo, g0]; exact rRight_0 o kv many w hk hkl hnl c hc hc34 f hf hf6 g0
    | true =>
    cases g1 : numberP (Ox.at_ f 1) o.p2 many with
    | false => rw [hr, hfo, g0, g1]; exact rRight_1 o kv many w hk hkl hnl c hc hc34 f hf hf6 g0 g1
    | true =>
    cases g2 : numberP (Ox.at_ f 2) o.p3 many with
    | false => rw [hr, hfo, g0, g1, g2]; exact rRight_2 o kv many w hk hkl hnl c hc hc34 f hf hf6 g0 g1 g2
    | true =>
    cases g3 : Ox.valued (Ox.at_ f 3) o.vk o.vn o.vs with
    | false => rw [hr, hfo, g0, g1, g2, g3]; exact rRight_3 o kv many w hk hkl hnl c hc hc34 f hf hf6 g0 g1 g2 g3
    | true =>
    cases g4 : wordP (Ox.at_ f 4) o.name with
    | false => rw [hr, hfo, g0, g1, g2, g3, g4]; exact rRight_4 o kv many w hk hkl hnl c hc hc34 f hf hf6 g0 g1 g2 g3 g4
    | true =>
    cases g5 : Ox.keyed (Ox.at_ f 5) o.keys with
    | false => rw [hr, hfo, g0, g1, g2, g3, g4, g5]; exact rRight_5 o kv many w hk hkl hnl c hc hc34 f hf hf6 g0 g1 g2 g3 g4 g5
    | true =>
    have hft : Ox.formed o many = true := by rw [hfo, g0, g1, g2, g3, g4, g5]; rfl
    obtain ⟨⟨b1, b2⟩, ⟨b3, b4⟩, b5, b6⟩ := formed_bounds hm hft
    rw [hr, hft, right_top hco hft, Bool.true_and]
    exact rRight_6 o kv many w hk hkl hnl c hc hc34 f hf hf6 g0 g1 g2 g3 g4 g5 b1 b2 b3 b4 b5 b6 (formed_vn c hc hft)
end Go.Proofs.YtoekddkkjbcicaaDoor
