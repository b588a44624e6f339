import Derived.Test.YtoekddkkjbcicaaDoorOpK
import Derived.Test.YtoekddkkjbcicaaDoorQuiet
import Derived.Deep.RegionHeld3
set_option linter.unusedVariables false
set_option linter.unusedSimpArgs false
namespace Go.Proofs.YtoekddkkjbcicaaDoor
open Go.RowKit
attribute [local simp] Lx.bs_size
theorem s_next {W w1 : World} {B : Nat} {o : Ox.Op} {kv : Value} (hb : Below W.heap.size W w1) (hB : B < W.heap.size) (h : W.cell? ⟨B, 1, none⟩ = some (.int .i64 o.p1) ∧ W.cell? ⟨B, 2, none⟩ = some (.int .i64 o.p2) ∧ W.cell? ⟨B, 3, none⟩ = some (.int .i64 o.p3) ∧ W.cell? ⟨B, 4, none⟩ = some (.int .i64 o.vk) ∧ W.cell? ⟨B, 5, none⟩ = some (.int .i64 o.vn) ∧ W.cell? ⟨B, 6, none⟩ = some (.string (Lx.bs o.vs)) ∧ W.cell? ⟨B, 7, none⟩ = some (kv) ∧ W.cell? ⟨B, 8, none⟩ = some (.string (Lx.bs o.name))) : w1.cell? ⟨B, 1, none⟩ = some (.int .i64 o.p1) ∧ w1.cell? ⟨B, 2, none⟩ = some (.int .i64 o.p2) ∧ w1.cell? ⟨B, 3, none⟩ = some (.int .i64 o.p3) ∧ w1.cell? ⟨B, 4, none⟩ = some (.int .i64 o.vk) ∧ w1.cell? ⟨B, 5, none⟩ = some (.int .i64 o.vn) ∧ w1.cell? ⟨B, 6, none⟩ = some (.string (Lx.bs o.vs)) ∧ w1.cell? ⟨B, 7, none⟩ = some (kv) ∧ w1.cell? ⟨B, 8, none⟩ = some (.string (Lx.bs o.name)) := by
  obtain ⟨h1, h2, h3, h4, h5, h6, h7, h8⟩ := h
  obtain ⟨hc, _⟩ := bcell hb
  exact ⟨(hc B 1 hB).trans h1, (hc B 2 hB).trans h2, (hc B 3 hB).trans h3, (hc B 4 hB).trans h4, (hc B 5 hB).trans h5, (hc B 6 hB).trans h6, (hc B 7 hB).trans h7, (hc B 8 hB).trans h8⟩
theorem s_first {w : World} {o : Ox.Op} {kv : Value} : (w.alloc (.cells #[.int .i64 o.code, .int .i64 o.p1, .int .i64 o.p2, .int .i64 o.p3, .int .i64 o.vk, .int .i64 o.vn, .string (Lx.bs o.vs), kv, .string (Lx.bs o.name)] 39)).cell? ⟨w.heap.size, 1, none⟩ = some (.int .i64 o.p1) ∧ (w.alloc (.cells #[.int .i64 o.code, .int .i64 o.p1, .int .i64 o.p2, .int .i64 o.p3, .int .i64 o.vk, .int .i64 o.vn, .string (Lx.bs o.vs), kv, .string (Lx.bs o.name)] 39)).cell? ⟨w.heap.size, 2, none⟩ = some (.int .i64 o.p2) ∧ (w.alloc (.cells #[.int .i64 o.code, .int .i64 o.p1, .int .i64 o.p2, .int .i64 o.p3, .int .i64 o.vk, .int .i64 o.vn, .string (Lx.bs o.vs), kv, .string (Lx.bs o.name)] 39)).cell? ⟨w.heap.size, 3, none⟩ = some (.int .i64 o.p3) ∧ (w.alloc (.cells #[.int .i64 o.code, .int .i64 o.p1, .int .i64 o.p2, .int .i64 o.p3, .int .i64 o.vk, .int .i64 o.vn, .string (Lx.bs o.vs), kv, .string (Lx.bs o.name)] 39)).cell? ⟨w.heap.size, 4, none⟩ = some (.int .i64 o.vk) ∧ (w.alloc (.cells #[.int .i64 o.code, .int .i64 o.p1, .int .i64 o.p2, .int .i64 o.p3, .int .i64 o.vk, .int .i64 o.vn, .string (Lx.bs o.vs), kv, .string (Lx.bs o.name)] 39)).cell? ⟨w.heap.size, 5, none⟩ = some (.int .i64 o.vn) ∧ (w.alloc (.cells #[.int .i64 o.code, .int .i64 o.p1, .int .i64 o.p2, .int .i64 o.p3, .int .i64 o.vk, .int .i64 o.vn, .string (Lx.bs o.vs), kv, .string (Lx.bs o.name)] 39)).cell? ⟨w.heap.size, 6, none⟩ = some (.string (Lx.bs o.vs)) ∧ (w.alloc (.cells #[.int .i64 o.code, .int .i64 o.p1, .int .i64 o.p2, .int .i64 o.p3, .int .i64 o.vk, .int .i64 o.vn, .string (Lx.bs o.vs), kv, .string (Lx.bs o.name)] 39)).cell? ⟨w.heap.size, 7, none⟩ = some (kv) ∧ (w.alloc (.cells #[.int .i64 o.code, .int .i64 o.p1, .int .i64 o.p2, .int .i64 o.p3, .int .i64 o.vk, .int .i64 o.vn, .string (Lx.bs o.vs), kv, .string (Lx.bs o.name)] 39)).cell? ⟨w.heap.size, 8, none⟩ = some (.string (Lx.bs o.name)) := by
  refine ⟨?_, ?_, ?_, ?_, ?_, ?_, ?_, ?_⟩ <;> (rw [cell_new]; rfl)
theorem within_q (k : UInt8) (n many : Int) (b : Bool) (w : World) (h : Ox.within k n many = b) :
    Calls Tryd.prog 49 #[.int .u8 k.toNat, .int .i64 n, .int .i64 many] w fun e w' => e = .returned (.bool b) ∧ w' = w :=
  (within_any k n many w).mono fun e w' ⟨h1, h2⟩ => ⟨by rw [h1, h], h2.symm⟩
theorem valued_q (k : UInt8) (vk vn : Int) (vs : Ox.S) (b : Bool) (w : World) (h : Ox.valued k vk vn vs = b) :
    Calls Tryd.prog 50 #[.int .u8 k.toNat, .agg #[.int .i64 vk, .int .i64 vn, .string (Lx.bs vs)]] w fun e w' => e = .returned (.bool b) ∧ Below w.heap.size w w' :=
  (valued_any k vk vn vs w).mono fun e w' ⟨h1, h2⟩ => ⟨by rw [h1, h], h2⟩
theorem named_q (k : UInt8) (s : Ox.S) (b : Bool) (w : World) (hs : s.length ≤ 1000000) (h : Ox.named k s = b) :
    Calls Tryd.prog 47 #[.int .u8 k.toNat, .string (Lx.bs s)] w fun e w' => e = .returned (.bool b) ∧ Below w.heap.size w w' :=
  (named_any k (Lx.bs s) w (by rw [Lx.bs_size]; exact hs)).mono fun e w' ⟨h1, h2⟩ => ⟨by rw [h1, Lx.ls_bs, h], h2⟩
theorem keyed_q (k : UInt8) (v : Value) (l : List Ox.Key) (b : Bool) (w : World) (hl : l.length ≤ 100000) (hk : KAt w v l) (h : Ox.keyed k l = b) :
    Calls Tryd.prog 51 #[.int .u8 k.toNat, v] w fun e w' => e = .returned (.bool b) ∧ Below w.heap.size w w' :=
  (keyed_any k v l w hl hk).mono fun e w' ⟨h1, h2⟩ => ⟨by rw [h1, h], h2⟩
theorem several_at (o : Ox.Op) (kv : Value) (c : Int) (hc : o.code = c) (w : World) :
    Calls Tryd.prog 29 #[.agg #[.int .i64 c, .int .i64 o.p1, .int .i64 o.p2, .int .i64 o.p3, .int .i64 o.vk, .int .i64 o.vn, .string (Lx.bs o.vs), kv, .string (Lx.bs o.name)]] w fun e w' => SevE w o e w' := by
  subst hc; exact several_any o kv w
theorem at_bs (F : Ox.S) (i : Nat) (h : i < (Lx.bs F).size) : (Lx.bs F)[i] = Ox.at_ F i := by
  have h2 : (Lx.ls (Lx.bs F))[i]? = some (Lx.bs F)[i] := Lx.ls_get h
  rw [Lx.ls_bs] at h2
  rw [Ox.at_, h2]; rfl
theorem forms_six : ∀ i : Fin 34, ∃ f, Ox.forms[i.val]? = some f ∧ f.length = 6 := by decide
theorem form_at {c : Nat} (h : c ≤ 33) : ∃ f, Ox.forms[c]? = some f ∧ f.length = 6 ∧ Ox.form (c : Int) = f := by
  obtain ⟨f, h1, h2⟩ := forms_six ⟨c, by omega⟩
  exact ⟨f, h1, h2, by rw [Ox.form]; simp at h1 ⊢; rw [h1]; rfl⟩
theorem right_uncoded (o : Ox.Op) (kv : Value) (many : Int) (w : World) (h : Ox.coded o = false) :
    Calls Tryd.prog 35 #[.agg #[.int .i64 o.code, .int .i64 o.p1, .int .i64 o.p2, .int .i64 o.p3, .int .i64 o.vk, .int .i64 o.vn, .string (Lx.bs o.vs), kv, .string (Lx.bs o.name)], .int .i64 many] w fun e w' => e = .returned (.bool (Ox.right o many)) ∧ Below w.heap.size w w' := by
  have hr : Ox.right o many = false := by rw [Ox.right, h]; rfl
  rw [hr]
  by_cases h0 : o.code < 0
  · have d0 : decide (o.code < 0) = true := decide_eq_true h0
    go_enter Tryd.func35, Tryd.ntmps35
    go_wp2
    go_ret
    exact ⟨rfl, by (repeat (first | with_reducible exact Below.refl _ _ | with_reducible assumption | with_reducible refine Below.drew ?_ | with_reducible refine below_drewN ?_ _ | with_reducible refine below_al ?_ _ | with_reducible refine Below.setCell ?_ ?_ _ | exact Nat.le_refl _ | omega | (simp; done) | (simp; omega)))⟩
  · have d0 : decide (o.code < 0) = false := decide_eq_false h0
    have d1 : decide (33 < o.code) = true := by
      refine decide_eq_true ?_
      unfold Ox.coded at h
      simp at h
      omega
    go_enter Tryd.func35, Tryd.ntmps35
    go_wp2
    go_ret
    exact ⟨rfl, by (repeat (first | with_reducible exact Below.refl _ _ | with_reducible assumption | with_reducible refine Below.drew ?_ | with_reducible refine below_drewN ?_ _ | with_reducible refine below_al ?_ _ | with_reducible refine Below.setCell ?_ ?_ _ | exact Nat.le_refl _ | omega | (simp; done) | (simp; omega)))⟩
/-- The bounds of what stands together. -/
theorem sev_bounds (o : Ox.Op) (many : Int) (hc : Ox.coded o = true) (hf : Ox.formed o many = true) : 0 ≤ (Ox.several o).2 ∧ (Ox.several o).2 ≤ 1024 ∧ (Ox.several o).1.length ≤ 2 ∧ ∀ r ∈ (Ox.several o).1, 0 ≤ r ∧ r < 1024 := by
  obtain ⟨code, p1, p2, p3, vk, vn, vs, keys, name⟩ := o
  unfold Ox.coded at hc
  simp only [Bool.and_eq_true, decide_eq_true_eq] at hc
  unfold Ox.formed at hf
  simp only [Bool.and_eq_true] at hf
  obtain ⟨⟨⟨⟨⟨f1, f2⟩, f3⟩, f4⟩, f5⟩, f6⟩ := hf
  by_cases hs : Ox.sevC code = true
  · have e : Ox.several ⟨code, p1, p2, p3, vk, vn, vs, keys, name⟩ = ([p3], vn) := by simp [Ox.several, hs]
    rw [e]
    have h3 : Ox.at_ (Ox.form code) 2 = 114 ∧ Ox.at_ (Ox.form code) 3 = 109 := by
      unfold Ox.sevC at hs
      simp only [Bool.or_eq_true, decide_eq_true_eq] at hs
      rcases hs with ((((rfl | rfl) | rfl) | rfl) | rfl) | rfl <;> exact ⟨rfl, rfl⟩
    rw [h3.1] at f3
    rw [h3.2] at f4
    simp [Ox.within, Ox.valued] at f3 f4
    simp
    omega
  · have hs' : Ox.sevC code = false := by simpa using hs
    by_cases h33 : code = 33
    · subst h33
      have e : Ox.several ⟨33, p1, p2, p3, vk, vn, vs, keys, name⟩ = ([p1, p3], vn) := rfl
      rw [e]
      rw [show Ox.at_ (Ox.form 33) 0 = 114 from rfl] at f1
      rw [show Ox.at_ (Ox.form 33) 2 = 114 from rfl] at f3
      rw [show Ox.at_ (Ox.form 33) 3 = 109 from rfl] at f4
      simp [Ox.within, Ox.valued] at f1 f3 f4
      simp
      omega
    by_cases h18 : code = 18
    · subst h18
      have e : Ox.several ⟨18, p1, p2, p3, vk, vn, vs, keys, name⟩ = ([p1], p3) := rfl
      rw [e]
      rw [show Ox.at_ (Ox.form 18) 0 = 114 from rfl] at f1
      rw [show Ox.at_ (Ox.form 18) 2 = 109 from rfl] at f3
      simp [Ox.within] at f1 f3
      simp
      omega
    by_cases h20 : code = 20
    · subst h20
      have e : Ox.several ⟨20, p1, p2, p3, vk, vn, vs, keys, name⟩ = ([p1], p2) := rfl
      rw [e]
      rw [show Ox.at_ (Ox.form 20) 0 = 114 from rfl] at f1
      rw [show Ox.at_ (Ox.form 20) 1 = 109 from rfl] at f2
      simp [Ox.within] at f1 f2
      simp
      omega
    by_cases h22 : code = 22
    · subst h22
      have e : Ox.several ⟨22, p1, p2, p3, vk, vn, vs, keys, name⟩ = ([p2], p3) := rfl
      rw [e]
      rw [show Ox.at_ (Ox.form 22) 1 = 114 from rfl] at f2
      rw [show Ox.at_ (Ox.form 22) 2 = 109 from rfl] at f3
      simp [Ox.within] at f2 f3
      simp
      omega
    have e : Ox.several ⟨code, p1, p2, p3, vk, vn, vs, keys, name⟩ = ([], 0) := by simp [Ox.several, hs', h33, h18, h20, h22]
    rw [e]
    simp
set_option maxRecDepth 100000 in
set_option maxHeartbeats 4000000 in
theorem right_0 (o : Ox.Op) (kv : Value) (many : Int) (w : World) (hl : Laid w) (hk : KAt w kv o.keys) (hkl : o.keys.length ≤ 100000) (hnl : o.name.length ≤ 1000000) (c : Nat) (hc : o.code = (c : Int)) (hc33 : c ≤ 33) (f : Ox.S) (hf : Ox.forms[c]? = some f) (hf6 : f.length = 6)
    (g0 : Ox.within (Ox.at_ f 0) o.p1 many = false)
    : Calls Tryd.prog 35 #[.agg #[.int .i64 o.code, .int .i64 o.p1, .int .i64 o.p2, .int .i64 o.p3, .int .i64 o.vk, .int .i64 o.vn, .string (Lx.bs o.vs), kv, .string (Lx.bs o.name)], .int .i64 many] w fun e w' => e = .returned (.bool false) ∧ Below w.heap.size w w' := by
  obtain ⟨F, hF⟩ : ∃ F, F = Lx.bs f := ⟨_, rfl⟩
  have hF6 : 6 ≤ F.size := by rw [hF, Lx.bs_size]; omega
  have fs0 : 0 < F.size := by omega
  have fi0 : (0 : Int) < (F.size : Int) := by omega
  have fs1 : 1 < F.size := by omega
  have fi1 : (1 : Int) < (F.size : Int) := by omega
  have fs2 : 2 < F.size := by omega
  have fi2 : (2 : Int) < (F.size : Int) := by omega
  have fs3 : 3 < F.size := by omega
  have fi3 : (3 : Int) < (F.size : Int) := by omega
  have fs4 : 4 < F.size := by omega
  have fi4 : (4 : Int) < (F.size : Int) := by omega
  have fs5 : 5 < F.size := by omega
  have fi5 : (5 : Int) < (F.size : Int) := by omega
  have hFa : ∀ i (h : i < F.size), F[i] = Ox.at_ f i := by subst hF; intro i h; exact at_bs f i h
  rw [← hFa 0 (by omega)] at g0
  have G0 := Lib.hid g0
  have a0 : w.cell? ⟨1, c, none⟩ = some (.string F) := by rw [hF]; exact hl.2.2 c f hf
  have h1 : 1 < w.heap.size := by have := hl.1; omega
  have HC := Lib.hid hc
  have d0 : decide (o.code < 0) = false := decide_eq_false (by omega)
  have d1 : decide (33 < o.code) = false := decide_eq_false (by omega)
  have k0 := s_first (w := w) (o := o) (kv := kv)
  have k00 : (w.alloc (.cells #[.int .i64 o.code, .int .i64 o.p1, .int .i64 o.p2, .int .i64 o.p3, .int .i64 o.vk, .int .i64 o.vn, .string (Lx.bs o.vs), kv, .string (Lx.bs o.name)] 39)).cell? ⟨w.heap.size, 0, none⟩ = some (.int .i64 o.code) := by rw [cell_new]; rfl
  have hB : w.heap.size < (w.alloc (.cells #[.int .i64 o.code, .int .i64 o.p1, .int .i64 o.p2, .int .i64 o.p3, .int .i64 o.vk, .int .i64 o.vn, .string (Lx.bs o.vs), kv, .string (Lx.bs o.name)] 39)).heap.size := by simp
  have hk0 : KAt (w.alloc (.cells #[.int .i64 o.code, .int .i64 o.p1, .int .i64 o.p2, .int .i64 o.p3, .int .i64 o.vk, .int .i64 o.vn, .string (Lx.bs o.vs), kv, .string (Lx.bs o.name)] 39)) kv o.keys := kat_keep hk (below_al (Below.refl _ _) _)
  have b0 : Below w.heap.size w (w.alloc (.cells #[.int .i64 o.code, .int .i64 o.p1, .int .i64 o.p2, .int .i64 o.p3, .int .i64 o.vk, .int .i64 o.vn, .string (Lx.bs o.vs), kv, .string (Lx.bs o.name)] 39)) := below_al (Below.refl _ _) _
  rw [hc] at d0 d1 k0 k00 hB hk0 b0 ⊢
  clear hl hk hf hf6 hF hFa hc g0
  go_enter Tryd.func35, Tryd.ntmps35
  go_wp2
  generalize (w.alloc (.cells #[.int .i64 (c : Int), .int .i64 o.p1, .int .i64 o.p2, .int .i64 o.p3, .int .i64 o.vk, .int .i64 o.vn, .string (Lx.bs o.vs), kv, .string (Lx.bs o.name)] 39)) = W0 at k0 k00 hB hk0 b0 ⊢
  obtain ⟨m1, m2, m3, m4, m5, m6, m7, m8⟩ := k0
  have k0 : W0.cell? ⟨w.heap.size, 1, none⟩ = some (.int .i64 o.p1) ∧ W0.cell? ⟨w.heap.size, 2, none⟩ = some (.int .i64 o.p2) ∧ W0.cell? ⟨w.heap.size, 3, none⟩ = some (.int .i64 o.p3) ∧ W0.cell? ⟨w.heap.size, 4, none⟩ = some (.int .i64 o.vk) ∧ W0.cell? ⟨w.heap.size, 5, none⟩ = some (.int .i64 o.vn) ∧ W0.cell? ⟨w.heap.size, 6, none⟩ = some (.string (Lx.bs o.vs)) ∧ W0.cell? ⟨w.heap.size, 7, none⟩ = some (kv) ∧ W0.cell? ⟨w.heap.size, 8, none⟩ = some (.string (Lx.bs o.name)) := ⟨m1, m2, m3, m4, m5, m6, m7, m8⟩
  have K0 := Lib.hid k0
  clear k0
  have x1 := upon_cell hB m1
  have x2 := upon_cell hB m2
  have x3 := upon_cell hB m3
  have x4 := upon_cell hB m4
  have x5 := upon_cell hB m5
  have x6 := upon_cell hB m6
  have x7 := upon_cell hB m7
  have x8 := upon_cell hB m8
  refine wp_region_upon (by kernel_rfl) (by kernel_rfl) ?_
  repeat (go_big_quiet_step (first
    | (go_at_call 49; exact upon_same (within_q _ _ _ _ _ (by first | with_reducible exact G0.out)))))
  refine wpQuiet_nil ?_
  rintro _ ⟨wx, rfl⟩
  have bx := below_next b0 (upon_below W0 wx)
  go_wp2
  go_ret
  exact ⟨rfl, bx⟩
set_option maxRecDepth 100000 in
set_option maxHeartbeats 4000000 in
theorem right_1 (o : Ox.Op) (kv : Value) (many : Int) (w : World) (hl : Laid w) (hk : KAt w kv o.keys) (hkl : o.keys.length ≤ 100000) (hnl : o.name.length ≤ 1000000) (c : Nat) (hc : o.code = (c : Int)) (hc33 : c ≤ 33) (f : Ox.S) (hf : Ox.forms[c]? = some f) (hf6 : f.length = 6)
    (g0 : Ox.within (Ox.at_ f 0) o.p1 many = true)
    (g1 : Ox.within (Ox.at_ f 1) o.p2 many = false)
    : Calls Tryd.prog 35 #[.agg #[.int .i64 o.code, .int .i64 o.p1, .int .i64 o.p2, .int .i64 o.p3, .int .i64 o.vk, .int .i64 o.vn, .string (Lx.bs o.vs), kv, .string (Lx.bs o.name)], .int .i64 many] w fun e w' => e = .returned (.bool false) ∧ Below w.heap.size w w' := by
  obtain ⟨F, hF⟩ : ∃ F, F = Lx.bs f := ⟨_, rfl⟩
  have hF6 : 6 ≤ F.size := by rw [hF, Lx.bs_size]; omega
  have fs0 : 0 < F.size := by omega
  have fi0 : (0 : Int) < (F.size : Int) := by omega
  have fs1 : 1 < F.size := by omega
  have fi1 : (1 : Int) < (F.size : Int) := by omega
  have fs2 : 2 < F.size := by omega
  have fi2 : (2 : Int) < (F.size : Int) := by omega
  have fs3 : 3 < F.size := by omega
  have fi3 : (3 : Int) < (F.size : Int) := by omega
  have fs4 : 4 < F.size := by omega
  have fi4 : (4 : Int) < (F.size : Int) := by omega
  have fs5 : 5 < F.size := by omega
  have fi5 : (5 : Int) < (F.size : Int) := by omega
  have hFa : ∀ i (h : i < F.size), F[i] = Ox.at_ f i := by subst hF; intro i h; exact at_bs f i h
  rw [← hFa 0 (by omega)] at g0
  have G0 := Lib.hid g0
  rw [← hFa 1 (by omega)] at g1
  have G1 := Lib.hid g1
  have a0 : w.cell? ⟨1, c, none⟩ = some (.string F) := by rw [hF]; exact hl.2.2 c f hf
  have h1 : 1 < w.heap.size := by have := hl.1; omega
  have HC := Lib.hid hc
  have d0 : decide (o.code < 0) = false := decide_eq_false (by omega)
  have d1 : decide (33 < o.code) = false := decide_eq_false (by omega)
  have k0 := s_first (w := w) (o := o) (kv := kv)
  have k00 : (w.alloc (.cells #[.int .i64 o.code, .int .i64 o.p1, .int .i64 o.p2, .int .i64 o.p3, .int .i64 o.vk, .int .i64 o.vn, .string (Lx.bs o.vs), kv, .string (Lx.bs o.name)] 39)).cell? ⟨w.heap.size, 0, none⟩ = some (.int .i64 o.code) := by rw [cell_new]; rfl
  have hB : w.heap.size < (w.alloc (.cells #[.int .i64 o.code, .int .i64 o.p1, .int .i64 o.p2, .int .i64 o.p3, .int .i64 o.vk, .int .i64 o.vn, .string (Lx.bs o.vs), kv, .string (Lx.bs o.name)] 39)).heap.size := by simp
  have hk0 : KAt (w.alloc (.cells #[.int .i64 o.code, .int .i64 o.p1, .int .i64 o.p2, .int .i64 o.p3, .int .i64 o.vk, .int .i64 o.vn, .string (Lx.bs o.vs), kv, .string (Lx.bs o.name)] 39)) kv o.keys := kat_keep hk (below_al (Below.refl _ _) _)
  have b0 : Below w.heap.size w (w.alloc (.cells #[.int .i64 o.code, .int .i64 o.p1, .int .i64 o.p2, .int .i64 o.p3, .int .i64 o.vk, .int .i64 o.vn, .string (Lx.bs o.vs), kv, .string (Lx.bs o.name)] 39)) := below_al (Below.refl _ _) _
  rw [hc] at d0 d1 k0 k00 hB hk0 b0 ⊢
  clear hl hk hf hf6 hF hFa hc g0 g1
  go_enter Tryd.func35, Tryd.ntmps35
  go_wp2
  generalize (w.alloc (.cells #[.int .i64 (c : Int), .int .i64 o.p1, .int .i64 o.p2, .int .i64 o.p3, .int .i64 o.vk, .int .i64 o.vn, .string (Lx.bs o.vs), kv, .string (Lx.bs o.name)] 39)) = W0 at k0 k00 hB hk0 b0 ⊢
  obtain ⟨m1, m2, m3, m4, m5, m6, m7, m8⟩ := k0
  have k0 : W0.cell? ⟨w.heap.size, 1, none⟩ = some (.int .i64 o.p1) ∧ W0.cell? ⟨w.heap.size, 2, none⟩ = some (.int .i64 o.p2) ∧ W0.cell? ⟨w.heap.size, 3, none⟩ = some (.int .i64 o.p3) ∧ W0.cell? ⟨w.heap.size, 4, none⟩ = some (.int .i64 o.vk) ∧ W0.cell? ⟨w.heap.size, 5, none⟩ = some (.int .i64 o.vn) ∧ W0.cell? ⟨w.heap.size, 6, none⟩ = some (.string (Lx.bs o.vs)) ∧ W0.cell? ⟨w.heap.size, 7, none⟩ = some (kv) ∧ W0.cell? ⟨w.heap.size, 8, none⟩ = some (.string (Lx.bs o.name)) := ⟨m1, m2, m3, m4, m5, m6, m7, m8⟩
  have K0 := Lib.hid k0
  clear k0
  have x1 := upon_cell hB m1
  have x2 := upon_cell hB m2
  have x3 := upon_cell hB m3
  have x4 := upon_cell hB m4
  have x5 := upon_cell hB m5
  have x6 := upon_cell hB m6
  have x7 := upon_cell hB m7
  have x8 := upon_cell hB m8
  refine wp_region_upon (by kernel_rfl) (by kernel_rfl) ?_
  repeat (go_big_quiet_step (first
    | (go_at_call 49; exact upon_same (within_q _ _ _ _ _ (by first | with_reducible exact G0.out | with_reducible exact G1.out)))))
  refine wpQuiet_nil ?_
  rintro _ ⟨wx, rfl⟩
  have bx := below_next b0 (upon_below W0 wx)
  go_wp2
  go_ret
  exact ⟨rfl, bx⟩
set_option maxRecDepth 100000 in
set_option maxHeartbeats 4000000 in
theorem right_2 (o : Ox.Op) (kv : Value) (many : Int) (w : World) (hl : Laid w) (hk : KAt w kv o.keys) (hkl : o.keys.length ≤ 100000) (hnl : o.name.length ≤ 1000000) (c : Nat) (hc : o.code = (c : Int)) (hc33 : c ≤ 33) (f : Ox.S) (hf : Ox.forms[c]? = some f) (hf6 : f.length = 6)
    (g0 : Ox.within (Ox.at_ f 0) o.p1 many = true)
    (g1 : Ox.within (Ox.at_ f 1) o.p2 many = true)
    (g2 : Ox.within (Ox.at_ f 2) o.p3 many = false)
    : Calls Tryd.prog 35 #[.agg #[.int .i64 o.code, .int .i64 o.p1, .int .i64 o.p2, .int .i64 o.p3, .int .i64 o.vk, .int .i64 o.vn, .string (Lx.bs o.vs), kv, .string (Lx.bs o.name)], .int .i64 many] w fun e w' => e = .returned (.bool false) ∧ Below w.heap.size w w' := by
  obtain ⟨F, hF⟩ : ∃ F, F = Lx.bs f := ⟨_, rfl⟩
  have hF6 : 6 ≤ F.size := by rw [hF, Lx.bs_size]; omega
  have fs0 : 0 < F.size := by omega
  have fi0 : (0 : Int) < (F.size : Int) := by omega
  have fs1 : 1 < F.size := by omega
  have fi1 : (1 : Int) < (F.size : Int) := by omega
  have fs2 : 2 < F.size := by omega
  have fi2 : (2 : Int) < (F.size : Int) := by omega
  have fs3 : 3 < F.size := by omega
  have fi3 : (3 : Int) < (F.size : Int) := by omega
  have fs4 : 4 < F.size := by omega
  have fi4 : (4 : Int) < (F.size : Int) := by omega
  have fs5 : 5 < F.size := by omega
  have fi5 : (5 : Int) < (F.size : Int) := by omega
  have hFa : ∀ i (h : i < F.size), F[i] = Ox.at_ f i := by subst hF; intro i h; exact at_bs f i h
  rw [← hFa 0 (by omega)] at g0
  have G0 := Lib.hid g0
  rw [← hFa 1 (by omega)] at g1
  have G1 := Lib.hid g1
  rw [← hFa 2 (by omega)] at g2
  have G2 := Lib.hid g2
  have a0 : w.cell? ⟨1, c, none⟩ = some (.string F) := by rw [hF]; exact hl.2.2 c f hf
  have h1 : 1 < w.heap.size := by have := hl.1; omega
  have HC := Lib.hid hc
  have d0 : decide (o.code < 0) = false := decide_eq_false (by omega)
  have d1 : decide (33 < o.code) = false := decide_eq_false (by omega)
  have k0 := s_first (w := w) (o := o) (kv := kv)
  have k00 : (w.alloc (.cells #[.int .i64 o.code, .int .i64 o.p1, .int .i64 o.p2, .int .i64 o.p3, .int .i64 o.vk, .int .i64 o.vn, .string (Lx.bs o.vs), kv, .string (Lx.bs o.name)] 39)).cell? ⟨w.heap.size, 0, none⟩ = some (.int .i64 o.code) := by rw [cell_new]; rfl
  have hB : w.heap.size < (w.alloc (.cells #[.int .i64 o.code, .int .i64 o.p1, .int .i64 o.p2, .int .i64 o.p3, .int .i64 o.vk, .int .i64 o.vn, .string (Lx.bs o.vs), kv, .string (Lx.bs o.name)] 39)).heap.size := by simp
  have hk0 : KAt (w.alloc (.cells #[.int .i64 o.code, .int .i64 o.p1, .int .i64 o.p2, .int .i64 o.p3, .int .i64 o.vk, .int .i64 o.vn, .string (Lx.bs o.vs), kv, .string (Lx.bs o.name)] 39)) kv o.keys := kat_keep hk (below_al (Below.refl _ _) _)
  have b0 : Below w.heap.size w (w.alloc (.cells #[.int .i64 o.code, .int .i64 o.p1, .int .i64 o.p2, .int .i64 o.p3, .int .i64 o.vk, .int .i64 o.vn, .string (Lx.bs o.vs), kv, .string (Lx.bs o.name)] 39)) := below_al (Below.refl _ _) _
  rw [hc] at d0 d1 k0 k00 hB hk0 b0 ⊢
  clear hl hk hf hf6 hF hFa hc g0 g1 g2
  go_enter Tryd.func35, Tryd.ntmps35
  go_wp2
  generalize (w.alloc (.cells #[.int .i64 (c : Int), .int .i64 o.p1, .int .i64 o.p2, .int .i64 o.p3, .int .i64 o.vk, .int .i64 o.vn, .string (Lx.bs o.vs), kv, .string (Lx.bs o.name)] 39)) = W0 at k0 k00 hB hk0 b0 ⊢
  obtain ⟨m1, m2, m3, m4, m5, m6, m7, m8⟩ := k0
  have k0 : W0.cell? ⟨w.heap.size, 1, none⟩ = some (.int .i64 o.p1) ∧ W0.cell? ⟨w.heap.size, 2, none⟩ = some (.int .i64 o.p2) ∧ W0.cell? ⟨w.heap.size, 3, none⟩ = some (.int .i64 o.p3) ∧ W0.cell? ⟨w.heap.size, 4, none⟩ = some (.int .i64 o.vk) ∧ W0.cell? ⟨w.heap.size, 5, none⟩ = some (.int .i64 o.vn) ∧ W0.cell? ⟨w.heap.size, 6, none⟩ = some (.string (Lx.bs o.vs)) ∧ W0.cell? ⟨w.heap.size, 7, none⟩ = some (kv) ∧ W0.cell? ⟨w.heap.size, 8, none⟩ = some (.string (Lx.bs o.name)) := ⟨m1, m2, m3, m4, m5, m6, m7, m8⟩
  have K0 := Lib.hid k0
  clear k0
  have x1 := upon_cell hB m1
  have x2 := upon_cell hB m2
  have x3 := upon_cell hB m3
  have x4 := upon_cell hB m4
  have x5 := upon_cell hB m5
  have x6 := upon_cell hB m6
  have x7 := upon_cell hB m7
  have x8 := upon_cell hB m8
  refine wp_region_upon (by kernel_rfl) (by kernel_rfl) ?_
  repeat (go_big_quiet_step (first
    | (go_at_call 49; exact upon_same (within_q _ _ _ _ _ (by first | with_reducible exact G0.out | with_reducible exact G1.out | with_reducible exact G2.out)))))
  refine wpQuiet_nil ?_
  rintro _ ⟨wx, rfl⟩
  have bx := below_next b0 (upon_below W0 wx)
  go_wp2
  go_ret
  exact ⟨rfl, bx⟩
set_option maxRecDepth 100000 in
set_option maxHeartbeats 4000000 in
theorem right_3 (o : Ox.Op) (kv : Value) (many : Int) (w : World) (hl : Laid w) (hk : KAt w kv o.keys) (hkl : o.keys.length ≤ 100000) (hnl : o.name.length ≤ 1000000) (c : Nat) (hc : o.code = (c : Int)) (hc33 : c ≤ 33) (f : Ox.S) (hf : Ox.forms[c]? = some f) (hf6 : f.length = 6)
    (g0 : Ox.within (Ox.at_ f 0) o.p1 many = true)
    (g1 : Ox.within (Ox.at_ f 1) o.p2 many = true)
    (g2 : Ox.within (Ox.at_ f 2) o.p3 many = true)
    (g3 : Ox.valued (Ox.at_ f 3) o.vk o.vn o.vs = false)
    : Calls Tryd.prog 35 #[.agg #[.int .i64 o.code, .int .i64 o.p1, .int .i64 o.p2, .int .i64 o.p3, .int .i64 o.vk, .int .i64 o.vn, .string (Lx.bs o.vs), kv, .string (Lx.bs o.name)], .int .i64 many] w fun e w' => e = .returned (.bool false) ∧ Below w.heap.size w w' := by
  obtain ⟨F, hF⟩ : ∃ F, F = Lx.bs f := ⟨_, rfl⟩
  have hF6 : 6 ≤ F.size := by rw [hF, Lx.bs_size]; omega
  have fs0 : 0 < F.size := by omega
  have fi0 : (0 : Int) < (F.size : Int) := by omega
  have fs1 : 1 < F.size := by omega
  have fi1 : (1 : Int) < (F.size : Int) := by omega
  have fs2 : 2 < F.size := by omega
  have fi2 : (2 : Int) < (F.size : Int) := by omega
  have fs3 : 3 < F.size := by omega
  have fi3 : (3 : Int) < (F.size : Int) := by omega
  have fs4 : 4 < F.size := by omega
  have fi4 : (4 : Int) < (F.size : Int) := by omega
  have fs5 : 5 < F.size := by omega
  have fi5 : (5 : Int) < (F.size : Int) := by omega
  have hFa : ∀ i (h : i < F.size), F[i] = Ox.at_ f i := by subst hF; intro i h; exact at_bs f i h
  rw [← hFa 0 (by omega)] at g0
  have G0 := Lib.hid g0
  rw [← hFa 1 (by omega)] at g1
  have G1 := Lib.hid g1
  rw [← hFa 2 (by omega)] at g2
  have G2 := Lib.hid g2
  rw [← hFa 3 (by omega)] at g3
  have G3 := Lib.hid g3
  have a0 : w.cell? ⟨1, c, none⟩ = some (.string F) := by rw [hF]; exact hl.2.2 c f hf
  have h1 : 1 < w.heap.size := by have := hl.1; omega
  have HC := Lib.hid hc
  have d0 : decide (o.code < 0) = false := decide_eq_false (by omega)
  have d1 : decide (33 < o.code) = false := decide_eq_false (by omega)
  have k0 := s_first (w := w) (o := o) (kv := kv)
  have k00 : (w.alloc (.cells #[.int .i64 o.code, .int .i64 o.p1, .int .i64 o.p2, .int .i64 o.p3, .int .i64 o.vk, .int .i64 o.vn, .string (Lx.bs o.vs), kv, .string (Lx.bs o.name)] 39)).cell? ⟨w.heap.size, 0, none⟩ = some (.int .i64 o.code) := by rw [cell_new]; rfl
  have hB : w.heap.size < (w.alloc (.cells #[.int .i64 o.code, .int .i64 o.p1, .int .i64 o.p2, .int .i64 o.p3, .int .i64 o.vk, .int .i64 o.vn, .string (Lx.bs o.vs), kv, .string (Lx.bs o.name)] 39)).heap.size := by simp
  have hk0 : KAt (w.alloc (.cells #[.int .i64 o.code, .int .i64 o.p1, .int .i64 o.p2, .int .i64 o.p3, .int .i64 o.vk, .int .i64 o.vn, .string (Lx.bs o.vs), kv, .string (Lx.bs o.name)] 39)) kv o.keys := kat_keep hk (below_al (Below.refl _ _) _)
  have b0 : Below w.heap.size w (w.alloc (.cells #[.int .i64 o.code, .int .i64 o.p1, .int .i64 o.p2, .int .i64 o.p3, .int .i64 o.vk, .int .i64 o.vn, .string (Lx.bs o.vs), kv, .string (Lx.bs o.name)] 39)) := below_al (Below.refl _ _) _
  rw [hc] at d0 d1 k0 k00 hB hk0 b0 ⊢
  clear hl hk hf hf6 hF hFa hc g0 g1 g2 g3
  go_enter Tryd.func35, Tryd.ntmps35
  go_wp2
  generalize (w.alloc (.cells #[.int .i64 (c : Int), .int .i64 o.p1, .int .i64 o.p2, .int .i64 o.p3, .int .i64 o.vk, .int .i64 o.vn, .string (Lx.bs o.vs), kv, .string (Lx.bs o.name)] 39)) = W0 at k0 k00 hB hk0 b0 ⊢
  obtain ⟨m1, m2, m3, m4, m5, m6, m7, m8⟩ := k0
  have k0 : W0.cell? ⟨w.heap.size, 1, none⟩ = some (.int .i64 o.p1) ∧ W0.cell? ⟨w.heap.size, 2, none⟩ = some (.int .i64 o.p2) ∧ W0.cell? ⟨w.heap.size, 3, none⟩ = some (.int .i64 o.p3) ∧ W0.cell? ⟨w.heap.size, 4, none⟩ = some (.int .i64 o.vk) ∧ W0.cell? ⟨w.heap.size, 5, none⟩ = some (.int .i64 o.vn) ∧ W0.cell? ⟨w.heap.size, 6, none⟩ = some (.string (Lx.bs o.vs)) ∧ W0.cell? ⟨w.heap.size, 7, none⟩ = some (kv) ∧ W0.cell? ⟨w.heap.size, 8, none⟩ = some (.string (Lx.bs o.name)) := ⟨m1, m2, m3, m4, m5, m6, m7, m8⟩
  have K0 := Lib.hid k0
  clear k0
  have x1 := upon_cell hB m1
  have x2 := upon_cell hB m2
  have x3 := upon_cell hB m3
  have x4 := upon_cell hB m4
  have x5 := upon_cell hB m5
  have x6 := upon_cell hB m6
  have x7 := upon_cell hB m7
  have x8 := upon_cell hB m8
  refine wp_region_upon (by kernel_rfl) (by kernel_rfl) ?_
  repeat (go_big_quiet_step (first
    | (go_at_call 49; exact upon_same (within_q _ _ _ _ _ (by first | with_reducible exact G0.out | with_reducible exact G1.out | with_reducible exact G2.out)))
    | (go_at_call 50; exact upon_call (valued_q _ _ _ _ _ _ (by with_reducible exact G3.out)))))
  refine wpQuiet_nil ?_
  rintro _ ⟨wx, rfl⟩
  have bx := below_next b0 (upon_below W0 wx)
  go_wp2
  go_ret
  exact ⟨rfl, bx⟩
set_option maxRecDepth 100000 in
set_option maxHeartbeats 4000000 in
theorem right_4 (o : Ox.Op) (kv : Value) (many : Int) (w : World) (hl : Laid w) (hk : KAt w kv o.keys) (hkl : o.keys.length ≤ 100000) (hnl : o.name.length ≤ 1000000) (c : Nat) (hc : o.code = (c : Int)) (hc33 : c ≤ 33) (f : Ox.S) (hf : Ox.forms[c]? = some f) (hf6 : f.length = 6)
    (g0 : Ox.within (Ox.at_ f 0) o.p1 many = true)
    (g1 : Ox.within (Ox.at_ f 1) o.p2 many = true)
    (g2 : Ox.within (Ox.at_ f 2) o.p3 many = true)
    (g3 : Ox.valued (Ox.at_ f 3) o.vk o.vn o.vs = true)
    (g4 : Ox.named (Ox.at_ f 4) o.name = false)
    : Calls Tryd.prog 35 #[.agg #[.int .i64 o.code, .int .i64 o.p1, .int .i64 o.p2, .int .i64 o.p3, .int .i64 o.vk, .int .i64 o.vn, .string (Lx.bs o.vs), kv, .string (Lx.bs o.name)], .int .i64 many] w fun e w' => e = .returned (.bool false) ∧ Below w.heap.size w w' := by
  obtain ⟨F, hF⟩ : ∃ F, F = Lx.bs f := ⟨_, rfl⟩
  have hF6 : 6 ≤ F.size := by rw [hF, Lx.bs_size]; omega
  have fs0 : 0 < F.size := by omega
  have fi0 : (0 : Int) < (F.size : Int) := by omega
  have fs1 : 1 < F.size := by omega
  have fi1 : (1 : Int) < (F.size : Int) := by omega
  have fs2 : 2 < F.size := by omega
  have fi2 : (2 : Int) < (F.size : Int) := by omega
  have fs3 : 3 < F.size := by omega
  have fi3 : (3 : Int) < (F.size : Int) := by omega
  have fs4 : 4 < F.size := by omega
  have fi4 : (4 : Int) < (F.size : Int) := by omega
  have fs5 : 5 < F.size := by omega
  have fi5 : (5 : Int) < (F.size : Int) := by omega
  have hFa : ∀ i (h : i < F.size), F[i] = Ox.at_ f i := by subst hF; intro i h; exact at_bs f i h
  rw [← hFa 0 (by omega)] at g0
  have G0 := Lib.hid g0
  rw [← hFa 1 (by omega)] at g1
  have G1 := Lib.hid g1
  rw [← hFa 2 (by omega)] at g2
  have G2 := Lib.hid g2
  rw [← hFa 3 (by omega)] at g3
  have G3 := Lib.hid g3
  rw [← hFa 4 (by omega)] at g4
  have G4 := Lib.hid g4
  have a0 : w.cell? ⟨1, c, none⟩ = some (.string F) := by rw [hF]; exact hl.2.2 c f hf
  have h1 : 1 < w.heap.size := by have := hl.1; omega
  have HC := Lib.hid hc
  have d0 : decide (o.code < 0) = false := decide_eq_false (by omega)
  have d1 : decide (33 < o.code) = false := decide_eq_false (by omega)
  have k0 := s_first (w := w) (o := o) (kv := kv)
  have k00 : (w.alloc (.cells #[.int .i64 o.code, .int .i64 o.p1, .int .i64 o.p2, .int .i64 o.p3, .int .i64 o.vk, .int .i64 o.vn, .string (Lx.bs o.vs), kv, .string (Lx.bs o.name)] 39)).cell? ⟨w.heap.size, 0, none⟩ = some (.int .i64 o.code) := by rw [cell_new]; rfl
  have hB : w.heap.size < (w.alloc (.cells #[.int .i64 o.code, .int .i64 o.p1, .int .i64 o.p2, .int .i64 o.p3, .int .i64 o.vk, .int .i64 o.vn, .string (Lx.bs o.vs), kv, .string (Lx.bs o.name)] 39)).heap.size := by simp
  have hk0 : KAt (w.alloc (.cells #[.int .i64 o.code, .int .i64 o.p1, .int .i64 o.p2, .int .i64 o.p3, .int .i64 o.vk, .int .i64 o.vn, .string (Lx.bs o.vs), kv, .string (Lx.bs o.name)] 39)) kv o.keys := kat_keep hk (below_al (Below.refl _ _) _)
  have b0 : Below w.heap.size w (w.alloc (.cells #[.int .i64 o.code, .int .i64 o.p1, .int .i64 o.p2, .int .i64 o.p3, .int .i64 o.vk, .int .i64 o.vn, .string (Lx.bs o.vs), kv, .string (Lx.bs o.name)] 39)) := below_al (Below.refl _ _) _
  rw [hc] at d0 d1 k0 k00 hB hk0 b0 ⊢
  clear hl hk hf hf6 hF hFa hc g0 g1 g2 g3 g4
  go_enter Tryd.func35, Tryd.ntmps35
  go_wp2
  generalize (w.alloc (.cells #[.int .i64 (c : Int), .int .i64 o.p1, .int .i64 o.p2, .int .i64 o.p3, .int .i64 o.vk, .int .i64 o.vn, .string (Lx.bs o.vs), kv, .string (Lx.bs o.name)] 39)) = W0 at k0 k00 hB hk0 b0 ⊢
  obtain ⟨m1, m2, m3, m4, m5, m6, m7, m8⟩ := k0
  have k0 : W0.cell? ⟨w.heap.size, 1, none⟩ = some (.int .i64 o.p1) ∧ W0.cell? ⟨w.heap.size, 2, none⟩ = some (.int .i64 o.p2) ∧ W0.cell? ⟨w.heap.size, 3, none⟩ = some (.int .i64 o.p3) ∧ W0.cell? ⟨w.heap.size, 4, none⟩ = some (.int .i64 o.vk) ∧ W0.cell? ⟨w.heap.size, 5, none⟩ = some (.int .i64 o.vn) ∧ W0.cell? ⟨w.heap.size, 6, none⟩ = some (.string (Lx.bs o.vs)) ∧ W0.cell? ⟨w.heap.size, 7, none⟩ = some (kv) ∧ W0.cell? ⟨w.heap.size, 8, none⟩ = some (.string (Lx.bs o.name)) := ⟨m1, m2, m3, m4, m5, m6, m7, m8⟩
  have K0 := Lib.hid k0
  clear k0
  have x1 := upon_cell hB m1
  have x2 := upon_cell hB m2
  have x3 := upon_cell hB m3
  have x4 := upon_cell hB m4
  have x5 := upon_cell hB m5
  have x6 := upon_cell hB m6
  have x7 := upon_cell hB m7
  have x8 := upon_cell hB m8
  refine wp_region_upon (by kernel_rfl) (by kernel_rfl) ?_
  repeat (go_big_quiet_step (first
    | (go_at_call 49; exact upon_same (within_q _ _ _ _ _ (by first | with_reducible exact G0.out | with_reducible exact G1.out | with_reducible exact G2.out)))
    | (go_at_call 50; exact upon_call (valued_q _ _ _ _ _ _ (by with_reducible exact G3.out)))
    | (go_at_call 47; exact upon_call (named_q _ _ _ _ hnl (by with_reducible exact G4.out)))))
  refine wpQuiet_nil ?_
  rintro _ ⟨wx, rfl⟩
  have bx := below_next b0 (upon_below W0 wx)
  go_wp2
  go_ret
  exact ⟨rfl, bx⟩
set_option maxRecDepth 100000 in
set_option maxHeartbeats 4000000 in
theorem right_5 (o : Ox.Op) (kv : Value) (many : Int) (w : World) (hl : Laid w) (hk : KAt w kv o.keys) (hkl : o.keys.length ≤ 100000) (hnl : o.name.length ≤ 1000000) (c : Nat) (hc : o.code = (c : Int)) (hc33 : c ≤ 33) (f : Ox.S) (hf : Ox.forms[c]? = some f) (hf6 : f.length = 6)
    (g0 : Ox.within (Ox.at_ f 0) o.p1 many = true)
    (g1 : Ox.within (Ox.at_ f 1) o.p2 many = true)
    (g2 : Ox.within (Ox.at_ f 2) o.p3 many = true)
    (g3 : Ox.valued (Ox.at_ f 3) o.vk o.vn o.vs = true)
    (g4 : Ox.named (Ox.at_ f 4) o.name = true)
    (g5 : Ox.keyed (Ox.at_ f 5) o.keys = false)
    : Calls Tryd.prog 35 #[.agg #[.int .i64 o.code, .int .i64 o.p1, .int .i64 o.p2, .int .i64 o.p3, .int .i64 o.vk, .int .i64 o.vn, .string (Lx.bs o.vs), kv, .string (Lx.bs o.name)], .int .i64 many] w fun e w' => e = .returned (.bool false) ∧ Below w.heap.size w w' := by
  obtain ⟨F, hF⟩ : ∃ F, F = Lx.bs f := ⟨_, rfl⟩
  have hF6 : 6 ≤ F.size := by rw [hF, Lx.bs_size]; omega
  have fs0 : 0 < F.size := by omega
  have fi0 : (0 : Int) < (F.size : Int) := by omega
  have fs1 : 1 < F.size := by omega
  have fi1 : (1 : Int) < (F.size : Int) := by omega
  have fs2 : 2 < F.size := by omega
  have fi2 : (2 : Int) < (F.size : Int) := by omega
  have fs3 : 3 < F.size := by omega
  have fi3 : (3 : Int) < (F.size : Int) := by omega
  have fs4 : 4 < F.size := by omega
  have fi4 : (4 : Int) < (F.size : Int) := by omega
  have fs5 : 5 < F.size := by omega
  have fi5 : (5 : Int) < (F.size : Int) := by omega
  have hFa : ∀ i (h : i < F.size), F[i] = Ox.at_ f i := by subst hF; intro i h; exact at_bs f i h
  rw [← hFa 0 (by omega)] at g0
  have G0 := Lib.hid g0
  rw [← hFa 1 (by omega)] at g1
  have G1 := Lib.hid g1
  rw [← hFa 2 (by omega)] at g2
  have G2 := Lib.hid g2
  rw [← hFa 3 (by omega)] at g3
  have G3 := Lib.hid g3
  rw [← hFa 4 (by omega)] at g4
  have G4 := Lib.hid g4
  rw [← hFa 5 (by omega)] at g5
  have G5 := Lib.hid g5
  have a0 : w.cell? ⟨1, c, none⟩ = some (.string F) := by rw [hF]; exact hl.2.2 c f hf
  have h1 : 1 < w.heap.size := by have := hl.1; omega
  have HC := Lib.hid hc
  have d0 : decide (o.code < 0) = false := decide_eq_false (by omega)
  have d1 : decide (33 < o.code) = false := decide_eq_false (by omega)
  have k0 := s_first (w := w) (o := o) (kv := kv)
  have k00 : (w.alloc (.cells #[.int .i64 o.code, .int .i64 o.p1, .int .i64 o.p2, .int .i64 o.p3, .int .i64 o.vk, .int .i64 o.vn, .string (Lx.bs o.vs), kv, .string (Lx.bs o.name)] 39)).cell? ⟨w.heap.size, 0, none⟩ = some (.int .i64 o.code) := by rw [cell_new]; rfl
  have hB : w.heap.size < (w.alloc (.cells #[.int .i64 o.code, .int .i64 o.p1, .int .i64 o.p2, .int .i64 o.p3, .int .i64 o.vk, .int .i64 o.vn, .string (Lx.bs o.vs), kv, .string (Lx.bs o.name)] 39)).heap.size := by simp
  have hk0 : KAt (w.alloc (.cells #[.int .i64 o.code, .int .i64 o.p1, .int .i64 o.p2, .int .i64 o.p3, .int .i64 o.vk, .int .i64 o.vn, .string (Lx.bs o.vs), kv, .string (Lx.bs o.name)] 39)) kv o.keys := kat_keep hk (below_al (Below.refl _ _) _)
  have b0 : Below w.heap.size w (w.alloc (.cells #[.int .i64 o.code, .int .i64 o.p1, .int .i64 o.p2, .int .i64 o.p3, .int .i64 o.vk, .int .i64 o.vn, .string (Lx.bs o.vs), kv, .string (Lx.bs o.name)] 39)) := below_al (Below.refl _ _) _
  rw [hc] at d0 d1 k0 k00 hB hk0 b0 ⊢
  clear hl hk hf hf6 hF hFa hc g0 g1 g2 g3 g4 g5
  go_enter Tryd.func35, Tryd.ntmps35
  go_wp2
  generalize (w.alloc (.cells #[.int .i64 (c : Int), .int .i64 o.p1, .int .i64 o.p2, .int .i64 o.p3, .int .i64 o.vk, .int .i64 o.vn, .string (Lx.bs o.vs), kv, .string (Lx.bs o.name)] 39)) = W0 at k0 k00 hB hk0 b0 ⊢
  obtain ⟨m1, m2, m3, m4, m5, m6, m7, m8⟩ := k0
  have k0 : W0.cell? ⟨w.heap.size, 1, none⟩ = some (.int .i64 o.p1) ∧ W0.cell? ⟨w.heap.size, 2, none⟩ = some (.int .i64 o.p2) ∧ W0.cell? ⟨w.heap.size, 3, none⟩ = some (.int .i64 o.p3) ∧ W0.cell? ⟨w.heap.size, 4, none⟩ = some (.int .i64 o.vk) ∧ W0.cell? ⟨w.heap.size, 5, none⟩ = some (.int .i64 o.vn) ∧ W0.cell? ⟨w.heap.size, 6, none⟩ = some (.string (Lx.bs o.vs)) ∧ W0.cell? ⟨w.heap.size, 7, none⟩ = some (kv) ∧ W0.cell? ⟨w.heap.size, 8, none⟩ = some (.string (Lx.bs o.name)) := ⟨m1, m2, m3, m4, m5, m6, m7, m8⟩
  have K0 := Lib.hid k0
  clear k0
  have x1 := upon_cell hB m1
  have x2 := upon_cell hB m2
  have x3 := upon_cell hB m3
  have x4 := upon_cell hB m4
  have x5 := upon_cell hB m5
  have x6 := upon_cell hB m6
  have x7 := upon_cell hB m7
  have x8 := upon_cell hB m8
  refine wp_region_upon (by kernel_rfl) (by kernel_rfl) ?_
  repeat (go_big_quiet_step (first
    | (go_at_call 49; exact upon_same (within_q _ _ _ _ _ (by first | with_reducible exact G0.out | with_reducible exact G1.out | with_reducible exact G2.out)))
    | (go_at_call 50; exact upon_call (valued_q _ _ _ _ _ _ (by with_reducible exact G3.out)))
    | (go_at_call 47; exact upon_call (named_q _ _ _ _ hnl (by with_reducible exact G4.out)))
    | (go_at_call 51; exact upon_call (keyed_q _ _ _ _ _ hkl (kat_keep hk0 (upon_below _ _)) (by with_reducible exact G5.out)))))
  refine wpQuiet_nil ?_
  rintro _ ⟨wx, rfl⟩
  have bx := below_next b0 (upon_below W0 wx)
  go_wp2
  go_ret
  exact ⟨rfl, bx⟩
set_option maxRecDepth 100000 in
set_option maxHeartbeats 4000000 in
theorem right_6 (o : Ox.Op) (kv : Value) (many : Int) (w : World) (hl : Laid w) (hk : KAt w kv o.keys) (hkl : o.keys.length ≤ 100000) (hnl : o.name.length ≤ 1000000) (c : Nat) (hc : o.code = (c : Int)) (hc33 : c ≤ 33) (f : Ox.S) (hf : Ox.forms[c]? = some f) (hf6 : f.length = 6)
    (g0 : Ox.within (Ox.at_ f 0) o.p1 many = true)
    (g1 : Ox.within (Ox.at_ f 1) o.p2 many = true)
    (g2 : Ox.within (Ox.at_ f 2) o.p3 many = true)
    (g3 : Ox.valued (Ox.at_ f 3) o.vk o.vn o.vs = true)
    (g4 : Ox.named (Ox.at_ f 4) o.name = true)
    (g5 : Ox.keyed (Ox.at_ f 5) o.keys = true)
    (R : List Int) (nn : Int) (hsev : Ox.several o = (R, nn)) (hlo : 0 ≤ nn) (hhi : nn ≤ 1024) (hlen : R.length ≤ 2) (hrs : ∀ r ∈ R, 0 ≤ r ∧ r < 1024)
    : Calls Tryd.prog 35 #[.agg #[.int .i64 o.code, .int .i64 o.p1, .int .i64 o.p2, .int .i64 o.p3, .int .i64 o.vk, .int .i64 o.vn, .string (Lx.bs o.vs), kv, .string (Lx.bs o.name)], .int .i64 many] w fun e w' => e = .returned (.bool (R.all (fun r => decide (r + nn ≤ 1024)))) ∧ Below w.heap.size w w' := by
  obtain ⟨F, hF⟩ : ∃ F, F = Lx.bs f := ⟨_, rfl⟩
  have hF6 : 6 ≤ F.size := by rw [hF, Lx.bs_size]; omega
  have fs0 : 0 < F.size := by omega
  have fi0 : (0 : Int) < (F.size : Int) := by omega
  have fs1 : 1 < F.size := by omega
  have fi1 : (1 : Int) < (F.size : Int) := by omega
  have fs2 : 2 < F.size := by omega
  have fi2 : (2 : Int) < (F.size : Int) := by omega
  have fs3 : 3 < F.size := by omega
  have fi3 : (3 : Int) < (F.size : Int) := by omega
  have fs4 : 4 < F.size := by omega
  have fi4 : (4 : Int) < (F.size : Int) := by omega
  have fs5 : 5 < F.size := by omega
  have fi5 : (5 : Int) < (F.size : Int) := by omega
  have hFa : ∀ i (h : i < F.size), F[i] = Ox.at_ f i := by subst hF; intro i h; exact at_bs f i h
  rw [← hFa 0 (by omega)] at g0
  have G0 := Lib.hid g0
  rw [← hFa 1 (by omega)] at g1
  have G1 := Lib.hid g1
  rw [← hFa 2 (by omega)] at g2
  have G2 := Lib.hid g2
  rw [← hFa 3 (by omega)] at g3
  have G3 := Lib.hid g3
  rw [← hFa 4 (by omega)] at g4
  have G4 := Lib.hid g4
  rw [← hFa 5 (by omega)] at g5
  have G5 := Lib.hid g5
  have a0 : w.cell? ⟨1, c, none⟩ = some (.string F) := by rw [hF]; exact hl.2.2 c f hf
  have h1 : 1 < w.heap.size := by have := hl.1; omega
  have HC := Lib.hid hc
  have d0 : decide (o.code < 0) = false := decide_eq_false (by omega)
  have d1 : decide (33 < o.code) = false := decide_eq_false (by omega)
  have k0 := s_first (w := w) (o := o) (kv := kv)
  have k00 : (w.alloc (.cells #[.int .i64 o.code, .int .i64 o.p1, .int .i64 o.p2, .int .i64 o.p3, .int .i64 o.vk, .int .i64 o.vn, .string (Lx.bs o.vs), kv, .string (Lx.bs o.name)] 39)).cell? ⟨w.heap.size, 0, none⟩ = some (.int .i64 o.code) := by rw [cell_new]; rfl
  have hB : w.heap.size < (w.alloc (.cells #[.int .i64 o.code, .int .i64 o.p1, .int .i64 o.p2, .int .i64 o.p3, .int .i64 o.vk, .int .i64 o.vn, .string (Lx.bs o.vs), kv, .string (Lx.bs o.name)] 39)).heap.size := by simp
  have hk0 : KAt (w.alloc (.cells #[.int .i64 o.code, .int .i64 o.p1, .int .i64 o.p2, .int .i64 o.p3, .int .i64 o.vk, .int .i64 o.vn, .string (Lx.bs o.vs), kv, .string (Lx.bs o.name)] 39)) kv o.keys := kat_keep hk (below_al (Below.refl _ _) _)
  have b0 : Below w.heap.size w (w.alloc (.cells #[.int .i64 o.code, .int .i64 o.p1, .int .i64 o.p2, .int .i64 o.p3, .int .i64 o.vk, .int .i64 o.vn, .string (Lx.bs o.vs), kv, .string (Lx.bs o.name)] 39)) := below_al (Below.refl _ _) _
  generalize hT : R.all (fun r => decide (r + nn ≤ 1024)) = T
  have HT : Hid ((R.drop 0).all (fun r => decide (r + nn ≤ 1024)) = T) := Lib.hid hT
  have HRS := Lib.hid hrs
  have HSEV := Lib.hid hsev
  clear hT hrs hsev
  rw [hc] at d0 d1 k0 k00 hB hk0 b0 ⊢
  clear hl hk hf hf6 hF hFa hc g0 g1 g2 g3 g4 g5
  go_enter Tryd.func35, Tryd.ntmps35
  go_wp2
  generalize (w.alloc (.cells #[.int .i64 (c : Int), .int .i64 o.p1, .int .i64 o.p2, .int .i64 o.p3, .int .i64 o.vk, .int .i64 o.vn, .string (Lx.bs o.vs), kv, .string (Lx.bs o.name)] 39)) = W0 at k0 k00 hB hk0 b0 ⊢
  obtain ⟨m1, m2, m3, m4, m5, m6, m7, m8⟩ := k0
  have k0 : W0.cell? ⟨w.heap.size, 1, none⟩ = some (.int .i64 o.p1) ∧ W0.cell? ⟨w.heap.size, 2, none⟩ = some (.int .i64 o.p2) ∧ W0.cell? ⟨w.heap.size, 3, none⟩ = some (.int .i64 o.p3) ∧ W0.cell? ⟨w.heap.size, 4, none⟩ = some (.int .i64 o.vk) ∧ W0.cell? ⟨w.heap.size, 5, none⟩ = some (.int .i64 o.vn) ∧ W0.cell? ⟨w.heap.size, 6, none⟩ = some (.string (Lx.bs o.vs)) ∧ W0.cell? ⟨w.heap.size, 7, none⟩ = some (kv) ∧ W0.cell? ⟨w.heap.size, 8, none⟩ = some (.string (Lx.bs o.name)) := ⟨m1, m2, m3, m4, m5, m6, m7, m8⟩
  have K0 := Lib.hid k0
  clear k0
  have x1 := upon_cell hB m1
  have x2 := upon_cell hB m2
  have x3 := upon_cell hB m3
  have x4 := upon_cell hB m4
  have x5 := upon_cell hB m5
  have x6 := upon_cell hB m6
  have x7 := upon_cell hB m7
  have x8 := upon_cell hB m8
  refine wp_region_upon (by kernel_rfl) (by kernel_rfl) ?_
  repeat (go_big_quiet_step (first
    | (go_at_call 49; exact upon_same (within_q _ _ _ _ _ (by first | with_reducible exact G0.out | with_reducible exact G1.out | with_reducible exact G2.out)))
    | (go_at_call 50; exact upon_call (valued_q _ _ _ _ _ _ (by with_reducible exact G3.out)))
    | (go_at_call 47; exact upon_call (named_q _ _ _ _ hnl (by with_reducible exact G4.out)))
    | (go_at_call 51; exact upon_call (keyed_q _ _ _ _ _ hkl (kat_keep hk0 (upon_below _ _)) (by with_reducible exact G5.out)))))
  refine wpQuiet_nil ?_
  rintro _ ⟨wx, rfl⟩
  have bx := below_next b0 (upon_below W0 wx)
  have y0 := ((upon_below W0 wx).cell (p := ⟨w.heap.size, 0, none⟩) hB).trans k00
  have y1 := x1 wx
  have y2 := x2 wx
  have y3 := x3 wx
  have y4 := x4 wx
  have y5 := x5 wx
  have y6 := x6 wx
  have y7 := x7 wx
  have y8 := x8 wx
  clear x1 x2 x3 x4 x5 x6 x7 x8 m1 m2 m3 m4 m5 m6 m7 m8 k00
  generalize upon W0 wx = W1 at bx y0 y1 y2 y3 y4 y5 y6 y7 y8 ⊢
  go_wp2_with fail
  refine (several_at o kv _ HC.out W1).mono ?_
  rintro e W2 ⟨v2, rfl, hrow, hb2⟩
  rw [HSEV.out] at hrow ⊢
  have bx2 := below_next bx hb2
  clear y0 y1 y2 y3 y4 y5 y6 y7 y8 hb2
  obtain ⟨n, hn⟩ : ∃ n, n = R.length := ⟨_, rfl⟩
  have HN := Lib.hid hn
  have hrow2 : Row1 W2 v2 n (ints R) := by rw [hn]; exact hrow
  rw [← hn] at hlen
  clear hrow hn
  rcases hrow2 with ⟨h0, rfl⟩ | ⟨g, cc, rfl, hg, hcc, hm, hx⟩
  · subst h0
    have hT : T = true := by rw [← HT.out, List.eq_nil_of_length_eq_zero HN.out.symm]; rfl
    subst hT
    go_wp2
    refine wp_loop_rounds 1 ?_
    rw [rounds_succ]
    go_wp2
    go_ret
    exact ⟨rfl, bx2⟩
  · have HX := Lib.hid hx
    clear hx
    go_wp2
    go_loop [9, 78] (fun _ i => ∃ k : Nat, k ≤ n ∧ i = .int .i64 k ∧ Hid ((R.drop k).all (fun r => decide (r + nn ≤ 1024)) = T)) (fun _ i => n - (intOf i).toNat)
    case atStart => exact ⟨0, by omega, rfl, HT⟩
    case round =>
      obtain ⟨k, hk, rfl, HK⟩ := hrel
      by_cases hlt : k < n
      · obtain ⟨r, hr⟩ : ∃ r, R[k]? = some r := ⟨_, List.getElem?_eq_getElem (by rw [← HN.out]; exact hlt)⟩
        have hcell : W2.cell? ⟨g, k, none⟩ = some (.int .i64 r) := HX.out k _ (by rw [ints, List.getElem?_map, hr]; rfl)
        obtain ⟨r0, r1⟩ := HRS.out r (List.mem_of_getElem? hr)
        have hst : (decide (r + nn ≤ 1024) && (R.drop (k + 1)).all (fun r => decide (r + nn ≤ 1024))) = T := by
          obtain ⟨h1, h2⟩ := List.getElem?_eq_some_iff.1 hr
          rw [← HK.out, List.drop_eq_getElem_cons h1, h2, List.all_cons]
        clear hr
        by_cases hle : r + nn ≤ 1024
        · have dd : decide (1024 < r + nn) = false := decide_eq_false (by omega)
          rw [decide_eq_true hle, Bool.true_and] at hst
          have HK' := Lib.hid hst
          clear hst
          go_wp2
          go_round
          case rel => exact ⟨k + 1, by omega, by go_num, HK'⟩
          case measure => simp [intOf]; omega
        · have dd : decide (1024 < r + nn) = true := decide_eq_true (by omega)
          rw [decide_eq_false hle, Bool.false_and] at hst
          subst hst
          go_wp2
          go_ret
          exact ⟨rfl, bx2⟩
      · obtain rfl : k = n := by omega
        have hT : T = true := by rw [← HK.out, List.drop_eq_nil_of_le (by rw [← HN.out]; omega)]; rfl
        subst hT
        go_wp2
        go_ret
        exact ⟨rfl, bx2⟩
theorem right_any (o : Ox.Op) (kv : Value) (many : Int) (w : World) (hl : Laid w) (hk : KAt w kv o.keys) (hkl : o.keys.length ≤ 100000) (hnl : o.name.length ≤ 1000000) :
    Calls Tryd.prog 35 #[.agg #[.int .i64 o.code, .int .i64 o.p1, .int .i64 o.p2, .int .i64 o.p3, .int .i64 o.vk, .int .i64 o.vn, .string (Lx.bs o.vs), kv, .string (Lx.bs o.name)], .int .i64 many] w fun e w' => e = .returned (.bool (Ox.right o many)) ∧ Below w.heap.size w w' := by
  cases hco : Ox.coded o with
  | false => exact right_uncoded o kv many w hco
  | true =>
    have hc2 := hco
    unfold Ox.coded at hc2
    simp only [Bool.and_eq_true, decide_eq_true_eq] at hc2
    obtain ⟨c, hc⟩ : ∃ c : Nat, o.code = (c : Int) := ⟨o.code.toNat, by omega⟩
    have hc33 : c ≤ 33 := by omega
    obtain ⟨f, hf, hf6, hfe⟩ := form_at hc33
    rw [← hc] at hfe
    have hfo : Ox.formed o many = (Ox.within (Ox.at_ f 0) o.p1 many && Ox.within (Ox.at_ f 1) o.p2 many && Ox.within (Ox.at_ f 2) o.p3 many && Ox.valued (Ox.at_ f 3) o.vk o.vn o.vs && Ox.named (Ox.at_ f 4) o.name && Ox.keyed (Ox.at_ f 5) o.keys) := by
      rw [← hfe]; rfl
    have hr : Ox.right o many = (Ox.formed o many && (Ox.several o).1.all (fun r => decide (r + (Ox.several o).2 ≤ 1024))) := by rw [Ox.right, hco, Bool.true_and]
    cases g0 : Ox.within (Ox.at_ f 0) o.p1 many with
    | false => rw [hr, hfo, g0]; exact right_0 o kv many w hl hk hkl hnl c hc hc33 f hf hf6 g0
    | true =>
    cases g1 : Ox.within (Ox.at_ f 1) o.p2 many with
    | false => rw [hr, hfo, g0, g1]; exact right_1 o kv many w hl hk hkl hnl c hc hc33 f hf hf6 g0 g1
    | true =>
    cases g2 : Ox.within (Ox.at_ f 2) o.p3 many with
    | false => rw [hr, hfo, g0, g1, g2]; exact right_2 o kv many w hl hk hkl hnl c hc hc33 f hf hf6 g0 g1 g2
    | true =>
    cases g3 : Ox.valued (Ox.at_ f 3) o.vk o.vn o.vs with
    | false => rw [hr, hfo, g0, g1, g2, g3]; exact right_3 o kv many w hl hk hkl hnl c hc hc33 f hf hf6 g0 g1 g2 g3
    | true =>
    cases g4 : Ox.named (Ox.at_ f 4) o.name with
    | false => rw [hr, hfo, g0, g1, g2, g3, g4]; exact right_4 o kv many w hl hk hkl hnl c hc hc33 f hf hf6 g0 g1 g2 g3 g4
    | true =>
    cases g5 : Ox.keyed (Ox.at_ f 5) o.keys with
    | false => rw [hr, hfo, g0, g1, g2, g3, g4, g5]; exact right_5 o kv many w hl hk hkl hnl c hc hc33 f hf hf6 g0 g1 g2 g3 g4 g5
    | true =>
    have hft : Ox.formed o many = true := by rw [hfo, g0, g1, g2, g3, g4, g5]; rfl
    obtain ⟨b1, b2, b3, b4⟩ := sev_bounds o many hco hft
    rw [hr, hft]
    exact right_6 o kv many w hl hk hkl hnl c hc hc33 f hf hf6 g0 g1 g2 g3 g4 g5 (Ox.several o).1 (Ox.several o).2 rfl b1 b2 b3 b4
end Go.Proofs.YtoekddkkjbcicaaDoor
