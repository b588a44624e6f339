import Derived.Test.YtoekddkkjbcicaaDoorOqE
import Derived.Test.YtoekddkkjbcicaaDoorOqG
import Derived.Deep.Slices
set_option linter.unusedVariables false
set_option linter.unusedSimpArgs false
namespace Go.Proofs.YtoekddkkjbcicaaDoor
open Go.RowKit
open Go.ChangeShapes Go.WideShapes Go.ChangeAt Go.WideElems
attribute [local simp] Lx.bs_size
theorem z_int : Tryd.prog.cellsOf 3 = 1 := by kernel_rfl
theorem z_int64 : Tryd.prog.cellsOf 2 = 1 := by kernel_rfl
theorem z_bool : Tryd.prog.cellsOf 4 = 1 := by kernel_rfl
theorem z_val : Tryd.prog.cellsOf 36 = 3 := by kernel_rfl
theorem z_key : Tryd.prog.cellsOf 49 = 3 := by kernel_rfl
theorem z_keys : Tryd.prog.cellsOf 37 = 1 := by kernel_rfl
theorem z_op : Tryd.prog.cellsOf 39 = 9 := by kernel_rfl
def I64 (n : Int) : Prop := -9223372036854775808 ≤ n ∧ n ≤ 9223372036854775807
section
variable {H : Type} {enc : TypeId × Value → H}
theorem spot_none {w : World} {a : Addr} {v : Value} (h : w.cell? a = some v) : ∃ b o, a = ⟨b, o, none⟩ := by
  obtain ⟨b, o, sp⟩ := a
  cases sp with
  | none => exact ⟨b, o, rfl⟩
  | some s =>
    exfalso
    unfold World.cell? at h
    split at h
    · simp at h
    · cases h
theorem cell_lt {w : World} {b o : Nat} {v : Value} (h : w.cell? ⟨b, o, none⟩ = some v) : b < w.heap.size := by
  unfold World.cell? at h
  split at h
  · rename_i hb
    exact (Array.getElem?_eq_some_iff.1 hb).1
  · cases h
theorem key_of {w : World} {base n : Nat} {sp : Nat → Bool} {held : Bool} {cs : List Value} {x : DataW H × List MemPlace} (h : DataW.trod enc Tryd.prog w base sp held n 49 cs = some x) : ∃ k : Ox.Key, cs = kcells k ∧ I64 k.col := by
  obtain ⟨xs, m, rfl, hx, hlen, hxl, hf⟩ := DataW.trod_struct Tryd.underlying49 h
  rw [z_key] at hlen
  match xs, hxl, cs, hlen with
  | [y0, y1, y2], _, [c0, c1, c2], _ =>
    have g0 := hf 0 _ rfl
    have g1 := hf 1 _ rfl
    have g2 := hf 2 _ rfl
    simp [z_int, z_bool] at g0 g1 g2
    obtain ⟨a, e0, _, w0⟩ := DataW.trod_int Tryd.underlying3 g0
    obtain ⟨b, e1, _, w1⟩ := DataW.trod_int Tryd.underlying3 g1
    obtain ⟨d, e2, _⟩ := DataW.trod_bool Tryd.underlying4 g2
    simp only [List.cons.injEq, and_true] at e0 e1 e2
    subst e0 e1 e2
    exact ⟨⟨a, b, d⟩, rfl, bounds_i64 w0⟩
theorem val_of {w : World} {base n : Nat} {sp : Nat → Bool} {held : Bool} {cs : List Value} {x : DataW H × List MemPlace} (h : DataW.trod enc Tryd.prog w base sp held n 36 cs = some x) : ∃ (vk vn : Int) (vs : ByteArray), cs = [.int .i64 vk, .int .i64 vn, .string vs] ∧ I64 vn := by
  obtain ⟨xs, m, rfl, hx, hlen, hxl, hf⟩ := DataW.trod_struct Tryd.underlying36 h
  rw [z_val] at hlen
  match xs, hxl, cs, hlen with
  | [y0, y1, y2], _, [c0, c1, c2], _ =>
    have g0 := hf 0 _ rfl
    have g1 := hf 1 _ rfl
    have g2 := hf 2 _ rfl
    simp [z_int, z_int64, cells_string] at g0 g1 g2
    obtain ⟨a, e0, _, w0⟩ := DataW.trod_int Tryd.underlying3 g0
    obtain ⟨b, e1, _, w1⟩ := DataW.trod_int Tryd.underlying2 g1
    obtain ⟨d, e2, _⟩ := DataW.trod_string Tryd.underlying9 g2
    simp only [List.cons.injEq, and_true] at e0 e1 e2
    subst e0 e1 e2
    exact ⟨a, b, d, rfl, bounds_i64 w1⟩
theorem flat_get {α : Type} {f : α → List Value} {m : Nat} (hf : ∀ a, (f a).length = m) (h0 : 0 < m) : ∀ {l : List α} {j : Nat} {u : Value}, (l.flatMap f)[j]? = some u → ∃ i t, i < l.length ∧ l[i]? = some t ∧ j = i * m + j % m ∧ (f t)[j % m]? = some u
  | [], j, u, h => by simp at h
  | t :: r, j, u, h => by
    rw [List.flatMap_cons] at h
    by_cases hj : j < m
    · rw [List.getElem?_append_left (by rw [hf]; exact hj)] at h
      exact ⟨0, t, by simp, rfl, by rw [Nat.mod_eq_of_lt hj]; simp, by rw [Nat.mod_eq_of_lt hj]; exact h⟩
    · rw [List.getElem?_append_right (by rw [hf]; omega), hf] at h
      obtain ⟨i, t', h1, h2, h3, h4⟩ := flat_get hf h0 h
      have hm : (j - m) % m = j % m := by rw [← Nat.mod_eq_sub_mod (by omega)]
      rw [hm] at h3 h4
      refine ⟨i + 1, t', by simp; omega, h2, ?_, h4⟩
      rw [Nat.add_mul, Nat.one_mul]
      omega
theorem keys_of {w : World} {base n : Nat} {sp : Nat → Bool} {held : Bool} {cs : List Value} {x : DataW H × List MemPlace} (h : DataW.trod enc Tryd.prog w base sp held n 37 cs = some x) : ∃ (v : Value) (l : List Ox.Key), cs = [v] ∧ KAt w v l ∧ KeyFit l := by
  rcases Go.Deep.open_slice Tryd.underlying37 h with ⟨rfl, _⟩ | ⟨a, len, cap, m, n', D, Pl, rfl, hb, hl, hm, hmm, rfl, hx⟩
  · exact ⟨_, [], rfl, .inl ⟨rfl, _, _, rfl⟩, (by intro k hk; cases hk)⟩
  · have hlm : len ≤ m := by rw [hmm]; split <;> omega
    have each : ∀ i, i < len → ∃ k : Ox.Key, (∀ j u, (kcells k)[j]? = some u → w.cell? (a.add (i * 3 + j)) = some u) ∧ I64 k.col := by
      intro i hi
      obtain ⟨cs', h1, h2⟩ := hx i (by omega)
      rw [z_key] at h1
      obtain ⟨_, hlen, hcell⟩ := World.cells?_some h1
      obtain ⟨k, rfl, hk⟩ := key_of h2
      refine ⟨k, fun j u hu => ?_, hk⟩
      have hj : j < 3 := by have := (List.getElem?_eq_some_iff.1 hu).1; simpa [kcells] using this
      have := hcell j hj
      rw [hu, Addr.add_add] at this
      exact this
    by_cases h0 : len = 0
    · subst h0
      exact ⟨_, [], rfl, .inl ⟨rfl, _, _, rfl⟩, (by intro k hk; cases hk)⟩
    · obtain ⟨k0, hk0, _⟩ := each 0 (by omega)
      have hz := hk0 0 _ rfl
      rw [Nat.zero_mul, Nat.zero_add] at hz
      have hza : a.add 0 = a := by unfold Addr.add; rw [if_pos rfl]
      rw [hza] at hz
      obtain ⟨b, o, rfl⟩ := spot_none hz
      have hb2 : b < w.heap.size := cell_lt hz
      haveI : Inhabited Ox.Key := ⟨⟨0, 0, false⟩⟩
      obtain ⟨f, hf⟩ := Go.Deep.choose_lt each
      refine ⟨_, (List.range len).map f, rfl, .inr ⟨b, o, cap, by simp, hb2, by simpa using hl, hm, fun j u hu => ?_⟩, ?_⟩
      · obtain ⟨i, t, hi, ht, hji, hu2⟩ := flat_get (m := 3) (fun k => rfl) (by decide) hu
        have hi' : i < len := by simpa using hi
        rw [List.getElem?_map, List.getElem?_range hi'] at ht
        simp only [Option.map_some, Option.some.injEq] at ht
        subst ht
        have := (hf i hi').1 _ u hu2
        rw [← hji] at this
        have ha : (⟨b, o, none⟩ : Addr).add j = ⟨b, o + j, none⟩ := by
          unfold Addr.add
          by_cases hj0 : j = 0
          · rw [if_pos hj0, hj0]; rfl
          · rw [if_neg hj0]
        rw [ha] at this
        exact this
      · intro k hk
        obtain ⟨i, hi, rfl⟩ := List.mem_map.1 hk
        exact (hf i (List.mem_range.1 hi)).2
theorem op_of {w : World} {base n : Nat} {sp : Nat → Bool} {held : Bool} {cs : List Value} {x : DataW H × List MemPlace} (h : DataW.trod enc Tryd.prog w base sp held n 39 cs = some x) :
    ∃ t : OV, cs = ocells t ∧ KAt w t.2 t.1.keys ∧ I64 t.1.vn := by
  obtain ⟨xs, m, rfl, hx, hlen, hxl, hf⟩ := DataW.trod_struct Tryd.underlying39 h
  rw [z_op] at hlen
  match xs, hxl, cs, hlen with
  | [y0, y1, y2, y3, y4, y5, y6], _, [c0, c1, c2, c3, c4, c5, c6, c7, c8], _ =>
    have g0 := hf 0 _ rfl
    have g1 := hf 1 _ rfl
    have g2 := hf 2 _ rfl
    have g3 := hf 3 _ rfl
    have g4 := hf 4 _ rfl
    have g5 := hf 5 _ rfl
    have g6 := hf 6 _ rfl
    simp [z_int, z_val, z_keys, cells_string] at g0 g1 g2 g3 g4 g5 g6
    obtain ⟨a0, e0, _, w0⟩ := DataW.trod_int Tryd.underlying3 g0
    obtain ⟨a1, e1, _, w1⟩ := DataW.trod_int Tryd.underlying3 g1
    obtain ⟨a2, e2, _, w2⟩ := DataW.trod_int Tryd.underlying3 g2
    obtain ⟨a3, e3, _, w3⟩ := DataW.trod_int Tryd.underlying3 g3
    obtain ⟨vk, vn, vs, e4, w4⟩ := val_of g4
    obtain ⟨kv, l, e5, hk, _⟩ := keys_of g5
    obtain ⟨nm, e6, _⟩ := DataW.trod_string Tryd.underlying9 g6
    simp only [List.cons.injEq, and_true] at e0 e1 e2 e3 e4 e5 e6
    obtain ⟨e40, e41, e42⟩ := e4
    subst e0 e1 e2 e3 e40 e41 e42 e5 e6
    refine ⟨(⟨a0, a1, a2, a3, vk, vn, Lx.ls vs, l, Lx.ls nm⟩, c7), ?_, hk, w4⟩
    unfold ocells
    simp only [Lx.bs_ls]
/-- The instructions that an argument reads as. -/
theorem ops_of {w : World} {base n : Nat} {sp : Nat → Bool} {held : Bool} {cs : List Value} {x : DataW H × List MemPlace} (h : DataW.trod enc Tryd.prog w base sp held n 25 cs = some x) :
    ∃ (v : Value) (L : List OV), cs = [v] ∧ OpsAt w v L ∧ (∀ p ∈ L, I64 p.1.vn) ∧ L.length ≤ maxLen := by
  rcases Go.Deep.open_slice Tryd.underlying25 h with ⟨rfl, _⟩ | ⟨a, len, cap, m, n', D, Pl, rfl, hb, hl, hm, hmm, rfl, hx⟩
  · exact ⟨_, [], rfl, ⟨(by intro p hp; cases hp), .inl ⟨rfl, _, _, rfl⟩⟩, (by intro p hp; cases hp), by simp⟩
  · have hlm : len ≤ m := by rw [hmm]; split <;> omega
    have each : ∀ i, i < len → ∃ t : OV, (∀ j u, (ocells t)[j]? = some u → w.cell? (a.add (i * 9 + j)) = some u) ∧ KAt w t.2 t.1.keys ∧ I64 t.1.vn := by
      intro i hi
      obtain ⟨cs', h1, h2⟩ := hx i (by omega)
      rw [z_op] at h1
      obtain ⟨_, hlen, hcell⟩ := World.cells?_some h1
      obtain ⟨t, rfl, hk, hv⟩ := op_of h2
      refine ⟨t, fun j u hu => ?_, hk, hv⟩
      have hj : j < 9 := by have := (List.getElem?_eq_some_iff.1 hu).1; simpa [ocells] using this
      have := hcell j hj
      rw [hu, Addr.add_add] at this
      exact this
    by_cases h0 : len = 0
    · subst h0
      exact ⟨_, [], rfl, ⟨(by intro p hp; cases hp), .inl ⟨rfl, _, _, rfl⟩⟩, (by intro p hp; cases hp), by simp⟩
    · obtain ⟨t0, hk0, _⟩ := each 0 (by omega)
      have hz := hk0 0 _ rfl
      rw [Nat.zero_mul, Nat.zero_add] at hz
      have hza : a.add 0 = a := by unfold Addr.add; rw [if_pos rfl]
      rw [hza] at hz
      obtain ⟨b, o, rfl⟩ := spot_none hz
      have hb2 : b < w.heap.size := cell_lt hz
      haveI : Inhabited OV := ⟨(Ox.op0 0, .bool false)⟩
      obtain ⟨f, hf⟩ := Go.Deep.choose_lt each
      refine ⟨_, (List.range len).map f, rfl, ⟨fun p hp => ?_, .inr ⟨b, o, cap, by simp, hb2, by simpa using hl, hm, fun j u hu => ?_⟩⟩, fun p hp => ?_, by simp; omega⟩
      · obtain ⟨i, hi, rfl⟩ := List.mem_map.1 hp
        exact (hf i (List.mem_range.1 hi)).2.1
      · obtain ⟨i, t, hi, ht, hji, hu2⟩ := flat_get (m := 9) (fun k => rfl) (by decide) hu
        have hi' : i < len := by simpa using hi
        rw [List.getElem?_map, List.getElem?_range hi'] at ht
        simp only [Option.map_some, Option.some.injEq] at ht
        subst ht
        have := (hf i hi').1 _ u hu2
        rw [← hji] at this
        have ha : (⟨b, o, none⟩ : Addr).add j = ⟨b, o + j, none⟩ := by
          unfold Addr.add
          by_cases hj0 : j = 0
          · rw [if_pos hj0, hj0]; rfl
          · rw [if_neg hj0]
        rw [ha] at this
        exact this
      · obtain ⟨i, hi, rfl⟩ := List.mem_map.1 hp
        exact (hf i (List.mem_range.1 hi)).2.2
end
/-- Too many for a look: the k-th and those behind it. -/
def greatL : List Ox.Op → Nat → Bool
  | [], _ => false
  | o :: r, k => decide (300 ≤ k) || decide (1000 < o.vs.length) || decide (200 < o.keys.length) || decide (500 < o.name.length) || greatL r (k + 1)
def Small (L : List OV) : Prop := L.length ≤ 300 ∧ ∀ p ∈ L, p.1.vs.length ≤ 1000 ∧ p.1.keys.length ≤ 200 ∧ p.1.name.length ≤ 500
theorem great_small : ∀ (l : List OV) (k : Nat), greatL (l.map (·.1)) k = false → (l = [] ∨ l.length + k ≤ 300) ∧ ∀ p ∈ l, p.1.vs.length ≤ 1000 ∧ p.1.keys.length ≤ 200 ∧ p.1.name.length ≤ 500
  | [], k, _ => ⟨.inl rfl, by intro p hp; cases hp⟩
  | p :: r, k, h => by
    rw [List.map_cons, greatL] at h
    simp only [Bool.or_eq_false_iff, decide_eq_false_iff_not] at h
    obtain ⟨⟨⟨⟨h1, h2⟩, h3⟩, h4⟩, h5⟩ := h
    obtain ⟨q1, q2⟩ := great_small r (k + 1) h5
    refine ⟨.inr ?_, fun q hq => ?_⟩
    · simp only [List.length_cons]
      rcases q1 with rfl | q1
      · simp; omega
      · omega
    · rcases List.mem_cons.1 hq with rfl | hq
      · exact ⟨by omega, by omega, by omega⟩
      · exact q2 q hq
theorem small_of {L : List OV} (h : greatL (L.map (·.1)) 0 = false) : Small L := by
  obtain ⟨q1, q2⟩ := great_small L 0 h
  refine ⟨?_, q2⟩
  rcases q1 with rfl | q1
  · simp
  · omega
theorem fits_small {L : List OV} (h : Small L) (hv : ∀ p ∈ L, I64 p.1.vn) : Fits L := fun p hp => by
  obtain ⟨a, b, c⟩ := h.2 p hp
  obtain ⟨d, e⟩ := hv p hp
  exact ⟨by omega, by omega, by omega, d, e⟩
theorem great_step {L : List OV} {k : Nat} {t : OV} (h : L[k]? = some t) : greatL ((L.map (·.1)).drop k) k = (decide (300 ≤ k) || decide (1000 < t.1.vs.length) || decide (200 < t.1.keys.length) || decide (500 < t.1.name.length) || greatL ((L.map (·.1)).drop (k + 1)) (k + 1)) := by
  obtain ⟨h1, h2⟩ := List.getElem?_eq_some_iff.1 h
  rw [List.drop_eq_getElem_cons (by simpa using h1), greatL]
  simp [h2]
set_option maxRecDepth 100000 in
set_option maxHeartbeats 4000000 in
theorem great_any (v : Value) (L : List OV) (w : World) (hat : OpsAt w v L) (hn : L.length ≤ maxLen) :
    Calls Tryd.prog 13 #[v] w fun e w' => e = .returned (.bool (greatL (L.map (·.1)) 0)) ∧ w = w' := by
  obtain ⟨R, hR⟩ : ∃ R, R = greatL (L.map (·.1)) 0 := ⟨_, rfl⟩
  rw [← hR]
  have HR : Hid (greatL ((L.map (·.1)).drop 0) 0 = R) := Lib.hid hR.symm
  obtain ⟨n, hnn⟩ : ∃ n, n = L.length := ⟨_, rfl⟩
  rw [← hnn] at hn
  have HN := Lib.hid hnn
  have HAT := Lib.hid hat
  simp only [maxLen] at hn
  obtain ⟨hk, hrow⟩ := hat
  rcases hrow with ⟨h0, a, c, rfl⟩ | ⟨b, off, c, rfl, hb, hc, hm, hx⟩
  · subst h0
    have hn0 : n = 0 := by rw [hnn]; rfl
    subst hn0
    have hRf : R = false := by rw [← HR.out]; rfl
    subst hRf
    clear hR hk hnn
    go_enter Tryd.func13, Tryd.ntmps13
    go_wp2
    refine wp_loop_rounds 1 ?_
    rw [rounds_succ]
    go_wp2
    go_ret
    exact ⟨rfl, rfl⟩
  · rw [← hnn] at hc
    rw [← hnn]
    have HX := Lib.hid hx
    clear hR hk hnn hx
    go_enter Tryd.func13, Tryd.ntmps13
    go_wp2
    go_loop [3] (fun i => ∃ k : Nat, k ≤ n ∧ i = .int .i64 k ∧ Hid (greatL ((L.map (·.1)).drop k) k = R)) (fun i => n - (intOf i).toNat)
    case atStart => exact ⟨0, by omega, rfl, HR⟩
    case round =>
      obtain ⟨k, hk, rfl, HK⟩ := hrel
      by_cases hlt : k < n
      · obtain ⟨t, ht⟩ : ∃ t, L[k]? = some t := ⟨_, List.getElem?_eq_getElem (by rw [← HN.out]; exact hlt)⟩
        have hcell : ∀ j u, j < 9 → (ocells t)[j]? = some u → w.cell? ⟨b, off + (k * 9 + j), none⟩ = some u := fun j u hj hu => HX.out _ _ ((oflat_at ht hj).trans hu)
        have hkat := HAT.out.1 t (List.mem_of_getElem? ht)
        have hst := great_step ht
        rw [HK.out] at hst
        obtain ⟨o, kv⟩ := t
        simp only at hst hkat
        have a6 : w.cell? ⟨b, off + k * 9 + 6, none⟩ = some (.string (Lx.bs o.vs)) := hcell 6 _ (by omega) rfl
        obtain ⟨ka, kc, rfl⟩ : ∃ ka kc, kv = .slice ka o.keys.length kc := by
          rcases hkat with ⟨h0, a, c, h⟩ | ⟨b, off, c, h, _⟩
          · exact ⟨a, c, by rw [h, h0]; rfl⟩
          · exact ⟨_, _, h⟩
        have a7 : w.cell? ⟨b, off + k * 9 + 7, none⟩ = some (.slice ka o.keys.length kc) := hcell 7 _ (by omega) rfl
        have a8 : w.cell? ⟨b, off + k * 9 + 8, none⟩ = some (.string (Lx.bs o.name)) := hcell 8 _ (by omega) rfl
        clear ht hcell hkat HK
        by_cases h1 : 300 ≤ k
        · have d1 : decide ((300 : Int) ≤ (k : Int)) = true := decide_eq_true (by omega)
          rw [decide_eq_true h1] at hst
          simp only [Bool.true_or] at hst
          subst hst
          clear h1
          go_wp2
          go_ret
          exact ⟨rfl, rfl⟩
        have d1 : decide ((300 : Int) ≤ (k : Int)) = false := decide_eq_false (by omega)
        rw [decide_eq_false h1, Bool.false_or] at hst
        by_cases h2 : 1000 < o.vs.length
        · have d2 : decide ((1000 : Int) < (o.vs.length : Int)) = true := decide_eq_true (by omega)
          rw [decide_eq_true h2] at hst
          simp only [Bool.true_or] at hst
          subst hst
          clear h2
          go_wp2
          go_ret
          exact ⟨rfl, rfl⟩
        have d2 : decide ((1000 : Int) < (o.vs.length : Int)) = false := decide_eq_false (by omega)
        rw [decide_eq_false h2, Bool.false_or] at hst
        by_cases h3 : 200 < o.keys.length
        · have d3 : decide ((200 : Int) < (o.keys.length : Int)) = true := decide_eq_true (by omega)
          rw [decide_eq_true h3] at hst
          simp only [Bool.true_or] at hst
          subst hst
          clear h3
          go_wp2
          go_ret
          exact ⟨rfl, rfl⟩
        have d3 : decide ((200 : Int) < (o.keys.length : Int)) = false := decide_eq_false (by omega)
        rw [decide_eq_false h3, Bool.false_or] at hst
        by_cases h4 : 500 < o.name.length
        · have d4 : decide ((500 : Int) < (o.name.length : Int)) = true := decide_eq_true (by omega)
          rw [decide_eq_true h4] at hst
          simp only [Bool.true_or] at hst
          subst hst
          clear h4
          go_wp2
          go_ret
          exact ⟨rfl, rfl⟩
        have d4 : decide ((500 : Int) < (o.name.length : Int)) = false := decide_eq_false (by omega)
        rw [decide_eq_false h4, Bool.false_or] at hst
        have HK' := Lib.hid hst.symm
        clear hst h1 h2 h3 h4
        go_wp2
        go_round
        case rel => exact ⟨k + 1, by omega, by go_num, HK'⟩
        case measure => simp [intOf]; omega
      · obtain rfl : k = n := by omega
        have hRf : R = false := by
          have h := HK.out
          rw [List.drop_eq_nil_of_le (by rw [List.length_map, ← HN.out]; omega)] at h
          exact h.symm
        subst hRf
        go_wp2
        go_ret
        exact ⟨rfl, rfl⟩
/-- A right instruction's line is short where its parts are small. -/
theorem num_4 {n : Int} (h0 : 0 ≤ n) (h : n < 10000) : (Ox.num n).length ≤ 4 := by
  unfold Ox.num
  rw [if_neg (by omega)]
  exact numN_len 3 _ (by have : (10 : Nat) ^ (3 + 1) = 10000 := rfl; omega)
theorem num_2 {n : Int} (h0 : 0 ≤ n) (h : n < 100) : (Ox.num n).length ≤ 2 := by
  unfold Ox.num
  rw [if_neg (by omega)]
  exact numN_len 1 _ (by have : (10 : Nat) ^ (1 + 1) = 100 := rfl; omega)
theorem line_short {o : Ox.Op} {many : Int} (hm : many ≤ 8192) (hr : Ox.right o many = true) (h1 : o.vs.length ≤ 1000) (h2 : o.name.length ≤ 500) (hv : I64 o.vn) : (Ox.line o).length ≤ 2900 := by
  obtain ⟨hc, hf⟩ := Ox.right_parts hr
  unfold Ox.formed at hf
  simp only [Bool.and_eq_true] at hf
  obtain ⟨⟨⟨⟨⟨f1, f2⟩, f3⟩, f4⟩, f5⟩, f6⟩ := hf
  have hN : ∀ (c : UInt8) (n : Int), Ox.within c n many = true → (Ox.partN c n).length ≤ 5 := by
    intro c n h
    have hn : 0 ≤ n ∧ n < 10000 := by
      unfold Ox.within at h
      (repeat' split at h) <;> simp only [Bool.and_eq_true, Bool.or_eq_true, decide_eq_true_eq] at h <;> omega
    have := num_4 hn.1 hn.2
    unfold Ox.partN
    split <;> simp; omega
  have n1 := hN _ _ f1
  have n2 := hN _ _ f2
  have n3 := hN _ _ f3
  have hV : (Ox.partV (Ox.at_ (Ox.form o.code) 3) o.vk o.vn o.vs).length ≤ 2004 := by
    have h3 := num_21 hv.1 hv.2
    have h4 := hex_len o.vs
    have : (Ox.valS o.vk o.vn o.vs).length ≤ 2003 := by
      unfold Ox.valS
      repeat' split
      all_goals (try simp)
      all_goals omega
    unfold Ox.partV
    split <;> simp; omega
  have hS : (Ox.partS (Ox.at_ (Ox.form o.code) 4) o.name).length ≤ 501 := by
    unfold Ox.partS
    split <;> simp; omega
  have hn : ((Ox.names[o.code.toNat]?).getD []).length ≤ 20 := by
    by_cases h : o.code.toNat < 34
    · obtain ⟨f, h1, h2⟩ := names_short ⟨o.code.toNat, h⟩
      simp only at h1
      rw [h1]; exact h2
    · rw [List.getElem?_eq_none (by show 34 ≤ _; omega)]; simp
  have hK : (Ox.keysS o.keys).length ≤ 320 := by
    have hk : ∀ l : List Ox.Key, (∀ k ∈ l, Ox.keyOk k = true) → (Ox.keysS l).length ≤ 5 * l.length := by
      intro l
      induction l with
      | nil => intro _; simp [Ox.keysS]
      | cons k r ih =>
        intro hl
        have i1 := ih (fun q hq => hl q (List.mem_cons_of_mem _ hq))
        have i2 := hl k List.mem_cons_self
        simp only [Ox.keyOk, Bool.and_eq_true, decide_eq_true_eq] at i2
        have i3 := num_2 i2.1.1.1 (by omega : k.col < 100)
        have e : Ox.keysS (k :: r) = (32 :: Ox.keyS k) ++ Ox.keysS r := rfl
        have i4 : (Ox.keyS k).length ≤ 4 := by
          unfold Ox.keyS
          simp only [List.length_append]
          split <;> split <;> simp <;> omega
        rw [e]
        simp only [List.length_append, List.length_cons]
        omega
    unfold Ox.keyed at f6
    split at f6
    · simp only [Bool.and_eq_true, List.all_eq_true, decide_eq_true_eq] at f6
      have := hk o.keys f6.1
      omega
    · have : o.keys = [] := List.eq_nil_of_length_eq_zero (by simpa using f6)
      rw [this]; simp [Ox.keysS]
  unfold Ox.line
  simp only [List.length_append]
  omega
end Go.Proofs.YtoekddkkjbcicaaDoor
