import Derived.Test.YtoekddkkjbcicaaDoorOqE
import Derived.Test.YtoekddkkjbcicaaDoorOqG
import Derived.Deep.Slices
import Derived.Lib.AppendStr
set_option linter.unusedVariables false
set_option linter.unusedSimpArgs false
namespace Go.Proofs.YtoekddkkjbcicaaDoor
open Go.RowKit
open Go.ChangeShapes Go.WideShapes Go.ChangeAt Go.WideElems
attribute [local simp] Lx.bs_size
theorem z_int : Tryd.prog.cellsOf 3 = 1 := by kernel_rfl
theorem z_int64 : Tryd.prog.cellsOf 2 = 1 := by kernel_rfl
theorem z_bool : Tryd.prog.cellsOf 4 = 1 := by kernel_rfl
theorem z_val : Tryd.prog.cellsOf 36 = 3 := by kernel_rfl
theorem z_key : Tryd.prog.cellsOf 49 = 3 := by kernel_rfl
theorem z_keys : Tryd.prog.cellsOf 37 = 1 := by kernel_rfl
theorem z_op : Tryd.prog.cellsOf 39 = 9 := by kernel_rfl
def I64 (n : Int) : Prop := -9223372036854775808 ≤ n ∧ n ≤ 9223372036854775807
section
variable {H : Type} {enc : TypeId × Value → H}
theorem spot_none {w : World} {a : Addr} {v : Value} (h : w.cell? a = some v) : ∃ b o, a = ⟨b, o, none⟩ := by
  obtain ⟨b, o, sp⟩ := a
  cases sp with
  | none => exact ⟨b, o, rfl⟩
  | some s =>
    exfalso
    unfold World.cell? at h
    split at h
    · simp at h
    · cases h
theorem cell_lt {w : World} {b o : Nat} {v : Value} (h : w.cell? ⟨b, o, none⟩ = some v) : b < w.heap.size := by
  unfold World.cell? at h
  split at h
  · rename_i hb
    exact (Array.getElem?_eq_some_iff.1 hb).1
  · cases h
theorem key_of {w : World} {base n : Nat} {sp : Nat → Bool} {held : Bool} {cs : List Value} {x : DataW H × List MemPlace} (h : DataW.trod enc Tryd.prog w base sp held n 49 cs = some x) : ∃ k : Ox.Key, cs = kcells k ∧ I64 k.col := by
  obtain ⟨xs, m, rfl, hx, hlen, hxl, hf⟩ := DataW.trod_struct Tryd.underlying49 h
  rw [z_key] at hlen
  match xs, hxl, cs, hlen with
  | [y0, y1, y2], _, [c0, c1, c2], _ =>
    have g0 := hf 0 _ rfl
    have g1 := hf 1 _ rfl
    have g2 := hf 2 _ rfl
    simp [z_int, z_bool] at g0 g1 g2
    obtain ⟨a, e0, _, w0⟩ := DataW.trod_int Tryd.underlying3 g0
    obtain ⟨b, e1, _, w1⟩ := DataW.trod_int Tryd.underlying3 g1
    obtain ⟨d, e2, _⟩ := DataW.trod_bool Tryd.underlying4 g2
    simp only [List.cons.injEq, and_true] at e0 e1 e2
    subst e0 e1 e2
    exact ⟨⟨a, b, d⟩, rfl, bounds_i64 w0⟩
theorem val_of {w : World} {base n : Nat} {sp : Nat → Bool} {held : Bool} {cs : List Value} {x : DataW H × List MemPlace} (h : DataW.trod enc Tryd.prog w base sp held n 36 cs = some x) : ∃ (vk vn : Int) (vs : ByteArray), cs = [.int .i64 vk, .int .i64 vn, .string vs] ∧ I64 vn := by
  obtain ⟨xs, m, rfl, hx, hlen, hxl, hf⟩ := DataW.trod_struct Tryd.underlying36 h
  rw [z_val] at hlen
  match xs, hxl, cs, hlen with
  | [y0, y1, y2], _, [c0, c1, c2], _ =>
    have g0 := hf 0 _ rfl
    have g1 := hf 1 _ rfl
    have g2 := hf 2 _ rfl
    simp [z_int, z_int64, cells_string] at g0 g1 g2
    obtain ⟨a, e0, _, w0⟩ := DataW.trod_int Tryd.underlying3 g0
    obtain ⟨b, e1, _, w1⟩ := DataW.trod_int Tryd.underlying2 g1
    obtain ⟨d, e2, _⟩ := DataW.trod_string Tryd.underlying9 g2
    simp only [List.cons.injEq, and_true] at e0 e1 e2
    subst e0 e1 e2
    exact ⟨a, b, d, rfl, bounds_i64 w1⟩
theorem flat_get {α : Type} {f : α → List Value} {m : Nat} (hf : ∀ a, (f a).length = m) (h0 : 0 < m) : ∀ {l : List α} {j : Nat} {u : Value}, (l.flatMap f)[j]? = some u → ∃ i t, i < l.length ∧ l[i]? = some t ∧ j = i * m + j % m ∧ (f t)[j % m]? = some u
  | [], j, u, h => by simp at h
  | t :: r, j, u, h => by
    rw [List.flatMap_cons] at h
    by_cases hj : j < m
    · rw [List.getElem?_append_left (by rw [hf]; exact hj)] at h
      exact ⟨0, t, by simp, rfl, by rw [Nat.mod_eq_of_lt hj]; simp, by rw [Nat.mod_eq_of_lt hj]; exact h⟩
    · rw [List.getElem?_append_right (by rw [hf]; omega), hf] at h
      obtain ⟨i, t', h1, h2, h3, h4⟩ := flat_get hf h0 h
      have hm : (j - m) % m = j % m := by rw [← Nat.mod_eq_sub_mod (by omega)]
      rw [hm] at h3 h4
      refine ⟨i + 1, t', by simp; omega, h2, ?_, h4⟩
      rw [Nat.add_mul, Nat.one_mul]
      omega
theorem keys_of {w : World} {base n : Nat} {sp : Nat → Bool} {held : Bool} {cs : List Value} {x : DataW H × List MemPlace} (h : DataW.trod enc Tryd.prog w base sp held n 37 cs = some x) : ∃ (v : Value) (l : List Ox.Key), cs = [v] ∧ KAt w v l ∧ KeyFit l := by
  rcases Go.Deep.open_slice Tryd.underlying37 h with ⟨rfl, _⟩ | ⟨a, len, cap, m, n', D, Pl, rfl, hb, hl, hm, hmm, rfl, hx⟩
  · exact ⟨_, [], rfl, .inl ⟨rfl, _, _, rfl⟩, (by intro k hk; cases hk)⟩
  · have hlm : len ≤ m := by rw [hmm]; split <;> omega
    have each : ∀ i, i < len → ∃ k : Ox.Key, (∀ j u, (kcells k)[j]? = some u → w.cell? (a.add (i * 3 + j)) = some u) ∧ I64 k.col := by
      intro i hi
      obtain ⟨cs', h1, h2⟩ := hx i (by omega)
      rw [z_key] at h1
      obtain ⟨_, hlen, hcell⟩ := World.cells?_some h1
      obtain ⟨k, rfl, hk⟩ := key_of h2
      refine ⟨k, fun j u hu => ?_, hk⟩
      have hj : j < 3 := by have := (List.getElem?_eq_some_iff.1 hu).1; simpa [kcells] using this
      have := hcell j hj
      rw [hu, Addr.add_add] at this
      exact this
    by_cases h0 : len = 0
    · subst h0
      exact ⟨_, [], rfl, .inl ⟨rfl, _, _, rfl⟩, (by intro k hk; cases hk)⟩
    · obtain ⟨k0, hk0, _⟩ := each 0 (by omega)
      have hz := hk0 0 _ rfl
      rw [Nat.zero_mul, Nat.zero_add] at hz
      have hza : a.add 0 = a := by unfold Addr.add; rw [if_pos rfl]
      rw [hza] at hz
      obtain ⟨b, o, rfl⟩ := spot_none hz
      have hb2 : b < w.heap.size := cell_lt hz
      haveI : Inhabited Ox.Key := ⟨⟨0, 0, false⟩⟩
      obtain ⟨f, hf⟩ := Go.Deep.choose_lt each
      refine ⟨_, (List.range len).map f, rfl, .inr ⟨b, o, cap, by simp, hb2, by simpa using hl, hm, fun j u hu => ?_⟩, ?_⟩
      · obtain ⟨i, t, hi, ht, hji, hu2⟩ := flat_get (m := 3) (fun k => rfl) (by decide) hu
        have hi' : i < len := by simpa using hi
        rw [List.getElem?_map, List.getElem?_range hi'] at ht
        simp only [Option.map_some, Option.some.injEq] at ht
        subst ht
        have := (hf i hi').1 _ u hu2
        rw [← hji] at this
        have ha : (⟨b, o, none⟩ : Addr).add j = ⟨b, o + j, none⟩ := by
          unfold Addr.add
          by_cases hj0 : j = 0
          · rw [if_pos hj0, hj0]; rfl
          · rw [if_neg hj0]
        rw [ha] at this
        exact this
      · intro k hk
        obtain ⟨i, hi, rfl⟩ := List.mem_map.1 hk
        exact (hf i (List.mem_range.1 hi)).2
theorem op_of {w : World} {base n : Nat} {sp : Nat → Bool} {held : Bool} {cs : List Value} {x : DataW H × List MemPlace} (h : DataW.trod enc Tryd.prog w base sp held n 39 cs = some x) :
    ∃ t : OV, cs = ocells t ∧ KAt w t.2 t.1.keys ∧ I64 t.1.vn := by
  obtain ⟨xs, m, rfl, hx, hlen, hxl, hf⟩ := DataW.trod_struct Tryd.underlying39 h
  rw [z_op] at hlen
  match xs, hxl, cs, hlen with
  | [y0, y1, y2, y3, y4, y5, y6], _, [c0, c1, c2, c3, c4, c5, c6, c7, c8], _ =>
    have g0 := hf 0 _ rfl
    have g1 := hf 1 _ rfl
    have g2 := hf 2 _ rfl
    have g3 := hf 3 _ rfl
    have g4 := hf 4 _ rfl
    have g5 := hf 5 _ rfl
    have g6 := hf 6 _ rfl
    simp [z_int, z_val, z_keys, cells_string] at g0 g1 g2 g3 g4 g5 g6
    obtain ⟨a0, e0, _, w0⟩ := DataW.trod_int Tryd.underlying3 g0
    obtain ⟨a1, e1, _, w1⟩ := DataW.trod_int Tryd.underlying3 g1
    obtain ⟨a2, e2, _, w2⟩ := DataW.trod_int Tryd.underlying3 g2
    obtain ⟨a3, e3, _, w3⟩ := DataW.trod_int Tryd.underlying3 g3
    obtain ⟨vk, vn, vs, e4, w4⟩ := val_of g4
    obtain ⟨kv, l, e5, hk, _⟩ := keys_of g5
    obtain ⟨nm, e6, _⟩ := DataW.trod_string Tryd.underlying9 g6
    simp only [List.cons.injEq, and_true] at e0 e1 e2 e3 e4 e5 e6
    obtain ⟨e40, e41, e42⟩ := e4
    subst e0 e1 e2 e3 e40 e41 e42 e5 e6
    refine ⟨(⟨a0, a1, a2, a3, vk, vn, Lx.ls vs, l, Lx.ls nm⟩, c7), ?_, hk, w4⟩
    unfold ocells
    simp only [Lx.bs_ls]
/-- The instructions that an argument reads as. -/
theorem ops_of {w : World} {base n : Nat} {sp : Nat → Bool} {held : Bool} {cs : List Value} {x : DataW H × List MemPlace} (h : DataW.trod enc Tryd.prog w base sp held n 25 cs = some x) :
    ∃ (v : Value) (L : List OV), cs = [v] ∧ OpsAt w v L ∧ (∀ p ∈ L, I64 p.1.vn) ∧ L.length ≤ maxLen := by
  rcases Go.Deep.open_slice Tryd.underlying25 h with ⟨rfl, _⟩ | ⟨a, len, cap, m, n', D, Pl, rfl, hb, hl, hm, hmm, rfl, hx⟩
  · exact ⟨_, [], rfl, ⟨(by intro p hp; cases hp), .inl ⟨rfl, _, _, rfl⟩⟩, (by intro p hp; cases hp), by simp⟩
  · have hlm : len ≤ m := by rw [hmm]; split <;> omega
    have each : ∀ i, i < len → ∃ t : OV, (∀ j u, (ocells t)[j]? = some u → w.cell? (a.add (i * 9 + j)) = some u) ∧ KAt w t.2 t.1.keys ∧ I64 t.1.vn := by
      intro i hi
      obtain ⟨cs', h1, h2⟩ := hx i (by omega)
      rw [z_op] at h1
      obtain ⟨_, hlen, hcell⟩ := World.cells?_some h1
      obtain ⟨t, rfl, hk, hv⟩ := op_of h2
      refine ⟨t, fun j u hu => ?_, hk, hv⟩
      have hj : j < 9 := by have := (List.getElem?_eq_some_iff.1 hu).1; simpa [ocells] using this
      have := hcell j hj
      rw [hu, Addr.add_add] at this
      exact this
    by_cases h0 : len = 0
    · subst h0
      exact ⟨_, [], rfl, ⟨(by intro p hp; cases hp), .inl ⟨rfl, _, _, rfl⟩⟩, (by intro p hp; cases hp), by simp⟩
    · obtain ⟨t0, hk0, _⟩ := each 0 (by omega)
      have hz := hk0 0 _ rfl
      rw [Nat.zero_mul, Nat.zero_add] at hz
      have hza : a.add 0 = a := by unfold Addr.add; rw [if_pos rfl]
      rw [hza] at hz
      obtain ⟨b, o, rfl⟩ := spot_none hz
      have hb2 : b < w.heap.size := cell_lt hz
      haveI : Inhabited OV := ⟨(Ox.op0 0, .bool false)⟩
      obtain ⟨f, hf⟩ := Go.Deep.choose_lt each
      refine ⟨_, (List.range len).map f, rfl, ⟨fun p hp => ?_, .inr ⟨b, o, cap, by simp, hb2, by simpa using hl, hm, fun j u hu => ?_⟩⟩, fun p hp => ?_, by simp; omega⟩
      · obtain ⟨i, hi, rfl⟩ := List.mem_map.1 hp
        exact (hf i (List.mem_range.1 hi)).2.1
      · obtain ⟨i, t, hi, ht, hji, hu2⟩ := flat_get (m := 9) (fun k => rfl) (by decide) hu
        have hi' : i < len := by simpa using hi
        rw [List.getElem?_map, List.getElem?_range hi'] at ht
        simp only [Option.map_some, Option.some.injEq] at ht
        subst ht
        have := (hf i hi').1 _ u hu2
        rw [← hji] at this
        have ha : (⟨b, o, none⟩ : Addr).add j = ⟨b, o + j, none⟩ := by
          unfold Addr.add
          by_cases hj0 : j = 0
          · rw [if_pos hj0, hj0]; rfl
          · rw [if_neg hj0]
        rw [ha] at this
        exact this
      · obtain ⟨i, hi, rfl⟩ := List.mem_map.1 hp
        exact (hf i (List.mem_range.1 hi)).2.2
end
/-- Too many for a look: the k-th and those behind it. -/
def greatL : List Ox.Op → Nat → Bool
  | [], _ => false
  | o :: r, k => decide (300 ≤ k) || decide (1000 < o.vs.length) || decide (200 < o.keys.length) || decide (500 < o.name.length) || greatL r (k + 1)
def Small (L : List OV) : Prop := L.length ≤ 300 ∧ ∀ p ∈ L, p.1.vs.length ≤ 1000 ∧ p.1.keys.length ≤ 200 ∧ p.1.name.length ≤ 500
theorem great_small : ∀ (l : List OV) (k : Nat), greatL (l.map (·.1)) k = false → (l = [] ∨ l.length + k ≤ 300) ∧ ∀ p ∈ l, p.1.vs.length ≤ 1000 ∧ p.1.keys.length ≤ 200 ∧ p.1.name.length ≤ 500
  | [], k, _ => ⟨.inl rfl, by intro p hp; cases hp⟩
  | p :: r, k, h => by
    rw [List.map_cons, greatL] at h
    simp only [Bool.or_eq_false_iff, decide_eq_false_iff_not] at h
    obtain ⟨⟨⟨⟨h1, h2⟩, h3⟩, h4⟩, h5⟩ := h
    obtain ⟨q1, q2⟩ := great_small r (k + 1) h5
    refine ⟨.inr ?_, fun q hq => ?_⟩
    · simp only [List.length_cons]
      rcases q1 with rfl | q1
      · simp; omega
      · omega
    · rcases List.mem_cons.1 hq with rfl | hq
      · exact ⟨by omega, by omega, by omega⟩
      · exact q2 q hq
theorem small_of {L : List OV} (h : greatL (L.map (·.1)) 0 = false) : Small L := by
  obtain ⟨q1, q2⟩ := great_small L 0 h
  refine ⟨?_, q2⟩
  rcases q1 with rfl | q1
  · simp
  · omega
theorem fits_small {L : List OV} (h : Small L) (hv : ∀ p ∈ L, I64 p.1.vn) : Fits L := fun p hp => by
  obtain ⟨a, b, c⟩ := h.2 p hp
  obtain ⟨d, e⟩ := hv p hp
  exact ⟨by omega, by omega, by omega, d, e⟩
theorem great_step {L : List OV} {k : Nat} {t : OV} (h : L[k]? = some t) : greatL ((L.map (·.1)).drop k) k = (decide (300 ≤ k) || decide (1000 < t.1.vs.length) || decide (200 < t.1.keys.length) || decide (500 < t.1.name.length) || greatL ((L.map (·.1)).drop (k + 1)) (k + 1)) := by
  obtain ⟨h1, h2⟩ := List.getElem?_eq_some_iff.1 h
  rw [List.drop_eq_getElem_cons (by simpa using h1), greatL]
  simp [h2]
set_option maxRecDepth 100000 in
set_option maxHeartbeats 4000000 in
theorem great_any (v : Value) (L : List OV) (w : World) (hat : OpsAt w v L) (hn : L.length ≤ maxLen) :
    Calls Tryd.prog 13 #[v] w fun e w' => e = .returned (.bool (greatL (L.map (·.1)) 0)) ∧ w = w' := by
  obtain ⟨R, hR⟩ : ∃ R, R = greatL (L.map (·.1)) 0 := ⟨_, rfl⟩
  rw [← hR]
  have HR : Hid (greatL ((L.map (·.1)).drop 0) 0 = R) := Lib.hid hR.symm
  obtain ⟨n, hnn⟩ : ∃ n, n = L.length := ⟨_, rfl⟩
  rw [← hnn] at hn
  have HN := Lib.hid hnn
  have HAT := Lib.hid hat
  simp only [maxLen] at hn
  obtain ⟨hk, hrow⟩ := hat
  rcases hrow with ⟨h0, a, c, rfl⟩ | ⟨b, off, c, rfl, hb, hc, hm, hx⟩
  · subst h0
    have hn0 : n = 0 := by rw [hnn]; rfl
    subst hn0
    have hRf : R = false := by rw [← HR.out]; rfl
    subst hRf
    clear hR hk hnn
    go_enter Tryd.func13, Tryd.ntmps13
    go_wp2
    refine wp_loop_rounds 1 ?_
    rw [rounds_succ]
    go_wp2
    go_ret
    exact ⟨rfl, rfl⟩
  · rw [← hnn] at hc
    rw [← hnn]
    have HX := Lib.hid hx
    clear hR hk hnn hx
    go_enter Tryd.func13, Tryd.ntmps13
    go_wp2
    go_loop [3] (fun i => ∃ k : Nat, k ≤ n ∧ i = .int .i64 k ∧ Hid (greatL ((L.map (·.1)).drop k) k = R)) (fun i => n - (intOf i).toNat)
    case atStart => exact ⟨0, by omega, rfl, HR⟩
    case round =>
      obtain ⟨k, hk, rfl, HK⟩ := hrel
      by_cases hlt : k < n
      · obtain ⟨t, ht⟩ : ∃ t, L[k]? = some t := ⟨_, List.getElem?_eq_getElem (by rw [← HN.out]; exact hlt)⟩
        have hcell : ∀ j u, j < 9 → (ocells t)[j]? = some u → w.cell? ⟨b, off + (k * 9 + j), none⟩ = some u := fun j u hj hu => HX.out _ _ ((oflat_at ht hj).trans hu)
        have hkat := HAT.out.1 t (List.mem_of_getElem? ht)
        have hst := great_step ht
        rw [HK.out] at hst
        obtain ⟨o, kv⟩ := t
        simp only at hst hkat
        have a6 : w.cell? ⟨b, off + k * 9 + 6, none⟩ = some (.string (Lx.bs o.vs)) := hcell 6 _ (by omega) rfl
        obtain ⟨ka, kc, rfl⟩ : ∃ ka kc, kv = .slice ka o.keys.length kc := by
          rcases hkat with ⟨h0, a, c, h⟩ | ⟨b, off, c, h, _⟩
          · exact ⟨a, c, by rw [h, h0]; rfl⟩
          · exact ⟨_, _, h⟩
        have a7 : w.cell? ⟨b, off + k * 9 + 7, none⟩ = some (.slice ka o.keys.length kc) := hcell 7 _ (by omega) rfl
        have a8 : w.cell? ⟨b, off + k * 9 + 8, none⟩ = some (.string (Lx.bs o.name)) := hcell 8 _ (by omega) rfl
        clear ht hcell hkat HK
        by_cases h1 : 300 ≤ k
        · have d1 : decide ((300 : Int) ≤ (k : Int)) = true := decide_eq_true (by omega)
          rw [decide_eq_true h1] at hst
          simp only [Bool.true_or] at hst
          subst hst
          clear h1
          go_wp2
          go_ret
          exact ⟨rfl, rfl⟩
        have d1 : decide ((300 : Int) ≤ (k : Int)) = false := decide_eq_false (by omega)
        rw [decide_eq_false h1, Bool.false_or] at hst
        by_cases h2 : 1000 < o.vs.length
        · have d2 : decide ((1000 : Int) < (o.vs.length : Int)) = true := decide_eq_true (by omega)
          rw [decide_eq_true h2] at hst
          simp only [Bool.true_or] at hst
          subst hst
          clear h2
          go_wp2
          go_ret
          exact ⟨rfl, rfl⟩
        have d2 : decide ((1000 : Int) < (o.vs.length : Int)) = false := decide_eq_false (by omega)
        rw [decide_eq_false h2, Bool.false_or] at hst
        by_cases h3 : 200 < o.keys.length
        · have d3 : decide ((200 : Int) < (o.keys.length : Int)) = true := decide_eq_true (by omega)
          rw [decide_eq_true h3] at hst
          simp only [Bool.true_or] at hst
          subst hst
          clear h3
          go_wp2
          go_ret
          exact ⟨rfl, rfl⟩
        have d3 : decide ((200 : Int) < (o.keys.length : Int)) = false := decide_eq_false (by omega)
        rw [decide_eq_false h3, Bool.false_or] at hst
        by_cases h4 : 500 < o.name.length
        · have d4 : decide ((500 : Int) < (o.name.length : Int)) = true := decide_eq_true (by omega)
          rw [decide_eq_true h4] at hst
          simp only [Bool.true_or] at hst
          subst hst
          clear h4
          go_wp2
          go_ret
          exact ⟨rfl, rfl⟩
        have d4 : decide ((500 : Int) < (o.name.length : Int)) = false := decide_eq_false (by omega)
        rw [decide_eq_false h4, Bool.false_or] at hst
        have HK' := Lib.hid hst.symm
        clear hst h1 h2 h3 h4
        go_wp2
        go_round
        case rel => exact ⟨k + 1, by omega, by go_num, HK'⟩
        case measure => simp [intOf]; omega
      · obtain rfl : k = n := by omega
        have hRf : R = false := by
          have h := HK.out
          rw [List.drop_eq_nil_of_le (by rw [List.length_map, ← HN.out]; omega)] at h
          exact h.symm
        subst hRf
        go_wp2
        go_ret
        exact ⟨rfl, rfl⟩
/-- A right instruction's line is short where its parts are small. -/
theorem num_4 {n : Int} (h0 : 0 ≤ n) (h : n < 10000) : (Ox.num n).length ≤ 4 := by
  unfold Ox.num
  rw [if_neg (by omega)]
  exact numN_len 3 _ (by have : (10 : Nat) ^ (3 + 1) = 10000 := rfl; omega)
theorem num_2 {n : Int} (h0 : 0 ≤ n) (h : n < 100) : (Ox.num n).length ≤ 2 := by
  unfold Ox.num
  rw [if_neg (by omega)]
  exact numN_len 1 _ (by have : (10 : Nat) ^ (1 + 1) = 100 := rfl; omega)
theorem line_short {o : Ox.Op} {many : Int} (hm : many ≤ 8192) (hr : Ox.right o many = true) (h1 : o.vs.length ≤ 1000) (h2 : o.name.length ≤ 500) (hv : I64 o.vn) : (Ox.line o).length ≤ 2900 := by
  obtain ⟨hc, hf⟩ := Ox.right_parts hr
  unfold Ox.formed at hf
  simp only [Bool.and_eq_true] at hf
  obtain ⟨⟨⟨⟨⟨f1, f2⟩, f3⟩, f4⟩, f5⟩, f6⟩ := hf
  have hN : ∀ (c : UInt8) (n : Int), Ox.within c n many = true → (Ox.partN c n).length ≤ 5 := by
    intro c n h
    have hn : 0 ≤ n ∧ n < 10000 := by
      unfold Ox.within at h
      (repeat' split at h) <;> simp only [Bool.and_eq_true, Bool.or_eq_true, decide_eq_true_eq] at h <;> omega
    have := num_4 hn.1 hn.2
    unfold Ox.partN
    split <;> simp; omega
  have n1 := hN _ _ f1
  have n2 := hN _ _ f2
  have n3 := hN _ _ f3
  have hV : (Ox.partV (Ox.at_ (Ox.form o.code) 3) o.vk o.vn o.vs).length ≤ 2004 := by
    have h3 := num_21 hv.1 hv.2
    have h4 := hex_len o.vs
    have : (Ox.valS o.vk o.vn o.vs).length ≤ 2003 := by
      unfold Ox.valS
      repeat' split
      all_goals (try simp)
      all_goals omega
    unfold Ox.partV
    split <;> simp; omega
  have hS : (Ox.partS (Ox.at_ (Ox.form o.code) 4) o.name).length ≤ 501 := by
    unfold Ox.partS
    split <;> simp; omega
  have hn : ((Ox.names[o.code.toNat]?).getD []).length ≤ 20 := by
    by_cases h : o.code.toNat < 34
    · obtain ⟨f, h1, h2⟩ := names_short ⟨o.code.toNat, h⟩
      simp only at h1
      rw [h1]; exact h2
    · rw [List.getElem?_eq_none (by show 34 ≤ _; omega)]; simp
  have hK : (Ox.keysS o.keys).length ≤ 320 := by
    have hk : ∀ l : List Ox.Key, (∀ k ∈ l, Ox.keyOk k = true) → (Ox.keysS l).length ≤ 5 * l.length := by
      intro l
      induction l with
      | nil => intro _; simp [Ox.keysS]
      | cons k r ih =>
        intro hl
        have i1 := ih (fun q hq => hl q (List.mem_cons_of_mem _ hq))
        have i2 := hl k List.mem_cons_self
        simp only [Ox.keyOk, Bool.and_eq_true, decide_eq_true_eq] at i2
        have i3 := num_2 i2.1.1.1 (by omega : k.col < 100)
        have e : Ox.keysS (k :: r) = (32 :: Ox.keyS k) ++ Ox.keysS r := rfl
        have i4 : (Ox.keyS k).length ≤ 4 := by
          unfold Ox.keyS
          simp only [List.length_append]
          split <;> split <;> simp <;> omega
        rw [e]
        simp only [List.length_append, List.length_cons]
        omega
    unfold Ox.keyed at f6
    split at f6
    · simp only [Bool.and_eq_true, List.all_eq_true, decide_eq_true_eq] at f6
      have := hk o.keys f6.1
      omega
    · have : o.keys = [] := List.eq_nil_of_length_eq_zero (by simpa using f6)
      rw [this]; simp [Ox.keysS]
  unfold Ox.line
  simp only [List.length_append]
  omega
/-- 'b = append(b, s...)': a text onto a row of bytes of the call's own. -/
theorem wpList_appS {P : Program} {ops : Array Oper} {rest : List Oper} {o : Oper} {a : Act} {Q : Exit → Act → World → Prop} (hgd : o.guard = none) (sl x : Operand) (t u e : TypeId)
    (ho : o.op = .call { callee := .builtin .append, args := #[sl, x], argTypes := #[t, u] })
    (ht : P.underlying t = some (.slice e)) (hu : P.underlying u = some .string) (hinfo : (P.info? e).map (fun i => (i.zero, i.size, i.bytes)) = some (some (.int .u8 0), 1, 1))
    (W : World) (base : Nat) (v : Value) (acc S : Ox.S) (hs : a.eval sl = v) (hown : W.ownsRow base e 1 v acc.length (acc.map fun c => .int .u8 (c.toNat : Int))) (hx : a.eval x = .string (Lx.bs S))
    (hn : acc.length + S.length ≤ 140737488355328) (hbase : base ≤ W.heap.size) (B : Nat) (hB : B ≤ base)
    (h : ∀ v' w', w'.ownsRow base e 1 v' (acc ++ S).length ((acc ++ S).map fun c => .int .u8 (c.toNat : Int)) → Below B W w' → wpList P ops Q rest (a.put o.dst v') w') :
    wpList P ops Q (o :: rest) a W := by
  obtain ⟨i, hi, hz, h2, h3⟩ := info_of hinfo
  refine Go.Lib.wpList_append_own_string W hgd sl x t u ho base e i ht hu hi hz h2 h3 v acc.length _ hs hown (Lx.bs S) hx (by rw [Lx.bs_size]; simp only [maxLen]; omega) (by rw [Lx.bs_size]; exact hn) hbase ?_
  intro v' w' hown' hg _
  refine h v' w' ?_ (own_below hown hg hB hbase)
  have e1 : Go.Lib.strCells (Lx.bs S) = S.map fun c => .int .u8 (c.toNat : Int) := by simp [Go.Lib.strCells, Lx.bs]
  rw [e1, Lx.bs_size] at hown'
  rw [List.length_append, List.map_append]
  exact hown'
theorem regN_top {o : Ox.Op} {many N : Int} (hr : Ox.right o many = true) (hN : 0 ≤ N) : regN N o = mx N (rtop o) := by
  obtain ⟨hc, hf⟩ := Ox.right_parts hr
  obtain ⟨code, p1, p2, p3, vk, vn, vs, keys, name⟩ := o
  unfold Ox.coded at hc
  simp only [Bool.and_eq_true, decide_eq_true_eq] at hc
  have hpb := regP_pos hf
  unfold Ox.formed at hf
  simp only [Bool.and_eq_true] at hf
  obtain ⟨⟨⟨⟨⟨f1, f2⟩, f3⟩, f4⟩, f5⟩, f6⟩ := hf
  by_cases hs : Ox.sevC code = true
  · have h6 : code = 10 ∨ code = 11 ∨ code = 12 ∨ code = 13 ∨ code = 27 ∨ code = 28 := by
      unfold Ox.sevC at hs
      simp only [Bool.or_eq_true, decide_eq_true_eq] at hs
      omega
    have e2 : rtop ⟨code, p1, p2, p3, vk, vn, vs, keys, name⟩ = p3 + vn := by simp [rtop, hs]
    have h4 : 1 ≤ vn ∧ 0 ≤ p3 := by
      have h3 : Ox.at_ (Ox.form code) 3 = 109 ∧ Ox.at_ (Ox.form code) 2 = 114 := by
        rcases h6 with rfl | rfl | rfl | rfl | rfl | rfl <;> exact ⟨rfl, rfl⟩
      rw [h3.1] at f4
      rw [h3.2] at f3
      simp [Ox.valued, Ox.within] at f4 f3
      omega
    have e1 : regN N ⟨code, p1, p2, p3, vk, vn, vs, keys, name⟩ = mx (mx N (p3 + 1)) (p3 + vn) := by
      rcases h6 with rfl | rfl | rfl | rfl | rfl | rfl <;> rfl
    rw [e1, e2]
    unfold mx
    repeat' split
    all_goals omega
  · have hs' : Ox.sevC code = false := by simpa using hs
    by_cases h33 : code = 33
    · subst h33
      have e1 : regN N ⟨33, p1, p2, p3, vk, vn, vs, keys, name⟩ = mx (mx (mx (mx N (p1 + 1)) (p3 + 1)) (p1 + vn)) (p3 + vn) := rfl
      have e2 : rtop ⟨33, p1, p2, p3, vk, vn, vs, keys, name⟩ = mx p1 p3 + vn := rfl
      rw [show Ox.at_ (Ox.form 33) 3 = 109 from rfl] at f4
      simp [Ox.valued] at f4
      rw [e1, e2]
      unfold mx
      repeat' split
      all_goals omega
    by_cases h18 : code = 18
    · subst h18
      have e1 : regN N ⟨18, p1, p2, p3, vk, vn, vs, keys, name⟩ = mx (mx (mx N (p1 + 1)) (p2 + 1)) (p1 + p3) := rfl
      have e2 : rtop ⟨18, p1, p2, p3, vk, vn, vs, keys, name⟩ = mx (p2 + 1) (mx (p1 + p3) (p1 + 1)) := rfl
      rw [e1, e2]
      unfold mx
      repeat' split
      all_goals omega
    by_cases h20 : code = 20
    · subst h20
      have e1 : regN N ⟨20, p1, p2, p3, vk, vn, vs, keys, name⟩ = mx (mx N (p1 + 1)) (p1 + p2) := rfl
      have e2 : rtop ⟨20, p1, p2, p3, vk, vn, vs, keys, name⟩ = mx (p1 + 1) (p1 + p2) := rfl
      rw [e1, e2]
      unfold mx
      repeat' split
      all_goals omega
    by_cases h22 : code = 22
    · subst h22
      have e1 : regN N ⟨22, p1, p2, p3, vk, vn, vs, keys, name⟩ = mx (mx N (p2 + 1)) (p2 + p3) := rfl
      have e2 : rtop ⟨22, p1, p2, p3, vk, vn, vs, keys, name⟩ = mx (p2 + 1) (p2 + p3) := rfl
      rw [e1, e2]
      unfold mx
      repeat' split
      all_goals omega
    have e : Ox.several ⟨code, p1, p2, p3, vk, vn, vs, keys, name⟩ = ([], 0) := by simp [Ox.several, hs', h33, h18, h20, h22]
    have e2 : rtop ⟨code, p1, p2, p3, vk, vn, vs, keys, name⟩ = regP (Ox.shape code) ⟨code, p1, p2, p3, vk, vn, vs, keys, name⟩ 0 3 := by simp [rtop, hs', h33, h18, h20, h22]
    have e1 : regN N ⟨code, p1, p2, p3, vk, vn, vs, keys, name⟩ = regP (Ox.form code) ⟨code, p1, p2, p3, vk, vn, vs, keys, name⟩ N 3 := by
      unfold regN
      rw [e]
      rfl
    have hlet : ∀ j, j < 3 → ((Ox.at_ (Ox.shape code) j).toNat = 114 ↔ (Ox.at_ (Ox.form code) j).toNat = 114) := by
      intro j hj
      have hl := letters ⟨code.toNat, by omega⟩ ⟨j, by omega⟩
      simp only at hl
      have hcc : ((code.toNat : Nat) : Int) = code := by omega
      rw [hcc] at hl
      unfold pairOk at hl
      rw [if_pos hj] at hl
      simp only [List.contains_cons, List.contains_nil, Bool.or_false, Bool.or_eq_true, beq_iff_eq, Prod.mk.injEq] at hl
      omega
    have hgo : ∀ j, j ≤ 3 → regP (Ox.form code) ⟨code, p1, p2, p3, vk, vn, vs, keys, name⟩ N j = mx N (regP (Ox.shape code) ⟨code, p1, p2, p3, vk, vn, vs, keys, name⟩ 0 j) := by
      intro j
      induction j with
      | zero => intro _; simp only [regP]; unfold mx; split <;> omega
      | succ j ih =>
        intro hj
        rw [regP, regP, ih (by omega)]
        by_cases h : (Ox.at_ (Ox.form code) j).toNat = 114
        · rw [if_pos h, if_pos ((hlet j (by omega)).2 h)]
          unfold mx
          repeat' split
          all_goals omega
        · rw [if_neg h, if_neg (fun h2 => h ((hlet j (by omega)).1 h2))]
    rw [e1, e2, hgo 3 (by decide)]
set_option maxRecDepth 100000 in
set_option maxHeartbeats 4000000 in
theorem opPrint_any (v : Value) (L : List OV) (w : World) (hl : Laid w) (hat : OpsAt w v L) (hfit : Fits L) (hn : L.length ≤ 1000000) :
    Calls Tryd.prog 18 #[v] w fun e w' => e = .returned (.string (Lx.bs (Ox.print (L.map (·.1))))) ∧ Below w.heap.size w w' := by
  obtain ⟨n, hnn⟩ : ∃ n, n = L.length := ⟨_, rfl⟩
  obtain ⟨ck, hck⟩ : ∃ ck, ck = Ox.check (L.map (·.1)) := ⟨_, rfl⟩
  obtain ⟨T, hT⟩ : ∃ T, T = Ox.print (L.map (·.1)) := ⟨_, rfl⟩
  rw [← hT]
  rw [← hnn] at hn
  have HN := Lib.hid hnn
  have HAT := Lib.hid hat
  have HF := Lib.hid hfit
  have HCK := Lib.hid hck
  have HL := Lib.hid hl
  have hL1 : L.length ≤ 1000000 := by rw [← hnn]; exact hn
  have HL1 := Lib.hid hL1
  by_cases h0 : ck = 0
  · have dck : (ck != 0) = false := by rw [h0]; rfl
    have hall : ∀ p ∈ L, Ox.right p.1 (n : Int) = true := by
      rw [h0] at hck
      have h := (Ox.check_all hck.symm).2
      intro p hp
      have := h p.1 (List.mem_map_of_mem hp)
      rw [hnn]; simpa using this
    have hn8 : n ≤ 8192 := by
      rw [h0] at hck
      have := (Ox.check_all hck.symm).1
      simpa [hnn] using this
    have hTl : T = Ox.lines (L.map (·.1)) := by rw [hT, Ox.print, if_pos (by rw [← hck]; exact h0)]
    have HT : Hid (Ox.lines ((L.map (·.1)).drop 0) = T) := Lib.hid (by rw [hTl]; rfl)
    have HALL := Lib.hid hall
    obtain ⟨hk, hrow⟩ := hat
    rcases hrow with ⟨hL0, a, c, rfl⟩ | ⟨b, off, c, rfl, hb, hc, hm, hx⟩
    · subst hL0
      have hTf : T = [] := by rw [hTl]; rfl
      subst hTf
      clear hT hk hfit hnn hck h0 hall hTl hl hL1
      go_enter Tryd.func18, Tryd.ntmps18
      go_wp2_with fail
      refine (opCheck_any _ [] _ HL.out HAT.out HF.out (by simp)).mono ?_
      rintro e w1 ⟨rfl, hb1⟩
      rw [← HCK.out]
      go_wp2
      have hback := back_own (P := Tryd.prog) (l := []) Tryd.underlying62 Tryd.underlying5 Tryd.underlying9 (World.ownsRow_nil w1 0 5 1)
      refine wp_loop_rounds 1 ?_
      rw [rounds_succ]
      go_wp2
      go_ret
      exact ⟨rfl, hb1⟩
    · rw [← hnn] at hc HAT
      rw [← hnn]
      have HX := Lib.hid hx
      clear hT hk hfit hnn hx hck h0 hall hTl hl hL1
      go_enter Tryd.func18, Tryd.ntmps18
      go_wp2_with fail
      refine (opCheck_any _ L _ HL.out HAT.out HF.out HL1.out).mono ?_
      rintro e w1 ⟨rfl, hb1⟩
      rw [← HCK.out]
      go_wp2
      go_loopw [3, 5, 11] (fun bv _ i wr => ∃ (k : Nat) (acc : Ox.S), k ≤ n ∧ i = .int .i64 k ∧ acc.length ≤ 6000001 * k ∧ wr.ownsRow w.heap.size 5 1 bv acc.length (acc.map fun c => .int .u8 (c.toNat : Int)) ∧ Below w.heap.size w wr ∧ Hid (acc ++ Ox.lines ((L.map (·.1)).drop k) = T)) (fun _ _ i _ => n - (intOf i).toNat)
      case atStart => exact ⟨0, [], by omega, rfl, by simp, World.ownsRow_nil _ _ _ _, hb1, HT⟩
      case round =>
        obtain ⟨k, acc, hk, rfl, hal, hown, hbw, HK⟩ := hrel
        by_cases hlt : k < n
        · obtain ⟨t, ht⟩ : ∃ t, L[k]? = some t := ⟨_, List.getElem?_eq_getElem (by rw [← HN.out]; exact hlt)⟩
          have hcell : ∀ j u, j < 9 → (ocells t)[j]? = some u → wr.cell? ⟨b, off + (k * 9 + j), none⟩ = some u := fun j u hj hu => (hbw.cell (p := ⟨b, off + (k * 9 + j), none⟩) hb).trans (HX.out _ _ ((oflat_at ht hj).trans hu))
          have hkat := kat_keep (HAT.out.1 t (List.mem_of_getElem? ht)) hbw
          have hfit := HF.out t (List.mem_of_getElem? ht)
          have hmem := List.mem_of_getElem? ht
          have hdrop : (L.map (·.1)).drop k = t.1 :: (L.map (·.1)).drop (k + 1) := by
            obtain ⟨h1, h2⟩ := List.getElem?_eq_some_iff.1 ht
            rw [List.drop_eq_getElem_cons (by simpa using h1)]
            simp [h2]
          obtain ⟨o, kv⟩ := t
          simp only at hkat hfit hdrop
          obtain ⟨ka, kn, kc, rfl⟩ := kat_form hkat
          have a0 : wr.cell? ⟨b, off + k * 9, none⟩ = some (.int .i64 o.code) := hcell 0 _ (by omega) rfl
          have a1 : wr.cell? ⟨b, off + k * 9 + 1, none⟩ = some (.int .i64 o.p1) := hcell 1 _ (by omega) rfl
          have a2 : wr.cell? ⟨b, off + k * 9 + 2, none⟩ = some (.int .i64 o.p2) := hcell 2 _ (by omega) rfl
          have a3 : wr.cell? ⟨b, off + k * 9 + 3, none⟩ = some (.int .i64 o.p3) := hcell 3 _ (by omega) rfl
          have a4 : wr.cell? ⟨b, off + k * 9 + 4, none⟩ = some (.int .i64 o.vk) := hcell 4 _ (by omega) rfl
          have a5 : wr.cell? ⟨b, off + k * 9 + 5, none⟩ = some (.int .i64 o.vn) := hcell 5 _ (by omega) rfl
          have a6 : wr.cell? ⟨b, off + k * 9 + 6, none⟩ = some (.string (Lx.bs o.vs)) := hcell 6 _ (by omega) rfl
          have a7 : wr.cell? ⟨b, off + k * 9 + 7, none⟩ = some (.slice ka kn kc) := hcell 7 _ (by omega) rfl
          have a8 : wr.cell? ⟨b, off + k * 9 + 8, none⟩ = some (.string (Lx.bs o.name)) := hcell 8 _ (by omega) rfl
          have hbwr : b < wr.heap.size := Nat.lt_of_lt_of_le hb hbw.size
          have hrt := HALL.out _ hmem
          simp only at hrt
          obtain ⟨hco, hfo⟩ := Ox.right_parts hrt
          have hof := fit_right (by omega) hrt hfit
          have hll := line_len hof
          have hlw := laid_keep HL.out hbw
          have HK' : Hid (acc ++ (Ox.line o) ++ [10] ++ Ox.lines ((L.map (·.1)).drop (k + 1)) = T) := Lib.hid (by have h := HK.out; rw [hdrop] at h; rw [← h]; simp [Ox.lines])
          have hba := below_al (Below.refl wr.heap.size wr) (.cells #[.int .i64 o.code, .int .i64 o.p1, .int .i64 o.p2, .int .i64 o.p3, .int .i64 o.vk, .int .i64 o.vn, .string (Lx.bs o.vs), .slice ka kn kc, .string (Lx.bs o.name)] 39)
          have hlw2 := laid_keep hlw hba
          have hkat2 := kat_keep hkat hba
          have hown2 := own_next hown hba
          have hbw2 := below_next hbw hba
          have HCO := Lib.hid hco
          have HOF := Lib.hid hof
          have HLW := Lib.hid hlw2
          have HKAT := Lib.hid hkat2
          have HOWN := Lib.hid hown2
          have HBW := Lib.hid hbw2
          obtain ⟨va, vc, rfl⟩ := own_form hown
          clear ht hcell hdrop HK hmem hrt hco hfo hof hfit hlw hba hlw2 hkat2 hown2 hbw2 hown hkat
          go_wp2_with fail
          refine (line_any o (.slice ka kn kc) _ HLW.out HKAT.out HCO.out HOF.out).mono ?_
          rintro e w2 ⟨rfl, hb2⟩
          have hown3 := own_next HOWN.out hb2
          have hB3 := below_next HBW.out hb2
          obtain ⟨Y, hY⟩ : ∃ Y, Y = Ox.line o := ⟨_, rfl⟩
          rw [← hY] at hll HK' ⊢
          have hszw : w.heap.size ≤ w2.heap.size := hB3.size
          clear hY hb2
          go_wp2_with (at_builtin; first | (refine wpList_appS rfl (.tmp 15) (.tmp 17) 62 9 5 rfl Tryd.underlying62 Tryd.underlying9 uint8_info w2 w.heap.size _ acc Y rfl hown3 rfl (by omega) hszw w.heap.size (Nat.le_refl _) ?_; intro v4 w4 hown4 hb4; obtain ⟨A2, hA2⟩ : ∃ A2, A2 = acc ++ Y := ⟨_, rfl⟩; rw [← hA2] at hown4; obtain ⟨va4, vc4, rfl⟩ := own_form hown4; have hB4 := hB3.trans hb4; have hszw4 : w.heap.size ≤ w4.heap.size := hB4.size; have hal4 : A2.length ≤ 6000001 * (k + 1) - 1 := (by rw [hA2, List.length_append]; omega); have HA2 := Lib.hid hA2; clear hA2) | (refine wpList_app1 rfl (.tmp 18) (.tmp 19) 62 5 rfl Tryd.underlying62 uint8_info rfl (by decide) _ _ rfl (by intro u hu; simp at hu; subst hu; rfl) w.heap.size _ _ _ rfl hown4 rfl (by simp only [maxLen]; omega) (by omega) hszw4 w.heap.size (Nat.le_refl _) ?_; intro v5 w5 hown5 hb5))
          go_roundw
          case rel => exact ⟨k + 1, A2 ++ [10], by omega, by go_num, by simp only [List.length_append, List.length_cons, List.length_nil]; omega, by simpa using hown5, hB4.trans hb5, by rw [HA2.out]; exact HK'⟩
          case measure => simp [intOf]; omega
        · obtain rfl : k = n := by omega
          have hTf : acc = T := by rw [← HK.out, List.drop_eq_nil_of_le (by rw [List.length_map, ← HN.out]; omega)]; simp [Ox.lines]
          subst hTf
          have hback := back_own (P := Tryd.prog) Tryd.underlying62 Tryd.underlying5 Tryd.underlying9 hown
          go_wp2
          go_ret
          exact ⟨rfl, hbw⟩
  · have hTe : T = [] := by rw [hT, Ox.print, if_neg (by rw [← hck]; exact h0)]
    subst hTe
    have dck : (ck != 0) = true := by simpa using h0
    clear hT hfit hnn hck h0 hl hL1 hat
    go_enter Tryd.func18, Tryd.ntmps18
    go_wp2_with fail
    refine (opCheck_any _ L _ HL.out HAT.out HF.out HL1.out).mono ?_
    rintro e w1 ⟨rfl, hb1⟩
    rw [← HCK.out]
    go_wp2
    go_ret
    exact ⟨rfl, hb1⟩
theorem regs_fold : ∀ (l : List Ox.Op) (many N : Int), (∀ o ∈ l, Ox.right o many = true) → 0 ≤ N → l.foldl regN N = l.foldl (fun m o => mx m (rtop o)) N
  | [], _, _, _, _ => rfl
  | o :: r, many, N, h, hN => by
    rw [List.foldl_cons, List.foldl_cons, regN_top (h o List.mem_cons_self) hN]
    exact regs_fold r many _ (fun q hq => h q (List.mem_cons_of_mem _ hq)) (by unfold mx; split <;> omega)
set_option maxRecDepth 100000 in
set_option maxHeartbeats 4000000 in
theorem rRegs_any (v : Value) (L : List OV) (w : World) (hat : OpsAt w v L) (hfit : Fits L) (hn : L.length ≤ 1000000) :
    Calls Tryd.prog 17 #[v] w fun e w' => e = .returned (.int .i64 (regs (L.map (·.1)))) ∧ Below w.heap.size w w' := by
  obtain ⟨n, hnn⟩ : ∃ n, n = L.length := ⟨_, rfl⟩
  obtain ⟨ck, hck⟩ : ∃ ck, ck = Ox.check (L.map (·.1)) := ⟨_, rfl⟩
  obtain ⟨T, hT⟩ : ∃ T, T = regs (L.map (·.1)) := ⟨_, rfl⟩
  rw [← hT]
  rw [← hnn] at hn
  have HN := Lib.hid hnn
  have HAT := Lib.hid hat
  have HF := Lib.hid hfit
  have HCK := Lib.hid hck
  obtain ⟨hk, hrow⟩ := hat
  rcases hrow with ⟨h0, a, c, rfl⟩ | ⟨b, off, c, rfl, hb, hc, hm, hx⟩
  · subst h0
    have hn0 : n = 0 := by rw [hnn]; rfl
    subst hn0
    have hTf : T = 0 := by rw [hT]; rfl
    subst hTf
    clear hT hk hfit hnn hck
    go_enter Tryd.func17, Tryd.ntmps17
    go_wp2
    refine wp_loop_rounds 1 ?_
    rw [rounds_succ]
    go_wp2
    go_ret
    exact ⟨rfl, Below.refl _ _⟩
  · rw [← hnn] at hc HAT
    rw [← hnn]
    by_cases h0 : ck = 0
    · have hall : ∀ p ∈ L, Ox.right p.1 (n : Int) = true := by
        rw [h0] at hck
        have h := (Ox.check_all hck.symm).2
        intro p hp
        have := h p.1 (List.mem_map_of_mem hp)
        rw [hnn]; simpa using this
      have hTl : T = (L.map (·.1)).foldl (fun m o => mx m (rtop o)) 0 := by
        rw [hT, regs, if_pos (by rw [← hck]; exact h0)]
        refine regs_fold _ (n : Int) 0 (fun o ho => ?_) (by omega)
        obtain ⟨p, hp, rfl⟩ := List.mem_map.1 ho
        exact hall p hp
      have HT : Hid (((L.map (·.1)).drop 0).foldl (fun m o => mx m (rtop o)) 0 = T) := Lib.hid hTl.symm
      have HALL := Lib.hid hall
      have dck : (ck == 0) = true := by rw [h0]; rfl
      have HX := Lib.hid hx
      clear hT hk hfit hnn hx hck h0 hall hTl
      go_enter Tryd.func17, Tryd.ntmps17
      go_wp2
      go_loopw [3, 4] (fun sv i wr => ∃ (k : Nat) (M : Int), k ≤ n ∧ i = .int .i64 k ∧ sv = .int .i64 M ∧ 0 ≤ M ∧ M ≤ 1024 ∧ Below w.heap.size w wr ∧ Hid (((L.map (·.1)).drop k).foldl (fun m o => mx m (rtop o)) M = T)) (fun _ i _ => n - (intOf i).toNat)
      case atStart => exact ⟨0, 0, by omega, rfl, rfl, by omega, by omega, Below.refl _ _, HT⟩
      case round =>
        obtain ⟨k, M, hk, rfl, rfl, hM0, hM1, hbw, HK⟩ := hrel
        by_cases hlt : k < n
        · obtain ⟨t, ht⟩ : ∃ t, L[k]? = some t := ⟨_, List.getElem?_eq_getElem (by rw [← HN.out]; exact hlt)⟩
          have hcell : ∀ j u, j < 9 → (ocells t)[j]? = some u → wr.cell? ⟨b, off + (k * 9 + j), none⟩ = some u := fun j u hj hu => (hbw.cell (p := ⟨b, off + (k * 9 + j), none⟩) hb).trans (HX.out _ _ ((oflat_at ht hj).trans hu))
          have hkat := kat_keep (HAT.out.1 t (List.mem_of_getElem? ht)) hbw
          have hfit := HF.out t (List.mem_of_getElem? ht)
          have hmem := List.mem_of_getElem? ht
          have hdrop : (L.map (·.1)).drop k = t.1 :: (L.map (·.1)).drop (k + 1) := by
            obtain ⟨h1, h2⟩ := List.getElem?_eq_some_iff.1 ht
            rw [List.drop_eq_getElem_cons (by simpa using h1)]
            simp [h2]
          obtain ⟨o, kv⟩ := t
          simp only at hkat hfit hdrop
          obtain ⟨ka, kn, kc, rfl⟩ := kat_form hkat
          have a0 : wr.cell? ⟨b, off + k * 9, none⟩ = some (.int .i64 o.code) := hcell 0 _ (by omega) rfl
          have a1 : wr.cell? ⟨b, off + k * 9 + 1, none⟩ = some (.int .i64 o.p1) := hcell 1 _ (by omega) rfl
          have a2 : wr.cell? ⟨b, off + k * 9 + 2, none⟩ = some (.int .i64 o.p2) := hcell 2 _ (by omega) rfl
          have a3 : wr.cell? ⟨b, off + k * 9 + 3, none⟩ = some (.int .i64 o.p3) := hcell 3 _ (by omega) rfl
          have a4 : wr.cell? ⟨b, off + k * 9 + 4, none⟩ = some (.int .i64 o.vk) := hcell 4 _ (by omega) rfl
          have a5 : wr.cell? ⟨b, off + k * 9 + 5, none⟩ = some (.int .i64 o.vn) := hcell 5 _ (by omega) rfl
          have a6 : wr.cell? ⟨b, off + k * 9 + 6, none⟩ = some (.string (Lx.bs o.vs)) := hcell 6 _ (by omega) rfl
          have a7 : wr.cell? ⟨b, off + k * 9 + 7, none⟩ = some (.slice ka kn kc) := hcell 7 _ (by omega) rfl
          have a8 : wr.cell? ⟨b, off + k * 9 + 8, none⟩ = some (.string (Lx.bs o.name)) := hcell 8 _ (by omega) rfl
          have hbwr : b < wr.heap.size := Nat.lt_of_lt_of_le hb hbw.size
          have hrt := HALL.out _ hmem
          simp only at hrt
          obtain ⟨hco, hfo⟩ := Ox.right_parts hrt
          have hco2 := hco
          unfold Ox.coded at hco2
          simp only [Bool.and_eq_true, decide_eq_true_eq] at hco2
          obtain ⟨cd, hcd⟩ : ∃ cd : Nat, o.code = (cd : Int) := ⟨o.code.toNat, by omega⟩
          have hcd34 : cd < 34 := by omega
          obtain ⟨⟨b1, b2⟩, ⟨b3, b4⟩, b5, b6⟩ := formed_bounds (by omega) hfo
          have hvn := formed_vn cd hcd hfo
          have htop : rtop o ≤ 1024 := by
            have h := right_top hco hfo
            unfold Ox.right at hrt
            simp only [Bool.and_eq_true] at hrt
            rw [hrt.2] at h
            exact of_decide_eq_true h.symm
          have HK' : Hid (((L.map (·.1)).drop (k + 1)).foldl (fun m o => mx m (rtop o)) (mx M (rtop o)) = T) := Lib.hid (by have h := HK.out; rw [hdrop] at h; exact h)
          rw [hcd] at a0
          have HCD := Lib.hid hcd
          have HVN := Lib.hid hvn
          clear ht hcell hdrop HK hmem hrt hco hfo hfit hcd hvn hco2
          go_wp2_with fail
          refine (rCheck_any _ L _ (ops_keep HAT.out hbw) HF.out (by rw [← HN.out]; exact hn)).mono ?_
          rintro e w1 ⟨rfl, hb1⟩
          rw [← HCK.out]
          have hB1 := below_next (w := w) hbw hb1
          have e0 : w1.cell? ⟨b, off + k * 9, none⟩ = some (.int .i64 (cd : Int)) := (hb1.cell (p := ⟨b, off + k * 9, none⟩) hbwr).trans a0
          have e1 : w1.cell? ⟨b, off + k * 9 + 1, none⟩ = some (.int .i64 o.p1) := (hb1.cell (p := ⟨b, off + k * 9 + 1, none⟩) hbwr).trans a1
          have e2 : w1.cell? ⟨b, off + k * 9 + 2, none⟩ = some (.int .i64 o.p2) := (hb1.cell (p := ⟨b, off + k * 9 + 2, none⟩) hbwr).trans a2
          have e3 : w1.cell? ⟨b, off + k * 9 + 3, none⟩ = some (.int .i64 o.p3) := (hb1.cell (p := ⟨b, off + k * 9 + 3, none⟩) hbwr).trans a3
          have e4 : w1.cell? ⟨b, off + k * 9 + 4, none⟩ = some (.int .i64 o.vk) := (hb1.cell (p := ⟨b, off + k * 9 + 4, none⟩) hbwr).trans a4
          have e5 : w1.cell? ⟨b, off + k * 9 + 5, none⟩ = some (.int .i64 o.vn) := (hb1.cell (p := ⟨b, off + k * 9 + 5, none⟩) hbwr).trans a5
          have e6 : w1.cell? ⟨b, off + k * 9 + 6, none⟩ = some (.string (Lx.bs o.vs)) := (hb1.cell (p := ⟨b, off + k * 9 + 6, none⟩) hbwr).trans a6
          have e7 : w1.cell? ⟨b, off + k * 9 + 7, none⟩ = some (.slice ka kn kc) := (hb1.cell (p := ⟨b, off + k * 9 + 7, none⟩) hbwr).trans a7
          have e8 : w1.cell? ⟨b, off + k * 9 + 8, none⟩ = some (.string (Lx.bs o.name)) := (hb1.cell (p := ⟨b, off + k * 9 + 8, none⟩) hbwr).trans a8
          clear a0 a1 a2 a3 a4 a5 a6 a7 a8
          go_wp2_with fail
          refine (rTop_any o (.slice ka kn kc) _ ka kn kc rfl cd hcd34 HCD.out b1 b2 b3 b4 b5 b6 HVN.out).mono ?_
          rintro e w2 ⟨rfl, hb2⟩
          have hB2 := below_next hB1 hb2
          obtain ⟨tp, htp⟩ : ∃ tp, tp = rtop o := ⟨_, rfl⟩
          rw [← htp] at htop HK' ⊢
          clear htp
          go_wp2
          go_roundw
          case rel => exact ⟨k + 1, mx M tp, by omega, by go_num, rfl, by unfold mx; split <;> omega, by unfold mx; split <;> omega, hB2, HK'⟩
          case measure => simp [intOf]; omega
        · obtain rfl : k = n := by omega
          have hTf : M = T := by rw [← HK.out, List.drop_eq_nil_of_le (by rw [List.length_map, ← HN.out]; omega)]; rfl
          subst hTf
          go_wp2
          go_ret
          exact ⟨rfl, hbw⟩
    · have hTe : T = 0 := by rw [hT, regs, if_neg (by rw [← hck]; exact h0)]
      subst hTe
      have dck : (ck == 0) = false := by simpa using h0
      have hn0 : 0 < n := by
        rcases Nat.eq_zero_or_pos n with hz | hz
        · exfalso
          apply h0
          rw [hck]
          have : L = [] := List.eq_nil_of_length_eq_zero (by omega)
          rw [this]; rfl
        · exact hz
      clear hT hk hfit hnn hx hck h0
      go_enter Tryd.func17, Tryd.ntmps17
      go_wp2
      refine wp_loop_rounds 1 ?_
      rw [rounds_succ]
      go_wp2_with fail
      refine (rCheck_any _ L _ HAT.out HF.out (by rw [← HN.out]; exact hn)).mono ?_
      rintro e w1 ⟨rfl, hb1⟩
      rw [← HCK.out]
      go_wp2
      go_ret
      exact ⟨rfl, hb1⟩
theorem kat_len {w : World} {v : Value} {l : List Ox.Key} (h : KAt w v l) : ∃ a c, v = .slice a l.length c := by
  rcases h with ⟨h0, a, c, h⟩ | ⟨b, off, c, h, _⟩
  · exact ⟨a, c, by rw [h, h0]; rfl⟩
  · exact ⟨_, _, h⟩
set_option maxRecDepth 100000 in
set_option maxHeartbeats 4000000 in
theorem rSame_eq (o : Ox.Op) (kv1 kv2 : Value) (w : World) (h1 : KAt w kv1 o.keys) (h2 : KAt w kv2 o.keys) :
    Calls Tryd.prog 32 #[.agg #[.int .i64 o.code, .int .i64 o.p1, .int .i64 o.p2, .int .i64 o.p3, .int .i64 o.vk, .int .i64 o.vn, .string (Lx.bs o.vs), kv1, .string (Lx.bs o.name)], .agg #[.int .i64 o.code, .int .i64 o.p1, .int .i64 o.p2, .int .i64 o.p3, .int .i64 o.vk, .int .i64 o.vn, .string (Lx.bs o.vs), kv2, .string (Lx.bs o.name)]] w fun e w' => e = .returned (.bool true) ∧ Below w.heap.size w w' := by
  obtain ⟨a1, c1, rfl⟩ := kat_len h1
  obtain ⟨a2, c2, rfl⟩ := kat_len h2
  obtain ⟨n, hn⟩ : ∃ n, n = o.keys.length := ⟨_, rfl⟩
  rw [← hn] at h1 h2 ⊢
  have HN := Lib.hid hn
  have H1 := Lib.hid h1
  have H2 := Lib.hid h2
  clear h1 h2 hn
  go_enter Tryd.func32, Tryd.ntmps32
  have hbo : Below w.heap.size w ((w.alloc (.cells #[.int .i64 o.code, .int .i64 o.p1, .int .i64 o.p2, .int .i64 o.p3, .int .i64 o.vk, .int .i64 o.vn, .string (Lx.bs o.vs), .slice a1 n c1, .string (Lx.bs o.name)] 39)).alloc (.cells #[.int .i64 o.code, .int .i64 o.p1, .int .i64 o.p2, .int .i64 o.p3, .int .i64 o.vk, .int .i64 o.vn, .string (Lx.bs o.vs), .slice a2 n c2, .string (Lx.bs o.name)] 39)) := below_al (below_al (Below.refl _ _) _) _
  have y1 : ((w.alloc (.cells #[.int .i64 o.code, .int .i64 o.p1, .int .i64 o.p2, .int .i64 o.p3, .int .i64 o.vk, .int .i64 o.vn, .string (Lx.bs o.vs), .slice a1 n c1, .string (Lx.bs o.name)] 39)).alloc (.cells #[.int .i64 o.code, .int .i64 o.p1, .int .i64 o.p2, .int .i64 o.p3, .int .i64 o.vk, .int .i64 o.vn, .string (Lx.bs o.vs), .slice a2 n c2, .string (Lx.bs o.name)] 39)).cell? ⟨w.heap.size, 7, none⟩ = some (.slice a1 n c1) := (blk_cells (blk_alloc (heap_alloc_new w (.cells #[.int .i64 o.code, .int .i64 o.p1, .int .i64 o.p2, .int .i64 o.p3, .int .i64 o.vk, .int .i64 o.vn, .string (Lx.bs o.vs), .slice a1 n c1, .string (Lx.bs o.name)] 39)) (.cells #[.int .i64 o.code, .int .i64 o.p1, .int .i64 o.p2, .int .i64 o.p3, .int .i64 o.vk, .int .i64 o.vn, .string (Lx.bs o.vs), .slice a2 n c2, .string (Lx.bs o.name)] 39))).1 7 _ rfl
  have y2 : ((w.alloc (.cells #[.int .i64 o.code, .int .i64 o.p1, .int .i64 o.p2, .int .i64 o.p3, .int .i64 o.vk, .int .i64 o.vn, .string (Lx.bs o.vs), .slice a1 n c1, .string (Lx.bs o.name)] 39)).alloc (.cells #[.int .i64 o.code, .int .i64 o.p1, .int .i64 o.p2, .int .i64 o.p3, .int .i64 o.vk, .int .i64 o.vn, .string (Lx.bs o.vs), .slice a2 n c2, .string (Lx.bs o.name)] 39)).cell? ⟨w.heap.size + 1, 7, none⟩ = some (.slice a2 n c2) := by
    have h := (blk_cells (heap_alloc_new (w.alloc (.cells #[.int .i64 o.code, .int .i64 o.p1, .int .i64 o.p2, .int .i64 o.p3, .int .i64 o.vk, .int .i64 o.vn, .string (Lx.bs o.vs), .slice a1 n c1, .string (Lx.bs o.name)] 39)) (.cells #[.int .i64 o.code, .int .i64 o.p1, .int .i64 o.p2, .int .i64 o.p3, .int .i64 o.vk, .int .i64 o.vn, .string (Lx.bs o.vs), .slice a2 n c2, .string (Lx.bs o.name)] 39))).1 7 _ rfl
    have e : (w.alloc (.cells #[.int .i64 o.code, .int .i64 o.p1, .int .i64 o.p2, .int .i64 o.p3, .int .i64 o.vk, .int .i64 o.vn, .string (Lx.bs o.vs), .slice a1 n c1, .string (Lx.bs o.name)] 39)).heap.size = w.heap.size + 1 := by simp
    rw [e] at h
    exact h
  have hs1 : w.heap.size + 1 < ((w.alloc (.cells #[.int .i64 o.code, .int .i64 o.p1, .int .i64 o.p2, .int .i64 o.p3, .int .i64 o.vk, .int .i64 o.vn, .string (Lx.bs o.vs), .slice a1 n c1, .string (Lx.bs o.name)] 39)).alloc (.cells #[.int .i64 o.code, .int .i64 o.p1, .int .i64 o.p2, .int .i64 o.p3, .int .i64 o.vk, .int .i64 o.vn, .string (Lx.bs o.vs), .slice a2 n c2, .string (Lx.bs o.name)] 39)).heap.size := by simp
  have HBO := Lib.hid hbo
  have HY1 := Lib.hid y1
  have HY2 := Lib.hid y2
  have HS1 := Lib.hid hs1
  clear hbo y1 y2 hs1
  go_wp2
  generalize (w.alloc (.cells #[.int .i64 o.code, .int .i64 o.p1, .int .i64 o.p2, .int .i64 o.p3, .int .i64 o.vk, .int .i64 o.vn, .string (Lx.bs o.vs), .slice a1 n c1, .string (Lx.bs o.name)] 39)).alloc (.cells #[.int .i64 o.code, .int .i64 o.p1, .int .i64 o.p2, .int .i64 o.p3, .int .i64 o.vk, .int .i64 o.vn, .string (Lx.bs o.vs), .slice a2 n c2, .string (Lx.bs o.name)] 39) = W0 at HBO HY1 HY2 HS1 ⊢
  have hk1 := kat_keep H1.out HBO.out
  have hk2 := kat_keep H2.out HBO.out
  have hs1 := HS1.out
  have hs0 : w.heap.size < W0.heap.size := by omega
  rcases hk1 with ⟨h0, _⟩ | ⟨kb, koff, kcc, hq, hkb, hkc, hkm, hkx⟩
  · have hn0 : n = 0 := by rw [HN.out, h0]; rfl
    subst hn0
    have z1 := HY1.out
    clear h0 hk2
    refine wp_loop_rounds 1 ?_
    rw [rounds_succ]
    go_wp2
    go_ret
    exact ⟨rfl, HBO.out⟩
  · rcases hk2 with ⟨h0, _⟩ | ⟨jb, joff, jcc, hj, hjb, hjc, hjm, hjx⟩
    · have hn0 : n = 0 := by rw [HN.out, h0]; rfl
      subst hn0
      have z1 := HY1.out
      clear h0 hkx hkc hq
      refine wp_loop_rounds 1 ?_
      rw [rounds_succ]
      go_wp2
      go_ret
      exact ⟨rfl, HBO.out⟩
    · obtain ⟨rfl, -, rfl⟩ := (Value.slice.injEq _ _ _ _ _ _ ▸ hq : _ ∧ _ ∧ _)
      obtain ⟨rfl, -, rfl⟩ := (Value.slice.injEq _ _ _ _ _ _ ▸ hj : _ ∧ _ ∧ _)
      rw [← HN.out] at hkc hjc
      have hn9 : n ≤ 9223372036854775807 := by have h9 := hkm; simp only [maxLen] at h9; omega
      have HKX := Lib.hid hkx
      have HJX := Lib.hid hjx
      clear hkx hjx hq hj
      go_loopw [5] (fun i wr => ∃ k : Nat, k ≤ n ∧ i = .int .i64 k ∧ Below W0.heap.size W0 wr) (fun i _ => n - (intOf i).toNat)
      case atStart => exact ⟨0, by omega, rfl, Below.refl _ _⟩
      case round =>
        obtain ⟨k, hk, rfl, hbw⟩ := hrel
        have z1 : wr.cell? ⟨w.heap.size, 7, none⟩ = some (.slice (some ⟨kb, koff, none⟩) n _) := (hbw.cell (p := ⟨w.heap.size, 7, none⟩) hs0).trans HY1.out
        have z2 : wr.cell? ⟨w.heap.size + 1, 7, none⟩ = some (.slice (some ⟨jb, joff, none⟩) n _) := (hbw.cell (p := ⟨w.heap.size + 1, 7, none⟩) hs1).trans HY2.out
        by_cases hlt : k < n
        · obtain ⟨t, ht⟩ : ∃ t, o.keys[k]? = some t := ⟨_, List.getElem?_eq_getElem (by rw [← HN.out]; exact hlt)⟩
          have kcell : ∀ j u, j < 3 → (kcells t)[j]? = some u → wr.cell? ⟨kb, koff + (k * 3 + j), none⟩ = some u := fun j u hj hu => (hbw.cell (p := ⟨kb, koff + (k * 3 + j), none⟩) hkb).trans (HKX.out _ _ ((kflat_at ht hj).trans hu))
          have jcell : ∀ j u, j < 3 → (kcells t)[j]? = some u → wr.cell? ⟨jb, joff + (k * 3 + j), none⟩ = some u := fun j u hj hu => (hbw.cell (p := ⟨jb, joff + (k * 3 + j), none⟩) hjb).trans (HJX.out _ _ ((kflat_at ht hj).trans hu))
          have x0 : wr.cell? ⟨kb, koff + k * 3, none⟩ = some (.int .i64 t.col) := kcell 0 _ (by omega) rfl
          have x1 : wr.cell? ⟨kb, koff + k * 3 + 1, none⟩ = some (.int .i64 t.coll) := kcell 1 _ (by omega) rfl
          have x2 : wr.cell? ⟨kb, koff + k * 3 + 2, none⟩ = some (.bool t.desc) := kcell 2 _ (by omega) rfl
          have u0 : wr.cell? ⟨jb, joff + k * 3, none⟩ = some (.int .i64 t.col) := jcell 0 _ (by omega) rfl
          have u1 : wr.cell? ⟨jb, joff + k * 3 + 1, none⟩ = some (.int .i64 t.coll) := jcell 1 _ (by omega) rfl
          have u2 : wr.cell? ⟨jb, joff + k * 3 + 2, none⟩ = some (.bool t.desc) := jcell 2 _ (by omega) rfl
          clear ht kcell jcell
          go_wp2
          go_quiet (fail)
          go_wp2
          go_roundw
          case rel => exact ⟨k + 1, by omega, by go_num, by (repeat (first | with_reducible exact Below.refl _ _ | with_reducible assumption | with_reducible refine Below.drew ?_ | with_reducible refine below_drewN ?_ _ | with_reducible refine below_al ?_ _ | with_reducible refine Below.setCell ?_ ?_ _ | exact Nat.le_refl _ | omega | (simp; done) | (simp; omega)))⟩
          case measure => simp [intOf]; omega
        · obtain rfl : k = n := by omega
          go_wp2
          go_ret
          exact ⟨rfl, below_next HBO.out hbw⟩
set_option maxRecDepth 100000 in
set_option maxHeartbeats 4000000 in
theorem rAll_eq (v1 v2 : Value) (L1 L2 : List OV) (w : World) (h1 : OpsAt w v1 L1) (h2 : OpsAt w v2 L2) (he : L1.map (·.1) = L2.map (·.1)) (hl : L1.length ≤ 1000000) :
    Calls Tryd.prog 19 #[v1, v2] w fun e w' => e = .returned (.bool true) ∧ Below w.heap.size w w' := by
  obtain ⟨n, hn⟩ : ∃ n, n = L1.length := ⟨_, rfl⟩
  have hn2 : n = L2.length := by have h := congrArg List.length he; simp only [List.length_map] at h; omega
  rw [← hn] at hl
  have HN := Lib.hid hn
  have HN2 := Lib.hid hn2
  have H1 := Lib.hid h1
  have H2 := Lib.hid h2
  have HE := Lib.hid he
  obtain ⟨hk1, hr1⟩ := h1
  obtain ⟨hk2, hr2⟩ := h2
  rcases hr1 with ⟨h0, a, c, rfl⟩ | ⟨b, off, c, rfl, hb, hc, hm, hx⟩
  · have hn0 : n = 0 := by rw [hn, h0]; rfl
    obtain ⟨va, vc, rfl⟩ : ∃ a c, v2 = .slice a 0 c := by
      rcases hr2 with ⟨_, a, c, h⟩ | ⟨b, off, c, h, _⟩
      · exact ⟨a, c, h⟩
      · exact ⟨_, _, by rw [h, ← hn2, hn0]⟩
    clear h0 hk1 hk2 he hn hn2 hr2
    go_enter Tryd.func19, Tryd.ntmps19
    go_wp2
    refine wp_loop_rounds 1 ?_
    rw [rounds_succ]
    go_wp2
    go_ret
    exact ⟨rfl, Below.refl _ _⟩
  · rcases hr2 with ⟨h0, a, c2, rfl⟩ | ⟨b2, off2, c2, rfl, hb2, hc2, hm2, hx2⟩
    · have hn0 : L1.length = 0 := by rw [← hn, hn2, h0]; rfl
      rw [hn0]
      clear h0 hk1 hk2 he hn hn2 hx hc
      go_enter Tryd.func19, Tryd.ntmps19
      go_wp2
      refine wp_loop_rounds 1 ?_
      rw [rounds_succ]
      go_wp2
      go_ret
      exact ⟨rfl, Below.refl _ _⟩
    · rw [← hn] at hc
      rw [← hn2] at hc2
      rw [← hn, ← hn2]
      have HX := Lib.hid hx
      have HX2 := Lib.hid hx2
      clear hk1 hk2 he hn hn2 hx hx2
      go_enter Tryd.func19, Tryd.ntmps19
      go_wp2
      go_loopw [5] (fun i wr => ∃ k : Nat, k ≤ n ∧ i = .int .i64 k ∧ Below w.heap.size w wr) (fun i _ => n - (intOf i).toNat)
      case atStart => exact ⟨0, by omega, rfl, Below.refl _ _⟩
      case round =>
        obtain ⟨k, hk, rfl, hbw⟩ := hrel
        by_cases hlt : k < n
        · obtain ⟨t, ht⟩ : ∃ t, L1[k]? = some t := ⟨_, List.getElem?_eq_getElem (by rw [← HN.out]; exact hlt)⟩
          obtain ⟨t2, ht2⟩ : ∃ t2, L2[k]? = some t2 := ⟨_, List.getElem?_eq_getElem (by rw [← HN2.out]; exact hlt)⟩
          have hoo : t2.1 = t.1 := by
            have h := congrArg (fun l : List Ox.Op => l[k]?) HE.out
            simp only [List.getElem?_map, ht, ht2, Option.map_some, Option.some.injEq] at h
            exact h.symm
          have hcell : ∀ j u, j < 9 → (ocells t)[j]? = some u → wr.cell? ⟨b, off + (k * 9 + j), none⟩ = some u := fun j u hj hu => (hbw.cell (p := ⟨b, off + (k * 9 + j), none⟩) hb).trans (HX.out _ _ ((oflat_at ht hj).trans hu))
          have jcell : ∀ j u, j < 9 → (ocells t2)[j]? = some u → wr.cell? ⟨b2, off2 + (k * 9 + j), none⟩ = some u := fun j u hj hu => (hbw.cell (p := ⟨b2, off2 + (k * 9 + j), none⟩) hb2).trans (HX2.out _ _ ((oflat_at ht2 hj).trans hu))
          have hkat := kat_keep (H1.out.1 t (List.mem_of_getElem? ht)) hbw
          have jkat := kat_keep (H2.out.1 t2 (List.mem_of_getElem? ht2)) hbw
          obtain ⟨o, kv⟩ := t
          obtain ⟨o2, kv2⟩ := t2
          simp only at hoo hkat jkat
          subst hoo
          obtain ⟨ka, kn, kc, rfl⟩ := kat_form hkat
          obtain ⟨ja, jn, jc, rfl⟩ := kat_form jkat
          have a0 : wr.cell? ⟨b, off + k * 9, none⟩ = some (.int .i64 o2.code) := hcell 0 _ (by omega) rfl
          have a1 : wr.cell? ⟨b, off + k * 9 + 1, none⟩ = some (.int .i64 o2.p1) := hcell 1 _ (by omega) rfl
          have a2 : wr.cell? ⟨b, off + k * 9 + 2, none⟩ = some (.int .i64 o2.p2) := hcell 2 _ (by omega) rfl
          have a3 : wr.cell? ⟨b, off + k * 9 + 3, none⟩ = some (.int .i64 o2.p3) := hcell 3 _ (by omega) rfl
          have a4 : wr.cell? ⟨b, off + k * 9 + 4, none⟩ = some (.int .i64 o2.vk) := hcell 4 _ (by omega) rfl
          have a5 : wr.cell? ⟨b, off + k * 9 + 5, none⟩ = some (.int .i64 o2.vn) := hcell 5 _ (by omega) rfl
          have a6 : wr.cell? ⟨b, off + k * 9 + 6, none⟩ = some (.string (Lx.bs o2.vs)) := hcell 6 _ (by omega) rfl
          have a7 : wr.cell? ⟨b, off + k * 9 + 7, none⟩ = some (.slice ka kn kc) := hcell 7 _ (by omega) rfl
          have a8 : wr.cell? ⟨b, off + k * 9 + 8, none⟩ = some (.string (Lx.bs o2.name)) := hcell 8 _ (by omega) rfl
          have e0 : wr.cell? ⟨b2, off2 + k * 9, none⟩ = some (.int .i64 o2.code) := jcell 0 _ (by omega) rfl
          have e1 : wr.cell? ⟨b2, off2 + k * 9 + 1, none⟩ = some (.int .i64 o2.p1) := jcell 1 _ (by omega) rfl
          have e2 : wr.cell? ⟨b2, off2 + k * 9 + 2, none⟩ = some (.int .i64 o2.p2) := jcell 2 _ (by omega) rfl
          have e3 : wr.cell? ⟨b2, off2 + k * 9 + 3, none⟩ = some (.int .i64 o2.p3) := jcell 3 _ (by omega) rfl
          have e4 : wr.cell? ⟨b2, off2 + k * 9 + 4, none⟩ = some (.int .i64 o2.vk) := jcell 4 _ (by omega) rfl
          have e5 : wr.cell? ⟨b2, off2 + k * 9 + 5, none⟩ = some (.int .i64 o2.vn) := jcell 5 _ (by omega) rfl
          have e6 : wr.cell? ⟨b2, off2 + k * 9 + 6, none⟩ = some (.string (Lx.bs o2.vs)) := jcell 6 _ (by omega) rfl
          have e7 : wr.cell? ⟨b2, off2 + k * 9 + 7, none⟩ = some (.slice ja jn jc) := jcell 7 _ (by omega) rfl
          have e8 : wr.cell? ⟨b2, off2 + k * 9 + 8, none⟩ = some (.string (Lx.bs o2.name)) := jcell 8 _ (by omega) rfl
          have hbwr : b < wr.heap.size := Nat.lt_of_lt_of_le hb hbw.size
          have hbwr2 : b2 < wr.heap.size := Nat.lt_of_lt_of_le hb2 hbw.size
          have HK1 : Hid (KAt wr.drew (.slice ka kn kc) o2.keys) := Lib.hid (kat_keep hkat (Below.refl _ _).drew)
          have HK2 : Hid (KAt wr.drew (.slice ja jn jc) o2.keys) := Lib.hid (kat_keep jkat (Below.refl _ _).drew)
          clear ht ht2 hcell jcell hkat jkat
          go_wp2
          go_region_with (go_at_call 32; refine (rSame_eq o2 _ _ _ HK1.out HK2.out).mono ?_; rintro e w9 ⟨rfl, hb9⟩)
          all_goals
            have hB9 : Below w.heap.size w w9 := hbw.drew.trans (hb9.mono (by have := hbw.size; simp; omega))
            go_wp2
            go_roundw
            case rel => exact ⟨k + 1, by omega, by go_num, hB9⟩
            case measure => simp [intOf]; omega
        · obtain rfl : k = n := by omega
          go_wp2
          go_ret
          exact ⟨rfl, hbw⟩
end Go.Proofs.YtoekddkkjbcicaaDoor
