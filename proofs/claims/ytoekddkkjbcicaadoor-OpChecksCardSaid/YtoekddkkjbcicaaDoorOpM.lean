import Derived.Test.YtoekddkkjbcicaaDoorOpL
set_option linter.unusedVariables false
set_option linter.unusedSimpArgs false
namespace Go.Proofs.YtoekddkkjbcicaaDoor
open Go.RowKit
attribute [local simp] Lx.bs_size
theorem kat_form {w : World} {v : Value} {l : List Ox.Key} (h : KAt w v l) : ∃ a n c, v = .slice a n c := by
  rcases h with ⟨_, a, c, h⟩ | ⟨b, off, c, h, _⟩
  · exact ⟨a, 0, c, h⟩
  · exact ⟨_, _, c, h⟩
abbrev OV := Ox.Op × Value
def ocells (p : OV) : List Value := [.int .i64 p.1.code, .int .i64 p.1.p1, .int .i64 p.1.p2, .int .i64 p.1.p3, .int .i64 p.1.vk, .int .i64 p.1.vn, .string (Lx.bs p.1.vs), p.2, .string (Lx.bs p.1.name)]
/-- A row of instructions that can be read. -/
def OpsAt (w : World) (v : Value) (L : List OV) : Prop :=
  (∀ p ∈ L, KAt w p.2 p.1.keys) ∧ ((L = [] ∧ ∃ a c, v = .slice a 0 c) ∨ ∃ b off c, v = .slice (some ⟨b, off, none⟩) L.length c ∧ b < w.heap.size ∧ L.length ≤ c ∧ c ≤ maxLen ∧ ∀ j u, (L.flatMap ocells)[j]? = some u → w.cell? ⟨b, off + j, none⟩ = some u)
/-- No part of them is too great. -/
def Fits (L : List OV) : Prop := ∀ p ∈ L, p.1.keys.length ≤ 100000 ∧ p.1.name.length ≤ 1000000 ∧ p.1.vs.length ≤ 1000000 ∧ -9223372036854775808 ≤ p.1.vn ∧ p.1.vn ≤ 9223372036854775807
theorem ops_keep {W w1 : World} {v : Value} {L : List OV} (h : OpsAt W v L) (hb : Below W.heap.size W w1) : OpsAt w1 v L := by
  obtain ⟨hk, h⟩ := h
  refine ⟨fun p hp => kat_keep (hk p hp) hb, ?_⟩
  rcases h with h | ⟨b, off, c, h1, h2, h3, h4, h5⟩
  · exact .inl h
  · exact .inr ⟨b, off, c, h1, Nat.lt_of_lt_of_le h2 hb.size, h3, h4, fun j u hu => (hb.cell (p := ⟨b, off + j, none⟩) h2).trans (h5 j u hu)⟩
theorem oflat_at {l : List OV} {i j : Nat} {t : OV} (h : l[i]? = some t) (hj : j < 9) : (l.flatMap ocells)[i * 9 + j]? = (ocells t)[j]? := by
  induction l generalizing i with
  | nil => simp at h
  | cons a l ih =>
    rw [List.flatMap_cons]
    have hla : (ocells a).length = 9 := rfl
    cases i with
    | zero =>
      simp at h
      subst h
      rw [List.getElem?_append_left (by omega)]
      simp
    | succ i =>
      rw [List.getElem?_append_right (by omega), hla, ← ih (i := i) (by simpa using h)]
      congr 1
      omega
theorem wrong_step {many : Int} {l : List OV} {k : Nat} {t : OV} (h : l[k]? = some t) : Ox.wrongL many ((l.map (·.1)).drop k) (k : Int) = if Ox.right t.1 many then Ox.wrongL many ((l.map (·.1)).drop (k + 1)) ((k : Int) + 1) else (k : Int) := by
  obtain ⟨h1, h2⟩ := List.getElem?_eq_some_iff.1 h
  have h3 : k < (l.map (·.1)).length := by simpa using h1
  rw [List.drop_eq_getElem_cons h3, Ox.wrongL]
  simp [h2]
set_option maxHeartbeats 2000000 in
theorem wrong_any (v : Value) (L : List OV) (w : World) (hl : Laid w) (hat : OpsAt w v L) (hfit : Fits L) (hn : L.length ≤ 1000000) :
    Calls Tryd.prog 23 #[v] w fun e w' => e = .returned (.int .i64 (Ox.wrong (L.map (·.1)))) ∧ Below w.heap.size w w' := by
  obtain ⟨R, hR⟩ : ∃ R, R = Ox.wrong (L.map (·.1)) := ⟨_, rfl⟩
  rw [← hR]
  have hR2 : Ox.wrongL (L.length : Int) ((L.map (·.1)).drop 0) ((0 : Nat) : Int) = R := by rw [hR, Ox.wrong, List.length_map]; rfl
  obtain ⟨n, hnn⟩ : ∃ n, n = L.length := ⟨_, rfl⟩
  rw [← hnn] at hR2 hn
  have HR := Lib.hid hR2
  have HN := Lib.hid hnn
  have HAT := Lib.hid hat
  have HF := Lib.hid hfit
  have HL := Lib.hid hl
  obtain ⟨hk, hrow⟩ := hat
  rcases hrow with ⟨h0, a, c, rfl⟩ | ⟨b, off, c, rfl, hb, hc, hm, hx⟩
  · subst h0
    have hn0 : n = 0 := by rw [hnn]; rfl
    subst hn0
    have hRf : R = -1 := by rw [← HR.out]; rfl
    subst hRf
    clear hR hR2 hk hfit hl hnn
    go_enter Tryd.func23, Tryd.ntmps23
    go_wp2
    refine wp_loop_rounds 1 ?_
    rw [rounds_succ]
    go_wp2
    go_ret
    exact ⟨rfl, Below.refl _ _⟩
  · rw [← hnn] at hc
    rw [← hnn]
    have HX := Lib.hid hx
    clear hR hR2 hk hfit hl hnn hx
    go_enter Tryd.func23, Tryd.ntmps23
    go_wp2
    go_loopw [3, 4, 7] (fun _ _ i wr => ∃ k : Nat, k ≤ n ∧ i = .int .i64 k ∧ Below w.heap.size w wr ∧ Hid (Ox.wrongL (n : Int) ((L.map (·.1)).drop k) (k : Int) = R)) (fun _ _ i _ => n - (intOf i).toNat)
    case atStart => exact ⟨0, by omega, rfl, Below.refl _ _, HR⟩
    case round =>
      obtain ⟨k, hk, rfl, hbw, HK⟩ := hrel
      by_cases hlt : k < n
      · obtain ⟨t, ht⟩ : ∃ t, L[k]? = some t := ⟨_, List.getElem?_eq_getElem (by rw [← HN.out]; exact hlt)⟩
        have hcell : ∀ j u, j < 9 → (ocells t)[j]? = some u → wr.cell? ⟨b, off + (k * 9 + j), none⟩ = some u := fun j u hj hu => (hbw.cell (p := ⟨b, off + (k * 9 + j), none⟩) hb).trans (HX.out _ _ ((oflat_at ht hj).trans hu))
        have hkat := kat_keep (HAT.out.1 t (List.mem_of_getElem? ht)) hbw
        obtain ⟨f1, f2, f3, _⟩ := HF.out t (List.mem_of_getElem? ht)
        have hst := wrong_step (many := (n : Int)) ht
        rw [HK.out] at hst
        obtain ⟨o, kv⟩ := t
        simp only at hst hkat f1 f2 f3
        obtain ⟨ka, kn, kc, rfl⟩ := kat_form hkat
        have a0 : wr.cell? ⟨b, off + k * 9, none⟩ = some (.int .i64 o.code) := hcell 0 _ (by omega) rfl
        have a1 : wr.cell? ⟨b, off + k * 9 + 1, none⟩ = some (.int .i64 o.p1) := hcell 1 _ (by omega) rfl
        have a2 : wr.cell? ⟨b, off + k * 9 + 2, none⟩ = some (.int .i64 o.p2) := hcell 2 _ (by omega) rfl
        have a3 : wr.cell? ⟨b, off + k * 9 + 3, none⟩ = some (.int .i64 o.p3) := hcell 3 _ (by omega) rfl
        have a4 : wr.cell? ⟨b, off + k * 9 + 4, none⟩ = some (.int .i64 o.vk) := hcell 4 _ (by omega) rfl
        have a5 : wr.cell? ⟨b, off + k * 9 + 5, none⟩ = some (.int .i64 o.vn) := hcell 5 _ (by omega) rfl
        have a6 : wr.cell? ⟨b, off + k * 9 + 6, none⟩ = some (.string (Lx.bs o.vs)) := hcell 6 _ (by omega) rfl
        have a7 : wr.cell? ⟨b, off + k * 9 + 7, none⟩ = some (.slice ka kn kc) := hcell 7 _ (by omega) rfl
        have a8 : wr.cell? ⟨b, off + k * 9 + 8, none⟩ = some (.string (Lx.bs o.name)) := hcell 8 _ (by omega) rfl
        have hbwr : b < wr.heap.size := Nat.lt_of_lt_of_le hb hbw.size
        have hl1 := laid_keep HL.out hbw
        cases hr : Ox.right o (n : Int) with
        | false =>
          rw [hr, if_neg (by simp)] at hst
          subst hst
          have HRR := Lib.hid hr
          clear ht hcell hr
          go_wp2_with fail
          refine (right_any o (.slice ka kn kc) (n : Int) _ (laid_keep hl1 (by (repeat (first | with_reducible exact Below.refl _ _ | with_reducible assumption | with_reducible refine Below.drew ?_ | with_reducible refine below_drewN ?_ _ | with_reducible refine below_al ?_ _ | with_reducible refine Below.setCell ?_ ?_ _ | exact Nat.le_refl _ | omega | (simp; done) | (simp; omega))))) (kat_keep hkat (by (repeat (first | with_reducible exact Below.refl _ _ | with_reducible assumption | with_reducible refine Below.drew ?_ | with_reducible refine below_drewN ?_ _ | with_reducible refine below_al ?_ _ | with_reducible refine Below.setCell ?_ ?_ _ | exact Nat.le_refl _ | omega | (simp; done) | (simp; omega))))) f1 f2).mono ?_
          rintro e w1 ⟨rfl, hb1⟩
          rw [HRR.out]
          go_wp2
          go_ret
          exact ⟨rfl, below_next (by (repeat (first | with_reducible exact Below.refl _ _ | with_reducible assumption | with_reducible refine Below.drew ?_ | with_reducible refine below_drewN ?_ _ | with_reducible refine below_al ?_ _ | with_reducible refine Below.setCell ?_ ?_ _ | exact Nat.le_refl _ | omega | (simp; done) | (simp; omega)))) hb1⟩
        | true =>
          rw [hr, if_pos rfl] at hst
          have HK' : Hid (Ox.wrongL (n : Int) ((L.map (·.1)).drop (k + 1)) (((k + 1 : Nat)) : Int) = R) := Lib.hid (by rw [hst]; rfl)
          have HRR := Lib.hid hr
          clear ht hcell hr hst
          go_wp2_with fail
          refine (right_any o (.slice ka kn kc) (n : Int) _ (laid_keep hl1 (by (repeat (first | with_reducible exact Below.refl _ _ | with_reducible assumption | with_reducible refine Below.drew ?_ | with_reducible refine below_drewN ?_ _ | with_reducible refine below_al ?_ _ | with_reducible refine Below.setCell ?_ ?_ _ | exact Nat.le_refl _ | omega | (simp; done) | (simp; omega))))) (kat_keep hkat (by (repeat (first | with_reducible exact Below.refl _ _ | with_reducible assumption | with_reducible refine Below.drew ?_ | with_reducible refine below_drewN ?_ _ | with_reducible refine below_al ?_ _ | with_reducible refine Below.setCell ?_ ?_ _ | exact Nat.le_refl _ | omega | (simp; done) | (simp; omega))))) f1 f2).mono ?_
          rintro e w1 ⟨rfl, hb1⟩
          rw [HRR.out]
          have hB1 := below_next (w := w) (by (repeat (first | with_reducible exact Below.refl _ _ | with_reducible assumption | with_reducible refine Below.drew ?_ | with_reducible refine below_drewN ?_ _ | with_reducible refine below_al ?_ _ | with_reducible refine Below.setCell ?_ ?_ _ | exact Nat.le_refl _ | omega | (simp; done) | (simp; omega)))) hb1
          go_wp2
          go_roundw
          case rel => exact ⟨k + 1, by omega, by go_num, hB1, HK'⟩
          case measure => simp [intOf]; omega
      · obtain rfl : k = n := by omega
        have hRf : R = -1 := by rw [← HK.out, List.drop_eq_nil_of_le (by rw [List.length_map, ← HN.out]; omega)]; rfl
        subst hRf
        go_wp2
        go_ret
        exact ⟨rfl, hbw⟩
theorem opCheck_any (v : Value) (L : List OV) (w : World) (hl : Laid w) (hat : OpsAt w v L) (hfit : Fits L) (hn : L.length ≤ 1000000) :
    Calls Tryd.prog 15 #[v] w fun e w' => e = .returned (.int .i64 (Ox.check (L.map (·.1)))) ∧ Below w.heap.size w w' := by
  have hv : ∃ a c, v = .slice a L.length c := by
    rcases hat.2 with ⟨h0, a, c, h⟩ | ⟨b, off, c, h, _⟩
    · exact ⟨a, c, by rw [h, h0]; rfl⟩
    · exact ⟨_, c, h⟩
  obtain ⟨a, c, rfl⟩ := hv
  by_cases hlong : 8192 < L.length
  · have hr : Ox.check (L.map (·.1)) = 3 := by rw [Ox.check, List.length_map, if_pos hlong]
    rw [hr]
    have d : decide (8192 < (L.length : Int)) = true := decide_eq_true (by omega)
    go_enter Tryd.func15, Tryd.ntmps15
    go_wp2
    go_ret
    exact ⟨rfl, Below.refl _ _⟩
  · have d : decide (8192 < (L.length : Int)) = false := decide_eq_false (by omega)
    have hr : Ox.check (L.map (·.1)) = if 0 ≤ Ox.wrong (L.map (·.1)) then 1 else 0 := by rw [Ox.check, List.length_map, if_neg hlong]
    rw [hr]
    obtain ⟨r, hr2⟩ : ∃ r, r = Ox.wrong (L.map (·.1)) := ⟨_, rfl⟩
    rw [← hr2]
    have HR := Lib.hid hr2
    clear hr hr2
    by_cases h0 : 0 ≤ r
    · rw [if_pos h0]
      go_enter Tryd.func15, Tryd.ntmps15
      go_wp2_with fail
      refine (wrong_any _ L _ hl hat hfit hn).mono ?_
      rintro e w1 ⟨rfl, hb1⟩
      rw [← HR.out]
      go_wp2
      go_ret
      exact ⟨rfl, hb1⟩
    · rw [if_neg h0]
      go_enter Tryd.func15, Tryd.ntmps15
      go_wp2_with fail
      refine (wrong_any _ L _ hl hat hfit hn).mono ?_
      rintro e w1 ⟨rfl, hb1⟩
      rw [← HR.out]
      go_wp2
      go_ret
      exact ⟨rfl, hb1⟩
end Go.Proofs.YtoekddkkjbcicaaDoor
