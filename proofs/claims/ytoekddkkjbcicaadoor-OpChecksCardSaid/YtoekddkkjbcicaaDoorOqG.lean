import Derived.Test.YtoekddkkjbcicaaDoorOqF
set_option linter.unusedVariables false
set_option linter.unusedSimpArgs false
namespace Go.Proofs.YtoekddkkjbcicaaDoor
open Go.RowKit
attribute [local simp] Lx.bs_size
set_option maxRecDepth 100000 in
set_option maxHeartbeats 4000000 in
theorem rCheck_any (v : Value) (L : List OV) (w : World) (hat : OpsAt w v L) (hfit : Fits L) (hn : L.length ≤ 1000000) :
    Calls Tryd.prog 11 #[v] w fun e w' => e = .returned (.int .i64 (Ox.check (L.map (·.1)))) ∧ Below w.heap.size w w' := by
  obtain ⟨n, hnn⟩ : ∃ n, n = L.length := ⟨_, rfl⟩
  have hck : Ox.check (L.map (·.1)) = if 8192 < n then 3 else if 0 ≤ Ox.wrong (L.map (·.1)) then 1 else 0 := by rw [Ox.check, List.length_map, ← hnn]
  rw [hck]
  have hw0 : Ox.wrong (L.map (·.1)) = Ox.wrongL (n : Int) ((L.map (·.1)).drop 0) ((0 : Nat) : Int) := by rw [Ox.wrong, List.length_map, ← hnn]; rfl
  rw [hw0]
  obtain ⟨va, vc, hv⟩ : ∃ a c, v = .slice a n c := by
    rcases hat.2 with ⟨h0, a, c, h⟩ | ⟨b, off, c, h, _⟩
    · exact ⟨a, c, by rw [h, hnn, h0]; rfl⟩
    · exact ⟨_, _, by rw [h, hnn]⟩
  by_cases h8 : 8192 < n
  · rw [if_pos h8]
    subst hv
    have d8 : decide ((8192 : Int) < (n : Int)) = true := decide_eq_true (by omega)
    clear hat hfit hnn hck hw0 h8
    go_enter Tryd.func11, Tryd.ntmps11
    go_wp2
    go_ret
    exact ⟨rfl, Below.refl _ _⟩
  rw [if_neg h8]
  have d8 : decide ((8192 : Int) < (n : Int)) = false := decide_eq_false (by omega)
  rw [← hnn] at hn
  obtain ⟨R, hR⟩ : ∃ R : Int, R = if 0 ≤ Ox.wrongL (n : Int) ((L.map (·.1)).drop 0) ((0 : Nat) : Int) then 1 else 0 := ⟨_, rfl⟩
  rw [← hR]
  have HR : Hid ((if 0 ≤ Ox.wrongL (n : Int) ((L.map (·.1)).drop 0) ((0 : Nat) : Int) then 1 else 0 : Int) = R) := Lib.hid hR.symm
  have HN := Lib.hid hnn
  have HAT := Lib.hid hat
  have HF := Lib.hid hfit
  obtain ⟨hk, hrow⟩ := hat
  rcases hrow with ⟨h0, a, c, rfl⟩ | ⟨b, off, c, rfl, hb, hc, hm, hx⟩
  · subst h0
    have hn0 : n = 0 := by rw [hnn]; rfl
    subst hn0
    have hRf : R = 0 := by rw [← HR.out]; rfl
    subst hRf
    clear hR hk hfit hnn hck hw0 hv
    go_enter Tryd.func11, Tryd.ntmps11
    go_wp2
    refine wp_loop_rounds 1 ?_
    rw [rounds_succ]
    go_wp2
    go_ret
    exact ⟨rfl, Below.refl _ _⟩
  · rw [← hnn] at hc
    rw [← hnn]
    have HX := Lib.hid hx
    clear hR hk hfit hnn hx hck hw0 hv
    go_enter Tryd.func11, Tryd.ntmps11
    go_wp2
    go_loopw [3] (fun i wr => ∃ k : Nat, k ≤ n ∧ i = .int .i64 k ∧ Below w.heap.size w wr ∧ Hid ((if 0 ≤ Ox.wrongL (n : Int) ((L.map (·.1)).drop k) (k : Int) then 1 else 0 : Int) = R)) (fun i _ => n - (intOf i).toNat)
    case atStart => exact ⟨0, by omega, rfl, Below.refl _ _, HR⟩
    case round =>
      obtain ⟨k, hk, rfl, hbw, HK⟩ := hrel
      by_cases hlt : k < n
      · obtain ⟨t, ht⟩ : ∃ t, L[k]? = some t := ⟨_, List.getElem?_eq_getElem (by rw [← HN.out]; exact hlt)⟩
        have hcell : ∀ j u, j < 9 → (ocells t)[j]? = some u → wr.cell? ⟨b, off + (k * 9 + j), none⟩ = some u := fun j u hj hu => (hbw.cell (p := ⟨b, off + (k * 9 + j), none⟩) hb).trans (HX.out _ _ ((oflat_at ht hj).trans hu))
        have hkat := kat_keep (HAT.out.1 t (List.mem_of_getElem? ht)) hbw
        have hfit := HF.out t (List.mem_of_getElem? ht)
        have hst := wrong_step (many := (n : Int)) ht
        have hmem := List.mem_of_getElem? ht
        have hdrop : (L.map (·.1)).drop k = t.1 :: (L.map (·.1)).drop (k + 1) := by
          obtain ⟨h1, h2⟩ := List.getElem?_eq_some_iff.1 ht
          rw [List.drop_eq_getElem_cons (by simpa using h1)]
          simp [h2]
        obtain ⟨o, kv⟩ := t
        simp only at hst hkat hfit hdrop
        obtain ⟨ka, kn, kc, rfl⟩ := kat_form hkat
        have a0 : wr.cell? ⟨b, off + k * 9, none⟩ = some (.int .i64 o.code) := hcell 0 _ (by omega) rfl
        have a1 : wr.cell? ⟨b, off + k * 9 + 1, none⟩ = some (.int .i64 o.p1) := hcell 1 _ (by omega) rfl
        have a2 : wr.cell? ⟨b, off + k * 9 + 2, none⟩ = some (.int .i64 o.p2) := hcell 2 _ (by omega) rfl
        have a3 : wr.cell? ⟨b, off + k * 9 + 3, none⟩ = some (.int .i64 o.p3) := hcell 3 _ (by omega) rfl
        have a4 : wr.cell? ⟨b, off + k * 9 + 4, none⟩ = some (.int .i64 o.vk) := hcell 4 _ (by omega) rfl
        have a5 : wr.cell? ⟨b, off + k * 9 + 5, none⟩ = some (.int .i64 o.vn) := hcell 5 _ (by omega) rfl
        have a6 : wr.cell? ⟨b, off + k * 9 + 6, none⟩ = some (.string (Lx.bs o.vs)) := hcell 6 _ (by omega) rfl
        have a7 : wr.cell? ⟨b, off + k * 9 + 7, none⟩ = some (.slice ka kn kc) := hcell 7 _ (by omega) rfl
        have a8 : wr.cell? ⟨b, off + k * 9 + 8, none⟩ = some (.string (Lx.bs o.name)) := hcell 8 _ (by omega) rfl
        have hbwr : b < wr.heap.size := Nat.lt_of_lt_of_le hb hbw.size
        obtain ⟨f1, f2, f3, _⟩ := hfit
        cases hr : Ox.right o (n : Int) with
        | false =>
          rw [hr, if_neg (by simp)] at hst
          rw [hst, if_pos (by omega)] at HK
          have hR1 : R = 1 := HK.out.symm
          subst hR1
          have HRR := Lib.hid hr
          clear ht hcell hr hst hdrop HK hmem
          go_wp2_with fail
          refine (rRight_any o (.slice ka kn kc) (n : Int) _ (by omega) hkat f1 f2).mono ?_
          rintro e w1 ⟨rfl, hb1⟩
          rw [HRR.out]
          go_wp2
          go_ret
          exact ⟨rfl, below_next hbw hb1⟩
        | true =>
          rw [hr, if_pos rfl] at hst
          rw [hst] at HK
          have HK' : Hid ((if 0 ≤ Ox.wrongL (n : Int) ((L.map (·.1)).drop (k + 1)) (((k + 1 : Nat)) : Int) then 1 else 0 : Int) = R) := HK
          have HRR := Lib.hid hr
          clear ht hcell hr hst hdrop HK hmem
          go_wp2_with fail
          refine (rRight_any o (.slice ka kn kc) (n : Int) _ (by omega) hkat f1 f2).mono ?_
          rintro e w1 ⟨rfl, hb1⟩
          rw [HRR.out]
          have hB1 := below_next (w := w) hbw hb1
          go_wp2
          go_roundw
          case rel => exact ⟨k + 1, by omega, by go_num, hB1, HK'⟩
          case measure => simp [intOf]; omega
      · obtain rfl : k = n := by omega
        have hRf : R = 0 := by
          have h := HK.out
          rw [List.drop_eq_nil_of_le (by rw [List.length_map, ← HN.out]; omega)] at h
          exact h.symm
        subst hRf
        go_wp2
        go_ret
        exact ⟨rfl, hbw⟩
theorem keys_len {l : List Ox.Key} (h : KeyFit l) : (Ox.keysS l).length ≤ 24 * l.length := by
  induction l with
  | nil => simp [Ox.keysS]
  | cons k r ih =>
    have h1 := ih (fun q hq => h q (List.mem_cons_of_mem _ hq))
    have h2 := keyS_len (h k List.mem_cons_self).1 (h k List.mem_cons_self).2
    have e : Ox.keysS (k :: r) = (32 :: Ox.keyS k) ++ Ox.keysS r := rfl
    rw [e]
    simp only [List.length_append, List.length_cons]
    omega
theorem line_len {o : Ox.Op} (hfit : OFit o) : (Ox.line o).length ≤ 6000000 := by
  obtain ⟨q1, q2, q3, q4, ⟨b1, b2⟩, ⟨b3, b4⟩, ⟨b5, b6⟩, b7, b8⟩ := hfit
  have hv : (Ox.valS o.vk o.vn o.vs).length ≤ 2000100 := by
    have h1 := num_21 b7 b8
    have h2 := hex_len o.vs
    unfold Ox.valS
    repeat' split
    all_goals simp
    all_goals omega
  have hk := keys_len q2
  have hN : ∀ (c : UInt8) (n : Int), -9223372036854775808 ≤ n → n ≤ 9223372036854775807 → (Ox.partN c n).length ≤ 22 := by
    intro c n h1 h2
    have := num_21 h1 h2
    unfold Ox.partN
    split <;> simp; omega
  have n1 := hN (Ox.at_ (Ox.form o.code) 0) o.p1 b1 b2
  have n2 := hN (Ox.at_ (Ox.form o.code) 1) o.p2 b3 b4
  have n3 := hN (Ox.at_ (Ox.form o.code) 2) o.p3 b5 b6
  have hV : (Ox.partV (Ox.at_ (Ox.form o.code) 3) o.vk o.vn o.vs).length ≤ 2000101 := by
    unfold Ox.partV
    split <;> simp; omega
  have hS : (Ox.partS (Ox.at_ (Ox.form o.code) 4) o.name).length ≤ 1000001 := by
    unfold Ox.partS
    split <;> simp; omega
  have hn : ((Ox.names[o.code.toNat]?).getD []).length ≤ 20 := by
    by_cases h : o.code.toNat < 34
    · obtain ⟨f, h1, h2⟩ := names_short ⟨o.code.toNat, h⟩
      simp only at h1
      rw [h1]; exact h2
    · rw [List.getElem?_eq_none (by show 34 ≤ _; omega)]; simp
  unfold Ox.line
  simp only [List.length_append]
  omega
/-- A right instruction of a read row has the bounds that a line wants. -/
theorem fit_right {o : Ox.Op} {many : Int} (hm : many ≤ 1000000) (hr : Ox.right o many = true) (h : o.keys.length ≤ 100000 ∧ o.name.length ≤ 1000000 ∧ o.vs.length ≤ 1000000 ∧ -9223372036854775808 ≤ o.vn ∧ o.vn ≤ 9223372036854775807) : OFit o := by
  obtain ⟨f1, f2, f3, f4, f5⟩ := h
  obtain ⟨hc, hf⟩ := Ox.right_parts hr
  obtain ⟨⟨b1, b2⟩, ⟨b3, b4⟩, b5, b6⟩ := formed_bounds hm hf
  have hk : KeyFit o.keys := by
    unfold Ox.formed at hf
    simp only [Bool.and_eq_true] at hf
    have h6 := hf.2
    unfold Ox.keyed at h6
    split at h6
    · simp only [Bool.and_eq_true, List.all_eq_true] at h6
      intro k hk
      have := h6.1 k hk
      simp only [Ox.keyOk, Bool.and_eq_true, decide_eq_true_eq] at this
      omega
    · have : o.keys = [] := List.eq_nil_of_length_eq_zero (by simpa using h6)
      rw [this]
      intro k hk; cases hk
  exact ⟨f1, hk, f2, f3, ⟨by omega, by omega⟩, ⟨by omega, by omega⟩, ⟨by omega, by omega⟩, f4, f5⟩
theorem cat_n (a b : Ox.S) : Lx.bs a ++ Lx.bs b ++ Lx.bs [10] = Lx.bs (a ++ (b ++ [10])) := by rw [← cat2, ← cat2, List.append_assoc]
set_option maxRecDepth 100000 in
set_option maxHeartbeats 4000000 in
theorem rPrint_any (v : Value) (L : List OV) (w : World) (hat : OpsAt w v L) (hfit : Fits L) (hn : L.length ≤ 1000000) :
    Calls Tryd.prog 12 #[v] w fun e w' => e = .returned (.string (Lx.bs (Ox.print (L.map (·.1))))) ∧ Below w.heap.size w w' := by
  obtain ⟨n, hnn⟩ : ∃ n, n = L.length := ⟨_, rfl⟩
  obtain ⟨ck, hck⟩ : ∃ ck, ck = Ox.check (L.map (·.1)) := ⟨_, rfl⟩
  obtain ⟨T, hT⟩ : ∃ T, T = Ox.print (L.map (·.1)) := ⟨_, rfl⟩
  rw [← hT]
  rw [← hnn] at hn
  have HN := Lib.hid hnn
  have HAT := Lib.hid hat
  have HF := Lib.hid hfit
  have HCK := Lib.hid hck
  obtain ⟨hk, hrow⟩ := hat
  rcases hrow with ⟨h0, a, c, rfl⟩ | ⟨b, off, c, rfl, hb, hc, hm, hx⟩
  · subst h0
    have hn0 : n = 0 := by rw [hnn]; rfl
    subst hn0
    have hTf : T = [] := by rw [hT]; rfl
    subst hTf
    clear hT hk hfit hnn hck
    go_enter Tryd.func12, Tryd.ntmps12
    go_wp2
    refine wp_loop_rounds 1 ?_
    rw [rounds_succ]
    go_wp2
    go_ret
    exact ⟨rfl, Below.refl _ _⟩
  · rw [← hnn] at hc HAT
    rw [← hnn]
    by_cases h0 : ck = 0
    · have hall : ∀ p ∈ L, Ox.right p.1 (n : Int) = true := by
        rw [h0] at hck
        have h := (Ox.check_all hck.symm).2
        intro p hp
        have := h p.1 (List.mem_map_of_mem hp)
        rw [hnn]; simpa using this
      have hn8 : n ≤ 8192 := by
        rw [h0] at hck
        have := (Ox.check_all hck.symm).1
        simpa [hnn] using this
      have hTl : T = Ox.lines (L.map (·.1)) := by rw [hT, Ox.print, if_pos (by rw [← hck]; exact h0)]
      have HT : Hid (Ox.lines ((L.map (·.1)).drop 0) = T) := Lib.hid (by rw [hTl]; rfl)
      have HALL := Lib.hid hall
      have dck : (ck == 0) = true := by rw [h0]; rfl
      have HX := Lib.hid hx
      clear hT hk hfit hnn hx hck h0 hall hTl
      go_enter Tryd.func12, Tryd.ntmps12
      go_wp2
      go_loopw [3, 4] (fun sv i wr => ∃ (k : Nat) (acc : Ox.S), k ≤ n ∧ i = .int .i64 k ∧ sv = .string (Lx.bs acc) ∧ acc.length ≤ 6000001 * k ∧ Below w.heap.size w wr ∧ Hid (acc ++ Ox.lines ((L.map (·.1)).drop k) = T)) (fun _ i _ => n - (intOf i).toNat)
      case atStart => exact ⟨0, [], by omega, rfl, rfl, by simp, Below.refl _ _, HT⟩
      case round =>
        obtain ⟨k, acc, hk, rfl, rfl, hal, hbw, HK⟩ := hrel
        by_cases hlt : k < n
        · obtain ⟨t, ht⟩ : ∃ t, L[k]? = some t := ⟨_, List.getElem?_eq_getElem (by rw [← HN.out]; exact hlt)⟩
          have hcell : ∀ j u, j < 9 → (ocells t)[j]? = some u → wr.cell? ⟨b, off + (k * 9 + j), none⟩ = some u := fun j u hj hu => (hbw.cell (p := ⟨b, off + (k * 9 + j), none⟩) hb).trans (HX.out _ _ ((oflat_at ht hj).trans hu))
          have hkat := kat_keep (HAT.out.1 t (List.mem_of_getElem? ht)) hbw
          have hfit := HF.out t (List.mem_of_getElem? ht)
          have hst := wrong_step (many := (n : Int)) ht
          have hmem := List.mem_of_getElem? ht
          have hdrop : (L.map (·.1)).drop k = t.1 :: (L.map (·.1)).drop (k + 1) := by
            obtain ⟨h1, h2⟩ := List.getElem?_eq_some_iff.1 ht
            rw [List.drop_eq_getElem_cons (by simpa using h1)]
            simp [h2]
          obtain ⟨o, kv⟩ := t
          simp only at hst hkat hfit hdrop
          obtain ⟨ka, kn, kc, rfl⟩ := kat_form hkat
          have a0 : wr.cell? ⟨b, off + k * 9, none⟩ = some (.int .i64 o.code) := hcell 0 _ (by omega) rfl
          have a1 : wr.cell? ⟨b, off + k * 9 + 1, none⟩ = some (.int .i64 o.p1) := hcell 1 _ (by omega) rfl
          have a2 : wr.cell? ⟨b, off + k * 9 + 2, none⟩ = some (.int .i64 o.p2) := hcell 2 _ (by omega) rfl
          have a3 : wr.cell? ⟨b, off + k * 9 + 3, none⟩ = some (.int .i64 o.p3) := hcell 3 _ (by omega) rfl
          have a4 : wr.cell? ⟨b, off + k * 9 + 4, none⟩ = some (.int .i64 o.vk) := hcell 4 _ (by omega) rfl
          have a5 : wr.cell? ⟨b, off + k * 9 + 5, none⟩ = some (.int .i64 o.vn) := hcell 5 _ (by omega) rfl
          have a6 : wr.cell? ⟨b, off + k * 9 + 6, none⟩ = some (.string (Lx.bs o.vs)) := hcell 6 _ (by omega) rfl
          have a7 : wr.cell? ⟨b, off + k * 9 + 7, none⟩ = some (.slice ka kn kc) := hcell 7 _ (by omega) rfl
          have a8 : wr.cell? ⟨b, off + k * 9 + 8, none⟩ = some (.string (Lx.bs o.name)) := hcell 8 _ (by omega) rfl
          have hbwr : b < wr.heap.size := Nat.lt_of_lt_of_le hb hbw.size
          have hrt := HALL.out _ hmem
          simp only at hrt
          obtain ⟨hco, hfo⟩ := Ox.right_parts hrt
          have hof := fit_right (by omega) hrt hfit
          have hll := line_len hof
          have HCO := Lib.hid hco
          have HFO := Lib.hid hfo
          have HOF := Lib.hid hof
          have HFT := Lib.hid hfit
          have HK' : Hid (acc ++ (Ox.line o ++ [10]) ++ Ox.lines ((L.map (·.1)).drop (k + 1)) = T) := Lib.hid (by have h := HK.out; rw [hdrop] at h; rw [← h]; simp [Ox.lines])
          clear ht hcell hst hdrop HK hmem hrt hco hfo hof hfit
          go_wp2_with fail
          refine (rCheck_any _ L _ (ops_keep HAT.out hbw) HF.out (by rw [← HN.out]; exact hn)).mono ?_
          rintro e w1 ⟨rfl, hb1⟩
          rw [← HCK.out]
          have hB1 := below_next (w := w) hbw hb1
          have hkat1 := kat_keep hkat hb1
          have e0 : w1.cell? ⟨b, off + k * 9, none⟩ = some (.int .i64 o.code) := (hb1.cell (p := ⟨b, off + k * 9, none⟩) hbwr).trans a0
          have e1 : w1.cell? ⟨b, off + k * 9 + 1, none⟩ = some (.int .i64 o.p1) := (hb1.cell (p := ⟨b, off + k * 9 + 1, none⟩) hbwr).trans a1
          have e2 : w1.cell? ⟨b, off + k * 9 + 2, none⟩ = some (.int .i64 o.p2) := (hb1.cell (p := ⟨b, off + k * 9 + 2, none⟩) hbwr).trans a2
          have e3 : w1.cell? ⟨b, off + k * 9 + 3, none⟩ = some (.int .i64 o.p3) := (hb1.cell (p := ⟨b, off + k * 9 + 3, none⟩) hbwr).trans a3
          have e4 : w1.cell? ⟨b, off + k * 9 + 4, none⟩ = some (.int .i64 o.vk) := (hb1.cell (p := ⟨b, off + k * 9 + 4, none⟩) hbwr).trans a4
          have e5 : w1.cell? ⟨b, off + k * 9 + 5, none⟩ = some (.int .i64 o.vn) := (hb1.cell (p := ⟨b, off + k * 9 + 5, none⟩) hbwr).trans a5
          have e6 : w1.cell? ⟨b, off + k * 9 + 6, none⟩ = some (.string (Lx.bs o.vs)) := (hb1.cell (p := ⟨b, off + k * 9 + 6, none⟩) hbwr).trans a6
          have e7 : w1.cell? ⟨b, off + k * 9 + 7, none⟩ = some (.slice ka kn kc) := (hb1.cell (p := ⟨b, off + k * 9 + 7, none⟩) hbwr).trans a7
          have e8 : w1.cell? ⟨b, off + k * 9 + 8, none⟩ = some (.string (Lx.bs o.name)) := (hb1.cell (p := ⟨b, off + k * 9 + 8, none⟩) hbwr).trans a8
          clear a0 a1 a2 a3 a4 a5 a6 a7 a8
          go_wp2_with fail
          refine (rLine_any o (.slice ka kn kc) (n : Int) _ hkat1 HCO.out HFO.out HOF.out).mono ?_
          rintro e w2 ⟨rfl, hb2⟩
          have hB2 := below_next hB1 hb2
          go_wp2
          go_roundw
          case rel => exact ⟨k + 1, acc ++ (Ox.line o ++ [10]), by omega, by go_num, congrArg Value.string (cat_n acc _), by simp only [List.length_append, List.length_cons, List.length_nil]; omega, hB2, HK'⟩
          case measure => simp [intOf]; omega
        · obtain rfl : k = n := by omega
          have hTf : acc = T := by rw [← HK.out, List.drop_eq_nil_of_le (by rw [List.length_map, ← HN.out]; omega)]; simp [Ox.lines]
          subst hTf
          go_wp2
          go_ret
          exact ⟨rfl, hbw⟩
    · have hTe : T = [] := by rw [hT, Ox.print, if_neg (by rw [← hck]; exact h0)]
      subst hTe
      have dck : (ck == 0) = false := by simpa using h0
      have hn0 : 0 < n := by
        rcases Nat.eq_zero_or_pos n with hz | hz
        · exfalso
          apply h0
          rw [hck]
          have : L = [] := List.eq_nil_of_length_eq_zero (by omega)
          rw [this]; rfl
        · exact hz
      clear hT hk hfit hnn hx hck h0
      go_enter Tryd.func12, Tryd.ntmps12
      go_wp2
      refine wp_loop_rounds 1 ?_
      rw [rounds_succ]
      go_wp2_with fail
      refine (rCheck_any _ L _ HAT.out HF.out (by rw [← HN.out]; exact hn)).mono ?_
      rintro e w1 ⟨rfl, hb1⟩
      rw [← HCK.out]
      go_wp2
      go_ret
      exact ⟨rfl, hb1⟩
end Go.Proofs.YtoekddkkjbcicaaDoor
