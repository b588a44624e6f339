import Derived.Test.YtoekddkkjbcicaaDoorOpI
set_option linter.unusedVariables false
set_option linter.unusedSimpArgs false
namespace Go.Proofs.YtoekddkkjbcicaaDoor
open Go.RowKit
attribute [local simp] Lx.bs_size
def kcells (k : Ox.Key) : List Value := [.int .i64 k.col, .int .i64 k.coll, .bool k.desc]
/-- A row of keys that can be read. -/
def KAt (w : World) (v : Value) (l : List Ox.Key) : Prop :=
  (l = [] ∧ ∃ a c, v = .slice a 0 c) ∨ ∃ b off c, v = .slice (some ⟨b, off, none⟩) l.length c ∧ b < w.heap.size ∧ l.length ≤ c ∧ c ≤ maxLen ∧ ∀ j u, (l.flatMap kcells)[j]? = some u → w.cell? ⟨b, off + j, none⟩ = some u
theorem kat_keep {W w1 : World} {v : Value} {l : List Ox.Key} (h : KAt W v l) (hb : Below W.heap.size W w1) : KAt w1 v l := by
  rcases h with h | ⟨b, off, c, h1, h2, h3, h4, h5⟩
  · exact .inl h
  · exact .inr ⟨b, off, c, h1, Nat.lt_of_lt_of_le h2 hb.size, h3, h4, fun j u hu => (hb.cell (p := ⟨b, off + j, none⟩) h2).trans (h5 j u hu)⟩
theorem kflat_at {l : List Ox.Key} {i j : Nat} {t : Ox.Key} (h : l[i]? = some t) (hj : j < 3) : (l.flatMap kcells)[i * 3 + j]? = (kcells t)[j]? := by
  induction l generalizing i with
  | nil => simp at h
  | cons a l ih =>
    rw [List.flatMap_cons]
    have hla : (kcells a).length = 3 := rfl
    cases i with
    | zero =>
      simp at h
      subst h
      rw [List.getElem?_append_left (by omega)]
      simp
    | succ i =>
      rw [List.getElem?_append_right (by omega), hla, ← ih (i := i) (by simpa using h)]
      congr 1
      omega
theorem keyOk_no {c cl : Int} {d : Bool} (h : c < 0 ∨ 64 ≤ c ∨ cl < 0 ∨ 1 < cl) : Ox.keyOk ⟨c, cl, d⟩ = false := by
  rw [← Bool.not_eq_true]
  unfold Ox.keyOk
  simp only [Bool.and_eq_true, decide_eq_true_eq]
  omega
theorem keyOk_yes {c cl : Int} {d : Bool} (h : 0 ≤ c ∧ c < 64 ∧ 0 ≤ cl ∧ cl ≤ 1) : Ox.keyOk ⟨c, cl, d⟩ = true := by
  unfold Ox.keyOk
  simp only [Bool.and_eq_true, decide_eq_true_eq]
  omega
theorem all_step {l : List Ox.Key} {k : Nat} {t : Ox.Key} (h : l[k]? = some t) : (l.drop k).all Ox.keyOk = (Ox.keyOk t && (l.drop (k + 1)).all Ox.keyOk) := by
  obtain ⟨h1, h2⟩ := List.getElem?_eq_some_iff.1 h
  rw [List.drop_eq_getElem_cons h1, h2, List.all_cons]
set_option maxHeartbeats 2000000 in
theorem keyed_any (k : UInt8) (v : Value) (l : List Ox.Key) (w : World) (hl : l.length ≤ 100000) (h : KAt w v l) :
    Calls Tryd.prog 51 #[.int .u8 k.toNat, v] w fun e w' => e = .returned (.bool (Ox.keyed k l)) ∧ Below w.heap.size w w' := by
  obtain ⟨n, hn⟩ : ∃ n, n = l.length := ⟨_, rfl⟩
  have HN := Lib.hid hn
  by_cases h107 : k.toNat = 107
  · have e107 : ((k.toNat : Int) != 107) = false := by simp; omega
    have hr : Ox.keyed k l = ((l.drop 0).all Ox.keyOk && decide (n ≤ 64)) := by simp [Ox.keyed, h107, hn]
    rw [hr]
    generalize hR1 : (l.drop 0).all Ox.keyOk = R1
    have HR1 := Lib.hid hR1
    rcases h with ⟨h0, a, c, rfl⟩ | ⟨b, off, c, rfl, hb, hc, hm, hx⟩
    · subst h0
      have hR : R1 = true := by rw [← hR1]; rfl
      have hn0 : n = 0 := by rw [hn]; rfl
      subst hR hn0
      clear hR1 hn hr h107
      go_enter Tryd.func51, Tryd.ntmps51
      go_wp2
      refine wp_loop_rounds 1 ?_
      rw [rounds_succ]
      go_wp2
      go_ret
      exact ⟨rfl, Below.refl _ _⟩
    · rw [← hn] at hl hc
      rw [← hn]
      have HX := Lib.hid hx
      clear hR1 hn hr hx h107
      go_enter Tryd.func51, Tryd.ntmps51
      go_wp2
      go_loopw [6, 14] (fun _ i wr => ∃ k : Nat, k ≤ n ∧ i = .int .i64 k ∧ Below w.heap.size w wr ∧ Hid ((l.drop k).all Ox.keyOk = R1)) (fun _ i _ => n - (intOf i).toNat)
      case atStart => exact ⟨0, by omega, rfl, Below.refl _ _, HR1⟩
      case round =>
        obtain ⟨j, hj, rfl, hbw, HK⟩ := hrel
        by_cases hlt : j < n
        · obtain ⟨t, ht⟩ : ∃ t, l[j]? = some t := ⟨_, List.getElem?_eq_getElem (by rw [← HN.out]; exact hlt)⟩
          have a0 : wr.cell? ⟨b, off + j * 3, none⟩ = some (.int .i64 t.col) := (hbw.cell (p := ⟨b, off + j * 3, none⟩) hb).trans (HX.out _ _ (kflat_at ht (j := 0) (by omega)))
          have a1 : wr.cell? ⟨b, off + j * 3 + 1, none⟩ = some (.int .i64 t.coll) := (hbw.cell (p := ⟨b, off + j * 3 + 1, none⟩) hb).trans (HX.out _ _ (kflat_at ht (j := 1) (by omega)))
          have a2 : wr.cell? ⟨b, off + j * 3 + 2, none⟩ = some (.bool t.desc) := (hbw.cell (p := ⟨b, off + j * 3 + 2, none⟩) hb).trans (HX.out _ _ (kflat_at ht (j := 2) (by omega)))
          have hst := all_step ht
          rw [HK.out] at hst
          have HST := Lib.hid hst
          clear ht hst
          obtain ⟨c1, cl, d⟩ := t
          have hbwr : b < wr.heap.size := Nat.lt_of_lt_of_le hb hbw.size
          go_wp2
          all_goals first
            | (go_roundw
               case rel =>
                 refine ⟨j + 1, by omega, by go_num, by (repeat (first | with_reducible exact Below.refl _ _ | with_reducible assumption | with_reducible refine Below.drew ?_ | with_reducible refine below_drewN ?_ _ | with_reducible refine below_al ?_ _ | with_reducible refine Below.setCell ?_ ?_ _ | exact Nat.le_refl _ | omega | (simp; done) | (simp; omega))), Lib.hid ?_⟩
                 have h := HST.out
                 rw [keyOk_yes (by omega), Bool.true_and] at h
                 exact h.symm
               case measure => simp [intOf]; omega)
            | (go_ret
               refine ⟨ret_b ?_, by (repeat (first | with_reducible exact Below.refl _ _ | with_reducible assumption | with_reducible refine Below.drew ?_ | with_reducible refine below_drewN ?_ _ | with_reducible refine below_al ?_ _ | with_reducible refine Below.setCell ?_ ?_ _ | exact Nat.le_refl _ | omega | (simp; done) | (simp; omega)))⟩
               have h := HST.out
               rw [keyOk_no (by omega), Bool.false_and] at h
               rw [h]
               rfl)
        · obtain rfl : j = n := by omega
          have hR : R1 = true := by rw [← HK.out, List.drop_eq_nil_of_le (by rw [← HN.out]; omega)]; rfl
          subst hR
          go_wp2
          go_ret
          exact ⟨ret_b (by rw [Bool.eq_iff_iff]; simp; omega), hbw⟩
  · have e107 : ((k.toNat : Int) != 107) = true := by simp; omega
    have hr : Ox.keyed k l = decide (n = 0) := by simp [Ox.keyed, h107, hn]
    rw [hr]
    clear hr h107
    rcases h with ⟨h0, a, c, rfl⟩ | ⟨b, off, c, rfl, hb, hc, hm, hx⟩
    · subst h0
      have hn0 : n = 0 := by rw [hn]; rfl
      subst hn0
      clear hn
      go_enter Tryd.func51, Tryd.ntmps51
      go_wp2
      go_ret
      exact ⟨rfl, Below.refl _ _⟩
    · rw [← hn]
      clear hx hn
      go_enter Tryd.func51, Tryd.ntmps51
      go_wp2
      go_ret
      exact ⟨ret_b (by rw [Bool.eq_iff_iff]; simp), Below.refl _ _⟩
set_option maxHeartbeats 2000000 in
theorem rkeys_any (k : UInt8) (v : Value) (l : List Ox.Key) (w : World) (hl : l.length ≤ 100000) (h : KAt w v l) :
    Calls Tryd.prog 39 #[.int .u8 k.toNat, v] w fun e w' => e = .returned (.bool (Ox.keyed k l)) ∧ Below w.heap.size w w' := by
  obtain ⟨n, hn⟩ : ∃ n, n = l.length := ⟨_, rfl⟩
  have HN := Lib.hid hn
  by_cases h107 : k.toNat = 107
  · have e107 : ((k.toNat : Int) != 107) = false := by simp; omega
    have hr : Ox.keyed k l = ((l.drop 0).all Ox.keyOk && decide (n ≤ 64)) := by simp [Ox.keyed, h107, hn]
    rw [hr]
    generalize hR1 : (l.drop 0).all Ox.keyOk = R1
    have HR1 := Lib.hid hR1
    rcases h with ⟨h0, a, c, rfl⟩ | ⟨b, off, c, rfl, hb, hc, hm, hx⟩
    · subst h0
      have hR : R1 = true := by rw [← hR1]; rfl
      have hn0 : n = 0 := by rw [hn]; rfl
      subst hR hn0
      clear hR1 hn hr h107
      go_enter Tryd.func39, Tryd.ntmps39
      go_wp2
      refine wp_loop_rounds 1 ?_
      rw [rounds_succ]
      go_wp2
      go_ret
      exact ⟨rfl, Below.refl _ _⟩
    · rw [← hn] at hl hc
      rw [← hn]
      have HX := Lib.hid hx
      clear hR1 hn hr hx h107
      go_enter Tryd.func39, Tryd.ntmps39
      go_wp2
      go_loopw [5] (fun i wr => ∃ k : Nat, k ≤ n ∧ i = .int .i64 k ∧ Below w.heap.size w wr ∧ Hid ((l.drop k).all Ox.keyOk = R1)) (fun i _ => n - (intOf i).toNat)
      case atStart => exact ⟨0, by omega, rfl, Below.refl _ _, HR1⟩
      case round =>
        obtain ⟨j, hj, rfl, hbw, HK⟩ := hrel
        by_cases hlt : j < n
        · obtain ⟨t, ht⟩ : ∃ t, l[j]? = some t := ⟨_, List.getElem?_eq_getElem (by rw [← HN.out]; exact hlt)⟩
          have a0 : wr.cell? ⟨b, off + j * 3, none⟩ = some (.int .i64 t.col) := (hbw.cell (p := ⟨b, off + j * 3, none⟩) hb).trans (HX.out _ _ (kflat_at ht (j := 0) (by omega)))
          have a1 : wr.cell? ⟨b, off + j * 3 + 1, none⟩ = some (.int .i64 t.coll) := (hbw.cell (p := ⟨b, off + j * 3 + 1, none⟩) hb).trans (HX.out _ _ (kflat_at ht (j := 1) (by omega)))
          have a2 : wr.cell? ⟨b, off + j * 3 + 2, none⟩ = some (.bool t.desc) := (hbw.cell (p := ⟨b, off + j * 3 + 2, none⟩) hb).trans (HX.out _ _ (kflat_at ht (j := 2) (by omega)))
          have hst := all_step ht
          rw [HK.out] at hst
          have HST := Lib.hid hst
          clear ht hst
          obtain ⟨c1, cl, d⟩ := t
          have hbwr : b < wr.heap.size := Nat.lt_of_lt_of_le hb hbw.size
          by_cases q0 : cl = 0
          · subst q0
            go_wp2
            all_goals first
              | (go_roundw
                 case rel =>
                   refine ⟨j + 1, by omega, by go_num, by (repeat (first | with_reducible exact Below.refl _ _ | with_reducible assumption | with_reducible refine Below.drew ?_ | with_reducible refine below_drewN ?_ _ | with_reducible refine below_al ?_ _ | with_reducible refine Below.setCell ?_ ?_ _ | exact Nat.le_refl _ | omega | (simp; done) | (simp; omega))), Lib.hid ?_⟩
                   have h := HST.out
                   rw [keyOk_yes (by omega), Bool.true_and] at h
                   exact h.symm
                 case measure => simp [intOf]; omega)
              | (go_ret
                 refine ⟨ret_b ?_, by (repeat (first | with_reducible exact Below.refl _ _ | with_reducible assumption | with_reducible refine Below.drew ?_ | with_reducible refine below_drewN ?_ _ | with_reducible refine below_al ?_ _ | with_reducible refine Below.setCell ?_ ?_ _ | exact Nat.le_refl _ | omega | (simp; done) | (simp; omega)))⟩
                 have h := HST.out
                 rw [keyOk_no (by omega), Bool.false_and] at h
                 rw [h]
                 rfl)
          by_cases q1 : cl = 1
          · subst q1
            go_wp2
            all_goals first
              | (go_roundw
                 case rel =>
                   refine ⟨j + 1, by omega, by go_num, by (repeat (first | with_reducible exact Below.refl _ _ | with_reducible assumption | with_reducible refine Below.drew ?_ | with_reducible refine below_drewN ?_ _ | with_reducible refine below_al ?_ _ | with_reducible refine Below.setCell ?_ ?_ _ | exact Nat.le_refl _ | omega | (simp; done) | (simp; omega))), Lib.hid ?_⟩
                   have h := HST.out
                   rw [keyOk_yes (by omega), Bool.true_and] at h
                   exact h.symm
                 case measure => simp [intOf]; omega)
              | (go_ret
                 refine ⟨ret_b ?_, by (repeat (first | with_reducible exact Below.refl _ _ | with_reducible assumption | with_reducible refine Below.drew ?_ | with_reducible refine below_drewN ?_ _ | with_reducible refine below_al ?_ _ | with_reducible refine Below.setCell ?_ ?_ _ | exact Nat.le_refl _ | omega | (simp; done) | (simp; omega)))⟩
                 have h := HST.out
                 rw [keyOk_no (by omega), Bool.false_and] at h
                 rw [h]
                 rfl)
          have e0 : (cl != 0) = true := by simpa using q0
          have e1 : (cl != 1) = true := by simpa using q1
          have q2 : cl < 0 ∨ 1 < cl := by omega
          have Q2 := Lib.hid q2
          clear q0 q1 q2
          go_wp2
          all_goals
            go_ret
            refine ⟨ret_b ?_, by (repeat (first | with_reducible exact Below.refl _ _ | with_reducible assumption | with_reducible refine Below.drew ?_ | with_reducible refine below_drewN ?_ _ | with_reducible refine below_al ?_ _ | with_reducible refine Below.setCell ?_ ?_ _ | exact Nat.le_refl _ | omega | (simp; done) | (simp; omega)))⟩
            have h := HST.out
            have q2 := Q2.out
            rw [keyOk_no (by omega), Bool.false_and] at h
            rw [h]
            rfl
        · obtain rfl : j = n := by omega
          have hR : R1 = true := by rw [← HK.out, List.drop_eq_nil_of_le (by rw [← HN.out]; omega)]; rfl
          subst hR
          go_wp2
          go_ret
          exact ⟨ret_b (by rw [Bool.eq_iff_iff]; simp; omega), hbw⟩
  · have e107 : ((k.toNat : Int) != 107) = true := by simp; omega
    have hr : Ox.keyed k l = decide (n = 0) := by simp [Ox.keyed, h107, hn]
    rw [hr]
    clear hr h107
    rcases h with ⟨h0, a, c, rfl⟩ | ⟨b, off, c, rfl, hb, hc, hm, hx⟩
    · subst h0
      have hn0 : n = 0 := by rw [hn]; rfl
      subst hn0
      clear hn
      go_enter Tryd.func39, Tryd.ntmps39
      go_wp2
      go_ret
      exact ⟨rfl, Below.refl _ _⟩
    · rw [← hn]
      clear hx hn
      go_enter Tryd.func39, Tryd.ntmps39
      go_wp2
      go_ret
      exact ⟨ret_b (by rw [Bool.eq_iff_iff]; simp), Below.refl _ _⟩
end Go.Proofs.YtoekddkkjbcicaaDoor
