import Derived.Test.YtoekddkkjbcicaaDoorOpG
set_option linter.unusedVariables false
set_option linter.unusedSimpArgs false
namespace Go.Proofs.YtoekddkkjbcicaaDoor
open Go.RowKit
attribute [local simp] Lx.bs_size
def sts (l : List Ox.S) : List Value := l.map fun p => .string (Lx.bs p)
theorem sts_at {l : List Ox.S} {k : Nat} {p : Ox.S} (h : l[k]? = some p) : (sts l)[k]? = some (.string (Lx.bs p)) := by rw [sts, List.getElem?_map, h]; rfl
theorem contains_step {L : List Ox.S} {k : Nat} {m s : Ox.S} (h : L[k]? = some m) : (L.drop k).contains s = (s == m || (L.drop (k + 1)).contains s) := by
  obtain ⟨h1, h2⟩ := List.getElem?_eq_some_iff.1 h
  rw [List.drop_eq_getElem_cons h1, h2, List.contains_cons]
theorem opone_any (s : ByteArray) (v : Value) (L : List Ox.S) (w : World) (hL : L.length ≤ 1000) (h : Row1 w v L.length (sts L)) :
    Calls Tryd.prog 59 #[.string s, v] w fun e w' => e = .returned (.bool (L.contains (Lx.ls s))) ∧ w = w' := by
  generalize hR : L.contains (Lx.ls s) = R
  have HR : Hid ((L.drop 0).contains (Lx.ls s) = R) := Lib.hid hR
  clear hR
  rcases h with ⟨h0, rfl⟩ | ⟨g, c, rfl, hg, hc, hm, hx⟩
  · have hL0 : L = [] := List.eq_nil_of_length_eq_zero h0
    subst hL0
    have hR : R = false := by rw [← HR.out]; rfl
    subst hR
    go_enter Tryd.func59, Tryd.ntmps59
    go_wp2
    refine wp_loop_rounds 1 ?_
    rw [rounds_succ]
    go_wp2
    go_ret
    exact ⟨rfl, rfl⟩
  obtain ⟨n, hn⟩ : ∃ n, n = L.length := ⟨_, rfl⟩
  rw [← hn] at hL hc
  rw [← hn]
  have HN := Lib.hid hn
  have HX := Lib.hid hx
  clear hn hx
  go_enter Tryd.func59, Tryd.ntmps59
  go_wp2
  go_loop [6, 9] (fun _ i => ∃ k : Nat, k ≤ n ∧ i = .int .i64 k ∧ Hid ((L.drop k).contains (Lx.ls s) = R)) (fun _ i => n - (intOf i).toNat)
  case atStart => exact ⟨0, by omega, rfl, HR⟩
  case round =>
    obtain ⟨k, hk, rfl, HK⟩ := hrel
    by_cases hlt : k < n
    · obtain ⟨m, hm2⟩ : ∃ m, L[k]? = some m := ⟨_, List.getElem?_eq_getElem (by rw [← HN.out]; exact hlt)⟩
      have a0 : w.cell? ⟨g, k, none⟩ = some (.string (Lx.bs m)) := HX.out k _ (sts_at hm2)
      have hq : ((Lx.bs m).toList == s.toList) = (Lx.ls s == m) := by rw [Lx.bs_toList, Lx.toList_ls, Bool.eq_iff_iff]; simp only [beq_iff_eq]; exact eq_comm
      have hst := contains_step (s := Lx.ls s) hm2
      rw [HK.out] at hst
      clear hm2
      cases hp : (Lx.ls s == m) with
      | true =>
        rw [hp] at hq
        rw [hp, Bool.true_or] at hst
        subst hst
        clear hp
        go_wp2
        go_ret
        exact ⟨rfl, rfl⟩
      | false =>
        rw [hp] at hq
        rw [hp, Bool.false_or] at hst
        have HK' := Lib.hid hst.symm
        clear hp hst
        go_wp2
        go_round
        case rel => exact ⟨k + 1, by omega, by go_num, HK'⟩
        case measure => simp [intOf]; omega
    · obtain rfl : k = n := by omega
      have hR : R = false := by rw [← HK.out, List.drop_eq_nil_of_le (by rw [← HN.out]; omega)]; rfl
      subst hR
      go_wp2
      go_ret
      exact ⟨rfl, rfl⟩
theorem among_any (s : ByteArray) (v : Value) (L : List Ox.S) (w : World) (hL : L.length ≤ 1000) (h : Row1 w v L.length (sts L)) :
    Calls Tryd.prog 54 #[.string s, v] w fun e w' => e = .returned (.bool (L.contains (Lx.ls s))) ∧ w = w' := by
  generalize hR : L.contains (Lx.ls s) = R
  have HR : Hid ((L.drop 0).contains (Lx.ls s) = R) := Lib.hid hR
  clear hR
  rcases h with ⟨h0, rfl⟩ | ⟨g, c, rfl, hg, hc, hm, hx⟩
  · have hL0 : L = [] := List.eq_nil_of_length_eq_zero h0
    subst hL0
    have hR : R = false := by rw [← HR.out]; rfl
    subst hR
    go_enter Tryd.func54, Tryd.ntmps54
    go_wp2
    refine wp_loop_rounds 1 ?_
    rw [rounds_succ]
    go_wp2
    go_ret
    exact ⟨rfl, rfl⟩
  obtain ⟨n, hn⟩ : ∃ n, n = L.length := ⟨_, rfl⟩
  rw [← hn] at hL hc
  rw [← hn]
  have HN := Lib.hid hn
  have HX := Lib.hid hx
  clear hn hx
  go_enter Tryd.func54, Tryd.ntmps54
  go_wp2
  go_loop [5] (fun i => ∃ k : Nat, k ≤ n ∧ i = .int .i64 k ∧ Hid ((L.drop k).contains (Lx.ls s) = R)) (fun i => n - (intOf i).toNat)
  case atStart => exact ⟨0, by omega, rfl, HR⟩
  case round =>
    obtain ⟨k, hk, rfl, HK⟩ := hrel
    by_cases hlt : k < n
    · obtain ⟨m, hm2⟩ : ∃ m, L[k]? = some m := ⟨_, List.getElem?_eq_getElem (by rw [← HN.out]; exact hlt)⟩
      have a0 : w.cell? ⟨g, k, none⟩ = some (.string (Lx.bs m)) := HX.out k _ (sts_at hm2)
      have hq : ((Lx.bs m).toList == s.toList) = (Lx.ls s == m) := by rw [Lx.bs_toList, Lx.toList_ls, Bool.eq_iff_iff]; simp only [beq_iff_eq]; exact eq_comm
      have hst := contains_step (s := Lx.ls s) hm2
      rw [HK.out] at hst
      clear hm2
      cases hp : (Lx.ls s == m) with
      | true =>
        rw [hp] at hq
        rw [hp, Bool.true_or] at hst
        subst hst
        clear hp
        go_wp2
        go_ret
        exact ⟨rfl, rfl⟩
      | false =>
        rw [hp] at hq
        rw [hp, Bool.false_or] at hst
        have HK' := Lib.hid hst.symm
        clear hp hst
        go_wp2
        go_round
        case rel => exact ⟨k + 1, by omega, by go_num, HK'⟩
        case measure => simp [intOf]; omega
    · obtain rfl : k = n := by omega
      have hR : R = false := by rw [← HK.out, List.drop_eq_nil_of_le (by rw [← HN.out]; omega)]; rfl
      subst hR
      go_wp2
      go_ret
      exact ⟨rfl, rfl⟩
theorem key_any (c cl : Int) (d : Bool) (w : World) (h1 : -9223372036854775808 ≤ c) (h2 : c ≤ 9223372036854775807) :
    Calls Tryd.prog 44 #[.agg #[.int .i64 c, .int .i64 cl, .bool d]] w fun e w' => e = .returned (.string (Lx.bs (Ox.keyS ⟨c, cl, d⟩))) ∧ Below w.heap.size w w' := by
  have hnl := num_21 h1 h2
  obtain ⟨R, hR⟩ : ∃ R, R = Ox.keyS ⟨c, cl, d⟩ := ⟨_, rfl⟩
  rw [← hR]
  by_cases hc : cl = 1
  · subst hc
    cases d with
    | true =>
      have HR := Lib.hid (show Lx.bs R = Lx.bs (Ox.num c) ++ Lx.bs [100] ++ Lx.bs [110] from by rw [hR, Ox.keyS]; exact cat3 _ _ _)
      clear hR
      go_enter Tryd.func44, Tryd.ntmps44
      go_wp2_with fail
      refine (tnum_any c _ h1 h2).mono ?_
      rintro e w1 ⟨rfl, hb1⟩
      obtain ⟨hc1, hf1⟩ := bcell hb1
      have m1 := hc1 w.heap.size 1 (by simp)
      have m2 := hc1 w.heap.size 2 (by simp)
      simp [World.cell?] at m1 m2
      go_wp2
      go_ret
      exact ⟨ret_s HR.out.symm, below_next (by (repeat (first | with_reducible exact Below.refl _ _ | with_reducible assumption | with_reducible refine Below.drew ?_ | with_reducible refine below_drewN ?_ _ | with_reducible refine below_al ?_ _ | with_reducible refine Below.setCell ?_ ?_ _ | exact Nat.le_refl _ | omega | (simp; done) | (simp; omega)))) hb1⟩
    | false =>
      have HR := Lib.hid (show Lx.bs R = Lx.bs (Ox.num c) ++ Lx.bs [97] ++ Lx.bs [110] from by rw [hR, Ox.keyS]; exact cat3 _ _ _)
      clear hR
      go_enter Tryd.func44, Tryd.ntmps44
      go_wp2_with fail
      refine (tnum_any c _ h1 h2).mono ?_
      rintro e w1 ⟨rfl, hb1⟩
      obtain ⟨hc1, hf1⟩ := bcell hb1
      have m1 := hc1 w.heap.size 1 (by simp)
      have m2 := hc1 w.heap.size 2 (by simp)
      simp [World.cell?] at m1 m2
      go_wp2
      go_ret
      exact ⟨ret_s HR.out.symm, below_next (by (repeat (first | with_reducible exact Below.refl _ _ | with_reducible assumption | with_reducible refine Below.drew ?_ | with_reducible refine below_drewN ?_ _ | with_reducible refine below_al ?_ _ | with_reducible refine Below.setCell ?_ ?_ _ | exact Nat.le_refl _ | omega | (simp; done) | (simp; omega)))) hb1⟩
  · have dc : (cl == 1) = false := by simpa using hc
    cases d with
    | true =>
      have HR := Lib.hid (show Lx.bs R = Lx.bs (Ox.num c) ++ Lx.bs [100] ++ Lx.bs [98] from by rw [hR, Ox.keyS]; rw [if_neg hc]; exact cat3 _ _ _)
      clear hR hc
      go_enter Tryd.func44, Tryd.ntmps44
      go_wp2_with fail
      refine (tnum_any c _ h1 h2).mono ?_
      rintro e w1 ⟨rfl, hb1⟩
      obtain ⟨hc1, hf1⟩ := bcell hb1
      have m1 := hc1 w.heap.size 1 (by simp)
      have m2 := hc1 w.heap.size 2 (by simp)
      simp [World.cell?] at m1 m2
      go_wp2
      go_ret
      exact ⟨ret_s HR.out.symm, below_next (by (repeat (first | with_reducible exact Below.refl _ _ | with_reducible assumption | with_reducible refine Below.drew ?_ | with_reducible refine below_drewN ?_ _ | with_reducible refine below_al ?_ _ | with_reducible refine Below.setCell ?_ ?_ _ | exact Nat.le_refl _ | omega | (simp; done) | (simp; omega)))) hb1⟩
    | false =>
      have HR := Lib.hid (show Lx.bs R = Lx.bs (Ox.num c) ++ Lx.bs [97] ++ Lx.bs [98] from by rw [hR, Ox.keyS]; rw [if_neg hc]; exact cat3 _ _ _)
      clear hR hc
      go_enter Tryd.func44, Tryd.ntmps44
      go_wp2_with fail
      refine (tnum_any c _ h1 h2).mono ?_
      rintro e w1 ⟨rfl, hb1⟩
      obtain ⟨hc1, hf1⟩ := bcell hb1
      have m1 := hc1 w.heap.size 1 (by simp)
      have m2 := hc1 w.heap.size 2 (by simp)
      simp [World.cell?] at m1 m2
      go_wp2
      go_ret
      exact ⟨ret_s HR.out.symm, below_next (by (repeat (first | with_reducible exact Below.refl _ _ | with_reducible assumption | with_reducible refine Below.drew ?_ | with_reducible refine below_drewN ?_ _ | with_reducible refine below_al ?_ _ | with_reducible refine Below.setCell ?_ ?_ _ | exact Nat.le_refl _ | omega | (simp; done) | (simp; omega)))) hb1⟩
theorem ends_any (c cl : Int) (d : Bool) (w : World) :
    Calls Tryd.prog 28 #[.agg #[.int .i64 c, .int .i64 cl, .bool d]] w fun e w' => e = .returned (.string (Lx.bs ((if d then [100] else [97]) ++ (if cl = 1 then [110] else [98])))) ∧ Below w.heap.size w w' := by
  by_cases hc : cl = 1
  · subst hc
    cases d <;>
      (go_enter Tryd.func28, Tryd.ntmps28
       go_wp2
       go_ret
       exact ⟨rfl, by (repeat (first | with_reducible exact Below.refl _ _ | with_reducible assumption | with_reducible refine Below.drew ?_ | with_reducible refine below_drewN ?_ _ | with_reducible refine below_al ?_ _ | with_reducible refine Below.setCell ?_ ?_ _ | exact Nat.le_refl _ | omega | (simp; done) | (simp; omega)))⟩)
  · have dc : (cl == 1) = false := by simpa using hc
    rw [if_neg hc]
    clear hc
    cases d <;>
      (go_enter Tryd.func28, Tryd.ntmps28
       go_wp2
       go_ret
       exact ⟨rfl, by (repeat (first | with_reducible exact Below.refl _ _ | with_reducible assumption | with_reducible refine Below.drew ?_ | with_reducible refine below_drewN ?_ _ | with_reducible refine below_al ?_ _ | with_reducible refine Below.setCell ?_ ?_ _ | exact Nat.le_refl _ | omega | (simp; done) | (simp; omega)))⟩)
end Go.Proofs.YtoekddkkjbcicaaDoor
