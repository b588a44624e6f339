import Derived.Test.YtepdpdlakgnpmaaRefLexF
set_option linter.unusedVariables false
set_option linter.unusedSimpArgs false
namespace Go.Proofs.Ytepdpdlakgnpmaa
open Go.RowKit
attribute [local simp] Lx.bs_size
def Toks (w : World) (v : Value) (l : List Lx.TA) : Prop :=
  (l = [] ∧ v = .slice none 0 0) ∨ ∃ g c, v = .slice (some ⟨g, 0, none⟩) l.length c ∧ g < w.heap.size ∧ l.length ≤ c ∧ c ≤ maxLen ∧ ∀ j u, (l.flatMap tcells)[j]? = some u → w.cell? ⟨g, j, none⟩ = some u
theorem toks_of_own {w : World} {base : Nat} {v : Value} {l : List Lx.TA} (h : w.ownsRow base 33 6 v l.length (l.flatMap tcells)) : Toks w v l := by
  rcases h.2 with ⟨rfl, hn⟩ | ⟨g, cap, cur, rfl, hb, hh, hc, hm, hs, ht⟩
  · exact .inl ⟨List.eq_nil_of_length_eq_zero hn, rfl⟩
  · refine .inr ⟨g, cap, rfl, blk_lt hh, hc, hm, fun j u hu => ?_⟩
    have h2 := h.cells (g := g) rfl j u hu
    rwa [add_zero_addr] at h2
theorem toks_keep {W w1 : World} {v : Value} {l : List Lx.TA} (h : Toks W v l) (hb : Below W.heap.size W w1) : Toks w1 v l := by
  rcases h with h | ⟨g, c, h1, h2, h3, h4, h5⟩
  · exact .inl h
  · exact .inr ⟨g, c, h1, Nat.lt_of_lt_of_le h2 hb.size, h3, h4, fun j u hu => (hb.cell (p := ⟨g, j, none⟩) h2).trans (h5 j u hu)⟩
theorem flat_at {l : List Lx.TA} {i j : Nat} {t : Lx.TA} (h : l[i]? = some t) (hj : j < 6) : (l.flatMap tcells)[i * 6 + j]? = (tcells t)[j]? := by
  induction l generalizing i with
  | nil => simp at h
  | cons a l ih =>
    rw [List.flatMap_cons]
    have hla : (tcells a).length = 6 := rfl
    cases i with
    | zero =>
      simp at h
      subst h
      rw [List.getElem?_append_left (by omega)]
      simp
    | succ i =>
      rw [List.getElem?_append_right (by omega), hla, ← ih (i := i) (by simpa using h)]
      congr 1
      omega
set_option maxHeartbeats 1000000 in
theorem same_some (g g' c c' n : Nat) (la lb : List Lx.TA) (w : World) (hn : n ≤ 100000) (hc : n ≤ c) (hc' : n ≤ c') (hcm : c ≤ maxLen) (hcm' : c' ≤ maxLen) (hla : la.length = n) (hlb : lb.length = n)
    (ha : ∀ j u, (la.flatMap tcells)[j]? = some u → w.cell? ⟨g, j, none⟩ = some u) (hb : ∀ j u, (lb.flatMap tcells)[j]? = some u → w.cell? ⟨g', j, none⟩ = some u) (he : la.map (·.1) = lb.map (·.1)) :
    Calls Try.prog 11 #[.slice (some ⟨g, 0, none⟩) n c, .slice (some ⟨g', 0, none⟩) n c'] w fun e w' => e = .returned (.bool true) ∧ Below w.heap.size w w' := by
  have HA := Lib.hid ha
  have HB := Lib.hid hb
  have HE := Lib.hid he
  have HLA := Lib.hid hla
  have HLB := Lib.hid hlb
  clear ha hb he hla hlb
  have d0 : ((n : Int) != (n : Int)) = false := by simp
  go_enter Try.func11, Try.ntmps11
  go_wp2
  go_loopw [5] (fun i wr => ∃ k : Nat, k ≤ n ∧ i = .int .i64 k ∧ Below w.heap.size w wr ∧ (∀ p : Addr, wr.cell? p = w.cell? p)) (fun i _ => n - (intOf i).toNat)
  case atStart => exact ⟨0, by omega, rfl, Below.refl _ _, fun _ => rfl⟩
  case round =>
    obtain ⟨k, hk, rfl, hbw, hcw⟩ := hrel
    have HCW := Lib.hid hcw
    clear hcw
    by_cases hlt : k < n
    · obtain ⟨ta, hta⟩ : ∃ t, la[k]? = some t := ⟨_, List.getElem?_eq_getElem (by rw [HLA.out]; exact hlt)⟩
      obtain ⟨tb, htb⟩ : ∃ t, lb[k]? = some t := ⟨_, List.getElem?_eq_getElem (by rw [HLB.out]; exact hlt)⟩
      have hab : ta.1 = tb.1 := by
        have h1 : (la.map (·.1))[k]? = some ta.1 := by rw [List.getElem?_map, hta]; rfl
        rw [HE.out, List.getElem?_map, htb] at h1
        simpa using h1.symm
      have a0 : wr.cell? ⟨g, k * 6, none⟩ = some (.int .i64 ta.1.kind) := (HCW.out ⟨g, k * 6 + 0, none⟩).trans (HA.out _ _ (flat_at hta (j := 0) (by omega)))
      have a1 : wr.cell? ⟨g, k * 6 + 1, none⟩ = some (.string (Lx.bs ta.1.text)) := (HCW.out ⟨g, k * 6 + 1, none⟩).trans (HA.out _ _ (flat_at hta (j := 1) (by omega)))
      have a2 : wr.cell? ⟨g, k * 6 + 2, none⟩ = some (.int .i64 ta.1.val.1) := (HCW.out ⟨g, k * 6 + 2, none⟩).trans (HA.out _ _ (flat_at hta (j := 2) (by omega)))
      have a3 : wr.cell? ⟨g, k * 6 + 2 + 1, none⟩ = some (.int .i64 ta.1.val.2.1) := (HCW.out ⟨g, k * 6 + 3, none⟩).trans (HA.out _ _ (flat_at hta (j := 3) (by omega)))
      have a4 : wr.cell? ⟨g, k * 6 + 2 + 2, none⟩ = some (.string (Lx.bs ta.1.val.2.2)) := (HCW.out ⟨g, k * 6 + 4, none⟩).trans (HA.out _ _ (flat_at hta (j := 4) (by omega)))
      have b0 : wr.cell? ⟨g', k * 6, none⟩ = some (.int .i64 tb.1.kind) := (HCW.out ⟨g', k * 6 + 0, none⟩).trans (HB.out _ _ (flat_at htb (j := 0) (by omega)))
      have b1 : wr.cell? ⟨g', k * 6 + 1, none⟩ = some (.string (Lx.bs tb.1.text)) := (HCW.out ⟨g', k * 6 + 1, none⟩).trans (HB.out _ _ (flat_at htb (j := 1) (by omega)))
      have b2 : wr.cell? ⟨g', k * 6 + 2, none⟩ = some (.int .i64 tb.1.val.1) := (HCW.out ⟨g', k * 6 + 2, none⟩).trans (HB.out _ _ (flat_at htb (j := 2) (by omega)))
      have b3 : wr.cell? ⟨g', k * 6 + 2 + 1, none⟩ = some (.int .i64 tb.1.val.2.1) := (HCW.out ⟨g', k * 6 + 3, none⟩).trans (HB.out _ _ (flat_at htb (j := 3) (by omega)))
      have b4 : wr.cell? ⟨g', k * 6 + 2 + 2, none⟩ = some (.string (Lx.bs tb.1.val.2.2)) := (HCW.out ⟨g', k * 6 + 4, none⟩).trans (HB.out _ _ (flat_at htb (j := 4) (by omega)))
      rw [← hab] at b0 b1 b2 b3 b4
      clear hta htb hab
      go_wp2
      go_quiet (fail)
      go_wp2
      go_roundw
      case rel => exact ⟨k + 1, by omega, by go_num, by (repeat (first | with_reducible exact Below.refl _ _ | with_reducible assumption | with_reducible refine Below.drew ?_ | with_reducible refine below_drewN ?_ _ | with_reducible refine below_al ?_ _ | with_reducible refine Below.setCell ?_ ?_ _ | exact Nat.le_refl _ | omega | (simp; done) | (simp; omega))), fun p => HCW.out p⟩
      case measure => simp [intOf]; omega
    · obtain rfl : k = n := by omega
      go_wp2
      go_ret
      exact ⟨rfl, hbw⟩
theorem same_none (w : World) : Calls Try.prog 11 #[.slice none 0 0, .slice none 0 0] w fun e w' => e = .returned (.bool true) ∧ Below w.heap.size w w' := by
  go_enter Try.func11, Try.ntmps11
  go_wp2
  refine wp_loop_rounds 1 ?_
  rw [rounds_succ]
  go_wp2
  go_ret
  exact ⟨rfl, Below.refl _ _⟩
/-- Same, of rows that are the same but for their places: true. -/
theorem same_any (va vb : Value) (la lb : List Lx.TA) (w : World) (ha : Toks w va la) (hb : Toks w vb lb) (hn : la.length ≤ 100000) (he : la.map (·.1) = lb.map (·.1)) :
    Calls Try.prog 11 #[va, vb] w fun e w' => e = .returned (.bool true) ∧ Below w.heap.size w w' := by
  have hl : la.length = lb.length := by have := congrArg List.length he; simpa using this
  rcases ha with ⟨rfl, rfl⟩ | ⟨g, c, rfl, _, hc, hcm, h5⟩
  · rcases hb with ⟨rfl, rfl⟩ | ⟨g', c', rfl, _, hc', hcm', h5'⟩
    · exact same_none w
    · have h0 : lb = [] := List.eq_nil_of_length_eq_zero hl.symm
      subst h0
      go_enter Try.func11, Try.ntmps11
      go_wp2
      refine wp_loop_rounds 1 ?_
      rw [rounds_succ]
      go_wp2
      go_ret
      exact ⟨rfl, Below.refl _ _⟩
  · rcases hb with ⟨rfl, rfl⟩ | ⟨g', c', rfl, _, hc', hcm', h5'⟩
    · have h0 : la = [] := List.eq_nil_of_length_eq_zero hl
      subst h0
      go_enter Try.func11, Try.ntmps11
      go_wp2
      refine wp_loop_rounds 1 ?_
      rw [rounds_succ]
      go_wp2
      go_ret
      exact ⟨rfl, Below.refl _ _⟩
    · rw [← hl] at hc' ⊢
      exact same_some g g' c c' la.length la lb w hn hc hc' hcm hcm' rfl hl.symm h5 h5' he
end Go.Proofs.Ytepdpdlakgnpmaa
