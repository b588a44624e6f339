/- tomelaw24.LexPartsScan returns true at every text: its parts, each scanned by itself, have together its tokens, but the marks that part and the ends. No condition. -/
import Derived.Test.YtepdpdlakgnpmaaLexWords
import Derived.Test.YtepdpdlakgnpmaaLxJ
set_option linter.unusedVariables false
set_option linter.unusedSimpArgs false
namespace Go.Proofs.Ytepdpdlakgnpmaa
open Go.RowKit
open Go.ChangeShapes Go.WideShapes Go.ChangeAt Go.ChangeMaps
attribute [local simp] Lx.bs_size
/-- 'out = append(out, xs...)': a row's cells onto a row of the call's own. -/
theorem wpList_appm {P : Program} {ops : Array Oper} {rest : List Oper} {o : Oper} {a : Act} {Q : Exit → Act → World → Prop} (hgd : o.guard = none) (s x : Operand) (t e : TypeId)
    (ho : o.op = .call { callee := .builtin .append, args := #[s, x], argTypes := #[t, t] })
    (ht : P.underlying t = some (.slice e)) {z : Value} {size bytes : Nat} (hinfo : (P.info? e).map (fun i => (i.zero, i.size, i.bytes)) = some (some z, size, bytes))
    (hzs : z.cells.size = size) (hsz : 0 < size) (W : World) (base : Nat) (v : Value) (n : Nat) (xs : List Value) (hs : a.eval s = v) (hown : W.ownsRow base e size v n xs)
    (g m c : Nat) (news : List Value) (hx : a.eval x = .slice (some ⟨g, 0, none⟩) m c) (hl : news.length = m * size) (hnews : ∀ j u, news[j]? = some u → W.cell? ⟨g, j, none⟩ = some u) (h1 : ∀ u ∈ news, u.oneCell' = true)
    (hn : n + m ≤ maxLen) (hbytes : (n + m) * bytes ≤ 140737488355328) (hbase : base ≤ W.heap.size) (B : Nat) (hB : B ≤ base)
    (h : ∀ v' w', w'.ownsRow base e size v' (n + m) (xs ++ news) → Below B W w' → wpList P ops Q rest (a.put o.dst v') w') :
    wpList P ops Q (o :: rest) a W := by
  obtain ⟨i, hi, hz, h2, h3⟩ := info_of hinfo
  refine wpList_append_own _ hgd s x t ho base e i z size bytes ht hi hz h2 h3 hzs hsz v n xs hs hown ⟨g, 0, none⟩ m c news hx hl ?_ h1 hn hbytes hbase ?_
  · intro j u hu
    rw [add_zero_addr]
    exact hnews j u hu
  · intro v' w' hown' hg _
    exact h v' w' hown' (own_below hown hg hB hbase)
theorem tcells_one (l : List Lx.TA) : ∀ u ∈ l.flatMap tcells, u.oneCell' = true := by
  intro u hu
  obtain ⟨t, _, hu⟩ := List.mem_flatMap.1 hu
  simp only [tcells, List.mem_cons, List.not_mem_nil, or_false] at hu
  rcases hu with rfl | rfl | rfl | rfl | rfl | rfl <;> rfl
theorem lexPartsScan_great (s : ByteArray) (w : World) (hs : 5000 < s.size) :
    Calls Try.prog 7 #[.string s] w fun e w' => e = .returned (.bool true) ∧ Below w.heap.size w w' := by
  have d1 : decide (5000 < (s.size : Int)) = true := decide_eq_true (by omega)
  go_enter Try.func7, Try.ntmps7
  go_wp2_with fail
  refine (awake_any w).mono ?_
  rintro e w1 ⟨rfl, hb1⟩
  go_wp2_with fail
  refine (awake_any w1).mono ?_
  rintro e w2 ⟨rfl, hb2⟩
  go_wp2
  go_ret
  exact ⟨rfl, below_next hb1 hb2⟩
set_option maxRecDepth 100000 in
set_option maxHeartbeats 4000000 in
theorem lexPartsScan_small (s : ByteArray) (w : World) (hs : ¬ 5000 < s.size) :
    Calls Try.prog 7 #[.string s] w fun e w' => e = .returned (.bool true) ∧ Below w.heap.size w w' := by
  have d1 : decide (5000 < (s.size : Int)) = false := decide_eq_false (by omega)
  obtain ⟨R, hR⟩ : ∃ R, R = Lx.scan (Lx.ls s) := ⟨_, rfl⟩
  obtain ⟨l, at_, er⟩ := R
  by_cases he : er = 0
  · subst he
    obtain ⟨ext, hlex, hle, hext, hrise, hsz⟩ := Lx.scan_lexed hR.symm
    have hok := Lx.lexed_ok hlex
    have hpt := Lx.partsOf_toks hlex
    rw [Lx.ls_length] at hle hpt
    have hkm := Lx.keep_map (e := s.size) hok
    rw [← hle] at hkm
    obtain ⟨F, hF⟩ : ∃ F, F = (ext.map (·.1)).filter (fun t => !Lx.semi t) := ⟨_, rfl⟩
    have hFl : F.length ≤ 4096 := by rw [hF]; exact Nat.le_trans (List.length_filter_le _ _) (by simpa using hext)
    rw [← hF] at hpt hkm
    obtain ⟨P, hP⟩ : ∃ P, P = Lx.partsOf (Lx.ls s) := ⟨_, rfl⟩
    rw [← hP] at hpt
    have hPl := Lx.pt_len hpt
    obtain ⟨Wt, hWt⟩ : ∃ Wt, Wt = l.filter Lx.keepA := ⟨_, rfl⟩
    rw [← hWt] at hkm
    have hlen : l.length ≤ 4097 := by rw [hle]; simp; omega
    have hlen1 : 1 ≤ l.length := by rw [hle]; simp
    have HR := Lib.hid hR
    have HP := Lib.hid hP
    have HPT := Lib.hid hpt
    have HKM := Lib.hid hkm
    have HWT := Lib.hid hWt
    clear hR hlex hle hext hrise hsz hok hpt hkm hF hP hWt
    go_enter Try.func7, Try.ntmps7
    go_wp2_with fail
    refine (awake_any w).mono ?_
    rintro e w1 ⟨rfl, hb1⟩
    go_wp2_with fail
    refine (scan_any s w1 (by omega)).mono ?_
    rintro e w2 ⟨v2, rfl, hown2, hb2⟩
    rw [← HR.out] at hown2 ⊢
    have hB2 := below_next (w := w) hb1 hb2
    have ht2 := toks_of_own hown2
    clear hown2 hb1 hb2
    obtain ⟨n, hn2⟩ : ∃ n, n = l.length := ⟨_, rfl⟩
    have HN := Lib.hid hn2
    rw [← hn2] at hlen hlen1
    rcases ht2 with ⟨h0, rfl⟩ | ⟨g2, c2, rfl, hg2, hc2, hm2, hx2⟩
    · subst h0; simp at hn2; omega
    rw [← hn2] at hc2 ⊢
    have HX2 := Lib.hid hx2
    clear hx2 hn2
    go_wp2
    go_loopw [6, 8] (fun v i wr => ∃ (k : Nat) (acc : List Lx.TA), k ≤ n ∧ i = .int .i64 k ∧ acc.length ≤ k ∧ wr.ownsRow w2.heap.size 33 6 v acc.length (acc.flatMap tcells) ∧ Below w2.heap.size w2 wr ∧ Hid (acc ++ (l.drop k).filter Lx.keepA = Wt)) (fun _ i _ => n - (intOf i).toNat)
    case atStart => exact ⟨0, [], by omega, rfl, by simp, World.ownsRow_nil _ _ _ _, Below.refl _ _, Lib.hid HWT.out.symm⟩
    case round =>
      obtain ⟨k, acc, hk, rfl, hak, hown, hbw, HA⟩ := hrel
      by_cases hlt : k < n
      · have dl : decide ((k : Int) < (n : Int)) = true := decide_eq_true (by omega)
        obtain ⟨t, ht⟩ : ∃ t, l[k]? = some t := ⟨_, List.getElem?_eq_getElem (by rw [← HN.out]; exact hlt)⟩
        have hdrop : l.drop k = t :: l.drop (k + 1) := by
          obtain ⟨h1, h2⟩ := List.getElem?_eq_some_iff.1 ht
          rw [List.drop_eq_getElem_cons h1, h2]
        have ha := HA.out
        rw [hdrop, List.filter_cons] at ha
        obtain ⟨⟨tk, tt, tv0, tv1, tv2⟩, tp⟩ := t
        have hg3 : g2 < wr.heap.size := Nat.lt_of_lt_of_le hg2 hbw.size
        have a0 : wr.cell? ⟨g2, k * 6, none⟩ = some (.int .i64 tk) := (hbw.cell (p := ⟨g2, k * 6, none⟩) hg2).trans (HX2.out _ _ (flat_at ht (j := 0) (by omega)))
        have a1 : wr.cell? ⟨g2, k * 6 + 1, none⟩ = some (.string (Lx.bs tt)) := (hbw.cell (p := ⟨g2, k * 6 + 1, none⟩) hg2).trans (HX2.out _ _ (flat_at ht (j := 1) (by omega)))
        have a2 : wr.cell? ⟨g2, k * 6 + 2, none⟩ = some (.int .i64 tv0) := (hbw.cell (p := ⟨g2, k * 6 + 2, none⟩) hg2).trans (HX2.out _ _ (flat_at ht (j := 2) (by omega)))
        have a3 : wr.cell? ⟨g2, k * 6 + 3, none⟩ = some (.int .i64 tv1) := (hbw.cell (p := ⟨g2, k * 6 + 3, none⟩) hg2).trans (HX2.out _ _ (flat_at ht (j := 3) (by omega)))
        have a4 : wr.cell? ⟨g2, k * 6 + 4, none⟩ = some (.string (Lx.bs tv2)) := (hbw.cell (p := ⟨g2, k * 6 + 4, none⟩) hg2).trans (HX2.out _ _ (flat_at ht (j := 4) (by omega)))
        have a5 : wr.cell? ⟨g2, k * 6 + 5, none⟩ = some (.int .i64 (tp : Int)) := (hbw.cell (p := ⟨g2, k * 6 + 5, none⟩) hg2).trans (HX2.out _ _ (flat_at ht (j := 5) (by omega)))
        have hs1 : ((Lx.bs tt).toList == (Lx.bs [59]).toList) = (tt == [59]) := by rw [Lx.bs_toList, Lx.bs_toList]
        have hs2 : (Lx.bs [59]).toList = [59] := by rw [Lx.bs_toList]
        rw [hs2] at hs1
        clear hdrop ht hs2
        have hkeep : Lx.keepA (⟨tk, tt, tv0, tv1, tv2⟩, tp) = (tk != 0 && (tk != 4 || tt != [59])) := rfl
        rw [hkeep] at ha
        by_cases hk0 : tk = 0
        · subst hk0
          have HA' : Hid (acc ++ (l.drop (k + 1)).filter Lx.keepA = Wt) := Lib.hid ha
          clear ha hkeep
          go_wp2
          go_roundw
          case rel => exact ⟨k + 1, acc, by omega, by go_num, by omega, hown, hbw, HA'⟩
          case measure => simp [intOf]; omega
        · have dk0 : (tk != 0) = true := by simpa using hk0
          rw [dk0, Bool.true_and] at ha
          by_cases hk4 : tk = 4
          · subst hk4
            by_cases h59 : tt = [59]
            · have dt : (tt != [59]) = false := by simpa using h59
              have dt2 : (tt == [59]) = true := by simpa using h59
              rw [dt] at ha
              rw [dt2] at hs1
              have HA' : Hid (acc ++ (l.drop (k + 1)).filter Lx.keepA = Wt) := Lib.hid ha
              clear ha hkeep h59 dt dt2
              go_wp2
              go_roundw
              case rel => exact ⟨k + 1, acc, by omega, by go_num, by omega, hown, hbw, HA'⟩
              case measure => simp [intOf]; omega
            · have dt : (tt != [59]) = true := by simpa using h59
              have dt2 : (tt == [59]) = false := by simpa using h59
              rw [dt] at ha
              rw [dt2] at hs1
              have HA' : Hid (acc ++ [(⟨4, tt, tv0, tv1, tv2⟩, tp)] ++ (l.drop (k + 1)).filter Lx.keepA = Wt) := by unfold Hid; rw [← ha]; simp
              clear ha hkeep h59 dt dt2
              go_wp2_with (at_builtin; refine wpList_app2 rfl (.tmp 58) (.tmp 63) 23 33 rfl Try.underlying23 token_info rfl (by decide) _ _ rfl (by intro u hu; simp at hu; rcases hu with rfl | rfl | rfl | rfl | rfl | rfl <;> rfl) w2.heap.size _ _ _ rfl hown _ rfl (by simp) (by simp only [maxLen]; omega) (by omega) (by have := hbw.size; omega) w2.heap.size (Nat.le_refl _) ?_; intro v2 w3 hown3 hb3)
              go_roundw
              case rel => exact ⟨k + 1, acc ++ [(⟨4, tt, tv0, tv1, tv2⟩, tp)], by omega, by go_num, by simp; omega, by simpa [tcells] using hown3, hbw.trans hb3, HA'⟩
              case measure => simp [intOf]; omega
          · have dk4 : (tk != 4) = true := by simpa using hk4
            rw [dk4, Bool.true_or] at ha
            have dt := ()
            have h59 := ()
            have dt2 := ()
            have HA' : Hid (acc ++ [(⟨tk, tt, tv0, tv1, tv2⟩, tp)] ++ (l.drop (k + 1)).filter Lx.keepA = Wt) := by unfold Hid; rw [← ha]; simp
            clear ha hkeep h59 dt dt2
            go_wp2_with (at_builtin; refine wpList_app2 rfl (.tmp 58) (.tmp 63) 23 33 rfl Try.underlying23 token_info rfl (by decide) _ _ rfl (by intro u hu; simp at hu; rcases hu with rfl | rfl | rfl | rfl | rfl | rfl <;> rfl) w2.heap.size _ _ _ rfl hown _ rfl (by simp) (by simp only [maxLen]; omega) (by omega) (by have := hbw.size; omega) w2.heap.size (Nat.le_refl _) ?_; intro v2 w3 hown3 hb3)
            go_roundw
            case rel => exact ⟨k + 1, acc ++ [(⟨tk, tt, tv0, tv1, tv2⟩, tp)], by omega, by go_num, by simp; omega, by simpa [tcells] using hown3, hbw.trans hb3, HA'⟩
            case measure => simp [intOf]; omega
      · obtain rfl : k = n := by omega
        have hW2 : acc = Wt := by rw [← HA.out, List.drop_eq_nil_of_le (by rw [← HN.out]; omega)]; simp
        have HW2 := Lib.hid hW2
        clear hW2
        have htw := toks_of_own hown
        clear hown
        have hg3 : Below w.heap.size w wr := below_next hB2 hbw
        go_wp2_with fail
        refine (parts_any s wr (by omega)).mono ?_
        rintro e w4 ⟨v4, rfl, hown4, hb4⟩
        rw [← HP.out] at hown4
        have hp4 := row1_of_own hown4
        have htw := toks_keep htw hb4
        have hB4 := below_next hg3 hb4
        have HTW := Lib.hid htw
        clear hown4 hg3 hb4
        have hB2 := ()
        rcases hp4 with ⟨h0, rfl⟩ | ⟨g4, c4, rfl, hg4, hc4, hm4, hx4⟩
        · have hP0 : P = [] := List.eq_nil_of_length_eq_zero h0
          have hF0 : F = [] := by
            have h1 := HPT.out
            rw [hP0] at h1
            cases h1
            rfl
          have hKM := HKM.out
          rw [hF0, ← HW2.out] at hKM
          have ha0 : acc = [] := by simpa using hKM
          have hta : Toks w4 (.slice none 0 0) [] := .inl ⟨rfl, rfl⟩
          clear hP0 hF0 hKM
          go_wp2
          refine wp_loop_rounds 1 ?_
          rw [rounds_succ]
          go_wp2_with fail
          refine (same_any _ _ [] acc w4 hta HTW.out (by simp) (by rw [ha0])).mono ?_
          rintro e w5 ⟨rfl, hb5⟩
          go_wp2
          go_ret
          exact ⟨rfl, below_next hB4 hb5⟩
        · have HX4 := Lib.hid hx4
          obtain ⟨np, hnp⟩ : ∃ np, np = P.length := ⟨_, rfl⟩
          have HNP := Lib.hid hnp
          rw [← hnp] at hPl hc4
          rw [← hnp]
          have hFl2 : F.length ≤ 4096 := hFl
          clear hx4 hnp htw
          go_wp2
          go_loopw [7, 10] (fun v i wr => ∃ (k : Nat) (got : List Lx.TA) (rest : List Lx.T), k ≤ np ∧ i = .int .i64 k ∧ got.length + rest.length ≤ 4096 ∧ wr.ownsRow w4.heap.size 33 6 v got.length (got.flatMap tcells) ∧ Below w4.heap.size w4 wr ∧ Hid (got.map (·.1) ++ rest = F) ∧ Hid (Lx.PT s.size (P.drop k) rest)) (fun _ i _ => np - (intOf i).toNat)
          case atStart => exact ⟨0, [], F, by omega, rfl, by simpa using hFl2, World.ownsRow_nil _ _ _ _, Below.refl _ _, Lib.hid rfl, by rw [List.drop_zero]; exact HPT⟩
          case round =>
            obtain ⟨k, got, rest, hk, rfl, hgl, hown, hbw, HG, HPR⟩ := hrel
            by_cases hlt : k < np
            · have dl : decide ((k : Int) < (np : Int)) = true := decide_eq_true (by omega)
              obtain ⟨p, hp⟩ : ∃ p, P[k]? = some p := ⟨_, List.getElem?_eq_getElem (by rw [← HNP.out]; exact hlt)⟩
              have hdrop : P.drop k = p :: P.drop (k + 1) := by
                obtain ⟨h1, h2⟩ := List.getElem?_eq_some_iff.1 hp
                rw [List.drop_eq_getElem_cons h1, h2]
              have hpt := HPR.out
              rw [hdrop] at hpt
              obtain ⟨ts1, rest2, hrest, hlx, hne, hpl, hpt2⟩ := Lx.pt_cons hpt
              have HPR' := Lib.hid hpt2
              have hps : (Lx.bs p).size ≤ 5000 := by rw [Lx.bs_size]; omega
              subst hrest
              rw [List.length_append] at hgl
              obtain ⟨e2, hsc, he2⟩ := Lx.lexed_scan hlx (by omega) (by omega)
              have HG' : Hid ((got ++ e2).map (·.1) ++ rest2 = F) := by unfold Hid; rw [← HG.out, List.map_append, he2, List.append_assoc]
              have he2l : e2.length = ts1.length := by rw [← he2, List.length_map]
              obtain ⟨q, hq⟩ : ∃ q, q = e2.length := ⟨_, rfl⟩
              have hq1 : 1 ≤ q := by
                have := List.length_pos_iff.2 hne
                omega
              have hql : (e2 ++ [(Lx.endT, p.length)]).length = q + 1 := by rw [List.length_append, ← hq]; rfl
              have hgq : got.length + q + rest2.length ≤ 4096 := by omega
              have a0 : wr.cell? ⟨g4, k, none⟩ = some (.string (Lx.bs p)) := (hbw.cell (p := ⟨g4, k, none⟩) hg4).trans (HX4.out k _ (by rw [strs, List.getElem?_map, hp]; rfl))
              have HSC := Lib.hid hsc
              have HQL := Lib.hid hql
              have HQ := Lib.hid hq
              have hg4w : g4 < wr.heap.size := Nat.lt_of_lt_of_le hg4 hbw.size
              clear hdrop hp hpt hlx hne hpt2 hsc he2 he2l hq hql hgl
              go_wp2_with fail
              refine (scan_any _ wr (by omega)).mono ?_
              rintro e w5 ⟨v5, rfl, hown5, hb5⟩
              rw [Lx.ls_bs, HSC.out] at hown5 ⊢
              rw [show (e2 ++ [(Lx.endT, p.length)], 0, (0 : Int)).1.length = q + 1 from HQL.out] at hown5
              obtain ⟨g5, c5, rfl, hg5, hc5, hx5⟩ := own_some hown5
              have HX5 := Lib.hid hx5
              have hown' := own_next hown hb5
              have hB5 := below_next (w := w4) hbw hb5
              have hsz5 := hB5.size
              have d2 : decide ((q : Int) + 1 < 2) = false := decide_eq_false (by omega)
              clear hown5 hx5 hown hb5
              go_wp2_with (at_builtin; refine wpList_appm rfl (.tmp 89) (.tmp 94) 23 33 rfl Try.underlying23 token_info rfl (by decide) _ w4.heap.size _ _ _ rfl hown' g5 q c5 (e2.flatMap tcells) rfl (by rw [tcells_len, HQ.out]) (by intro j u hu; refine HX5.out j u ?_; show ((e2 ++ [(Lx.endT, p.length)]).flatMap tcells)[j]? = _; rw [List.flatMap_append, List.getElem?_append_left (List.getElem?_eq_some_iff.1 hu).1]; exact hu) (tcells_one e2) (by simp only [maxLen]; omega) (by omega) (by omega) w4.heap.size (Nat.le_refl _) ?_; intro v6 w6 hown6 hb6)
              go_roundw
              case rel => exact ⟨k + 1, got ++ e2, rest2, by omega, by go_num, by rw [List.length_append, ← HQ.out]; omega, by rw [List.length_append, ← HQ.out, List.flatMap_append]; exact hown6, hB5.trans hb6, HG', HPR'⟩
              case measure => simp [intOf]; omega
            · obtain rfl : k = np := by omega
              have hpt := HPR.out
              rw [List.drop_eq_nil_of_le (by rw [← HNP.out]; omega)] at hpt
              have hr0 : rest = [] := by cases hpt; rfl
              have hgf : got.map (·.1) = acc.map (·.1) := by
                have h1 := HG.out
                rw [hr0, List.append_nil] at h1
                rw [h1, HW2.out, HKM.out]
              have htg := toks_of_own hown
              have htw := toks_keep HTW.out hbw
              clear hown hpt
              go_wp2_with fail
              refine (same_any _ _ got acc wr htg htw (by omega) hgf).mono ?_
              rintro e w5 ⟨rfl, hb5⟩
              go_wp2
              go_ret
              exact ⟨rfl, below_next (below_next hB4 hbw) hb5⟩
  · have he' : (er == 0) = false := by simpa using he
    have he2 : (er != 0) = true := by simpa using he
    have HR := Lib.hid hR
    clear hR
    go_enter Try.func7, Try.ntmps7
    go_wp2_with fail
    refine (awake_any w).mono ?_
    rintro e w1 ⟨rfl, hb1⟩
    go_wp2_with fail
    refine (scan_any s w1 (by omega)).mono ?_
    rintro e w2 ⟨v2, rfl, hown2, hb2⟩
    rw [← HR.out] at hown2 ⊢
    clear hown2
    go_wp2
    go_ret
    exact ⟨rfl, below_next hb1 hb2⟩
theorem lexPartsScan_any (s : ByteArray) (w : World) :
    Calls Try.prog 7 #[.string s] w fun e w' => e = .returned (.bool true) ∧ Below w.heap.size w w' := by
  by_cases hs : 5000 < s.size
  · exact lexPartsScan_great s w hs
  · exact lexPartsScan_small s w hs
set_option maxRecDepth 100000 in
theorem lexPartsScan_lifted (os : Os) (started : os.Started) (H : Type) (enc : TypeId × Value → H) :
    ReturnsInHanded {} Try.checked os 7 .any (Rows.lexPartsScanSpec.pre6 enc Try.prog Try.f7 Rows.lexPartsScanRow.domain false) (Rows.lexPartsScanSpec.post enc Try.prog Try.f7 false true false false) := by
  refine returnsInHanded_of_change (C := Try.checked) own_ started (by kernel_rfl) Try.func7
    (ChangeSpec.witness6 (enc := enc) (C := Try.checked) false ⟨#[], #[.string ⟨#[]⟩], []⟩ 8 (by kernel_rfl) (by kernel_rfl) (by kernel_rfl) (by kernel_rfl)) ?_
  intro W base args ds gs before hval0 hW hcnd _
  have hval : ∀ (j : Nat) t v, Try.f7.params[j]? = some t → args[j]? = some v → Value.okWide Try.prog W .any base t v := hval0
  have hW' := hW
  obtain ⟨p, q, hA0, hV, rfl, hfz, hnd⟩ := hW
  have hA : DataW.TrodAll enc Try.prog W 0 (fun _ => true) true Try.f7.params.toList args.toList ds p := hA0
  rw [Try.params7] at hA hval
  obtain ⟨v0, vs0, d0, ds0, p0, q0, hargs, rfl, rfl, h0, r0⟩ := trodAll_cons hA
  obtain ⟨rfl, rfl, rfl⟩ := trodAll_nil r0
  obtain rfl : args = #[v0] := by cases args; simp_all
  obtain ⟨rfl, rfl⟩ := trodVars_none hV
  obtain ⟨s, rfl, rfl, rfl, ws⟩ := open_string Try.underlying9 (hval 0 9 v0 rfl rfl) h0
  clear hA0 hval0
  simp only [List.append_nil] at hW'
  refine (lexPartsScan_any s W).mono fun e W' ⟨he, hg⟩ => ?_
  subst he
  exact ⟨_, rfl, post_below (pa := []) (pv := []) hW' (fun _ _ _ => (trodAll_cons_mk (shut_bool Try.underlying4 _) trodAll_mk0)) (fun sp _ => (trodAll_cons_mk (shut_string Try.underlying9 ws) trodAll_mk0)) (fun _ _ => rfl) rfl hg (ok_one (by kernel_rfl) rfl (okWide_bool_mk Try.underlying4 _))⟩
theorem lexPartsScan_holds : Rows.LexPartsScanSaid :=
  OpenClaim.holds_of_wide 7 Try.f7 rfl rfl rfl rfl rfl rfl rfl ⟨rfl, rfl, rfl, rfl, rfl⟩ rfl rfl rfl rfl rfl (by kernel_rfl) Try.func7 (by kernel_rfl)
    (of_decide_eq_true (by kernel_rfl)) (by unfold Func.isWrapper; first | (rw [if_pos (by decide +kernel)]; kernel_rfl) | (rw [if_neg (by decide +kernel)]; exact ⟨rfl, rfl⟩))
    (fun os started H enc _ => lexPartsScan_lifted os started H enc)
#print axioms lexPartsScan_holds
end Go.Proofs.Ytepdpdlakgnpmaa
