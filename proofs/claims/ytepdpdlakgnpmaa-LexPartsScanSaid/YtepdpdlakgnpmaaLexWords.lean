/- tomelaw24.LexWords returns true at every text: both word tests agree; a name's text is scanned to one token. No condition. -/
import Derived.Test.YtepdpdlakgnpmaaLexParts
import Derived.Test.YtepdpdlakgnpmaaRef3F
set_option linter.unusedVariables false
set_option linter.unusedSimpArgs false
namespace Go.Proofs.Ytepdpdlakgnpmaa
open Go.RowKit
open Go.ChangeShapes Go.WideShapes Go.ChangeAt Go.ChangeMaps
attribute [local simp] Lx.bs_size
theorem lexWords_great (s : ByteArray) (w : World) (hs : 1000 < s.size) :
    Calls Try.prog 4 #[.string s] w fun e w' => e = .returned (.bool true) ∧ Below w.heap.size w w' := by
  have d1 : decide (1000 < (s.size : Int)) = true := decide_eq_true (by omega)
  go_enter Try.func4, Try.ntmps4
  go_wp2_with fail
  refine (awake_any w).mono ?_
  rintro e w1 ⟨rfl, hb1⟩
  go_wp2_with fail
  refine (awake_any w1).mono ?_
  rintro e w2 ⟨rfl, hb2⟩
  go_wp2
  go_ret
  exact ⟨rfl, below_next hb1 hb2⟩
set_option maxHeartbeats 2000000 in
theorem lexWords_small (s : ByteArray) (w : World) (hs : ¬ 1000 < s.size) :
    Calls Try.prog 4 #[.string s] w fun e w' => e = .returned (.bool true) ∧ Below w.heap.size w w' := by
  have d1 : decide (1000 < (s.size : Int)) = false := decide_eq_false (by omega)
  have HS := Lib.hid (show s.size ≤ 1000000000 by omega)
  obtain ⟨W, hW⟩ : ∃ W, W = Lx.isW (Lx.ls s) := ⟨_, rfl⟩
  obtain ⟨M, hM⟩ : ∃ M, M = Lx.nameOk (Lx.ls s) := ⟨_, rfl⟩
  have dW : (W != W) = false := by simp
  have HW := Lib.hid hW
  have HM := Lib.hid hM
  clear hW hM hs
  cases M with
  | false =>
    go_enter Try.func4, Try.ntmps4
    go_wp2_with fail
    refine (awake_any w).mono ?_
    rintro e w1 ⟨rfl, hb1⟩
    go_wp2_with fail
    refine (word_any s w1 HS.out).mono ?_
    rintro e w2 ⟨rfl, hb2⟩
    rw [← HW.out]
    have hB2 := below_next (w := w) hb1 hb2
    go_wp2_with fail
    refine (rword_any s w2 HS.out).mono ?_
    rintro e w3 ⟨rfl, hb3⟩
    rw [← HW.out]
    have hB3 := below_next (w := w) hB2 hb3
    clear hb1 hb2 hb3 hB2
    go_wp2_with fail
    refine (rname_any s w3).mono ?_
    rintro e w4 ⟨rfl, hb4⟩
    rw [← HM.out]
    have hB4 := below_next (w := w) hB3 hb4
    clear hb4 hB3
    go_wp2
    go_ret
    exact ⟨rfl, hB4⟩
  | true =>
    have hsc := Lx.scan_name HM.out.symm
    obtain ⟨T, hT⟩ : ∃ T, T = Lx.nameTok (Lx.ls s) := ⟨_, rfl⟩
    rw [← hT] at hsc
    have HSC := Lib.hid hsc
    clear hsc
    obtain ⟨tk, tt, tv⟩ := T
    obtain ⟨F, hF⟩ : ∃ F, F = Lx.bs (Lx.fold (Lx.ls s)) := ⟨_, rfl⟩
    have HF := Lib.hid hF
    clear hF
    cases W with
    | true =>
      have hT2 : tk = 2 ∧ Lx.bs tt = F := by
        rw [Lx.nameTok, ← HW.out] at hT
        simp at hT
        exact ⟨hT.1, by rw [hT.2.1, HF.out]⟩
      obtain ⟨rfl, hT2⟩ := hT2
      have HT := Lib.hid hT2
      have dS : (F.toList == F.toList) = true := by simp
      clear hT2 hT
      go_enter Try.func4, Try.ntmps4
      go_wp2_with fail
      refine (awake_any w).mono ?_
      rintro e w1 ⟨rfl, hb1⟩
      go_wp2_with fail
      refine (word_any s w1 HS.out).mono ?_
      rintro e w2 ⟨rfl, hb2⟩
      rw [← HW.out]
      have hB2 := below_next (w := w) hb1 hb2
      go_wp2_with fail
      refine (rword_any s w2 HS.out).mono ?_
      rintro e w3 ⟨rfl, hb3⟩
      rw [← HW.out]
      have hB3 := below_next (w := w) hB2 hb3
      clear hb1 hb2 hb3 hB2
      go_wp2_with fail
      refine (rname_any s w3).mono ?_
      rintro e w4 ⟨rfl, hb4⟩
      rw [← HM.out]
      have hB4 := below_next (w := w) hB3 hb4
      clear hb4 hB3
      go_wp2_with fail
      refine (scan_any s w4 HS.out).mono ?_
      rintro e w5 ⟨v5, rfl, hown5, hb5⟩
      rw [HSC.out] at hown5 ⊢
      have hB5 := below_next (w := w) hB4 hb5
      obtain ⟨g, c, rfl, hg, hc, hx⟩ := own_some (n := 1) hown5
      have m0 : w5.cell? ⟨g, 0, none⟩ = some (.int .i64 2) := hx 0 _ rfl
      have m1 : w5.cell? ⟨g, 1, none⟩ = some (.string F) := by rw [← HT.out]; exact hx 1 _ rfl
      clear hown5 hx hb5 hB4
      go_wp2_with fail
      refine (rword_any s w5 HS.out).mono ?_
      rintro e w6 ⟨rfl, hb6⟩
      rw [← HW.out]
      have hB6 := below_next (w := w) hB5 hb6
      have n0 : w6.cell? ⟨g, 0, none⟩ = some (.int .i64 2) := (hb6.cell (p := ⟨g, 0, none⟩) hg).trans m0
      have n1 : w6.cell? ⟨g, 1, none⟩ = some (.string F) := (hb6.cell (p := ⟨g, 1, none⟩) hg).trans m1
      have hg6 : g < w6.heap.size := Nat.lt_of_lt_of_le hg hb6.size
      clear m0 m1 hb6 hB5
      go_wp2
      go_region_held3 (fun w' => w'.cell? ⟨g, 0, none⟩ = some (.int .i64 2) ∧ w'.cell? ⟨g, 1, none⟩ = some (.string F)) (first | exact ⟨n0, n1⟩ | exact ⟨q0, q1⟩)
        ((go_at_call 15; refine (rfold_any s _ HS.out).mono ?_; rintro e w7 ⟨rfl, hb7⟩; rw [← HF.out]; have q0 : w7.cell? ⟨g, 0, none⟩ = some (.int .i64 2) := (hb7.cell (p := ⟨g, 0, none⟩) hg6).trans n0; have q1 : w7.cell? ⟨g, 1, none⟩ = some (.string F) := (hb7.cell (p := ⟨g, 1, none⟩) hg6).trans n1))
      go_wp2
      go_ret
      exact ⟨rfl, below_next (w := w) (Below.drew hB6) hb7⟩
    | false =>
      have hT2 : tk = 1 ∧ Lx.bs tt = s := by
        rw [Lx.nameTok, ← HW.out] at hT
        simp at hT
        exact ⟨hT.1, by rw [hT.2.1, Lx.bs_ls]⟩
      obtain ⟨rfl, hT2⟩ := hT2
      have HT := Lib.hid hT2
      have dS : (s.toList == s.toList) = true := by simp
      clear hT2 hT
      go_enter Try.func4, Try.ntmps4
      go_wp2_with fail
      refine (awake_any w).mono ?_
      rintro e w1 ⟨rfl, hb1⟩
      go_wp2_with fail
      refine (word_any s w1 HS.out).mono ?_
      rintro e w2 ⟨rfl, hb2⟩
      rw [← HW.out]
      have hB2 := below_next (w := w) hb1 hb2
      go_wp2_with fail
      refine (rword_any s w2 HS.out).mono ?_
      rintro e w3 ⟨rfl, hb3⟩
      rw [← HW.out]
      have hB3 := below_next (w := w) hB2 hb3
      clear hb1 hb2 hb3 hB2
      go_wp2_with fail
      refine (rname_any s w3).mono ?_
      rintro e w4 ⟨rfl, hb4⟩
      rw [← HM.out]
      have hB4 := below_next (w := w) hB3 hb4
      clear hb4 hB3
      go_wp2_with fail
      refine (scan_any s w4 HS.out).mono ?_
      rintro e w5 ⟨v5, rfl, hown5, hb5⟩
      rw [HSC.out] at hown5 ⊢
      have hB5 := below_next (w := w) hB4 hb5
      obtain ⟨g, c, rfl, hg, hc, hx⟩ := own_some (n := 1) hown5
      have m0 : w5.cell? ⟨g, 0, none⟩ = some (.int .i64 1) := hx 0 _ rfl
      have m1 : w5.cell? ⟨g, 1, none⟩ = some (.string s) := by rw [← HT.out]; exact hx 1 _ rfl
      clear hown5 hx hb5 hB4
      go_wp2_with fail
      refine (rword_any s w5 HS.out).mono ?_
      rintro e w6 ⟨rfl, hb6⟩
      rw [← HW.out]
      have hB6 := below_next (w := w) hB5 hb6
      have n0 : w6.cell? ⟨g, 0, none⟩ = some (.int .i64 1) := (hb6.cell (p := ⟨g, 0, none⟩) hg).trans m0
      have n1 : w6.cell? ⟨g, 1, none⟩ = some (.string s) := (hb6.cell (p := ⟨g, 1, none⟩) hg).trans m1
      have hg6 : g < w6.heap.size := Nat.lt_of_lt_of_le hg hb6.size
      clear m0 m1 hb6 hB5
      go_wp2
      go_ret
      exact ⟨rfl, hB6⟩
theorem lexWords_any (s : ByteArray) (w : World) :
    Calls Try.prog 4 #[.string s] w fun e w' => e = .returned (.bool true) ∧ Below w.heap.size w w' := by
  by_cases hs : 1000 < s.size
  · exact lexWords_great s w hs
  · exact lexWords_small s w hs
set_option maxRecDepth 100000 in
theorem lexWords_lifted (os : Os) (started : os.Started) (H : Type) (enc : TypeId × Value → H) :
    ReturnsInHanded {} Try.checked os 4 .any (Rows.lexWordsSpec.pre6 enc Try.prog Try.f4 Rows.lexWordsRow.domain false) (Rows.lexWordsSpec.post enc Try.prog Try.f4 false true false false) := by
  refine returnsInHanded_of_change (C := Try.checked) own_ started (by kernel_rfl) Try.func4
    (ChangeSpec.witness6 (enc := enc) (C := Try.checked) false ⟨#[], #[.string ⟨#[]⟩], []⟩ 8 (by kernel_rfl) (by kernel_rfl) (by kernel_rfl) (by kernel_rfl)) ?_
  intro W base args ds gs before hval0 hW hcnd _
  have hval : ∀ (j : Nat) t v, Try.f4.params[j]? = some t → args[j]? = some v → Value.okWide Try.prog W .any base t v := hval0
  have hW' := hW
  obtain ⟨p, q, hA0, hV, rfl, hfz, hnd⟩ := hW
  have hA : DataW.TrodAll enc Try.prog W 0 (fun _ => true) true Try.f4.params.toList args.toList ds p := hA0
  rw [Try.params4] at hA hval
  obtain ⟨v0, vs0, d0, ds0, p0, q0, hargs, rfl, rfl, h0, r0⟩ := trodAll_cons hA
  obtain ⟨rfl, rfl, rfl⟩ := trodAll_nil r0
  obtain rfl : args = #[v0] := by cases args; simp_all
  obtain ⟨rfl, rfl⟩ := trodVars_none hV
  obtain ⟨s, rfl, rfl, rfl, ws⟩ := open_string Try.underlying9 (hval 0 9 v0 rfl rfl) h0
  clear hA0 hval0
  simp only [List.append_nil] at hW'
  refine (lexWords_any s W).mono fun e W' ⟨he, hg⟩ => ?_
  subst he
  exact ⟨_, rfl, post_below (pa := []) (pv := []) hW' (fun _ _ _ => (trodAll_cons_mk (shut_bool Try.underlying4 _) trodAll_mk0)) (fun sp _ => (trodAll_cons_mk (shut_string Try.underlying9 ws) trodAll_mk0)) (fun _ _ => rfl) rfl hg (ok_one (by kernel_rfl) rfl (okWide_bool_mk Try.underlying4 _))⟩
theorem lexWords_holds : Rows.LexWordsSaid :=
  OpenClaim.holds_of_wide 4 Try.f4 rfl rfl rfl rfl rfl rfl rfl ⟨rfl, rfl, rfl, rfl, rfl⟩ rfl rfl rfl rfl rfl (by kernel_rfl) Try.func4 (by kernel_rfl)
    (of_decide_eq_true (by kernel_rfl)) (by unfold Func.isWrapper; first | (rw [if_pos (by decide +kernel)]; kernel_rfl) | (rw [if_neg (by decide +kernel)]; exact ⟨rfl, rfl⟩))
    (fun os started H enc _ => lexWords_lifted os started H enc)
#print axioms lexWords_holds
end Go.Proofs.Ytepdpdlakgnpmaa
