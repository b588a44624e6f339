/- tomelaw24.LexScans returns true at every text: the two scanners give the same tokens, places and errors. No condition. -/
import Derived.Test.YtepdpdlakgnpmaaAwake
import Derived.Test.YtepdpdlakgnpmaaRows
import Derived.Test.YtepdpdlakgnpmaaLaw
set_option linter.unusedVariables false
set_option linter.unusedSimpArgs false
namespace Go.Proofs.Ytepdpdlakgnpmaa
open Go.RowKit
open Go.ChangeShapes Go.WideShapes Go.ChangeAt Go.ChangeMaps
attribute [local simp] Lx.bs_size
theorem scanL_len (l : List UInt8) : ∀ (f : Nat) (acc : List Lx.TA) (k : Nat), acc.length ≤ 4096 → (Lx.scanL l f acc k).1.length ≤ 4097
  | 0, acc, k, h => by rw [Lx.scanL]; simp only; omega
  | f + 1, acc, k, h => by
    rw [Lx.scanL]
    split
    · simp; omega
    · split
      · simp
      · split
        · exact scanL_len l f _ _ (by simp; omega)
        · simp
theorem scan_len (l : List UInt8) : (Lx.scan l).1.length ≤ 4097 := by
  unfold Lx.scan
  split
  · simp
  · exact scanL_len l _ _ _ (by simp)
theorem lexScans_great (s : ByteArray) (w : World) (hs : 70000 < s.size) :
    Calls Try.prog 3 #[.string s] w fun e w' => e = .returned (.bool true) ∧ Below w.heap.size w w' := by
  have d1 : decide (70000 < (s.size : Int)) = true := decide_eq_true (by omega)
  go_enter Try.func3, Try.ntmps3
  go_wp2_with fail
  refine (awake_any w).mono ?_
  rintro e w1 ⟨rfl, hb1⟩
  go_wp2_with fail
  refine (awake_any w1).mono ?_
  rintro e w2 ⟨rfl, hb2⟩
  go_wp2
  go_ret
  exact ⟨rfl, below_next hb1 hb2⟩
set_option maxHeartbeats 2000000 in
theorem lexScans_small (s : ByteArray) (w : World) (hs : ¬ 70000 < s.size) :
    Calls Try.prog 3 #[.string s] w fun e w' => e = .returned (.bool true) ∧ Below w.heap.size w w' := by
  have d1 : decide (70000 < (s.size : Int)) = false := decide_eq_false (by omega)
  have hlen := scan_len (Lx.ls s)
  obtain ⟨R, hR⟩ : ∃ R, R = Lx.scan (Lx.ls s) := ⟨_, rfl⟩
  rw [← hR] at hlen
  have HR := Lib.hid hR
  clear hR
  obtain ⟨l, at_, er⟩ := R
  go_enter Try.func3, Try.ntmps3
  go_wp2_with fail
  refine (awake_any w).mono ?_
  rintro e w1 ⟨rfl, hb1⟩
  go_wp2_with fail
  refine (scan_any s w1 (by omega)).mono ?_
  rintro e w2 ⟨v2, rfl, hown2, hb2⟩
  rw [← HR.out] at hown2 ⊢
  have hB2 := below_next (w := w) hb1 hb2
  have ht2 := toks_of_own hown2
  clear hown2
  go_wp2_with fail
  refine (rscan_any s w2 (by omega)).mono ?_
  rintro e w3 ⟨v3, rfl, hown3, hb3⟩
  rw [← HR.out] at hown3 ⊢
  have hB3 := below_next (w := w) hB2 hb3
  have ht3 := toks_of_own hown3
  have ht2 := toks_keep ht2 hb3
  clear hown3
  have hlen' : l.length ≤ 4097 := hlen
  clear hlen
  go_wp2_with fail
  refine (same_any _ _ l l w3 ht2 ht3 (by omega) rfl).mono ?_
  rintro e w4 ⟨rfl, hb4⟩
  have hB4 := below_next (w := w) hB3 hb4
  have ht2 := toks_keep ht2 hb4
  have ht3 := toks_keep ht3 hb4
  rcases ht2 with ⟨h0, rfl⟩ | ⟨g2, c2, rfl, hg2, hc2, hm2, hx2⟩
  · go_wp2
    refine wp_loop_rounds 1 ?_
    rw [rounds_succ]
    go_wp2
    go_ret
    exact ⟨rfl, hB4⟩
  · rcases ht3 with ⟨h0, rfl⟩ | ⟨g3, c3, rfl, hg3, hc3, hm3, hx3⟩
    · subst h0
      go_wp2
      refine wp_loop_rounds 1 ?_
      rw [rounds_succ]
      go_wp2
      go_ret
      exact ⟨rfl, hB4⟩
    · have HX2 := Lib.hid hx2
      have HX3 := Lib.hid hx3
      clear hx2 hx3
      obtain ⟨n, hn⟩ : ∃ n, n = l.length := ⟨_, rfl⟩
      rw [← hn] at hlen' hc2 hc3 ⊢
      have HN := Lib.hid hn
      clear hn hb1 hb2 hb3 hb4 hB2 hB3
      go_wp2
      go_loopw [9] (fun i wr => ∃ k : Nat, k ≤ n ∧ i = .int .i64 k ∧ Below w.heap.size w wr ∧ (∀ p : Addr, wr.cell? p = w4.cell? p)) (fun i _ => n - (intOf i).toNat)
      case atStart => exact ⟨0, by omega, rfl, hB4, fun _ => rfl⟩
      case round =>
        obtain ⟨k, hk, rfl, hbw, hcw⟩ := hrel
        have HCW := Lib.hid hcw
        clear hcw
        by_cases hlt : k < n
        · obtain ⟨t, ht⟩ : ∃ t, l[k]? = some t := ⟨_, List.getElem?_eq_getElem (by rw [← HN.out]; exact hlt)⟩
          have a5 : wr.cell? ⟨g2, k * 6 + 5, none⟩ = some (.int .i64 (t.2 : Int)) := (HCW.out ⟨g2, k * 6 + 5, none⟩).trans (HX2.out _ _ (flat_at ht (j := 5) (by omega)))
          have b5 : wr.cell? ⟨g3, k * 6 + 5, none⟩ = some (.int .i64 (t.2 : Int)) := (HCW.out ⟨g3, k * 6 + 5, none⟩).trans (HX3.out _ _ (flat_at ht (j := 5) (by omega)))
          clear ht
          go_wp2
          go_quiet (fail)
          go_wp2
          go_roundw
          case rel => exact ⟨k + 1, by omega, by go_num, by (repeat (first | with_reducible exact Below.refl _ _ | with_reducible assumption | with_reducible refine Below.drew ?_ | with_reducible refine below_drewN ?_ _ | with_reducible refine below_al ?_ _ | with_reducible refine Below.setCell ?_ ?_ _ | exact Nat.le_refl _ | omega | (simp; done) | (simp; omega))), fun p => HCW.out p⟩
          case measure => simp [intOf]; omega
        · obtain rfl : k = n := by omega
          go_wp2
          go_ret
          exact ⟨rfl, hbw⟩
theorem lexScans_any (s : ByteArray) (w : World) :
    Calls Try.prog 3 #[.string s] w fun e w' => e = .returned (.bool true) ∧ Below w.heap.size w w' := by
  by_cases hs : 70000 < s.size
  · exact lexScans_great s w hs
  · exact lexScans_small s w hs
theorem own_ : ownKnob Try.prog.godebug = none := by kernel_rfl
set_option maxRecDepth 100000 in
theorem lexScans_lifted (os : Os) (started : os.Started) (H : Type) (enc : TypeId × Value → H) :
    ReturnsInHanded {} Try.checked os 3 .any (Rows.lexScansSpec.pre6 enc Try.prog Try.f3 Rows.lexScansRow.domain false) (Rows.lexScansSpec.post enc Try.prog Try.f3 false true false false) := by
  refine returnsInHanded_of_change (C := Try.checked) own_ started (by kernel_rfl) Try.func3
    (ChangeSpec.witness6 (enc := enc) (C := Try.checked) false ⟨#[], #[.string ⟨#[]⟩], []⟩ 8 (by kernel_rfl) (by kernel_rfl) (by kernel_rfl) (by kernel_rfl)) ?_
  intro W base args ds gs before hval0 hW hcnd _
  have hval : ∀ (j : Nat) t v, Try.f3.params[j]? = some t → args[j]? = some v → Value.okWide Try.prog W .any base t v := hval0
  have hW' := hW
  obtain ⟨p, q, hA0, hV, rfl, hfz, hnd⟩ := hW
  have hA : DataW.TrodAll enc Try.prog W 0 (fun _ => true) true Try.f3.params.toList args.toList ds p := hA0
  rw [Try.params3] at hA hval
  obtain ⟨v0, vs0, d0, ds0, p0, q0, hargs, rfl, rfl, h0, r0⟩ := trodAll_cons hA
  obtain ⟨rfl, rfl, rfl⟩ := trodAll_nil r0
  obtain rfl : args = #[v0] := by cases args; simp_all
  obtain ⟨rfl, rfl⟩ := trodVars_none hV
  obtain ⟨s, rfl, rfl, rfl, ws⟩ := open_string Try.underlying9 (hval 0 9 v0 rfl rfl) h0
  clear hA0 hval0
  simp only [List.append_nil] at hW'
  refine (lexScans_any s W).mono fun e W' ⟨he, hg⟩ => ?_
  subst he
  exact ⟨_, rfl, post_below (pa := []) (pv := []) hW' (fun _ _ _ => (trodAll_cons_mk (shut_bool Try.underlying4 _) trodAll_mk0)) (fun sp _ => (trodAll_cons_mk (shut_string Try.underlying9 ws) trodAll_mk0)) (fun _ _ => rfl) rfl hg (ok_one (by kernel_rfl) rfl (okWide_bool_mk Try.underlying4 _))⟩
theorem lexScans_holds : Rows.LexScansSaid :=
  OpenClaim.holds_of_wide 3 Try.f3 rfl rfl rfl rfl rfl rfl rfl ⟨rfl, rfl, rfl, rfl, rfl⟩ rfl rfl rfl rfl rfl (by kernel_rfl) Try.func3 (by kernel_rfl)
    (of_decide_eq_true (by kernel_rfl)) (by unfold Func.isWrapper; first | (rw [if_pos (by decide +kernel)]; kernel_rfl) | (rw [if_neg (by decide +kernel)]; exact ⟨rfl, rfl⟩))
    (fun os started H enc _ => lexScans_lifted os started H enc)
#print axioms lexScans_holds
end Go.Proofs.Ytepdpdlakgnpmaa
