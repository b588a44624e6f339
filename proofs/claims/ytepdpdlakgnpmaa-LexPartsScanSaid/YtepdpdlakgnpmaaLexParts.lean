/- tomelaw24.LexParts returns true at every text: the two splitters give the same parts. No condition. -/
import Derived.Test.YtepdpdlakgnpmaaAwake
import Derived.Test.YtepdpdlakgnpmaaRefLexG
import Derived.Test.YtepdpdlakgnpmaaRows
import Derived.Test.YtepdpdlakgnpmaaLaw
set_option linter.unusedVariables false
set_option linter.unusedSimpArgs false
namespace Go.Proofs.Ytepdpdlakgnpmaa
open Go.RowKit
open Go.ChangeShapes Go.WideShapes Go.ChangeAt Go.ChangeMaps
attribute [local simp] Lx.bs_size
theorem parts_len (l : List UInt8) : ∀ (f k : Nat), (Lx.parts l f k).length ≤ l.length + 1 - k
  | 0, k => by simp [Lx.parts]
  | f + 1, k => by
    rw [Lx.parts]
    split
    · simp
    · have h := parts_len l f (k + Lx.pN 0 (l.drop k) + 1)
      rw [List.length_append]
      split
      · simp only [List.length_cons, List.length_nil]; omega
      · simp only [List.length_nil]; omega
def Row1 (w : World) (v : Value) (n : Nat) (xs : List Value) : Prop :=
  (n = 0 ∧ v = .slice none 0 0) ∨ ∃ g c, v = .slice (some ⟨g, 0, none⟩) n c ∧ g < w.heap.size ∧ n ≤ c ∧ c ≤ maxLen ∧ ∀ j u, xs[j]? = some u → w.cell? ⟨g, j, none⟩ = some u
theorem row1_of_own {w : World} {base n : Nat} {v : Value} {xs : List Value} {t : TypeId} {z : Nat} (h : w.ownsRow base t z v n xs) : Row1 w v n xs := by
  rcases h.2 with ⟨rfl, hn⟩ | ⟨g, cap, cur, rfl, hb, hh, hc, hm, hs, ht⟩
  · exact .inl ⟨hn, rfl⟩
  · refine .inr ⟨g, cap, rfl, blk_lt hh, hc, hm, fun j u hu => ?_⟩
    have h2 := h.cells (g := g) rfl j u hu
    rwa [add_zero_addr] at h2
theorem row1_keep {W w1 : World} {v : Value} {n : Nat} {xs : List Value} (h : Row1 W v n xs) (hb : Below W.heap.size W w1) : Row1 w1 v n xs := by
  rcases h with h | ⟨g, c, h1, h2, h3, h4, h5⟩
  · exact .inl h
  · exact .inr ⟨g, c, h1, Nat.lt_of_lt_of_le h2 hb.size, h3, h4, fun j u hu => (hb.cell (p := ⟨g, j, none⟩) h2).trans (h5 j u hu)⟩
theorem lexParts_great (s : ByteArray) (w : World) (hs : 20000 < s.size) :
    Calls Try.prog 6 #[.string s] w fun e w' => e = .returned (.bool true) ∧ Below w.heap.size w w' := by
  have d1 : decide (20000 < (s.size : Int)) = true := decide_eq_true (by omega)
  go_enter Try.func6, Try.ntmps6
  go_wp2_with fail
  refine (awake_any w).mono ?_
  rintro e w1 ⟨rfl, hb1⟩
  go_wp2_with fail
  refine (awake_any w1).mono ?_
  rintro e w2 ⟨rfl, hb2⟩
  go_wp2
  go_ret
  exact ⟨rfl, below_next hb1 hb2⟩
set_option maxHeartbeats 2000000 in
theorem lexParts_small (s : ByteArray) (w : World) (hs : ¬ 20000 < s.size) :
    Calls Try.prog 6 #[.string s] w fun e w' => e = .returned (.bool true) ∧ Below w.heap.size w w' := by
  have d1 : decide (20000 < (s.size : Int)) = false := decide_eq_false (by omega)
  have hlen := parts_len (Lx.ls s) ((Lx.ls s).length + 2) 0
  obtain ⟨R, hR⟩ : ∃ R, R = Lx.partsOf (Lx.ls s) := ⟨_, rfl⟩
  have hlen : R.length ≤ s.size + 1 := by rw [hR, Lx.partsOf]; rw [Lx.ls_length] at hlen ⊢; omega
  have HR := Lib.hid hR
  clear hR
  go_enter Try.func6, Try.ntmps6
  go_wp2_with fail
  refine (awake_any w).mono ?_
  rintro e w1 ⟨rfl, hb1⟩
  go_wp2_with fail
  refine (parts_any s w1 (by omega)).mono ?_
  rintro e w2 ⟨v2, rfl, hown2, hb2⟩
  rw [← HR.out] at hown2
  have hB2 := below_next (w := w) hb1 hb2
  have ht2 := row1_of_own hown2
  clear hown2
  go_wp2_with fail
  refine (rparts_any s w2 (by omega)).mono ?_
  rintro e w3 ⟨v3, rfl, hown3, hb3⟩
  rw [← HR.out] at hown3
  have hB3 := below_next (w := w) hB2 hb3
  have ht3 := row1_of_own hown3
  have ht2 := row1_keep ht2 hb3
  clear hown3
  obtain ⟨n, hn⟩ : ∃ n, n = R.length := ⟨_, rfl⟩
  rw [← hn] at hlen ht2 ht3
  have HN := Lib.hid hn
  clear hn hb1 hb2 hb3 hB2
  have d2 : ((n : Int) != (n : Int)) = false := by simp
  rcases ht2 with ⟨h0, rfl⟩ | ⟨g2, c2, rfl, hg2, hc2, hm2, hx2⟩
  · rcases ht3 with ⟨h0, rfl⟩ | ⟨g3, c3, rfl, hg3, hc3, hm3, hx3⟩
    · go_wp2
      refine wp_loop_rounds 1 ?_
      rw [rounds_succ]
      go_wp2
      go_ret
      exact ⟨rfl, hB3⟩
    · subst h0
      clear hx3
      go_wp2
      refine wp_loop_rounds 1 ?_
      rw [rounds_succ]
      go_wp2
      go_ret
      exact ⟨rfl, hB3⟩
  · rcases ht3 with ⟨h0, rfl⟩ | ⟨g3, c3, rfl, hg3, hc3, hm3, hx3⟩
    · subst h0
      clear hx2
      go_wp2
      refine wp_loop_rounds 1 ?_
      rw [rounds_succ]
      go_wp2
      go_ret
      exact ⟨rfl, hB3⟩
    · have HX2 := Lib.hid hx2
      have HX3 := Lib.hid hx3
      clear hx2 hx3
      go_wp2
      go_loopw [5] (fun i wr => ∃ k : Nat, k ≤ n ∧ i = .int .i64 k ∧ Below w.heap.size w wr ∧ (∀ p : Addr, wr.cell? p = w3.cell? p)) (fun i _ => n - (intOf i).toNat)
      case atStart => exact ⟨0, by omega, rfl, hB3, fun _ => rfl⟩
      case round =>
        obtain ⟨k, hk, rfl, hbw, hcw⟩ := hrel
        have HCW := Lib.hid hcw
        clear hcw
        by_cases hlt : k < n
        · obtain ⟨t, ht⟩ : ∃ t, (strs R)[k]? = some t := ⟨_, List.getElem?_eq_getElem (by rw [strs, List.length_map, ← HN.out]; exact hlt)⟩
          have ht' : ∃ P, t = .string (Lx.bs P) := by
            rw [strs, List.getElem?_map] at ht
            cases h : R[k]? with
            | none => rw [h] at ht; simp at ht
            | some P => rw [h] at ht; simp at ht; exact ⟨P, ht.symm⟩
          obtain ⟨P, rfl⟩ := ht'
          have a5 : wr.cell? ⟨g2, k, none⟩ = some (.string (Lx.bs P)) := (HCW.out ⟨g2, k, none⟩).trans (HX2.out _ _ ht)
          have b5 : wr.cell? ⟨g3, k, none⟩ = some (.string (Lx.bs P)) := (HCW.out ⟨g3, k, none⟩).trans (HX3.out _ _ ht)
          clear ht
          go_wp2
          go_quiet (fail)
          go_wp2
          go_roundw
          case rel => exact ⟨k + 1, by omega, by go_num, by (repeat (first | with_reducible exact Below.refl _ _ | with_reducible assumption | with_reducible refine Below.drew ?_ | with_reducible refine below_drewN ?_ _ | with_reducible refine below_al ?_ _ | with_reducible refine Below.setCell ?_ ?_ _ | exact Nat.le_refl _ | omega | (simp; done) | (simp; omega))), fun p => HCW.out p⟩
          case measure => simp [intOf]; omega
        · obtain rfl : k = n := by omega
          go_wp2
          go_ret
          exact ⟨rfl, hbw⟩
theorem lexParts_any (s : ByteArray) (w : World) :
    Calls Try.prog 6 #[.string s] w fun e w' => e = .returned (.bool true) ∧ Below w.heap.size w w' := by
  by_cases hs : 20000 < s.size
  · exact lexParts_great s w hs
  · exact lexParts_small s w hs
theorem own_ : ownKnob Try.prog.godebug = none := by kernel_rfl
set_option maxRecDepth 100000 in
theorem lexParts_lifted (os : Os) (started : os.Started) (H : Type) (enc : TypeId × Value → H) :
    ReturnsInHanded {} Try.checked os 6 .any (Rows.lexPartsSpec.pre6 enc Try.prog Try.f6 Rows.lexPartsRow.domain false) (Rows.lexPartsSpec.post enc Try.prog Try.f6 false true false false) := by
  refine returnsInHanded_of_change (C := Try.checked) own_ started (by kernel_rfl) Try.func6
    (ChangeSpec.witness6 (enc := enc) (C := Try.checked) false ⟨#[], #[.string ⟨#[]⟩], []⟩ 8 (by kernel_rfl) (by kernel_rfl) (by kernel_rfl) (by kernel_rfl)) ?_
  intro W base args ds gs before hval0 hW hcnd _
  have hval : ∀ (j : Nat) t v, Try.f6.params[j]? = some t → args[j]? = some v → Value.okWide Try.prog W .any base t v := hval0
  have hW' := hW
  obtain ⟨p, q, hA0, hV, rfl, hfz, hnd⟩ := hW
  have hA : DataW.TrodAll enc Try.prog W 0 (fun _ => true) true Try.f6.params.toList args.toList ds p := hA0
  rw [Try.params6] at hA hval
  obtain ⟨v0, vs0, d0, ds0, p0, q0, hargs, rfl, rfl, h0, r0⟩ := trodAll_cons hA
  obtain ⟨rfl, rfl, rfl⟩ := trodAll_nil r0
  obtain rfl : args = #[v0] := by cases args; simp_all
  obtain ⟨rfl, rfl⟩ := trodVars_none hV
  obtain ⟨s, rfl, rfl, rfl, ws⟩ := open_string Try.underlying9 (hval 0 9 v0 rfl rfl) h0
  clear hA0 hval0
  simp only [List.append_nil] at hW'
  refine (lexParts_any s W).mono fun e W' ⟨he, hg⟩ => ?_
  subst he
  exact ⟨_, rfl, post_below (pa := []) (pv := []) hW' (fun _ _ _ => (trodAll_cons_mk (shut_bool Try.underlying4 _) trodAll_mk0)) (fun sp _ => (trodAll_cons_mk (shut_string Try.underlying9 ws) trodAll_mk0)) (fun _ _ => rfl) rfl hg (ok_one (by kernel_rfl) rfl (okWide_bool_mk Try.underlying4 _))⟩
theorem lexParts_holds : Rows.LexPartsSaid :=
  OpenClaim.holds_of_wide 6 Try.f6 rfl rfl rfl rfl rfl rfl rfl ⟨rfl, rfl, rfl, rfl, rfl⟩ rfl rfl rfl rfl rfl (by kernel_rfl) Try.func6 (by kernel_rfl)
    (of_decide_eq_true (by kernel_rfl)) (by unfold Func.isWrapper; first | (rw [if_pos (by decide +kernel)]; kernel_rfl) | (rw [if_neg (by decide +kernel)]; exact ⟨rfl, rfl⟩))
    (fun os started H enc _ => lexParts_lifted os started H enc)
#print axioms lexParts_holds
end Go.Proofs.Ytepdpdlakgnpmaa
