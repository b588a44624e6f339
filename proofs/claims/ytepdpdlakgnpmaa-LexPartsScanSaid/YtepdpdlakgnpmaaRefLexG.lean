import Derived.Test.YtepdpdlakgnpmaaRefLexF
import Derived.Test.YtepdpdlakgnpmaaLexJ
set_option linter.unusedVariables false
set_option linter.unusedSimpArgs false
namespace Go.Proofs.Ytepdpdlakgnpmaa
open Go.RowKit
attribute [local simp] Lx.bs_size
def PRel (s : ByteArray) (B : World) (R : List (List UInt8)) (v k q c i : Value) (wr : World) : Prop :=
  ∃ (acc : List (List UInt8)) (from_ n f : Nat) (inq com : Bool), k = .int .i64 from_ ∧ i = .int .i64 n ∧ q = .bool inq ∧ c = .bool com ∧ n ≤ s.size + 1 ∧ from_ ≤ n ∧ acc.length ≤ n ∧ s.size - n < f ∧
    wr.ownsRow B.heap.size 9 1 v acc.length (strs acc) ∧ Below B.heap.size B wr ∧ ((n ≤ s.size ∧ (inq = true → com = false) ∧ acc ++ Lx.restP s f from_ (Lx.modeOf inq com) n = R) ∨ (n = s.size + 1 ∧ acc = R))
set_option maxRecDepth 100000 in
set_option maxHeartbeats 4000000 in
theorem rparts_any (s : ByteArray) (w : World) (hs : s.size ≤ 1000000) :
    Calls Try.prog 17 #[.string s] w fun e w' => partsE w (Lx.partsOf (Lx.ls s)) e w' := by
  have hR : Lx.partsOf (Lx.ls s) = Lx.restP s (s.size + 1) 0 0 0 := by rw [Lx.partsOf, Lx.ls_length]; exact Lx.parts_rest (by omega)
  rw [hR]
  generalize hR2 : Lx.restP s (s.size + 1) 0 0 0 = R
  have HR := Lib.hid hR2
  clear hR hR2
  go_enter Try.func17, Try.ntmps17
  go_wp2
  go_loopw [3, 4, 5, 6, 7] (fun v k q c i wr => PRel s w R v k q c i wr) (fun _ _ _ _ i _ => s.size + 1 - (intOf i).toNat)
  case atStart => exact ⟨[], 0, 0, s.size + 1, false, false, rfl, rfl, rfl, rfl, by omega, by omega, by simp, by omega, World.ownsRow_nil _ _ _ _, Below.refl _ _, .inl ⟨by omega, by simp, by rw [List.nil_append]; exact HR.out⟩⟩
  case round =>
    obtain ⟨acc, from_, i, f, inq, com, rfl, rfl, rfl, rfl, hi, hfi, hal, hf, hown, hb, hcase⟩ := hrel
    rcases hcase with ⟨hile, hqc, HK⟩ | ⟨hie, HK⟩
    · have HKh := Lib.hid HK
      clear HK
      by_cases hlt : i < s.size
      · have d1 : decide ((i : Int) < (s.size : Int)) = true := decide_eq_true (by omega)
        have dn : ((i : Int) == (s.size : Int)) = false := by simp; omega
        cases com with
        | true =>
          have hq0 : inq = false := by cases inq with
            | false => rfl
            | true => exact absurd (hqc rfl) (by decide)
          subst hq0
          by_cases h10 : s[i].toNat = 10
          · have d2 : ((s[i].toNat : Int) != 10) = false := by simp; omega
            have HK' : Hid (acc ++ Lx.restP s f from_ (Lx.modeOf false false) (i + 1) = R) := by unfold Hid; rw [← HKh.out]; congr 1; exact (Lx.restP_move (Lx.c_out hlt h10)).symm
            clear h10
            go_wp2
            go_roundw
            case rel => exact ⟨acc, from_, i + 1, f, false, false, rfl, by go_num, rfl, rfl, by omega, by omega, by omega, by omega, hown, hb, .inl ⟨by omega, by simp, HK'.out⟩⟩
            case measure => simp [intOf]; omega
          · have d2 : ((s[i].toNat : Int) != 10) = true := by simp; omega
            have HK' : Hid (acc ++ Lx.restP s f from_ (Lx.modeOf false true) (i + 1) = R) := by unfold Hid; rw [← HKh.out]; congr 1; exact (Lx.restP_move (Lx.c_in hlt h10)).symm
            clear h10
            go_wp2
            go_roundw
            case rel => exact ⟨acc, from_, i + 1, f, false, true, rfl, by go_num, rfl, rfl, by omega, by omega, by omega, by omega, hown, hb, .inl ⟨by omega, by simp, HK'.out⟩⟩
            case measure => simp [intOf]; omega
        | false =>
          have dl : decide ((i : Int) + 1 < (s.size : Int)) = true ∨ decide ((i : Int) + 1 < (s.size : Int)) = false := by cases decide ((i : Int) + 1 < (s.size : Int)) <;> simp
          by_cases h39 : s[i].toNat = 39
          · have d2 : ((s[i].toNat : Int) == 39) = true := by rw [h39]; rfl
            have d3 : ((s[i].toNat : Int) == 45) = false := by rw [h39]; rfl
            have d4 : ((s[i].toNat : Int) == 59) = false := by rw [h39]; rfl
            cases inq with
            | false =>
              have HK' : Hid (acc ++ Lx.restP s f from_ (Lx.modeOf true false) (i + 1) = R) := by unfold Hid; rw [← HKh.out]; congr 1; exact (Lx.restP_move (Lx.p_quote hlt h39)).symm
              clear h39
              rcases dl with dl | dl
              all_goals
                go_wp2
                go_roundw
                case rel => exact ⟨acc, from_, i + 1, f, true, false, rfl, by go_num, rfl, rfl, by omega, by omega, by omega, by omega, hown, hb, .inl ⟨by omega, by simp, HK'.out⟩⟩
                case measure => simp [intOf]; omega
            | true =>
              have HK' : Hid (acc ++ Lx.restP s f from_ (Lx.modeOf false false) (i + 1) = R) := by unfold Hid; rw [← HKh.out]; congr 1; exact (Lx.restP_move (Lx.q_close hlt h39)).symm
              clear h39
              rcases dl with dl | dl
              all_goals
                go_wp2
                go_roundw
                case rel => exact ⟨acc, from_, i + 1, f, false, false, rfl, by go_num, rfl, rfl, by omega, by omega, by omega, by omega, hown, hb, .inl ⟨by omega, by simp, HK'.out⟩⟩
                case measure => simp [intOf]; omega
          · have d2 : ((s[i].toNat : Int) == 39) = false := by simp; omega
            cases inq with
            | true =>
              have HK' : Hid (acc ++ Lx.restP s f from_ (Lx.modeOf true false) (i + 1) = R) := by unfold Hid; rw [← HKh.out]; congr 1; exact (Lx.restP_move (Lx.q_in hlt h39)).symm
              clear h39
              rcases dl with dl | dl
              all_goals
                go_wp2
                go_roundw
                case rel => exact ⟨acc, from_, i + 1, f, true, false, rfl, by go_num, rfl, rfl, by omega, by omega, by omega, by omega, hown, hb, .inl ⟨by omega, by simp, HK'.out⟩⟩
                case measure => simp [intOf]; omega
            | false =>
              by_cases h59 : s[i].toNat = 59
              · have d3 : ((s[i].toNat : Int) == 45) = false := by rw [h59]; rfl
                have d4 : ((s[i].toNat : Int) == 59) = true := by rw [h59]; rfl
                obtain ⟨f, rfl⟩ : ∃ f', f = f' + 1 := ⟨f - 1, by omega⟩
                have hsemi := Lx.restP_semi (f := f) (k := from_) hlt h59
                rcases dl with dl | dl
                all_goals
                  obtain ⟨P, hP⟩ : ∃ P, P = ((Lx.ls s).drop from_).take (i - from_) := ⟨_, rfl⟩
                  have hem : Lx.emit (Lx.ls s) from_ i = if Lx.skipN false P < P.length then [P] else [] := by rw [Lx.emit, ← hP]
                  have hPl : P.length = i - from_ := by rw [hP, List.length_take, List.length_drop, Lx.ls_length]; omega
                  have hsl : s.extract from_ i = Lx.bs P := by rw [Lx.extract_bs, hP]
                  have hps : (Lx.bs P).size ≤ 1000000000 := by rw [Lx.bs_size, hPl]; omega
                  have HS := Lib.hid hsl
                  have HPS := Lib.hid hps
                  obtain ⟨q, hq⟩ : ∃ q, q = Lx.skipN false P := ⟨_, rfl⟩
                  have HQ := Lib.hid hq
                  rw [← hq] at hem
                  by_cases hbl : q < P.length
                  · rw [if_pos hbl] at hem
                    have HK' : Hid (acc ++ [P] ++ Lx.restP s f (i + 1) (Lx.modeOf false false) (i + 1) = R) := by unfold Hid; rw [← HKh.out, show Lx.restP s (f + 1) from_ (Lx.modeOf false false) i = _ from hsemi, hem]; simp [Lx.modeOf]
                    have e1 : decide ((q : Int) < (i : Int) - (from_ : Int)) = true := decide_eq_true (by omega)
                    clear hP hem hPl hsl hps hq hsemi h59 h39
                    go_wp2_with fail
                    rw [HS.out]
                    refine (skip_any _ 0 _ (by have := HPS.out; omega) (by omega)).mono ?_
                    rintro e w' ⟨rfl, rfl⟩
                    rw [Lx.suf_zero, Lx.ls_bs, Nat.zero_add, ← HQ.out]
                    have hsl2 := HS.out
                    go_wp2_with (at_builtin; refine wpList_app2 rfl (.tmp 82) (.tmp 87) 37 9 rfl Try.underlying37 string_info rfl (by decide) _ _ rfl (by intro u hu; simp at hu; subst hu; rfl) w.heap.size _ _ _ rfl hown _ rfl rfl (by simp only [maxLen]; omega) (by omega) hb.size w.heap.size (Nat.le_refl _) ?_; intro v2 w2 hown2 hb2)
                    go_roundw
                    case rel => exact ⟨acc ++ [P], i + 1, i + 1, f, false, false, by go_num, by go_num, rfl, rfl, by omega, by omega, by simp; omega, by omega, by simpa [strs] using hown2, hb.trans hb2, .inl ⟨by omega, by simp, HK'.out⟩⟩
                    case measure => simp [intOf]; omega
                  · rw [if_neg hbl] at hem
                    have HK' : Hid (acc ++ Lx.restP s f (i + 1) (Lx.modeOf false false) (i + 1) = R) := by unfold Hid; rw [← HKh.out, show Lx.restP s (f + 1) from_ (Lx.modeOf false false) i = _ from hsemi, hem]; simp [Lx.modeOf]
                    have e1 : decide ((q : Int) < (i : Int) - (from_ : Int)) = false := decide_eq_false (by omega)
                    clear hP hem hPl hsl hps hq hsemi h59 h39
                    go_wp2_with fail
                    rw [HS.out]
                    refine (skip_any _ 0 _ (by have := HPS.out; omega) (by omega)).mono ?_
                    rintro e w' ⟨rfl, rfl⟩
                    rw [Lx.suf_zero, Lx.ls_bs, Nat.zero_add, ← HQ.out]
                    go_wp2
                    go_roundw
                    case rel => exact ⟨acc, i + 1, i + 1, f, false, false, by go_num, by go_num, rfl, rfl, by omega, by omega, by omega, by omega, hown, hb, .inl ⟨by omega, by simp, HK'.out⟩⟩
                    case measure => simp [intOf]; omega
              · have d4 : ((s[i].toNat : Int) == 59) = false := by simp; omega
                by_cases h45 : s[i].toNat = 45
                · have d3 : ((s[i].toNat : Int) == 45) = true := by rw [h45]; rfl
                  by_cases hl2 : i + 1 < s.size
                  · have dl : decide ((i : Int) + 1 < (s.size : Int)) = true := decide_eq_true (by omega)
                    by_cases h452 : s[i + 1].toNat = 45
                    · have d5 : ((s[i + 1].toNat : Int) == 45) = true := by rw [h452]; rfl
                      have HK' : Hid (acc ++ Lx.restP s f from_ (Lx.modeOf false true) (i + 1) = R) := by unfold Hid; rw [← HKh.out]; congr 1; exact (Lx.restP_move (Lx.p_com hl2 h45 h452)).symm
                      clear h39 h59 h45 h452
                      go_wp2
                      go_roundw
                      case rel => exact ⟨acc, from_, i + 1, f, false, true, rfl, by go_num, rfl, rfl, by omega, by omega, by omega, by omega, hown, hb, .inl ⟨by omega, by simp, HK'.out⟩⟩
                      case measure => simp [intOf]; omega
                    · have d5 : ((s[i + 1].toNat : Int) == 45) = false := by simp; omega
                      have HK' : Hid (acc ++ Lx.restP s f from_ (Lx.modeOf false false) (i + 1) = R) := by unfold Hid; rw [← HKh.out]; congr 1; exact (Lx.restP_move (Lx.p_plain hlt h59 h39 (fun _ _ => h452))).symm
                      clear h39 h59 h45 h452
                      go_wp2
                      go_roundw
                      case rel => exact ⟨acc, from_, i + 1, f, false, false, rfl, by go_num, rfl, rfl, by omega, by omega, by omega, by omega, hown, hb, .inl ⟨by omega, by simp, HK'.out⟩⟩
                      case measure => simp [intOf]; omega
                  · have dl : decide ((i : Int) + 1 < (s.size : Int)) = false := decide_eq_false (by omega)
                    have HK' : Hid (acc ++ Lx.restP s f from_ (Lx.modeOf false false) (i + 1) = R) := by unfold Hid; rw [← HKh.out]; congr 1; exact (Lx.restP_move (Lx.p_plain hlt h59 h39 (fun _ h => absurd h hl2))).symm
                    clear h39 h59 h45
                    go_wp2
                    go_roundw
                    case rel => exact ⟨acc, from_, i + 1, f, false, false, rfl, by go_num, rfl, rfl, by omega, by omega, by omega, by omega, hown, hb, .inl ⟨by omega, by simp, HK'.out⟩⟩
                    case measure => simp [intOf]; omega
                · have d3 : ((s[i].toNat : Int) == 45) = false := by simp; omega
                  have HK' : Hid (acc ++ Lx.restP s f from_ (Lx.modeOf false false) (i + 1) = R) := by unfold Hid; rw [← HKh.out]; congr 1; exact (Lx.restP_move (Lx.p_plain hlt h59 h39 (fun h => absurd h h45))).symm
                  clear h39 h59 h45
                  rcases dl with dl | dl
                  all_goals
                    go_wp2
                    go_roundw
                    case rel => exact ⟨acc, from_, i + 1, f, false, false, rfl, by go_num, rfl, rfl, by omega, by omega, by omega, by omega, hown, hb, .inl ⟨by omega, by simp, HK'.out⟩⟩
                    case measure => simp [intOf]; omega
      · obtain rfl : i = s.size := by omega
        have d1 : decide ((s.size : Int) < (s.size : Int)) = false := decide_eq_false (by omega)
        have dl : decide ((s.size : Int) + 1 < (s.size : Int)) = false := decide_eq_false (by omega)
        have hend := Lx.restP_end (s := s) (f := f) (k := from_) (m := Lx.modeOf inq com)
        obtain ⟨P, hP⟩ : ∃ P, P = ((Lx.ls s).drop from_).take (s.size - from_) := ⟨_, rfl⟩
        have hem : Lx.emit (Lx.ls s) from_ s.size = if Lx.skipN false P < P.length then [P] else [] := by rw [Lx.emit, ← hP]
        have hPl : P.length = s.size - from_ := by rw [hP, List.length_take, List.length_drop, Lx.ls_length]; omega
        have hsl : s.extract from_ s.size = Lx.bs P := by rw [Lx.extract_bs, hP]
        have hps : (Lx.bs P).size ≤ 1000000000 := by rw [Lx.bs_size, hPl]; omega
        have HS := Lib.hid hsl
        have HPS := Lib.hid hps
        obtain ⟨q, hq⟩ : ∃ q, q = Lx.skipN false P := ⟨_, rfl⟩
        have HQ := Lib.hid hq
        rw [← hq] at hem
        by_cases hbl : q < P.length
        · rw [if_pos hbl] at hem
          have HK' : Hid (acc ++ [P] = R) := by unfold Hid; rw [← HKh.out, show Lx.restP s f from_ (Lx.modeOf inq com) s.size = _ from hend, hem]
          have e1 : decide ((q : Int) < (s.size : Int) - (from_ : Int)) = true := decide_eq_true (by omega)
          clear hP hem hPl hsl hps hq hend hqc
          go_wp2_with fail
          rw [HS.out]
          refine (skip_any _ 0 _ (by have := HPS.out; omega) (by omega)).mono ?_
          rintro e w' ⟨rfl, rfl⟩
          rw [Lx.suf_zero, Lx.ls_bs, Nat.zero_add, ← HQ.out]
          have hsl2 := HS.out
          go_wp2_with (at_builtin; refine wpList_app2 rfl (.tmp 82) (.tmp 87) 37 9 rfl Try.underlying37 string_info rfl (by decide) _ _ rfl (by intro u hu; simp at hu; subst hu; rfl) w.heap.size _ _ _ rfl hown _ rfl rfl (by simp only [maxLen]; omega) (by omega) hb.size w.heap.size (Nat.le_refl _) ?_; intro v2 w2 hown2 hb2)
          go_roundw
          case rel => exact ⟨acc ++ [P], s.size + 1, s.size + 1, f, inq, com, by go_num, by go_num, rfl, rfl, by omega, by omega, by simp; omega, by omega, by simpa [strs] using hown2, hb.trans hb2, .inr ⟨rfl, HK'.out⟩⟩
          case measure => simp [intOf]; try omega
        · rw [if_neg hbl] at hem
          have HK' : Hid (acc = R) := by unfold Hid; rw [← HKh.out, show Lx.restP s f from_ (Lx.modeOf inq com) s.size = _ from hend, hem, List.append_nil]
          have e1 : decide ((q : Int) < (s.size : Int) - (from_ : Int)) = false := decide_eq_false (by omega)
          clear hP hem hPl hsl hps hq hend hqc
          go_wp2_with fail
          rw [HS.out]
          refine (skip_any _ 0 _ (by have := HPS.out; omega) (by omega)).mono ?_
          rintro e w' ⟨rfl, rfl⟩
          rw [Lx.suf_zero, Lx.ls_bs, Nat.zero_add, ← HQ.out]
          go_wp2
          go_roundw
          case rel => exact ⟨acc, s.size + 1, s.size + 1, f, inq, com, by go_num, by go_num, rfl, rfl, by omega, by omega, by omega, by omega, hown, hb, .inr ⟨rfl, HK'.out⟩⟩
          case measure => simp [intOf]; try omega
    · subst hie
      have d1 : decide (((s.size + 1 : Nat) : Int) ≤ (s.size : Int)) = false := decide_eq_false (by omega)
      go_wp2
      go_ret
      exact ⟨_, rfl, by rw [← HK]; exact hown, hb⟩
end Go.Proofs.Ytepdpdlakgnpmaa
