import Derived.Test.YtepdpdlakgnpmaaRefLexA
import Derived.Test.YtepdpdlakgnpmaaLxC
set_option linter.unusedVariables false
set_option linter.unusedSimpArgs false
namespace Go.Proofs.Ytepdpdlakgnpmaa
open Go.RowKit
attribute [local simp] Lx.bs_size Lx.bs_append
theorem run_dig (s : ByteArray) (k0 : Nat) (w : World) (hs : s.size ≤ 1000000000) (hk : k0 ≤ s.size) :
    Calls Try.prog 37 #[.string s, .int .i64 k0, .bool true] w fun e w' => e = .returned (.int .i64 ((k0 + Lx.many Lx.dig (Lx.suf s k0) : Nat) : Int)) ∧ w = w' := by
  generalize hR : k0 + Lx.many Lx.dig (Lx.suf s k0) = R
  have HR := Lib.hid hR
  clear hR
  go_enter Try.func37, Try.ntmps37
  go_wp2
  go_loop [1] (fun i => ∃ k : Nat, k ≤ s.size ∧ i = .int .i64 k ∧ Hid (k + Lx.many Lx.dig (Lx.suf s k) = R)) (fun i => s.size - (intOf i).toNat)
  case atStart => exact ⟨k0, hk, rfl, HR⟩
  case round =>
    obtain ⟨k, hk, rfl, HK⟩ := hrel
    by_cases hlt : k < s.size
    · cases hp : Lx.dig s[k]
      · have HP := Lib.hid hp; clear hp
        go_wp2_with fail
        refine (refdigit_any _ _).mono ?_
        rintro e w' ⟨rfl, rfl⟩
        rw [HP.out]
        go_wp2
        go_ret
        exact ⟨ret_i (by rw [← HK.out, Lx.many_stop hlt HP.out]), rfl⟩
      · have HP := Lib.hid hp; clear hp
        go_wp2_with fail
        refine (refdigit_any _ _).mono ?_
        rintro e w' ⟨rfl, rfl⟩
        rw [HP.out]
        go_wp2
        go_round
        case rel => exact ⟨k + 1, by omega, by go_num, Lib.hid (by rw [← HK.out, Lx.many_go hlt HP.out])⟩
        case measure => simp [intOf]; omega
    · go_wp2
      go_ret
      exact ⟨ret_i (by rw [← HK.out, Lx.many_end (by omega)]), rfl⟩
theorem run_nam (s : ByteArray) (k0 : Nat) (w : World) (hs : s.size ≤ 1000000000) (hk : k0 ≤ s.size) :
    Calls Try.prog 37 #[.string s, .int .i64 k0, .bool false] w fun e w' => e = .returned (.int .i64 ((k0 + Lx.many Lx.nam (Lx.suf s k0) : Nat) : Int)) ∧ w = w' := by
  generalize hR : k0 + Lx.many Lx.nam (Lx.suf s k0) = R
  have HR := Lib.hid hR
  clear hR
  go_enter Try.func37, Try.ntmps37
  go_wp2
  go_loop [1] (fun i => ∃ k : Nat, k ≤ s.size ∧ i = .int .i64 k ∧ Hid (k + Lx.many Lx.nam (Lx.suf s k) = R)) (fun i => s.size - (intOf i).toNat)
  case atStart => exact ⟨k0, hk, rfl, HR⟩
  case round =>
    obtain ⟨k, hk, rfl, HK⟩ := hrel
    by_cases hlt : k < s.size
    · cases hp : Lx.dig s[k]
      · have HP := Lib.hid hp; clear hp
        go_wp2_with fail
        refine (refdigit_any _ _).mono ?_
        rintro e w' ⟨rfl, rfl⟩
        rw [HP.out]
        go_wp2_with fail
        refine (refletter_any _ _).mono ?_
        rintro e w' ⟨rfl, rfl⟩
        cases hq : Lx.let_ s[k]
        · have HN := Lib.hid (show Lx.nam s[k] = false from by rw [Lx.nam, hq, HP.out]; rfl)
          clear hq
          go_wp2
          go_ret
          exact ⟨ret_i (by rw [← HK.out, Lx.many_stop hlt HN.out]), rfl⟩
        · have HN := Lib.hid (show Lx.nam s[k] = true from by rw [Lx.nam, hq]; rfl)
          clear hq
          go_wp2
          go_round
          case rel => exact ⟨k + 1, by omega, by go_num, Lib.hid (by rw [← HK.out, Lx.many_go hlt HN.out])⟩
          case measure => simp [intOf]; omega
      · have HN := Lib.hid (show Lx.nam s[k] = true from by rw [Lx.nam, hp, Bool.or_true])
        have HP := Lib.hid hp; clear hp
        go_wp2_with fail
        refine (refdigit_any _ _).mono ?_
        rintro e w' ⟨rfl, rfl⟩
        rw [HP.out]
        go_wp2
        go_round
        case rel => exact ⟨k + 1, by omega, by go_num, Lib.hid (by rw [← HK.out, Lx.many_go hlt HN.out])⟩
        case measure => simp [intOf]; omega
    · go_wp2
      go_ret
      exact ⟨ret_i (by rw [← HK.out, Lx.many_end (by omega)]), rfl⟩
def plainE (o : Option Nat) : Ending := .returned (.int .i64 (match o with | some n => (n : Int) | none => -1))
theorem rquoted_true (s : ByteArray) (k0 : Nat) (w : World) (hs : s.size ≤ 1000000000) (hk0 : k0 < s.size) :
    Calls Try.prog 35 #[.string s, .int .i64 k0, .bool true] w fun e w' => e = plainE (Lx.shift (Lx.qEnd (Lx.suf s (k0 + 1))) (k0 + 1)) ∧ w = w' := by
  generalize hR : Lx.shift (Lx.qEnd (Lx.suf s (k0 + 1))) (k0 + 1) = R
  have HR := Lib.hid hR
  clear hR
  go_enter Try.func35, Try.ntmps35
  go_wp2
  go_loop [7] (fun i => ∃ k : Nat, k ≤ s.size ∧ i = .int .i64 k ∧ Hid (Lx.shift (Lx.qEnd (Lx.suf s k)) k = R)) (fun i => s.size - (intOf i).toNat)
  case atStart => exact ⟨k0 + 1, by omega, by go_num, HR⟩
  case round =>
    obtain ⟨k, hk, rfl, HK⟩ := hrel
    by_cases hlt : k < s.size
    · by_cases h39 : s[k].toNat = 39
      · have d1 : ((s[k].toNat : Int) != 39) = false := by simp; omega
        by_cases hlt2 : k + 1 < s.size
        · have d2 : decide ((k : Int) + 1 < (s.size : Int)) = true := decide_eq_true (by omega)
          by_cases h392 : s[k + 1].toNat = 39
          · have d3 : ((s[k + 1].toNat : Int) == 39) = true := by simp; omega
            have HK' := Lib.hid (Eq.trans (Lx.q_pair hlt2 h39 h392).symm HK.out)
            have H39 := Lib.hid h39
            have H392 := Lib.hid h392
            clear h39 h392
            go_wp2
            go_round
            case rel => exact ⟨k + 2, by omega, by go_num, HK'⟩
            case measure => simp [intOf]; omega
          · have d3 : ((s[k + 1].toNat : Int) == 39) = false := by simp; omega
            have hf := Lx.q_stop hlt h39 (fun _ => h392)
            rw [HK.out] at hf
            subst hf
            have H39 := Lib.hid h39
            clear h39 h392
            go_wp2
            go_ret
            exact ⟨rfl, rfl⟩
        · have d2 : decide ((k : Int) + 1 < (s.size : Int)) = false := decide_eq_false (by omega)
          have hf := Lx.q_stop hlt h39 (fun h => absurd h hlt2)
          rw [HK.out] at hf
          subst hf
          have H39 := Lib.hid h39
          clear h39
          go_wp2
          go_ret
          exact ⟨rfl, rfl⟩
      · have d1 : ((s[k].toNat : Int) != 39) = true := by simp; omega
        have HK' := Lib.hid (Eq.trans (Lx.q_go hlt h39).symm HK.out)
        clear h39
        go_wp2
        go_round
        case rel => exact ⟨k + 1, by omega, by go_num, HK'⟩
        case measure => simp [intOf]; omega
    · have hf : R = none := by rw [← HK.out, Lx.q_end (by omega)]
      subst hf
      go_wp2
      go_ret
      exact ⟨rfl, rfl⟩
theorem rquoted_false (s : ByteArray) (k0 : Nat) (w : World) (hs : s.size ≤ 1000000000) (hk0 : k0 < s.size) :
    Calls Try.prog 35 #[.string s, .int .i64 k0, .bool false] w fun e w' => e = plainE (Lx.shift (Lx.bEnd (Lx.suf s (k0 + 1))) (k0 + 1)) ∧ w = w' := by
  generalize hR : Lx.shift (Lx.bEnd (Lx.suf s (k0 + 1))) (k0 + 1) = R
  have HR := Lib.hid hR
  clear hR
  go_enter Try.func35, Try.ntmps35
  go_wp2
  go_loop [7] (fun i => ∃ k : Nat, k ≤ s.size ∧ i = .int .i64 k ∧ Hid (Lx.shift (Lx.bEnd (Lx.suf s k)) k = R)) (fun i => s.size - (intOf i).toNat)
  case atStart => exact ⟨k0 + 1, by omega, by go_num, HR⟩
  case round =>
    obtain ⟨k, hk, rfl, HK⟩ := hrel
    by_cases hlt : k < s.size
    · by_cases h39 : s[k].toNat = 39
      · have d1 : ((s[k].toNat : Int) != 39) = false := by simp; omega
        have hf := Lx.b_stop hlt h39
        rw [HK.out] at hf
        subst hf
        have H39 := Lib.hid h39
        clear h39
        go_wp2
        go_ret
        exact ⟨rfl, rfl⟩
      · have d1 : ((s[k].toNat : Int) != 39) = true := by simp; omega
        have HK' := Lib.hid (Eq.trans (Lx.b_go hlt h39).symm HK.out)
        clear h39
        go_wp2
        go_round
        case rel => exact ⟨k + 1, by omega, by go_num, HK'⟩
        case measure => simp [intOf]; omega
    · have hf : R = none := by rw [← HK.out, Lx.b_end (by omega)]
      subst hf
      go_wp2
      go_ret
      exact ⟨rfl, rfl⟩
def marksC : Array Value := (Lx.marksL.map fun m => Value.string (Lx.bs m)).toArray
theorem marks_len : ∀ k : Fin 17, ∃ m, Lx.marksL[k.val]? = some m ∧ m.length ≤ 2 := by
  intro k
  have h : ∀ m ∈ Lx.marksL, m.length ≤ 2 := by decide
  have hk : k.val < Lx.marksL.length := k.isLt
  exact ⟨_, List.getElem?_eq_getElem hk, h _ (List.getElem_mem hk)⟩
theorem marksC_at {k : Nat} {m : List UInt8} (h : Lx.marksL[k]? = some m) : marksC[k]? = some (.string (Lx.bs m)) := by
  unfold marksC
  rw [List.getElem?_toArray, List.getElem?_map, h]
  rfl
def pre (l m : List UInt8) : Bool := l.take m.length == m
set_option maxHeartbeats 1000000 in
theorem mark_any (s : ByteArray) (k0 : Nat) (w : World) (hs : s.size ≤ 1000000000) (hk0 : k0 < s.size) :
    Calls Try.prog 40 #[.string s, .int .i64 k0] w fun e w' => e = .returned (.string (Lx.bs (Lx.markS (Lx.suf s k0)))) ∧ Below w.heap.size w w' := by
  generalize hR : Lx.markS (Lx.suf s k0) = R
  have HR : Hid (((Lx.marksL.drop 0).find? (pre (Lx.suf s k0))).getD [] = R) := Lib.hid hR
  clear hR
  have hw0 : (w.alloc (.cells marksC 9)).heap[w.heap.size]? = some (.cells marksC 9 (0, 0)) := heap_alloc_new w _
  have hb0 : Below w.heap.size w (w.alloc (.cells marksC 9)) := by (repeat (first | with_reducible exact Below.refl _ _ | with_reducible assumption | with_reducible refine Below.drew ?_ | with_reducible refine below_drewN ?_ _ | with_reducible refine below_al ?_ _ | with_reducible refine Below.setCell ?_ ?_ _ | exact Nat.le_refl _ | omega | (simp; done) | (simp; omega)))
  go_enter Try.func40, Try.ntmps40
  go_wp2
  go_loopw [6] (fun i wr => ∃ k : Nat, k ≤ 17 ∧ i = .int .i64 k ∧ wr.heap[w.heap.size]? = some (.cells marksC 9 (0, 0)) ∧ Below w.heap.size w wr ∧ Hid (((Lx.marksL.drop k).find? (pre (Lx.suf s k0))).getD [] = R)) (fun i _ => 17 - (intOf i).toNat)
  case atStart => exact ⟨0, by omega, rfl, hw0, hb0, HR⟩
  case round =>
    obtain ⟨k, hk, rfl, hh, hb, HK⟩ := hrel
    clear hw0 hb0
    by_cases hlt : k < 17
    · obtain ⟨m, hm, hml⟩ := marks_len ⟨k, hlt⟩
      have hm : Lx.marksL[k]? = some m := hm
      have hc := cell_of_heap hh (marksC_at hm)
      have HH := Lib.hid hh
      have HM := Lib.hid hm
      clear hh hm
      have e0 : ((k0 : Int) + (m.length : Int)).toNat = k0 + m.length := by omega
      have i0 : (0 : Int) ≤ (k : Int) := by omega
      have i1 : (k : Int) < 17 := by omega
      have i2 : ((k : Int)).toNat = k := by omega
      by_cases hfit : m.length ≤ s.size - k0
      · have d1 : decide ((m.length : Int) ≤ (s.size : Int) - (k0 : Int)) = true := decide_eq_true (by omega)
        have g0 : (k0 : Int) ≤ (k0 : Int) + (m.length : Int) := by omega
        have g1 : (k0 : Int) + (m.length : Int) ≤ (s.size : Int) := by omega
        have hq : ((s.extract k0 (k0 + m.length)).toList == (Lx.bs m).toList) = pre (Lx.suf s k0) m := by
          rw [Lx.bs_toList, Lx.toList_ls, Lx.ls_extract, Nat.add_sub_cancel_left]; rfl
        cases hp : pre (Lx.suf s k0) m with
        | true =>
          rw [hp] at hq
          have hf := Lx.find_hit HM.out hp
          have hf2 : m = R := by rw [← HK.out, hf]; rfl
          subst hf2
          clear hf hp
          go_wp2
          go_quiet (fail)
          go_wp2
          go_ret
          exact ⟨rfl, by (repeat (first | with_reducible exact Below.refl _ _ | with_reducible assumption | with_reducible refine Below.drew ?_ | with_reducible refine below_drewN ?_ _ | with_reducible refine below_al ?_ _ | with_reducible refine Below.setCell ?_ ?_ _ | exact Nat.le_refl _ | omega | (simp; done) | (simp; omega)))⟩
        | false =>
          rw [hp] at hq
          have hf := Lx.find_step HM.out hp
          have HK' : Hid (((Lx.marksL.drop (k + 1)).find? (pre (Lx.suf s k0))).getD [] = R) := by unfold Hid; rw [← hf]; exact HK.out
          clear hf hp
          go_wp2
          go_quiet (fail)
          go_wp2
          go_roundw
          case rel => exact ⟨k + 1, by omega, by go_num, HH.out, by (repeat (first | with_reducible exact Below.refl _ _ | with_reducible assumption | with_reducible refine Below.drew ?_ | with_reducible refine below_drewN ?_ _ | with_reducible refine below_al ?_ _ | with_reducible refine Below.setCell ?_ ?_ _ | exact Nat.le_refl _ | omega | (simp; done) | (simp; omega))), HK'⟩
          case measure => simp [intOf]; omega
      · have d1 : decide ((m.length : Int) ≤ (s.size : Int) - (k0 : Int)) = false := decide_eq_false (by omega)
        have hp : pre (Lx.suf s k0) m = false := by
          rw [← Bool.not_eq_true]
          intro h
          unfold pre at h
          have h2 := congrArg List.length (eq_of_beq h)
          rw [List.length_take, Lx.suf_length] at h2
          omega
        have hf := Lx.find_step HM.out hp
        have HK' : Hid (((Lx.marksL.drop (k + 1)).find? (pre (Lx.suf s k0))).getD [] = R) := by unfold Hid; rw [← hf]; exact HK.out
        clear hf hp
        go_wp2
        go_quiet (fail)
        go_wp2
        go_roundw
        case rel => exact ⟨k + 1, by omega, by go_num, HH.out, by (repeat (first | with_reducible exact Below.refl _ _ | with_reducible assumption | with_reducible refine Below.drew ?_ | with_reducible refine below_drewN ?_ _ | with_reducible refine below_al ?_ _ | with_reducible refine Below.setCell ?_ ?_ _ | exact Nat.le_refl _ | omega | (simp; done) | (simp; omega))), HK'⟩
        case measure => simp [intOf]; omega
    · obtain rfl : k = 17 := by omega
      have hf : R = [] := by rw [← HK.out]; rfl
      subst hf
      go_wp2
      go_ret
      exact ⟨rfl, hb⟩
end Go.Proofs.Ytepdpdlakgnpmaa
