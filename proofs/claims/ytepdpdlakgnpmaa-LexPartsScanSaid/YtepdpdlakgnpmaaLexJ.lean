import Derived.Test.YtepdpdlakgnpmaaLexI
import Derived.Test.YtepdpdlakgnpmaaLexH
set_option linter.unusedVariables false
set_option linter.unusedSimpArgs false
namespace Go.Proofs.Ytepdpdlakgnpmaa
open Go.RowKit
attribute [local simp] Lx.bs_size
def strs (l : List (List UInt8)) : List Value := l.map fun p => .string (Lx.bs p)
theorem string_info : (Try.prog.info? 9).map (fun i => (i.zero, i.size, i.bytes)) = some (some (.string ⟨#[]⟩), 1, 16) := by kernel_rfl
def partsE (w : World) (l : List (List UInt8)) (e : Ending) (w' : World) : Prop :=
  ∃ v, e = .returned v ∧ w'.ownsRow w.heap.size 9 1 v l.length (strs l) ∧ Below w.heap.size w w'
theorem parts_stop {l : List UInt8} {f k : Nat} (h : l.length < k) : Lx.parts l (f + 1) k = [] := by rw [Lx.parts, if_pos h]
theorem parts_step {l : List UInt8} {f k n : Nat} {P : List UInt8} (h : k ≤ l.length) (hn : n = Lx.pN 0 (l.drop k)) (hP : P = (l.drop k).take n) :
    Lx.parts l (f + 1) k = (if Lx.skipN false P < P.length then [P] else []) ++ Lx.parts l f (k + n + 1) := by
  rw [Lx.parts, if_neg (by omega), ← hn, ← hP]
set_option maxHeartbeats 1000000 in
theorem parts_any (s : ByteArray) (w : World) (hs : s.size ≤ 1000000) :
    Calls Try.prog 16 #[.string s] w fun e w' => partsE w (Lx.partsOf (Lx.ls s)) e w' := by
  have hR : Lx.partsOf (Lx.ls s) = Lx.parts (Lx.ls s) (s.size + 2) 0 := by rw [Lx.partsOf, Lx.ls_length]
  rw [hR]
  generalize hR2 : Lx.parts (Lx.ls s) (s.size + 2) 0 = R
  have HR := Lib.hid hR2
  clear hR hR2
  go_enter Try.func16, Try.ntmps16
  go_wp2
  go_loopw [3, 4] (fun v i wr => ∃ (acc : List (List UInt8)) (k f : Nat), i = .int .i64 k ∧ k ≤ s.size + 1 ∧ s.size + 1 - k < f ∧ acc.length ≤ k ∧ wr.ownsRow w.heap.size 9 1 v acc.length (strs acc) ∧ Below w.heap.size w wr ∧ Hid (acc ++ Lx.parts (Lx.ls s) f k = R)) (fun _ i _ => s.size + 1 - (intOf i).toNat)
  case atStart => exact ⟨[], 0, s.size + 2, rfl, by omega, by omega, by simp, World.ownsRow_nil _ _ _ _, Below.refl _ _, Lib.hid (by rw [List.nil_append]; exact HR.out)⟩
  case round =>
    obtain ⟨acc, k, f, rfl, hk, hf, hal, hown, hb, HK⟩ := hrel
    obtain ⟨f, rfl⟩ : ∃ f', f = f' + 1 := ⟨f - 1, by omega⟩
    by_cases hin : k ≤ s.size
    · obtain ⟨n, hn⟩ : ∃ n, n = Lx.pN 0 (Lx.suf s k) := ⟨_, rfl⟩
      obtain ⟨P, hP⟩ : ∃ P, P = (Lx.suf s k).take n := ⟨_, rfl⟩
      have hnl := Lx.pN_le 0 (Lx.suf s k)
      rw [← hn, Lx.suf_length] at hnl
      have hst := parts_step (l := Lx.ls s) (f := f) (by rw [Lx.ls_length]; exact hin) hn hP
      rw [hst, ← List.append_assoc] at HK
      obtain ⟨m, hm⟩ : ∃ m, m = k + n := ⟨_, rfl⟩
      rw [← hm] at HK
      have HM : Hid (m = k + Lx.pN 0 (Lx.suf s k)) := by unfold Hid; rw [hm, hn]
      have hm1 : k ≤ m := by omega
      have hm2 : m ≤ s.size := by omega
      have hPl : P.length = n := by rw [hP, List.length_take, Lx.suf_length]; omega
      have hsl : s.extract k m = Lx.bs P := by rw [Lx.extract_bs, hm, Nat.add_sub_cancel_left, hP]; rfl
      have hps : (Lx.bs P).size ≤ 1000000000 := by rw [Lx.bs_size, hPl]; omega
      have HS := Lib.hid hsl
      have HPS := Lib.hid hps
      obtain ⟨q, hq⟩ : ∃ q, q = Lx.skipN false P := ⟨_, rfl⟩
      have HQ := Lib.hid hq
      rw [← hq] at HK
      by_cases hbl : q < P.length
      · rw [if_pos hbl] at HK
        have HK' := Lib.hid HK.out
        have d1 : decide (q < P.length) = true := decide_eq_true hbl
        have d1' : decide ((q : Int) < (P.length : Int)) = true := decide_eq_true (by omega)
        clear hst hn hP hm hPl hsl hps hq hnl HK
        go_wp2_with fail
        refine (part_any s k _ (by omega) hin).mono ?_
        rintro e w' ⟨rfl, rfl⟩
        rw [← HM.out]
        go_wp2_with fail
        rw [HS.out]
        refine (blanks_any _ 0 _ HPS.out (by omega)).mono ?_
        rintro e w' ⟨rfl, rfl⟩
        rw [Lx.suf_zero, Lx.ls_bs, Nat.zero_add, ← HQ.out]
        go_wp2_with (at_builtin; refine wpList_app2 rfl (.tmp 23) (.tmp 25) 37 9 rfl Try.underlying37 string_info rfl (by decide) _ _ rfl (by intro u hu; simp at hu; subst hu; rfl) w.heap.size _ _ _ rfl hown _ rfl rfl (by simp only [maxLen]; omega) (by omega) hb.size w.heap.size (Nat.le_refl _) ?_; intro v2 w2 hown2 hb2)
        go_roundw
        case rel => exact ⟨acc ++ [P], m + 1, f, by go_num, by omega, by omega, by simp; omega, by simpa [strs] using hown2, hb.trans hb2, HK'⟩
        case measure => simp [intOf]; omega
      · rw [if_neg hbl, List.append_nil] at HK
        have HK' := Lib.hid HK.out
        have d1 : decide (q < P.length) = false := decide_eq_false hbl
        have d1' : decide ((q : Int) < (P.length : Int)) = false := decide_eq_false (by omega)
        clear hst hn hP hm hPl hsl hps hq hnl HK
        go_wp2_with fail
        refine (part_any s k _ (by omega) hin).mono ?_
        rintro e w' ⟨rfl, rfl⟩
        rw [← HM.out]
        go_wp2_with fail
        rw [HS.out]
        refine (blanks_any _ 0 _ HPS.out (by omega)).mono ?_
        rintro e w' ⟨rfl, rfl⟩
        rw [Lx.suf_zero, Lx.ls_bs, Nat.zero_add, ← HQ.out]
        go_wp2
        go_roundw
        case rel => exact ⟨acc, m + 1, f, by go_num, by omega, by omega, by omega, hown, hb, HK'⟩
        case measure => simp [intOf]; omega
    · have hst := parts_stop (l := Lx.ls s) (f := f) (k := k) (by rw [Lx.ls_length]; omega)
      rw [hst, List.append_nil] at HK
      go_wp2
      go_ret
      exact ⟨_, rfl, by rw [← HK.out]; exact hown, hb⟩
end Go.Proofs.Ytepdpdlakgnpmaa
