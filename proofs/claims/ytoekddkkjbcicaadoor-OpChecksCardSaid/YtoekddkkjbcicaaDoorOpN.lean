import Derived.Test.YtoekddkkjbcicaaDoorOpM
set_option linter.unusedVariables false
set_option linter.unusedSimpArgs false
namespace Go.Proofs.YtoekddkkjbcicaaDoor
open Go.RowKit
attribute [local simp] Lx.bs_size
theorem consH_consH (p q : Ox.S) : ∀ X : List Ox.S, Ox.consH p (Ox.consH q X) = Ox.consH (p ++ q) X
  | [] => rfl
  | h :: t => by simp [Ox.consH]
theorem consH_nil : ∀ {X : List Ox.S}, X ≠ [] → Ox.consH [] X = X
  | [], h => absurd rfl h
  | h :: t, _ => rfl
theorem split_ne (c : UInt8) : ∀ s : Ox.S, Ox.split c s ≠ []
  | [] => by simp [Ox.split]
  | x :: r => by
    rw [Ox.split]
    split
    · simp
    · cases h : Ox.split c r with
      | nil => simp [Ox.consH]
      | cons a b => simp [Ox.consH]
theorem split_len (c : UInt8) : ∀ s : Ox.S, (Ox.split c s).length ≤ s.length + 1
  | [] => by simp [Ox.split]
  | x :: r => by
    have ih := split_len c r
    rw [Ox.split]
    split
    · simp; omega
    · cases h : Ox.split c r with
      | nil => simp [Ox.consH]
      | cons a b => rw [h] at ih; simp [Ox.consH] at ih ⊢; omega
theorem split_hit {s : ByteArray} {c : UInt8} {k : Nat} (h : k < s.size) (hc : s[k] = c) : Ox.split c (Lx.suf s k) = [] :: Ox.split c (Lx.suf s (k + 1)) := by
  rw [Lx.suf_cons h, Ox.split, if_pos (by simp [hc])]
theorem split_go {s : ByteArray} {c : UInt8} {k : Nat} (h : k < s.size) (hc : s[k] ≠ c) : Ox.split c (Lx.suf s k) = Ox.consH [s[k]] (Ox.split c (Lx.suf s (k + 1))) := by
  rw [Lx.suf_cons h, Ox.split, if_neg (by simp [hc])]
theorem cut_snoc {s : ByteArray} {j k : Nat} (hj : j ≤ k) (hk : k < s.size) : ((Lx.ls s).drop j).take (k - j) ++ [s[k]] = ((Lx.ls s).drop j).take (k + 1 - j) := by
  rw [show k + 1 - j = (k - j) + 1 by omega, List.take_add_one, List.getElem?_drop, show j + (k - j) = k by omega, Lx.ls_get hk]; rfl
theorem str_info : (Tryd.prog.info? 9).map (fun i => (i.zero, i.size, i.bytes)) = some (some (.string ⟨#[]⟩), 1, 16) := by kernel_rfl
set_option maxHeartbeats 2000000 in
theorem split_any (s : ByteArray) (c : UInt8) (w : World) (hs : s.size ≤ 100000000) :
    Calls Tryd.prog 21 #[.string s, .int .u8 c.toNat] w fun e w' => ∃ v, e = .returned v ∧ Row1 w' v (Ox.split c (Lx.ls s)).length (sts (Ox.split c (Lx.ls s))) ∧ Below w.heap.size w w' := by
  generalize hR : Ox.split c (Lx.ls s) = R
  have HR := Lib.hid hR
  clear hR
  go_enter Tryd.func21, Tryd.ntmps21
  go_wp2
  go_loopw [5, 6, 7, 10] (fun v fr _ i wr => ∃ (k from_ : Nat) (acc : List Ox.S), k ≤ s.size ∧ from_ ≤ k ∧ acc.length ≤ k ∧ i = .int .i64 k ∧ fr = .int .i64 from_ ∧ wr.ownsRow w.heap.size 9 1 v acc.length (sts acc) ∧ Below w.heap.size w wr ∧ Hid (acc ++ Ox.consH (((Lx.ls s).drop from_).take (k - from_)) (Ox.split c (Lx.suf s k)) = R)) (fun _ _ _ i _ => s.size - (intOf i).toNat)
  case atStart => exact ⟨0, 0, [], by omega, by omega, by simp, rfl, rfl, World.ownsRow_nil _ _ _ _, Below.refl _ _, Lib.hid (by rw [List.nil_append, Nat.sub_self, List.take_zero, consH_nil (split_ne _ _), Lx.suf_zero]; exact HR.out)⟩
  case round =>
    obtain ⟨k, from_, acc, hk, hfk, hak, rfl, rfl, hown, hb, HK⟩ := hrel
    by_cases hlt : k < s.size
    · by_cases hc : s[k] = c
      · have d1 : ((s[k].toNat : Int) == (c.toNat : Int)) = true := by rw [hc]; simp
        obtain ⟨P, hP⟩ : ∃ P, P = ((Lx.ls s).drop from_).take (k - from_) := ⟨_, rfl⟩
        have hsl : s.extract from_ k = Lx.bs P := by rw [Lx.extract_bs, hP]
        have hPl : P.length ≤ s.size := by rw [hP, List.length_take, List.length_drop, Lx.ls_length]; omega
        have HS := Lib.hid hsl
        have HK' : Hid (acc ++ [P] ++ Ox.consH (((Lx.ls s).drop (k + 1)).take (k + 1 - (k + 1))) (Ox.split c (Lx.suf s (k + 1))) = R) := by
          unfold Hid
          rw [← HK.out, split_hit hlt hc, ← hP, Nat.sub_self, List.take_zero, consH_nil (split_ne _ _)]
          simp [Ox.consH]
        clear hc hP hsl
        go_wp2_with (at_builtin; refine wpList_app1 rfl (.tmp 18) (.tmp 23) 46 9 rfl Tryd.underlying46 str_info rfl (by decide) _ _ rfl (by intro u hu; simp at hu; subst hu; rfl) w.heap.size _ _ _ rfl hown rfl (by simp only [maxLen]; omega) (by omega) hb.size w.heap.size (Nat.le_refl _) ?_; intro v1 w1 hown1 hb1)
        go_roundw
        case rel => exact ⟨k + 1, k + 1, acc ++ [P], by omega, by omega, by simp; omega, by go_num, by go_num, by simpa [sts, HS.out] using hown1, hb.trans hb1, HK'⟩
        case measure => simp [intOf]; omega
      · have d1 : ((s[k].toNat : Int) == (c.toNat : Int)) = false := by
          rw [← Bool.not_eq_true]
          intro h
          simp at h
          exact hc (UInt8.toNat_inj.1 (by omega))
        have HK' : Hid (acc ++ Ox.consH (((Lx.ls s).drop from_).take (k + 1 - from_)) (Ox.split c (Lx.suf s (k + 1))) = R) := by
          unfold Hid
          rw [← HK.out, split_go hlt hc, consH_consH, cut_snoc hfk hlt]
        clear hc
        go_wp2
        go_roundw
        case rel => exact ⟨k + 1, from_, acc, by omega, by omega, by omega, by go_num, by go_num, hown, hb, HK'⟩
        case measure => simp [intOf]; omega
    · obtain rfl : k = s.size := by omega
      obtain ⟨P, hP⟩ : ∃ P, P = ((Lx.ls s).drop from_).take (s.size - from_) := ⟨_, rfl⟩
      have hsl : s.extract from_ s.size = Lx.bs P := by rw [Lx.extract_bs, hP]
      have hPl : P.length ≤ s.size := by rw [hP, List.length_take, List.length_drop, Lx.ls_length]; omega
      have HS := Lib.hid hsl
      have hRf : acc ++ [P] = R := by rw [← HK.out, ← hP, Lx.suf_nil (Nat.le_refl _)]; simp [Ox.split, Ox.consH]
      subst hRf
      clear hP hsl
      go_wp2_with (at_builtin; refine wpList_app1 rfl (.tmp 28) (.tmp 32) 46 9 rfl Tryd.underlying46 str_info rfl (by decide) _ _ rfl (by intro u hu; simp at hu; subst hu; rfl) w.heap.size _ _ _ rfl hown rfl (by simp only [maxLen]; omega) (by omega) hb.size w.heap.size (Nat.le_refl _) ?_; intro v1 w1 hown1 hb1)
      go_ret
      refine ⟨_, rfl, ?_, hb.trans hb1⟩
      refine row1_of_own (base := w.heap.size) (t := 9) (z := 1) ?_
      simpa [sts, HS.out] using hown1
theorem number_any (s : ByteArray) (w : World) (hs : s.size ≤ 9223372036854775000) :
    Calls Tryd.prog 45 #[.string s] w fun e w' => e = .returned (.tuple #[.int .i64 (Ox.number (Lx.ls s)).1, .bool (Ox.number (Lx.ls s)).2]) ∧ Below w.heap.size w w' := by
  have h1 : (Ox.number (Lx.ls s)).1 = (Lx.read (Lx.ls s)).1 := rfl
  have h2 : (Ox.number (Lx.ls s)).2 = (decide ((Lx.read (Lx.ls s)).2 = 0) && decide (0 ≤ (Lx.read (Lx.ls s)).1) && decide ((Lx.read (Lx.ls s)).1 ≤ 999999999)) := rfl
  rw [h1, h2]
  obtain ⟨n, hn⟩ : ∃ n, n = (Lx.read (Lx.ls s)).1 := ⟨_, rfl⟩
  obtain ⟨x, hx⟩ : ∃ x, x = (Lx.read (Lx.ls s)).2 := ⟨_, rfl⟩
  rw [← hn, ← hx]
  have HN := Lib.hid hn
  have HX := Lib.hid hx
  clear h1 h2 hn hx
  go_enter Tryd.func45, Tryd.ntmps45
  go_wp2_with fail
  refine (read_any s w hs).mono ?_
  rintro e w1 ⟨rfl, hb1⟩
  rw [← HN.out, ← HX.out]
  go_wp2
  all_goals
    go_ret2
    refine ⟨ret_2 rfl (congrArg Value.bool ?_), hb1⟩
    rw [Bool.eq_iff_iff]
    simp at *
    try omega
end Go.Proofs.YtoekddkkjbcicaaDoor
