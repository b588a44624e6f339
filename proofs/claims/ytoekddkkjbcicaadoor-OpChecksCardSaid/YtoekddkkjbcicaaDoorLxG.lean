/- Tokens and what stands behind them: a token is the same whatever follows, so long as it begins alike, or with a blank. -/
import Derived.Test.YtoekddkkjbcicaaDoorLxF
set_option linter.unusedVariables false
set_option linter.unusedSimpArgs false
namespace Lx
/-- What follows now begins as what followed, or with a blank, or is nothing. -/
def Fol (r r' : List UInt8) : Prop := r'.head? = r.head? ∨ ∀ c, r'.head? = some c → bl c = true
theorem fol_nil (r : List UInt8) : Fol r [] := .inr (by simp)
theorem bl_cases {c : UInt8} (h : bl c = true) : c = 32 ∨ c = 9 ∨ c = 10 ∨ c = 13 := by
  unfold bl at h
  simp only [Bool.or_eq_true, beq_iff_eq] at h
  rcases h with ((h | h) | h) | h <;> simp [h]
theorem bl_nam {c : UInt8} (h : bl c = true) : nam c = false := by rcases bl_cases h with h | h | h | h <;> subst h <;> rfl
theorem bl_let {c : UInt8} (h : bl c = true) : let_ c = false := by rcases bl_cases h with h | h | h | h <;> subst h <;> rfl
theorem bl_dig {c : UInt8} (h : bl c = true) : dig c = false := by rcases bl_cases h with h | h | h | h <;> subst h <;> rfl
theorem bl_39 {c : UInt8} (h : bl c = true) : c ≠ 39 := by rcases bl_cases h with h | h | h | h <;> subst h <;> decide
theorem many_head {p : UInt8 → Bool} : ∀ (l : List UInt8) (c : UInt8), (l.drop (many p l)).head? = some c → p c = false
  | [], c, h => by simp at h
  | a :: r, c, h => by
    unfold many at h
    split at h
    · rw [Nat.add_comm, List.drop_succ_cons] at h
      exact many_head r c h
    · rename_i h1
      simp at h
      rw [← h]
      simpa using h1
theorem many_app {p : UInt8 → Bool} : ∀ (l r' : List UInt8), (∀ c, r'.head? = some c → p c = false) → many p (l.take (many p l) ++ r') = many p l
  | [], r', h => by
    cases r' with
    | nil => rfl
    | cons c r' => simp [many, h c rfl]
  | a :: r, r', h => by
    have ih := many_app r r' h
    by_cases h1 : p a = true
    · have e : many p (a :: r) = many p r + 1 := by simp [many, h1]; omega
      rw [e, List.take_succ_cons, List.cons_append, many, if_pos h1, ih]; omega
    · have e : many p (a :: r) = 0 := by simp [many, h1]
      rw [e, List.take_zero, List.nil_append]
      cases r' with
      | nil => rfl
      | cons c r' => simp [many, h c rfl]
theorem many_take {p : UInt8 → Bool} : ∀ (l : List UInt8), (l.take (many p l)).all p = true
  | [] => rfl
  | a :: r => by
    have ih := many_take (p := p) r
    by_cases h1 : p a = true
    · have e : many p (a :: r) = many p r + 1 := by simp [many, h1]; omega
      rw [e, List.take_succ_cons, List.all_cons, h1, ih]; rfl
    · have e : many p (a :: r) = 0 := by simp [many, h1]
      rw [e]; rfl
theorem fol_stop {p : UInt8 → Bool} {l r' : List UInt8} (hp : ∀ c, bl c = true → p c = false) (h : Fol (l.drop (many p l)) r') : ∀ c, r'.head? = some c → p c = false := by
  intro c hc
  rcases h with h | h
  · exact many_head l c (by rw [← h, hc])
  · exact hp c (h c hc)
theorem qEnd_stop (l : List UInt8) : ∀ n, qEnd l = some n → (l.drop n).head? ≠ some 39 := by
  fun_induction qEnd l with
  | case1 => intro n h; cases h
  | case2 => intro n h; cases h; simp
  | case3 => intro n h; cases h
  | case4 c d r h1 h2 ih =>
    intro n h
    cases e : qEnd r with
    | none => simp [e] at h
    | some q => simp [e] at h; subst h; exact ih q e
  | case5 c d r h1 h2 => intro n h; cases h; simpa using h2
  | case6 c d r h1 ih =>
    intro n h
    cases e : qEnd (d :: r) with
    | none => simp [e] at h
    | some q => simp [e] at h; subst h; rw [List.drop_succ_cons]; exact ih q e
theorem qEnd_app (l : List UInt8) : ∀ (n : Nat) (r' : List UInt8), qEnd l = some n → (∀ c, r'.head? = some c → c ≠ 39) → qEnd (l.take n ++ r') = some n := by
  fun_induction qEnd l with
  | case1 => intro n r' h; cases h
  | case2 c h1 =>
    intro n r' h hr
    cases h
    simp at h1
    subst h1
    cases r' with
    | nil => rfl
    | cons a r' =>
      have := hr a rfl
      simp [qEnd, this]
  | case3 => intro n r' h; cases h
  | case4 c d r h1 h2 ih =>
    intro n r' h hr
    cases e : qEnd r with
    | none => simp [e] at h
    | some q =>
      simp [e] at h
      subst h
      simp at h1 h2
      subst h1 h2
      simp [qEnd, ih q r' e hr]
  | case5 c d r h1 h2 =>
    intro n r' h hr
    cases h
    simp at h1
    subst h1
    cases r' with
    | nil => rfl
    | cons a r' =>
      have := hr a rfl
      simp [qEnd, this]
  | case6 c d r h1 ih =>
    intro n r' h hr
    cases e : qEnd (d :: r) with
    | none => simp [e] at h
    | some q =>
      simp [e] at h
      subst h
      have h3 := ih q r' e hr
      have hq := qEnd_le (d :: r) q e
      obtain ⟨q, rfl⟩ : ∃ k, q = k + 1 := ⟨q - 1, by omega⟩
      rw [List.take_succ_cons, List.cons_append] at h3
      rw [List.take_succ_cons, List.take_succ_cons, List.cons_append, List.cons_append]
      have h1' : (c == 39) = false := by simpa using h1
      rw [qEnd]
      simp only [h1']
      rw [h3]
      rfl
theorem bEnd_app {l : List UInt8} {n : Nat} (r' : List UInt8) (h : bEnd l = some n) : bEnd (l.take n ++ r') = some n := by
  unfold bEnd at h
  split at h
  · rename_i hlt
    cases h
    have hs : l.take (many noq l + 1) = l.take (many noq l) ++ [l[many noq l]] := by
      rw [List.take_succ_eq_append_getElem hlt]
    have hq : noq l[many noq l] = false := many_head l _ (by rw [List.head?_drop, List.getElem?_eq_getElem hlt])
    have hm : many noq (l.take (many noq l + 1) ++ r') = many noq l := by
      rw [hs, List.append_assoc]
      exact many_app l _ (by intro c hc; simp at hc; rw [← hc]; exact hq)
    unfold bEnd
    rw [hm, if_pos (by rw [List.length_append, List.length_take]; omega)]
  · cases h
theorem take_app {l r' : List UInt8} {n : Nat} (h : n ≤ l.length) : (l.take n ++ r').take n = l.take n := by
  rw [List.take_append_of_le_length (by rw [List.length_take]; omega), List.take_take, Nat.min_self]
theorem drop_app {l r' : List UInt8} {n : Nat} (h : n ≤ l.length) : (l.take n ++ r').drop n = r' := by
  rw [List.drop_append_of_le_length (by rw [List.length_take]; omega), List.drop_eq_nil_of_le (by rw [List.length_take]; omega), List.nil_append]
theorem nameT_n {l : List UInt8} {n m : Nat} {T : T} (h : nameT l n = (0, T, m)) : m = n := by
  unfold nameT at h
  split at h
  · cases h; rfl
  · split at h
    · cases h
    · cases h; rfl
theorem numT_n {l : List UInt8} {n m : Nat} {T : T} (h : numT l n = (0, T, m)) : m = n ∧ (l.drop n).head?.any let_ = false := by
  unfold numT at h
  split at h
  · cases h
  · rename_i h1
    refine ⟨?_, by simpa using h1⟩
    split at h
    · cases h; rfl
    · rename_i h2; simp only [bad, Prod.mk.injEq] at h; exact absurd h.1 h2
theorem valT_n {l : List UInt8} {n m : Nat} {T : T} (h : valT l n = (0, T, m)) : m = n := by
  unfold valT at h
  split at h
  · cases h; rfl
  · rename_i h2; simp only [bad, Prod.mk.injEq] at h; exact absurd h.1 h2
theorem markT_n {l : List UInt8} {m : Nat} {T : T} (h : markT l = (0, T, m)) : m = markN l ∧ markN l ≠ 0 := by
  unfold markT at h
  split at h
  · cases h
  · rename_i h1; cases h; exact ⟨rfl, h1⟩
theorem nameT_app {l : List UInt8} {n : Nat} (r' : List UInt8) (h : n ≤ l.length) : nameT (l.take n ++ r') n = nameT l n := by
  unfold nameT; rw [take_app h]
theorem valT_app {l : List UInt8} {n : Nat} (r' : List UInt8) (h : n ≤ l.length) : valT (l.take n ++ r') n = valT l n := by
  unfold valT; rw [take_app h]
theorem head_any {r r' : List UInt8} {p : UInt8 → Bool} (hp : ∀ c, bl c = true → p c = false) (h : Fol r r') (h1 : r.head?.any p = false) : r'.head?.any p = false := by
  rcases h with h | h
  · rw [h]; exact h1
  · cases e : r'.head? with
    | none => rfl
    | some c => simpa using hp c (h c e)
theorem marks2_second : ∀ m ∈ marks2, ∃ c d, m = [c, d] ∧ bl d = false := by
  intro m hm
  simp only [marks2, List.mem_cons, List.not_mem_nil, or_false] at hm
  rcases hm with rfl | rfl | rfl | rfl <;> exact ⟨_, _, rfl, rfl⟩
theorem markN_app {l r' : List UInt8} (h0 : markN l ≠ 0) (h : Fol (l.drop (markN l)) r') : markN (l.take (markN l) ++ r') = markN l := by
  have hle := markN_le l
  by_cases h2 : marks2.contains (l.take 2) = true
  · have e : markN l = 2 := by unfold markN; rw [if_pos h2]
    rw [e] at hle ⊢
    unfold markN
    rw [take_app hle, if_pos h2]
  · match l, h0, h, hle, h2 with
    | [], h0, _, _, _ => exact absurd rfl h0
    | c :: r, h0, h, hle, h2 =>
      have e : markN (c :: r) = if marks1.contains c then 1 else 0 := by unfold markN; rw [if_neg h2]
      have h1 : marks1.contains c = true := by
        by_cases hc : marks1.contains c = true
        · exact hc
        · rw [e, if_neg hc] at h0; exact absurd rfl h0
      rw [if_pos h1] at e
      rw [e] at h ⊢
      have h3 : marks2.contains ((c :: r').take 2) = false := by
        rw [← Bool.not_eq_true]
        intro h4
        rw [List.contains_iff_mem] at h4
        obtain ⟨a, b, hab, hb⟩ := marks2_second _ h4
        cases r' with
        | nil => simp at hab
        | cons d r' =>
          simp at hab
          obtain ⟨rfl, rfl⟩ := hab
          rcases h with h | h
          · simp at h
            cases r with
            | nil => simp at h
            | cons d2 r2 =>
              simp at h
              subst h
              exact h2 (by rw [List.contains_iff_mem]; simpa using h4)
          · rw [h d rfl] at hb; cases hb
      show markN (c :: r') = 1
      unfold markN
      rw [if_neg (by rw [h3]; simp)]
      simp only [h1, if_true]
theorem isBlob_cons (a : UInt8) (t : List UInt8) : isBlob (a :: t) = ((a == 120 || a == 88) && t.head? == some 39) := by
  unfold isBlob; simp
/-- A token is the same whatever stands behind it, if that begins as before or with a blank. -/
theorem tok_fol {l r' : List UInt8} {T : T} {n : Nat} (h : tok l = (0, T, n)) (hf : Fol (l.drop n) r') : tok (l.take n ++ r') = (0, T, n) := by
  have hln := tok_len (l := l) (by rw [h])
  rw [h] at hln
  simp only at hln
  match l, h, hf, hln with
  | [], h, _, _ => cases h
  | c :: r, h, hf, hln =>
    obtain ⟨m, rfl⟩ : ∃ m, n = m + 1 := ⟨n - 1, by omega⟩
    have hle : m + 1 ≤ (c :: r).length := hln.2.1
    have hcons : (c :: r).take (m + 1) ++ r' = c :: (r.take m ++ r') := rfl
    have hfull := h
    rw [tok] at h
    rw [hcons, tok]
    by_cases hl : let_ c = true
    · rw [if_pos hl] at h ⊢
      by_cases hb : isBlob (c :: r) = true
      · rw [if_pos hb] at h
        cases e : bEnd ((c :: r).drop 2) with
        | none => rw [e] at h; cases h
        | some q =>
          rw [e] at h
          have hv : valT (c :: r) (q + 2) = (0, T, m + 1) := h
          have hq := valT_n hv
          obtain ⟨rfl⟩ : m = q + 1 := by omega
          have hb1 : isBlob (c :: (r.take (q + 1) ++ r')) = true := by
            rw [isBlob_cons] at hb ⊢
            cases r with
            | nil => simp at hb
            | cons d r => simpa using hb
          rw [if_pos hb1]
          have e2 : (c :: (r.take (q + 1) ++ r')).drop 2 = (r.drop 1).take q ++ r' := by
            cases r with
            | nil => simp [isBlob] at hb
            | cons d r => simp
          have e' : bEnd (r.drop 1) = some q := by simpa using e
          rw [e2, bEnd_app r' e']
          show valT (c :: (r.take (q + 1) ++ r')) (q + 2) = _
          rw [← hcons, valT_app r' hle]
          exact hv
      · rw [if_neg hb] at h
        have hm := nameT_n h
        have hb1 : isBlob (c :: (r.take m ++ r')) = false := by
          rw [← Bool.not_eq_true]
          intro hb2
          rw [isBlob_cons] at hb hb2
          rw [Bool.and_eq_true] at hb2
          have hh := hb2.2
          simp only [beq_iff_eq] at hh
          cases m with
          | zero =>
            simp at hh
            rcases hf with hf | hf
            · rw [hh] at hf
              rw [Bool.and_eq_true] at hb
              exact hb ⟨hb2.1, by simp at hf; rw [← hf]; simp⟩
            · have := hf 39 hh; exact absurd this (by decide)
          | succ m =>
            cases r with
            | nil => simp at hle
            | cons d r =>
              simp at hh
              subst hh
              rw [Bool.and_eq_true] at hb
              exact hb ⟨hb2.1, by simp⟩
        rw [if_neg (by rw [hb1]; simp), ← hcons]
        rw [hm] at hf hle ⊢
        rw [many_app _ _ (fol_stop (fun c hc => bl_nam hc) hf), nameT_app r' hle, h, hm]
    · rw [if_neg hl] at h ⊢
      by_cases hd : dig c = true
      · rw [if_pos hd] at h ⊢
        obtain ⟨hm, hany⟩ := numT_n h
        rw [← hcons]
        rw [hm] at hf hle ⊢
        rw [many_app _ _ (fol_stop (fun c hc => bl_dig hc) hf)]
        unfold numT at h ⊢
        rw [take_app hle, drop_app hle, head_any (fun c hc => bl_let hc) hf hany]
        rw [hany] at h
        rw [h, hm]
      · rw [if_neg hd] at h ⊢
        by_cases hq : (c == 39) = true
        · rw [if_pos hq] at h ⊢
          cases e : qEnd r with
          | none => rw [e] at h; cases h
          | some q =>
            rw [e] at h
            have hv : valT (c :: r) (q + 1) = (0, T, m + 1) := h
            have hmq := valT_n hv
            obtain rfl : m = q := by omega
            have hs : ∀ d, r'.head? = some d → d ≠ 39 := by
              intro d hd2
              rcases hf with hf | hf
              · intro h39
                subst h39
                rw [List.drop_succ_cons] at hf
                exact qEnd_stop r m e (by rw [← hf, hd2])
              · exact bl_39 (hf d hd2)
            rw [qEnd_app r m r' e hs]
            show valT (c :: (r.take m ++ r')) (m + 1) = _
            rw [← hcons, valT_app r' hle]
            exact hv
        · rw [if_neg hq] at h ⊢
          obtain ⟨hm, h0⟩ := markT_n h
          rw [← hcons]
          rw [hm] at hf hle ⊢
          have e := markN_app h0 hf
          unfold markT at h ⊢
          rw [e, if_neg h0, take_app hle]
          rw [if_neg h0] at h
          rw [h, hm]
end Lx
