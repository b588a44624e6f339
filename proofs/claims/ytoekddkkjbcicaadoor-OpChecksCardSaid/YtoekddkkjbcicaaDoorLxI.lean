/- Tokens that are set apart by blanks are the same tokens; the parts of a text have its tokens. -/
import Derived.Test.YtoekddkkjbcicaaDoorLxH
set_option linter.unusedVariables false
set_option linter.unusedSimpArgs false
namespace Lx
def gapsL : List (List UInt8) := [[32], [10], [9, 13, 32], [32, 45, 45, 39, 120, 10], [32, 45, 45, 32, 59, 10, 32]]
theorem gap_skip {g : List UInt8} (h : g ∈ gapsL) (r : List UInt8) : skipN false (g ++ r) = g.length + skipN false r := by
  simp only [gapsL, List.mem_cons, List.not_mem_nil, or_false] at h
  rcases h with rfl | rfl | rfl | rfl | rfl <;> simp [skipN, bl] <;> omega
theorem gap_head {g : List UInt8} (h : g ∈ gapsL) : ∃ c t, g = c :: t ∧ bl c = true := by
  simp only [gapsL, List.mem_cons, List.not_mem_nil, or_false] at h
  rcases h with rfl | rfl | rfl | rfl | rfl <;> exact ⟨_, _, rfl, rfl⟩
theorem lo_lo (c : UInt8) : lo (lo c) = lo c := by
  unfold lo
  split
  · rename_i h
    simp only [Bool.and_eq_true, decide_eq_true_eq] at h
    rw [if_neg]
    have : (UInt8.ofNat (c.toNat + 32)).toNat = c.toNat + 32 := by simp; omega
    rw [this]
    simp only [Bool.and_eq_true, decide_eq_true_eq]
    omega
  · rfl
theorem fold_fold (l : List UInt8) : fold (fold l) = fold l := by
  unfold fold
  rw [List.map_map]
  congr 1
  funext c
  exact lo_lo c
theorem isW_fold (l : List UInt8) : isW (fold l) = isW l := by unfold isW; rw [fold_fold]
theorem lo_let {c : UInt8} (h : let_ c = true) : let_ (lo c) = true := by
  unfold let_ at h
  simp only [Bool.or_eq_true, Bool.and_eq_true, decide_eq_true_eq] at h
  unfold lo
  split
  · rename_i h1
    simp only [Bool.and_eq_true, decide_eq_true_eq] at h1
    have : (UInt8.ofNat (c.toNat + 32)).toNat = c.toNat + 32 := by simp; omega
    unfold let_
    rw [this]
    simp only [Bool.or_eq_true, Bool.and_eq_true, decide_eq_true_eq]
    omega
  · unfold let_
    simp only [Bool.or_eq_true, Bool.and_eq_true, decide_eq_true_eq]
    exact h
theorem lo_nam2 {c : UInt8} (h : nam c = true) : nam (lo c) = true := by
  unfold nam at h ⊢
  rw [Bool.or_eq_true] at h ⊢
  rcases h with h | h
  · exact .inl (lo_let h)
  · right
    unfold lo
    rw [if_neg]
    · exact h
    · unfold dig at h
      simp only [Bool.and_eq_true, decide_eq_true_eq] at h ⊢
      omega
theorem fold_all {l : List UInt8} (h : l.all nam = true) : (fold l).all nam = true := by
  rw [List.all_eq_true] at h ⊢
  intro c hc
  obtain ⟨d, hd, rfl⟩ := List.mem_map.1 hc
  exact lo_nam2 (h d hd)
/-- What a token's text is: what stands there, or a word in small letters. -/
theorem tok_text {R : List UInt8} {t : T} {n : Nat} (h : tok R = (0, t, n)) :
    t.text = R.take n ∨ (∃ c r, R = c :: r ∧ let_ c = true ∧ (R.take n).all nam = true ∧ isW (R.take n) = true ∧ t = ⟨2, fold (R.take n), (0, 0, [])⟩) := by
  match R, h with
  | [], h => cases h
  | c :: r, h =>
    rw [tok] at h
    by_cases hl : let_ c = true
    · rw [if_pos hl] at h
      by_cases hb : isBlob (c :: r) = true
      · rw [if_pos hb] at h
        cases e : bEnd ((c :: r).drop 2) with
        | none => rw [e] at h; cases h
        | some q =>
          rw [e] at h
          have hv : valT (c :: r) (q + 2) = (0, t, n) := h
          have hq := valT_n hv
          unfold valT at hv
          split at hv
          · cases hv; exact .inl rfl
          · rename_i h2; simp only [bad, Prod.mk.injEq] at hv; exact absurd hv.1 h2
      · rw [if_neg hb] at h
        have hm := nameT_n h
        have ht := many_take (p := nam) (c :: r)
        rw [← hm] at h ht
        unfold nameT at h
        split at h
        · rename_i hw
          cases h
          exact .inr ⟨c, r, rfl, hl, ht, hw, rfl⟩
        · split at h
          · cases h
          · cases h; exact .inl rfl
    · rw [if_neg hl] at h
      by_cases hd : dig c = true
      · rw [if_pos hd] at h
        obtain ⟨hm, hany⟩ := numT_n h
        rw [← hm] at h
        unfold numT at h
        split at h
        · cases h
        · split at h
          · cases h; exact .inl rfl
          · rename_i h2; simp only [bad, Prod.mk.injEq] at h; exact absurd h.1 h2
      · rw [if_neg hd] at h
        by_cases hq : (c == 39) = true
        · rw [if_pos hq] at h
          cases e : qEnd r with
          | none => rw [e] at h; cases h
          | some q =>
            rw [e] at h
            have hv : valT (c :: r) (q + 1) = (0, t, n) := h
            unfold valT at hv
            split at hv
            · cases hv; exact .inl rfl
            · rename_i h2; simp only [bad, Prod.mk.injEq] at hv; exact absurd hv.1 h2
        · rw [if_neg hq] at h
          unfold markT at h
          split at h
          · cases h
          · cases h; exact .inl rfl
theorem isBlob_all {l r' : List UInt8} (h : l.all nam = true) (h0 : l ≠ []) (hr : ∀ c, r'.head? = some c → bl c = true) : isBlob (l ++ r') = false := by
  match l, h0, h with
  | [a], _, h =>
    rw [List.cons_append, isBlob_cons, List.nil_append]
    cases r' with
    | nil => simp
    | cons d r' =>
      have := bl_39 (hr d rfl)
      simp [this]
  | a :: b :: l, _, h =>
    rw [List.cons_append, isBlob_cons]
    simp only [List.all_cons, Bool.and_eq_true] at h
    have hb : b ≠ 39 := by intro hb; subst hb; exact absurd h.2.1 (by decide)
    simp [hb]
/-- A token's text, with a blank behind it, is that token. -/
theorem tok_again {R r' : List UInt8} {t : T} {n : Nat} (h : tok R = (0, t, n)) (hr : ∀ c, r'.head? = some c → bl c = true) : tok (t.text ++ r') = (0, t, n) := by
  rcases tok_text h with h1 | ⟨c, r, rfl, hc, ha, hw, rfl⟩
  · rw [h1]; exact tok_fol h (.inr hr)
  · have hn := tok_n h
    simp only at hn
    have hfl := hn.2.2
    have hfa := fold_all ha
    obtain ⟨m, rfl⟩ : ∃ m, n = m + 1 := ⟨n - 1, by omega⟩
    have hfc : fold ((c :: r).take (m + 1)) = lo c :: fold (r.take m) := rfl
    show tok (fold ((c :: r).take (m + 1)) ++ r') = _
    rw [hfc, List.cons_append, tok, if_pos (lo_let hc), ← List.cons_append, ← hfc]
    rw [isBlob_all hfa (by rw [hfc]; simp) hr, if_neg (by simp)]
    have hmany : many nam (fold ((c :: r).take (m + 1)) ++ r') = m + 1 := by
      have h2 : many nam (fold ((c :: r).take (m + 1))) = m + 1 := by rw [many_all hfa, hfl]
      have h3 := many_app (p := nam) (fold ((c :: r).take (m + 1))) r' (fun d hd => bl_nam (hr d hd))
      rw [h2, List.take_of_length_le (by omega)] at h3
      exact h3
    rw [hmany]
    have htk : (fold ((c :: r).take (m + 1)) ++ r').take (m + 1) = fold ((c :: r).take (m + 1)) := by
      rw [List.take_append_of_le_length (by omega), List.take_of_length_le (by omega)]
    unfold nameT
    rw [htk, isW_fold, if_pos hw, fold_fold]
theorem text_ne {R : List UInt8} {t : T} {n : Nat} (h : tok R = (0, t, n)) : t.text ≠ [] := by
  intro h0
  have := tok_n h
  rw [h0] at this
  simp at this
  omega
theorem skip_text {R r' : List UInt8} {t : T} {n : Nat} (h : tok R = (0, t, n)) (hs : skipN false R = 0) (hr : ∀ c, r'.head? = some c → bl c = true) : skipN false (t.text ++ r') = 0 := by
  have hn := tok_n h
  obtain ⟨m, rfl⟩ : ∃ m, n = m + 1 := ⟨n - 1, by omega⟩
  rcases tok_text h with h1 | ⟨c, r, rfl, hc, ha, hw, rfl⟩
  · rw [h1]
    match R, hs, hn with
    | [], _, hn => simp at hn
    | c :: r, hs, hn =>
      rw [skipN] at hs
      by_cases hb : bl c = true
      · rw [if_pos hb] at hs; omega
      · rw [if_neg hb] at hs
        by_cases h2 : (c == 45 && r.head? == some 45) = true
        · rw [if_pos h2] at hs; omega
        · rw [List.take_succ_cons, List.cons_append, skipN, if_neg hb, if_neg]
          intro h3
          rw [Bool.and_eq_true] at h2 h3
          refine h2 ⟨h3.1, ?_⟩
          have h4 := h3.2
          simp only [beq_iff_eq] at h4 ⊢
          cases m with
          | zero =>
            simp at h4
            have := hr 45 h4
            exact absurd this (by decide)
          | succ m =>
            cases r with
            | nil => simp at hn
            | cons d r => simpa using h4
  · have hl := let_not (lo_let hc)
    show skipN false (fold ((c :: r).take (m + 1)) ++ r') = 0
    rw [show fold ((c :: r).take (m + 1)) = lo c :: fold (r.take m) from rfl, List.cons_append, skipN, hl.1, hl.2.1]
    rfl
def glue (g : Nat → List UInt8) : List T → Nat → List UInt8
  | [], _ => []
  | t :: ts, i => t.text ++ (g i ++ glue g ts (i + 1))
def wove (g : Nat → List UInt8) : List T → Nat → List UInt8
  | [], _ => []
  | t :: ts, i => g i ++ (t.text ++ wove g ts (i + 1))
theorem wove_glue (g : Nat → List UInt8) : ∀ (ts : List T) (i : Nat), wove g (ts ++ [endT]) i = g i ++ glue g ts (i + 1)
  | [], i => by simp [wove, glue, endT]
  | t :: ts, i => by rw [List.cons_append, wove, wove_glue g ts (i + 1), glue]
def OkT (t : T) : Prop := ∃ R n, tok R = (0, t, n) ∧ skipN false R = 0
theorem lexed_ok {R : List UInt8} {ts : List T} (h : Lexed R ts) : ∀ t ∈ ts, OkT t := by
  induction h with
  | nil => simp
  | @cons R t n ts h1 h2 h3 ih =>
    intro u hu
    rcases List.mem_cons.1 hu with rfl | hu
    · exact ⟨R, n, h1, h2⟩
    · exact ih u hu
theorem glue_lexed (g : Nat → List UInt8) (hg : ∀ i, g i ∈ gapsL) : ∀ (ts : List T) (i : Nat), (∀ t ∈ ts, OkT t) → Lexed (glue g ts i) ts
  | [], i, _ => .nil
  | t :: ts, i, h => by
    have ih := glue_lexed g hg ts (i + 1) (fun u hu => h u (List.mem_cons_of_mem _ hu))
    obtain ⟨R, n, h1, h2⟩ := h t List.mem_cons_self
    obtain ⟨c, q, hc, hb⟩ := gap_head (hg i)
    have hr : ∀ d, (g i ++ glue g ts (i + 1)).head? = some d → bl d = true := by
      intro d hd
      rw [hc] at hd
      simp at hd
      rw [← hd]; exact hb
    have hn := tok_n h1
    have e : (t.text ++ (g i ++ glue g ts (i + 1))).drop n = g i ++ glue g ts (i + 1) := by
      rw [← hn.2.2, List.drop_left]
    rw [glue]
    refine .cons (tok_again h1 hr) (skip_text h1 h2 hr) ?_
    rw [e, gap_skip (hg i), lexed_skip ih, Nat.add_zero, List.drop_left]
    exact ih
theorem wove_scan {g : Nat → List UInt8} (hg : ∀ i, g i ∈ gapsL) {ts : List T} (h : ∀ t ∈ ts, OkT t) (h1 : (wove g (ts ++ [endT]) 0).length ≤ 65536) (h2 : ts.length ≤ 4096) :
    ∃ ext : List TA, scan (wove g (ts ++ [endT]) 0) = (ext ++ [(endT, (wove g (ts ++ [endT]) 0).length)], 0, 0) ∧ ext.map (·.1) = ts := by
  refine lexed_scan ?_ h1 h2
  have h3 := glue_lexed g hg ts 1 h
  rw [wove_glue, gap_skip (hg 0), lexed_skip h3, Nat.add_zero, List.drop_left]
  exact h3
theorem lexed_text {R : List UInt8} {ts : List T} (h : Lexed R ts) : ∀ t ∈ ts, t.text.length ≤ R.length := by
  induction h with
  | nil => simp
  | @cons R t n ts h1 h2 h3 ih =>
    intro u hu
    have hn := tok_n h1
    rcases List.mem_cons.1 hu with rfl | hu
    · omega
    · have := ih u hu
      simp only [List.length_drop] at this
      omega
theorem rise_end {L : Nat} : ∀ {ext : List TA} {k : Nat}, k ≤ L → Rise L k ext → Rise (L + 1) k (ext ++ [(endT, L)])
  | [], k, h, _ => ⟨h, Nat.lt_succ_self _, trivial⟩
  | t :: r, k, h, ⟨h1, h2, h3⟩ => ⟨h1, by omega, rise_end (by omega) h3⟩
/-- The gap ahead of token i. -/
def gapOf (how : List UInt8) (i : Nat) : List UInt8 := match how[i]? with | some c => (gapsL[c.toNat % 5]?).getD [32] | none => [32]
theorem gapOf_mem (how : List UInt8) (i : Nat) : gapOf how i ∈ gapsL := by
  unfold gapOf
  split
  · rename_i c _
    have h : c.toNat % 5 < 5 := Nat.mod_lt _ (by omega)
    match c.toNat % 5, h with
    | 0, _ => simp [gapsL]
    | 1, _ => simp [gapsL]
    | 2, _ => simp [gapsL]
    | 3, _ => simp [gapsL]
    | 4, _ => simp [gapsL]
  · simp [gapsL]
theorem gap_len {g : List UInt8} (h : g ∈ gapsL) : g.length ≤ 7 := by
  simp only [gapsL, List.mem_cons, List.not_mem_nil, or_false] at h
  rcases h with rfl | rfl | rfl | rfl | rfl <;> decide
theorem gapOf_none {how : List UInt8} {i : Nat} (h : how.length ≤ i) : gapOf how i = [32] := by unfold gapOf; rw [List.getElem?_eq_none h]
theorem gapOf_some {how : List UInt8} {i : Nat} {c : UInt8} (h : how[i]? = some c) : gapOf how i = (gapsL[c.toNat % 5]?).getD [32] := by unfold gapOf; rw [h]
end Lx
