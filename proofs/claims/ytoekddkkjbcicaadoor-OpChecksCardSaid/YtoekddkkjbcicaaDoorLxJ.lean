/- The parts of a text have its tokens, but the marks that part them. -/
import Derived.Test.YtoekddkkjbcicaaDoorLxI
set_option linter.unusedVariables false
set_option linter.unusedSimpArgs false
namespace Lx
def semi (t : T) : Bool := t.kind == 4 && t.text == [59]
/-- Blanks are passed over alike, up to the part's end. -/
theorem skip_pN : ∀ (l : List UInt8),
    (pN 0 l = skipN false l + pN 0 (l.drop (skipN false l)) ∧ skipN false (l.take (pN 0 l)) = skipN false l) ∧
    (pN 2 l = skipN true l + pN 0 (l.drop (skipN true l)) ∧ skipN true (l.take (pN 2 l)) = skipN true l)
  | [] => by simp [pN, skipN]
  | c :: r => by
    obtain ⟨⟨a1, a2⟩, ⟨b1, b2⟩⟩ := skip_pN r
    constructor
    · by_cases hb : bl c = true
      · have e : skipN false (c :: r) = skipN false r + 1 := by rw [skipN, if_pos hb]; omega
        have e2 : pN 0 (c :: r) = pN 0 r + 1 := by
          rcases bl_cases hb with h | h | h | h <;> subst h <;> simp [pN] <;> omega
        rw [e, e2, List.drop_succ_cons, List.take_succ_cons]
        exact ⟨by omega, by rw [skipN, if_pos hb, a2]; omega⟩
      · by_cases hc : (c == 45 && r.head? == some 45) = true
        · have e : skipN false (c :: r) = skipN true r + 1 := by rw [skipN, if_neg hb, if_pos hc]; omega
          have hc2 := hc
          rw [Bool.and_eq_true] at hc2
          have h45 : c = 45 := by simpa using hc2.1
          subst h45
          have e2 : pN 0 (45 :: r) = pN 2 r + 1 := by simp [pN]; rw [if_pos (by simpa using hc2.2)]; omega
          rw [e, e2, List.drop_succ_cons, List.take_succ_cons]
          refine ⟨by omega, ?_⟩
          rw [skipN, if_neg hb, if_pos, b2]
          · omega
          · match r, hc2.2 with
            | d :: r2, hd =>
              have e3 : pN 2 (d :: r2) = pN (if d == 10 then 0 else 2) r2 + 1 := by rw [pN]; omega
              rw [e3, List.take_succ_cons]
              simpa using hd
        · have e : skipN false (c :: r) = 0 := by rw [skipN, if_neg hb, if_neg hc]
          rw [e, List.drop_zero]
          refine ⟨by omega, ?_⟩
          cases hp : pN 0 (c :: r) with
          | zero => simp [skipN]
          | succ m =>
            rw [List.take_succ_cons, skipN, if_neg hb, if_neg]
            intro h
            rw [Bool.and_eq_true] at h hc
            refine hc ⟨h.1, ?_⟩
            have h2 := h.2
            cases r with
            | nil => simp at h2
            | cons d r =>
              cases m with
              | zero => simp at h2
              | succ m => simpa using h2
    · have e : skipN true (c :: r) = skipN (c != 10) r + 1 := by rw [skipN]; omega
      have e2 : pN 2 (c :: r) = pN (if c == 10 then 0 else 2) r + 1 := by rw [pN]; omega
      rw [e, e2, List.drop_succ_cons, List.take_succ_cons, skipN]
      by_cases hc : c = 10
      · subst hc
        exact ⟨by simpa using (by omega : pN 0 r + 1 = skipN false r + 1 + pN 0 (r.drop (skipN false r))), by
          show 1 + skipN false (r.take (pN 0 r)) = skipN false r + 1
          rw [a2]; omega⟩
      · have h1 : (c != 10) = true := by simpa using hc
        have h2 : (c == 10) = false := by simpa using hc
        rw [h1, h2]
        exact ⟨by simpa using (by omega : pN 2 r + 1 = skipN true r + 1 + pN 0 (r.drop (skipN true r))), by
          show 1 + skipN true (r.take (pN 2 r)) = skipN true r + 1
          rw [b2]; omega⟩
theorem pN_nam : ∀ (l : List UInt8) (m : Nat), (l.take m).all nam = true → m ≤ l.length → pN 0 l = m + pN 0 (l.drop m)
  | l, 0, _, _ => by simp
  | [], m + 1, _, h => by simp at h
  | c :: r, m + 1, ha, h => by
    rw [List.take_succ_cons, List.all_cons, Bool.and_eq_true] at ha
    have ih := pN_nam r m ha.2 (by simpa using h)
    have h1 : c ≠ 59 := by intro h; subst h; exact absurd ha.1 (by decide)
    have h2 : c ≠ 39 := by intro h; subst h; exact absurd ha.1 (by decide)
    have h3 : c ≠ 45 := by intro h; subst h; exact absurd ha.1 (by decide)
    rw [List.drop_succ_cons, pN]
    simp only [beq_iff_eq, h1, h2, h3, if_false]
    have h4 : ((c == 45) && r.head? == some 45) = false := by simp [h3]
    rw [h4, if_neg (by simp), ih]
    omega
theorem dig_nam {c : UInt8} (h : dig c = true) : nam c = true := by unfold nam; rw [h, Bool.or_true]
theorem pN_q (l : List UInt8) : ∀ n, qEnd l = some n → pN 1 l = n + pN 0 (l.drop n) := by
  fun_induction qEnd l with
  | case1 => intro n h; cases h
  | case2 c h1 => intro n h; cases h; simp [pN]
  | case3 => intro n h; cases h
  | case4 c d r h1 h2 ih =>
    intro n h
    cases e : qEnd r with
    | none => simp [e] at h
    | some q =>
      simp [e] at h
      subst h
      have := ih q e
      simp at h1 h2
      subst h1 h2
      rw [List.drop_succ_cons, List.drop_succ_cons]
      simp [pN, this]
      omega
  | case5 c d r h1 h2 =>
    intro n h
    cases h
    rw [pN, h1]
    simp
  | case6 c d r h1 ih =>
    intro n h
    cases e : qEnd (d :: r) with
    | none => simp [e] at h
    | some q =>
      simp [e] at h
      subst h
      have := ih q e
      have h2 : (c == 39) = false := by simpa using h1
      rw [pN, h2, List.drop_succ_cons]
      simp only [Bool.false_eq_true, if_false]
      rw [this]
      omega
theorem pN_b {l : List UInt8} {n : Nat} (h : bEnd l = some n) : pN 1 l = n + pN 0 (l.drop n) := by
  unfold bEnd at h
  split at h
  · rename_i hlt
    cases h
    rw [pN1_eq, if_pos hlt]
  · cases h
theorem pN_one {c : UInt8} {r : List UInt8} (h1 : c ≠ 59) (h2 : c ≠ 39) (h3 : ¬ (c = 45 ∧ r.head? = some 45)) : pN 0 (c :: r) = 1 + pN 0 r := by
  have h4 : ((c == 45) && r.head? == some 45) = false := by
    rw [← Bool.not_eq_true]; intro h; rw [Bool.and_eq_true] at h; exact h3 ⟨by simpa using h.1, by simpa using h.2⟩
  rw [pN]
  simp only [beq_iff_eq, h1, h2, if_false]
  rw [h4, if_neg (by simp)]
theorem markN_cases {l : List UInt8} (h : markN l ≠ 0) : (markN l = 2 ∧ l.take 2 ∈ marks2) ∨ (markN l = 1 ∧ ∃ c r, l = c :: r ∧ c ∈ marks1) := by
  by_cases h2 : marks2.contains (l.take 2) = true
  · left
    exact ⟨by unfold markN; rw [if_pos h2], by simpa using h2⟩
  · right
    match l, h, h2 with
    | [], h, _ => exact absurd rfl h
    | c :: r, h, h2 =>
      have e : markN (c :: r) = if marks1.contains c then 1 else 0 := by unfold markN; rw [if_neg h2]
      by_cases hc : marks1.contains c = true
      · rw [if_pos hc] at e
        exact ⟨e, c, r, rfl, by simpa using hc⟩
      · rw [if_neg hc] at e; exact absurd e h
/-- A token's bytes are passed over by the search for a part's end. -/
theorem tok_pN {R : List UInt8} {t : T} {n : Nat} (h : tok R = (0, t, n)) (hs : skipN false R = 0) (hm : semi t = false) : pN 0 R = n + pN 0 (R.drop n) := by
  have hn := tok_n h
  match R, h, hs, hn with
  | [], h, _, _ => cases h
  | c :: r, h, hs, hn =>
    rw [tok] at h
    by_cases hl : let_ c = true
    · rw [if_pos hl] at h
      by_cases hb : isBlob (c :: r) = true
      · rw [if_pos hb] at h
        cases e : bEnd ((c :: r).drop 2) with
        | none => rw [e] at h; cases h
        | some q =>
          rw [e] at h
          have hv : valT (c :: r) (q + 2) = (0, t, n) := h
          have hq := valT_n hv
          subst hq
          rw [isBlob_cons, Bool.and_eq_true] at hb
          match r, hb.2, e, hn with
          | d :: r, hd, e, hn =>
            have hd : d = 39 := by simpa using hd
            subst hd
            have hx : c ≠ 59 ∧ c ≠ 39 ∧ c ≠ 45 := by
              have h1 := hb.1
              rw [Bool.or_eq_true, beq_iff_eq, beq_iff_eq] at h1
              rcases h1 with rfl | rfl <;> decide
            rw [pN_one hx.1 hx.2.1 (fun h => hx.2.2 h.1), show pN 0 (39 :: r) = 1 + pN 1 r from by simp [pN], pN_b (n := q) (by simpa using e)]
            rw [List.drop_succ_cons, List.drop_succ_cons]
            omega
      · rw [if_neg hb] at h
        have hq := nameT_n h
        have ha := many_take (p := nam) (c :: r)
        rw [← hq] at ha
        exact pN_nam _ _ ha hn.2.1
    · rw [if_neg hl] at h
      by_cases hd : dig c = true
      · rw [if_pos hd] at h
        obtain ⟨hq, hany⟩ := numT_n h
        have ha := many_take (p := dig) (c :: r)
        rw [← hq] at ha
        refine pN_nam _ _ ?_ hn.2.1
        rw [List.all_eq_true] at ha ⊢
        exact fun x hx => dig_nam (ha x hx)
      · rw [if_neg hd] at h
        by_cases hq : (c == 39) = true
        · rw [if_pos hq] at h
          cases e : qEnd r with
          | none => rw [e] at h; cases h
          | some q =>
            rw [e] at h
            have hv : valT (c :: r) (q + 1) = (0, t, n) := h
            have hqq := valT_n hv
            subst hqq
            have hc : c = 39 := by simpa using hq
            subst hc
            rw [show pN 0 (39 :: r) = 1 + pN 1 r from by simp [pN], pN_q r q e, List.drop_succ_cons]
            omega
        · rw [if_neg hq] at h
          obtain ⟨hmn, h0⟩ := markT_n h
          unfold markT at h
          rw [if_neg h0] at h
          rcases markN_cases h0 with ⟨e, hmem⟩ | ⟨e, c', r', hcr, hmem⟩
          · rw [hmn, e]
            match r, hmem with
            | [], hmem => simp [marks2] at hmem
            | d :: r, hmem =>
              simp only [marks2, List.take_succ_cons, List.take_zero, List.mem_cons, List.not_mem_nil, or_false, List.cons.injEq, and_true] at hmem
              have hcd : c ≠ 59 ∧ c ≠ 39 ∧ c ≠ 45 ∧ d ≠ 59 ∧ d ≠ 39 ∧ d ≠ 45 := by
                rcases hmem with ⟨rfl, rfl⟩ | ⟨rfl, rfl⟩ | ⟨rfl, rfl⟩ | ⟨rfl, rfl⟩ <;> decide
              rw [pN_one hcd.1 hcd.2.1 (fun h => hcd.2.2.1 h.1), pN_one hcd.2.2.2.1 hcd.2.2.2.2.1 (fun h => hcd.2.2.2.2.2 h.1), List.drop_succ_cons, List.drop_succ_cons, List.drop_zero]
              omega
          · simp only [List.cons.injEq] at hcr
            obtain ⟨rfl, rfl⟩ := hcr
            rw [hmn, e, List.drop_succ_cons, List.drop_zero]
            rw [e] at h
            have h59 : c ≠ 59 := by
              intro hc
              subst hc
              cases h
              exact absurd hm (by simp [semi])
            have h39 : c ≠ 39 := by simpa using hq
            refine pN_one h59 h39 ?_
            rintro ⟨rfl, h45⟩
            rw [skipN, if_neg (by decide), if_pos (by simp [h45])] at hs
            omega
theorem semi_tok {R : List UInt8} {t : T} {n : Nat} (h : tok R = (0, t, n)) (hm : semi t = true) : n = 1 ∧ R = 59 :: R.drop 1 := by
  have hn := tok_n h
  unfold semi at hm
  rw [Bool.and_eq_true] at hm
  have hk : t.kind = 4 := by simpa using hm.1
  have ht : t.text = [59] := by simpa using hm.2
  rw [ht] at hn
  have h1 : n = 1 := by have := hn.2.2; simp at this; omega
  subst h1
  refine ⟨rfl, ?_⟩
  rcases tok_text h with h2 | ⟨c, r, rfl, hc, ha, hw, rfl⟩
  · rw [ht] at h2
    match R, h2 with
    | c :: r, h2 => simp at h2; rw [← h2]; rfl
  · exact absurd hk (by show (2 : Int) ≠ 4; decide)
theorem fol_take (l : List UInt8) (m : Nat) : Fol l (l.take m) := by
  cases m with
  | zero => exact fol_nil l
  | succ m => cases l with
    | nil => exact fol_nil []
    | cons c r => exact .inl rfl
/-- Up to the first mark that parts: its tokens; and those behind it. -/
theorem lexed_part {R : List UInt8} {ts : List T} (h : Lexed R ts) :
    ∃ ts1, (∀ t ∈ ts1, semi t = false) ∧ Lexed (R.take (pN 0 R)) ts1 ∧
      ((pN 0 R = R.length ∧ ts = ts1) ∨ ∃ r2 t ts2, R.drop (pN 0 R) = 59 :: r2 ∧ semi t = true ∧ ts = ts1 ++ t :: ts2 ∧ Lexed (r2.drop (skipN false r2)) ts2) := by
  induction h with
  | nil => exact ⟨[], by simp, .nil, .inl ⟨rfl, rfl⟩⟩
  | @cons R t n ts h1 h2 h3 ih =>
    by_cases hm : semi t = true
    · obtain ⟨rfl, hR⟩ := semi_tok h1 hm
      have e : pN 0 R = 0 := by rw [hR]; simp [pN]
      refine ⟨[], by simp, by rw [e]; exact .nil, .inr ⟨R.drop 1, t, ts, by rw [e]; exact hR, hm, rfl, h3⟩⟩
    · have hm : semi t = false := by simpa using hm
      have hn := tok_n h1
      have hp := tok_pN h1 h2 hm
      have hsk := (skip_pN (R.drop n)).1
      obtain ⟨ts1, g1, g2, g3⟩ := ih
      obtain ⟨R', hR'⟩ : ∃ R', R' = R.drop n := ⟨_, rfl⟩
      obtain ⟨R1, hR1⟩ : ∃ R1, R1 = R'.drop (skipN false R') := ⟨_, rfl⟩
      rw [← hR'] at hsk g2 g3 hp
      rw [← hR1] at hsk g2 g3
      have hle : n ≤ pN 0 R := by omega
      have htk : R.take (pN 0 R) = R.take n ++ R'.take (pN 0 R') := by
        rw [hp, List.take_add, hR']
      have htk2 : (R'.take (pN 0 R')).drop (skipN false R') = R1.take (pN 0 R1) := by
        rw [hsk.1, List.take_add, hR1]
        have : (R'.take (skipN false R')).length = skipN false R' := by rw [List.length_take]; have := skipN_le false R'; omega
        rw [List.drop_append_of_le_length (by omega), List.drop_eq_nil_of_le (by omega), List.nil_append]
      refine ⟨t :: ts1, ?_, ?_, ?_⟩
      · intro u hu
        rcases List.mem_cons.1 hu with rfl | hu
        · exact hm
        · exact g1 u hu
      · have h4 : skipN false (R.take (pN 0 R)) = 0 := by rw [(skip_pN R).1.2, h2]
        rw [htk] at h4 ⊢
        refine .cons (tok_fol h1 (by rw [← hR']; exact fol_take _ _)) h4 ?_
        rw [drop_app hn.2.1, hsk.2, htk2]
        exact g2
      · have hdr : R.drop (pN 0 R) = R1.drop (pN 0 R1) := by
          rw [hp, ← List.drop_drop, ← hR', hsk.1, ← List.drop_drop, ← hR1]
        have hlen : R.length = n + R'.length := by rw [hR', List.length_drop]; omega
        have hlen1 : R'.length = skipN false R' + R1.length := by rw [hR1, List.length_drop]; have := skipN_le false R'; omega
        rcases g3 with ⟨k1, k2⟩ | ⟨r2, t2, ts2, k1, k2, k3, k4⟩
        · exact .inl ⟨by omega, by rw [k2]⟩
        · exact .inr ⟨r2, t2, ts2, by rw [hdr, k1], k2, by rw [k3]; rfl, k4⟩
/-- Parts and their tokens, all of them one behind the other. -/
inductive PT (M : Nat) : List (List UInt8) → List T → Prop
  | nil : PT M [] []
  | cons {p : List UInt8} {ts1 : List T} {ps : List (List UInt8)} {ts2 : List T} : Lexed (p.drop (skipN false p)) ts1 → ts1 ≠ [] → p.length ≤ M → PT M ps ts2 → PT M (p :: ps) (ts1 ++ ts2)
theorem parts_toks (l : List UInt8) : ∀ (f k : Nat) (ts : List T), l.length < k + f → k ≤ l.length → Lexed ((l.drop k).drop (skipN false (l.drop k))) ts → PT l.length (parts l f k) (ts.filter (fun t => !semi t))
  | 0, k, ts, hf, hk, _ => by omega
  | f + 1, k, ts, hf, hk, h => by
    rw [parts, if_neg (by omega)]
    obtain ⟨R, hR⟩ : ∃ R, R = l.drop k := ⟨_, rfl⟩
    rw [← hR] at h ⊢
    have hRl : R.length = l.length - k := by rw [hR, List.length_drop]
    have hsk := (skip_pN R).1
    obtain ⟨ts1, g1, g2, g3⟩ := lexed_part h
    obtain ⟨R1, hR1⟩ : ∃ R1, R1 = R.drop (skipN false R) := ⟨_, rfl⟩
    rw [← hR1] at hsk g2 g3
    have hpl := pN_le 0 R
    have htk2 : (R.take (pN 0 R)).drop (skipN false R) = R1.take (pN 0 R1) := by
      rw [hsk.1, List.take_add, hR1]
      have : (R.take (skipN false R)).length = skipN false R := by rw [List.length_take]; have := skipN_le false R; omega
      rw [List.drop_append_of_le_length (by omega), List.drop_eq_nil_of_le (by omega), List.nil_append]
    have hdr : R.drop (pN 0 R) = R1.drop (pN 0 R1) := by rw [hsk.1, hR1, List.drop_drop]
    have hrest : PT l.length (parts l f (k + pN 0 R + 1)) ((ts.drop ts1.length).filter (fun t => !semi t)) := by
      rcases g3 with ⟨k1, k2⟩ | ⟨r2, t2, ts2, k1, k2, k3, k4⟩
      · have hl1 : R.length = skipN false R + R1.length := by rw [hR1, List.length_drop]; have := skipN_le false R; omega
        rw [k2, List.drop_length]
        have : parts l f (k + pN 0 R + 1) = [] := by
          cases f with
          | zero => rfl
          | succ f => rw [parts, if_pos (by omega)]
        rw [this]
        exact .nil
      · have hd2 : l.drop (k + pN 0 R + 1) = r2 := by
          have : (l.drop k).drop (pN 0 R) = 59 :: r2 := by rw [← hR, hdr, k1]
          rw [← List.drop_drop, ← List.drop_drop, this]; rfl
        have hlt : k + pN 0 R < l.length := by
          have h5 : (R.drop (pN 0 R)).length = r2.length + 1 := by rw [hdr, k1]; rfl
          rw [List.length_drop] at h5
          omega
        rw [k3, List.drop_left, List.filter_cons, k2]
        exact parts_toks l f (k + pN 0 R + 1) ts2 (by omega) (by omega) (by rw [hd2]; exact k4)
    have hfil : ts.filter (fun t => !semi t) = ts1 ++ (ts.drop ts1.length).filter (fun t => !semi t) := by
      have h6 : ts = ts1 ++ ts.drop ts1.length := by
        rcases g3 with ⟨k1, k2⟩ | ⟨r2, t2, ts2, k1, k2, k3, k4⟩
        · rw [k2]; simp
        · rw [k3, List.drop_left]
      have h7 : ts1.filter (fun t => !semi t) = ts1 := List.filter_eq_self.2 (fun t ht => by rw [g1 t ht]; rfl)
      conv => lhs; rw [h6]
      rw [List.filter_append, h7]
    rw [hfil]
    have hlx : Lexed ((R.take (pN 0 R)).drop (skipN false (R.take (pN 0 R)))) ts1 := by rw [hsk.2, htk2]; exact g2
    by_cases hbl : skipN false (R.take (pN 0 R)) < (R.take (pN 0 R)).length
    · rw [if_pos hbl]
      refine .cons hlx (lexed_ne hlx ?_) (by rw [List.length_take]; omega) hrest
      intro h0
      have := congrArg List.length h0
      rw [List.length_drop, List.length_nil] at this
      omega
    · rw [if_neg hbl]
      have : ts1 = [] := by
        rw [List.drop_eq_nil_of_le (by omega)] at hlx
        exact lexed_nil hlx
      subst this
      simpa using hrest
theorem partsOf_toks {l : List UInt8} {ts : List T} (h : Lexed (l.drop (skipN false l)) ts) : PT l.length (partsOf l) (ts.filter (fun t => !semi t)) :=
  parts_toks l (l.length + 2) 0 ts (by omega) (by omega) (by simpa using h)
theorem tok_kind {R : List UInt8} {t : T} {n : Nat} (h : tok R = (0, t, n)) : t.kind ≠ 0 := by
  match R, h with
  | [], h => cases h
  | c :: r, h =>
    have hval : ∀ {l : List UInt8} {k : Nat}, valT l k = (0, t, n) → t.kind ≠ 0 := by
      intro l k hv
      unfold valT at hv
      split at hv
      · cases hv; simp
      · rename_i h2; simp only [bad, Prod.mk.injEq] at hv; exact absurd hv.1 h2
    rw [tok] at h
    by_cases hl : let_ c = true
    · rw [if_pos hl] at h
      by_cases hb : isBlob (c :: r) = true
      · rw [if_pos hb] at h
        cases e : bEnd ((c :: r).drop 2) with
        | none => rw [e] at h; cases h
        | some q => rw [e] at h; exact hval (show valT (c :: r) (q + 2) = _ from h)
      · rw [if_neg hb] at h
        unfold nameT at h
        split at h
        · cases h; simp
        · split at h
          · cases h
          · cases h; simp
    · rw [if_neg hl] at h
      by_cases hd : dig c = true
      · rw [if_pos hd] at h
        unfold numT at h
        split at h
        · cases h
        · split at h
          · cases h; simp
          · rename_i h2; simp only [bad, Prod.mk.injEq] at h; exact absurd h.1 h2
      · rw [if_neg hd] at h
        by_cases hq : (c == 39) = true
        · rw [if_pos hq] at h
          cases e : qEnd r with
          | none => rw [e] at h; cases h
          | some q => rw [e] at h; exact hval (show valT (c :: r) (q + 1) = _ from h)
        · rw [if_neg hq] at h
          unfold markT at h
          split at h
          · cases h
          · cases h; simp
theorem ok_kind {t : T} (h : OkT t) : t.kind ≠ 0 := by
  obtain ⟨R, n, h, _⟩ := h
  exact tok_kind h
def keepA (t : TA) : Bool := t.1.kind != 0 && (t.1.kind != 4 || t.1.text != [59])
theorem keep_map {ext : List TA} {e : Nat} (h : ∀ t ∈ ext.map (·.1), OkT t) : ((ext ++ [(endT, e)]).filter keepA).map (·.1) = (ext.map (·.1)).filter (fun t => !semi t) := by
  have h1 : ([(endT, e)] : List TA).filter keepA = [] := rfl
  rw [List.filter_append, h1, List.append_nil]
  induction ext with
  | nil => rfl
  | cons t ext ih =>
    have ih := ih (fun u hu => h u (by rw [List.map_cons]; exact List.mem_cons_of_mem _ hu))
    have hk := ok_kind (h t.1 (by rw [List.map_cons]; exact List.mem_cons_self))
    have he : keepA t = !semi t.1 := by
      have h2 : (t.1.kind != 0) = true := by simpa using hk
      unfold keepA semi
      rw [h2, Bool.true_and, Bool.not_and]
      rfl
    rw [List.map_cons, List.filter_cons, List.filter_cons, he]
    split
    · rw [List.map_cons, ih]
    · exact ih
theorem pt_len {M : Nat} {ps : List (List UInt8)} {ts : List T} (h : PT M ps ts) : ps.length ≤ ts.length := by
  induction h with
  | nil => simp
  | cons h1 h2 h3 h4 ih =>
    have := List.length_pos_iff.2 h2
    simp only [List.length_cons, List.length_append]
    omega
theorem pt_cons {M : Nat} {p : List UInt8} {ps : List (List UInt8)} {ts : List T} (h : PT M (p :: ps) ts) : ∃ ts1 ts2, ts = ts1 ++ ts2 ∧ Lexed (p.drop (skipN false p)) ts1 ∧ ts1 ≠ [] ∧ p.length ≤ M ∧ PT M ps ts2 := by
  cases h with
  | cons h1 h2 h3 h4 => exact ⟨_, _, rfl, h1, h2, h3, h4⟩
end Lx
