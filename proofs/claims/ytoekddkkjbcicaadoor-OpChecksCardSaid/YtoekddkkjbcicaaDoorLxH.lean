/- What a text is made of: its tokens, one behind the other, and what stands between them. -/
import Derived.Test.YtoekddkkjbcicaaDoorLxG
set_option linter.unusedVariables false
set_option linter.unusedSimpArgs false
namespace Lx
def endT : T := ⟨0, [], (0, 0, [])⟩
/-- A text that begins with a token (or is empty) has these tokens. -/
inductive Lexed : List UInt8 → List T → Prop
  | nil : Lexed [] []
  | cons {R : List UInt8} {t : T} {n : Nat} {ts : List T} : tok R = (0, t, n) → skipN false R = 0 → Lexed ((R.drop n).drop (skipN false (R.drop n))) ts → Lexed R (t :: ts)
theorem skip_idem : ∀ (b : Bool) (l : List UInt8), skipN false (l.drop (skipN b l)) = 0
  | b, [] => by cases b <;> simp [skipN]
  | true, c :: r => by
    rw [skipN, Nat.add_comm, List.drop_succ_cons]
    exact skip_idem (c != 10) r
  | false, c :: r => by
    have h1 := skip_idem false r
    have h2 := skip_idem true r
    by_cases hb : bl c = true
    · have e : skipN false (c :: r) = skipN false r + 1 := by rw [skipN, if_pos hb]; omega
      rw [e, List.drop_succ_cons]; exact h1
    · by_cases hc : (c == 45 && r.head? == some 45) = true
      · have e : skipN false (c :: r) = skipN true r + 1 := by rw [skipN, if_neg hb, if_pos hc]; omega
        rw [e, List.drop_succ_cons]; exact h2
      · have e : skipN false (c :: r) = 0 := by rw [skipN, if_neg hb, if_neg hc]
        rw [e, List.drop_zero, e]
theorem tok_ne {R : List UInt8} {t : T} {n : Nat} (h : tok R = (0, t, n)) : R ≠ [] := by
  intro h0; subst h0; cases h
theorem tok_n {R : List UInt8} {t : T} {n : Nat} (h : tok R = (0, t, n)) : 1 ≤ n ∧ n ≤ R.length ∧ t.text.length = n := by
  have := tok_len (l := R) (by rw [h]); rw [h] at this; exact this
theorem lexed_skip {R : List UInt8} {ts : List T} (h : Lexed R ts) : skipN false R = 0 := by
  cases h with
  | nil => rfl
  | cons _ h _ => exact h
theorem lexed_len {R : List UInt8} {ts : List T} (h : Lexed R ts) : ts.length ≤ R.length := by
  induction h with
  | nil => simp
  | cons h1 h2 h3 ih =>
    have := tok_n h1
    simp only [List.length_drop] at ih
    simp only [List.length_cons]
    omega
theorem lexed_nil {ts : List T} (h : Lexed [] ts) : ts = [] := by
  cases h with
  | nil => rfl
  | cons h _ _ => cases h
theorem lexed_ne {R : List UInt8} {ts : List T} (h : Lexed R ts) (h0 : R ≠ []) : ts ≠ [] := by
  cases h with
  | nil => exact absurd rfl h0
  | cons h _ _ => simp
/-- Places that rise, all ahead of the end. -/
def Rise (e : Nat) : Nat → List TA → Prop
  | _, [] => True
  | k, t :: r => k ≤ t.2 ∧ t.2 < e ∧ Rise e (t.2 + 1) r
theorem rise_mono {e : Nat} : ∀ {l : List TA} {j k : Nat}, k ≤ j → Rise e j l → Rise e k l
  | [], _, _, _, _ => trivial
  | t :: r, j, k, h, ⟨h1, h2, h3⟩ => ⟨by omega, h2, h3⟩
theorem scanL_lexed (L : List UInt8) : ∀ (f : Nat) (acc : List TA) (k : Nat) (l : List TA) (a : Nat), k ≤ L.length → L.length < k + f → skipN false (L.drop k) = 0 → acc.length ≤ 4096 → scanL L f acc k = (l, a, 0) →
    ∃ ext : List TA, Lexed (L.drop k) (ext.map (·.1)) ∧ l = acc ++ ext ++ [(endT, L.length)] ∧ acc.length + ext.length ≤ 4096 ∧ Rise L.length k ext
  | 0, acc, k, l, a, hk, hf, _, _, _ => by omega
  | f + 1, acc, k, l, a, hk, hf, hs, ha, h => by
    rw [scanL] at h
    by_cases h1 : k = L.length
    · rw [if_pos h1] at h
      simp only [Prod.mk.injEq] at h
      refine ⟨[], ?_, by rw [← h.1]; simp [endT], by simpa using ha, trivial⟩
      rw [List.drop_eq_nil_of_le (by omega)]; exact .nil
    · rw [if_neg h1] at h
      by_cases h2 : acc.length = 4096
      · rw [if_pos h2] at h; simp at h
      · rw [if_neg h2] at h
        by_cases h3 : (tok (L.drop k)).1 = 0
        · rw [if_pos h3] at h
          obtain ⟨e, t, n, ht⟩ : ∃ e t n, tok (L.drop k) = (e, t, n) := ⟨_, _, _, rfl⟩
          rw [ht] at h h3
          simp only at h3
          subst h3
          simp only at h
          have hn := tok_n ht
          rw [List.length_drop] at hn
          have hsk := skipN_le false (L.drop (k + n))
          rw [List.length_drop] at hsk
          obtain ⟨ext, g1, g2, g3, g4⟩ := scanL_lexed L f (acc ++ [(t, k)]) (k + n + skipN false (L.drop (k + n))) l a (by omega) (by omega) (by rw [← List.drop_drop]; exact skip_idem _ _) (by simp; omega) h
          refine ⟨(t, k) :: ext, ?_, by rw [g2]; simp, by simp at g3 ⊢; omega, Nat.le_refl _, by omega, rise_mono (by omega) g4⟩
          rw [List.map_cons]
          refine .cons ht hs ?_
          rw [← List.drop_drop, ← List.drop_drop] at g1
          exact g1
        · rw [if_neg h3] at h
          simp only [Prod.mk.injEq] at h
          exact absurd h.2.2 h3
theorem scan_lexed {L : List UInt8} {l : List TA} {a : Nat} (h : scan L = (l, a, 0)) :
    ∃ ext : List TA, Lexed (L.drop (skipN false L)) (ext.map (·.1)) ∧ l = ext ++ [(endT, L.length)] ∧ ext.length ≤ 4096 ∧ Rise L.length 0 ext ∧ L.length ≤ 65536 := by
  rw [scan] at h
  by_cases h1 : 65536 < L.length
  · rw [if_pos h1] at h; simp at h
  · rw [if_neg h1] at h
    have := skipN_le false L
    obtain ⟨ext, g1, g2, g3, g4⟩ := scanL_lexed L _ [] _ l a this (by omega) (skip_idem _ _) (by simp) h
    exact ⟨ext, g1, by simpa using g2, by simpa using g3, rise_mono (Nat.zero_le _) g4, by omega⟩
theorem lexed_scanL (L : List UInt8) {R : List UInt8} {ts : List T} (h : Lexed R ts) : ∀ (f : Nat) (acc : List TA) (k : Nat), k ≤ L.length → L.length < k + f → L.drop k = R → acc.length + ts.length ≤ 4096 →
    ∃ ext : List TA, scanL L f acc k = (acc ++ ext ++ [(endT, L.length)], 0, 0) ∧ ext.map (·.1) = ts := by
  induction h with
  | nil =>
    intro f acc k hk hf hd ha
    obtain ⟨f, rfl⟩ : ∃ g, f = g + 1 := ⟨f - 1, by omega⟩
    have : L.length ≤ k := by
      have := congrArg List.length hd
      simp at this; omega
    obtain rfl : k = L.length := by omega
    exact ⟨[], by rw [scanL, if_pos rfl]; simp [endT], rfl⟩
  | @cons R t n ts h1 h2 h3 ih =>
    intro f acc k hk hf hd ha
    have hn := tok_n h1
    rw [← hd, List.length_drop] at hn
    obtain ⟨f, rfl⟩ : ∃ g, f = g + 1 := ⟨f - 1, by omega⟩
    have hsk := skipN_le false (L.drop (k + n))
    rw [List.length_drop] at hsk
    simp only [List.length_cons] at ha
    obtain ⟨ext, g1, g2⟩ := ih f (acc ++ [(t, k)]) (k + n + skipN false (L.drop (k + n))) (by omega) (by omega) (by rw [← hd, ← List.drop_drop, ← List.drop_drop]) (by simp; omega)
    refine ⟨(t, k) :: ext, ?_, by simp [g2]⟩
    rw [scanL, if_neg (by omega), if_neg (by omega), hd, h1]
    simp only [if_true]
    rw [g1]
    simp
theorem lexed_scan {L : List UInt8} {ts : List T} (h : Lexed (L.drop (skipN false L)) ts) (h1 : L.length ≤ 65536) (h2 : ts.length ≤ 4096) :
    ∃ ext : List TA, scan L = (ext ++ [(endT, L.length)], 0, 0) ∧ ext.map (·.1) = ts := by
  have := skipN_le false L
  obtain ⟨ext, g1, g2⟩ := lexed_scanL L h (L.length + 1) [] (skipN false L) this (by omega) rfl (by simpa using h2)
  exact ⟨ext, by rw [scan, if_neg (by omega), g1]; rfl, g2⟩
end Lx
