/- Parts of a text. -/
import Derived.Test.YtoekddkkjbcicaaDoorLxC
set_option linter.unusedVariables false
set_option linter.unusedSimpArgs false
namespace Lx
/-- How many bytes up to the end of a part; within: 1 a quote, 2 a comment. -/
def pN : Nat → List UInt8 → Nat
  | _, [] => 0
  | 0, c :: r => if c == 59 then 0 else if c == 39 then 1 + pN 1 r else if c == 45 && r.head? == some 45 then 1 + pN 2 r else 1 + pN 0 r
  | 1, c :: r => 1 + pN (if c == 39 then 0 else 1) r
  | _ + 2, c :: r => 1 + pN (if c == 10 then 0 else 2) r
theorem pN_le : ∀ (m : Nat) (l : List UInt8), pN m l ≤ l.length
  | m, [] => by cases m with
    | zero => simp [pN]
    | succ m => cases m <;> simp [pN]
  | 0, c :: r => by
    have h1 := pN_le 1 r
    have h2 := pN_le 2 r
    have h0 := pN_le 0 r
    unfold pN
    simp only [List.length_cons]
    split
    · omega
    · split
      · omega
      · split <;> omega
  | 1, c :: r => by
    have h1 := pN_le (if c == 39 then 0 else 1) r
    unfold pN
    simp only [List.length_cons]
    omega
  | m + 2, c :: r => by
    have h1 := pN_le (if c == 10 then 0 else 2) r
    unfold pN
    simp only [List.length_cons]
    omega
theorem p_end {s : ByteArray} {k m : Nat} (h : s.size ≤ k) : k + pN m (suf s k) = k := by
  rw [suf_nil h]
  cases m with
  | zero => simp [pN]
  | succ m => cases m <;> simp [pN]
theorem p_semi {s : ByteArray} {k : Nat} (h : k < s.size) (h1 : s[k].toNat = 59) : k + pN 0 (suf s k) = k := by
  have e : s[k] = 59 := u8_of (n := 59) (by omega) h1
  rw [suf_cons h, e]; simp [pN]
theorem p_quote {s : ByteArray} {k : Nat} (h : k < s.size) (h1 : s[k].toNat = 39) : k + pN 0 (suf s k) = k + 1 + pN 1 (suf s (k + 1)) := by
  have e : s[k] = 39 := u8_of (n := 39) (by omega) h1
  rw [suf_cons h, e]; simp [pN]; omega
theorem p_com {s : ByteArray} {k : Nat} (h : k + 1 < s.size) (h1 : s[k].toNat = 45) (h2 : s[k + 1].toNat = 45) : k + pN 0 (suf s k) = k + 1 + pN 2 (suf s (k + 1)) := by
  have e : s[k] = 45 := u8_of (n := 45) (by omega) h1
  have e2 : s[k + 1] = 45 := u8_of (n := 45) (by omega) h2
  have h3 : (suf s (k + 1)).head? = some 45 := by rw [suf_cons h, e2]; rfl
  rw [suf_cons (k := k) (by omega), e]; simp [pN, h3]; omega
theorem p_plain {s : ByteArray} {k : Nat} (h : k < s.size) (h1 : s[k].toNat ≠ 59) (h2 : s[k].toNat ≠ 39) (h3 : s[k].toNat = 45 → ∀ h : k + 1 < s.size, s[k + 1].toNat ≠ 45) :
    k + pN 0 (suf s k) = k + 1 + pN 0 (suf s (k + 1)) := by
  have e1 : (s[k] == 59) = false := by simp [beq_nat, h1]
  have e2 : (s[k] == 39) = false := by simp [beq_nat, h2]
  have e3 : (s[k] == 45 && (suf s (k + 1)).head? == some 45) = false := by
    by_cases e : s[k].toNat = 45
    · by_cases h' : k + 1 < s.size
      · have := h3 e h'
        rw [suf_cons h']
        simp [← UInt8.toNat_inj, this]
      · rw [suf_nil (by omega)]; simp
    · simp [beq_nat, e]
  rw [suf_cons h]; simp [pN, e1, e2, e3]; omega
theorem pN1_eq (l : List UInt8) : pN 1 l = if many noq l < l.length then many noq l + 1 + pN 0 (l.drop (many noq l + 1)) else l.length := by
  induction l with
  | nil => simp [pN, many]
  | cons c r ih =>
    by_cases h : c = 39
    · subst h
      simp [pN, many, noq]
    · have h1 : noq c = true := by simp [noq, h]
      have h2 : (c == 39) = false := by simpa using h
      have h3 : many noq (c :: r) = 1 + many noq r := by simp [many, h1]
      have h4 : pN 1 (c :: r) = 1 + pN 1 r := by simp [pN, h2]
      rw [h4, h3, ih, List.length_cons]
      by_cases h5 : many noq r < r.length
      · rw [if_pos h5, if_pos (by omega), Nat.add_assoc 1, Nat.add_comm 1 (many noq r + 1), List.drop_succ_cons]; omega
      · rw [if_neg h5, if_neg (by omega)]; omega
def no10 (c : UInt8) : Bool := c != 10
theorem pN2_eq (l : List UInt8) : pN 2 l = many no10 l + pN 0 (l.drop (many no10 l)) := by
  induction l with
  | nil => simp [pN, many]
  | cons c r ih =>
    by_cases h : c = 10
    · subst h
      simp [pN, many, no10]
    · have h1 : no10 c = true := by simp [no10, h]
      have h2 : (c == 10) = false := by simpa using h
      have h3 : many no10 (c :: r) = 1 + many no10 r := by simp [many, h1]
      have h4 : pN 2 (c :: r) = 1 + pN 2 r := by simp [pN, h2]
      rw [h4, h3, ih, Nat.add_comm 1 (many no10 r), List.drop_succ_cons]; omega
/-- One step of the search for a part's end: where it goes on from. -/
def pAt (s : ByteArray) (k R : Nat) : Prop := (k ≤ s.size ∧ k + pN 0 (suf s k) = R) ∨ (k = s.size + 1 ∧ R = s.size)
theorem drop_suf (s : ByteArray) (k j : Nat) : (suf s k).drop j = suf s (k + j) := by rw [suf_eq, suf_eq, List.drop_drop]
theorem pAt_quote {s : ByteArray} {k R : Nat} (h : k < s.size) (h1 : s[k].toNat = 39) (hp : pAt s k R) : pAt s (k + 1 + many noq (suf s (k + 1)) + 1) R := by
  rcases hp with ⟨_, hp⟩ | ⟨hp, _⟩
  · rw [p_quote h h1, pN1_eq, suf_length] at hp
    have hm := many_le noq (suf s (k + 1))
    rw [suf_length] at hm
    by_cases h2 : many noq (suf s (k + 1)) < s.size - (k + 1)
    · rw [if_pos h2, drop_suf] at hp
      refine .inl ⟨by omega, ?_⟩
      rw [← hp, Nat.add_assoc (k + 1)]
      omega
    · rw [if_neg h2] at hp
      exact .inr ⟨by omega, by omega⟩
  · omega
theorem pAt_com {s : ByteArray} {k R : Nat} (h : k + 1 < s.size) (h1 : s[k].toNat = 45) (h2 : s[k + 1].toNat = 45) (hp : pAt s k R) : pAt s (k + many no10 (suf s k)) R := by
  rcases hp with ⟨_, hp⟩ | ⟨hp, _⟩
  · have hm := many_le no10 (suf s k)
    rw [suf_length] at hm
    rw [p_com h h1 h2, pN2_eq] at hp
    have h3 : many no10 (suf s k) = 1 + many no10 (suf s (k + 1)) := by
      have e : no10 s[k] = true := by simp [no10, u8_of (n := 45) (by omega) h1]
      rw [suf_cons (k := k) (by omega)]; simp [many, e]
    refine .inl ⟨by omega, ?_⟩
    rw [drop_suf] at hp
    rw [h3, ← hp, show k + (1 + many no10 (suf s (k + 1))) = k + 1 + many no10 (suf s (k + 1)) from by omega]
    omega
  · omega
/-- The parts of a text from a place on. -/
def parts (l : List UInt8) : Nat → Nat → List (List UInt8)
  | 0, _ => []
  | f + 1, k => if l.length < k then [] else
      (if skipN false ((l.drop k).take (pN 0 (l.drop k))) < ((l.drop k).take (pN 0 (l.drop k))).length then [(l.drop k).take (pN 0 (l.drop k))] else []) ++ parts l f (k + pN 0 (l.drop k) + 1)
def partsOf (l : List UInt8) : List (List UInt8) := parts l (l.length + 2) 0
def emit (l : List UInt8) (k e : Nat) : List (List UInt8) :=
  if skipN false ((l.drop k).take (e - k)) < ((l.drop k).take (e - k)).length then [(l.drop k).take (e - k)] else []
def restP (s : ByteArray) (f k m i : Nat) : List (List UInt8) := emit (ls s) k (i + pN m (suf s i)) ++ parts (ls s) f (i + pN m (suf s i) + 1)
theorem parts_rest {s : ByteArray} {f k : Nat} (h : k ≤ s.size) : parts (ls s) (f + 1) k = restP s f k 0 k := by
  rw [parts, if_neg (by rw [ls_length]; omega), restP, emit, Nat.add_sub_cancel_left]
  rfl
theorem parts_over {s : ByteArray} {f k : Nat} (h : s.size < k) : parts (ls s) f k = [] := by
  cases f with
  | zero => rfl
  | succ f => rw [parts, if_pos (by rw [ls_length]; exact h)]
theorem restP_end {s : ByteArray} {f k m : Nat} : restP s f k m s.size = emit (ls s) k s.size := by
  rw [restP, p_end (Nat.le_refl _), parts_over (by omega), List.append_nil]
theorem restP_semi {s : ByteArray} {f k i : Nat} (h : i < s.size) (h1 : s[i].toNat = 59) : restP s (f + 1) k 0 i = emit (ls s) k i ++ restP s f (i + 1) 0 (i + 1) := by
  rw [restP, p_semi h h1, parts_rest (by omega)]
theorem restP_move {s : ByteArray} {f k m m' i : Nat} (h : i + pN m (suf s i) = i + 1 + pN m' (suf s (i + 1))) : restP s f k m i = restP s f k m' (i + 1) := by
  rw [restP, restP, h]
theorem q_close {s : ByteArray} {k : Nat} (h : k < s.size) (h1 : s[k].toNat = 39) : k + pN 1 (suf s k) = k + 1 + pN 0 (suf s (k + 1)) := by
  have e : s[k] = 39 := u8_of (n := 39) (by omega) h1
  rw [suf_cons h, e]; simp [pN]; omega
theorem q_in {s : ByteArray} {k : Nat} (h : k < s.size) (h1 : s[k].toNat ≠ 39) : k + pN 1 (suf s k) = k + 1 + pN 1 (suf s (k + 1)) := by
  have e : (s[k] == 39) = false := by simp [beq_nat, h1]
  rw [suf_cons h]; simp [pN, e]; omega
theorem c_out {s : ByteArray} {k : Nat} (h : k < s.size) (h1 : s[k].toNat = 10) : k + pN 2 (suf s k) = k + 1 + pN 0 (suf s (k + 1)) := by
  have e : s[k] = 10 := u8_of (n := 10) (by omega) h1
  rw [suf_cons h, e]; simp [pN]; omega
theorem c_in {s : ByteArray} {k : Nat} (h : k < s.size) (h1 : s[k].toNat ≠ 10) : k + pN 2 (suf s k) = k + 1 + pN 2 (suf s (k + 1)) := by
  have e : (s[k] == 10) = false := by simp [beq_nat, h1]
  rw [suf_cons h]; simp [pN, e]; omega
def modeOf (q c : Bool) : Nat := if c then 2 else if q then 1 else 0
end Lx
