/- What a lexer computes: tokens. -/
import Derived.Test.YtoekddkkjbcicaaDoorLxB
set_option linter.unusedVariables false
set_option linter.unusedSimpArgs false
namespace Lx
def wordsL : List (List UInt8) := [[97, 108, 108],
  [97, 110, 100],
  [97, 115],
  [97, 115, 99],
  [98, 101, 116, 119, 101, 101, 110],
  [98, 121],
  [99, 97, 115, 101],
  [99, 97, 115, 116],
  [99, 111, 108, 108, 97, 116, 101],
  [99, 114, 101, 97, 116, 101],
  [99, 114, 111, 115, 115],
  [100, 101, 108, 101, 116, 101],
  [100, 101, 115, 99],
  [100, 105, 115, 116, 105, 110, 99, 116],
  [100, 114, 111, 112],
  [101, 108, 115, 101],
  [101, 110, 100],
  [101, 120, 99, 101, 112, 116],
  [101, 120, 105, 115, 116, 115],
  [102, 114, 111, 109],
  [103, 114, 111, 117, 112],
  [104, 97, 118, 105, 110, 103],
  [105, 102],
  [105, 110],
  [105, 110, 100, 101, 120],
  [105, 110, 110, 101, 114],
  [105, 110, 115, 101, 114, 116],
  [105, 110, 116, 101, 114, 115, 101, 99, 116],
  [105, 110, 116, 111],
  [105, 115],
  [106, 111, 105, 110],
  [108, 101, 102, 116],
  [108, 105, 107, 101],
  [108, 105, 109, 105, 116],
  [110, 111, 116],
  [110, 117, 108, 108],
  [111, 102, 102, 115, 101, 116],
  [111, 110],
  [111, 114],
  [111, 114, 100, 101, 114],
  [115, 101, 108, 101, 99, 116],
  [115, 101, 116],
  [116, 97, 98, 108, 101],
  [116, 104, 101, 110],
  [117, 110, 105, 111, 110],
  [117, 112, 100, 97, 116, 101],
  [118, 97, 108, 117, 101, 115],
  [119, 104, 101, 110],
  [119, 104, 101, 114, 101]]
def isW (l : List UInt8) : Bool := wordsL.contains (fold l)

/-- Behind a quote: how many bytes up to the one that ends it, that one counted; each quote within stands twice. -/
def qEnd : List UInt8 → Option Nat
  | [] => none
  | [c] => if c == 39 then some 1 else none
  | c :: d :: r => if c == 39 then (if d == 39 then (qEnd r).map (· + 2) else some 1) else (qEnd (d :: r)).map (· + 1)
def noq (c : UInt8) : Bool := c != 39
/-- Behind a quote: up to the next one. -/
def bEnd (l : List UInt8) : Option Nat := if many noq l < l.length then some (many noq l + 1) else none

def marks2 : List (List UInt8) := [[124, 124], [60, 62], [60, 61], [62, 61]]
def marks1 : List UInt8 := [61, 60, 62, 43, 45, 42, 47, 37, 40, 41, 44, 46, 59]
def markN (l : List UInt8) : Nat :=
  if marks2.contains (l.take 2) then 2 else match l with | c :: _ => if marks1.contains c then 1 else 0 | [] => 0

abbrev Val := Int × Int × List UInt8
structure T where
  kind : Int
  text : List UInt8
  val : Val
/-- What is wrong; the token; its bytes. -/
abbrev TR := Int × T × Nat
def bad (e : Int) : TR := (e, ⟨0, [], (0, 0, [])⟩, 0)
def valT (l : List UInt8) (n : Nat) : TR :=
  if (unquote (l.take n)).2 = 0 then (0, ⟨3, l.take n, (unquote (l.take n)).1⟩, n) else bad (unquote (l.take n)).2
def isBlob (l : List UInt8) : Bool := (l.head? == some 120 || l.head? == some 88) && l.tail.head? == some 39
def optV (l : List UInt8) (o : Option Nat) : TR := match o with | some n => valT l n | none => bad 8
def nameT (l : List UInt8) (n : Nat) : TR :=
  if isW (l.take n) then (0, ⟨2, fold (l.take n), (0, 0, [])⟩, n) else if 32 < n then bad 3 else (0, ⟨1, l.take n, (0, 0, [])⟩, n)
def numT (l : List UInt8) (n : Nat) : TR :=
  if (l.drop n).head?.any let_ then bad 8
  else if (read (l.take n)).2 = 0 then (0, ⟨3, l.take n, (1, (read (l.take n)).1, [])⟩, n) else bad (read (l.take n)).2
def markT (l : List UInt8) : TR := if markN l = 0 then bad 8 else (0, ⟨4, l.take (markN l), (0, 0, [])⟩, markN l)
def tok (l : List UInt8) : TR :=
  match l with
  | [] => bad 8
  | c :: r =>
    if let_ c then
      if isBlob l then optV l ((bEnd (l.drop 2)).map (· + 2)) else nameT l (many nam l)
    else if dig c then numT l (many dig l)
    else if c == 39 then optV l ((qEnd r).map (· + 1))
    else markT l

/-- A token and its place. -/
abbrev TA := T × Nat
abbrev SR := List TA × Nat × Int
def scanL (l : List UInt8) : Nat → List TA → Nat → SR
  | 0, acc, at_ => (acc, at_, 0)
  | f + 1, acc, at_ =>
    if at_ = l.length then (acc ++ [(⟨0, [], (0, 0, [])⟩, l.length)], 0, 0)
    else if acc.length = 4096 then ([], at_, 3)
    else if (tok (l.drop at_)).1 = 0 then
      scanL l f (acc ++ [((tok (l.drop at_)).2.1, at_)]) (at_ + (tok (l.drop at_)).2.2 + skipN false (l.drop (at_ + (tok (l.drop at_)).2.2)))
    else ([], at_, (tok (l.drop at_)).1)
def scan (l : List UInt8) : SR := if 65536 < l.length then ([], 0, 3) else scanL l (l.length + 1) [] (skipN false l)

theorem qEnd_le (l : List UInt8) : ∀ n, qEnd l = some n → 1 ≤ n ∧ n ≤ l.length := by
  fun_induction qEnd l with
  | case1 => intro n h; cases h
  | case2 => intro n h; cases h; simp
  | case3 => intro n h; cases h
  | case4 c d r h1 h2 ih =>
    intro n h
    cases e : qEnd r with
    | none => simp [e] at h
    | some q => simp [e] at h; have := ih q e; simp; omega
  | case5 => intro n h; cases h; simp
  | case6 c d r h1 ih =>
    intro n h
    cases e : qEnd (d :: r) with
    | none => simp [e] at h
    | some q => simp [e] at h; have := ih q e; simp at this ⊢; omega

theorem valT_len {l : List UInt8} {n : Nat} (h : (valT l n).1 = 0) (hn : 1 ≤ n) (hl : n ≤ l.length) : (valT l n).2.2 = n ∧ (valT l n).2.1.text.length = n := by
  unfold valT at *
  split
  · simp; omega
  · rename_i h2; rw [if_neg h2] at h; exact absurd h h2
theorem tok_len {l : List UInt8} (h : (tok l).1 = 0) : 1 ≤ (tok l).2.2 ∧ (tok l).2.2 ≤ l.length ∧ (tok l).2.1.text.length = (tok l).2.2 := by
  cases l with
  | nil => cases h
  | cons c r =>
    unfold tok at *
    by_cases h1 : let_ c
    · simp only [h1, if_true] at h ⊢
      by_cases h2 : isBlob (c :: r)
      · simp only [h2, if_true] at h ⊢
        have hl2 : 2 ≤ (c :: r).length := by
          unfold isBlob at h2
          simp only [Bool.and_eq_true, List.tail_cons] at h2
          cases r with
          | nil => simp at h2
          | cons d r => simp
        cases e : (bEnd ((c :: r).drop 2)).map (· + 2) with
        | none => rw [e] at h; cases h
        | some n =>
          rw [e] at h
          have hn : 3 ≤ n ∧ n ≤ (c :: r).length := by
            unfold bEnd at e
            split at e
            · rename_i h3; simp at e h3 hl2 ⊢; omega
            · cases e
          have := valT_len h (by omega) hn.2
          simp only [optV]
          omega
      · simp only [h2, Bool.false_eq_true, if_false] at h ⊢
        have hm : 1 ≤ many nam (c :: r) := by
          unfold many
          simp [nam, h1]
        have hm2 := many_le nam (c :: r)
        unfold nameT at *
        split
        · simp only [fold_length, List.length_take]; omega
        · split
          · rename_i h3 h4; rw [if_neg h3, if_pos h4] at h; cases h
          · simp only [List.length_take]; omega
    · simp only [h1, Bool.false_eq_true, if_false] at h ⊢
      by_cases h2 : dig c
      · simp only [h2, if_true] at h ⊢
        have hm : 1 ≤ many dig (c :: r) := by
          unfold many
          simp [h2]
        have hm2 := many_le dig (c :: r)
        unfold numT at *
        split
        · rename_i h3; rw [if_pos h3] at h; cases h
        · split
          · simp only [List.length_take]; omega
          · rename_i h3 h4; rw [if_neg h3, if_neg h4] at h; exact absurd h h4
      · simp only [h2, Bool.false_eq_true, if_false] at h ⊢
        by_cases h3 : (c == 39) = true
        · simp only [h3, if_true] at h ⊢
          cases e : (qEnd r).map (· + 1) with
          | none => rw [e] at h; cases h
          | some n =>
            rw [e] at h
            have hn : 1 ≤ n ∧ n ≤ (c :: r).length := by
              cases e2 : qEnd r with
              | none => simp [e2] at e
              | some m => have := qEnd_le r m e2; simp [e2] at e; simp; omega
            have := valT_len h (by omega) hn.2
            simp only [optV]
            omega
        · simp only [h3, Bool.false_eq_true, if_false] at h ⊢
          have hm : markN (c :: r) ≤ (c :: r).length := by
            unfold markN
            split
            · rename_i h4
              cases r with
              | nil => simp [marks2] at h4
              | cons d r => simp
            · simp only; split <;> simp
          unfold markT at *
          split
          · rename_i h4; rw [if_pos h4] at h; cases h
          · simp only [List.length_take]; omega

def shift (o : Option Nat) (k : Nat) : Option Nat := o.map (· + k)
theorem shift_shift (o : Option Nat) (j k : Nat) : shift (o.map (· + j)) k = shift o (k + j) := by
  cases o with
  | none => rfl
  | some n => simp [shift]; omega
theorem q_go {s : ByteArray} {k : Nat} (h : k < s.size) (h1 : s[k].toNat ≠ 39) : shift (qEnd (suf s k)) k = shift (qEnd (suf s (k + 1))) (k + 1) := by
  have h2 : (s[k] == 39) = false := by simp [beq_nat, h1]
  rw [suf_cons h, ← shift_shift]
  cases e : suf s (k + 1) with
  | nil => simp [qEnd, h2]
  | cons d r => simp [qEnd, h2]
theorem q_pair {s : ByteArray} {k : Nat} (h : k + 1 < s.size) (h1 : s[k].toNat = 39) (h2 : s[k + 1].toNat = 39) : shift (qEnd (suf s k)) k = shift (qEnd (suf s (k + 2))) (k + 2) := by
  have e1 : s[k] = 39 := u8_of (n := 39) (by omega) h1
  have e2 : s[k + 1] = 39 := u8_of (n := 39) (by omega) h2
  rw [suf_cons (k := k) (by omega), suf_cons (k := k + 1) h, ← shift_shift, e1, e2]
  simp [qEnd]
theorem q_stop {s : ByteArray} {k : Nat} (h : k < s.size) (h1 : s[k].toNat = 39) (h2 : ∀ h : k + 1 < s.size, s[k + 1].toNat ≠ 39) : shift (qEnd (suf s k)) k = some (k + 1) := by
  have e1 : s[k] = 39 := u8_of (n := 39) (by omega) h1
  rw [suf_cons h, e1]
  by_cases h3 : k + 1 < s.size
  · have h4 : (s[k + 1] == 39) = false := by have := h2 h3; simp [beq_nat, this]
    rw [suf_cons h3]; simp [qEnd, h4, shift]; omega
  · rw [suf_nil (by omega)]; simp [qEnd, shift]; omega
theorem q_end {s : ByteArray} {k : Nat} (h : s.size ≤ k) : shift (qEnd (suf s k)) k = none := by
  rw [suf_nil h]; rfl
theorem b_go {s : ByteArray} {k : Nat} (h : k < s.size) (h1 : s[k].toNat ≠ 39) : shift (bEnd (suf s k)) k = shift (bEnd (suf s (k + 1))) (k + 1) := by
  have h2 : noq s[k] = true := by simp [noq, ← UInt8.toNat_inj, h1]
  rw [suf_cons h]
  unfold bEnd
  simp only [many, h2, if_true, List.length_cons]
  by_cases h3 : many noq (suf s (k + 1)) < (suf s (k + 1)).length
  · rw [if_pos (by omega), if_pos h3]; simp [shift]; omega
  · rw [if_neg (by omega), if_neg h3]; rfl
theorem b_stop {s : ByteArray} {k : Nat} (h : k < s.size) (h1 : s[k].toNat = 39) : shift (bEnd (suf s k)) k = some (k + 1) := by
  have h2 : noq s[k] = false := by simp [noq, u8_of (n := 39) (by omega) h1]
  rw [suf_cons h]
  unfold bEnd
  simp [many, h2, shift]; omega
theorem b_end {s : ByteArray} {k : Nat} (h : s.size ≤ k) : shift (bEnd (suf s k)) k = none := by
  rw [suf_nil h]; rfl
theorem isBlob_yes {s : ByteArray} {k : Nat} (h : k + 1 < s.size) (h1 : s[k].toNat = 120 ∨ s[k].toNat = 88) (h2 : s[k + 1].toNat = 39) : isBlob (suf s k) = true := by
  rw [suf_cons (k := k) (by omega), suf_cons (k := k + 1) h]
  unfold isBlob
  have e2 : s[k + 1] = 39 := u8_of (n := 39) (by omega) h2
  rcases h1 with h1 | h1
  · have e1 : s[k] = 120 := u8_of (n := 120) (by omega) h1
    simp [e1, e2]
  · have e1 : s[k] = 88 := u8_of (n := 88) (by omega) h1
    simp [e1, e2]
theorem isBlob_no {s : ByteArray} {k : Nat} (h : k < s.size) (h1 : (s[k].toNat ≠ 120 ∧ s[k].toNat ≠ 88) ∨ (∀ h : k + 1 < s.size, s[k + 1].toNat ≠ 39)) : isBlob (suf s k) = false := by
  rw [suf_cons h]
  unfold isBlob
  rcases h1 with ⟨h1, h2⟩ | h1
  · simp [← UInt8.toNat_inj, h1, h2]
  · by_cases h3 : k + 1 < s.size
    · rw [suf_cons h3]
      have := h1 h3
      simp [← UInt8.toNat_inj, this]
    · rw [suf_nil (by omega)]; simp
theorem take2 {s : ByteArray} {k : Nat} (h : k + 2 ≤ s.size) : (s.extract k (k + 2)).toList = (suf s k).take 2 := by
  rw [toList_ls, ls_extract, suf_eq]; congr 1; omega
theorem markN_2 {s : ByteArray} {k : Nat} (h : marks2.contains ((suf s k).take 2) = true) : markN (suf s k) = 2 := by
  unfold markN; rw [if_pos h]
theorem markN_1 {s : ByteArray} {k : Nat} (hk : k < s.size) (h : marks2.contains ((suf s k).take 2) = false) : markN (suf s k) = if marks1.contains s[k] then 1 else 0 := by
  unfold markN; rw [if_neg (by rw [h]; decide)]; rw [suf_cons hk]
theorem short2 {s : ByteArray} {k : Nat} (h : s.size < k + 2) : marks2.contains ((suf s k).take 2) = false := by
  rw [← Bool.not_eq_true]
  intro h2
  have hl : ((suf s k).take 2).length < 2 := by rw [List.length_take, suf_length]; omega
  simp only [marks2, List.contains_eq_mem, List.mem_cons, List.not_mem_nil, or_false, decide_eq_true_eq] at h2
  rcases h2 with h2 | h2 | h2 | h2 <;> rw [h2] at hl <;> simp at hl
theorem contains1 (c : UInt8) : marks1.contains c = (c.toNat == 61 || c.toNat == 60 || c.toNat == 62 || c.toNat == 43 || c.toNat == 45 || c.toNat == 42 || c.toNat == 47 || c.toNat == 37 || c.toNat == 40 || c.toNat == 41 || c.toNat == 44 || c.toNat == 46 || c.toNat == 59) := by
  rw [Bool.eq_iff_iff]
  simp only [marks1, List.contains_eq_mem, List.mem_cons, List.not_mem_nil, or_false, decide_eq_true_eq, Bool.or_eq_true, beq_iff_eq, ← UInt8.toNat_inj]
  constructor
  · intro h; rcases h with h | h | h | h | h | h | h | h | h | h | h | h | h <;> rw [h] <;> decide
  · rintro ((((((((((((h | h) | h) | h) | h) | h) | h) | h) | h) | h) | h) | h) | h) <;> rw [h] <;> decide

def marksL : List (List UInt8) := marks2 ++ marks1.map fun c => [c]
theorem marksL_length : marksL.length = 17 := rfl
def markS (l : List UInt8) : List UInt8 := (marksL.find? (fun m => l.take m.length == m)).getD []
theorem find_one (l : List UInt8) (x : UInt8) : ∀ L : List UInt8, ((L.map fun c => [c]).find? (fun m => (x :: l).take m.length == m)).getD [] = if L.contains x then [x] else []
  | [] => rfl
  | c :: L => by
    by_cases h : x = c
    · subst h; simp
    · have h2 : (x == c) = false := by simpa using h
      simp only [List.map_cons, List.find?_cons, List.length_cons, List.length_nil, Nat.zero_add, List.take_succ_cons, List.take_zero]
      rw [show ([x] == [c]) = false from by simpa using h]
      simp only [List.contains_cons, h2, Bool.false_or]
      exact find_one l x L
theorem markS_eq (l : List UInt8) : markS l = l.take (markN l) := by
  unfold markS marksL
  rw [List.find?_append]
  by_cases h : marks2.contains (l.take 2) = true
  · rw [show markN l = 2 from by unfold markN; rw [if_pos h]]
    simp only [marks2, List.contains_eq_mem, List.mem_cons, List.not_mem_nil, or_false, decide_eq_true_eq] at h
    rcases h with h | h | h | h <;> simp [marks2, h]
  · have h2 : marks2.find? (fun m => l.take m.length == m) = none := by
      simp only [marks2, List.contains_eq_mem, List.mem_cons, List.not_mem_nil, or_false, decide_eq_true_eq, not_or] at h
      obtain ⟨a, b, c, d⟩ := h
      simp [marks2, a, b, c, d]
    rw [h2, Option.none_or]
    cases l with
    | nil => decide
    | cons x l =>
      rw [find_one]
      unfold markN
      rw [if_neg h]
      simp only
      split <;> simp
theorem find_step {α : Type} {p : α → Bool} {L : List α} {k : Nat} {a : α} (h : L[k]? = some a) (hp : p a = false) : (L.drop k).find? p = (L.drop (k + 1)).find? p := by
  obtain ⟨h1, rfl⟩ := List.getElem?_eq_some_iff.1 h
  rw [List.drop_eq_getElem_cons h1, List.find?_cons, hp]
theorem find_hit {α : Type} {p : α → Bool} {L : List α} {k : Nat} {a : α} (h : L[k]? = some a) (hp : p a = true) : (L.drop k).find? p = some a := by
  obtain ⟨h1, rfl⟩ := List.getElem?_eq_some_iff.1 h
  rw [List.drop_eq_getElem_cons h1, List.find?_cons, hp]
theorem markN_le (l : List UInt8) : markN l ≤ l.length := by
  unfold markN
  split
  · rename_i h4
    cases l with
    | nil => simp [marks2] at h4
    | cons c r =>
      cases r with
      | nil => simp [marks2] at h4
      | cons d r => simp
  · cases l with
    | nil => simp
    | cons c r => simp only; split <;> simp
theorem scanL_end {l : List UInt8} {f a : Nat} {acc : List TA} (h : a = l.length) : scanL l (f + 1) acc a = (acc ++ [(⟨0, [], (0, 0, [])⟩, l.length)], 0, 0) := by rw [scanL, if_pos h]
theorem scanL_full {l : List UInt8} {f a : Nat} {acc : List TA} (h : a ≠ l.length) (h2 : acc.length = 4096) : scanL l (f + 1) acc a = ([], a, 3) := by rw [scanL, if_neg h, if_pos h2]
theorem scanL_bad {l : List UInt8} {f a : Nat} {acc : List TA} (h : a ≠ l.length) (h2 : acc.length ≠ 4096) (h3 : (tok (l.drop a)).1 ≠ 0) : scanL l (f + 1) acc a = ([], a, (tok (l.drop a)).1) := by
  rw [scanL, if_neg h, if_neg h2, if_neg h3]
theorem scanL_go {l : List UInt8} {f a : Nat} {acc : List TA} (h : a ≠ l.length) (h2 : acc.length ≠ 4096) (h3 : (tok (l.drop a)).1 = 0) :
    scanL l (f + 1) acc a = scanL l f (acc ++ [((tok (l.drop a)).2.1, a)]) (a + (tok (l.drop a)).2.2 + skipN false (l.drop (a + (tok (l.drop a)).2.2))) := by
  rw [scanL, if_neg h, if_neg h2, if_pos h3]
end Lx
