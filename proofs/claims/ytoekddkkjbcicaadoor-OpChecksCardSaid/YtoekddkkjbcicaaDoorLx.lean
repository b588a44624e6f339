/- Plain functions on bytes: what the lexer of both texts computes. -/
import Derived.Lib.Strings
import Derived.Laws.Concat
set_option linter.unusedVariables false
set_option linter.unusedSimpArgs false
namespace Lx

/-- The bytes of s from k on. -/
def suf (s : ByteArray) (k : Nat) : List UInt8 := s.data.toList.drop k

theorem suf_cons {s : ByteArray} {k : Nat} (h : k < s.size) : suf s k = s[k] :: suf s (k + 1) := by
  unfold suf
  rw [List.drop_eq_getElem_cons (by simpa using h)]
  rfl

theorem suf_nil {s : ByteArray} {k : Nat} (h : s.size ≤ k) : suf s k = [] := by
  unfold suf
  exact List.drop_eq_nil_of_le (by simpa using h)

theorem suf_length (s : ByteArray) (k : Nat) : (suf s k).length = s.size - k := by
  unfold suf; rw [List.length_drop]; rfl

def bl (c : UInt8) : Bool := c == 32 || c == 9 || c == 10 || c == 13

/-- How many bytes are skipped: blanks and comments ('com': within a comment). -/
def skipN : Bool → List UInt8 → Nat
  | _, [] => 0
  | true, c :: r => 1 + skipN (c != 10) r
  | false, c :: r => if bl c then 1 + skipN false r else if c == 45 && r.head? == some 45 then 1 + skipN true r else 0

theorem skipN_le (b : Bool) (l : List UInt8) : skipN b l ≤ l.length := by
  induction l generalizing b with
  | nil => cases b <;> simp [skipN]
  | cons c r ih =>
    cases b
    · unfold skipN
      have h1 := ih false
      have h2 := ih true
      split
      · simp only [List.length_cons]; omega
      · split
        · simp only [List.length_cons]; omega
        · simp only [List.length_cons]; omega
    · unfold skipN
      have h1 := ih (c != 10)
      simp only [List.length_cons]; omega


theorem u8_of {c : UInt8} {n : Nat} (hn : n < 256) (h : c.toNat = n) : c = UInt8.ofNat n := by
  apply UInt8.toNat_inj.1; rw [h]; simp; omega

theorem bl_of {c : UInt8} (h : c.toNat = 32 ∨ c.toNat = 9 ∨ c.toNat = 10 ∨ c.toNat = 13) : bl c = true := by
  rcases h with h | h | h | h <;> (rw [u8_of (by omega) h]; rfl)

theorem beq_nat (c d : UInt8) : (c == d) = decide (c.toNat = d.toNat) := by
  rw [Bool.eq_iff_iff]; simp [UInt8.toNat_inj]

theorem bl_not {c : UInt8} (h : c.toNat ≠ 32) (h2 : c.toNat ≠ 9) (h3 : c.toNat ≠ 10) (h4 : c.toNat ≠ 13) : bl c = false := by
  simp [bl, beq_nat, h, h2, h3, h4]

theorem skip_blank {s : ByteArray} {k : Nat} (h : k < s.size)
    (hb : s[k].toNat = 32 ∨ s[k].toNat = 9 ∨ s[k].toNat = 10 ∨ s[k].toNat = 13) :
    k + skipN false (suf s k) = k + 1 + skipN false (suf s (k + 1)) := by
  rw [suf_cons h]; simp [skipN, bl_of hb]; omega

theorem skip_com {s : ByteArray} {k : Nat} (h : k + 1 < s.size) (h1 : s[k].toNat = 45) (h2 : s[k + 1].toNat = 45) :
    k + skipN false (suf s k) = k + skipN true (suf s k) := by
  have hs2 := suf_cons (k := k + 1) h
  rw [suf_cons (k := k) (by omega)]
  have e1 : s[k] = 45 := u8_of (n := 45) (by omega) h1
  have e2 : s[k + 1] = 45 := u8_of (n := 45) (by omega) h2
  simp [skipN, bl, e1, hs2, e2]

theorem skip_stop {s : ByteArray} {k : Nat} (h : k < s.size) (h1 : s[k].toNat ≠ 32) (h2 : s[k].toNat ≠ 9) (h3 : s[k].toNat ≠ 10) (h4 : s[k].toNat ≠ 13)
    (h5 : s[k].toNat = 45 → ∀ h : k + 1 < s.size, s[k + 1].toNat ≠ 45) : k + skipN false (suf s k) = k := by
  rw [suf_cons h]
  have hb := bl_not h1 h2 h3 h4
  have : (s[k] == 45 && (suf s (k + 1)).head? == some 45) = false := by
    by_cases e : s[k].toNat = 45
    · by_cases h' : k + 1 < s.size
      · have := h5 e h'
        rw [suf_cons h']
        simp [← UInt8.toNat_inj, this]
      · rw [suf_nil (by omega)]; simp
    · simp [beq_nat, e]
  simp [skipN, hb, this]

theorem skip_end {b : Bool} {s : ByteArray} {k : Nat} (h : s.size ≤ k) : k + skipN b (suf s k) = k := by
  rw [suf_nil h]; cases b <;> simp [skipN]

theorem skip_in {s : ByteArray} {k : Nat} (h : k < s.size) (h1 : s[k].toNat ≠ 10) :
    k + skipN true (suf s k) = k + 1 + skipN true (suf s (k + 1)) := by
  rw [suf_cons h]
  have : (s[k] != 10) = true := by simp [← UInt8.toNat_inj, h1]
  simp [skipN, this]; omega

theorem skip_out {s : ByteArray} {k : Nat} (h : k < s.size) (h1 : s[k].toNat = 10) :
    k + skipN true (suf s k) = k + skipN false (suf s k) := by
  rw [suf_cons h]
  have : s[k] = 10 := u8_of (n := 10) (by omega) h1
  simp [skipN, this, bl]


def dig (c : UInt8) : Bool := decide (48 ≤ c.toNat) && decide (c.toNat ≤ 57)
def let_ (c : UInt8) : Bool := decide (65 ≤ c.toNat) && decide (c.toNat ≤ 90) || decide (97 ≤ c.toNat) && decide (c.toNat ≤ 122) || decide (c.toNat = 95)
def nam (c : UInt8) : Bool := let_ c || dig c

/-- How many bytes stand at the front that belong to it. -/
def many (p : UInt8 → Bool) : List UInt8 → Nat
  | [] => 0
  | c :: r => if p c then 1 + many p r else 0

theorem many_le (p : UInt8 → Bool) (l : List UInt8) : many p l ≤ l.length := by
  induction l with
  | nil => simp [many]
  | cons c r ih =>
    unfold many
    split
    · simp only [List.length_cons]; omega
    · omega

theorem many_go {p : UInt8 → Bool} {s : ByteArray} {k : Nat} (h : k < s.size) (hp : p s[k] = true) : k + many p (suf s k) = k + 1 + many p (suf s (k + 1)) := by
  rw [suf_cons h]; simp [many, hp]; omega
theorem many_stop {p : UInt8 → Bool} {s : ByteArray} {k : Nat} (h : k < s.size) (hp : p s[k] = false) : k + many p (suf s k) = k := by
  rw [suf_cons h]; simp [many, hp]
theorem many_end {p : UInt8 → Bool} {s : ByteArray} {k : Nat} (h : s.size ≤ k) : k + many p (suf s k) = k := by
  rw [suf_nil h]; simp [many]


/-- A text of bytes. -/
def bs (l : List UInt8) : ByteArray := ⟨l.toArray⟩
def ls (s : ByteArray) : List UInt8 := s.data.toList
theorem bs_ls (s : ByteArray) : bs (ls s) = s := by cases s; rfl
theorem ls_bs (l : List UInt8) : ls (bs l) = l := by simp [ls, bs]
theorem ls_length (s : ByteArray) : (ls s).length = s.size := rfl
theorem bs_size (l : List UInt8) : (bs l).size = l.length := by simp [bs, ByteArray.size]

def lo (c : UInt8) : UInt8 := if decide (65 ≤ c.toNat) && decide (c.toNat ≤ 90) then UInt8.ofNat (c.toNat + 32) else c
def fold (l : List UInt8) : List UInt8 := l.map lo
theorem fold_length (l : List UInt8) : (fold l).length = l.length := by simp [fold]


theorem bs_toList (l : List UInt8) : (bs l).toList = l := by
  rw [show (bs l).toList = (bs l).data.toList from Go.ByteArray.toList_eq _]; exact ls_bs l
theorem toList_ls (s : ByteArray) : s.toList = ls s := Go.ByteArray.toList_eq s
theorem bs_inj {l m : List UInt8} (h : bs l = bs m) : l = m := by rw [← ls_bs l, h, ls_bs]
theorem ls_inj {s t : ByteArray} (h : ls s = ls t) : s = t := by rw [← bs_ls s, h, bs_ls]
theorem ls_extract (s : ByteArray) (a b : Nat) : ls (s.extract a b) = ((ls s).drop a).take (b - a) := Go.Lib.extract_data s a b
theorem extract_bs (s : ByteArray) (a b : Nat) : s.extract a b = bs (((ls s).drop a).take (b - a)) := by rw [← ls_extract, bs_ls]
theorem extract_end (s : ByteArray) (a : Nat) : s.extract a s.size = bs ((ls s).drop a) := by
  rw [extract_bs, List.take_of_length_le]; rw [List.length_drop, ls_length]; exact Nat.le_refl _
theorem extract_size (s : ByteArray) (a b : Nat) (h : b ≤ s.size) : (s.extract a b).size = b - a := by
  rw [← ls_length, ls_extract, List.length_take, List.length_drop, ls_length]; omega
theorem suf_eq (s : ByteArray) (k : Nat) : suf s k = (ls s).drop k := rfl
theorem suf_zero (s : ByteArray) : suf s 0 = ls s := rfl
theorem ls_nil {s : ByteArray} (h : s.size = 0) : ls s = [] := List.eq_nil_of_length_eq_zero (by rw [ls_length]; exact h)
theorem ls_cons {s : ByteArray} (h : 0 < s.size) : ls s = s[0] :: suf s 1 := by rw [← suf_zero, suf_cons h]
theorem ls_get {s : ByteArray} {k : Nat} (h : k < s.size) : (ls s)[k]? = some s[k] := by
  rw [List.getElem?_eq_getElem (by rw [ls_length]; exact h)]; rfl

/-- Digits of a number, without a nought ahead. -/
def digsOk (l : List UInt8) : Bool := !l.isEmpty && !(decide (1 < l.length) && l.head? == some 48) && l.all dig
def dec (l : List UInt8) : Nat := l.foldl (fun n c => 10 * n + (c.toNat - 48)) 0
def most : Nat := 9223372036854775807
def read (l : List UInt8) : Int × Int :=
  let neg := l.head? == some 45
  let d := if neg then l.tail else l
  if !digsOk d || (neg && d == [48]) then (0, 8)
  else if neg then (if most + 1 < dec d then (0, 9) else (-(dec d : Int), 0))
  else (if most < dec d then (0, 9) else ((dec d : Int), 0))

def inside (l : List UInt8) : List UInt8 × Bool :=
  if decide (2 ≤ l.length) && l.take 1 == [39] && l.drop (l.length - 1) == [39] then ((l.drop 1).take (l.length - 2), true) else ([], false)

def single : List UInt8 → Option (List UInt8)
  | [] => some []
  | [c] => if c == 39 then none else some [c]
  | c :: d :: r => if c == 39 then (if d == 39 then (single r).map (39 :: ·) else none) else (single (d :: r)).map (c :: ·)

def nib (c : UInt8) : Option Nat :=
  if decide (48 ≤ c.toNat) && decide (c.toNat ≤ 57) then some (c.toNat - 48)
  else if decide (97 ≤ c.toNat) && decide (c.toNat ≤ 102) then some (c.toNat - 87)
  else if decide (65 ≤ c.toNat) && decide (c.toNat ≤ 70) then some (c.toNat - 55)
  else none

def unhexL : List UInt8 → Option (List UInt8)
  | [] => some []
  | [_] => none
  | a :: b :: r => match nib a, nib b with
    | some x, some y => (unhexL r).map (UInt8.ofNat (16 * x + y) :: ·)
    | _, _ => none

def mkV (kind : Int) (r : Option (List UInt8)) : (Int × Int × List UInt8) × Int :=
  match r with
  | none => ((0, 0, []), 8)
  | some t => if 4096 < t.length then ((0, 0, []), 3) else ((kind, 0, t), 0)

def unquote (l : List UInt8) : (Int × Int × List UInt8) × Int :=
  if fold l == [110, 117, 108, 108] then ((0, 0, []), 0)
  else if (inside l).2 then mkV 2 (single (inside l).1)
  else if !l.isEmpty && fold (l.take 1) == [120] then mkV 3 (if (inside l.tail).2 then unhexL (inside l.tail).1 else none)
  else if (read l).2 ≠ 0 then ((0, 0, []), (read l).2) else ((1, (read l).1, []), 0)

theorem nib_lt {c : UInt8} {n : Nat} (h : nib c = some n) : n < 16 := by
  unfold nib at h
  split at h
  · rename_i h1; simp at h1 h; omega
  · split at h
    · rename_i h1; simp at h1 h; omega
    · split at h
      · rename_i h1; simp at h1 h; omega
      · cases h

theorem single_le (l : List UInt8) : ∀ r, single l = some r → r.length ≤ l.length := by
  fun_induction single l with
  | case1 => intro r h; cases h; simp
  | case2 => intro r h; cases h
  | case3 => intro r h; cases h; simp
  | case4 c d r h1 h2 ih =>
    intro r' h
    cases e : single r with
    | none => simp [e] at h
    | some q => simp [e] at h; subst h; have := ih q e; simp; omega
  | case5 => intro r h; cases h
  | case6 c d r h1 ih =>
    intro r' h
    cases e : single (d :: r) with
    | none => simp [e] at h
    | some q => simp [e] at h; subst h; have := ih q e; simp at this ⊢; omega


def cutp (l : List UInt8) : List UInt8 × Bool := if l.take 1 == [45] then (l.tail, true) else (l, false)
theorem read_cut (l : List UInt8) : read l = if !digsOk (cutp l).1 || ((cutp l).2 && (cutp l).1 == [48]) then (0, 8)
    else if (cutp l).2 then (if most + 1 < dec (cutp l).1 then (0, 9) else (-(dec (cutp l).1 : Int), 0))
    else (if most < dec (cutp l).1 then (0, 9) else ((dec (cutp l).1 : Int), 0)) := by
  have h : (l.head? == some 45) = (l.take 1 == [45]) := by
    cases l with
    | nil => rfl
    | cons a l => simp
  unfold read cutp
  rw [h]
  cases l.take 1 == [45] <;> rfl

theorem take_one (s : ByteArray) : (s.extract 0 1).toList = (ls s).take 1 := by rw [toList_ls, ls_extract]; rfl
theorem drop_last (s : ByteArray) : (s.extract (s.size - 1) s.size).toList = (ls s).drop (s.size - 1) := by rw [toList_ls, extract_end, ls_bs]
theorem bs_nil : bs [] = ⟨#[]⟩ := rfl
theorem mid (s : ByteArray) : s.extract 1 (s.size - 1) = bs (((ls s).drop 1).take (s.size - 2)) := by rw [extract_bs]; rfl

theorem inside_yes {s : ByteArray} (h : 2 ≤ s.size) (h1 : (ls s).take 1 = [39]) (h2 : (ls s).drop (s.size - 1) = [39]) :
    inside (ls s) = (((ls s).drop 1).take (s.size - 2), true) := by
  unfold inside
  rw [ls_length, h1, h2]
  simp [h]
theorem inside_no {s : ByteArray} (h : s.size < 2 ∨ (ls s).take 1 ≠ [39] ∨ (ls s).drop (s.size - 1) ≠ [39]) : inside (ls s) = ([], false) := by
  unfold inside
  rw [ls_length, if_neg]
  simp only [Bool.and_eq_true, decide_eq_true_eq, beq_iff_eq]
  rintro ⟨⟨a, b⟩, c⟩
  rcases h with h | h | h
  · omega
  · exact h b
  · exact h c


theorem digs_good {s : ByteArray} (h : 0 < s.size) (h2 : s.size = 1 ∨ s[0].toNat ≠ 48) : digsOk (ls s) = (suf s 0).all dig := by
  rw [suf_zero]
  unfold digsOk
  rw [ls_length]
  have h3 : (ls s).isEmpty = false := by rw [ls_cons h]; rfl
  have h4 : (decide (1 < s.size) && (ls s).head? == some 48) = false := by
    rcases h2 with h2 | h2
    · simp [h2]
    · rw [ls_cons h]
      have : s[0] ≠ 48 := fun e => h2 (by rw [e]; rfl)
      simp [this]
  rw [h3, h4]
  rfl
theorem digs_zero {s : ByteArray} (h : 1 < s.size) (h2 : s[0].toNat = 48) : digsOk (ls s) = false := by
  have h2' : s[0] = 48 := u8_of (n := 48) (by omega) h2
  have h4 : (decide (1 < s.size) && (ls s).head? == some 48) = true := by
    rw [ls_cons (by omega), h2']; simp [h]
  unfold digsOk
  rw [ls_length, h4]
  simp
theorem all_go {s : ByteArray} {k : Nat} {p : UInt8 → Bool} (h : k < s.size) (hp : p s[k] = true) : (suf s k).all p = (suf s (k + 1)).all p := by
  rw [suf_cons h]; simp [hp]
theorem all_stop {s : ByteArray} {k : Nat} {p : UInt8 → Bool} (h : k < s.size) (hp : p s[k] = false) : (suf s k).all p = false := by
  rw [suf_cons h]; simp [hp]
theorem all_end {s : ByteArray} {k : Nat} {p : UInt8 → Bool} (h : s.size ≤ k) : (suf s k).all p = true := by
  rw [suf_nil h]; rfl
theorem dig_iff {c : UInt8} : dig c = true ↔ 48 ≤ c.toNat ∧ c.toNat ≤ 57 := by simp [dig]
theorem dig_not {c : UInt8} : dig c = false ↔ c.toNat < 48 ∨ 57 < c.toNat := by
  rw [← Bool.not_eq_true, dig_iff]; omega


theorem dec_snoc (l : List UInt8) (c : UInt8) : dec (l ++ [c]) = 10 * dec l + (c.toNat - 48) := by simp [dec]
theorem dec_more (l m : List UInt8) : dec l ≤ dec (l ++ m) := by
  induction m generalizing l with
  | nil => simp
  | cons c m ih =>
    have := ih (l ++ [c])
    rw [dec_snoc] at this
    rw [List.append_assoc] at this
    simp only [List.singleton_append] at this
    omega
theorem dec_take_le (l : List UInt8) (k : Nat) : dec (l.take k) ≤ dec l := by
  have := dec_more (l.take k) (l.drop k)
  rwa [List.take_append_drop] at this
theorem dec_take_succ {s : ByteArray} {k : Nat} (h : k < s.size) : dec ((ls s).take (k + 1)) = 10 * dec ((ls s).take k) + (s[k].toNat - 48) := by
  rw [List.take_add_one, ls_get h]
  exact dec_snoc _ _
theorem digsOk_all {s : ByteArray} (h : digsOk (ls s) = true) {k : Nat} (hk : k < s.size) : 48 ≤ s[k].toNat ∧ s[k].toNat ≤ 57 := by
  unfold digsOk at h
  simp only [Bool.and_eq_true, List.all_eq_true] at h
  exact dig_iff.1 (h.2 _ (List.mem_of_getElem? (ls_get hk)))
/-- What a number's text comes to: its digits, and whether '-' stood ahead. -/
def readD (d : List UInt8) (neg : Bool) : Int × Int :=
  if !digsOk d || (neg && d == [48]) then (0, 8)
  else if neg then (if most + 1 < dec d then (0, 9) else (-(dec d : Int), 0))
  else (if most < dec d then (0, 9) else ((dec d : Int), 0))
theorem read_eq (l : List UInt8) : read l = readD (cutp l).1 (cutp l).2 := read_cut l


theorem readD_over {d : ByteArray} {k : Nat} {neg : Bool} (hok : digsOk (ls d) = true) (hz : neg = false ∨ ls d ≠ [48]) (hk : k ≤ d.size) (h : (if neg then most + 1 else most) < dec ((ls d).take k)) :
    readD (ls d) neg = (0, 9) := by
  have h2 := dec_take_le (ls d) k
  unfold readD
  rw [hok]
  cases neg
  · simp at h ⊢
    omega
  · have : (ls d == [48]) = false := by rcases hz with hz | hz <;> simp_all
    rw [this]
    simp at h ⊢
    omega
theorem readD_fits {d : ByteArray} {neg : Bool} (hok : digsOk (ls d) = true) (hz : neg = false ∨ ls d ≠ [48]) (h : dec (ls d) ≤ (if neg then most + 1 else most)) :
    readD (ls d) neg = (if neg then -(dec (ls d) : Int) else (dec (ls d) : Int), 0) := by
  unfold readD
  rw [hok]
  cases neg
  · simp at h ⊢
    omega
  · have : (ls d == [48]) = false := by rcases hz with hz | hz <;> simp_all
    rw [this]
    simp at h ⊢
    omega
theorem most_eq : most = 9223372036854775807 := rfl
theorem take_all (d : ByteArray) : (ls d).take d.size = ls d := List.take_of_length_le (Nat.le_of_eq (ls_length d))


theorem cutp_le (l : List UInt8) : (cutp l).1.length ≤ l.length := by
  unfold cutp
  split
  · simp
  · simp


/-- What stands ahead, and what becomes of the rest. -/
def onto (acc : List UInt8) (r : Option (List UInt8)) : Option (List UInt8) := r.map (acc ++ ·)
theorem onto_nil (r : Option (List UInt8)) : onto [] r = r := by cases r <;> rfl
theorem onto_map (acc : List UInt8) (c : UInt8) (r : Option (List UInt8)) : onto acc (r.map (c :: ·)) = onto (acc ++ [c]) r := by
  cases r <;> simp [onto]
theorem single_plain {s : ByteArray} {k : Nat} (h : k < s.size) (h1 : s[k].toNat ≠ 39) (acc : List UInt8) :
    onto acc (single (suf s k)) = onto (acc ++ [s[k]]) (single (suf s (k + 1))) := by
  have h2 : (s[k] == 39) = false := by simp [beq_nat, h1]
  rw [suf_cons h, ← onto_map]
  cases e : suf s (k + 1) with
  | nil => simp [single, h2]
  | cons d r => simp [single, h2]
theorem single_pair {s : ByteArray} {k : Nat} (h : k + 1 < s.size) (h1 : s[k].toNat = 39) (h2 : s[k + 1].toNat = 39) (acc : List UInt8) :
    onto acc (single (suf s k)) = onto (acc ++ [s[k + 1]]) (single (suf s (k + 2))) := by
  have e1 : s[k] = 39 := u8_of (n := 39) (by omega) h1
  have e2 : s[k + 1] = 39 := u8_of (n := 39) (by omega) h2
  rw [suf_cons (k := k) (by omega), suf_cons (k := k + 1) h, ← onto_map, e1, e2, single]
  rfl
theorem single_bad {s : ByteArray} {k : Nat} (h : k < s.size) (h1 : s[k].toNat = 39) (h2 : ∀ h : k + 1 < s.size, s[k + 1].toNat ≠ 39) (acc : List UInt8) :
    onto acc (single (suf s k)) = none := by
  have e1 : s[k] = 39 := u8_of (n := 39) (by omega) h1
  rw [suf_cons h, e1]
  by_cases h3 : k + 1 < s.size
  · have h4 : (s[k + 1] == 39) = false := by have := h2 h3; simp [beq_nat, this]
    rw [suf_cons h3, single, h4]; rfl
  · rw [suf_nil (by omega), single]; rfl
theorem single_end {s : ByteArray} {k : Nat} (h : s.size ≤ k) (acc : List UInt8) : onto acc (single (suf s k)) = some acc := by
  rw [suf_nil h, single]; simp [onto]

theorem unhex_end {s : ByteArray} {k : Nat} (h : s.size ≤ k) (acc : List UInt8) : onto acc (unhexL (suf s k)) = some acc := by
  rw [suf_nil h, unhexL]; simp [onto]
theorem unhex_go {s : ByteArray} {k x y : Nat} (h : k + 1 < s.size) (hx : nib s[k] = some x) (hy : nib s[k + 1] = some y) (acc : List UInt8) :
    onto acc (unhexL (suf s k)) = onto (acc ++ [UInt8.ofNat (16 * x + y)]) (unhexL (suf s (k + 2))) := by
  rw [suf_cons (k := k) (by omega), suf_cons (k := k + 1) h, ← onto_map, unhexL, hx, hy]
theorem unhex_bad {s : ByteArray} {k : Nat} (h : k + 1 < s.size) (hn : nib s[k] = none ∨ nib s[k + 1] = none) (acc : List UInt8) :
    onto acc (unhexL (suf s k)) = none := by
  rw [suf_cons (k := k) (by omega), suf_cons (k := k + 1) h, unhexL]
  rcases hn with hn | hn
  · rw [hn]; cases nib s[k + 1] <;> rfl
  · rw [hn]; cases nib s[k] <;> rfl
theorem unhex_odd (l : List UInt8) (h : l.length % 2 = 1) : unhexL l = none := by
  fun_induction unhexL l with
  | case1 => simp at h
  | case2 => rfl
  | case3 a b r x y hx hy ih => simp at h; rw [ih (by omega)]; rfl
  | case4 => rfl


theorem inside_le (l : List UInt8) : (inside l).1.length ≤ l.length := by
  unfold inside
  split
  · simp only [List.length_take, List.length_drop]; omega
  · simp

end Lx
