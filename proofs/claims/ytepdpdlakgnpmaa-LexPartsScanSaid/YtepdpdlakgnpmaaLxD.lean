/- Words, as they stand in one text between blanks. -/
import Derived.Test.YtepdpdlakgnpmaaLxC
set_option linter.unusedVariables false
set_option linter.unusedSimpArgs false
namespace Lx
def lowL (l : List UInt8) : Bool := l.all fun c => decide (97 ≤ c.toNat) && decide (c.toNat ≤ 122)
def hasW (f : List UInt8) : List UInt8 → Bool
  | [] => false
  | c :: r => (32 :: f ++ [32]).isPrefixOf (c :: r) || hasW f r
def flatW (ws : List (List UInt8)) : List UInt8 := ws.flatMap (· ++ [32])
theorem prefix_word : ∀ (f w r : List UInt8), (32 ∉ f) → (32 ∉ w) → (f ++ [32]).isPrefixOf (w ++ 32 :: r) = (f == w)
  | [], [], r, _, _ => by simp
  | [], b :: w, r, _, hw => by
    have : (32 : UInt8) ≠ b := fun e => hw (by rw [e]; simp)
    simp [List.isPrefixOf, this]
  | a :: f, [], r, hf, _ => by
    have : a ≠ (32 : UInt8) := fun e => hf (by rw [e]; simp)
    simp [List.isPrefixOf, this]
  | a :: f, b :: w, r, hf, hw => by
    have h1 := prefix_word f w r (fun h => hf (List.mem_cons_of_mem _ h)) (fun h => hw (List.mem_cons_of_mem _ h))
    simp only [List.cons_append, List.isPrefixOf, List.cons_beq_cons] at h1 ⊢
    rw [h1]
theorem hasW_skip (f : List UInt8) : ∀ (w r : List UInt8), (32 ∉ w) → hasW f (w ++ r) = hasW f r
  | [], r, _ => rfl
  | b :: w, r, hw => by
    have h0 : (32 : UInt8) ≠ b := fun e => hw (by rw [e]; simp)
    have h1 := hasW_skip f w r (fun h => hw (List.mem_cons_of_mem _ h))
    simp only [List.cons_append, hasW]
    rw [h1]
    have : (32 == b) = false := by simpa using h0
    simp [List.isPrefixOf, this]
theorem hasW_words (f : List UInt8) (hf : 32 ∉ f) : ∀ ws : List (List UInt8), (∀ w ∈ ws, 32 ∉ w) → hasW f (32 :: flatW ws) = ws.contains f
  | [], _ => by cases f <;> simp [hasW, flatW, List.isPrefixOf]
  | w :: ws, h => by
    have ih := hasW_words f hf ws (fun x hx => h x (List.mem_cons_of_mem _ hx))
    have hw := h w List.mem_cons_self
    have e : flatW (w :: ws) = w ++ (32 :: flatW ws) := by simp [flatW]
    rw [e, hasW, hasW_skip f w _ hw, ih, List.contains_cons]
    congr 1
    have := prefix_word f w (flatW ws) hf hw
    simp only [List.cons_append, List.isPrefixOf, beq_self_eq_true, Bool.true_and] at this ⊢
    exact this
def wordsB : List UInt8 := 32 :: flatW wordsL
theorem wordsB_length : wordsB.length = 270 := by decide +kernel
theorem words_no32 : ∀ w ∈ wordsL, (32 : UInt8) ∉ w := by decide
theorem words_low : ∀ w ∈ wordsL, lowL w = true ∧ w ≠ [] := by decide
theorem low_no32 {f : List UInt8} (h : lowL f = true) : 32 ∉ f := by
  intro h2
  unfold lowL at h
  rw [List.all_eq_true] at h
  have := h _ h2
  simp at this
theorem isW_of {l : List UInt8} (h : lowL (fold l) = true) : hasW (fold l) wordsB = isW l := hasW_words _ (low_no32 h) _ words_no32
theorem isW_low {l : List UInt8} (h : lowL (fold l) = false) : isW l = false := by
  rw [← Bool.not_eq_true]
  intro h2
  unfold isW at h2
  rw [List.contains_eq_mem, decide_eq_true_eq] at h2
  rw [(words_low _ h2).1] at h
  cases h
theorem isW_nil {l : List UInt8} (h : l = []) : isW l = false := by subst h; decide
/-- What the search asks at one place. -/
def atW (W f : List UInt8) (k : Nat) : Bool := W[k]? == some 32 && ((W.drop (k + 1)).take f.length == f && W[k + 1 + f.length]? == some 32)
theorem prefix_take (f : List UInt8) : ∀ r : List UInt8, (f ++ [32]).isPrefixOf r = (r.take f.length == f && r[f.length]? == some 32) := by
  induction f with
  | nil =>
    intro r
    cases r with
    | nil => simp [List.isPrefixOf]
    | cons b r =>
      simp only [List.nil_append, List.isPrefixOf, Bool.and_true, List.length_nil, List.take_zero, beq_self_eq_true, Bool.true_and, List.getElem?_cons_zero]
      rw [Bool.eq_iff_iff]; simp only [beq_iff_eq, Option.some.injEq]; exact eq_comm
  | cons a f ih =>
    intro r
    cases r with
    | nil => simp [List.isPrefixOf]
    | cons b r =>
      simp only [List.cons_append, List.isPrefixOf, ih, List.length_cons, List.take_succ_cons, List.getElem?_cons_succ, List.cons_beq_cons]
      rw [← Bool.and_assoc]
      congr 2
      rw [Bool.eq_iff_iff]; simp only [beq_iff_eq, Option.some.injEq]; exact eq_comm
theorem hasW_at (W f : List UInt8) {k : Nat} (h : k < W.length) : hasW f (W.drop k) = (atW W f k || hasW f (W.drop (k + 1))) := by
  rw [List.drop_eq_getElem_cons h, hasW]
  congr 1
  unfold atW
  have h2 := prefix_take f (W.drop (k + 1))
  simp only [List.cons_append, List.isPrefixOf, h2, List.getElem?_drop, List.getElem?_eq_getElem h]
  congr 1
  rw [Bool.eq_iff_iff]; simp only [beq_iff_eq, Option.some.injEq]; exact eq_comm
theorem hasW_far (f : List UInt8) : ∀ r : List UInt8, r.length < f.length + 2 → hasW f r = false
  | [], _ => rfl
  | c :: r, h => by
    rw [hasW, hasW_far f r (by simp at h; omega), Bool.or_false, ← Bool.not_eq_true]
    intro h2
    have h3 := (List.isPrefixOf_iff_prefix.1 h2).length_le
    simp at h3 h
    omega
theorem atW_yes {W F : ByteArray} {q : Nat} (h : q + F.size + 2 ≤ W.size) (h1 : W[q].toNat = 32) (h2 : (W.extract (q + 1) (q + 1 + F.size)).toList = F.toList) (h3 : W[q + 1 + F.size].toNat = 32) : atW (ls W) (ls F) q = true := by
  rw [toList_ls, toList_ls, ls_extract, Nat.add_sub_cancel_left] at h2
  unfold atW
  rw [ls_get (by omega), ls_length, h2, ls_get (by omega), u8_of (n := 32) (by omega) h1, u8_of (n := 32) (by omega) h3]
  simp
theorem atW_no {W F : ByteArray} {q : Nat} (h : q + F.size + 2 ≤ W.size) (h1 : W[q].toNat ≠ 32 ∨ (W.extract (q + 1) (q + 1 + F.size)).toList ≠ F.toList ∨ W[q + 1 + F.size].toNat ≠ 32) : atW (ls W) (ls F) q = false := by
  rw [toList_ls, toList_ls, ls_extract, Nat.add_sub_cancel_left] at h1
  rw [← Bool.not_eq_true]
  intro h2
  unfold atW at h2
  rw [ls_get (by omega), ls_length, ls_get (by omega)] at h2
  simp only [Bool.and_eq_true, beq_iff_eq, Option.some.injEq] at h2
  obtain ⟨a, b, c⟩ := h2
  rcases h1 with h1 | h1 | h1
  · exact h1 (by rw [a]; rfl)
  · exact h1 b
  · exact h1 (by rw [c]; rfl)
theorem lowL_iff {F : ByteArray} : lowL (ls F) = true ↔ ∀ j (h : j < F.size), 97 ≤ F[j].toNat ∧ F[j].toNat ≤ 122 := by
  unfold lowL
  rw [List.all_eq_true]
  constructor
  · intro h j hj
    have := h _ (List.mem_of_getElem? (ls_get hj))
    simpa using this
  · intro h c hc
    obtain ⟨i, hi, rfl⟩ := List.getElem_of_mem hc
    have h2 : i < F.size := by rw [ls_length] at hi; exact hi
    have := h i h2
    show (decide (97 ≤ F[i].toNat) && decide (F[i].toNat ≤ 122)) = true
    simpa using this
end Lx
