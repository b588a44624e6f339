/- Names: which texts are names; what the lexer makes of them. -/
import Derived.Test.YtoekddkkjbcicaaDoorLxE
set_option linter.unusedVariables false
set_option linter.unusedSimpArgs false
namespace Lx
def nmh (c : UInt8) : Bool := decide (c.toNat = 95) || decide (97 ≤ c.toNat) && decide (c.toNat ≤ 122)
def nmAt (k : Nat) (c : UInt8) : Bool := nmh c || dig c && decide (0 < k)
def nmR : Nat → List UInt8 → Bool
  | _, [] => true
  | k, c :: r => nmAt k c && nmR (k + 1) r
def nameOk (l : List UInt8) : Bool := decide (1 ≤ l.length) && decide (l.length ≤ 32) && nmR 0 (fold l)
theorem nmR_end {F : ByteArray} {k : Nat} (h : F.size ≤ k) : nmR k (suf F k) = true := by rw [suf_nil h]; rfl
theorem nmR_go {F : ByteArray} {k : Nat} (h : k < F.size) (h1 : nmAt k F[k] = true) : nmR k (suf F k) = nmR (k + 1) (suf F (k + 1)) := by rw [suf_cons h, nmR, h1, Bool.true_and]
theorem nmR_no {F : ByteArray} {k : Nat} (h : k < F.size) (h1 : nmAt k F[k] = false) : nmR k (suf F k) = false := by rw [suf_cons h, nmR, h1, Bool.false_and]
theorem nmAt_yes {k n : Nat} {c : UInt8} (hn : c.toNat = n) (h : n = 95 ∨ (97 ≤ n ∧ n ≤ 122) ∨ (48 ≤ n ∧ n ≤ 57 ∧ 0 < k)) : nmAt k c = true := by
  subst hn
  unfold nmAt nmh dig
  rcases h with h | ⟨h, h2⟩ | ⟨h, h2, h3⟩ <;> simp [*]
theorem nmAt_no {k n : Nat} {c : UInt8} (hn : c.toNat = n) (h : n ≠ 95) (h1 : ¬ (97 ≤ n ∧ n ≤ 122)) (h2 : ¬ (48 ≤ n ∧ n ≤ 57 ∧ 0 < k)) : nmAt k c = false := by
  subst hn
  unfold nmAt nmh dig
  rw [← Bool.not_eq_true]
  simp only [Bool.or_eq_true, Bool.and_eq_true, decide_eq_true_eq]
  omega
theorem lo_nm {k : Nat} {c : UInt8} (h : nmAt k (lo c) = true) : nam c = true ∧ (k = 0 → let_ c = true) := by
  unfold nmAt nmh dig at h
  simp only [Bool.or_eq_true, Bool.and_eq_true, decide_eq_true_eq] at h
  have hc : c.toNat < 256 := c.toNat_lt
  unfold nam let_ dig
  simp only [Bool.or_eq_true, Bool.and_eq_true, decide_eq_true_eq]
  unfold lo at h
  split at h
  · rename_i h1
    simp only [Bool.and_eq_true, decide_eq_true_eq] at h1
    omega
  · omega
theorem nmR_nam : ∀ (l : List UInt8) (k : Nat), nmR k (fold l) = true → (l.all nam = true ∧ (k = 0 → ∀ c, l.head? = some c → let_ c = true))
  | [], k, _ => by simp
  | c :: r, k, h => by
    simp only [fold, List.map_cons, nmR, Bool.and_eq_true] at h
    have h1 := lo_nm h.1
    have h2 := nmR_nam r (k + 1) h.2
    refine ⟨by rw [List.all_cons, h1.1, h2.1]; rfl, fun h0 d hd => ?_⟩
    simp at hd
    rw [← hd]
    exact h1.2 h0
theorem many_all {p : UInt8 → Bool} : ∀ {l : List UInt8}, l.all p = true → many p l = l.length
  | [], _ => rfl
  | c :: r, h => by
    rw [List.all_cons, Bool.and_eq_true] at h
    rw [many, if_pos h.1, many_all h.2, List.length_cons]; omega
theorem let_not {c : UInt8} (h : let_ c = true) : bl c = false ∧ (c == 45) = false ∧ (c == 39) = false := by
  unfold let_ at h
  simp only [Bool.or_eq_true, Bool.and_eq_true, decide_eq_true_eq] at h
  refine ⟨bl_not (by omega) (by omega) (by omega) (by omega), ?_, ?_⟩ <;> (rw [beq_nat]; simp; omega)
def nameTok (l : List UInt8) : T := if isW l then ⟨2, fold l, (0, 0, [])⟩ else ⟨1, l, (0, 0, [])⟩
theorem isBlob_nam {l : List UInt8} (h : l.all nam = true) : isBlob l = false := by
  unfold isBlob
  rw [← Bool.not_eq_true]
  intro h2
  rw [Bool.and_eq_true] at h2
  match l, h with
  | [], _ => simp at h2
  | [_], _ => simp at h2
  | a :: b :: r, h =>
    have h3 := h2.2
    simp at h3
    subst h3
    simp [List.all_cons] at h
    exact absurd h.2.1 (by decide)
theorem tok_name {l : List UInt8} (h : nameOk l = true) : tok l = (0, nameTok l, l.length) := by
  unfold nameOk at h
  simp only [Bool.and_eq_true, decide_eq_true_eq] at h
  obtain ⟨⟨h1, h2⟩, h3⟩ := h
  obtain ⟨ha, hb⟩ := nmR_nam l 0 h3
  match l, h1, ha, hb with
  | c :: r, h1, ha, hb =>
    have hc := hb rfl c rfl
    rw [tok]
    simp only [hc, if_true]
    rw [isBlob_nam ha, if_neg (by simp), many_all ha, nameT, List.take_length, nameTok]
    split
    · rfl
    · rw [if_neg (by omega)]
theorem skip_name {l : List UInt8} (h : nameOk l = true) : skipN false l = 0 := by
  unfold nameOk at h
  simp only [Bool.and_eq_true, decide_eq_true_eq] at h
  obtain ⟨⟨h1, h2⟩, h3⟩ := h
  obtain ⟨ha, hb⟩ := nmR_nam l 0 h3
  match l, h1, hb with
  | c :: r, h1, hb =>
    have hc := let_not (hb rfl c rfl)
    rw [skipN, hc.1, hc.2.1]; rfl
theorem scan_name {l : List UInt8} (h : nameOk l = true) : scan l = ([(nameTok l, 0), (⟨0, [], (0, 0, [])⟩, l.length)], 0, 0) := by
  have h1 := tok_name h
  have h2 := skip_name h
  have hlen : 1 ≤ l.length ∧ l.length ≤ 32 := by
    unfold nameOk at h
    simp only [Bool.and_eq_true, decide_eq_true_eq] at h
    exact h.1
  obtain ⟨n, hn⟩ : ∃ n, l.length = n + 1 := ⟨l.length - 1, by omega⟩
  rw [scan, if_neg (by omega), h2, hn, scanL, if_neg (by omega), if_neg (by simp), List.drop_zero, h1]
  simp only [if_true]
  rw [scanL, if_pos (by rw [Nat.zero_add, List.drop_length]; rfl)]
  simp [hn]
end Lx
