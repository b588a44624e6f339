/- More plain functions. -/
import Derived.Test.YtoekddkkjbcicaaDoorLx
import GoSem.Op.String
set_option linter.unusedVariables false
set_option linter.unusedSimpArgs false
namespace Lx
theorem bs_append (l m : List UInt8) : bs l ++ bs m = bs (l ++ m) := Go.ByteArray.mk_append_mk l m
theorem fold_snoc {s : ByteArray} {k : Nat} (h : k < s.size) : fold ((ls s).take (k + 1)) = fold ((ls s).take k) ++ [lo s[k]] := by
  rw [List.take_add_one, ls_get h]; simp [fold]
theorem lo_up {c : UInt8} (h : 65 ≤ c.toNat) (h2 : c.toNat ≤ 90) : ((lo c).toNat : Int) = (c.toNat : Int) + 32 := by
  simp [lo, h, h2]; omega
theorem lo_id {c : UInt8} (h : c.toNat < 65 ∨ 90 < c.toNat) : lo c = c := by
  simp [lo]; omega

theorem foldl_dec (l : List UInt8) : ∀ n : Nat, l.foldl (fun n c => 10 * n + (c.toNat - 48)) n = n * 10 ^ l.length + dec l := by
  induction l with
  | nil => intro n; simp [dec]
  | cons c l ih =>
    intro n
    have h0 : dec (c :: l) = (10 * 0 + (c.toNat - 48)) * 10 ^ l.length + dec l := by
      show List.foldl _ _ _ = _
      rw [List.foldl_cons, ih]
    rw [List.foldl_cons, ih, h0, List.length_cons, Nat.pow_succ, Nat.add_mul]
    have : 10 * n * 10 ^ l.length = n * (10 ^ l.length * 10) := by rw [Nat.mul_comm 10 n, Nat.mul_assoc, Nat.mul_comm 10]
    simp only [Nat.mul_zero, Nat.zero_add]
    omega
theorem dec_cons (c : UInt8) (l : List UInt8) : dec (c :: l) = (c.toNat - 48) * 10 ^ l.length + dec l := by
  unfold dec
  rw [List.foldl_cons, foldl_dec]
  simp [dec]
theorem dec_lt (l : List UInt8) (h : l.all dig = true) : dec l < 10 ^ l.length := by
  induction l with
  | nil => simp [dec]
  | cons c l ih =>
    rw [List.all_cons, Bool.and_eq_true] at h
    have h1 := dig_iff.1 h.1
    have h2 := ih h.2
    rw [dec_cons, List.length_cons, Nat.pow_succ]
    have : (c.toNat - 48) * 10 ^ l.length ≤ 9 * 10 ^ l.length := Nat.mul_le_mul_right _ (by omega)
    omega
theorem less_dec : ∀ (x y : List UInt8), x.length = y.length → x.all dig = true → y.all dig = true → (Go.Op.bytesLess x y || x == y) = decide (dec x ≤ dec y)
  | [], [], _, _, _ => by simp [Go.Op.bytesLess]
  | a :: x, b :: y, hl, hx, hy => by
    rw [List.all_cons, Bool.and_eq_true] at hx hy
    have ha := dig_iff.1 hx.1
    have hb := dig_iff.1 hy.1
    have hl' : x.length = y.length := by simpa using hl
    have ih := less_dec x y hl' hx.2 hy.2
    have h1 := dec_lt x hx.2
    have h2 := dec_lt y hy.2
    rw [dec_cons, dec_cons, hl'] at *
    have hcmp : (a < b) = (a.toNat < b.toNat) := rfl
    rcases Nat.lt_trichotomy a.toNat b.toNat with h | h | h
    · have h3 : (a.toNat - 48 + 1) * 10 ^ y.length ≤ (b.toNat - 48) * 10 ^ y.length := Nat.mul_le_mul_right _ (by omega)
      rw [Nat.add_mul, Nat.one_mul] at h3
      have : a < b := h
      simp only [Go.Op.bytesLess, this, decide_true, Bool.true_or]
      symm
      simp only [decide_eq_true_eq]
      omega
    · have e : a = b := UInt8.toNat_inj.1 h
      subst e
      have h3 : ¬ a < a := by rw [UInt8.lt_iff_toNat_lt]; omega
      simp only [Go.Op.bytesLess, h3, decide_false, Bool.false_or, beq_self_eq_true, Bool.true_and, List.cons_beq_cons]
      rw [ih]
      congr 1
      rw [eq_iff_iff]
      omega
    · have h3 : (b.toNat - 48 + 1) * 10 ^ y.length ≤ (a.toNat - 48) * 10 ^ y.length := Nat.mul_le_mul_right _ (by omega)
      rw [Nat.add_mul, Nat.one_mul] at h3
      have h4 : ¬ a < b := by rw [UInt8.lt_iff_toNat_lt]; omega
      have h5 : (a == b) = false := by rw [beq_nat]; simp; omega
      simp only [Go.Op.bytesLess, h4, decide_false, h5, Bool.false_and, Bool.or_false, List.cons_beq_cons]
      symm
      simp only [decide_eq_false_iff_not]
      omega

def digits19 : List UInt8 := [57, 50, 50, 51, 51, 55, 50, 48, 51, 54, 56, 53, 52, 55, 55, 53, 56, 48, 55]
def digits19n : List UInt8 := [57, 50, 50, 51, 51, 55, 50, 48, 51, 54, 56, 53, 52, 55, 55, 53, 56, 48, 56]
/-- A number's digits are too many, or too great: as texts. -/
theorem over_iff {l m : List UInt8} (hok : digsOk l = true) (hm : m.length = 19) (hma : m.all dig = true) (hl : l.length = 19) :
    (!(Go.Op.bytesLess l m || l == m)) = decide (dec m < dec l) := by
  have ha : l.all dig = true := by unfold digsOk at hok; simp only [Bool.and_eq_true] at hok; exact hok.2
  rw [less_dec l m (by omega) ha hma]
  rw [Bool.eq_iff_iff]; simp
theorem long_over {l : List UInt8} (hok : digsOk l = true) (hl : 19 < l.length) : 10 ^ 19 ≤ dec l := by
  cases l with
  | nil => simp at hl
  | cons c l =>
    unfold digsOk at hok
    simp only [Bool.and_eq_true, List.all_cons, List.length_cons, List.head?_cons] at hok
    simp only [List.length_cons] at hl
    have h1 := dig_iff.1 hok.2.1
    have h2 : c.toNat ≠ 48 := by
      intro e
      have : c = 48 := u8_of (n := 48) (by omega) e
      have hl' : 1 < l.length + 1 := by omega
      simp [this, hl'] at hok
      first | (exact absurd hok.1 (by intro h; subst h; simp at hl)) | skip
    rw [dec_cons]
    have h3 : 1 * 10 ^ 19 ≤ (c.toNat - 48) * 10 ^ l.length := Nat.mul_le_mul (by omega) (Nat.pow_le_pow_right (by omega) (by omega))
    omega
theorem short_fits {l : List UInt8} (hok : digsOk l = true) (hl : l.length < 19) : dec l < 10 ^ 18 := by
  have ha : l.all dig = true := by unfold digsOk at hok; simp only [Bool.and_eq_true] at hok; exact hok.2
  exact Nat.lt_of_lt_of_le (dec_lt l ha) (Nat.pow_le_pow_right (by omega) (by omega))

theorem digs_all_false {s : ByteArray} {k : Nat} (h : k < s.size) (hd : dig s[k] = false) : digsOk (ls s) = false := by
  have : (ls s).all dig = false := by
    rw [← Bool.not_eq_true, List.all_eq_true]
    intro h2
    rw [h2 _ (List.mem_of_getElem? (ls_get h))] at hd
    cases hd
  unfold digsOk
  rw [this, Bool.and_false]
theorem digs_all_true {s : ByteArray} (h : ∀ k (h : k < s.size), dig s[k] = true) (h0 : s.size = 1 ∨ ∃ h : 1 < s.size, s[0].toNat ≠ 48) : digsOk (ls s) = true := by
  rw [digs_good (by rcases h0 with h0 | ⟨h0, _⟩ <;> omega) (by rcases h0 with h0 | ⟨_, h0⟩; exact .inl h0; exact .inr h0), suf_zero, List.all_eq_true]
  intro c hc
  obtain ⟨i, hi, rfl⟩ := List.getElem_of_mem hc
  exact h i (by rw [ls_length] at hi; exact hi)
theorem cutp_yes {s : ByteArray} (h : 0 < s.size) (h1 : s[0].toNat = 45) : cutp (ls s) = (ls (s.extract 1 s.size), true) := by
  have e : s[0] = 45 := u8_of (n := 45) (by omega) h1
  have e2 : ((ls s).take 1 == [45]) = true := by rw [ls_cons h, e]; rfl
  rw [cutp, e2, if_pos rfl, extract_end, ls_bs, List.drop_one]
theorem cutp_no {s : ByteArray} (h : s.size = 0 ∨ ∃ h : 0 < s.size, s[0].toNat ≠ 45) : cutp (ls s) = (ls s, false) := by
  rw [cutp, if_neg]
  rcases h with h | ⟨h, h1⟩
  · rw [ls_nil h]; decide
  · rw [ls_cons h]
    intro h2
    simp at h2
    exact h1 (by rw [h2]; rfl)

theorem lim_n : dec digits19n = most + 1 := by decide
theorem lim_p : dec digits19 = most := by decide
theorem dec_step {d : ByteArray} {k : Nat} (h : k < d.size) : 10 * dec ((ls d).take k) + (d[k].toNat - 48) ≤ dec (ls d) := by
  rw [← dec_take_succ h]; exact dec_take_le _ _

def hexs : List UInt8 := [48, 49, 50, 51, 52, 53, 54, 55, 56, 57, 97, 98, 99, 100, 101, 102]
def rnib (c : UInt8) : Option Nat := if decide (48 ≤ c.toNat) && decide (c.toNat ≤ 57) then some (c.toNat - 48) else if decide (97 ≤ c.toNat) && decide (c.toNat ≤ 102) then some (c.toNat - 87) else none
theorem rnib_at : ∀ k : Fin 16, ∀ n : Fin 256, ((hexs.getD k.val 0).toNat = n.val) ↔ rnib (UInt8.ofNat n.val) = some k.val := by decide +kernel
theorem rnib_lo_fin : ∀ n : Fin 256, rnib (lo (UInt8.ofNat n.val)) = nib (UInt8.ofNat n.val) := by decide +kernel
theorem u8_nat (c : UInt8) : UInt8.ofNat c.toNat = c := by simp
theorem rnib_iff {k : Nat} (hk : k < 16) (c : UInt8) : ((hexs.getD k 0).toNat = c.toNat) ↔ rnib c = some k := by
  have := rnib_at ⟨k, hk⟩ ⟨c.toNat, c.toNat_lt⟩
  rwa [u8_nat] at this
theorem rnib_lo (c : UInt8) : rnib (lo c) = nib c := by
  have := rnib_lo_fin ⟨c.toNat, c.toNat_lt⟩
  rwa [u8_nat] at this
theorem rnib_lt {c : UInt8} {n : Nat} (h : rnib c = some n) : n < 16 := by
  unfold rnib at h
  split at h
  · rename_i h1; simp at h1 h; omega
  · split at h
    · rename_i h1; simp at h1 h; omega
    · cases h
/-- The bytes of small digits of sixteen. -/
def runhex : List UInt8 → Option (List UInt8)
  | [] => some []
  | [_] => none
  | a :: b :: r => match rnib a, rnib b with
    | some x, some y => (runhex r).map (UInt8.ofNat (16 * x + y) :: ·)
    | _, _ => none
theorem runhex_fold (l : List UInt8) : runhex (fold l) = unhexL l := by
  fun_induction unhexL l with
  | case1 => rfl
  | case2 => rfl
  | case3 a b r x y hx hy ih =>
    show runhex (lo a :: lo b :: fold r) = _
    rw [runhex, rnib_lo, rnib_lo, hx, hy, ih]
  | case4 a b r h1 =>
    show runhex (lo a :: lo b :: fold r) = _
    rw [runhex, rnib_lo, rnib_lo]
    cases hx : nib a with
    | none => cases nib b <;> rfl
    | some x =>
      cases hy : nib b with
      | none => rfl
      | some y => exact absurd hy (h1 x y hx)
theorem runhex_end {s : ByteArray} {k : Nat} (h : s.size ≤ k) (acc : List UInt8) : onto acc (runhex (suf s k)) = some acc := by
  rw [suf_nil h, runhex]; simp [onto]
theorem runhex_go {s : ByteArray} {k x y : Nat} (h : k + 1 < s.size) (hx : rnib s[k] = some x) (hy : rnib s[k + 1] = some y) (acc : List UInt8) :
    onto acc (runhex (suf s k)) = onto (acc ++ [UInt8.ofNat (16 * x + y)]) (runhex (suf s (k + 2))) := by
  rw [suf_cons (k := k) (by omega), suf_cons (k := k + 1) h, ← onto_map, runhex, hx, hy]
theorem runhex_bad {s : ByteArray} {k : Nat} (h : k + 1 < s.size) (hn : rnib s[k] = none ∨ rnib s[k + 1] = none) (acc : List UInt8) :
    onto acc (runhex (suf s k)) = none := by
  rw [suf_cons (k := k) (by omega), suf_cons (k := k + 1) h, runhex]
  rcases hn with hn | hn
  · rw [hn]; cases rnib s[k + 1] <;> rfl
  · rw [hn]; cases rnib s[k] <;> rfl
theorem runhex_odd (l : List UInt8) (h : l.length % 2 = 1) : runhex l = none := by
  fun_induction runhex l with
  | case1 => simp at h
  | case2 => rfl
  | case3 a b r x y hx hy ih => simp at h; rw [ih (by omega)]; rfl
  | case4 => rfl

theorem take1_iff {s : ByteArray} (h : 0 < s.size) (n : Nat) (hn : n < 256) : (ls s).take 1 = [UInt8.ofNat n] ↔ s[0].toNat = n := by
  rw [ls_cons h]
  simp
  constructor
  · intro e; rw [e]; simp; omega
  · intro e; exact u8_of hn e
theorem last_eq {s : ByteArray} (h : 0 < s.size) : (ls s).drop (s.size - 1) = [s[s.size - 1]] := by
  rw [← suf_eq, suf_cons (by omega), suf_nil (by omega)]
theorem inside_is {s : ByteArray} (h : 2 ≤ s.size) (h1 : s[0].toNat = 39) (h2 : s[s.size - 1].toNat = 39) : inside (ls s) = (ls (s.extract 1 (s.size - 1)), true) := by
  rw [inside_yes h ((take1_iff (by omega) 39 (by omega)).2 h1) (by rw [last_eq (by omega)]; exact congrArg (fun x => [x]) (u8_of (n := 39) (by omega) h2)), mid, ls_bs]
theorem inside_not {s : ByteArray} (h : s.size < 2 ∨ ∃ h : 0 < s.size, s[0].toNat ≠ 39 ∨ s[s.size - 1].toNat ≠ 39) : inside (ls s) = ([], false) := by
  apply inside_no
  rcases h with h | ⟨h, h1 | h1⟩
  · exact .inl h
  · exact .inr (.inl (fun e => h1 ((take1_iff h 39 (by omega)).1 e)))
  · refine .inr (.inr (fun e => h1 ?_))
    rw [last_eq h] at e
    have : s[s.size - 1] = 39 := by simpa using e
    rw [this]; rfl
def bare (l : List UInt8) : Option (List UInt8) := if (inside l).2 then single (inside l).1 else none
theorem one_at {s : ByteArray} {k : Nat} (h : k < s.size) : s.extract k (k + 1) = bs [s[k]] := by
  rw [extract_bs, ← suf_eq, suf_cons h]
  simp

theorem lo_39 (c : UInt8) : (lo c).toNat = 39 ↔ c.toNat = 39 := by
  unfold lo
  split
  · rename_i h; simp at h ⊢; omega
  · exact Iff.rfl
theorem foldB_size (s : ByteArray) : (bs (fold (ls s))).size = s.size := by rw [bs_size, fold_length, ls_length]
theorem foldB_at {s : ByteArray} {k : Nat} (h : k < s.size) : (bs (fold (ls s)))[k]'(by rw [foldB_size]; exact h) = lo s[k] := by
  have : (ls (bs (fold (ls s))))[k]? = some (lo s[k]) := by
    rw [ls_bs, fold, List.getElem?_map, ls_get h]; rfl
  rw [ls_get (by rw [foldB_size]; exact h)] at this
  exact Option.some.inj this
theorem read_bad0 {s : ByteArray} (h : 0 < s.size) (h1 : s[0].toNat ≠ 45) (h2 : s[0].toNat < 48 ∨ 57 < s[0].toNat) : read (ls s) = (0, 8) := by
  rw [read_eq, cutp_no (.inr ⟨h, h1⟩), readD, digs_all_false h (dig_not.2 h2)]; rfl
theorem unq_quote {s : ByteArray} (h : fold (ls s) ≠ [110, 117, 108, 108]) (h0 : 0 < s.size) (h1 : s[0].toNat = 39) : unquote (ls s) = mkV 2 (bare (ls s)) := by
  rw [unquote, if_neg (by simpa using h), bare]
  cases h2 : (inside (ls s)).2
  · have e : s[0] = 39 := u8_of (n := 39) (by omega) h1
    have h3 : (!(ls s).isEmpty && fold (List.take 1 (ls s)) == [120]) = false := by rw [ls_cons h0, e]; rfl
    rw [if_neg (by decide), h3, if_neg (by decide), read_bad0 h0 (by omega) (by omega)]
    rfl
  · rfl
theorem unq_x {s : ByteArray} (h : fold (ls s) ≠ [110, 117, 108, 108]) (h0 : 2 < s.size) (h1 : s[0].toNat ≠ 39) (h2 : (lo s[0]).toNat = 120) (h3 : s[1].toNat = 39) (h4 : s[s.size - 1].toNat = 39) :
    unquote (ls s) = mkV 3 (runhex (ls ((bs (fold (ls s))).extract 2 (s.size - 1)))) := by
  have e : lo s[0] = 120 := u8_of (n := 120) (by omega) h2
  have ht : (ls s).tail = ls (s.extract 1 s.size) := by rw [extract_end, ls_bs, List.drop_one]
  have hz := extract_size s 1 s.size (Nat.le_refl _)
  have hin : inside (ls s).tail = (ls ((s.extract 1 s.size).extract 1 (s.size - 2)), true) := by
    rw [ht, inside_is (by omega)]
    · rw [hz]; rfl
    · rw [show (s.extract 1 s.size)[0] = s[1] from by rw [ByteArray.getElem_extract]]; exact h3
    · rw [show (s.extract 1 s.size)[(s.extract 1 s.size).size - 1]'(by omega) = s[s.size - 1] from by rw [ByteArray.getElem_extract]; congr 1; omega]; exact h4
  rw [unquote, if_neg (by simpa using h), inside_not (.inr ⟨by omega, .inl h1⟩), if_neg (by decide), if_pos, hin, if_pos rfl, ← runhex_fold]
  · congr 2
    rw [ls_extract, ls_extract, ls_extract, ls_bs]
    unfold fold
    rw [List.map_take, List.map_drop, List.map_take, List.map_drop, List.drop_take, List.take_take, List.drop_drop]
    congr 1
    omega
  · rw [ls_cons (by omega)]
    simp only [List.isEmpty_cons, List.take_succ_cons, List.take_zero, fold, List.map_cons, List.map_nil, e]
    decide
theorem unq_read {s : ByteArray} (h : fold (ls s) ≠ [110, 117, 108, 108]) (h1 : s.size = 0 ∨ ∃ h : 0 < s.size, s[0].toNat ≠ 39)
    (h2 : ¬ ∃ h : 2 < s.size, (lo s[0]).toNat = 120 ∧ s[1].toNat = 39 ∧ s[s.size - 1].toNat = 39) :
    unquote (ls s) = if (read (ls s)).2 ≠ 0 then ((0, 0, []), (read (ls s)).2) else ((1, (read (ls s)).1, []), 0) := by
  have hi : inside (ls s) = ([], false) := by
    rcases h1 with h1 | ⟨h0, h1⟩
    · exact inside_not (.inl (by omega))
    · exact inside_not (.inr ⟨h0, .inl h1⟩)
  rw [unquote, if_neg (by simpa using h), hi, if_neg (by decide)]
  by_cases hx : ∃ h : 0 < s.size, (lo s[0]).toNat = 120
  · obtain ⟨h0, hx⟩ := hx
    have e : lo s[0] = 120 := u8_of (n := 120) (by omega) hx
    have hc : s[0].toNat = 120 ∨ s[0].toNat = 88 := by
      unfold lo at hx
      split at hx
      · rename_i h3
        simp at hx h3
        omega
      · exact .inl hx
    have ht : (ls s).tail = ls (s.extract 1 s.size) := by rw [extract_end, ls_bs, List.drop_one]
    have hz := extract_size s 1 s.size (Nat.le_refl _)
    have hin : (inside (ls s).tail).2 = false := by
      rw [ht, inside_not]
      by_cases h3 : 2 < s.size
      · refine .inr ⟨by omega, ?_⟩
        by_cases h4 : s[1].toNat = 39
        · by_cases h5 : s[s.size - 1].toNat = 39
          · exact absurd ⟨h3, hx, h4, h5⟩ h2
          · refine .inr ?_
            rw [show (s.extract 1 s.size)[(s.extract 1 s.size).size - 1]'(by omega) = s[s.size - 1] from by rw [ByteArray.getElem_extract]; congr 1; omega]
            exact h5
        · refine .inl ?_
          rw [show (s.extract 1 s.size)[0] = s[1] from by rw [ByteArray.getElem_extract]]
          exact h4
      · exact .inl (by omega)
    rw [if_pos, hin, if_neg (by decide), read_bad0 h0 (by omega) (by omega)]
    · rfl
    · rw [ls_cons h0]
      simp only [List.isEmpty_cons, List.take_succ_cons, List.take_zero, fold, List.map_cons, List.map_nil, e]
      decide
  · rw [if_neg]
    intro h3
    simp only [Bool.and_eq_true, Bool.not_eq_true', beq_iff_eq] at h3
    have h0 : 0 < s.size := by
      rcases Nat.eq_zero_or_pos s.size with h4 | h4
      · rw [ls_nil h4] at h3; simp at h3
      · exact h4
    refine hx ⟨h0, ?_⟩
    have h5 := h3.2
    rw [ls_cons h0] at h5
    simp [fold] at h5
    rw [h5]; rfl
end Lx
