/- Instructions and their texts: what is printed is read back, on lists. -/
import Derived.Test.YtoekddkkjbcicaaDoorOxA
set_option linter.unusedVariables false
set_option linter.unusedSimpArgs false
namespace Ox
open Lx
/-- No blank, no newline, no '#'. -/
def plain (c : UInt8) : Bool := c.toNat != 32 && c.toNat != 10 && c.toNat != 35
theorem plain_of {c : UInt8} (h1 : c.toNat ≠ 32) (h2 : c.toNat ≠ 10) (h3 : c.toNat ≠ 35) : plain c = true := by
  simp [plain, h1, h2, h3]
theorem numN_digs : ∀ m : Nat, (numN m).all dig = true := by
  intro m
  induction m using Nat.strongRecOn with
  | ind m ih =>
    rw [numN]
    split
    · rename_i h
      simp [dig, UInt8.toNat_ofNat']
      omega
    · rename_i h
      rw [List.all_append, ih (m / 10) (by omega)]
      simp [dig, UInt8.toNat_ofNat']
      omega
theorem numN_dec : ∀ m : Nat, dec (numN m) = m := by
  intro m
  induction m using Nat.strongRecOn with
  | ind m ih =>
    rw [numN]
    split
    · rename_i h
      simp [dec, UInt8.toNat_ofNat']
      omega
    · rename_i h
      rw [dec_snoc, ih (m / 10) (by omega)]
      simp [UInt8.toNat_ofNat']
      omega
theorem numN_nonil (m : Nat) : numN m ≠ [] := by
  rw [numN]
  split <;> simp
theorem numN_head : ∀ m : Nat, 0 < m → (numN m).head? ≠ some 48 := by
  intro m
  induction m using Nat.strongRecOn with
  | ind m ih =>
    intro h0
    rw [numN]
    split
    · rename_i h
      intro hc
      have h2 : UInt8.ofNat (48 + m) = 48 := by simpa using hc
      have := congrArg UInt8.toNat h2
      simp [UInt8.toNat_ofNat'] at this
      omega
    · rename_i h
      have hh := ih (m / 10) (by omega) (by omega)
      have hn := numN_nonil (m / 10)
      cases hx : numN (m / 10) with
      | nil => exact absurd hx hn
      | cons a r =>
        rw [hx] at hh
        simpa using hh
theorem numN_one {m : Nat} (h : 1 < (numN m).length) : 0 < m := by
  rcases Nat.eq_zero_or_pos m with rfl | h2
  · rw [numN] at h
    simp at h
  · exact h2
theorem numN_ok (m : Nat) : digsOk (numN m) = true := by
  rw [digsOk, numN_digs]
  have h1 : (numN m).isEmpty = false := by
    have := numN_nonil m
    cases hx : numN m with
    | nil => exact absurd hx this
    | cons a r => rfl
  rw [h1]
  by_cases h : 1 < (numN m).length
  · have := numN_head m (numN_one h)
    have hq : ((numN m).head? == some 48) = false := by
      rw [Bool.eq_false_iff]
      intro hc
      exact this (eq_of_beq hc)
    rw [hq]
    simp
  · rw [decide_eq_false h]
    simp
theorem numN_head45 (m : Nat) : (numN m).head? ≠ some 45 := by
  have h := numN_digs m
  cases hx : numN m with
  | nil => simp
  | cons a r =>
    rw [hx] at h
    simp only [List.all_cons, Bool.and_eq_true] at h
    have := dig_iff.1 h.1
    intro hc
    have h2 : a = 45 := by simpa using hc
    subst h2
    revert this
    decide
theorem read_num {n : Int} (h1 : -9223372036854775808 ≤ n) (h2 : n ≤ 9223372036854775807) : read (num n) = (n, 0) := by
  unfold num
  split
  · rename_i h
    have hz : ((numN n.natAbs) == [48]) = false := by
      rw [Bool.eq_false_iff]
      intro hc
      have := numN_head n.natAbs (by omega)
      rw [eq_of_beq hc] at this
      exact this rfl
    have hd := numN_dec n.natAbs
    simp only [Lx.read, List.head?_cons, List.tail_cons, beq_self_eq_true, if_true, numN_ok, hz, Bool.not_true, Bool.and_false, Bool.or_false, Bool.false_eq_true, if_false, hd, most_eq]
    rw [if_neg (by omega)]
    congr 1
    omega
  · rename_i h
    have hz : ((numN n.natAbs).head? == some 45) = false := by
      rw [Bool.eq_false_iff]
      intro hc
      exact numN_head45 _ (eq_of_beq hc)
    have hd := numN_dec n.natAbs
    simp only [Lx.read, hz, numN_ok, Bool.not_true, Bool.false_and, Bool.or_false, Bool.false_eq_true, if_false, hd, most_eq]
    rw [if_neg (by omega)]
    congr 1
    omega
theorem number_num {n : Int} (h1 : 0 ≤ n) (h2 : n ≤ 999999999) : number (num n) = (n, true) := by
  unfold number
  rw [read_num (by omega) (by omega)]
  simp [h1, h2]
theorem num_chars (n : Int) : ∀ c ∈ num n, 45 ≤ c.toNat ∧ c.toNat ≤ 57 := by
  have hN : ∀ m : Nat, ∀ c ∈ numN m, 45 ≤ c.toNat ∧ c.toNat ≤ 57 := by
    intro m c hc
    have := dig_iff.1 (List.all_eq_true.1 (numN_digs m) c hc)
    omega
  unfold num
  split
  · intro c hc
    rcases List.mem_cons.1 hc with rfl | hc
    · decide
    · exact hN _ c hc
  · exact hN _
theorem num_nonil (n : Int) : num n ≠ [] := by
  unfold num
  split
  · simp
  · exact numN_nonil _
theorem hexD_rnib : ∀ k : Fin 16, rnib (hexD k.val) = some k.val := by decide
theorem hexD_plain : ∀ k : Fin 16, plain (hexD k.val) = true := by decide
theorem unhex_hex (s : S) : unhexP (hex s) = some s := by
  induction s with
  | nil => rfl
  | cons c r ih =>
    rw [hex, unhexP]
    have hc : c.toNat < 256 := c.toNat_lt
    have h1 := hexD_rnib ⟨c.toNat / 16, by omega⟩
    have h2 := hexD_rnib ⟨c.toNat % 16, by omega⟩
    simp only at h1 h2
    rw [h1, h2, ih]
    simp only
    rw [show 16 * (c.toNat / 16) + c.toNat % 16 = c.toNat by omega, UInt8.ofNat_toNat]
theorem hex_length (s : S) : (hex s).length = 2 * s.length := by
  induction s with
  | nil => rfl
  | cons c r ih => simp only [hex, List.length_cons, ih]; omega
theorem hex_plain (s : S) : (hex s).all plain = true := by
  induction s with
  | nil => rfl
  | cons c r ih =>
    have hc : c.toNat < 256 := c.toNat_lt
    have h1 := hexD_plain ⟨c.toNat / 16, by omega⟩
    have h2 := hexD_plain ⟨c.toNat % 16, by omega⟩
    simp only at h1 h2
    rw [hex, List.all_cons, List.all_cons, h1, h2, ih]
    rfl
theorem num_plain (n : Int) : (num n).all plain = true := by
  rw [List.all_eq_true]
  intro c hc
  have := num_chars n c hc
  exact plain_of (by omega) (by omega) (by omega)
theorem valS_plain (vk vn : Int) (vs : S) : (valS vk vn vs).all plain = true := by
  unfold valS
  split
  · exact num_plain vn
  · split
    · rw [List.all_append, List.all_append, hex_plain]; decide
    · split
      · rw [List.all_append, List.all_append, hex_plain]; decide
      · decide
theorem keyS_plain (k : Key) : (keyS k).all plain = true := by
  unfold keyS
  rw [List.all_append, List.all_append, num_plain]
  split <;> split <;> decide
theorem quoted_unval (q : UInt8) (hq : q = 116 ∨ q = 120) (s : S) :
    unval ([q, 39] ++ hex s ++ [39]) = ((if q = 120 then 3 else 2, 0, s), true) := by
  have hne : [q, 39] ++ hex s ++ [39] ≠ [110, 117, 108, 108] := by
    intro h
    have := congrArg (fun l => l[1]?) h
    simp at this
  have hlen : ([q, 39] ++ hex s ++ [39]).length = 2 * s.length + 3 := by simp [hex_length]
  have a1 : at_ ([q, 39] ++ hex s ++ [39]) 1 = 39 := by simp [at_]
  have a0 : at_ ([q, 39] ++ hex s ++ [39]) 0 = q := by simp [at_]
  have al : at_ ([q, 39] ++ hex s ++ [39]) (2 * s.length + 3 - 1) = 39 := by
    unfold at_
    rw [List.getElem?_append_right (by simp [hex_length])]
    simp [hex_length]
  have hm : ((([q, 39] ++ hex s ++ [39]).drop 2).take (2 * s.length + 3 - 3)) = hex s := by
    have : ([q, 39] ++ hex s ++ [39]).drop 2 = hex s ++ [39] := by simp
    rw [this, List.take_append_of_le_length (by simp [hex_length]), List.take_of_length_le (by simp [hex_length])]
  have hu : unhex (hex s) = (s, true) := by
    unfold unhex
    rw [unhex_hex]
    simp [hex_length]
  rw [unval, if_neg hne, hlen, a1, a0, al, hm, hu]
  have hb : (q == 116 || q == 120) = true := by rcases hq with rfl | rfl <;> decide
  have hb2 : (q == (120 : UInt8)) = decide (q = 120) := rfl
  rw [if_pos (by rw [hb, decide_eq_true (by omega)]; rfl)]
  simp only [beq_iff_eq]
/-- A value that some code may have. -/
def canon (vk vn : Int) (vs : S) : Prop := 0 ≤ vk ∧ vk ≤ 3 ∧ (vk ≠ 1 → vn = 0) ∧ (vk < 2 → vs = [])
theorem unval_valS {vk vn : Int} {vs : S} (h : canon vk vn vs) (h1 : -9223372036854775808 ≤ vn) (h2 : vn ≤ 9223372036854775807) : unval (valS vk vn vs) = ((vk, vn, vs), true) := by
  obtain ⟨c1, c2, c3, c4⟩ := h
  unfold valS
  by_cases k1 : vk = 1
  · subst k1
    rw [if_pos rfl, c4 (by omega)]
    have hn0 := num_nonil vn
    have hch := num_chars vn
    have hne : num vn ≠ [110, 117, 108, 108] := by
      intro h
      rw [h] at hch
      have := hch 110 (by simp)
      revert this
      decide
    have a0 : (at_ (num vn) 0 == 116 || at_ (num vn) 0 == 120) = false := by
      cases hx : num vn with
      | nil => exact absurd hx hn0
      | cons a r =>
        rw [hx] at hch
        have := hch a (by simp)
        have e : at_ (a :: r) 0 = a := rfl
        rw [e, Bool.or_eq_false_iff]
        constructor <;> · rw [Bool.eq_false_iff]; intro hc; rw [eq_of_beq hc] at this; revert this; decide
    rw [unval, if_neg hne, a0, Bool.and_false, if_neg (by simp), read_num h1 h2]
    simp
  · rw [if_neg k1]
    have hv := c3 k1
    subst hv
    by_cases k2 : vk = 2
    · subst k2
      rw [if_pos rfl, quoted_unval 116 (Or.inl rfl)]
      simp
    · rw [if_neg k2]
      by_cases k3 : vk = 3
      · subst k3
        rw [if_pos rfl, quoted_unval 120 (Or.inr rfl)]
        simp
      · have k0 : vk = 0 := by omega
        subst k0
        rw [if_neg k3, c4 (by omega), unval, if_pos rfl]
theorem unkey_keyS {k : Key} (h : keyOk k = true) : unkey (keyS k) = (k, true) := by
  obtain ⟨c, cl, d⟩ := k
  simp only [keyOk, Bool.and_eq_true, decide_eq_true_eq] at h
  obtain ⟨⟨⟨h1, h2⟩, h3⟩, h4⟩ := h
  have hs : ∃ x y : UInt8, keyS ⟨c, cl, d⟩ = num c ++ [x, y] ∧ (x == 100) = d ∧ (y == 110) = decide (cl = 1) := by
    unfold keyS
    cases d <;> by_cases hc : cl = 1
    · subst hc
      exact ⟨97, 110, by simp, rfl, rfl⟩
    · exact ⟨97, 98, by simp [hc], rfl, by rw [decide_eq_false hc]; rfl⟩
    · subst hc
      exact ⟨100, 110, by simp, rfl, rfl⟩
    · exact ⟨100, 98, by simp [hc], rfl, by rw [decide_eq_false hc]; rfl⟩
  obtain ⟨x, y, hS, hx, hy⟩ := hs
  have hn0 : 0 < (num c).length := List.length_pos_iff.2 (num_nonil c)
  have hlen : (keyS ⟨c, cl, d⟩).length = (num c).length + 2 := by rw [hS]; simp
  have ht : (keyS ⟨c, cl, d⟩).take ((keyS ⟨c, cl, d⟩).length - 2) = num c := by rw [hlen, hS]; simp
  have a1 : at_ (keyS ⟨c, cl, d⟩) ((keyS ⟨c, cl, d⟩).length - 1) = y := by
    rw [hlen, hS, at_, List.getElem?_append_right (by omega)]
    rw [show (num c).length + 2 - 1 - (num c).length = 1 by omega]
    rfl
  have a2 : at_ (keyS ⟨c, cl, d⟩) ((keyS ⟨c, cl, d⟩).length - 2) = x := by
    rw [hlen, hS, at_, List.getElem?_append_right (by omega)]
    rw [show (num c).length + 2 - 2 - (num c).length = 0 by omega]
    rfl
  have hk : unkeyK (keyS ⟨c, cl, d⟩) = ⟨c, cl, d⟩ := by
    unfold unkeyK
    rw [ht, a1, a2, number_num h1 (by omega), hx, hy]
    by_cases hc : cl = 1
    · subst hc; simp
    · have : cl = 0 := by omega
      subst this
      simp
  rw [unkey, if_neg (by rw [hlen]; omega), hk, ht, number_num h1 (by omega)]
  simp
theorem names_plain : ∀ i : Fin 34, ((names[i.val]?).getD []).all plain = true := by decide
theorem ops_plain : (opsU.all (·.all plain) && opsB.all (·.all plain) && opsC.all (·.all plain) && opsA.all (·.all plain)) = true := by decide
theorem nameOk_plain {s : S} (h : nameOk s = true) : s.all plain = true := by
  unfold nameOk at h
  simp only [Bool.and_eq_true, decide_eq_true_eq] at h
  obtain ⟨⟨h1, h2⟩, h3⟩ := h
  obtain ⟨ha, _⟩ := nmR_nam s 0 h3
  rw [List.all_eq_true] at ha ⊢
  intro c hc
  have := ha c hc
  simp only [nam, let_, dig, Bool.or_eq_true, Bool.and_eq_true, decide_eq_true_eq] at this
  exact plain_of (by omega) (by omega) (by omega)
theorem named_plain {k : UInt8} {s : S} (h : named k s = true) : s.all plain = true := by
  have hall : ∀ L : List S, L.all (·.all plain) = true → L.contains s = true → s.all plain = true := by
    intro L h1 h2
    exact List.all_eq_true.1 h1 s (List.contains_iff_mem.1 h2)
  have ho := ops_plain
  simp only [Bool.and_eq_true] at ho
  obtain ⟨⟨⟨o1, o2⟩, o3⟩, o4⟩ := ho
  unfold named at h
  split at h
  · exact nameOk_plain h
  · split at h
    · exact hall _ o1 h
    · split at h
      · exact hall _ o2 h
      · split at h
        · exact hall _ o3 h
        · split at h
          · exact hall _ o4 h
          · rw [List.isEmpty_iff.1 h]; rfl
/-- The words that stand behind a line's name. -/
def wN (c : UInt8) (n : Int) : List S := if c.toNat = 46 then [] else [num n]
def wV (c : UInt8) (vk vn : Int) (vs : S) : List S := if c.toNat = 46 then [] else [valS vk vn vs]
def wS (c : UInt8) (s : S) : List S := if c.toNat = 46 then [] else [s]
def wordsO (o : Op) : List S :=
  wN (at_ (form o.code) 0) o.p1 ++ (wN (at_ (form o.code) 1) o.p2 ++ (wN (at_ (form o.code) 2) o.p3 ++ (wV (at_ (form o.code) 3) o.vk o.vn o.vs ++ (wS (at_ (form o.code) 4) o.name ++ o.keys.map keyS))))
def sep (ws : List S) : S := ws.flatMap fun w => 32 :: w
theorem sep_app (a b : List S) : sep (a ++ b) = sep a ++ sep b := by simp [sep]
theorem line_words (o : Op) : line o = (names[o.code.toNat]?).getD [] ++ sep (wordsO o) := by
  have h1 : ∀ c n, partN c n = sep (wN c n) := by intro c n; unfold partN wN; split <;> simp [sep]
  have h2 : ∀ c a b d, partV c a b d = sep (wV c a b d) := by intro c a b d; unfold partV wV; split <;> simp [sep]
  have h3 : ∀ c s, partS c s = sep (wS c s) := by intro c s; unfold partS wS; split <;> simp [sep]
  have h4 : ∀ l : List Key, keysS l = sep (l.map keyS) := by intro l; simp [keysS, sep, List.flatMap_map]
  unfold line wordsO
  simp only [h1, h2, h3, h4, sep_app, List.append_assoc]
theorem split_no {c : UInt8} : ∀ {p : S}, c ∉ p → split c p = [p]
  | [], _ => rfl
  | x :: r, h => by
    have h1 : (x == c) = false := by rw [Bool.eq_false_iff]; intro hc; exact h (by rw [eq_of_beq hc]; exact List.mem_cons_self)
    rw [split, h1, split_no (fun hc => h (List.mem_cons_of_mem _ hc))]
    rfl
theorem split_at {c : UInt8} : ∀ {p : S}, c ∉ p → ∀ r : S, split c (p ++ c :: r) = p :: split c r
  | [], _, r => by simp [split]
  | x :: q, h, r => by
    have h1 : (x == c) = false := by rw [Bool.eq_false_iff]; intro hc; exact h (by rw [eq_of_beq hc]; exact List.mem_cons_self)
    rw [List.cons_append, split, h1, split_at (fun hc => h (List.mem_cons_of_mem _ hc)) r]
    rfl
theorem split_words {p : S} (hp : (32 : UInt8) ∉ p) : ∀ {ws : List S}, (∀ w ∈ ws, (32 : UInt8) ∉ w) → split 32 (p ++ sep ws) = p :: ws := by
  intro ws
  induction ws generalizing p with
  | nil => intro _; simp only [sep, List.flatMap_nil, List.append_nil]; exact split_no hp
  | cons w r ih =>
    intro h
    have : p ++ sep (w :: r) = p ++ 32 :: (w ++ sep r) := by simp [sep]
    rw [this, split_at hp, ih (h w List.mem_cons_self) (fun q hq => h q (List.mem_cons_of_mem _ hq))]
theorem plain_32 {s : S} (h : s.all plain = true) : (32 : UInt8) ∉ s := fun hc => by have := List.all_eq_true.1 h _ hc; revert this; decide
theorem plain_10 {s : S} (h : s.all plain = true) : (10 : UInt8) ∉ s := fun hc => by have := List.all_eq_true.1 h _ hc; revert this; decide
theorem plain_35 {s : S} (h : s.all plain = true) : (35 : UInt8) ∉ s := fun hc => by have := List.all_eq_true.1 h _ hc; revert this; decide
theorem words_plain {o : Op} (h : (at_ (form o.code) 4).toNat = 46 ∨ o.name.all plain = true) : ∀ w ∈ wordsO o, w.all plain = true := by
  intro w hw
  unfold wordsO at hw
  simp only [List.mem_append] at hw
  have hN : ∀ c n, w ∈ wN c n → w.all plain = true := by
    intro c n hm
    unfold wN at hm
    split at hm
    · cases hm
    · rw [List.mem_singleton] at hm; rw [hm]; exact num_plain _
  rcases hw with hw | hw | hw | hw | hw | hw
  · exact hN _ _ hw
  · exact hN _ _ hw
  · exact hN _ _ hw
  · unfold wV at hw
    split at hw
    · cases hw
    · rw [List.mem_singleton] at hw; rw [hw]; exact valS_plain _ _ _
  · unfold wS at hw
    split at hw
    · cases hw
    · rename_i hne
      rw [List.mem_singleton] at hw
      rw [hw]
      exact h.resolve_left hne
  · obtain ⟨k, _, rfl⟩ := List.mem_map.1 hw
    exact keyS_plain k
theorem nm_plain (o : Op) : ((names[o.code.toNat]?).getD []).all plain = true := by
  by_cases h : o.code.toNat < 34
  · exact names_plain ⟨o.code.toNat, h⟩
  · rw [List.getElem?_eq_none (by show 34 ≤ _; omega)]; rfl
theorem sep_no {c : UInt8} (hc : c ≠ 32) {ws : List S} (h : ∀ w ∈ ws, c ∉ w) : c ∉ sep ws := by
  intro hm
  unfold sep at hm
  rw [List.mem_flatMap] at hm
  obtain ⟨w, hw, hm⟩ := hm
  rcases List.mem_cons.1 hm with h2 | h2
  · exact hc h2
  · exact h w hw h2
theorem line_no {o : Op} (h : (at_ (form o.code) 4).toNat = 46 ∨ o.name.all plain = true) : (10 : UInt8) ∉ line o ∧ (35 : UInt8) ∉ line o := by
  have hw := words_plain h
  have hn := nm_plain o
  rw [line_words]
  constructor
  · intro hm
    rcases List.mem_append.1 hm with hm | hm
    · exact plain_10 hn hm
    · exact sep_no (by decide) (fun w hq => plain_10 (hw w hq)) hm
  · intro hm
    rcases List.mem_append.1 hm with hm | hm
    · exact plain_35 hn hm
    · exact sep_no (by decide) (fun w hq => plain_35 (hw w hq)) hm
end Ox
