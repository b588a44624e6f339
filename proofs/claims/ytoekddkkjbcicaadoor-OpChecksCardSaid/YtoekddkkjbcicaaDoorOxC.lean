/- Instructions and their texts: a right instruction's line is read back; what is parsed has the text. On lists. -/
import Derived.Test.YtoekddkkjbcicaaDoorOxB
set_option linter.unusedVariables false
set_option linter.unusedSimpArgs false
namespace Ox
open Lx
theorem numSt_w {c : UInt8} {n many : Int} (h : within c n many = true) (hm : many ≤ 999999999) (R : List S) : numSt c 0 (wN c n ++ R, true) = (n, (R, true)) := by
  unfold numSt wN
  by_cases hc : c.toNat = 46
  · rw [if_pos hc, if_pos hc]
    unfold within at h
    simp only [hc] at h
    have : n = 0 := by simpa using h
    rw [this]
    rfl
  · rw [if_neg hc, if_neg hc]
    have hn : 0 ≤ n ∧ n ≤ 999999999 := by
      unfold within at h
      (repeat' split at h) <;> simp only [Bool.and_eq_true, Bool.or_eq_true, decide_eq_true_eq] at h <;> omega
    simp only [nxS, nxW, List.cons_append, List.nil_append, List.headD_cons, number_num hn.1 hn.2, Bool.and_self]
theorem valued_canon {c : UInt8} {vk vn : Int} {vs : S} (h : valued c vk vn vs = true) : canon vk vn vs := by
  unfold valued at h
  unfold canon
  split at h
  · simp only [Bool.and_eq_true, Bool.not_eq_true', Bool.or_eq_false_iff, Bool.and_eq_false_iff, decide_eq_false_iff_not, decide_eq_true_eq] at h
    obtain ⟨⟨⟨⟨h1, h2⟩, h3⟩, h4⟩, h5⟩ := h
    refine ⟨by omega, by omega, fun q => ?_, fun q => ?_⟩
    · rcases h3 with h3 | h3
      · exact absurd q h3
      · exact Decidable.not_not.1 h3
    · rcases h4 with h4 | h4
      · exact absurd q h4
      · exact Decidable.not_not.1 h4
  · split at h
    · simp only [Bool.and_eq_true, decide_eq_true_eq] at h
      obtain ⟨⟨⟨h1, h2⟩, h3⟩, h4⟩ := h
      exact ⟨by omega, by omega, fun q => absurd h1 q, fun _ => h2⟩
    · simp only [Bool.and_eq_true, decide_eq_true_eq] at h
      obtain ⟨⟨h1, h2⟩, h3⟩ := h
      exact ⟨by omega, by omega, fun q => h2, fun _ => h3⟩
theorem valSt_w {c : UInt8} {vk vn : Int} {vs : S} (h : valued c vk vn vs = true) (h1 : -9223372036854775808 ≤ vn) (h2 : vn ≤ 9223372036854775807) (R : List S) :
    valSt c (0, 0, []) (wV c vk vn vs ++ R, true) = ((vk, vn, vs), (R, true)) := by
  have hcn := valued_canon h
  unfold valSt wV
  by_cases hc : c.toNat = 46
  · rw [if_pos hc, if_pos hc]
    unfold valued at h
    simp only [hc] at h
    simp only [show ((46 : Nat) = 118) = False by decide, show ((46 : Nat) = 109) = False by decide, if_false, Bool.and_eq_true, decide_eq_true_eq] at h
    obtain ⟨⟨rfl, rfl⟩, rfl⟩ := h
    rfl
  · rw [if_neg hc, if_neg hc]
    have hv : valOk c ((vk, vn, vs), true) = true := by
      unfold valOk
      split
      · rename_i h9
        unfold valued at h
        rw [if_neg (by omega), if_pos h9] at h
        simp only [Bool.and_eq_true, decide_eq_true_eq] at h
        obtain ⟨⟨⟨a1, a2⟩, a3⟩, a4⟩ := h
        simp only [Bool.true_and, Bool.and_eq_true, decide_eq_true_eq]
        omega
      · rfl
    simp only [nxS, nxW, List.cons_append, List.nil_append, List.headD_cons, unval_valS hcn h1 h2, hv, Bool.and_self]
theorem nameSt_w {c : UInt8} {s : S} (h : named c s = true) (R : List S) : nameSt c [] (wS c s ++ R, true) = (s, (R, true)) := by
  unfold nameSt wS
  by_cases hc : c.toNat = 46
  · rw [if_pos hc, if_pos hc]
    unfold named at h
    simp only [hc] at h
    have : s = [] := by simpa using h
    rw [this]
    rfl
  · rw [if_neg hc, if_neg hc]
    simp only [nxS, nxW, List.cons_append, List.nil_append, List.headD_cons, h, Bool.and_self]
theorem keySt_w : ∀ {ks : List Key}, ks.all keyOk = true → ∀ acc, keySt (ks.map keyS) true acc = (acc ++ ks, true)
  | [], _, acc => by simp [keySt]
  | k :: r, h, acc => by
    simp only [List.all_cons, Bool.and_eq_true] at h
    rw [List.map_cons, keySt, unkey_keyS h.1]
    simp only [Bool.true_and]
    rw [keySt_w h.2]
    simp
theorem keysSt_w {c : UInt8} {ks : List Key} (h : keyed c ks = true) : keysSt c [] (ks.map keyS, true) = (ks, ([], true)) := by
  unfold keyed at h
  unfold keysSt
  split at h
  · rename_i hc
    simp only [Bool.and_eq_true] at h
    rw [if_pos hc]
    simp only [keySt_w h.1, List.nil_append]
  · rename_i hc
    have : ks = [] := List.eq_nil_of_length_eq_zero (by simpa using h)
    subst this
    rw [if_neg hc]
    rfl
theorem fill_w {o : Op} {many : Int} (h : formed o many = true) (hm : many ≤ 999999999) (h1 : -9223372036854775808 ≤ o.vn) (h2 : o.vn ≤ 9223372036854775807) :
    fill (op0 o.code) (wordsO o, true) = (o, ([], true)) := by
  unfold formed at h
  simp only [Bool.and_eq_true] at h
  obtain ⟨⟨⟨⟨⟨a0, a1⟩, a2⟩, a3⟩, a4⟩, a5⟩ := h
  obtain ⟨code, p1, p2, p3, vk, vn, vs, keys, name⟩ := o
  simp only at a0 a1 a2 a3 a4 a5 h1 h2
  unfold fill op0 wordsO
  simp only [numSt_w a0 hm, numSt_w a1 hm, numSt_w a2 hm, valSt_w a3 h1 h2, nameSt_w a4, keysSt_w a5]
theorem codeL_at : ∀ i : Fin 34, codeL ((names[i.val]?).getD []) 0 names = some i.val := by decide
theorem named_all {o : Op} {many : Int} (h : formed o many = true) : (at_ (form o.code) 4).toNat = 46 ∨ o.name.all plain = true := by
  unfold formed at h
  simp only [Bool.and_eq_true] at h
  exact .inr (named_plain h.1.2)
theorem unline_line {o : Op} {many : Int} (hc : coded o = true) (h : formed o many = true) (hm : many ≤ 999999999) (h1 : -9223372036854775808 ≤ o.vn) (h2 : o.vn ≤ 9223372036854775807) :
    unline (line o) = (o, true) := by
  unfold coded at hc
  simp only [Bool.and_eq_true, decide_eq_true_eq] at hc
  have hi : o.code.toNat < 34 := by omega
  have hcode : ((o.code.toNat : Nat) : Int) = o.code := by omega
  have hs : split 32 (line o) = (names[o.code.toNat]?).getD [] :: wordsO o := by
    rw [line_words]
    exact split_words (plain_32 (nm_plain o)) (fun w hw => plain_32 (words_plain (named_all h) w hw))
  have hcl := codeL_at ⟨o.code.toNat, hi⟩
  simp only at hcl
  have hf := fill_w h hm h1 h2
  unfold unline
  rw [hs]
  simp only [nxS, nxW, List.headD_cons, hcl]
  rw [hcode, hf]
  simp [endOk]
theorem unline_ok {s : S} (h : (unline s).2 = true) : line (unline s).1 = s := by
  unfold unline at h ⊢
  split at h
  · exact absurd h (by simp)
  · rename_i c hc
    simp only [hc]
    simp only [endOk, Bool.and_eq_true] at h
    exact eq_of_beq h.2
theorem keySt_ok : ∀ (l : List S) (ok : Bool) (acc : List Key), (keySt l ok acc).2 = true → ok = true
  | [], ok, acc, h => h
  | s :: r, ok, acc, h => by
    rw [keySt] at h
    have := keySt_ok r _ _ h
    simp only [Bool.and_eq_true] at this
    exact this.1
theorem fill_named {o : Op} {w : W} (h : (fill o w).2.2 = true) : (at_ (form o.code) 4).toNat = 46 ∧ (fill o w).1.name = o.name ∨ (fill o w).1.name.all plain = true := by
  unfold fill at h ⊢
  simp only at h ⊢
  generalize (valSt (at_ (form o.code) 3) (o.vk, o.vn, o.vs) (numSt (at_ (form o.code) 2) o.p3 (numSt (at_ (form o.code) 1) o.p2 (numSt (at_ (form o.code) 0) o.p1 w).2).2).2).2 = d at h ⊢
  have he : (nameSt (at_ (form o.code) 4) o.name d).2.2 = true := by
    unfold keysSt at h
    split at h
    · exact keySt_ok _ _ _ h
    · exact h
  unfold nameSt at he ⊢
  split
  · rename_i hc
    exact .inl ⟨hc, rfl⟩
  · rename_i hc
    rw [if_neg hc] at he
    simp only [Bool.and_eq_true] at he
    exact .inr (named_plain he.2)
theorem fill_code (o : Op) (w : W) : (fill o w).1.code = o.code := rfl
theorem unline_35 {s : S} (h : (35 : UInt8) ∈ s) : (unline s).2 = false := by
  rw [Bool.eq_false_iff]
  intro hu
  have hl := unline_ok hu
  have hx : (at_ (form (unline s).1.code) 4).toNat = 46 ∨ (unline s).1.name.all plain = true := by
    unfold unline at hu ⊢
    split at hu
    · exact absurd hu (by simp)
    · rename_i c hc
      simp only [hc]
      simp only [endOk, Bool.and_eq_true] at hu
      rcases fill_named hu.1.1 with ⟨h46, _⟩ | hp
      · exact .inl h46
      · exact .inr hp
  have := (line_no hx).2
  rw [hl] at this
  exact this h
/-- Texts with a byte between them. -/
def glue (c : UInt8) : List S → S
  | [] => []
  | [p] => p
  | p :: q :: r => p ++ c :: glue c (q :: r)
theorem split_nonil (c : UInt8) : ∀ s : S, split c s ≠ []
  | [] => by simp [split]
  | x :: r => by
    rw [split]
    split
    · simp
    · cases split c r <;> simp [consH]
theorem glue_split (c : UInt8) : ∀ s : S, glue c (split c s) = s
  | [] => rfl
  | x :: r => by
    have ih := glue_split c r
    have hn := split_nonil c r
    rw [split]
    cases hx : split c r with
    | nil => exact absurd hx hn
    | cons p q =>
      rw [hx] at ih
      split
      · rename_i hc
        rw [glue, ih, eq_of_beq hc]
        rfl
      · cases q with
        | nil => rw [consH, glue]; rw [glue] at ih; rw [ih]; rfl
        | cons y z => rw [consH, glue]; rw [glue] at ih; rw [List.cons_append, List.nil_append, List.cons_append, ih]
theorem glue_lines : ∀ m : List Op, glue 10 (m.map line ++ [[]]) = lines m
  | [] => rfl
  | o :: r => by
    have ih := glue_lines r
    have : lines (o :: r) = line o ++ 10 :: lines r := by simp [lines]
    rw [this, ← ih]
    cases r with
    | nil => rfl
    | cons p q => rfl
theorem split_count (c : UInt8) : ∀ s : S, (split c s).length = s.count c + 1
  | [] => rfl
  | x :: r => by
    have ih := split_count c r
    have hn := split_nonil c r
    rw [split]
    split
    · rename_i hc
      rw [eq_of_beq hc, List.count_cons_self, List.length_cons, ih]
    · rename_i hc
      rw [List.count_cons_of_ne (by intro h; exact hc (by rw [h]; exact beq_self_eq_true _)), ← ih]
      cases hx : split c r with
      | nil => exact absurd hx hn
      | cons p q => rfl
theorem fin_ok {acc l : List Op} {at_ : Int} (h : fin acc = (l, at_, 0)) : l = acc ∧ at_ = 0 ∧ check l = 0 := by
  unfold fin at h
  split at h
  · exact absurd (congrArg (fun x => x.2.2) h) (by simp)
  · split at h
    · exact absurd (congrArg (fun x => x.2.2) h) (by simp)
    · rename_i h1 h2
      simp only [Prod.mk.injEq] at h
      obtain ⟨rfl, rfl, _⟩ := h
      exact ⟨rfl, rfl, by rw [check, if_neg h1, if_neg h2]⟩
theorem parse_ok : ∀ (L : List S) (i : Int) (acc l : List Op) (at_ : Int), L ≠ [] → parseL L i acc = (l, at_, 0) → ∃ m, l = acc ++ m ∧ L = m.map line ++ [[]] ∧ at_ = 0 ∧ check l = 0
  | [], _, _, _, _, h, _ => absurd rfl h
  | [t], i, acc, l, at_, _, h => by
    rw [parseL] at h
    split at h
    · rename_i ht
      obtain ⟨rfl, rfl, hc⟩ := fin_ok h
      exact ⟨[], by simp, by rw [ht]; rfl, rfl, hc⟩
    · exact absurd (congrArg (fun x => x.2.2) h) (by simp)
  | t :: t2 :: r, i, acc, l, at_, _, h => by
    rw [parseL] at h
    split at h
    · rename_i hu
      obtain ⟨m, hm, hL, ha, hc⟩ := parse_ok (t2 :: r) _ _ _ _ (by simp) h
      refine ⟨(unline t).1 :: m, by rw [hm]; simp, ?_, ha, hc⟩
      rw [hL, List.map_cons, unline_ok hu]
      rfl
    · exact absurd (congrArg (fun x => x.2.2) h) (by simp)
theorem wrongL_at (many : Int) : ∀ (l : List Op) (i : Int), wrongL many l i = -1 ∨ i ≤ wrongL many l i ∧ wrongL many l i < i + l.length
  | [], i => .inl rfl
  | o :: r, i => by
    rw [wrongL]
    split
    · rcases wrongL_at many r (i + 1) with h | ⟨h1, h2⟩
      · exact .inl h
      · right
        simp only [List.length_cons]
        omega
    · right
      simp only [List.length_cons]
      omega
theorem parse_bad : ∀ (L : List S) (i : Int) (acc l : List Op) (at_ e : Int), L ≠ [] → i = acc.length → i + L.length ≤ 8193 → parseL L i acc = (l, at_, e) → e ≠ 0 →
    l = [] ∧ 0 ≤ at_ ∧ at_ ≤ i + L.length - 1 ∧ (e = 8 ∨ e = 1 ∧ at_ < i + L.length - 1)
  | [], _, _, _, _, _, h, _, _, _, _ => absurd rfl h
  | [t], i, acc, l, at_, e, _, hi, hn, h, he => by
    rw [parseL] at h
    simp only [List.length_cons, List.length_nil] at hn ⊢
    split at h
    · unfold fin at h
      split at h
      · omega
      · split at h
        · rename_i hw
          simp only [Prod.mk.injEq] at h
          obtain ⟨rfl, rfl, rfl⟩ := h
          have := wrongL_at acc.length acc 0
          rw [wrong] at hw ⊢
          refine ⟨rfl, hw, by omega, .inr ⟨rfl, by omega⟩⟩
        · simp only [Prod.mk.injEq] at h
          exact absurd h.2.2.symm he
    · simp only [Prod.mk.injEq] at h
      obtain ⟨rfl, rfl, rfl⟩ := h
      exact ⟨rfl, by omega, by omega, .inl rfl⟩
  | t :: t2 :: r, i, acc, l, at_, e, _, hi, hn, h, he => by
    rw [parseL] at h
    split at h
    · have := parse_bad (t2 :: r) (i + 1) _ l at_ e (by simp) (by simp; omega) (by simp only [List.length_cons] at hn ⊢; omega) h he
      simp only [List.length_cons] at this ⊢
      obtain ⟨q1, q2, q3, q4⟩ := this
      exact ⟨q1, q2, by omega, q4.imp id fun q => ⟨q.1, by omega⟩⟩
    · simp only [Prod.mk.injEq] at h
      obtain ⟨q1, q2, q3⟩ := h
      simp only [List.length_cons] at hn ⊢
      exact ⟨q1.symm, by omega, by omega, .inl q3.symm⟩
/-- What is parsed has the text; else a line is told. -/
theorem parses (s : S) (hs : s.length ≤ 8000) (l : List Op) (a e : Int) (h : parse s = (l, a, e)) :
    (e = 0 → a = 0 ∧ l.length = s.count 10 ∧ check l = 0 ∧ lines l = s) ∧
    (e ≠ 0 → l = [] ∧ 0 ≤ a ∧ a ≤ (s.count 10 : Int) ∧ (e = 8 ∨ e = 1 ∧ a < (s.count 10 : Int))) := by
  unfold parse at h
  rw [if_neg (by omega)] at h
  have hn := split_nonil 10 s
  have hc := split_count 10 s
  have hg := glue_split 10 s
  have hcl : s.count 10 ≤ s.length := List.count_le_length
  constructor
  · rintro rfl
    obtain ⟨m, hm, hL, ha, hck⟩ := parse_ok _ _ _ _ _ hn h
    rw [List.nil_append] at hm
    subst hm
    refine ⟨ha, ?_, hck, ?_⟩
    · rw [hL] at hc
      simpa using hc
    · rw [hL, glue_lines] at hg
      exact hg
  · intro he
    obtain ⟨q1, q2, q3, q4⟩ := parse_bad _ 0 [] l a e hn rfl (by omega) h he
    exact ⟨q1, q2, by omega, q4.imp id fun q => ⟨q.1, by omega⟩⟩
/-- All instructions are as they must be, and no value is too great. -/
def AllOk (l : List Op) : Prop := ∀ o ∈ l, coded o = true ∧ formed o l.length = true ∧ -9223372036854775808 ≤ o.vn ∧ o.vn ≤ 9223372036854775807
theorem wrongL_all (many : Int) : ∀ (l : List Op) (i : Int), 0 ≤ i → wrongL many l i < 0 → ∀ o ∈ l, right o many = true
  | [], _, _, _, o, ho => absurd ho (by simp)
  | x :: r, i, hi, h, o, ho => by
    rw [wrongL] at h
    split at h
    · rename_i hx
      rcases List.mem_cons.1 ho with rfl | ho
      · exact hx
      · exact wrongL_all many r (i + 1) (by omega) h o ho
    · omega
theorem check_all {l : List Op} (h : check l = 0) : l.length ≤ 8192 ∧ ∀ o ∈ l, right o l.length = true := by
  unfold check at h
  split at h
  · exact absurd h (by decide)
  · split at h
    · exact absurd h (by decide)
    · rename_i h1 h2
      exact ⟨by omega, wrongL_all _ l 0 (Int.le_refl _) (by rw [wrong] at h2; omega)⟩
theorem right_parts {o : Op} {many : Int} (h : right o many = true) : coded o = true ∧ formed o many = true := by
  unfold right at h
  simp only [Bool.and_eq_true] at h
  exact h.1
theorem split_lines : ∀ {l : List Op}, (∀ o ∈ l, (10 : UInt8) ∉ line o) → ∀ R : S, split 10 (lines l ++ R) = l.map line ++ split 10 R
  | [], _, R => rfl
  | o :: r, h, R => by
    have : lines (o :: r) ++ R = line o ++ 10 :: (lines r ++ R) := by simp [lines]
    rw [this, split_at (h o List.mem_cons_self), split_lines (fun q hq => h q (List.mem_cons_of_mem _ hq)) R]
    rfl
theorem parse_go : ∀ {m : List Op}, (∀ o ∈ m, unline (line o) = (o, true)) → ∀ (L : List S) (i : Int) (acc : List Op), L ≠ [] →
    parseL (m.map line ++ L) i acc = parseL L (i + m.length) (acc ++ m)
  | [], _, L, i, acc, _ => by simp
  | o :: r, h, L, i, acc, hL => by
    have ho := h o List.mem_cons_self
    have ih := parse_go (fun q hq => h q (List.mem_cons_of_mem _ hq)) L (i + 1) (acc ++ [o]) hL
    have hne : r.map line ++ L ≠ [] := by simp [hL]
    rw [List.map_cons, List.cons_append]
    cases hx : r.map line ++ L with
    | nil => exact absurd hx hne
    | cons t2 q =>
      rw [parseL, ho, ← hx]
      simp only [if_true]
      rw [ih]
      simp only [List.length_cons, List.append_assoc, List.cons_append, List.nil_append]
      congr 1
      omega
/-- What is printed is parsed to the same. -/
theorem parse_lines {l : List Op} (h : check l = 0) (hv : ∀ o ∈ l, -9223372036854775808 ≤ o.vn ∧ o.vn ≤ 9223372036854775807) (hs : (lines l).length ≤ 1048576) : parse (lines l) = (l, 0, 0) := by
  obtain ⟨hn, hr⟩ := check_all h
  have hu : ∀ o ∈ l, unline (line o) = (o, true) := fun o ho => unline_line (right_parts (hr o ho)).1 (right_parts (hr o ho)).2 (by omega) (hv o ho).1 (hv o ho).2
  have h10 : ∀ o ∈ l, (10 : UInt8) ∉ line o := fun o ho => (line_no (named_all (right_parts (hr o ho)).2)).1
  have hsp := split_lines h10 []
  rw [List.append_nil] at hsp
  unfold parse
  rw [if_neg (by omega), hsp, parse_go hu _ _ _ (split_nonil _ _), List.nil_append, show split 10 [] = [[]] from rfl, parseL, if_pos rfl, fin, if_neg (by omega), if_neg]
  unfold check at h
  rw [if_neg (by omega)] at h
  intro hw
  rw [if_pos hw] at h
  exact absurd h (by decide)
/-- A line with a '#' is told. -/
theorem parse_spoilt {l : List Op} (h : check l = 0) (hv : ∀ o ∈ l, -9223372036854775808 ≤ o.vn ∧ o.vn ≤ 9223372036854775807) (i : Nat) (hi : i < l.length) (a b : S) (hab : line l[i] = a ++ b)
    (hs : (lines (l.take i) ++ (a ++ 35 :: b ++ 10 :: lines (l.drop (i + 1)))).length ≤ 1048576) :
    parse (lines (l.take i) ++ (a ++ 35 :: b ++ 10 :: lines (l.drop (i + 1)))) = ([], (i : Int), 8) := by
  obtain ⟨hn, hr⟩ := check_all h
  have hu : ∀ o ∈ l, unline (line o) = (o, true) := fun o ho => unline_line (right_parts (hr o ho)).1 (right_parts (hr o ho)).2 (by omega) (hv o ho).1 (hv o ho).2
  have h10 : ∀ o ∈ l, (10 : UInt8) ∉ line o := fun o ho => (line_no (named_all (right_parts (hr o ho)).2)).1
  have hX : (10 : UInt8) ∉ a ++ 35 :: b := by
    have := h10 l[i] (List.getElem_mem hi)
    rw [hab] at this
    intro hm
    rcases List.mem_append.1 hm with hm | hm
    · exact this (List.mem_append.2 (.inl hm))
    · rcases List.mem_cons.1 hm with hm | hm
      · revert hm; decide
      · exact this (List.mem_append.2 (.inr hm))
  have hsp : split 10 (lines (l.take i) ++ (a ++ 35 :: b ++ 10 :: lines (l.drop (i + 1)))) = (l.take i).map line ++ ((a ++ 35 :: b) :: split 10 (lines (l.drop (i + 1)))) := by
    rw [split_lines (fun o ho => h10 o (List.mem_of_mem_take ho)), split_at hX]
  unfold parse
  rw [if_neg (by omega), hsp, parse_go (fun o ho => hu o (List.mem_of_mem_take ho)) _ _ _ (by simp)]
  have hne := split_nonil 10 (lines (l.drop (i + 1)))
  cases hx : split 10 (lines (l.drop (i + 1))) with
  | nil => exact absurd hx hne
  | cons t2 q =>
    rw [parseL, unline_35 (by simp)]
    simp only [Bool.false_eq_true, if_false, List.length_take, Nat.min_eq_left (Nat.le_of_lt hi), Int.zero_add]
end Ox
