/- tomelaw40.OpSpoilt returns true at any instructions and numbers: a line that bears a sign which stands in no line is told, with its number. Condition: the two laid tables, tied to the program's text by the given ties. -/
import Derived.Test.YtoekddkkjbcicaaDoorOqH
import Derived.WideKeyArgs
set_option linter.unusedVariables false
set_option linter.unusedSimpArgs false
namespace Go.Proofs.YtoekddkkjbcicaaDoor
open Go.RowKit
open Go.ChangeShapes Go.WideShapes Go.ChangeAt Go.ChangeMaps
attribute [local simp] Lx.bs_size
theorem wrap_mod {x n : Int} (hn : 0 < n) (hm : n ≤ 4611686018427387904) : ∃ J : Nat, wrap64 ((IntKind.u64.wrap x).tmod n) = (J : Int) ∧ (J : Int) < n := by
  have h0 : 0 ≤ IntKind.u64.wrap x := by
    have := Go.wf_wrap .u64 x
    have hm : IntKind.u64.min = 0 := by decide
    simp [Lit.wf, hm] at this
    omega
  have h1 := Int.tmod_nonneg n h0
  have h2 := Int.tmod_lt_of_pos (IntKind.u64.wrap x) hn
  generalize (IntKind.u64.wrap x).tmod n = y at h1 h2 ⊢
  refine ⟨y.toNat, ?_, by omega⟩
  rw [Int.toNat_of_nonneg h1]
  unfold wrap64
  omega
theorem lines_len {l : List Ox.Op} (h : ∀ o ∈ l, (Ox.line o).length ≤ 2900) : (Ox.lines l).length ≤ 2901 * l.length := by
  induction l with
  | nil => simp [Ox.lines]
  | cons o r ih =>
    have h1 := ih (fun q hq => h q (List.mem_cons_of_mem _ hq))
    have h2 := h o List.mem_cons_self
    have e : Ox.lines (o :: r) = (Ox.line o ++ [10]) ++ Ox.lines r := rfl
    rw [e]
    simp only [List.length_append, List.length_cons, List.length_nil]
    omega
theorem lines_snoc (l : List Ox.Op) (o : Ox.Op) : Ox.lines (l ++ [o]) = Ox.lines l ++ (Ox.line o ++ [10]) := by simp [Ox.lines]
theorem take_snoc {l : List Ox.Op} {k : Nat} (h : k < l.length) : l.take (k + 1) = l.take k ++ [l[k]] := by rw [List.take_succ_eq_append_getElem h]
/-- What the law has written behind k lines, the J-th of them spoilt. -/
def spoilT (l : List Ox.Op) (J : Nat) (a b : Ox.S) (k : Nat) : Ox.S :=
  if k ≤ J then Ox.lines (l.take k) else Ox.lines (l.take J) ++ (a ++ 35 :: b ++ 10 :: Ox.lines ((l.take k).drop (J + 1)))
theorem spoil_step {l : List Ox.Op} {J k : Nat} {a b : Ox.S} (h : k < l.length) : spoilT l J a b (k + 1) = spoilT l J a b k ++ ((if k = J then a ++ 35 :: b else Ox.line l[k]) ++ [10]) := by
  unfold spoilT
  rcases Nat.lt_trichotomy k J with hk | rfl | hk
  · rw [if_pos (by omega), if_pos (by omega), if_neg (by omega), take_snoc h, lines_snoc]
  · rw [if_neg (by omega), if_pos (Nat.le_refl _), if_pos rfl, List.drop_eq_nil_of_le (by rw [List.length_take]; omega)]
    simp [Ox.lines]
  · rw [if_neg (by omega), if_neg (by omega), if_neg (by omega), take_snoc h, List.drop_append_of_le_length (by rw [List.length_take]; omega), lines_snoc]
    simp
theorem spoilT_len {l : List Ox.Op} {J : Nat} {a b : Ox.S} (h : ∀ o ∈ l, (Ox.line o).length ≤ 2900) (hab : (a ++ b).length ≤ 2900) : ∀ k, k ≤ l.length → (spoilT l J a b k).length ≤ 2902 * k
  | 0, _ => by simp [spoilT, Ox.lines]
  | k + 1, hk => by
    have ih := spoilT_len (J := J) h hab k (by omega)
    rw [spoil_step (by omega)]
    have h2 := h l[k] (List.getElem_mem (by omega))
    simp only [List.length_append] at hab
    simp only [List.length_append, List.length_cons, List.length_nil]
    split
    · simp only [List.length_append, List.length_cons]; omega
    · omega
theorem split_spoilt {l : List Ox.Op} {J : Nat} {a b : Ox.S} (h10 : ∀ o ∈ l, (10 : UInt8) ∉ Ox.line o) (hX : (10 : UInt8) ∉ a ++ 35 :: b) :
    Ox.split 10 (Ox.lines (l.take J) ++ (a ++ 35 :: b ++ 10 :: Ox.lines (l.drop (J + 1)))) = (l.take J).map Ox.line ++ ((a ++ 35 :: b) :: ((l.drop (J + 1)).map Ox.line ++ [[]])) := by
  have h2 := Ox.split_lines (fun o ho => h10 o (List.mem_of_mem_drop ho) : ∀ o ∈ l.drop (J + 1), (10 : UInt8) ∉ Ox.line o) []
  rw [List.append_nil] at h2
  rw [Ox.split_lines (fun o ho => h10 o (List.mem_of_mem_take ho)), Ox.split_at hX, h2]
  rfl
theorem cat_s (X : Ox.S) (j : Nat) (hj : j ≤ X.length) : (Lx.bs X).extract 0 j ++ Lx.bs [35] ++ (Lx.bs X).extract j X.length = Lx.bs (X.take j ++ 35 :: X.drop j) := by
  rw [Lx.extract_bs, Lx.extract_bs, Lx.ls_bs, ← cat2, ← cat2]
  congr 1
  rw [List.drop_zero, Nat.sub_zero, List.take_of_length_le (l := X.drop j) (by rw [List.length_drop]; omega)]
  simp
set_option maxRecDepth 100000 in
set_option maxHeartbeats 4000000 in
theorem opSpoilt_great (v : Value) (L : List OV) (i at_ : Int) (w : World) (hl : Laid w) (hat : OpsAt w v L) (hn : L.length ≤ maxLen) (hg : greatL (L.map (·.1)) 0 = true) :
    Calls Tryd.prog 5 #[v, .int .i64 i, .int .i64 at_] w fun e w' => e = .returned (.bool true) ∧ Below w.heap.size w w' := by
  have HL := Lib.hid hl
  have HAT := Lib.hid hat
  have HG := Lib.hid hg
  clear hl hat hg
  go_enter Tryd.func5, Tryd.ntmps5
  go_wp2_with fail
  refine (exAwake_any _ HL.out).mono ?_
  rintro e w1 ⟨rfl, hb1⟩
  have hl1 := laid_keep HL.out hb1
  have hops1 := ops_keep HAT.out hb1
  go_wp2_with fail
  refine (great_any _ L _ hops1 hn).mono ?_
  rintro e w2 ⟨rfl, rfl⟩
  rw [HG.out]
  go_wp2_with fail
  refine (exAwake_any _ hl1).mono ?_
  rintro e w3 ⟨rfl, hb3⟩
  have hB := below_next (w := w) hb1 hb3
  go_wp2
  go_ret
  exact ⟨rfl, hB⟩
set_option maxRecDepth 100000 in
set_option maxHeartbeats 4000000 in
theorem opSpoilt_none (v : Value) (i at_ : Int) (w : World) (hl : Laid w) (hat : OpsAt w v []) :
    Calls Tryd.prog 5 #[v, .int .i64 i, .int .i64 at_] w fun e w' => e = .returned (.bool true) ∧ Below w.heap.size w w' := by
  obtain ⟨va, vc, rfl⟩ : ∃ a c, v = .slice a 0 c := by
    rcases hat.2 with ⟨_, a, c, h⟩ | ⟨b, off, c, h, _⟩
    · exact ⟨a, c, h⟩
    · exact ⟨_, _, h⟩
  have HL := Lib.hid hl
  have HAT := Lib.hid hat
  clear hl hat
  go_enter Tryd.func5, Tryd.ntmps5
  go_wp2_with fail
  refine (exAwake_any _ HL.out).mono ?_
  rintro e w1 ⟨rfl, hb1⟩
  have hl1 := laid_keep HL.out hb1
  have hops1 := ops_keep HAT.out hb1
  go_wp2_with fail
  refine (great_any _ [] _ hops1 (by simp)).mono ?_
  rintro e w2 ⟨rfl, rfl⟩
  rw [show greatL (([] : List OV).map (·.1)) 0 = false from rfl]
  go_wp2_with fail
  refine (exAwake_any _ hl1).mono ?_
  rintro e w3 ⟨rfl, hb3⟩
  have hB := below_next (w := w) hb1 hb3
  go_wp2
  go_ret
  exact ⟨rfl, hB⟩
set_option maxRecDepth 100000 in
set_option maxHeartbeats 4000000 in
theorem opSpoilt_bad (v : Value) (L : List OV) (i at_ : Int) (w : World) (hl : Laid w) (hat : OpsAt w v L) (hv : ∀ p ∈ L, I64 p.1.vn) (hg : greatL (L.map (·.1)) 0 = false) (h0 : L ≠ []) (hc : Ox.check (L.map (·.1)) ≠ 0) :
    Calls Tryd.prog 5 #[v, .int .i64 i, .int .i64 at_] w fun e w' => e = .returned (.bool true) ∧ Below w.heap.size w w' := by
  obtain ⟨n, hnn⟩ : ∃ n, n = L.length := ⟨_, rfl⟩
  obtain ⟨va, vc, rfl⟩ : ∃ a c, v = .slice a n c := by
    rcases hat.2 with ⟨h, _⟩ | ⟨b, off, c, h, _⟩
    · exact absurd h h0
    · exact ⟨_, _, by rw [hnn]; exact h⟩
  have hsm := small_of hg
  have hfits := fits_small hsm hv
  have hn300 : L.length ≤ 300 := hsm.1
  have hn0 : 0 < n := by rw [hnn]; exact List.length_pos_iff.2 h0
  have dn : ((n : Int) == 0) = false := by simp; omega
  obtain ⟨ck, hck⟩ : ∃ ck, ck = Ox.check (L.map (·.1)) := ⟨_, rfl⟩
  rw [← hck] at hc
  have dc : (ck != 0) = true := by simpa using hc
  have HL := Lib.hid hl
  have HAT := Lib.hid hat
  have HG := Lib.hid hg
  have HCK := Lib.hid hck
  have HF := Lib.hid hfits
  clear hl hat hg hc hck hv hsm hfits h0 hnn
  go_enter Tryd.func5, Tryd.ntmps5
  go_wp2_with fail
  refine (exAwake_any _ HL.out).mono ?_
  rintro e w1 ⟨rfl, hb1⟩
  have hl1 := laid_keep HL.out hb1
  have hops1 := ops_keep HAT.out hb1
  go_wp2_with fail
  refine (great_any _ L _ hops1 (by simp only [maxLen]; omega)).mono ?_
  rintro e w2 ⟨rfl, rfl⟩
  rw [HG.out]
  go_wp2_with fail
  refine (rCheck_any _ L _ hops1 HF.out (by omega)).mono ?_
  rintro e w3 ⟨rfl, hb3⟩
  rw [← HCK.out]
  have hB3 := below_next (w := w) hb1 hb3
  have hl3 := laid_keep hl1 hb3
  go_wp2_with fail
  refine (exAwake_any _ hl3).mono ?_
  rintro e w4 ⟨rfl, hb4⟩
  have hB := below_next hB3 hb4
  go_wp2
  go_ret
  exact ⟨rfl, hB⟩
set_option maxRecDepth 100000 in
set_option maxHeartbeats 4000000 in
theorem opSpoilt_main (v : Value) (L : List OV) (i at_ : Int) (w : World) (hl : Laid w) (hat : OpsAt w v L) (hv : ∀ p ∈ L, I64 p.1.vn) (hg : greatL (L.map (·.1)) 0 = false) (h0 : L ≠ []) (hc : Ox.check (L.map (·.1)) = 0) (hi : I64 i) (ha : I64 at_) :
    Calls Tryd.prog 5 #[v, .int .i64 i, .int .i64 at_] w fun e w' => e = .returned (.bool true) ∧ Below w.heap.size w w' := by
  obtain ⟨n, hnn⟩ : ∃ n, n = L.length := ⟨_, rfl⟩
  obtain ⟨b, off, c, rfl, hb, hcc, hcm, hx⟩ : ∃ b off c, v = .slice (some ⟨b, off, none⟩) n c ∧ b < w.heap.size ∧ n ≤ c ∧ c ≤ maxLen ∧ ∀ j u, (L.flatMap ocells)[j]? = some u → w.cell? ⟨b, off + j, none⟩ = some u := by
    rcases hat.2 with ⟨h, _⟩ | ⟨b, off, c, h1, h2, h3, h4, h5⟩
    · exact absurd h h0
    · exact ⟨b, off, c, by rw [hnn]; exact h1, h2, by rw [hnn]; exact h3, h4, h5⟩
  have hsm := small_of hg
  have hfits := fits_small hsm hv
  have hn300 : n ≤ 300 := by rw [hnn]; exact hsm.1
  have hn0 : 0 < n := by rw [hnn]; exact List.length_pos_iff.2 h0
  have dn : ((n : Int) == 0) = false := by simp; omega
  have hall : ∀ p ∈ L, Ox.right p.1 (n : Int) = true := by
    have h := (Ox.check_all hc).2
    intro p hp
    have := h p.1 (List.mem_map_of_mem hp)
    rw [hnn]; simpa using this
  have HN := Lib.hid hnn
  have HL := Lib.hid hl
  have HAT := Lib.hid hat
  have HG := Lib.hid hg
  have HCK := Lib.hid hc
  have HF := Lib.hid hfits
  have HALL := Lib.hid hall
  have HSM := Lib.hid hsm
  have HX := Lib.hid hx
  have HV := Lib.hid hv
  have HI := Lib.hid hi
  have HA := Lib.hid ha
  clear hl hat hg hc hv hsm hfits h0 hnn hall hx hi ha
  go_enter Tryd.func5, Tryd.ntmps5
  go_wp2_with fail
  refine (exAwake_any _ HL.out).mono ?_
  rintro e w1 ⟨rfl, hb1⟩
  have hl1 := laid_keep HL.out hb1
  have hops1 := ops_keep HAT.out hb1
  go_wp2_with fail
  refine (great_any _ L _ hops1 (by rw [← HN.out]; simp only [maxLen]; omega)).mono ?_
  rintro e w2 ⟨rfl, rfl⟩
  rw [HG.out]
  go_wp2_with fail
  refine (rCheck_any _ L _ hops1 HF.out (by rw [← HN.out]; omega)).mono ?_
  rintro e w3 ⟨rfl, hb3⟩
  rw [HCK.out]
  have hB3 := below_next (w := w) hb1 hb3
  have hl3 := laid_keep hl1 hb3
  obtain ⟨J, hJ, hJn⟩ := wrap_mod (x := i) (n := (n : Int)) (by omega) (by omega)
  obtain ⟨l, hl9⟩ : ∃ l, l = L.map (·.1) := ⟨_, rfl⟩
  have hll : l.length = n := by rw [hl9, List.length_map, HN.out]
  have hshort : ∀ o ∈ l, (Ox.line o).length ≤ 2900 := by
    intro o ho
    rw [hl9] at ho
    obtain ⟨p, hp, rfl⟩ := List.mem_map.1 ho
    obtain ⟨s1, _, s3⟩ := HSM.out.2 p hp
    exact line_short (by omega) (HALL.out p hp) s1 s3 (HV.out p hp)
  have hJl : J < l.length := by omega
  obtain ⟨X, hX⟩ : ∃ X, X = Ox.line l[J] := ⟨_, rfl⟩
  have hXl : X.length ≤ 2900 := by rw [hX]; exact hshort _ (List.getElem_mem hJl)
  obtain ⟨jj, hjj, hjjn⟩ := wrap_mod (x := at_) (n := (X.length : Int) + 1) (by omega) (by omega)
  have hjx : jj ≤ X.length := by omega
  obtain ⟨A, hA⟩ : ∃ A, A = X.take jj := ⟨_, rfl⟩
  obtain ⟨B, hB⟩ : ∃ B, B = X.drop jj := ⟨_, rfl⟩
  have hAB : X = A ++ B := by rw [hA, hB, List.take_append_drop]
  have hABl : (A ++ B).length ≤ 2900 := by rw [← hAB]; exact hXl
  have HL9 := Lib.hid hl9
  have HJ := Lib.hid hJ
  have HXE := Lib.hid hX
  have HJJ := Lib.hid hjj
  have HAE := Lib.hid hA
  have HBE := Lib.hid hB
  have HAB := Lib.hid hAB
  have HSH := Lib.hid hshort
  have HABL := Lib.hid hABl
  have HLL := Lib.hid hll
  clear hl9 hJ hX hjj hA hB hAB hshort hABl hll
  go_wp2_with fail
  rw [HJ.out]
  have hJn' : (J : Int) < (n : Int) := hJn
  refine (rPrint_any _ [] _ ⟨(by intro p hp; cases hp), .inl ⟨rfl, _, _, rfl⟩⟩ (by intro p hp; cases hp) (by simp)).mono ?_
  rintro e w4 ⟨rfl, hb4⟩
  rw [show Ox.print (([] : List OV).map (·.1)) = [] from rfl]
  have hB4 := below_next hB3 hb4
  have hops4 := ops_keep (ops_keep hops1 hb3) hb4
  have hl4 := laid_keep hl3 hb4
  have HB4 := Lib.hid hB4
  have HO4 := Lib.hid hops4
  have HL4 := Lib.hid hl4
  have hbw4 : b < w4.heap.size := Nat.lt_of_lt_of_le hb hB4.size
  have HX4 : Hid (∀ j u, (L.flatMap ocells)[j]? = some u → w4.cell? ⟨b, off + j, none⟩ = some u) := Lib.hid (fun j u hu => (hB4.cell (p := ⟨b, off + j, none⟩) hb).trans (HX.out j u hu))
  clear hB3 hl1 hops1 hb1 hb3 hb4 hB4 hops4 hl4 hl3
  go_wp2
  go_loopw [7, 8, 9, 10] (fun sv kv _ _ wr => ∃ (k : Nat) (acc : Ox.S), k ≤ n ∧ kv = .int .i64 k ∧ sv = .string (Lx.bs acc) ∧ acc.length ≤ 2902 * k ∧ Below w4.heap.size w4 wr ∧ Hid (acc = spoilT l J A B k)) (fun _ kv _ _ _ => n - (intOf kv).toNat)
  case atStart => exact ⟨0, [], by omega, rfl, rfl, by simp, Below.refl _ _, Lib.hid (by simp [spoilT, Ox.lines])⟩
  case round =>
    obtain ⟨k, acc, hk, rfl, rfl, hal, hbw, HK⟩ := hrel
    by_cases hlt : k < n
    · obtain ⟨t, ht⟩ : ∃ t, L[k]? = some t := ⟨_, List.getElem?_eq_getElem (by rw [← HN.out]; exact hlt)⟩
      have hcell : ∀ j u, j < 9 → (ocells t)[j]? = some u → wr.cell? ⟨b, off + (k * 9 + j), none⟩ = some u := fun j u hj hu => (hbw.cell (p := ⟨b, off + (k * 9 + j), none⟩) hbw4).trans (HX4.out _ _ ((oflat_at ht hj).trans hu))
      have hkat := kat_keep (HO4.out.1 t (List.mem_of_getElem? ht)) hbw
      have hfit := HF.out t (List.mem_of_getElem? ht)
      have hrt := HALL.out t (List.mem_of_getElem? ht)
      have hkl : k < l.length := by rw [HLL.out]; exact hlt
      have hlk : l[k] = t.1 := by
        have h1 : l[k]? = some t.1 := by rw [HL9.out, List.getElem?_map, ht]; rfl
        exact (List.getElem?_eq_some_iff.1 h1).2
      have hsh := HSH.out _ (List.getElem_mem hkl)
      have hst := spoil_step (l := l) (J := J) (k := k) (a := A) (b := B) hkl
      rw [hlk] at hst hsh
      obtain ⟨o, kv⟩ := t
      simp only at hst hkat hfit hrt hsh
      obtain ⟨ka, kn, kc, rfl⟩ := kat_form hkat
      have a0 : wr.cell? ⟨b, off + k * 9, none⟩ = some (.int .i64 o.code) := hcell 0 _ (by omega) rfl
      have a1 : wr.cell? ⟨b, off + k * 9 + 1, none⟩ = some (.int .i64 o.p1) := hcell 1 _ (by omega) rfl
      have a2 : wr.cell? ⟨b, off + k * 9 + 2, none⟩ = some (.int .i64 o.p2) := hcell 2 _ (by omega) rfl
      have a3 : wr.cell? ⟨b, off + k * 9 + 3, none⟩ = some (.int .i64 o.p3) := hcell 3 _ (by omega) rfl
      have a4 : wr.cell? ⟨b, off + k * 9 + 4, none⟩ = some (.int .i64 o.vk) := hcell 4 _ (by omega) rfl
      have a5 : wr.cell? ⟨b, off + k * 9 + 5, none⟩ = some (.int .i64 o.vn) := hcell 5 _ (by omega) rfl
      have a6 : wr.cell? ⟨b, off + k * 9 + 6, none⟩ = some (.string (Lx.bs o.vs)) := hcell 6 _ (by omega) rfl
      have a7 : wr.cell? ⟨b, off + k * 9 + 7, none⟩ = some (.slice ka kn kc) := hcell 7 _ (by omega) rfl
      have a8 : wr.cell? ⟨b, off + k * 9 + 8, none⟩ = some (.string (Lx.bs o.name)) := hcell 8 _ (by omega) rfl
      have hbwr : b < wr.heap.size := Nat.lt_of_lt_of_le hbw4 hbw.size
      obtain ⟨hco, hfo⟩ := Ox.right_parts hrt
      have hof := fit_right (by omega) hrt hfit
      obtain ⟨Y, hY⟩ : ∃ Y, Y = Ox.line o := ⟨_, rfl⟩
      have hYl : Y.length ≤ 2900 := by rw [hY]; exact hsh
      rw [← hY] at hst
      have HY := Lib.hid hY
      have HCO := Lib.hid hco
      have HFO := Lib.hid hfo
      have HOF := Lib.hid hof
      clear hcell hfit hrt hco hfo hof hsh hY
      by_cases hkJ : k = J
      · have dJ : ((k : Int) == (J : Int)) = true := by simp; omega
        rw [if_pos hkJ] at hst
        have HK' : Hid (acc ++ ((A ++ 35 :: B) ++ [10]) = spoilT l J A B (k + 1)) := Lib.hid (by rw [hst, ← HK.out])
        have hYX : Y = X := by
          rw [HY.out, HXE.out]
          have h1 : l[k] = o := hlk
          rw [← h1]
          congr 1
          exact getElem_congr rfl hkJ hkl
        subst hYX
        clear hst hkJ hlk ht
        go_wp2_with fail
        refine (rLine_any o (.slice ka kn kc) (n : Int) _ hkat HCO.out HFO.out HOF.out).mono ?_
        rintro e w5 ⟨rfl, hb5⟩
        rw [← HY.out]
        have hB5 := below_next hbw hb5
        go_wp2
        rw [HJJ.out]
        have hjx2 : (jj : Int) ≤ (Y.length : Int) := by omega
        go_region
        all_goals
          go_wp2
          go_roundw
          case rel =>
            have hcat : (Lx.bs Y).extract 0 jj ++ Lx.bs [35] ++ (Lx.bs Y).extract jj (List.length Y) = Lx.bs (A ++ 35 :: B) := by rw [HAE.out, HBE.out]; exact cat_s Y jj hjx
            have hal2 : (acc ++ ((A ++ 35 :: B) ++ [10])).length ≤ 2902 * (k + 1) := by
              have := HABL.out
              simp only [List.length_append] at this
              simp only [List.length_append, List.length_cons, List.length_nil]
              omega
            exact ⟨k + 1, acc ++ ((A ++ 35 :: B) ++ [10]), by omega, by go_num, congrArg Value.string ((congrArg (fun z => Lx.bs acc ++ z ++ Lx.bs [10]) hcat).trans (cat_n acc (A ++ 35 :: B))), hal2, hB5.drew, HK'⟩
          case measure => simp [intOf]; omega
      · have dJ : ((k : Int) == (J : Int)) = false := by simp; omega
        rw [if_neg hkJ] at hst
        have HK' : Hid (acc ++ (Y ++ [10]) = spoilT l J A B (k + 1)) := Lib.hid (by rw [hst, ← HK.out])
        clear hst hkJ hlk ht
        go_wp2_with fail
        refine (rLine_any o (.slice ka kn kc) (n : Int) _ hkat HCO.out HFO.out HOF.out).mono ?_
        rintro e w5 ⟨rfl, hb5⟩
        rw [← HY.out]
        have hB5 := below_next hbw hb5
        go_wp2
        go_roundw
        case rel => exact ⟨k + 1, acc ++ (Y ++ [10]), by omega, by go_num, congrArg Value.string (cat_n acc Y), by simp only [List.length_append, List.length_cons, List.length_nil]; omega, hB5, HK'⟩
        case measure => simp [intOf]; omega
    · obtain rfl : k = n := by omega
      have hacc : acc = Ox.lines (l.take J) ++ (A ++ 35 :: B ++ 10 :: Ox.lines (l.drop (J + 1))) := by
        rw [HK.out, spoilT, if_neg (by omega), show l.take k = l from List.take_of_length_le (by rw [HLL.out]; exact Nat.le_refl _)]
      have hck : Ox.check l = 0 := by rw [HL9.out]; exact HCK.out
      have hvl : ∀ o ∈ l, -9223372036854775808 ≤ o.vn ∧ o.vn ≤ 9223372036854775807 := by
        intro o ho
        rw [HL9.out] at ho
        obtain ⟨p, hp, rfl⟩ := List.mem_map.1 ho
        exact HV.out p hp
      have hr10 : ∀ o ∈ l, (10 : UInt8) ∉ Ox.line o := by
        intro o ho
        rw [HL9.out] at ho
        obtain ⟨p, hp, rfl⟩ := List.mem_map.1 ho
        exact (Ox.line_no (Ox.named_all (Ox.right_parts (HALL.out p hp)).2)).1
      have hline : Ox.line l[J] = A ++ B := by rw [← HXE.out]; exact HAB.out
      have hX10 : (10 : UInt8) ∉ A ++ 35 :: B := by
        have h1 := hr10 _ (List.getElem_mem hJl)
        rw [hline] at h1
        intro hm
        rcases List.mem_append.1 hm with hm | hm
        · exact h1 (List.mem_append.2 (.inl hm))
        · rcases List.mem_cons.1 hm with hm | hm
          · revert hm; decide
          · exact h1 (List.mem_append.2 (.inr hm))
      have hsz : acc.length ≤ 1048576 := by omega
      have hpar : Ox.parse acc = ([], (J : Int), 8) := by
        rw [hacc]
        exact Ox.parse_spoilt hck hvl J hJl A B hline (by rw [← hacc]; exact hsz)
      have hlnn : ∀ t ∈ Ox.split 10 acc, t.length ≤ 80000 := by
        intro t ht
        rw [hacc, split_spoilt hr10 hX10] at ht
        have hsh := HSH.out
        have hab := HABL.out
        rcases List.mem_append.1 ht with ht | ht
        · obtain ⟨o, ho, rfl⟩ := List.mem_map.1 ht
          have := hsh o (List.mem_of_mem_take ho)
          omega
        · rcases List.mem_cons.1 ht with rfl | ht
          · simp only [List.length_append, List.length_cons] at hab ⊢
            omega
          · rcases List.mem_append.1 ht with ht | ht
            · obtain ⟨o, ho, rfl⟩ := List.mem_map.1 ht
              have := hsh o (List.mem_of_mem_drop ho)
              omega
            · rw [List.mem_singleton] at ht
              subst ht
              simp
      have HPAR := Lib.hid hpar
      have hl5 := laid_keep HL4.out hbw
      have hB5 := below_next HB4.out hbw
      have hP := parse_any (Lx.bs acc) wr hl5 (by rw [Lx.bs_size]; exact hsz) (by rw [Lx.ls_bs]; exact hlnn)
      rw [Lx.ls_bs, hpar] at hP
      have HPP := Lib.hid hP
      clear hacc hck hvl hr10 hline hX10 hpar hlnn hl5 hP HPAR
      go_wp2_with fail
      refine Calls.mono HPP.out ?_
      rintro e w6 ⟨v9, L9, he, hops9, _, hL9, hb6⟩
      simp only at he hL9
      subst he
      have h9 : L9 = [] := List.map_eq_nil_iff.1 hL9
      subst h9
      obtain ⟨va, vc, rfl⟩ : ∃ a c, v9 = .slice a 0 c := by
        rcases hops9.2 with ⟨_, a, c, h⟩ | ⟨b, off, c, h, _⟩
        · exact ⟨a, c, h⟩
        · exact ⟨_, _, h⟩
      have hB6 := below_next hB5 hb6
      clear hops9 hL9 hb6 hB5
      go_wp2
      go_ret
      exact ⟨rfl, hB6⟩
theorem opSpoilt_any (v : Value) (L : List OV) (i at_ : Int) (w : World) (hl : Laid w) (hat : OpsAt w v L) (hn : L.length ≤ maxLen) (hv : ∀ p ∈ L, I64 p.1.vn) (hi : I64 i) (ha : I64 at_) :
    Calls Tryd.prog 5 #[v, .int .i64 i, .int .i64 at_] w fun e w' => e = .returned (.bool true) ∧ Below w.heap.size w w' := by
  cases hg : greatL (L.map (·.1)) 0 with
  | true => exact opSpoilt_great v L i at_ w hl hat hn hg
  | false =>
    by_cases h0 : L = []
    · subst h0; exact opSpoilt_none v i at_ w hl hat
    · by_cases hc : Ox.check (L.map (·.1)) = 0
      · exact opSpoilt_main v L i at_ w hl hat hv hg h0 hc hi ha
      · exact opSpoilt_bad v L i at_ w hl hat hv hg h0 hc
set_option maxRecDepth 100000 in
theorem opSpoilt_lifted (os : Os) (started : os.Started) (H : Type) (enc : TypeId × Value → H) :
    ReturnsInHanded {} Tryd.checked os 5 .any (fun w args => (Rows.opSpoiltSpec.pre enc Tryd.prog Tryd.f5 [] false w args ∧ laidMetH Tryd.prog laidL w) ∧ sizedMet enc Tryd.prog Tryd.f5 (OpenSpec.ofChange Rows.opSpoiltSpec) false w args)
      (Rows.opSpoiltSpec.post enc Tryd.prog Tryd.f5 false true false false) := by
  refine returnsInHanded_of_change_and (C := Tryd.checked) (X := fun w _ => laidMetH Tryd.prog laidL w) (fun _ _ _ hh h => h.of_heap hh) opOwn_ started (by kernel_rfl) Tryd.func5
    (ChangeSpec.witness_shaped (enc := enc) (C := Tryd.checked) (os := os) (X := fun w _ => laidMetH Tryd.prog laidL w) false (World.doorLaid Tryd.prog 400 os) #[.slice none 0 0, .int .i64 0, .int .i64 0] 8 rfl (World.shaped_of_RefB (by kernel_rfl) (by kernel_rfl)) (by kernel_rfl) (by kernel_rfl) (by kernel_rfl) (door_met os _)) ?_
  intro W base args ds gs before hval0 hW _ _ hLd _
  have hval : ∀ (j : Nat) t v, Tryd.f5.params[j]? = some t → args[j]? = some v → Value.okWide Tryd.prog W .any base t v := hval0
  have hW' := hW
  obtain ⟨p, q, hA0, hV, rfl, hfz, hnd⟩ := hW
  have hA : DataW.TrodAll enc Tryd.prog W 0 (fun _ => true) true Tryd.f5.params.toList args.toList ds p := hA0
  rw [Tryd.params5] at hA hval
  obtain ⟨v0, vs0, d0, ds0, p0, q0, hargs, rfl, rfl, h0, r0⟩ := trodAll_cons hA
  obtain ⟨v1, vs1, d1, ds1, p1, q1, rfl, rfl, rfl, h1, r1⟩ := trodAll_cons r0
  obtain ⟨v2, vs2, d2, ds2, p2, q2, rfl, rfl, rfl, h2, r2⟩ := trodAll_cons r1
  obtain ⟨rfl, rfl, rfl⟩ := trodAll_nil r2
  obtain rfl : args = #[v0, v1, v2] := by cases args; simp_all
  obtain ⟨rfl, rfl⟩ := trodVars_none hV
  obtain ⟨i, rfl, rfl, rfl, wi⟩ := open_int Tryd.underlying3 (hval 1 3 v1 rfl rfl) h1
  obtain ⟨a, rfl, rfl, rfl, wa⟩ := open_int Tryd.underlying3 (hval 2 3 v2 rfl rfl) h2
  obtain ⟨sa, sn, sc, rfl⟩ := okWide_slice Tryd.underlying25 (hval 0 25 v0 rfl rfl)
  obtain ⟨n0, hn0⟩ := h0
  obtain ⟨v, L, hcs, hops, hvn, hlen⟩ := ops_of hn0
  simp [Value.cells] at hcs
  subst hcs
  have hl := laid_of hLd
  clear hA0 hval0
  simp only [List.append_nil] at hW'
  have hlt := hW'.lt
  refine (opSpoilt_any _ L i a W hl hops hlen hvn (bounds_i64 wi) (bounds_i64 wa)).mono fun e W' ⟨he, hg⟩ => ?_
  subst he
  exact ⟨_, rfl, post_below (pa := p0) (pv := []) hW' (fun _ _ _ => (trodAll_cons_mk (shut_bool Tryd.underlying4 _) trodAll_mk0))
    (fun sp hsp => by
      have h := trodAll_cons_mk (Go.WideElems.Trod_stays (by kernel_rfl) (by kernel_rfl) (of_decide_eq_true (by kernel_rfl)) ⟨n0, hn0⟩ (fun p hp => hg.same (hlt p hp)) (fun p hp => hsp p hp)) (trodAll_cons_mk (shut_int Tryd.underlying3 wi) (trodAll_cons_mk (shut_int Tryd.underlying3 wa) trodAll_mk0))
      simp only [List.append_nil] at h
      exact h)
    (fun _ _ => rfl) (by simp) hg (ok_one (by kernel_rfl) rfl (okWide_bool_mk Tryd.underlying4 _))⟩
theorem opSpoilt_row : Rows.OpSpoiltSaid :=
  OpenClaim.holds_of_wide 5 Tryd.f5 rfl rfl rfl rfl rfl rfl rfl ⟨rfl, rfl, rfl, rfl, rfl⟩ rfl rfl rfl rfl rfl (by kernel_rfl) Tryd.func5 (by kernel_rfl)
    (of_decide_eq_true (by kernel_rfl)) (by unfold Func.isWrapper; first | (rw [if_pos (by decide +kernel)]; kernel_rfl) | (rw [if_neg (by decide +kernel)]; exact ⟨rfl, rfl⟩))
    (fun os started H enc _ => opSpoilt_lifted os started H enc)
theorem opSpoilt_card : Rows.OpSpoiltCardSaid :=
  Claim7.holds_tied_plain_at .later [] [.data, .data] true _ false
    opSpoilt_row (fun _ h => by cases h) (by kernel_rfl) (fun _ h => by cases h) opSpoilt_row_tie rfl ⟨rfl, rfl⟩ (by kernel_rfl) rfl
    (fun f fn hf hfn => by
      obtain rfl : f = 5 := Option.some.inj ((show Tryd.prog.funcNamed "tome/tomelaw40.OpSpoilt" = some 5 by kernel_rfl).symm.trans hf) |>.symm
      obtain rfl : fn = Tryd.f5 := (Option.some.inj (Tryd.func5.symm.trans hfn)).symm
      exact ⟨by kernel_rfl, fun j t ht => by
        rw [Tryd.params5] at ht
        have hm : t ∈ [25, 3, 3] := by simpa using Array.mem_of_getElem? ht
        have hall : ([25, 3, 3].all fun u => !Tryd.prog.wantsStandIn u) = true := by kernel_rfl
        exact (show Tryd.prog.wantsStandIn t = false by simpa using List.all_eq_true.1 hall t hm)⟩)
    (by kernel_rfl)
#print axioms opSpoilt_card
end Go.Proofs.YtoekddkkjbcicaaDoor
