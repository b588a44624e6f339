import Derived.Test.YtoekddkkjbcicaaDoorOqA
import Derived.Test.YtoekddkkjbcicaaDoorOqC
set_option linter.unusedVariables false
set_option linter.unusedSimpArgs false
namespace Go.Proofs.YtoekddkkjbcicaaDoor
open Go.RowKit
attribute [local simp] Lx.bs_size
theorem check4_valued (k : UInt8) (hk : k.toNat = 118) (vk vn : Int) (vs : Ox.S) : (check4 vk vn vs == 0) = Ox.valued k vk vn vs := by
  unfold check4 Ox.valued
  rw [if_pos hk, Bool.eq_iff_iff]
  by_cases h0 : vs = []
  · subst h0
    simp only [List.length_nil, Nat.zero_le, if_true, decide_true, decide_false, Bool.or_true, Bool.and_true, Bool.and_false, ne_eq, not_true_eq_false, Bool.or_false]
    split
    · rename_i h
      simp at h ⊢
      omega
    · rename_i h
      simp at h ⊢
      omega
  · have h1 : decide (vs = []) = false := decide_eq_false h0
    have h2 : decide (vs ≠ []) = true := decide_eq_true h0
    rw [h1, h2]
    simp only [Bool.or_false, Bool.and_true]
    split
    · rename_i h
      split
      · rename_i h3
        simp at h ⊢
        omega
      · rename_i h3
        simp at h ⊢
        omega
    · rename_i h
      simp at h ⊢
      omega
set_option maxHeartbeats 2000000 in
theorem r40value_any (k : UInt8) (vk vn : Int) (vs : Ox.S) (w : World) :
    Calls Tryd.prog 37 #[.int .u8 k.toNat, .agg #[.int .i64 vk, .int .i64 vn, .string (Lx.bs vs)]] w fun e w' => e = .returned (.bool (Ox.valued k vk vn vs)) ∧ Below w.heap.size w w' := by
  by_cases hk : k.toNat = 118
  · have d0 : ((k.toNat : Int) == 118) = true := by rw [hk]; rfl
    have hv := check4_valued k hk vk vn vs
    obtain ⟨b, hb⟩ : ∃ b, b = Ox.valued k vk vn vs := ⟨_, rfl⟩
    rw [← hb] at hv ⊢
    have hbo := below_al (Below.refl w.heap.size w) (.cells #[.int .i64 vk, .int .i64 vn, .string (Lx.bs vs)] 36)
    clear hb hk
    go_enter Tryd.func37, Tryd.ntmps37
    go_wp2_with fail
    refine (check4_any vk vn vs _).mono ?_
    rintro e w1 ⟨rfl, hb1⟩
    have hB := below_next (w := w) hbo hb1
    obtain ⟨z, hz⟩ : ∃ z, z = check4 vk vn vs := ⟨_, rfl⟩
    rw [← hz] at hv ⊢
    clear hz
    cases b <;>
    · go_wp2
      go_ret
      exact ⟨rfl, hB⟩
  · have d0 : ((k.toNat : Int) == 118) = false := by simp; omega
    have HK := Lib.hid hk
    clear hk
    by_cases h0 : vs = []
    · have he : (Lx.bs vs).toList.isEmpty = true := by rw [Lx.bs_toList, h0]; rfl
      have H0 := Lib.hid h0
      clear h0
      go_enter Tryd.func37, Tryd.ntmps37
      go_wp2
      all_goals
        go_ret
        refine ⟨ret_b ?_, by (repeat (first | with_reducible exact Below.refl _ _ | with_reducible assumption | with_reducible refine Below.drew ?_ | with_reducible refine below_drewN ?_ _ | with_reducible refine below_al ?_ _ | with_reducible refine Below.setCell ?_ ?_ _ | exact Nat.le_refl _ | omega | (simp; done) | (simp; omega)))⟩
        have h0 := H0.out
        have hk := HK.out
        subst h0
        unfold Ox.valued
        rw [if_neg hk]
        simp at * <;> (repeat' split) <;> first | omega | (simp; omega) | (rw [Bool.eq_iff_iff]; simp; omega) | (simp_all; done)
    · have he : (Lx.bs vs).toList.isEmpty = false := by rw [Lx.bs_toList]; simpa using h0
      have H0 := Lib.hid h0
      clear h0
      go_enter Tryd.func37, Tryd.ntmps37
      go_wp2
      all_goals
        go_ret
        refine ⟨ret_b ?_, by (repeat (first | with_reducible exact Below.refl _ _ | with_reducible assumption | with_reducible refine Below.drew ?_ | with_reducible refine below_drewN ?_ _ | with_reducible refine below_al ?_ _ | with_reducible refine Below.setCell ?_ ?_ _ | exact Nat.le_refl _ | omega | (simp; done) | (simp; omega)))⟩
        have h0 := H0.out
        have hk := HK.out
        have h02 : decide (vs = []) = false := decide_eq_false h0
        unfold Ox.valued
        rw [if_neg hk, h02]
        simp at * <;> (repeat' split) <;> first | omega | (simp; omega) | (rw [Bool.eq_iff_iff]; simp; omega) | (simp_all; done)
theorem names_len : ∀ i : Fin 34, (Ox.nameOf (i.val : Int)).length ≤ 20 ∧ Ox.nameOf (i.val : Int) = (Ox.names[i.val]?).getD [] := by decide
theorem shapes_dots : ∀ i : Fin 34, ((Ox.shapes[i.val]?).isSome && decide ((Ox.shape (i.val : Int)).length = 6) && (List.range 5).all (fun j => decide ((Ox.at_ (Ox.shape (i.val : Int)) j).toNat = 46) == decide ((Ox.at_ (Ox.form (i.val : Int)) j).toNat = 46)) && (decide ((Ox.at_ (Ox.shape (i.val : Int)) 3).toNat = 46) || decide ((Ox.at_ (Ox.shape (i.val : Int)) 4).toNat = 46))) = true := by decide +kernel
theorem shape_at {c : Nat} (h : c < 34) : ∃ f, Ox.shapes[c]? = some f ∧ f.length = 6 ∧ Ox.shape (c : Int) = f := by
  have hi := shapes_dots ⟨c, h⟩
  simp only [Bool.and_eq_true, decide_eq_true_eq] at hi
  obtain ⟨⟨⟨h1, h2⟩, _⟩, _⟩ := hi
  obtain ⟨f, hf⟩ := Option.isSome_iff_exists.1 h1
  refine ⟨f, hf, ?_, ?_⟩
  · unfold Ox.shape at h2; rw [Int.toNat_natCast, hf] at h2; exact h2
  · unfold Ox.shape; rw [Int.toNat_natCast, hf]; rfl
/-- The reference's Line of an instruction that has the form of its code. -/
theorem rLine_any (o : Ox.Op) (kv : Value) (many : Int) (w : World) (hk : KAt w kv o.keys) (hco : Ox.coded o = true) (hfo : Ox.formed o many = true) (hfit : OFit o) :
    Calls Tryd.prog 14 #[.agg #[.int .i64 o.code, .int .i64 o.p1, .int .i64 o.p2, .int .i64 o.p3, .int .i64 o.vk, .int .i64 o.vn, .string (Lx.bs o.vs), kv, .string (Lx.bs o.name)]] w fun e w' => e = .returned (.string (Lx.bs (Ox.line o))) ∧ Below w.heap.size w w' := by
  obtain ⟨q1, q2, q3, q4, ⟨b1, b2⟩, ⟨b3, b4⟩, ⟨b5, b6⟩, b7, b8⟩ := hfit
  have hc2 := hco
  unfold Ox.coded at hc2
  simp only [Bool.and_eq_true, decide_eq_true_eq] at hc2
  obtain ⟨c, hc⟩ : ∃ c : Nat, o.code = (c : Int) := ⟨o.code.toNat, by omega⟩
  have hc34 : c < 34 := by omega
  obtain ⟨f, hf, hf6, hfe⟩ := shape_at hc34
  obtain ⟨n1, n2⟩ := names_len ⟨c, hc34⟩
  simp only at n1 n2
  have hdots := shapes_dots ⟨c, hc34⟩
  simp only [Bool.and_eq_true, decide_eq_true_eq, hfe, Bool.or_eq_true] at hdots
  obtain ⟨⟨_, hd⟩, h34⟩ := hdots
  have hdot : ∀ j, j < 5 → ((Ox.at_ f j).toNat = 46 ↔ (Ox.at_ (Ox.form o.code) j).toNat = 46) := by
    intro j hj
    have := List.all_eq_true.1 hd j (List.mem_range.2 hj)
    have := eq_of_beq this
    rw [hc]
    exact decide_eq_decide.1 this
  have hpart : ∀ j (n : Int), j < 5 → Ox.partN (Ox.at_ f j) n = Ox.partN (Ox.at_ (Ox.form o.code) j) n := by
    intro j n hj
    unfold Ox.partN
    by_cases h : (Ox.at_ f j).toNat = 46
    · rw [if_pos h, if_pos ((hdot j hj).1 h)]
    · rw [if_neg h, if_neg (fun h2 => h ((hdot j hj).2 h2))]
  have hlN : lineN (Ox.nameOf (c : Int)) f o 3 = lineN (Ox.nameOf (c : Int)) (Ox.form o.code) o 3 := by
    simp only [lineN, hpart 0 _ (by decide), hpart 1 _ (by decide), hpart 2 _ (by decide)]
  have hle := line_eq o (Ox.nameOf (c : Int)) (Ox.form o.code) (by rw [hc, Int.toNat_natCast]; exact n2.symm) rfl
  have hvk : o.vk = 0 ∨ o.vk = 1 ∨ o.vk = 2 ∨ o.vk = 3 := by
    unfold Ox.formed at hfo
    simp only [Bool.and_eq_true] at hfo
    have := Ox.valued_canon hfo.1.1.2
    unfold Ox.canon at this
    omega
  by_cases g3 : (Ox.at_ f 3).toNat = 46
  · by_cases g4 : (Ox.at_ f 4).toNat = 46
    · have h := rLine_00 o kv w hk q1 q2 q3 q4 b1 b2 b3 b4 b5 b6 b7 b8 hvk c hc34 hc f _ hf hf6 rfl n1 g3 g4
      rw [hlN] at h
      rw [hle, Ox.partV, if_pos ((hdot 3 (by decide)).1 g3), Ox.partS, if_pos ((hdot 4 (by decide)).1 g4), List.append_nil, List.append_nil]
      exact h
    · have h := rLine_01 o kv w hk q1 q2 q3 q4 b1 b2 b3 b4 b5 b6 b7 b8 hvk c hc34 hc f _ hf hf6 rfl n1 g3 g4
      rw [hlN] at h
      rw [hle, Ox.partV, if_pos ((hdot 3 (by decide)).1 g3), Ox.partS, if_neg (fun h2 => g4 ((hdot 4 (by decide)).2 h2)), List.append_nil]
      exact h
  · have g4 : (Ox.at_ f 4).toNat = 46 := h34.resolve_left g3
    have h := rLine_10 o kv w hk q1 q2 q3 q4 b1 b2 b3 b4 b5 b6 b7 b8 hvk c hc34 hc f _ hf hf6 rfl n1 g3 g4
    rw [hlN] at h
    rw [hle, Ox.partV, if_neg (fun h2 => g3 ((hdot 3 (by decide)).2 h2)), Ox.partS, if_pos ((hdot 4 (by decide)).1 g4), List.append_nil]
    exact h
/-- One more than the greatest register, as the reference has it. -/
def rtop (o : Ox.Op) : Int :=
  if Ox.sevC o.code then o.p3 + o.vn
  else if o.code = 33 then mx o.p1 o.p3 + o.vn
  else if o.code = 18 then mx (o.p2 + 1) (mx (o.p1 + o.p3) (o.p1 + 1))
  else if o.code = 20 then mx (o.p1 + 1) (o.p1 + o.p2)
  else if o.code = 22 then mx (o.p2 + 1) (o.p2 + o.p3)
  else regP (Ox.shape o.code) o 0 3
theorem top_names : ∀ i : Fin 34, i.val ∉ [10, 11, 12, 13, 27, 28, 33, 18, 20, 22] → ([[115, 101, 101, 107, 103, 101], [115, 101, 101, 107, 103, 116], [115, 116, 111, 112, 103, 116], [115, 116, 111, 112, 103, 101], [115, 101, 101, 110], [104, 97, 115], [115, 97, 109, 101], [102, 110], [114, 111, 119], [115, 111, 114, 116, 112, 117, 116]] : List Ox.S).contains (Ox.nameOf (i.val : Int)) = false := by decide +kernel
set_option maxRecDepth 100000 in
set_option maxHeartbeats 4000000 in
theorem rTop_any (o : Ox.Op) (kv : Value) (w : World) (ka : Option Addr) (kn kc : Nat) (hkv : kv = .slice ka kn kc) (c : Nat) (hc34 : c < 34) (hc : o.code = (c : Int)) (b1 : 0 ≤ o.p1) (b2 : o.p1 ≤ 1000000) (b3 : 0 ≤ o.p2) (b4 : o.p2 ≤ 1000000) (b5 : 0 ≤ o.p3) (b6 : o.p3 ≤ 1000000)
    (hvn : Ox.sevC (c : Int) = true ∨ c = 33 → 0 ≤ o.vn ∧ o.vn ≤ 1024) :
    Calls Tryd.prog 30 #[.agg #[.int .i64 (c : Int), .int .i64 o.p1, .int .i64 o.p2, .int .i64 o.p3, .int .i64 o.vk, .int .i64 o.vn, .string (Lx.bs o.vs), kv, .string (Lx.bs o.name)]] w fun e w' => e = .returned (.int .i64 (rtop o)) ∧ Below w.heap.size w w' := by
  subst hkv
  obtain ⟨f, hf, hf6, hfe⟩ := shape_at hc34
  obtain ⟨F, hF⟩ : ∃ F, F = Lx.bs f := ⟨_, rfl⟩
  have hF6 : 6 ≤ F.size := by rw [hF, Lx.bs_size]; omega
  have fs0 : 0 < F.size := by omega
  have fs1 : 1 < F.size := by omega
  have fs2 : 2 < F.size := by omega
  have hFa : ∀ i (h : i < F.size), F[i] = Ox.at_ f i := by subst hF; intro i h; exact at_bs f i h
  have HFA := Lib.hid hFa
  have HSH : Hid ((sts Ox.shapes)[c]? = some (.string F)) := Lib.hid (by rw [hF]; exact sts_at hf)
  have K1 := heap_alloc_new w (.cells #[.int .i64 (c : Int), .int .i64 o.p1, .int .i64 o.p2, .int .i64 o.p3, .int .i64 o.vk, .int .i64 o.vn, .string (Lx.bs o.vs), (.slice ka kn kc), .string (Lx.bs o.name)] 39)
  have hbo := below_al (Below.refl w.heap.size w) (.cells #[.int .i64 (c : Int), .int .i64 o.p1, .int .i64 o.p2, .int .i64 o.p3, .int .i64 o.vk, .int .i64 o.vn, .string (Lx.bs o.vs), (.slice ka kn kc), .string (Lx.bs o.name)] 39)
  obtain ⟨T, hT⟩ : ∃ T, T = rtop o := ⟨_, rfl⟩
  rw [← hT]
  have HT := Lib.hid hT
  have HFE := Lib.hid hfe
  have HC := Lib.hid hc
  have HVN := Lib.hid hvn
  have hci : (c : Int) < 34 := by omega
  clear hT hf hf6 hF hFa hc hfe hvn
  go_enter Tryd.func30, Tryd.ntmps30
  go_wp2
  generalize (w.alloc (.cells #[.int .i64 (c : Int), .int .i64 o.p1, .int .i64 o.p2, .int .i64 o.p3, .int .i64 o.vk, .int .i64 o.vn, .string (Lx.bs o.vs), (.slice ka kn kc), .string (Lx.bs o.name)] 39)) = W0 at K1 hbo ⊢
  obtain ⟨cW, _⟩ := blk_cells K1
  have hsz := blk_lt K1
  have hbo9 := hbo
  generalize w.heap.size = xb at cW hsz hbo K1 ⊢
  have x0 : W0.cell? ⟨xb, 0, none⟩ = some (.int .i64 (c : Int)) := cW 0 _ rfl
  go_region_with (go_at_call 25; refine (rshapes_any _).mono ?_; rintro e wa ⟨va, rfl, hrow, hba⟩; obtain ⟨ga, ca, rfl, hga, hca, hma, hxa⟩ := row1_some hrow (by omega); have A0 : wa.cell? ⟨ga, c, none⟩ = some (.string F) := hxa c _ HSH.out; have X0 : wa.cell? ⟨xb, 0, none⟩ = some (.int .i64 (c : Int)) := (hba.cell (p := ⟨xb, 0, none⟩) (by simpa using hsz)).trans x0; clear hrow hxa)
  all_goals
    have hBa : Below W0.heap.size W0 wa := (Below.refl W0.heap.size W0).drew.trans (hba.mono (by simp))
    have y1 : wa.cell? ⟨xb, 1, none⟩ = some (.int .i64 o.p1) := (hBa.cell (p := ⟨xb, 1, none⟩) hsz).trans (cW 1 _ rfl)
    have y2 : wa.cell? ⟨xb, 2, none⟩ = some (.int .i64 o.p2) := (hBa.cell (p := ⟨xb, 2, none⟩) hsz).trans (cW 2 _ rfl)
    have y3 : wa.cell? ⟨xb, 3, none⟩ = some (.int .i64 o.p3) := (hBa.cell (p := ⟨xb, 3, none⟩) hsz).trans (cW 3 _ rfl)
    clear hba A0
    go_wp2
    obtain ⟨W5, hW5⟩ : ∃ W5, W5 = wa.alloc (.cells #[.int .i64 o.p1, .int .i64 o.p2, .int .i64 o.p3] 3) := ⟨_, rfl⟩
    obtain ⟨pb, hpbe⟩ : ∃ pb, pb = wa.heap.size := ⟨_, rfl⟩
    have hP : ∀ j u, (#[(.int .i64 o.p1 : Value), .int .i64 o.p2, .int .i64 o.p3] : Array Value)[j]? = some u → W5.cell? ⟨pb, j, none⟩ = some u := by
      intro j u hu
      rw [hW5, hpbe]
      exact (blk_cells (heap_alloc_new wa _)).1 j u hu
    have hpb : pb < W5.heap.size := by rw [hW5, hpbe]; simp
    have hB5 : Below W0.heap.size W0 W5 := by rw [hW5]; exact hBa.alloc hBa.size _
    rw [← hpbe, ← hW5]
    have HP := Lib.hid hP
    clear hP hW5 hpbe y1 y2 y3 hBa X0
    go_loopw [4, 6] (fun mv i wr => ∃ (j : Nat) (M : Int), j ≤ 3 ∧ i = .int .i64 j ∧ mv = .int .i64 M ∧ 0 ≤ M ∧ M ≤ 1000001 ∧ wr = W5 ∧ Hid (M = regP f o 0 j)) (fun _ i _ => 3 - (intOf i).toNat)
    case atStart => exact ⟨0, 0, by omega, rfl, rfl, by omega, by omega, rfl, Lib.hid rfl⟩
    case round =>
      obtain ⟨j, M, hj, rfl, rfl, hM0, hM1, rfl, HM⟩ := hrel
      rcases (show j = 0 ∨ j = 1 ∨ j = 2 ∨ j = 3 by omega) with rfl | rfl | rfl | hj3
      · have hp5 := HP.out 0 _ rfl
        by_cases hd : F[0].toNat = 114
        · have dj : ((F[0].toNat : Int) == 114) = true := by simp; omega
          have HM' : Hid (mx M (o.p1 + 1) = regP f o 0 1) := Lib.hid (by rw [regP, ← HFA.out 0 fs0, if_pos hd, ← HM.out]; rfl)
          clear hd
          go_wp2
          go_roundw
          case rel => exact ⟨1, mx M (o.p1 + 1), by omega, rfl, rfl, by unfold mx; split <;> omega, by unfold mx; split <;> omega, trivial, HM'⟩
          case measure => simp [intOf]
        · have dj : ((F[0].toNat : Int) == 114) = false := by simp; omega
          have HM' : Hid (M = regP f o 0 1) := Lib.hid (by rw [regP, ← HFA.out 0 fs0, if_neg hd, ← HM.out])
          clear hd
          go_wp2
          go_roundw
          case rel => exact ⟨1, M, by omega, rfl, rfl, hM0, hM1, trivial, HM'⟩
          case measure => simp [intOf]
      · have hp5 := HP.out 1 _ rfl
        by_cases hd : F[1].toNat = 114
        · have dj : ((F[1].toNat : Int) == 114) = true := by simp; omega
          have HM' : Hid (mx M (o.p2 + 1) = regP f o 0 2) := Lib.hid (by rw [regP, ← HFA.out 1 fs1, if_pos hd, ← HM.out]; rfl)
          clear hd
          go_wp2
          go_roundw
          case rel => exact ⟨2, mx M (o.p2 + 1), by omega, rfl, rfl, by unfold mx; split <;> omega, by unfold mx; split <;> omega, trivial, HM'⟩
          case measure => simp [intOf]
        · have dj : ((F[1].toNat : Int) == 114) = false := by simp; omega
          have HM' : Hid (M = regP f o 0 2) := Lib.hid (by rw [regP, ← HFA.out 1 fs1, if_neg hd, ← HM.out])
          clear hd
          go_wp2
          go_roundw
          case rel => exact ⟨2, M, by omega, rfl, rfl, hM0, hM1, trivial, HM'⟩
          case measure => simp [intOf]
      · have hp5 := HP.out 2 _ rfl
        by_cases hd : F[2].toNat = 114
        · have dj : ((F[2].toNat : Int) == 114) = true := by simp; omega
          have HM' : Hid (mx M (o.p3 + 1) = regP f o 0 3) := Lib.hid (by rw [regP, ← HFA.out 2 fs2, if_pos hd, ← HM.out]; rfl)
          clear hd
          go_wp2
          go_roundw
          case rel => exact ⟨3, mx M (o.p3 + 1), by omega, rfl, rfl, by unfold mx; split <;> omega, by unfold mx; split <;> omega, trivial, HM'⟩
          case measure => simp [intOf]
        · have dj : ((F[2].toNat : Int) == 114) = false := by simp; omega
          have HM' : Hid (M = regP f o 0 3) := Lib.hid (by rw [regP, ← HFA.out 2 fs2, if_neg hd, ← HM.out])
          clear hd
          go_wp2
          go_roundw
          case rel => exact ⟨3, M, by omega, rfl, rfl, hM0, hM1, trivial, HM'⟩
          case measure => simp [intOf]
      · have HJ3 := Lib.hid hj3
        have dj3 : (3 : Int) ≤ (j : Int) := by omega
        have y0 : wr.cell? ⟨xb, 0, none⟩ = some (.int .i64 (c : Int)) := (hB5.cell (p := ⟨xb, 0, none⟩) hsz).trans (cW 0 _ rfl)
        have y5 : wr.cell? ⟨xb, 5, none⟩ = some (.int .i64 o.vn) := (hB5.cell (p := ⟨xb, 5, none⟩) hsz).trans (cW 5 _ rfl)
        clear hj3
        go_wp2_with fail
        refine (rName_any _ _).mono ?_
        rintro e w8 ⟨rfl, hb8⟩
        have hB8 := below_next hB5 hb8
        have hBf := below_next (w := w) hbo9 hB8
        have z1 : w8.cell? ⟨xb, 1, none⟩ = some (.int .i64 o.p1) := (hB8.cell (p := ⟨xb, 1, none⟩) hsz).trans (cW 1 _ rfl)
        have z2 : w8.cell? ⟨xb, 2, none⟩ = some (.int .i64 o.p2) := (hB8.cell (p := ⟨xb, 2, none⟩) hsz).trans (cW 2 _ rfl)
        have z3 : w8.cell? ⟨xb, 3, none⟩ = some (.int .i64 o.p3) := (hB8.cell (p := ⟨xb, 3, none⟩) hsz).trans (cW 3 _ rfl)
        obtain ⟨NM, hNM⟩ : ∃ NM, NM = Lx.bs (Ox.nameOf (c : Int)) := ⟨_, rfl⟩
        rw [← hNM]
        have hN : Hid (NM.toList = Ox.nameOf (c : Int)) := Lib.hid (by rw [hNM, Lx.bs_toList])
        clear hNM hB8 y0 y5 cW
        by_cases h10 : c = 10
        · subst h10
          have d10 : (NM.toList == [115, 101, 101, 107, 103, 101]) = true := by rw [hN.out]; rfl
          obtain ⟨v1, v2⟩ := HVN.out (by left; rfl)
          have hT : T = o.p3 + o.vn := by rw [HT.out, rtop, HC.out]; rfl
          have HT2 := Lib.hid hT
          clear hT
          go_wp2
          all_goals
            go_ret
            rw [HT2.out]
            exact ⟨ret_z (by first | rfl | (unfold mx; repeat' split; all_goals omega)), hBf⟩
        by_cases h11 : c = 11
        · subst h11
          have d10 : (NM.toList == [115, 101, 101, 107, 103, 101]) = false := by rw [hN.out]; rfl
          have d11 : (NM.toList == [115, 101, 101, 107, 103, 116]) = true := by rw [hN.out]; rfl
          obtain ⟨v1, v2⟩ := HVN.out (by left; rfl)
          have hT : T = o.p3 + o.vn := by rw [HT.out, rtop, HC.out]; rfl
          have HT2 := Lib.hid hT
          clear hT
          go_wp2
          all_goals
            go_ret
            rw [HT2.out]
            exact ⟨ret_z (by first | rfl | (unfold mx; repeat' split; all_goals omega)), hBf⟩
        by_cases h12 : c = 12
        · subst h12
          have d10 : (NM.toList == [115, 101, 101, 107, 103, 101]) = false := by rw [hN.out]; rfl
          have d11 : (NM.toList == [115, 101, 101, 107, 103, 116]) = false := by rw [hN.out]; rfl
          have d12 : (NM.toList == [115, 116, 111, 112, 103, 116]) = true := by rw [hN.out]; rfl
          obtain ⟨v1, v2⟩ := HVN.out (by left; rfl)
          have hT : T = o.p3 + o.vn := by rw [HT.out, rtop, HC.out]; rfl
          have HT2 := Lib.hid hT
          clear hT
          go_wp2
          all_goals
            go_ret
            rw [HT2.out]
            exact ⟨ret_z (by first | rfl | (unfold mx; repeat' split; all_goals omega)), hBf⟩
        by_cases h13 : c = 13
        · subst h13
          have d10 : (NM.toList == [115, 101, 101, 107, 103, 101]) = false := by rw [hN.out]; rfl
          have d11 : (NM.toList == [115, 101, 101, 107, 103, 116]) = false := by rw [hN.out]; rfl
          have d12 : (NM.toList == [115, 116, 111, 112, 103, 116]) = false := by rw [hN.out]; rfl
          have d13 : (NM.toList == [115, 116, 111, 112, 103, 101]) = true := by rw [hN.out]; rfl
          obtain ⟨v1, v2⟩ := HVN.out (by left; rfl)
          have hT : T = o.p3 + o.vn := by rw [HT.out, rtop, HC.out]; rfl
          have HT2 := Lib.hid hT
          clear hT
          go_wp2
          all_goals
            go_ret
            rw [HT2.out]
            exact ⟨ret_z (by first | rfl | (unfold mx; repeat' split; all_goals omega)), hBf⟩
        by_cases h27 : c = 27
        · subst h27
          have d10 : (NM.toList == [115, 101, 101, 107, 103, 101]) = false := by rw [hN.out]; rfl
          have d11 : (NM.toList == [115, 101, 101, 107, 103, 116]) = false := by rw [hN.out]; rfl
          have d12 : (NM.toList == [115, 116, 111, 112, 103, 116]) = false := by rw [hN.out]; rfl
          have d13 : (NM.toList == [115, 116, 111, 112, 103, 101]) = false := by rw [hN.out]; rfl
          have d27 : (NM.toList == [115, 101, 101, 110]) = true := by rw [hN.out]; rfl
          obtain ⟨v1, v2⟩ := HVN.out (by left; rfl)
          have hT : T = o.p3 + o.vn := by rw [HT.out, rtop, HC.out]; rfl
          have HT2 := Lib.hid hT
          clear hT
          go_wp2
          all_goals
            go_ret
            rw [HT2.out]
            exact ⟨ret_z (by first | rfl | (unfold mx; repeat' split; all_goals omega)), hBf⟩
        by_cases h28 : c = 28
        · subst h28
          have d10 : (NM.toList == [115, 101, 101, 107, 103, 101]) = false := by rw [hN.out]; rfl
          have d11 : (NM.toList == [115, 101, 101, 107, 103, 116]) = false := by rw [hN.out]; rfl
          have d12 : (NM.toList == [115, 116, 111, 112, 103, 116]) = false := by rw [hN.out]; rfl
          have d13 : (NM.toList == [115, 116, 111, 112, 103, 101]) = false := by rw [hN.out]; rfl
          have d27 : (NM.toList == [115, 101, 101, 110]) = false := by rw [hN.out]; rfl
          have d28 : (NM.toList == [104, 97, 115]) = true := by rw [hN.out]; rfl
          obtain ⟨v1, v2⟩ := HVN.out (by left; rfl)
          have hT : T = o.p3 + o.vn := by rw [HT.out, rtop, HC.out]; rfl
          have HT2 := Lib.hid hT
          clear hT
          go_wp2
          all_goals
            go_ret
            rw [HT2.out]
            exact ⟨ret_z (by first | rfl | (unfold mx; repeat' split; all_goals omega)), hBf⟩
        by_cases h33 : c = 33
        · subst h33
          have d10 : (NM.toList == [115, 101, 101, 107, 103, 101]) = false := by rw [hN.out]; rfl
          have d11 : (NM.toList == [115, 101, 101, 107, 103, 116]) = false := by rw [hN.out]; rfl
          have d12 : (NM.toList == [115, 116, 111, 112, 103, 116]) = false := by rw [hN.out]; rfl
          have d13 : (NM.toList == [115, 116, 111, 112, 103, 101]) = false := by rw [hN.out]; rfl
          have d27 : (NM.toList == [115, 101, 101, 110]) = false := by rw [hN.out]; rfl
          have d28 : (NM.toList == [104, 97, 115]) = false := by rw [hN.out]; rfl
          have d33 : (NM.toList == [115, 97, 109, 101]) = true := by rw [hN.out]; rfl
          obtain ⟨v1, v2⟩ := HVN.out (by right; rfl)
          have hT : T = mx o.p1 o.p3 + o.vn := by rw [HT.out, rtop, HC.out]; rfl
          have HT2 := Lib.hid hT
          clear hT
          go_wp2
          all_goals
            go_ret
            rw [HT2.out]
            exact ⟨ret_z (by first | rfl | (unfold mx; repeat' split; all_goals omega)), hBf⟩
        by_cases h18 : c = 18
        · subst h18
          have d10 : (NM.toList == [115, 101, 101, 107, 103, 101]) = false := by rw [hN.out]; rfl
          have d11 : (NM.toList == [115, 101, 101, 107, 103, 116]) = false := by rw [hN.out]; rfl
          have d12 : (NM.toList == [115, 116, 111, 112, 103, 116]) = false := by rw [hN.out]; rfl
          have d13 : (NM.toList == [115, 116, 111, 112, 103, 101]) = false := by rw [hN.out]; rfl
          have d27 : (NM.toList == [115, 101, 101, 110]) = false := by rw [hN.out]; rfl
          have d28 : (NM.toList == [104, 97, 115]) = false := by rw [hN.out]; rfl
          have d33 : (NM.toList == [115, 97, 109, 101]) = false := by rw [hN.out]; rfl
          have d18 : (NM.toList == [102, 110]) = true := by rw [hN.out]; rfl
          have hT : T = mx (o.p2 + 1) (mx (o.p1 + o.p3) (o.p1 + 1)) := by rw [HT.out, rtop, HC.out]; rfl
          have HT2 := Lib.hid hT
          clear hT
          go_wp2
          all_goals
            go_ret
            rw [HT2.out]
            exact ⟨ret_z (by first | rfl | (unfold mx; repeat' split; all_goals omega)), hBf⟩
        by_cases h20 : c = 20
        · subst h20
          have d10 : (NM.toList == [115, 101, 101, 107, 103, 101]) = false := by rw [hN.out]; rfl
          have d11 : (NM.toList == [115, 101, 101, 107, 103, 116]) = false := by rw [hN.out]; rfl
          have d12 : (NM.toList == [115, 116, 111, 112, 103, 116]) = false := by rw [hN.out]; rfl
          have d13 : (NM.toList == [115, 116, 111, 112, 103, 101]) = false := by rw [hN.out]; rfl
          have d27 : (NM.toList == [115, 101, 101, 110]) = false := by rw [hN.out]; rfl
          have d28 : (NM.toList == [104, 97, 115]) = false := by rw [hN.out]; rfl
          have d33 : (NM.toList == [115, 97, 109, 101]) = false := by rw [hN.out]; rfl
          have d18 : (NM.toList == [102, 110]) = false := by rw [hN.out]; rfl
          have d20 : (NM.toList == [114, 111, 119]) = true := by rw [hN.out]; rfl
          have hT : T = mx (o.p1 + 1) (o.p1 + o.p2) := by rw [HT.out, rtop, HC.out]; rfl
          have HT2 := Lib.hid hT
          clear hT
          go_wp2
          all_goals
            go_ret
            rw [HT2.out]
            exact ⟨ret_z (by first | rfl | (unfold mx; repeat' split; all_goals omega)), hBf⟩
        by_cases h22 : c = 22
        · subst h22
          have d10 : (NM.toList == [115, 101, 101, 107, 103, 101]) = false := by rw [hN.out]; rfl
          have d11 : (NM.toList == [115, 101, 101, 107, 103, 116]) = false := by rw [hN.out]; rfl
          have d12 : (NM.toList == [115, 116, 111, 112, 103, 116]) = false := by rw [hN.out]; rfl
          have d13 : (NM.toList == [115, 116, 111, 112, 103, 101]) = false := by rw [hN.out]; rfl
          have d27 : (NM.toList == [115, 101, 101, 110]) = false := by rw [hN.out]; rfl
          have d28 : (NM.toList == [104, 97, 115]) = false := by rw [hN.out]; rfl
          have d33 : (NM.toList == [115, 97, 109, 101]) = false := by rw [hN.out]; rfl
          have d18 : (NM.toList == [102, 110]) = false := by rw [hN.out]; rfl
          have d20 : (NM.toList == [114, 111, 119]) = false := by rw [hN.out]; rfl
          have d22 : (NM.toList == [115, 111, 114, 116, 112, 117, 116]) = true := by rw [hN.out]; rfl
          have hT : T = mx (o.p2 + 1) (o.p2 + o.p3) := by rw [HT.out, rtop, HC.out]; rfl
          have HT2 := Lib.hid hT
          clear hT
          go_wp2
          all_goals
            go_ret
            rw [HT2.out]
            exact ⟨ret_z (by first | rfl | (unfold mx; repeat' split; all_goals omega)), hBf⟩
        have hno := top_names ⟨c, hc34⟩ (by simp only [List.mem_cons, List.not_mem_nil, or_false]; omega)
        simp only at hno
        have d10 : (NM.toList == [115, 101, 101, 107, 103, 101]) = false := by rw [hN.out, Bool.eq_false_iff]; intro hc9; rw [eq_of_beq hc9] at hno; revert hno; decide
        have d11 : (NM.toList == [115, 101, 101, 107, 103, 116]) = false := by rw [hN.out, Bool.eq_false_iff]; intro hc9; rw [eq_of_beq hc9] at hno; revert hno; decide
        have d12 : (NM.toList == [115, 116, 111, 112, 103, 116]) = false := by rw [hN.out, Bool.eq_false_iff]; intro hc9; rw [eq_of_beq hc9] at hno; revert hno; decide
        have d13 : (NM.toList == [115, 116, 111, 112, 103, 101]) = false := by rw [hN.out, Bool.eq_false_iff]; intro hc9; rw [eq_of_beq hc9] at hno; revert hno; decide
        have d27 : (NM.toList == [115, 101, 101, 110]) = false := by rw [hN.out, Bool.eq_false_iff]; intro hc9; rw [eq_of_beq hc9] at hno; revert hno; decide
        have d28 : (NM.toList == [104, 97, 115]) = false := by rw [hN.out, Bool.eq_false_iff]; intro hc9; rw [eq_of_beq hc9] at hno; revert hno; decide
        have d33 : (NM.toList == [115, 97, 109, 101]) = false := by rw [hN.out, Bool.eq_false_iff]; intro hc9; rw [eq_of_beq hc9] at hno; revert hno; decide
        have d18 : (NM.toList == [102, 110]) = false := by rw [hN.out, Bool.eq_false_iff]; intro hc9; rw [eq_of_beq hc9] at hno; revert hno; decide
        have d20 : (NM.toList == [114, 111, 119]) = false := by rw [hN.out, Bool.eq_false_iff]; intro hc9; rw [eq_of_beq hc9] at hno; revert hno; decide
        have d22 : (NM.toList == [115, 111, 114, 116, 112, 117, 116]) = false := by rw [hN.out, Bool.eq_false_iff]; intro hc9; rw [eq_of_beq hc9] at hno; revert hno; decide
        have hT : T = M := by
          rw [HT.out, rtop, HC.out, HM.out, HJ3.out, HFE.out]
          have e : Ox.sevC (c : Int) = false := by
            unfold Ox.sevC
            simp only [Bool.or_eq_false_iff, decide_eq_false_iff_not]
            omega
          rw [e, if_neg (by simp), if_neg (by omega), if_neg (by omega), if_neg (by omega), if_neg (by omega)]
        have HT2 := Lib.hid hT
        clear hT hno
        go_wp2
        go_ret
        rw [HT2.out]
        exact ⟨rfl, hBf⟩
end Go.Proofs.YtoekddkkjbcicaaDoor
