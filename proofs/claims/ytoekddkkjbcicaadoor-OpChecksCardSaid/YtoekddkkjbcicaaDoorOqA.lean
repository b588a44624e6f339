import Derived.Test.YtoekddkkjbcicaaDoorOpS
set_option linter.unusedVariables false
set_option linter.unusedSimpArgs false
namespace Go.Proofs.YtoekddkkjbcicaaDoor
open Go.RowKit
attribute [local simp] Lx.bs_size
theorem cat_l (a b : Ox.S) : Lx.bs a ++ Lx.bs [32] ++ Lx.bs b = Lx.bs (a ++ 32 :: b) := by rw [← cat2, ← cat2]; simp
theorem cat_k (a : Ox.S) (c cl : Int) (d : Bool) : Lx.bs a ++ Lx.bs [32] ++ Lx.bs (Ox.num c) ++ Lx.bs ((if d then [100] else [97]) ++ (if cl = 1 then [110] else [98])) = Lx.bs (a ++ 32 :: Ox.keyS ⟨c, cl, d⟩) := by rw [← cat2, ← cat2, ← cat2]; simp [Ox.keyS]
set_option maxRecDepth 100000 in
set_option maxHeartbeats 4000000 in
theorem rLine_00 (o : Ox.Op) (kv : Value) (w : World) (hk : KAt w kv o.keys) (hkl : o.keys.length ≤ 100000) (hkf : KeyFit o.keys) (hnl : o.name.length ≤ 1000000) (hvl : o.vs.length ≤ 1000000)
    (b1 : -9223372036854775808 ≤ o.p1) (b2 : o.p1 ≤ 9223372036854775807) (b3 : -9223372036854775808 ≤ o.p2) (b4 : o.p2 ≤ 9223372036854775807) (b5 : -9223372036854775808 ≤ o.p3) (b6 : o.p3 ≤ 9223372036854775807) (b7 : -9223372036854775808 ≤ o.vn) (b8 : o.vn ≤ 9223372036854775807)
    (hvk : o.vk = 0 ∨ o.vk = 1 ∨ o.vk = 2 ∨ o.vk = 3)
    (c : Nat) (hc34 : c < 34) (hc : o.code = (c : Int)) (f nm : Ox.S) (hf : Ox.shapes[c]? = some f) (hf6 : f.length = 6) (hnm : Ox.nameOf (c : Int) = nm) (hnml : nm.length ≤ 20) (g3 : (Ox.at_ f 3).toNat = 46) (g4 : (Ox.at_ f 4).toNat = 46) :
    Calls Tryd.prog 14 #[.agg #[.int .i64 o.code, .int .i64 o.p1, .int .i64 o.p2, .int .i64 o.p3, .int .i64 o.vk, .int .i64 o.vn, .string (Lx.bs o.vs), kv, .string (Lx.bs o.name)]] w fun e w' => e = .returned (.string (Lx.bs (lineN nm f o 3 ++ Ox.keysS o.keys))) ∧ Below w.heap.size w w' := by
  obtain ⟨F, hF⟩ : ∃ F, F = Lx.bs f := ⟨_, rfl⟩
  have hF6 : 6 ≤ F.size := by rw [hF, Lx.bs_size]; omega
  have fs0 : 0 < F.size := by omega
  have fs1 : 1 < F.size := by omega
  have fs2 : 2 < F.size := by omega
  have fs3 : 3 < F.size := by omega
  have fs4 : 4 < F.size := by omega
  have fi3 : (3 : Int) < (F.size : Int) := by omega
  have fi4 : (4 : Int) < (F.size : Int) := by omega
  have hFa : ∀ i (h : i < F.size), F[i] = Ox.at_ f i := by subst hF; intro i h; exact at_bs f i h
  have HFA := Lib.hid hFa
  have e3 : ((F[3].toNat : Int) != 46) = false := by rw [hFa 3 fs3]; simp; omega
  have e4 : ((F[4].toNat : Int) != 46) = false := by rw [hFa 4 fs4]; simp; omega
  have HNM := Lib.hid hnm
  have HSH : Hid ((sts Ox.shapes)[c]? = some (.string F)) := Lib.hid (by rw [hF]; exact sts_at hf)
  obtain ⟨ka, kn, kc, rfl⟩ := kat_form hk
  have K1 := heap_alloc_new w (.cells #[.int .i64 o.code, .int .i64 o.p1, .int .i64 o.p2, .int .i64 o.p3, .int .i64 o.vk, .int .i64 o.vn, .string (Lx.bs o.vs), (.slice ka kn kc), .string (Lx.bs o.name)] 39)
  have hbo := below_al (Below.refl w.heap.size w) (.cells #[.int .i64 o.code, .int .i64 o.p1, .int .i64 o.p2, .int .i64 o.p3, .int .i64 o.vk, .int .i64 o.vn, .string (Lx.bs o.vs), (.slice ka kn kc), .string (Lx.bs o.name)] 39)
  have hk1 := kat_keep hk hbo
  have hvv : (Ox.valS o.vk o.vn o.vs).length ≤ 3000000 := by
    have h1 := num_21 b7 b8
    have h2 := hex_len o.vs
    unfold Ox.valS
    repeat' split
    all_goals simp
    all_goals omega
  obtain ⟨T, hT⟩ : ∃ T, T = lineN nm f o 3 ++ Ox.keysS o.keys := ⟨_, rfl⟩
  have HT0 := Lib.hid hT
  rw [← hT]
  clear hT
  rw [hc] at K1 hbo hk1 ⊢
  have HKF := Lib.hid hkf
  have HVK := Lib.hid hvk
  clear hk hf hf6 hnm g3 g4 hF hFa hc hkf hvk
  go_enter Tryd.func14, Tryd.ntmps14
  go_wp2
  generalize (w.alloc (.cells #[.int .i64 (c : Int), .int .i64 o.p1, .int .i64 o.p2, .int .i64 o.p3, .int .i64 o.vk, .int .i64 o.vn, .string (Lx.bs o.vs), (.slice ka kn kc), .string (Lx.bs o.name)] 39)) = W0 at K1 hbo hk1 ⊢
  obtain ⟨cW, _⟩ := blk_cells K1
  have hsz := blk_lt K1
  have x0 : W0.cell? ⟨w.heap.size, 0, none⟩ = some (.int .i64 (c : Int)) := cW 0 _ rfl
  have hci : (c : Int) < 34 := by omega
  go_region_with (go_at_call 25; refine (rshapes_any _).mono ?_; rintro e wa ⟨va, rfl, hrow, hba⟩; obtain ⟨ga, ca, rfl, hga, hca, hma, hxa⟩ := row1_some hrow (by omega); have A0 : wa.cell? ⟨ga, c, none⟩ = some (.string F) := hxa c _ HSH.out; have X0 : wa.cell? ⟨w.heap.size, 0, none⟩ = some (.int .i64 (c : Int)) := (hba.cell (p := ⟨w.heap.size, 0, none⟩) (by simpa using hsz)).trans x0; clear hrow hxa)
  all_goals
    have hBa : Below W0.heap.size W0 wa := (Below.refl W0.heap.size W0).drew.trans (hba.mono (by simp))
    clear hba
    go_wp2_with fail
    refine (rName_any _ _).mono ?_
    rintro e wb ⟨rfl, hbb⟩
    rw [HNM.out]
    have hBb : Below W0.heap.size W0 wb := below_next hBa hbb
    have y1 : wb.cell? ⟨w.heap.size, 1, none⟩ = some (.int .i64 o.p1) := (hBb.cell (p := ⟨w.heap.size, 1, none⟩) hsz).trans (cW 1 _ rfl)
    have y2 : wb.cell? ⟨w.heap.size, 2, none⟩ = some (.int .i64 o.p2) := (hBb.cell (p := ⟨w.heap.size, 2, none⟩) hsz).trans (cW 2 _ rfl)
    have y3 : wb.cell? ⟨w.heap.size, 3, none⟩ = some (.int .i64 o.p3) := (hBb.cell (p := ⟨w.heap.size, 3, none⟩) hsz).trans (cW 3 _ rfl)
    clear hbb hBa
    go_wp2
    obtain ⟨W5, hW5⟩ : ∃ W5, W5 = wb.alloc (.cells #[.int .i64 o.p1, .int .i64 o.p2, .int .i64 o.p3] 3) := ⟨_, rfl⟩
    obtain ⟨pb, hpbe⟩ : ∃ pb, pb = wb.heap.size := ⟨_, rfl⟩
    have hP : ∀ j u, (#[(.int .i64 o.p1 : Value), .int .i64 o.p2, .int .i64 o.p3] : Array Value)[j]? = some u → W5.cell? ⟨pb, j, none⟩ = some u := by
      intro j u hu
      rw [hW5, hpbe]
      exact (blk_cells (heap_alloc_new wb _)).1 j u hu
    have hpb : pb < W5.heap.size := by rw [hW5, hpbe]; simp
    have hB5 : Below W0.heap.size W0 W5 := by rw [hW5]; exact hBb.alloc hBb.size _
    rw [← hpbe, ← hW5]
    have HP := Lib.hid hP
    clear hP hW5 hpbe y1 y2 y3 hBb
    go_loopw [4, 6] (fun sv i wr => ∃ (j : Nat) (acc : Ox.S), j ≤ 3 ∧ i = .int .i64 j ∧ sv = .string (Lx.bs acc) ∧ acc.length ≤ 100 + 30 * j ∧ Below W5.heap.size W5 wr ∧ Hid (acc = lineN nm f o j)) (fun _ i _ => 3 - (intOf i).toNat)
    case atStart => exact ⟨0, nm, by omega, rfl, rfl, by omega, Below.refl _ _, Lib.hid rfl⟩
    case round =>
      obtain ⟨j, acc, hj, rfl, rfl, hal, hb, HA⟩ := hrel
      by_cases hjl : j < 3
      · rcases (show j = 0 ∨ j = 1 ∨ j = 2 by omega) with rfl | rfl | rfl
        · have hp5 := HP.out 0 _ rfl
          have hx5 : wr.cell? ⟨pb, 0, none⟩ = some (.int .i64 o.p1) := (hb.cell (p := ⟨pb, 0, none⟩) hpb).trans hp5
          have hpl : pb < wr.heap.size := Nat.lt_of_lt_of_le hpb hb.size
          clear hp5
          by_cases hd : F[0].toNat ≠ 46
          · have dj : ((F[0].toNat : Int) != 46) = true := by simp; omega
            have HA' : Hid (acc ++ (32 :: Ox.num (pN o 0)) = lineN nm f o 1) := by
              unfold Hid
              rw [lineN, ← HA.out, Ox.partN, ← HFA.out 0 fs0, if_neg hd]
            clear hd
            go_wp2_with fail
            refine (rnum_any o.p1 _ b1 b2).mono ?_
            rintro e w1 ⟨rfl, hb1⟩
            have hnl2 := num_21 b1 b2
            go_wp2
            go_roundw
            case rel => exact ⟨1, acc ++ (32 :: Ox.num o.p1), by omega, rfl, congrArg Value.string (cat_l acc _), by simp; omega, below_next hb hb1, HA'⟩
            case measure => simp [intOf]
          have hd : F[0].toNat = 46 := by omega
          have dj : ((F[0].toNat : Int) != 46) = false := by simp; omega
          have HA' : Hid (acc = lineN nm f o 1) := by
            unfold Hid
            rw [lineN, ← HA.out, Ox.partN, ← HFA.out 0 fs0, if_pos hd]; simp
          clear hd
          go_wp2
          go_roundw
          case rel => exact ⟨1, acc, by omega, rfl, rfl, by omega, hb, HA'⟩
          case measure => simp [intOf]
        · have hp5 := HP.out 1 _ rfl
          have hx5 : wr.cell? ⟨pb, 1, none⟩ = some (.int .i64 o.p2) := (hb.cell (p := ⟨pb, 1, none⟩) hpb).trans hp5
          have hpl : pb < wr.heap.size := Nat.lt_of_lt_of_le hpb hb.size
          clear hp5
          by_cases hd : F[1].toNat ≠ 46
          · have dj : ((F[1].toNat : Int) != 46) = true := by simp; omega
            have HA' : Hid (acc ++ (32 :: Ox.num (pN o 1)) = lineN nm f o 2) := by
              unfold Hid
              rw [lineN, ← HA.out, Ox.partN, ← HFA.out 1 fs1, if_neg hd]
            clear hd
            go_wp2_with fail
            refine (rnum_any o.p2 _ b3 b4).mono ?_
            rintro e w1 ⟨rfl, hb1⟩
            have hnl2 := num_21 b3 b4
            go_wp2
            go_roundw
            case rel => exact ⟨2, acc ++ (32 :: Ox.num o.p2), by omega, rfl, congrArg Value.string (cat_l acc _), by simp; omega, below_next hb hb1, HA'⟩
            case measure => simp [intOf]
          have hd : F[1].toNat = 46 := by omega
          have dj : ((F[1].toNat : Int) != 46) = false := by simp; omega
          have HA' : Hid (acc = lineN nm f o 2) := by
            unfold Hid
            rw [lineN, ← HA.out, Ox.partN, ← HFA.out 1 fs1, if_pos hd]; simp
          clear hd
          go_wp2
          go_roundw
          case rel => exact ⟨2, acc, by omega, rfl, rfl, by omega, hb, HA'⟩
          case measure => simp [intOf]
        · have hp5 := HP.out 2 _ rfl
          have hx5 : wr.cell? ⟨pb, 2, none⟩ = some (.int .i64 o.p3) := (hb.cell (p := ⟨pb, 2, none⟩) hpb).trans hp5
          have hpl : pb < wr.heap.size := Nat.lt_of_lt_of_le hpb hb.size
          clear hp5
          by_cases hd : F[2].toNat ≠ 46
          · have dj : ((F[2].toNat : Int) != 46) = true := by simp; omega
            have HA' : Hid (acc ++ (32 :: Ox.num (pN o 2)) = lineN nm f o 3) := by
              unfold Hid
              rw [lineN, ← HA.out, Ox.partN, ← HFA.out 2 fs2, if_neg hd]
            clear hd
            go_wp2_with fail
            refine (rnum_any o.p3 _ b5 b6).mono ?_
            rintro e w1 ⟨rfl, hb1⟩
            have hnl2 := num_21 b5 b6
            go_wp2
            go_roundw
            case rel => exact ⟨3, acc ++ (32 :: Ox.num o.p3), by omega, rfl, congrArg Value.string (cat_l acc _), by simp; omega, below_next hb hb1, HA'⟩
            case measure => simp [intOf]
          have hd : F[2].toNat = 46 := by omega
          have dj : ((F[2].toNat : Int) != 46) = false := by simp; omega
          have HA' : Hid (acc = lineN nm f o 3) := by
            unfold Hid
            rw [lineN, ← HA.out, Ox.partN, ← HFA.out 2 fs2, if_pos hd]; simp
          clear hd
          go_wp2
          go_roundw
          case rel => exact ⟨3, acc, by omega, rfl, rfl, by omega, hb, HA'⟩
          case measure => simp [intOf]
      · have hj3 : j = 3 := by omega
        have HJ3 := Lib.hid hj3
        have dj3 : (3 : Int) ≤ (j : Int) := by omega
        clear hj3 hjl
        have hbX := below_next hB5 hb
        have YC : ∀ wX, Below W0.heap.size W0 wX → wX.cell? ⟨w.heap.size, 7, none⟩ = some (.slice ka kn kc) ∧ wX.cell? ⟨w.heap.size, 8, none⟩ = some (.string (Lx.bs o.name)) ∧ w.heap.size < wX.heap.size := fun wX hX => ⟨(hX.cell (p := ⟨w.heap.size, 7, none⟩) hsz).trans (cW 7 _ rfl), (hX.cell (p := ⟨w.heap.size, 8, none⟩) hsz).trans (cW 8 _ rfl), Nat.lt_of_lt_of_le hsz hX.size⟩
        have HYC := Lib.hid YC
        have HHK := Lib.hid hk1
        have HT : Hid (acc ++ Ox.keysS (o.keys.drop 0) = T) := Lib.hid (by rw [HT0.out, HA.out, HJ3.out]; rfl)
        clear YC cW hk1
        obtain ⟨acf, hacf⟩ : ∃ acf, acf = acc := ⟨_, rfl⟩
        have hacl : acf.length ≤ 5000000 := by rw [hacf]; (try simp only [List.length_append, List.length_cons, List.length_nil]); omega
        rw [← hacf] at HT
        have HACF := Lib.hid hacf
        clear hacf
        obtain ⟨z7, z8, hs8⟩ := HYC.out _ hbX
        have hkcase := HHK.out
        rcases hkcase with ⟨hk0, qa, qc, hq⟩ | ⟨kb, koff, kcc, hq, hkb, hkc, hkm, hkx⟩
        · cases hq
          have hTT : acf = T := by rw [← HT.out, hk0]; simp [Ox.keysS]
          have HTT := Lib.hid hTT
          clear hTT hk0
          go_wp2
          refine wp_loop_rounds 1 ?_
          rw [rounds_succ]
          go_wp2
          go_ret
          exact ⟨ret_s (by rw [← HTT.out, HACF.out]), below_next hbo hbX⟩
        · cases hq
          obtain ⟨n, hn⟩ : ∃ n, n = o.keys.length := ⟨_, rfl⟩
          have HNN := Lib.hid hn
          rw [← hn] at hkl hkc z7 ⊢
          have HKX := Lib.hid hkx
          clear hn hkx
          go_wp2
          go_loopw [4, 7] (fun sv i wr => ∃ (k : Nat) (ac2 : Ox.S), k ≤ n ∧ i = .int .i64 k ∧ sv = .string (Lx.bs ac2) ∧ ac2.length ≤ 5000000 + 24 * k ∧ Below W0.heap.size W0 wr ∧ Hid (ac2 ++ Ox.keysS (o.keys.drop k) = T)) (fun _ i _ => n - (intOf i).toNat)
          case atStart => exact ⟨0, acf, by omega, rfl, by rw [HACF.out], by omega, hbX, HT⟩
          case round =>
            obtain ⟨k, ac2, hk, rfl, rfl, hal2, hbw, HK⟩ := hrel
            obtain ⟨z7, z8, hs8⟩ := HYC.out _ hbw
            rw [← HNN.out] at z7
            by_cases hlt : k < n
            · obtain ⟨t, ht⟩ : ∃ t, o.keys[k]? = some t := ⟨_, List.getElem?_eq_getElem (by rw [← HNN.out]; exact hlt)⟩
              have kcell : ∀ j u, j < 3 → (kcells t)[j]? = some u → wr.cell? ⟨kb, koff + (k * 3 + j), none⟩ = some u := fun j u hj hu => (hbw.cell (p := ⟨kb, koff + (k * 3 + j), none⟩) hkb).trans (HKX.out _ _ ((kflat_at ht hj).trans hu))
              have x0 : wr.cell? ⟨kb, koff + k * 3, none⟩ = some (.int .i64 t.col) := kcell 0 _ (by omega) rfl
              have x1 : wr.cell? ⟨kb, koff + k * 3 + 1, none⟩ = some (.int .i64 t.coll) := kcell 1 _ (by omega) rfl
              have x2 : wr.cell? ⟨kb, koff + k * 3 + 2, none⟩ = some (.bool t.desc) := kcell 2 _ (by omega) rfl
              obtain ⟨q1, q2⟩ := HKF.out t (List.mem_of_getElem? ht)
              have hkb2 : kb < wr.heap.size := Nat.lt_of_lt_of_le hkb hbw.size
              have hstep : Ox.keysS (o.keys.drop k) = (32 :: Ox.keyS t) ++ Ox.keysS (o.keys.drop (k + 1)) := by
                obtain ⟨h1, h2⟩ := List.getElem?_eq_some_iff.1 ht
                rw [List.drop_eq_getElem_cons h1, h2]; rfl
              have HK' : Hid (ac2 ++ (32 :: Ox.keyS t) ++ Ox.keysS (o.keys.drop (k + 1)) = T) := by unfold Hid; rw [← HK.out, hstep, List.append_assoc]
              have hkln := keyS_len q1 q2
              have u7 := upon_cell hs8 z7
              have u0 := upon_cell hkb2 x0
              have u1 := upon_cell hkb2 x1
              have u2 := upon_cell hkb2 x2
              clear kcell ht hstep
              obtain ⟨c1, cl, d⟩ := t
              have hnl9 := num_21 q1 q2
              obtain ⟨E9, hE9⟩ : ∃ E9, E9 = (if d then [100] else [97]) ++ (if cl = 1 then [110] else [98] : Ox.S) := ⟨_, rfl⟩
              have hEl : E9.length ≤ 2 := by
                rw [hE9, List.length_append]
                have h1 : (if d then [100] else [97] : Ox.S).length = 1 := by cases d <;> rfl
                have h2 : (if cl = 1 then [110] else [98] : Ox.S).length = 1 := by split <;> rfl
                omega
              have hends : ∀ wq : World, Calls Tryd.prog 28 #[.agg #[.int .i64 c1, .int .i64 cl, .bool d]] wq fun e w' => e = .returned (.string (Lx.bs E9)) ∧ Below wq.heap.size wq w' := fun wq => by rw [hE9]; exact ends_any c1 cl d wq
              have HE9 := Lib.hid hE9
              have HENDS := Lib.hid hends
              clear hE9 hends
              go_wp2
              refine wp_region_upon (by kernel_rfl) (by kernel_rfl) ?_
              repeat (go_big_quiet_step (first
                | (go_at_call 26; exact upon_call (rnum_any c1 _ q1 q2))
                | (go_at_call 28; exact upon_call (HENDS.out _))))
              refine wpQuiet_nil ?_
              rintro _ ⟨wx, rfl⟩
              have bx := upon_below wr wx
              clear u7 u0 u1 u2
              go_wp2
              go_roundw
              case rel => exact ⟨k + 1, ac2 ++ (32 :: Ox.keyS ⟨c1, cl, d⟩), by omega, by go_num, by rw [HE9.out]; exact congrArg Value.string (cat_k ac2 c1 cl d), by simp; omega, below_next hbw bx, HK'⟩
              case measure => simp [intOf]; omega
            · obtain rfl : k = n := by omega
              have hTT : ac2 = T := by rw [← HK.out, List.drop_eq_nil_of_le (by rw [← HNN.out]; omega)]; simp [Ox.keysS]
              subst hTT
              go_wp2
              go_ret
              exact ⟨rfl, below_next hbo hbw⟩
set_option maxRecDepth 100000 in
set_option maxHeartbeats 4000000 in
theorem rLine_01 (o : Ox.Op) (kv : Value) (w : World) (hk : KAt w kv o.keys) (hkl : o.keys.length ≤ 100000) (hkf : KeyFit o.keys) (hnl : o.name.length ≤ 1000000) (hvl : o.vs.length ≤ 1000000)
    (b1 : -9223372036854775808 ≤ o.p1) (b2 : o.p1 ≤ 9223372036854775807) (b3 : -9223372036854775808 ≤ o.p2) (b4 : o.p2 ≤ 9223372036854775807) (b5 : -9223372036854775808 ≤ o.p3) (b6 : o.p3 ≤ 9223372036854775807) (b7 : -9223372036854775808 ≤ o.vn) (b8 : o.vn ≤ 9223372036854775807)
    (hvk : o.vk = 0 ∨ o.vk = 1 ∨ o.vk = 2 ∨ o.vk = 3)
    (c : Nat) (hc34 : c < 34) (hc : o.code = (c : Int)) (f nm : Ox.S) (hf : Ox.shapes[c]? = some f) (hf6 : f.length = 6) (hnm : Ox.nameOf (c : Int) = nm) (hnml : nm.length ≤ 20) (g3 : (Ox.at_ f 3).toNat = 46) (g4 : (Ox.at_ f 4).toNat ≠ 46) :
    Calls Tryd.prog 14 #[.agg #[.int .i64 o.code, .int .i64 o.p1, .int .i64 o.p2, .int .i64 o.p3, .int .i64 o.vk, .int .i64 o.vn, .string (Lx.bs o.vs), kv, .string (Lx.bs o.name)]] w fun e w' => e = .returned (.string (Lx.bs (lineN nm f o 3 ++ (32 :: o.name) ++ Ox.keysS o.keys))) ∧ Below w.heap.size w w' := by
  obtain ⟨F, hF⟩ : ∃ F, F = Lx.bs f := ⟨_, rfl⟩
  have hF6 : 6 ≤ F.size := by rw [hF, Lx.bs_size]; omega
  have fs0 : 0 < F.size := by omega
  have fs1 : 1 < F.size := by omega
  have fs2 : 2 < F.size := by omega
  have fs3 : 3 < F.size := by omega
  have fs4 : 4 < F.size := by omega
  have fi3 : (3 : Int) < (F.size : Int) := by omega
  have fi4 : (4 : Int) < (F.size : Int) := by omega
  have hFa : ∀ i (h : i < F.size), F[i] = Ox.at_ f i := by subst hF; intro i h; exact at_bs f i h
  have HFA := Lib.hid hFa
  have e3 : ((F[3].toNat : Int) != 46) = false := by rw [hFa 3 fs3]; simp; omega
  have e4 : ((F[4].toNat : Int) != 46) = true := by rw [hFa 4 fs4]; simp; omega
  have HNM := Lib.hid hnm
  have HSH : Hid ((sts Ox.shapes)[c]? = some (.string F)) := Lib.hid (by rw [hF]; exact sts_at hf)
  obtain ⟨ka, kn, kc, rfl⟩ := kat_form hk
  have K1 := heap_alloc_new w (.cells #[.int .i64 o.code, .int .i64 o.p1, .int .i64 o.p2, .int .i64 o.p3, .int .i64 o.vk, .int .i64 o.vn, .string (Lx.bs o.vs), (.slice ka kn kc), .string (Lx.bs o.name)] 39)
  have hbo := below_al (Below.refl w.heap.size w) (.cells #[.int .i64 o.code, .int .i64 o.p1, .int .i64 o.p2, .int .i64 o.p3, .int .i64 o.vk, .int .i64 o.vn, .string (Lx.bs o.vs), (.slice ka kn kc), .string (Lx.bs o.name)] 39)
  have hk1 := kat_keep hk hbo
  have hvv : (Ox.valS o.vk o.vn o.vs).length ≤ 3000000 := by
    have h1 := num_21 b7 b8
    have h2 := hex_len o.vs
    unfold Ox.valS
    repeat' split
    all_goals simp
    all_goals omega
  obtain ⟨T, hT⟩ : ∃ T, T = lineN nm f o 3 ++ (32 :: o.name) ++ Ox.keysS o.keys := ⟨_, rfl⟩
  have HT0 := Lib.hid hT
  rw [← hT]
  clear hT
  rw [hc] at K1 hbo hk1 ⊢
  have HKF := Lib.hid hkf
  have HVK := Lib.hid hvk
  clear hk hf hf6 hnm g3 g4 hF hFa hc hkf hvk
  go_enter Tryd.func14, Tryd.ntmps14
  go_wp2
  generalize (w.alloc (.cells #[.int .i64 (c : Int), .int .i64 o.p1, .int .i64 o.p2, .int .i64 o.p3, .int .i64 o.vk, .int .i64 o.vn, .string (Lx.bs o.vs), (.slice ka kn kc), .string (Lx.bs o.name)] 39)) = W0 at K1 hbo hk1 ⊢
  obtain ⟨cW, _⟩ := blk_cells K1
  have hsz := blk_lt K1
  have x0 : W0.cell? ⟨w.heap.size, 0, none⟩ = some (.int .i64 (c : Int)) := cW 0 _ rfl
  have hci : (c : Int) < 34 := by omega
  go_region_with (go_at_call 25; refine (rshapes_any _).mono ?_; rintro e wa ⟨va, rfl, hrow, hba⟩; obtain ⟨ga, ca, rfl, hga, hca, hma, hxa⟩ := row1_some hrow (by omega); have A0 : wa.cell? ⟨ga, c, none⟩ = some (.string F) := hxa c _ HSH.out; have X0 : wa.cell? ⟨w.heap.size, 0, none⟩ = some (.int .i64 (c : Int)) := (hba.cell (p := ⟨w.heap.size, 0, none⟩) (by simpa using hsz)).trans x0; clear hrow hxa)
  all_goals
    have hBa : Below W0.heap.size W0 wa := (Below.refl W0.heap.size W0).drew.trans (hba.mono (by simp))
    clear hba
    go_wp2_with fail
    refine (rName_any _ _).mono ?_
    rintro e wb ⟨rfl, hbb⟩
    rw [HNM.out]
    have hBb : Below W0.heap.size W0 wb := below_next hBa hbb
    have y1 : wb.cell? ⟨w.heap.size, 1, none⟩ = some (.int .i64 o.p1) := (hBb.cell (p := ⟨w.heap.size, 1, none⟩) hsz).trans (cW 1 _ rfl)
    have y2 : wb.cell? ⟨w.heap.size, 2, none⟩ = some (.int .i64 o.p2) := (hBb.cell (p := ⟨w.heap.size, 2, none⟩) hsz).trans (cW 2 _ rfl)
    have y3 : wb.cell? ⟨w.heap.size, 3, none⟩ = some (.int .i64 o.p3) := (hBb.cell (p := ⟨w.heap.size, 3, none⟩) hsz).trans (cW 3 _ rfl)
    clear hbb hBa
    go_wp2
    obtain ⟨W5, hW5⟩ : ∃ W5, W5 = wb.alloc (.cells #[.int .i64 o.p1, .int .i64 o.p2, .int .i64 o.p3] 3) := ⟨_, rfl⟩
    obtain ⟨pb, hpbe⟩ : ∃ pb, pb = wb.heap.size := ⟨_, rfl⟩
    have hP : ∀ j u, (#[(.int .i64 o.p1 : Value), .int .i64 o.p2, .int .i64 o.p3] : Array Value)[j]? = some u → W5.cell? ⟨pb, j, none⟩ = some u := by
      intro j u hu
      rw [hW5, hpbe]
      exact (blk_cells (heap_alloc_new wb _)).1 j u hu
    have hpb : pb < W5.heap.size := by rw [hW5, hpbe]; simp
    have hB5 : Below W0.heap.size W0 W5 := by rw [hW5]; exact hBb.alloc hBb.size _
    rw [← hpbe, ← hW5]
    have HP := Lib.hid hP
    clear hP hW5 hpbe y1 y2 y3 hBb
    go_loopw [4, 6] (fun sv i wr => ∃ (j : Nat) (acc : Ox.S), j ≤ 3 ∧ i = .int .i64 j ∧ sv = .string (Lx.bs acc) ∧ acc.length ≤ 100 + 30 * j ∧ Below W5.heap.size W5 wr ∧ Hid (acc = lineN nm f o j)) (fun _ i _ => 3 - (intOf i).toNat)
    case atStart => exact ⟨0, nm, by omega, rfl, rfl, by omega, Below.refl _ _, Lib.hid rfl⟩
    case round =>
      obtain ⟨j, acc, hj, rfl, rfl, hal, hb, HA⟩ := hrel
      by_cases hjl : j < 3
      · rcases (show j = 0 ∨ j = 1 ∨ j = 2 by omega) with rfl | rfl | rfl
        · have hp5 := HP.out 0 _ rfl
          have hx5 : wr.cell? ⟨pb, 0, none⟩ = some (.int .i64 o.p1) := (hb.cell (p := ⟨pb, 0, none⟩) hpb).trans hp5
          have hpl : pb < wr.heap.size := Nat.lt_of_lt_of_le hpb hb.size
          clear hp5
          by_cases hd : F[0].toNat ≠ 46
          · have dj : ((F[0].toNat : Int) != 46) = true := by simp; omega
            have HA' : Hid (acc ++ (32 :: Ox.num (pN o 0)) = lineN nm f o 1) := by
              unfold Hid
              rw [lineN, ← HA.out, Ox.partN, ← HFA.out 0 fs0, if_neg hd]
            clear hd
            go_wp2_with fail
            refine (rnum_any o.p1 _ b1 b2).mono ?_
            rintro e w1 ⟨rfl, hb1⟩
            have hnl2 := num_21 b1 b2
            go_wp2
            go_roundw
            case rel => exact ⟨1, acc ++ (32 :: Ox.num o.p1), by omega, rfl, congrArg Value.string (cat_l acc _), by simp; omega, below_next hb hb1, HA'⟩
            case measure => simp [intOf]
          have hd : F[0].toNat = 46 := by omega
          have dj : ((F[0].toNat : Int) != 46) = false := by simp; omega
          have HA' : Hid (acc = lineN nm f o 1) := by
            unfold Hid
            rw [lineN, ← HA.out, Ox.partN, ← HFA.out 0 fs0, if_pos hd]; simp
          clear hd
          go_wp2
          go_roundw
          case rel => exact ⟨1, acc, by omega, rfl, rfl, by omega, hb, HA'⟩
          case measure => simp [intOf]
        · have hp5 := HP.out 1 _ rfl
          have hx5 : wr.cell? ⟨pb, 1, none⟩ = some (.int .i64 o.p2) := (hb.cell (p := ⟨pb, 1, none⟩) hpb).trans hp5
          have hpl : pb < wr.heap.size := Nat.lt_of_lt_of_le hpb hb.size
          clear hp5
          by_cases hd : F[1].toNat ≠ 46
          · have dj : ((F[1].toNat : Int) != 46) = true := by simp; omega
            have HA' : Hid (acc ++ (32 :: Ox.num (pN o 1)) = lineN nm f o 2) := by
              unfold Hid
              rw [lineN, ← HA.out, Ox.partN, ← HFA.out 1 fs1, if_neg hd]
            clear hd
            go_wp2_with fail
            refine (rnum_any o.p2 _ b3 b4).mono ?_
            rintro e w1 ⟨rfl, hb1⟩
            have hnl2 := num_21 b3 b4
            go_wp2
            go_roundw
            case rel => exact ⟨2, acc ++ (32 :: Ox.num o.p2), by omega, rfl, congrArg Value.string (cat_l acc _), by simp; omega, below_next hb hb1, HA'⟩
            case measure => simp [intOf]
          have hd : F[1].toNat = 46 := by omega
          have dj : ((F[1].toNat : Int) != 46) = false := by simp; omega
          have HA' : Hid (acc = lineN nm f o 2) := by
            unfold Hid
            rw [lineN, ← HA.out, Ox.partN, ← HFA.out 1 fs1, if_pos hd]; simp
          clear hd
          go_wp2
          go_roundw
          case rel => exact ⟨2, acc, by omega, rfl, rfl, by omega, hb, HA'⟩
          case measure => simp [intOf]
        · have hp5 := HP.out 2 _ rfl
          have hx5 : wr.cell? ⟨pb, 2, none⟩ = some (.int .i64 o.p3) := (hb.cell (p := ⟨pb, 2, none⟩) hpb).trans hp5
          have hpl : pb < wr.heap.size := Nat.lt_of_lt_of_le hpb hb.size
          clear hp5
          by_cases hd : F[2].toNat ≠ 46
          · have dj : ((F[2].toNat : Int) != 46) = true := by simp; omega
            have HA' : Hid (acc ++ (32 :: Ox.num (pN o 2)) = lineN nm f o 3) := by
              unfold Hid
              rw [lineN, ← HA.out, Ox.partN, ← HFA.out 2 fs2, if_neg hd]
            clear hd
            go_wp2_with fail
            refine (rnum_any o.p3 _ b5 b6).mono ?_
            rintro e w1 ⟨rfl, hb1⟩
            have hnl2 := num_21 b5 b6
            go_wp2
            go_roundw
            case rel => exact ⟨3, acc ++ (32 :: Ox.num o.p3), by omega, rfl, congrArg Value.string (cat_l acc _), by simp; omega, below_next hb hb1, HA'⟩
            case measure => simp [intOf]
          have hd : F[2].toNat = 46 := by omega
          have dj : ((F[2].toNat : Int) != 46) = false := by simp; omega
          have HA' : Hid (acc = lineN nm f o 3) := by
            unfold Hid
            rw [lineN, ← HA.out, Ox.partN, ← HFA.out 2 fs2, if_pos hd]; simp
          clear hd
          go_wp2
          go_roundw
          case rel => exact ⟨3, acc, by omega, rfl, rfl, by omega, hb, HA'⟩
          case measure => simp [intOf]
      · have hj3 : j = 3 := by omega
        have HJ3 := Lib.hid hj3
        have dj3 : (3 : Int) ≤ (j : Int) := by omega
        clear hj3 hjl
        have hbX := below_next hB5 hb
        have YC : ∀ wX, Below W0.heap.size W0 wX → wX.cell? ⟨w.heap.size, 7, none⟩ = some (.slice ka kn kc) ∧ wX.cell? ⟨w.heap.size, 8, none⟩ = some (.string (Lx.bs o.name)) ∧ w.heap.size < wX.heap.size := fun wX hX => ⟨(hX.cell (p := ⟨w.heap.size, 7, none⟩) hsz).trans (cW 7 _ rfl), (hX.cell (p := ⟨w.heap.size, 8, none⟩) hsz).trans (cW 8 _ rfl), Nat.lt_of_lt_of_le hsz hX.size⟩
        have HYC := Lib.hid YC
        have HHK := Lib.hid hk1
        have HT : Hid (acc ++ (32 :: o.name) ++ Ox.keysS (o.keys.drop 0) = T) := Lib.hid (by rw [HT0.out, HA.out, HJ3.out]; rfl)
        clear YC cW hk1
        obtain ⟨acf, hacf⟩ : ∃ acf, acf = acc ++ (32 :: o.name) := ⟨_, rfl⟩
        have hacl : acf.length ≤ 5000000 := by rw [hacf]; (try simp only [List.length_append, List.length_cons, List.length_nil]); omega
        rw [← hacf] at HT
        have HACF := Lib.hid hacf
        clear hacf
        obtain ⟨z7, z8, hs8⟩ := HYC.out _ hbX
        have hkcase := HHK.out
        rcases hkcase with ⟨hk0, qa, qc, hq⟩ | ⟨kb, koff, kcc, hq, hkb, hkc, hkm, hkx⟩
        · cases hq
          have hTT : acf = T := by rw [← HT.out, hk0]; simp [Ox.keysS]
          have HTT := Lib.hid hTT
          clear hTT hk0
          go_wp2
          refine wp_loop_rounds 1 ?_
          rw [rounds_succ]
          go_wp2
          go_ret
          exact ⟨ret_s (by rw [← HTT.out, HACF.out]; exact cat_l acc _), below_next hbo hbX⟩
        · cases hq
          obtain ⟨n, hn⟩ : ∃ n, n = o.keys.length := ⟨_, rfl⟩
          have HNN := Lib.hid hn
          rw [← hn] at hkl hkc z7 ⊢
          have HKX := Lib.hid hkx
          clear hn hkx
          go_wp2
          go_loopw [4, 7] (fun sv i wr => ∃ (k : Nat) (ac2 : Ox.S), k ≤ n ∧ i = .int .i64 k ∧ sv = .string (Lx.bs ac2) ∧ ac2.length ≤ 5000000 + 24 * k ∧ Below W0.heap.size W0 wr ∧ Hid (ac2 ++ Ox.keysS (o.keys.drop k) = T)) (fun _ i _ => n - (intOf i).toNat)
          case atStart => exact ⟨0, acf, by omega, rfl, by rw [HACF.out]; exact congrArg Value.string (cat_l acc _), by omega, hbX, HT⟩
          case round =>
            obtain ⟨k, ac2, hk, rfl, rfl, hal2, hbw, HK⟩ := hrel
            obtain ⟨z7, z8, hs8⟩ := HYC.out _ hbw
            rw [← HNN.out] at z7
            by_cases hlt : k < n
            · obtain ⟨t, ht⟩ : ∃ t, o.keys[k]? = some t := ⟨_, List.getElem?_eq_getElem (by rw [← HNN.out]; exact hlt)⟩
              have kcell : ∀ j u, j < 3 → (kcells t)[j]? = some u → wr.cell? ⟨kb, koff + (k * 3 + j), none⟩ = some u := fun j u hj hu => (hbw.cell (p := ⟨kb, koff + (k * 3 + j), none⟩) hkb).trans (HKX.out _ _ ((kflat_at ht hj).trans hu))
              have x0 : wr.cell? ⟨kb, koff + k * 3, none⟩ = some (.int .i64 t.col) := kcell 0 _ (by omega) rfl
              have x1 : wr.cell? ⟨kb, koff + k * 3 + 1, none⟩ = some (.int .i64 t.coll) := kcell 1 _ (by omega) rfl
              have x2 : wr.cell? ⟨kb, koff + k * 3 + 2, none⟩ = some (.bool t.desc) := kcell 2 _ (by omega) rfl
              obtain ⟨q1, q2⟩ := HKF.out t (List.mem_of_getElem? ht)
              have hkb2 : kb < wr.heap.size := Nat.lt_of_lt_of_le hkb hbw.size
              have hstep : Ox.keysS (o.keys.drop k) = (32 :: Ox.keyS t) ++ Ox.keysS (o.keys.drop (k + 1)) := by
                obtain ⟨h1, h2⟩ := List.getElem?_eq_some_iff.1 ht
                rw [List.drop_eq_getElem_cons h1, h2]; rfl
              have HK' : Hid (ac2 ++ (32 :: Ox.keyS t) ++ Ox.keysS (o.keys.drop (k + 1)) = T) := by unfold Hid; rw [← HK.out, hstep, List.append_assoc]
              have hkln := keyS_len q1 q2
              have u7 := upon_cell hs8 z7
              have u0 := upon_cell hkb2 x0
              have u1 := upon_cell hkb2 x1
              have u2 := upon_cell hkb2 x2
              clear kcell ht hstep
              obtain ⟨c1, cl, d⟩ := t
              have hnl9 := num_21 q1 q2
              obtain ⟨E9, hE9⟩ : ∃ E9, E9 = (if d then [100] else [97]) ++ (if cl = 1 then [110] else [98] : Ox.S) := ⟨_, rfl⟩
              have hEl : E9.length ≤ 2 := by
                rw [hE9, List.length_append]
                have h1 : (if d then [100] else [97] : Ox.S).length = 1 := by cases d <;> rfl
                have h2 : (if cl = 1 then [110] else [98] : Ox.S).length = 1 := by split <;> rfl
                omega
              have hends : ∀ wq : World, Calls Tryd.prog 28 #[.agg #[.int .i64 c1, .int .i64 cl, .bool d]] wq fun e w' => e = .returned (.string (Lx.bs E9)) ∧ Below wq.heap.size wq w' := fun wq => by rw [hE9]; exact ends_any c1 cl d wq
              have HE9 := Lib.hid hE9
              have HENDS := Lib.hid hends
              clear hE9 hends
              go_wp2
              refine wp_region_upon (by kernel_rfl) (by kernel_rfl) ?_
              repeat (go_big_quiet_step (first
                | (go_at_call 26; exact upon_call (rnum_any c1 _ q1 q2))
                | (go_at_call 28; exact upon_call (HENDS.out _))))
              refine wpQuiet_nil ?_
              rintro _ ⟨wx, rfl⟩
              have bx := upon_below wr wx
              clear u7 u0 u1 u2
              go_wp2
              go_roundw
              case rel => exact ⟨k + 1, ac2 ++ (32 :: Ox.keyS ⟨c1, cl, d⟩), by omega, by go_num, by rw [HE9.out]; exact congrArg Value.string (cat_k ac2 c1 cl d), by simp; omega, below_next hbw bx, HK'⟩
              case measure => simp [intOf]; omega
            · obtain rfl : k = n := by omega
              have hTT : ac2 = T := by rw [← HK.out, List.drop_eq_nil_of_le (by rw [← HNN.out]; omega)]; simp [Ox.keysS]
              subst hTT
              go_wp2
              go_ret
              exact ⟨rfl, below_next hbo hbw⟩
set_option maxRecDepth 100000 in
set_option maxHeartbeats 4000000 in
theorem rLine_10 (o : Ox.Op) (kv : Value) (w : World) (hk : KAt w kv o.keys) (hkl : o.keys.length ≤ 100000) (hkf : KeyFit o.keys) (hnl : o.name.length ≤ 1000000) (hvl : o.vs.length ≤ 1000000)
    (b1 : -9223372036854775808 ≤ o.p1) (b2 : o.p1 ≤ 9223372036854775807) (b3 : -9223372036854775808 ≤ o.p2) (b4 : o.p2 ≤ 9223372036854775807) (b5 : -9223372036854775808 ≤ o.p3) (b6 : o.p3 ≤ 9223372036854775807) (b7 : -9223372036854775808 ≤ o.vn) (b8 : o.vn ≤ 9223372036854775807)
    (hvk : o.vk = 0 ∨ o.vk = 1 ∨ o.vk = 2 ∨ o.vk = 3)
    (c : Nat) (hc34 : c < 34) (hc : o.code = (c : Int)) (f nm : Ox.S) (hf : Ox.shapes[c]? = some f) (hf6 : f.length = 6) (hnm : Ox.nameOf (c : Int) = nm) (hnml : nm.length ≤ 20) (g3 : (Ox.at_ f 3).toNat ≠ 46) (g4 : (Ox.at_ f 4).toNat = 46) :
    Calls Tryd.prog 14 #[.agg #[.int .i64 o.code, .int .i64 o.p1, .int .i64 o.p2, .int .i64 o.p3, .int .i64 o.vk, .int .i64 o.vn, .string (Lx.bs o.vs), kv, .string (Lx.bs o.name)]] w fun e w' => e = .returned (.string (Lx.bs (lineN nm f o 3 ++ (32 :: Ox.valS o.vk o.vn o.vs) ++ Ox.keysS o.keys))) ∧ Below w.heap.size w w' := by
  obtain ⟨F, hF⟩ : ∃ F, F = Lx.bs f := ⟨_, rfl⟩
  have hF6 : 6 ≤ F.size := by rw [hF, Lx.bs_size]; omega
  have fs0 : 0 < F.size := by omega
  have fs1 : 1 < F.size := by omega
  have fs2 : 2 < F.size := by omega
  have fs3 : 3 < F.size := by omega
  have fs4 : 4 < F.size := by omega
  have fi3 : (3 : Int) < (F.size : Int) := by omega
  have fi4 : (4 : Int) < (F.size : Int) := by omega
  have hFa : ∀ i (h : i < F.size), F[i] = Ox.at_ f i := by subst hF; intro i h; exact at_bs f i h
  have HFA := Lib.hid hFa
  have e3 : ((F[3].toNat : Int) != 46) = true := by rw [hFa 3 fs3]; simp; omega
  have e4 : ((F[4].toNat : Int) != 46) = false := by rw [hFa 4 fs4]; simp; omega
  have HNM := Lib.hid hnm
  have HSH : Hid ((sts Ox.shapes)[c]? = some (.string F)) := Lib.hid (by rw [hF]; exact sts_at hf)
  obtain ⟨ka, kn, kc, rfl⟩ := kat_form hk
  have K1 := heap_alloc_new w (.cells #[.int .i64 o.code, .int .i64 o.p1, .int .i64 o.p2, .int .i64 o.p3, .int .i64 o.vk, .int .i64 o.vn, .string (Lx.bs o.vs), (.slice ka kn kc), .string (Lx.bs o.name)] 39)
  have hbo := below_al (Below.refl w.heap.size w) (.cells #[.int .i64 o.code, .int .i64 o.p1, .int .i64 o.p2, .int .i64 o.p3, .int .i64 o.vk, .int .i64 o.vn, .string (Lx.bs o.vs), (.slice ka kn kc), .string (Lx.bs o.name)] 39)
  have hk1 := kat_keep hk hbo
  have hvv : (Ox.valS o.vk o.vn o.vs).length ≤ 3000000 := by
    have h1 := num_21 b7 b8
    have h2 := hex_len o.vs
    unfold Ox.valS
    repeat' split
    all_goals simp
    all_goals omega
  obtain ⟨T, hT⟩ : ∃ T, T = lineN nm f o 3 ++ (32 :: Ox.valS o.vk o.vn o.vs) ++ Ox.keysS o.keys := ⟨_, rfl⟩
  have HT0 := Lib.hid hT
  rw [← hT]
  clear hT
  rw [hc] at K1 hbo hk1 ⊢
  have HKF := Lib.hid hkf
  have HVK := Lib.hid hvk
  clear hk hf hf6 hnm g3 g4 hF hFa hc hkf hvk
  go_enter Tryd.func14, Tryd.ntmps14
  go_wp2
  generalize (w.alloc (.cells #[.int .i64 (c : Int), .int .i64 o.p1, .int .i64 o.p2, .int .i64 o.p3, .int .i64 o.vk, .int .i64 o.vn, .string (Lx.bs o.vs), (.slice ka kn kc), .string (Lx.bs o.name)] 39)) = W0 at K1 hbo hk1 ⊢
  obtain ⟨cW, _⟩ := blk_cells K1
  have hsz := blk_lt K1
  have x0 : W0.cell? ⟨w.heap.size, 0, none⟩ = some (.int .i64 (c : Int)) := cW 0 _ rfl
  have hci : (c : Int) < 34 := by omega
  go_region_with (go_at_call 25; refine (rshapes_any _).mono ?_; rintro e wa ⟨va, rfl, hrow, hba⟩; obtain ⟨ga, ca, rfl, hga, hca, hma, hxa⟩ := row1_some hrow (by omega); have A0 : wa.cell? ⟨ga, c, none⟩ = some (.string F) := hxa c _ HSH.out; have X0 : wa.cell? ⟨w.heap.size, 0, none⟩ = some (.int .i64 (c : Int)) := (hba.cell (p := ⟨w.heap.size, 0, none⟩) (by simpa using hsz)).trans x0; clear hrow hxa)
  all_goals
    have hBa : Below W0.heap.size W0 wa := (Below.refl W0.heap.size W0).drew.trans (hba.mono (by simp))
    clear hba
    go_wp2_with fail
    refine (rName_any _ _).mono ?_
    rintro e wb ⟨rfl, hbb⟩
    rw [HNM.out]
    have hBb : Below W0.heap.size W0 wb := below_next hBa hbb
    have y1 : wb.cell? ⟨w.heap.size, 1, none⟩ = some (.int .i64 o.p1) := (hBb.cell (p := ⟨w.heap.size, 1, none⟩) hsz).trans (cW 1 _ rfl)
    have y2 : wb.cell? ⟨w.heap.size, 2, none⟩ = some (.int .i64 o.p2) := (hBb.cell (p := ⟨w.heap.size, 2, none⟩) hsz).trans (cW 2 _ rfl)
    have y3 : wb.cell? ⟨w.heap.size, 3, none⟩ = some (.int .i64 o.p3) := (hBb.cell (p := ⟨w.heap.size, 3, none⟩) hsz).trans (cW 3 _ rfl)
    clear hbb hBa
    go_wp2
    obtain ⟨W5, hW5⟩ : ∃ W5, W5 = wb.alloc (.cells #[.int .i64 o.p1, .int .i64 o.p2, .int .i64 o.p3] 3) := ⟨_, rfl⟩
    obtain ⟨pb, hpbe⟩ : ∃ pb, pb = wb.heap.size := ⟨_, rfl⟩
    have hP : ∀ j u, (#[(.int .i64 o.p1 : Value), .int .i64 o.p2, .int .i64 o.p3] : Array Value)[j]? = some u → W5.cell? ⟨pb, j, none⟩ = some u := by
      intro j u hu
      rw [hW5, hpbe]
      exact (blk_cells (heap_alloc_new wb _)).1 j u hu
    have hpb : pb < W5.heap.size := by rw [hW5, hpbe]; simp
    have hB5 : Below W0.heap.size W0 W5 := by rw [hW5]; exact hBb.alloc hBb.size _
    rw [← hpbe, ← hW5]
    have HP := Lib.hid hP
    clear hP hW5 hpbe y1 y2 y3 hBb
    go_loopw [4, 6] (fun sv i wr => ∃ (j : Nat) (acc : Ox.S), j ≤ 3 ∧ i = .int .i64 j ∧ sv = .string (Lx.bs acc) ∧ acc.length ≤ 100 + 30 * j ∧ Below W5.heap.size W5 wr ∧ Hid (acc = lineN nm f o j)) (fun _ i _ => 3 - (intOf i).toNat)
    case atStart => exact ⟨0, nm, by omega, rfl, rfl, by omega, Below.refl _ _, Lib.hid rfl⟩
    case round =>
      obtain ⟨j, acc, hj, rfl, rfl, hal, hb, HA⟩ := hrel
      by_cases hjl : j < 3
      · rcases (show j = 0 ∨ j = 1 ∨ j = 2 by omega) with rfl | rfl | rfl
        · have hp5 := HP.out 0 _ rfl
          have hx5 : wr.cell? ⟨pb, 0, none⟩ = some (.int .i64 o.p1) := (hb.cell (p := ⟨pb, 0, none⟩) hpb).trans hp5
          have hpl : pb < wr.heap.size := Nat.lt_of_lt_of_le hpb hb.size
          clear hp5
          by_cases hd : F[0].toNat ≠ 46
          · have dj : ((F[0].toNat : Int) != 46) = true := by simp; omega
            have HA' : Hid (acc ++ (32 :: Ox.num (pN o 0)) = lineN nm f o 1) := by
              unfold Hid
              rw [lineN, ← HA.out, Ox.partN, ← HFA.out 0 fs0, if_neg hd]
            clear hd
            go_wp2_with fail
            refine (rnum_any o.p1 _ b1 b2).mono ?_
            rintro e w1 ⟨rfl, hb1⟩
            have hnl2 := num_21 b1 b2
            go_wp2
            go_roundw
            case rel => exact ⟨1, acc ++ (32 :: Ox.num o.p1), by omega, rfl, congrArg Value.string (cat_l acc _), by simp; omega, below_next hb hb1, HA'⟩
            case measure => simp [intOf]
          have hd : F[0].toNat = 46 := by omega
          have dj : ((F[0].toNat : Int) != 46) = false := by simp; omega
          have HA' : Hid (acc = lineN nm f o 1) := by
            unfold Hid
            rw [lineN, ← HA.out, Ox.partN, ← HFA.out 0 fs0, if_pos hd]; simp
          clear hd
          go_wp2
          go_roundw
          case rel => exact ⟨1, acc, by omega, rfl, rfl, by omega, hb, HA'⟩
          case measure => simp [intOf]
        · have hp5 := HP.out 1 _ rfl
          have hx5 : wr.cell? ⟨pb, 1, none⟩ = some (.int .i64 o.p2) := (hb.cell (p := ⟨pb, 1, none⟩) hpb).trans hp5
          have hpl : pb < wr.heap.size := Nat.lt_of_lt_of_le hpb hb.size
          clear hp5
          by_cases hd : F[1].toNat ≠ 46
          · have dj : ((F[1].toNat : Int) != 46) = true := by simp; omega
            have HA' : Hid (acc ++ (32 :: Ox.num (pN o 1)) = lineN nm f o 2) := by
              unfold Hid
              rw [lineN, ← HA.out, Ox.partN, ← HFA.out 1 fs1, if_neg hd]
            clear hd
            go_wp2_with fail
            refine (rnum_any o.p2 _ b3 b4).mono ?_
            rintro e w1 ⟨rfl, hb1⟩
            have hnl2 := num_21 b3 b4
            go_wp2
            go_roundw
            case rel => exact ⟨2, acc ++ (32 :: Ox.num o.p2), by omega, rfl, congrArg Value.string (cat_l acc _), by simp; omega, below_next hb hb1, HA'⟩
            case measure => simp [intOf]
          have hd : F[1].toNat = 46 := by omega
          have dj : ((F[1].toNat : Int) != 46) = false := by simp; omega
          have HA' : Hid (acc = lineN nm f o 2) := by
            unfold Hid
            rw [lineN, ← HA.out, Ox.partN, ← HFA.out 1 fs1, if_pos hd]; simp
          clear hd
          go_wp2
          go_roundw
          case rel => exact ⟨2, acc, by omega, rfl, rfl, by omega, hb, HA'⟩
          case measure => simp [intOf]
        · have hp5 := HP.out 2 _ rfl
          have hx5 : wr.cell? ⟨pb, 2, none⟩ = some (.int .i64 o.p3) := (hb.cell (p := ⟨pb, 2, none⟩) hpb).trans hp5
          have hpl : pb < wr.heap.size := Nat.lt_of_lt_of_le hpb hb.size
          clear hp5
          by_cases hd : F[2].toNat ≠ 46
          · have dj : ((F[2].toNat : Int) != 46) = true := by simp; omega
            have HA' : Hid (acc ++ (32 :: Ox.num (pN o 2)) = lineN nm f o 3) := by
              unfold Hid
              rw [lineN, ← HA.out, Ox.partN, ← HFA.out 2 fs2, if_neg hd]
            clear hd
            go_wp2_with fail
            refine (rnum_any o.p3 _ b5 b6).mono ?_
            rintro e w1 ⟨rfl, hb1⟩
            have hnl2 := num_21 b5 b6
            go_wp2
            go_roundw
            case rel => exact ⟨3, acc ++ (32 :: Ox.num o.p3), by omega, rfl, congrArg Value.string (cat_l acc _), by simp; omega, below_next hb hb1, HA'⟩
            case measure => simp [intOf]
          have hd : F[2].toNat = 46 := by omega
          have dj : ((F[2].toNat : Int) != 46) = false := by simp; omega
          have HA' : Hid (acc = lineN nm f o 3) := by
            unfold Hid
            rw [lineN, ← HA.out, Ox.partN, ← HFA.out 2 fs2, if_pos hd]; simp
          clear hd
          go_wp2
          go_roundw
          case rel => exact ⟨3, acc, by omega, rfl, rfl, by omega, hb, HA'⟩
          case measure => simp [intOf]
      · have hj3 : j = 3 := by omega
        have HJ3 := Lib.hid hj3
        have dj3 : (3 : Int) ≤ (j : Int) := by omega
        clear hj3 hjl
        have hbX := below_next hB5 hb
        have YC : ∀ wX, Below W0.heap.size W0 wX → wX.cell? ⟨w.heap.size, 7, none⟩ = some (.slice ka kn kc) ∧ wX.cell? ⟨w.heap.size, 8, none⟩ = some (.string (Lx.bs o.name)) ∧ w.heap.size < wX.heap.size := fun wX hX => ⟨(hX.cell (p := ⟨w.heap.size, 7, none⟩) hsz).trans (cW 7 _ rfl), (hX.cell (p := ⟨w.heap.size, 8, none⟩) hsz).trans (cW 8 _ rfl), Nat.lt_of_lt_of_le hsz hX.size⟩
        have HYC := Lib.hid YC
        have HHK := Lib.hid hk1
        have HT : Hid (acc ++ (32 :: Ox.valS o.vk o.vn o.vs) ++ Ox.keysS (o.keys.drop 0) = T) := Lib.hid (by rw [HT0.out, HA.out, HJ3.out]; rfl)
        have y4 : wr.cell? ⟨w.heap.size, 4, none⟩ = some (.int .i64 o.vk) := (hbX.cell (p := ⟨w.heap.size, 4, none⟩) hsz).trans (cW 4 _ rfl)
        have y5 : wr.cell? ⟨w.heap.size, 5, none⟩ = some (.int .i64 o.vn) := (hbX.cell (p := ⟨w.heap.size, 5, none⟩) hsz).trans (cW 5 _ rfl)
        have y6 : wr.cell? ⟨w.heap.size, 6, none⟩ = some (.string (Lx.bs o.vs)) := (hbX.cell (p := ⟨w.heap.size, 6, none⟩) hsz).trans (cW 6 _ rfl)
        go_wp2_with fail
        refine (rval_any o.vk o.vn o.vs _ HVK.out b7 b8 hvl).mono ?_
        rintro e wX ⟨rfl, hb2⟩
        have hbX := below_next hbX hb2
        clear YC cW hk1
        obtain ⟨acf, hacf⟩ : ∃ acf, acf = acc ++ (32 :: Ox.valS o.vk o.vn o.vs) := ⟨_, rfl⟩
        have hacl : acf.length ≤ 5000000 := by rw [hacf]; (try simp only [List.length_append, List.length_cons, List.length_nil]); omega
        rw [← hacf] at HT
        have HACF := Lib.hid hacf
        clear hacf
        obtain ⟨z7, z8, hs8⟩ := HYC.out _ hbX
        have hkcase := HHK.out
        rcases hkcase with ⟨hk0, qa, qc, hq⟩ | ⟨kb, koff, kcc, hq, hkb, hkc, hkm, hkx⟩
        · cases hq
          have hTT : acf = T := by rw [← HT.out, hk0]; simp [Ox.keysS]
          have HTT := Lib.hid hTT
          clear hTT hk0
          go_wp2
          refine wp_loop_rounds 1 ?_
          rw [rounds_succ]
          go_wp2
          go_ret
          exact ⟨ret_s (by rw [← HTT.out, HACF.out]; exact cat_l acc _), below_next hbo hbX⟩
        · cases hq
          obtain ⟨n, hn⟩ : ∃ n, n = o.keys.length := ⟨_, rfl⟩
          have HNN := Lib.hid hn
          rw [← hn] at hkl hkc z7 ⊢
          have HKX := Lib.hid hkx
          clear hn hkx
          go_wp2
          go_loopw [4, 7] (fun sv i wr => ∃ (k : Nat) (ac2 : Ox.S), k ≤ n ∧ i = .int .i64 k ∧ sv = .string (Lx.bs ac2) ∧ ac2.length ≤ 5000000 + 24 * k ∧ Below W0.heap.size W0 wr ∧ Hid (ac2 ++ Ox.keysS (o.keys.drop k) = T)) (fun _ i _ => n - (intOf i).toNat)
          case atStart => exact ⟨0, acf, by omega, rfl, by rw [HACF.out]; exact congrArg Value.string (cat_l acc _), by omega, hbX, HT⟩
          case round =>
            obtain ⟨k, ac2, hk, rfl, rfl, hal2, hbw, HK⟩ := hrel
            obtain ⟨z7, z8, hs8⟩ := HYC.out _ hbw
            rw [← HNN.out] at z7
            by_cases hlt : k < n
            · obtain ⟨t, ht⟩ : ∃ t, o.keys[k]? = some t := ⟨_, List.getElem?_eq_getElem (by rw [← HNN.out]; exact hlt)⟩
              have kcell : ∀ j u, j < 3 → (kcells t)[j]? = some u → wr.cell? ⟨kb, koff + (k * 3 + j), none⟩ = some u := fun j u hj hu => (hbw.cell (p := ⟨kb, koff + (k * 3 + j), none⟩) hkb).trans (HKX.out _ _ ((kflat_at ht hj).trans hu))
              have x0 : wr.cell? ⟨kb, koff + k * 3, none⟩ = some (.int .i64 t.col) := kcell 0 _ (by omega) rfl
              have x1 : wr.cell? ⟨kb, koff + k * 3 + 1, none⟩ = some (.int .i64 t.coll) := kcell 1 _ (by omega) rfl
              have x2 : wr.cell? ⟨kb, koff + k * 3 + 2, none⟩ = some (.bool t.desc) := kcell 2 _ (by omega) rfl
              obtain ⟨q1, q2⟩ := HKF.out t (List.mem_of_getElem? ht)
              have hkb2 : kb < wr.heap.size := Nat.lt_of_lt_of_le hkb hbw.size
              have hstep : Ox.keysS (o.keys.drop k) = (32 :: Ox.keyS t) ++ Ox.keysS (o.keys.drop (k + 1)) := by
                obtain ⟨h1, h2⟩ := List.getElem?_eq_some_iff.1 ht
                rw [List.drop_eq_getElem_cons h1, h2]; rfl
              have HK' : Hid (ac2 ++ (32 :: Ox.keyS t) ++ Ox.keysS (o.keys.drop (k + 1)) = T) := by unfold Hid; rw [← HK.out, hstep, List.append_assoc]
              have hkln := keyS_len q1 q2
              have u7 := upon_cell hs8 z7
              have u0 := upon_cell hkb2 x0
              have u1 := upon_cell hkb2 x1
              have u2 := upon_cell hkb2 x2
              clear kcell ht hstep
              obtain ⟨c1, cl, d⟩ := t
              have hnl9 := num_21 q1 q2
              obtain ⟨E9, hE9⟩ : ∃ E9, E9 = (if d then [100] else [97]) ++ (if cl = 1 then [110] else [98] : Ox.S) := ⟨_, rfl⟩
              have hEl : E9.length ≤ 2 := by
                rw [hE9, List.length_append]
                have h1 : (if d then [100] else [97] : Ox.S).length = 1 := by cases d <;> rfl
                have h2 : (if cl = 1 then [110] else [98] : Ox.S).length = 1 := by split <;> rfl
                omega
              have hends : ∀ wq : World, Calls Tryd.prog 28 #[.agg #[.int .i64 c1, .int .i64 cl, .bool d]] wq fun e w' => e = .returned (.string (Lx.bs E9)) ∧ Below wq.heap.size wq w' := fun wq => by rw [hE9]; exact ends_any c1 cl d wq
              have HE9 := Lib.hid hE9
              have HENDS := Lib.hid hends
              clear hE9 hends
              go_wp2
              refine wp_region_upon (by kernel_rfl) (by kernel_rfl) ?_
              repeat (go_big_quiet_step (first
                | (go_at_call 26; exact upon_call (rnum_any c1 _ q1 q2))
                | (go_at_call 28; exact upon_call (HENDS.out _))))
              refine wpQuiet_nil ?_
              rintro _ ⟨wx, rfl⟩
              have bx := upon_below wr wx
              clear u7 u0 u1 u2
              go_wp2
              go_roundw
              case rel => exact ⟨k + 1, ac2 ++ (32 :: Ox.keyS ⟨c1, cl, d⟩), by omega, by go_num, by rw [HE9.out]; exact congrArg Value.string (cat_k ac2 c1 cl d), by simp; omega, below_next hbw bx, HK'⟩
              case measure => simp [intOf]; omega
            · obtain rfl : k = n := by omega
              have hTT : ac2 = T := by rw [← HK.out, List.drop_eq_nil_of_le (by rw [← HNN.out]; omega)]; simp [Ox.keysS]
              subst hTT
              go_wp2
              go_ret
              exact ⟨rfl, below_next hbo hbw⟩
end Go.Proofs.YtoekddkkjbcicaaDoor
