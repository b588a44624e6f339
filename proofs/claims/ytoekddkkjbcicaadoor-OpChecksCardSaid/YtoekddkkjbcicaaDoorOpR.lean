import Derived.Test.YtoekddkkjbcicaaDoorOpQ
set_option linter.unusedVariables false
set_option linter.unusedSimpArgs false
namespace Go.Proofs.YtoekddkkjbcicaaDoor
open Go.RowKit
attribute [local simp] Lx.bs_size
def pN (o : Ox.Op) : Nat → Int
  | 0 => o.p1
  | 1 => o.p2
  | _ => o.p3
def lineN (nm f : Ox.S) (o : Ox.Op) : Nat → Ox.S
  | 0 => nm
  | j + 1 => lineN nm f o j ++ Ox.partN (Ox.at_ f j) (pN o j)
theorem cat2 (a b : Ox.S) : Lx.bs (a ++ b) = Lx.bs a ++ Lx.bs b := (Lx.bs_append a b).symm
theorem keysS_snoc (l : List Ox.Key) (k : Ox.Key) : Ox.keysS (l ++ [k]) = Ox.keysS l ++ (32 :: Ox.keyS k) := by simp [Ox.keysS]
theorem keyS_len {k : Ox.Key} (h1 : -9223372036854775808 ≤ k.col) (h2 : k.col ≤ 9223372036854775807) : (Ox.keyS k).length ≤ 23 := by
  have := num_21 h1 h2
  unfold Ox.keyS
  simp only [List.length_append]
  split <;> split <;> simp <;> omega
theorem line_eq (o : Ox.Op) (nm f : Ox.S) (h1 : (Ox.names[o.code.toNat]?).getD [] = nm) (h2 : Ox.form o.code = f) :
    Ox.line o = lineN nm f o 3 ++ Ox.partV (Ox.at_ f 3) o.vk o.vn o.vs ++ Ox.partS (Ox.at_ f 4) o.name ++ Ox.keysS o.keys := by
  rw [Ox.line, h1, h2]; rfl
def KeyFit (l : List Ox.Key) : Prop := ∀ k ∈ l, -9223372036854775808 ≤ k.col ∧ k.col ≤ 9223372036854775807
set_option maxRecDepth 100000 in
set_option maxHeartbeats 4000000 in
theorem line_11 (o : Ox.Op) (kv : Value) (w : World) (hl : Laid w) (hk : KAt w kv o.keys) (hkl : o.keys.length ≤ 100000) (hkf : KeyFit o.keys) (hnl : o.name.length ≤ 1000000) (hvl : o.vs.length ≤ 1000000)
    (b1 : -9223372036854775808 ≤ o.p1) (b2 : o.p1 ≤ 9223372036854775807) (b3 : -9223372036854775808 ≤ o.p2) (b4 : o.p2 ≤ 9223372036854775807) (b5 : -9223372036854775808 ≤ o.p3) (b6 : o.p3 ≤ 9223372036854775807) (b7 : -9223372036854775808 ≤ o.vn) (b8 : o.vn ≤ 9223372036854775807)
    (c : Nat) (hc34 : c < 34) (hc : o.code = (c : Int)) (f nm : Ox.S) (hf : Ox.forms[c]? = some f) (hf6 : f.length = 6) (hnm : Ox.names[c]? = some nm) (hnml : nm.length ≤ 20) (g3 : (Ox.at_ f 3).toNat ≠ 46) (g4 : (Ox.at_ f 4).toNat ≠ 46) :
    Calls Tryd.prog 31 #[.agg #[.int .i64 o.code, .int .i64 o.p1, .int .i64 o.p2, .int .i64 o.p3, .int .i64 o.vk, .int .i64 o.vn, .string (Lx.bs o.vs), kv, .string (Lx.bs o.name)]] w fun e w' => e = .returned (.string (Lx.bs (lineN nm f o 3 ++ (32 :: Ox.valS o.vk o.vn o.vs) ++ (32 :: o.name) ++ Ox.keysS o.keys))) ∧ Below w.heap.size w w' := by
  obtain ⟨F, hF⟩ : ∃ F, F = Lx.bs f := ⟨_, rfl⟩
  have hF6 : 6 ≤ F.size := by rw [hF, Lx.bs_size]; omega
  have fs0 : 0 < F.size := by omega
  have fs1 : 1 < F.size := by omega
  have fs2 : 2 < F.size := by omega
  have fs3 : 3 < F.size := by omega
  have fs4 : 4 < F.size := by omega
  have hFa : ∀ i (h : i < F.size), F[i] = Ox.at_ f i := by subst hF; intro i h; exact at_bs f i h
  have HFA := Lib.hid hFa
  have e3 : ((F[3].toNat : Int) != 46) = true := by rw [hFa 3 fs3]; simp; omega
  have e4 : ((F[4].toNat : Int) != 46) = true := by rw [hFa 4 fs4]; simp; omega
  have a0 : w.cell? ⟨0, c, none⟩ = some (.string (Lx.bs nm)) := hl.2.1 c nm hnm
  have a1 : w.cell? ⟨1, c, none⟩ = some (.string F) := by rw [hF]; exact hl.2.2 c f hf
  have h0 : 0 < w.heap.size := by have := hl.1; omega
  have h1 : 1 < w.heap.size := by have := hl.1; omega
  obtain ⟨ka, kn, kc, rfl⟩ := kat_form hk
  have K1 := heap_alloc_new w (.cells #[.int .i64 o.code, .int .i64 o.p1, .int .i64 o.p2, .int .i64 o.p3, .int .i64 o.vk, .int .i64 o.vn, .string (Lx.bs o.vs), (.slice ka kn kc), .string (Lx.bs o.name)] 39)
  have hbo := below_al (Below.refl w.heap.size w) (.cells #[.int .i64 o.code, .int .i64 o.p1, .int .i64 o.p2, .int .i64 o.p3, .int .i64 o.vk, .int .i64 o.vn, .string (Lx.bs o.vs), (.slice ka kn kc), .string (Lx.bs o.name)] 39)
  have hk1 := kat_keep hk hbo
  have hvv : (Ox.valS o.vk o.vn o.vs).length ≤ 3000000 := by
    have h1 := num_21 b7 b8
    have h2 := hex_len o.vs
    unfold Ox.valS
    repeat' split
    all_goals simp
    all_goals omega
  obtain ⟨T, hT⟩ : ∃ T, T = lineN nm f o 3 ++ (32 :: Ox.valS o.vk o.vn o.vs) ++ (32 :: o.name) ++ Ox.keysS o.keys := ⟨_, rfl⟩
  have HT0 := Lib.hid hT
  rw [← hT]
  clear hT
  rw [hc] at K1 hbo hk1 ⊢
  have HKF := Lib.hid hkf
  have ix0 : ∀ wr : World, (Instr.index 58 (.agg #[.int .i64 o.p1, .int .i64 o.p2, .int .i64 o.p3]) (.int .i64 0)).run Tryd.prog wr = .ok (.int .i64 o.p1) wr := fun wr => by kernel_rfl
  have ix1 : ∀ wr : World, (Instr.index 58 (.agg #[.int .i64 o.p1, .int .i64 o.p2, .int .i64 o.p3]) (.int .i64 1)).run Tryd.prog wr = .ok (.int .i64 o.p2) wr := fun wr => by kernel_rfl
  have ix2 : ∀ wr : World, (Instr.index 58 (.agg #[.int .i64 o.p1, .int .i64 o.p2, .int .i64 o.p3]) (.int .i64 2)).run Tryd.prog wr = .ok (.int .i64 o.p3) wr := fun wr => by kernel_rfl
  clear hl hk hf hf6 hnm g3 g4 hF hFa hc hkf
  go_enter Tryd.func31, Tryd.ntmps31
  go_wp2
  generalize (w.alloc (.cells #[.int .i64 (c : Int), .int .i64 o.p1, .int .i64 o.p2, .int .i64 o.p3, .int .i64 o.vk, .int .i64 o.vn, .string (Lx.bs o.vs), (.slice ka kn kc), .string (Lx.bs o.name)] 39)) = W0 at K1 hbo hk1 ⊢
  obtain ⟨cW, _⟩ := blk_cells K1
  have hsz := blk_lt K1
  go_loopw [4, 5, 6, 24] (fun sv _ _ i wr => ∃ (j : Nat) (acc : Ox.S), j ≤ 3 ∧ i = .int .i64 j ∧ sv = .string (Lx.bs acc) ∧ acc.length ≤ 100 + 30 * j ∧ Below W0.heap.size W0 wr ∧ Hid (acc = lineN nm f o j)) (fun _ _ _ i _ => 3 - (intOf i).toNat)
  case atStart => exact ⟨0, nm, by omega, rfl, rfl, by omega, Below.refl _ _, Lib.hid rfl⟩
  case round =>
    obtain ⟨j, acc, hj, rfl, rfl, hal, hb, HA⟩ := hrel
    by_cases hjl : j < 3
    · rcases (show j = 0 ∨ j = 1 ∨ j = 2 by omega) with rfl | rfl | rfl
      · by_cases hd : F[0].toNat ≠ 46
        · have dj : ((F[0].toNat : Int) != 46) = true := by simp; omega
          have HA' : Hid (acc ++ (32 :: Ox.num (pN o 0)) = lineN nm f o 1) := by
            unfold Hid
            rw [lineN, ← HA.out, Ox.partN, ← HFA.out 0 fs0, if_neg hd]
          clear hd
          go_wp2_with fail
          refine (tnum_any o.p1 _ b1 b2).mono ?_
          rintro e w1 ⟨rfl, hb1⟩
          have hnl2 := num_21 b1 b2
          go_wp2
          go_roundw
          case rel => exact ⟨1, acc ++ (32 :: Ox.num o.p1), by omega, rfl, by rw [cat2]; rfl, by simp; omega, below_next hb hb1, HA'⟩
          case measure => simp [intOf]
        have hd : F[0].toNat = 46 := by omega
        have dj : ((F[0].toNat : Int) != 46) = false := by simp; omega
        have HA' : Hid (acc = lineN nm f o 1) := by
          unfold Hid
          rw [lineN, ← HA.out, Ox.partN, ← HFA.out 0 fs0, if_pos hd]; simp
        clear hd
        go_wp2
        go_roundw
        case rel => exact ⟨1, acc, by omega, rfl, rfl, by omega, hb, HA'⟩
        case measure => simp [intOf]
      · by_cases hd : F[1].toNat ≠ 46
        · have dj : ((F[1].toNat : Int) != 46) = true := by simp; omega
          have HA' : Hid (acc ++ (32 :: Ox.num (pN o 1)) = lineN nm f o 2) := by
            unfold Hid
            rw [lineN, ← HA.out, Ox.partN, ← HFA.out 1 fs1, if_neg hd]
          clear hd
          go_wp2_with fail
          refine (tnum_any o.p2 _ b3 b4).mono ?_
          rintro e w1 ⟨rfl, hb1⟩
          have hnl2 := num_21 b3 b4
          go_wp2
          go_roundw
          case rel => exact ⟨2, acc ++ (32 :: Ox.num o.p2), by omega, rfl, by rw [cat2]; rfl, by simp; omega, below_next hb hb1, HA'⟩
          case measure => simp [intOf]
        have hd : F[1].toNat = 46 := by omega
        have dj : ((F[1].toNat : Int) != 46) = false := by simp; omega
        have HA' : Hid (acc = lineN nm f o 2) := by
          unfold Hid
          rw [lineN, ← HA.out, Ox.partN, ← HFA.out 1 fs1, if_pos hd]; simp
        clear hd
        go_wp2
        go_roundw
        case rel => exact ⟨2, acc, by omega, rfl, rfl, by omega, hb, HA'⟩
        case measure => simp [intOf]
      · by_cases hd : F[2].toNat ≠ 46
        · have dj : ((F[2].toNat : Int) != 46) = true := by simp; omega
          have HA' : Hid (acc ++ (32 :: Ox.num (pN o 2)) = lineN nm f o 3) := by
            unfold Hid
            rw [lineN, ← HA.out, Ox.partN, ← HFA.out 2 fs2, if_neg hd]
          clear hd
          go_wp2_with fail
          refine (tnum_any o.p3 _ b5 b6).mono ?_
          rintro e w1 ⟨rfl, hb1⟩
          have hnl2 := num_21 b5 b6
          go_wp2
          go_roundw
          case rel => exact ⟨3, acc ++ (32 :: Ox.num o.p3), by omega, rfl, by rw [cat2]; rfl, by simp; omega, below_next hb hb1, HA'⟩
          case measure => simp [intOf]
        have hd : F[2].toNat = 46 := by omega
        have dj : ((F[2].toNat : Int) != 46) = false := by simp; omega
        have HA' : Hid (acc = lineN nm f o 3) := by
          unfold Hid
          rw [lineN, ← HA.out, Ox.partN, ← HFA.out 2 fs2, if_pos hd]; simp
        clear hd
        go_wp2
        go_roundw
        case rel => exact ⟨3, acc, by omega, rfl, rfl, by omega, hb, HA'⟩
        case measure => simp [intOf]
    · obtain rfl : j = 3 := by omega
      have y4 : wr.cell? ⟨w.heap.size, 4, none⟩ = some (.int .i64 o.vk) := (hb.cell (p := ⟨w.heap.size, 4, none⟩) hsz).trans (cW 4 _ rfl)
      have y5 : wr.cell? ⟨w.heap.size, 5, none⟩ = some (.int .i64 o.vn) := (hb.cell (p := ⟨w.heap.size, 5, none⟩) hsz).trans (cW 5 _ rfl)
      have y6 : wr.cell? ⟨w.heap.size, 6, none⟩ = some (.string (Lx.bs o.vs)) := (hb.cell (p := ⟨w.heap.size, 6, none⟩) hsz).trans (cW 6 _ rfl)
      have YC : ∀ wX, Below W0.heap.size W0 wX → wX.cell? ⟨w.heap.size, 7, none⟩ = some (.slice ka kn kc) ∧ wX.cell? ⟨w.heap.size, 8, none⟩ = some (.string (Lx.bs o.name)) := fun wX hX => ⟨(hX.cell (p := ⟨w.heap.size, 7, none⟩) hsz).trans (cW 7 _ rfl), (hX.cell (p := ⟨w.heap.size, 8, none⟩) hsz).trans (cW 8 _ rfl)⟩
      have HYC := Lib.hid YC
      have HHK := Lib.hid hk1
      have HT : Hid (acc ++ (32 :: Ox.valS o.vk o.vn o.vs) ++ (32 :: o.name) ++ Ox.keysS (o.keys.drop 0) = T) := Lib.hid (by rw [HT0.out, HA.out]; rfl)
      clear YC cW hk1
      go_wp2_with fail
      refine (val_any o.vk o.vn o.vs _ b7 b8 hvl).mono ?_
      rintro e wX ⟨rfl, hb2⟩
      have hbX := below_next hb hb2
      obtain ⟨z7, z8⟩ := HYC.out _ hbX
      have hkcase := HHK.out
      rcases hkcase with ⟨hk0, qa, qc, hq⟩ | ⟨kb, koff, kcc, hq, hkb, hkc, hkm, hkx⟩
      · cases hq
        have hTT : acc ++ (32 :: Ox.valS o.vk o.vn o.vs) ++ (32 :: o.name) = T := by rw [← HT.out, hk0]; simp [Ox.keysS]
        have HTT := Lib.hid hTT
        clear hTT hk0
        go_wp2
        refine wp_loop_rounds 1 ?_
        rw [rounds_succ]
        go_wp2
        go_ret
        exact ⟨ret_s (by rw [← HTT.out]; rw [cat2, cat2]; rfl), below_next hbo hbX⟩
      · cases hq
        obtain ⟨n, hn⟩ : ∃ n, n = o.keys.length := ⟨_, rfl⟩
        have HNN := Lib.hid hn
        rw [← hn] at hkl hkc z7 ⊢
        have HKX := Lib.hid hkx
        clear hn hkx
        go_wp2
        go_loopw [4, 8, 58] (fun sv _ i wr => ∃ (k : Nat) (ac2 : Ox.S), k ≤ n ∧ i = .int .i64 k ∧ sv = .string (Lx.bs ac2) ∧ ac2.length ≤ 5000000 + 24 * k ∧ Below W0.heap.size W0 wr ∧ Hid (ac2 ++ Ox.keysS (o.keys.drop k) = T)) (fun _ _ i _ => n - (intOf i).toNat)
        case atStart => exact ⟨0, acc ++ (32 :: Ox.valS o.vk o.vn o.vs) ++ (32 :: o.name), by omega, rfl, by rw [cat2, cat2]; rfl, by simp only [List.length_append, List.length_cons, List.length_nil]; omega, hbX, HT⟩
        case round =>
          obtain ⟨k, ac2, hk, rfl, rfl, hal2, hbw, HK⟩ := hrel
          by_cases hlt : k < n
          · obtain ⟨t, ht⟩ : ∃ t, o.keys[k]? = some t := ⟨_, List.getElem?_eq_getElem (by rw [← HNN.out]; exact hlt)⟩
            have kcell : ∀ j u, j < 3 → (kcells t)[j]? = some u → wr.cell? ⟨kb, koff + (k * 3 + j), none⟩ = some u := fun j u hj hu => (hbw.cell (p := ⟨kb, koff + (k * 3 + j), none⟩) hkb).trans (HKX.out _ _ ((kflat_at ht hj).trans hu))
            have x0 : wr.cell? ⟨kb, koff + k * 3, none⟩ = some (.int .i64 t.col) := kcell 0 _ (by omega) rfl
            have x1 : wr.cell? ⟨kb, koff + k * 3 + 1, none⟩ = some (.int .i64 t.coll) := kcell 1 _ (by omega) rfl
            have x2 : wr.cell? ⟨kb, koff + k * 3 + 2, none⟩ = some (.bool t.desc) := kcell 2 _ (by omega) rfl
            obtain ⟨q1, q2⟩ := HKF.out t (List.mem_of_getElem? ht)
            have hkb2 : kb < wr.heap.size := Nat.lt_of_lt_of_le hkb hbw.size
            have hstep : Ox.keysS (o.keys.drop k) = (32 :: Ox.keyS t) ++ Ox.keysS (o.keys.drop (k + 1)) := by
              obtain ⟨h1, h2⟩ := List.getElem?_eq_some_iff.1 ht
              rw [List.drop_eq_getElem_cons h1, h2]; rfl
            have HK' : Hid (ac2 ++ (32 :: Ox.keyS t) ++ Ox.keysS (o.keys.drop (k + 1)) = T) := by unfold Hid; rw [← HK.out, hstep, List.append_assoc]
            have hkln := keyS_len q1 q2
            clear kcell ht hstep
            obtain ⟨c1, cl, d⟩ := t
            go_wp2_with fail
            refine (key_any c1 cl d _ q1 q2).mono ?_
            rintro e w3 ⟨rfl, hb3⟩
            have hB3 := below_next (w := W0) (below_al hbw _) hb3
            go_wp2
            go_roundw
            case rel => exact ⟨k + 1, ac2 ++ (32 :: Ox.keyS ⟨c1, cl, d⟩), by omega, by go_num, by rw [cat2]; rfl, by simp; omega, hB3, HK'⟩
            case measure => simp [intOf]; omega
          · obtain rfl : k = n := by omega
            have hTT : ac2 = T := by rw [← HK.out, List.drop_eq_nil_of_le (by rw [← HNN.out]; omega)]; simp [Ox.keysS]
            subst hTT
            go_wp2
            go_ret
            exact ⟨rfl, below_next hbo hbw⟩
set_option maxRecDepth 100000 in
set_option maxHeartbeats 4000000 in
theorem line_10 (o : Ox.Op) (kv : Value) (w : World) (hl : Laid w) (hk : KAt w kv o.keys) (hkl : o.keys.length ≤ 100000) (hkf : KeyFit o.keys) (hnl : o.name.length ≤ 1000000) (hvl : o.vs.length ≤ 1000000)
    (b1 : -9223372036854775808 ≤ o.p1) (b2 : o.p1 ≤ 9223372036854775807) (b3 : -9223372036854775808 ≤ o.p2) (b4 : o.p2 ≤ 9223372036854775807) (b5 : -9223372036854775808 ≤ o.p3) (b6 : o.p3 ≤ 9223372036854775807) (b7 : -9223372036854775808 ≤ o.vn) (b8 : o.vn ≤ 9223372036854775807)
    (c : Nat) (hc34 : c < 34) (hc : o.code = (c : Int)) (f nm : Ox.S) (hf : Ox.forms[c]? = some f) (hf6 : f.length = 6) (hnm : Ox.names[c]? = some nm) (hnml : nm.length ≤ 20) (g3 : (Ox.at_ f 3).toNat ≠ 46) (g4 : (Ox.at_ f 4).toNat = 46) :
    Calls Tryd.prog 31 #[.agg #[.int .i64 o.code, .int .i64 o.p1, .int .i64 o.p2, .int .i64 o.p3, .int .i64 o.vk, .int .i64 o.vn, .string (Lx.bs o.vs), kv, .string (Lx.bs o.name)]] w fun e w' => e = .returned (.string (Lx.bs (lineN nm f o 3 ++ (32 :: Ox.valS o.vk o.vn o.vs) ++ ([] : Ox.S) ++ Ox.keysS o.keys))) ∧ Below w.heap.size w w' := by
  obtain ⟨F, hF⟩ : ∃ F, F = Lx.bs f := ⟨_, rfl⟩
  have hF6 : 6 ≤ F.size := by rw [hF, Lx.bs_size]; omega
  have fs0 : 0 < F.size := by omega
  have fs1 : 1 < F.size := by omega
  have fs2 : 2 < F.size := by omega
  have fs3 : 3 < F.size := by omega
  have fs4 : 4 < F.size := by omega
  have hFa : ∀ i (h : i < F.size), F[i] = Ox.at_ f i := by subst hF; intro i h; exact at_bs f i h
  have HFA := Lib.hid hFa
  have e3 : ((F[3].toNat : Int) != 46) = true := by rw [hFa 3 fs3]; simp; omega
  have e4 : ((F[4].toNat : Int) != 46) = false := by rw [hFa 4 fs4]; simp; omega
  have a0 : w.cell? ⟨0, c, none⟩ = some (.string (Lx.bs nm)) := hl.2.1 c nm hnm
  have a1 : w.cell? ⟨1, c, none⟩ = some (.string F) := by rw [hF]; exact hl.2.2 c f hf
  have h0 : 0 < w.heap.size := by have := hl.1; omega
  have h1 : 1 < w.heap.size := by have := hl.1; omega
  obtain ⟨ka, kn, kc, rfl⟩ := kat_form hk
  have K1 := heap_alloc_new w (.cells #[.int .i64 o.code, .int .i64 o.p1, .int .i64 o.p2, .int .i64 o.p3, .int .i64 o.vk, .int .i64 o.vn, .string (Lx.bs o.vs), (.slice ka kn kc), .string (Lx.bs o.name)] 39)
  have hbo := below_al (Below.refl w.heap.size w) (.cells #[.int .i64 o.code, .int .i64 o.p1, .int .i64 o.p2, .int .i64 o.p3, .int .i64 o.vk, .int .i64 o.vn, .string (Lx.bs o.vs), (.slice ka kn kc), .string (Lx.bs o.name)] 39)
  have hk1 := kat_keep hk hbo
  have hvv : (Ox.valS o.vk o.vn o.vs).length ≤ 3000000 := by
    have h1 := num_21 b7 b8
    have h2 := hex_len o.vs
    unfold Ox.valS
    repeat' split
    all_goals simp
    all_goals omega
  obtain ⟨T, hT⟩ : ∃ T, T = lineN nm f o 3 ++ (32 :: Ox.valS o.vk o.vn o.vs) ++ ([] : Ox.S) ++ Ox.keysS o.keys := ⟨_, rfl⟩
  have HT0 := Lib.hid hT
  rw [← hT]
  clear hT
  rw [hc] at K1 hbo hk1 ⊢
  have HKF := Lib.hid hkf
  have ix0 : ∀ wr : World, (Instr.index 58 (.agg #[.int .i64 o.p1, .int .i64 o.p2, .int .i64 o.p3]) (.int .i64 0)).run Tryd.prog wr = .ok (.int .i64 o.p1) wr := fun wr => by kernel_rfl
  have ix1 : ∀ wr : World, (Instr.index 58 (.agg #[.int .i64 o.p1, .int .i64 o.p2, .int .i64 o.p3]) (.int .i64 1)).run Tryd.prog wr = .ok (.int .i64 o.p2) wr := fun wr => by kernel_rfl
  have ix2 : ∀ wr : World, (Instr.index 58 (.agg #[.int .i64 o.p1, .int .i64 o.p2, .int .i64 o.p3]) (.int .i64 2)).run Tryd.prog wr = .ok (.int .i64 o.p3) wr := fun wr => by kernel_rfl
  clear hl hk hf hf6 hnm g3 g4 hF hFa hc hkf
  go_enter Tryd.func31, Tryd.ntmps31
  go_wp2
  generalize (w.alloc (.cells #[.int .i64 (c : Int), .int .i64 o.p1, .int .i64 o.p2, .int .i64 o.p3, .int .i64 o.vk, .int .i64 o.vn, .string (Lx.bs o.vs), (.slice ka kn kc), .string (Lx.bs o.name)] 39)) = W0 at K1 hbo hk1 ⊢
  obtain ⟨cW, _⟩ := blk_cells K1
  have hsz := blk_lt K1
  go_loopw [4, 5, 6, 24] (fun sv _ _ i wr => ∃ (j : Nat) (acc : Ox.S), j ≤ 3 ∧ i = .int .i64 j ∧ sv = .string (Lx.bs acc) ∧ acc.length ≤ 100 + 30 * j ∧ Below W0.heap.size W0 wr ∧ Hid (acc = lineN nm f o j)) (fun _ _ _ i _ => 3 - (intOf i).toNat)
  case atStart => exact ⟨0, nm, by omega, rfl, rfl, by omega, Below.refl _ _, Lib.hid rfl⟩
  case round =>
    obtain ⟨j, acc, hj, rfl, rfl, hal, hb, HA⟩ := hrel
    by_cases hjl : j < 3
    · rcases (show j = 0 ∨ j = 1 ∨ j = 2 by omega) with rfl | rfl | rfl
      · by_cases hd : F[0].toNat ≠ 46
        · have dj : ((F[0].toNat : Int) != 46) = true := by simp; omega
          have HA' : Hid (acc ++ (32 :: Ox.num (pN o 0)) = lineN nm f o 1) := by
            unfold Hid
            rw [lineN, ← HA.out, Ox.partN, ← HFA.out 0 fs0, if_neg hd]
          clear hd
          go_wp2_with fail
          refine (tnum_any o.p1 _ b1 b2).mono ?_
          rintro e w1 ⟨rfl, hb1⟩
          have hnl2 := num_21 b1 b2
          go_wp2
          go_roundw
          case rel => exact ⟨1, acc ++ (32 :: Ox.num o.p1), by omega, rfl, by rw [cat2]; rfl, by simp; omega, below_next hb hb1, HA'⟩
          case measure => simp [intOf]
        have hd : F[0].toNat = 46 := by omega
        have dj : ((F[0].toNat : Int) != 46) = false := by simp; omega
        have HA' : Hid (acc = lineN nm f o 1) := by
          unfold Hid
          rw [lineN, ← HA.out, Ox.partN, ← HFA.out 0 fs0, if_pos hd]; simp
        clear hd
        go_wp2
        go_roundw
        case rel => exact ⟨1, acc, by omega, rfl, rfl, by omega, hb, HA'⟩
        case measure => simp [intOf]
      · by_cases hd : F[1].toNat ≠ 46
        · have dj : ((F[1].toNat : Int) != 46) = true := by simp; omega
          have HA' : Hid (acc ++ (32 :: Ox.num (pN o 1)) = lineN nm f o 2) := by
            unfold Hid
            rw [lineN, ← HA.out, Ox.partN, ← HFA.out 1 fs1, if_neg hd]
          clear hd
          go_wp2_with fail
          refine (tnum_any o.p2 _ b3 b4).mono ?_
          rintro e w1 ⟨rfl, hb1⟩
          have hnl2 := num_21 b3 b4
          go_wp2
          go_roundw
          case rel => exact ⟨2, acc ++ (32 :: Ox.num o.p2), by omega, rfl, by rw [cat2]; rfl, by simp; omega, below_next hb hb1, HA'⟩
          case measure => simp [intOf]
        have hd : F[1].toNat = 46 := by omega
        have dj : ((F[1].toNat : Int) != 46) = false := by simp; omega
        have HA' : Hid (acc = lineN nm f o 2) := by
          unfold Hid
          rw [lineN, ← HA.out, Ox.partN, ← HFA.out 1 fs1, if_pos hd]; simp
        clear hd
        go_wp2
        go_roundw
        case rel => exact ⟨2, acc, by omega, rfl, rfl, by omega, hb, HA'⟩
        case measure => simp [intOf]
      · by_cases hd : F[2].toNat ≠ 46
        · have dj : ((F[2].toNat : Int) != 46) = true := by simp; omega
          have HA' : Hid (acc ++ (32 :: Ox.num (pN o 2)) = lineN nm f o 3) := by
            unfold Hid
            rw [lineN, ← HA.out, Ox.partN, ← HFA.out 2 fs2, if_neg hd]
          clear hd
          go_wp2_with fail
          refine (tnum_any o.p3 _ b5 b6).mono ?_
          rintro e w1 ⟨rfl, hb1⟩
          have hnl2 := num_21 b5 b6
          go_wp2
          go_roundw
          case rel => exact ⟨3, acc ++ (32 :: Ox.num o.p3), by omega, rfl, by rw [cat2]; rfl, by simp; omega, below_next hb hb1, HA'⟩
          case measure => simp [intOf]
        have hd : F[2].toNat = 46 := by omega
        have dj : ((F[2].toNat : Int) != 46) = false := by simp; omega
        have HA' : Hid (acc = lineN nm f o 3) := by
          unfold Hid
          rw [lineN, ← HA.out, Ox.partN, ← HFA.out 2 fs2, if_pos hd]; simp
        clear hd
        go_wp2
        go_roundw
        case rel => exact ⟨3, acc, by omega, rfl, rfl, by omega, hb, HA'⟩
        case measure => simp [intOf]
    · obtain rfl : j = 3 := by omega
      have y4 : wr.cell? ⟨w.heap.size, 4, none⟩ = some (.int .i64 o.vk) := (hb.cell (p := ⟨w.heap.size, 4, none⟩) hsz).trans (cW 4 _ rfl)
      have y5 : wr.cell? ⟨w.heap.size, 5, none⟩ = some (.int .i64 o.vn) := (hb.cell (p := ⟨w.heap.size, 5, none⟩) hsz).trans (cW 5 _ rfl)
      have y6 : wr.cell? ⟨w.heap.size, 6, none⟩ = some (.string (Lx.bs o.vs)) := (hb.cell (p := ⟨w.heap.size, 6, none⟩) hsz).trans (cW 6 _ rfl)
      have YC : ∀ wX, Below W0.heap.size W0 wX → wX.cell? ⟨w.heap.size, 7, none⟩ = some (.slice ka kn kc) ∧ wX.cell? ⟨w.heap.size, 8, none⟩ = some (.string (Lx.bs o.name)) := fun wX hX => ⟨(hX.cell (p := ⟨w.heap.size, 7, none⟩) hsz).trans (cW 7 _ rfl), (hX.cell (p := ⟨w.heap.size, 8, none⟩) hsz).trans (cW 8 _ rfl)⟩
      have HYC := Lib.hid YC
      have HHK := Lib.hid hk1
      have HT : Hid (acc ++ (32 :: Ox.valS o.vk o.vn o.vs) ++ ([] : Ox.S) ++ Ox.keysS (o.keys.drop 0) = T) := Lib.hid (by rw [HT0.out, HA.out]; rfl)
      clear YC cW hk1
      go_wp2_with fail
      refine (val_any o.vk o.vn o.vs _ b7 b8 hvl).mono ?_
      rintro e wX ⟨rfl, hb2⟩
      have hbX := below_next hb hb2
      obtain ⟨z7, z8⟩ := HYC.out _ hbX
      have hkcase := HHK.out
      rcases hkcase with ⟨hk0, qa, qc, hq⟩ | ⟨kb, koff, kcc, hq, hkb, hkc, hkm, hkx⟩
      · cases hq
        have hTT : acc ++ (32 :: Ox.valS o.vk o.vn o.vs) ++ ([] : Ox.S) = T := by rw [← HT.out, hk0]; simp [Ox.keysS]
        have HTT := Lib.hid hTT
        clear hTT hk0
        go_wp2
        refine wp_loop_rounds 1 ?_
        rw [rounds_succ]
        go_wp2
        go_ret
        exact ⟨ret_s (by rw [← HTT.out]; rw [List.append_nil, cat2]; rfl), below_next hbo hbX⟩
      · cases hq
        obtain ⟨n, hn⟩ : ∃ n, n = o.keys.length := ⟨_, rfl⟩
        have HNN := Lib.hid hn
        rw [← hn] at hkl hkc z7 ⊢
        have HKX := Lib.hid hkx
        clear hn hkx
        go_wp2
        go_loopw [4, 8, 58] (fun sv _ i wr => ∃ (k : Nat) (ac2 : Ox.S), k ≤ n ∧ i = .int .i64 k ∧ sv = .string (Lx.bs ac2) ∧ ac2.length ≤ 5000000 + 24 * k ∧ Below W0.heap.size W0 wr ∧ Hid (ac2 ++ Ox.keysS (o.keys.drop k) = T)) (fun _ _ i _ => n - (intOf i).toNat)
        case atStart => exact ⟨0, acc ++ (32 :: Ox.valS o.vk o.vn o.vs) ++ ([] : Ox.S), by omega, rfl, by rw [List.append_nil, cat2]; rfl, by simp only [List.length_append, List.length_cons, List.length_nil]; omega, hbX, HT⟩
        case round =>
          obtain ⟨k, ac2, hk, rfl, rfl, hal2, hbw, HK⟩ := hrel
          by_cases hlt : k < n
          · obtain ⟨t, ht⟩ : ∃ t, o.keys[k]? = some t := ⟨_, List.getElem?_eq_getElem (by rw [← HNN.out]; exact hlt)⟩
            have kcell : ∀ j u, j < 3 → (kcells t)[j]? = some u → wr.cell? ⟨kb, koff + (k * 3 + j), none⟩ = some u := fun j u hj hu => (hbw.cell (p := ⟨kb, koff + (k * 3 + j), none⟩) hkb).trans (HKX.out _ _ ((kflat_at ht hj).trans hu))
            have x0 : wr.cell? ⟨kb, koff + k * 3, none⟩ = some (.int .i64 t.col) := kcell 0 _ (by omega) rfl
            have x1 : wr.cell? ⟨kb, koff + k * 3 + 1, none⟩ = some (.int .i64 t.coll) := kcell 1 _ (by omega) rfl
            have x2 : wr.cell? ⟨kb, koff + k * 3 + 2, none⟩ = some (.bool t.desc) := kcell 2 _ (by omega) rfl
            obtain ⟨q1, q2⟩ := HKF.out t (List.mem_of_getElem? ht)
            have hkb2 : kb < wr.heap.size := Nat.lt_of_lt_of_le hkb hbw.size
            have hstep : Ox.keysS (o.keys.drop k) = (32 :: Ox.keyS t) ++ Ox.keysS (o.keys.drop (k + 1)) := by
              obtain ⟨h1, h2⟩ := List.getElem?_eq_some_iff.1 ht
              rw [List.drop_eq_getElem_cons h1, h2]; rfl
            have HK' : Hid (ac2 ++ (32 :: Ox.keyS t) ++ Ox.keysS (o.keys.drop (k + 1)) = T) := by unfold Hid; rw [← HK.out, hstep, List.append_assoc]
            have hkln := keyS_len q1 q2
            clear kcell ht hstep
            obtain ⟨c1, cl, d⟩ := t
            go_wp2_with fail
            refine (key_any c1 cl d _ q1 q2).mono ?_
            rintro e w3 ⟨rfl, hb3⟩
            have hB3 := below_next (w := W0) (below_al hbw _) hb3
            go_wp2
            go_roundw
            case rel => exact ⟨k + 1, ac2 ++ (32 :: Ox.keyS ⟨c1, cl, d⟩), by omega, by go_num, by rw [cat2]; rfl, by simp; omega, hB3, HK'⟩
            case measure => simp [intOf]; omega
          · obtain rfl : k = n := by omega
            have hTT : ac2 = T := by rw [← HK.out, List.drop_eq_nil_of_le (by rw [← HNN.out]; omega)]; simp [Ox.keysS]
            subst hTT
            go_wp2
            go_ret
            exact ⟨rfl, below_next hbo hbw⟩
set_option maxRecDepth 100000 in
set_option maxHeartbeats 4000000 in
theorem line_01 (o : Ox.Op) (kv : Value) (w : World) (hl : Laid w) (hk : KAt w kv o.keys) (hkl : o.keys.length ≤ 100000) (hkf : KeyFit o.keys) (hnl : o.name.length ≤ 1000000) (hvl : o.vs.length ≤ 1000000)
    (b1 : -9223372036854775808 ≤ o.p1) (b2 : o.p1 ≤ 9223372036854775807) (b3 : -9223372036854775808 ≤ o.p2) (b4 : o.p2 ≤ 9223372036854775807) (b5 : -9223372036854775808 ≤ o.p3) (b6 : o.p3 ≤ 9223372036854775807) (b7 : -9223372036854775808 ≤ o.vn) (b8 : o.vn ≤ 9223372036854775807)
    (c : Nat) (hc34 : c < 34) (hc : o.code = (c : Int)) (f nm : Ox.S) (hf : Ox.forms[c]? = some f) (hf6 : f.length = 6) (hnm : Ox.names[c]? = some nm) (hnml : nm.length ≤ 20) (g3 : (Ox.at_ f 3).toNat = 46) (g4 : (Ox.at_ f 4).toNat ≠ 46) :
    Calls Tryd.prog 31 #[.agg #[.int .i64 o.code, .int .i64 o.p1, .int .i64 o.p2, .int .i64 o.p3, .int .i64 o.vk, .int .i64 o.vn, .string (Lx.bs o.vs), kv, .string (Lx.bs o.name)]] w fun e w' => e = .returned (.string (Lx.bs (lineN nm f o 3 ++ ([] : Ox.S) ++ (32 :: o.name) ++ Ox.keysS o.keys))) ∧ Below w.heap.size w w' := by
  obtain ⟨F, hF⟩ : ∃ F, F = Lx.bs f := ⟨_, rfl⟩
  have hF6 : 6 ≤ F.size := by rw [hF, Lx.bs_size]; omega
  have fs0 : 0 < F.size := by omega
  have fs1 : 1 < F.size := by omega
  have fs2 : 2 < F.size := by omega
  have fs3 : 3 < F.size := by omega
  have fs4 : 4 < F.size := by omega
  have hFa : ∀ i (h : i < F.size), F[i] = Ox.at_ f i := by subst hF; intro i h; exact at_bs f i h
  have HFA := Lib.hid hFa
  have e3 : ((F[3].toNat : Int) != 46) = false := by rw [hFa 3 fs3]; simp; omega
  have e4 : ((F[4].toNat : Int) != 46) = true := by rw [hFa 4 fs4]; simp; omega
  have a0 : w.cell? ⟨0, c, none⟩ = some (.string (Lx.bs nm)) := hl.2.1 c nm hnm
  have a1 : w.cell? ⟨1, c, none⟩ = some (.string F) := by rw [hF]; exact hl.2.2 c f hf
  have h0 : 0 < w.heap.size := by have := hl.1; omega
  have h1 : 1 < w.heap.size := by have := hl.1; omega
  obtain ⟨ka, kn, kc, rfl⟩ := kat_form hk
  have K1 := heap_alloc_new w (.cells #[.int .i64 o.code, .int .i64 o.p1, .int .i64 o.p2, .int .i64 o.p3, .int .i64 o.vk, .int .i64 o.vn, .string (Lx.bs o.vs), (.slice ka kn kc), .string (Lx.bs o.name)] 39)
  have hbo := below_al (Below.refl w.heap.size w) (.cells #[.int .i64 o.code, .int .i64 o.p1, .int .i64 o.p2, .int .i64 o.p3, .int .i64 o.vk, .int .i64 o.vn, .string (Lx.bs o.vs), (.slice ka kn kc), .string (Lx.bs o.name)] 39)
  have hk1 := kat_keep hk hbo
  have hvv : (Ox.valS o.vk o.vn o.vs).length ≤ 3000000 := by
    have h1 := num_21 b7 b8
    have h2 := hex_len o.vs
    unfold Ox.valS
    repeat' split
    all_goals simp
    all_goals omega
  obtain ⟨T, hT⟩ : ∃ T, T = lineN nm f o 3 ++ ([] : Ox.S) ++ (32 :: o.name) ++ Ox.keysS o.keys := ⟨_, rfl⟩
  have HT0 := Lib.hid hT
  rw [← hT]
  clear hT
  rw [hc] at K1 hbo hk1 ⊢
  have HKF := Lib.hid hkf
  have ix0 : ∀ wr : World, (Instr.index 58 (.agg #[.int .i64 o.p1, .int .i64 o.p2, .int .i64 o.p3]) (.int .i64 0)).run Tryd.prog wr = .ok (.int .i64 o.p1) wr := fun wr => by kernel_rfl
  have ix1 : ∀ wr : World, (Instr.index 58 (.agg #[.int .i64 o.p1, .int .i64 o.p2, .int .i64 o.p3]) (.int .i64 1)).run Tryd.prog wr = .ok (.int .i64 o.p2) wr := fun wr => by kernel_rfl
  have ix2 : ∀ wr : World, (Instr.index 58 (.agg #[.int .i64 o.p1, .int .i64 o.p2, .int .i64 o.p3]) (.int .i64 2)).run Tryd.prog wr = .ok (.int .i64 o.p3) wr := fun wr => by kernel_rfl
  clear hl hk hf hf6 hnm g3 g4 hF hFa hc hkf
  go_enter Tryd.func31, Tryd.ntmps31
  go_wp2
  generalize (w.alloc (.cells #[.int .i64 (c : Int), .int .i64 o.p1, .int .i64 o.p2, .int .i64 o.p3, .int .i64 o.vk, .int .i64 o.vn, .string (Lx.bs o.vs), (.slice ka kn kc), .string (Lx.bs o.name)] 39)) = W0 at K1 hbo hk1 ⊢
  obtain ⟨cW, _⟩ := blk_cells K1
  have hsz := blk_lt K1
  go_loopw [4, 5, 6, 24] (fun sv _ _ i wr => ∃ (j : Nat) (acc : Ox.S), j ≤ 3 ∧ i = .int .i64 j ∧ sv = .string (Lx.bs acc) ∧ acc.length ≤ 100 + 30 * j ∧ Below W0.heap.size W0 wr ∧ Hid (acc = lineN nm f o j)) (fun _ _ _ i _ => 3 - (intOf i).toNat)
  case atStart => exact ⟨0, nm, by omega, rfl, rfl, by omega, Below.refl _ _, Lib.hid rfl⟩
  case round =>
    obtain ⟨j, acc, hj, rfl, rfl, hal, hb, HA⟩ := hrel
    by_cases hjl : j < 3
    · rcases (show j = 0 ∨ j = 1 ∨ j = 2 by omega) with rfl | rfl | rfl
      · by_cases hd : F[0].toNat ≠ 46
        · have dj : ((F[0].toNat : Int) != 46) = true := by simp; omega
          have HA' : Hid (acc ++ (32 :: Ox.num (pN o 0)) = lineN nm f o 1) := by
            unfold Hid
            rw [lineN, ← HA.out, Ox.partN, ← HFA.out 0 fs0, if_neg hd]
          clear hd
          go_wp2_with fail
          refine (tnum_any o.p1 _ b1 b2).mono ?_
          rintro e w1 ⟨rfl, hb1⟩
          have hnl2 := num_21 b1 b2
          go_wp2
          go_roundw
          case rel => exact ⟨1, acc ++ (32 :: Ox.num o.p1), by omega, rfl, by rw [cat2]; rfl, by simp; omega, below_next hb hb1, HA'⟩
          case measure => simp [intOf]
        have hd : F[0].toNat = 46 := by omega
        have dj : ((F[0].toNat : Int) != 46) = false := by simp; omega
        have HA' : Hid (acc = lineN nm f o 1) := by
          unfold Hid
          rw [lineN, ← HA.out, Ox.partN, ← HFA.out 0 fs0, if_pos hd]; simp
        clear hd
        go_wp2
        go_roundw
        case rel => exact ⟨1, acc, by omega, rfl, rfl, by omega, hb, HA'⟩
        case measure => simp [intOf]
      · by_cases hd : F[1].toNat ≠ 46
        · have dj : ((F[1].toNat : Int) != 46) = true := by simp; omega
          have HA' : Hid (acc ++ (32 :: Ox.num (pN o 1)) = lineN nm f o 2) := by
            unfold Hid
            rw [lineN, ← HA.out, Ox.partN, ← HFA.out 1 fs1, if_neg hd]
          clear hd
          go_wp2_with fail
          refine (tnum_any o.p2 _ b3 b4).mono ?_
          rintro e w1 ⟨rfl, hb1⟩
          have hnl2 := num_21 b3 b4
          go_wp2
          go_roundw
          case rel => exact ⟨2, acc ++ (32 :: Ox.num o.p2), by omega, rfl, by rw [cat2]; rfl, by simp; omega, below_next hb hb1, HA'⟩
          case measure => simp [intOf]
        have hd : F[1].toNat = 46 := by omega
        have dj : ((F[1].toNat : Int) != 46) = false := by simp; omega
        have HA' : Hid (acc = lineN nm f o 2) := by
          unfold Hid
          rw [lineN, ← HA.out, Ox.partN, ← HFA.out 1 fs1, if_pos hd]; simp
        clear hd
        go_wp2
        go_roundw
        case rel => exact ⟨2, acc, by omega, rfl, rfl, by omega, hb, HA'⟩
        case measure => simp [intOf]
      · by_cases hd : F[2].toNat ≠ 46
        · have dj : ((F[2].toNat : Int) != 46) = true := by simp; omega
          have HA' : Hid (acc ++ (32 :: Ox.num (pN o 2)) = lineN nm f o 3) := by
            unfold Hid
            rw [lineN, ← HA.out, Ox.partN, ← HFA.out 2 fs2, if_neg hd]
          clear hd
          go_wp2_with fail
          refine (tnum_any o.p3 _ b5 b6).mono ?_
          rintro e w1 ⟨rfl, hb1⟩
          have hnl2 := num_21 b5 b6
          go_wp2
          go_roundw
          case rel => exact ⟨3, acc ++ (32 :: Ox.num o.p3), by omega, rfl, by rw [cat2]; rfl, by simp; omega, below_next hb hb1, HA'⟩
          case measure => simp [intOf]
        have hd : F[2].toNat = 46 := by omega
        have dj : ((F[2].toNat : Int) != 46) = false := by simp; omega
        have HA' : Hid (acc = lineN nm f o 3) := by
          unfold Hid
          rw [lineN, ← HA.out, Ox.partN, ← HFA.out 2 fs2, if_pos hd]; simp
        clear hd
        go_wp2
        go_roundw
        case rel => exact ⟨3, acc, by omega, rfl, rfl, by omega, hb, HA'⟩
        case measure => simp [intOf]
    · obtain rfl : j = 3 := by omega
      have y4 : wr.cell? ⟨w.heap.size, 4, none⟩ = some (.int .i64 o.vk) := (hb.cell (p := ⟨w.heap.size, 4, none⟩) hsz).trans (cW 4 _ rfl)
      have y5 : wr.cell? ⟨w.heap.size, 5, none⟩ = some (.int .i64 o.vn) := (hb.cell (p := ⟨w.heap.size, 5, none⟩) hsz).trans (cW 5 _ rfl)
      have y6 : wr.cell? ⟨w.heap.size, 6, none⟩ = some (.string (Lx.bs o.vs)) := (hb.cell (p := ⟨w.heap.size, 6, none⟩) hsz).trans (cW 6 _ rfl)
      have YC : ∀ wX, Below W0.heap.size W0 wX → wX.cell? ⟨w.heap.size, 7, none⟩ = some (.slice ka kn kc) ∧ wX.cell? ⟨w.heap.size, 8, none⟩ = some (.string (Lx.bs o.name)) := fun wX hX => ⟨(hX.cell (p := ⟨w.heap.size, 7, none⟩) hsz).trans (cW 7 _ rfl), (hX.cell (p := ⟨w.heap.size, 8, none⟩) hsz).trans (cW 8 _ rfl)⟩
      have HYC := Lib.hid YC
      have HHK := Lib.hid hk1
      have HT : Hid (acc ++ ([] : Ox.S) ++ (32 :: o.name) ++ Ox.keysS (o.keys.drop 0) = T) := Lib.hid (by rw [HT0.out, HA.out]; rfl)
      clear YC cW hk1
      obtain ⟨wX, hwX⟩ : ∃ wX, wX = wr := ⟨_, rfl⟩
      have hbX := hb
      rw [← hwX] at hbX
      subst hwX
      obtain ⟨z7, z8⟩ := HYC.out _ hbX
      have hkcase := HHK.out
      rcases hkcase with ⟨hk0, qa, qc, hq⟩ | ⟨kb, koff, kcc, hq, hkb, hkc, hkm, hkx⟩
      · cases hq
        have hTT : acc ++ ([] : Ox.S) ++ (32 :: o.name) = T := by rw [← HT.out, hk0]; simp [Ox.keysS]
        have HTT := Lib.hid hTT
        clear hTT hk0
        go_wp2
        refine wp_loop_rounds 1 ?_
        rw [rounds_succ]
        go_wp2
        go_ret
        exact ⟨ret_s (by rw [← HTT.out]; rw [List.append_nil, cat2]; rfl), below_next hbo hbX⟩
      · cases hq
        obtain ⟨n, hn⟩ : ∃ n, n = o.keys.length := ⟨_, rfl⟩
        have HNN := Lib.hid hn
        rw [← hn] at hkl hkc z7 ⊢
        have HKX := Lib.hid hkx
        clear hn hkx
        go_wp2
        go_loopw [4, 8, 58] (fun sv _ i wr => ∃ (k : Nat) (ac2 : Ox.S), k ≤ n ∧ i = .int .i64 k ∧ sv = .string (Lx.bs ac2) ∧ ac2.length ≤ 5000000 + 24 * k ∧ Below W0.heap.size W0 wr ∧ Hid (ac2 ++ Ox.keysS (o.keys.drop k) = T)) (fun _ _ i _ => n - (intOf i).toNat)
        case atStart => exact ⟨0, acc ++ ([] : Ox.S) ++ (32 :: o.name), by omega, rfl, by rw [List.append_nil, cat2]; rfl, by simp only [List.length_append, List.length_cons, List.length_nil]; omega, hbX, HT⟩
        case round =>
          obtain ⟨k, ac2, hk, rfl, rfl, hal2, hbw, HK⟩ := hrel
          by_cases hlt : k < n
          · obtain ⟨t, ht⟩ : ∃ t, o.keys[k]? = some t := ⟨_, List.getElem?_eq_getElem (by rw [← HNN.out]; exact hlt)⟩
            have kcell : ∀ j u, j < 3 → (kcells t)[j]? = some u → wr.cell? ⟨kb, koff + (k * 3 + j), none⟩ = some u := fun j u hj hu => (hbw.cell (p := ⟨kb, koff + (k * 3 + j), none⟩) hkb).trans (HKX.out _ _ ((kflat_at ht hj).trans hu))
            have x0 : wr.cell? ⟨kb, koff + k * 3, none⟩ = some (.int .i64 t.col) := kcell 0 _ (by omega) rfl
            have x1 : wr.cell? ⟨kb, koff + k * 3 + 1, none⟩ = some (.int .i64 t.coll) := kcell 1 _ (by omega) rfl
            have x2 : wr.cell? ⟨kb, koff + k * 3 + 2, none⟩ = some (.bool t.desc) := kcell 2 _ (by omega) rfl
            obtain ⟨q1, q2⟩ := HKF.out t (List.mem_of_getElem? ht)
            have hkb2 : kb < wr.heap.size := Nat.lt_of_lt_of_le hkb hbw.size
            have hstep : Ox.keysS (o.keys.drop k) = (32 :: Ox.keyS t) ++ Ox.keysS (o.keys.drop (k + 1)) := by
              obtain ⟨h1, h2⟩ := List.getElem?_eq_some_iff.1 ht
              rw [List.drop_eq_getElem_cons h1, h2]; rfl
            have HK' : Hid (ac2 ++ (32 :: Ox.keyS t) ++ Ox.keysS (o.keys.drop (k + 1)) = T) := by unfold Hid; rw [← HK.out, hstep, List.append_assoc]
            have hkln := keyS_len q1 q2
            clear kcell ht hstep
            obtain ⟨c1, cl, d⟩ := t
            go_wp2_with fail
            refine (key_any c1 cl d _ q1 q2).mono ?_
            rintro e w3 ⟨rfl, hb3⟩
            have hB3 := below_next (w := W0) (below_al hbw _) hb3
            go_wp2
            go_roundw
            case rel => exact ⟨k + 1, ac2 ++ (32 :: Ox.keyS ⟨c1, cl, d⟩), by omega, by go_num, by rw [cat2]; rfl, by simp; omega, hB3, HK'⟩
            case measure => simp [intOf]; omega
          · obtain rfl : k = n := by omega
            have hTT : ac2 = T := by rw [← HK.out, List.drop_eq_nil_of_le (by rw [← HNN.out]; omega)]; simp [Ox.keysS]
            subst hTT
            go_wp2
            go_ret
            exact ⟨rfl, below_next hbo hbw⟩
set_option maxRecDepth 100000 in
set_option maxHeartbeats 4000000 in
theorem line_00 (o : Ox.Op) (kv : Value) (w : World) (hl : Laid w) (hk : KAt w kv o.keys) (hkl : o.keys.length ≤ 100000) (hkf : KeyFit o.keys) (hnl : o.name.length ≤ 1000000) (hvl : o.vs.length ≤ 1000000)
    (b1 : -9223372036854775808 ≤ o.p1) (b2 : o.p1 ≤ 9223372036854775807) (b3 : -9223372036854775808 ≤ o.p2) (b4 : o.p2 ≤ 9223372036854775807) (b5 : -9223372036854775808 ≤ o.p3) (b6 : o.p3 ≤ 9223372036854775807) (b7 : -9223372036854775808 ≤ o.vn) (b8 : o.vn ≤ 9223372036854775807)
    (c : Nat) (hc34 : c < 34) (hc : o.code = (c : Int)) (f nm : Ox.S) (hf : Ox.forms[c]? = some f) (hf6 : f.length = 6) (hnm : Ox.names[c]? = some nm) (hnml : nm.length ≤ 20) (g3 : (Ox.at_ f 3).toNat = 46) (g4 : (Ox.at_ f 4).toNat = 46) :
    Calls Tryd.prog 31 #[.agg #[.int .i64 o.code, .int .i64 o.p1, .int .i64 o.p2, .int .i64 o.p3, .int .i64 o.vk, .int .i64 o.vn, .string (Lx.bs o.vs), kv, .string (Lx.bs o.name)]] w fun e w' => e = .returned (.string (Lx.bs (lineN nm f o 3 ++ ([] : Ox.S) ++ ([] : Ox.S) ++ Ox.keysS o.keys))) ∧ Below w.heap.size w w' := by
  obtain ⟨F, hF⟩ : ∃ F, F = Lx.bs f := ⟨_, rfl⟩
  have hF6 : 6 ≤ F.size := by rw [hF, Lx.bs_size]; omega
  have fs0 : 0 < F.size := by omega
  have fs1 : 1 < F.size := by omega
  have fs2 : 2 < F.size := by omega
  have fs3 : 3 < F.size := by omega
  have fs4 : 4 < F.size := by omega
  have hFa : ∀ i (h : i < F.size), F[i] = Ox.at_ f i := by subst hF; intro i h; exact at_bs f i h
  have HFA := Lib.hid hFa
  have e3 : ((F[3].toNat : Int) != 46) = false := by rw [hFa 3 fs3]; simp; omega
  have e4 : ((F[4].toNat : Int) != 46) = false := by rw [hFa 4 fs4]; simp; omega
  have a0 : w.cell? ⟨0, c, none⟩ = some (.string (Lx.bs nm)) := hl.2.1 c nm hnm
  have a1 : w.cell? ⟨1, c, none⟩ = some (.string F) := by rw [hF]; exact hl.2.2 c f hf
  have h0 : 0 < w.heap.size := by have := hl.1; omega
  have h1 : 1 < w.heap.size := by have := hl.1; omega
  obtain ⟨ka, kn, kc, rfl⟩ := kat_form hk
  have K1 := heap_alloc_new w (.cells #[.int .i64 o.code, .int .i64 o.p1, .int .i64 o.p2, .int .i64 o.p3, .int .i64 o.vk, .int .i64 o.vn, .string (Lx.bs o.vs), (.slice ka kn kc), .string (Lx.bs o.name)] 39)
  have hbo := below_al (Below.refl w.heap.size w) (.cells #[.int .i64 o.code, .int .i64 o.p1, .int .i64 o.p2, .int .i64 o.p3, .int .i64 o.vk, .int .i64 o.vn, .string (Lx.bs o.vs), (.slice ka kn kc), .string (Lx.bs o.name)] 39)
  have hk1 := kat_keep hk hbo
  have hvv : (Ox.valS o.vk o.vn o.vs).length ≤ 3000000 := by
    have h1 := num_21 b7 b8
    have h2 := hex_len o.vs
    unfold Ox.valS
    repeat' split
    all_goals simp
    all_goals omega
  obtain ⟨T, hT⟩ : ∃ T, T = lineN nm f o 3 ++ ([] : Ox.S) ++ ([] : Ox.S) ++ Ox.keysS o.keys := ⟨_, rfl⟩
  have HT0 := Lib.hid hT
  rw [← hT]
  clear hT
  rw [hc] at K1 hbo hk1 ⊢
  have HKF := Lib.hid hkf
  have ix0 : ∀ wr : World, (Instr.index 58 (.agg #[.int .i64 o.p1, .int .i64 o.p2, .int .i64 o.p3]) (.int .i64 0)).run Tryd.prog wr = .ok (.int .i64 o.p1) wr := fun wr => by kernel_rfl
  have ix1 : ∀ wr : World, (Instr.index 58 (.agg #[.int .i64 o.p1, .int .i64 o.p2, .int .i64 o.p3]) (.int .i64 1)).run Tryd.prog wr = .ok (.int .i64 o.p2) wr := fun wr => by kernel_rfl
  have ix2 : ∀ wr : World, (Instr.index 58 (.agg #[.int .i64 o.p1, .int .i64 o.p2, .int .i64 o.p3]) (.int .i64 2)).run Tryd.prog wr = .ok (.int .i64 o.p3) wr := fun wr => by kernel_rfl
  clear hl hk hf hf6 hnm g3 g4 hF hFa hc hkf
  go_enter Tryd.func31, Tryd.ntmps31
  go_wp2
  generalize (w.alloc (.cells #[.int .i64 (c : Int), .int .i64 o.p1, .int .i64 o.p2, .int .i64 o.p3, .int .i64 o.vk, .int .i64 o.vn, .string (Lx.bs o.vs), (.slice ka kn kc), .string (Lx.bs o.name)] 39)) = W0 at K1 hbo hk1 ⊢
  obtain ⟨cW, _⟩ := blk_cells K1
  have hsz := blk_lt K1
  go_loopw [4, 5, 6, 24] (fun sv _ _ i wr => ∃ (j : Nat) (acc : Ox.S), j ≤ 3 ∧ i = .int .i64 j ∧ sv = .string (Lx.bs acc) ∧ acc.length ≤ 100 + 30 * j ∧ Below W0.heap.size W0 wr ∧ Hid (acc = lineN nm f o j)) (fun _ _ _ i _ => 3 - (intOf i).toNat)
  case atStart => exact ⟨0, nm, by omega, rfl, rfl, by omega, Below.refl _ _, Lib.hid rfl⟩
  case round =>
    obtain ⟨j, acc, hj, rfl, rfl, hal, hb, HA⟩ := hrel
    by_cases hjl : j < 3
    · rcases (show j = 0 ∨ j = 1 ∨ j = 2 by omega) with rfl | rfl | rfl
      · by_cases hd : F[0].toNat ≠ 46
        · have dj : ((F[0].toNat : Int) != 46) = true := by simp; omega
          have HA' : Hid (acc ++ (32 :: Ox.num (pN o 0)) = lineN nm f o 1) := by
            unfold Hid
            rw [lineN, ← HA.out, Ox.partN, ← HFA.out 0 fs0, if_neg hd]
          clear hd
          go_wp2_with fail
          refine (tnum_any o.p1 _ b1 b2).mono ?_
          rintro e w1 ⟨rfl, hb1⟩
          have hnl2 := num_21 b1 b2
          go_wp2
          go_roundw
          case rel => exact ⟨1, acc ++ (32 :: Ox.num o.p1), by omega, rfl, by rw [cat2]; rfl, by simp; omega, below_next hb hb1, HA'⟩
          case measure => simp [intOf]
        have hd : F[0].toNat = 46 := by omega
        have dj : ((F[0].toNat : Int) != 46) = false := by simp; omega
        have HA' : Hid (acc = lineN nm f o 1) := by
          unfold Hid
          rw [lineN, ← HA.out, Ox.partN, ← HFA.out 0 fs0, if_pos hd]; simp
        clear hd
        go_wp2
        go_roundw
        case rel => exact ⟨1, acc, by omega, rfl, rfl, by omega, hb, HA'⟩
        case measure => simp [intOf]
      · by_cases hd : F[1].toNat ≠ 46
        · have dj : ((F[1].toNat : Int) != 46) = true := by simp; omega
          have HA' : Hid (acc ++ (32 :: Ox.num (pN o 1)) = lineN nm f o 2) := by
            unfold Hid
            rw [lineN, ← HA.out, Ox.partN, ← HFA.out 1 fs1, if_neg hd]
          clear hd
          go_wp2_with fail
          refine (tnum_any o.p2 _ b3 b4).mono ?_
          rintro e w1 ⟨rfl, hb1⟩
          have hnl2 := num_21 b3 b4
          go_wp2
          go_roundw
          case rel => exact ⟨2, acc ++ (32 :: Ox.num o.p2), by omega, rfl, by rw [cat2]; rfl, by simp; omega, below_next hb hb1, HA'⟩
          case measure => simp [intOf]
        have hd : F[1].toNat = 46 := by omega
        have dj : ((F[1].toNat : Int) != 46) = false := by simp; omega
        have HA' : Hid (acc = lineN nm f o 2) := by
          unfold Hid
          rw [lineN, ← HA.out, Ox.partN, ← HFA.out 1 fs1, if_pos hd]; simp
        clear hd
        go_wp2
        go_roundw
        case rel => exact ⟨2, acc, by omega, rfl, rfl, by omega, hb, HA'⟩
        case measure => simp [intOf]
      · by_cases hd : F[2].toNat ≠ 46
        · have dj : ((F[2].toNat : Int) != 46) = true := by simp; omega
          have HA' : Hid (acc ++ (32 :: Ox.num (pN o 2)) = lineN nm f o 3) := by
            unfold Hid
            rw [lineN, ← HA.out, Ox.partN, ← HFA.out 2 fs2, if_neg hd]
          clear hd
          go_wp2_with fail
          refine (tnum_any o.p3 _ b5 b6).mono ?_
          rintro e w1 ⟨rfl, hb1⟩
          have hnl2 := num_21 b5 b6
          go_wp2
          go_roundw
          case rel => exact ⟨3, acc ++ (32 :: Ox.num o.p3), by omega, rfl, by rw [cat2]; rfl, by simp; omega, below_next hb hb1, HA'⟩
          case measure => simp [intOf]
        have hd : F[2].toNat = 46 := by omega
        have dj : ((F[2].toNat : Int) != 46) = false := by simp; omega
        have HA' : Hid (acc = lineN nm f o 3) := by
          unfold Hid
          rw [lineN, ← HA.out, Ox.partN, ← HFA.out 2 fs2, if_pos hd]; simp
        clear hd
        go_wp2
        go_roundw
        case rel => exact ⟨3, acc, by omega, rfl, rfl, by omega, hb, HA'⟩
        case measure => simp [intOf]
    · obtain rfl : j = 3 := by omega
      have y4 : wr.cell? ⟨w.heap.size, 4, none⟩ = some (.int .i64 o.vk) := (hb.cell (p := ⟨w.heap.size, 4, none⟩) hsz).trans (cW 4 _ rfl)
      have y5 : wr.cell? ⟨w.heap.size, 5, none⟩ = some (.int .i64 o.vn) := (hb.cell (p := ⟨w.heap.size, 5, none⟩) hsz).trans (cW 5 _ rfl)
      have y6 : wr.cell? ⟨w.heap.size, 6, none⟩ = some (.string (Lx.bs o.vs)) := (hb.cell (p := ⟨w.heap.size, 6, none⟩) hsz).trans (cW 6 _ rfl)
      have YC : ∀ wX, Below W0.heap.size W0 wX → wX.cell? ⟨w.heap.size, 7, none⟩ = some (.slice ka kn kc) ∧ wX.cell? ⟨w.heap.size, 8, none⟩ = some (.string (Lx.bs o.name)) := fun wX hX => ⟨(hX.cell (p := ⟨w.heap.size, 7, none⟩) hsz).trans (cW 7 _ rfl), (hX.cell (p := ⟨w.heap.size, 8, none⟩) hsz).trans (cW 8 _ rfl)⟩
      have HYC := Lib.hid YC
      have HHK := Lib.hid hk1
      have HT : Hid (acc ++ ([] : Ox.S) ++ ([] : Ox.S) ++ Ox.keysS (o.keys.drop 0) = T) := Lib.hid (by rw [HT0.out, HA.out]; rfl)
      clear YC cW hk1
      obtain ⟨wX, hwX⟩ : ∃ wX, wX = wr := ⟨_, rfl⟩
      have hbX := hb
      rw [← hwX] at hbX
      subst hwX
      obtain ⟨z7, z8⟩ := HYC.out _ hbX
      have hkcase := HHK.out
      rcases hkcase with ⟨hk0, qa, qc, hq⟩ | ⟨kb, koff, kcc, hq, hkb, hkc, hkm, hkx⟩
      · cases hq
        have hTT : acc ++ ([] : Ox.S) ++ ([] : Ox.S) = T := by rw [← HT.out, hk0]; simp [Ox.keysS]
        have HTT := Lib.hid hTT
        clear hTT hk0
        go_wp2
        refine wp_loop_rounds 1 ?_
        rw [rounds_succ]
        go_wp2
        go_ret
        exact ⟨ret_s (by rw [← HTT.out]; rw [List.append_nil, List.append_nil]), below_next hbo hbX⟩
      · cases hq
        obtain ⟨n, hn⟩ : ∃ n, n = o.keys.length := ⟨_, rfl⟩
        have HNN := Lib.hid hn
        rw [← hn] at hkl hkc z7 ⊢
        have HKX := Lib.hid hkx
        clear hn hkx
        go_wp2
        go_loopw [4, 8, 58] (fun sv _ i wr => ∃ (k : Nat) (ac2 : Ox.S), k ≤ n ∧ i = .int .i64 k ∧ sv = .string (Lx.bs ac2) ∧ ac2.length ≤ 5000000 + 24 * k ∧ Below W0.heap.size W0 wr ∧ Hid (ac2 ++ Ox.keysS (o.keys.drop k) = T)) (fun _ _ i _ => n - (intOf i).toNat)
        case atStart => exact ⟨0, acc ++ ([] : Ox.S) ++ ([] : Ox.S), by omega, rfl, by rw [List.append_nil, List.append_nil], by simp only [List.length_append, List.length_cons, List.length_nil]; omega, hbX, HT⟩
        case round =>
          obtain ⟨k, ac2, hk, rfl, rfl, hal2, hbw, HK⟩ := hrel
          by_cases hlt : k < n
          · obtain ⟨t, ht⟩ : ∃ t, o.keys[k]? = some t := ⟨_, List.getElem?_eq_getElem (by rw [← HNN.out]; exact hlt)⟩
            have kcell : ∀ j u, j < 3 → (kcells t)[j]? = some u → wr.cell? ⟨kb, koff + (k * 3 + j), none⟩ = some u := fun j u hj hu => (hbw.cell (p := ⟨kb, koff + (k * 3 + j), none⟩) hkb).trans (HKX.out _ _ ((kflat_at ht hj).trans hu))
            have x0 : wr.cell? ⟨kb, koff + k * 3, none⟩ = some (.int .i64 t.col) := kcell 0 _ (by omega) rfl
            have x1 : wr.cell? ⟨kb, koff + k * 3 + 1, none⟩ = some (.int .i64 t.coll) := kcell 1 _ (by omega) rfl
            have x2 : wr.cell? ⟨kb, koff + k * 3 + 2, none⟩ = some (.bool t.desc) := kcell 2 _ (by omega) rfl
            obtain ⟨q1, q2⟩ := HKF.out t (List.mem_of_getElem? ht)
            have hkb2 : kb < wr.heap.size := Nat.lt_of_lt_of_le hkb hbw.size
            have hstep : Ox.keysS (o.keys.drop k) = (32 :: Ox.keyS t) ++ Ox.keysS (o.keys.drop (k + 1)) := by
              obtain ⟨h1, h2⟩ := List.getElem?_eq_some_iff.1 ht
              rw [List.drop_eq_getElem_cons h1, h2]; rfl
            have HK' : Hid (ac2 ++ (32 :: Ox.keyS t) ++ Ox.keysS (o.keys.drop (k + 1)) = T) := by unfold Hid; rw [← HK.out, hstep, List.append_assoc]
            have hkln := keyS_len q1 q2
            clear kcell ht hstep
            obtain ⟨c1, cl, d⟩ := t
            go_wp2_with fail
            refine (key_any c1 cl d _ q1 q2).mono ?_
            rintro e w3 ⟨rfl, hb3⟩
            have hB3 := below_next (w := W0) (below_al hbw _) hb3
            go_wp2
            go_roundw
            case rel => exact ⟨k + 1, ac2 ++ (32 :: Ox.keyS ⟨c1, cl, d⟩), by omega, by go_num, by rw [cat2]; rfl, by simp; omega, hB3, HK'⟩
            case measure => simp [intOf]; omega
          · obtain rfl : k = n := by omega
            have hTT : ac2 = T := by rw [← HK.out, List.drop_eq_nil_of_le (by rw [← HNN.out]; omega)]; simp [Ox.keysS]
            subst hTT
            go_wp2
            go_ret
            exact ⟨rfl, below_next hbo hbw⟩
end Go.Proofs.YtoekddkkjbcicaaDoor
