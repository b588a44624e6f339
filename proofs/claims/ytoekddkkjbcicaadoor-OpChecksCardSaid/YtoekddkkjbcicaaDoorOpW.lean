import Derived.Test.YtoekddkkjbcicaaDoorOpV
set_option linter.unusedVariables false
set_option linter.unusedSimpArgs false
namespace Go.Proofs.YtoekddkkjbcicaaDoor
open Go.RowKit
attribute [local simp] Lx.bs_size
theorem own_set {w : World} {base : Nat} {e : TypeId} {size : Nat} {v : Value} {n : Nat} {xs : List Value} (h : w.ownsRow base e size v n xs) (q p : Nat) (u : Value) (hq : q < base) : (w.setCell ⟨q, p, none⟩ u).ownsRow base e size v n xs := by
  obtain ⟨h1, h2⟩ := h
  refine ⟨h1, h2.imp id ?_⟩
  rintro ⟨g, cap, cur, rfl, hb, hh, hr⟩
  exact ⟨g, cap, cur, rfl, hb, blk_far hh (by show g ≠ q; omega) u, hr⟩
theorem kat_of_own {w : World} {base g0 : Nat} {v : Value} {l : List Ox.Key} (hg0 : g0 ≤ base) (h : w.ownsRow base 49 3 v l.length (l.flatMap kcells)) : KAtF g0 w v l := by
  rcases h.2 with ⟨rfl, hn⟩ | ⟨g, cap, cur, rfl, hb, hh, hc, hm, hs, ht⟩
  · exact .inl ⟨List.eq_nil_of_length_eq_zero hn, _, _, rfl⟩
  · refine .inr ⟨g, 0, cap, rfl, blk_lt hh, hc, hm, fun j u hu => ?_, Nat.le_trans hg0 hb, rfl⟩
    rw [← ht, List.getElem?_take] at hu
    split at hu
    · rw [Nat.zero_add]
      exact (blk_cells hh).1 j u (by simpa using hu)
    · cases hu
theorem wblk_below {W w1 : World} {g H : Nat} {X : Ox.W} (h : WBlk W g X) (hb : Below H W w1) (hg : g < H) : WBlk w1 g X := by
  obtain ⟨v, K, h⟩ := h
  refine ⟨v, (hb.block g hg).trans K, ?_⟩
  rcases h with h | ⟨b, off, c, h1, h2, h3, h4, h5, h6⟩
  · exact .inl h
  · exact .inr ⟨b, off, c, h1, h2, Nat.lt_of_lt_of_le h3 hb.size, h4, h5, fun j p hj => (hb.cell (p := ⟨b, off + j, none⟩) (by show b < H; omega)).trans (h6 j p hj)⟩
theorem wblk_n {w : World} {g : Nat} {l : List Ox.S} {ok : Bool} (h : WBlk w g (l, ok)) : ∃ a c, w.cell? ⟨g, 0, none⟩ = some (.slice a l.length c) := by
  obtain ⟨v, K, h⟩ := h
  have z := (blk_cells K).1 0 _ rfl
  rcases h with ⟨rfl, a, c, rfl⟩ | ⟨b, off, c, rfl, _⟩
  · exact ⟨_, _, z⟩
  · exact ⟨_, _, z⟩
theorem key_info : (Tryd.prog.info? 49).map (fun i => (i.zero, i.size, i.bytes)) = some (some (.agg #[.int .i64 0, .int .i64 0, .bool false]), 3, 24) := by kernel_rfl
set_option maxRecDepth 100000 in
set_option maxHeartbeats 4000000 in
theorem fill_K (o : Ox.Op) (w : World) (g gx : Nat) (W : Ox.W) (hl : Laid w) (hW : WBlk w g W) (K : w.heap[gx]? = some (.cells (xcells o (.slice none 0 0)) 39)) (hg : g < gx) (hg2 : 2 ≤ g)
    (hs : ∀ p ∈ W.1, p.length ≤ 1000000) (c : Nat) (hc34 : c < 34) (hc : o.code = (c : Int)) (f : Ox.S) (hf : Ox.forms[c]? = some f) (hf6 : f.length = 6) (g3 : (Ox.at_ f 3).toNat = 46) (g4 : (Ox.at_ f 4).toNat = 46) (g5 : (Ox.at_ f 5).toNat = 107) (hk0 : o.keys = []) (hwl : W.1.length ≤ 1000000) :
    Calls Tryd.prog 34 #[.pointer (some ⟨g, 0, none⟩), .pointer (some ⟨gx, 0, none⟩)] w fun e w' => FillE w g gx ({ (fillN f o W 3).1 with keys := (Ox.keysSt (Ox.at_ f 5) [] (fillN f o W 3).2).1 }, (Ox.keysSt (Ox.at_ f 5) [] (fillN f o W 3).2).2) e w' := by
  obtain ⟨F, hF⟩ : ∃ F, F = Lx.bs f := ⟨_, rfl⟩
  have hF6 : 6 ≤ F.size := by rw [hF, Lx.bs_size]; omega
  have fs0 : 0 < F.size := by omega
  have fs1 : 1 < F.size := by omega
  have fs2 : 2 < F.size := by omega
  have fs3 : 3 < F.size := by omega
  have fs4 : 4 < F.size := by omega
  have fs5 : 5 < F.size := by omega
  have hFa : ∀ i (h : i < F.size), F[i] = Ox.at_ f i := by subst hF; intro i h; exact at_bs f i h
  have HFA := Lib.hid hFa
  have e3 : ((F[3].toNat : Int) != 46) = false := by rw [hFa 3 fs3]; simp; omega
  have e4 : ((F[4].toNat : Int) != 46) = false := by rw [hFa 4 fs4]; simp; omega
  have e5 : ((F[5].toNat : Int) == 107) = true := by rw [hFa 5 fs5]; simp; omega
  have fi3 : (3 : Int) < (F.size : Int) := by omega
  have fi4 : (4 : Int) < (F.size : Int) := by omega
  have fi5 : (5 : Int) < (F.size : Int) := by omega
  have HK0 := Lib.hid hk0
  have HG5 := Lib.hid g5
  have HWL := Lib.hid hwl
  clear g3 g4 g5 hk0 hwl
  have a1 : w.cell? ⟨1, c, none⟩ = some (.string F) := by rw [hF]; exact hl.2.2 c f hf
  obtain ⟨cK, fK⟩ := blk_cells K
  have k0 : w.cell? ⟨gx, 0, none⟩ = some (.int .i64 (c : Int)) := by rw [← hc]; exact cK 0 _ rfl
  have ix0 : ∀ wr : World, (Instr.index 76 (.agg #[.pointer (some ⟨gx, 1, none⟩), .pointer (some ⟨gx, 2, none⟩), .pointer (some ⟨gx, 3, none⟩)]) (.int .i64 0)).run Tryd.prog wr = .ok (.pointer (some ⟨gx, 1, none⟩)) wr := fun wr => by kernel_rfl
  have ix1 : ∀ wr : World, (Instr.index 76 (.agg #[.pointer (some ⟨gx, 1, none⟩), .pointer (some ⟨gx, 2, none⟩), .pointer (some ⟨gx, 3, none⟩)]) (.int .i64 1)).run Tryd.prog wr = .ok (.pointer (some ⟨gx, 2, none⟩)) wr := fun wr => by kernel_rfl
  have ix2 : ∀ wr : World, (Instr.index 76 (.agg #[.pointer (some ⟨gx, 1, none⟩), .pointer (some ⟨gx, 2, none⟩), .pointer (some ⟨gx, 3, none⟩)]) (.int .i64 2)).run Tryd.prog wr = .ok (.pointer (some ⟨gx, 3, none⟩)) wr := fun wr => by kernel_rfl
  have HK := Lib.hid K
  have HW := Lib.hid hW
  have HS := Lib.hid hs
  have hgs := blk_lt K
  clear hl hf hF hFa hc K hW hs cK fK
  go_enter Tryd.func34, Tryd.ntmps34
  go_wp2
  go_quiet (fail)
  go_wp2
  go_loopw [5, 6, 7, 8, 29] (fun _ _ _ _ i wr => ∃ (j : Nat) (o' : Ox.Op) (W' : Ox.W), j ≤ 3 ∧ i = .int .i64 j ∧ wr.heap[gx]? = some (.cells (xcells o' (.slice none 0 0)) 39) ∧ WBlk wr g W' ∧ Below g w wr ∧ (∀ p ∈ W'.1, p.length ≤ 1000000) ∧ Hid ((o', W') = fillN f o W j)) (fun _ _ _ _ i _ => 3 - (intOf i).toNat)
  case atStart => exact ⟨0, o, W, by omega, rfl, HK.out, HW.out, below_drewN (Below.refl _ _) _, HS.out, Lib.hid rfl⟩
  case round =>
    obtain ⟨j, o', W', hj, rfl, K', hW', hb, hs', HF⟩ := hrel
    by_cases hjl : j < 3
    · rcases (show j = 0 ∨ j = 1 ∨ j = 2 by omega) with rfl | rfl | rfl
      · by_cases hd : F[0].toNat ≠ 46
        · have dj : ((F[0].toNat : Int) != 46) = true := by simp; omega
          have HD := Lib.hid hd
          obtain ⟨m1, m2⟩ := nxW_mem hs'
          have HM1 := Lib.hid m1
          have HM2 := Lib.hid m2
          clear hd hs' m1 m2
          go_wp2_with fail
          refine (next_any _ g W' hW').mono ?_
          rintro e w1 ⟨rfl, ⟨p, u, rfl⟩, hW1⟩
          go_wp2_with fail
          refine (number_any _ _ (by have := HM2.out; simp; omega)).mono ?_
          rintro e w2 ⟨rfl, hb2⟩
          rw [Lx.ls_bs]
          have K2 := blk_next (blk_far K' (by show gx ≠ g; omega) u) hb2
          have hW2 := wblk_keep hW1 hb2
          obtain ⟨nn, hnn⟩ : ∃ nn, nn = Ox.number (Ox.nxS W') := ⟨_, rfl⟩
          rw [← hnn]
          obtain ⟨n, okn⟩ := nn
          obtain ⟨X2, hX2⟩ : ∃ X2, X2 = Ox.nxW W' := ⟨_, rfl⟩
          rw [← hX2] at hW2
          obtain ⟨l2, ok2⟩ := X2
          obtain ⟨⟨v0, z0⟩, z1, zf⟩ := wblk_cell hW2
          obtain ⟨cc, ff⟩ := blk_cells K2
          have q1 := cc 1 _ rfl
          have r1 := ff 1
          have hgg : g < w2.heap.size := by obtain ⟨v, Kg, _⟩ := hW2; exact blk_lt Kg
          have hne : gx ≠ g := by omega
          have hb3 : Below g w w2 := (hb.setCell (Nat.le_refl _) _).trans (hb2.mono (by have := blk_lt K'; simp; omega))
          have K3 := heap_set (k := 1) (v := .int .i64 n) K2
          have HNN := Lib.hid hnn
          have HX2 := Lib.hid hX2
          have HF' : Hid ((setP o' 0 n, (l2, ok2 && okn)) = fillN f o W 1) := by
            unfold Hid
            rw [fillN, ← HF.out]
            simp only [Ox.numSt]
            rw [if_neg (by rw [← HFA.out 0 fs0]; exact HD.out), ← HNN.out, ← HX2.out]
          clear cc ff hnn hX2 HF
          cases ok2 with
          | true =>
            go_wp2
            go_roundw
            case rel => exact ⟨1, setP o' 0 n, (l2, okn), by omega, rfl, blk_far K3 (by show gx ≠ g; omega) _, wblk_ok (wblk_far hW2 gx 1 _ hg) okn, (hb3.setCell (by show g ≤ gx; omega) _).setCell (Nat.le_refl _) _, by have h := HM1.out; rw [← HX2.out] at h; exact h, HF'⟩
            case measure => simp [intOf]
          | false =>
            go_wp2
            go_roundw
            case rel => exact ⟨1, setP o' 0 n, (l2, false), by omega, rfl, blk_far K3 (by show gx ≠ g; omega) _, wblk_ok (wblk_far hW2 gx 1 _ hg) false, (hb3.setCell (by show g ≤ gx; omega) _).setCell (Nat.le_refl _) _, by have h := HM1.out; rw [← HX2.out] at h; exact h, HF'⟩
            case measure => simp [intOf]
        have hd : F[0].toNat = 46 := by omega
        have dj : ((F[0].toNat : Int) != 46) = false := by simp; omega
        have HF' : Hid ((o', W') = fillN f o W 1) := by
          unfold Hid
          rw [fillN, ← HF.out]
          simp only [Ox.numSt]
          rw [if_pos (by rw [← HFA.out 0 fs0]; exact hd)]
          rfl
        clear hd HF
        go_wp2
        go_roundw
        case rel => exact ⟨1, o', W', by omega, rfl, K', hW', hb, hs', HF'⟩
        case measure => simp [intOf]
      · by_cases hd : F[1].toNat ≠ 46
        · have dj : ((F[1].toNat : Int) != 46) = true := by simp; omega
          have HD := Lib.hid hd
          obtain ⟨m1, m2⟩ := nxW_mem hs'
          have HM1 := Lib.hid m1
          have HM2 := Lib.hid m2
          clear hd hs' m1 m2
          go_wp2_with fail
          refine (next_any _ g W' hW').mono ?_
          rintro e w1 ⟨rfl, ⟨p, u, rfl⟩, hW1⟩
          go_wp2_with fail
          refine (number_any _ _ (by have := HM2.out; simp; omega)).mono ?_
          rintro e w2 ⟨rfl, hb2⟩
          rw [Lx.ls_bs]
          have K2 := blk_next (blk_far K' (by show gx ≠ g; omega) u) hb2
          have hW2 := wblk_keep hW1 hb2
          obtain ⟨nn, hnn⟩ : ∃ nn, nn = Ox.number (Ox.nxS W') := ⟨_, rfl⟩
          rw [← hnn]
          obtain ⟨n, okn⟩ := nn
          obtain ⟨X2, hX2⟩ : ∃ X2, X2 = Ox.nxW W' := ⟨_, rfl⟩
          rw [← hX2] at hW2
          obtain ⟨l2, ok2⟩ := X2
          obtain ⟨⟨v0, z0⟩, z1, zf⟩ := wblk_cell hW2
          obtain ⟨cc, ff⟩ := blk_cells K2
          have q1 := cc 2 _ rfl
          have r1 := ff 2
          have hgg : g < w2.heap.size := by obtain ⟨v, Kg, _⟩ := hW2; exact blk_lt Kg
          have hne : gx ≠ g := by omega
          have hb3 : Below g w w2 := (hb.setCell (Nat.le_refl _) _).trans (hb2.mono (by have := blk_lt K'; simp; omega))
          have K3 := heap_set (k := 2) (v := .int .i64 n) K2
          have HNN := Lib.hid hnn
          have HX2 := Lib.hid hX2
          have HF' : Hid ((setP o' 1 n, (l2, ok2 && okn)) = fillN f o W 2) := by
            unfold Hid
            rw [fillN, ← HF.out]
            simp only [Ox.numSt]
            rw [if_neg (by rw [← HFA.out 1 fs1]; exact HD.out), ← HNN.out, ← HX2.out]
          clear cc ff hnn hX2 HF
          cases ok2 with
          | true =>
            go_wp2
            go_roundw
            case rel => exact ⟨2, setP o' 1 n, (l2, okn), by omega, rfl, blk_far K3 (by show gx ≠ g; omega) _, wblk_ok (wblk_far hW2 gx 2 _ hg) okn, (hb3.setCell (by show g ≤ gx; omega) _).setCell (Nat.le_refl _) _, by have h := HM1.out; rw [← HX2.out] at h; exact h, HF'⟩
            case measure => simp [intOf]
          | false =>
            go_wp2
            go_roundw
            case rel => exact ⟨2, setP o' 1 n, (l2, false), by omega, rfl, blk_far K3 (by show gx ≠ g; omega) _, wblk_ok (wblk_far hW2 gx 2 _ hg) false, (hb3.setCell (by show g ≤ gx; omega) _).setCell (Nat.le_refl _) _, by have h := HM1.out; rw [← HX2.out] at h; exact h, HF'⟩
            case measure => simp [intOf]
        have hd : F[1].toNat = 46 := by omega
        have dj : ((F[1].toNat : Int) != 46) = false := by simp; omega
        have HF' : Hid ((o', W') = fillN f o W 2) := by
          unfold Hid
          rw [fillN, ← HF.out]
          simp only [Ox.numSt]
          rw [if_pos (by rw [← HFA.out 1 fs1]; exact hd)]
          rfl
        clear hd HF
        go_wp2
        go_roundw
        case rel => exact ⟨2, o', W', by omega, rfl, K', hW', hb, hs', HF'⟩
        case measure => simp [intOf]
      · by_cases hd : F[2].toNat ≠ 46
        · have dj : ((F[2].toNat : Int) != 46) = true := by simp; omega
          have HD := Lib.hid hd
          obtain ⟨m1, m2⟩ := nxW_mem hs'
          have HM1 := Lib.hid m1
          have HM2 := Lib.hid m2
          clear hd hs' m1 m2
          go_wp2_with fail
          refine (next_any _ g W' hW').mono ?_
          rintro e w1 ⟨rfl, ⟨p, u, rfl⟩, hW1⟩
          go_wp2_with fail
          refine (number_any _ _ (by have := HM2.out; simp; omega)).mono ?_
          rintro e w2 ⟨rfl, hb2⟩
          rw [Lx.ls_bs]
          have K2 := blk_next (blk_far K' (by show gx ≠ g; omega) u) hb2
          have hW2 := wblk_keep hW1 hb2
          obtain ⟨nn, hnn⟩ : ∃ nn, nn = Ox.number (Ox.nxS W') := ⟨_, rfl⟩
          rw [← hnn]
          obtain ⟨n, okn⟩ := nn
          obtain ⟨X2, hX2⟩ : ∃ X2, X2 = Ox.nxW W' := ⟨_, rfl⟩
          rw [← hX2] at hW2
          obtain ⟨l2, ok2⟩ := X2
          obtain ⟨⟨v0, z0⟩, z1, zf⟩ := wblk_cell hW2
          obtain ⟨cc, ff⟩ := blk_cells K2
          have q1 := cc 3 _ rfl
          have r1 := ff 3
          have hgg : g < w2.heap.size := by obtain ⟨v, Kg, _⟩ := hW2; exact blk_lt Kg
          have hne : gx ≠ g := by omega
          have hb3 : Below g w w2 := (hb.setCell (Nat.le_refl _) _).trans (hb2.mono (by have := blk_lt K'; simp; omega))
          have K3 := heap_set (k := 3) (v := .int .i64 n) K2
          have HNN := Lib.hid hnn
          have HX2 := Lib.hid hX2
          have HF' : Hid ((setP o' 2 n, (l2, ok2 && okn)) = fillN f o W 3) := by
            unfold Hid
            rw [fillN, ← HF.out]
            simp only [Ox.numSt]
            rw [if_neg (by rw [← HFA.out 2 fs2]; exact HD.out), ← HNN.out, ← HX2.out]
          clear cc ff hnn hX2 HF
          cases ok2 with
          | true =>
            go_wp2
            go_roundw
            case rel => exact ⟨3, setP o' 2 n, (l2, okn), by omega, rfl, blk_far K3 (by show gx ≠ g; omega) _, wblk_ok (wblk_far hW2 gx 3 _ hg) okn, (hb3.setCell (by show g ≤ gx; omega) _).setCell (Nat.le_refl _) _, by have h := HM1.out; rw [← HX2.out] at h; exact h, HF'⟩
            case measure => simp [intOf]
          | false =>
            go_wp2
            go_roundw
            case rel => exact ⟨3, setP o' 2 n, (l2, false), by omega, rfl, blk_far K3 (by show gx ≠ g; omega) _, wblk_ok (wblk_far hW2 gx 3 _ hg) false, (hb3.setCell (by show g ≤ gx; omega) _).setCell (Nat.le_refl _) _, by have h := HM1.out; rw [← HX2.out] at h; exact h, HF'⟩
            case measure => simp [intOf]
        have hd : F[2].toNat = 46 := by omega
        have dj : ((F[2].toNat : Int) != 46) = false := by simp; omega
        have HF' : Hid ((o', W') = fillN f o W 3) := by
          unfold Hid
          rw [fillN, ← HF.out]
          simp only [Ox.numSt]
          rw [if_pos (by rw [← HFA.out 2 fs2]; exact hd)]
          rfl
        clear hd HF
        go_wp2
        go_roundw
        case rel => exact ⟨3, o', W', by omega, rfl, K', hW', hb, hs', HF'⟩
        case measure => simp [intOf]
    · obtain rfl : j = 3 := by omega
      have hkk : o'.keys = [] := by
        have h := congrArg (fun r => r.1.keys) HF.out
        have h2 : ∀ j, (fillN f o W j).1.keys = [] := by
          intro j
          induction j with
          | zero => exact HK0.out
          | succ j ih =>
            rw [fillN]
            unfold setP
            split <;> exact ih
        exact h.trans (h2 3)
      have HKK := Lib.hid hkk
      obtain ⟨X0, R, hR⟩ : ∃ X0 R, Ox.keySt W'.1 W'.2 [] = (X0, R) := ⟨_, _, rfl⟩
      have HPOST : Hid (({ (fillN f o W 3).1 with keys := (Ox.keysSt (Ox.at_ f 5) [] (fillN f o W 3).2).1 }, (Ox.keysSt (Ox.at_ f 5) [] (fillN f o W 3).2).2) = (({ o' with keys := X0 } : Ox.Op), (([], R) : Ox.W))) := Lib.hid (by
        rw [← HF.out]
        simp only [Ox.keysSt]
        rw [if_pos HG5.out]
        simp only [hR])
      have HR := Lib.hid hR
      have HLEN : Hid (W'.1.length ≤ 1000000) := Lib.hid (by
        have h := congrArg (fun r => r.2.1.length) HF.out
        have h2 : ∀ j, (fillN f o W j).2.1.length ≤ W.1.length := by
          intro j
          induction j with
          | zero => exact Nat.le_refl _
          | succ j ih =>
            rw [fillN]
            unfold Ox.numSt
            split
            · exact ih
            · refine Nat.le_trans ?_ ih
              simp only [Ox.nxW]
              split <;> rename_i hq <;> rw [hq] <;> simp
        have h3 := h2 3
        have h4 := HWL.out
        simp only at h
        omega)
      have HSM := Lib.hid hs'
      have HK' := Lib.hid K'
      have HW' := Lib.hid hW'
      obtain ⟨H0, hH0⟩ : ∃ H0, H0 = wr.heap.size := ⟨_, rfl⟩
      have hgx1 : gx < H0 := by rw [hH0]; exact blk_lt K'
      have HH0 := Lib.hid hH0
      have HNAME : Hid ((fillN f o W 3).1 = o') := Lib.hid (by rw [← HF.out])
      clear hkk hR hs' HF K' hW' hH0
      go_wp2
      go_loopw [11, 12] (fun _ _ wq => ∃ (l : List Ox.S) (ok : Bool) (ks : List Ox.Key) (kv : Value), wq.heap[gx]? = some (.cells (xcells o' kv) 39) ∧ wq.ownsRow H0 49 3 kv ks.length (ks.flatMap kcells) ∧ WBlk wq g (l, ok) ∧ Below g w wq ∧ H0 ≤ wq.heap.size ∧ (∀ p ∈ l, p.length ≤ 1000000) ∧ l.length + ks.length ≤ 1000000 ∧ Hid (Ox.keySt l ok ks = (X0, R))) (fun _ _ wq => match wq.cell? ⟨g, 0, none⟩ with | some (.slice _ n _) => n | _ => 0)
      case atStart =>
        have hlen := HLEN.out
        exact ⟨W'.1, W'.2, [], .slice none 0 0, HK'.out, ⟨by simp, .inl ⟨rfl, rfl⟩⟩, HW'.out, hb, Nat.le_of_eq HH0.out, HSM.out, by simpa using hlen, HR⟩
      case round => 
        obtain ⟨l, ok, ks, kv, K1, hown, hW1, hb1, hsz, hs1, hln, HF⟩ := hrel
        obtain ⟨v0, Kg, hat⟩ := hW1
        cases l with
        | nil =>
          obtain ⟨a, cc, rfl⟩ : ∃ a cc, v0 = .slice a 0 cc := by
            rcases hat with ⟨_, a, cc, h⟩ | ⟨b, off, cc, h, _⟩
            · exact ⟨a, cc, h⟩
            · exact ⟨_, _, h⟩
          have z0 := (blk_cells Kg).1 0 _ rfl
          obtain ⟨ka, kc, rfl⟩ := own_form hown
          have HK1 := Lib.hid K1
          have HKG := Lib.hid Kg
          have HHAT := Lib.hid hat
          have HOWN := Lib.hid hown
          clear K1 Kg hat hown
          go_wp2
          refine bodyPost_end (results_none Tryd.results34 _ _ _) rfl ?_
          have hks : ks = X0 ∧ ok = R := by have h := HF.out; simp only [Ox.keySt, Prod.mk.injEq] at h; exact h
          obtain ⟨rfl, rfl⟩ := hks
          rw [HPOST.out]
          exact ⟨rfl, ⟨_, _, _, HK1.out, kat_of_own (by omega) HOWN.out⟩, ⟨_, HKG.out, HHAT.out⟩, hb1⟩
        | cons p r =>
          obtain ⟨b, off, cc, rfl⟩ : ∃ b off cc, v0 = .slice (some ⟨b, off, none⟩) (r.length + 1) cc := by
            rcases hat with ⟨h, _⟩ | ⟨b, off, cc, h, _⟩
            · cases h
            · exact ⟨_, _, _, h⟩
          have z0 := (blk_cells Kg).1 0 _ rfl
          have hpos : (0 : Int) < ((r.length + 1 : Nat) : Int) := by omega
          have hW1 : WBlk wr g (p :: r, ok) := ⟨_, Kg, hat⟩
          have hp : p.length ≤ 1000000 := hs1 p List.mem_cons_self
          have HSR := Lib.hid (fun q hq => hs1 q (List.mem_cons_of_mem _ hq) : ∀ q ∈ r, q.length ≤ 1000000)
          have HZ0 := Lib.hid z0
          obtain ⟨ka, kc, rfl⟩ := own_form hown
          clear Kg hat hs1
          go_wp2_with fail
          refine (next_any _ g _ hW1).mono ?_
          rintro e w1 ⟨rfl, ⟨q, u, rfl⟩, hW2⟩
          have K2 := blk_far K1 (by show gx ≠ g; omega : gx ≠ (⟨g, q, none⟩ : Addr).block) u
          have hown2 := own_set hown g q u (by omega)
          have hb2 : Below g w (wr.setCell ⟨g, q, none⟩ u) := hb1.setCell (Nat.le_refl _) _
          have hsz2 : H0 ≤ (wr.setCell ⟨g, q, none⟩ u).heap.size := by simpa using hsz
          clear K1 hown hW1 z0 hb1
          obtain ⟨U, hU⟩ : ∃ U, U = Ox.unkey p := ⟨_, rfl⟩
          obtain ⟨⟨ukc, ukl, ukd⟩, okk⟩ := U
          have HU := Lib.hid hU
          clear hU
          go_wp2_with fail
          refine (unkey_any (Lx.bs p) _ (by rw [Lx.bs_size]; omega)).mono ?_
          rintro e w2 ⟨he, hb3⟩
          rw [Lx.ls_bs, ← HU.out] at he
          subst he
          unfold keyE
          have K3 := blk_next K2 hb3
          have hW3 := wblk_keep hW2 hb3
          have hown3 := own_next hown2 hb3
          have hbx : Below g w w2 := hb2.trans (hb3.mono (by have := blk_lt K2; omega))
          have hsz3 : H0 ≤ w2.heap.size := Nat.le_trans hsz2 hb3.size
          have q7 : w2.cell? ⟨gx, 7, none⟩ = some (.slice ka ks.length kc) := (blk_cells K3).1 7 _ rfl
          have r7 := (blk_cells K3).2 7
          have hgx2 : gx < w2.heap.size := by omega
          clear K2 hW2 hown2 hb2 hsz2 hb3
          go_wp2
          have hbA := below_al (Below.refl w2.heap.size w2) (.cells #[.int .i64 ukc, .int .i64 ukl, .bool ukd] 49)
          have T4 : (w2.alloc (.cells #[.int .i64 ukc, .int .i64 ukl, .bool ukd] 49)).heap[w2.heap.size]? = some (.cells #[.int .i64 ukc, .int .i64 ukl, .bool ukd] 49) := heap_alloc_new w2 _
          have K4 := blk_next K3 hbA
          have hW4 := wblk_keep hW3 hbA
          have hown4 := own_next hown3 hbA
          have hb4 : Below g w (w2.alloc (.cells #[.int .i64 ukc, .int .i64 ukl, .bool ukd] 49)) := hbx.trans (hbA.mono (by omega))
          have hsz4 : H0 ≤ (w2.alloc (.cells #[.int .i64 ukc, .int .i64 ukl, .bool ukd] 49)).heap.size := Nat.le_trans hsz3 hbA.size
          clear K3 hW3 hown3 hbx hsz3 q7 r7 hgx2 hbA
          generalize w2.alloc (.cells #[.int .i64 ukc, .int .i64 ukl, .bool ukd] 49) = w4 at T4 K4 hW4 hown4 hb4 hsz4 ⊢
          generalize w2.heap.size = tb at T4 ⊢
          obtain ⟨j0, _⟩ := blk_cells T4
          have k0 := j0 0 _ rfl
          have k1 := j0 1 _ rfl
          have k2 := j0 2 _ rfl
          have htb := blk_lt T4
          have q7 : w4.cell? ⟨gx, 7, none⟩ = some (.slice ka ks.length kc) := (blk_cells K4).1 7 _ rfl
          have hgx4 : gx < w4.heap.size := blk_lt K4
          have hln2 : r.length + ks.length + 1 ≤ 1000000 := by simp only [List.length_cons] at hln; omega
          clear j0 T4 hln
          go_region_law (refine step_appC rfl (.tmp 144) (.tmp 146) 37 49 rfl Tryd.underlying37 key_info rfl (by decide) w4.drew #[.int .i64 ukc, .int .i64 ukl, .bool ukd] 1 rfl (by intro u hu; simp at hu; rcases hu with rfl | rfl | rfl <;> rfl) H0 _ _ _ (by rfl) hown4 (by rfl) (by simp only [maxLen]; omega) (by omega) (by simpa using hsz4) H0 (Nat.le_refl _) ?_; intro v1 w5 hown5 hb5; obtain ⟨va, vc, rfl⟩ := own_form hown5; have K5 := (hb5.block gx hgx1).trans K4; have hgx5 := blk_lt K5; have q75 := (blk_cells K5).1 7 _ rfl; have r75 := (blk_cells K5).2 7)
          all_goals
            have hW5 := wblk_below (W := w4.drew) hW4 hb5 (by omega)
            have hbw5 : Below g w w5 := hb4.drew.trans (hb5.mono (by omega))
            obtain ⟨⟨v9, z90⟩, z91, z9f⟩ := wblk_cell hW5
            have K6 : (w5.setCell ⟨gx, 7, none⟩ (.slice va (ks.length + 1) vc)).heap[gx]? = some (.cells (xcells o' (.slice va (ks.length + 1) vc)) 39) := heap_set (k := 7) (v := .slice va (ks.length + 1) vc) K5
            have hown6 : (w5.setCell ⟨gx, 7, none⟩ (.slice va (ks.length + 1) vc)).ownsRow H0 49 3 (.slice va (ks.length + 1) vc) (ks ++ [(⟨ukc, ukl, ukd⟩ : Ox.Key)]).length ((ks ++ [(⟨ukc, ukl, ukd⟩ : Ox.Key)]).flatMap kcells) := by
              have h := own_set hown5 gx 7 (.slice va (ks.length + 1) vc) hgx1
              simpa [kcells] using h
            have HK6 := Lib.hid K6
            have HOWN6 := Lib.hid hown6
            have HW6 : Hid (WBlk (w5.setCell ⟨gx, 7, none⟩ (.slice va (ks.length + 1) vc)) g (r, ok)) := Lib.hid (wblk_far hW5 gx 7 _ hg)
            have HB6 : Hid (Below g w (w5.setCell ⟨gx, 7, none⟩ (.slice va (ks.length + 1) vc))) := Lib.hid (hbw5.setCell (by show g ≤ gx; omega) _)
            have HF6 : Hid (Ox.keySt r (ok && okk) (ks ++ [(⟨ukc, ukl, ukd⟩ : Ox.Key)]) = (X0, R)) := Lib.hid (by have h := HF.out; rw [Ox.keySt, ← HU.out] at h; exact h)
            have hsz6 : H0 ≤ w5.heap.size := by have := hb5.size; simp only [World.size_drew] at this; omega
            have hgs5 : g < w5.heap.size := by omega
            have Z1 : w5.cell? ⟨g, 1, none⟩ = some (.bool ok) := z91
            have hne : gx ≠ g := by omega
            have hne2 : g ≠ gx := by omega
            clear K6 hown6 hW5 hbw5 hown5 K5 hb5 hb4 K4 hown4 hW4 z91
            cases ok with
            | true =>
              go_wp2
              go_roundw
              case rel => exact ⟨r, okk, ks ++ [(⟨ukc, ukl, ukd⟩ : Ox.Key)], .slice va (ks.length + 1) vc, blk_far HK6.out (by show gx ≠ g; omega) _, own_set HOWN6.out g 1 _ (by omega), wblk_ok HW6.out okk, HB6.out.setCell (Nat.le_refl _) _, by simpa using hsz6, HSR.out, by simp; omega, Lib.hid (by simpa using HF6.out)⟩
              case measure =>
                obtain ⟨a9, c9, h9⟩ := wblk_n (wblk_ok HW6.out okk)
                have h8 := HZ0.out
                simp only [h9, h8]
                simp
            | false =>
              go_wp2
              go_roundw
              case rel => exact ⟨r, false, ks ++ [(⟨ukc, ukl, ukd⟩ : Ox.Key)], .slice va (ks.length + 1) vc, blk_far HK6.out (by show gx ≠ g; omega) _, own_set HOWN6.out g 1 _ (by omega), wblk_ok HW6.out false, HB6.out.setCell (Nat.le_refl _) _, by simpa using hsz6, HSR.out, by simp; omega, Lib.hid (by simpa using HF6.out)⟩
              case measure =>
                obtain ⟨a9, c9, h9⟩ := wblk_n (wblk_ok HW6.out false)
                have h8 := HZ0.out
                simp only [h9, h8]
                simp
end Go.Proofs.YtoekddkkjbcicaaDoor
