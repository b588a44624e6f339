import Derived.Test.YtoekddkkjbcicaaDoorOpU
set_option linter.unusedVariables false
set_option linter.unusedSimpArgs false
namespace Go.Proofs.YtoekddkkjbcicaaDoor
open Go.RowKit
attribute [local simp] Lx.bs_size
set_option maxRecDepth 100000 in
set_option maxHeartbeats 4000000 in
theorem fill_V (o : Ox.Op) (w : World) (g gx : Nat) (W : Ox.W) (hl : Laid w) (hW : WBlk w g W) (K : w.heap[gx]? = some (.cells (xcells o (.slice none 0 0)) 39)) (hg : g < gx) (hg2 : 2 ≤ g)
    (hs : ∀ p ∈ W.1, p.length ≤ 1000000) (c : Nat) (hc34 : c < 34) (hc : o.code = (c : Int)) (f : Ox.S) (hf : Ox.forms[c]? = some f) (hf6 : f.length = 6) (g3 : (Ox.at_ f 3).toNat = 118) (g4 : (Ox.at_ f 4).toNat = 46) (g5 : (Ox.at_ f 5).toNat ≠ 107) (hk0 : o.keys = []) :
    Calls Tryd.prog 34 #[.pointer (some ⟨g, 0, none⟩), .pointer (some ⟨gx, 0, none⟩)] w fun e w' => FillE w g gx ({ (fillN f o W 3).1 with vk := (Ox.valSt (Ox.at_ f 3) (0, 0, []) (fillN f o W 3).2).1.1, vn := (Ox.valSt (Ox.at_ f 3) (0, 0, []) (fillN f o W 3).2).1.2.1, vs := (Ox.valSt (Ox.at_ f 3) (0, 0, []) (fillN f o W 3).2).1.2.2 }, (Ox.valSt (Ox.at_ f 3) (0, 0, []) (fillN f o W 3).2).2) e w' := by
  obtain ⟨F, hF⟩ : ∃ F, F = Lx.bs f := ⟨_, rfl⟩
  have hF6 : 6 ≤ F.size := by rw [hF, Lx.bs_size]; omega
  have fs0 : 0 < F.size := by omega
  have fs1 : 1 < F.size := by omega
  have fs2 : 2 < F.size := by omega
  have fs3 : 3 < F.size := by omega
  have fs4 : 4 < F.size := by omega
  have fs5 : 5 < F.size := by omega
  have hFa : ∀ i (h : i < F.size), F[i] = Ox.at_ f i := by subst hF; intro i h; exact at_bs f i h
  have HFA := Lib.hid hFa
  have e3 : ((F[3].toNat : Int) != 46) = true := by rw [hFa 3 fs3]; simp; omega
  have e31 : ((F[3].toNat : Int) == 109) = false := by rw [hFa 3 fs3]; simp; omega
  have e4 : ((F[4].toNat : Int) != 46) = false := by rw [hFa 4 fs4]; simp; omega
  have e5 : ((F[5].toNat : Int) == 107) = false := by rw [hFa 5 fs5]; simp; omega
  have fi3 : (3 : Int) < (F.size : Int) := by omega
  have fi4 : (4 : Int) < (F.size : Int) := by omega
  have fi5 : (5 : Int) < (F.size : Int) := by omega
  have HK0 := Lib.hid hk0
  have HG3 := Lib.hid g3
  clear g3 g4 g5 hk0
  have a1 : w.cell? ⟨1, c, none⟩ = some (.string F) := by rw [hF]; exact hl.2.2 c f hf
  obtain ⟨cK, fK⟩ := blk_cells K
  have k0 : w.cell? ⟨gx, 0, none⟩ = some (.int .i64 (c : Int)) := by rw [← hc]; exact cK 0 _ rfl
  have ix0 : ∀ wr : World, (Instr.index 76 (.agg #[.pointer (some ⟨gx, 1, none⟩), .pointer (some ⟨gx, 2, none⟩), .pointer (some ⟨gx, 3, none⟩)]) (.int .i64 0)).run Tryd.prog wr = .ok (.pointer (some ⟨gx, 1, none⟩)) wr := fun wr => by kernel_rfl
  have ix1 : ∀ wr : World, (Instr.index 76 (.agg #[.pointer (some ⟨gx, 1, none⟩), .pointer (some ⟨gx, 2, none⟩), .pointer (some ⟨gx, 3, none⟩)]) (.int .i64 1)).run Tryd.prog wr = .ok (.pointer (some ⟨gx, 2, none⟩)) wr := fun wr => by kernel_rfl
  have ix2 : ∀ wr : World, (Instr.index 76 (.agg #[.pointer (some ⟨gx, 1, none⟩), .pointer (some ⟨gx, 2, none⟩), .pointer (some ⟨gx, 3, none⟩)]) (.int .i64 2)).run Tryd.prog wr = .ok (.pointer (some ⟨gx, 3, none⟩)) wr := fun wr => by kernel_rfl
  have HK := Lib.hid K
  have HW := Lib.hid hW
  have HS := Lib.hid hs
  have hgs := blk_lt K
  clear hl hf hF hFa hc K hW hs cK fK
  go_enter Tryd.func34, Tryd.ntmps34
  go_wp2
  go_quiet (fail)
  go_wp2
  go_loopw [5, 6, 7, 8, 29] (fun _ _ _ _ i wr => ∃ (j : Nat) (o' : Ox.Op) (W' : Ox.W), j ≤ 3 ∧ i = .int .i64 j ∧ wr.heap[gx]? = some (.cells (xcells o' (.slice none 0 0)) 39) ∧ WBlk wr g W' ∧ Below g w wr ∧ (∀ p ∈ W'.1, p.length ≤ 1000000) ∧ Hid ((o', W') = fillN f o W j)) (fun _ _ _ _ i _ => 3 - (intOf i).toNat)
  case atStart => exact ⟨0, o, W, by omega, rfl, HK.out, HW.out, below_drewN (Below.refl _ _) _, HS.out, Lib.hid rfl⟩
  case round =>
    obtain ⟨j, o', W', hj, rfl, K', hW', hb, hs', HF⟩ := hrel
    by_cases hjl : j < 3
    · rcases (show j = 0 ∨ j = 1 ∨ j = 2 by omega) with rfl | rfl | rfl
      · by_cases hd : F[0].toNat ≠ 46
        · have dj : ((F[0].toNat : Int) != 46) = true := by simp; omega
          have HD := Lib.hid hd
          obtain ⟨m1, m2⟩ := nxW_mem hs'
          have HM1 := Lib.hid m1
          have HM2 := Lib.hid m2
          clear hd hs' m1 m2
          go_wp2_with fail
          refine (next_any _ g W' hW').mono ?_
          rintro e w1 ⟨rfl, ⟨p, u, rfl⟩, hW1⟩
          go_wp2_with fail
          refine (number_any _ _ (by have := HM2.out; simp; omega)).mono ?_
          rintro e w2 ⟨rfl, hb2⟩
          rw [Lx.ls_bs]
          have K2 := blk_next (blk_far K' (by show gx ≠ g; omega) u) hb2
          have hW2 := wblk_keep hW1 hb2
          obtain ⟨nn, hnn⟩ : ∃ nn, nn = Ox.number (Ox.nxS W') := ⟨_, rfl⟩
          rw [← hnn]
          obtain ⟨n, okn⟩ := nn
          obtain ⟨X2, hX2⟩ : ∃ X2, X2 = Ox.nxW W' := ⟨_, rfl⟩
          rw [← hX2] at hW2
          obtain ⟨l2, ok2⟩ := X2
          obtain ⟨⟨v0, z0⟩, z1, zf⟩ := wblk_cell hW2
          obtain ⟨cc, ff⟩ := blk_cells K2
          have q1 := cc 1 _ rfl
          have r1 := ff 1
          have hgg : g < w2.heap.size := by obtain ⟨v, Kg, _⟩ := hW2; exact blk_lt Kg
          have hne : gx ≠ g := by omega
          have hb3 : Below g w w2 := (hb.setCell (Nat.le_refl _) _).trans (hb2.mono (by have := blk_lt K'; simp; omega))
          have K3 := heap_set (k := 1) (v := .int .i64 n) K2
          have HNN := Lib.hid hnn
          have HX2 := Lib.hid hX2
          have HF' : Hid ((setP o' 0 n, (l2, ok2 && okn)) = fillN f o W 1) := by
            unfold Hid
            rw [fillN, ← HF.out]
            simp only [Ox.numSt]
            rw [if_neg (by rw [← HFA.out 0 fs0]; exact HD.out), ← HNN.out, ← HX2.out]
          clear cc ff hnn hX2 HF
          cases ok2 with
          | true =>
            go_wp2
            go_roundw
            case rel => exact ⟨1, setP o' 0 n, (l2, okn), by omega, rfl, blk_far K3 (by show gx ≠ g; omega) _, wblk_ok (wblk_far hW2 gx 1 _ hg) okn, (hb3.setCell (by show g ≤ gx; omega) _).setCell (Nat.le_refl _) _, by have h := HM1.out; rw [← HX2.out] at h; exact h, HF'⟩
            case measure => simp [intOf]
          | false =>
            go_wp2
            go_roundw
            case rel => exact ⟨1, setP o' 0 n, (l2, false), by omega, rfl, blk_far K3 (by show gx ≠ g; omega) _, wblk_ok (wblk_far hW2 gx 1 _ hg) false, (hb3.setCell (by show g ≤ gx; omega) _).setCell (Nat.le_refl _) _, by have h := HM1.out; rw [← HX2.out] at h; exact h, HF'⟩
            case measure => simp [intOf]
        have hd : F[0].toNat = 46 := by omega
        have dj : ((F[0].toNat : Int) != 46) = false := by simp; omega
        have HF' : Hid ((o', W') = fillN f o W 1) := by
          unfold Hid
          rw [fillN, ← HF.out]
          simp only [Ox.numSt]
          rw [if_pos (by rw [← HFA.out 0 fs0]; exact hd)]
          rfl
        clear hd HF
        go_wp2
        go_roundw
        case rel => exact ⟨1, o', W', by omega, rfl, K', hW', hb, hs', HF'⟩
        case measure => simp [intOf]
      · by_cases hd : F[1].toNat ≠ 46
        · have dj : ((F[1].toNat : Int) != 46) = true := by simp; omega
          have HD := Lib.hid hd
          obtain ⟨m1, m2⟩ := nxW_mem hs'
          have HM1 := Lib.hid m1
          have HM2 := Lib.hid m2
          clear hd hs' m1 m2
          go_wp2_with fail
          refine (next_any _ g W' hW').mono ?_
          rintro e w1 ⟨rfl, ⟨p, u, rfl⟩, hW1⟩
          go_wp2_with fail
          refine (number_any _ _ (by have := HM2.out; simp; omega)).mono ?_
          rintro e w2 ⟨rfl, hb2⟩
          rw [Lx.ls_bs]
          have K2 := blk_next (blk_far K' (by show gx ≠ g; omega) u) hb2
          have hW2 := wblk_keep hW1 hb2
          obtain ⟨nn, hnn⟩ : ∃ nn, nn = Ox.number (Ox.nxS W') := ⟨_, rfl⟩
          rw [← hnn]
          obtain ⟨n, okn⟩ := nn
          obtain ⟨X2, hX2⟩ : ∃ X2, X2 = Ox.nxW W' := ⟨_, rfl⟩
          rw [← hX2] at hW2
          obtain ⟨l2, ok2⟩ := X2
          obtain ⟨⟨v0, z0⟩, z1, zf⟩ := wblk_cell hW2
          obtain ⟨cc, ff⟩ := blk_cells K2
          have q1 := cc 2 _ rfl
          have r1 := ff 2
          have hgg : g < w2.heap.size := by obtain ⟨v, Kg, _⟩ := hW2; exact blk_lt Kg
          have hne : gx ≠ g := by omega
          have hb3 : Below g w w2 := (hb.setCell (Nat.le_refl _) _).trans (hb2.mono (by have := blk_lt K'; simp; omega))
          have K3 := heap_set (k := 2) (v := .int .i64 n) K2
          have HNN := Lib.hid hnn
          have HX2 := Lib.hid hX2
          have HF' : Hid ((setP o' 1 n, (l2, ok2 && okn)) = fillN f o W 2) := by
            unfold Hid
            rw [fillN, ← HF.out]
            simp only [Ox.numSt]
            rw [if_neg (by rw [← HFA.out 1 fs1]; exact HD.out), ← HNN.out, ← HX2.out]
          clear cc ff hnn hX2 HF
          cases ok2 with
          | true =>
            go_wp2
            go_roundw
            case rel => exact ⟨2, setP o' 1 n, (l2, okn), by omega, rfl, blk_far K3 (by show gx ≠ g; omega) _, wblk_ok (wblk_far hW2 gx 2 _ hg) okn, (hb3.setCell (by show g ≤ gx; omega) _).setCell (Nat.le_refl _) _, by have h := HM1.out; rw [← HX2.out] at h; exact h, HF'⟩
            case measure => simp [intOf]
          | false =>
            go_wp2
            go_roundw
            case rel => exact ⟨2, setP o' 1 n, (l2, false), by omega, rfl, blk_far K3 (by show gx ≠ g; omega) _, wblk_ok (wblk_far hW2 gx 2 _ hg) false, (hb3.setCell (by show g ≤ gx; omega) _).setCell (Nat.le_refl _) _, by have h := HM1.out; rw [← HX2.out] at h; exact h, HF'⟩
            case measure => simp [intOf]
        have hd : F[1].toNat = 46 := by omega
        have dj : ((F[1].toNat : Int) != 46) = false := by simp; omega
        have HF' : Hid ((o', W') = fillN f o W 2) := by
          unfold Hid
          rw [fillN, ← HF.out]
          simp only [Ox.numSt]
          rw [if_pos (by rw [← HFA.out 1 fs1]; exact hd)]
          rfl
        clear hd HF
        go_wp2
        go_roundw
        case rel => exact ⟨2, o', W', by omega, rfl, K', hW', hb, hs', HF'⟩
        case measure => simp [intOf]
      · by_cases hd : F[2].toNat ≠ 46
        · have dj : ((F[2].toNat : Int) != 46) = true := by simp; omega
          have HD := Lib.hid hd
          obtain ⟨m1, m2⟩ := nxW_mem hs'
          have HM1 := Lib.hid m1
          have HM2 := Lib.hid m2
          clear hd hs' m1 m2
          go_wp2_with fail
          refine (next_any _ g W' hW').mono ?_
          rintro e w1 ⟨rfl, ⟨p, u, rfl⟩, hW1⟩
          go_wp2_with fail
          refine (number_any _ _ (by have := HM2.out; simp; omega)).mono ?_
          rintro e w2 ⟨rfl, hb2⟩
          rw [Lx.ls_bs]
          have K2 := blk_next (blk_far K' (by show gx ≠ g; omega) u) hb2
          have hW2 := wblk_keep hW1 hb2
          obtain ⟨nn, hnn⟩ : ∃ nn, nn = Ox.number (Ox.nxS W') := ⟨_, rfl⟩
          rw [← hnn]
          obtain ⟨n, okn⟩ := nn
          obtain ⟨X2, hX2⟩ : ∃ X2, X2 = Ox.nxW W' := ⟨_, rfl⟩
          rw [← hX2] at hW2
          obtain ⟨l2, ok2⟩ := X2
          obtain ⟨⟨v0, z0⟩, z1, zf⟩ := wblk_cell hW2
          obtain ⟨cc, ff⟩ := blk_cells K2
          have q1 := cc 3 _ rfl
          have r1 := ff 3
          have hgg : g < w2.heap.size := by obtain ⟨v, Kg, _⟩ := hW2; exact blk_lt Kg
          have hne : gx ≠ g := by omega
          have hb3 : Below g w w2 := (hb.setCell (Nat.le_refl _) _).trans (hb2.mono (by have := blk_lt K'; simp; omega))
          have K3 := heap_set (k := 3) (v := .int .i64 n) K2
          have HNN := Lib.hid hnn
          have HX2 := Lib.hid hX2
          have HF' : Hid ((setP o' 2 n, (l2, ok2 && okn)) = fillN f o W 3) := by
            unfold Hid
            rw [fillN, ← HF.out]
            simp only [Ox.numSt]
            rw [if_neg (by rw [← HFA.out 2 fs2]; exact HD.out), ← HNN.out, ← HX2.out]
          clear cc ff hnn hX2 HF
          cases ok2 with
          | true =>
            go_wp2
            go_roundw
            case rel => exact ⟨3, setP o' 2 n, (l2, okn), by omega, rfl, blk_far K3 (by show gx ≠ g; omega) _, wblk_ok (wblk_far hW2 gx 3 _ hg) okn, (hb3.setCell (by show g ≤ gx; omega) _).setCell (Nat.le_refl _) _, by have h := HM1.out; rw [← HX2.out] at h; exact h, HF'⟩
            case measure => simp [intOf]
          | false =>
            go_wp2
            go_roundw
            case rel => exact ⟨3, setP o' 2 n, (l2, false), by omega, rfl, blk_far K3 (by show gx ≠ g; omega) _, wblk_ok (wblk_far hW2 gx 3 _ hg) false, (hb3.setCell (by show g ≤ gx; omega) _).setCell (Nat.le_refl _) _, by have h := HM1.out; rw [← HX2.out] at h; exact h, HF'⟩
            case measure => simp [intOf]
        have hd : F[2].toNat = 46 := by omega
        have dj : ((F[2].toNat : Int) != 46) = false := by simp; omega
        have HF' : Hid ((o', W') = fillN f o W 3) := by
          unfold Hid
          rw [fillN, ← HF.out]
          simp only [Ox.numSt]
          rw [if_pos (by rw [← HFA.out 2 fs2]; exact hd)]
          rfl
        clear hd HF
        go_wp2
        go_roundw
        case rel => exact ⟨3, o', W', by omega, rfl, K', hW', hb, hs', HF'⟩
        case measure => simp [intOf]
    · obtain rfl : j = 3 := by omega
      obtain ⟨m1, m2⟩ := nxW_mem hs'
      have hkk : o'.keys = [] := by
        have h := congrArg (fun r => r.1.keys) HF.out
        have h2 : ∀ j, (fillN f o W j).1.keys = [] := by
          intro j
          induction j with
          | zero => exact HK0.out
          | succ j ih =>
            rw [fillN]
            unfold setP
            split <;> exact ih
        exact h.trans (h2 3)
      have HKK := Lib.hid hkk
      have HM1 := Lib.hid m1
      obtain ⟨nm, hnm⟩ : ∃ nm, nm = Ox.nxS W' := ⟨_, rfl⟩
      rw [← hnm] at m2
      have HNM := Lib.hid hnm
      have HSZ := Lib.hid (show (Lx.bs nm).size ≤ 1000000000 from by rw [Lx.bs_size]; exact Nat.le_trans m2 (by decide))
      clear hs' m1 hkk hnm
      go_wp2_with fail
      refine (next_any _ g W' hW').mono ?_
      rintro e w1 ⟨rfl, ⟨p, u, rfl⟩, hW1⟩
      rw [← HNM.out]
      obtain ⟨X2, hX2⟩ : ∃ X2, X2 = Ox.nxW W' := ⟨_, rfl⟩
      rw [← hX2] at hW1
      have HX2 := Lib.hid hX2
      obtain ⟨l2, ok2⟩ := X2
      have K1 := blk_far K' (by show gx ≠ g; omega : gx ≠ (⟨g, p, none⟩ : Addr).block) u
      have hb1 : Below g w (wr.setCell ⟨g, p, none⟩ u) := hb.setCell (Nat.le_refl _) _
      clear hX2 hW' hb K'
      obtain ⟨U, hU⟩ : ∃ U, U = Ox.unval nm := ⟨_, rfl⟩
      have HU := Lib.hid hU
      obtain ⟨⟨uk, un, us⟩, okv⟩ := U
      clear hU
      go_wp2_with fail
      refine (unval_any (Lx.bs nm) _ HSZ.out).mono ?_
      rintro e w2 ⟨he, hb2⟩
      rw [Lx.ls_bs, ← HU.out] at he
      subst he
      unfold valE2
      have K2 := blk_next K1 hb2
      have hW2 := wblk_keep hW1 hb2
      have hbx : Below g w w2 := hb1.trans (hb2.mono (by have := blk_lt K1; omega))
      obtain ⟨cc, ff⟩ := blk_cells K2
      have q4 := cc 4 _ rfl
      have q5 := cc 5 _ rfl
      have q6 := cc 6 _ rfl
      have r4 := ff 4
      have r5 := ff 5
      have r6 := ff 6
      obtain ⟨⟨v0, z0⟩, z1, zf⟩ := wblk_cell hW2
      have hgx2 : gx < w2.heap.size := blk_lt K2
      have hgg : g < w2.heap.size := by omega
      have hne : gx ≠ g := by omega
      have hne2 : g ≠ gx := by omega
      have K6 : (((w2.setCell ⟨gx, 4, none⟩ (.int .i64 uk)).setCell ⟨gx, 5, none⟩ (.int .i64 un)).setCell ⟨gx, 6, none⟩ (.string (Lx.bs us))).heap[gx]? = some (.cells (xcells { o' with vk := uk, vn := un, vs := us } (.slice none 0 0)) 39) := heap_set (k := 6) (v := .string (Lx.bs us)) (heap_set (k := 5) (v := .int .i64 un) (heap_set (k := 4) (v := .int .i64 uk) K2))
      have hW6 := wblk_far (wblk_far (wblk_far hW2 gx 4 (.int .i64 uk) hg) gx 5 (.int .i64 un) hg) gx 6 (.string (Lx.bs us)) hg
      have hb6 : Below g w (((w2.setCell ⟨gx, 4, none⟩ (.int .i64 uk)).setCell ⟨gx, 5, none⟩ (.int .i64 un)).setCell ⟨gx, 6, none⟩ (.string (Lx.bs us))) := ((hbx.setCell (by show g ≤ gx; omega) _).setCell (by show g ≤ gx; omega) _).setCell (by show g ≤ gx; omega) _
      have HK6 := Lib.hid K6
      have HW6 := Lib.hid hW6
      have HB6 := Lib.hid hb6
      have HR : Hid (Ox.valSt (Ox.at_ f 3) (0, 0, []) (fillN f o W 3).2 = ((uk, un, us), (l2, ok2 && (okv)))) := Lib.hid (by
        rw [← HF.out]
        simp only [Ox.valSt]
        rw [if_neg (by rw [HG3.out]; decide), ← HNM.out, ← HX2.out, ← HU.out]
        simp only [Ox.valOk]
        rw [if_neg (by rw [HG3.out]; decide)])
      have hname : (fillN f o W 3).1 = o' := by rw [← HF.out]
      have HNAME := Lib.hid hname
      clear hname cc ff hb2 hW1 K1 hb1 K2 K6 hW6 hb6 hW2 hbx HF
      cases ok2 with
      | true =>
        go_wp2
        refine wp_loop_rounds 1 ?_
        rw [rounds_succ]
        go_wp2
        refine bodyPost_end (results_none Tryd.results34 _ _ _) rfl ?_
        rw [HR.out, HNAME.out]
        exact ⟨rfl, ⟨_, _, _, blk_alloc (blk_far HK6.out (by show gx ≠ g; omega) _) _, .inl ⟨HKK.out, _, _, rfl⟩⟩, wblk_keep (wblk_ok HW6.out okv) (below_al (Below.refl _ _) _), (HB6.out.setCell (Nat.le_refl _) _).alloc (by simp; omega) _⟩
      | false =>
        go_wp2
        refine wp_loop_rounds 1 ?_
        rw [rounds_succ]
        go_wp2
        refine bodyPost_end (results_none Tryd.results34 _ _ _) rfl ?_
        rw [HR.out, HNAME.out]
        exact ⟨rfl, ⟨_, _, _, blk_alloc (blk_far HK6.out (by show gx ≠ g; omega) _) _, .inl ⟨HKK.out, _, _, rfl⟩⟩, wblk_keep (wblk_ok HW6.out false) (below_al (Below.refl _ _) _), (HB6.out.setCell (Nat.le_refl _) _).alloc (by simp; omega) _⟩
set_option maxRecDepth 100000 in
set_option maxHeartbeats 4000000 in
theorem fill_M (o : Ox.Op) (w : World) (g gx : Nat) (W : Ox.W) (hl : Laid w) (hW : WBlk w g W) (K : w.heap[gx]? = some (.cells (xcells o (.slice none 0 0)) 39)) (hg : g < gx) (hg2 : 2 ≤ g)
    (hs : ∀ p ∈ W.1, p.length ≤ 1000000) (c : Nat) (hc34 : c < 34) (hc : o.code = (c : Int)) (f : Ox.S) (hf : Ox.forms[c]? = some f) (hf6 : f.length = 6) (g3 : (Ox.at_ f 3).toNat = 109) (g4 : (Ox.at_ f 4).toNat = 46) (g5 : (Ox.at_ f 5).toNat ≠ 107) (hk0 : o.keys = []) :
    Calls Tryd.prog 34 #[.pointer (some ⟨g, 0, none⟩), .pointer (some ⟨gx, 0, none⟩)] w fun e w' => FillE w g gx ({ (fillN f o W 3).1 with vk := (Ox.valSt (Ox.at_ f 3) (0, 0, []) (fillN f o W 3).2).1.1, vn := (Ox.valSt (Ox.at_ f 3) (0, 0, []) (fillN f o W 3).2).1.2.1, vs := (Ox.valSt (Ox.at_ f 3) (0, 0, []) (fillN f o W 3).2).1.2.2 }, (Ox.valSt (Ox.at_ f 3) (0, 0, []) (fillN f o W 3).2).2) e w' := by
  obtain ⟨F, hF⟩ : ∃ F, F = Lx.bs f := ⟨_, rfl⟩
  have hF6 : 6 ≤ F.size := by rw [hF, Lx.bs_size]; omega
  have fs0 : 0 < F.size := by omega
  have fs1 : 1 < F.size := by omega
  have fs2 : 2 < F.size := by omega
  have fs3 : 3 < F.size := by omega
  have fs4 : 4 < F.size := by omega
  have fs5 : 5 < F.size := by omega
  have hFa : ∀ i (h : i < F.size), F[i] = Ox.at_ f i := by subst hF; intro i h; exact at_bs f i h
  have HFA := Lib.hid hFa
  have e3 : ((F[3].toNat : Int) != 46) = true := by rw [hFa 3 fs3]; simp; omega
  have e31 : ((F[3].toNat : Int) == 109) = true := by rw [hFa 3 fs3]; simp; omega
  have e4 : ((F[4].toNat : Int) != 46) = false := by rw [hFa 4 fs4]; simp; omega
  have e5 : ((F[5].toNat : Int) == 107) = false := by rw [hFa 5 fs5]; simp; omega
  have fi3 : (3 : Int) < (F.size : Int) := by omega
  have fi4 : (4 : Int) < (F.size : Int) := by omega
  have fi5 : (5 : Int) < (F.size : Int) := by omega
  have HK0 := Lib.hid hk0
  have HG3 := Lib.hid g3
  clear g3 g4 g5 hk0
  have a1 : w.cell? ⟨1, c, none⟩ = some (.string F) := by rw [hF]; exact hl.2.2 c f hf
  obtain ⟨cK, fK⟩ := blk_cells K
  have k0 : w.cell? ⟨gx, 0, none⟩ = some (.int .i64 (c : Int)) := by rw [← hc]; exact cK 0 _ rfl
  have ix0 : ∀ wr : World, (Instr.index 76 (.agg #[.pointer (some ⟨gx, 1, none⟩), .pointer (some ⟨gx, 2, none⟩), .pointer (some ⟨gx, 3, none⟩)]) (.int .i64 0)).run Tryd.prog wr = .ok (.pointer (some ⟨gx, 1, none⟩)) wr := fun wr => by kernel_rfl
  have ix1 : ∀ wr : World, (Instr.index 76 (.agg #[.pointer (some ⟨gx, 1, none⟩), .pointer (some ⟨gx, 2, none⟩), .pointer (some ⟨gx, 3, none⟩)]) (.int .i64 1)).run Tryd.prog wr = .ok (.pointer (some ⟨gx, 2, none⟩)) wr := fun wr => by kernel_rfl
  have ix2 : ∀ wr : World, (Instr.index 76 (.agg #[.pointer (some ⟨gx, 1, none⟩), .pointer (some ⟨gx, 2, none⟩), .pointer (some ⟨gx, 3, none⟩)]) (.int .i64 2)).run Tryd.prog wr = .ok (.pointer (some ⟨gx, 3, none⟩)) wr := fun wr => by kernel_rfl
  have HK := Lib.hid K
  have HW := Lib.hid hW
  have HS := Lib.hid hs
  have hgs := blk_lt K
  clear hl hf hF hFa hc K hW hs cK fK
  go_enter Tryd.func34, Tryd.ntmps34
  go_wp2
  go_quiet (fail)
  go_wp2
  go_loopw [5, 6, 7, 8, 29] (fun _ _ _ _ i wr => ∃ (j : Nat) (o' : Ox.Op) (W' : Ox.W), j ≤ 3 ∧ i = .int .i64 j ∧ wr.heap[gx]? = some (.cells (xcells o' (.slice none 0 0)) 39) ∧ WBlk wr g W' ∧ Below g w wr ∧ (∀ p ∈ W'.1, p.length ≤ 1000000) ∧ Hid ((o', W') = fillN f o W j)) (fun _ _ _ _ i _ => 3 - (intOf i).toNat)
  case atStart => exact ⟨0, o, W, by omega, rfl, HK.out, HW.out, below_drewN (Below.refl _ _) _, HS.out, Lib.hid rfl⟩
  case round =>
    obtain ⟨j, o', W', hj, rfl, K', hW', hb, hs', HF⟩ := hrel
    by_cases hjl : j < 3
    · rcases (show j = 0 ∨ j = 1 ∨ j = 2 by omega) with rfl | rfl | rfl
      · by_cases hd : F[0].toNat ≠ 46
        · have dj : ((F[0].toNat : Int) != 46) = true := by simp; omega
          have HD := Lib.hid hd
          obtain ⟨m1, m2⟩ := nxW_mem hs'
          have HM1 := Lib.hid m1
          have HM2 := Lib.hid m2
          clear hd hs' m1 m2
          go_wp2_with fail
          refine (next_any _ g W' hW').mono ?_
          rintro e w1 ⟨rfl, ⟨p, u, rfl⟩, hW1⟩
          go_wp2_with fail
          refine (number_any _ _ (by have := HM2.out; simp; omega)).mono ?_
          rintro e w2 ⟨rfl, hb2⟩
          rw [Lx.ls_bs]
          have K2 := blk_next (blk_far K' (by show gx ≠ g; omega) u) hb2
          have hW2 := wblk_keep hW1 hb2
          obtain ⟨nn, hnn⟩ : ∃ nn, nn = Ox.number (Ox.nxS W') := ⟨_, rfl⟩
          rw [← hnn]
          obtain ⟨n, okn⟩ := nn
          obtain ⟨X2, hX2⟩ : ∃ X2, X2 = Ox.nxW W' := ⟨_, rfl⟩
          rw [← hX2] at hW2
          obtain ⟨l2, ok2⟩ := X2
          obtain ⟨⟨v0, z0⟩, z1, zf⟩ := wblk_cell hW2
          obtain ⟨cc, ff⟩ := blk_cells K2
          have q1 := cc 1 _ rfl
          have r1 := ff 1
          have hgg : g < w2.heap.size := by obtain ⟨v, Kg, _⟩ := hW2; exact blk_lt Kg
          have hne : gx ≠ g := by omega
          have hb3 : Below g w w2 := (hb.setCell (Nat.le_refl _) _).trans (hb2.mono (by have := blk_lt K'; simp; omega))
          have K3 := heap_set (k := 1) (v := .int .i64 n) K2
          have HNN := Lib.hid hnn
          have HX2 := Lib.hid hX2
          have HF' : Hid ((setP o' 0 n, (l2, ok2 && okn)) = fillN f o W 1) := by
            unfold Hid
            rw [fillN, ← HF.out]
            simp only [Ox.numSt]
            rw [if_neg (by rw [← HFA.out 0 fs0]; exact HD.out), ← HNN.out, ← HX2.out]
          clear cc ff hnn hX2 HF
          cases ok2 with
          | true =>
            go_wp2
            go_roundw
            case rel => exact ⟨1, setP o' 0 n, (l2, okn), by omega, rfl, blk_far K3 (by show gx ≠ g; omega) _, wblk_ok (wblk_far hW2 gx 1 _ hg) okn, (hb3.setCell (by show g ≤ gx; omega) _).setCell (Nat.le_refl _) _, by have h := HM1.out; rw [← HX2.out] at h; exact h, HF'⟩
            case measure => simp [intOf]
          | false =>
            go_wp2
            go_roundw
            case rel => exact ⟨1, setP o' 0 n, (l2, false), by omega, rfl, blk_far K3 (by show gx ≠ g; omega) _, wblk_ok (wblk_far hW2 gx 1 _ hg) false, (hb3.setCell (by show g ≤ gx; omega) _).setCell (Nat.le_refl _) _, by have h := HM1.out; rw [← HX2.out] at h; exact h, HF'⟩
            case measure => simp [intOf]
        have hd : F[0].toNat = 46 := by omega
        have dj : ((F[0].toNat : Int) != 46) = false := by simp; omega
        have HF' : Hid ((o', W') = fillN f o W 1) := by
          unfold Hid
          rw [fillN, ← HF.out]
          simp only [Ox.numSt]
          rw [if_pos (by rw [← HFA.out 0 fs0]; exact hd)]
          rfl
        clear hd HF
        go_wp2
        go_roundw
        case rel => exact ⟨1, o', W', by omega, rfl, K', hW', hb, hs', HF'⟩
        case measure => simp [intOf]
      · by_cases hd : F[1].toNat ≠ 46
        · have dj : ((F[1].toNat : Int) != 46) = true := by simp; omega
          have HD := Lib.hid hd
          obtain ⟨m1, m2⟩ := nxW_mem hs'
          have HM1 := Lib.hid m1
          have HM2 := Lib.hid m2
          clear hd hs' m1 m2
          go_wp2_with fail
          refine (next_any _ g W' hW').mono ?_
          rintro e w1 ⟨rfl, ⟨p, u, rfl⟩, hW1⟩
          go_wp2_with fail
          refine (number_any _ _ (by have := HM2.out; simp; omega)).mono ?_
          rintro e w2 ⟨rfl, hb2⟩
          rw [Lx.ls_bs]
          have K2 := blk_next (blk_far K' (by show gx ≠ g; omega) u) hb2
          have hW2 := wblk_keep hW1 hb2
          obtain ⟨nn, hnn⟩ : ∃ nn, nn = Ox.number (Ox.nxS W') := ⟨_, rfl⟩
          rw [← hnn]
          obtain ⟨n, okn⟩ := nn
          obtain ⟨X2, hX2⟩ : ∃ X2, X2 = Ox.nxW W' := ⟨_, rfl⟩
          rw [← hX2] at hW2
          obtain ⟨l2, ok2⟩ := X2
          obtain ⟨⟨v0, z0⟩, z1, zf⟩ := wblk_cell hW2
          obtain ⟨cc, ff⟩ := blk_cells K2
          have q1 := cc 2 _ rfl
          have r1 := ff 2
          have hgg : g < w2.heap.size := by obtain ⟨v, Kg, _⟩ := hW2; exact blk_lt Kg
          have hne : gx ≠ g := by omega
          have hb3 : Below g w w2 := (hb.setCell (Nat.le_refl _) _).trans (hb2.mono (by have := blk_lt K'; simp; omega))
          have K3 := heap_set (k := 2) (v := .int .i64 n) K2
          have HNN := Lib.hid hnn
          have HX2 := Lib.hid hX2
          have HF' : Hid ((setP o' 1 n, (l2, ok2 && okn)) = fillN f o W 2) := by
            unfold Hid
            rw [fillN, ← HF.out]
            simp only [Ox.numSt]
            rw [if_neg (by rw [← HFA.out 1 fs1]; exact HD.out), ← HNN.out, ← HX2.out]
          clear cc ff hnn hX2 HF
          cases ok2 with
          | true =>
            go_wp2
            go_roundw
            case rel => exact ⟨2, setP o' 1 n, (l2, okn), by omega, rfl, blk_far K3 (by show gx ≠ g; omega) _, wblk_ok (wblk_far hW2 gx 2 _ hg) okn, (hb3.setCell (by show g ≤ gx; omega) _).setCell (Nat.le_refl _) _, by have h := HM1.out; rw [← HX2.out] at h; exact h, HF'⟩
            case measure => simp [intOf]
          | false =>
            go_wp2
            go_roundw
            case rel => exact ⟨2, setP o' 1 n, (l2, false), by omega, rfl, blk_far K3 (by show gx ≠ g; omega) _, wblk_ok (wblk_far hW2 gx 2 _ hg) false, (hb3.setCell (by show g ≤ gx; omega) _).setCell (Nat.le_refl _) _, by have h := HM1.out; rw [← HX2.out] at h; exact h, HF'⟩
            case measure => simp [intOf]
        have hd : F[1].toNat = 46 := by omega
        have dj : ((F[1].toNat : Int) != 46) = false := by simp; omega
        have HF' : Hid ((o', W') = fillN f o W 2) := by
          unfold Hid
          rw [fillN, ← HF.out]
          simp only [Ox.numSt]
          rw [if_pos (by rw [← HFA.out 1 fs1]; exact hd)]
          rfl
        clear hd HF
        go_wp2
        go_roundw
        case rel => exact ⟨2, o', W', by omega, rfl, K', hW', hb, hs', HF'⟩
        case measure => simp [intOf]
      · by_cases hd : F[2].toNat ≠ 46
        · have dj : ((F[2].toNat : Int) != 46) = true := by simp; omega
          have HD := Lib.hid hd
          obtain ⟨m1, m2⟩ := nxW_mem hs'
          have HM1 := Lib.hid m1
          have HM2 := Lib.hid m2
          clear hd hs' m1 m2
          go_wp2_with fail
          refine (next_any _ g W' hW').mono ?_
          rintro e w1 ⟨rfl, ⟨p, u, rfl⟩, hW1⟩
          go_wp2_with fail
          refine (number_any _ _ (by have := HM2.out; simp; omega)).mono ?_
          rintro e w2 ⟨rfl, hb2⟩
          rw [Lx.ls_bs]
          have K2 := blk_next (blk_far K' (by show gx ≠ g; omega) u) hb2
          have hW2 := wblk_keep hW1 hb2
          obtain ⟨nn, hnn⟩ : ∃ nn, nn = Ox.number (Ox.nxS W') := ⟨_, rfl⟩
          rw [← hnn]
          obtain ⟨n, okn⟩ := nn
          obtain ⟨X2, hX2⟩ : ∃ X2, X2 = Ox.nxW W' := ⟨_, rfl⟩
          rw [← hX2] at hW2
          obtain ⟨l2, ok2⟩ := X2
          obtain ⟨⟨v0, z0⟩, z1, zf⟩ := wblk_cell hW2
          obtain ⟨cc, ff⟩ := blk_cells K2
          have q1 := cc 3 _ rfl
          have r1 := ff 3
          have hgg : g < w2.heap.size := by obtain ⟨v, Kg, _⟩ := hW2; exact blk_lt Kg
          have hne : gx ≠ g := by omega
          have hb3 : Below g w w2 := (hb.setCell (Nat.le_refl _) _).trans (hb2.mono (by have := blk_lt K'; simp; omega))
          have K3 := heap_set (k := 3) (v := .int .i64 n) K2
          have HNN := Lib.hid hnn
          have HX2 := Lib.hid hX2
          have HF' : Hid ((setP o' 2 n, (l2, ok2 && okn)) = fillN f o W 3) := by
            unfold Hid
            rw [fillN, ← HF.out]
            simp only [Ox.numSt]
            rw [if_neg (by rw [← HFA.out 2 fs2]; exact HD.out), ← HNN.out, ← HX2.out]
          clear cc ff hnn hX2 HF
          cases ok2 with
          | true =>
            go_wp2
            go_roundw
            case rel => exact ⟨3, setP o' 2 n, (l2, okn), by omega, rfl, blk_far K3 (by show gx ≠ g; omega) _, wblk_ok (wblk_far hW2 gx 3 _ hg) okn, (hb3.setCell (by show g ≤ gx; omega) _).setCell (Nat.le_refl _) _, by have h := HM1.out; rw [← HX2.out] at h; exact h, HF'⟩
            case measure => simp [intOf]
          | false =>
            go_wp2
            go_roundw
            case rel => exact ⟨3, setP o' 2 n, (l2, false), by omega, rfl, blk_far K3 (by show gx ≠ g; omega) _, wblk_ok (wblk_far hW2 gx 3 _ hg) false, (hb3.setCell (by show g ≤ gx; omega) _).setCell (Nat.le_refl _) _, by have h := HM1.out; rw [← HX2.out] at h; exact h, HF'⟩
            case measure => simp [intOf]
        have hd : F[2].toNat = 46 := by omega
        have dj : ((F[2].toNat : Int) != 46) = false := by simp; omega
        have HF' : Hid ((o', W') = fillN f o W 3) := by
          unfold Hid
          rw [fillN, ← HF.out]
          simp only [Ox.numSt]
          rw [if_pos (by rw [← HFA.out 2 fs2]; exact hd)]
          rfl
        clear hd HF
        go_wp2
        go_roundw
        case rel => exact ⟨3, o', W', by omega, rfl, K', hW', hb, hs', HF'⟩
        case measure => simp [intOf]
    · obtain rfl : j = 3 := by omega
      obtain ⟨m1, m2⟩ := nxW_mem hs'
      have hkk : o'.keys = [] := by
        have h := congrArg (fun r => r.1.keys) HF.out
        have h2 : ∀ j, (fillN f o W j).1.keys = [] := by
          intro j
          induction j with
          | zero => exact HK0.out
          | succ j ih =>
            rw [fillN]
            unfold setP
            split <;> exact ih
        exact h.trans (h2 3)
      have HKK := Lib.hid hkk
      have HM1 := Lib.hid m1
      obtain ⟨nm, hnm⟩ : ∃ nm, nm = Ox.nxS W' := ⟨_, rfl⟩
      rw [← hnm] at m2
      have HNM := Lib.hid hnm
      have HSZ := Lib.hid (show (Lx.bs nm).size ≤ 1000000000 from by rw [Lx.bs_size]; exact Nat.le_trans m2 (by decide))
      clear hs' m1 hkk hnm
      go_wp2_with fail
      refine (next_any _ g W' hW').mono ?_
      rintro e w1 ⟨rfl, ⟨p, u, rfl⟩, hW1⟩
      rw [← HNM.out]
      obtain ⟨X2, hX2⟩ : ∃ X2, X2 = Ox.nxW W' := ⟨_, rfl⟩
      rw [← hX2] at hW1
      have HX2 := Lib.hid hX2
      obtain ⟨l2, ok2⟩ := X2
      have K1 := blk_far K' (by show gx ≠ g; omega : gx ≠ (⟨g, p, none⟩ : Addr).block) u
      have hb1 : Below g w (wr.setCell ⟨g, p, none⟩ u) := hb.setCell (Nat.le_refl _) _
      clear hX2 hW' hb K'
      obtain ⟨U, hU⟩ : ∃ U, U = Ox.unval nm := ⟨_, rfl⟩
      have HU := Lib.hid hU
      obtain ⟨⟨uk, un, us⟩, okv⟩ := U
      clear hU
      go_wp2_with fail
      refine (unval_any (Lx.bs nm) _ HSZ.out).mono ?_
      rintro e w2 ⟨he, hb2⟩
      rw [Lx.ls_bs, ← HU.out] at he
      subst he
      unfold valE2
      have K2 := blk_next K1 hb2
      have hW2 := wblk_keep hW1 hb2
      have hbx : Below g w w2 := hb1.trans (hb2.mono (by have := blk_lt K1; omega))
      obtain ⟨cc, ff⟩ := blk_cells K2
      have q4 := cc 4 _ rfl
      have q5 := cc 5 _ rfl
      have q6 := cc 6 _ rfl
      have r4 := ff 4
      have r5 := ff 5
      have r6 := ff 6
      obtain ⟨⟨v0, z0⟩, z1, zf⟩ := wblk_cell hW2
      have hgx2 : gx < w2.heap.size := blk_lt K2
      have hgg : g < w2.heap.size := by omega
      have hne : gx ≠ g := by omega
      have hne2 : g ≠ gx := by omega
      have K6 : (((w2.setCell ⟨gx, 4, none⟩ (.int .i64 uk)).setCell ⟨gx, 5, none⟩ (.int .i64 un)).setCell ⟨gx, 6, none⟩ (.string (Lx.bs us))).heap[gx]? = some (.cells (xcells { o' with vk := uk, vn := un, vs := us } (.slice none 0 0)) 39) := heap_set (k := 6) (v := .string (Lx.bs us)) (heap_set (k := 5) (v := .int .i64 un) (heap_set (k := 4) (v := .int .i64 uk) K2))
      have hW6 := wblk_far (wblk_far (wblk_far hW2 gx 4 (.int .i64 uk) hg) gx 5 (.int .i64 un) hg) gx 6 (.string (Lx.bs us)) hg
      have hb6 : Below g w (((w2.setCell ⟨gx, 4, none⟩ (.int .i64 uk)).setCell ⟨gx, 5, none⟩ (.int .i64 un)).setCell ⟨gx, 6, none⟩ (.string (Lx.bs us))) := ((hbx.setCell (by show g ≤ gx; omega) _).setCell (by show g ≤ gx; omega) _).setCell (by show g ≤ gx; omega) _
      have HK6 := Lib.hid K6
      have HW6 := Lib.hid hW6
      have HB6 := Lib.hid hb6
      have HR : Hid (Ox.valSt (Ox.at_ f 3) (0, 0, []) (fillN f o W 3).2 = ((uk, un, us), (l2, ok2 && (okv && decide (uk = 1) && decide (0 ≤ un) && decide (un ≤ 999999999))))) := Lib.hid (by
        rw [← HF.out]
        simp only [Ox.valSt]
        rw [if_neg (by rw [HG3.out]; decide), ← HNM.out, ← HX2.out, ← HU.out]
        simp only [Ox.valOk]
        rw [if_pos HG3.out])
      have hname : (fillN f o W 3).1 = o' := by rw [← HF.out]
      have HNAME := Lib.hid hname
      clear hname cc ff hb2 hW1 K1 hb1 K2 K6 hW6 hb6 hW2 hbx HF
      cases ok2 with
      | true =>
        cases okv with
        | false =>
          go_wp2
          refine wp_loop_rounds 1 ?_
          rw [rounds_succ]
          go_wp2
          refine bodyPost_end (results_none Tryd.results34 _ _ _) rfl ?_
          rw [HR.out, HNAME.out]
          exact ⟨rfl, ⟨_, _, _, blk_alloc (blk_far HK6.out (by show gx ≠ g; omega) _) _, .inl ⟨HKK.out, _, _, rfl⟩⟩, wblk_keep (wblk_ok HW6.out false) (below_al (Below.refl _ _) _), (HB6.out.setCell (Nat.le_refl _) _).alloc (by simp; omega) _⟩
        | true =>
          by_cases h1 : uk = 1
          · subst h1
            by_cases h2 : 0 ≤ un
            · have f2 : decide (0 ≤ un) = true := decide_eq_true h2
              by_cases h3 : un ≤ 999999999
              · have f3 : decide (un ≤ 999999999) = true := decide_eq_true h3
                rw [decide_eq_true rfl, f2, f3] at HR
                go_wp2
                refine wp_loop_rounds 1 ?_
                rw [rounds_succ]
                go_wp2
                refine bodyPost_end (results_none Tryd.results34 _ _ _) rfl ?_
                rw [HR.out, HNAME.out]
                exact ⟨rfl, ⟨_, _, _, blk_alloc (blk_far HK6.out (by show gx ≠ g; omega) _) _, .inl ⟨HKK.out, _, _, rfl⟩⟩, wblk_keep (wblk_ok HW6.out true) (below_al (Below.refl _ _) _), (HB6.out.setCell (Nat.le_refl _) _).alloc (by simp; omega) _⟩
              · have f3 : decide (un ≤ 999999999) = false := decide_eq_false h3
                rw [decide_eq_true rfl, f2, f3] at HR
                go_wp2
                refine wp_loop_rounds 1 ?_
                rw [rounds_succ]
                go_wp2
                refine bodyPost_end (results_none Tryd.results34 _ _ _) rfl ?_
                rw [HR.out, HNAME.out]
                exact ⟨rfl, ⟨_, _, _, blk_alloc (blk_far HK6.out (by show gx ≠ g; omega) _) _, .inl ⟨HKK.out, _, _, rfl⟩⟩, wblk_keep (wblk_ok HW6.out false) (below_al (Below.refl _ _) _), (HB6.out.setCell (Nat.le_refl _) _).alloc (by simp; omega) _⟩
            · have f2 : decide (0 ≤ un) = false := decide_eq_false h2
              rw [decide_eq_true rfl, f2] at HR
              go_wp2
              refine wp_loop_rounds 1 ?_
              rw [rounds_succ]
              go_wp2
              refine bodyPost_end (results_none Tryd.results34 _ _ _) rfl ?_
              rw [HR.out, HNAME.out]
              exact ⟨rfl, ⟨_, _, _, blk_alloc (blk_far HK6.out (by show gx ≠ g; omega) _) _, .inl ⟨HKK.out, _, _, rfl⟩⟩, wblk_keep (wblk_ok HW6.out false) (below_al (Below.refl _ _) _), (HB6.out.setCell (Nat.le_refl _) _).alloc (by simp; omega) _⟩
          · have f1 : (uk == 1) = false := by simpa using h1
            rw [decide_eq_false h1] at HR
            go_wp2
            refine wp_loop_rounds 1 ?_
            rw [rounds_succ]
            go_wp2
            refine bodyPost_end (results_none Tryd.results34 _ _ _) rfl ?_
            rw [HR.out, HNAME.out]
            exact ⟨rfl, ⟨_, _, _, blk_alloc (blk_far HK6.out (by show gx ≠ g; omega) _) _, .inl ⟨HKK.out, _, _, rfl⟩⟩, wblk_keep (wblk_ok HW6.out false) (below_al (Below.refl _ _) _), (HB6.out.setCell (Nat.le_refl _) _).alloc (by simp; omega) _⟩
      | false =>
        cases okv with
        | false =>
          go_wp2
          refine wp_loop_rounds 1 ?_
          rw [rounds_succ]
          go_wp2
          refine bodyPost_end (results_none Tryd.results34 _ _ _) rfl ?_
          rw [HR.out, HNAME.out]
          exact ⟨rfl, ⟨_, _, _, blk_alloc (blk_far HK6.out (by show gx ≠ g; omega) _) _, .inl ⟨HKK.out, _, _, rfl⟩⟩, wblk_keep (wblk_ok HW6.out false) (below_al (Below.refl _ _) _), (HB6.out.setCell (Nat.le_refl _) _).alloc (by simp; omega) _⟩
        | true =>
          by_cases h1 : uk = 1
          · subst h1
            by_cases h2 : 0 ≤ un
            · have f2 : decide (0 ≤ un) = true := decide_eq_true h2
              by_cases h3 : un ≤ 999999999
              · have f3 : decide (un ≤ 999999999) = true := decide_eq_true h3
                rw [decide_eq_true rfl, f2, f3] at HR
                go_wp2
                refine wp_loop_rounds 1 ?_
                rw [rounds_succ]
                go_wp2
                refine bodyPost_end (results_none Tryd.results34 _ _ _) rfl ?_
                rw [HR.out, HNAME.out]
                exact ⟨rfl, ⟨_, _, _, blk_alloc (blk_far HK6.out (by show gx ≠ g; omega) _) _, .inl ⟨HKK.out, _, _, rfl⟩⟩, wblk_keep (wblk_ok HW6.out false) (below_al (Below.refl _ _) _), (HB6.out.setCell (Nat.le_refl _) _).alloc (by simp; omega) _⟩
              · have f3 : decide (un ≤ 999999999) = false := decide_eq_false h3
                rw [decide_eq_true rfl, f2, f3] at HR
                go_wp2
                refine wp_loop_rounds 1 ?_
                rw [rounds_succ]
                go_wp2
                refine bodyPost_end (results_none Tryd.results34 _ _ _) rfl ?_
                rw [HR.out, HNAME.out]
                exact ⟨rfl, ⟨_, _, _, blk_alloc (blk_far HK6.out (by show gx ≠ g; omega) _) _, .inl ⟨HKK.out, _, _, rfl⟩⟩, wblk_keep (wblk_ok HW6.out false) (below_al (Below.refl _ _) _), (HB6.out.setCell (Nat.le_refl _) _).alloc (by simp; omega) _⟩
            · have f2 : decide (0 ≤ un) = false := decide_eq_false h2
              rw [decide_eq_true rfl, f2] at HR
              go_wp2
              refine wp_loop_rounds 1 ?_
              rw [rounds_succ]
              go_wp2
              refine bodyPost_end (results_none Tryd.results34 _ _ _) rfl ?_
              rw [HR.out, HNAME.out]
              exact ⟨rfl, ⟨_, _, _, blk_alloc (blk_far HK6.out (by show gx ≠ g; omega) _) _, .inl ⟨HKK.out, _, _, rfl⟩⟩, wblk_keep (wblk_ok HW6.out false) (below_al (Below.refl _ _) _), (HB6.out.setCell (Nat.le_refl _) _).alloc (by simp; omega) _⟩
          · have f1 : (uk == 1) = false := by simpa using h1
            rw [decide_eq_false h1] at HR
            go_wp2
            refine wp_loop_rounds 1 ?_
            rw [rounds_succ]
            go_wp2
            refine bodyPost_end (results_none Tryd.results34 _ _ _) rfl ?_
            rw [HR.out, HNAME.out]
            exact ⟨rfl, ⟨_, _, _, blk_alloc (blk_far HK6.out (by show gx ≠ g; omega) _) _, .inl ⟨HKK.out, _, _, rfl⟩⟩, wblk_keep (wblk_ok HW6.out false) (below_al (Below.refl _ _) _), (HB6.out.setCell (Nat.le_refl _) _).alloc (by simp; omega) _⟩
end Go.Proofs.YtoekddkkjbcicaaDoor
