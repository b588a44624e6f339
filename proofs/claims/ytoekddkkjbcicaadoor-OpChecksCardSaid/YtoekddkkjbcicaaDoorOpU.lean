import Derived.Test.YtoekddkkjbcicaaDoorOpT
set_option linter.unusedVariables false
set_option linter.unusedSimpArgs false
namespace Go.Proofs.YtoekddkkjbcicaaDoor
open Go.RowKit
attribute [local simp] Lx.bs_size
set_option maxRecDepth 100000 in
set_option maxHeartbeats 4000000 in
theorem fill_C (o : Ox.Op) (w : World) (g gx : Nat) (W : Ox.W) (hl : Laid w) (hW : WBlk w g W) (K : w.heap[gx]? = some (.cells (xcells o (.slice none 0 0)) 39)) (hg : g < gx) (hg2 : 2 ≤ g)
    (hs : ∀ p ∈ W.1, p.length ≤ 1000000) (c : Nat) (hc34 : c < 34) (hc : o.code = (c : Int)) (f : Ox.S) (hf : Ox.forms[c]? = some f) (hf6 : f.length = 6) (g3 : (Ox.at_ f 3).toNat = 46) (g4 : (Ox.at_ f 4).toNat ≠ 46) (g5 : (Ox.at_ f 5).toNat ≠ 107) (hk0 : o.keys = []) :
    Calls Tryd.prog 34 #[.pointer (some ⟨g, 0, none⟩), .pointer (some ⟨gx, 0, none⟩)] w fun e w' => FillE w g gx ({ (fillN f o W 3).1 with name := (Ox.nameSt (Ox.at_ f 4) [] (fillN f o W 3).2).1 }, (Ox.nameSt (Ox.at_ f 4) [] (fillN f o W 3).2).2) e w' := by
  obtain ⟨F, hF⟩ : ∃ F, F = Lx.bs f := ⟨_, rfl⟩
  have hF6 : 6 ≤ F.size := by rw [hF, Lx.bs_size]; omega
  have fs0 : 0 < F.size := by omega
  have fs1 : 1 < F.size := by omega
  have fs2 : 2 < F.size := by omega
  have fs3 : 3 < F.size := by omega
  have fs4 : 4 < F.size := by omega
  have fs5 : 5 < F.size := by omega
  have hFa : ∀ i (h : i < F.size), F[i] = Ox.at_ f i := by subst hF; intro i h; exact at_bs f i h
  have HFA := Lib.hid hFa
  have e3 : ((F[3].toNat : Int) != 46) = false := by rw [hFa 3 fs3]; simp; omega
  have e4 : ((F[4].toNat : Int) != 46) = true := by rw [hFa 4 fs4]; simp; omega
  have e5 : ((F[5].toNat : Int) == 107) = false := by rw [hFa 5 fs5]; simp; omega
  have fi4 : (4 : Int) < (F.size : Int) := by omega
  have HK0 := Lib.hid hk0
  have HG4 := Lib.hid g4
  clear g3 g4 g5 hk0
  have a1 : w.cell? ⟨1, c, none⟩ = some (.string F) := by rw [hF]; exact hl.2.2 c f hf
  obtain ⟨cK, fK⟩ := blk_cells K
  have k0 : w.cell? ⟨gx, 0, none⟩ = some (.int .i64 (c : Int)) := by rw [← hc]; exact cK 0 _ rfl
  have ix0 : ∀ wr : World, (Instr.index 76 (.agg #[.pointer (some ⟨gx, 1, none⟩), .pointer (some ⟨gx, 2, none⟩), .pointer (some ⟨gx, 3, none⟩)]) (.int .i64 0)).run Tryd.prog wr = .ok (.pointer (some ⟨gx, 1, none⟩)) wr := fun wr => by kernel_rfl
  have ix1 : ∀ wr : World, (Instr.index 76 (.agg #[.pointer (some ⟨gx, 1, none⟩), .pointer (some ⟨gx, 2, none⟩), .pointer (some ⟨gx, 3, none⟩)]) (.int .i64 1)).run Tryd.prog wr = .ok (.pointer (some ⟨gx, 2, none⟩)) wr := fun wr => by kernel_rfl
  have ix2 : ∀ wr : World, (Instr.index 76 (.agg #[.pointer (some ⟨gx, 1, none⟩), .pointer (some ⟨gx, 2, none⟩), .pointer (some ⟨gx, 3, none⟩)]) (.int .i64 2)).run Tryd.prog wr = .ok (.pointer (some ⟨gx, 3, none⟩)) wr := fun wr => by kernel_rfl
  have HK := Lib.hid K
  have HW := Lib.hid hW
  have HS := Lib.hid hs
  have hgs := blk_lt K
  clear hl hf hF hFa hc K hW hs cK fK
  go_enter Tryd.func34, Tryd.ntmps34
  go_wp2
  go_quiet (fail)
  go_wp2
  go_loopw [5, 6, 7, 8, 29] (fun _ _ _ _ i wr => ∃ (j : Nat) (o' : Ox.Op) (W' : Ox.W), j ≤ 3 ∧ i = .int .i64 j ∧ wr.heap[gx]? = some (.cells (xcells o' (.slice none 0 0)) 39) ∧ WBlk wr g W' ∧ Below g w wr ∧ (∀ p ∈ W'.1, p.length ≤ 1000000) ∧ Hid ((o', W') = fillN f o W j)) (fun _ _ _ _ i _ => 3 - (intOf i).toNat)
  case atStart => exact ⟨0, o, W, by omega, rfl, HK.out, HW.out, below_drewN (Below.refl _ _) _, HS.out, Lib.hid rfl⟩
  case round =>
    obtain ⟨j, o', W', hj, rfl, K', hW', hb, hs', HF⟩ := hrel
    by_cases hjl : j < 3
    · rcases (show j = 0 ∨ j = 1 ∨ j = 2 by omega) with rfl | rfl | rfl
      · by_cases hd : F[0].toNat ≠ 46
        · have dj : ((F[0].toNat : Int) != 46) = true := by simp; omega
          have HD := Lib.hid hd
          obtain ⟨m1, m2⟩ := nxW_mem hs'
          have HM1 := Lib.hid m1
          have HM2 := Lib.hid m2
          clear hd hs' m1 m2
          go_wp2_with fail
          refine (next_any _ g W' hW').mono ?_
          rintro e w1 ⟨rfl, ⟨p, u, rfl⟩, hW1⟩
          go_wp2_with fail
          refine (number_any _ _ (by have := HM2.out; simp; omega)).mono ?_
          rintro e w2 ⟨rfl, hb2⟩
          rw [Lx.ls_bs]
          have K2 := blk_next (blk_far K' (by show gx ≠ g; omega) u) hb2
          have hW2 := wblk_keep hW1 hb2
          obtain ⟨nn, hnn⟩ : ∃ nn, nn = Ox.number (Ox.nxS W') := ⟨_, rfl⟩
          rw [← hnn]
          obtain ⟨n, okn⟩ := nn
          obtain ⟨X2, hX2⟩ : ∃ X2, X2 = Ox.nxW W' := ⟨_, rfl⟩
          rw [← hX2] at hW2
          obtain ⟨l2, ok2⟩ := X2
          obtain ⟨⟨v0, z0⟩, z1, zf⟩ := wblk_cell hW2
          obtain ⟨cc, ff⟩ := blk_cells K2
          have q1 := cc 1 _ rfl
          have r1 := ff 1
          have hgg : g < w2.heap.size := by obtain ⟨v, Kg, _⟩ := hW2; exact blk_lt Kg
          have hne : gx ≠ g := by omega
          have hb3 : Below g w w2 := (hb.setCell (Nat.le_refl _) _).trans (hb2.mono (by have := blk_lt K'; simp; omega))
          have K3 := heap_set (k := 1) (v := .int .i64 n) K2
          have HNN := Lib.hid hnn
          have HX2 := Lib.hid hX2
          have HF' : Hid ((setP o' 0 n, (l2, ok2 && okn)) = fillN f o W 1) := by
            unfold Hid
            rw [fillN, ← HF.out]
            simp only [Ox.numSt]
            rw [if_neg (by rw [← HFA.out 0 fs0]; exact HD.out), ← HNN.out, ← HX2.out]
          clear cc ff hnn hX2 HF
          cases ok2 with
          | true =>
            go_wp2
            go_roundw
            case rel => exact ⟨1, setP o' 0 n, (l2, okn), by omega, rfl, blk_far K3 (by show gx ≠ g; omega) _, wblk_ok (wblk_far hW2 gx 1 _ hg) okn, (hb3.setCell (by show g ≤ gx; omega) _).setCell (Nat.le_refl _) _, by have h := HM1.out; rw [← HX2.out] at h; exact h, HF'⟩
            case measure => simp [intOf]
          | false =>
            go_wp2
            go_roundw
            case rel => exact ⟨1, setP o' 0 n, (l2, false), by omega, rfl, blk_far K3 (by show gx ≠ g; omega) _, wblk_ok (wblk_far hW2 gx 1 _ hg) false, (hb3.setCell (by show g ≤ gx; omega) _).setCell (Nat.le_refl _) _, by have h := HM1.out; rw [← HX2.out] at h; exact h, HF'⟩
            case measure => simp [intOf]
        have hd : F[0].toNat = 46 := by omega
        have dj : ((F[0].toNat : Int) != 46) = false := by simp; omega
        have HF' : Hid ((o', W') = fillN f o W 1) := by
          unfold Hid
          rw [fillN, ← HF.out]
          simp only [Ox.numSt]
          rw [if_pos (by rw [← HFA.out 0 fs0]; exact hd)]
          rfl
        clear hd HF
        go_wp2
        go_roundw
        case rel => exact ⟨1, o', W', by omega, rfl, K', hW', hb, hs', HF'⟩
        case measure => simp [intOf]
      · by_cases hd : F[1].toNat ≠ 46
        · have dj : ((F[1].toNat : Int) != 46) = true := by simp; omega
          have HD := Lib.hid hd
          obtain ⟨m1, m2⟩ := nxW_mem hs'
          have HM1 := Lib.hid m1
          have HM2 := Lib.hid m2
          clear hd hs' m1 m2
          go_wp2_with fail
          refine (next_any _ g W' hW').mono ?_
          rintro e w1 ⟨rfl, ⟨p, u, rfl⟩, hW1⟩
          go_wp2_with fail
          refine (number_any _ _ (by have := HM2.out; simp; omega)).mono ?_
          rintro e w2 ⟨rfl, hb2⟩
          rw [Lx.ls_bs]
          have K2 := blk_next (blk_far K' (by show gx ≠ g; omega) u) hb2
          have hW2 := wblk_keep hW1 hb2
          obtain ⟨nn, hnn⟩ : ∃ nn, nn = Ox.number (Ox.nxS W') := ⟨_, rfl⟩
          rw [← hnn]
          obtain ⟨n, okn⟩ := nn
          obtain ⟨X2, hX2⟩ : ∃ X2, X2 = Ox.nxW W' := ⟨_, rfl⟩
          rw [← hX2] at hW2
          obtain ⟨l2, ok2⟩ := X2
          obtain ⟨⟨v0, z0⟩, z1, zf⟩ := wblk_cell hW2
          obtain ⟨cc, ff⟩ := blk_cells K2
          have q1 := cc 2 _ rfl
          have r1 := ff 2
          have hgg : g < w2.heap.size := by obtain ⟨v, Kg, _⟩ := hW2; exact blk_lt Kg
          have hne : gx ≠ g := by omega
          have hb3 : Below g w w2 := (hb.setCell (Nat.le_refl _) _).trans (hb2.mono (by have := blk_lt K'; simp; omega))
          have K3 := heap_set (k := 2) (v := .int .i64 n) K2
          have HNN := Lib.hid hnn
          have HX2 := Lib.hid hX2
          have HF' : Hid ((setP o' 1 n, (l2, ok2 && okn)) = fillN f o W 2) := by
            unfold Hid
            rw [fillN, ← HF.out]
            simp only [Ox.numSt]
            rw [if_neg (by rw [← HFA.out 1 fs1]; exact HD.out), ← HNN.out, ← HX2.out]
          clear cc ff hnn hX2 HF
          cases ok2 with
          | true =>
            go_wp2
            go_roundw
            case rel => exact ⟨2, setP o' 1 n, (l2, okn), by omega, rfl, blk_far K3 (by show gx ≠ g; omega) _, wblk_ok (wblk_far hW2 gx 2 _ hg) okn, (hb3.setCell (by show g ≤ gx; omega) _).setCell (Nat.le_refl _) _, by have h := HM1.out; rw [← HX2.out] at h; exact h, HF'⟩
            case measure => simp [intOf]
          | false =>
            go_wp2
            go_roundw
            case rel => exact ⟨2, setP o' 1 n, (l2, false), by omega, rfl, blk_far K3 (by show gx ≠ g; omega) _, wblk_ok (wblk_far hW2 gx 2 _ hg) false, (hb3.setCell (by show g ≤ gx; omega) _).setCell (Nat.le_refl _) _, by have h := HM1.out; rw [← HX2.out] at h; exact h, HF'⟩
            case measure => simp [intOf]
        have hd : F[1].toNat = 46 := by omega
        have dj : ((F[1].toNat : Int) != 46) = false := by simp; omega
        have HF' : Hid ((o', W') = fillN f o W 2) := by
          unfold Hid
          rw [fillN, ← HF.out]
          simp only [Ox.numSt]
          rw [if_pos (by rw [← HFA.out 1 fs1]; exact hd)]
          rfl
        clear hd HF
        go_wp2
        go_roundw
        case rel => exact ⟨2, o', W', by omega, rfl, K', hW', hb, hs', HF'⟩
        case measure => simp [intOf]
      · by_cases hd : F[2].toNat ≠ 46
        · have dj : ((F[2].toNat : Int) != 46) = true := by simp; omega
          have HD := Lib.hid hd
          obtain ⟨m1, m2⟩ := nxW_mem hs'
          have HM1 := Lib.hid m1
          have HM2 := Lib.hid m2
          clear hd hs' m1 m2
          go_wp2_with fail
          refine (next_any _ g W' hW').mono ?_
          rintro e w1 ⟨rfl, ⟨p, u, rfl⟩, hW1⟩
          go_wp2_with fail
          refine (number_any _ _ (by have := HM2.out; simp; omega)).mono ?_
          rintro e w2 ⟨rfl, hb2⟩
          rw [Lx.ls_bs]
          have K2 := blk_next (blk_far K' (by show gx ≠ g; omega) u) hb2
          have hW2 := wblk_keep hW1 hb2
          obtain ⟨nn, hnn⟩ : ∃ nn, nn = Ox.number (Ox.nxS W') := ⟨_, rfl⟩
          rw [← hnn]
          obtain ⟨n, okn⟩ := nn
          obtain ⟨X2, hX2⟩ : ∃ X2, X2 = Ox.nxW W' := ⟨_, rfl⟩
          rw [← hX2] at hW2
          obtain ⟨l2, ok2⟩ := X2
          obtain ⟨⟨v0, z0⟩, z1, zf⟩ := wblk_cell hW2
          obtain ⟨cc, ff⟩ := blk_cells K2
          have q1 := cc 3 _ rfl
          have r1 := ff 3
          have hgg : g < w2.heap.size := by obtain ⟨v, Kg, _⟩ := hW2; exact blk_lt Kg
          have hne : gx ≠ g := by omega
          have hb3 : Below g w w2 := (hb.setCell (Nat.le_refl _) _).trans (hb2.mono (by have := blk_lt K'; simp; omega))
          have K3 := heap_set (k := 3) (v := .int .i64 n) K2
          have HNN := Lib.hid hnn
          have HX2 := Lib.hid hX2
          have HF' : Hid ((setP o' 2 n, (l2, ok2 && okn)) = fillN f o W 3) := by
            unfold Hid
            rw [fillN, ← HF.out]
            simp only [Ox.numSt]
            rw [if_neg (by rw [← HFA.out 2 fs2]; exact HD.out), ← HNN.out, ← HX2.out]
          clear cc ff hnn hX2 HF
          cases ok2 with
          | true =>
            go_wp2
            go_roundw
            case rel => exact ⟨3, setP o' 2 n, (l2, okn), by omega, rfl, blk_far K3 (by show gx ≠ g; omega) _, wblk_ok (wblk_far hW2 gx 3 _ hg) okn, (hb3.setCell (by show g ≤ gx; omega) _).setCell (Nat.le_refl _) _, by have h := HM1.out; rw [← HX2.out] at h; exact h, HF'⟩
            case measure => simp [intOf]
          | false =>
            go_wp2
            go_roundw
            case rel => exact ⟨3, setP o' 2 n, (l2, false), by omega, rfl, blk_far K3 (by show gx ≠ g; omega) _, wblk_ok (wblk_far hW2 gx 3 _ hg) false, (hb3.setCell (by show g ≤ gx; omega) _).setCell (Nat.le_refl _) _, by have h := HM1.out; rw [← HX2.out] at h; exact h, HF'⟩
            case measure => simp [intOf]
        have hd : F[2].toNat = 46 := by omega
        have dj : ((F[2].toNat : Int) != 46) = false := by simp; omega
        have HF' : Hid ((o', W') = fillN f o W 3) := by
          unfold Hid
          rw [fillN, ← HF.out]
          simp only [Ox.numSt]
          rw [if_pos (by rw [← HFA.out 2 fs2]; exact hd)]
          rfl
        clear hd HF
        go_wp2
        go_roundw
        case rel => exact ⟨3, o', W', by omega, rfl, K', hW', hb, hs', HF'⟩
        case measure => simp [intOf]
    · obtain rfl : j = 3 := by omega
      obtain ⟨m1, m2⟩ := nxW_mem hs'
      have hkk : o'.keys = [] := by
        have h := congrArg (fun r => r.1.keys) HF.out
        have h2 : ∀ j, (fillN f o W j).1.keys = [] := by
          intro j
          induction j with
          | zero => exact HK0.out
          | succ j ih =>
            rw [fillN]
            unfold setP
            split <;> exact ih
        exact h.trans (h2 3)
      have HKK := Lib.hid hkk
      have HM1 := Lib.hid m1
      obtain ⟨nm, hnm⟩ : ∃ nm, nm = Ox.nxS W' := ⟨_, rfl⟩
      rw [← hnm] at m2
      have HNM := Lib.hid hnm
      clear hs' m1 hkk hnm
      go_wp2_with fail
      refine (next_any _ g W' hW').mono ?_
      rintro e w1 ⟨rfl, ⟨p, u, rfl⟩, hW1⟩
      rw [← HNM.out]
      obtain ⟨X2, hX2⟩ : ∃ X2, X2 = Ox.nxW W' := ⟨_, rfl⟩
      rw [← hX2] at hW1
      have HX2 := Lib.hid hX2
      obtain ⟨l2, ok2⟩ := X2
      have K1 := blk_far K' (by show gx ≠ g; omega : gx ≠ (⟨g, p, none⟩ : Addr).block) u
      obtain ⟨cc, ff⟩ := blk_cells K1
      have q8 := cc 8 _ rfl
      have r8 := ff 8
      have K8 := heap_set (k := 8) (v := .string (Lx.bs nm)) K1
      have hW8 := wblk_far hW1 gx 8 (.string (Lx.bs nm)) hg
      have hb8 : Below g w ((wr.setCell ⟨g, p, none⟩ u).setCell ⟨gx, 8, none⟩ (.string (Lx.bs nm))) := (hb.setCell (Nat.le_refl _) _).setCell (by show g ≤ gx; omega) _
      have hgx2 : gx < ((wr.setCell ⟨g, p, none⟩ u).setCell ⟨gx, 8, none⟩ (.string (Lx.bs nm))).heap.size := blk_lt K8
      clear cc ff hX2 hW1 K1 hW' hb K'
      go_wp2
      generalize ((wr.setCell ⟨g, p, none⟩ u).setCell ⟨gx, 8, none⟩ (.string (Lx.bs nm))) = W8 at K8 hW8 hb8 hgx2 ⊢
      have K8' : W8.heap[gx]? = some (.cells (xcells { o' with name := nm } (.slice none 0 0)) 39) := K8
      obtain ⟨cc, ff⟩ := blk_cells K8'
      have q8 : W8.cell? ⟨gx, 8, none⟩ = some (.string (Lx.bs nm)) := cc 8 _ rfl
      obtain ⟨⟨v0, z0⟩, z1, zf⟩ := wblk_cell hW8
      have hgg : g < W8.heap.size := by omega
      clear cc ff K8
      obtain ⟨q, hq⟩ : ∃ q, Ox.named (Ox.at_ f 4) nm = q := ⟨_, rfl⟩
      have HQ : Hid (Ox.named (F[4]'(by omega)) nm = q) := Lib.hid (by rw [HFA.out 4 fs4]; exact hq)
      have HR : Hid (Ox.nameSt (Ox.at_ f 4) [] (fillN f o W 3).2 = (nm, (l2, ok2 && q))) := Lib.hid (by
        rw [← HF.out]
        simp only [Ox.nameSt]
        rw [if_neg HG4.out, ← HNM.out, ← HX2.out, hq])
      clear hq
      have hname : (fillN f o W 3).1 = o' := by rw [← HF.out]
      have HNAME := Lib.hid hname
      clear hname
      cases ok2 with
      | false =>
        go_region
        all_goals
          go_wp2
          refine wp_loop_rounds 1 ?_
          rw [rounds_succ]
          go_wp2
          refine bodyPost_end (results_none Tryd.results34 _ _ _) rfl ?_
          rw [HR.out, HNAME.out]
          exact ⟨rfl, ⟨_, _, _, blk_far (blk_drew K8') (by show gx ≠ g; omega) _, .inl ⟨HKK.out, _, _, rfl⟩⟩, wblk_ok (w := W8.drew) hW8 false, (hb8.drew.setCell (Nat.le_refl _) _)⟩
      | true =>
        go_region_with (go_at_call 47; refine (named_q _ _ _ _ (by omega) (by with_reducible exact HQ.out)).mono ?_; rintro e w3 ⟨rfl, hb3⟩; have hW9 := wblk_keep (W := W8.drew) hW8 hb3; have K9 := blk_next (W := W8.drew) K8' hb3; obtain ⟨⟨v9, z90⟩, z91, z9f⟩ := wblk_cell hW9)
        all_goals
          go_wp2
          refine wp_loop_rounds 1 ?_
          rw [rounds_succ]
          go_wp2
          refine bodyPost_end (results_none Tryd.results34 _ _ _) rfl ?_
          rw [HR.out, HNAME.out]
          exact ⟨rfl, ⟨_, _, _, blk_far K9 (by show gx ≠ g; omega) _, .inl ⟨HKK.out, _, _, rfl⟩⟩, wblk_ok hW9 q, (hb8.drew.trans (hb3.mono (by simp; omega))).setCell (Nat.le_refl _) _⟩
end Go.Proofs.YtoekddkkjbcicaaDoor
