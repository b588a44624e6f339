import Derived.Test.YtoekddkkjbcicaaDoorOpS
set_option linter.unusedVariables false
set_option linter.unusedSimpArgs false
namespace Go.Proofs.YtoekddkkjbcicaaDoor
open Go.RowKit
attribute [local simp] Lx.bs_size
def xcells (o : Ox.Op) (kv : Value) : Array Value := #[.int .i64 o.code, .int .i64 o.p1, .int .i64 o.p2, .int .i64 o.p3, .int .i64 o.vk, .int .i64 o.vn, .string (Lx.bs o.vs), kv, .string (Lx.bs o.name)]
theorem wat_keep {W w1 : World} {g : Nat} {v : Value} {l : List Ox.S} (h : WAt W g v l) (hb : Below W.heap.size W w1) : WAt w1 g v l := by
  rcases h with h | ⟨b, off, c, h1, h2, h3, h4, h5, h6⟩
  · exact .inl h
  · exact .inr ⟨b, off, c, h1, h2, Nat.lt_of_lt_of_le h3 hb.size, h4, h5, fun j p hj => (hb.cell (p := ⟨b, off + j, none⟩) h3).trans (h6 j p hj)⟩
theorem wat_set {w : World} {g : Nat} {v : Value} {l : List Ox.S} (h : WAt w g v l) (q p : Nat) (u : Value) (hq : g ≤ q) : WAt (w.setCell ⟨q, p, none⟩ u) g v l := by
  rcases h with h | ⟨b, off, c, h1, h2, h3, h4, h5, h6⟩
  · exact .inl h
  · refine .inr ⟨b, off, c, h1, h2, by simpa using h3, h4, h5, fun j p hj => ?_⟩
    rw [World.cell?_setCell_other _ _ _ _ (by intro h; simp only [Addr.mk.injEq] at h; have := h.1; omega)]
    exact h6 j p hj
theorem wblk_keep {W w1 : World} {g : Nat} {X : Ox.W} (h : WBlk W g X) (hb : Below W.heap.size W w1) : WBlk w1 g X := by
  obtain ⟨v, K, h⟩ := h
  exact ⟨v, blk_next K hb, wat_keep h hb⟩
theorem wblk_far {w : World} {g : Nat} {X : Ox.W} (h : WBlk w g X) (q p : Nat) (u : Value) (hq : g < q) : WBlk (w.setCell ⟨q, p, none⟩ u) g X := by
  obtain ⟨v, K, h⟩ := h
  exact ⟨v, blk_far K (by show g ≠ q; omega) u, wat_set h q p u (by omega)⟩
theorem wblk_ok {w : World} {g : Nat} {l : List Ox.S} {ok : Bool} (h : WBlk w g (l, ok)) (b : Bool) : WBlk (w.setCell ⟨g, 1, none⟩ (.bool b)) g (l, b) := by
  obtain ⟨v, K, h⟩ := h
  exact ⟨v, heap_set K, wat_set h g 1 _ (Nat.le_refl _)⟩
theorem wblk_cell {w : World} {g : Nat} {X : Ox.W} (h : WBlk w g X) : (∃ v, w.cell? ⟨g, 0, none⟩ = some v) ∧ w.cell? ⟨g, 1, none⟩ = some (.bool X.2) ∧ w.frozen? ⟨g, 1, none⟩ = false := by
  obtain ⟨v, K, h⟩ := h
  obtain ⟨c, f⟩ := blk_cells K
  exact ⟨⟨v, c 0 _ rfl⟩, c 1 _ rfl, f 1⟩
def setP (o : Ox.Op) (j : Nat) (v : Int) : Ox.Op := match j with
  | 0 => { o with p1 := v }
  | 1 => { o with p2 := v }
  | _ => { o with p3 := v }
/-- What fill has done behind j of the three numbers. -/
def fillN (f : Ox.S) (o : Ox.Op) (W : Ox.W) : Nat → Ox.Op × Ox.W
  | 0 => (o, W)
  | j + 1 => (setP (fillN f o W j).1 j (Ox.numSt (Ox.at_ f j) (pN (fillN f o W j).1 j) (fillN f o W j).2).1, (Ox.numSt (Ox.at_ f j) (pN (fillN f o W j).1 j) (fillN f o W j).2).2)
theorem nxW_mem {W : Ox.W} {N : Nat} (h : ∀ p ∈ W.1, p.length ≤ N) : (∀ p ∈ (Ox.nxW W).1, p.length ≤ N) ∧ (Ox.nxS W).length ≤ N := by
  obtain ⟨l, ok⟩ := W
  cases l with
  | nil => exact ⟨by simp [Ox.nxW], by simp [Ox.nxS]⟩
  | cons p r => exact ⟨fun q hq => h q (List.mem_cons_of_mem _ hq), h p List.mem_cons_self⟩
/-- A row of keys that can be read, in a block from g on. -/
def KAtF (g : Nat) (w : World) (v : Value) (l : List Ox.Key) : Prop :=
  (l = [] ∧ ∃ a c, v = .slice a 0 c) ∨ ∃ b off c, v = .slice (some ⟨b, off, none⟩) l.length c ∧ b < w.heap.size ∧ l.length ≤ c ∧ c ≤ maxLen ∧ (∀ j u, (l.flatMap kcells)[j]? = some u → w.cell? ⟨b, off + j, none⟩ = some u) ∧ g ≤ b ∧ off = 0
def KFresh (g : Nat) (v : Value) (l : List Ox.Key) : Prop := l = [] ∨ ∃ b n c, v = .slice (some ⟨b, 0, none⟩) n c ∧ g ≤ b
theorem katf_kat {g : Nat} {w : World} {v : Value} {l : List Ox.Key} (h : KAtF g w v l) : KAt w v l := by
  rcases h with h | ⟨b, off, c, h1, h2, h3, h4, h5, _⟩
  · exact .inl h
  · exact .inr ⟨b, off, c, h1, h2, h3, h4, h5⟩
theorem katf_fresh {g g' : Nat} {w : World} {v : Value} {l : List Ox.Key} (h : KAtF g w v l) (hg : g' ≤ g) : KFresh g' v l := by
  rcases h with ⟨h, _⟩ | ⟨b, off, c, h1, _, _, _, _, h6, rfl⟩
  · exact .inl h
  · exact .inr ⟨b, _, c, h1, Nat.le_trans hg h6⟩
/-- What fill leaves. -/
def FillE (w : World) (g gx : Nat) (r : Ox.Op × Ox.W) (e : Ending) (w' : World) : Prop :=
  e = .returned (.tuple #[]) ∧ (∃ a n c, w'.heap[gx]? = some (.cells (xcells r.1 (.slice a n c)) 39) ∧ KAtF g w' (.slice a n c) r.1.keys) ∧ WBlk w' g r.2 ∧ Below g w w'
theorem fill_eq (o : Ox.Op) (W : Ox.W) (f : Ox.S) (hf : Ox.form o.code = f) (hk : o.keys = []) (hvv : o.vk = 0 ∧ o.vn = 0 ∧ o.vs = []) (hn : o.name = []) :
    Ox.fill o W = ((fun r : Ox.Op × Ox.W => (fun d : Ox.V × Ox.W => (fun e : Ox.S × Ox.W => (fun k : List Ox.Key × Ox.W => ((⟨r.1.code, r.1.p1, r.1.p2, r.1.p3, d.1.1, d.1.2.1, d.1.2.2, k.1, e.1⟩ : Ox.Op), k.2)) (Ox.keysSt (Ox.at_ f 5) [] e.2)) (Ox.nameSt (Ox.at_ f 4) [] d.2)) (Ox.valSt (Ox.at_ f 3) (0, 0, []) r.2)) (fillN f o W 3)) := by
  obtain ⟨code, p1, p2, p3, vk, vn, vs, keys, name⟩ := o
  simp only at hk hvv hn hf
  obtain ⟨rfl, rfl, rfl⟩ := hvv
  subst hk hn
  unfold Ox.fill
  rw [hf]
  rfl
set_option maxRecDepth 100000 in
set_option maxHeartbeats 4000000 in
theorem fill_E (o : Ox.Op) (w : World) (g gx : Nat) (W : Ox.W) (hl : Laid w) (hW : WBlk w g W) (K : w.heap[gx]? = some (.cells (xcells o (.slice none 0 0)) 39)) (hg : g < gx) (hg2 : 2 ≤ g)
    (hs : ∀ p ∈ W.1, p.length ≤ 1000000) (c : Nat) (hc34 : c < 34) (hc : o.code = (c : Int)) (f : Ox.S) (hf : Ox.forms[c]? = some f) (hf6 : f.length = 6) (g3 : (Ox.at_ f 3).toNat = 46) (g4 : (Ox.at_ f 4).toNat = 46) (g5 : (Ox.at_ f 5).toNat ≠ 107) (hk0 : o.keys = []) :
    Calls Tryd.prog 34 #[.pointer (some ⟨g, 0, none⟩), .pointer (some ⟨gx, 0, none⟩)] w fun e w' => FillE w g gx (fillN f o W 3) e w' := by
  obtain ⟨F, hF⟩ : ∃ F, F = Lx.bs f := ⟨_, rfl⟩
  have hF6 : 6 ≤ F.size := by rw [hF, Lx.bs_size]; omega
  have fs0 : 0 < F.size := by omega
  have fs1 : 1 < F.size := by omega
  have fs2 : 2 < F.size := by omega
  have fs3 : 3 < F.size := by omega
  have fs4 : 4 < F.size := by omega
  have fs5 : 5 < F.size := by omega
  have hFa : ∀ i (h : i < F.size), F[i] = Ox.at_ f i := by subst hF; intro i h; exact at_bs f i h
  have HFA := Lib.hid hFa
  have e3 : ((F[3].toNat : Int) != 46) = false := by rw [hFa 3 fs3]; simp; omega
  have e4 : ((F[4].toNat : Int) != 46) = false := by rw [hFa 4 fs4]; simp; omega
  have e5 : ((F[5].toNat : Int) == 107) = false := by rw [hFa 5 fs5]; simp; omega
  have HK0 := Lib.hid hk0
  clear g3 g4 g5 hk0
  have a1 : w.cell? ⟨1, c, none⟩ = some (.string F) := by rw [hF]; exact hl.2.2 c f hf
  obtain ⟨cK, fK⟩ := blk_cells K
  have k0 : w.cell? ⟨gx, 0, none⟩ = some (.int .i64 (c : Int)) := by rw [← hc]; exact cK 0 _ rfl
  have ix0 : ∀ wr : World, (Instr.index 76 (.agg #[.pointer (some ⟨gx, 1, none⟩), .pointer (some ⟨gx, 2, none⟩), .pointer (some ⟨gx, 3, none⟩)]) (.int .i64 0)).run Tryd.prog wr = .ok (.pointer (some ⟨gx, 1, none⟩)) wr := fun wr => by kernel_rfl
  have ix1 : ∀ wr : World, (Instr.index 76 (.agg #[.pointer (some ⟨gx, 1, none⟩), .pointer (some ⟨gx, 2, none⟩), .pointer (some ⟨gx, 3, none⟩)]) (.int .i64 1)).run Tryd.prog wr = .ok (.pointer (some ⟨gx, 2, none⟩)) wr := fun wr => by kernel_rfl
  have ix2 : ∀ wr : World, (Instr.index 76 (.agg #[.pointer (some ⟨gx, 1, none⟩), .pointer (some ⟨gx, 2, none⟩), .pointer (some ⟨gx, 3, none⟩)]) (.int .i64 2)).run Tryd.prog wr = .ok (.pointer (some ⟨gx, 3, none⟩)) wr := fun wr => by kernel_rfl
  have HK := Lib.hid K
  have HW := Lib.hid hW
  have HS := Lib.hid hs
  have hgs := blk_lt K
  clear hl hf hF hFa hc K hW hs cK fK
  go_enter Tryd.func34, Tryd.ntmps34
  go_wp2
  go_quiet (fail)
  go_wp2
  go_loopw [5, 6, 7, 8, 29] (fun _ _ _ _ i wr => ∃ (j : Nat) (o' : Ox.Op) (W' : Ox.W), j ≤ 3 ∧ i = .int .i64 j ∧ wr.heap[gx]? = some (.cells (xcells o' (.slice none 0 0)) 39) ∧ WBlk wr g W' ∧ Below g w wr ∧ (∀ p ∈ W'.1, p.length ≤ 1000000) ∧ Hid ((o', W') = fillN f o W j)) (fun _ _ _ _ i _ => 3 - (intOf i).toNat)
  case atStart => exact ⟨0, o, W, by omega, rfl, HK.out, HW.out, below_drewN (Below.refl _ _) _, HS.out, Lib.hid rfl⟩
  case round =>
    obtain ⟨j, o', W', hj, rfl, K', hW', hb, hs', HF⟩ := hrel
    by_cases hjl : j < 3
    · rcases (show j = 0 ∨ j = 1 ∨ j = 2 by omega) with rfl | rfl | rfl
      · by_cases hd : F[0].toNat ≠ 46
        · have dj : ((F[0].toNat : Int) != 46) = true := by simp; omega
          have HD := Lib.hid hd
          obtain ⟨m1, m2⟩ := nxW_mem hs'
          have HM1 := Lib.hid m1
          have HM2 := Lib.hid m2
          clear hd hs' m1 m2
          go_wp2_with fail
          refine (next_any _ g W' hW').mono ?_
          rintro e w1 ⟨rfl, ⟨p, u, rfl⟩, hW1⟩
          go_wp2_with fail
          refine (number_any _ _ (by have := HM2.out; simp; omega)).mono ?_
          rintro e w2 ⟨rfl, hb2⟩
          rw [Lx.ls_bs]
          have K2 := blk_next (blk_far K' (by show gx ≠ g; omega) u) hb2
          have hW2 := wblk_keep hW1 hb2
          obtain ⟨nn, hnn⟩ : ∃ nn, nn = Ox.number (Ox.nxS W') := ⟨_, rfl⟩
          rw [← hnn]
          obtain ⟨n, okn⟩ := nn
          obtain ⟨X2, hX2⟩ : ∃ X2, X2 = Ox.nxW W' := ⟨_, rfl⟩
          rw [← hX2] at hW2
          obtain ⟨l2, ok2⟩ := X2
          obtain ⟨⟨v0, z0⟩, z1, zf⟩ := wblk_cell hW2
          obtain ⟨cc, ff⟩ := blk_cells K2
          have q1 := cc 1 _ rfl
          have r1 := ff 1
          have hgg : g < w2.heap.size := by obtain ⟨v, Kg, _⟩ := hW2; exact blk_lt Kg
          have hne : gx ≠ g := by omega
          have hb3 : Below g w w2 := (hb.setCell (Nat.le_refl _) _).trans (hb2.mono (by have := blk_lt K'; simp; omega))
          have K3 := heap_set (k := 1) (v := .int .i64 n) K2
          have HNN := Lib.hid hnn
          have HX2 := Lib.hid hX2
          have HF' : Hid ((setP o' 0 n, (l2, ok2 && okn)) = fillN f o W 1) := by
            unfold Hid
            rw [fillN, ← HF.out]
            simp only [Ox.numSt]
            rw [if_neg (by rw [← HFA.out 0 fs0]; exact HD.out), ← HNN.out, ← HX2.out]
          clear cc ff hnn hX2 HF
          cases ok2 with
          | true =>
            go_wp2
            go_roundw
            case rel => exact ⟨1, setP o' 0 n, (l2, okn), by omega, rfl, blk_far K3 (by show gx ≠ g; omega) _, wblk_ok (wblk_far hW2 gx 1 _ hg) okn, (hb3.setCell (by show g ≤ gx; omega) _).setCell (Nat.le_refl _) _, by have h := HM1.out; rw [← HX2.out] at h; exact h, HF'⟩
            case measure => simp [intOf]
          | false =>
            go_wp2
            go_roundw
            case rel => exact ⟨1, setP o' 0 n, (l2, false), by omega, rfl, blk_far K3 (by show gx ≠ g; omega) _, wblk_ok (wblk_far hW2 gx 1 _ hg) false, (hb3.setCell (by show g ≤ gx; omega) _).setCell (Nat.le_refl _) _, by have h := HM1.out; rw [← HX2.out] at h; exact h, HF'⟩
            case measure => simp [intOf]
        have hd : F[0].toNat = 46 := by omega
        have dj : ((F[0].toNat : Int) != 46) = false := by simp; omega
        have HF' : Hid ((o', W') = fillN f o W 1) := by
          unfold Hid
          rw [fillN, ← HF.out]
          simp only [Ox.numSt]
          rw [if_pos (by rw [← HFA.out 0 fs0]; exact hd)]
          rfl
        clear hd HF
        go_wp2
        go_roundw
        case rel => exact ⟨1, o', W', by omega, rfl, K', hW', hb, hs', HF'⟩
        case measure => simp [intOf]
      · by_cases hd : F[1].toNat ≠ 46
        · have dj : ((F[1].toNat : Int) != 46) = true := by simp; omega
          have HD := Lib.hid hd
          obtain ⟨m1, m2⟩ := nxW_mem hs'
          have HM1 := Lib.hid m1
          have HM2 := Lib.hid m2
          clear hd hs' m1 m2
          go_wp2_with fail
          refine (next_any _ g W' hW').mono ?_
          rintro e w1 ⟨rfl, ⟨p, u, rfl⟩, hW1⟩
          go_wp2_with fail
          refine (number_any _ _ (by have := HM2.out; simp; omega)).mono ?_
          rintro e w2 ⟨rfl, hb2⟩
          rw [Lx.ls_bs]
          have K2 := blk_next (blk_far K' (by show gx ≠ g; omega) u) hb2
          have hW2 := wblk_keep hW1 hb2
          obtain ⟨nn, hnn⟩ : ∃ nn, nn = Ox.number (Ox.nxS W') := ⟨_, rfl⟩
          rw [← hnn]
          obtain ⟨n, okn⟩ := nn
          obtain ⟨X2, hX2⟩ : ∃ X2, X2 = Ox.nxW W' := ⟨_, rfl⟩
          rw [← hX2] at hW2
          obtain ⟨l2, ok2⟩ := X2
          obtain ⟨⟨v0, z0⟩, z1, zf⟩ := wblk_cell hW2
          obtain ⟨cc, ff⟩ := blk_cells K2
          have q1 := cc 2 _ rfl
          have r1 := ff 2
          have hgg : g < w2.heap.size := by obtain ⟨v, Kg, _⟩ := hW2; exact blk_lt Kg
          have hne : gx ≠ g := by omega
          have hb3 : Below g w w2 := (hb.setCell (Nat.le_refl _) _).trans (hb2.mono (by have := blk_lt K'; simp; omega))
          have K3 := heap_set (k := 2) (v := .int .i64 n) K2
          have HNN := Lib.hid hnn
          have HX2 := Lib.hid hX2
          have HF' : Hid ((setP o' 1 n, (l2, ok2 && okn)) = fillN f o W 2) := by
            unfold Hid
            rw [fillN, ← HF.out]
            simp only [Ox.numSt]
            rw [if_neg (by rw [← HFA.out 1 fs1]; exact HD.out), ← HNN.out, ← HX2.out]
          clear cc ff hnn hX2 HF
          cases ok2 with
          | true =>
            go_wp2
            go_roundw
            case rel => exact ⟨2, setP o' 1 n, (l2, okn), by omega, rfl, blk_far K3 (by show gx ≠ g; omega) _, wblk_ok (wblk_far hW2 gx 2 _ hg) okn, (hb3.setCell (by show g ≤ gx; omega) _).setCell (Nat.le_refl _) _, by have h := HM1.out; rw [← HX2.out] at h; exact h, HF'⟩
            case measure => simp [intOf]
          | false =>
            go_wp2
            go_roundw
            case rel => exact ⟨2, setP o' 1 n, (l2, false), by omega, rfl, blk_far K3 (by show gx ≠ g; omega) _, wblk_ok (wblk_far hW2 gx 2 _ hg) false, (hb3.setCell (by show g ≤ gx; omega) _).setCell (Nat.le_refl _) _, by have h := HM1.out; rw [← HX2.out] at h; exact h, HF'⟩
            case measure => simp [intOf]
        have hd : F[1].toNat = 46 := by omega
        have dj : ((F[1].toNat : Int) != 46) = false := by simp; omega
        have HF' : Hid ((o', W') = fillN f o W 2) := by
          unfold Hid
          rw [fillN, ← HF.out]
          simp only [Ox.numSt]
          rw [if_pos (by rw [← HFA.out 1 fs1]; exact hd)]
          rfl
        clear hd HF
        go_wp2
        go_roundw
        case rel => exact ⟨2, o', W', by omega, rfl, K', hW', hb, hs', HF'⟩
        case measure => simp [intOf]
      · by_cases hd : F[2].toNat ≠ 46
        · have dj : ((F[2].toNat : Int) != 46) = true := by simp; omega
          have HD := Lib.hid hd
          obtain ⟨m1, m2⟩ := nxW_mem hs'
          have HM1 := Lib.hid m1
          have HM2 := Lib.hid m2
          clear hd hs' m1 m2
          go_wp2_with fail
          refine (next_any _ g W' hW').mono ?_
          rintro e w1 ⟨rfl, ⟨p, u, rfl⟩, hW1⟩
          go_wp2_with fail
          refine (number_any _ _ (by have := HM2.out; simp; omega)).mono ?_
          rintro e w2 ⟨rfl, hb2⟩
          rw [Lx.ls_bs]
          have K2 := blk_next (blk_far K' (by show gx ≠ g; omega) u) hb2
          have hW2 := wblk_keep hW1 hb2
          obtain ⟨nn, hnn⟩ : ∃ nn, nn = Ox.number (Ox.nxS W') := ⟨_, rfl⟩
          rw [← hnn]
          obtain ⟨n, okn⟩ := nn
          obtain ⟨X2, hX2⟩ : ∃ X2, X2 = Ox.nxW W' := ⟨_, rfl⟩
          rw [← hX2] at hW2
          obtain ⟨l2, ok2⟩ := X2
          obtain ⟨⟨v0, z0⟩, z1, zf⟩ := wblk_cell hW2
          obtain ⟨cc, ff⟩ := blk_cells K2
          have q1 := cc 3 _ rfl
          have r1 := ff 3
          have hgg : g < w2.heap.size := by obtain ⟨v, Kg, _⟩ := hW2; exact blk_lt Kg
          have hne : gx ≠ g := by omega
          have hb3 : Below g w w2 := (hb.setCell (Nat.le_refl _) _).trans (hb2.mono (by have := blk_lt K'; simp; omega))
          have K3 := heap_set (k := 3) (v := .int .i64 n) K2
          have HNN := Lib.hid hnn
          have HX2 := Lib.hid hX2
          have HF' : Hid ((setP o' 2 n, (l2, ok2 && okn)) = fillN f o W 3) := by
            unfold Hid
            rw [fillN, ← HF.out]
            simp only [Ox.numSt]
            rw [if_neg (by rw [← HFA.out 2 fs2]; exact HD.out), ← HNN.out, ← HX2.out]
          clear cc ff hnn hX2 HF
          cases ok2 with
          | true =>
            go_wp2
            go_roundw
            case rel => exact ⟨3, setP o' 2 n, (l2, okn), by omega, rfl, blk_far K3 (by show gx ≠ g; omega) _, wblk_ok (wblk_far hW2 gx 3 _ hg) okn, (hb3.setCell (by show g ≤ gx; omega) _).setCell (Nat.le_refl _) _, by have h := HM1.out; rw [← HX2.out] at h; exact h, HF'⟩
            case measure => simp [intOf]
          | false =>
            go_wp2
            go_roundw
            case rel => exact ⟨3, setP o' 2 n, (l2, false), by omega, rfl, blk_far K3 (by show gx ≠ g; omega) _, wblk_ok (wblk_far hW2 gx 3 _ hg) false, (hb3.setCell (by show g ≤ gx; omega) _).setCell (Nat.le_refl _) _, by have h := HM1.out; rw [← HX2.out] at h; exact h, HF'⟩
            case measure => simp [intOf]
        have hd : F[2].toNat = 46 := by omega
        have dj : ((F[2].toNat : Int) != 46) = false := by simp; omega
        have HF' : Hid ((o', W') = fillN f o W 3) := by
          unfold Hid
          rw [fillN, ← HF.out]
          simp only [Ox.numSt]
          rw [if_pos (by rw [← HFA.out 2 fs2]; exact hd)]
          rfl
        clear hd HF
        go_wp2
        go_roundw
        case rel => exact ⟨3, o', W', by omega, rfl, K', hW', hb, hs', HF'⟩
        case measure => simp [intOf]
    · obtain rfl : j = 3 := by omega
      go_wp2
      refine wp_loop_rounds 1 ?_
      rw [rounds_succ]
      go_wp2
      refine bodyPost_end (results_none Tryd.results34 _ _ _) rfl ?_
      rw [← HF.out]
      refine ⟨rfl, ⟨_, _, _, K', .inl ⟨?_, _, _, rfl⟩⟩, hW', hb⟩
      have h := congrArg (fun r => r.1.keys) HF.out
      have h2 : ∀ j, (fillN f o W j).1.keys = [] := by
        intro j
        induction j with
        | zero => exact HK0.out
        | succ j ih =>
          rw [fillN]
          unfold setP
          split <;> exact ih
      exact h.trans (h2 3)
end Go.Proofs.YtoekddkkjbcicaaDoor
