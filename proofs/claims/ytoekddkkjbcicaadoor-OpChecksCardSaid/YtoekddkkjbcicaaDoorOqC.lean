import Derived.Test.YtoekddkkjbcicaaDoorOpS
import Derived.Test.YtoekddkkjbcicaaDoorOxC
set_option linter.unusedVariables false
set_option linter.unusedSimpArgs false
namespace Go.Proofs.YtoekddkkjbcicaaDoor
open Go.RowKit
attribute [local simp] Lx.bs_size
def mx (a b : Int) : Int := if a < b then b else a
/-- The most registers behind j of the three numbers. -/
def regP (f : Ox.S) (o : Ox.Op) (N : Int) : Nat → Int
  | 0 => N
  | j + 1 => if (Ox.at_ f j).toNat = 114 then mx (regP f o N j) (pN o j + 1) else regP f o N j
def regN (N : Int) (o : Ox.Op) : Int := (Ox.several o).1.foldl (fun m r => mx m (r + (Ox.several o).2)) (regP (Ox.form o.code) o N 3)
def regs (l : List Ox.Op) : Int := if Ox.check l = 0 then l.foldl regN 0 else 0
theorem regP_pos {o : Ox.Op} {many : Int} (hf : Ox.formed o many = true) : ∀ j, j < 3 → (Ox.at_ (Ox.form o.code) j).toNat = 114 → 0 ≤ pN o j ∧ pN o j < 1024 := by
  unfold Ox.formed at hf
  simp only [Bool.and_eq_true] at hf
  obtain ⟨⟨⟨⟨⟨f1, f2⟩, f3⟩, f4⟩, f5⟩, f6⟩ := hf
  intro j hj h
  rcases (show j = 0 ∨ j = 1 ∨ j = 2 by omega) with rfl | rfl | rfl
  · unfold Ox.within at f1
    rw [if_pos h] at f1
    simpa [pN] using f1
  · unfold Ox.within at f2
    rw [if_pos h] at f2
    simpa [pN] using f2
  · unfold Ox.within at f3
    rw [if_pos h] at f3
    simpa [pN] using f3
set_option maxRecDepth 100000 in
set_option maxHeartbeats 4000000 in
theorem opRegs_any (v : Value) (L : List OV) (w : World) (hl : Laid w) (hat : OpsAt w v L) (hfit : Fits L) (hn : L.length ≤ 1000000) :
    Calls Tryd.prog 16 #[v] w fun e w' => e = .returned (.int .i64 (regs (L.map (·.1)))) ∧ Below w.heap.size w w' := by
  obtain ⟨R, hR⟩ : ∃ R, R = regs (L.map (·.1)) := ⟨_, rfl⟩
  rw [← hR]
  obtain ⟨ck, hck⟩ : ∃ ck, ck = Ox.check (L.map (·.1)) := ⟨_, rfl⟩
  obtain ⟨n, hnn⟩ : ∃ n, n = L.length := ⟨_, rfl⟩
  have HN := Lib.hid hnn
  have HAT := Lib.hid hat
  have HL := Lib.hid hl
  by_cases h0 : ck = 0
  · have hall : ∀ p ∈ L, Ox.right p.1 (L.length : Int) = true := by
      rw [h0] at hck
      have h := (Ox.check_all hck.symm).2
      intro p hp
      have := h p.1 (List.mem_map_of_mem hp)
      simpa using this
    have hRf : (L.map (·.1)).foldl regN 0 = R := by rw [hR, regs, if_pos (by rw [← hck]; exact h0)]
    have HALL := Lib.hid hall
    have HR := Lib.hid hRf
    have HCK := Lib.hid hck
    have HFIT := Lib.hid hfit
    have dck : (ck != 0) = false := by rw [h0]; rfl
    clear hall hRf hR
    obtain ⟨hk, hrow⟩ := hat
    rcases hrow with ⟨hL0, a, c, rfl⟩ | ⟨b, off, c, rfl, hb, hc, hm, hx⟩
    · subst hL0
      have hR0 : R = 0 := by rw [← HR.out]; rfl
      subst hR0
      clear hk hck hnn hl hfit h0
      go_enter Tryd.func16, Tryd.ntmps16
      go_wp2_with fail
      refine (opCheck_any _ [] _ HL.out HAT.out HFIT.out (by simp)).mono ?_
      rintro e w1 ⟨rfl, hb1⟩
      rw [← HCK.out]
      go_wp2
      refine wp_loop_rounds 1 ?_
      rw [rounds_succ]
      go_wp2
      go_ret
      exact ⟨rfl, hb1⟩
    · have HX := Lib.hid hx
      rw [← hnn] at hc hn
      rw [← hnn] at HAT
      rw [← hnn]
      clear hk hck hl hfit h0 hx hnn
      go_enter Tryd.func16, Tryd.ntmps16
      go_wp2_with fail
      refine (opCheck_any _ L _ HL.out HAT.out HFIT.out (by rw [← HN.out]; exact hn)).mono ?_
      rintro e w1 ⟨rfl, hb1⟩
      rw [← HCK.out]
      go_wp2
      go_loopw [3, 5, 6, 7, 8, 9, 10, 12, 18] (fun N _ _ _ _ _ _ _ i wr => ∃ (k : Nat) (M : Int), k ≤ n ∧ i = .int .i64 k ∧ N = .int .i64 M ∧ 0 ≤ M ∧ M ≤ 1024 ∧ Below w.heap.size w wr ∧ Hid (((L.map (·.1)).drop k).foldl regN M = R)) (fun _ _ _ _ _ _ _ _ i _ => n - (intOf i).toNat)
      case atStart => exact ⟨0, 0, by omega, rfl, rfl, by omega, by omega, hb1, HR⟩
      case round =>
        obtain ⟨k, N, hk, rfl, rfl, hN0, hN1, hbw, HK⟩ := hrel
        by_cases hlt : k < n
        · obtain ⟨t, ht⟩ : ∃ t, L[k]? = some t := ⟨_, List.getElem?_eq_getElem (by rw [← HN.out]; exact hlt)⟩
          have hcell : ∀ j u, j < 9 → (ocells t)[j]? = some u → wr.cell? ⟨b, off + (k * 9 + j), none⟩ = some u := fun j u hj hu => (hbw.cell (p := ⟨b, off + (k * 9 + j), none⟩) hb).trans (HX.out _ _ ((oflat_at ht hj).trans hu))
          have hkat := HAT.out.1 t (List.mem_of_getElem? ht)
          have hrt := HALL.out t (List.mem_of_getElem? ht)
          have hdrop : (L.map (·.1)).drop k = t.1 :: (L.map (·.1)).drop (k + 1) := by
            obtain ⟨h1, h2⟩ := List.getElem?_eq_some_iff.1 ht
            rw [List.drop_eq_getElem_cons (by simpa using h1)]
            simp [h2]
          have HK2 : Hid (((L.map (·.1)).drop (k + 1)).foldl regN (regN N t.1) = R) := Lib.hid (by have h := HK.out; rw [hdrop] at h; exact h)
          obtain ⟨o, kv⟩ := t
          simp only at hrt hkat HK2
          obtain ⟨ka, kn, kc, rfl⟩ := kat_form hkat
          obtain ⟨hco, hfo⟩ := Ox.right_parts hrt
          have hpb := regP_pos hfo
          have hsb := sev_bounds o _ hco hfo
          have hsr : ∀ r ∈ (Ox.several o).1, r + (Ox.several o).2 ≤ 1024 := by
            unfold Ox.right at hrt
            simp only [Bool.and_eq_true, List.all_eq_true, decide_eq_true_eq] at hrt
            exact hrt.2
          unfold Ox.coded at hco
          simp only [Bool.and_eq_true, decide_eq_true_eq] at hco
          obtain ⟨cd, hcd⟩ : ∃ cd : Nat, o.code = (cd : Int) := ⟨o.code.toNat, by omega⟩
          obtain ⟨f, hf, hf6, hfe⟩ := form_at (c := cd) (by omega)
          rw [← hcd] at hfe
          rw [hfe] at hpb
          obtain ⟨F, hF⟩ : ∃ F, F = Lx.bs f := ⟨_, rfl⟩
          have hF6 : 6 ≤ F.size := by rw [hF, Lx.bs_size]; omega
          have fs0 : 0 < F.size := by omega
          have fs1 : 1 < F.size := by omega
          have fs2 : 2 < F.size := by omega
          have hFa : ∀ i (h : i < F.size), F[i] = Ox.at_ f i := by subst hF; intro i h; exact at_bs f i h
          have HFA := Lib.hid hFa
          have HPB := Lib.hid hpb
          have hlw := laid_keep HL.out hbw
          have g1 : wr.cell? ⟨1, cd, none⟩ = some (.string F) := by rw [hF]; exact hlw.2.2 cd f hf
          have hh1 : 1 < wr.heap.size := by have := hlw.1; omega
          have hcd34 : cd < 34 := by omega
          have hci : (cd : Int) < 34 := by omega
          have a0 : wr.cell? ⟨b, off + k * 9, none⟩ = some (.int .i64 o.code) := hcell 0 _ (by omega) rfl
          have a1 : wr.cell? ⟨b, off + k * 9 + 1, none⟩ = some (.int .i64 o.p1) := hcell 1 _ (by omega) rfl
          have a2 : wr.cell? ⟨b, off + k * 9 + 2, none⟩ = some (.int .i64 o.p2) := hcell 2 _ (by omega) rfl
          have a3 : wr.cell? ⟨b, off + k * 9 + 3, none⟩ = some (.int .i64 o.p3) := hcell 3 _ (by omega) rfl
          have a4 : wr.cell? ⟨b, off + k * 9 + 4, none⟩ = some (.int .i64 o.vk) := hcell 4 _ (by omega) rfl
          have a5 : wr.cell? ⟨b, off + k * 9 + 5, none⟩ = some (.int .i64 o.vn) := hcell 5 _ (by omega) rfl
          have a6 : wr.cell? ⟨b, off + k * 9 + 6, none⟩ = some (.string (Lx.bs o.vs)) := hcell 6 _ (by omega) rfl
          have a7 : wr.cell? ⟨b, off + k * 9 + 7, none⟩ = some (.slice ka kn kc) := hcell 7 _ (by omega) rfl
          have a8 : wr.cell? ⟨b, off + k * 9 + 8, none⟩ = some (.string (Lx.bs o.name)) := hcell 8 _ (by omega) rfl
          rw [hcd] at a0
          have hbwr : b < wr.heap.size := Nat.lt_of_lt_of_le hb hbw.size
          have ix0 : ∀ wr : World, (Instr.index 58 (.agg #[.int .i64 o.p1, .int .i64 o.p2, .int .i64 o.p3]) (.int .i64 0)).run Tryd.prog wr = .ok (.int .i64 o.p1) wr := fun wr => by kernel_rfl
          have ix1 : ∀ wr : World, (Instr.index 58 (.agg #[.int .i64 o.p1, .int .i64 o.p2, .int .i64 o.p3]) (.int .i64 1)).run Tryd.prog wr = .ok (.int .i64 o.p2) wr := fun wr => by kernel_rfl
          have ix2 : ∀ wr : World, (Instr.index 58 (.agg #[.int .i64 o.p1, .int .i64 o.p2, .int .i64 o.p3]) (.int .i64 2)).run Tryd.prog wr = .ok (.int .i64 o.p3) wr := fun wr => by kernel_rfl
          obtain ⟨rows, hrows⟩ : ∃ rows, rows = (Ox.several o).1 := ⟨_, rfl⟩
          obtain ⟨nn, hnn2⟩ : ∃ nn, nn = (Ox.several o).2 := ⟨_, rfl⟩
          have HRN : Hid (regN N o = rows.foldl (fun m r => mx m (r + nn)) (regP f o N 3)) := Lib.hid (by rw [regN, ← hrows, ← hnn2, hfe])
          rw [← hrows, ← hnn2] at hsb
          rw [← hrows, ← hnn2] at hsr
          obtain ⟨s1, s2, s3, s4⟩ := hsb
          have HROWS := Lib.hid hrows
          have HNN := Lib.hid hnn2
          have HS4 := Lib.hid s4
          have HSR := Lib.hid hsr
          have HLW := Lib.hid hlw
          have HCD := Lib.hid hcd
          have hBa : Below w.heap.size w (wr.alloc (.cells #[.int .i64 (cd : Int), .int .i64 o.p1, .int .i64 o.p2, .int .i64 o.p3, .int .i64 o.vk, .int .i64 o.vn, .string (Lx.bs o.vs), .slice ka kn kc, .string (Lx.bs o.name)] 39)) := hbw.alloc hbw.size _
          have HBA := Lib.hid hBa
          have K0 := heap_alloc_new wr (.cells #[.int .i64 (cd : Int), .int .i64 o.p1, .int .i64 o.p2, .int .i64 o.p3, .int .i64 o.vk, .int .i64 o.vn, .string (Lx.bs o.vs), .slice ka kn kc, .string (Lx.bs o.name)] 39)
          have HK0 := Lib.hid K0
          clear ht hcell hkat hrt hdrop hfo hpb hco hf hf6 hfe hF hFa hrows hnn2 s4 hsr hlw hcd hBa K0 HK
          go_wp2
          generalize hW1 : wr.alloc (.cells #[.int .i64 (cd : Int), .int .i64 o.p1, .int .i64 o.p2, .int .i64 o.p3, .int .i64 o.vk, .int .i64 o.vn, .string (Lx.bs o.vs), .slice ka kn kc, .string (Lx.bs o.name)] 39) = W1
          rw [hW1] at HBA HK0
          clear hW1
          generalize wr.heap.size = XB at HK0 ⊢
          go_loopw [3, 7, 8, 33] (fun mv _ _ i wq => ∃ (j : Nat) (M : Int), j ≤ 3 ∧ i = .int .i64 j ∧ mv = .int .i64 M ∧ 0 ≤ M ∧ M ≤ 1024 ∧ wq = W1 ∧ Hid (M = regP f o N j)) (fun _ _ _ i _ => 3 - (intOf i).toNat)
          case atStart => exact ⟨0, N, by omega, rfl, rfl, hN0, hN1, rfl, Lib.hid rfl⟩
          case round =>
          obtain ⟨j, M, hj, rfl, rfl, hM0, hM1, rfl, HM⟩ := hrel
          rcases (show j = 0 ∨ j = 1 ∨ j = 2 ∨ j = 3 by omega) with rfl | rfl | rfl | hj3
          · by_cases hd : F[0].toNat = 114
            · have dj : ((F[0].toNat : Int) == 114) = true := by simp; omega
              obtain ⟨hp0, hp1⟩ := HPB.out 0 (by omega) (by rw [← HFA.out 0 fs0]; exact hd)
              have hp0' : 0 ≤ o.p1 := hp0
              have hp1' : o.p1 < 1024 := hp1
              have HM' : Hid (mx M (o.p1 + 1) = regP f o N 1) := Lib.hid (by rw [regP, ← HFA.out 0 fs0, if_pos hd, ← HM.out]; rfl)
              clear hd hp0 hp1
              go_wp2
              go_roundw
              case rel => exact ⟨1, mx M (o.p1 + 1), by omega, rfl, rfl, by unfold mx; split <;> omega, by unfold mx; split <;> omega, trivial, HM'⟩
              case measure => simp [intOf]
            · have dj : ((F[0].toNat : Int) == 114) = false := by simp; omega
              have HM' : Hid (M = regP f o N 1) := Lib.hid (by rw [regP, ← HFA.out 0 fs0, if_neg hd, ← HM.out])
              clear hd
              go_wp2
              go_roundw
              case rel => exact ⟨1, M, by omega, rfl, rfl, hM0, hM1, trivial, HM'⟩
              case measure => simp [intOf]
          · by_cases hd : F[1].toNat = 114
            · have dj : ((F[1].toNat : Int) == 114) = true := by simp; omega
              obtain ⟨hp0, hp1⟩ := HPB.out 1 (by omega) (by rw [← HFA.out 1 fs1]; exact hd)
              have hp0' : 0 ≤ o.p2 := hp0
              have hp1' : o.p2 < 1024 := hp1
              have HM' : Hid (mx M (o.p2 + 1) = regP f o N 2) := Lib.hid (by rw [regP, ← HFA.out 1 fs1, if_pos hd, ← HM.out]; rfl)
              clear hd hp0 hp1
              go_wp2
              go_roundw
              case rel => exact ⟨2, mx M (o.p2 + 1), by omega, rfl, rfl, by unfold mx; split <;> omega, by unfold mx; split <;> omega, trivial, HM'⟩
              case measure => simp [intOf]
            · have dj : ((F[1].toNat : Int) == 114) = false := by simp; omega
              have HM' : Hid (M = regP f o N 2) := Lib.hid (by rw [regP, ← HFA.out 1 fs1, if_neg hd, ← HM.out])
              clear hd
              go_wp2
              go_roundw
              case rel => exact ⟨2, M, by omega, rfl, rfl, hM0, hM1, trivial, HM'⟩
              case measure => simp [intOf]
          · by_cases hd : F[2].toNat = 114
            · have dj : ((F[2].toNat : Int) == 114) = true := by simp; omega
              obtain ⟨hp0, hp1⟩ := HPB.out 2 (by omega) (by rw [← HFA.out 2 fs2]; exact hd)
              have hp0' : 0 ≤ o.p3 := hp0
              have hp1' : o.p3 < 1024 := hp1
              have HM' : Hid (mx M (o.p3 + 1) = regP f o N 3) := Lib.hid (by rw [regP, ← HFA.out 2 fs2, if_pos hd, ← HM.out]; rfl)
              clear hd hp0 hp1
              go_wp2
              go_roundw
              case rel => exact ⟨3, mx M (o.p3 + 1), by omega, rfl, rfl, by unfold mx; split <;> omega, by unfold mx; split <;> omega, trivial, HM'⟩
              case measure => simp [intOf]
            · have dj : ((F[2].toNat : Int) == 114) = false := by simp; omega
              have HM' : Hid (M = regP f o N 3) := Lib.hid (by rw [regP, ← HFA.out 2 fs2, if_neg hd, ← HM.out])
              clear hd
              go_wp2
              go_roundw
              case rel => exact ⟨3, M, by omega, rfl, rfl, hM0, hM1, trivial, HM'⟩
              case measure => simp [intOf]
          · have HJ3 := Lib.hid hj3
            have dj3 : (3 : Int) ≤ (j : Int) := by omega
            clear hj3
            have k0 : wr.cell? ⟨XB, 0, none⟩ = some (.int .i64 (cd : Int)) := (blk_cells HK0.out).1 0 _ rfl
            have k1 : wr.cell? ⟨XB, 1, none⟩ = some (.int .i64 o.p1) := (blk_cells HK0.out).1 1 _ rfl
            have k2 : wr.cell? ⟨XB, 2, none⟩ = some (.int .i64 o.p2) := (blk_cells HK0.out).1 2 _ rfl
            have k3 : wr.cell? ⟨XB, 3, none⟩ = some (.int .i64 o.p3) := (blk_cells HK0.out).1 3 _ rfl
            have k4 : wr.cell? ⟨XB, 4, none⟩ = some (.int .i64 o.vk) := (blk_cells HK0.out).1 4 _ rfl
            have k5 : wr.cell? ⟨XB, 5, none⟩ = some (.int .i64 o.vn) := (blk_cells HK0.out).1 5 _ rfl
            have k6 : wr.cell? ⟨XB, 6, none⟩ = some (.string (Lx.bs o.vs)) := (blk_cells HK0.out).1 6 _ rfl
            have k7 : wr.cell? ⟨XB, 7, none⟩ = some (.slice ka kn kc) := (blk_cells HK0.out).1 7 _ rfl
            have k8 : wr.cell? ⟨XB, 8, none⟩ = some (.string (Lx.bs o.name)) := (blk_cells HK0.out).1 8 _ rfl
            go_wp2_with fail
            refine (several_at o (.slice ka kn kc) (cd : Int) HCD.out _).mono ?_
            rintro e w2 ⟨v9, rfl, hrow, hb2⟩
            rw [← HROWS.out] at hrow
            rw [← HNN.out]
            have hB2 := below_next HBA.out hb2
            have HB2 := Lib.hid hB2
            clear hB2 hb2
            rcases hrow with ⟨hr0, rfl⟩ | ⟨rg, rc, rfl, hrg, hrc, hrm, hrx⟩
            · have hr00 : rows = [] := List.eq_nil_of_length_eq_zero hr0
              have HRN2 : Hid (regN N o = M) := Lib.hid (by rw [HRN.out, hr00, HM.out, HJ3.out]; rfl)
              have HK3 : Hid (((L.map (·.1)).drop (k + 1)).foldl regN M = R) := Lib.hid (by rw [← HRN2.out]; exact HK2.out)
              clear hr0 hr00
              go_wp2
              refine wp_loop_rounds 1 ?_
              rw [rounds_succ]
              go_wp2
              go_roundw
              case rel => exact ⟨k + 1, M, by omega, by go_num, rfl, hM0, hM1, HB2.out, HK3⟩
              case measure => simp [intOf]; omega
            · obtain ⟨ml, hml⟩ : ∃ ml, ml = rows.length := ⟨_, rfl⟩
              rw [← hml] at hrc ⊢
              have HML := Lib.hid hml
              have HRX := Lib.hid hrx
              have HRN2 : Hid ((rows.drop 0).foldl (fun m r => mx m (r + nn)) M = regN N o) := Lib.hid (by rw [HRN.out, HM.out, HJ3.out]; rfl)
              have hml2 : ml ≤ 2 := by omega
              clear hml hrx
              go_wp2
              go_loopw [3, 12, 53] (fun mv _ i wq => ∃ (q : Nat) (M9 : Int), q ≤ ml ∧ i = .int .i64 q ∧ mv = .int .i64 M9 ∧ 0 ≤ M9 ∧ M9 ≤ 1024 ∧ wq = w2 ∧ Hid ((rows.drop q).foldl (fun m r => mx m (r + nn)) M9 = regN N o)) (fun _ _ i _ => ml - (intOf i).toNat)
              case atStart => exact ⟨0, M, by omega, rfl, rfl, hM0, hM1, rfl, HRN2⟩
              case round =>
              obtain ⟨q, M9, hq, rfl, rfl, hM90, hM91, rfl, HM9⟩ := hrel
              by_cases hql : q < ml
              · obtain ⟨r9, hr9⟩ : ∃ r9, rows[q]? = some r9 := ⟨_, List.getElem?_eq_getElem (by rw [← HML.out]; exact hql)⟩
                have z0 : wr.cell? ⟨rg, q, none⟩ = some (.int .i64 r9) := HRX.out q _ (by rw [ints, List.getElem?_map, hr9]; rfl)
                have hd9 : rows.drop q = r9 :: rows.drop (q + 1) := by
                  obtain ⟨h1, h2⟩ := List.getElem?_eq_some_iff.1 hr9
                  rw [List.drop_eq_getElem_cons h1, h2]
                obtain ⟨y1, y2⟩ := HS4.out r9 (List.mem_of_getElem? hr9)
                have y3 := HSR.out r9 (List.mem_of_getElem? hr9)
                have HM10 : Hid ((rows.drop (q + 1)).foldl (fun m r => mx m (r + nn)) (mx M9 (r9 + nn)) = regN N o) := Lib.hid (by have h := HM9.out; rw [hd9] at h; exact h)
                clear hr9 hd9
                go_wp2
                go_roundw
                case rel => exact ⟨q + 1, mx M9 (r9 + nn), by omega, by go_num, rfl, by unfold mx; split <;> omega, by unfold mx; split <;> omega, trivial, HM10⟩
                case measure => simp [intOf]; omega
              · obtain rfl : q = ml := by omega
                have HK3 : Hid (((L.map (·.1)).drop (k + 1)).foldl regN M9 = R) := Lib.hid (by
                  have h := HM9.out
                  rw [List.drop_eq_nil_of_le (by rw [← HML.out]; omega)] at h
                  have h2 : M9 = regN N o := h
                  rw [h2]; exact HK2.out)
                go_wp2
                go_roundw
                case rel => exact ⟨k + 1, M9, by omega, by go_num, rfl, hM90, hM91, HB2.out, HK3⟩
                case measure => simp [intOf]; omega
        · obtain rfl : k = n := by omega
          have hRf : N = R := by rw [← HK.out, List.drop_eq_nil_of_le (by rw [List.length_map, ← HN.out]; omega)]; rfl
          subst hRf
          go_wp2
          go_ret
          exact ⟨rfl, hbw⟩
  · have dck : (ck != 0) = true := by simpa using h0
    have hR0 : R = 0 := by rw [hR, regs, if_neg (by rw [← hck]; exact h0)]
    subst hR0
    have HCK := Lib.hid hck
    obtain ⟨va, vn, vc, rfl⟩ : ∃ a n c, v = .slice a n c := by
      rcases hat.2 with ⟨_, a, c, h⟩ | ⟨b, off, c, h, _⟩
      · exact ⟨_, _, _, h⟩
      · exact ⟨_, _, _, h⟩
    have HFIT := Lib.hid hfit
    clear hck h0 hat hl hR hfit hnn
    go_enter Tryd.func16, Tryd.ntmps16
    go_wp2_with fail
    refine (opCheck_any _ L _ HL.out HAT.out HFIT.out hn).mono ?_
    rintro e w1 ⟨rfl, hb1⟩
    rw [← HCK.out]
    go_wp2
    go_ret
    exact ⟨rfl, hb1⟩
end Go.Proofs.YtoekddkkjbcicaaDoor
