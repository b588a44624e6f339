import Derived.Test.YtoekddkkjbcicaaDoorOpY
set_option linter.unusedVariables false
set_option linter.unusedSimpArgs false
namespace Go.Proofs.YtoekddkkjbcicaaDoor
open Go.RowKit
attribute [local simp] Lx.bs_size
/-- 'out = append(out, x)': as wpList_app1, and all blocks but the row's own are as before. -/
theorem wpList_app1g {P : Program} {ops : Array Oper} {rest : List Oper} {o : Oper} {a : Act} {Q : Exit → Act → World → Prop} (hgd : o.guard = none) (s x : Operand) (t e : TypeId)
    (ho : o.op = .call { callee := .builtin .append, args := #[s, x], argTypes := #[t, t] })
    (ht : P.underlying t = some (.slice e)) {z : Value} {size bytes : Nat} (hinfo : (P.info? e).map (fun i => (i.zero, i.size, i.bytes)) = some (some z, size, bytes))
    (hzs : z.cells.size = size) (hsz : 0 < size) (W : World) (C : Array Value) (hC : C.size = size) (h1 : ∀ u ∈ C.toList, u.oneCell' = true)
    (base : Nat) (v : Value) (n : Nat) (xs : List Value) (hs : a.eval s = v) (hown : W.ownsRow base e size v n xs) (g : Nat) (hg0 : g = W.heap.size) (hx : a.eval x = .slice (some ⟨g, 0, none⟩) 1 1)
    (hn : n + 1 ≤ maxLen) (hbytes : (n + 1) * bytes ≤ 140737488355328) (hbase : base ≤ W.heap.size) (B : Nat) (hB : B ≤ base)
    (h : ∀ v' w', w'.ownsRow base e size v' (n + 1) (xs ++ C.toList) → Below B W w' → (∀ b, b < W.heap.size → v.ownBlock ≠ some b → w'.heap[b]? = W.heap[b]?) → wpList P ops Q rest (a.put o.dst v') w') :
    wpList P ops Q (o :: rest) a (W.alloc (.cells C e)) := by
  subst hg0
  obtain ⟨i, hi, hz, h2, h3⟩ := info_of hinfo
  refine wpList_append_own _ hgd s x t ho base e i z size bytes ht hi hz h2 h3 hzs hsz v n xs hs (hown.alloc _) ⟨W.heap.size, 0, none⟩ 1 1 C.toList hx (by simp [hC]) ?_ h1 hn hbytes (by simp; omega) ?_
  · intro j u hu
    rw [add_zero_addr, cell_new]
    simpa using hu
  · intro v' w' hown' hg _
    have hgb := own_below (hown.alloc _) hg hB (by simp; omega)
    obtain ⟨_, _, _, _, h5⟩ := hg
    exact h v' w' hown' (((Below.refl B W).alloc (by omega) _).trans hgb) fun b hb hne => ((h5 b (by simp; omega) hne.symm).trans (Below.heap_alloc W _ b hb))
theorem op_info : (Tryd.prog.info? 39).map (fun i => (i.zero, i.size, i.bytes)) = some (some (.agg (xcells (Ox.op0 0) (.slice none 0 0))), 9, 104) := by kernel_rfl
/-- The row of instructions that Parse makes is not the block of some keys. -/
theorem own_ne {W : World} {base T : Nat} {v kv : Value} {t : OV} {acc : List OV} {l : List Ox.Key} {g : Nat} (hown : W.ownsRow base T 9 v (t :: acc).length ((t :: acc).flatMap ocells)) (hk : KAt W kv l) (hf : KFresh g kv l) :
    l = [] ∨ ∃ b n c, kv = .slice (some ⟨b, 0, none⟩) n c ∧ v.ownBlock ≠ some b := by
  rcases hf with h | ⟨b, n, c, rfl, _⟩
  · exact .inl h
  · cases l with
    | nil => exact .inl rfl
    | cons k r =>
      refine .inr ⟨b, n, c, rfl, fun hb => ?_⟩
      rcases hk with ⟨h, _⟩ | ⟨b', off, c', hv, _, _, _, hc⟩
      · cases h
      · simp only [Value.slice.injEq, Option.some.injEq, Addr.mk.injEq] at hv
        obtain ⟨⟨rfl, rfl, _⟩, _, _⟩ := hv
        have h2 := hc 2 _ (show ((k :: r).flatMap kcells)[2]? = some (.bool k.desc) from rfl)
        rcases hown.2 with ⟨_, h0⟩ | ⟨g', cap, cur, rfl, _, hh, _, _, _, ht⟩
        · simp at h0
        · simp only [Value.ownBlock, Option.some.injEq] at hb
          subst hb
          have h3 : (cur.toList.take ((t :: acc).length * 9))[2]? = some (.int .i64 t.1.p2) := by rw [ht]; rfl
          rw [List.getElem?_take_of_lt (by simp; omega)] at h3
          have h4 := (blk_cells hh).1 2 _ (by simpa using h3)
          rw [Nat.zero_add, h4] at h2
          cases h2
theorem kat_far {W w1 : World} {v kv : Value} {l : List Ox.Key} (hk : KAt W kv l) (hne : l = [] ∨ ∃ b n c, kv = .slice (some ⟨b, 0, none⟩) n c ∧ v.ownBlock ≠ some b) (hsz : W.heap.size ≤ w1.heap.size)
    (hh : ∀ b, b < W.heap.size → v.ownBlock ≠ some b → w1.heap[b]? = W.heap[b]?) : KAt w1 kv l := by
  rcases hk with h | ⟨b, off, c, h1, h2, h3, h4, h5⟩
  · exact .inl h
  · rcases hne with rfl | ⟨b', n, c', hv, hb⟩
    · exact .inl ⟨rfl, _, _, h1⟩
    · rw [h1] at hv
      simp only [Value.slice.injEq, Option.some.injEq, Addr.mk.injEq] at hv
      obtain ⟨⟨rfl, rfl, _⟩, _, _⟩ := hv
      refine .inr ⟨b, 0, c, h1, by omega, h3, h4, fun j u hu => ?_⟩
      have := hh b h2 hb
      have hc := h5 j u hu
      simp only [World.cell?, this] at hc ⊢
      exact hc
/-- What has been parsed so far: a row of the call's own. -/
def PAcc (wr : World) (base : Nat) (v : Value) (acc : List OV) : Prop :=
  wr.ownsRow base 39 9 v acc.length (acc.flatMap ocells) ∧ (∀ p ∈ acc, KAt wr p.2 p.1.keys ∧ KFresh 0 p.2 p.1.keys ∧ OFit p.1) ∧ (acc = [] → v = .slice none 0 0)
theorem pacc_nil (wr : World) (base : Nat) : PAcc wr base (.slice none 0 0) [] := ⟨⟨rfl, .inl ⟨rfl, rfl⟩⟩, by simp, fun _ => rfl⟩
theorem pacc_next {W w1 : World} {base : Nat} {v : Value} {acc : List OV} (h : PAcc W base v acc) (hb : Below W.heap.size W w1) : PAcc w1 base v acc :=
  ⟨own_next h.1 hb, fun p hp => ⟨kat_keep (h.2.1 p hp).1 hb, (h.2.1 p hp).2⟩, h.2.2⟩
theorem pacc_snoc {W w1 : World} {base : Nat} {v v1 : Value} {acc : List OV} {t : OV} {g : Nat} (h : PAcc W base v acc) (hk : KAt W t.2 t.1.keys) (hf : KFresh g t.2 t.1.keys) (hfit : OFit t.1) (hg : ∀ b, v.ownBlock = some b → b < g)
    (hsz : W.heap.size ≤ w1.heap.size) (hh : ∀ b, b < W.heap.size → v.ownBlock ≠ some b → w1.heap[b]? = W.heap[b]?)
    (hown : w1.ownsRow base 39 9 v1 (acc.length + 1) (acc.flatMap ocells ++ ocells t)) : PAcc w1 base v1 (acc ++ [t]) := by
  obtain ⟨h1, h2, h3⟩ := h
  refine ⟨by simpa using hown, fun p hp => ?_, by simp⟩
  rcases List.mem_append.1 hp with hp | hp
  · obtain ⟨k1, k2, k3⟩ := h2 p hp
    refine ⟨?_, k2, k3⟩
    cases acc with
    | nil => cases hp
    | cons a r => exact kat_far k1 (own_ne h1 k1 k2) hsz hh
  · rw [List.mem_singleton] at hp
    subst hp
    have hf0 : KFresh 0 p.2 p.1.keys := hf.imp id fun ⟨b, n, c, q1, q2⟩ => ⟨b, n, c, q1, Nat.zero_le _⟩
    refine ⟨kat_far hk (hf.imp id fun ⟨b, n, c, q1, q2⟩ => ⟨b, n, c, q1, fun hq => ?_⟩) hsz hh, hf0, hfit⟩
    have := hg b hq
    omega
theorem ops_of_pacc {wr : World} {base : Nat} {v : Value} {acc : List OV} (h : PAcc wr base v acc) : OpsAt wr v acc := by
  obtain ⟨h1, h2, h3⟩ := h
  refine ⟨fun p hp => (h2 p hp).1, ?_⟩
  rcases h1.2 with ⟨rfl, hn⟩ | ⟨g, cap, cur, rfl, hb, hh, hc, hm, hs, ht⟩
  · exact .inl ⟨List.eq_nil_of_length_eq_zero hn, _, _, rfl⟩
  · refine .inr ⟨g, 0, cap, rfl, blk_lt hh, hc, hm, fun j u hu => ?_⟩
    rw [← ht, List.getElem?_take] at hu
    split at hu
    · rw [Nat.zero_add]
      exact (blk_cells hh).1 j u (by simpa using hu)
    · cases hu
theorem fits_of_pacc {wr : World} {base : Nat} {v : Value} {acc : List OV} (h : PAcc wr base v acc) : Fits acc := by
  intro p hp
  obtain ⟨f1, _, f3, f4, _, _, _, f8⟩ := (h.2.1 p hp).2.2
  exact ⟨f1, f3, f4, f8⟩
theorem unline_fit (s : Ox.S) (hs : s.length ≤ 80000) : OFit (Ox.unline s).1 := by
  unfold Ox.unline
  split
  · exact ⟨by simp [Ox.op0], (by intro k hk; cases hk), by simp [Ox.op0], by simp [Ox.op0], by simp [Ox.op0], by simp [Ox.op0], by simp [Ox.op0], by simp [Ox.op0]⟩
  · have hW : WFit (Ox.split 32 s, true) := by
      refine ⟨?_, fun p hp => ?_⟩
      · have := split_len 32 s
        simp only; omega
      · have := split_mem 32 s p hp
        omega
    exact fill_fit _ _ (wfit_next hW _).1
/-- What Parse leaves. -/
def ParE (w : World) (r : Ox.PR) (e : Ending) (w' : World) : Prop :=
  ∃ v L, e = .returned (.tuple #[v, .int .i64 r.2.1, .int .i64 r.2.2]) ∧ OpsAt w' v L ∧ Fits L ∧ L.map (·.1) = r.1 ∧ Below w.heap.size w w'
set_option maxRecDepth 100000 in
set_option maxHeartbeats 4000000 in
theorem parse_any (s : ByteArray) (w : World) (hl : Laid w) (hs : s.size ≤ 1048576) (hln : ∀ t ∈ Ox.split 10 (Lx.ls s), t.length ≤ 80000) :
    Calls Tryd.prog 10 #[.string s] w fun e w' => ParE w (Ox.parse (Lx.ls s)) e w' := by
  obtain ⟨L, hL⟩ : ∃ L, L = Ox.split 10 (Lx.ls s) := ⟨_, rfl⟩
  obtain ⟨R, hR⟩ : ∃ R, R = Ox.parse (Lx.ls s) := ⟨_, rfl⟩
  have hRL : Ox.parseL (L.drop 0) 0 [] = R := by rw [hR, Ox.parse, if_neg (by rw [Lx.ls_length]; omega), ← hL]; rfl
  have hL0 : 0 < L.length := by rw [hL]; exact List.length_pos_iff.2 (split_ne _ _)
  have hLm : L.length ≤ 1048577 := by
    have := split_len 10 (Lx.ls s)
    rw [Lx.ls_length] at this
    rw [hL]; omega
  rw [← hL] at hln
  rw [← hR]
  have HRL := Lib.hid hRL
  have HL := Lib.hid hl
  have HLE := Lib.hid hL
  have HLN := Lib.hid hln
  clear hR hRL hl hln
  have d0 : decide ((1048576 : Int) < (s.size : Int)) = false := decide_eq_false (by omega)
  go_enter Tryd.func10, Tryd.ntmps10
  go_wp2_with fail
  refine (split_any s 10 _ (by omega)).mono ?_
  rintro e w1 ⟨v, rfl, hrow, hb1⟩
  rw [← hL] at hrow
  obtain ⟨b, cb, rfl, hbb, hnc, hcm, hcell⟩ := row1_some hrow hL0
  obtain ⟨n, hn⟩ : ∃ n, n = L.length := ⟨_, rfl⟩
  rw [← hn] at hL0 hLm ⊢
  have HN := Lib.hid hn
  have HC := Lib.hid hcell
  have hl1 := laid_keep HL.out hb1
  have HL1 := Lib.hid hl1
  have HB1 := Lib.hid hb1
  clear hrow hcell hnc hcm hL hn hl1 hb1
  go_wp2_with fail
  go_loopw [5, 7, 8, 9, 10, 19] (fun v _ _ _ _ i wr => ∃ (k : Nat) (acc : List OV), k < n ∧ i = .int .i64 k ∧ acc.length ≤ k ∧ PAcc wr w1.heap.size v acc ∧ Below w1.heap.size w1 wr ∧ Hid (Ox.parseL (L.drop k) (k : Int) (acc.map (·.1)) = R)) (fun _ _ _ _ _ i _ => n - (intOf i).toNat)
  case atStart => exact ⟨0, [], hL0, rfl, by simp, pacc_nil _ _, Below.refl _ _, HRL⟩
  case round =>
    obtain ⟨k, acc, hk, rfl, hak, hp, hb, HK⟩ := hrel
    have hlt : k < n := hk
    obtain ⟨va, vc, rfl⟩ := own_form hp.1
    · obtain ⟨t, ht⟩ : ∃ t, L[k]? = some t := ⟨_, List.getElem?_eq_getElem (by rw [← HN.out]; exact hlt)⟩
      have a0 : wr.cell? ⟨b, k, none⟩ = some (.string (Lx.bs t)) := (hb.cell (p := ⟨b, k, none⟩) hbb).trans (HC.out k _ (sts_at ht))
      obtain ⟨h1, h2⟩ := List.getElem?_eq_some_iff.1 ht
      have hdrop : L.drop k = t :: L.drop (k + 1) := by rw [List.drop_eq_getElem_cons h1, h2]
      have htl : t.length ≤ 80000 := HLN.out t (List.mem_of_getElem? ht)
      have hBw : Below w.heap.size w wr := HB1.out.trans (hb.mono HB1.out.size)
      have hlw := laid_keep HL.out hBw
      have HBW := Lib.hid hBw
      have HP := Lib.hid hp
      have HBB := Lib.hid hb
      have hszb : w1.heap.size ≤ wr.heap.size := hb.size
      clear h1 h2 ht hBw hp hb
      by_cases hlast : k + 1 = n
      · have d1 : ((k : Int) == (n : Int) - 1) = true := by simp; omega
        have hd2 : L.drop (k + 1) = [] := List.drop_eq_nil_of_le (by rw [← HN.out]; omega)
        rw [hd2] at hdrop
        have HK2 : Hid ((if t = [] then Ox.fin (acc.map (·.1)) else ([], (k : Int), 8)) = R) := Lib.hid (by have h := HK.out; rw [hdrop, Ox.parseL] at h; exact h)
        clear hdrop hd2 HK hlast
        by_cases hte : t = []
        · rw [if_pos hte] at HK2
          have dt : ((Lx.bs t).toList == []) = true := by rw [Lx.bs_toList, hte]; rfl
          clear hte
          have hR := HK2.out
          unfold Ox.fin at hR
          rw [List.length_map] at hR
          by_cases h8 : 8192 < acc.length
          · have d8 : decide ((8192 : Int) < (acc.length : Int)) = true := decide_eq_true (by omega)
            rw [if_pos h8] at hR
            have HRR := Lib.hid hR
            clear hR h8
            go_wp2
            go_ret3
            rw [← HRR.out]
            exact ⟨.slice none 0 0, [], rfl, ⟨by simp, .inl ⟨rfl, _, _, rfl⟩⟩, (by intro p hp; cases hp), rfl, HBW.out⟩
          · have d8 : decide ((8192 : Int) < (acc.length : Int)) = false := decide_eq_false (by omega)
            rw [if_neg h8] at hR
            have HRR := Lib.hid hR
            have hops := ops_of_pacc HP.out
            have hfits := fits_of_pacc HP.out
            have HOPS := Lib.hid hops
            clear hR
            go_wp2_with fail
            refine (wrong_any _ acc _ hlw hops hfits (by omega)).mono ?_
            rintro e w2 ⟨rfl, hb2⟩
            have hops2 := ops_keep HOPS.out hb2
            have hbw2 := below_next HBW.out hb2
            obtain ⟨wg, hwg⟩ : ∃ wg, wg = Ox.wrong (acc.map (·.1)) := ⟨_, rfl⟩
            rw [← hwg]
            have HWG := Lib.hid hwg
            have HO2 := Lib.hid hops2
            have HB2 := Lib.hid hbw2
            have HF2 := Lib.hid hfits
            clear hops hfits hops2 hbw2 hwg h8
            by_cases h9 : 0 ≤ wg
            · have d9 : decide ((0 : Int) ≤ wg) = true := decide_eq_true h9
              have hR := HRR.out
              rw [← HWG.out, if_pos h9] at hR
              have HR2 := Lib.hid hR
              clear hR h9
              go_wp2
              go_ret3
              rw [← HR2.out]
              exact ⟨.slice none 0 0, [], rfl, ⟨by simp, .inl ⟨rfl, _, _, rfl⟩⟩, (by intro p hp; cases hp), rfl, HB2.out⟩
            · have d9 : decide ((0 : Int) ≤ wg) = false := decide_eq_false h9
              have hR := HRR.out
              rw [← HWG.out, if_neg h9] at hR
              have HR2 := Lib.hid hR
              clear hR h9
              go_wp2
              go_ret3
              rw [← HR2.out]
              exact ⟨_, acc, rfl, HO2.out, HF2.out, rfl, HB2.out⟩
        · have dt : ((Lx.bs t).toList == []) = false := by rw [Lx.bs_toList]; cases t with
            | nil => exact absurd rfl hte
            | cons x q => rfl
          rw [if_neg hte] at HK2
          clear hte
          go_wp2
          go_ret3
          have hR := HK2.out
          rw [← hR]
          exact ⟨.slice none 0 0, [], rfl, ⟨by simp, .inl ⟨rfl, _, _, rfl⟩⟩, (by intro p hp; cases hp), rfl, HBW.out⟩
      · have d1 : ((k : Int) == (n : Int) - 1) = false := by simp; omega
        obtain ⟨t2, r2, hd2⟩ : ∃ t2 r2, L.drop (k + 1) = t2 :: r2 := by
          cases hx : L.drop (k + 1) with
          | nil => have := congrArg List.length hx; simp at this; have := HN.out; omega
          | cons x q => exact ⟨x, q, rfl⟩
        have HK2 : Hid ((if (Ox.unline t).2 then Ox.parseL (L.drop (k + 1)) ((k : Int) + 1) (acc.map (·.1) ++ [(Ox.unline t).1]) else ([], (k : Int), 8)) = R) := Lib.hid (by have h := HK.out; rw [hdrop, hd2, Ox.parseL] at h; rw [hd2]; exact h)
        clear hdrop hd2 HK
        go_wp2_with fail
        refine (unline_any (Lx.bs t) _ hlw (by rw [Lx.bs_size]; omega)).mono ?_
        rintro e w2 ⟨ka, kn, kc, rfl, hka, hkf, hb2⟩
        have hof := unline_fit t htl
        rw [Lx.ls_bs] at hka hkf ⊢
        obtain ⟨U, hU⟩ : ∃ U, U = Ox.unline t := ⟨_, rfl⟩
        rw [← hU] at hka hkf hof ⊢
        have HK3 : Hid ((if U.2 then Ox.parseL (L.drop (k + 1)) ((k : Int) + 1) (acc.map (·.1) ++ [U.1]) else ([], (k : Int), 8)) = R) := Lib.hid (by have h := HK2.out; rw [← hU] at h; exact h)
        obtain ⟨o', ok'⟩ := U
        unfold xcells
        clear HK2 hU
        have hB2 := below_next HBW.out hb2
        have HB2 := Lib.hid hB2
        have HKA := Lib.hid hka
        have HKF := Lib.hid hkf
        have HOF := Lib.hid hof
        have HB2' := Lib.hid hb2
        have hszw : wr.heap.size ≤ w2.heap.size := hb2.size
        clear hB2 hka hkf hof hb2
        cases ok' with
        | false =>
          have hR := HK3.out
          rw [if_neg (by simp)] at hR
          have HR3 := Lib.hid hR
          clear hR HK3
          go_wp2
          go_ret3
          rw [← HR3.out]
          exact ⟨.slice none 0 0, [], rfl, ⟨by simp, .inl ⟨rfl, _, _, rfl⟩⟩, (by intro p hp; cases hp), rfl, HB2.out.alloc HB2.out.size _⟩
        | true =>
          have hR := HK3.out
          rw [if_pos rfl] at hR
          have HR3 := Lib.hid hR
          clear hR HK3
          have hp2 := pacc_next HP.out (below_next (w := wr) HB2'.out (below_al (Below.refl _ _) (.cells #[.int .i64 o'.code, .int .i64 o'.p1, .int .i64 o'.p2, .int .i64 o'.p3, .int .i64 o'.vk, .int .i64 o'.vn, .string (Lx.bs o'.vs), .slice ka kn kc, .string (Lx.bs o'.name)] 39)))
          have HP2 := Lib.hid hp2
          have hown := hp2.1
          clear hp2
          go_wp2_with (at_builtin; refine wpList_app1g rfl (.tmp 40) (.tmp 42) 25 39 rfl Tryd.underlying25 op_info rfl (by decide) _ _ rfl (by intro u hu; simp at hu; rcases hu with rfl | rfl | rfl | rfl | rfl | rfl | rfl | rfl | rfl <;> rfl) w1.heap.size _ _ _ rfl hown _ (by simp) rfl (by simp only [maxLen]; omega) (by omega) (by simp; omega) w1.heap.size (Nat.le_refl _) ?_; intro v1 w3 hown1 hb3 hother)
          go_roundw
          case rel => exact ⟨k + 1, acc ++ [(o', .slice ka kn kc)], by omega, by go_num, by simp; omega, pacc_snoc (t := (o', .slice ka kn kc)) HP2.out (kat_keep HKA.out (below_al (Below.refl _ _) _)) HKF.out HOF.out (fun b hb => (HP.out.1.lt b hb).2) hb3.size hother hown1, ((HBB.out.trans (HB2'.out.mono hszb)).alloc (by omega) _).trans hb3, Lib.hid (by have h := HR3.out; simpa using h)⟩
          case measure => simp [intOf]; omega
end Go.Proofs.YtoekddkkjbcicaaDoor
