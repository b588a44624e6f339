import Derived.Test.YtepdpdlakgnpmaaRefLexE
import Derived.Test.YtepdpdlakgnpmaaLexH
set_option linter.unusedVariables false
set_option linter.unusedSimpArgs false
namespace Go.Proofs.Ytepdpdlakgnpmaa
open Go.RowKit
attribute [local simp] Lx.bs_size
theorem wpList_app3 {P : Program} {ops : Array Oper} {rest : List Oper} {o : Oper} {a : Act} {Q : Exit → Act → World → Prop} (hgd : o.guard = none) (s x : Operand) (t e : TypeId)
    (ho : o.op = .call { callee := .builtin .append, args := #[s, x], argTypes := #[t, t] })
    (ht : P.underlying t = some (.slice e)) {z : Value} {size bytes : Nat} (hinfo : (P.info? e).map (fun i => (i.zero, i.size, i.bytes)) = some (some z, size, bytes))
    (hzs : z.cells.size = size) (hsz : 0 < size) (W : World) (C : Array Value) (hC : C.size = size) (h1 : ∀ u ∈ C.toList, u.oneCell' = true)
    (base : Nat) (v : Value) (n : Nat) (xs : List Value) (hs : a.eval s = v) (hown : W.ownsRow base e size v n xs) (g : Nat) (hx : a.eval x = .slice (some ⟨g, 0, none⟩) 1 1) (hg : g = W.heap.size)
    (hn : n + 1 ≤ maxLen) (hbytes : (n + 1) * bytes ≤ 140737488355328) (hbase : base ≤ W.heap.size) (B : Nat) (hB : B ≤ base)
    (h : ∀ v' w', w'.ownsRow base e size v' (n + 1) (xs ++ C.toList) → Below B W w' → (∀ b, b < W.heap.size → v.ownBlock ≠ some b → w'.heap[b]? = W.heap[b]?) → wpList P ops Q rest (a.put o.dst v') w') :
    wpList P ops Q (o :: rest) a (W.alloc (.cells C e)) := by
  obtain ⟨i, hi, hz, h2, h3⟩ := info_of hinfo
  refine wpList_append_own _ hgd s x t ho base e i z size bytes ht hi hz h2 h3 hzs hsz v n xs hs (hown.alloc _) ⟨W.heap.size, 0, none⟩ 1 1 C.toList (by rw [hx, hg]) (by simp [hC]) ?_ h1 hn hbytes (by simp; omega) ?_
  · intro j u hu
    rw [add_zero_addr, cell_new]
    simpa using hu
  · intro v' w' hown' hgr _
    refine h v' w' hown' (((Below.refl B W).alloc (by omega) _).trans (own_below (hown.alloc _) hgr hB (by simp; omega))) (fun b hb hne => ?_)
    exact (hgr.block b (by simp; omega) (fun e => hne e.symm)).trans (Below.heap_alloc W _ b hb)
theorem skip_at (s : ByteArray) (k0 : Nat) (x : Int) (w : World) (hs : s.size ≤ 9223372036854775000) (hk : k0 ≤ s.size) (hx : x = (k0 : Int)) :
    Calls Try.prog 20 #[.string s, .int .i64 x] w fun e w' => e = .returned (.int .i64 ((k0 + Lx.skipN false (Lx.suf s k0) : Nat) : Int)) ∧ w = w' := by
  subst hx
  exact skip_any s k0 w hs hk
set_option maxHeartbeats 2000000 in
theorem rscan_any (s : ByteArray) (w : World) (hs : s.size ≤ 1000000000) :
    Calls Try.prog 10 #[.string s] w fun e w' => scanE w (Lx.scan (Lx.ls s)) e w' := by
  by_cases hlong : 65536 < s.size
  · have hR : Lx.scan (Lx.ls s) = ([], 0, 3) := by rw [Lx.scan, Lx.ls_length, if_pos hlong]
    rw [hR]
    have d1 : decide (65536 < (s.size : Int)) = true := decide_eq_true (by omega)
    go_enter Try.func10, Try.ntmps10
    go_wp2
    go_ret3
    exact scanE_nil (Below.refl _ _)
  · have hR : Lx.scan (Lx.ls s) = Lx.scanL (Lx.ls s) (s.size + 1) [] (Lx.skipN false (Lx.ls s)) := by rw [Lx.scan, Lx.ls_length, if_neg hlong]
    rw [hR]
    generalize hR2 : Lx.scanL (Lx.ls s) (s.size + 1) [] (Lx.skipN false (Lx.ls s)) = R
    have HR := Lib.hid hR2
    have d1 : decide (65536 < (s.size : Int)) = false := decide_eq_false (by omega)
    clear hR hR2
    have hsk := Lx.skipN_le false (Lx.ls s)
    rw [Lx.ls_length] at hsk
    obtain ⟨k0, hk0⟩ : ∃ k0, k0 = Lx.skipN false (Lx.ls s) := ⟨_, rfl⟩
    rw [← hk0] at HR hsk
    have HK0 := Lib.hid hk0
    clear hk0
    go_enter Try.func10, Try.ntmps10
    go_wp2_with fail
    refine (skip_any s 0 _ (by omega) (by omega)).mono ?_
    rintro e w' ⟨rfl, rfl⟩
    rw [Lx.suf_zero, ← HK0.out, Nat.zero_add]
    go_wp2
    go_loopw [5, 6] (fun v i wr => ∃ (acc : List Lx.TA) (k f : Nat), i = .int .i64 k ∧ k ≤ s.size ∧ s.size - k < f ∧ acc.length ≤ k ∧ wr.ownsRow w.heap.size 33 6 v acc.length (acc.flatMap tcells) ∧ Below w.heap.size w wr ∧ Hid (Lx.scanL (Lx.ls s) f acc k = R)) (fun _ i _ => s.size - (intOf i).toNat)
    case atStart => exact ⟨[], k0, s.size + 1, rfl, hsk, by omega, by simp, World.ownsRow_nil _ _ _ _, Below.refl _ _, HR⟩
    case round =>
      obtain ⟨acc, k, f, rfl, hk, hf, hal, hown, hb, HK⟩ := hrel
      obtain ⟨f, rfl⟩ : ∃ f', f = f' + 1 := ⟨f - 1, by omega⟩
      obtain ⟨va, vc, hv⟩ := own_form hown
      subst hv
      by_cases hend : k = s.size
      · subst hend
        have hfin := Lx.scanL_end (l := Lx.ls s) (f := f) (acc := acc) (a := s.size) (Lx.ls_length s).symm
        rw [HK.out] at hfin
        have HFIN := Lib.hid hfin
        clear hfin
        go_wp2_with (at_builtin; refine wpList_app1 rfl (.tmp 43) (.tmp 47) 23 33 rfl Try.underlying23 token_info rfl (by decide) _ _ rfl (by intro u hu; simp at hu; rcases hu with rfl | rfl | rfl | rfl | rfl | rfl <;> rfl) w.heap.size _ _ _ rfl hown rfl (by simp only [maxLen]; omega) (by omega) hb.size w.heap.size (Nat.le_refl _) ?_; intro v1 w1 hown1 hb1)
        go_ret3
        refine ⟨_, by rw [HFIN.out]; rfl, ?_, hb.trans hb1⟩
        rw [HFIN.out]
        simpa [tcells, Lx.ls_length, Lx.bs_nil] using hown1
      · have hlt : k < s.size := by omega
        have hne : k ≠ (Lx.ls s).length := by rw [Lx.ls_length]; exact hend
        by_cases hfull : acc.length = 4096
        · have d3 : ((acc.length : Int) == 4096) = true := by rw [hfull]; rfl
          have hfin := Lx.scanL_full (f := f) hne hfull
          rw [HK.out] at hfin
          have HFIN := Lib.hid hfin
          clear hfin hfull hne hend
          go_wp2
          go_ret3
          rw [HFIN.out]
          exact scanE_nil hb
        · have d3 : ((acc.length : Int) == 4096) = false := by simp; omega
          obtain ⟨r, hr⟩ : ∃ r, r = Lx.tok (Lx.suf s k) := ⟨_, rfl⟩
          have hr' : Lx.tok ((Lx.ls s).drop k) = r := hr.symm
          by_cases he : r.1 = 0
          · have hfin := Lx.scanL_go (f := f) hne hfull (by rw [hr']; exact he)
            rw [hr', HK.out] at hfin
            have htl := Lx.tok_len (l := Lx.suf s k) (by rw [← hr]; exact he)
            rw [← hr, Lx.suf_length] at htl
            obtain ⟨q1, q2, q3⟩ := htl
            have hsk2 := Lx.skipN_le false (Lx.suf s (k + r.2.2))
            rw [Lx.suf_length] at hsk2
            have HFIN := Lib.hid hfin
            have HR2 := Lib.hid hr
            have HE := Lib.hid he
            have Q3 := Lib.hid q3
            have hq3a : r.2.1.text.length ≤ r.2.2 := by omega
            clear hfin hr hr' he hfull hne hend q3
            go_wp2_with fail
            refine (one_any s k _ hs hlt).mono ?_
            rintro e w1 ⟨⟨tt, jj, he1, hx⟩, hb1⟩
            rw [← HR2.out] at he1 hx
            obtain ⟨rfl, rfl⟩ := hx HE.out
            rw [HE.out] at he1
            subst he1
            clear hx
            have hB1 := below_next (w := w) hb hb1
            have hown1 := own_next hown hb1
            have htb : (Value.slice va acc.length vc).ownBlock ≠ some w1.heap.size := fun e => by have := (hown1.lt _ e).2; omega
            go_wp2_with (at_builtin; refine wpList_app3 rfl (.tmp 32) (.tmp 34) 23 33 rfl Try.underlying23 token_info rfl (by decide) _ _ rfl (by intro u hu; simp at hu; rcases hu with rfl | rfl | rfl | rfl | rfl | rfl <;> rfl) w.heap.size _ _ _ rfl (hown1.alloc _) _ rfl (by simp) (by simp only [maxLen]; omega) (by omega) (by have := hB1.size; simp; omega) w.heap.size (Nat.le_refl _) ?_; intro v2 w2 hown2 hb2 hkeep; have hKt := (hkeep w1.heap.size (by simp) htb).trans (heap_alloc_new w1 _); have ct := cell_of_heap (k := 1) hKt rfl; clear hkeep hKt)
            go_wp2_with fail
            refine (skip_at s (k + r.2.2) _ _ (by omega) (by omega) (by have := Q3.out; omega)).mono ?_
            rintro e w' ⟨rfl, rfl⟩
            go_wp2
            go_roundw
            case rel =>
              refine ⟨acc ++ [(r.2.1, k)], k + r.2.2 + Lx.skipN false (Lx.suf s (k + r.2.2)), f, by congr 1, by omega, by omega, by simp; omega, ?_, (by (repeat (first | with_reducible exact Below.refl _ _ | with_reducible assumption | with_reducible refine Below.drew ?_ | with_reducible refine below_drewN ?_ _ | with_reducible refine below_al ?_ _ | with_reducible refine Below.setCell ?_ ?_ _ | exact Nat.le_refl _ | omega | (simp; done) | (simp; omega))) : Below w.heap.size w _).trans hb2, Lib.hid HFIN.out.symm⟩
              simpa [tcells] using hown2
            case measure => simp [intOf]; omega
          · have hfin := Lx.scanL_bad (f := f) hne hfull (by rw [hr']; exact he)
            rw [hr', HK.out] at hfin
            have HFIN := Lib.hid hfin
            have HR2 := Lib.hid hr
            have d4 : (r.1 != 0) = true := by simp [he]
            clear hfin hr hr' he hfull hne hend
            go_wp2_with fail
            refine (one_any s k _ hs hlt).mono ?_
            rintro e w1 ⟨⟨tt, jj, he1, hx⟩, hb1⟩
            rw [← HR2.out] at he1
            subst he1
            clear hx
            have hB1 := below_next (w := w) hb hb1
            go_wp2
            go_ret3
            rw [HFIN.out]
            exact scanE_nil (by (repeat (first | with_reducible exact Below.refl _ _ | with_reducible assumption | with_reducible refine Below.drew ?_ | with_reducible refine below_drewN ?_ _ | with_reducible refine below_al ?_ _ | with_reducible refine Below.setCell ?_ ?_ _ | exact Nat.le_refl _ | omega | (simp; done) | (simp; omega))))
end Go.Proofs.Ytepdpdlakgnpmaa
