import Derived.Test.YtepdpdlakgnpmaaLexG
set_option linter.unusedVariables false
set_option linter.unusedSimpArgs false
namespace Go.Proofs.Ytepdpdlakgnpmaa
open Go.RowKit
attribute [local simp] Lx.bs_size
theorem wpList_app2 {P : Program} {ops : Array Oper} {rest : List Oper} {o : Oper} {a : Act} {Q : Exit → Act → World → Prop} (hgd : o.guard = none) (s x : Operand) (t e : TypeId)
    (ho : o.op = .call { callee := .builtin .append, args := #[s, x], argTypes := #[t, t] })
    (ht : P.underlying t = some (.slice e)) {z : Value} {size bytes : Nat} (hinfo : (P.info? e).map (fun i => (i.zero, i.size, i.bytes)) = some (some z, size, bytes))
    (hzs : z.cells.size = size) (hsz : 0 < size) (W : World) (C : Array Value) (hC : C.size = size) (h1 : ∀ u ∈ C.toList, u.oneCell' = true)
    (base : Nat) (v : Value) (n : Nat) (xs : List Value) (hs : a.eval s = v) (hown : W.ownsRow base e size v n xs) (g : Nat) (hx : a.eval x = .slice (some ⟨g, 0, none⟩) 1 1) (hg : g = W.heap.size)
    (hn : n + 1 ≤ maxLen) (hbytes : (n + 1) * bytes ≤ 140737488355328) (hbase : base ≤ W.heap.size) (B : Nat) (hB : B ≤ base)
    (h : ∀ v' w', w'.ownsRow base e size v' (n + 1) (xs ++ C.toList) → Below B W w' → wpList P ops Q rest (a.put o.dst v') w') :
    wpList P ops Q (o :: rest) a (W.alloc (.cells C e)) :=
  wpList_app1 hgd s x t e ho ht hinfo hzs hsz W C hC h1 base v n xs hs hown (by rw [hx, hg]) hn hbytes hbase B hB h
def tcells (t : Lx.TA) : List Value := [.int .i64 t.1.kind, .string (Lx.bs t.1.text), .int .i64 t.1.val.1, .int .i64 t.1.val.2.1, .string (Lx.bs t.1.val.2.2), .int .i64 (t.2 : Int)]
theorem tcells_len (l : List Lx.TA) : (l.flatMap tcells).length = l.length * 6 := by
  induction l with
  | nil => rfl
  | cons t l ih => rw [List.flatMap_cons, List.length_append, ih, List.length_cons]; simp [tcells]; omega
theorem token_info : (Try.prog.info? 33).map (fun i => (i.zero, i.size, i.bytes)) = some (some (.agg #[.int .i64 0, .string ⟨#[]⟩, .int .i64 0, .int .i64 0, .string ⟨#[]⟩, .int .i64 0]), 6, 64) := by kernel_rfl
def scanE (w : World) (R : Lx.SR) (e : Ending) (w' : World) : Prop :=
  ∃ v, e = .returned (.tuple #[v, .int .i64 (R.2.1 : Int), .int .i64 R.2.2]) ∧ w'.ownsRow w.heap.size 33 6 v R.1.length (R.1.flatMap tcells) ∧ Below w.heap.size w w'
theorem scanE_nil {w w' : World} {a : Nat} {x : Int} (hb : Below w.heap.size w w') : scanE w ([], a, x) (.returned (.tuple #[.slice none 0 0, .int .i64 (a : Int), .int .i64 x])) w' :=
  ⟨_, rfl, World.ownsRow_nil _ _ _ _, hb⟩
set_option maxHeartbeats 2000000 in
theorem scan_any (s : ByteArray) (w : World) (hs : s.size ≤ 1000000000) :
    Calls Try.prog 9 #[.string s] w fun e w' => scanE w (Lx.scan (Lx.ls s)) e w' := by
  by_cases hlong : 65536 < s.size
  · have hR : Lx.scan (Lx.ls s) = ([], 0, 3) := by rw [Lx.scan, Lx.ls_length, if_pos hlong]
    rw [hR]
    have d1 : decide (65536 < (s.size : Int)) = true := decide_eq_true (by omega)
    go_enter Try.func9, Try.ntmps9
    go_wp2
    go_step3
    go_wp2
    try rw [Exit.noGoto_ret]
    go_ret3
    exact scanE_nil (Below.refl _ _)
  · have hR : Lx.scan (Lx.ls s) = Lx.scanL (Lx.ls s) (s.size + 1) [] (Lx.skipN false (Lx.ls s)) := by rw [Lx.scan, Lx.ls_length, if_neg hlong]
    rw [hR]
    generalize hR2 : Lx.scanL (Lx.ls s) (s.size + 1) [] (Lx.skipN false (Lx.ls s)) = R
    have HR := Lib.hid hR2
    have d1 : decide (65536 < (s.size : Int)) = false := decide_eq_false (by omega)
    clear hR hR2
    have hsk := Lx.skipN_le false (Lx.ls s)
    rw [Lx.ls_length] at hsk
    obtain ⟨k0, hk0⟩ : ∃ k0, k0 = Lx.skipN false (Lx.ls s) := ⟨_, rfl⟩
    rw [← hk0] at HR hsk
    have HK0 := Lib.hid hk0
    clear hk0
    go_enter Try.func9, Try.ntmps9
    go_wp2
    go_step3
    go_wp2_with fail
    refine (blanks_any s 0 _ hs (by omega)).mono ?_
    rintro e w' ⟨rfl, rfl⟩
    rw [Lx.suf_zero, ← HK0.out, Nat.zero_add]
    go_wp2
    go_step3
    go_wp2
    go_loopw [5, 6] (fun v i wr => ∃ (acc : List Lx.TA) (k f : Nat), i = .int .i64 k ∧ k ≤ s.size ∧ s.size - k < f ∧ acc.length ≤ k ∧ wr.ownsRow w.heap.size 33 6 v acc.length (acc.flatMap tcells) ∧ Below w.heap.size w wr ∧ Hid (Lx.scanL (Lx.ls s) f acc k = R)) (fun _ i _ => s.size - (intOf i).toNat)
    case atStart => exact ⟨[], k0, s.size + 1, rfl, hsk, by omega, by simp, World.ownsRow_nil _ _ _ _, Below.refl _ _, HR⟩
    case round =>
      obtain ⟨acc, k, f, rfl, hk, hf, hal, hown, hb, HK⟩ := hrel
      obtain ⟨f, rfl⟩ : ∃ f', f = f' + 1 := ⟨f - 1, by omega⟩
      obtain ⟨va, vc, hv⟩ := own_form hown
      subst hv
      by_cases hend : k = s.size
      · subst hend
        have d2 : ((s.size : Int) == (s.size : Int)) = true := by simp
        have hfin := Lx.scanL_end (l := Lx.ls s) (f := f) (acc := acc) (a := s.size) (Lx.ls_length s).symm
        rw [HK.out] at hfin
        have HFIN := Lib.hid hfin
        clear hfin
        go_wp2_with (at_builtin; refine wpList_app1 rfl (.tmp 41) (.tmp 45) 23 33 rfl Try.underlying23 token_info rfl (by decide) _ _ rfl (by intro u hu; simp at hu; rcases hu with rfl | rfl | rfl | rfl | rfl | rfl <;> rfl) w.heap.size _ _ _ rfl hown rfl (by simp only [maxLen]; omega) (by omega) hb.size w.heap.size (Nat.le_refl _) ?_; intro v1 w1 hown1 hb1)
        try rw [Exit.noGoto_ret]
        go_ret3
        refine ⟨_, by rw [HFIN.out]; rfl, ?_, hb.trans hb1⟩
        rw [HFIN.out]
        simpa [tcells, Lx.ls_length, Lx.bs_nil] using hown1
      · have d2 : ((k : Int) == (s.size : Int)) = false := by simp; omega
        have hlt : k < s.size := by omega
        have hne : k ≠ (Lx.ls s).length := by rw [Lx.ls_length]; exact hend
        by_cases hfull : acc.length = 4096
        · have d3 : ((acc.length : Int) == 4096) = true := by rw [hfull]; rfl
          have hfin := Lx.scanL_full (f := f) hne hfull
          rw [HK.out] at hfin
          have HFIN := Lib.hid hfin
          clear hfin hfull hne hend
          go_wp2
          try rw [Exit.noGoto_ret]
          go_ret3
          rw [HFIN.out]
          exact scanE_nil hb
        · have d3 : ((acc.length : Int) == 4096) = false := by simp; omega
          obtain ⟨r, hr⟩ : ∃ r, r = Lx.tok (Lx.suf s k) := ⟨_, rfl⟩
          have hr' : Lx.tok ((Lx.ls s).drop k) = r := hr.symm
          by_cases he : r.1 = 0
          · have hfin := Lx.scanL_go (f := f) hne hfull (by rw [hr']; exact he)
            rw [hr', HK.out] at hfin
            have htl := Lx.tok_len (l := Lx.suf s k) (by rw [← hr]; exact he)
            rw [← hr, Lx.suf_length] at htl
            obtain ⟨q1, q2, q3⟩ := htl
            have hsk2 := Lx.skipN_le false (Lx.suf s (k + r.2.2))
            rw [Lx.suf_length] at hsk2
            have HFIN := Lib.hid hfin
            have HR2 := Lib.hid hr
            have HE := Lib.hid he
            have Q3 := Lib.hid q3
            clear hfin hr hr' he hfull hne hend q3
            go_wp2_with fail
            refine (token_any s k _ hs hlt).mono ?_
            rintro e w1 ⟨he1, hb1⟩
            rw [← HR2.out, tokE_ok HE.out] at he1
            subst he1
            have hB1 := below_next (w := w) hb hb1
            have hown1 := own_next hown hb1
            go_wp2_with (at_builtin; refine wpList_app2 rfl (.tmp 34) (.tmp 36) 23 33 rfl Try.underlying23 token_info rfl (by decide) _ _ rfl (by intro u hu; simp at hu; rcases hu with rfl | rfl | rfl | rfl | rfl | rfl <;> rfl) w.heap.size _ _ _ rfl (hown1.alloc _) _ rfl (by simp) (by simp only [maxLen]; omega) (by omega) (by have := hB1.size; simp; omega) w.heap.size (Nat.le_refl _) ?_; intro v2 w2 hown2 hb2)
            go_wp2_with fail
            refine (blanks_any s (k + r.2.2) _ hs (by omega)).mono ?_
            rintro e w' ⟨rfl, rfl⟩
            go_wp2
            go_roundw
            case rel =>
              refine ⟨acc ++ [(r.2.1, k)], k + r.2.2 + Lx.skipN false (Lx.suf s (k + r.2.2)), f, by congr 1, by omega, by omega, by simp; omega, ?_, (by (repeat (first | with_reducible exact Below.refl _ _ | with_reducible assumption | with_reducible refine Below.drew ?_ | with_reducible refine below_drewN ?_ _ | with_reducible refine below_al ?_ _ | with_reducible refine Below.setCell ?_ ?_ _ | exact Nat.le_refl _ | omega | (simp; done) | (simp; omega))) : Below w.heap.size w _).trans hb2, Lib.hid HFIN.out.symm⟩
              simpa [tcells] using hown2
            case measure => simp [intOf]; omega
          · have hfin := Lx.scanL_bad (f := f) hne hfull (by rw [hr']; exact he)
            rw [hr', HK.out] at hfin
            have HFIN := Lib.hid hfin
            have HR2 := Lib.hid hr
            have HE := Lib.hid he
            have d4 : (r.1 != 0) = true := by simp [he]
            clear hfin hr hr' he hfull hne hend
            go_wp2_with fail
            refine (token_any s k _ hs hlt).mono ?_
            rintro e w1 ⟨he1, hb1⟩
            rw [← HR2.out, tokE_bad HE.out] at he1
            subst he1
            have hB1 := below_next (w := w) hb hb1
            go_wp2
            try rw [Exit.noGoto_ret]
            go_ret3
            rw [HFIN.out]
            exact scanE_nil (by (repeat (first | with_reducible exact Below.refl _ _ | with_reducible assumption | with_reducible refine Below.drew ?_ | with_reducible refine below_drewN ?_ _ | with_reducible refine below_al ?_ _ | with_reducible refine Below.setCell ?_ ?_ _ | exact Nat.le_refl _ | omega | (simp; done) | (simp; omega))))
end Go.Proofs.Ytepdpdlakgnpmaa
