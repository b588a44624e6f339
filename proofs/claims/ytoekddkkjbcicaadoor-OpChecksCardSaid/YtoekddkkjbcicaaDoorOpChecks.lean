/- tomelaw40.OpChecks returns true at any instructions: Check, Regs and Print answer as the document does, and what is printed is parsed to the same. Condition: the two laid tables, tied to the program's text by the given ties. -/
import Derived.Test.YtoekddkkjbcicaaDoorOqH
import Derived.WideKeyArgs
set_option linter.unusedVariables false
set_option linter.unusedSimpArgs false
namespace Go.Proofs.YtoekddkkjbcicaaDoor
open Go.RowKit
open Go.ChangeShapes Go.WideShapes Go.ChangeAt Go.ChangeMaps
attribute [local simp] Lx.bs_size
set_option maxRecDepth 100000 in
set_option maxHeartbeats 4000000 in
theorem opChecks_great (v : Value) (L : List OV) (w : World) (hl : Laid w) (hat : OpsAt w v L) (hn : L.length ≤ maxLen) (hg : greatL (L.map (·.1)) 0 = true) :
    Calls Tryd.prog 6 #[v] w fun e w' => e = .returned (.bool true) ∧ Below w.heap.size w w' := by
  have HL := Lib.hid hl
  have HAT := Lib.hid hat
  have HG := Lib.hid hg
  clear hl hat hg
  go_enter Tryd.func6, Tryd.ntmps6
  go_wp2_with fail
  refine (exAwake_any _ HL.out).mono ?_
  rintro e w1 ⟨rfl, hb1⟩
  have hl1 := laid_keep HL.out hb1
  have hops1 := ops_keep HAT.out hb1
  go_wp2_with fail
  refine (great_any _ L _ hops1 hn).mono ?_
  rintro e w2 ⟨rfl, rfl⟩
  rw [HG.out]
  go_wp2_with fail
  refine (exAwake_any _ hl1).mono ?_
  rintro e w3 ⟨rfl, hb3⟩
  have hB := below_next (w := w) hb1 hb3
  go_wp2
  go_ret
  exact ⟨rfl, hB⟩
theorem lines_short {l : List Ox.Op} (h : ∀ o ∈ l, (Ox.line o).length ≤ 2900) : (Ox.lines l).length ≤ 2901 * l.length := by
  induction l with
  | nil => simp [Ox.lines]
  | cons o r ih =>
    have h1 := ih (fun q hq => h q (List.mem_cons_of_mem _ hq))
    have h2 := h o List.mem_cons_self
    have e : Ox.lines (o :: r) = (Ox.line o ++ [10]) ++ Ox.lines r := rfl
    rw [e]
    simp only [List.length_append, List.length_cons, List.length_nil]
    omega
set_option maxRecDepth 100000 in
set_option maxHeartbeats 4000000 in
theorem opChecks_main (v : Value) (L : List OV) (w : World) (hl : Laid w) (hat : OpsAt w v L) (hv : ∀ p ∈ L, I64 p.1.vn) (hg : greatL (L.map (·.1)) 0 = false) :
    Calls Tryd.prog 6 #[v] w fun e w' => e = .returned (.bool true) ∧ Below w.heap.size w w' := by
  have hsm := small_of hg
  have hfits := fits_small hsm hv
  have hn300 : L.length ≤ 300 := hsm.1
  have hL1 : L.length ≤ 1000000 := by omega
  obtain ⟨ck, hck⟩ : ∃ ck, ck = Ox.check (L.map (·.1)) := ⟨_, rfl⟩
  obtain ⟨rg, hrg⟩ : ∃ rg, rg = regs (L.map (·.1)) := ⟨_, rfl⟩
  obtain ⟨T, hT⟩ : ∃ T, T = Ox.print (L.map (·.1)) := ⟨_, rfl⟩
  have HL := Lib.hid hl
  have HAT := Lib.hid hat
  have HG := Lib.hid hg
  have HF := Lib.hid hfits
  have HCK := Lib.hid hck
  have HRG := Lib.hid hrg
  have HT := Lib.hid hT
  have HL1 := Lib.hid hL1
  have HV := Lib.hid hv
  have HSM := Lib.hid hsm
  clear hl hat hg hfits hck hrg hT hL1 hv hsm
  go_enter Tryd.func6, Tryd.ntmps6
  go_wp2_with fail
  refine (exAwake_any _ HL.out).mono ?_
  rintro e w1 ⟨rfl, hb1⟩
  have hl1 := laid_keep HL.out hb1
  have hops1 := ops_keep HAT.out hb1
  go_wp2_with fail
  refine (great_any _ L _ hops1 (by simp only [maxLen]; omega)).mono ?_
  rintro e w2 ⟨rfl, rfl⟩
  rw [HG.out]
  go_wp2_with fail
  refine (rCheck_any _ L _ hops1 HF.out HL1.out).mono ?_
  rintro e w2 ⟨rfl, hb2⟩
  rw [← HCK.out]
  have hl2 := laid_keep hl1 hb2
  have hops2 := ops_keep hops1 hb2
  have hB2 := below_next (w := w) hb1 hb2
  go_wp2_with fail
  refine (opCheck_any _ L _ hl2 hops2 HF.out HL1.out).mono ?_
  rintro e w3 ⟨rfl, hb3⟩
  rw [← HCK.out]
  have hl3 := laid_keep hl2 hb3
  have hops3 := ops_keep hops2 hb3
  have hB3 := below_next hB2 hb3
  go_wp2_with fail
  refine (opRegs_any _ L _ hl3 hops3 HF.out HL1.out).mono ?_
  rintro e w4 ⟨rfl, hb4⟩
  rw [← HRG.out]
  have hl4 := laid_keep hl3 hb4
  have hops4 := ops_keep hops3 hb4
  have hB4 := below_next hB3 hb4
  go_wp2_with fail
  refine (rRegs_any _ L _ hops4 HF.out HL1.out).mono ?_
  rintro e w5 ⟨rfl, hb5⟩
  rw [← HRG.out]
  have hl5 := laid_keep hl4 hb5
  have hops5 := ops_keep hops4 hb5
  have hB5 := below_next hB4 hb5
  go_wp2_with fail
  refine (opPrint_any _ L _ hl5 hops5 HF.out HL1.out).mono ?_
  rintro e w6 ⟨rfl, hb6⟩
  rw [← HT.out]
  have hl6 := laid_keep hl5 hb6
  have hops6 := ops_keep hops5 hb6
  have hB6 := below_next hB5 hb6
  go_wp2_with fail
  refine (rPrint_any _ L _ hops6 HF.out HL1.out).mono ?_
  rintro e w7 ⟨rfl, hb7⟩
  rw [← HT.out]
  have hl7 := laid_keep hl6 hb7
  have hops7 := ops_keep hops6 hb7
  have hB7 := below_next hB6 hb7
  clear hl1 hl2 hl3 hl4 hl5 hl6 hops1 hops2 hops3 hops4 hops5 hops6 hB2 hB3 hB4 hB5 hB6 hb1 hb2 hb3 hb4 hb5 hb6 hb7
  by_cases h0 : ck = 0
  · subst h0
    have hck := HCK.out.symm
    have hall := (Ox.check_all hck).2
    have hTl : T = Ox.lines (L.map (·.1)) := by rw [HT.out, Ox.print, if_pos hck]
    have hshort : ∀ o ∈ L.map (·.1), (Ox.line o).length ≤ 2900 := by
      intro o ho
      have hr := hall o ho
      obtain ⟨p, hp, rfl⟩ := List.mem_map.1 ho
      obtain ⟨s1, _, s3⟩ := HSM.out.2 p hp
      exact line_short (by rw [List.length_map]; omega) hr s1 s3 (HV.out p hp)
    have hTn : T.length ≤ 1048576 := by
      have := lines_short hshort
      rw [List.length_map] at this
      rw [hTl]; omega
    have hvl : ∀ o ∈ L.map (·.1), -9223372036854775808 ≤ o.vn ∧ o.vn ≤ 9223372036854775807 := by
      intro o ho
      obtain ⟨p, hp, rfl⟩ := List.mem_map.1 ho
      exact HV.out p hp
    have hpar : Ox.parse T = (L.map (·.1), 0, 0) := by
      rw [hTl]
      exact Ox.parse_lines hck hvl (by rw [← hTl]; exact hTn)
    have hlnn : ∀ t ∈ Ox.split 10 T, t.length ≤ 80000 := by
      intro t ht
      have h10 : ∀ o ∈ L.map (·.1), (10 : UInt8) ∉ Ox.line o := fun o ho => (Ox.line_no (Ox.named_all (Ox.right_parts (hall o ho)).2)).1
      have hsp := Ox.split_lines h10 []
      rw [List.append_nil] at hsp
      rw [hTl, hsp] at ht
      rcases List.mem_append.1 ht with ht | ht
      · obtain ⟨o, ho, rfl⟩ := List.mem_map.1 ht
        have := hshort o ho
        omega
      · rw [show Ox.split 10 [] = [[]] from rfl, List.mem_singleton] at ht
        subst ht
        simp
    have hP := parse_any (Lx.bs T) w7 hl7 (by rw [Lx.bs_size]; exact hTn) (by rw [Lx.ls_bs]; exact hlnn)
    rw [Lx.ls_bs, hpar] at hP
    have HPP := Lib.hid hP
    clear hck hall hTl hshort hvl hpar hlnn hP hTn
    go_wp2_with fail
    refine Calls.mono HPP.out ?_
    rintro e w8 ⟨v9, L9, he, hops9, _, hL9, hb8⟩
    simp only at he hL9
    subst he
    have hops8 := ops_keep hops7 hb8
    have hB8 := below_next hB7 hb8
    have hlen9 : L9.length ≤ 1000000 := by
      have h := congrArg List.length hL9
      simp only [List.length_map] at h
      omega
    have H9 := Lib.hid hL9
    clear hL9 hb8
    go_wp2_with fail
    refine (rAll_eq _ _ L9 L _ hops9 hops8 H9.out hlen9).mono ?_
    rintro e wA ⟨rfl, hbA⟩
    have hBA := below_next hB8 hbA
    go_wp2
    go_ret
    exact ⟨rfl, hBA⟩
  · have dck : (ck != 0) = true := by simpa using h0
    have hTe : T = [] := by rw [HT.out, Ox.print, if_neg (by rw [← HCK.out]; exact h0)]
    subst hTe
    clear h0
    go_wp2
    go_ret
    exact ⟨ret_b (by rw [Lx.bs_toList]; rfl), hB7⟩
theorem opChecks_any (v : Value) (L : List OV) (w : World) (hl : Laid w) (hat : OpsAt w v L) (hn : L.length ≤ maxLen) (hv : ∀ p ∈ L, I64 p.1.vn) :
    Calls Tryd.prog 6 #[v] w fun e w' => e = .returned (.bool true) ∧ Below w.heap.size w w' := by
  cases hg : greatL (L.map (·.1)) 0 with
  | true => exact opChecks_great v L w hl hat hn hg
  | false => exact opChecks_main v L w hl hat hv hg
set_option maxRecDepth 100000 in
theorem opChecks_lifted (os : Os) (started : os.Started) (H : Type) (enc : TypeId × Value → H) :
    ReturnsInHanded {} Tryd.checked os 6 .any (fun w args => (Rows.opChecksSpec.pre enc Tryd.prog Tryd.f6 [] false w args ∧ laidMetH Tryd.prog laidL w) ∧ sizedMet enc Tryd.prog Tryd.f6 (OpenSpec.ofChange Rows.opChecksSpec) false w args)
      (Rows.opChecksSpec.post enc Tryd.prog Tryd.f6 false true false false) := by
  refine returnsInHanded_of_change_and (C := Tryd.checked) (X := fun w _ => laidMetH Tryd.prog laidL w) (fun _ _ _ hh h => h.of_heap hh) opOwn_ started (by kernel_rfl) Tryd.func6
    (ChangeSpec.witness_shaped (enc := enc) (C := Tryd.checked) (os := os) (X := fun w _ => laidMetH Tryd.prog laidL w) false (World.doorLaid Tryd.prog 400 os) #[.slice none 0 0] 8 rfl (World.shaped_of_RefB (by kernel_rfl) (by kernel_rfl)) (by kernel_rfl) (by kernel_rfl) (by kernel_rfl) (door_met os _)) ?_
  intro W base args ds gs before hval0 hW _ _ hLd _
  have hval : ∀ (j : Nat) t v, Tryd.f6.params[j]? = some t → args[j]? = some v → Value.okWide Tryd.prog W .any base t v := hval0
  have hW' := hW
  obtain ⟨p, q, hA0, hV, rfl, hfz, hnd⟩ := hW
  have hA : DataW.TrodAll enc Tryd.prog W 0 (fun _ => true) true Tryd.f6.params.toList args.toList ds p := hA0
  rw [Tryd.params6] at hA hval
  obtain ⟨v0, vs0, d0, ds0, p0, q0, hargs, rfl, rfl, h0, r0⟩ := trodAll_cons hA
  obtain ⟨rfl, rfl, rfl⟩ := trodAll_nil r0
  obtain rfl : args = #[v0] := by cases args; simp_all
  obtain ⟨rfl, rfl⟩ := trodVars_none hV
  obtain ⟨sa, sn, sc, rfl⟩ := okWide_slice Tryd.underlying25 (hval 0 25 v0 rfl rfl)
  obtain ⟨n0, hn0⟩ := h0
  obtain ⟨v, L, hcs, hops, hvn, hlen⟩ := ops_of hn0
  simp [Value.cells] at hcs
  subst hcs
  have hl := laid_of hLd
  clear hA0 hval0
  simp only [List.append_nil] at hW'
  have hlt := hW'.lt
  refine (opChecks_any _ L W hl hops hlen hvn).mono fun e W' ⟨he, hg⟩ => ?_
  subst he
  exact ⟨_, rfl, post_below (pa := p0) (pv := []) hW' (fun _ _ _ => (trodAll_cons_mk (shut_bool Tryd.underlying4 _) trodAll_mk0))
    (fun sp hsp => by
      have h := trodAll_cons_mk (Go.WideElems.Trod_stays (by kernel_rfl) (by kernel_rfl) (of_decide_eq_true (by kernel_rfl)) ⟨n0, hn0⟩ (fun p hp => hg.same (hlt p hp)) (fun p hp => hsp p hp)) trodAll_mk0
      simp only [List.append_nil] at h
      exact h)
    (fun _ _ => rfl) (by simp) hg (ok_one (by kernel_rfl) rfl (okWide_bool_mk Tryd.underlying4 _))⟩
theorem opChecks_row : Rows.OpChecksSaid :=
  OpenClaim.holds_of_wide 6 Tryd.f6 rfl rfl rfl rfl rfl rfl rfl ⟨rfl, rfl, rfl, rfl, rfl⟩ rfl rfl rfl rfl rfl (by kernel_rfl) Tryd.func6 (by kernel_rfl)
    (of_decide_eq_true (by kernel_rfl)) (by unfold Func.isWrapper; first | (rw [if_pos (by decide +kernel)]; kernel_rfl) | (rw [if_neg (by decide +kernel)]; exact ⟨rfl, rfl⟩))
    (fun os started H enc _ => opChecks_lifted os started H enc)
theorem opChecks_card : Rows.OpChecksCardSaid :=
  Claim7.holds_tied_plain_at .later [] [.data, .data] true _ false
    opChecks_row (fun _ h => by cases h) (by kernel_rfl) (fun _ h => by cases h) opChecks_row_tie rfl ⟨rfl, rfl⟩ (by kernel_rfl) rfl
    (fun f fn hf hfn => by
      obtain rfl : f = 6 := Option.some.inj ((show Tryd.prog.funcNamed "tome/tomelaw40.OpChecks" = some 6 by kernel_rfl).symm.trans hf) |>.symm
      obtain rfl : fn = Tryd.f6 := (Option.some.inj (Tryd.func6.symm.trans hfn)).symm
      exact ⟨by kernel_rfl, fun j t ht => by
        rw [Tryd.params6] at ht
        have hm : t ∈ [25] := by simpa using Array.mem_of_getElem? ht
        have hall : ([25].all fun u => !Tryd.prog.wantsStandIn u) = true := by kernel_rfl
        exact (show Tryd.prog.wantsStandIn t = false by simpa using List.all_eq_true.1 hall t hm)⟩)
    (by kernel_rfl)
#print axioms opChecks_card
end Go.Proofs.YtoekddkkjbcicaaDoor
