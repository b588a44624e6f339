/- tomelaw40.OpParses returns true at every text: what is parsed is as it must be and has the text; else a line is told. Condition: the two laid tables, tied to the program's text by the given ties. -/
import Derived.Test.YtoekddkkjbcicaaDoorOqE
import Derived.Test.YtoekddkkjbcicaaDoorOqG
set_option linter.unusedVariables false
set_option linter.unusedSimpArgs false
namespace Go.Proofs.YtoekddkkjbcicaaDoor
open Go.RowKit
open Go.ChangeShapes Go.WideShapes Go.ChangeAt Go.ChangeMaps
attribute [local simp] Lx.bs_size
theorem opParses_great (s : ByteArray) (w : World) (hl : Laid w) (hs : 8000 < s.size) :
    Calls Tryd.prog 4 #[.string s] w fun e w' => e = .returned (.bool true) ∧ Below w.heap.size w w' := by
  have d1 : decide (8000 < (s.size : Int)) = true := decide_eq_true (by omega)
  have HL := Lib.hid hl
  clear hl
  go_enter Tryd.func4, Tryd.ntmps4
  go_wp2_with fail
  refine (exAwake_any _ HL.out).mono ?_
  rintro e w1 ⟨rfl, hb1⟩
  have hl1 := laid_keep HL.out hb1
  go_wp2_with fail
  refine (exAwake_any _ hl1).mono ?_
  rintro e w2 ⟨rfl, hb2⟩
  have hB := below_next (w := w) hb1 hb2
  go_wp2
  go_ret
  exact ⟨rfl, hB⟩
theorem count_step {s : ByteArray} {k : Nat} (h : k < s.size) : ((Lx.ls s).drop k).count 10 = (if s[k].toNat = 10 then 1 else 0) + ((Lx.ls s).drop (k + 1)).count 10 := by
  have h1 : (Lx.ls s).drop k = s[k] :: (Lx.ls s).drop (k + 1) := by
    have := Lx.suf_cons h
    rw [Lx.suf_eq, Lx.suf_eq] at this
    exact this
  rw [h1, List.count_cons]
  by_cases hc : s[k].toNat = 10
  · have : s[k] = 10 := UInt8.toNat.inj hc
    rw [if_pos hc, if_pos (by rw [this]; rfl)]
    omega
  · rw [if_neg hc, if_neg (by intro h2; exact hc (by rw [eq_of_beq h2]; rfl))]
    omega
set_option maxRecDepth 100000 in
set_option maxHeartbeats 4000000 in
theorem opParses_small (s : ByteArray) (w : World) (hl : Laid w) (hs : s.size ≤ 8000) :
    Calls Tryd.prog 4 #[.string s] w fun e w' => e = .returned (.bool true) ∧ Below w.heap.size w w' := by
  have d1 : decide (8000 < (s.size : Int)) = false := decide_eq_false (by omega)
  obtain ⟨R, hR⟩ : ∃ R, R = Ox.parse (Lx.ls s) := ⟨_, rfl⟩
  obtain ⟨l, at_, er⟩ := R
  have hp := Ox.parses (Lx.ls s) (by rw [Lx.ls_length]; exact hs) l at_ er hR.symm
  obtain ⟨N, hN⟩ : ∃ N, N = (Lx.ls s).count 10 := ⟨_, rfl⟩
  rw [← hN] at hp
  have HN : Hid (0 + ((Lx.ls s).drop 0).count 10 = N) := Lib.hid (by rw [hN]; simp)
  have hNs : N ≤ 8000 := by
    rw [hN]
    have := @List.count_le_length _ _ (10 : UInt8) (Lx.ls s)
    rw [Lx.ls_length] at this
    omega
  have HP := Lib.hid hp
  have HR := Lib.hid hR
  have HL := Lib.hid hl
  clear hl hp hR hN
  go_enter Tryd.func4, Tryd.ntmps4
  go_wp2_with fail
  refine (exAwake_any _ HL.out).mono ?_
  rintro e w1 ⟨rfl, hb1⟩
  have hl1 := laid_keep HL.out hb1
  go_wp2_with fail
  refine (parse_any s _ hl1 (by omega) (fun t ht => by
    have := split_mem 10 (Lx.ls s) t ht
    rw [Lx.ls_length] at this
    omega)).mono ?_
  rintro e w2 ⟨v, L, he, hops, hfits, hL, hb2⟩
  rw [← HR.out] at he hL
  simp only at he hL
  subst he
  have hB2 := below_next (w := w) hb1 hb2
  obtain ⟨va, vc, hv⟩ : ∃ a c, v = .slice a L.length c := by
    rcases hops.2 with ⟨h0, a, c, h⟩ | ⟨b, off, c, h, _⟩
    · exact ⟨a, c, by rw [h, h0]; rfl⟩
    · exact ⟨_, _, h⟩
  obtain ⟨n, hn⟩ : ∃ n, n = L.length := ⟨_, rfl⟩
  rw [← hn] at hv
  subst hv
  have hln : n = l.length := by rw [hn, ← hL, List.length_map]
  have HOPS := Lib.hid hops
  have HFITS := Lib.hid hfits
  have HLL := Lib.hid hL
  have HNL := Lib.hid hn
  have HLN := Lib.hid hln
  have HB2 := Lib.hid hB2
  clear hops hfits hL hn hln hB2 hb1 hb2 hl1
  go_wp2
  go_loopw [6, 7] (fun c i wr => ∃ (k cnt : Nat), k ≤ s.size ∧ i = .int .i64 k ∧ c = .int .i64 cnt ∧ cnt ≤ k ∧ wr = w2 ∧ Hid (cnt + ((Lx.ls s).drop k).count 10 = N)) (fun _ i _ => s.size - (intOf i).toNat)
  case atStart => exact ⟨0, 0, by omega, rfl, rfl, by omega, rfl, HN⟩
  case round =>
    obtain ⟨k, cnt, hk, rfl, rfl, hck, rfl, HK⟩ := hrel
    by_cases hlt : k < s.size
    · have hst := count_step hlt
      by_cases hc : s[k].toNat = 10
      · have dc : ((s[k].toNat : Int) == 10) = true := by simp; omega
        rw [if_pos hc] at hst
        have HK' : Hid ((cnt + 1) + ((Lx.ls s).drop (k + 1)).count 10 = N) := Lib.hid (by have h := HK.out; rw [hst] at h; omega)
        clear hst hc HK
        go_wp2
        go_roundw
        case rel => exact ⟨k + 1, cnt + 1, by omega, by go_num, by go_num, by omega, trivial, HK'⟩
        case measure => simp [intOf]; omega
      · have dc : ((s[k].toNat : Int) == 10) = false := by simp; omega
        rw [if_neg hc] at hst
        have HK' : Hid (cnt + ((Lx.ls s).drop (k + 1)).count 10 = N) := Lib.hid (by have h := HK.out; rw [hst] at h; omega)
        clear hst hc HK
        go_wp2
        go_roundw
        case rel => exact ⟨k + 1, cnt, by omega, by go_num, rfl, by omega, trivial, HK'⟩
        case measure => simp [intOf]; omega
    · obtain rfl : k = s.size := by omega
      have hcN : cnt = N := by
        have h := HK.out
        rw [List.drop_eq_nil_of_le (by rw [Lx.ls_length]; exact Nat.le_refl _)] at h
        simpa using h
      subst hcN
      clear HK hlt hk
      by_cases he0 : er = 0
      · subst he0
        obtain ⟨p1, p2, p3, p4⟩ := HP.out.1 rfl
        subst p1
        have hnc : n = cnt := by rw [HLN.out, p2]
        have dn : ((n : Int) == (cnt : Int)) = true := by rw [hnc]; simp
        have hck0 : Ox.check (L.map (·.1)) = 0 := by rw [HLL.out]; exact p3
        have hpr : Ox.print (L.map (·.1)) = Lx.ls s := by rw [HLL.out, Ox.print, if_pos p3]; exact p4
        have HCK := Lib.hid hck0
        have HPR := Lib.hid hpr
        have hL9 : L.length ≤ 1000000 := by rw [← HNL.out]; omega
        have HL9 := Lib.hid hL9
        clear p2 p3 p4 hnc hck0 hpr hL9
        go_wp2_with fail
        refine (rCheck_any _ L _ HOPS.out HFITS.out HL9.out).mono ?_
        rintro e w3 ⟨rfl, hb3⟩
        rw [HCK.out]
        have hops3 := ops_keep HOPS.out hb3
        have hB3 := below_next HB2.out hb3
        go_wp2_with fail
        refine (rPrint_any _ L _ hops3 HFITS.out HL9.out).mono ?_
        rintro e w4 ⟨rfl, hb4⟩
        rw [HPR.out, Lx.bs_ls]
        have hB4 := below_next hB3 hb4
        go_wp2
        go_ret
        exact ⟨rfl, hB4⟩
      · obtain ⟨p1, p2, p3, p4⟩ := HP.out.2 he0
        have hn0 : n = 0 := by rw [HLN.out, p1]; rfl
        subst hn0
        have de : (er == 0) = false := by simpa using he0
        have da : decide (0 ≤ at_) = true := decide_eq_true p2
        have db : decide (at_ ≤ (cnt : Int)) = true := decide_eq_true p3
        rcases p4 with p4 | ⟨p4, p5⟩
        · subst p4
          clear p1 he0
          go_wp2
          go_ret
          exact ⟨rfl, HB2.out⟩
        · subst p4
          have dl : decide (at_ < (cnt : Int)) = true := decide_eq_true p5
          clear p1 he0
          go_wp2
          go_ret
          exact ⟨rfl, HB2.out⟩
theorem opParses_any (s : ByteArray) (w : World) (hl : Laid w) :
    Calls Tryd.prog 4 #[.string s] w fun e w' => e = .returned (.bool true) ∧ Below w.heap.size w w' := by
  by_cases hs : 8000 < s.size
  · exact opParses_great s w hl hs
  · exact opParses_small s w hl (by omega)
set_option maxRecDepth 100000 in
theorem opParses_lifted (os : Os) (started : os.Started) (H : Type) (enc : TypeId × Value → H) :
    ReturnsInHanded {} Tryd.checked os 4 .any (fun w args => (Rows.opParsesSpec.pre enc Tryd.prog Tryd.f4 [] false w args ∧ laidMetH Tryd.prog laidL w) ∧ sizedMet enc Tryd.prog Tryd.f4 (OpenSpec.ofChange Rows.opParsesSpec) false w args)
      (Rows.opParsesSpec.post enc Tryd.prog Tryd.f4 false true false false) := by
  refine returnsInHanded_of_change_and (C := Tryd.checked) (X := fun w _ => laidMetH Tryd.prog laidL w) (fun _ _ _ hh h => h.of_heap hh) opOwn_ started (by kernel_rfl) Tryd.func4
    (ChangeSpec.witness_shaped (enc := enc) (C := Tryd.checked) (os := os) (X := fun w _ => laidMetH Tryd.prog laidL w) false (World.doorLaid Tryd.prog 400 os) #[.string ⟨#[]⟩] 8 rfl (World.shaped_of_RefB (by kernel_rfl) (by kernel_rfl)) (by kernel_rfl) (by kernel_rfl) (by kernel_rfl) (door_met os _)) ?_
  intro W base args ds gs before hval0 hW _ _ hLd _
  have hval : ∀ (j : Nat) t v, Tryd.f4.params[j]? = some t → args[j]? = some v → Value.okWide Tryd.prog W .any base t v := hval0
  have hW' := hW
  obtain ⟨p, q, hA0, hV, rfl, hfz, hnd⟩ := hW
  have hA : DataW.TrodAll enc Tryd.prog W 0 (fun _ => true) true Tryd.f4.params.toList args.toList ds p := hA0
  rw [Tryd.params4] at hA hval
  obtain ⟨v0, vs0, d0, ds0, p0, q0, hargs, rfl, rfl, h0, r0⟩ := trodAll_cons hA
  obtain ⟨rfl, rfl, rfl⟩ := trodAll_nil r0
  obtain rfl : args = #[v0] := by cases args; simp_all
  obtain ⟨rfl, rfl⟩ := trodVars_none hV
  obtain ⟨s, rfl, rfl, rfl, ws⟩ := open_string Tryd.underlying9 (hval 0 9 v0 rfl rfl) h0
  have hl := laid_of hLd
  clear hA0 hval0
  simp only [List.append_nil] at hW'
  refine (opParses_any s W hl).mono fun e W' ⟨he, hg⟩ => ?_
  subst he
  exact ⟨_, rfl, post_below (pa := []) (pv := []) hW' (fun _ _ _ => (trodAll_cons_mk (shut_bool Tryd.underlying4 _) trodAll_mk0)) (fun sp _ => (trodAll_cons_mk (shut_string Tryd.underlying9 ws) trodAll_mk0)) (fun _ _ => rfl) rfl hg (ok_one (by kernel_rfl) rfl (okWide_bool_mk Tryd.underlying4 _))⟩
theorem opParses_row : Rows.OpParsesSaid :=
  OpenClaim.holds_of_wide 4 Tryd.f4 rfl rfl rfl rfl rfl rfl rfl ⟨rfl, rfl, rfl, rfl, rfl⟩ rfl rfl rfl rfl rfl (by kernel_rfl) Tryd.func4 (by kernel_rfl)
    (of_decide_eq_true (by kernel_rfl)) (by unfold Func.isWrapper; first | (rw [if_pos (by decide +kernel)]; kernel_rfl) | (rw [if_neg (by decide +kernel)]; exact ⟨rfl, rfl⟩))
    (fun os started H enc _ => opParses_lifted os started H enc)
theorem opParses_card : Rows.OpParsesCardSaid :=
  Claim7.holds_tied_plain_at .later [] [.data, .data] true _ false
    opParses_row (fun _ h => by cases h) (by kernel_rfl) (fun _ h => by cases h) opParses_row_tie rfl ⟨rfl, rfl⟩ (by kernel_rfl) rfl
    (fun f fn hf hfn => by
      obtain rfl : f = 4 := Option.some.inj ((show Tryd.prog.funcNamed "tome/tomelaw40.OpParses" = some 4 by kernel_rfl).symm.trans hf) |>.symm
      obtain rfl : fn = Tryd.f4 := (Option.some.inj (Tryd.func4.symm.trans hfn)).symm
      exact ⟨by kernel_rfl, fun j t ht => by
        rw [Tryd.params4] at ht
        have hm : t ∈ [9] := by simpa using Array.mem_of_getElem? ht
        have hall : ([9].all fun u => !Tryd.prog.wantsStandIn u) = true := by kernel_rfl
        exact (show Tryd.prog.wantsStandIn t = false by simpa using List.all_eq_true.1 hall t hm)⟩)
    (by kernel_rfl)
#print axioms opParses_card
end Go.Proofs.YtoekddkkjbcicaaDoor
