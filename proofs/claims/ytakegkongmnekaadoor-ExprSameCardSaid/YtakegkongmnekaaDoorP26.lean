/- tomelaw25.ExprSame returns true at any two expressions: how deep an expression is, and whether two are the same but for large and small letters of names, is as the reference says. Condition: the laid tables of the library of Go, tied to the program by the given ties. -/
import Derived.Test.YtakegkongmnekaaDoorP23
import Derived.Test.YtakegkongmnekaaDoorP25
set_option maxRecDepth 20000
set_option linter.unusedVariables false
set_option linter.unusedSimpArgs false
namespace Go.Proofs.YtakegkongmnekaaDoor
open Go.RowKit
open Go.ChangeShapes Go.WideShapes Go.ChangeAt Go.ChangeMaps
theorem zgR {K : Nat} (hK : K ≤ 1152921504606846976) (e f : Ex.E) (hr : R64 K e) (hr' : R64 K f) (v v' : Value) (w : World) (hv : Vm.RepV w noA (encE e) v) (hv' : Vm.RepV w noA (encE f) v') (h : w.ShapedOpen Tryd.prog) : Calls Tryd.prog 3 #[v,v'] w fun e w' => e = .returned (.bool true) ∧ Below w.heap.size w w' := by
 obtain ⟨m,hm⟩ := g_cell h
 refine Calls.mono (zhy (@ziS ⟨m⟩ _ hK e f hr hr') (fun a ha => by
  rcases List.mem_cons.1 ha with rfl | ha
  ·exact Vm.zcE hv
  ·rw [List.mem_singleton.1 ha];exact Vm.zcE hv') hm (.cons _ _ _ _ hv (.cons _ _ _ _ hv' .nil))) fun e w' ⟨hb,A',v,he,hv⟩ => ?_
 cases hv
 exact ⟨he,hb⟩
set_option maxRecDepth 100000 in
theorem zeA (os : Os) (started : os.Started) (H : Type) (enc : TypeId × Value → H) :
  ReturnsInHanded {} Tryd.checked os 3 .any (fun w args => (Rows.exprSameSpec.pre enc Tryd.prog Tryd.f3 [] false w args ∧ laidMetH Tryd.prog ziX w) ∧ sizedMet enc Tryd.prog Tryd.f3 (OpenSpec.ofChange Rows.exprSameSpec) false w args)
   (Rows.exprSameSpec.post enc Tryd.prog Tryd.f3 false true false false) := by
 refine zdx (C := Tryd.checked) (X := fun w _ => laidMetH Tryd.prog ziX w) (fun _ _ _ hh h => h.of_heap hh) xOwn_ started (by kernel_rfl) Tryd.func3
  (ChangeSpec.witness_shaped (enc := enc) (C := Tryd.checked) (os := os) (X := fun w _ => laidMetH Tryd.prog ziX w) false (World.laidAll Tryd.prog os ziX) #[exprZ,exprZ] 8 (World.laidAll_os _ _ _) (World.shaped_of_ZipB (by kernel_rfl) (by kernel_rfl)) (by kernel_rfl) (by kernel_rfl) (by kernel_rfl) (zjb os _)) ?_
 intro W base args ds gs before hval0 hW _ hsz0 _ hsh _
 have hval : ∀ (j : Nat) t v,Tryd.f3.params[j]? = some t → args[j]? = some v → Value.okWide Tryd.prog W .any base t v := hval0
 have hsz : (DataW.weightsEach Tryd.prog (Tryd.f3.params.toList ++ Rows.exprSameSpec.plain.varTypes Tryd.prog) (ds ++ gs)).all (· ≤ reachBytes) = true := hsz0
 have hW' := hW
 obtain ⟨p,q,hA0,hV,rfl,hfz,hnd⟩ := hW
 have hA : DataW.TrodAll enc Tryd.prog W 0 (fun _ => true) true Tryd.f3.params.toList args.toList ds p := hA0
 rw [Tryd.params3] at hA hval hsz
 obtain ⟨v0,vs0,d0,ds0,p0,q0,hargs,rfl,rfl,h0,r0⟩ := trodAll_cons hA
 obtain ⟨v1,vs1,d1,ds1,p1,q1,rfl,rfl,rfl,h1,r1⟩ := trodAll_cons r0
 obtain ⟨rfl,rfl,rfl⟩ := trodAll_nil r1
 obtain rfl : args = #[v0,v1] := by cases args;simp_all
 obtain ⟨rfl,rfl⟩ := trodVars_none hV
 obtain ⟨e,hr,_,hv⟩ := zgI (K := reachBytes) (hval 0 26 v0 rfl rfl) h0 (fun m hm => of_decide_eq_true (List.all_eq_true.1 hsz m (DataW.weights_mem_each (j := 0) (t := 26) rfl rfl m hm)))
 obtain ⟨f,hr',_,hv'⟩ := zgI (K := reachBytes) (hval 1 26 v1 rfl rfl) h1 (fun m hm => of_decide_eq_true (List.all_eq_true.1 hsz m (DataW.weights_mem_each (j := 1) (t := 26) rfl rfl m hm)))
 clear hA0 hval0
 simp only [List.append_nil] at hW'
 have hlt := hW'.lt
 refine (zgR (by decide) e f hr hr' v0 v1 W hv hv' hsh).mono fun e W' ⟨he,hg⟩ => ?_
 subst he
 exact ⟨_,rfl,ziP (pa := p0 ++ p1) (pv := []) hW' (fun _ _ _ => (trodAll_cons_mk (shut_bool Tryd.underlying4 _) trodAll_mk0))
  (fun sp hsp => by
   have h := trodAll_cons_mk (Go.WideElems.Trod_stays (by kernel_rfl) (by kernel_rfl) (of_decide_eq_true (by kernel_rfl)) h0 (fun p hp => hg.same (hlt p (List.mem_append_left _ hp))) (fun p hp => hsp p (List.mem_append_left _ hp))) (trodAll_cons_mk (Go.WideElems.Trod_stays (by kernel_rfl) (by kernel_rfl) (of_decide_eq_true (by kernel_rfl)) h1 (fun p hp => hg.same (hlt p (List.mem_append_right _ hp))) (fun p hp => hsp p (List.mem_append_right _ hp))) trodAll_mk0)
   simp only [List.append_nil] at h
   exact h)
  (fun _ _ => rfl) (by simp) hg (ok_one (by kernel_rfl) rfl (okWide_bool_mk Tryd.underlying4 _))⟩
theorem zgQ : Rows.ExprSameSaid :=
 OpenClaim.holds_of_wide 3 Tryd.f3 rfl rfl rfl rfl rfl rfl rfl ⟨rfl,rfl,rfl,rfl,rfl⟩ rfl rfl rfl rfl rfl (by kernel_rfl) Tryd.func3 (by kernel_rfl)
  (of_decide_eq_true (by kernel_rfl)) (by unfold Func.isWrapper;first | (rw [if_pos (by decide +kernel)];kernel_rfl) | (rw [if_neg (by decide +kernel)];exact ⟨rfl,rfl⟩))
  (fun os started H enc _ => zeA os started H enc)
theorem exprSame_card : Rows.ExprSameCardSaid :=
 Claim7.holds_tied_plain_at .later [] [.data,.pinned] true _ true
  zgQ (fun _ h => by cases h) (by kernel_rfl) (fun _ h => by cases h) exprSame_row_tie rfl ⟨rfl,rfl⟩ (by kernel_rfl) rfl
  (fun f fn hf hfn => by
   obtain rfl : f = 3 := Option.some.inj ((show Tryd.prog.funcNamed "tome/tomelaw25.ExprSame" = some 3 by kernel_rfl).symm.trans hf) |>.symm
   obtain rfl : fn = Tryd.f3 := (Option.some.inj (Tryd.func3.symm.trans hfn)).symm
   exact ⟨by kernel_rfl,fun j t ht => by
    rw [Tryd.params3] at ht
    have hm : t ∈ [26,26] := by simpa using Array.mem_of_getElem? ht
    have hall : ([26,26].all fun u => !Tryd.prog.wantsStandIn u) = true := by kernel_rfl
    exact (show Tryd.prog.wantsStandIn t = false by simpa using List.all_eq_true.1 hall t hm)⟩)
  (by kernel_rfl)
end Go.Proofs.YtakegkongmnekaaDoor
