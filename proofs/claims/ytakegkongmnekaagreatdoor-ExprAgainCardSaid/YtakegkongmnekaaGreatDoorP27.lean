/- tomelaw25.ExprAgain returns true at every text: what is parsed is right and not too deep; printed and parsed again it is the same, and printed to the same text. Condition: the two laid tables of the library of Go, tied to the program by the given ties. -/
import Derived.Test.YtakegkongmnekaaGreatDoorP24
import Derived.Test.YtakegkongmnekaaGreatDoorP26
set_option maxRecDepth 20000
set_option linter.unusedVariables false
set_option linter.unusedSimpArgs false
namespace Go.Proofs.YtakegkongmnekaaGreatDoor
open Go.RowKit
open Go.ChangeShapes Go.WideShapes Go.ChangeAt Go.ChangeMaps
theorem zj7 (s : ByteArray) (w : World) (h : w.ShapedOpen Tryz.prog) : Calls Tryz.prog 5 #[.string s] w fun e w' => e = .returned (.bool true) ∧ Below w.heap.size w w' := by
 obtain ⟨m, hm⟩ := g_cell h
 have hs : s = Lx.bs (Lx.ls s) := (Lx.zke s).symm
 rw [hs]
 refine Calls.mono (zmq (@zmh ⟨m⟩ (Lx.ls s)) (fun a ha => by rw [List.mem_singleton.1 ha]; rfl) hm (.cons _ _ _ _ (.str _) .nil)) fun e w' ⟨hb, A', v, he, hv⟩ => ?_
 cases hv
 exact ⟨he, hb⟩
theorem zgw (os : Os) (started : os.Started) (H : Type) (enc : TypeId × Value → H) :
  ReturnsInHanded {} Tryz.checked os 5 .any (fun w args => (Rows.exprAgainSpec.pre enc Tryz.prog Tryz.f5 [] false w args ∧ laidMetH Tryz.prog zoi w) ∧ sizedMet enc Tryz.prog Tryz.f5 (OpenSpec.ofChange Rows.exprAgainSpec) false w args)
   (Rows.exprAgainSpec.post enc Tryz.prog Tryz.f5 false true false false) := by
 refine zf2 (C := Tryz.checked) (X := fun w _ => laidMetH Tryz.prog zoi w) (fun _ _ _ hh h => h.of_heap hh) xOwn_ started (by kernel_rfl) Tryz.func5
  (ChangeSpec.witness_shaped (enc := enc) (C := Tryz.checked) (os := os) (X := fun w _ => laidMetH Tryz.prog zoi w) false (World.laidAll Tryz.prog os zoi) #[.string ⟨#[]⟩] 8 (World.laidAll_os _ _ _) (World.shaped_of_ZipB (by kernel_rfl) (by kernel_rfl)) (by kernel_rfl) (by kernel_rfl) (by kernel_rfl) (zoC os _)) ?_
 intro W base args ds gs before hval0 hW _ _ _ hsh _
 have hval : ∀ (j : Nat) t v, Tryz.f5.params[j]? = some t → args[j]? = some v → Value.okWide Tryz.prog W .any base t v := hval0
 have hW' := hW
 obtain ⟨p, q, hA0, hV, rfl, hfz, hnd⟩ := hW
 have hA : DataW.TrodAll enc Tryz.prog W 0 (fun _ => true) true Tryz.f5.params.toList args.toList ds p := hA0
 rw [Tryz.params5] at hA hval
 obtain ⟨v0, vs0, d0, ds0, p0, q0, hargs, rfl, rfl, h0, r0⟩ := trodAll_cons hA
 obtain ⟨rfl, rfl, rfl⟩ := trodAll_nil r0
 obtain rfl : args = #[v0] := by cases args; simp_all
 obtain ⟨rfl, rfl⟩ := trodVars_none hV
 obtain ⟨s, rfl, rfl, rfl, ws⟩ := open_string Tryz.underlying9 (hval 0 9 v0 rfl rfl) h0
 clear hA0 hval0
 simp only [List.append_nil] at hW'
 refine (zj7 s W hsh).mono fun e W' ⟨he, hg⟩ => ?_
 subst he
 exact ⟨_, rfl, zn8 (pa := []) (pv := []) hW' (fun _ _ _ => (trodAll_cons_mk (shut_bool Tryz.underlying4 _) trodAll_mk0)) (fun sp _ => (trodAll_cons_mk (shut_string Tryz.underlying9 ws) trodAll_mk0)) (fun _ _ => rfl) rfl hg (ok_one (by kernel_rfl) rfl (okWide_bool_mk Tryz.underlying4 _))⟩
theorem zj6 : Rows.ExprAgainSaid :=
 OpenClaim.holds_of_wide 5 Tryz.f5 rfl rfl rfl rfl rfl rfl rfl ⟨rfl, rfl, rfl, rfl, rfl⟩ rfl rfl rfl rfl rfl (by kernel_rfl) Tryz.func5 (by kernel_rfl)
  (of_decide_eq_true (by kernel_rfl)) (by unfold Func.isWrapper; first | (rw [if_pos (by decide +kernel)]; kernel_rfl) | (rw [if_neg (by decide +kernel)]; exact ⟨rfl, rfl⟩))
  (fun os started H enc _ => zgw os started H enc)
theorem exprAgain_card : Rows.ExprAgainCardSaid :=
 Claim7.holds_tied_plain_at .later [] [.data, .pinned] true _ true
  zj6 (fun _ h => by cases h) (by kernel_rfl) (fun _ h => by cases h) exprAgain_row_tie rfl ⟨rfl, rfl⟩ (by kernel_rfl) rfl
  (fun f fn hf hfn => by
   obtain rfl : f = 5 := Option.some.inj ((show Tryz.prog.funcNamed "tome/tomelaw25.ExprAgain" = some 5 by kernel_rfl).symm.trans hf) |>.symm
   obtain rfl : fn = Tryz.f5 := (Option.some.inj (Tryz.func5.symm.trans hfn)).symm
   exact ⟨by kernel_rfl, fun j t ht => by
    rw [Tryz.params5] at ht
    have hm : t ∈ [9] := by simpa using Array.mem_of_getElem? ht
    have hall : ([9].all fun u => !Tryz.prog.wantsStandIn u) = true := by kernel_rfl
    exact (show Tryz.prog.wantsStandIn t = false by simpa using List.all_eq_true.1 hall t hm)⟩)
  (by kernel_rfl)
end Go.Proofs.YtakegkongmnekaaGreatDoor
