/- tomelaw25.ExprPrints returns true at every expression whose bulk is at most 1048576: a right expression is printed as the reference prints it, and what is printed is read again as the same expression, or is told to be too deep. Conditions: the bound on what is read, and the two laid tables of the library of Go, tied to the program by the given ties. -/
import Derived.Test.YtakegkongmnekaaGreatDoorP24
import Derived.Test.YtakegkongmnekaaGreatDoorP26
set_option maxRecDepth 20000
set_option linter.unusedVariables false
set_option linter.unusedSimpArgs false
namespace Go.Proofs.YtakegkongmnekaaGreatDoor
open Go.RowKit
open Vm
open Go.ChangeShapes Go.WideShapes Go.ChangeAt Go.ChangeMaps
theorem zku (e : Ex.E) (hr : R64 e) (hs : vsz (encE e) ≤ 1048576) (v : Value) (w : World) (hv : RepV w noA (encE e) v) (h : w.ShapedOpen Tryz.prog) : Calls Tryz.prog 4 #[v] w fun e w' => e = .returned (.bool true) ∧ Below w.heap.size w w' := by
 obtain ⟨m,hm⟩ := g_cell h
 refine Calls.mono (zoU (@znD ⟨m⟩ e hs hr) (fun a ha => by rw [List.mem_singleton.1 ha];exact zhY hv) hm (.cons _ _ _ _ hv .nil)) fun e w' ⟨hb,A',v,he,hv⟩ => ?_
 cases hv
 exact ⟨he,hb⟩
set_option maxRecDepth 100000 in
theorem zh7 (os : Os) (started : os.Started) (H : Type) (enc : TypeId × Value → H) (F : Stop.Interp) :
  ReturnsInHanded {} Tryz.checked os 4 .any ((Rows.OpenSpec.upto Rows.exprPrintsSpec).preRow enc Tryz.prog Tryz.f4 Rows.exprPrintsUptoRow.domain false Rows.exprPrintsUptoRow.laid) (((Rows.OpenSpec.upto Rows.exprPrintsSpec).at F).post enc Tryz.prog Tryz.f4 false true false false) := by
 obtain ⟨ps,hx⟩ : ∃ ps,DataW.whole enc Tryz.prog ((World.laidAll Tryz.prog os laidX).forCall (fun _ _ => 0) ⟨#[],#[exprZ],[]⟩).memory Tryz.f4.params.toList Rows.exprPrintsSpec.vars false #[exprZ].toList 8 = some ([exprD],[],ps) := ⟨[],by kernel_rfl⟩
 refine returnsInHanded_of_row (C := Tryz.checked) (s := Rows.OpenSpec.upto Rows.exprPrintsSpec) xOwn_ started (by kernel_rfl) Tryz.func4
  (witness_row_at (enc := enc) (C := Tryz.checked) false (World.laidAll Tryz.prog os laidX) #[exprZ] (World.laidAll_os _ _ _) (by kernel_rfl) (by kernel_rfl) (by kernel_rfl)
   (OpenSpec.preRow_of_cond 8 hx (by kernel_rfl) (fun k hk => by cases hk;kernel_rfl) (by kernel_rfl) (xlaid_met os _))) ?_
 intro W base args ds gs before hval0 hW _ hcond _ _ hsh _
 have hval : ∀ (j : Nat) t v,Tryz.f4.params[j]? = some t → args[j]? = some v → Value.okWide Tryz.prog W .any base t v := hval0
 have hW' := hW
 obtain ⟨p,q,hA0,hV,rfl,hfz,hnd⟩ := hW
 have hA : DataW.TrodAll enc Tryz.prog W 0 (fun _ => true) true Tryz.f4.params.toList args.toList ds p := hA0
 rw [Tryz.params4] at hA hval
 obtain ⟨v0,vs0,d0,ds0,p0,q0,hargs,rfl,rfl,h0,r0⟩ := trodAll_cons hA
 obtain ⟨rfl,rfl,rfl⟩ := trodAll_nil r0
 obtain rfl : args = #[v0] := by cases args;simp_all
 obtain ⟨rfl,rfl⟩ := trodVars_none hV
 have hc : Rows.uptoSmall H ([d0] ++ []) = true := hcond _ rfl
 have hb : Rows.uptoBulkAll ([d0] ++ []) ≤ 1048576 := of_decide_eq_true hc
 obtain ⟨e,hr,hs,hv⟩ := zsi (hval 0 27 v0 rfl rfl) h0
 simp only [List.append_nil,Rows.uptoBulkAll] at hb
 clear hA0 hval0
 simp only [List.append_nil] at hW'
 have hlt := hW'.lt
 refine (zku e hr (by omega) v0 W hv hsh).mono fun e W' ⟨he,hg⟩ => ?_
 subst he
 exact ⟨_,rfl,zqJ (pa := p0) (pv := []) hW' (fun _ _ _ => (trodAll_cons_mk (shut_bool Tryz.underlying4 _) trodAll_mk0))
  (fun sp hsp => by
   have h := trodAll_cons_mk (Go.WideElems.Trod_stays (by kernel_rfl) (by kernel_rfl) (of_decide_eq_true (by kernel_rfl)) h0 (fun p hp => hg.same (hlt p hp)) (fun p hp => hsp p hp)) trodAll_mk0
   simp only [List.append_nil] at h
   exact h)
  (fun _ _ => rfl) (by simp) hg (ok_one (by kernel_rfl) rfl (okWide_bool_mk Tryz.underlying4 _))⟩
theorem zkt : Rows.ExprPrintsUptoSaid :=
 OpenClaim.holds_of_cond 4 Tryz.f4 rfl rfl rfl rfl rfl rfl rfl ⟨rfl,rfl,rfl,rfl,rfl⟩ rfl rfl rfl rfl rfl (by kernel_rfl) Tryz.func4 (by kernel_rfl)
  (of_decide_eq_true (by kernel_rfl)) (by unfold Func.isWrapper;first | (rw [if_pos (by decide +kernel)];kernel_rfl) | (rw [if_neg (by decide +kernel)];exact ⟨rfl,rfl⟩))
  (fun os started H enc _ F => by rw [OpenClaim.pre_eq_preRow];exact zh7 os started H enc F)
theorem exprPrints_card : Rows.ExprPrintsUptoCardSaid :=
 Claim7.holds_tied_plain_at .later [] [.data,.pinned] true _ true
  zkt (fun _ h => by cases h) (by kernel_rfl) (fun _ h => by cases h) exprPrintsUpto_row_tie rfl ⟨rfl,rfl⟩ (by kernel_rfl) rfl
  (fun f fn hf hfn => by
   obtain rfl : f = 4 := Option.some.inj ((show Tryz.prog.funcNamed "tome/tomelaw25.ExprPrints" = some 4 by kernel_rfl).symm.trans hf) |>.symm
   obtain rfl : fn = Tryz.f4 := (Option.some.inj (Tryz.func4.symm.trans hfn)).symm
   exact ⟨by kernel_rfl,fun j t ht => by
    rw [Tryz.params4] at ht
    have hm : t ∈ [27] := by simpa using Array.mem_of_getElem? ht
    have hall : ([27].all fun u => !Tryz.prog.wantsStandIn u) = true := by kernel_rfl
    exact (show Tryz.prog.wantsStandIn t = false by simpa using List.all_eq_true.1 hall t hm)⟩)
  (by kernel_rfl)
end Go.Proofs.YtakegkongmnekaaGreatDoor
