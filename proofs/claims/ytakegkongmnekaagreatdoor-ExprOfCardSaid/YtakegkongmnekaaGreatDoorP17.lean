/- Part of the proof: see the last text. -/
import Derived.Test.YtakegkongmnekaaGreatDoorP16
set_option maxRecDepth 20000
set_option linter.unusedVariables false
set_option linter.unusedSimpArgs false
namespace Vm
open Go Go.RowKit
def M.plain : M → Bool | .call _ _ _ | .pan _ | .store _ _ _ => false | _ => true
section
variable {P : Program} {G : Nat → V} {n0 : Nat} {Kp : V → (Nat → Ent) → Prop} {Q : X → Prop} {QC : PEx → X → Prop} {x : X} {t : RT} {d : Option Nat} {m : M} {slot : Nat} {g : Option (Nat × Bool)} {av : List Nat}
theorem zk2 (h : Q x) : wpR P G Kp Q .done x := h
theorem zah {a b : RT} (h1 : wpR P G Kp Q a x) (h2 : wpR P G Kp Q b x) : wpR P G Kp Q (.alt a b) x := ⟨h1, h2⟩
theorem zaT {v : V} {U : Upds} (hp : m.plain = true) (hw : wantX x.env g = some true) (hs : semM slot m x.env x.st = some (v, U)) (h : wpR P G Kp Q t (x.put d v U)) : wpR P G Kp Q (.step ⟨d, m, slot, g, av⟩ t) x := by
 have h1 : zb8 P G ⟨d, m, slot, g, av⟩ (wpR P G Kp Q t) Kp x := by
  rw [zfI (fun b f xs e => ?_) (fun y e => ?_) (fun n y z e => ?_) hw, show semM (MO.slot ⟨d, m, slot, g, av⟩) (MO.m ⟨d, m, slot, g, av⟩) x.env x.st = some (v, U) from hs]
  ·exact h
  ·dsimp only at e; subst e; cases hp
  ·dsimp only at e; subst e; cases hp
  ·dsimp only at e; subst e; cases hp
 exact h1
theorem zlX {n : Nat} {y z : O} {v : V} {U : Upds} (hw : wantX x.env g = some true) (hs : semM slot (.store n y z) x.env x.st = some (v, U)) (ha : avoidV (av.map x.env) (U.map (·.1)) = true) (h : wpR P G Kp Q t (x.put d v U)) : wpR P G Kp Q (.step ⟨d, .store n y z, slot, g, av⟩ t) x := by
 have h1 : zb8 P G ⟨d, .store n y z, slot, g, av⟩ (wpR P G Kp Q t) Kp x := by
  unfold zb8
  dsimp only
  rw [hw]
  dsimp only
  rw [hs]
  exact ⟨ha, h⟩
 exact h1
theorem zhd (hw : wantX x.env g = some false) (h : wpR P G Kp Q t (x.put d .undef [])) : wpR P G Kp Q (.step ⟨d, m, slot, g, av⟩ t) x := by
 have h1 : zb8 P G ⟨d, m, slot, g, av⟩ (wpR P G Kp Q t) Kp x := by
  unfold zb8
  dsimp only
  rw [hw]
  exact h
 exact h1
theorem st_pan {y : O} {T : TypeId} {v : V} (hw : wantX x.env g = some true) (hv : zbc (res x.st (y.ev x.env)) = .iface T v) (h : Kp (.iface T v) x.st) : wpR P G Kp Q (.step ⟨d, .pan y, slot, g, av⟩ t) x := by
 have h1 : zb8 P G ⟨d, .pan y, slot, g, av⟩ (wpR P G Kp Q t) Kp x := by
  unfold zb8
  dsimp only
  rw [hw]
  dsimp only
  rw [hv]
  exact h
 exact h1
theorem zk3 {b : Bool} {f : O} {args : List O} {fid : FuncId} {first cap vs : List V} {ids : List Nat} {ents : List Ent} {args' : List V} {R : POut → List Ent → Prop} (hc : zaN P G fid args' ents R) (hw : wantX x.env g = some true) (hf : f.ev x.env = .fn fid first cap)
  (hvs : first ++ args.map (O.ev x.env) ++ cap = vs) (hcx : CallX x.st vs ids ents args') (hb : b = true → ids = []) (ha : avoidV (av.map x.env) ids = true)
  (h : ∀ o es, R o es → Fol ents es → match o with | .ret v => wpR P G Kp Q t (x.put d v (lendU ids es)) | .panic v => Kp v (updL x.st (lendU ids es))) : wpR P G Kp Q (.step ⟨d, .call b f args, slot, g, av⟩ t) x := by
 have h1 : zb8 P G ⟨d, .call b f args, slot, g, av⟩ (wpR P G Kp Q t) Kp x := by
  unfold zb8
  dsimp only
  rw [hw]
  dsimp only
  rw [hf]
  subst hvs
  exact ⟨ids, ents, args', R, hb, ha, hcx, hc, h⟩
 exact h1
theorem zpD (h : QC .normal x) : wpC P G n0 Kp .skip QC x := h
theorem c_ret (h : QC .ret x) : wpC P G n0 Kp .ret QC x := h
theorem zpF {i : Nat} (h : QC (.exit i) x) : wpC P G n0 Kp (.exit i) QC x := h
theorem c_reg (h : wpR P G Kp (QC .normal) t x) : wpC P G n0 Kp (.reg t) QC x := h
theorem c_seq {a b : C} (h : wpC P G n0 Kp a (thenP (wpC P G n0 Kp b QC) QC) x) : wpC P G n0 Kp (.seq a b) QC x := h
theorem zlF {i : Nat} {b : C} (h : wpC P G n0 Kp b (zeJ i QC) x) : wpC P G n0 Kp (.block i b) QC x := h
theorem zlB {b : C} (h : wpC P G n0 Kp b QC x) : wpC P G n0 Kp (.scope b) QC x := h
theorem zmN {o : O} {a b : C} (ho : o.ev x.env = .bool true) (h : wpC P G n0 Kp a QC x) : wpC P G n0 Kp (.cond o a b) QC x := by
 unfold wpC; rw [ho]; exact h
theorem zjK {o : O} {a b : C} (ho : o.ev x.env = .bool false) (h : wpC P G n0 Kp b QC x) : wpC P G n0 Kp (.cond o a b) QC x := by
 unfold wpC; rw [ho]; exact h
theorem ziK {b : C} (live keep : List Nat) (I : X → Prop) (μ : X → Nat) (h0 : okScrub n0 live keep x) (hI : I (scrub live keep x)) (hr : ∀ y, I y → wpC P G n0 Kp b (thenP (fun y' => okScrub n0 live keep y' ∧ I (scrub live keep y') ∧ μ (scrub live keep y') < μ y) QC) y) : wpC P G n0 Kp (.loop b) QC x := ⟨false, live, keep, I, μ, h0, hI, hr⟩
theorem c_loopF {b : C} (live keep : List Nat) (I : X → Prop) (μ : X → Nat) (h0 : okScrub n0 live keep (x.frz true)) (hI : I (scrub live keep (x.frz true))) (hr : ∀ y, I y → wpC P G n0 Kp b (thenP (fun y' => okScrub n0 live keep (y'.frz true) ∧ I (scrub live keep (y'.frz true)) ∧ μ (scrub live keep (y'.frz true)) < μ y) QC) y) : wpC P G n0 Kp (.loop b) QC x := ⟨true, live, keep, I, μ, h0, hI, hr⟩
theorem zox {K : X → Prop} (h : K x) : thenP K QC .normal x := h
theorem zfU {K : X → Prop} (h : QC .ret x) : thenP K QC .ret x := h
theorem zeN {K : X → Prop} {i : Nat} (h : QC (.exit i) x) : thenP K QC (.exit i) x := h
theorem zlj {i : Nat} (h : QC .normal x) : zeJ i QC .normal x := h
theorem zeO {i : Nat} (h : QC .ret x) : zeJ i QC .ret x := h
theorem zfV {i : Nat} (h : QC .normal x) : zeJ i QC (.exit i) x := by simp only [zeJ, if_true]; exact h
theorem zd7 {i j : Nat} (hn : j ≠ i) (h : QC (.exit j) x) : zeJ i QC (.exit j) x := by simp only [zeJ, if_neg hn]; exact h
theorem q_ret {l : List RV} {R : POut → List Ent → Prop} {v : V} {es : List Ent} (hv : outV l x = v) (he : lentOf n0 x.st = es) (hd : zev l x = true) (hl : es.all (Ent.on fun k => decide (k < n0)) = true) (h : R (.ret v) es) : retK n0 l R .ret x := by
 subst hv he
 exact ⟨h, hd, hl⟩
theorem q_normal {l : List RV} {R : POut → List Ent → Prop} {v : V} {es : List Ent} (hv : outV l x = v) (he : lentOf n0 x.st = es) (hd : zev l x = true) (hl : es.all (Ent.on fun k => decide (k < n0)) = true) (h : R (.ret v) es) : retK n0 l R .normal x := by
 subst hv he
 exact ⟨h, hd, hl⟩
theorem q_panic {R : POut → List Ent → Prop} {v : V} {st : Nat → Ent} {es : List Ent} (he : lentOf n0 st = es) (hl : es.all (Ent.on fun k => decide (k < n0)) = true) (h : R (.panic v) es) : panK n0 R v st := by
 subst he
 exact ⟨h, hl⟩
end
theorem zas (a : List (Nat × V)) (b : List (Nat × Ent)) (i : Nat) : (mkX a b).env i = look i a := rfl
theorem zaz (a : List (Nat × V)) (b : List (Nat × Ent)) (i : Nat) : (mkX a b).st i = lookE i b := rfl
theorem zab (i j : Nat) (v : V) (r : List (Nat × V)) : look i ((j, v) :: r) = if i = j then v else look i r := rfl
theorem zae (i : Nat) : look i [] = .any := rfl
theorem zaa (i j : Nat) (v : Ent) (r : List (Nat × Ent)) : lookE i ((j, v) :: r) = if i = j then v else lookE i r := rfl
theorem zac (i : Nat) : lookE i [] = .gone := rfl
theorem zlR (s : Nat → Ent) : updL s [] = s := rfl
theorem zlQ (s : Nat → Ent) (i : Nat) (e : Ent) (j : Nat) : updL s [(i, e)] j = if j = i then e else s j := rfl
theorem updL_two (s : Nat → Ent) (i k : Nat) (e f : Ent) (j : Nat) : updL s [(i, e), (k, f)] j = if j = k then f else if j = i then e else s j := rfl
theorem ev_t (e : Nat → V) (n : Nat) : O.ev e (.t n) = e n := rfl
theorem ev_c (e : Nat → V) (v : V) : O.ev e (.c v) = v := rfl
theorem wrap_i64 {n : Int} (h1 : -9223372036854775808 ≤ n) (h2 : n < 9223372036854775808) : IntKind.wrap .i64 n = n := by
 simp [IntKind.wrap, IntKind.bits, IntKind.signed]
 omega
end Vm
