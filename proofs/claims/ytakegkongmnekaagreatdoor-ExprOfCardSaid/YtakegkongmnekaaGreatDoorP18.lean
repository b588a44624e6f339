/- Part of the proof: see the last text. -/
import Derived.Test.YtakegkongmnekaaGreatDoorP17
set_option maxRecDepth 20000
set_option linter.unusedVariables false
set_option linter.unusedSimpArgs false
namespace Vm
open Go Go.RowKit
section
variable {P : Program} {G : Nat → V} {n0 : Nat} {Kp : V → (Nat → Ent) → Prop} {Q : X → Prop} {x : X} {t : RT} {d : Option Nat} {slot : Nat} {g : Option (Nat × Bool)} {av : List Nat}
theorem st_callp (i : Nat) {b : Bool} {f : O} {args : List O} {fid : FuncId} {first cap vs : List V} {e : Ent} {args' : List V} {R : POut → List Ent → Prop} (hc : zaN P G fid args' [e] R) (hw : wantX x.env g = some true) (hf : f.ev x.env = .fn fid first cap)
  (hvs : first ++ args.map (O.ev x.env) ++ cap = vs) (hst : x.st i = e.ren (nameOf [i])) (hg : e.isGone = false) (heon : e.on (fun k => decide (k < 1)) = true) (heq : vs.map (argV x.st) = args'.map (V.ren (nameOf [i]))) (hon : args'.all (V.on fun k => decide (k < 1)) = true)
  (hm : vs.any (fun v => !(v.on fun j => j != i)) = true) (hb : b = false) (ha : avoidV (av.map x.env) [i] = true)
  (h : ∀ o e', R o [e'] → match o with | .ret v => wpR P G Kp Q t (x.put d v [(i, e'.ren (nameOf [i]))]) | .panic v => Kp v (updL x.st [(i, e'.ren (nameOf [i]))])) : wpR P G Kp Q (.step ⟨d, .call b f args, slot, g, av⟩ t) x := by
 have hk0 : ∀ k, k < ([i] : List Nat).length → k = 0 := fun k hk => by simpa using hk
 refine zk3 (ids := [i]) (ents := [e]) hc hw hf hvs ⟨⟨by simp, rfl, fun k hk => ?_, fun k hk => ?_, fun e' he' => ?_⟩, heq, hon, fun k hk => ?_⟩ (by rw [hb]; intro h; cases h) ha (fun o es ho hfo => ?_)
 ·rw [hk0 k hk]; exact hst
 ·rw [hk0 k hk]
  intro hh
  have : e = .gone := hh
  rw [this] at hg
  cases hg
 ·simp at he'; subst he'; exact heon
 ·rw [hk0 k hk]
  left
  obtain ⟨v, hv, hv2⟩ := List.any_eq_true.1 hm
  exact ⟨v, hv, by simpa [nameOf] using hv2⟩
 ·have hl := hfo.len
  match es, hl, ho with
  | [e'], _, ho => exact h o e' ho
theorem ziZ {b : Bool} {f : O} {args : List O} {fid : FuncId} {first cap vs : List V} {args' : List V} {R : POut → List Ent → Prop} (hc : zaN P G fid args' [] R) (hw : wantX x.env g = some true) (hf : f.ev x.env = .fn fid first cap)
  (hvs : first ++ args.map (O.ev x.env) ++ cap = vs) (heq : vs.map (argV x.st) = args'.map (V.ren (nameOf []))) (hon : args'.all (V.on fun k => decide (k < 0)) = true)
  (h : ∀ o, R o [] → match o with | .ret v => wpR P G Kp Q t (x.put d v []) | .panic v => Kp v x.st) : wpR P G Kp Q (.step ⟨d, .call b f args, slot, g, av⟩ t) x := by
 refine zk3 (ids := []) (ents := []) hc hw hf hvs ⟨⟨by simp, rfl, fun k hk => by simp at hk, fun k hk => by simp at hk, fun e' he' => by simp at he'⟩, heq, hon, fun k hk => by simp at hk⟩ (fun _ => rfl) (List.all_eq_true.2 fun v _ => by cases v <;> rfl) (fun o es ho hfo => ?_)
 have hl := hfo.len
 match es, hl, ho with
 | [], _, ho => exact h o ho
end
def envL (e : Nat → V) : List Nat → List (Nat × V) | [] => [] | t :: r => (t, e t) :: envL e r
def stL (e : Nat → Ent) : List Nat → List (Nat × Ent) | [] => [] | t :: r => (t, e t) :: stL e r
def onL (p : Nat → Bool) (e : Nat → V) : List Nat → Prop | [] => True | t :: r => (e t).on p = true ∧ onL p e r
def onE (p : Nat → Bool) (e : Nat → Ent) : List Nat → Prop | [] => True | t :: r => (e t).on p = true ∧ onE p e r
theorem zbi (live keep : List Nat) (x : X) : scrub live keep x = mkX (envL x.env live) (stL x.st keep) := by
 have h1 : ∀ (e : Nat → V) (l : List Nat), (l.map fun t => (t, e t)) = envL e l := fun e l => by induction l with | nil => rfl | cons t r ih => simp [envL, ih]
 have h2 : ∀ (e : Nat → Ent) (l : List Nat), (l.map fun t => (t, e t)) = stL e l := fun e l => by induction l with | nil => rfl | cons t r ih => simp [stL, ih]
 rw [← h1, ← h2]
 rfl
theorem ziA {n0 : Nat} {live keep : List Nat} {x : X} (h1 : (List.range n0).all (keep.contains ·) = true) (h2 : onL (keep.contains ·) x.env live) (h3 : onE (keep.contains ·) x.st keep) : okScrub n0 live keep x := by
 refine ⟨h1, ?_, ?_⟩
 ·clear h1 h3
  generalize (keep.contains ·) = p at *
  induction live with
  | nil => rfl
  | cons t r ih => simp only [List.all_cons, Bool.and_eq_true]; exact ⟨h2.1, ih h2.2⟩
 ·clear h1 h2
  generalize (keep.contains ·) = p at *
  induction keep with
  | nil => rfl
  | cons t r ih => simp only [List.all_cons, Bool.and_eq_true]; exact ⟨h3.1, ih h3.2⟩
theorem zcW (p : Nat → Bool) (id off : Nat) : V.on p (.ptr id off) = p id := rfl
theorem zdt (p : Nat → Bool) (id n : Nat) : V.on p (.row id n) = p id := rfl
theorem zdu (p : Nat → Bool) (k : IntKind) (n : Int) : V.on p (.int k n) = true := rfl
theorem zds (p : Nat → Bool) (s : List UInt8) : V.on p (.str s) = true := rfl
theorem zcn (p : Nat → Bool) (b : Bool) : V.on p (.bool b) = true := rfl
theorem zck (p : Nat → Bool) (l : List V) : V.on p (.list l) = true := rfl
theorem zdx (p : Nat → Bool) (l : List V) : V.on p (.agg l) = true := rfl
theorem zdr (p : Nat → Bool) (l : List V) : V.on p (.tup l) = true := rfl
theorem zci (p : Nat → Bool)  : V.on p (.nils) = true := rfl
theorem zcj (p : Nat → Bool)  : V.on p (.nilp) = true := rfl
theorem zbt (p : Nat → Bool)  : V.on p (.niface) = true := rfl
theorem zbL (p : Nat → Bool) (T : TypeId) (v : V) : V.on p (.iface T v) = true := rfl
theorem zfZ (p : Nat → Bool) (v : V) (o : Nat) : V.on p (.ip v o) = true := rfl
theorem zbK (p : Nat → Bool)  : V.on p (.undef) = true := rfl
theorem zdw (p : Nat → Bool)  : V.on p (.any) = true := rfl
theorem zf0 (p : Nat → Bool) (f : FuncId) (a b : List V) : V.on p (.fn f a b) = (a.all (onS p) && b.all (onS p)) := rfl
theorem zdv (p : Nat → Bool) (T : TypeId) (cs : List V) : Ent.on p (.blk T cs) = cs.all (V.on p) := rfl
theorem zcm (p : Nat → Bool) (T z : Nat) (xs : List V) : Ent.on p (.row T z xs) = true := rfl
theorem zcl (p : Nat → Bool) : Ent.on p .gone = true := rfl
theorem zgU (x : X) : outV [] x = .tup [] := rfl
theorem zgT (x : X) (a : RV) : outV [a] x = rvV x a := rfl
theorem zgS (x : X) (a b : RV) : outV [a, b] x = .tup [rvV x a, rvV x b] := rfl
theorem zch (x : X) (a b c : RV) : outV [a, b, c] x = .tup [rvV x a, rvV x b, rvV x c] := rfl
theorem zfd (x : X) : zev [] x = true := rfl
theorem zfc (x : X) (a : RV) : zev [a] x = (rvV x a).data := rfl
theorem zfb (x : X) (a b : RV) : zev [a, b] x = ((rvV x a).data && ((rvV x b).data && true)) := rfl
theorem zcU (x : X) (a b c : RV) : zev [a, b, c] x = ((rvV x a).data && ((rvV x b).data && ((rvV x c).data && true))) := rfl
theorem zgi (x : X) (t : Nat) : rvV x (.tmp t) = zbc (res x.st (x.env t)) := rfl
theorem zdc (x : X) (t : Nat) (ag : Bool) (n : Nat) : rvV x (.cell t ag n) = match semM 0 (.load ag n (.t t)) x.env x.st with | some (v, _) => zbc (res x.st v) | none => .any := rfl
theorem zjB (st : Nat → Ent) : lentOf 1 st = [st 0] := rfl
theorem zjC (st : Nat → Ent) : lentOf 0 st = [] := rfl
theorem zjA (st : Nat → Ent) : lentOf 2 st = [st 0, st 1] := rfl
end Vm
