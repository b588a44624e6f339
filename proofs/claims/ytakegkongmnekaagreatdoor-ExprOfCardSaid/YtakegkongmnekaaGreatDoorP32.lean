/- Part of the proof: see the last text. -/
import Derived.Test.YtakegkongmnekaaGreatDoorP23
set_option maxRecDepth 20000
set_option linter.unusedVariables false
set_option linter.unusedSimpArgs false
namespace Vm
open Go Go.RowKit
def sub : List Bool → Code → Code
 | [], c => c
 | false :: p, .seq a _ => sub p a
 | true :: p, .seq _ b => sub p b
 | false :: p, .cond _ a _ => sub p a
 | true :: p, .cond _ _ b => sub p b
 | _ :: p, .block _ b => sub p b
 | _ :: p, .loop b => sub p b
 | _ :: p, .scope b => sub p b
 | _, _ => .skip
def zcH (fn : Func) : Code := fn.body.getD .skip
def Fin0 (w : World) (A : Nat → Nat → Prop) (G : Nat → V) (H : Nat → Value) (R : POut → Prop) (e : Ending) (w' : World) : Prop :=
 ∃ o H' A', R o ∧ Mem ⟨w, A, 0, H, entF [], G, 0, []⟩ (entF []) w' H' A' ∧ OutRep w' A' o e
theorem zkp {P : Program} {G : Nat → V} {f : FuncId} {fn : Func} {code : Code} {args : List V} {R : POut → Prop} (hf : P.funcs[f]? = some fn) (hname : (fn.name == "runtime.NumGoroutine") = false) (hb : fn.body = some code) (ha : args.length ≤ fn.ntmps)
  (h : ∀ (w : World) (H : Nat → Value) (A : Nat → Nat → Prop) (a : Act), SimH ⟨w, A, 0, H, entF [], G, fn.ntmps, []⟩ (zdT args []) a w H A → code.wp P (bodyPostD P fn (Fin0 w A G H R)) a w) : zaN P G f args [] fun o es => R o ∧ es = [] := by
 refine ⟨by simp only [zfl, hf, Bool.and_eq_true, Bool.not_eq_true']; exact ⟨by simpa using hname, by rw [hb]; rfl⟩, fun w H A vals m hv => ?_⟩
 have hlen := zb1 hv
 have hva : vals.size = args.length := by simpa using hlen.symm
 have hst : (zdT args []).st = entF [] := funext fun id => zkC [] id
 refine Calls.mono (calls_of_wp_defers (R := Fin0 w A G H R) hf hb (h w H A _ ?_)) ?_
 ·have hm : Mem ⟨w, A, 0, H, entF [], G, fn.ntmps, []⟩ (zdT args []).st w H A := by rw [hst]; exact m.forN fn.ntmps
  refine hm.sim (by simp; show vals.size + (fn.ntmps - vals.size) = fn.ntmps; omega) rfl (fun t ht => ?_)
  rw [hst]
  have he : (zdT args []).env t = args.getD t .any := zmx args t
  rw [he]
  by_cases hta : t < args.length
  ·obtain ⟨u, h3, h4⟩ := zd5 hv t args[t] (List.getElem?_eq_getElem hta)
   have h5 : (vals ++ Array.replicate (fn.ntmps - vals.size) Go.undef).getD t Go.undef = u := by
    have h6 : vals[t]? = some u := by simpa using h3
    simp only [Array.getD_eq_getD_getElem?]
    rw [Array.getElem?_append_left (by omega), h6]
    rfl
   simp only []
   rw [h5]
   simpa [List.getElem?_eq_getElem hta] using h4
  ·have : args.getD t .any = .any := by simp [List.getElem?_eq_none (Nat.le_of_not_lt hta)]
   rw [this]; trivial
 ·rintro e w' ⟨o, H', A', h1, h2, h3⟩
  exact ⟨o, [], H', A', ⟨h1, rfl⟩, rfl, fun e he => by simp at he, h2, h3⟩
theorem ziO {P : Program} {c : Ctx} {x : X} {a : Act} {w : World} {H : Nat → Value} {A : Nat → Nat → Prop} {code : Code} {s s' : Nat} {t : C} {K : X → Prop} {Kw : Act → World → Prop} {Q : Exit → Act → World → Prop} (hE : ∀ id, c.E0 id ≠ .gone → id < c.n0) (hs : c.n0 ≤ s)
  (hc : compC P c.N c.G s code = some (t, s')) (h : SimH c x a w H A) (hw : wpC P c.G c.n0 (fun _ _ => False) t (fun e y => e = .normal ∧ K y) x) (hK : ∀ y a' w' H' A', SimH c y a' w' H' A' → K y → Kw a' w') : code.wp P (Exit.then Kw Q) a w := by
 refine Code.wp_mono ?_ (zjH (c := c) (Kp := fun _ _ => False) (Q := fun e y => e = .normal ∧ K y) (fun _ _ _ _ h => h) hE hs hc h hw)
 rintro (_ | i | _ | _ | ch | _) a' w' hq
 ·obtain ⟨y, H2, A2, hx, -, hq⟩ := hq
  exact hK _ _ _ _ _ hx hq
 ·obtain ⟨y, H2, A2, hx, hq, -⟩ := hq
  cases hq
 ·exact hq.elim
 ·obtain ⟨y, H2, A2, hx, hq, -⟩ := hq
  cases hq
 ·obtain ⟨y, H2, A2, v, xv, -, -, -, hq⟩ := hq
  exact hq.elim
 ·exact hq.elim
theorem znF {P : Program} {c : Ctx} {x : X} {a : Act} {w : World} {H : Nat → Value} {A : Nat → Nat → Prop} {code : Code} {s s' : Nat} {t : C} {K : X → Prop} {Q : Exit → Act → World → Prop} (hE : ∀ id, c.E0 id ≠ .gone → id < c.n0) (hs : c.n0 ≤ s)
  (hc : compC P c.N c.G s code = some (t, s')) (h : SimH c x a w H A) (hw : wpC P c.G c.n0 (fun _ _ => False) t (fun e y => e = .ret ∧ K y) x) (hK : ∀ y a' w' H' A', SimH c y a' w' H' A' → K y → Q .ret a' w') : code.wp P Q a w := by
 refine Code.wp_mono ?_ (zjH (c := c) (Kp := fun _ _ => False) (Q := fun e y => e = .ret ∧ K y) (fun _ _ _ _ h => h) hE hs hc h hw)
 rintro (_ | i | _ | _ | ch | _) a' w' hq
 ·obtain ⟨y, H2, A2, hx, hq, -⟩ := hq
  cases hq
 ·obtain ⟨y, H2, A2, hx, hq, -⟩ := hq
  cases hq
 ·exact hq.elim
 ·obtain ⟨y, H2, A2, hx, -, hq⟩ := hq
  exact hK _ _ _ _ _ hx hq
 ·obtain ⟨y, H2, A2, v, xv, -, -, -, hq⟩ := hq
  exact hq.elim
 ·exact hq.elim
theorem wp_defer {P : Program} {code : Code} {id d1 : Nat} {o1 o2 : Oper} {fid : FuncId} {ts : Array Operand} {cl : Call} {a : Act} {w : World} {Kw : Act → World → Prop} {Q : Exit → Act → World → Prop} (hcode : code = .region id #[o1, o2] false)
  (h1 : o1.dst = some d1) (h2 : o1.op = .makeFunc (.func fid) #[] ts) (h3 : o1.guard = none) (h4 : o2.dst = none) (h5 : o2.op = .defer cl) (h6 : o2.guard = none) (h7 : cl.callee = .value (.tmp d1)) (h8 : cl.args = #[]) (hd : d1 < a.tmps.size)
  (hK : Kw { a.put (some d1) (.func (.func fid) #[] (ts.map a.eval)) with defers := { target := .fn (.func fid) (ts.map a.eval), args := #[] } :: a.defers } w) : code.wp P (Exit.then Kw Q) a w := by
 subst hcode
 obtain ⟨dst1, op1, ty1, pos1, af1, g1⟩ := o1
 obtain ⟨dst2, op2, ty2, pos2, af2, g2⟩ := o2
 obtain ⟨ca, ar, at1⟩ := cl
 dsimp only at h1 h2 h3 h4 h5 h6 h7 h8
 subst h1 h2 h3 h4 h5 h6 h7 h8
 refine wp_region_list ?_
 have hmf : ∀ (fn : Fn) (first cap : Array Value) (w : World), (Instr.makeFunc fn first cap).run P w = .ok (.func fn first cap) w := fun _ _ _ _ => rfl
 have hev : (a.put (some d1) (.func (.func fid) #[] (ts.map a.eval))).eval (.tmp d1) = .func (.func fid) #[] (ts.map a.eval) := by
  have := zje a (some d1) (.func (.func fid) #[] (ts.map a.eval)) d1
  rw [if_pos ⟨rfl, hd⟩] at this
  exact this
 simp only [wpList, Region.wanted, if_true]
 refine .inl ?_
 unfold Oper.wp
 rw [show (execOp a.eval { dst := some d1, op := Op.makeFunc (Fn.func fid) #[] ts, type := ty1, pos := pos1, after := af1, guard := none }).run P w = .ok (.value (.func (.func fid) #[] (ts.map a.eval))) w by simp [execOp, hmf], Oper.upon_value]
 refine .inl ?_
 rw [show (execOp (a.put (some d1) (.func (.func fid) #[] (ts.map a.eval))).eval { dst := none, op := Op.defer { callee := Callee.value (Operand.tmp d1), args := #[], argTypes := at1 }, type := ty2, pos := pos2, after := af2, guard := none }).run P w = .ok (.defer { target := .fn (.func fid) (ts.map a.eval), args := #[] }) w by
  simp [execOp, resolve, Deferred.ofValue, hev], Oper.upon_defer]
 exact hK
theorem wp_call3 {P : Program} {c : Ctx} {x : X} {a : Act} {w : World} {H : Nat → Value} {A : Nat → Nat → Prop} {code : Code} {id d1 d2 src i slot : Nat} {o1 o2 o3 : Oper} {fid : FuncId} {cl : Call} {e : Ent} {m3 : M} {R : POut → List Ent → Prop} {Kw : Act → World → Prop} {Q : Exit → Act → World → Prop}
  (hcode : code = .region id #[o1, o2, o3] false)
  (h1 : o1.dst = some d1) (h1o : o1.op = .move (.tmp src)) (g1 : o1.guard = none)
  (h2 : o2.dst = some d2) (h2o : o2.op = .call cl) (h2c : cl.callee = .value (.func fid)) (h2a : cl.args = #[.tmp d1]) (g2 : o2.guard = none)
  (h3 : o3.dst = none) (g3 : o3.guard = none) (h3m : compM P c.N c.G o3.op = some m3) (hslot : c.n0 ≤ slot)
  (h : SimH c x a w H A) (hd1 : d1 < c.N) (hsrc : src < c.N) (hx : x.env src = .ptr i 0) (hl : Lends (x.put (some d1) (.ptr i 0) []).st [i] [e]) (hc : zaN P c.G fid [.ptr 0 0] [e] R)
  (hret : ∀ v e', R (.ret v) [e'] → ∃ v3 U3, semM slot m3 ((x.put (some d1) (.ptr i 0) []).put (some d2) v (lendU [i] [e'])).env ((x.put (some d1) (.ptr i 0) []).put (some d2) v (lendU [i] [e'])).st = some (v3, U3) ∧
   ∀ a' w' H' A', SimH c (((x.put (some d1) (.ptr i 0) []).put (some d2) v (lendU [i] [e'])).put none v3 U3) a' w' H' A' → Kw a' w')
  (hpan : ∀ v e', R (.panic v) [e'] → ∀ xv w' H' A', RepV w' A' v xv → SimH c ((x.put (some d1) (.ptr i 0) []).put none .undef (lendU [i] [e'])) (a.put (some d1) (a.tmps.getD src Go.undef)) w' H' A' → Q (.panic [{ v := xv, recovered := false }]) (a.put (some d1) (a.tmps.getD src Go.undef)) w') :
  code.wp P (Exit.then Kw Q) a w := by
 subst hcode
 obtain ⟨av, hav⟩ : ∃ av, av = a.tmps.getD src Go.undef := ⟨_, rfl⟩
 rw [← hav] at hpan
 refine wp_region_list ?_
 have e1 : ∀ (o : Oper), o.guard = none → ∀ l a, Region.wanted o (yielded l a) = true := fun o ho l a => by simp [Region.wanted, ho]
 simp only [wpList, e1 _ g1, e1 _ g2, e1 _ g3, if_true]
 refine .inl ?_
 unfold Oper.wp
 have r1 : (execOp a.eval o1).run P w = .ok (.value (av)) w := by
  have he : a.eval (.tmp src) = av := hav.symm
  simp [execOp, h1o, he]
 rw [r1, Oper.upon_value, h1]
 have hs1 : SimH c (x.put (some d1) (.ptr i 0) []) (a.put (some d1) (av)) w H A := h.putv (some d1) (.ptr i 0) _ (by rw [← hx, hav]; exact h.env src hsrc)
 have hgd := zje a (some d1) (av) d1
 rw [if_pos ⟨rfl, by rw [h.tm]; exact hd1⟩] at hgd
 refine .inl ?_
 have r2 : (execOp (a.put (some d1) (av)).eval o2).run P w = .ok (.enter fid #[av]) w := by
  obtain ⟨ca, ar, at1⟩ := cl
  dsimp only at h2c h2a
  subst h2c h2a
  have he : (a.put (some d1) (av)).eval (.tmp d1) = av := hgd
  have hf : (a.put (some d1) (av)).eval (.func fid) = .func (.func fid) #[] #[] := rfl
  simp [execOp, h2o, resolve, Deferred.ofValue, he, hf, invoke, zd1 hc.1]
 rw [r2, Oper.upon_enter, h2]
 have hv : za3 w A (x.put (some d1) (.ptr i 0) []).st H (([.ptr 0 0] : List V).map (V.ren (nameOf [i]))) (#[av] : Array Value).toList := by
  have := hs1.env d1 hd1
  rw [hgd, show (x.put (some d1) (.ptr i 0) []).env d1 = .ptr i 0 from upd_same _ _ _] at this
  exact ⟨_, _, rfl, this, rfl⟩
 refine Calls.mono (zpC hs1 hl hc _ hv (by rfl) (some d2)) ?_
 rintro en w' ⟨o, es, hR, hfol, H', A', hout⟩
 have hlen := hfol.len
 match es, hlen, hR, hout with
 | [e'], _, hR, hout =>
  cases o with
  | ret v =>
   obtain ⟨xv, rfl, hsim⟩ := hout
   obtain ⟨v3, U3, hsem, hK⟩ := hret v e' hR
   obtain ⟨r, xv3, w3, H3, A3, hrun, hr, hsim3⟩ := op_ok (slot := slot) hsim hslot h3m hsem
   dsimp only
   refine .inl ?_
   rw [hrun]
   rw [h3] at hsim3
   rcases hr with rfl | ⟨rfl, rfl⟩
   ·rw [Oper.upon_value, h3]; exact hK _ _ _ _ hsim3
   ·rw [Oper.upon_skip, h3]; exact hK _ _ _ _ hsim3
  | panic v =>
   obtain ⟨xv, rfl, hrep, hsim⟩ := hout
   exact hpan v e' hR xv w' H' A' hrep hsim
def PDef (P : Program) (G : Nat → V) (f : FuncId) (args : List V) (ents : List Ent) (u u' : FrameMode) (R : List Ent → Prop) : Prop :=
 ∀ (w : World) (H : Nat → Value) (A : Nat → Nat → Prop) (vals : Array Value), Mem ⟨w, A, ents.length, H, entF ents, G, 0, []⟩ (entF ents) w H A → za3 w A (entF ents) H args vals.toList →
  CallsD P f vals u w fun e v w' => e = .returned (.tuple #[]) ∧ v = u' ∧ ∃ es H' A', R es ∧ es.length = ents.length ∧ (∀ e ∈ es, e.on (fun k => decide (k < ents.length)) = true) ∧ Mem ⟨w, A, ents.length, H, entF ents, G, 0, []⟩ (entF es) w' H' A'
theorem zo6 {P : Program} {c : Ctx} {x : X} {a : Act} {w : World} {H : Nat → Value} {A : Nat → Nat → Prop} {ids : List Nat} {ents : List Ent} {fn : Func} {Rf : Ending → World → Prop} {f : FuncId} {args : List V} {u u' : FrameMode} {R : List Ent → Prop}
  {fv : Fn} {cap dargs vals : Array Value} (h : SimH c x a w H A) (hl : Lends x.st ids ents) (hd : PDef P c.G f args ents u u' R) (hu : u ≠ .run) (hs : settle u' = .returning)
  (hi : (invoke (.fn fv cap) dargs).run P w = .ok (.enter f vals) w) (hv : za3 w A x.st H (args.map (V.ren (nameOf ids))) vals.toList) (ha : args.all (V.on fun k => decide (k < ids.length)) = true)
  (hfin : ∀ es w' H' A', R es → SimH c (x.put none .undef (lendU ids es)) a w' H' A' → ∃ v, (results fn a.tmps).run P w' = .ok v w' ∧ Rf (.returned v) w') : Go.Leaves P fn a.tmps Rf [{ target := .fn fv cap, args := dargs }] u w := by
 refine leaves_cons (f := f) (args := vals) hu hi ?_
 refine (hd w _ A vals (h.start hl) (za3.unren hl.cor hv ha)).mono ?_
 rintro e v w' ⟨rfl, rfl, es, H1, A1, h1, h2, h3, m⟩
 obtain ⟨H', h6⟩ := h.back hl h2 h3 m none .undef Go.undef .undef
 dsimp only
 rw [hs]
 exact hfin es w' H' A1 h1 h6
end Vm
