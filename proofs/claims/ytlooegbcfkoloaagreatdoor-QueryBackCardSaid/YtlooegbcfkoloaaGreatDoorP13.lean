/- Part of the proof: see the last text. -/
import Derived.Test.YtlooegbcfkoloaaGreatDoorP12
set_option maxRecDepth 20000
set_option linter.unusedVariables false
set_option linter.unusedSimpArgs false
namespace Vm
open Go Go.RowKit
structure MO where
 dst:Option Nat
 m:M
 slot:Nat
 guard:Option (Nat×Bool)
 av:List Nat
def avoidV (vs:List V) (ids:List Nat):Bool:=vs.all fun v=>match v with | .ptr id _=>!ids.contains id | _=>true
def wantX (e:Nat→V):Option (Nat×Bool)→Option Bool
 | none=>some true
 | some (t,want)=>match e t with | .bool b=>some (b == want) | .undef=>some false | _=>none
def argV (st:Nat→Ent) (v:V):V:=norm1 (res st v)
structure CallX (st:Nat→Ent) (vs:List V) (ids:List Nat) (ents:List Ent) (args':List V):Prop where
 lends:Lends st ids ents
 eq:vs.map (argV st)=args'.map (V.ren (nameOf ids))
 on:args'.all (V.on fun k=>decide (k < ids.length))=true
 ment:∀ k,k < ids.length→(∃ v∈vs,v.on (fun j=>j != nameOf ids k)=false)∨∃ j,j < k∧(st (nameOf ids j)).on (fun i=>i != nameOf ids k)=false
def zpI (P:Program) (G:Nat→V) (b:Bool) (av:List V) (fv:V) (args:List V) (st:Nat→Ent) (K:V→Upds→Prop) (Kp:V→Upds→Prop):Prop :=
 match fv with
 | .fn f first cap=>∃ ids ents args' R,(b=true→ids=[])∧avoidV av ids=true∧CallX st (first++args++cap) ids ents args'∧zcI P G f args' ents R∧∀ o es,R o es→Fol ents es→match o with
   | .ret v=>K v (lendU ids es)
   | .panic v=>Kp v (lendU ids es)
 | _=>False
def zdE (P:Program) (G:Nat→V) (mo:MO) (K:X→Prop) (Kp:V→(Nat→Ent)→Prop) (x:X):Prop :=
 match wantX x.env mo.guard with
 | none=>False
 | some false=>K (x.put mo.dst .undef [])
 | some true=>match mo.m with
  | .call b f args=>zpI P G b (mo.av.map x.env) (f.ev x.env) (args.map (O.ev x.env)) x.st (fun v U=>K (x.put mo.dst v U)) (fun v U=>Kp v (updL x.st U))
  | .pan y=>match norm1 (res x.st (y.ev x.env)) with
   | .iface T v=>Kp (.iface T v) x.st
   | _=>False
  | .store n y z=>match semM mo.slot (.store n y z) x.env x.st with
   | some (v,U)=>avoidV (mo.av.map x.env) (U.map (·.1))=true∧K (x.put mo.dst v U)
   | none=>False
  | m=>match semM mo.slot m x.env x.st with
   | some (v,U)=>K (x.put mo.dst v U)
   | none=>False
inductive PEx where
 | normal
 | exit (id:Nat)
 | ret
def LQ (c:Ctx) (Kp:V→(Nat→Ent)→Prop) (Q:PEx→X→Prop):Exit→Act→World→Prop
 | .normal,a,w=>∃ x H A,SimH c x a w H A∧Q .normal x
 | .exit id,a,w=>∃ x H A,SimH c x a w H A∧Q (.exit id) x
 | .ret,a,w=>∃ x H A,SimH c x a w H A∧Q .ret x
 | .panic ch,a,w=>∃ x H A v xv,ch=[{ v:=xv,recovered:=false }]∧RepV w A v xv∧SimH c x a w H A∧Kp v x.st
 | _,_,_=>False
def zf6 (P:Program) (N:Nat) (G:Nat→V) (ops:Array Oper) (slot:Nat) (av:List Nat) (o:Oper):Option MO :=
 match compM P N G o.op with
 | some m=>match o.guard with
  | none=>some ⟨o.dst,m,slot,none,av⟩
  | some (g,want)=>match (ops[g]?).bind (·.dst) with
   | some t=>if t < N then some ⟨o.dst,m,slot,some (t,want),av⟩ else none
   | none=>none
 | none=>none
theorem zeG {P:Program} {N:Nat} {G:Nat→V} {ops:Array Oper} {slot:Nat} {av:List Nat} {o:Oper} {mo:MO} (h:zf6 P N G ops slot av o=some mo) :
  compM P N G o.op=some mo.m∧mo.dst=o.dst∧mo.slot=slot∧((o.guard=none∧mo.guard=none)∨∃ g want t,o.guard=some (g,want)∧(ops[g]?).bind (·.dst)=some t∧t < N∧mo.guard=some (t,want)):=by
 unfold zf6 at h
 split at h
 ·rename_i m hm
  split at h
  ·rename_i hg;cases h;exact ⟨hm,rfl,rfl,.inl ⟨hg,rfl⟩⟩
  ·rename_i g want hg
   split at h
   ·rename_i t ht
    split at h
    ·rename_i hlt;cases h;exact ⟨hm,rfl,rfl,.inr ⟨g,want,t,hg,ht,hlt,rfl⟩⟩
    ·cases h
   ·cases h
 ·cases h
theorem zuP {P:Program} {N:Nat} {G:Nat→V} {ops:Array Oper} {slot:Nat} {av:List Nat} {o:Oper} {mo:MO} (h:zf6 P N G ops slot av o=some mo):mo.av=av:=by
 unfold zf6 at h
 repeat' split at h
 all_goals first | (cases h;done) | (cases h;rfl)
section
variable {P:Program} {c:Ctx} {x:X} {a:Act} {w:World} {H:Nat→Value} {A:Nat→Nat→Prop} {ops:Array Oper}
theorem zsl (h:SimH c x a w H A) {slot:Nat} {av:List Nat} {o:Oper} {mo:MO} (hc:zf6 P c.N c.G ops slot av o=some mo) {b:Bool} (hw:wantX x.env mo.guard=some b):Region.wanted o (yielded ops a.tmps)=b:=by
 obtain ⟨_,_,_,h4⟩:=zeG hc
 rcases h4 with ⟨h4,h5⟩ | ⟨g,want,t,h4,h5,h6,h7⟩
 ·rw [h5] at hw
  cases hw
  simp [Region.wanted,h4]
 ·rw [h7] at hw
  simp only [wantX] at hw
  have hr:=h.env t h6
  have hget:a.tmps[t]?=some (a.tmps.getD t Go.undef):=by
   have:t < a.tmps.size:=by rw [h.tm];exact h6
   simp [this]
  have hy:yielded ops a.tmps g=match a.tmps.getD t Go.undef with | .bool b=>some b | _=>none:=by
   unfold yielded
   rw [h5]
   simp only [Option.bind_some,hget]
   split<;>first | (rename_i h;simp only [Option.some.injEq] at h;rw [h]) | skip
   rename_i h8
   split
   ·rename_i b hb
    exact absurd (congrArg some hb) (h8 b)
   ·rfl
  have hw':Region.wanted o (yielded ops a.tmps)=(yielded ops a.tmps g == some want):=by simp [Region.wanted,h4]
  rw [hw',hy]
  split at hw
  ·rename_i b' hb
   rw [hb] at hr
   cases hw
   have:=hr.data rfl
   generalize a.tmps.getD t Go.undef=u at this
   cases this
   cases b'<;>cases want<;>rfl
  ·rename_i hb
   rw [hb] at hr
   cases hw
   have:=hr.data rfl
   generalize a.tmps.getD t Go.undef=u at this
   cases this
   rfl
  ·cases hw
theorem zs1 {st:Nat→Ent} {v:V} {xv:Value} (h:RepT w A st H v xv):RepT w A st H (argV st v) xv:=zep (zcp h)
theorem zcR.toTL {st:Nat→Ent}:∀ {xs:List V} {vs:List Value},zcR w A st H xs vs→zaY w A st H xs vs
 | [],_,h=>h
 | x :: _,_,⟨u,us,h1,h2,h3⟩=>by
  refine ⟨u,us,h1, ?_,zcR.toTL h3⟩
  cases x<;>first | exact h2 | trivial | exact (h2.elim (fun h=>h.elim) (fun h=>nomatch h))
theorem zlJ {st:Nat→Ent}:∀ {xs:List V} {vs:List Value},zaY w A st H xs vs→zaY w A st H (xs.map (argV st)) vs
 | [],_,h=>h
 | _ :: _,_,⟨u,us,h1,h2,h3⟩=>⟨u,us,h1,zs1 h2,zlJ h3⟩
theorem ziU {mo:MO} {G:Nat→V} {K:X→Prop} {Kp:V→(Nat→Ent)→Prop} (h1:∀ b f xs,mo.m≠.call b f xs) (h2:∀ y,mo.m≠.pan y) (h3:∀ n y z,mo.m≠.store n y z) (hw:wantX x.env mo.guard=some true) :
  zdE P G mo K Kp x=match semM mo.slot mo.m x.env x.st with | some (v,U)=>K (x.put mo.dst v U) | none=>False:=by
 unfold zdE
 rw [hw]
 dsimp only
 split
 ·rename_i b f xs h;exact absurd h (h1 b f xs)
 ·rename_i y h;exact absurd h (h2 y)
 ·rename_i n y z h;exact absurd h (h3 n y z)
 ·rfl
theorem zoF {N:Nat} {G:Nat→V} {op:Op} {b:Bool} {f:O} {xs:List O} (hm:compM P N G op=some (.call b f xs)):∃ cl fo,op=.call cl∧cl.callee=.value fo∧compO N G fo=some f∧zfH N G cl.args.toList=some xs:=by
  cases op
  case call cl =>
    simp only [compM] at hm
    split at hm
    · rename_i fo hfo
      split at hm
      · rename_i ys hys
        obtain ⟨z,hz,hm⟩:=zab hm
        simp only [Option.some.injEq,M.call.injEq] at hm
        obtain ⟨_,rfl,rfl⟩:=hm
        exact ⟨cl,fo,rfl,hfo,hz,hys⟩
      · cases hm
    · exfalso
      repeat' split at hm
      all_goals first
        | (cases hm;done)
        | (obtain ⟨_,_,hm⟩:=zab hm
           first
           | (cases hm;done)
           | (obtain ⟨_,_,hm⟩:=zab hm;cases hm))
    · cases hm
  case makeFunc f first cap =>
    exfalso
    cases f<;>simp only [compM] at hm<;>(repeat' split at hm)<;>cases hm
  case slice T y lo hi mx =>
    exfalso
    cases mx<;>simp only [compM] at hm<;>(repeat' split at hm)<;>first
      | (cases hm;done)
      | (obtain ⟨_,_,hm⟩:=zab hm;cases hm)
  all_goals
    exfalso
    simp only [compM] at hm
    repeat' split at hm
    all_goals first
      | (cases hm;done)
      | (obtain ⟨_,_,hm⟩:=zab hm
         first
         | (cases hm;done)
         | (obtain ⟨_,_,hm⟩:=zab hm
            first
            | (cases hm;done)
            | (obtain ⟨_,_,hm⟩:=zab hm;cases hm)))
theorem comp_pan {N:Nat} {G:Nat→V} {op:Op} {y:O} (hm:compM P N G op=some (.pan y)):∃ z,op=.panic z∧compO N G z=some y:=by
  cases op
  case panic z =>
    obtain ⟨y',hy,hm⟩:=zab hm
    simp only [Option.some.injEq,M.pan.injEq] at hm
    subst hm
    exact ⟨z,rfl,hy⟩
  case call cl =>
    exfalso
    simp only [compM] at hm
    repeat' split at hm
    all_goals first
      | (cases hm;done)
      | (obtain ⟨_,_,hm⟩:=zab hm
         first
         | (cases hm;done)
         | (obtain ⟨_,_,hm⟩:=zab hm;cases hm))
  case makeFunc f first cap =>
    exfalso
    cases f<;>simp only [compM] at hm<;>(repeat' split at hm)<;>cases hm
  case slice T y lo hi mx =>
    exfalso
    cases mx<;>simp only [compM] at hm<;>(repeat' split at hm)<;>first
      | (cases hm;done)
      | (obtain ⟨_,_,hm⟩:=zab hm;cases hm)
  all_goals
    exfalso
    simp only [compM] at hm
    repeat' split at hm
    all_goals first
      | (cases hm;done)
      | (obtain ⟨_,_,hm⟩:=zab hm
         first
         | (cases hm;done)
         | (obtain ⟨_,_,hm⟩:=zab hm
            first
            | (cases hm;done)
            | (obtain ⟨_,_,hm⟩:=zab hm;cases hm)))
theorem step_ok (h:SimH c x a w H A) {slot:Nat} (hid:c.n0≤slot) {av:List Nat} {o:Oper} {mo:MO} (hc:zf6 P c.N c.G ops slot av o=some mo) {K:X→Prop} {Kp:V→(Nat→Ent)→Prop} {Q:PEx→X→Prop} (hs:zdE P c.G mo K Kp x) {Kw:Act→World→Prop}
  (hK:∀ (x':X) (a':Act) (w':World) (H':Nat→Value) (A':Nat→Nat→Prop),SimH c x' a' w' H' A'→K x'→Kw a' w'):if Region.wanted o (yielded ops a.tmps) then o.wp P a w Kw (LQ c Kp Q) else Kw (a.put o.dst Go.undef) w:=by
 obtain ⟨hm,hd,hsl,_⟩:=zeG hc
 unfold zdE at hs
 split at hs
 ·exact hs.elim
 ·rename_i hw
  rw [zsl h hc hw]
  exact hK _ _ _ _ _ (h.putv o.dst .undef Go.undef (Or.inr .undef)) (by rw [← hd];exact hs)
 ·rename_i hw
  rw [zsl h hc hw]
  rw [if_pos rfl]
  unfold Oper.wp
  split at hs
  ·rename_i b f xs hf
   rw [hf] at hm
   obtain ⟨cl,fo,hop,hcal,h1,h2⟩:=zoF hm
   unfold zpI at hs
   split at hs
   ·rename_i fid first cap hfv
    obtain ⟨ids,ents,args',R,_,_,hcx,hpc,hR⟩:=hs
    have h3:=zaf h h1
    rw [hfv] at h3
    obtain ⟨fs,cs,h4,h5,h6⟩:=h3
    have h7:=zer h h2
    have hrun:(execOp a.eval o).run P w=.ok (.enter fid (fs++cl.args.map a.eval++cs)) w:=by
     obtain ⟨dst,op,type,pos,after,guard⟩:=o
     obtain ⟨callee,cargs,tys⟩:=cl
     dsimp only at hop hcal
     subst hop hcal
     simp [execOp,resolve,Deferred.ofValue,h4,invoke,zjs hpc.1]
    rw [hrun,Oper.upon_enter]
    have hv:zaY w A x.st H (args'.map (V.ren (nameOf ids))) (fs++cl.args.map a.eval++cs).toList:=by
     rw [← hcx.eq]
     have:=zlJ (zdV (zdV (zcR.toTL h5) h7) (zcR.toTL h6))
     simpa using this
    refine Calls.mono (call_ok h hcx.lends hpc _ hv hcx.on o.dst) ?_
    rintro e w' ⟨out,es,hRo,hfol,H',A',hout⟩
    have hRK:=hR out es hRo hfol
    cases out with
    | ret v =>
     obtain ⟨xv,rfl,hsim⟩:=hout
     exact hK _ _ _ _ _ hsim (by rw [← hd];exact hRK)
    | panic v =>
     obtain ⟨xv,rfl,hrep,hsim⟩:=hout
     exact ⟨_,H',A',v,xv,rfl,hrep,hsim,hRK⟩
   ·exact hs.elim
  ·rename_i y hy
   rw [hy] at hm
   obtain ⟨z,hop,hz⟩:=comp_pan hm
   have h1:=zep (zcp (zaf h hz))
   split at hs
   ·rename_i T v hv
    rw [hv] at h1
    have h2:=h1.data rfl
    generalize hzv:a.eval z=zv at h2
    have hrep:=h2
    cases h2 with
    | iface _ _ u hu =>
     have hrun:(execOp a.eval o).run P w=.halt (.panic (.iface T u)) w:=by
      obtain ⟨dst,op,type,pos,after,guard⟩:=o
      dsimp only at hop
      subst hop
      simp [execOp,hzv,Instr.panic,goPanic,Sem.run]
     rw [hrun,Oper.upon_panic]
     exact ⟨x,H,A,_,_,rfl,hrep,h,hs⟩
   ·exact hs.elim
  ·rename_i n y z hst
   split at hs
   ·rename_i v U hsem
    rw [hst] at hm
    obtain ⟨r,xv,w',H',A',hrun,hr,hsim⟩:=op_ok (slot:=mo.slot) h (by rw [hsl];exact hid) hm hsem
    rw [hrun]
    rcases hr with rfl | ⟨rfl,rfl⟩
    ·exact hK _ _ _ _ _ hsim (by rw [← hd];exact hs.2)
    ·exact hK _ _ _ _ _ hsim (by rw [← hd];exact hs.2)
   ·exact hs.elim
  ·split at hs
   ·rename_i v U hsem
    obtain ⟨r,xv,w',H',A',hrun,hr,hsim⟩:=op_ok (slot:=mo.slot) h (by rw [hsl];exact hid) hm hsem
    rw [hrun]
    rcases hr with rfl | ⟨rfl,rfl⟩
    ·exact hK _ _ _ _ _ hsim (by rw [← hd];exact hs)
    ·exact hK _ _ _ _ _ hsim (by rw [← hd];exact hs)
   ·exact hs.elim
end
end Vm
