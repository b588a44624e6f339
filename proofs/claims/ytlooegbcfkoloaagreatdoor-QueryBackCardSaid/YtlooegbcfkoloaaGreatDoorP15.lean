/- Part of the proof: see the last text. -/
import Derived.Test.YtlooegbcfkoloaaGreatDoorP14
set_option maxRecDepth 20000
set_option linter.unusedVariables false
set_option linter.unusedSimpArgs false
namespace Vm
open Go Go.RowKit
def anyP (P:Program) (c:Ctx) (ops:Array Oper) (mos:List MO) (Kp:V→(Nat→Ent)→Prop) (Q:X→Prop):Nat→Array Bool→X→Prop
 | 0,listed,x=>Region.ready .any ops listed=[]∧Q x
 | fuel+1,listed,x=>Live c x→(Region.ready .any ops listed=[]→Q x)∧∀ i∈Region.ready .any ops listed,∃ mo,mos[i]?=some mo∧zdE P c.G mo (anyP P c ops mos Kp Q fuel (listed.setIfInBounds i true)) Kp x
section
variable {P:Program} {c:Ctx} {ops:Array Oper} {mos:List MO} {Kp:V→(Nat→Ent)→Prop}
theorem zjn (hc:Comped P c ops mos) {Q:PEx→X→Prop}:∀ (fuel:Nat) (listed:Array Bool) (x:X),anyP P c ops mos Kp (Q .normal) fuel listed x→∀ (a:Act) (w:World) (H:Nat→Value) (A:Nat→Nat→Prop),SimH c x a w H A→wpAny P .any ops (LQ c Kp Q) fuel listed a w
 | 0,_,x,h,a,w,H,A,hx=>⟨h.1,x,H,A,hx,h.2⟩
 | fuel+1,listed,x,h,a,w,H,A,hx=>by
  obtain ⟨h0,h1⟩:=h ⟨a,w,H,A,hx⟩
  refine ⟨fun e=>⟨x,H,A,hx,h0 e⟩,fun i hi=>?_⟩
  obtain ⟨mo,hmo,hs⟩:=h1 i hi
  obtain ⟨_,o,ho,_⟩:=mem_ready.1 hi
  have h2:=step_ok hx (hc.slot i mo hmo) (hc.each i o mo ho hmo) hs (Q:=Q) (Kw:=wpAny P .any ops (LQ c Kp Q) fuel (listed.setIfInBounds i true)) (fun x' a' w' H' A' hx' hK=>zjn hc fuel _ x' hK a' w' H' A' hx')
  unfold wpOp
  rw [ho]
  dsimp only
  split at h2
  ·rename_i hw;rw [if_pos hw];exact .inl h2
  ·rename_i hw;rw [if_neg hw];exact h2
theorem Yld.live (hc:Comped P c ops mos) {i:Nat} {mi:MO} {oi:Oper} (hoi:ops[i]?=some oi) (hmi:mos[i]?=some mi) {x:X} {v:V} {U:Upds} (hq:mi.m.quiet=true∨mi.m.isLoad=true) (hy:Yld mi x v U) (hl:Live c x):Live c (x.put mi.dst v U):=by
 obtain ⟨a,w,H,A,hx⟩:=hl
 have hcm:=(zeG (hc.each i oi mi hoi hmi))
 rcases hy with ⟨_,h2⟩ | ⟨_,rfl,rfl⟩
 ·obtain ⟨r,xv,w',H',A',_,_,h3⟩:=op_ok hx (hc.slot i mi hmi) hcm.1 h2
  rw [← hcm.2.1] at h3
  exact ⟨_,w',H',A',h3⟩
 ·exact ⟨_,w,H,A,hx.putv mi.dst .undef Go.undef (Or.inr .undef)⟩
theorem zsc (hc:Comped P c ops mos) (hp:zlm c.n0 Kp) {Q:X→Prop} {i:Nat} {mi:MO} {oi:Oper} {v:V} {U:Upds} (hoi:ops[i]?=some oi) (hmi:mos[i]?=some mi) (hq:mi.m.quiet=true∨mi.m.isLoad=true) :
  ∀ (fuel:Nat) (listed:Array Bool) (x:X),(∀ (j:Nat) (oj:Oper) (mj:MO),ops[j]?=some oj→mos[j]?=some mj→j≠i→listed.getD j true=false→(∀ e∈oj.after,Region.binds .any e=true→e.on≠i)→zlc mi mj=true) →
   i∈Region.ready .any ops listed→Yld mi x v U→anyP P c ops mos Kp Q fuel (listed.setIfInBounds i true) (x.put mi.dst v U)→anyP P c ops mos Kp Q (fuel+1) listed x:=by
 intro fuel
 induction fuel with
 | zero =>
  intro listed x _ hr hy H hl
  refine ⟨fun h=>(by rw [h] at hr;cases hr),fun j hj=>?_⟩
  by_cases hji:j=i
  ·subst hji;exact ⟨mi,hmi,hy.step hq H⟩
  ·have:=ready_mono hj hji
   rw [H.1] at this
   cases this
 | succ fuel ih =>
  intro listed x hfree hr hy H hl
  refine ⟨fun h=>(by rw [h] at hr;cases hr),fun j hj=>?_⟩
  by_cases hji:j=i
  ·subst hji;exact ⟨mi,hmi,hy.step hq H⟩
  ·obtain ⟨mj,hmj,h1⟩:=(H (hy.live hc hoi hmi hq hl)).2 j (ready_mono hj hji)
   obtain ⟨hjun,oj,hoj,hall⟩:=mem_ready.1 hj
   have hnot:∀ e∈oj.after,Region.binds .any e=true→e.on≠i:=fun e he hb heq=>by
    have h1:=hall e he hb
    have h0:=(mem_ready.1 hr).1
    rw [heq] at h1
    rcases Nat.lt_or_ge i listed.size with h' | h'
    ·simp [h'] at h0 h1;rw [h0] at h1;cases h1
    ·simp [Array.getElem?_eq_none h'] at h1
   have hap:=hfree j oj mj hoj hmj hji hjun hnot
   have hfree':∀ (k:Nat) (ok:Oper) (mk:MO),ops[k]?=some ok→mos[k]?=some mk→k≠i→(listed.setIfInBounds j true).getD k true=false →
     (∀ e∈ok.after,Region.binds .any e=true→e.on≠i)→zlc mi mk=true:=fun k ok mk hk hk2 hki hun hno=>by
    refine hfree k ok mk hk hk2 hki ?_ hno
    by_cases hjk:j=k
    ·subst hjk;exact hjun
    ·rw [getD_set_ne true hjk] at hun;exact hun
   obtain ⟨a,w,H0,A,hx⟩:=hl
   have h2:=zsK hx (hc.each j oj mj hoj hmj) hap (hc.slot i mi hmi) hp hy h1
   refine ⟨mj,hmj,zlB (fun x' h3=>ih (listed.setIfInBounds j true) x' hfree' (ready_mono hr (Ne.symm hji)) h3.1 ?_) h2⟩
   rw [Array.setIfInBounds_comm _ _ hji]
   exact h3.2
theorem zrX (hc:Comped P c ops mos) {listed:Array Bool} {i:Nat} {mi:MO} (hmi:mos[i]?=some mi) (h:zuf ops mos listed i=true) (j:Nat) (oj:Oper) (mj:MO) (hj:ops[j]?=some oj) (hmj:mos[j]?=some mj) (hne:j≠i) (hun:listed.getD j true=false)
  (hno:∀ e∈oj.after,Region.binds .any e=true→e.on≠i):zlc mi mj=true:=by
 unfold zuf at h
 simp only [hmi,Bool.and_eq_true,List.all_eq_true,List.mem_range] at h
 have h1:=h.2 j (Array.getElem?_eq_some_iff.1 hj).1
 simp only [hj,hmj,Bool.or_eq_true,beq_iff_eq,hne,false_or,hun,Bool.false_eq_true] at h1
 rcases h1 with h1 | h1
 ·obtain ⟨e,he,hb⟩:=Array.any_eq_true'.1 h1
  simp only [Bool.and_eq_true,beq_iff_eq] at hb
  exact absurd hb.2 (hno e he hb.1)
 ·exact h1
theorem zvg {G:Nat→V} {Q:X→Prop}:∀ (l:List RT) (x:X),wpR P G Kp Q (altL l) x→∀ t∈l,wpR P G Kp Q t x
 | [],_,_,t,ht=>by simp at ht
 | [a],x,h,t,ht=>by simp at ht;subst ht;exact h
 | a :: b :: l,x,h,t,ht=>by
  rcases List.mem_cons.1 ht with rfl | ht
  ·exact h.1
  ·exact zvg (b :: l) x h.2 t ht
theorem zrY {listed:Array Bool} {i:Nat} {mi:MO} (hmi:mos[i]?=some mi) (h:zuf ops mos listed i=true):mi.m.quiet=true∨mi.m.isLoad=true:=by
 unfold zuf at h
 simp only [hmi,Bool.and_eq_true,Bool.or_eq_true] at h
 exact h.1
theorem zmj (hc:Comped P c ops mos) (hp:zlm c.n0 Kp) {Q:X→Prop} :
  ∀ (fuel:Nat) (listed:Array Bool) (x:X),wpR P c.G Kp Q (zls ops mos fuel listed) x→anyP P c ops mos Kp Q fuel listed x
 | 0,listed,x,h=>by
  unfold zls at h
  split at h
  ·rename_i hr;exact ⟨hr,h⟩
  ·exact h.elim
 | fuel+1,listed,x,h=>by
  unfold zls at h
  split at h
  ·rename_i hr
   exact fun _=>⟨fun _=>h,by rw [hr];simp⟩
  ·rename_i r rs hr
   split at h
   ·rename_i i hi
    have hmem:i∈Region.ready .any ops listed:=by rw [hr];exact List.mem_of_find?_eq_some hi
    have hfree:=List.find?_some hi
    obtain ⟨_,oi,hoi,_⟩:=mem_ready.1 hmem
    split at h
    ·rename_i mo hmo
     have hk:=zrY hmo hfree
     obtain ⟨v,U,hy,hK⟩:=Yld.of_step hk h
     exact zsc hc hp hoi hmo hk fuel listed x (fun j oj mj h1 h2 h3 h4 h5=>zrX hc hmo hfree j oj mj h1 h2 h3 h4 h5) hmem hy (zmj hc hp fuel _ _ hK)
    ·exact h.elim
   ·refine fun _=>⟨fun e=>(by rw [hr] at e;cases e),fun i hi=>?_⟩
    rw [hr] at hi
    have:=zvg _ x h _ (List.mem_map_of_mem hi)
    split at this
    ·rename_i mo hmo
     exact ⟨mo,hmo,zlB (fun x' hK=>zmj hc hp fuel _ x' hK) this⟩
    ·exact this.elim
def avOf (ops:Array Oper) (b:Array Nat) (j:Nat):List Nat :=
 ops.toList.zipIdx.filterMap fun p=>match p.1.op with
  | .load _ (.tmp t)=>if (b.getD j 0).testBit p.2 || (b.getD p.2 0).testBit j then none else if ops.any (fun o=>o.dst == some t) then none else some t
  | _=>none
def opTurns (P:Program):Op→Bool | .store _ _ _=>true | .call c=>!(zqP P c) | _=>false
def sg (σ:List (Nat×Nat)) (k:Nat):Nat:=match σ with
 | []=>k
 | (a,b) :: r=>if k=a then b else sg r k
def zk8 (P:Program) (N:Nat) (G:Nat→V) (ops:Array Oper) (b:Option (Array Nat)) (σ:List (Nat×Nat)):Nat→Nat→List Oper→Option (List MO)
 | _,_,[]=>some []
 | s,j,o :: r=>match zf6 P N G ops (sg σ s) (match b with | some b=>if opTurns P o.op=true then avOf ops b j else [] | none=>[]) o,zk8 P N G ops b σ (s+1) (j+1) r with | some m,some l=>some (m :: l) | _,_=>none
theorem zfa {N:Nat} {G:Nat→V} {b:Option (Array Nat)} {σ:List (Nat×Nat)}:∀ (l:List Oper) (s j:Nat) (ms:List MO),zk8 P N G ops b σ s j l=some ms→ms.length=l.length∧∀ (i:Nat) (o:Oper) (mo:MO),l[i]?=some o→ms[i]?=some mo→zf6 P N G ops mo.slot mo.av o=some mo∧mo.slot=sg σ (s+i)
 | [],_,_,ms,h=>by cases h;exact ⟨rfl,fun i o mo h=>by simp at h⟩
 | o :: r,s,j,ms,h=>by
  simp only [zk8] at h
  split at h
  ·rename_i m l h1 h2
   cases h
   obtain ⟨h3,h4⟩:=zfa r (s+1) (j+1) l h2
   refine ⟨by simp [h3],fun i o' mo hi hm=>?_⟩
   cases i with
   | zero =>
    simp at hi hm
    subst hi hm
    have hs:=(zeG h1).2.2.1
    have ha:m.av=_:=zuP h1
    rw [hs,ha]
    exact ⟨h1,rfl⟩
   | succ i =>
    obtain ⟨h5,h6⟩:=h4 i o' mo (by simpa using hi) (by simpa using hm)
    exact ⟨h5,by rw [h6,show s+1+i=s+(i+1) by omega]⟩
  ·cases h
def zoH:List MO→RT
 | []=>.done
 | m :: l=>.step m (zoH l)
def zk7 (P:Program) (N:Nat) (G:Nat→V) (σ:List (Nat×Nat)) (s:Nat) (ops:Array Oper) (draw:Bool):Option RT :=
 match zk8 P N G ops (if draw=true then some (Region.before ops) else none) σ s 0 ops.toList with
 | some ms=>if draw=true then (if P.follows .mixedOrders=true then some (zls ops ms ops.size (Array.replicate ops.size false)) else none) else some (zoH ms)
 | none=>none
theorem zmi (hs:∀ (i:Nat) (mo:MO),mos[i]?=some mo→c.n0≤mo.slot) {Q:PEx→X→Prop}:∀ (l:List Oper) (ms:List MO),ms.length=l.length→(∀ (i:Nat) (o:Oper) (mo:MO),l[i]?=some o→ms[i]?=some mo→zf6 P c.N c.G ops mo.slot mo.av o=some mo∧c.n0≤mo.slot) →
  ∀ (x:X) (a:Act) (w:World) (H:Nat→Value) (A:Nat→Nat→Prop),SimH c x a w H A→wpR P c.G Kp (Q .normal) (zoH ms) x→wpList P ops (LQ c Kp Q) l a w
 | [],ms,hl,_,x,a,w,H,A,hx,h=>by
  cases ms with
  | nil=>exact ⟨x,H,A,hx,h⟩
  | cons _ _=>simp at hl
 | o :: l,ms,hl,he,x,a,w,H,A,hx,h=>by
  cases ms with
  | nil=>simp at hl
  | cons m ms =>
   obtain ⟨h1,h2⟩:=he 0 o m rfl rfl
   have h3:=step_ok hx h2 h1 h (Q:=Q) (Kw:=wpList P ops (LQ c Kp Q) l) (fun x' a' w' H' A' hx' hK=>zmi hs l ms (by simpa using hl) (fun i o mo hi hm=>he (i+1) o mo (by simpa using hi) (by simpa using hm)) x' a' w' H' A' hx' hK)
   unfold wpList
   split at h3
   ·rename_i hw;rw [if_pos hw];exact .inl h3
   ·rename_i hw;rw [if_neg hw];exact h3
theorem SimH.drew {x:X} {a:Act} {w:World} {H:Nat→Value} {A:Nat→Nat→Prop} (h:SimH c x a w H A):∃ A',SimH c x a { w with drawn:=w.drawn+1 } H A':=by
 have hk:Keeps w A { w with drawn:=w.drawn+1 } A:=⟨Nat.le_refl _,fun _ _ _ _=>rfl,fun _ _ _ h=>h⟩
 refine ⟨A,h.mem.rec (fun glo kp ent dis a00 a0 al out lent loc ext=>?_)⟩
 refine ⟨h.tm,h.df,fun t ht=>(h.env t ht).mono hk (Foll.refl _ _),fun g=>(glo g).imp id (fun h=>h.keep hk),kp.trans hk,fun id=>(ent id).mono hk (Foll.refl _ _) (fun b hb=>⟨rfl,fun _=>Iff.rfl⟩),dis,a00,a0,al,out,lent,loc,⟨ext.os,ext.tape,ext.output,ext.size,ext.block⟩⟩
theorem reg_ok (hp:zlm c.n0 Kp) {σ:List (Nat×Nat)} {s id:Nat} (hs:∀ k,s≤k→c.n0≤sg σ k) {draw:Bool} {t:RT} (hc:zk7 P c.N c.G σ s ops draw=some t) {Q:PEx→X→Prop} {x:X} {a:Act} {w:World} {H:Nat→Value} {A:Nat→Nat→Prop} (hx:SimH c x a w H A) (h:wpR P c.G Kp (Q .normal) t x) :
  (Code.region id ops draw).wp P (LQ c Kp Q) a w:=by
 unfold zk7 at hc
 split at hc
 ·rename_i ms hms
  obtain ⟨h1,h2⟩:=zfa _ _ _ _ hms
  have hslot:∀ (i:Nat) (mo:MO),ms[i]?=some mo→c.n0≤mo.slot:=fun i mo hm=>by
   have hi:i < ops.toList.length:=by rw [← h1];exact (List.getElem?_eq_some_iff.1 hm).1
   rw [(h2 i _ mo (List.getElem?_eq_getElem hi) hm).2]
   exact hs _ (Nat.le_add_right _ _)
  split at hc
  ·rename_i hd
   split at hc
   ·rename_i hm
    cases hc
    subst hd
    obtain ⟨A',hx'⟩:=hx.drew
    have hC:Comped P c ops ms:=⟨by simpa using h1,fun i o mo ho hm=>(h2 i o mo (by simpa using ho) hm).1,hslot⟩
    exact wp_region_any hm (zjn hC _ _ x (zmj hC hp _ _ x h) a _ H A' hx')
   ·cases hc
  ·rename_i hd
   have hd':draw=false:=by simpa using hd
   subst hd'
   cases hc
   exact wp_region_list (zmi (mos:=ms) hslot ops.toList ms h1 (fun i o mo hi hm=>⟨(h2 i o mo hi hm).1,hslot i mo hm⟩) x a w H A hx h)
 ·cases hc
end
end Vm
