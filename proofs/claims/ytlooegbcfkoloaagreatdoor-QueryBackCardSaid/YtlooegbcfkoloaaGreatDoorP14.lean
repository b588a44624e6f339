/- Part of the proof: see the last text. -/
import Derived.Test.YtlooegbcfkoloaaGreatDoorP13
set_option maxRecDepth 20000
set_option linter.unusedVariables false
set_option linter.unusedSimpArgs false
namespace Vm
open Go Go.RowKit
def M.tmps (m:M):List Nat:=m.opds.flatMap O.tmps
def MO.tmps (mo:MO):List Nat:=mo.m.tmps++((match mo.guard with | some (t,_)=>[t] | none=>[])++mo.av)
def M.isLoad:M→Bool | .load _ _ _=>true | _=>false
def M.addr:M→Option Nat | .load _ _ (.t t)=>some t | _=>none
def MO.held (i j:MO):Bool:=match i.m.addr with | some t=>j.av.contains t && i.dst != some t | none=>false
def zlc (i j:MO):Bool :=
 (match i.dst with | some d=>!(j.tmps.contains d) && j.dst != some d | none=>true) && (match j.dst with | some d=>!(i.tmps.contains d) | none=>true) && i.slot != j.slot && (i.m.quiet || (i.m.isLoad && (!j.m.writes || i.held j)))
inductive RT where
 | done
 | step (mo:MO) (t:RT)
 | alt (a b:RT)
 | bad
def zuf (ops:Array Oper) (mos:List MO) (listed:Array Bool) (i:Nat):Bool:=match mos[i]? with
 | none=>false
 | some mi=>(mi.m.quiet || mi.m.isLoad) && (List.range ops.size).all fun j=>j == i || listed.getD j true || match ops[j]?,mos[j]? with
  | some oj,some mj=>oj.after.any (fun e=>Region.binds .any e && e.on == i) || zlc mi mj
  | _,_=>false
def altL:List RT→RT
 | []=>.done
 | [a]=>a
 | a :: b :: l=>.alt a (altL (b :: l))
def zls (ops:Array Oper) (mos:List MO):Nat→Array Bool→RT
 | 0,listed=>match Region.ready .any ops listed with | []=>.done | _=>.bad
 | fuel+1,listed=>match Region.ready .any ops listed with
  | []=>.done
  | r :: rs=>match (r :: rs).find? (zuf ops mos listed) with
   | some i=>match mos[i]? with | some mo=>.step mo (zls ops mos fuel (listed.setIfInBounds i true)) | none=>.bad
   | none=>altL ((r :: rs).map fun i=>match mos[i]? with | some mo=>.step mo (zls ops mos fuel (listed.setIfInBounds i true)) | none=>.bad)
def wpR (P:Program) (G:Nat→V) (Kp:V→(Nat→Ent)→Prop) (Q:X→Prop):RT→X→Prop
 | .done,x=>Q x
 | .step mo t,x=>zdE P G mo (wpR P G Kp Q t) Kp x
 | .alt a b,x=>wpR P G Kp Q a x∧wpR P G Kp Q b x
 | .bad,_=>False
def Live (c:Ctx) (x:X):Prop:=∃ a w H A,SimH c x a w H A
structure Comped (P:Program) (c:Ctx) (ops:Array Oper) (mos:List MO):Prop where
 len:mos.length=ops.size
 each:∀ (i:Nat) (o:Oper) (mo:MO),ops[i]?=some o→mos[i]?=some mo→zf6 P c.N c.G ops mo.slot mo.av o=some mo
 slot:∀ (i:Nat) (mo:MO),mos[i]?=some mo→c.n0≤mo.slot
def zlm (n0:Nat) (Kp:V→(Nat→Ent)→Prop):Prop:=∀ v st st',(∀ k,k < n0→st' k=st k)→Kp v st→Kp v st'
theorem zr8 {P:Program} {G:Nat→V} {b:Bool} {av:List V} {fv:V} {args:List V} {st:Nat→Ent} {K K' Kp Kp':V→Upds→Prop} (hK:∀ v U,K v U→K' v U) (hKp:∀ v U,Kp v U→Kp' v U) (h:zpI P G b av fv args st K Kp):zpI P G b av fv args st K' Kp':=by
 unfold zpI at h ⊢
 split at h
 ·obtain ⟨ids,ents,args',R,h0,h00,h1,h2,h3⟩:=h
  refine ⟨ids,ents,args',R,h0,h00,h1,h2,fun o es ho hf=>?_⟩
  have:=h3 o es ho hf
  cases o with
  | ret v=>exact hK _ _ this
  | panic v=>exact hKp _ _ this
 ·exact h.elim
theorem zlB {P:Program} {G:Nat→V} {mo:MO} {K K':X→Prop} {Kp:V→(Nat→Ent)→Prop} {x:X} (hK:∀ x,K x→K' x) (h:zdE P G mo K Kp x):zdE P G mo K' Kp x:=by
 unfold zdE at h ⊢
 split at h
 ·exact h.elim
 ·exact hK _ h
 ·split at h
  ·exact zr8 (fun _ _=>hK _) (fun _ _ h=>h) h
  ·exact h
  ·split at h
   ·exact ⟨h.1,hK _ h.2⟩
   ·exact h.elim
  ·split at h
   ·exact hK _ h
   ·exact h.elim
theorem zny {i:Nat} {e:Ent}:∀ (U:Upds) (s:Nat→Ent),(∀ q∈U,q.1≠i)→updL (updE s i e) U=updE (updL s U) i e
 | [],_,_=>rfl
 | (j,n) :: U,s,h=>by
  have h1:j≠i:=h (j,n) (by simp)
  have:updE (updE s i e) j n=updE (updE s j n) i e:=by
   funext k
   by_cases hk:k=j
   ·subst hk;rw [updE_same,zau _ _ h1,updE_same]
   ·by_cases hk2:k=i
    ·subst hk2;rw [zau _ _ hk,updE_same,updE_same]
    ·rw [zau _ _ hk,zau _ _ hk2,zau _ _ hk2,zau _ _ hk]
  rw [updL,this,zny U _ (fun q hq=>h q (by simp [hq]))]
  rfl
theorem znz:∀ (U Uj:Upds) (s:Nat→Ent),(∀ p∈U,∀ q∈Uj,q.1≠p.1)→updL (updL s Uj) U=updL (updL s U) Uj
 | [],_,_,_=>rfl
 | (i,e) :: U,Uj,s,h=>by
  rw [updL,updL,← zny Uj s (h (i,e) (by simp)),znz U Uj _ (fun p hp=>h p (by simp [hp]))]
theorem zpg {e:Nat→V} {di dj:Option Tmp} {v u:V} (h:∀ d,di=some d→dj≠some d):putEnv (putEnv e dj u) di v=putEnv (putEnv e di v) dj u:=by
 cases di with
 | none=>rfl
 | some d =>
  cases dj with
  | none=>rfl
  | some d' =>
   have hne:d'≠d:=fun e=>h d rfl (by rw [e])
   funext k
   simp only [putEnv,upd]
   by_cases h1:k=d
   ·have:k≠d':=fun e=>hne (e.symm.trans h1)
    simp [h1,Ne.symm hne]
   ·simp [h1]
theorem put_comm {x:X} {di dj:Option Tmp} {v u:V} {U Uj:Upds} (hd:∀ d,di=some d→dj≠some d) (hU:∀ p∈U,∀ q∈Uj,q.1≠p.1):(x.put dj u Uj).put di v U=(x.put di v U).put dj u Uj:=by
 simp only [X.put,zpg hd,znz U Uj x.st hU]
theorem zuu {e:Nat→V} {d:Option Tmp} {v:V} {y:O} (h:∀ t,d=some t→t ∉ y.tmps):y.ev (putEnv e d v)=y.ev e:=by
 cases d with
 | none=>rfl
 | some t =>
  cases y with
  | c v=>rfl
  | t n =>
   have:n≠t:=fun e=>h t rfl (by simp [O.tmps,e])
   simp [O.ev,putEnv,upd,this]
theorem zpR {e:Nat→V} {d:Option Tmp} {v:V} {g:Option (Nat×Bool)} (h:∀ t,d=some t→∀ w,g≠some (t,w)):wantX (putEnv e d v) g=wantX e g:=by
 cases d with
 | none=>rfl
 | some t =>
  cases g with
  | none=>rfl
  | some p =>
   obtain ⟨n,w⟩:=p
   have:n≠t:=fun e=>h t rfl w (by rw [e])
   simp [wantX,putEnv,upd,this]
def Yld (mo:MO) (x:X) (v:V) (U:Upds):Prop :=
 (wantX x.env mo.guard=some true∧semM mo.slot mo.m x.env x.st=some (v,U))∨(wantX x.env mo.guard=some false∧v=.undef∧U=[])
theorem zeq {m:M} (h:m.quiet=true∨m.isLoad=true):(∀ b f xs,m≠.call b f xs)∧(∀ y,m≠.pan y)∧(∀ n y z,m≠.store n y z):=by
 refine ⟨fun b f xs e=>?_,fun y e=>?_,fun n y z e=>?_⟩<;>subst e<;>rcases h with h | h<;>cases h
theorem Yld.step {P:Program} {G:Nat→V} {mo:MO} {K:X→Prop} {Kp:V→(Nat→Ent)→Prop} {x:X} {v:V} {U:Upds} (hq:mo.m.quiet=true∨mo.m.isLoad=true) (hy:Yld mo x v U) (h:K (x.put mo.dst v U)):zdE P G mo K Kp x:=by
 rcases hy with ⟨h1,h2⟩ | ⟨h1,rfl,rfl⟩
 ·rw [ziU (zeq hq).1 (zeq hq).2.1 (zeq hq).2.2 h1,h2]
  exact h
 ·unfold zdE;rw [h1];exact h
theorem Yld.of_step {P:Program} {G:Nat→V} {mo:MO} {K:X→Prop} {Kp:V→(Nat→Ent)→Prop} {x:X} (hq:mo.m.quiet=true∨mo.m.isLoad=true) (h:zdE P G mo K Kp x):∃ v U,Yld mo x v U∧K (x.put mo.dst v U):=by
 cases hw:wantX x.env mo.guard with
 | none=>unfold zdE at h;rw [hw] at h;exact h.elim
 | some b =>
  cases b
  ·unfold zdE at h;rw [hw] at h;exact ⟨.undef,[],.inr ⟨hw,rfl,rfl⟩,h⟩
  ·rw [ziU (zeq hq).1 (zeq hq).2.1 (zeq hq).2.2 hw] at h
   split at h
   ·rename_i v U hs;exact ⟨v,U,.inl ⟨hw,hs⟩,h⟩
   ·exact h.elim
theorem Yld.upds {mo:MO} {x:X} {v:V} {U:Upds} (hq:mo.m.quiet=true∨mo.m.isLoad=true) (hy:Yld mo x v U):U=[]∨∃ n,U=[(mo.slot,n)]∧x.st mo.slot=.gone:=by
 rcases hy with ⟨_,hs⟩ | ⟨_,_,h⟩
 ·rcases semM_upd hs with h | h | ⟨_,_,_,_,_,_,h⟩ | ⟨_,_,_,_,_,_,_,h⟩
  ·exact .inl h
  ·exact .inr h
  ·exfalso
   rcases hq with hq | hq<;>generalize mo.m=m at h hq<;>cases m<;>first | (cases h;done) | (cases hq;done)
  ·rcases hq with hq | hq
   ·rw [hq] at h;cases h
   ·left
    generalize hm:mo.m=m at hq hs
    cases m<;>first | (cases hq;done) | skip
    rename_i ag n y
    cases ag<;>simp only [semM] at hs<;>(repeat' split at hs)<;>first | (cases hs;done) | exact (one1_some hs).2 | (cases hs;rfl)
 ·exact .inl h
theorem Yld.keep {mo:MO} {x x':X} {v:V} {U:Upds} (hy:Yld mo x v U) (henv:∀ y∈mo.m.opds,y.ev x'.env=y.ev x.env) (hw:wantX x'.env mo.guard=wantX x.env mo.guard) (hr:zjv x.st x'.st) (hg:(x.st mo.slot).isGone=true→(x'.st mo.slot).isGone=true)
  (hq:mo.m.quiet=true∨(mo.m.isLoad=true∧∀ ag n y,mo.m=.load ag n y→∀ id off,y.ev x.env=.ptr id off→∀ T cs,x.st id=.blk T cs→x'.st id=.blk T cs)):Yld mo x' v U:=by
 rcases hy with ⟨h1,h2⟩ | ⟨h1,h2⟩
 ·refine .inl ⟨hw.trans h1, ?_⟩
  rw [zmC henv]
  rcases hq with hq | ⟨hq,hb⟩
  ·exact zrv hq hr hg h2
  ·generalize hm:mo.m=m at hq h2 ⊢
   cases m<;>first | (cases hq;done) | skip
   rename_i ag n y
   have hb:=fun id off (he:y.ev x.env=.ptr id off)=>hb ag n y hm id off he
   cases ag
   ·simp only [semM] at h2 ⊢
    split at h2
    ·rename_i hadr
     split at h2
     ·rename_i id off _ _ _ hst;rw [hb _ _ hadr _ _ hst];exact h2
     ·cases h2
    ·exact h2
    ·cases h2
   ·simp only [semM] at h2 ⊢
    split at h2
    ·rename_i hadr
     split at h2
     ·rename_i id off _ T cs hst
      rw [hb _ _ hadr _ _ hst]
      dsimp only
      split at h2
      ·rename_i hc
       have:((cs.drop off).take n).map (res x'.st)=((cs.drop off).take n).map (res x.st):=List.map_congr_left fun u hu=>by
        rcases res_le hr u with h3 | h3
        ·have:=List.all_eq_true.1 hc.2 _ (List.mem_map_of_mem hu)
         rw [h3] at this
         cases this
        ·exact h3
       rw [this,if_pos hc]
       exact h2
      ·cases h2
     ·cases h2
    ·exact h2
    ·cases h2
 ·exact .inr ⟨hw.trans h1,h2⟩
section
variable {P:Program} {c:Ctx} {x:X} {a:Act} {w:World} {H:Nat→Value} {A:Nat→Nat→Prop} {ops:Array Oper} {mos:List MO}
theorem RepS.off {st:Nat→Ent} {s:Nat} (hg:st s=.gone) {v:V} {xv:Value} (h:RepS w A st H v xv):v.off s:=by
 cases v<;>first | rfl | skip
 ·rcases h with ⟨b,_,⟨T,cs,h2⟩,_⟩ | h
  ·simp only [V.off,V.on,bne_iff_ne,ne_eq]
   intro e;rw [e,hg] at h2;cases h2
  ·cases h
 ·rcases h with h | h
  ·exact h.elim
  ·cases h
 ·rcases h with h | h
  ·exact h.elim
  ·cases h
 ·rcases h with h | h
  ·exact h.elim
  ·cases h
theorem zcR.off {st:Nat→Ent} {s:Nat} (hg:st s=.gone):∀ {xs:List V} {vs:List Value},zcR w A st H xs vs→∀ v∈xs,v.off s
 | [],_,_,v,hv=>by simp at hv
 | _ :: _,_,⟨u,us,h1,h2,h3⟩,v,hv=>by
  rcases List.mem_cons.1 hv with rfl | hv
  ·exact RepS.off hg h2
  ·exact zcR.off hg h3 v hv
theorem ztu {s:Nat} {v:V} (h:v.off s):onS (fun k=>k != s) v=true:=by
 cases v<;>first | rfl | exact h
theorem zco.off {st:Nat→Ent} {s:Nat} (hg:st s=.gone):∀ {xs:List V} {vs:List Value},zco w A st H xs vs→xs.all (onK fun k=>k != s)=true
 | [],_,_=>rfl
 | x :: _,_,⟨u,us,h1,h2,h3⟩=>by
  simp only [List.all_cons,zco.off hg h3,Bool.and_true]
  cases x<;>first | rfl | skip
  obtain ⟨T,z,xs,h4,_⟩:=h2
  simp only [onK,bne_iff_ne,ne_eq]
  intro e;rw [e,hg] at h4;cases h4
theorem RepT.off {st:Nat→Ent} {s:Nat} (hg:st s=.gone) {v:V} {xv:Value} (h:RepT w A st H v xv):v.off s:=by
 cases v<;>first | rfl | exact RepS.off hg h | skip
 ·obtain ⟨T,z,xs,h1,_⟩:=h
  simp only [V.off,V.on,bne_iff_ne,ne_eq]
  intro e;rw [e,hg] at h1;cases h1
 ·obtain ⟨fs,cs,_,h2,h3⟩:=h
  simp only [V.off,V.on,Bool.and_eq_true,List.all_eq_true]
  exact ⟨fun v hv=>ztu (zcR.off hg h2 v hv),fun v hv=>ztu (zcR.off hg h3 v hv)⟩
 ·obtain ⟨vs,_,h2⟩:=h
  exact zco.off hg h2
theorem zaY.off {st:Nat→Ent} {s:Nat} (hg:st s=.gone):∀ {xs:List V} {vs:List Value},zaY w A st H xs vs→∀ v∈xs,v.off s
 | [],_,_,v,hv=>by simp at hv
 | _ :: _,_,⟨u,us,h1,h2,h3⟩,v,hv=>by
  rcases List.mem_cons.1 hv with rfl | hv
  ·exact RepT.off hg h2
  ·exact zaY.off hg h3 v hv
theorem SimH.cells_off (h:SimH c x a w H A) {s:Nat} (hg:x.st s=.gone):∀ id T cs,x.st id=.blk T cs→∀ v∈cs,v.off s:=fun id T cs hi=>by
 have h1:=h.ent id
 rw [hi] at h1
 obtain ⟨b,C,_,_,h3,_⟩:=h1
 exact zaY.off hg h3
theorem SimH.opd_off (h:SimH c x a w H A) {s:Nat} (hg:x.st s=.gone) {op:Op} {m:M} (hm:compM P c.N c.G op=some m):∀ y∈m.opds,(y.ev x.env).off s:=fun y hy=>by
 obtain ⟨o,ho⟩:=zr5 hm y hy
 exact RepT.off hg (zaf h ho)
theorem zsn {st:Nat→Ent} {slot:Nat} {m:M} {e:Nat→V} {v:V} {U:Upds} (hs:semM slot m e st=some (v,U)) :
  zjv st (updL st U)∧(∀ id,id≠slot→st id=.gone→updL st U id=.gone)∧(∀ s,s≠slot→st s=.gone→∀ q∈U,q.1≠s)∧(m.writes=false→∀ id T cs,st id=.blk T cs→updL st U id=.blk T cs):=by
 rcases semM_upd hs with rfl | ⟨n,rfl,hg⟩ | ⟨i,T,cs,cs',rfl,hi,hw⟩ | ⟨i,T,z,xs,ys,rfl,hi,_⟩
 ·exact ⟨fun id T z xs h=>⟨[],by simpa [updL] using h⟩,fun _ _ h=>h,fun _ _ _ q hq=>by simp at hq,fun _ _ _ _ h=>h⟩
 ·refine ⟨fun id T z xs h=>⟨[], ?_⟩,fun id hid h=>?_,fun s hs _ q hq=>?_,fun _ id T cs h=>?_⟩
  ·have:id≠slot:=fun e=>by rw [e,hg] at h;cases h
   simpa [updL,zau _ _ this] using h
  ·simpa [updL,zau _ _ hid] using h
  ·simp at hq;subst hq;exact Ne.symm hs
  ·have:id≠slot:=fun e=>by rw [e,hg] at h;cases h
   simpa [updL,zau _ _ this] using h
 ·refine ⟨fun id T z xs h=>⟨[], ?_⟩,fun id hid h=>?_,fun s hs hg q hq=>?_,fun h=>by rw [hw] at h;cases h⟩
  ·have:id≠i:=fun e=>by rw [e,hi] at h;cases h
   simpa [updL,zau _ _ this] using h
  ·have:id≠i:=fun e=>by rw [e,hi] at h;cases h
   simpa [updL,zau _ _ this] using h
  ·simp at hq;subst hq;intro e;dsimp only at e;rw [e,hg] at hi;cases hi
 ·refine ⟨fun id T' z' xs' h=>?_,fun id hid h=>?_,fun s hs hg q hq=>?_,fun _ id T cs h=>?_⟩
  ·by_cases e:id=i
   ·subst e;rw [hi] at h;cases h;exact ⟨ys,by simp [updL,updE_same]⟩
   ·exact ⟨[],by simpa [updL,zau _ _ e] using h⟩
  ·have:id≠i:=fun e=>by rw [e,hi] at h;cases h
   simpa [updL,zau _ _ this] using h
  ·simp at hq;subst hq;intro e;dsimp only at e;rw [e,hg] at hi;cases hi
  ·have:id≠i:=fun e=>by rw [e,hi] at h;cases h
   simpa [updL,zau _ _ this] using h
theorem lend_st {st:Nat→Ent} {ids:List Nat} {ents es:List Ent} (hl:Lends st ids ents) (hf:Fol ents es) :
  zjv st (updL st (lendU ids es))∧(∀ id,st id=.gone→id ∉ ids)∧∀ id,st id=.gone→updL st (lendU ids es) id=.gone:=by
 obtain ⟨hz1,hz2⟩:=zeW ids (es.map (Ent.ren (nameOf ids))) st hl.nodup (by simp [hf.len,hl.len])
 have hnot:∀ id,st id=.gone→id ∉ ids:=fun id hg hid=>by
  obtain ⟨k,hk,rfl⟩:=zit hid
  rw [hl.ent k hk] at hg
  exact hl.live k hk (zjS hg)
 refine ⟨fun id T z xs h=>?_,hnot,fun id hg=>(hz2 id (hnot id hg)).trans hg⟩
 by_cases hid:id∈ids
 ·obtain ⟨k,hk,rfl⟩:=zit hid
  rw [hl.ent k hk] at h
  obtain ⟨ys,h1⟩:=hf.row _ _ _ _ (zmR h)
  have hk2:k < es.length:=by rw [hf.len,hl.len];exact hk
  refine ⟨ys, ?_⟩
  have h2:=hz1 k hk
  simp only [lendU,nameOf] at h2 ⊢
  rw [h2]
  simp only [List.getD_eq_getElem?_getD,List.getElem?_map,List.getElem?_eq_getElem hk2,Option.map_some,Option.getD_some]
  simp only [entF,List.getD_eq_getElem?_getD,List.getElem?_eq_getElem hk2,Option.getD_some] at h1
  rw [h1]
  rfl
 ·exact ⟨[],by rw [show updL st (lendU ids es) id=st id from hz2 id hid];simpa using h⟩
theorem zt0 {ids:List Nat} {es:List Ent}:∀ q∈lendU ids es,q.1∈ids:=fun q hq=>(List.of_mem_zip hq).1
theorem zsb {i j:MO} (h:zlc i j=true):(∀ d,i.dst=some d→d ∉ j.tmps∧j.dst≠some d)∧(∀ d,j.dst=some d→d ∉ i.tmps)∧i.slot≠j.slot∧(i.m.quiet=true∨(i.m.isLoad=true∧(j.m.writes=false∨i.held j=true))):=by
 unfold zlc at h
 simp only [Bool.and_eq_true,Bool.or_eq_true,Bool.not_eq_true',bne_iff_ne,ne_eq] at h
 obtain ⟨⟨⟨h1,h2⟩,h3⟩,h4⟩:=h
 refine ⟨fun d hd=>?_,fun d hd=>?_,h3,h4⟩
 ·rw [hd] at h1
  simp only [Bool.and_eq_true,Bool.not_eq_true',bne_iff_ne,ne_eq,List.contains_eq_mem,decide_eq_false_iff_not] at h1
  exact h1
 ·rw [hd] at h2
  simpa using h2
theorem zis {mo:MO} {d:Nat} (h:d ∉ mo.tmps):(∀ y∈mo.m.opds,d ∉ y.tmps)∧(∀ w,mo.guard≠some (d,w))∧d ∉ mo.av:=by
 simp only [MO.tmps,M.tmps,List.mem_append,List.mem_flatMap,not_or,not_exists,not_and] at h
 refine ⟨h.1,fun w hw=>?_,h.2.2⟩
 have:=h.2.1
 rw [hw] at this
 simp at this
theorem zsK (h:SimH c x a w H A) {mi mj:MO} {oj:Oper} (hcj:zf6 P c.N c.G ops mj.slot mj.av oj=some mj) (hap:zlc mi mj=true) (hsl:c.n0≤mi.slot) {Kp:V→(Nat→Ent)→Prop} (hp:zlm c.n0 Kp) {v:V} {U:Upds} (hy:Yld mi x v U) {K:X→Prop}
  (hs:zdE P c.G mj K Kp (x.put mi.dst v U)):zdE P c.G mj (fun x'=>Yld mi x' v U∧K (x'.put mi.dst v U)) Kp x:=by
 obtain ⟨ha1,ha2,ha3,ha4⟩:=zsb hap
 have hmj:=(zeG hcj).1
 have hq:mi.m.quiet=true∨mi.m.isLoad=true:=ha4.imp id And.left
 have hU:=hy.upds hq
 have hwj:wantX (x.put mi.dst v U).env mj.guard=wantX x.env mj.guard:=zpR (fun t ht w=>(zis (ha1 t ht).1).2.1 w)
 have hevj:∀ y∈mj.m.opds,y.ev (x.put mi.dst v U).env=y.ev x.env:=fun y hyy=>zuu (fun t ht=>(zis (ha1 t ht).1).1 y hyy)
 have hwi:∀ u,wantX (putEnv x.env mj.dst u) mi.guard=wantX x.env mi.guard:=fun u=>zpR (fun t ht w=>(zis (ha2 t ht)).2.1 w)
 have hevi:∀ u,∀ y∈mi.m.opds,y.ev (putEnv x.env mj.dst u)=y.ev x.env:=fun u y hyy=>zuu (fun t ht=>(zis (ha2 t ht)).1 y hyy)
 have hdd:∀ d,mi.dst=some d→mj.dst≠some d:=fun d hd=>(ha1 d hd).2
 have fin:∀ (u:V) (Uj:Upds),zjv x.st (updL x.st Uj)→(x.st mi.slot=.gone→updL x.st Uj mi.slot=.gone∧∀ q∈Uj,q.1≠mi.slot)→(mi.m.isLoad=true→mi.m.quiet=false→∀ ag n y,mi.m=.load ag n y→∀ id off,y.ev x.env=.ptr id off→∀ T cs,x.st id=.blk T cs→updL x.st Uj id=.blk T cs)→K ((x.put mi.dst v U).put mj.dst u Uj) →
   Yld mi (x.put mj.dst u Uj) v U∧K ((x.put mj.dst u Uj).put mi.dst v U):=by
  intro u Uj hr hg hb hK
  refine ⟨hy.keep (hevi u) (hwi u) hr (fun hgo=>by rw [show (x.put mj.dst u Uj).st=updL x.st Uj from rfl,(hg (isGone_spec hgo)).1];rfl) ?_, ?_⟩
  ·rcases ha4 with h1 | ⟨h1,h2⟩
   ·exact .inl h1
   ·by_cases h3:mi.m.quiet=true
    ·exact .inl h3
    ·exact .inr ⟨h1,hb h1 (by simpa using h3)⟩
  ·rw [put_comm hdd ?_]
   ·exact hK
   ·intro p hp q hq
    rcases hU with rfl | ⟨n,rfl,hgo⟩
    ·simp at hp
    ·simp at hp;subst hp;exact (hg hgo).2 q hq
 have hst:∀ id,id≠mi.slot→(x.put mi.dst v U).st id=x.st id:=by
  intro id hid
  rcases hU with rfl | ⟨n,rfl,hgo⟩
  ·rfl
  ·simp [X.put,updL,zau _ _ hid]
 have hav0:∀ ids,avoidV (mj.av.map x.env) ids=avoidV (mj.av.map (x.put mi.dst v U).env) ids:=by
  intro ids
  congr 1
  refine List.map_congr_left fun t ht=>?_
  have:=zuu (e:=x.env) (d:=mi.dst) (v:=v) (y:=.t t) (fun d hd=>by
   have:=(zis (ha1 d hd).1).2.2
   simp only [O.tmps,List.mem_singleton]
   intro e;subst e;exact this ht)
  exact this.symm
 have hheld:mi.held mj=true→∀ ag n y,mi.m=.load ag n y→∀ id off,y.ev x.env=.ptr id off→∀ ids,avoidV (mj.av.map (x.put mi.dst v U).env) ids=true→id ∉ ids:=by
  intro hh ag n y hmy id off hye ids hav
  unfold MO.held at hh
  rw [hmy] at hh
  cases y with
  | c _=>cases hh
  | t t =>
   simp only [M.addr,Bool.and_eq_true,List.contains_eq_mem,decide_eq_true_eq,bne_iff_ne,ne_eq] at hh
   rw [← hav0] at hav
   have:=List.all_eq_true.1 hav _ (List.mem_map_of_mem hh.1)
   rw [show x.env t=.ptr id off from hye] at this
   simpa using this
 unfold zdE at hs ⊢
 rw [hwj] at hs
 split at hs
 ·exact hs.elim
 ·rename_i hw
  exact fin _ _ (fun id T z xs hh=>⟨[],by simpa [updL] using hh⟩) (fun hg=>⟨hg,fun q hq=>by simp at hq⟩) (fun _ _ _ _ _ _ _ _ _ _ _ hh=>hh) hs
 ·rename_i hw
  split at hs
  ·rename_i b f xs hm
   rw [hm] at hevj hmj
   have hf:=hevj f (by simp [M.opds])
   have hxs:xs.map (O.ev (x.put mi.dst v U).env)=xs.map (O.ev x.env):=ztH (fun y hyy=>hevj y (by simp [M.opds,hyy]))
   rw [hf,hxs] at hs
   unfold zpI at hs ⊢
   split at hs
   ·rename_i fid first cap hfv
    obtain ⟨ids,ents,args',R,hpu,hav,hcx,hpc,hR⟩:=hs
    have hvs:x.st mi.slot=.gone→∀ u∈first++xs.map (O.ev x.env)++cap,u.off mi.slot:=by
     intro hgo u hu
     obtain ⟨cl,fo,_,_,h1,h2⟩:=zoF hmj
     simp only [List.mem_append] at hu
     have h3:=zaf h h1
     rw [hfv] at h3
     obtain ⟨fs,cs,_,h5,h6⟩:=h3
     rcases hu with (hu | hu) | hu
     ·exact zcR.off hgo h5 u hu
     ·exact zaY.off hgo (zer h h2) u hu
     ·exact zcR.off hgo h6 u hu
    have hids:x.st mi.slot=.gone→∀ k,k < ids.length→nameOf ids k≠mi.slot:=by
     intro hgo k
     induction k using Nat.strongRecOn with
     | _ k ih =>
      intro hk e
      rcases hcx.ment k hk with ⟨u,hu,h1⟩ | ⟨j,hj,h1⟩
      ·have:=hvs hgo u hu
       rw [e] at h1
       rw [V.off,h1] at this
       cases this
      ·have h2:=ih j hj (by omega)
       rw [hst _ h2,e] at h1
       cases hse:x.st (nameOf ids j) with
       | gone=>rw [hse] at h1;cases h1
       | row T z xs=>rw [hse] at h1;cases h1
       | blk T cs =>
        rw [hse] at h1
        have h3:=h.cells_off hgo _ _ _ hse
        have:Ent.on (fun i=>i != mi.slot) (.blk T cs)=true:=List.all_eq_true.2 h3
        rw [this] at h1
        cases h1
    have hst':∀ k,k < ids.length→(x.put mi.dst v U).st (nameOf ids k)=x.st (nameOf ids k):=by
     intro k hk
     rcases hU with rfl | ⟨n,rfl,hgo⟩
     ·rfl
     ·exact hst _ (hids hgo k hk)
    have hargs:(first++xs.map (O.ev x.env)++cap).map (argV (x.put mi.dst v U).st)=(first++xs.map (O.ev x.env)++cap).map (argV x.st):=by
     rcases hU with rfl | ⟨n,rfl,hgo⟩
     ·rfl
     ·refine List.map_congr_left fun u hu=>?_
      show norm1 (res (updE x.st mi.slot n) u)=_
      rw [zmL (hvs hgo u hu)]
      rfl
    have hcx':CallX x.st (first++xs.map (O.ev x.env)++cap) ids ents args':=by
     refine ⟨⟨hcx.lends.nodup,hcx.lends.len,fun k hk=>(hst' k hk).symm.trans (hcx.lends.ent k hk),hcx.lends.live,hcx.lends.on⟩,hargs.symm.trans hcx.eq,hcx.on,fun k hk=>?_⟩
     rcases hcx.ment k hk with h1 | ⟨j,hj,h1⟩
     ·exact .inl h1
     ·exact .inr ⟨j,hj,by rw [← hst' j (by omega)];exact h1⟩
    refine ⟨ids,ents,args',R,hpu,by rw [← hav];exact hav0 ids,hcx',hpc,fun o es ho hfo=>?_⟩
    have hK:=hR o es ho hfo
    obtain ⟨hr1,hr2,hr3⟩:=lend_st hcx'.lends hfo
    cases o with
    | ret u =>
     refine fin u _ hr1 (fun hgo=>⟨hr3 _ hgo,fun q hq e=>hr2 _ hgo (e ▸ zt0 q hq)⟩) (fun hl hnq=>?_) hK
     rcases ha4 with h1 | ⟨_,h2⟩
     ·rw [hnq] at h1;cases h1
     ·rcases h2 with h2 | h2
      ·rw [hm] at h2
       have hb:b=true:=by simpa [M.writes] using h2
       have h0:=hpu hb
       subst h0
       exact fun _ _ _ _ _ _ _ _ _ h=>h
      ·intro ag n y hmy id off hye T cs hid
       have hnid:id ∉ ids:=hheld h2 ag n y hmy id off hye ids hav
       have hz:=(zeW ids (es.map (Ent.ren (nameOf ids))) x.st hcx.lends.nodup (by simp [hfo.len,hcx.lends.len])).2 id hnid
       exact hz.trans hid
    | panic u =>
     refine hp _ _ _ (fun k hk=>?_) hK
     have hks:k≠mi.slot:=by omega
     by_cases hki:k∈ids
     ·obtain ⟨j,hj,rfl⟩:=zit hki
      obtain ⟨hz1,_⟩:=zeW ids (es.map (Ent.ren (nameOf ids))) x.st hcx.lends.nodup (by simp [hfo.len,hcx.lends.len])
      obtain ⟨hz3,_⟩:=zeW ids (es.map (Ent.ren (nameOf ids))) (x.put mi.dst v U).st hcx.lends.nodup (by simp [hfo.len,hcx.lends.len])
      exact (hz1 j hj).trans (hz3 j hj).symm
     ·obtain ⟨_,hz2⟩:=zeW ids (es.map (Ent.ren (nameOf ids))) x.st hcx.lends.nodup (by simp [hfo.len,hcx.lends.len])
      obtain ⟨_,hz4⟩:=zeW ids (es.map (Ent.ren (nameOf ids))) (x.put mi.dst v U).st hcx.lends.nodup (by simp [hfo.len,hcx.lends.len])
      exact ((hz2 k hki).trans (hst k hks).symm).trans (hz4 k hki).symm
   ·exact hs.elim
  ·rename_i y hm
   rw [hm] at hevj hmj
   have hyv:=hevj y (by simp [M.opds])
   have hres:res (x.put mi.dst v U).st (y.ev x.env)=res x.st (y.ev x.env):=by
    rcases hU with rfl | ⟨n,rfl,hgo⟩
    ·rfl
    ·exact zmL (h.opd_off hgo hmj y (by simp [M.opds]))
   rw [hyv,hres] at hs
   split at hs
   ·exact hp _ _ _ (fun k hk=>(hst k (by omega)).symm) hs
   ·exact hs.elim
  ·rename_i n y' z' hm
   rw [hm] at hevj hmj
   have hsem:semM mj.slot (.store n y' z') (x.put mi.dst v U).env (x.put mi.dst v U).st=semM mj.slot (.store n y' z') x.env x.st:=by
    rw [zmC hevj]
    rcases hU with rfl | ⟨n,rfl,hgo⟩
    ·rfl
    ·exact zqa (h.cells_off hgo) (Ne.symm ha3) (h.opd_off hgo hmj)
   rw [hsem] at hs
   split at hs
   ·rename_i u Uj hu
    obtain ⟨hr1,hr2,hr3,hr4⟩:=zsn hu
    refine ⟨by rw [← hs.1];exact hav0 _,fin u Uj hr1 (fun hgo=>⟨hr2 _ ha3 hgo,hr3 _ ha3 hgo⟩) (fun hl hnq=>?_) hs.2⟩
    rcases ha4 with h1 | ⟨_,h2⟩
    ·rw [hnq] at h1;cases h1
    ·rcases h2 with h2 | h2
     ·rw [hm] at h2;cases h2
     ·intro ag k y hmy id off hye T cs hid
      have hnid:=hheld h2 ag k y hmy id off hye _ hs.1
      rcases semM_upd hu with rfl | ⟨e,rfl,hg⟩ | ⟨i,T',cs',cs'',rfl,hi,_⟩ | ⟨i,T',z,xs,ys,rfl,hi,_⟩
      ·exact hid
      all_goals
       have hne:=hnid
       simp only [List.map_cons,List.map_nil,List.mem_singleton] at hne
       simpa [updL,zau _ _ hne] using hid
   ·exact hs.elim
  ·rename_i hnc hnp hns
   have hsem:semM mj.slot mj.m (x.put mi.dst v U).env (x.put mi.dst v U).st=semM mj.slot mj.m x.env x.st:=by
    rw [zmC hevj]
    rcases hU with rfl | ⟨n,rfl,hgo⟩
    ·rfl
    ·exact zqa (h.cells_off hgo) (Ne.symm ha3) (h.opd_off hgo hmj)
   rw [hsem] at hs
   split at hs
   ·rename_i u Uj hu
    obtain ⟨hr1,hr2,hr3,hr4⟩:=zsn hu
    refine fin u Uj hr1 (fun hgo=>⟨hr2 _ ha3 hgo,hr3 _ ha3 hgo⟩) (fun hl hnq=>?_) hs
    rcases ha4 with h1 | ⟨_,h2⟩
    ·rw [hnq] at h1;cases h1
    ·rcases h2 with h2 | h2
     ·exact fun _ _ _ _ _ _ _=>hr4 h2 _
     ·exact fun ag n y _ id off _ T cs hid=>hr4 (by generalize mj.m=m at hnc hns;cases m<;>first | rfl | exact absurd rfl (hns _ _ _) | exact absurd rfl (hnc _ _ _)) id T cs hid
   ·exact hs.elim
end
end Vm
