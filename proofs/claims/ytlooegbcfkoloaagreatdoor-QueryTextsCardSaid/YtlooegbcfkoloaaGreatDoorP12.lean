/- tomelaw26.QueryTexts returns true at every text: the query that is read of a text, its end, its errors and its text are the reference's own. Condition: the two laid tables of the library of Go, tied to the program by the given ties. -/
import Derived.Test.YtlooegbcfkoloaaGreatDoorP9
import Derived.Test.YtlooegbcfkoloaaGreatDoorP11
set_option maxRecDepth 20000
set_option linter.unusedVariables false
set_option linter.unusedSimpArgs false
set_option linter.unusedSectionVars false
noncomputable section
namespace Go.Proofs.YtlooegbcfkoloaaGreatDoor
section
open Go.RowKit
open Vm
variable[Gl]
structure PD(c:Qy.Core):Prop where
 il:c.items.length≤900000
 i:∀x∈c.items,x.star=false→PY x.e
 fl:c.from_.length≤900000
 f:∀f∈c.from_,PM f.on
 w:PM c.wher
 h:PM c.having
 g:PM c.group
structure PT(s:Qy.Sel):Prop where
 cl:s.cores.length≤900000
 c:∀c∈s.cores,PD c
 ol:s.ops.length≤900000
 tl:s.order.length≤900000
 t:∀t∈s.order,PY t.e
 l:PM s.lim
 o:PM s.off
theorem zx0{w:List UInt8}{l:List Ex.E}(h:Qy.R1 l)(hs:Sh (Qy.behind w l)):PM l:=⟨(zt0 h).1,fun x hx=>sh_py (h.all x hx) (zv3 hs x hx)⟩
theorem zzh{b:Bool}{f:Qy.From}(h:Qy.RF b f)(hs:Sh (Qy.fromP b f)):PM f.on:=by
 by_cases hj:f.join=0
 ·rw[h.z hj];exact⟨by simp,by simp⟩
 ·have hb:b=false:=by
   cases b
   ·rfl
   ·exact absurd (h.b rfl) hj
  subst hb;unfold Qy.fromP at hs;simp only[qb0,true_and]at hs;rw[if_pos hj]at hs;exact zx0 (.inr (h.o hj)) (sh_r hs)
theorem rc_pd{c:Qy.Core}(h:Qy.RC c)(hs:Sh (Qy.coreP c)):PD c:=by
 have hil:=h.il;have hgl:=h.gl;obtain⟨f1,_⟩:=ztV h.f;unfold Qy.coreP at hs;refine⟨by omega,fun x hx hst=>?_,by omega,fun f hf=>?_,zx0 h.w (sh_r (sh_r (sh_l (sh_l hs)))),zx0 h.h (sh_r hs),⟨by omega,fun x hx=>sh_py (h.g x hx) (zv3 (sh_r (sh_l hs)) x hx)⟩⟩
 ·have h1:=zkZ (sh_l (sh_l (sh_r (sh_l (sh_l hs))))) (qa18 hx);refine sh_py ((h.i x hx).e hst).1 ?_;unfold Qy.itemP at h1;rw[hst]at h1;simp only[qb0]at h1;split at h1
  ·exact h1
  ·exact sh_l (sh_l h1)
 ·have h1:=sh_r (sh_l (sh_r (sh_l (sh_l hs))));have hf':=h.f;revert h1 hf' hf;cases c.from_ with
  |nil=>intro hf;cases hf
  |cons g r=>
   intro hf h1 hf';obtain⟨h2,h3,_⟩:=hf';unfold Qy.tablesP at h1;rcases qa53.1 hf with rfl|hf
   ·exact zzh h2 (sh_l h1)
   ·exact zzh (h3 f hf) (zzp (sh_r h1) f hf)
theorem rs_pt{s:Qy.Sel}(h:Qy.RS s)(hs:Sh (Qy.printQ s)):PT s:=by
 have hn:=h.n;have hcl:=h.cl;have htl:=h.tl;unfold Qy.printQ at hs;refine⟨by omega,fun c hc=>rc_pd (h.c c hc) ?_,by omega,by omega,fun t ht=>sh_py (h.t t ht).e ?_,zx0 h.l (sh_r (sh_l hs)),zx0 h.f (sh_r hs)⟩
 ·have h1:=sh_l (sh_l (sh_l hs));revert h1 hc;cases s.cores with
  |nil=>intro hc;cases hc
  |cons d cs=>
   intro hc h1;rw[Qy.coresP]at h1;rcases qa53.1 hc with rfl|hc
   ·exact sh_l h1
   ·exact zq5 (sh_r h1) c hc
 ·have h1:=sh_r (sh_l (sh_l hs));unfold Qy.orderP at h1;have hl:s.order≠[]:=fun e=>by rw[e]at ht;cases ht
  rw[if_neg hl]at h1;have h2:=zkZ (sh_r h1) (qa18 ht);unfold Qy.termP at h2;exact sh_l (sh_l h2)
theorem rfs_at{l:List Qy.From}(hf:Qy.RFs l)(i:Nat)(h1:i<l.length):Qy.RF (decide (i=0)) l[i]:=by
 cases l with
 |nil=>cases h1
 |cons g r=>
  cases i with
  |zero=>exact hf.1
  |succ i=>exact hf.2.1 _ (qa36 (by simpa using h1))
def corL(c:Qy.Core):List UInt8:=Qy.selP c.dist++Qy.sepS (c.items.map Qy.itemP)++Qy.tablesP c.from_++Qy.behind Qy.wWhere c.wher++Qy.behind Qy.wGroupBy c.group++Qy.behind Qy.wHaving c.having
theorem corL_eq(c:Qy.Core):Qy.coreP c=corL c:=by unfold Qy.coreP corL;simp only[qa28]
theorem zz5{w:List UInt8}{l:List Ex.E}(h:l≠[]):Qy.behind w l=[32]++w++[32]++Qy.sepS (l.map Ex.print):=by unfold Qy.behind;rw[if_neg h]
theorem zyT{l:List Ex.E}(h:l≠[]):0<l.length:=List.length_pos_iff.2 h
section
variable{c:Qy.Core}(hp:PD c)
include hp
theorem r_core5{s:List UInt8}(h:Sh (s++Qy.behind Qy.wHaving c.having)):zbB pr.ev lup (.str s) (coC c)=some (.ret (.str (s++Qy.behind Qy.wHaving c.having)),[]):=by
 obtain⟨c0,c1,c2,c3,c4,c5⟩:=co_1 c;by_cases hl:c.having=[]
 ·simp[zbB,c4,hl,Qy.behind,rtn]
 ·have hpos:=zyT hl;have a2:=zbT h;have hb:=sh_r h;rw[zz5 hl]at a2 hb ⊢;have hpr:=zhu hp.h (sh_r hb);have a1:=zbT hb;simp only[Qy.wHaving,qa28,qb2]at a1 a2 ⊢;simp[-List.append_assoc,zbB,c4,hpos,zaa hpr,a1,a2,rtn]
theorem r_core4{s:List UInt8}(h:Sh (s++Qy.behind Qy.wGroupBy c.group++Qy.behind Qy.wHaving c.having)):zbC pr.ev lup (.str s) (coC c)=some (.ret (.str (s++Qy.behind Qy.wGroupBy c.group++Qy.behind Qy.wHaving c.having)),[]):=by
 obtain⟨c0,c1,c2,c3,c4,c5⟩:=co_1 c;have j:=r_core5 hp h;by_cases hl:c.group=[]
 ·have e:Qy.behind Qy.wGroupBy c.group=[]:=by rw [hl];rfl
  rw[e,qa48]at j ⊢;simp[-List.append_assoc,zbC,c5,hl,j]
 ·have hpos:=zyT hl;have a2:=zbT (sh_l h);have hb:=sh_r (sh_l h);generalize Qy.behind Qy.wHaving c.having=t at *;rw[zz5 hl]at a2 hb j ⊢;have hpr:=zhu hp.g (sh_r hb);have a1:=zbT hb;simp only[Qy.wGroupBy,qb2]at a1 a2 j ⊢;simp[-List.append_assoc,zbC,c5,hpos,zaa hpr,a1,a2,j]
theorem r_core3{s:List UInt8}(h:Sh (s++Qy.behind Qy.wWhere c.wher++Qy.behind Qy.wGroupBy c.group++Qy.behind Qy.wHaving c.having)):zch pr.ev lup (.str s) (coC c)=some (.ret (.str (s++Qy.behind Qy.wWhere c.wher++Qy.behind Qy.wGroupBy c.group++Qy.behind Qy.wHaving c.having)),[]):=by
 obtain⟨c0,c1,c2,c3,c4,c5⟩:=co_1 c;have j:=r_core4 hp h;by_cases hl:c.wher=[]
 ·have e:Qy.behind Qy.wWhere c.wher=[]:=by rw [hl];rfl
  rw[e,qa48]at j ⊢;simp[-List.append_assoc,zch,c3,hl,j]
 ·have hpos:=zyT hl;have a2:=zbT (sh_l (sh_l h));have hb:=sh_r (sh_l (sh_l h));generalize Qy.behind Qy.wHaving c.having=t at *;generalize Qy.behind Qy.wGroupBy c.group=t2 at *;rw[zz5 hl]at a2 hb j ⊢;have hpr:=zhu hp.w (sh_r hb);have a1:=zbT hb;simp only[Qy.wWhere,qb2]at a1 a2 j ⊢;simp[-List.append_assoc,zch,c3,hpos,zaa hpr,a1,a2,j]
theorem zxV(hf:Qy.RFs c.from_){s:List UInt8}(h:Sh (s++Qy.tablesP c.from_++Qy.behind Qy.wWhere c.wher++Qy.behind Qy.wGroupBy c.group++Qy.behind Qy.wHaving c.having)):∀(n i:Nat),i+n=c.from_.length →
  lup Out (zbz pr.ev lup) [.str (s++zhI c.from_ i),.int .i64 (i:Int),coC c]=some (.ret (.str (s++Qy.tablesP c.from_++Qy.behind Qy.wWhere c.wher++Qy.behind Qy.wGroupBy c.group++Qy.behind Qy.wHaving c.having)),[])
 |0,i,hi=>by
  obtain rfl:i=c.from_.length:=by omega
  obtain⟨c0,c1,c2,c3,c4,c5⟩:=co_1 c;have j:=r_core3 hp h;have e:zhI c.from_ c.from_.length=Qy.tablesP c.from_:=by unfold zhI;rw[List.take_length]
  rw[zan,e];simp[-List.append_assoc, -Int.natCast_add,zbz,c2,j]
 |n+1,i,hi=>by
  have hfl:=hp.fl;have h1:i<c.from_.length:=by omega
  obtain⟨c0,c1,c2,c3,c4,c5⟩:=co_1 c;have ih:=zxV hf h n (i+1) (by omega);have e:zhI c.from_ c.from_.length=Qy.tablesP c.from_:=by unfold zhI;rw[List.take_length]
  have hs:Sh (s++zhI c.from_ (i+1)):=by
   have h2:=sh_l (sh_l (sh_l h));rw[←e]at h2;have h3:=zqU c.from_ n (i+1) (by omega) (sh_r h2);have h4:∀d k,k+d=c.from_.length→Sh (s++zhI c.from_ c.from_.length)→Sh (s++zhI c.from_ k):=fun d=>by
    induction d with
    |zero=>intro k hk hh;rwa[show k=c.from_.length by omega]
    |succ d ihd=>
     intro k hk hh;have:=ihd (k+1) (by omega) hh;rw[zqT _ k (by omega),←qa28]at this;exact sh_l this
   exact h4 n (i+1) (by omega) h2
  rw[zqT _ i h1]at hs ih;have hr:=rfs_at hf i h1;have hon:=hp.f _ (qa36 h1);have hel:=ziZ zbr c.from_ i h1;have hw:=zbU (p:=i) (by omega);generalize c.from_[i]=f at *;rw[tabR_p hr,←qa28,←qa28]at hs ih;have hT:=r_ptable (decide (i=0)) hon (sh_r hs);have a1:=zbT hs;have a0:=zbT (sh_l hs);have hi1:¬c.from_.length≤i:=by omega
  rw[zan];generalize Qy.behind Qy.wWhere c.wher=t1 at *;generalize Qy.behind Qy.wGroupBy c.group=t2 at *;generalize Qy.behind Qy.wHaving c.having=t3 at *;by_cases hi0:i=0
  ·subst hi0;simp only[decide_true,qa60,qa34]at *;simp[-Int.natCast_add, -List.append_assoc,zbz,zcg,h1,c2,hel,zuh,zbr.nm,a0,zaa hT,a1,show IntKind.wrap .i64 1=1 from rfl];simpa[-List.append_assoc]using ih
  ·simp only[qa45 hi0,qb0,qa48]at *;have hb:((i:Int)==0)=false:=by simp[hi0]
   simp[-Int.natCast_add, -List.append_assoc,zbz,zcg,h1,c2,hel,zuh,zbr.nm,hi0,hb,zaa hT,a1,hw,ih]
theorem zxW(hf:Qy.RFs c.from_)(h:Sh (corL c)):∀(n i:Nat),i+n=c.items.length →
  lup Out (zbA pr.ev lup) [.str (Qy.selP c.dist++jn Qy.itemP c.items i),.int .i64 (i:Int),coC c]=some (.ret (.str (corL c)),[])
 |0,i,hi=>by
  obtain rfl:i=c.items.length:=by omega
  obtain⟨c0,c1,c2,c3,c4,c5⟩:=co_1 c;have j:=zxV hp hf (s:=Qy.selP c.dist++Qy.sepS (c.items.map Qy.itemP)) h c.from_.length 0 (by omega);rw[ztD,qa48]at j;rw[zan,zvC];simp only[qa34]at j;simp[-List.append_assoc, -Int.natCast_add,zbA,zeZ,c1,j];rfl
 |n+1,i,hi=>by
  have hil:=hp.il;have h1:i<c.items.length:=by omega
  obtain⟨c0,c1,c2,c3,c4,c5⟩:=co_1 c;have ih:=zxW hf h n (i+1) (by omega);have hI:Sh (Qy.selP c.dist++jn Qy.itemP c.items c.items.length):=by rw[zvC];exact sh_l (sh_l (sh_l (sh_l h)))
  have hs:Sh (Qy.selP c.dist++jn Qy.itemP c.items (i+1)):=by
   have h4:∀d k,k+d=c.items.length→Sh (Qy.selP c.dist++jn Qy.itemP c.items k):=fun d=>by
    induction d with
    |zero=>intro k hk;rwa[show k=c.items.length by omega]
    |succ d ihd=>
     intro k hk;have:=ihd (k+1) (by omega);rw[jn_s _ _ k (by omega),←qa28,←qa28]at this;exact sh_l (sh_l this)
   exact h4 n (i+1) (by omega)
  rw[jn_s _ _ i h1,←qa28,←qa28]at hs ih;have hx:=r_pitem (hp.i _ (qa36 h1)) (sh_r hs);have hel:=ziZ zm8 c.items i h1;have hw:=zbU (p:=i) (by omega);have a1:=zbT hs;have a0:=zbT (sh_l hs);generalize c.items[i]=x at *;rw[zan];generalize corL c=t at *;by_cases hi0:i=0
  ·subst hi0;simp only[qa60,qa48,jn_0,qa34]at *;simp[-Int.natCast_add, -List.append_assoc,zbA,zcf,h1,c1,hel,zvD,zaa hx,a1,show IntKind.wrap .i64 1=1 from rfl];simpa using ih
  ·have hi2:0 < i:=by omega
   simp only[hi0,qa59]at a1 a0 ih;simp[-Int.natCast_add, -List.append_assoc,zbA,zcf,h1,c1,hel,zvD,zaa hx,a1,a0,hi2,hw,ih]
theorem r_pcore(hf:Qy.RFs c.from_)(h:Sh (Qy.coreP c)):pr.ev 23 [coC c] []=some (.ret (.str (Qy.coreP c)),[]):=by
 refine pr.of rfl rfl rfl (zjM _ _ _ _) ?_;obtain⟨c0,c1,c2,c3,c4,c5⟩:=co_1 c;rw[corL_eq]at h ⊢;have j:=zxW hp hf h c.items.length 0 (by omega);simp only[jn_0,qa48,qa34]at j;generalize corL c=t at *;cases hd:c.dist
 ·rw[hd]at j c0;simp only[Qy.selP,qb0]at j ⊢;simpa[-List.append_assoc, -List.cons_append,zek,zci,zdz.ck,c0]using j
 ·rw[hd]at j c0;simp only[Qy.selP,qa60]at j ⊢;have a0:strV .add [115,101,108,101,99,116,32] [100,105,115,116,105,110,99,116,32]=some (.str [115,101,108,101,99,116,32,100,105,115,116,105,110,99,116,32]):=add_s _ _ (by decide) (by decide);simpa[-List.append_assoc, -List.cons_append,zek,zci,zdz.ck,c0,a0]using j
end
end
section
open Go.RowKit
open Vm
variable[Gl]
def zr0:Vm.V:=.list [(.str [32,117,110,105,111,110,32]),(.str [32,117,110,105,111,110,32,97,108,108,32]),(.str [32,105,110,116,101,114,115,101,99,116,32]),(.str [32,101,120,99,101,112,116,32])]
theorem words_el{o:Int}(h:0≤o∧o≤3):elV 1 zr0 (.int .i64 o)=some (.str (Qy.wordP o)):=by
 have:o=0∨o=1∨o=2∨o=3:=by omega
 rcases this with rfl|rfl|rfl|rfl<;>rfl
def ordP(l:List Qy.Term)(i:Nat):List UInt8:=if i=0 then[]else[32,111,114,100,101,114,32,98,121,32]++jn Qy.termP l i
theorem ordP_s(l:List Qy.Term)(i:Nat)(h:i<l.length):ordP l (i+1)=ordP l i++(if i=0 then[32,111,114,100,101,114,32,98,121,32]else[44,32])++Qy.termP l[i]:=by
 unfold ordP;rw[if_neg (by omega),jn_s _ _ i h];by_cases h0:i=0
 ·subst h0;simp[jn_0]
 ·simp[h0]
theorem zvd(l:List Qy.Term):ordP l l.length=Qy.orderP l:=by
 unfold ordP Qy.orderP;cases l with
 |nil=>rfl
 |cons t r=>rw[if_neg (by simp),if_neg (by simp),zvC]
theorem tm_l11(t:Qy.Term):ldV false 1 (tmC t) 11=some (.int .i64 t.coll)∧ldV false 1 (tmC t) 12=some (.bool t.desc)∧ldV true 11 (tmC t) 0=some (encE t.e):=by
 obtain⟨⟨k,o,v,t',n,s,g,d,l⟩,m,st⟩:=t;simp only[tmC,expC_mk,enc_mk];exact⟨rfl,rfl,rfl⟩
section
variable{s:Qy.Sel}(hp:PT s)
include hp
theorem r_q3{x:List UInt8}(h:Sh (x++Qy.behind Qy.wOffset s.off)):zcq pr.ev lup (.str x) (seC s)=some (.ret (.str (x++Qy.behind Qy.wOffset s.off)),[]):=by
 obtain⟨c0,c1,c2,c3,c4⟩:=se_1 s;by_cases hl:s.off=[]
 ·simp[zcq,c4,hl,Qy.behind,rtn]
 ·have hpos:=zyT hl;have a2:=zbT h;have hb:=sh_r h;rw[zz5 hl]at a2 hb ⊢;have hpr:=zhu hp.o (sh_r hb);have a1:=zbT hb;simp only[Qy.wOffset,qa28,qb2]at a1 a2 ⊢;simp[-List.append_assoc,zcq,c4,hpos,zaa hpr,a1,a2,rtn]
theorem r_q2{x:List UInt8}(h:Sh (x++Qy.behind Qy.wLimit s.lim++Qy.behind Qy.wOffset s.off)):zdo pr.ev lup (.str x) (seC s)=some (.ret (.str (x++Qy.behind Qy.wLimit s.lim++Qy.behind Qy.wOffset s.off)),[]):=by
 obtain⟨c0,c1,c2,c3,c4⟩:=se_1 s;have j:=r_q3 hp h;by_cases hl:s.lim=[]
 ·have e:Qy.behind Qy.wLimit s.lim=[]:=by rw [hl];rfl
  rw[e,qa48]at j ⊢;simp[-List.append_assoc,zdo,c3,hl,j]
 ·have hpos:=zyT hl;have a2:=zbT (sh_l h);have hb:=sh_r (sh_l h);generalize Qy.behind Qy.wOffset s.off=t at *;rw[zz5 hl]at a2 hb j ⊢;have hpr:=zhu hp.l (sh_r hb);have a1:=zbT hb;simp only[Qy.wLimit,qb2]at a1 a2 j ⊢;simp[-List.append_assoc,zdo,c3,hpos,zaa hpr,a1,a2,j]
theorem r_q1{x:List UInt8}(h:Sh (x++Qy.orderP s.order++Qy.behind Qy.wLimit s.lim++Qy.behind Qy.wOffset s.off)):∀(n i:Nat),i+n=s.order.length →
  lup Out (zco pr.ev lup) [.str (x++ordP s.order i),.int .i64 (i:Int),seC s]=some (.ret (.str (x++Qy.orderP s.order++Qy.behind Qy.wLimit s.lim++Qy.behind Qy.wOffset s.off)),[])
 |0,i,hi=>by
  obtain rfl:i=s.order.length:=by omega
  obtain⟨c0,c1,c2,c3,c4⟩:=se_1 s;have j:=r_q2 hp h;rw[zan,zvd];simp[-List.append_assoc, -Int.natCast_add,zco,c2,j]
 |n+1,i,hi=>by
  have htl:=hp.tl;have h1:i<s.order.length:=by omega
  obtain⟨c0,c1,c2,c3,c4⟩:=se_1 s;have ih:=r_q1 h n (i+1) (by omega);have hI:Sh (x++ordP s.order s.order.length):=by rw[zvd];exact sh_l (sh_l h)
  have hs:Sh (x++ordP s.order (i+1)):=by
   have h4:∀d k,k+d=s.order.length→Sh (x++ordP s.order k):=fun d=>by
    induction d with
    |zero=>intro k hk;rwa[show k=s.order.length by omega]
    |succ d ihd=>
     intro k hk;have:=ihd (k+1) (by omega);rw[ordP_s _ k (by omega),←qa28,←qa28]at this;exact sh_l (sh_l this)
   exact h4 n (i+1) (by omega)
  rw[ordP_s _ i h1,←qa28,←qa28]at hs ih;have hx:=hp.t _ (qa36 h1);have hel:=ziZ zmX s.order i h1;have hw:=zbU (p:=i) (by omega);obtain⟨l1,l2,l3⟩:=tm_l11 s.order[i];unfold PY at hx;generalize s.order[i]=t at *;have j5:∀y:List UInt8,Sh (y++Qy.termP t)→zba pr.ev lup (.str y) (.int .i64 (i:Int)) (seC s)=some (.next [.str (y++Qy.termP t),.int .i64 ((i+1:Nat):Int),seC s]):=fun y hy=>by
   clear ih hs h hI;unfold Qy.termP at hy ⊢;rw[←qa28,←qa28]at hy ⊢;have a0:=zbT (sh_l (sh_l hy));by_cases hc:t.coll=1
   ·rw[if_pos hc]at hy ⊢;have a1:=zbT (sh_l hy);cases hd:t.desc
    ·rw[hd]at l2;simp[-Int.natCast_add, -List.append_assoc,zba,zbK,zbL,c2,hel,l1,l2,l3,zaa hx,hc,a0,a1,hw]
    ·rw[hd]at l2 hy;have a2:=zbT hy;simp only[qa60]at a2 ⊢;simp[-Int.natCast_add, -List.append_assoc,zba,zbK,zbL,c2,hel,l1,l2,l3,zaa hx,hc,a0,a1,a2,hw]
   ·rw[if_neg hc,qa48]at hy ⊢;cases hd:t.desc
    ·rw[hd]at l2;simp[-Int.natCast_add, -List.append_assoc,zba,zbK,zbL,c2,hel,l1,l2,l3,zaa hx,hc,a0,hw]
    ·rw[hd]at l2 hy;have a2:=zbT hy;simp only[qa60]at a2 ⊢;simp[-Int.natCast_add, -List.append_assoc,zba,zbK,zbL,c2,hel,l1,l2,l3,zaa hx,hc,a0,a2,hw]
  have j:=j5 _ hs;have a1:=zbT (sh_l hs);rw[zan];generalize x++Qy.orderP s.order++Qy.behind Qy.wLimit s.lim++Qy.behind Qy.wOffset s.off=z at *;by_cases hi0:i=0
  ·subst hi0;simp only[qa60,qa34]at *;simp[-Int.natCast_add, -List.append_assoc,zco,h1,c2,a1,j];simpa[-List.append_assoc]using ih
  ·simp only[hi0,qa59]at a1 ih j;simp[-Int.natCast_add, -List.append_assoc,zco,h1,c2,hi0,a1,j,ih]
theorem r_q0(hr:Qy.RS s)(h:Sh (Qy.printQ s)):∀(n i:Nat),i+n=s.cores.length →
  lup Out (zcp pr.ev lup) [.str (corP s.cores s.ops i),.int .i64 (i:Int),seC s,zr0]=some (.ret (.str (Qy.printQ s)),[])
 |0,i,hi=>by
  obtain rfl:i=s.cores.length:=by omega
  obtain⟨c0,c1,c2,c3,c4⟩:=se_1 s;unfold Qy.printQ at h ⊢;rw[Qy.coresP_at]at h ⊢;have j:=r_q1 hp h s.order.length 0 (by omega);simp only[ordP,qa60,qa48,qa34]at j;rw[zan];unfold corP;simp[-List.append_assoc, -Int.natCast_add,zcp,zgg,c0,j]
 |n+1,i,hi=>by
  have hcl:=hp.cl;have h1:i<s.cores.length:=by omega
  obtain⟨c0,c1,c2,c3,c4⟩:=se_1 s;have ih:=r_q0 hr h n (i+1) (by omega);have hs:Sh (corP s.cores s.ops (i+1)):=zup s.cores s.ops (s.cores.length - (i+1)) (i+1) (by
   rw[show i+1+(s.cores.length-(i+1))=s.cores.length by omega];unfold Qy.printQ at h;rw[Qy.coresP_at]at h;exact sh_l (sh_l (sh_l h)))
  rw[zzP]at hs ih;have hat:Qy.atP s.cores s.ops i=(if i=0 then[]else match s.ops[i-1]? with|some o=>Qy.wordP o|none=>[])++Qy.coreP s.cores[i]:=by unfold Qy.atP;rw[qa11 h1]<;>rfl
  rw[hat,←qa28]at hs ih;have hC:=r_pcore (hp.c _ (qa36 h1)) (hr.c _ (qa36 h1)).f (sh_r hs);have hel:=ziZ zdz s.cores i h1;have hw:=zbU (p:=i) (by omega);have ac:=zbT hs;generalize s.cores[i]=c at *;have j7:∀y:List UInt8,Sh (y++Qy.coreP c)→zdn pr.ev lup (.str y) (.int .i64 (i:Int)) (seC s) zr0=some (.next [.str (y++Qy.coreP c),.int .i64 ((i+1:Nat):Int),seC s,zr0]):=fun y hy=>by
   have a:=zbT hy;simp[-Int.natCast_add, -List.append_assoc,zdn,c0,hel,zzT,zdz.nm,zaa hC,a,hw]
  have j:=j7 _ hs;have aw:=zbT (sh_l hs);clear j7 ac hs;rw[zan];generalize Qy.printQ s=z at *;by_cases hi0:i=0
  ·subst hi0;simp only[qa60,qa48,qa34]at *;simp[-Int.natCast_add, -List.append_assoc,zcp,zbJ,h1,c0,j];simpa[-List.append_assoc]using ih
  ·have hi2:0 < i:=by omega
   have hn:=hr.n;have hlt:i-1<s.ops.length:=by omega
   have hle:i≤s.ops.length:=by omega
   have hw1:IntKind.wrap .i64 ((i:Int)-1)=((i-1:Nat):Int):=by rw[zcd (by omega) (by omega)];omega
   have ho:s.ops[i-1]?=some s.ops[i-1]:=qa11 hlt;have hop:=hr.o _ (qa36 hlt);rw[ho]at aw ih j;simp only[hi0,qa59]at aw ih j;have elo:elV 1 (.list (s.ops.map (.int .i64))) (.int .i64 ((i-1:Nat):Int))=some (.int .i64 s.ops[i-1]):=by rw[zm9 1 (Vm.V.int .i64) s.ops .i64 (i-1) (fun _=>rfl),ho];rfl
   have hwe:=words_el hop;generalize s.ops[i-1]=o at *;have ld:ldV false 1 (.int .i64 o) 0=some (.int .i64 o):=rfl;have ld2:ldV false 1 (.str (Qy.wordP o)) 0=some (.str (Qy.wordP o)):=rfl;have o1:¬o<0:=by omega
   have o2:o<4:=by omega
   have o3:0≤o:=hop.1;simp[-Int.natCast_add, -List.append_assoc,zcp,zbJ,h1,hi2,hle,c0,c1,hw1,elo,ld,o1,o2,o3,hwe,ld2,aw,j,ih]
theorem r_pQuery(hr:Qy.RS s)(h:Sh (Qy.printQ s)):pr.ev 10 [seC s] []=some (.ret (.str (Qy.printQ s)),[]):=by
 refine pr.of rfl rfl rfl (zmj _ _ _ _) ?_;have j:=r_q0 hp hr h s.cores.length 0 (by omega);simp only[corP,List.range_zero,List.flatMap_nil,qa34]at j;simpa[-List.append_assoc,zhY,zr0]using j
end
theorem fs_0:FS Qy.sel0:=⟨by simp[Qy.sel0],by simp[Qy.sel0],by simp[Qy.sel0],by simp[Qy.sel0],by simp[Qy.sel0],⟨by simp[Qy.sel0],by simp[Qy.sel0]⟩,⟨by simp[Qy.sel0],by simp[Qy.sel0]⟩⟩
theorem zs1(s:List UInt8):pr.ev 3 [.str s] []=some (.ret (.bool true),[]):=by
 refine pr.of rfl rfl rfl (zjt _ _ _ _) ?_;by_cases hs:s.length≤3000
 ·have hsi:¬ ((3000:Int) < s.length):=by omega
  have hof:=m_qOf (s:=s) (by omega);have hof2:=r_qOf (s:=s) (by omega);rw[ofQV]at hof hof2;rcases Qy.ofQ_cases s with⟨h1,h2,h3⟩|⟨h1,h2,h3,h4,h5⟩
  ·rw[h2]at hof hof2;have hS:=zyC fs_0;simp[-Int.natCast_add,zc1,hsi,zaa hof,zaa hof2,zaa zua,zaa hS,h1,rtn]
  ·have hln:(Qy.printQ (Qy.ofQ s).1).length=Qy.ln (Qy.queryQ (Qy.ofQ s).1):=by unfold Qy.ln;rw [Qy.flat_query]
   have hsh:Sh (Qy.printQ (Qy.ofQ s).1):=by unfold Sh;omega
   have hP:=m_pQuery (rs_ps h3 hsh) hsh;have hR:=r_pQuery (rs_pt h3 hsh) h3 hsh;have hS:=zyC (rs_fs h3);rw[h1]at hof hof2;simp[-Int.natCast_add,zc1,hsi,zaa hof,zaa hof2,zaa zua,zaa hS,zaa hP,zaa hR,rtn]
 ·have hsi:((3000:Int) < s.length):=by omega
  simp[zc1,hsi,zaa zua,rtn]
end
section
open Go.RowKit
open Go.ChangeShapes Go.WideShapes Go.ChangeAt Go.ChangeMaps
theorem zpu(s:ByteArray)(w:World)(h:w.ShapedOpen Tryz.prog):Calls Tryz.prog 3 #[.string s] w fun e w'=>e=.returned (.bool true)∧Below w.heap.size w w':=by
 obtain⟨m,hm⟩:=g_cell h;have hs:s=Lx.bs (Lx.ls s):=(Lx.zrQ s).symm;rw[hs];refine Calls.mono (zus (@zs1 ⟨m⟩ (Lx.ls s)) (fun a ha=>by rw[qa22.1 ha];rfl) hm (.cons _ _ _ _ (.str _) .nil)) fun e w' ⟨hb,A',v,he,hv⟩=>?_;cases hv;exact⟨he,hb⟩
theorem zmG(os:Os)(started:os.Started)(H:Type)(enc:TypeId×Value→H):
  ReturnsInHanded {} Tryz.checked os 3 .any (fun w args=>(Rows.queryTextsSpec.pre enc Tryz.prog Tryz.f3 [] false w args∧laidMetH Tryz.prog zwC w)∧sizedMet enc Tryz.prog Tryz.f3 (OpenSpec.ofChange Rows.queryTextsSpec) false w args)
   (Rows.queryTextsSpec.post enc Tryz.prog Tryz.f3 false true false false):=by
 refine zmM (C:=Tryz.checked) (X:=fun w _=>laidMetH Tryz.prog zwC w) (fun _ _ _ hh h=>h.of_heap hh) xOwn_ started (by kernel_rfl) Tryz.func3
  (ChangeSpec.witness_shaped (enc:=enc) (C:=Tryz.checked) (os:=os) (X:=fun w _=>laidMetH Tryz.prog zwC w) false (World.laidAll Tryz.prog os zwC) #[.string ⟨#[]⟩] 8 (World.laidAll_os _ _ _) (World.shaped_of_ZipB (by kernel_rfl) (by kernel_rfl)) (by kernel_rfl) (by kernel_rfl) (by kernel_rfl) (zw0 os _)) ?_
 intro W base args ds gs before hval0 hW _ _ _ hsh _;have hval:∀(j:Nat) t v,Tryz.f3.params[j]?=some t→args[j]?=some v→Value.okWide Tryz.prog W .any base t v:=hval0;have hW':=hW;obtain⟨p,q,hA0,hV,rfl,hfz,hnd⟩:=hW;have hA:DataW.TrodAll enc Tryz.prog W 0 (fun _=>true) true Tryz.f3.params.toList args.toList ds p:=hA0;rw[Tryz.params3]at hA hval;obtain⟨v0,vs0,d0,ds0,p0,q0,hargs,rfl,rfl,h0,r0⟩:=trodAll_cons hA;obtain⟨rfl,rfl,rfl⟩:=trodAll_nil r0;obtain rfl:args=#[v0]:=by cases args;simp_all
 obtain⟨rfl,rfl⟩:=trodVars_none hV;obtain⟨s,rfl,rfl,rfl,ws⟩:=open_string Tryz.underlying9 (hval 0 9 v0 rfl rfl) h0;clear hA0 hval0;simp only[qa48]at hW';refine(zpu s W hsh).mono fun e W' ⟨he,hg⟩=>?_;subst he;exact⟨_,rfl,zwr (pa:=[]) (pv:=[]) hW' (fun _ _ _=>(trodAll_cons_mk (shut_bool Tryz.underlying4 _) trodAll_mk0)) (fun sp _=>(trodAll_cons_mk (shut_string Tryz.underlying9 ws) trodAll_mk0)) (fun _ _=>rfl) rfl hg (ok_one (by kernel_rfl) rfl (okWide_bool_mk Tryz.underlying4 _))⟩
theorem zpt:Rows.QueryTextsSaid:=
 OpenClaim.holds_of_wide 3 Tryz.f3 rfl rfl rfl rfl rfl rfl rfl ⟨rfl,rfl,rfl,rfl,rfl⟩ rfl rfl rfl rfl rfl (by kernel_rfl) Tryz.func3 (by kernel_rfl)
  (of_decide_eq_true (by kernel_rfl)) (by unfold Func.isWrapper;first|(rw[if_pos (by decide +kernel)];kernel_rfl)|(rw[if_neg (by decide +kernel)];exact⟨rfl,rfl⟩))
  (fun os started H enc _=>zmG os started H enc)
theorem queryTexts_card:Rows.QueryTextsCardSaid:=
 Claim7.holds_tied_plain_at .later [] [.data,.pinned] true _ true
  zpt (fun _ h=>by cases h) (by kernel_rfl) (fun _ h=>by cases h) queryTexts_row_tie rfl ⟨rfl,rfl⟩ (by kernel_rfl) rfl
  (fun f fn hf hfn=>by
   obtain rfl:f=3:=Option.some.inj ((show Tryz.prog.funcNamed "tome/tomelaw26.QueryTexts" = some 3 by kernel_rfl).symm.trans hf) |>.symm
   obtain rfl:fn=Tryz.f3:=(Option.some.inj (Tryz.func3.symm.trans hfn)).symm;exact ⟨by kernel_rfl,fun j t ht=>by
    rw[Tryz.params3]at ht;have hm:t∈[9]:=by simpa using Array.mem_of_getElem? ht
    have hall:([9].all fun u=>!Tryz.prog.wantsStandIn u)=true:=by kernel_rfl
    exact(show Tryz.prog.wantsStandIn t=false by simpa using qa33.1 hall t hm)⟩)
  (by kernel_rfl)
end
end Go.Proofs.YtlooegbcfkoloaaGreatDoor
end
