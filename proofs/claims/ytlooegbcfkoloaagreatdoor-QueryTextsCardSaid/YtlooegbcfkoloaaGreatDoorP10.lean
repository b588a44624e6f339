/- Part of the proof: see the last text. -/
import Derived.Test.YtlooegbcfkoloaaGreatDoorP7
import Derived.Test.YtlooegbcfkoloaaGreatDoorP9
set_option maxRecDepth 20000
set_option linter.unusedVariables false
set_option linter.unusedSimpArgs false
noncomputable section
namespace Ex
section
open Lx
theorem zj3{c:UInt8}(h:dig c=true):let_ c=false∧bl c=false∧c≠45∧c≠39:=by
 unfold dig at h;simp only[qa32,qa25]at h;refine⟨?_,zz4 (by omega) (by omega) (by omega) (by omega), ?_, ?_⟩
 ·unfold let_;rw[←Bool.not_eq_true];simp only[qa42,qa32,qa25];omega
 ·rintro rfl;simp at h
 ·rintro rfl;simp at h
end
section
open Lx
def dOf(e:E):D:=(e.kind,e.val.1,pcs e)
theorem zx8(e:E):pcs e=pp e (e.args.map dOf):=by
 cases e with
 |mk k o v t n s g d a=>rw[pcs,zva];rfl
end
section
open Lx
def zmW(L:List T):Prop:=∀t∈L,(t.kind=1→nmE t.text=true)∧(t.kind=3→(mayV t.val=true∧(t.val.1=1→0≤t.val.2.1∧t.val.2.1≤9223372036854775807))∧t.val.2.1≤9223372036854775807∧-9223372036854775807≤t.val.2.1)
def AllR(r:Option R):Prop:=∀l q,r=some (.ok l q)→∀x∈l,Rt x
theorem zd4{r:Option R}{f:E→Nat→Option R}(h:AllR r)(hf:∀e q,Rt e→AllR (f e q)):AllR (then1 r f):=fun l q hr=>by
 rcases then1_some hr with⟨e,q1,h1,h2⟩|⟨q1,h1,h2⟩
 ·exact hf e q1 (h _ _ h1 e (by simp)) l q h2
 ·cases h2
theorem zxj{r:Option R}{f:List E→Nat→Option R}(h:AllR r)(hf:∀e q,(∀x∈e,Rt x)→r=some (.ok e q)→AllR (f e q)):AllR (zkX r f):=fun l q hr=>by
 rcases thenL_some hr with⟨e,q1,h1,h2⟩|⟨q1,h1,h2⟩
 ·exact hf e q1 (h _ _ h1) h1 l q h2
 ·cases h2
theorem ziW{L:List T}{k:Int}{s:S}{p:Nat}{f:Nat→Option R}(hf:AllR (f (p+1))):AllR (need L k s p f):=fun l q hr=>by
 rcases need_some hr with⟨h1,h2⟩|⟨h1,h2⟩
 ·exact hf l q h2
 ·cases h2
theorem zhw{e:E}{p:Nat}(h:Rt e):AllR (one e p):=fun l q hr=>by
 cases hr;intro x hx;simp only[qa53,qa37,or_false]at hx;exact hx ▸ h
theorem zpM{p:Nat}:AllR (some (.stop p)):=fun l q hr=>by cases hr
theorem zvi:AllR none:=fun l q hr=>by cases hr
theorem zve(k:Nat){op:S}(h:op∈(ops k).1):op∈bins:=by
 unfold ops at h;split at h<;>(simp only[qa53,qa37,or_false]at h;(repeat' (rcases h with h|h))<;>decide)
theorem zzV{op:S}(h:op∈cmps):op∈bins:=by
 simp only[cmps,qa53,qa37,or_false]at h;rcases h with rfl|rfl|rfl|rfl|rfl|rfl<;>decide
theorem zvj{s:S}(h:nmE s=true):nmE (fold s)=true:=by
 unfold nmE zys at *;rw[zlX,isW_fold];have:(fold s).length=s.length:=by simp[fold]
 rw[this];exact h
theorem zon(L:List T):∀(n p q:Nat)(acc l:List E),run L n (.list acc) p=some (.ok l q)→l≠[]
 |0,_,_,_,_,h=>by cases h
 |n+1,p,q,acc,l,h=>by
  rw[run]at h;rcases then1_some h with⟨e,q1,h1,h2⟩|⟨q1,h1,h2⟩
  ·split at h2
   ·exact zon L n _ _ _ _ h2
   ·rcases need_some h2 with⟨h3,h4⟩|⟨h3,h4⟩
    ·cases h4;simp
    ·cases h4
  ·cases h2
def Acc(d:Bool)(acc:List E):Prop:=(∀x∈acc,Rt x)∧(d=true→1≤acc.length)
theorem zsx(L:List T)(hL:zmW L):∀n,(∀k p,AllR (run L n (.lev k) p))∧(∀k e p,Rt e→AllR (run L n (.chain k e) p)) ∧
  (∀acc p,(∀x∈acc,Rt x)→AllR (run L n (.list acc) p))∧(∀d acc p,Acc d acc→AllR (run L n (.whens d acc) p))
 |0=>⟨fun _ _=>zvi,fun _ _ _ _=>zvi,fun _ _ _=>zvi,fun _ _ _ _=>zvi⟩
 |n+1=>by
  obtain⟨hl,hc,hs,hw⟩:=zsx L hL n;refine⟨fun k p=>?_,fun k e p he=>?_,fun acc p ha=>?_,fun d acc p ha=>?_⟩
  ·by_cases hk:k≠2∧k≠3∧k≠7∧k≠8
   ·rw[zmx L n k p hk];exact zd4 (hl _ _) fun e q he=>hc _ _ _ he
   ·have hk':k=2∨k=3∨k=7∨k=8:=by omega
    rcases hk' with rfl|rfl|rfl|rfl
    ·simp only[run];split
     ·exact zd4 (hl _ _) fun e q he=>zhw (.un _ _ (by simp[uns]) he)
     ·exact hl _ _
    ·simp only[run];refine zd4 (hl _ _) fun a q ha=>?_;split
     ·rename_i op ho;exact zd4 (hl _ _) fun b r hb=>zhw (.bin _ _ _ (zzV (zcl ho).2.2) ha hb)
     ·split
      ·exact zd4 (hl _ _) fun b r hb=>zhw (.is _ _ _ ha hb)
      ·generalize(if(isT L q 2 wNot && (isT L (q+1) 2 wIn || isT L (q+1) 2 zdl || isT L (q+1) 2 zjD))=true then q+1 else q)=q2;generalize(isT L q 2 wNot && (isT L (q+1) 2 wIn || isT L (q+1) 2 zdl || isT L (q+1) 2 zjD))=nt;split
       ·refine ziW (zxj (hs _ _ (by simp)) fun l r hl' hr=>zhw (.in_ _ _ _ ?_ ha hl'));exact zon _ _ _ _ _ _ hr
       ·split
        ·refine zd4 (hl _ _) fun b r hb=>ziW ?_;exact zd4 (hl _ _) fun c r hc=>zhw (.btw _ _ _ _ ha hb hc)
        ·split
         ·exact zd4 (hl _ _) fun b r hb=>zhw (.like _ _ _ ha hb)
         ·exact zhw ha
    ·simp only[run];split
     ·exact hl _ _
     ·rename_i op ho;have hop:=(zcl ho).2.2;have hu:∀e,Rt e→Rt (eUn op e):=fun e he=>.un _ _ (by simp only[qa53,qa37,or_false]at hop;rcases hop with rfl|rfl<;>decide) he;split
      ·rename_i t ht;split
       ·rename_i hv;simp only[qa32,qa25]at hv;obtain⟨hg,hr1,hr2⟩:=(hL t (qa16 ht)).2 hv.1.2;refine zhw (.val _ ?_ ?_ ⟨by dsimp only;omega,by dsimp only;omega⟩)
        ·have h1:=hg.1;unfold mayV at h1 ⊢;simp only[hv.2]at h1 ⊢;exact h1
        ·have h1:=hg.2 hv.2;intro _;simp only[lowI];omega
       ·exact zd4 (hl _ _) fun e q he=>zhw (hu e he)
      ·exact zd4 (hl _ _) fun e q he=>zhw (hu e he)
    ·rw[zjR];split
     ·exact zpM
     ·rename_i t ht;have hg:=hL t (qa16 ht);split
      ·rename_i h3;obtain⟨h3,hr1,hr2⟩:=hg.2 h3;exact zhw (.val _ h3.1 (fun h=>by have:=h3.2 h;simp only[lowI];omega) ⟨hr1,by omega⟩)
      split
      ·rename_i h1;have h1:=hg.1 h1;unfold zoL;split
       ·split
        ·rename_i u hu;split
         ·rename_i h2;exact zhw (.col _ _ ((hL u (qa16 hu)).1 h2) (.inr h1))
         ·exact zpM
        ·exact zpM
       split
       ·unfold callK;split
        ·rename_i hag;split
         ·rename_i hc;simp only[qa32,beq_iff_eq]at hc;rw[hc.1];exact ziW (zhw .star)
         ·exact zd4 (hl _ _) fun e q he=>ziW (zhw (.agg _ _ _ hag he))
        ·rename_i hag;have hag:aggs.contains (fold t.text)=false:=by simpa using hag
         split
         ·exact zhw (.fn _ _ (zvj h1) (zlX _) hag (by simp))
         ·exact zxj (hs _ _ (by simp)) fun l q hl' _=>zhw (.fn _ _ (zvj h1) (zlX _) hag hl')
       ·exact zhw (.col _ _ h1 (.inl rfl))
      split
      ·exact zhw (.val _ (by decide) (fun h=>by cases h) ⟨by decide,by decide⟩)
      split
      ·unfold zj4;split
       ·exact hw _ _ _ ⟨by simp,by simp⟩
       ·exact zd4 (hl _ _) fun e q he=>hw _ _ _ ⟨by simpa using he,by simp⟩
      split
      ·unfold zpf;refine ziW (zd4 (hl _ _) fun e r he=>ziW ?_);split
       ·split
        ·rename_i hty;simp only[qa32]at hty;exact ziW (zhw (.cast _ _ hty.2 he))
        ·exact zpM
       ·exact zpM
      split
      ·exact zd4 (hl _ _) fun e q he=>ziW (zhw he)
      ·exact zpM
  ·simp only[run];split
   ·exact zhw he
   ·rename_i op ho;exact zd4 (hl _ _) fun b q hb=>hc _ _ _ (.bin _ _ _ (zve _ (zcl ho).2.2) he hb)
  ·simp only[run];refine zd4 (hl _ _) fun e q he=>?_;have h2:∀x∈acc++[e],Rt x:=fun x hx=>by
    rcases qa47.1 hx with hx|hx
    ·exact ha x hx
    ·simp only[qa53,qa37,or_false]at hx;exact hx ▸ he
   split
   ·exact hs _ _ h2
   ·refine ziW fun l q hr=>?_;cases hr;exact h2
  ·rw[zjQ];refine ziW ?_;unfold whenK;refine zd4 (hl _ _) fun a q hra=>ziW (zd4 (hl _ _) fun b r hrb=>?_);have h2:∀x∈acc++[a,b],Rt x:=fun x hx=>by
    rcases qa47.1 hx with hx|hx
    ·exact ha.1 x hx
    ·simp only[qa53,qa37,or_false]at hx;rcases hx with rfl|rfl
     ·exact hra
     ·exact hrb
   have hlen:2≤(acc++[a,b]).length:=by simp
   have hd:d=true→3≤(acc++[a,b]).length:=fun h=>by have:=ha.2 h;simp;omega
   split
   ·exact hw _ _ _ ⟨h2,fun _=>by omega⟩
   ·unfold zsd;split
    ·refine zd4 (hl _ _) fun c r2 hcc=>ziW (zhw (.case _ _ ?_ ?_ ?_))
     ·simp
     ·intro h;have:=hd h;(simp at this ⊢)<;>omega
     ·intro x hx;rcases qa47.1 hx with hx|hx
      ·exact h2 x hx
      ·simp only[qa53,qa37,or_false]at hx;exact hx ▸ hcc
    ·exact ziW (zhw (.case _ _ hlen hd h2))
end
section
open Lx
theorem zsV:∀(k m:Nat),m<10 ^ (k+1)→(Ox.numN m).length≤k+1
 |0,m,h=>by
  rw[Ox.numN,if_pos (by omega)];simp
 |k+1,m,h=>by
  rw[Ox.numN];split
  ·simp
  ·have:=zsV k (m / 10) (by rw [Nat.pow_succ] at h;omega);simp only[qb1];omega
theorem zym{n:Int}(h1:-9223372036854775808≤n)(h2:n≤9223372036854775807):(Ox.num n).length≤20:=by
 have h:(10:Nat) ^ (18+1)=10000000000000000000:=rfl;have:=zsV 18 n.natAbs (by rw[h];omega);unfold Ox.num;split
 ·rw[qa30];omega
 ·omega
theorem zsL:∀s:S,(zd1 s).length≤2*s.length
 |[]=>qa57 _
 |c::r=>by
  have:=zsL r;rw[zd1];split<;>(simp only[qa30];omega)
def G(e:E):Nat:=(print e).length+14
def Tk(e:E):Nat:=(toks (pcs e)).length+2
def GL(l:List E):Nat:=(l.map G).sum
def TL(l:List E):Nat:=(l.map Tk).sum
theorem zrY(a:E)(l:List E):GL (a::l)=G a+GL l:=by simp[GL]
theorem zrX(a:E)(l:List E):TL (a::l)=Tk a+TL l:=by simp[TL]
theorem zAn(a b:List E):GL (a++b)=GL a+GL b:=by simp[GL]
theorem zAm(a b:List E):TL (a++b)=TL a+TL b:=by simp[TL]
theorem zv8:GL []=0:=rfl
theorem zv6:TL []=0:=rfl
def cOf(e:E):C:=(e.kind,e.val.1,print e)
theorem zrm(e:E):print e=pr e (e.args.map cOf):=print_eq e
theorem zix(e:E):(inn (cOf e)).length+12≤G e:=by
 unfold inn G cOf;split<;>simp
theorem innU_len(e:E):(innU (cOf e)).length+12≤G e:=by
 unfold innU G cOf;split<;>simp
theorem zga(e:E):(toks (innP (dOf e))).length≤Tk e:=by
 unfold innP Tk dOf;split<;>simp[toks,mk]
theorem zy4(e:E):(toks (zs3 (dOf e))).length≤Tk e:=by
 unfold zs3 Tk dOf;split<;>simp[toks,mk]
theorem zmS:∀l:List E,(commas (l.map cOf)).length≤GL l
 |[]=>Nat.zero_le _
 |[a]=>by
  simp only[qb3,commas,GL,G,cOf,List.sum_cons,List.sum_nil];omega
 |a::b::l=>by
  have:=zmS (b::l);rw[zrY];simp only[qa52,commas,qb1]at this ⊢;simp only[G,cOf]at this ⊢;omega
theorem zlt:∀l:List E,(toks (zhz (l.map dOf))).length≤TL l
 |[]=>Nat.zero_le _
 |[a]=>by
  simp only[qb3,zhz,TL,Tk,dOf,List.sum_cons,List.sum_nil];omega
 |a::b::l=>by
  have:=zlt (b::l);rw[zrX];simp only[qa52,zhz,toks_app,qa21]at this ⊢;simp only[Tk,dOf]at this ⊢;have e:(toks [mk zdH,bk]).length=1:=rfl;omega
theorem zn1:∀l:List E,(zeQ (l.map cOf)).length≤GL l
 |[]=>Nat.zero_le _
 |[a]=>by
  simp only[qb3,zeQ,GL,G,cOf,List.sum_cons,List.sum_nil,qb1,zkW];omega
 |a::b::l=>by
  have:=zn1 l;rw[zrY,zrY];simp only[qa52,zeQ,qb1,zgb,zjC]at this ⊢;simp only[G,cOf]at this ⊢;omega
theorem zmd:∀l:List E,(toks (zkI (l.map dOf))).length≤TL l
 |[]=>Nat.zero_le _
 |[a]=>by
  simp only[qb3,zkI,TL,Tk,dOf,List.sum_cons,List.sum_nil,toks_app,qa21];have e:(toks [wd zkW,bk]).length=1:=rfl;have e2:(toks [bk]).length=0:=rfl;omega
 |a::b::l=>by
  have:=zmd l;rw[zrX,zrX];simp only[qa52,zkI,toks_app,qa21]at this ⊢;simp only[Tk,dOf]at this ⊢;have e:(toks [wd zgb,bk]).length=1:=rfl;have e2:(toks [bk]).length=0:=rfl;have e3:(toks [bk,wd zjC,bk]).length=1:=rfl;omega
theorem case_len(d:Bool)(l:List E):(zj5 d (l.map cOf)).length≤GL l+9:=by
 unfold zj5;have h2:=zn1 l;cases d
 ·simp only[qb0,qb1,wCase,wEnd];omega
 ·cases l with
  |nil=>simp[kid,wCase,wEnd,zeQ,GL]
  |cons a l=>
   have:=zn1 l;rw[zrY];simp only[qa60,qb1,wCase,wEnd];have e:(kid ((a::l).map cOf) 0).2.2=print a:=rfl;have e2:((a::l).map cOf).drop 1=l.map cOf:=rfl;rw[e,e2];simp only[G];omega
theorem zzY(d:Bool)(l:List E):(toks (zwP d (l.map dOf))).length≤TL l+2:=by
 unfold zwP;have h2:=zmd l;have e0:(toks [wd wCase,bk]).length=1:=rfl;have e1:(toks [wd wEnd]).length=1:=rfl;cases d
 ·simp only[qb0,toks_app,qa21];omega
 ·cases l with
  |nil=>simp[kidP,zkI,TL,toks,wd,bk]
  |cons a l=>
   have:=zmd l;rw[zrX];simp only[qa60,toks_app,qa21];have e:(kidP ((a::l).map dOf) 0).2.2=pcs a:=rfl;have e2:((a::l).map dOf).drop 1=l.map dOf:=rfl;have e3:(toks [bk]).length=0:=rfl;rw[e,e2];simp only[Tk];omega
theorem zrv(b:Bool){w:S}:(notW b w).length≤w.length+6:=by
 unfold notW;cases b<;>simp<;>omega
theorem zrw(b:Bool){w:S}:(toks (notP b w)).length=if b then 2 else 1:=by
 unfold notP;cases b<;>rfl
theorem g_val{v:V}(h1:-9223372036854775808≤v.2.1)(h2:v.2.1≤9223372036854775807):G (eVal v)≤34+2*v.2.2.length:=by
 have e:print (eVal v)=valP v:=rfl;unfold G;rw[e];unfold valP;have hq:=zsL v.2.2;have hn:=zym h1 h2;have hh:=Ox.zwF v.2.2;split
 ·simp[zqG];omega
 split
 ·omega
 split
 ·simp only[qb1];omega
 split
 ·simp only[qb1];omega
 ·simp only[qa40];omega
theorem t_val(v:V):Tk (eVal v)≤(if v.1=1∧v.2.1<0 then 4 else 3):=by
 have e:pcs (eVal v)=zw7 v:=rfl;unfold Tk;rw[e];unfold zw7;split
 ·split<;>simp[toks,wd]
 split
 ·simp[toks,mk]
 ·simp[toks]
theorem g_col(t n:S):G (eCol t n)≤t.length+n.length+15:=by
 have e:print (eCol t n)=if t=[]then n else t++[46]++n:=rfl;unfold G;rw[e];split<;>simp<;>omega
theorem t_col(t n:S):Tk (eCol t n)≤if t=[]then 3 else 5:=by
 have e:pcs (eCol t n)=if t=[]then[nmP n]else[nmP t,mk mDot,nmP n]:=rfl;unfold Tk;rw[e];split<;>simp[toks,mk,nmP]
theorem g_un(op:S)(a:E):G (eUn op a)≤G a+op.length+3:=by
 have e:print (eUn op a)=if op=wNot then wNot++[32]++innU (cOf a)else op++innU (cOf a):=rfl;have:=innU_len a;unfold G at *;rw[e];split
 ·rename_i h;subst h;simp only[qb1];omega
 ·simp only[qa21];omega
theorem t_un(op:S)(a:E):Tk (eUn op a)≤Tk a+3:=by
 have e:pcs (eUn op a)=if op=wNot then[wd wNot,bk]++zs3 (dOf a)else[mk op]++zs3 (dOf a):=rfl;have:=zy4 a;unfold Tk at *;rw[e];have e0:(toks [wd wNot,bk]).length=1:=rfl;have e1:(toks [mk op]).length=1:=rfl;split<;>(simp only[toks_app,qa21];omega)
theorem opP_len(s:S):(toks [bk,opP s,bk]).length=1:=by
 unfold opP;split<;>rfl
theorem g_bin(op:S)(a b:E):G (eBin op a b)≤G a+G b+op.length:=by
 have e:print (eBin op a b)=inn (cOf a)++[32]++op++[32]++inn (cOf b):=rfl;have h1:=zix a;have h2:=zix b;unfold G at *;rw[e];simp only[qb1];omega
theorem t_bin(op:S)(a b:E):Tk (eBin op a b)≤Tk a+Tk b+3:=by
 have e:pcs (eBin op a b)=innP (dOf a)++[bk,opP op,bk]++innP (dOf b):=rfl;have h1:=zga a;have h2:=zga b;have h3:=opP_len op;unfold Tk at *;rw[e];simp only[toks_app,qa21];omega
theorem g_is(g:Bool)(a b:E):G (eIs g a b)≤G a+G b:=by
 have e:print (eIs g a b)=inn (cOf a)++[32]++wIs++[32]++(if g then wNot++[32]else[])++inn (cOf b):=rfl;have h1:=zix a;have h2:=zix b;unfold G at *;rw[e];cases g<;>simp[wIs,wNot]<;>omega
theorem t_is(g:Bool)(a b:E):Tk (eIs g a b)≤Tk a+Tk b+(if g then 4 else 3):=by
 have e:pcs (eIs g a b)=innP (dOf a)++[bk,wd wIs,bk]++(if g then[wd wNot,bk]else[])++innP (dOf b):=rfl;have h1:=zga a;have h2:=zga b;have e1:(toks [bk,wd wIs,bk]).length=1:=rfl;have e2:(toks [wd wNot,bk]).length=1:=rfl;have e3:(toks []).length=0:=rfl;unfold Tk at *;rw[e];cases g<;>simp only[toks_app,qa21,qa60,qb0]<;>omega
theorem g_in(g:Bool)(a:E)(l:List E):G (eIn g (a::l))≤G a+GL l+12:=by
 have e:print (eIn g (a::l))=inn (cOf a)++notW g wIn++[40]++commas (l.map cOf)++[41]:=zrm _;have h1:=zix a;have h2:=zmS l;have h3:=zrv g (w:=wIn);have h4:wIn.length=2:=rfl;unfold G at *;rw[e];simp only[qb1];omega
theorem t_in(g:Bool)(a:E)(l:List E):Tk (eIn g (a::l))≤Tk a+TL l+(if g then 6 else 5):=by
 have e:pcs (eIn g (a::l))=innP (dOf a)++notP g wIn++[mk zea]++zhz (l.map dOf)++[mk zdf]:=zx8 _;have h1:=zga a;have h2:=zlt l;have h3:=zrw g (w:=wIn);have e1:(toks [mk zea]).length=1:=rfl;have e2:(toks [mk zdf]).length=1:=rfl;unfold Tk at *;rw[e];simp only[toks_app,qa21];cases g<;>simp only[qa60,qb0]at h3 ⊢<;>omega
theorem g_btw(g:Bool)(a b c:E):G (eBtw g a b c)≤G a+G b+G c:=by
 have e:print (eBtw g a b c)=inn (cOf a)++notW g zdl++inn (cOf b)++[32]++wAnd++[32]++inn (cOf c):=rfl;have h1:=zix a;have h2:=zix b;have h5:=zix c;have h3:=zrv g (w:=zdl);have h4:zdl.length=7:=rfl;have h6:wAnd.length=3:=rfl;unfold G at *;rw[e];simp only[qb1];omega
theorem t_btw(g:Bool)(a b c:E):Tk (eBtw g a b c)≤Tk a+Tk b+Tk c+(if g then 5 else 4):=by
 have e:pcs (eBtw g a b c)=innP (dOf a)++notP g zdl++innP (dOf b)++[bk,wd wAnd,bk]++innP (dOf c):=rfl;have h1:=zga a;have h2:=zga b;have h4:=zga c;have h3:=zrw g (w:=zdl);have e1:(toks [bk,wd wAnd,bk]).length=1:=rfl;unfold Tk at *;rw[e];simp only[toks_app,qa21];cases g<;>simp only[qa60,qb0]at h3 ⊢<;>omega
theorem g_like(g:Bool)(a b:E):G (zls g a b)≤G a+G b:=by
 have e:print (zls g a b)=inn (cOf a)++notW g zjD++inn (cOf b):=rfl;have h1:=zix a;have h2:=zix b;have h3:=zrv g (w:=zjD);have h4:zjD.length=4:=rfl;unfold G at *;rw[e];simp only[qa21];omega
theorem t_like(g:Bool)(a b:E):Tk (zls g a b)≤Tk a+Tk b+(if g then 4 else 3):=by
 have e:pcs (zls g a b)=innP (dOf a)++notP g zjD++innP (dOf b):=rfl;have h1:=zga a;have h2:=zga b;have h3:=zrw g (w:=zjD);unfold Tk at *;rw[e];simp only[toks_app,qa21];cases g<;>simp only[qa60,qb0]at h3 ⊢<;>omega
theorem g_case(d:Bool)(l:List E):G (eCase d l)≤GL l+23:=by
 have e:print (eCase d l)=zj5 d (l.map cOf):=zrm _;have:=case_len d l;unfold G;rw[e];omega
theorem t_case(d:Bool)(l:List E):Tk (eCase d l)≤TL l+4:=by
 have e:pcs (eCase d l)=zwP d (l.map dOf):=zx8 _;have:=zzY d l;unfold Tk;rw[e];omega
theorem g_fn(op:S)(l:List E):G (eFn op l)≤op.length+GL l+16:=by
 have e:print (eFn op l)=op++[40]++commas (l.map cOf)++[41]:=zrm _;have:=zmS l;unfold G;rw[e];simp only[qb1];omega
theorem t_fn(op:S)(l:List E):Tk (eFn op l)≤TL l+5:=by
 have e:pcs (eFn op l)=[nmP op,mk zea]++zhz (l.map dOf)++[mk zdf]:=zx8 _;have:=zlt l;have e1:(toks [nmP op,mk zea]).length=2:=rfl;have e2:(toks [mk zdf]).length=1:=rfl;unfold Tk;rw[e];simp only[toks_app,qa21];omega
theorem g_agg(op:S)(d:Bool)(a:E):G (eAgg op d [a])≤op.length+G a+11:=by
 have e:print (eAgg op d [a])=if d then op++[40]++zav++[32]++print a++[41]else op++[40]++print a++[41]:=rfl;unfold G;rw[e];have h:zav.length=8:=rfl;split<;>(simp only[qb1];omega)
theorem t_agg(op:S)(d:Bool)(a:E):Tk (eAgg op d [a])≤Tk a+(if d then 4 else 3):=by
 have e:pcs (eAgg op d [a])=if d then[nmP op,mk zea,wd zav,bk]++pcs a++[mk zdf]else[nmP op,mk zea]++pcs a++[mk zdf]:=rfl;have e1:(toks [nmP op,mk zea]).length=2:=rfl;have e3:(toks [nmP op,mk zea,wd zav,bk]).length=3:=rfl;have e2:(toks [mk zdf]).length=1:=rfl;unfold Tk;rw[e];split<;>(simp only[toks_app,qa21];omega)
theorem g_star:G (eAgg zeR false [])=22:=rfl
theorem t_star:Tk (eAgg zeR false [])=6:=rfl
theorem g_cast(op:S)(a:E):G (zmP op a)≤op.length+G a+10:=by
 have e:print (zmP op a)=zly++[40]++print a++[32]++wAs++[32]++op++[41]:=rfl;unfold G;rw[e];have h:zly.length=4:=rfl;have h2:wAs.length=2:=rfl;simp only[qb1];omega
theorem t_cast(op:S)(a:E):Tk (zmP op a)≤Tk a+5:=by
 have e:pcs (zmP op a)=[wd zly,mk zea]++pcs a++[bk,wd wAs,bk,nmP op,mk zdf]:=rfl;have e1:(toks [wd zly,mk zea]).length=2:=rfl;have e2:(toks [bk,wd wAs,bk,nmP op,mk zdf]).length=3:=rfl;unfold Tk;rw[e];simp only[toks_app,qa21];omega
inductive Sm:E→Prop
 |mk {e:E}:N64 e→e.op.length+e.table.length+e.name.length≤400→e.val.2.2.length≤100→(∀x∈e.args,Sm x)→Sm e
theorem ze8(e:E):count e=counts e.args+1:=by cases e;rw[count];rfl
end
section
open Lx
def wt(t:T):Nat:=40+5*t.text.length
def cw(L:List T)(p:Nat):Nat:=((L.take p).map wt).sum
theorem cw_succ{L:List T}{p:Nat}{t:T}(h:L[p]?=some t):cw L (p+1)=cw L p+wt t:=by
 obtain⟨h1,h2⟩:=qa9.1 h;unfold cw;rw[List.take_succ_eq_append_getElem h1,qa43,List.sum_append,h2];simp
theorem zna{L:List T}{p:Nat}{t:T}(h:L[p]?=some t):cw L p+40+5*t.text.length=cw L (p+1):=by
 rw[cw_succ h];unfold wt;omega
theorem cw_isT{L:List T}{p:Nat}{k:Int}{s:S}(h:isT L p k s=true):cw L p+40+5*s.length=cw L (p+1):=by
 unfold isT at h;split at h
 ·rename_i t ht;simp only[qa32,beq_iff_eq]at h;rw[←h.2];exact zna ht
 ·cases h
def ValT(L:List T):Prop:=∀t∈L,t.kind=3→t.val.2.2.length≤2*t.text.length∧-9223372036854775807≤t.val.2.1∧t.val.2.1≤9223372036854775807∧(t.val.1=1→0≤t.val.2.1)
structure Wg(L:List T)(e:E)(p q:Nat):Prop where
 g:G e+cw L p≤cw L q
 t:Tk e+3*p≤3*q
 c:count e+p≤q
structure WgL(L:List T)(l:List E)(p q:Nat):Prop where
 g:GL l+cw L p≤cw L q
 t:TL l+3*p≤3*q
 c:counts l+p≤q
theorem zkn:∀a b:List E,counts (a++b)=counts a+counts b
 |[],b=>by simp[counts]
 |x::a,b=>by simp only[qa35,counts,zkn a b];omega
def W1(L:List T)(p:Nat)(r:Option R):Prop:=∀l q,r=some (.ok l q)→p≤q∧∃e,l=[e]∧Wg L e p q
def WC(L:List T)(e0:E)(p:Nat)(r:Option R):Prop:=∀l q,r=some (.ok l q)→p≤q∧∃e,l=[e]∧G e+cw L p≤G e0+cw L q∧Tk e+3*p≤Tk e0+3*q∧count e+p≤count e0+q
def WL(L:List T)(acc:List E)(p:Nat)(r:Option R):Prop:=∀l q,r=some (.ok l q)→p<q∧GL l+cw L p+40≤GL acc+cw L q∧TL l+3*p+3≤TL acc+3*q∧counts l+p+1≤counts acc+q
def WW(L:List T)(acc:List E)(p:Nat)(r:Option R):Prop:=∀l q,r=some (.ok l q)→p≤q∧∃e,l=[e]∧G e+cw L p≤GL acc+cw L q∧Tk e+3*p≤TL acc+1+3*q∧count e+p≤counts acc+q
theorem zdW{L:List T}{p':Nat}{r:Option R}{f:E→Nat→Option R}{P:List E→Nat→Prop}(h:W1 L p' r)(hf:∀e q,p'≤q→Wg L e p' q→∀l q',f e q=some (.ok l q')→P l q'):∀l q',then1 r f=some (.ok l q')→P l q':=fun l q' hr=>by
 rcases then1_some hr with⟨e,q1,h1,h2⟩|⟨q1,h1,h2⟩
 ·obtain⟨h3,e',h4,h5⟩:=h _ _ h1;cases h4;exact hf _ _ h3 h5 _ _ h2
 ·cases h2
theorem zhU{L:List T}{k:Int}{s:S}{p:Nat}{f:Nat→Option R}{P:List E→Nat→Prop}(hf:cw L p+40+5*s.length=cw L (p+1)→∀l q',f (p+1)=some (.ok l q')→P l q'):∀l q',need L k s p f=some (.ok l q')→P l q':=fun l q' hr=>by
 rcases need_some hr with⟨h1,h2⟩|⟨h1,h2⟩
 ·exact hf (cw_isT h1) _ _ h2
 ·cases h2
theorem zpE{p:Nat}{P:List E→Nat→Prop}:∀l q',(some (.stop p):Option R)=some (.ok l q')→P l q':=fun l q' hr=>by cases hr
theorem zin{L:List T}{e:E}{p q:Nat}(h:p≤q)(hw:Wg L e p q):W1 L p (one e q):=fun l q' hr=>by
 cases hr;exact⟨h,e,rfl,hw⟩
theorem ztw{L:List T}{p:Nat}{k:Int}{s:S}{l:List S}(h:zet L p k l=some s):cw L p+40+5*s.length=cw L (p+1):=cw_isT (zcl h).2.1
theorem zvS(op:S)(a:E):count (eUn op a)=count a+1:=by rw[ze8];show counts [a]+1=_;simp[counts]
theorem zti(op:S)(a b:E):count (eBin op a b)=count a+count b+1:=by rw[ze8];show counts [a,b]+1=_;simp[counts]
theorem zvT(g:Bool)(a b:E):count (eIs g a b)=count a+count b+1:=by rw[ze8];show counts [a,b]+1=_;simp[counts]
theorem count_in(g:Bool)(a:E)(l:List E):count (eIn g (a::l))=count a+counts l+1:=by rw[ze8];show counts (a::l)+1=_;simp[counts]
theorem zzL(g:Bool)(a b c:E):count (eBtw g a b c)=count a+count b+count c+1:=by rw[ze8];show counts [a,b,c]+1=_;simp[counts];omega
theorem zwL(g:Bool)(a b:E):count (zls g a b)=count a+count b+1:=by rw[ze8];show counts [a,b]+1=_;simp[counts]
theorem zqu(d:Bool)(l:List E):count (eCase d l)=counts l+1:=ze8 _
theorem zvU(op:S)(l:List E):count (eFn op l)=counts l+1:=ze8 _
theorem ztj(op:S)(d:Bool)(l:List E):count (eAgg op d l)=counts l+1:=ze8 _
theorem zwM(op:S)(a:E):count (zmP op a)=count a+1:=by rw[ze8];show counts [a]+1=_;simp[counts]
theorem zpa(v:V):count (eVal v)=1:=by rw[ze8];rfl
theorem zth(t n:S):count (eCol t n)=1:=by rw[ze8];rfl
theorem znv(a:E):GL [a]=G a∧TL [a]=Tk a∧counts [a]=count a:=by simp[GL,TL,counts]
theorem two_l(a b:E):GL [a,b]=G a+G b∧TL [a,b]=Tk a+Tk b∧counts [a,b]=count a+count b:=by simp[GL,TL,counts]
theorem ops_op{k:Nat}{op:S}(h:op∈(ops k).1):op.length≤3:=by
 have:=zve k h;simp only[bins,qa53,qa37,or_false]at this;rcases this with rfl|rfl|rfl|rfl|rfl|rfl|rfl|rfl|rfl|rfl|rfl|rfl|rfl|rfl<;>decide
theorem cmps_op{op:S}(h:op∈cmps):op.length≤3:=by
 simp only[cmps,qa53,qa37,or_false]at h;rcases h with rfl|rfl|rfl|rfl|rfl|rfl<;>decide
theorem zic{L:List T}{p:Nat}{k:Int}{s:S}(h:isT L p k s=true):cw L p+40≤cw L (p+1):=by have:=cw_isT h;omega
theorem zmv(L:List T)(hV:ValT L):∀n,(∀k p,W1 L p (run L n (.lev k) p))∧(∀k e p,WC L e p (run L n (.chain k e) p)) ∧
  (∀acc p,WL L acc p (run L n (.list acc) p))∧(∀d acc p,WW L acc p (run L n (.whens d acc) p))
 |0=>by
  refine⟨fun k p=>?_,fun k e p=>?_,fun acc p=>?_,fun d acc p=>?_⟩<;>(intro l q h;cases h)
 |n+1=>by
  obtain⟨hl,hc,hs,hw⟩:=zmv L hV n;refine⟨fun k p=>?_,fun k e p=>?_,fun acc p=>?_,fun d acc p=>?_⟩
  ·by_cases hk:k≠2∧k≠3∧k≠7∧k≠8
   ·rw[zmx L n k p hk];refine zdW (hl _ _) fun e q hq he l q' hr=>?_;obtain⟨h1,e',h2,h3,h4,h5⟩:=hc _ _ _ _ _ hr;obtain⟨g,t,c⟩:=he;exact⟨by omega,e',h2,⟨by omega,by omega,by omega⟩⟩
   ·have hk':k=2∨k=3∨k=7∨k=8:=by omega
    rcases hk' with rfl|rfl|rfl|rfl
    ·simp only[run];split
     ·rename_i ht;have h0:=zic ht;refine zdW (hl _ _) fun e q hq he=>?_;obtain⟨g,t,c⟩:=he;have g1:=g_un wNot e;have t1:=t_un wNot e;have c1:=zvS wNot e;have e3:wNot.length=3:=rfl;exact zin (by omega) ⟨by omega,by omega,by omega⟩
     ·exact hl _ _
    ·simp only[run];refine zdW (hl _ _) fun a q hq ha=>?_;obtain⟨ga,ta,ca⟩:=ha;split
     ·rename_i op ho;have h0:=ztw ho;have hop:=cmps_op (zcl ho).2.2;refine zdW (hl _ _) fun b r hr hb=>?_;obtain⟨gb,tb,cb⟩:=hb;have g1:=g_bin op a b;have t1:=t_bin op a b;have c1:=zti op a b;exact zin (by omega) ⟨by omega,by omega,by omega⟩
     ·split
      ·rename_i ht;have h0:=zic ht;split
       ·rename_i hn;have h1:=zic hn;refine zdW (hl _ _) fun b r hr hb=>?_;obtain⟨gb,tb,cb⟩:=hb;have g1:=g_is true a b;have t1:=t_is true a b;have c1:=zvT true a b;rw[if_pos rfl]at t1;rw[show q+2=q+1+1 by omega]at *;simp only[hn];exact zin (by omega) ⟨by omega,by omega,by omega⟩
       ·rename_i hn;refine zdW (hl _ _) fun b r hr hb=>?_;replace hr:q+1≤r:=hr;replace hb:Wg L b (q+1) r:=hb;obtain⟨gb,tb,cb⟩:=hb;have hn:isT L (q+1) 2 wNot=false:=by simpa using hn
        have g1:=g_is false a b;have t1:=t_is false a b;have c1:=zvT false a b;rw[if_neg (by decide)]at t1;simp only[hn];exact zin (by omega) ⟨by omega,by omega,by omega⟩
      ·have hq2:∃nt q2,(isT L q 2 wNot && (isT L (q+1) 2 wIn || isT L (q+1) 2 zdl || isT L (q+1) 2 zjD))=nt∧(if nt=true then q+1 else q)=q2∧q≤q2∧cw L q≤cw L q2∧(if nt then q2=q+1∧cw L q+40≤cw L q2 else q2=q):=by
        cases hnt:(isT L q 2 wNot && (isT L (q+1) 2 wIn || isT L (q+1) 2 zdl || isT L (q+1) 2 zjD))with
        |false=>exact⟨false,q,rfl,rfl,qa57 _,qa57 _,rfl⟩
        |true=>
         simp only[qa32]at hnt;have:=zic hnt.1;exact⟨true,q+1,rfl,rfl,by omega,by omega,rfl,by omega⟩
       obtain⟨nt,q2,hnt,hq2,h3,h4,h5⟩:=hq2;rw[hnt,hq2];split
       ·rename_i ht;have h0:=zic ht;refine zhU fun h6 l q' hr=>?_;rcases thenL_some hr with⟨l2,q3,h7,h8⟩|⟨q3,h7,h8⟩
        ·obtain⟨h9,gl,tl,cl⟩:=hs _ _ _ _ h7;rw[zv8]at gl;rw[zv6]at tl;rw[show counts []=0 from rfl]at cl;have g1:=g_in nt a l2;have t1:=t_in nt a l2;have c1:=count_in nt a l2;refine zin (L:=L) (p:=p) ?_ ⟨?_, ?_, ?_⟩ _ _ h8
         ·omega
         ·omega
         ·cases nt<;>simp only[qa60,qb0]at t1 h5<;>omega
         ·omega
        ·cases h8
       ·split
        ·rename_i ht;have h0:=zic ht;refine zdW (hl _ _) fun b r hr hb=>?_;obtain⟨gb,tb,cb⟩:=hb;refine zhU fun h6=>?_;refine zdW (hl _ _) fun c r2 hr2 hcc=>?_;obtain⟨gc,tc,cc⟩:=hcc;have g1:=g_btw nt a b c;have t1:=t_btw nt a b c;have c1:=zzL nt a b c;refine zin (by omega) ⟨by omega, ?_,by omega⟩;cases nt<;>simp only[qa60,qb0]at t1 h5<;>omega
        ·split
         ·rename_i ht;have h0:=zic ht;refine zdW (hl _ _) fun b r hr hb=>?_;obtain⟨gb,tb,cb⟩:=hb;have g1:=g_like nt a b;have t1:=t_like nt a b;have c1:=zwL nt a b;refine zin (by omega) ⟨by omega, ?_,by omega⟩;cases nt<;>simp only[qa60,qb0]at t1 h5<;>omega
         ·exact zin (by omega) ⟨by omega,by omega,by omega⟩
    ·simp only[run];split
     ·exact hl _ _
     ·rename_i op ho;have h0:=ztw ho;have hop:op.length≤3:=by
       have:=(zcl ho).2.2;simp only[qa53,qa37,or_false]at this;rcases this with rfl|rfl<;>decide
      have hu:W1 L p (then1 (run L n (.lev 7) (p+1)) fun e q=>one (eUn op e) q):=by
       refine zdW (hl _ _) fun e q hq he=>?_;obtain⟨g,t,c⟩:=he;have g1:=g_un op e;have t1:=t_un op e;have c1:=zvS op e;exact zin (by omega) ⟨by omega,by omega,by omega⟩
      split
      ·rename_i t ht;split
       ·rename_i hv;simp only[qa32,qa25]at hv;obtain⟨v1,v2,v3,v4⟩:=hV t (qa16 ht) hv.1.2;have h1:=zna ht;have g1:=g_val (v:=(t.val.1, -t.val.2.1,t.val.2.2)) (by simp only;omega) (by simp only;omega);have t1:=t_val (t.val.1, -t.val.2.1,t.val.2.2);have c1:=zpa (t.val.1, -t.val.2.1,t.val.2.2);have t2:Tk (eVal (t.val.1, -t.val.2.1,t.val.2.2))≤4:=by split at t1<;>omega
        dsimp only at g1;rw[show p+2=p+1+1 by omega];exact zin (by omega) ⟨by omega,by omega,by omega⟩
       ·exact hu
      ·exact hu
    ·rw[zjR];split
     ·exact zpE
     ·rename_i t ht;have h0:=zna ht;split
      ·rename_i h3;obtain⟨v1,v2,v3,v4⟩:=hV t (qa16 ht) h3;have g1:=g_val (v:=t.val) (by omega) (by omega);have t1:=t_val t.val;have c1:=zpa t.val;have t2:Tk (eVal t.val)≤3:=by
        split at t1
        ·rename_i h;have:=v4 h.1;omega
        ·exact t1
       exact zin (by omega) ⟨by omega,by omega,by omega⟩
      split
      ·unfold zoL;split
       ·rename_i hd;have h1:=zic hd;split
        ·rename_i u hu;split
         ·have h2:=zna hu;have g1:=g_col t.text u.text;have t1:=t_col t.text u.text;have c1:=zth t.text u.text;have t2:Tk (eCol t.text u.text)≤5:=by split at t1<;>omega
          rw[show p+1+2=p+1+1+1 by omega];exact zin (by omega) ⟨by omega,by omega,by omega⟩
         ·exact zpE
        ·exact zpE
       split
       ·rename_i ho;have h1:=zic ho;have hfl:(fold t.text).length=t.text.length:=by simp[fold]
        unfold callK;split
        ·split
         ·rename_i hcs;simp only[qa32,beq_iff_eq]at hcs;have h2:=zic hcs.2;rw[hcs.1];refine zhU fun h6=>?_;have g1:=g_star;have t1:=t_star;have c1:count (eAgg zeR false [])=1:=rfl;exact zin (by omega) ⟨by omega,by omega,by omega⟩
         ·dsimp only;split
          ·rename_i hd;have h2:=zic hd;refine zdW (hl _ _) fun e q hq he=>zhU fun h6=>?_;replace hq:p+1+1+1≤q:=hq;replace he:Wg L e (p+1+1+1) q:=he;obtain⟨g,t2,c⟩:=he;have g1:=g_agg (fold t.text) (isT L (p+1+1) 2 zav) e;have t1:=t_agg (fold t.text) (isT L (p+1+1) 2 zav) e;have c1:=ztj (fold t.text) (isT L (p+1+1) 2 zav) [e];rw[(znv e).2.2]at c1;have t3:Tk (eAgg (fold t.text) (isT L (p+1+1) 2 zav) [e])≤Tk e+4:=by split at t1<;>omega
           exact zin (by omega) ⟨by omega,by omega,by omega⟩
          ·refine zdW (hl _ _) fun e q hq he=>zhU fun h6=>?_;replace hq:p+1+1≤q:=hq;replace he:Wg L e (p+1+1) q:=he;obtain⟨g,t2,c⟩:=he;have g1:=g_agg (fold t.text) (isT L (p+1+1) 2 zav) e;have t1:=t_agg (fold t.text) (isT L (p+1+1) 2 zav) e;have c1:=ztj (fold t.text) (isT L (p+1+1) 2 zav) [e];rw[(znv e).2.2]at c1;have t3:Tk (eAgg (fold t.text) (isT L (p+1+1) 2 zav) [e])≤Tk e+4:=by split at t1<;>omega
           exact zin (by omega) ⟨by omega,by omega,by omega⟩
        ·split
         ·rename_i hsh;have h2:=zic hsh;have g1:=g_fn (fold t.text) [];have t1:=t_fn (fold t.text) [];have c1:=zvU (fold t.text) [];rw[zv8]at g1;rw[zv6]at t1;rw[show counts []=0 from rfl]at c1;exact zin (by omega) ⟨by omega,by omega,by omega⟩
         ·intro l q' hr;rcases thenL_some hr with⟨l2,q3,h7,h8⟩|⟨q3,h7,h8⟩
          ·obtain⟨h9,gl,tl,cl⟩:=hs _ _ _ _ h7;rw[zv8]at gl;rw[zv6]at tl;rw[show counts []=0 from rfl]at cl;have g1:=g_fn (fold t.text) l2;have t1:=t_fn (fold t.text) l2;have c1:=zvU (fold t.text) l2;exact zin (L:=L) (p:=p) (by omega) ⟨by omega,by omega,by omega⟩ _ _ h8
          ·cases h8
       ·have g1:=g_col [] t.text;have t1:=t_col [] t.text;have c1:=zth [] t.text;rw[if_pos rfl]at t1;rw[qa40]at g1;exact zin (by omega) ⟨by omega,by omega,by omega⟩
      split
      ·have g1:G (eVal v0)=18:=rfl;have t1:Tk (eVal v0)=3:=rfl;have c1:=zpa v0;exact zin (by omega) ⟨by omega,by omega,by omega⟩
      split
      ·unfold zj4;split
       ·intro l q' hr;obtain⟨h1,e,h2,g,t2,c⟩:=hw _ _ _ _ _ hr;rw[zv8]at g;rw[zv6]at t2;rw[show counts []=0 from rfl]at c;exact⟨by omega,e,h2,⟨by omega,by omega,by omega⟩⟩
       ·refine zdW (hl _ _) fun e q hq he l q' hr=>?_;obtain⟨g0,t0,c0⟩:=he;obtain⟨h1,e',h2,g,t2,c⟩:=hw _ _ _ _ _ hr;rw[(znv e).1]at g;rw[(znv e).2.1]at t2;rw[(znv e).2.2]at c;exact⟨by omega,e',h2,⟨by omega,by omega,by omega⟩⟩
      split
      ·unfold zpf;refine zhU fun h6=>zdW (hl _ _) fun e r hr he=>zhU fun h7=>?_;obtain⟨g0,t0,c0⟩:=he;split
       ·rename_i u hu;have h8:=zna hu;split
        ·refine zhU fun h9=>?_;have hfl:(fold u.text).length=u.text.length:=by simp[fold]
         have g1:=g_cast (fold u.text) e;have t1:=t_cast (fold u.text) e;have c1:=zwM (fold u.text) e;exact zin (by omega) ⟨by omega,by omega,by omega⟩
        ·exact zpE
       ·exact zpE
      split
      ·refine zdW (hl _ _) fun e q hq he=>zhU fun h6=>?_;obtain⟨g0,t0,c0⟩:=he;exact zin (by omega) ⟨by omega,by omega,by omega⟩
      ·exact zpE
  ·simp only[run];split
   ·intro l q hr;cases hr;exact⟨qa57 _,e,rfl,by omega,by omega,by omega⟩
   ·rename_i op ho;have h0:=ztw ho;have hop:=ops_op (zcl ho).2.2;refine zdW (hl _ _) fun b q hq hb l q' hr=>?_;obtain⟨gb,tb,cb⟩:=hb;obtain⟨h1,e',h2,g,t,c⟩:=hc _ _ _ _ _ hr;have g1:=g_bin op e b;have t1:=t_bin op e b;have c1:=zti op e b;exact⟨by omega,e',h2,by omega,by omega,by omega⟩
  ·simp only[run];refine zdW (hl _ _) fun e q hq he=>?_;obtain⟨g0,t0,c0⟩:=he;have e1:=zAn acc [e];have e2:=zAm acc [e];have e3:=zkn acc [e];rw[(znv e).1]at e1;rw[(znv e).2.1]at e2;rw[(znv e).2.2]at e3;split
   ·rename_i hcm;have h0:=zic hcm;intro l q' hr;obtain⟨h1,g,t,c⟩:=hs _ _ _ _ hr;exact⟨by omega,by omega,by omega,by omega⟩
   ·refine zhU fun h6 l q' hr=>?_;cases hr;exact⟨by omega,by omega,by omega,by omega⟩
  ·rw[zjQ];refine zhU fun h5=>?_;unfold whenK;refine zdW (hl _ _) fun a q hq ha=>zhU fun h6=>?_;refine zdW (hl _ _) fun b r hr hb=>?_;obtain⟨ga,ta,ca⟩:=ha;obtain⟨gb,tb,cb⟩:=hb;have e1:=zAn acc [a,b];have e2:=zAm acc [a,b];have e3:=zkn acc [a,b];rw[(two_l a b).1]at e1;rw[(two_l a b).2.1]at e2;rw[(two_l a b).2.2]at e3;split
   ·intro l q' hr;obtain⟨h1,e',h2,g,t,c⟩:=hw _ _ _ _ _ hr;exact⟨by omega,e',h2,by omega,by omega,by omega⟩
   ·unfold zsd;split
    ·rename_i hel;have h0:=zic hel;refine zdW (hl _ _) fun c r2 hr2 hcc=>zhU fun h7 l q' hr=>?_;obtain⟨gc,tc,cc⟩:=hcc;have f1:=zAn (acc++[a,b]) [c];have f2:=zAm (acc++[a,b]) [c];have f3:=zkn (acc++[a,b]) [c];rw[(znv c).1]at f1;rw[(znv c).2.1]at f2;rw[(znv c).2.2]at f3;have g1:=g_case d (acc++[a,b]++[c]);have t1:=t_case d (acc++[a,b]++[c]);have c1:=zqu d (acc++[a,b]++[c]);cases hr;exact⟨by omega,_,rfl,by omega,by omega,by omega⟩
    ·refine zhU fun h7 l q' hr=>?_;have g1:=g_case d (acc++[a,b]);have t1:=t_case d (acc++[a,b]);have c1:=zqu d (acc++[a,b]);cases hr;exact⟨by omega,_,rfl,by omega,by omega,by omega⟩
end
section
open Lx
structure Good1(t:T):Prop where
 name:t.kind=1→nmE t.text=true
 may:t.kind=3→mayV t.val=true
 nat:t.kind=3→t.val.1=1→0≤t.val.2.1
 lo:-9223372036854775807≤t.val.2.1
 hi:t.val.2.1≤9223372036854775807
 len:t.val.2.2.length≤2*t.text.length
 int:t.val.1=1→t.val.2.2=[]
theorem zr4:∀(l r:S),zeu l=some r→r.length≤l.length
 |[],r,h=>by cases h;simp
 |[_],r,h=>by cases h
 |a::b::l,r,h=>by
  rw[zeu]at h;split at h
  ·cases hx:zeu l with
   |none=>rw[hx]at h;cases h
   |some x=>
    rw[hx]at h;have:=zr4 l x hx;cases h;simp only[qa30];omega
  ·cases h
theorem zvm{k:Int}{o:Option S}{n:Nat}(hk:k=2∨k=3)(ho:∀r,o=some r→r.length≤n)(h:(mkV k o).2=0):mayV (mkV k o).1=true∧(mkV k o).1.1=k∧(mkV k o).1.2.1=0∧(mkV k o).1.2.2.length≤n:=by
 unfold mkV at *;cases o with
 |none=>simp at h
 |some r=>
  dsimp only at h ⊢;split at h
  ·simp at h
  ·rename_i hl;rw[if_neg hl];refine⟨?_,rfl,rfl,ho r rfl⟩;unfold mayV;rcases hk with rfl|rfl
   ·simp;omega
   ·simp;omega
theorem unq_good{l:S}(h:(zaq l).2=0)(hh:l.head?≠some 45):
  mayV (zaq l).1=true∧((zaq l).1.1=1→0≤(zaq l).1.2.1∧(zaq l).1.2.2=[])∧0≤(zaq l).1.2.1∧(zaq l).1.2.1≤9223372036854775807∧(zaq l).1.2.2.length≤2*l.length:=by
 unfold zaq at *;by_cases h1:(fold l==[110,117,108,108])=true
 ·simp only[h1,qa60]at h ⊢;exact⟨rfl,fun h=>by simp at h,by decide,by decide,by simp⟩
 simp only[h1,qa59,qa20]at h ⊢;by_cases h2:(zbv l).2=true
 ·simp only[h2,qa60]at h ⊢;have hi:=zj0 l;obtain⟨g1,g2,g3,g4⟩:=zvm (n:=l.length) (.inl rfl) (fun r hr=>qa56 (zxw _ r hr) hi) h;exact⟨g1,fun h=>(by rw[g2]at h;cases h),by rw[g3];decide,by rw[g3];decide,by omega⟩
 simp only[h2,qa59,qa20]at h ⊢;by_cases h3:(!l.isEmpty && fold (l.take 1)==[120])=true
 ·rw[if_pos h3]at h ⊢;have hi:=zj0 l.tail;have ht:l.tail.length≤l.length:=by simp
  obtain ⟨g1,g2,g3,g4⟩:=zvm (n:=l.length) (.inr rfl) (fun r hr=>by
   split at hr
   ·exact qa56 (zr4 _ r hr) (by omega)
   ·cases hr) h
  exact⟨g1,fun h=>(by rw[g2]at h;cases h),by rw[g3];decide,by rw[g3];decide,by omega⟩
 rw[if_neg h3]at h ⊢;by_cases h4:(read l).2≠0
 ·rw[if_pos h4]at h;exact absurd h h4
 rw[if_neg h4]at h ⊢;have hn:(l.head? == some 45)=false:=by simpa using hh
 have hr:(read l).2=0:=Decidable.not_not.1 h4;have:0≤(read l).1∧(read l).1≤9223372036854775807:=by
  unfold Lx.read at *;simp only[hn,Bool.false_and,Bool.or_false,qb0]at hr ⊢;split
  ·decide
  ·split
   ·decide
   ·rename_i hm;unfold most at hm;simp only;omega
 refine⟨?_,fun _=>⟨this.1,rfl⟩,this.1,this.2,by simp⟩;simp[mayV]
theorem nam_lo{k:Nat}{c:UInt8}(h:nam c=true)(hk:k=0→let_ c=true):nmAt k (lo c)=true:=by
 unfold nam let_ dig at h;unfold let_ at hk;simp only[qa42,qa32,qa25]at h hk;have hc:c.toNat<256:=c.toNat_lt;unfold nmAt nmh dig;simp only[qa42,qa32,qa25];unfold lo;by_cases h1:65≤c.toNat∧c.toNat≤90
 ·have h2:(decide (65≤c.toNat) && decide (c.toNat≤90))=true:=by simpa using h1
  rw[if_pos h2];have h3:(UInt8.ofNat (c.toNat+32)).toNat=c.toNat+32:=by simp[UInt8.toNat_ofNat];omega
  rw[h3];omega
 ·have h2:¬ (decide (65≤c.toNat) && decide (c.toNat≤90))=true:=by simpa using h1
  rw[if_neg h2];omega
theorem nmR_of:∀(l:S)(k:Nat),l.all nam=true→(k=0→∀c,l.head?=some c→let_ c=true)→nmR k (fold l)=true
 |[],_,_,_=>rfl
 |c::l,k,h,hk=>by
  rw[qa54,qa32]at h;have h1:=nmR_of l (k+1) h.2 (fun h=>by omega);show(nmAt k (lo c) && nmR (k+1) (fold l))=true;rw[h1,nam_lo h.1 (fun h=>hk h c rfl)];rfl
theorem tok_good{R:S}{t:T}{n:Nat}(h:tok R=(0,t,n)):Good1 t:=by
 match R,h with
 |[],h=>cases h
 |c::r,h=>
  have hval:∀m,(c::r).head?≠some 45→valT (c::r) m=(0,t,n)→Good1 t:=fun m h45 hv=>by
   unfold valT at hv;split at hv
   ·rename_i hu;have hh:((c::r).take m).head?≠some 45:=by
     cases m with
     |zero=>simp
     |succ m=>simpa using h45
    obtain⟨g1,g2,g3,g4,g5⟩:=unq_good hu hh;cases hv;exact⟨fun h=>by simp at h,fun _=>g1,fun _ h=>(g2 h).1,by dsimp only;omega,g4,g5,fun h=>(g2 h).2⟩
   ·rename_i h2;simp only[bad,Prod.mk.injEq]at hv;exact absurd hv.1 h2
  rw[tok]at h;by_cases hl:let_ c=true
  ·rw[if_pos hl]at h;have h45:(c::r).head?≠some 45:=by
    have:=(let_not hl).2.1;simp at this ⊢;exact this
   by_cases hb:zeS (c::r)=true
   ·rw[if_pos hb]at h;cases e:bEnd ((c::r).drop 2)with
    |none=>rw[e]at h;cases h
    |some q=>rw[e]at h;exact hval _ h45 h
   ·rw[if_neg hb]at h;have ht:=zoP (p:=nam) (c::r);have hm1:1≤many nam (c::r):=by
     rw[many,if_pos (by unfold nam;rw[hl];rfl)];omega
    have hml:=zdC nam (c::r);unfold zlp at h;split at h
    ·cases h;exact⟨fun h=>by simp at h,fun h=>by simp at h,fun h=>by simp at h,by simp,by simp,by simp,fun h=>by simp at h⟩
    ·rename_i hw;split at h
     ·cases h
     ·rename_i h32;cases h;refine⟨fun _=>?_,fun h=>by simp at h,fun h=>by simp at h,by simp,by simp,by simp,fun h=>by simp at h⟩;have hw':isW ((c::r).take (many nam (c::r)))=false:=by simpa using hw
      dsimp only;unfold nmE zys;rw [hw',nmR_of _ 0 ht (fun _ d hd=>by
       obtain⟨m,hm⟩:∃m,many nam (c::r)=m+1:=⟨_-1,(Nat.sub_add_cancel hm1).symm⟩;rw[hm]at hd;simp at hd;rw[←hd];exact hl)]
      have hlen:((c::r).take (many nam (c::r))).length=many nam (c::r):=by rw[qa38];omega
      rw[hlen];simp;omega
  ·rw[if_neg hl]at h;by_cases hd:dig c=true
   ·rw[if_pos hd]at h;unfold numT at h;split at h
    ·cases h
    ·split at h
     ·rename_i hr;cases h;have hdg:=zoP (p:=dig) (c::r);have h45:(((c::r).take (many dig (c::r))).head? == some 45)=false:=by
       cases hm:many dig (c::r)with
       |zero=>simp
       |succ m=>
        simp;exact(zj3 hd).2.2.1
      have:0≤(read ((c::r).take (many dig (c::r)))).1∧(read ((c::r).take (many dig (c::r)))).1≤9223372036854775807:=by
       unfold Lx.read at *;simp only[h45,Bool.false_and,Bool.or_false,qb0]at hr ⊢;split
       ·decide
       ·split
        ·decide
        ·rename_i hm;unfold most at hm;simp only;omega
      exact⟨fun h=>by simp at h,fun _=>by simp[mayV],fun _ _=>this.1,by dsimp only;omega,this.2,by simp,fun _=>rfl⟩
     ·rename_i h2;simp only[bad,Prod.mk.injEq]at h;exact absurd h.1 h2
   ·rw[if_neg hd]at h;by_cases hq:(c==39)=true
    ·rw[if_pos hq]at h;have h45:(c::r).head?≠some 45:=by
      simp at hq ⊢;rw[hq];decide
     cases e:qEnd r with
     |none=>rw[e]at h;cases h
     |some q=>rw[e]at h;exact hval _ h45 h
    ·rw[if_neg hq]at h;unfold zoO at h;split at h
     ·cases h
     ·cases h;exact⟨fun h=>by simp at h,fun h=>by simp at h,fun h=>by simp at h,by simp,by simp,by simp,fun h=>by simp at h⟩
theorem zzC:Good1 endT:=⟨fun h=>(by cases h),fun h=>(by cases h),fun h=>(by cases h),by decide,by decide,by decide,fun h=>(by cases h)⟩
theorem zwA{R:S}{ts:List T}(h:Lexed R ts):∀t∈ts,Good1 t:=by
 induction h with
 |nil=>intro t ht;cases ht
 |cons h1 _ _ ih=>
  intro t ht;rcases qa53.1 ht with rfl|ht
  ·exact tok_good h1
  ·exact ih t ht
theorem zyQ{R:S}{ts:List T}(h:Lexed R ts):(ts.map fun t=>t.text.length).sum≤R.length:=by
 induction h with
 |nil=>simp
 |cons h1 h2 h3 ih=>
  have:=tok_n h1;simp only[qa39]at ih;simp only[qa52,List.sum_cons];omega
def zpv(l:List TA)(n i:Nat):Nat:=match l[i]? with|some t=>t.2|none=>n
inductive OfR(s:S):E→Nat→Int→Prop
 |bad (l:List TA) (a:Nat) (no:Int):scan s=(l,a,no)→no≠0→OfR s e0 a no
 |stop (l:List TA) (a m q:Nat):scan s=(l,a,0)→run (l.map (·.1)) m (.lev 0) 0=some (.stop q)→OfR s e0 (zpv l s.length q) 20
 |deep (l:List TA) (a m q:Nat) (e:E):scan s=(l,a,0)→run (l.map (·.1)) m (.lev 0) 0=some (.ok [e] q)→24<deep e→OfR s e0 (zpv l s.length 0) 12
 |rest (l:List TA) (a m q:Nat) (e:E) (t:TA):scan s=(l,a,0)→run (l.map (·.1)) m (.lev 0) 0=some (.ok [e] q)→deep e≤24→l[q]?=some t→t.1.kind≠0→OfR s e0 t.2 20
 |ok (l:List TA) (a m q:Nat) (e:E):scan s=(l,a,0)→run (l.map (·.1)) m (.lev 0) 0=some (.ok [e] q)→deep e≤24→(∀t,l[q]?=some t→t.1.kind=0)→OfR s e s.length 0
theorem zjK{s:S}{l:List TA}{a:Nat}(h:scan s=(l,a,0)):zmW (l.map (·.1))∧ValT (l.map (·.1))∧(∀t∈l.map (·.1),Good1 t)∧l.length≤s.length+1∧((l.map (·.1)).map fun t=>t.text.length).sum≤s.length∧l.length≤4097:=by
 obtain⟨ext,g1,rfl,g3,g4,g5⟩:=zpU h;have hg:∀t∈(ext++[(endT,s.length)]).map (·.1),Good1 t:=fun t ht=>by
  rw[qa43,qa47]at ht;rcases ht with ht|ht
  ·exact zwA g1 t ht
  ·simp only[qb3,qa53,qa37,or_false]at ht;subst ht;exact zzC
 have hl:=zyR g1;have hs:=zyQ g1;simp only[qa44,qa39]at hl hs;refine⟨fun t ht=>?_,fun t ht hk=>?_,hg,by simp;omega, ?_,by simp;omega⟩
 ·have:=hg t ht;exact⟨this.name,fun hk=>⟨⟨this.may hk,fun h1=>⟨this.nat hk h1,this.hi⟩⟩,this.hi,this.lo⟩⟩
 ·have:=hg t ht;exact⟨this.len,this.lo,this.hi,this.nat hk⟩
 ·rw[qa43,qa43,List.sum_append];have e:((List.map (·.1) [(endT,s.length)]).map fun t=>t.text.length).sum=0:=rfl;rw[e];omega
theorem cw_le(L:List T)(p:Nat):cw L p≤40*L.length+5*(L.map fun t=>t.text.length).sum:=by
 have key:∀l:List T,(l.map wt).sum=40*l.length+5*(l.map fun t=>t.text.length).sum:=fun l=>by
  induction l with
  |nil=>rfl
  |cons t l ih=>simp only[qa52,List.sum_cons,qa30,ih,wt];omega
 have h1:cw L p≤(L.map wt).sum:=by
  unfold cw
  conv=>rhs;rw[←List.take_append_drop p L,qa43,List.sum_append]
  omega
 rw[key]at h1;exact h1
end
section
open Lx
theorem zpe:∀l:List C,commas l=Go.Lib.join (l.map (·.2.2)) [44,32]
 |[]=>rfl
 |[c]=>by rw[commas];simp[Go.Lib.join,List.intercalate]
 |c::d::r=>by
  rw[commas,zpe (d::r),qa52,Go.Lib.join_cons,qa52,Go.Lib.join_cons]
  ·simp[Go.Lib.joinTail]
  ·intro h;cases h
def zgG:List C→List S
 |[]=>[]
 |[c]=>[zkW,c.2.2]
 |c::d::r=>zgb::c.2.2::zjC::d.2.2::zgG r
theorem zmc:∀l:List C,Go.Lib.joinTail [32] (zgG l)++[32]=32::zeQ l
 |[]=>rfl
 |[c]=>by rw[zgG,zeQ];simp[Go.Lib.joinTail]
 |c::d::r=>by
  have h:=zmc r;rw[zgG,zeQ];simp only[Go.Lib.joinTail,qa52,List.flatten_cons,qa28]at h ⊢;rw[h];simp
theorem zzX(d:Bool)(l:List C):zj5 d l=Go.Lib.join (wCase::((if d then(kid l 0).2.2::zgG (l.drop 1)else zgG l)++[wEnd])) [32]:=by
 rw[Go.Lib.join_cons,zj5];have hT:∀(a b:List S),Go.Lib.joinTail [32] (a++b)=Go.Lib.joinTail [32] a++Go.Lib.joinTail [32] b:=fun a b=>by simp[Go.Lib.joinTail]
 have h1:Go.Lib.joinTail [32] [wEnd]=32::wEnd:=by simp[Go.Lib.joinTail]
 rw[hT,h1];cases d
 ·have:=zmc l;simp only[qb0];rw[show(32::wEnd:S)=[32]++wEnd from rfl,←qa28 (Go.Lib.joinTail _ _),this];simp
 ·have:=zmc (l.drop 1);simp only[qa60];have h2:Go.Lib.joinTail [32] ((kid l 0).2.2::zgG (l.drop 1))=32::((kid l 0).2.2++Go.Lib.joinTail [32] (zgG (l.drop 1))):=by simp[Go.Lib.joinTail]
  have h3:∀z:S,Go.Lib.joinTail [32] (zgG (l.drop 1))++32::z=32::(zeQ (l.drop 1)++z):=fun z=>by
   have:=congrArg (·++z) this;simpa using this
  rw[h2];simp only[qa35,qa28,h3,qa41]
end
section
open Lx
inductive Sh:E→Prop
 |mk {e:E}:e.table.length≤1000000→e.name.length≤1000000→(∀x∈e.args,Sh x)→Sh e
end
end Ex
end
