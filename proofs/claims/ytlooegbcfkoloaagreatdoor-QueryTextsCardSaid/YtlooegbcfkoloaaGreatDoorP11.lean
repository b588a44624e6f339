/- Part of the proof: see the last text. -/
import Derived.Test.YtlooegbcfkoloaaGreatDoorP7
import Derived.Test.YtlooegbcfkoloaaGreatDoorP9
import Derived.Test.YtlooegbcfkoloaaGreatDoorP10
set_option maxRecDepth 20000
set_option linter.unusedVariables false
set_option linter.unusedSimpArgs false
set_option linter.unusedSectionVars false
noncomputable section
namespace Go.Proofs.YtlooegbcfkoloaaGreatDoor
section
open Go.RowKit
open Vm
variable[Gl]
theorem zgD(k:Int)(o:Ex.S)(v:Ex.V)(t n:Ex.S)(s:Int)(g d:Bool)(a:List Ex.E):Ex.deep (.mk k o v t n s g d a)=Ex.deeps a+1:=by rw[Ex.deep]
theorem zl3(k:Int)(o:Ex.S)(v:Ex.V)(t n:Ex.S)(s:Int)(g d:Bool)(a:List Ex.E):Ex.count (.mk k o v t n s g d a)=Ex.counts a+1:=by rw[Ex.count]
theorem zgn:∀{l:List Ex.E} {x:Ex.E},x∈l→Ex.deep x≤Ex.deeps l
 |a::l,x,h=>by
  rw[Ex.deeps];rcases qa53.1 h with rfl|h
  ·omega
  ·have:=zgn h;omega
theorem zzK(e:Ex.E):1≤Ex.count e:=by cases e;rw[Ex.count];omega
theorem zg9:∀{l:List Ex.E} {x:Ex.E},x∈l→Ex.count x≤Ex.counts l
 |a::l,x,h=>by
  rw[Ex.counts];rcases qa53.1 h with rfl|h
  ·omega
  ·have:=zg9 h;omega
theorem zha:∀l:List Ex.E,l.length≤Ex.counts l
 |[]=>qa57 _
 |a::l=>by
  have:=zha l;have:=zzK a;rw[Ex.counts,qa30];omega
mutual
theorem zwK:∀e,Ex.deep e≤Ex.count e
 |.mk _ _ _ _ _ _ _ _ a=>by
  rw[Ex.deep,Ex.count];have:=zie a;omega
theorem zie:∀l,Ex.deeps l≤Ex.counts l
 |[]=>qa57 _
 |e::r=>by
  rw[Ex.deeps,Ex.counts];have:=zwK e;have:=zie r;omega
end
theorem zeg(l:List Ex.E)(i:Nat)(k:IntKind):elV 11 (.list (l.map encE)) (.int k (i:Int))=(l[i]?).map encE:=zm9 11 encE l k i fun e=>zde e
theorem zdb(e:Ex.E):ldV true 11 (encE e) 0=some (encE e):=by
 have h:=zde e;cases e;rw[enc_mk]at h ⊢;unfold ldV;rw[if_pos ⟨rfl,rfl,h⟩]
theorem zqs(e:Ex.E)(a:List Ex.E)(he:cell (encE e) 10=.list (a.map encE))(ha:a.length≤900000)(hd:∀x∈a,Ex.deep x≤900000)(h:∀x∈a,pr.ev 116 [encE x] []=some (.ret (.int .i64 (Ex.deep x:Nat)),[])):∀(n i m:Nat),i+n=a.length→m≤900000 →
  lup Out (zdQ pr.ev lup) [.int .i64 (m:Nat),.int .i64 (i:Nat),encE e]=some (.ret (.int .i64 ((max m (Ex.deeps (a.drop i))+1:Nat):Int)),[])
 |0,i,m,hi,hm=>by
  have h1:¬i<a.length:=by omega
  have h2:a.drop i=[]:=List.drop_of_length_le (by omega);rw[zan];simp[-Int.natCast_add,zdQ,zgP,he,h1,h2,Ex.deeps,rtn,zbU (show m≤1000000 by omega)]
 |n+1,i,m,hi,hm=>by
  have h1:i<a.length:=by omega
  have h2:a.drop i=a[i]::a.drop (i+1):=qa10 h1;have hmem:a[i]∈a:=qa36 h1;have hdi:=hd _ hmem;have ih:=zqs e a he ha hd h n (i+1) (max m (Ex.deep a[i])) (by omega) (by omega);have hmx:max (m:Int) (Ex.deep a[i]:Int)=((max m (Ex.deep a[i]):Nat):Int):=by omega
  rw[zan,h2,Ex.deeps,←Nat.max_assoc,←ih];simp[-Int.natCast_add,zdQ,he,h1,zeg,zdb,zaa (h _ hmem),zbU (show i≤1000000 by omega),hmx]
theorem r_Deep:∀(n:Nat)(e:Ex.E),Ex.deep e≤n→Ex.count e≤900000→pr.ev 116 [encE e] []=some (.ret (.int .i64 (Ex.deep e:Nat)),[])
 |0,.mk k o v t nm s g d a,h,_=>by rw[zgD]at h;omega
 |n+1,.mk k o v t nm s g d a,h,hc=>by
  rw[zgD]at h;rw[zl3]at hc;have hal:=zha a;have hdc:=zie a;have ih:∀x∈a,pr.ev 116 [encE x] []=some (.ret (.int .i64 (Ex.deep x:Nat)),[]):=fun x hx=>r_Deep n x (by have:=zgn hx;omega) (by have:=zg9 hx;omega);have hl:=zqs (.mk k o v t nm s g d a) a (by rw[enc_mk];rfl) (by omega) (fun x hx=>by have:=zgn hx;omega) ih a.length 0 0 (by omega) (by omega);refine pr.of rfl (by simp only[List.map,(zbe _).rd];rfl) rfl (znp _ _ _ _) ?_;rw[zgD];simpa[-Int.natCast_add,ziI]using hl
def parV(p:Nat)(r:Ex.R):Vm.V:=match r with
 |.ok [e] q=>if Ex.deep e≤24 then .tup [encE e,.int .i64 (q:Int),.int .i64 0]else .tup [encE Ex.e0,.int .i64 (p:Int),.int .i64 12]
 |.ok _ _=>.undef
 |.stop q=>.tup [encE Ex.e0,.int .i64 (q:Int),.int .i64 20]
theorem zsT{v:Vm.V}(h:wf v=true):oeq (.ret v,[]) (.ret v,[])=true:=by simp[oeq,eeqs,zf9 h]
section
variable{L:List Lx.TA}
theorem zxZ(hL:L.length≤999999)(hT:Good L)(hG:zwZ L){p m:Nat}{r:Ex.R}(hp:p≤L.length)(hr:Ex.run (L.map (·.1)) m (.lev 0) p=some r)(hc:∀e q,r=.ok [e] q→Ex.count e≤900000):
  pr.ev 84 [.list (L.map tokM),.int .i64 (p:Int)] []=some (.ret (parV p r),[]):=by
 refine pr.of rfl rfl rfl (zms _ _ _ _ _) ?_;have h1:¬(p:Int)<0:=by omega
 have h2:¬L.length<p:=by omega
 rcases ref_part hL hT hG hp hr with⟨e,q,rfl,h3,h4,h5⟩|⟨q,rfl,p',x,h5,hx,hp'⟩
 ·have hd:=r_Deep _ e (qa57 _) (hc e q rfl);have hw:∀{a b:Int},oeq (.ret (.tup [encE e,.int .i64 a,.int .i64 b]),[]) (.ret (.tup [encE e,.int .i64 a,.int .i64 b]),[])=true:=zsT (by simp[wf,wfs,zdh]);by_cases h24:Ex.deep e≤24
  ·have h25:¬ 24 < Ex.deep e:=by omega
   have h26:¬(24:Int)<(Ex.deep e:Int):=by omega
   simp[-Int.natCast_add,zep,zcw,h1,h2,zaa h5,zaa hd,h25,h26,parV,h24,rtn,ag,zg2,hw]
  ·have h25:24 < Ex.deep e:=by omega
   have h26:(24:Int)<(Ex.deep e:Int):=by omega
   simp[-Int.natCast_add,zep,zcw,h1,h2,zaa h5,zaa hd,h25,h26,parV,h24,rtn,e0_v]
 ·have hw:∀ {a b:Int},oeq (.ret (.tup [encE Ex.e0,.int .i64 a,.int .i64 b]),[]) (.ret (.tup [encE Ex.e0,.int .i64 a,.int .i64 b]),[])=true:=zsT (by simp [wf,wfs,zdh]);simp[-Int.natCast_add,zep,zcw,h1,h2,zaa h5,hx.ck,hx.ag,hx.nm,parV,rtn,e0_v,ag,zg2,hw]
end
section
variable{s:List UInt8}{l:List Lx.TA}{a:Nat}
theorem zxq:∀{l:List Lx.T} {t:Lx.T},t∈l→t.text.length≤(l.map fun t=>t.text.length).sum
 |u::l,t,h=>by
  rw[qa52,List.sum_cons];rcases qa53.1 h with rfl|h
  ·omega
  ·have:=zxq h;omega
theorem scan_L(h:Lx.scan s=(l,a,0)):l.length≤4097:=(Ex.zjK h).2.2.2.2.2
theorem scan_G(hs:s.length≤1000000)(h:Lx.scan s=(l,a,0)):Good l:=fun i t ht=>by
 obtain⟨g1,g2,g3,g4,g5,g6⟩:=Ex.zjK h;have hm:t.1∈l.map (·.1):=qa55.2 ⟨t,qa16 ht,rfl⟩;have hg:=g3 _ hm;have:=zxq hm;exact⟨by omega,hg.lo,hg.hi⟩
theorem scan_G2(h:Lx.scan s=(l,a,0)):zwZ l:=fun i t ht=>by
 obtain⟨g1,g2,g3,g4,g5,g6⟩:=Ex.zjK h;have hm:t.1∈l.map (·.1):=qa55.2 ⟨t,qa16 ht,rfl⟩;exact(g3 _ hm).int
theorem zp8{t:Lx.TA}{n i:Nat}(h:l[i]?=some t):Ex.zpv l n i=t.2:=by unfold Ex.zpv;rw[h]
theorem zp9{n i:Nat}(h:l[i]?=none):Ex.zpv l n i=n:=by unfold Ex.zpv;rw[h]
end
end
section
open Go.RowKit
open Vm
variable[Gl]
theorem zqt(a:List Ex.E)(ha:a.length≤900000)(hd:∀x∈a,Ex.deep x≤900000)(h:∀x∈a,pr.ev 149 [encE x] []=some (.ret (.int .i64 (Ex.deep x:Nat)),[])):∀(n i m:Nat),i+n=a.length→m≤900000 →
  lup Out (zfD pr.ev lup) [.int .i64 (m:Nat),.list (a.map encE),.int .i64 (a.length:Nat),.int .i64 (i:Nat)]=some (.ret (.int .i64 ((max m (Ex.deeps (a.drop i))+1:Nat):Int)),[])
 |0,i,m,hi,hm=>by
  have h1:¬i<a.length:=by omega
  have h2:a.drop i=[]:=List.drop_of_length_le (by omega);rw[zan];simp[-Int.natCast_add,zfD,zjI,h1,h2,Ex.deeps,rtn,zbU (show m≤1000000 by omega)]
 |n+1,i,m,hi,hm=>by
  have h1:i<a.length:=by omega
  have h2:a.drop i=a[i]::a.drop (i+1):=qa10 h1;have hmem:a[i]∈a:=qa36 h1;have hdi:=hd _ hmem;have ih:=zqt a ha hd h n (i+1) (max m (Ex.deep a[i])) (by omega) (by omega);have hmx:max (m:Int) (Ex.deep a[i]:Int)=((max m (Ex.deep a[i]):Nat):Int):=by omega
  rw[zan,h2,Ex.deeps,←Nat.max_assoc,←ih];simp[-Int.natCast_add,zfD,h1,zeg,zdb,zaa (h _ hmem),zbU (show i≤1000000 by omega),hmx]
theorem m_Deep:∀(n:Nat)(e:Ex.E),Ex.deep e≤n→Ex.count e≤900000→pr.ev 149 [encE e] []=some (.ret (.int .i64 (Ex.deep e:Nat)),[])
 |0,.mk k o v t nm s g d a,h,_=>by rw[zgD]at h;omega
 |n+1,.mk k o v t nm s g d a,h,hc=>by
  rw[zgD]at h;rw[zl3]at hc;have hal:=zha a;have hdc:=zie a;have ih:∀x∈a,pr.ev 149 [encE x] []=some (.ret (.int .i64 (Ex.deep x:Nat)),[]):=fun x hx=>m_Deep n x (by have:=zgn hx;omega) (by have:=zg9 hx;omega);have hl:=zqt a (by omega) (fun x hx=>by have:=zgn hx;omega) ih a.length 0 0 (by omega) (by omega);have e10:cell (encE (.mk k o v t nm s g d a)) 10=.list (a.map encE):=by rw[enc_mk];rfl
  refine pr.of rfl (by simp only[List.map,(zbe _).rd];rfl) rfl (ztO _ _ _ _) ?_;rw[zgD];simpa[-Int.natCast_add,zm0,e10]using hl
end
section
open Go.RowKit
open Vm
variable[Gl]
theorem zvY(c:Orc)(a b k d e f g h i j l m n:Vm.V):zcP c .niface a b k d e f g h i j l m n=some [.blk 46 [a,b,k,d,e,f,g,h,i,j,l],.blk 3 [m],.blk 29 [n]]:=by kernel_rfl
theorem clo_stop(c:Orc)(q:Nat)(a b k d e f g h i j l m n:Vm.V):zcP c (stopV q) a b k d e f g h i j l m n=some [.blk 46 [.int .i64 0,.str [],.int .i64 0,.int .i64 0,.str [],.str [],.str [],.int .i64 0,.bool false,.bool false,.nils],.blk 3 [.int .i64 q],.blk 29 [.int .i64 20]]:=by
 have h:eeqs [.blk 46 [.int .i64 0,.str [],.int .i64 0,.int .i64 0,.str [],.str [],.str [],.int .i64 0,.bool false,.bool false,.nils],.blk 3 [.int .i64 q],.blk 29 [.int .i64 20]] [.blk 46 [.int .i64 0,.str [],.int .i64 0,.int .i64 0,.str [],.str [],.str [],.int .i64 0,.bool false,.bool false,.nils],.blk 3 [.int .i64 q],.blk 29 [.int .i64 20]]=true:=by simp[eeqs,eeq,veqs,veq]
 simp[zcP,stopV,gW,tasW,tasV,wf,wfs,ag,ckA_agg,zg2,h]
section
variable{L:List Lx.TA}
theorem zyM(hL:L.length≤999999)(hT:Good L){p m:Nat}{r:Ex.R}(hp:p≤L.length)(hr:Ex.run (L.map (·.1)) m (.lev 0) p=some r)(hc:∀e q,r=.ok [e] q→Ex.count e≤900000):
  pr.ev 132 [.list (L.map tokM),.int .i64 (p:Int)] []=some (.ret (parV p r),[]):=by
 refine pr.ofN rfl ?_;show evFD Tryz.prog _ pr.ev [10,11,12] [(4,0),(5,1),(6,2)] 132 [.d (.list (L.map tokM)),.d (.int .i64 p)]=_;rw[zsv];have h1:¬((p:Int)<0):=by omega
 have h2:¬(L.length<p):=by omega
 rcases prog_expr hL hT hp hr with⟨e,q,rfl,h3,h4,h5⟩|⟨q,rfl,h4,h5⟩
 ·have hd:=m_Deep (Ex.deep e) e (qa57 _) (hc e q rfl);have hw:wfs (((fun e=>encE e) <$> ([]:List Ex.E)))=true:=rfl;have hwe:=zdh e;by_cases hde:Ex.deep e≤24
  ·have h24:¬ ((24:Int) < (Ex.deep e:Int)):=by omega
   cases e with
   |mk k o v t nm s g d a=>
    rw[enc_mk]at h5 hd hwe;have hwl:wfs (a.map encE)=true:=by simpa[wf,wfs]using hwe
    have hq:oeq (.ret (.tup [encE (.mk k o v t nm s g d a),.int .i64 q,.int .i64 0]),[]) (.ret (.tup [encE (.mk k o v t nm s g d a),.int .i64 q,.int .i64 0]),[])=true:=zsT (by simp[wf,wfs,zdh]);rw[enc_mk]at hq;simp[-Int.natCast_add,zg0,zec,h1,h2,ckA_agg,k_r h5,zaa hd,zvY,zzG,zwO,wfs,wf,parV,rtn,hde,h24,hwl,ag,zg2,hq];rw[enc_mk]
  ·have h24:((24:Int) < (Ex.deep e:Int)):=by omega
   cases e with
   |mk k o v t nm s g d a=>
    rw[enc_mk]at h5 hd hwe;have hwl:wfs (a.map encE)=true:=by simpa[wf,wfs]using hwe
    simp[-Int.natCast_add,zg0,zec,h1,h2,ckA_agg,k_r h5,zaa hd,zvY,zzG,zwO,wfs,wf,parV,rtn,hde,h24,hwl,e0_v]
 ·simp[-Int.natCast_add,zg0,zec,h1,h2,ckA_agg,k_p h5,clo_stop,zzG,zwO,wfs,wf,parV,rtn,e0_v]
end
end
end Go.Proofs.YtlooegbcfkoloaaGreatDoor
namespace Qy
section
open Lx Ex
inductive Rs(α:Type) where
 |ok (a:α) (q:Nat)
 |stop (q:Nat) (e:Int)
def Rs.bind{α β:Type}(r:Rs α)(f:α→Nat→Rs β):Rs β:=match r with|.ok a q=>f a q|.stop q e=>.stop q e
@[simp] theorem bind_ok {α β:Type} (a:α) (q:Nat) (f:α→Nat→Rs β):(Rs.ok a q).bind f=f a q:=rfl
@[simp] theorem bind_stop {α β:Type} (q:Nat) (e:Int) (f:α→Nat→Rs β):(Rs.stop q e:Rs α).bind f=.stop q e:=rfl
abbrev Rd(α:Type):=Nat→Rs α
structure Item where
 e:E
 name:S
 star:Bool
 table:S
structure From where
 table:S
 as_:S
 join:Int
 on:List E
structure Term where
 e:E
 coll:Int
 desc:Bool
structure Core where
 dist:Bool
 items:List Item
 from_:List From
 wher:List E
 having:List E
 group:List E
structure Sel where
 cores:List Core
 ops:List Int
 order:List Term
 lim:List E
 off:List E
def wFrom:S:=[102,114,111,109]
def wSelect:S:=[115,101,108,101,99,116]
def wCross:S:=[99,114,111,115,115]
def wInner:S:=[105,110,110,101,114]
def wLeft:S:=[108,101,102,116]
def wJoin:S:=[106,111,105,110]
def wOn:S:=[111,110]
def wWhere:S:=[119,104,101,114,101]
def wGroup:S:=[103,114,111,117,112]
def wBy:S:=[98,121]
def wHaving:S:=[104,97,118,105,110,103]
def wCollate:S:=[99,111,108,108,97,116,101]
def wAsc:S:=[97,115,99]
def wDesc:S:=[100,101,115,99]
def wBinary:S:=[98,105,110,97,114,121]
def wNocase:S:=[110,111,99,97,115,101]
def wUnion:S:=[117,110,105,111,110]
def wAll:S:=[97,108,108]
def wIntersect:S:=[105,110,116,101,114,115,101,99,116]
def wExcept:S:=[101,120,99,101,112,116]
def wOrder:S:=[111,114,100,101,114]
def wLimit:S:=[108,105,109,105,116]
def wOffset:S:=[111,102,102,115,101,116]
section
variable(L:List T)(ex:Rd E)
def must(s:S):Rd Unit:=fun p=>if isT L p 2 s then .ok () (p+1)else .stop p 20
def name:Rd S:=fun p=>match L[p]? with|some t=>if t.kind=1 then .ok t.text (p+1)else .stop p 20|none=>.stop p 20
def txt(p:Nat):S:=match L[p]? with|some t=>t.text|none=>[]
def sev{α:Type}(one:Rd α):Nat→List α→Rd (List α)
 |0,_,p=>.stop p 0
 |n+1,acc,p=>if isT L p 4 zdH then(one (p+1)).bind fun a q=>sev one n (acc++[a]) q else .ok acc p
def several{α:Type}(one:Rd α):Rd (List α):=fun p=>(one p).bind fun a q=>sev L one (L.length+1) [a] q
def maybe(s:S):Rd (List E):=fun p=>if isT L p 2 s then(ex (p+1)).bind fun e q=>.ok [e] q else .ok [] p
def item:Rd Item:=fun p=>
 if isT L p 4 zem then .ok ⟨e0,[],true,[]⟩ (p+1)
 else if isK L p 1 && (isT L (p+1) 4 mDot && isT L (p+2) 4 zem)then .ok ⟨e0,[],true,txt L p⟩ (p+3)
 else(ex p).bind fun e q=>if isT L q 2 wAs then(name L (q+1)).bind fun n r=>.ok ⟨e,n,false,[]⟩ r else .ok ⟨e,[],false,[]⟩ q
def table(many:Nat)(j:Int):Rd From:=fun p=>
 if decide (6≤many) && isK L p 1 then .stop p 3
 else(name L p).bind fun n q=>if isT L q 2 wAs then(name L (q+1)).bind fun m r=>.ok ⟨n,m,j,[]⟩ r else .ok ⟨n,n,j,[]⟩ q
def join:Rd (Option Int):=fun p=>
 if isT L p 4 zdH then .ok (some 0) (p+1)
 else if isT L p 2 wCross then(must L wJoin (p+1)).bind fun _ q=>.ok (some 0) q
 else if isT L p 2 wInner then(must L wJoin (p+1)).bind fun _ q=>.ok (some 1) q
 else if isT L p 2 wLeft then(must L wJoin (p+1)).bind fun _ q=>.ok (some 2) q
 else if isT L p 2 wJoin then .ok (some 1) (p+1)
 else .ok none p
def tabs:Nat→List From→Rd (List From)
 |0,_,p=>.stop p 0
 |n+1,acc,p=>(join L p).bind fun j q=>match j with
  |none=>.ok acc q
  |some k=>(table L acc.length k q).bind fun f r=>
   if k=0 then tabs n (acc++[f]) r
   else(must L wOn r).bind fun _ r2=>(ex r2).bind fun e r3=>tabs n (acc++[⟨f.table,f.as_,f.join,[e]⟩]) r3
def tables:Rd (List From):=fun p=>(table L 0 0 p).bind fun f q=>tabs L ex (L.length+1) [f] q
def from_:Rd (List From):=fun p=>if isT L p 2 wFrom then tables L ex (p+1)else .ok [] p
def group:Rd (List E):=fun p=>if isT L p 2 wGroup then(must L wBy (p+1)).bind fun _ q=>several L ex q else .ok [] p
def core:Rd Core:=fun p=>(must L wSelect p).bind fun _ p1=>
 (several L (item L ex) (if isT L p1 2 zav then p1+1 else p1)).bind fun is q=>
 (from_ L ex q).bind fun fs q2=>(maybe L ex wWhere q2).bind fun w q3=>(group L ex q3).bind fun g q4=>(maybe L ex wHaving q4).bind fun h q5=>
 .ok ⟨isT L p1 2 zav,is,fs,w,h,g⟩ q5
def coll:Rd Int:=fun p=>match L[p]? with
 |some t=>if(decide (t.kind=2) || decide (t.kind=1)) && fold t.text==wBinary then .ok 0 (p+1)else if(decide (t.kind=2) || decide (t.kind=1)) && fold t.text==wNocase then .ok 1 (p+1)else .stop p 20
 |none=>.stop p 20
def dir(e:E)(c:Int):Rd Term:=fun p=>if isT L p 2 wAsc then .ok ⟨e,c,false⟩ (p+1)else if isT L p 2 wDesc then .ok ⟨e,c,true⟩ (p+1)else .ok ⟨e,c,false⟩ p
def term:Rd Term:=fun p=>(ex p).bind fun e q=>if isT L q 2 wCollate then(coll L (q+1)).bind fun c r=>dir L e c r else dir L e 0 q
def between(p:Nat):Option Int×Nat:=
 if isT L p 2 wUnion then(if isT L (p+1) 2 wAll then(some 1,p+2)else(some 0,p+1))
 else if isT L p 2 wIntersect then(some 2,p+1)
 else if isT L p 2 wExcept then(some 3,p+1)
 else(none,p)
def cores:Nat→List Core→List Int→Rd (List Core×List Int)
 |0,_,_,p=>.stop p 0
 |n+1,cs,os,p=>match between L p with
  |(none,q)=>.ok (cs,os) q
  |(some o,q)=>(core L ex q).bind fun c r=>cores n (cs++[c]) (os++[o]) r
def order:Rd (List Term):=fun p=>if isT L p 2 wOrder then(must L wBy (p+1)).bind fun _ q=>several L (term L ex) q else .ok [] p
def query:Rd Sel:=fun p=>(core L ex p).bind fun c q=>(cores L ex (L.length+1) [c] [] q).bind fun x q2=>(order L ex q2).bind fun o q3=>
 (maybe L ex wLimit q3).bind fun l q4=>(if l.length=0 then .ok [] q4 else maybe L ex wOffset q4).bind fun f q5=>.ok ⟨x.1,x.2,o,l,f⟩ q5
end
def exprR(L:List T):Rd E:=fun p=>match run L (12*L.length+10) (.lev 0) p with
 |some (.ok [e] q)=>if deep e≤24 then .ok e q else .stop p 12
 |some (.stop q)=>.stop q 20
 |_=>.stop p 0
end
section
open Lx Ex
def In{α:Type}(n lo:Nat)(r:Rs α):Prop:=match r with|.ok _ q=>lo≤q∧q≤n|.stop q e=>q≤n∧e≠0
theorem In.bind{α β:Type}{n lo lo':Nat}{r:Rs α}{f:α→Nat→Rs β}(h:In n lo r)(hf:∀a q,r=.ok a q→lo≤q→q≤n→In n lo' (f a q)):In n lo' (r.bind f):=by
 cases r with
 |ok a q=>exact hf a q rfl h.1 h.2
 |stop q e=>exact h
theorem In.mono{α:Type}{n lo lo':Nat}{r:Rs α}(h:In n lo r)(hl:lo'≤lo):In n lo' r:=by
 cases r with
 |ok a q=>exact⟨qa56 hl h.1,h.2⟩
 |stop q e=>exact h
theorem In.ok{α:Type}{n lo q:Nat}{a:α}(h1:lo≤q)(h2:q≤n):In n lo (.ok a q):=⟨h1,h2⟩
theorem In.stop{α:Type}{n lo q:Nat}{e:Int}(h1:q≤n)(h2:e≠0):In n lo (.stop q e:Rs α):=⟨h1,h2⟩
section
variable{L:List T}{ex:Rd E}{p:Nat}
theorem must_in(s:S)(hp:p≤L.length):In L.length (p+1) (must L s p):=by
 unfold must;split
 ·rename_i h;exact .ok (qa57 _) (isT_lt h)
 ·exact .stop hp (by decide)
theorem name_in(hp:p≤L.length):In L.length (p+1) (name L p):=by
 unfold name;split
 ·rename_i t h;have:=(qa9.1 h).1;split
  ·exact .ok (qa57 _) this
  ·exact .stop hp (by decide)
 ·exact .stop hp (by decide)
theorem sev_in{α:Type}{one:Rd α}(h1:∀p,p≤L.length→In L.length (p+1) (one p)):∀(n:Nat)(acc:List α)(p:Nat),p≤L.length→L.length+1≤n+p→In L.length p (sev L one n acc p)
 |0,_,p,hp,hn=>by omega
 |n+1,acc,p,hp,hn=>by
  rw[sev];split
  ·rename_i h;have hlt:=isT_lt h;exact(h1 (p+1) hlt).bind fun a q _ h1' h2=>(sev_in h1 n _ q h2 (by omega)).mono (by omega)
  ·exact .ok (qa57 _) hp
theorem several_in{α:Type}{one:Rd α}(h1:∀p,p≤L.length→In L.length (p+1) (one p))(hp:p≤L.length):In L.length (p+1) (several L one p):=
 (h1 p hp).bind fun a q _ h h2=>(sev_in h1 _ _ q h2 (by omega)).mono h
variable(hx:∀p,p≤L.length→In L.length (p+1) (ex p))
include hx
theorem maybe_in(s:S)(hp:p≤L.length):In L.length p (maybe L ex s p):=by
 unfold maybe;split
 ·rename_i h;exact(hx _ (isT_lt h)).bind fun a q _ h1 h2=>.ok (by omega) h2
 ·exact .ok (qa57 _) hp
theorem item_in(hp:p≤L.length):In L.length (p+1) (item L ex p):=by
 unfold item;split
 ·rename_i h;exact .ok (qa57 _) (isT_lt h)
 ·split
  ·rename_i h;simp only[qa32]at h;exact .ok (by omega) (isT_lt h.2.2)
  ·refine(hx p hp).bind fun e q _ h1 h2=>?_;split
   ·rename_i h;exact(name_in (isT_lt h)).bind fun a r _ h3 h4=>.ok (by omega) h4
   ·exact .ok h1 h2
omit hx in
theorem table_in(m:Nat)(j:Int)(hp:p≤L.length):In L.length (p+1) (table L m j p):=by
 unfold table;split
 ·exact .stop hp (by decide)
 ·refine(name_in hp).bind fun n q _ h1 h2=>?_;split
  ·rename_i h;exact(name_in (isT_lt h)).bind fun a r _ h3 h4=>.ok (by omega) h4
  ·exact .ok h1 h2
omit hx in
theorem join_in(hp:p≤L.length):In L.length p (join L p):=by
 have hm:∀{s:S} {j:Option Int},isT L p 2 s=true→In L.length p ((must L wJoin (p+1)).bind fun _ q=>.ok j q):=fun h=>(must_in _ (isT_lt h)).bind fun a q _ h1 h2=>.ok (by omega) h2;unfold join;split
 ·rename_i h;exact .ok (by omega) (isT_lt h)
 ·split
  ·rename_i h;exact hm h
  ·split
   ·rename_i h;exact hm h
   ·split
    ·rename_i h;exact hm h
    ·split
     ·rename_i h;exact .ok (by omega) (isT_lt h)
     ·exact .ok (qa57 _) hp
theorem ztC:∀(n:Nat)(acc:List From)(p:Nat),p≤L.length→L.length+1≤n+p→In L.length p (tabs L ex n acc p)
 |0,_,p,hp,hn=>by omega
 |n+1,acc,p,hp,hn=>by
  rw[tabs];refine(join_in hp).bind fun j q _ h1 h2=>?_;cases j with
  |none=>exact .ok h1 h2
  |some k=>
   refine(table_in _ _ h2).bind fun f r _ h3 h4=>?_;split
   ·exact(ztC n _ r h4 (by omega)).mono (by omega)
   ·refine(must_in _ h4).bind fun _ r2 _ h5 h6=>?_;refine(hx _ h6).bind fun e r3 _ h7 h8=>?_;exact(ztC n _ r3 h8 (by omega)).mono (by omega)
theorem tables_in(hp:p≤L.length):In L.length (p+1) (tables L ex p):=
 (table_in _ _ hp).bind fun f q _ h1 h2=>(ztC hx _ _ q h2 (by omega)).mono h1
theorem from_in(hp:p≤L.length):In L.length p (from_ L ex p):=by
 unfold from_;split
 ·rename_i h;exact(tables_in hx (isT_lt h)).mono (by omega)
 ·exact .ok (qa57 _) hp
theorem group_in(hp:p≤L.length):In L.length p (group L ex p):=by
 unfold group;split
 ·rename_i h;exact(must_in _ (isT_lt h)).bind fun _ q _ h1 h2=>(several_in hx h2).mono (by omega)
 ·exact .ok (qa57 _) hp
theorem core_in(hp:p≤L.length):In L.length (p+1) (core L ex p):=by
 unfold core;refine(must_in _ hp).bind fun _ p1 _ h1 h2=>?_;have h3:p1≤(if isT L p1 2 zav then p1+1 else p1)∧(if isT L p1 2 zav then p1+1 else p1)≤L.length:=by
  split
  ·rename_i h;exact⟨by omega,isT_lt h⟩
  ·exact⟨qa57 _,h2⟩
 refine(several_in (fun p hp=>item_in hx hp) h3.2).bind fun is q _ h4 h5=>?_;refine(from_in hx h5).bind fun fs q2 _ h6 h7=>?_;refine(maybe_in hx _ h7).bind fun w q3 _ h8 h9=>?_;refine(group_in hx h9).bind fun g q4 _ h10 h11=>?_;refine(maybe_in hx _ h11).bind fun h q5 _ h12 h13=>?_;exact .ok (by omega) h13
omit hx in
theorem coll_in(hp:p≤L.length):In L.length p (coll L p):=by
 unfold coll;split
 ·rename_i t h;have:=(qa9.1 h).1;split
  ·exact .ok (by omega) this
  ·split
   ·exact .ok (by omega) this
   ·exact .stop hp (by decide)
 ·exact .stop hp (by decide)
omit hx in
theorem dir_in(e:E)(c:Int)(hp:p≤L.length):In L.length p (dir L e c p):=by
 unfold dir;split
 ·rename_i h;exact .ok (by omega) (isT_lt h)
 ·split
  ·rename_i h;exact .ok (by omega) (isT_lt h)
  ·exact .ok (qa57 _) hp
theorem term_in(hp:p≤L.length):In L.length (p+1) (term L ex p):=by
 unfold term;refine(hx p hp).bind fun e q _ h1 h2=>?_;split
 ·rename_i h;exact(coll_in (isT_lt h)).bind fun c r _ h3 h4=>(dir_in e c h4).mono (by omega)
 ·exact(dir_in e 0 h2).mono h1
omit hx in
theorem between_in{o:Int}{q:Nat}(h:between L p=(some o,q)):p<q∧q≤L.length:=by
 unfold between at h;split at h
 ·split at h
  ·rename_i h2;cases h;exact⟨by omega,isT_lt h2⟩
  ·rename_i h2 _;cases h;exact⟨by omega,isT_lt h2⟩
 ·split at h
  ·rename_i h2;cases h;exact⟨by omega,isT_lt h2⟩
  ·split at h
   ·rename_i h2;cases h;exact⟨by omega,isT_lt h2⟩
   ·cases h
omit hx in
theorem between_none{q:Nat}(h:between L p=(none,q)):q=p:=by
 unfold between at h;split at h
 ·split at h<;>cases h
 ·split at h
  ·cases h
  ·split at h
   ·cases h
   ·cases h;rfl
theorem zvW:∀(n:Nat)(cs:List Core)(os:List Int)(p:Nat),p≤L.length→L.length+1≤n+p→In L.length p (cores L ex n cs os p)
 |0,_,_,p,hp,hn=>by omega
 |n+1,cs,os,p,hp,hn=>by
  rw[cores];split
  ·rename_i q h;rw[between_none h];exact .ok (qa57 _) hp
  ·rename_i o q h;obtain⟨h1,h2⟩:=between_in h;exact(core_in hx h2).bind fun c r _ h3 h4=>(zvW n _ _ r h4 (by omega)).mono (by omega)
theorem order_in(hp:p≤L.length):In L.length p (order L ex p):=by
 unfold order;split
 ·rename_i h;exact(must_in _ (isT_lt h)).bind fun _ q _ h1 h2=>(several_in (fun p hp=>term_in hx hp) h2).mono (by omega)
 ·exact .ok (qa57 _) hp
theorem query_in(hp:p≤L.length):In L.length (p+1) (query L ex p):=by
 unfold query;refine(core_in hx hp).bind fun c q _ h1 h2=>?_;refine(zvW hx _ _ _ q h2 (by omega)).bind fun x q2 _ h3 h4=>?_;refine(order_in hx h4).bind fun o q3 _ h5 h6=>?_;refine(maybe_in hx _ h6).bind fun l q4 _ h7 h8=>?_;have h9:In L.length q4 (if l.length=0 then .ok [] q4 else maybe L ex wOffset q4):=by
  split
  ·exact .ok (qa57 _) h8
  ·exact maybe_in hx _ h8
 exact h9.bind fun f q5 _ h9 h10=>.ok (by omega) h10
end
theorem exprR_run{L:List T}{p:Nat}(hp:p≤L.length):(∃e q,run L (12*L.length+10) (.lev 0) p=some (.ok [e] q))∨∃q,run L (12*L.length+10) (.lev 0) p=some (.stop q):=
 (zxF L _).1 0 p (by omega) hp (by omega)
theorem exprR_in{L:List T}{p:Nat}(hp:p≤L.length):In L.length (p+1) (exprR L p):=by
 unfold exprR;rcases exprR_run hp with⟨e,q,h⟩|⟨q,h⟩
 ·obtain⟨h1,h2⟩:=zmw hp h;rw[h];dsimp only;split
  ·exact .ok h1 h2
  ·exact .stop hp (by decide)
 ·have h1:=ztQ hp h;rw[h];exact .stop h1 (by decide)
end
end Qy
namespace Go.Proofs.YtlooegbcfkoloaaGreatDoor
section
open Go.RowKit
open Vm
variable[Gl]
def rdE(L:List Lx.TA)(p:Nat):Ent:=.blk 76 [.list (L.map tokM),.int .i64 (p:Int)]
def wrV(q:Nat)(e:Int):Vm.V:=.iface 78 (.agg [.int .i64 (q:Int),.int .i64 e])
def outQ{α:Type}(L:List Lx.TA)(enc:α→Vm.V)(r:Qy.Rs α):Option Out:=match r with|.ok a q=>some (.ret (enc a),[rdE L q])|.stop q e=>some (.panic (wrV q e),[rdE L q])
@[simp] theorem outQ_ok {α:Type} (L:List Lx.TA) (enc:α→Vm.V) (a:α) (q:Nat):outQ L enc (.ok a q)=some (.ret (enc a),[rdE L q]):=rfl
@[simp] theorem outQ_stop {α:Type} (L:List Lx.TA) (enc:α→Vm.V) (e:Int) (q:Nat):outQ L enc (.stop q e)=some (.panic (wrV q e),[rdE L q]):=rfl
@[simp] theorem zaJ (L:List Lx.TA) (p:Nat):Ent.blk 76 [.list (L.map tokM),.int .i64 (p:Int)]=rdE L p:=rfl
@[simp] theorem qd_0 (L:List Lx.TA) (p:Nat):zad (rdE L p) 0=.list (L.map tokM):=rfl
@[simp] theorem qd_1 (L:List Lx.TA) (p:Nat):zad (rdE L p) 1=.int .i64 (p:Int):=rfl
theorem ckE_q{Z:Type}(L:List Lx.TA)(p:Nat)(A:Option Z):ckE 76 2 (rdE L p) A=A:=by
 unfold ckE rdE;dsimp only;rw[if_pos ⟨rfl,rfl,by simp[wfs,wf,zhd]⟩]
theorem q_of{α:Type}{L:List Lx.TA}{enc:α→Vm.V}{x:Qy.Rs α}{f:FuncId}{a:List Vm.V}{e:List Ent}{rs:List R}{σ:List (Nat×Nat)}{A:List LA}{r:Option Out}(hd:pr.D f=false)(ha:a.map argR=rs)(hA:pr.A f=(σ,A))(h:evF pr.P pr.G pr.ev lup σ 10 A f rs e=r)(hr:r=outQ L enc x):pr.ev f a e=outQ L enc x:=by
 cases x with
 |ok b q=>exact pr.of hd ha hA h hr
 |stop q er=>exact pr.of hd ha hA h hr
structure QL(L:List Lx.TA):Prop where
 len:L.length≤999000
 good:Good L
 cnt:∀p m e q,p≤L.length→Ex.run (L.map (·.1)) m (.lev 0) p=some (.ok [e] q)→Ex.count e≤900000
section
variable{Z:Type}{c:Orc}{g:FuncId}{args:List Vm.V}{L:List Lx.TA}{p q:Nat}{v:Vm.V}
theorem q_r(h:c g args [rdE L p]=some (.ret v,[rdE L q]))(Kp K:Vm.V→Ent→Option Z):cl1 c g args (rdE L p) 76 2 Kp K=K v (rdE L q):=by
 simp only[cl1,cal,h,nth,List.getD_cons_zero,ckE_q]
theorem q_p(h:c g args [rdE L p]=some (.panic v,[rdE L q]))(Kp K:Vm.V→Ent→Option Z):cl1 c g args (rdE L p) 76 2 Kp K=Kp v (rdE L q):=by
 simp only[cl1,cal,h,nth,List.getD_cons_zero,ckE_q]
theorem q_go{α:Type}{enc:α→Vm.V}{r:Qy.Rs α}{Kp K:Vm.V→Ent→Option Z}{X:Option Z}(h:c g args [rdE L p]=outQ L enc r)(hk:∀a q,r=.ok a q→K (enc a) (rdE L q)=X)(hs:∀q e,r=.stop q e→Kp (wrV q e) (rdE L q)=X):cl1 c g args (rdE L p) 76 2 Kp K=X:=by
 cases r with
 |ok a q=>rw[q_r h];exact hk a q rfl
 |stop q e=>rw[q_p h];exact hs q e rfl
end
section
variable{L:List Lx.TA}{p:Nat}(hL:L.length≤999000)(hp:p≤999900)
include hL hp
theorem m_qis(a:Nat)(ha:a≤2)(k:Int)(s:List UInt8)(hs:s≠[]):pr.ev 128 [.ptr 0 0,.int .i64 (a:Int),.int .i64 k,.str s] [rdE L p]=some (.ret (.bool (Ex.isT (L.map (·.1)) (p+a) k s)),[rdE L p]):=by
 refine pr.of rfl rfl rfl (ziP _ _ _ _ _ _ _ _) ?_;have hw:IntKind.wrap .i64 ((p:Int)+a)=((p+a:Nat):Int):=by rw[zcd (by omega) (by omega)];simp
 by_cases h:p+a<L.length
 ·have h1:¬ L.length≤p+a:=by omega
  have c0:∀t:Lx.TA,cell (tokM t) 0=.int .i64 t.1.kind:=fun _=>rfl;have c1:∀t:Lx.TA,cell (tokM t) 1=.str t.1.text:=fun _=>rfl;simp[-Int.natCast_add,zdv,hw,rtn,Ex.isT,h,h1, -zaJ,rdE,c0,c1,hs];by_cases h2:L[p+a].1.kind=k<;>simp[h2]
 ·have h1:L.length≤p+a:=by omega
  simp[-Int.natCast_add,zdv,hw,rtn,Ex.isT,h,h1, -zaJ,rdE]
theorem zsY(a:Nat)(ha:a≤2)(k:Int):pr.ev 128 [.ptr 0 0,.int .i64 (a:Int),.int .i64 k,.str []] [rdE L p]=some (.ret (.bool (Ex.isK (L.map (·.1)) (p+a) k)),[rdE L p]):=by
 refine pr.of rfl rfl rfl (ziP _ _ _ _ _ _ _ _) ?_;have hw:IntKind.wrap .i64 ((p:Int)+a)=((p+a:Nat):Int):=by rw[zcd (by omega) (by omega)];simp
 by_cases h:p+a<L.length
 ·have h1:¬ L.length≤p+a:=by omega
  have c0:∀t:Lx.TA,cell (tokM t) 0=.int .i64 t.1.kind:=fun _=>rfl;simp[-Int.natCast_add,zdv,hw,rtn,Ex.isK,h,h1, -zaJ,rdE,c0];by_cases h2:L[p+a].1.kind=k<;>simp[h2]
 ·have h1:L.length≤p+a:=by omega
  simp[-Int.natCast_add,zdv,hw,rtn,Ex.isK,h,h1, -zaJ,rdE]
omit hL hp in
theorem zmJ(e:Int):pr.ev 108 [.ptr 0 0,.int .i64 e] [rdE L p]=some (.panic (wrV p e),[rdE L p]):=by
 refine pr.of rfl rfl rfl (zla _ _ _ _ _ _) ?_;rfl
theorem m_qmay(k:Int)(s:List UInt8)(hs:s≠[]):pr.ev 107 [.ptr 0 0,.int .i64 k,.str s] [rdE L p]=some (.ret (.bool (Ex.isT (L.map (·.1)) p k s)),[rdE L (if Ex.isT (L.map (·.1)) p k s then p+1 else p)]):=by
 refine pr.of rfl rfl rfl (zh6 _ _ _ _ _ _ _) ?_;have h0:=m_qis hL hp 0 (by omega) k s hs;simp only[qa34,Nat.add_zero]at h0;cases h:Ex.isT (L.map (·.1)) p k s<;>simp[-Int.natCast_add,ze9,q_r h0,h,rtn,zbU (show p≤1000000 by omega)]
theorem m_qmayk(k:Int):pr.ev 107 [.ptr 0 0,.int .i64 k,.str []] [rdE L p]=some (.ret (.bool (Ex.isK (L.map (·.1)) p k)),[rdE L (if Ex.isK (L.map (·.1)) p k then p+1 else p)]):=by
 refine pr.of rfl rfl rfl (zh6 _ _ _ _ _ _ _) ?_;have h0:=zsY hL hp 0 (by omega) k;simp only[qa34,Nat.add_zero]at h0;cases h:Ex.isK (L.map (·.1)) p k<;>simp[-Int.natCast_add,ze9,q_r h0,h,rtn,zbU (show p≤1000000 by omega)]
theorem zyE(s:List UInt8)(hs:s≠[]):pr.ev 65 [.ptr 0 0,.str s] [rdE L p]=some (.ret (.bool (Ex.isT (L.map (·.1)) p 2 s)),[rdE L (if Ex.isT (L.map (·.1)) p 2 s then p+1 else p)]):=by
 refine pr.of rfl rfl rfl (zk4 _ _ _ _ _ _) ?_;simp[-Int.natCast_add,zgQ,q_r (m_qmay hL hp 2 s hs),rtn]
theorem zoR(s:List UInt8)(hs:s≠[]):pr.ev 66 [.ptr 0 0,.str s] [rdE L p]=outQ L (fun _=>.tup []) (Qy.must (L.map (·.1)) s p):=by
 refine q_of rfl rfl rfl (zk7 _ _ _ _ _ _) ?_;have h0:=zyE hL hp s hs;unfold Qy.must;cases h:Ex.isT (L.map (·.1)) p 2 s
 ·rw[h]at h0;simp[-Int.natCast_add,zeW,q_r h0,q_p (zmJ (L:=L) (p:=p) 20),pnk]
 ·rw[h]at h0;simp[-Int.natCast_add,zeW,q_r h0,rtn]
theorem zt9:pr.ev 129 [.ptr 0 0] [rdE L p]=outQ L .str (Qy.name (L.map (·.1)) p):=by
 refine q_of rfl rfl rfl (zk6 _ _ _ _ _) ?_;have h0:=m_qmayk hL hp 1;unfold Qy.name;unfold Ex.isK at h0;cases h:(L.map (·.1))[p]? with
 |none=>
  rw[h]at h0;simp[-Int.natCast_add,zdR,q_r h0,q_p (zmJ (L:=L) (p:=p) 20),pnk]
 |some t=>
  rw[h]at h0;by_cases hk:t.kind=1
  ·have hw:IntKind.wrap .i64 (((p+1:Nat):Int) - 1)=(p:Int):=by rw [zcd (by omega) (by omega)];omega
   simp only[hk,decide_true,qa60]at h0 ⊢;rw[qa24,Option.map_eq_some_iff]at h;obtain⟨ta,h2,rfl⟩:=h;simp[-Int.natCast_add,zdR,zd6,q_r h0,rtn,hw,h2]
  ·simp only[hk,decide_false,qb0]at h0 ⊢;simp[-Int.natCast_add,zdR,q_r h0,q_p (zmJ (L:=L) (p:=p) 20),pnk]
end
section
variable{Z:Type}{L:List Lx.TA}{p:Nat}(hL:L.length≤999000)(hp:p≤L.length){Kp K:Vm.V→Ent→Option Z}{X:Option Z}
include hL hp
theorem w_go{s:List UInt8}(hs:s≠[])(h1:Ex.isT (L.map (·.1)) p 2 s=true→p<L.length→K (.bool true) (rdE L (p+1))=X)(h0:Ex.isT (L.map (·.1)) p 2 s=false→K (.bool false) (rdE L p)=X):cl1 pr.ev 65 [.ptr 0 0,.str s] (rdE L p) 76 2 Kp K=X:=by
 rw[q_r (zyE hL (by omega) s hs)];cases ht:Ex.isT (L.map (·.1)) p 2 s
 ·exact h0 ht
 ·exact h1 ht (by simpa using Ex.isT_lt ht)
theorem zyt{k:Int}{s:List UInt8}(hs:s≠[])(h1:Ex.isT (L.map (·.1)) p k s=true→p<L.length→K (.bool true) (rdE L (p+1))=X)(h0:Ex.isT (L.map (·.1)) p k s=false→K (.bool false) (rdE L p)=X):cl1 pr.ev 107 [.ptr 0 0,.int .i64 k,.str s] (rdE L p) 76 2 Kp K=X:=by
 rw[q_r (m_qmay hL (by omega) k s hs)];cases ht:Ex.isT (L.map (·.1)) p k s
 ·exact h0 ht
 ·exact h1 ht (by simpa using Ex.isT_lt ht)
end
theorem zoS{L:List Lx.TA}{p:Nat}(hQ:QL L)(hp:p≤L.length):pr.ev 106 [.ptr 0 0] [rdE L p]=outQ L encE (Qy.exprR (L.map (·.1)) p):=by
 refine q_of rfl rfl rfl (zlb _ _ _ _ _) ?_;have hl:=hQ.len;have hp':p≤(L.map (·.1)).length:=by simpa using hp
 have wf:∀e q,cl1 pr.ev 108 [.ptr 0 0,.int .i64 e] (rdE L q) 76 2 (fun v8 v7=>pnk v8 [.blk 76 [(zad v7 0),(zad v7 1)]]) (fun v6 v7=>ckA 11 (agN 11 (encE Ex.e0)) (rtn (norm1 (agN 11 (encE Ex.e0))) [.blk 76 [(zad v7 0),(zad v7 1)]]))=some (.panic (wrV q e),[rdE L q]):=fun e q=>q_p (zmJ e) _ _;rcases Qy.exprR_run hp' with⟨e,q,h⟩|⟨q,h⟩
 ·have hP:=zyM (by omega) hQ.good hp h (fun e' q' he=>by cases he;exact hQ.cnt p _ _ _ hp h);simp only[parV]at hP;unfold Qy.exprR;rw[h];dsimp only;by_cases hd:Ex.deep e≤24
  ·rw[if_pos hd]at hP ⊢;simp[-Int.natCast_add,zdS,zaa hP,rtn]
  ·rw[if_neg hd]at hP ⊢;have:=wf 12 p;simp[-Int.natCast_add,zdS,zaa hP]at this ⊢;exact this
 ·have hP:=zyM (by omega) hQ.good hp h (fun e' q' he=>by cases he);simp only[parV]at hP;unfold Qy.exprR;rw[h];dsimp only;have:=wf 20 q;simp[-Int.natCast_add,zdS,zaa hP]at this ⊢;exact this
end
section
open Go.RowKit
open Vm
variable[Gl]
structure EncOk{α:Type}(z:Nat)(enc:α→Vm.V):Prop where
 nm:∀a,norm1 (enc a)=enc a
 ck:∀{Z:Type} a (A:Option Z),ckA z (enc a) A=A
 size:∀a,(enc a).size=z
def itC(x:Qy.Item):Vm.V:=.agg (expC x.e++[.str x.name,.bool x.star,.str x.table])
def frC(f:Qy.From):Vm.V:=.agg [.str f.table,.str f.as_,.int .i64 f.join,.list (f.on.map encE)]
def tmC(t:Qy.Term):Vm.V:=.agg (expC t.e++[.int .i64 t.coll,.bool t.desc])
def coC(c:Qy.Core):Vm.V:=.agg [.bool c.dist,.list (c.items.map itC),.list (c.from_.map frC),.list (c.wher.map encE),.list (c.having.map encE),.list (c.group.map encE)]
def seC(s:Qy.Sel):Vm.V:=.agg [.list (s.cores.map coC),.list (s.ops.map (.int .i64)),.list (s.order.map tmC),.list (s.lim.map encE),.list (s.off.map encE)]
theorem expC_mk(k:Int)(op:Ex.S)(v:Ex.V)(t n:Ex.S)(s:Int)(g d:Bool)(l:List Ex.E):expC (.mk k op v t n s g d l)=[.int .i64 k,.str op,.int .i64 v.1,.int .i64 v.2.1,.str v.2.2,.str t,.str n,.int .i64 s,.bool g,.bool d,.list (l.map encE)]:=by rw[expC];rfl
theorem zmO:EncOk 11 encE:=⟨zbw,fun e A=>za0 e A,zde⟩
theorem zm8:EncOk 14 itC:=by
 refine⟨fun a=>?_,fun a A=>?_,fun a=>?_⟩<;>obtain⟨⟨k,o,v,t,n,s,g,d,l⟩,m,st,tb⟩:=a<;>simp only[itC,expC_mk]
 ·rfl
 ·exact ckA_agg _ _ rfl rfl
 ·rfl
theorem zbr:EncOk 4 frC:=⟨fun _=>rfl,fun a A=>ckA_agg _ _ rfl rfl,fun _=>rfl⟩
theorem zmX:EncOk 13 tmC:=by
 refine⟨fun a=>?_,fun a A=>?_,fun a=>?_⟩<;>obtain⟨⟨k,o,v,t,n,s,g,d,l⟩,m,st⟩:=a<;>simp only[tmC,expC_mk]
 ·rfl
 ·exact ckA_agg _ _ rfl rfl
 ·rfl
theorem zdz:EncOk 6 coC:=⟨fun _=>rfl,fun a A=>ckA_agg _ _ rfl rfl,fun _=>rfl⟩
theorem seC_ok:EncOk 5 seC:=⟨fun _=>rfl,fun a A=>ckA_agg _ _ rfl rfl,fun _=>rfl⟩
@[simp] theorem zyZ (x:Qy.Item):norm1 (itC x)=itC x:=zm8.nm x
@[simp] theorem zue {Z:Type} (x:Qy.Item) (A:Option Z):ckA 14 (itC x) A=A:=zm8.ck x A
@[simp] theorem zxg (x:Qy.Term):norm1 (tmC x)=tmC x:=zmX.nm x
@[simp] theorem zsa {Z:Type} (x:Qy.Term) (A:Option Z):ckA 13 (tmC x) A=A:=zmX.ck x A
theorem zfI{α:Type}{z b:Nat}{enc:α→Vm.V}(he:EncOk z enc)(hb:b≤999)(acc:List α)(a:α)(h:acc.length≤999900):appV z b (.list (acc.map enc)) (.list [enc a])=some (.list ((acc++[a]).map enc)):=by
 have:=Nat.mul_le_mul (show acc.length+1≤1000000 by omega) (show b+1≤1000 by omega);rw[zjz z b _ _ (fun y hy=>by rw[qa22.1 hy];exact he.size a) (by simp;omega),qa43];rfl
def RdP(L:List Lx.TA){α:Type}(enc:α→Vm.V)(g:FuncId)(one:Qy.Rd α):Prop:=(∀p,p≤L.length→pr.ev g [.ptr 0 0] [rdE L p]=outQ L enc (one p))∧∀p,p≤(L.map (·.1)).length→Qy.In (L.map (·.1)).length (p+1) (one p)
def sevF(z b:Nat)(c:Orc)(s:List Vm.V):Option (Stp Out):=
 cl1 c 107 [(.ptr 0 0),(.int .i64 4),(.str [44])] (.blk 76 [(cell (gt s 1) 0),(cell (gt s 1) 1)]) 76 2 (fun v3 v2=>om (pnk v3 [.blk 76 [(zad v2 0),(zad v2 1)]])) fun v1 v2=>
 cnd v1 (cl1 c (fnG (gt s 0)) [(.ptr 0 0)] (.blk 76 [(zad v2 0),(zad v2 1)]) 76 2 (fun v6 v5=>om (pnk v6 [.blk 76 [(zad v5 0),(zad v5 1)]])) fun v4 v5=>
 ckA z (norm1 v4)<|
 (appV z b (gt s 2) (.list [(norm1 v4)])).bind fun v7=>
 some (.next [(.fn (fnG (gt s 0)) [] []),(.agg [(zad v5 0),(zad v5 1)]),v7]))
 (om (rtn (norm1 (gt s 2)) [.blk 76 [(zad v2 0),(zad v2 1)]]))
section
variable{L:List Lx.TA}{α:Type}{enc:α→Vm.V}{g:FuncId}{one:Qy.Rd α}{z b:Nat}(hL:L.length≤999000)(he:EncOk z enc)(hb:b≤999)(ho:RdP L enc g one)
include hL he hb ho
theorem zuQ:∀(n:Nat)(acc:List α)(p:Nat),p≤L.length→L.length+1≤n+p→acc.length≤p →
  lup Out (sevF z b pr.ev) [.fn g [] [],.agg [.list (L.map tokM),.int .i64 p],.list (acc.map enc)]=outQ L (fun l=>.list (l.map enc)) (Qy.sev (L.map (·.1)) one n acc p)
 |0,_,p,hp,hn,_=>by omega
 |n+1,acc,p,hp,hn,ha=>by
  rw[zan,Qy.sev];have key:sevF z b pr.ev [.fn g [] [],.agg [.list (L.map tokM),.int .i64 p],.list (acc.map enc)]=(if Ex.isT (L.map (·.1)) p 4 Ex.zdH=true then (match one (p+1) with
    |.ok a q=>some (.next [.fn g [] [],.agg [.list (L.map tokM),.int .i64 q],.list ((acc++[a]).map enc)])
    |.stop q e=>some (.out (.panic (wrV q e),[rdE L q])))else some (.out (.ret (.list (acc.map enc)),[rdE L p]))):=by
   refine zyt hL hp (s:=Ex.zdH) (by decide) (fun h hlt=>?_) fun h=>?_
   ·have hc:=ho.1 (p+1) hlt;rw[if_pos h];simp only[cnd,qd_0,qd_1,zaJ,gt_0,gt_s,fnG];refine q_go hc (fun a q hq=>?_) fun q e hq=>?_
    ·rw[hq];simp[-Int.natCast_add, -List.map_append,fnG,he.nm,he.ck,zfI he hb acc a (by omega)]
    ·rw[hq];rfl
   ·rw[if_neg (by rw[h];decide)];rfl
  rw[key];by_cases h:Ex.isT (L.map (·.1)) p 4 Ex.zdH=true
  ·rw[if_pos h,if_pos h];have hlt:p<L.length:=by simpa using Ex.isT_lt h
   have hi:=ho.2 (p+1) (by simp;omega);cases hq:one (p+1)with
   |ok a q=>
    rw[hq]at hi;have hq2:p+1+1≤q∧q≤L.length:=by simpa[Qy.In]using hi
    exact zuQ n (acc++[a]) q hq2.2 (by omega) (by simp;omega)
   |stop q e=>rfl
  ·rw[if_neg h,if_neg h];rfl
theorem ztG{p:Nat}(hp:p≤L.length):cl1 pr.ev g [(.ptr 0 0)] (rdE L p) 76 2 (fun v3 v2=>pnk v3 [.blk 76 [(zad v2 0),(zad v2 1)]]) (fun v1 v2=>
  ckA z (norm1 v1)<|lup Out (sevF z b pr.ev) [(.fn g [] []),(.agg [(zad v2 0),(zad v2 1)]),(.list [(norm1 v1)])])=outQ L (fun l=>.list (l.map enc)) (Qy.several (L.map (·.1)) one p):=by
 have hc:=ho.1 p hp;have hi:=ho.2 p (by simpa using hp);unfold Qy.several;cases hq:one p with
 |ok a q=>
  rw[hq]at hc hi;have hq2:p+1≤q∧q≤L.length:=by simpa[Qy.In]using hi
  have h:=zuQ hL he hb ho ((L.map (·.1)).length+1) [a] q hq2.2 (by simp) (by simp;omega);simp only[qb3]at h;rw[q_r hc];simp only[qd_0,qd_1,he.nm,he.ck,Qy.bind_ok];exact h
 |stop q e=>
  rw[hq]at hc;rw[q_p hc];simp[pnk]
end
theorem m_sevI{L:List Lx.TA}{g:FuncId}{one:Qy.Rd Qy.Item}{p:Nat}(hL:L.length≤999000)(ho:RdP L itC g one)(hp:p≤L.length):pr.ev 102 [.ptr 0 0,.fn g [.ptr 0 0] []] [rdE L p]=outQ L (fun l=>.list (l.map itC)) (Qy.several (L.map (·.1)) one p):=by
 refine q_of rfl rfl rfl (zis _ _ _ _ _ _) ?_;exact ztG hL zm8 (b:=168) (by omega) ho hp
theorem m_sevE{L:List Lx.TA}{g:FuncId}{one:Qy.Rd Ex.E}{p:Nat}(hL:L.length≤999000)(ho:RdP L encE g one)(hp:p≤L.length):pr.ev 105 [.ptr 0 0,.fn g [.ptr 0 0] []] [rdE L p]=outQ L (fun l=>.list (l.map encE)) (Qy.several (L.map (·.1)) one p):=by
 refine q_of rfl rfl rfl (zit _ _ _ _ _ _) ?_;exact ztG hL zmO (b:=128) (by omega) ho hp
theorem m_sevT{L:List Lx.TA}{g:FuncId}{one:Qy.Rd Qy.Term}{p:Nat}(hL:L.length≤999000)(ho:RdP L tmC g one)(hp:p≤L.length):pr.ev 67 [.ptr 0 0,.fn g [.ptr 0 0] []] [rdE L p]=outQ L (fun l=>.list (l.map tmC)) (Qy.several (L.map (·.1)) one p):=by
 refine q_of rfl rfl rfl (zir _ _ _ _ _ _) ?_;exact ztG hL zmX (b:=144) (by omega) ho hp
end
section
open Go.RowKit
open Vm
variable[Gl]
theorem zuf(e:Ex.E)(n t:List UInt8)(b:Bool):Vm.V.agg [cell (encE e) 0,cell (encE e) 1,cell (encE e) 2,cell (encE e) 3,cell (encE e) 4,cell (encE e) 5,cell (encE e) 6,cell (encE e) 7,cell (encE e) 8,cell (encE e) 9,cell (encE e) 10,.str n,.bool b,.str t]=itC ⟨e,n,b,t⟩:=by
 cases e;simp only[itC,enc_mk,expC_mk];rfl
theorem zxi(e:Ex.E)(c:Int)(b:Bool):Vm.V.agg [cell (encE e) 0,cell (encE e) 1,cell (encE e) 2,cell (encE e) 3,cell (encE e) 4,cell (encE e) 5,cell (encE e) 6,cell (encE e) 7,cell (encE e) 8,cell (encE e) 9,cell (encE e) 10,.int .i64 c,.bool b]=tmC ⟨e,c,b⟩:=by
 cases e;simp only[tmC,enc_mk,expC_mk];rfl
theorem znS(t:List UInt8):Vm.V.agg [.int .i64 0,.str [],.int .i64 0,.int .i64 0,.str [],.str [],.str [],.int .i64 0,.bool false,.bool false,.list [],.str [],.bool true,.str t]=itC ⟨Ex.e0,[],true,t⟩:=by
 simp only[itC,Ex.e0,expC_mk];rfl
section
variable{L:List Lx.TA}{p:Nat}(hQ:QL L)(hp:p≤L.length)
include hQ hp
theorem znO{s:List UInt8}(hs:s≠[]):pr.ev 69 [.ptr 0 0,.str s] [rdE L p]=outQ L (fun l=>.list (l.map encE)) (Qy.maybe (L.map (·.1)) (Qy.exprR (L.map (·.1))) s p):=by
 refine q_of rfl rfl rfl (zkH _ _ _ _ _ _) ?_;unfold Qy.maybe;delta zjH;dsimp only;refine w_go hQ.len hp hs (fun h hlt=>?_) fun h=>?_
 ·rw[if_pos h];simp only[zgH,qa31,Bool.not_true,cnd,qd_0,qd_1,zaJ];refine q_go (zoS hQ hlt) (fun e q hq=>?_) fun q e hq=>?_
  ·rw[hq];simp[-Int.natCast_add,rtn]
  ·rw[hq];rfl
 ·rw[if_neg (by rw[h];decide)];rfl
theorem m_qitem:pr.ev 103 [.ptr 0 0] [rdE L p]=outQ L itC (Qy.item (L.map (·.1)) (Qy.exprR (L.map (·.1))) p):=by
 refine q_of rfl rfl rfl (zk9 _ _ _ _ _) ?_;have hl:=hQ.len;have fin:(Ex.isK (L.map (·.1)) p 1 && (Ex.isT (L.map (·.1)) (p+1) 4 Ex.mDot && Ex.isT (L.map (·.1)) (p+2) 4 Ex.zem))=false→Ex.isT (L.map (·.1)) p 4 Ex.zem=false →
   zbn pr.ev lup (.bool false) (.agg [.list (L.map tokM),.int .i64 p])=outQ L itC (Qy.item (L.map (·.1)) (Qy.exprR (L.map (·.1))) p):=by
  intro hb h0;unfold Qy.item;rw[if_neg (by rw[h0];decide),if_neg (by rw[hb];decide)];simp only[zbn,cnd,zbS,qb4,zaJ];refine q_go (zoS hQ hp) (fun e q hq=>?_) fun q e hq=>?_
  ·rw[hq];have hq1:=Qy.exprR_in (L:=L.map (·.1)) (p:=p) (by simpa using hp);rw[hq]at hq1;have hq2:q≤L.length:=by simpa[Qy.In]using hq1.2
   simp only[za0,Qy.bind_ok,zuf,zue,qd_0,qd_1,zaJ];refine w_go hl hq2 (s:=Ex.wAs) (by decide) (fun h hlt=>?_) fun h=>?_
   ·rw[if_pos h];simp only[cnd,qd_0,qd_1,zaJ];refine q_go (zt9 hl (by omega)) (fun n r hn=>?_) fun r e hn=>?_
    ·rw[hn];simp[-Int.natCast_add,rtn,zuf]
    ·rw[hn];rfl
   ·rw [if_neg (by rw [h];decide)];simp[-Int.natCast_add,rtn]
  ·rw[hq];rfl
 delta zkw;dsimp only;refine zyt hl hp (s:=Ex.zem) (by decide) (fun h hlt=>?_) fun h0=>?_
 ·unfold Qy.item;rw[if_pos h];simp[-Int.natCast_add,rtn,znS]
 ·simp only[cnd,qd_0,qd_1,zaJ];have i0:=zsY hl (show p≤999900 by omega) 0 (by omega) 1;simp only[qa34,Nat.add_zero]at i0;rw[q_r i0];cases b0:Ex.isK (L.map (·.1)) p 1
  ·simp only[cnd,qd_0,qd_1];exact fin (by rw[b0];rfl) h0
  ·simp only[cnd,qd_0,qd_1,zaJ];have i1:pr.ev 128 [.ptr 0 0,.int .i64 1,.int .i64 4,.str [46]] [rdE L p]=_:=m_qis hl (show p≤999900 by omega) 1 (by omega) 4 Ex.mDot (by decide);rw[q_r i1];cases b1:Ex.isT (L.map (·.1)) (p+1) 4 Ex.mDot
   ·simp only[cnd,qd_0,qd_1];exact fin (by rw[b0,b1];rfl) h0
   ·simp only[cnd,qd_0,qd_1,zaJ];have i2:pr.ev 128 [.ptr 0 0,.int .i64 2,.int .i64 4,.str [42]] [rdE L p]=_:=m_qis hl (show p≤999900 by omega) 2 (by omega) 4 Ex.zem (by decide);rw[q_r i2];cases b2:Ex.isT (L.map (·.1)) (p+2) 4 Ex.zem
    ·simp only[qd_0,qd_1];exact fin (by rw[b0,b1,b2];rfl) h0
    ·have hlt:=Ex.isT_lt b2;rw[qa44]at hlt;unfold Qy.item;rw[if_neg (by rw[h0];decide),if_pos (by rw[b0,b1,b2];rfl)];have hw:IntKind.wrap .i64 ((p:Int)+3)=((p+3:Nat):Int):=by rw[zcd (by omega) (by omega)];simp
     have hw2:IntKind.wrap .i64 (((p+3:Nat):Int)-3)=(p:Int):=by rw[zcd (by omega) (by omega)];omega
     have ht:L[p]?=some L[p]:=qa11 (by omega);have hx:Qy.txt (L.map (·.1)) p=L[p].1.text:=by unfold Qy.txt;rw[qa24,ht];rfl
     simp[-Int.natCast_add,zbn,hw,hw2,ht,rtn,ckA_agg,znS,hx]
theorem zvq(m:Nat)(hm:m≤1000000)(j:Int):pr.ev 130 [.ptr 0 0,.int .i64 (m:Int),.int .i64 j] [rdE L p]=outQ L frC (Qy.table (L.map (·.1)) m j p):=by
 refine q_of rfl rfl rfl (zkF _ _ _ _ _ _ _) ?_;have hl:=hQ.len;have fin:(decide (6≤m) && Ex.isK (L.map (·.1)) p 1)=false→zcL pr.ev lup (.int .i64 j) (.agg [.list (L.map tokM),.int .i64 p])=outQ L frC (Qy.table (L.map (·.1)) m j p):=by
  intro hb;unfold Qy.table;rw[if_neg (by rw[hb];decide)];simp only[zcL,zbS,qb4,zaJ];refine q_go (zt9 hl (by omega)) (fun n q hq=>?_) fun q e hq=>?_
  ·rw[hq];have hq1:=Qy.name_in (L:=L.map (·.1)) (p:=p) (by simpa using hp);rw[hq]at hq1;have hq2:q≤L.length:=by simpa[Qy.In]using hq1.2
   simp only[ztp,zpz,Qy.bind_ok,qd_0,qd_1,zaJ];rw[show ∀(A:Option Out),ckA 4 (.agg [.str n,.str n,.int .i64 j,.nils]) A=A from fun A=>ckA_agg _ _ rfl rfl];refine w_go hl hq2 (s:=Ex.wAs) (by decide) (fun h hlt=>?_) fun h=>?_
   ·rw[if_pos h];simp only[cnd,qd_0,qd_1,zaJ];refine q_go (zt9 hl (by omega)) (fun n r hn=>?_) fun r e hn=>?_
    ·rw[hn];simp[-Int.natCast_add,rtn,ckA_agg,frC]
    ·rw[hn];rfl
   ·rw [if_neg (by rw [h];decide)];simp[-Int.natCast_add,rtn,ckA_agg,frC]
  ·rw[hq];rfl
 by_cases h6:6≤m
 ·have h6i:(6:Int)≤(m:Int):=by omega
  have i0:=zsY hl (show p≤999900 by omega) 0 (by omega) 1;simp only[qa34,Nat.add_zero]at i0;cases b0:Ex.isK (L.map (·.1)) p 1
  ·rw[b0]at i0;simp[-Int.natCast_add,zdu,zbP,h6i,q_r i0];exact fin (by rw[b0];simp)
  ·rw[b0]at i0;have hx:Qy.table (L.map (·.1)) m j p=.stop p 3:=by unfold Qy.table;rw[if_pos (by rw[b0];simpa using h6)]
   rw[hx];simp[-Int.natCast_add,zdu,zbP,h6i,q_r i0,q_p (zmJ (L:=L) (p:=p) 3),pnk]
 ·have h6i:¬ (6:Int)≤(m:Int):=by omega
  simp[-Int.natCast_add,zdu,zbP,h6i];have:=fin (by simp;omega);exact this
def joV(j:Option Int):Vm.V:=match j with|some k=>.tup [.int .i64 k,.bool true]|none=>.tup [.int .i64 0,.bool false]
theorem m_qjoin:pr.ev 131 [.ptr 0 0] [rdE L p]=outQ L joV (Qy.join (L.map (·.1)) p):=by
 refine q_of rfl rfl rfl (zk8 _ _ _ _ _) ?_;have hl:=hQ.len;unfold Qy.join;delta zkv;dsimp only;refine zyt hl hp (s:=Ex.zdH) (by decide) (fun h hlt=>?_) fun h0=>?_
 ·rw[if_pos h];rfl
 rw[if_neg (by rw[h0];decide)];simp only[cnd,qd_0,qd_1,zaJ];have mj:∀{j:Int} {K:Option Out},p<L.length→K=(cl1 pr.ev 66 [.ptr 0 0,.str [106,111,105,110]] (rdE L (p+1)) 76 2 (fun v9 v8=>pnk v9 [.blk 76 [(zad v8 0),(zad v8 1)]]) fun v7 v8=>rtn (.tup [(.int .i64 j),(.bool true)]) [.blk 76 [(zad v8 0),(zad v8 1)]]) →
   K=outQ L joV ((Qy.must (L.map (·.1)) Qy.wJoin (p+1)).bind fun _ q=>.ok (some j) q):=fun{j K} hlt hK=>by
  rw[hK];refine q_go (zoR hl (show p+1≤999900 by omega) Qy.wJoin (by decide)) (fun a q hq=>?_) fun q e hq=>?_
  ·rw[hq];rfl
  ·rw[hq];rfl
 refine w_go hl hp (s:=Qy.wCross) (by decide) (fun h hlt=>?_) fun h1=>?_
 ·rw[if_pos h];simp only[cnd,qd_0,qd_1,zaJ];exact mj hlt rfl
 rw[if_neg (by rw[h1];decide)];simp only[cnd,qd_0,qd_1,zaJ];refine w_go hl hp (s:=Qy.wInner) (by decide) (fun h hlt=>?_) fun h2=>?_
 ·rw[if_pos h];simp only[cnd,qd_0,qd_1,zaJ];exact mj hlt rfl
 rw[if_neg (by rw[h2];decide)];simp only[cnd,qd_0,qd_1,zaJ];refine w_go hl hp (s:=Qy.wLeft) (by decide) (fun h hlt=>?_) fun h3=>?_
 ·rw[if_pos h];simp only[cnd,qd_0,qd_1,zaJ];exact mj hlt rfl
 rw[if_neg (by rw[h3];decide)];simp only[cnd,qd_0,qd_1,zaJ];refine w_go hl hp (s:=Qy.wJoin) (by decide) (fun h hlt=>?_) fun h4=>?_
 ·rw[if_pos h];rfl
 ·rw[if_neg (by rw[h4];decide)];rfl
end
end
section
open Go.RowKit
open Vm
variable[Gl]
theorem zdD{α:Type}{L:List Lx.TA}{lo q:Nat}{a:α}(h:Qy.In (L.map (·.1)).length lo (.ok a q)):lo≤q∧q≤L.length:=by simpa[Qy.In]using h
theorem zcO{L:List Lx.TA}{p:Nat}(hp:p≤L.length):p≤(L.map (·.1)).length:=by simpa using hp
theorem zd2{L:List Lx.TA}:∀p,p≤(L.map (·.1)).length→Qy.In (L.map (·.1)).length (p+1) (Qy.exprR (L.map (·.1)) p):=fun p hp=>Qy.exprR_in hp
def frL(l:List Qy.From):Vm.V:=.list (l.map frC)
section
variable{L:List Lx.TA}(hQ:QL L)
include hQ
theorem zn9:∀(n:Nat)(acc:List Qy.From)(p:Nat),p≤L.length→L.length+1≤n+p→acc.length≤p →
  lup Out (zaA pr.ev lup) [.agg [.list (L.map tokM),.int .i64 p],frL acc]=outQ L frL (Qy.tabs (L.map (·.1)) (Qy.exprR (L.map (·.1))) n acc p)
 |0,_,p,hp,hn,_=>by omega
 |n+1,acc,p,hp,hn,ha=>by
  have hl:=hQ.len;have hj:=m_qjoin hQ hp;have ij:=Qy.join_in (zcO hp);rw[zan,Qy.tabs];cases hjq:Qy.join (L.map (·.1)) p with
  |stop q e=>
   rw[hjq]at hj;simp[-Int.natCast_add,zaA,q_p hj,pnk]
  |ok j q=>
   rw[hjq]at hj ij;obtain⟨h1,h2⟩:=zdD ij;cases j with
   |none=>simp[-Int.natCast_add,zaA,q_r hj,joV,rtn,frL]
   |some k=>
    have ht:=zvq hQ h2 acc.length (by omega) k;have it:=Qy.table_in (L:=L.map (·.1)) acc.length k (zcO h2);rw[Qy.bind_ok];dsimp only;cases htq:Qy.table (L.map (·.1)) acc.length k q with
    |stop r e=>
     rw[htq]at ht;simp[-Int.natCast_add,zaA,q_r hj,q_p ht,joV,pnk,frL]
    |ok f r=>
     rw[htq]at ht it;obtain⟨h3,h4⟩:=zdD it;rw[Qy.bind_ok];have c0:∀x y:Vm.V,cell (frC f) 0=.str f.table:=fun _ _=>rfl;by_cases hk:k=0
     ·subst hk;rw[if_pos rfl];have ih:=zn9 n (acc++[f]) r h4 (by omega) (by simp;omega);simp only[frL]at ih;have hap:=zfI (b:=64) zbr (by omega) acc f (by omega);have hfc:norm1 (.agg [cell (frC f) 0,cell (frC f) 1,cell (frC f) 2,cell (frC f) 3])=frC f:=rfl;simp[-Int.natCast_add, -List.map_append, -nm_a,zaA,zck,q_r hj,q_r ht,joV,frL,zbr.ck,hfc,hap,ih]
     ·rw[if_neg hk];have hm:=zoR hl (show r≤999900 by omega) Qy.wOn (by decide);have im:=Qy.must_in (L:=L.map (·.1)) Qy.wOn (zcO h4);cases hmq:Qy.must (L.map (·.1)) Qy.wOn r with
      |stop r2 e=>
       rw[hmq]at hm;simp only[Qy.wOn]at hm;simp[-Int.natCast_add,zaA,q_r hj,q_r ht,q_p hm,joV,hk,pnk,frL,zbr.ck]
      |ok u r2=>
       rw[hmq]at hm im;simp only[Qy.wOn]at hm;obtain⟨h5,h6⟩:=zdD im;have he:=zoS hQ h6;have ie:=Qy.exprR_in (zcO h6);rw[Qy.bind_ok];cases heq:Qy.exprR (L.map (·.1)) r2 with
       |stop r3 e=>
        rw[heq]at he;simp[-Int.natCast_add,zaA,q_r hj,q_r ht,q_r hm,q_p he,joV,hk,pnk,frL,zbr.ck]
       |ok x r3=>
        rw[heq]at he ie;obtain⟨h7,h8⟩:=zdD ie;rw[Qy.bind_ok];have ih:=zn9 n (acc++[⟨f.table,f.as_,f.join,[x]⟩]) r3 h8 (by omega) (by simp;omega);simp only[frL]at ih;have hap:=zfI (b:=64) zbr (by omega) acc ⟨f.table,f.as_,f.join,[x]⟩ (by omega);have hfc:norm1 (.agg [cell (frC f) 0,cell (frC f) 1,cell (frC f) 2,.list [encE x]])=frC ⟨f.table,f.as_,f.join,[x]⟩:=rfl;simp[-Int.natCast_add, -List.map_append, -nm_a,zaA,zck,q_r hj,q_r ht,q_r hm,q_r he,joV,hk,frL,zbr.ck,hfc,hap,ih]
theorem zyF{p:Nat}(hp:p≤L.length):pr.ev 104 [.ptr 0 0] [rdE L p]=outQ L frL (Qy.tables (L.map (·.1)) (Qy.exprR (L.map (·.1))) p):=by
 refine q_of rfl rfl rfl (zjP _ _ _ _ _) ?_;unfold Qy.tables;have ht:=zvq hQ hp 0 (by omega) 0;have it:=Qy.table_in (L:=L.map (·.1)) 0 0 (zcO hp);simp only[qa34]at ht;delta zjq;dsimp only;refine q_go ht (fun f q hq=>?_) fun q e hq=>?_
 ·rw[hq]at it ⊢;obtain⟨h1,h2⟩:=zdD it;have h:=zn9 hQ ((L.map (·.1)).length+1) [f] q h2 (by simp) (by simp;omega);simp only[frL,qb3]at h;simp only[zbr.nm,zbr.ck,qd_0,qd_1,Qy.bind_ok];exact h
 ·rw[hq];rfl
theorem m_qcoll{p:Nat}(hp:p≤L.length):pr.ev 109 [.ptr 0 0] [rdE L p]=outQ L (.int .i64) (Qy.coll (L.map (·.1)) p):=by
 refine q_of rfl rfl rfl (zld _ _ _ _ _) ?_;have hl:=hQ.len;have k2:=zsY hl (show p≤999900 by omega) 0 (by omega) 2;have k1:=zsY hl (show p≤999900 by omega) 0 (by omega) 1;simp only[qa34,Nat.add_zero]at k1 k2;have e0:elV 1 (.list [(.str [98,105,110,97,114,121]),(.str [110,111,99,97,115,101])]) (.int .i64 0)=some (.str [98,105,110,97,114,121]):=rfl;have e1:elV 1 (.list [(.str [98,105,110,97,114,121]),(.str [110,111,99,97,115,101])]) (.int .i64 1)=some (.str [110,111,99,97,115,101]):=rfl;have ld:∀s:List UInt8,ldV false 1 (.str s) 0=some (.str s):=fun _=>rfl;have hw:IntKind.wrap .i64 (p+1)=((p+1:Nat):Int):=zbU (by omega);have w1:IntKind.wrap .i64 (0+1)=1:=rfl;have w2:IntKind.wrap .i64 (1+1)=2:=rfl;have r1:∀n:Int,eqS oeq (.next [.int .i64 2,.int .i64 n,.agg [.list (L.map tokM),.int .i64 p],.list [(.str [98,105,110,97,114,121]),(.str [110,111,99,97,115,101])]]) (.next [.int .i64 2,.int .i64 n,.agg [.list (L.map tokM),.int .i64 p],.list [(.str [98,105,110,97,114,121]),(.str [110,111,99,97,115,101])]])=true:=fun n=>zdm (by simp[wfs,wf,zhd]);have r2:∀n:Int,eqS oeq (.out (.ret (.int .i64 n),[rdE L (p+1)])) (.out (.ret (.int .i64 n),[rdE L (p+1)]))=true:=fun n=>by
  have h1:veqs (L.map tokM) (L.map tokM)=true:=zdm (zhd L);simp[eqS,oeq,eeqs,eeq,rdE, -zaJ,veqs,veq,h1]
 have rd:∀(n:Nat)(b:Bool)(w:List UInt8),((n=0∧w=Qy.wBinary)∨(n=1∧w=Qy.wNocase))→(match L[p]? with|some t=>(decide (t.1.kind=2) || decide (t.1.kind=1)) && Lx.fold t.1.text==w|none=>false)=b →
   zat pr.ev lup [.int .i64 2,.int .i64 n,.agg [.list (L.map tokM),.int .i64 p],.list [(.str [98,105,110,97,114,121]),(.str [110,111,99,97,115,101])]] =
    if b then some (.out (.ret (.int .i64 n),[rdE L (p+1)]))else some (.next [.int .i64 2,.int .i64 ((n+1:Nat):Int),.agg [.list (L.map tokM),.int .i64 p],.list [(.str [98,105,110,97,114,121]),(.str [110,111,99,97,115,101])]]):=by
  intro n b w hn hb;have hn2:(n:Int)<2:=by rcases hn with⟨rfl,_⟩|⟨rfl,_⟩<;>decide
  have el:elV 1 (.list [(.str [98,105,110,97,114,121]),(.str [110,111,99,97,115,101])]) (.int .i64 n)=some (.str w):=by rcases hn with⟨rfl,rfl⟩|⟨rfl,rfl⟩<;>rfl
  have hs:=zbU (p:=n) (by omega);unfold Ex.isK at k1 k2;cases h:L[p]? with
  |none=>
   rw[h]at hb;subst hb;have h1:¬p<L.length:=by simpa using h
   simp[-Int.natCast_add,zat,zaB,hn2,el,ld,h1,hs,ag,zg2,r1]
  |some t=>
   rw[h]at hb;dsimp only at hb;obtain⟨h1,ht2⟩:=qa9.1 h;rw[qa24,h]at k1 k2;dsimp only[Option.map]at k1 k2;have ht:t.1.text.length≤1000000:=(hQ.good p t h).1;have hf:=zuj ht;by_cases t2:t.1.kind=2
   ·simp only[t2,decide_true]at k2;cases b
    ·have hw:¬ Lx.fold t.1.text=w:=by simpa [t2] using hb
     simp[-Int.natCast_add,zat,zaB,hn2,el,ld,h1,q_r k2,ht2,zaa hf,hs,hw,ag,zg2,r1]
    ·have hw':Lx.fold t.1.text=w:=by simpa [t2] using hb
     simp[-Int.natCast_add,zat,zaB,hn2,el,ld,h1,q_r k2,ht2,zaa hf,hw,hw',rtn,hs,om,ag,zg2,r2]
   ·simp only[t2,decide_false]at k2;by_cases t1:t.1.kind=1
    ·simp only[t1,decide_true]at k1;cases b
     ·have hw:¬ Lx.fold t.1.text=w:=by simpa [t1] using hb
      simp[-Int.natCast_add,zat,zaB,hn2,el,ld,h1,q_r k2,q_r k1,ht2,zaa hf,hs,hw,ag,zg2,r1]
     ·have hw':Lx.fold t.1.text=w:=by simpa [t1] using hb
      simp[-Int.natCast_add,zat,zaB,hn2,el,ld,h1,q_r k2,q_r k1,ht2,zaa hf,hw,hw',rtn,hs,om,ag,zg2,r2]
    ·simp only[t1,decide_false]at k1;have hb':b=false:=by simpa[t1,t2]using hb.symm
     subst hb';simp[-Int.natCast_add,zat,zaB,hn2,el,ld,h1,q_r k2,q_r k1,h,hs,ag,zg2,r1]
 have r0:=rd 0 _ _ (.inl ⟨rfl,rfl⟩) rfl;have r1':=rd 1 _ _ (.inr ⟨rfl,rfl⟩) rfl;have l2:lup Out (zat pr.ev lup) [.int .i64 2,.int .i64 2,.agg [.list (L.map tokM),.int .i64 p],.list [(.str [98,105,110,97,114,121]),(.str [110,111,99,97,115,101])]]=some (.panic (wrV p 20),[rdE L p]):=by
  rw[zan];simp[-Int.natCast_add,zat,zfz,q_p (zmJ (L:=L) (p:=p) 20),pnk]
 show(lenL _).bind _=_;simp only[zm7,qa31,qa30,qa40];show lup Out (zat pr.ev lup) [.int .i64 2,.int .i64 ((0:Nat):Int),.agg [.list (L.map tokM),.int .i64 p],_]=_;unfold Qy.coll;rw[zan,r0,qa24];cases h:L[p]? with
 |none=>
  rw[h]at r1';simp only[Option.map_none,qb0,zce]at r1' ⊢;rw[zan,r1'];exact l2
 |some t=>
  rw[h]at r1';simp only[qa46];by_cases b0:((decide (t.1.kind=2) || decide (t.1.kind=1)) && Lx.fold t.1.text==Qy.wBinary)=true
  ·rw[if_pos b0,if_pos b0];rfl
  ·rw[if_neg b0,if_neg b0,zce,zan,r1'];by_cases b1:((decide (t.1.kind=2) || decide (t.1.kind=1)) && Lx.fold t.1.text==Qy.wNocase)=true
   ·rw[if_pos b1,if_pos b1];rfl
   ·rw[if_neg b1,if_neg b1];exact l2
theorem m_qdir{e:Ex.E}{c:Int}{p:Nat}(hp:p≤L.length):zc2 pr.ev lup (.agg [.list (L.map tokM),.int .i64 p]) (tmC ⟨e,c,false⟩)=outQ L tmC (Qy.dir (L.map (·.1)) e c p):=by
 have hl:=hQ.len;unfold Qy.dir;simp only[zc2,zbS,qb4,zaJ];have hx:∀b:Bool,Vm.V.agg [cell (tmC ⟨e,c,false⟩) 0,cell (tmC ⟨e,c,false⟩) 1,cell (tmC ⟨e,c,false⟩) 2,cell (tmC ⟨e,c,false⟩) 3,cell (tmC ⟨e,c,false⟩) 4,cell (tmC ⟨e,c,false⟩) 5,cell (tmC ⟨e,c,false⟩) 6,cell (tmC ⟨e,c,false⟩) 7,cell (tmC ⟨e,c,false⟩) 8,cell (tmC ⟨e,c,false⟩) 9,cell (tmC ⟨e,c,false⟩) 10,cell (tmC ⟨e,c,false⟩) 11,.bool b]=tmC ⟨e,c,b⟩:=fun b=>by
  cases e;simp only[tmC,expC_mk];rfl
 have ha:agN 13 (tmC ⟨e,c,false⟩)=tmC ⟨e,c,false⟩:=by cases e;simp only[tmC,expC_mk];rfl
 refine w_go hl hp (s:=Qy.wAsc) (by decide) (fun h hlt=>?_) fun h0=>?_
 ·rw[if_pos h];simp[-Int.natCast_add,rtn,ha]
 ·rw [if_neg (by rw [h0];decide)];simp only[zgH,qa31,qa50,cnd,qd_0,qd_1,zaJ];refine w_go hl hp (s:=Qy.wDesc) (by decide) (fun h hlt=>?_) fun h0=>?_
  ·rw[if_pos h];simp[-Int.natCast_add,rtn,hx]
  ·rw[if_neg (by rw[h0];decide)];simp[-Int.natCast_add,rtn,hx]
theorem m_qterm{p:Nat}(hp:p≤L.length):pr.ev 68 [.ptr 0 0] [rdE L p]=outQ L tmC (Qy.term (L.map (·.1)) (Qy.exprR (L.map (·.1))) p):=by
 refine q_of rfl rfl rfl (zk5 _ _ _ _ _) ?_;have hl:=hQ.len;unfold Qy.term;delta zku;dsimp only;refine q_go (zoS hQ hp) (fun e q hq=>?_) fun q e hq=>?_
 ·rw[hq];have iq:=zd2 (L:=L) p (zcO hp);rw[hq]at iq;obtain⟨h1,h2⟩:=zdD iq;simp only[za0,zxi,zsa,Qy.bind_ok,qd_0,qd_1,zaJ];refine w_go hl h2 (s:=Qy.wCollate) (by decide) (fun h hlt=>?_) fun h0=>?_
  ·rw[if_pos h];simp only[cnd,qd_0,qd_1,zaJ];refine q_go (m_qcoll hQ (p:=q+1) (by omega)) (fun c r hc=>?_) fun r er hc=>?_
   ·have ic:=Qy.coll_in (L:=L.map (·.1)) (p:=q+1) (by rw [qa44];omega);rw[hc]at ic ⊢;simp only[zpz,zxi,qd_0,qd_1,Qy.bind_ok];exact m_qdir hQ (zdD ic).2
   ·rw[hc];rfl
  ·rw [if_neg (by rw [h0];decide)];exact m_qdir hQ h2
 ·rw[hq];rfl
def beV(o:Option Int):Vm.V:=match o with|some k=>.tup [.int .i64 k,.bool true]|none=>.tup [.int .i64 0,.bool false]
theorem zwv{p:Nat}(hp:p≤L.length):pr.ev 64 [.ptr 0 0] [rdE L p]=some (.ret (beV (Qy.between (L.map (·.1)) p).1),[rdE L (Qy.between (L.map (·.1)) p).2]):=by
 refine pr.of rfl rfl rfl (zju _ _ _ _ _) ?_;have hl:=hQ.len;unfold Qy.between;delta zi2;dsimp only;refine w_go hl hp (s:=Qy.wUnion) (by decide) (fun h hlt=>?_) fun h0=>?_
 ·rw[if_pos h];simp only[cnd,qd_0,qd_1,zaJ];refine w_go hl (show p+1≤L.length by omega) (s:=Qy.wAll) (by decide) (fun h hlt=>?_) fun h0=>?_
  ·rw[if_pos h];rfl
  ·rw[if_neg (by rw[h0];decide)];rfl
 rw[if_neg (by rw[h0];decide)];simp only[cnd,qd_0,qd_1,zaJ];refine w_go hl hp (s:=Qy.wIntersect) (by decide) (fun h hlt=>?_) fun h0=>?_
 ·rw[if_pos h];rfl
 rw[if_neg (by rw[h0];decide)];simp only[cnd,qd_0,qd_1,zaJ];refine w_go hl hp (s:=Qy.wExcept) (by decide) (fun h hlt=>?_) fun h0=>?_
 ·rw[if_pos h];rfl
 ·rw[if_neg (by rw[h0];decide)];rfl
end
end
section
open Go.RowKit
open Vm
variable[Gl]
theorem ck6{Z:Type}{a b c d e f:Vm.V}(h:(a.one && b.one && c.one && d.one && e.one && f.one)=true)(A:Option Z):ckA 6 (.agg [a,b,c,d,e,f]) A=A:=ckA_agg _ _ rfl (by simpa[and_assoc]using h)
theorem ck5{Z:Type}{a b c d e:Vm.V}(h:(a.one && b.one && c.one && d.one && e.one)=true)(A:Option Z):ckA 5 (.agg [a,b,c,d,e]) A=A:=ckA_agg _ _ rfl (by simpa[and_assoc]using h)
section
variable{L:List Lx.TA}(hQ:QL L)
include hQ
theorem rdI:RdP L itC 103 (Qy.item (L.map (·.1)) (Qy.exprR (L.map (·.1)))):=⟨fun p hp=>m_qitem hQ hp,fun p hp=>Qy.item_in zd2 hp⟩
theorem rdX:RdP L encE 106 (Qy.exprR (L.map (·.1))):=⟨fun p hp=>zoS hQ hp,zd2⟩
theorem rdT:RdP L tmC 68 (Qy.term (L.map (·.1)) (Qy.exprR (L.map (·.1)))):=⟨fun p hp=>m_qterm hQ hp,fun p hp=>Qy.term_in zd2 hp⟩
theorem zvr{d:Bool}{is:List Qy.Item}{fs:List Qy.From}{w g:List Ex.E}{p:Nat}(hp:p≤L.length){gv:Vm.V}(hg:norm0 gv=.list (g.map encE))(hg1:gv.one=true){fv:Vm.V}(hf:norm0 fv=frL fs)(hf1:fv.one=true):
  zc3 pr.ev lup (.agg [.list (L.map tokM),.int .i64 p]) (.agg [.bool d,.list (is.map itC),fv,.list (w.map encE),.nils,gv]) =
   outQ L coC ((Qy.maybe (L.map (·.1)) (Qy.exprR (L.map (·.1))) Qy.wHaving p).bind fun h q=>.ok ⟨d,is,fs,w,h,g⟩ q):=by
 simp only[zc3,zbS,qb4,zaJ];refine q_go (znO hQ hp (s:=Qy.wHaving) (by decide)) (fun h q hq=>?_) fun q e hq=>?_
 ·rw[hq];simp only[zmT,qd_0,qd_1,zaJ,Qy.bind_ok,nm_a,qb3,hg,hf,n0_b,n0_l];rw[ck6 (by simp[hg1,hf1])];rfl
 ·rw[hq];rfl
theorem zvs{d:Bool}{is:List Qy.Item}{fs:List Qy.From}{p:Nat}(hp:p≤L.length){fv:Vm.V}(hf:norm0 fv=frL fs)(hf1:fv.one=true):
  zbo pr.ev lup (.agg [.list (L.map tokM),.int .i64 p]) (.agg [.bool d,.list (is.map itC),fv,.nils,.nils,.nils]) =
   outQ L coC ((Qy.maybe (L.map (·.1)) (Qy.exprR (L.map (·.1))) Qy.wWhere p).bind fun w q3=>(Qy.group (L.map (·.1)) (Qy.exprR (L.map (·.1))) q3).bind fun g q4=>(Qy.maybe (L.map (·.1)) (Qy.exprR (L.map (·.1))) Qy.wHaving q4).bind fun h q5=>.ok ⟨d,is,fs,w,h,g⟩ q5):=by
 have hl:=hQ.len;simp only[zbo,zbS,qb4,zaJ];refine q_go (znO hQ hp (s:=Qy.wWhere) (by decide)) (fun w q hq=>?_) fun q e hq=>?_
 ·have iq:=Qy.maybe_in (zd2 (L:=L)) Qy.wWhere (zcO hp);rw[hq]at iq ⊢;obtain⟨h1,h2⟩:=zdD iq;simp only[zmT,qd_0,qd_1,zaJ,Qy.bind_ok];unfold Qy.group;refine w_go hl h2 (s:=Qy.wGroup) (by decide) (fun h hlt=>?_) fun h0=>?_
  ·rw[if_pos h];simp only[cnd,qd_0,qd_1,zaJ];refine q_go (zoR hl (show q+1≤999900 by omega) Qy.wBy (by decide)) (fun u r hr=>?_) fun r e hr=>?_
   ·have ir:=Qy.must_in (L:=L.map (·.1)) (p:=q+1) Qy.wBy (by rw [qa44];omega);rw[hr]at ir ⊢;simp only[Qy.bind_ok,qd_0,qd_1,zaJ];refine q_go (m_sevE hl (rdX hQ) (zdD ir).2) (fun g t ht=>?_) fun t e ht=>?_
    ·have it:=Qy.several_in (zd2 (L:=L)) (zcO (zdD ir).2);rw[ht]at it ⊢;simp only[zmT,qd_0,qd_1,Qy.bind_ok];exact zvr hQ (zdD it).2 rfl rfl hf hf1
    ·rw[ht];rfl
   ·rw[hr];rfl
  ·rw [if_neg (by rw [h0];decide)];simp only[cnd,qd_0,qd_1,Qy.bind_ok];exact zvr hQ h2 (g:=[]) rfl rfl hf hf1
 ·rw[hq];rfl
theorem zyG{p:Nat}(hp:p≤L.length):pr.ev 63 [.ptr 0 0] [rdE L p]=outQ L coC (Qy.core (L.map (·.1)) (Qy.exprR (L.map (·.1))) p):=by
 refine q_of rfl rfl rfl (zlc _ _ _ _ _) ?_;have hl:=hQ.len;unfold Qy.core;delta zky;dsimp only;refine q_go (zoR hl (show p≤999900 by omega) Qy.wSelect (by decide)) (fun u p1 h1=>?_) fun p1 e h1=>?_
 ·have i1:=Qy.must_in (L:=L.map (·.1)) Qy.wSelect (zcO hp);rw[h1]at i1 ⊢;have hp1:=(zdD i1).2;simp only[Qy.bind_ok,qd_0,qd_1,zaJ];have rest:∀(d:Bool)(p2:Nat),p2≤L.length→(cl1 pr.ev 102 [(.ptr 0 0),(.fn 103 [(.ptr 0 0)] [])] (rdE L p2) 76 2 (fun v9 v8=>pnk v9 [.blk 76 [(zad v8 0),(zad v8 1)]]) fun v7 v8=>
    ck1 v7<|
    cl1 pr.ev 65 [(.ptr 0 0),(.str [102,114,111,109])] (.blk 76 [(zad v8 0),(zad v8 1)]) 76 2 (fun v12 v11=>pnk v12 [.blk 76 [(zad v11 0),(zad v11 1)]]) fun v10 v11=>
    cnd v10 (cl1 pr.ev 104 [(.ptr 0 0)] (.blk 76 [(zad v11 0),(zad v11 1)]) 76 2 (fun v15 v14=>pnk v15 [.blk 76 [(zad v14 0),(zad v14 1)]]) fun v13 v14=>
    ck1 v13<|
    zbo pr.ev lup (.agg [(zad v14 0),(zad v14 1)]) (.agg [.bool d,v7,v13,.nils,.nils,.nils]))
    (zbo pr.ev lup (.agg [(zad v11 0),(zad v11 1)]) (.agg [.bool d,v7,.nils,.nils,.nils,.nils]))) =
    outQ L coC ((Qy.several (L.map (·.1)) (Qy.item (L.map (·.1)) (Qy.exprR (L.map (·.1)))) p2).bind fun is q=>(Qy.from_ (L.map (·.1)) (Qy.exprR (L.map (·.1))) q).bind fun fs q2=>(Qy.maybe (L.map (·.1)) (Qy.exprR (L.map (·.1))) Qy.wWhere q2).bind fun w q3=>(Qy.group (L.map (·.1)) (Qy.exprR (L.map (·.1))) q3).bind fun g q4=>(Qy.maybe (L.map (·.1)) (Qy.exprR (L.map (·.1))) Qy.wHaving q4).bind fun h q5=>.ok ⟨d,is,fs,w,h,g⟩ q5):=by
   intro d p2 hp2;refine q_go (m_sevI hl (rdI hQ) hp2) (fun is q hq=>?_) fun q e hq=>?_
   ·have iq:=Qy.several_in (rdI hQ).2 (zcO hp2);rw[hq]at iq ⊢;have hq2:=(zdD iq).2;simp only[zmT,qd_0,qd_1,zaJ,Qy.bind_ok];unfold Qy.from_;refine w_go hl hq2 (s:=Qy.wFrom) (by decide) (fun h hlt=>?_) fun h0=>?_
    ·rw[if_pos h];simp only[cnd,qd_0,qd_1,zaJ];refine q_go (zyF hQ (p:=q+1) (by omega)) (fun fs r hr=>?_) fun r e hr=>?_
     ·have ir:=Qy.tables_in (zd2 (L:=L)) (p:=q+1) (by rw [qa44];omega);rw[hr]at ir ⊢;simp only[frL,zmT,qd_0,qd_1,Qy.bind_ok];exact zvs hQ (zdD ir).2 rfl rfl
     ·rw[hr];rfl
    ·rw [if_neg (by rw [h0];decide)];simp only[cnd,qd_0,qd_1,Qy.bind_ok];exact zvs hQ hq2 (fs:=[]) rfl rfl
   ·rw[hq];rfl
  refine w_go hl hp1 (s:=Ex.zav) (by decide) (fun h hlt=>?_) fun h0=>?_
  ·rw[h];simp only[ztq,qd_0,qd_1,zaJ,qa60];rw[ck6 rfl];exact rest true (p1+1) (by omega)
  ·rw[h0];simp only[ztq,qd_0,qd_1,zaJ];rw[ck6 rfl];exact rest false p1 hp1
 ·rw[h1];rfl
end
end
section
open Go.RowKit
open Vm
variable[Gl]
def opsV(l:List Int):Vm.V:=if l=[]then .nils else .list (l.map (.int .i64))
theorem ops_n(l:List Int):norm0 (opsV l)=.list (l.map (.int .i64)):=by
 unfold opsV;split
 ·rename_i h;rw[h];rfl
 ·rfl
theorem ops_1(l:List Int):(opsV l).one=true:=by unfold opsV;split<;>rfl
theorem zyh(l:List Int)(o:Int)(h:l.length≤1000000):appV 1 8 (opsV l) (.list [.int .i64 o])=some (opsV (l++[o])):=by
 unfold opsV;rw[if_neg (show ¬l++[o]=[]by simp)];split
 ·rename_i hl;subst hl;exact app_n 1 8 _ (fun y hy=>by rw[qa22.1 hy];rfl) (by simp)
 ·rw[zjz 1 8 _ _ (fun y hy=>by rw[qa22.1 hy];rfl) (by simp;omega),qa43];rfl
theorem coC_wf(c:Qy.Core):wf (coC c)=true:=by
 have hI:wfs (c.items.map itC)=true:=zbf.2 fun v hv=>by
  obtain⟨x,_,rfl⟩:=qa55.1 hv;obtain⟨e,n,b,t⟩:=x;have:=zdh e;obtain⟨k,o,v,t',nm,s,g,d,l⟩:=e;simp only[itC,expC_mk,enc_mk]at this ⊢;simpa[wf,wfs]using this
 have hE:∀l:List Ex.E,wfs (l.map encE)=true:=fun l=>zbf.2 fun v hv=>by
  obtain⟨x,_,rfl⟩:=qa55.1 hv;exact zdh x
 have hF:wfs (c.from_.map frC)=true:=zbf.2 fun v hv=>by
  obtain⟨x,_,rfl⟩:=qa55.1 hv;simp[frC,wf,wfs,hE]
 simp[coC,wf,wfs,hI,hE,hF]
theorem ztk(l:List Qy.Core):wfs (l.map coC)=true:=zbf.2 fun v hv=>by
 obtain⟨x,_,rfl⟩:=qa55.1 hv;exact coC_wf x
section
variable{L:List Lx.TA}(hQ:QL L)
include hQ
theorem m_qfin{cs:List Qy.Core}{os:List Int}{o:List Qy.Term}{ov:Vm.V}(ho:norm0 ov=.list (o.map tmC))(ho1:ov.one=true){p:Nat}(hp:p≤L.length):
  zcM pr.ev lup (.agg [.list (L.map tokM),.int .i64 p]) ov .nils (.list (cs.map coC)) (opsV os) =
   outQ L seC ((Qy.maybe (L.map (·.1)) (Qy.exprR (L.map (·.1))) Qy.wLimit p).bind fun l q4=>(if l.length=0 then .ok [] q4 else Qy.maybe (L.map (·.1)) (Qy.exprR (L.map (·.1))) Qy.wOffset q4).bind fun f q5=>.ok ⟨cs,os,o,l,f⟩ q5):=by
 simp only[zcM,zbS,qb4,zaJ];refine q_go (znO hQ hp (s:=Qy.wLimit) (by decide)) (fun l q hq=>?_) fun q e hq=>?_
 ·have iq:=Qy.maybe_in (zd2 (L:=L)) Qy.wLimit (zcO hp);rw[hq]at iq ⊢;have hq2:=(zdD iq).2;have h1:=ops_1 os;by_cases hl:l=[]
  ·subst hl;simp[-Int.natCast_add,rtn,ck5,h1,ho1,ho,ops_n,seC]
  ·have hl2:¬ l.length=0:=by simpa using hl
   have hl3:0<l.length:=by omega
   rw[Qy.bind_ok,if_neg hl2];simp only[zmT,zm7,qa44,qa31,qd_0,qd_1,zaJ];have hb:b0 .gtr (.int .i64 (l.length:Int)) (.int .i64 0)=some (.bool true):=by simp[hl3]
   simp only[hb,qa31,cnd];refine q_go (znO hQ hq2 (s:=Qy.wOffset) (by decide)) (fun f r hr=>?_) fun r e hr=>?_
   ·rw[hr];simp[-Int.natCast_add,rtn,ck5,h1,ho1,ho,ops_n,seC]
   ·rw[hr];rfl
 ·rw[hq];rfl
theorem m_qord{cs:List Qy.Core}{os:List Int}{p:Nat}(hp:p≤L.length):
  zdY pr.ev lup (.agg [.list (L.map tokM),.int .i64 p]) .nils .nils (.list (cs.map coC)) (opsV os) =
   outQ L seC ((Qy.order (L.map (·.1)) (Qy.exprR (L.map (·.1))) p).bind fun o q3=>(Qy.maybe (L.map (·.1)) (Qy.exprR (L.map (·.1))) Qy.wLimit q3).bind fun l q4=>(if l.length=0 then .ok [] q4 else Qy.maybe (L.map (·.1)) (Qy.exprR (L.map (·.1))) Qy.wOffset q4).bind fun f q5=>.ok ⟨cs,os,o,l,f⟩ q5):=by
 have hl:=hQ.len;simp only[zdY,zbS,qb4,zaJ];unfold Qy.order;refine w_go hl hp (s:=Qy.wOrder) (by decide) (fun h hlt=>?_) fun h0=>?_
 ·rw[if_pos h];simp only[cnd,qd_0,qd_1,zaJ];refine q_go (zoR hl (show p+1≤999900 by omega) Qy.wBy (by decide)) (fun u r hr=>?_) fun r e hr=>?_
  ·have ir:=Qy.must_in (L:=L.map (·.1)) (p:=p+1) Qy.wBy (by rw [qa44];omega);rw[hr]at ir ⊢;simp only[Qy.bind_ok,qd_0,qd_1,zaJ];refine q_go (m_sevT hl (rdT hQ) (zdD ir).2) (fun g t ht=>?_) fun t e ht=>?_
   ·have it:=Qy.several_in (rdT hQ).2 (zcO (zdD ir).2);rw[ht]at it ⊢;simp only[zmT,qd_0,qd_1,Qy.bind_ok];exact m_qfin hQ rfl rfl (zdD it).2
   ·rw[ht];rfl
  ·rw[hr];rfl
 ·rw [if_neg (by rw [h0];decide)];simp only[cnd,qd_0,qd_1,Qy.bind_ok];exact m_qfin hQ (o:=[]) rfl rfl hp
theorem zqv:∀(n:Nat)(cs:List Qy.Core)(os:List Int)(p:Nat),p≤L.length→L.length+1≤n+p→cs.length≤p→os.length≤p →
  lup Out (za8 pr.ev lup) [.agg [.list (L.map tokM),.int .i64 p],.agg [.nils,.nils,.nils,.nils,.nils],.list (cs.map coC),.nils,.nils,.nils,opsV os] =
   outQ L seC ((Qy.cores (L.map (·.1)) (Qy.exprR (L.map (·.1))) n cs os p).bind fun x q2=>(Qy.order (L.map (·.1)) (Qy.exprR (L.map (·.1))) q2).bind fun o q3=>(Qy.maybe (L.map (·.1)) (Qy.exprR (L.map (·.1))) Qy.wLimit q3).bind fun l q4=>(if l.length=0 then .ok [] q4 else Qy.maybe (L.map (·.1)) (Qy.exprR (L.map (·.1))) Qy.wOffset q4).bind fun f q5=>.ok ⟨x.1,x.2,o,l,f⟩ q5)
 |0,_,_,p,hp,hn,_,_=>by omega
 |n+1,cs,os,p,hp,hn,h1,h2=>by
  have hl:=hQ.len;have hb:=zwv hQ hp;rw[zan,Qy.cores];cases hbq:Qy.between (L.map (·.1)) p with
  |mk o q=>
   rw[hbq]at hb;dsimp only at hb;cases o with
   |none=>
    obtain rfl:=Qy.between_none hbq;have hf:=m_qord hQ (cs:=cs) (os:=os) hp;simp only[Qy.bind_ok]at hf ⊢;simp[-Int.natCast_add,za8,q_r hb,beV,hf]
   |some k=>
    obtain⟨h3,h4⟩:=Qy.between_in hbq;rw[qa44]at h4;have hc:=zyG hQ h4;have ic:=Qy.core_in (zd2 (L:=L)) (zcO h4);dsimp only;have hoa:=zyh os k (by omega);cases hcq:Qy.core (L.map (·.1)) (Qy.exprR (L.map (·.1))) q with
    |stop r e=>
     rw[hcq]at hc;have key:∀X:Vm.V→Ent→Option (Stp Out),ag (eqS oeq) (cl1 pr.ev 63 [.ptr 0 0] (rdE L q) 76 2 (fun v10 v9=>om (pnk v10 [.blk 76 [(zad v9 0),(zad v9 1)]])) X)=some (.out (.panic (wrV r e),[rdE L r])):=fun X=>by
      refine zf7 (q_p hc _ _) ?_;have h1:veqs (L.map tokM) (L.map tokM)=true:=zdm (zhd L);simp[eqS,oeq,eeqs,eeq,rdE,wrV, -zaJ,veqs,veq,h1]
     simp[-Int.natCast_add,za8,q_r hb,beV,hoa,key]
    |ok c r=>
     rw[hcq]at hc ic;obtain⟨h5,h6⟩:=zdD ic;have ih:=zqv n (cs++[c]) (os++[k]) r h6 (by omega) (by simp;omega) (by simp;omega);have hca:=zfI (b:=128) zdz (by omega) cs c (by omega);have key:ag (eqS oeq) (cl1 pr.ev 63 [.ptr 0 0] (rdE L q) 76 2 (fun v10 v9=>om (pnk v10 [.blk 76 [(zad v9 0),(zad v9 1)]])) fun v8 v9=>
       ckA 6 (norm1 v8)<|(appV 6 128 (.list (cs.map coC)) (.list [(norm1 v8)])).bind fun v11=>
       some (.next [(.agg [(zad v9 0),(zad v9 1)]),.agg [.nils,.nils,.nils,.nils,.nils],v11,.nils,.nils,.nils,opsV (os++[k])])) =
       some (.next [.agg [.list (L.map tokM),.int .i64 r],.agg [.nils,.nils,.nils,.nils,.nils],.list ((cs++[c]).map coC),.nils,.nils,.nils,opsV (os++[k])]):=by
      refine zf7 (z:=Stp.next _) ?_ ?_
      ·rw[q_r hc];simp only[zdz.nm,zdz.ck,hca,qa31,qd_0,qd_1]
      ·refine zdm ?_;have h1:=ztk (cs++[c]);have h2:wf (opsV (os++[k]))=true:=by
        unfold opsV;split
        ·rfl
        ·simp only[wf];exact zbf.2 fun v hv=>by obtain⟨x,_,rfl⟩:=qa55.1 hv;rfl
       simp[wfs,wf,zhd,h1,h2, -List.map_append]
     rw[Qy.bind_ok];have e:za8 pr.ev lup [.agg [.list (L.map tokM),.int .i64 p],.agg [.nils,.nils,.nils,.nils,.nils],.list (cs.map coC),.nils,.nils,.nils,opsV os]=some (.next [.agg [.list (L.map tokM),.int .i64 r],.agg [.nils,.nils,.nils,.nils,.nils],.list ((cs++[c]).map coC),.nils,.nils,.nils,opsV (os++[k])]):=by
      simp[-Int.natCast_add, -List.map_append,za8,q_r hb,beV,hoa,key]
     rw[e];exact ih
theorem m_qquery{p:Nat}(hp:p≤L.length):pr.ev 29 [.ptr 0 0] [rdE L p]=outQ L seC (Qy.query (L.map (·.1)) (Qy.exprR (L.map (·.1))) p):=by
 refine q_of rfl rfl rfl (zkG _ _ _ _ _) ?_;unfold Qy.query;delta zjG;dsimp only;refine q_go (zyG hQ hp) (fun c q hq=>?_) fun q e hq=>?_
 ·have iq:=Qy.core_in (zd2 (L:=L)) (zcO hp);rw[hq]at iq ⊢;obtain⟨h1,h2⟩:=zdD iq;simp only[zdz.nm,zdz.ck,qd_0,qd_1,Qy.bind_ok];exact zqv hQ ((L.map (·.1)).length+1) [c] [] q h2 (by simp) (by simp;omega) (by simp)
 ·rw[hq];rfl
end
end
end Go.Proofs.YtlooegbcfkoloaaGreatDoor
namespace Qy
open Lx Ex
def sel0:Sel:=⟨[],[],[],[],[]⟩
def ofQ(s:S):Sel×Nat×Int:=match scan s with
 |(l,a,e)=>if e≠0 then(sel0,a,e)else match query (l.map (·.1)) (exprR (l.map (·.1))) 0 with
  |.stop q e=>(sel0,zpv l s.length q,e)
  |.ok x q=>match l[q]? with
   |some t=>if t.1.kind≠0 then(sel0,t.2,20)else(x,s.length,0)
   |none=>(x,s.length,0)
end Qy
namespace Go.Proofs.YtlooegbcfkoloaaGreatDoor
section
open Go.RowKit
open Vm
variable[Gl]
theorem zx3(c:Orc)(a b k d e m n:Vm.V):zdX c .niface a b k d e m n=some [.blk 28 [a,b,k,d,e],.blk 3 [m],.blk 29 [n]]:=by kernel_rfl
theorem zx2(c:Orc)(q:Nat)(er:Int)(a b k d e m n:Vm.V):zdX c (wrV q er) a b k d e m n=some [.blk 28 [.nils,.nils,.nils,.nils,.nils],.blk 3 [.int .i64 q],.blk 29 [.int .i64 er]]:=by
 have h:eeqs [.blk 28 [.nils,.nils,.nils,.nils,.nils],.blk 3 [.int .i64 q],.blk 29 [.int .i64 er]] [.blk 28 [.nils,.nils,.nils,.nils,.nils],.blk 3 [.int .i64 q],.blk 29 [.int .i64 er]]=true:=by simp[eeqs,eeq,veqs,veq]
 simp[zdX,wrV,gW,binV,tasW,tasV,wf,wfs,ag,ckA_agg,zg2,h]
theorem zsl(s:Qy.Sel):wf (seC s)=true:=by
 have hE:∀l:List Ex.E,wfs (l.map encE)=true:=fun l=>zbf.2 fun v hv=>by
  obtain⟨x,_,rfl⟩:=qa55.1 hv;exact zdh x
 have hT:wfs (s.order.map tmC)=true:=zbf.2 fun v hv=>by
  obtain⟨x,_,rfl⟩:=qa55.1 hv;obtain⟨e,n,b⟩:=x;have:=zdh e;obtain⟨k,o,v,t',nm,s,g,d,l⟩:=e;simp only[tmC,expC_mk,enc_mk]at this ⊢;simpa[wf,wfs]using this
 have hO:wfs (s.ops.map (Vm.V.int .i64))=true:=zbf.2 fun v hv=>by obtain⟨x,_,rfl⟩:=qa55.1 hv;rfl
 simp[seC,wf,wfs,ztk,hE,hT,hO]
theorem se_cells(s:Qy.Sel):seC s=.agg [cell (seC s) 0,cell (seC s) 1,cell (seC s) 2,cell (seC s) 3,cell (seC s) 4]:=rfl
@[simp] theorem se_nm (s:Qy.Sel):norm1 (seC s)=seC s:=seC_ok.nm s
@[simp] theorem se_ck {Z:Type} (s:Qy.Sel) (A:Option Z):ckA 5 (seC s) A=A:=seC_ok.ck s A
@[simp] theorem se_ag (s:Qy.Sel):agN 5 (seC s)=seC s:=rfl
def parQ(r:Qy.Rs Qy.Sel):Vm.V:=match r with|.ok s q=>.tup [seC s,.int .i64 (q:Int),.int .i64 0]|.stop q e=>.tup [seC Qy.sel0,.int .i64 (q:Int),.int .i64 e]
theorem zkN:Vm.V.agg [.list [],.list [],.list [],.list [],.list []]=seC Qy.sel0:=rfl
theorem m_qParse{L:List Lx.TA}(hQ:QL L){p:Nat}(hp:p≤L.length):pr.ev 12 [.list (L.map tokM),.int .i64 (p:Int)] []=some (.ret (parQ (Qy.query (L.map (·.1)) (Qy.exprR (L.map (·.1))) p)),[]):=by
 refine pr.ofN rfl ?_;show evFD Tryz.prog _ pr.ev [10,11,12,29] [(4,0),(5,1),(6,2)] 12 [.d (.list (L.map tokM)),.d (.int .i64 p)]=_;rw[zq2];have h1:¬((p:Int)<0):=by omega
 have h2:¬(L.length<p):=by omega
 have hc:=m_qquery hQ hp;cases hq:Qy.query (L.map (·.1)) (Qy.exprR (L.map (·.1))) p with
 |ok s q=>
  rw[hq]at hc;have hw:=zsl s;have hw5:wfs [cell (seC s) 0,cell (seC s) 1,cell (seC s) 2,cell (seC s) 3,cell (seC s) 4]=true:=by
   rw[se_cells]at hw;simpa only[wf]using hw
  have ho:oeq (.ret (.tup [seC s,.int .i64 q,.int .i64 0]),[]) (.ret (.tup [seC s,.int .i64 q,.int .i64 0]),[])=true:=zsT (by simp[wf,wfs,hw]);have hs5:norm1 (.agg [cell (seC s) 0,cell (seC s) 1,cell (seC s) 2,cell (seC s) 3,cell (seC s) 4])=seC s:=rfl;have hb5:=fun A:Option Out=>zwO 28 5 [cell (seC s) 0,cell (seC s) 1,cell (seC s) 2,cell (seC s) 3,cell (seC s) 4] A rfl hw5;simp[-Int.natCast_add, -nm_a,ziq,zeM,h1,h2,ckA_agg,q_r hc,zx3,zzG,hb5,zwO,wf,wfs,hs5,parQ,rtn,ag,zg2,ho]
 |stop q e=>
  rw[hq]at hc;simp[-Int.natCast_add,ziq,zeM,h1,h2,ckA_agg,q_p hc,zx2,zzG,zwO,wfs,wf,parQ,rtn,zkN]
theorem zxA{s:List UInt8}(hs:s.length≤1000000){l:List Lx.TA}{a:Nat}(h:Lx.scan s=(l,a,0)):QL l:=by
 have h1:=scan_L h;refine⟨by omega,scan_G hs h,fun p m e q hp hr=>?_⟩;obtain⟨g1,g2,g3,g4,g5,g6⟩:=Ex.zjK h;obtain⟨h2,e',h3,h4⟩:=(Ex.zmv _ g2 m).1 0 p _ _ hr;cases h3;have:=h4.c;have:=(Ex.zmw (zcO hp) hr).2;rw[qa44]at this;omega
def ofQV(r:Qy.Sel×Nat×Int):Vm.V:=.tup [seC r.1,.int .i64 (r.2.1:Int),.int .i64 r.2.2]
theorem m_qOf{s:List UInt8}(hs:s.length≤1000000):pr.ev 6 [.str s] []=some (.ret (ofQV (Qy.ofQ s)),[]):=by
 refine pr.of rfl rfl rfl (zwh _ _ _ _) ?_;have hsc:=ev_scan hs;have ld0:∀t:Lx.TA,ldV false 1 (tokM t) 0=some (.int .i64 t.1.kind):=fun _=>rfl;have ld5:∀t:Lx.TA,ldV false 1 (tokM t) 5=some (.int .i64 (t.2:Int)):=fun _=>rfl;have ho:∀{a b:Int},oeq (.ret (.tup [seC Qy.sel0,.int .i64 a,.int .i64 b]),[]) (.ret (.tup [seC Qy.sel0,.int .i64 a,.int .i64 b]),[])=true:=zsT (by simp[wf,wfs,zsl]);unfold Qy.ofQ;rw[zq0]at hsc;cases hq:Lx.scan s with
 |mk l r=>
 obtain⟨a,no⟩:=r;rw[hq]at hsc;dsimp only at hsc ⊢;by_cases hno:no=0
 ·subst hno;have hQ:=zxA hs hq;have hpar:=m_qParse hQ (p:=0) (Nat.zero_le _);simp only[qa34]at hpar;rw[if_neg (by simp)];cases hc:Qy.query (l.map (·.1)) (Qy.exprR (l.map (·.1))) 0 with
  |stop q e=>
   have he:e≠0:=by
    have:=Qy.query_in (zd2 (L:=l)) (p:=0) (Nat.zero_le _);rw[hc]at this;exact this.2
   rw[hc]at hpar;simp only[parQ]at hpar;cases hq2:l[q]? with
   |some t=>
    obtain⟨hlt,ht⟩:=qa9.1 hq2;simp[-Int.natCast_add,zfa,zdB,zc8,zaa hsc,zaa hpar,he,hlt,ht,ld5,ofQV,rtn,zkN,zp8 hq2,ag,zg2,ho]
   |none=>
    have hge:¬q<l.length:=by simpa using hq2
    simp[-Int.natCast_add,zfa,zdB,zc8,zaa hsc,zaa hpar,he,hge,ofQV,rtn,zkN,zp9 hq2]
  |ok x q=>
   rw[hc]at hpar;simp only[parQ]at hpar;cases hq2:l[q]? with
   |some t=>
    obtain⟨hlt,ht⟩:=qa9.1 hq2;by_cases hk:t.1.kind=0
    ·simp[-Int.natCast_add,zfa,zdB,zc8,zaa hsc,zaa hpar,hlt,ht,hq2,hk,ld0,ofQV,rtn]
    ·simp[-Int.natCast_add,zfa,zdB,zc8,zaa hsc,zaa hpar,hlt,ht,hq2,hk,ld0,ld5,ofQV,rtn,zkN,ag,zg2,ho]
   |none=>
    have hge:¬q<l.length:=by simpa using hq2
    simp[-Int.natCast_add,zfa,zdB,zc8,zaa hsc,zaa hpar,hge,ofQV,rtn]
 ·simp[-Int.natCast_add,zfa,zaa hsc,hno,ofQV,rtn,zkN]
end
section
open Go.RowKit
open Vm
variable[Gl]
def inE(L:List Lx.TA)(p:Nat)(e:Int)(w:Nat):Ent:=.blk 84 [.list (L.map tokM),.int .i64 (p:Int),.int .i64 e,.int .i64 (w:Int)]
def outI{α:Type}(L:List Lx.TA)(enc:α→Vm.V)(r:Qy.Rs α)(o:Option Out):Prop:=match r with
 |.ok a q=>o=some (.ret (enc a),[inE L q 0 0])
 |.stop q e=>e≠0∧∃a p',o=some (.ret (enc a),[inE L p' e q])
theorem zaT{α:Type}{L:List Lx.TA}{enc:α→Vm.V}{q p':Nat}{e:Int}{o:Option Out}(he:e≠0)(a:α)(h:o=some (.ret (enc a),[inE L p' e q])):outI L enc (.stop q e) o:=⟨he,a,p',h⟩
@[simp] theorem zap (L:List Lx.TA) (p:Nat) (e:Int) (w:Nat):Ent.blk 84 [.list (L.map tokM),.int .i64 (p:Int),.int .i64 e,.int .i64 (w:Int)]=inE L p e w:=rfl
@[simp] theorem zvE (L:List Lx.TA) (p:Nat):Ent.blk 84 [.list (L.map tokM),.int .i64 (p:Int),.int .i64 0,.int .i64 0]=inE L p 0 0:=rfl
@[simp] theorem id_fold1 (L:List Lx.TA) (p:Nat) (e:Int):Ent.blk 84 [.list (L.map tokM),.int .i64 (p:Int),.int .i64 e,.int .i64 (p:Int)]=inE L p e p:=rfl
@[simp] theorem id_0 (L:List Lx.TA) (p w:Nat) (e:Int):zad (inE L p e w) 0=.list (L.map tokM):=rfl
@[simp] theorem id_1 (L:List Lx.TA) (p w:Nat) (e:Int):zad (inE L p e w) 1=.int .i64 (p:Int):=rfl
@[simp] theorem id_2 (L:List Lx.TA) (p w:Nat) (e:Int):zad (inE L p e w) 2=.int .i64 e:=rfl
@[simp] theorem id_3 (L:List Lx.TA) (p w:Nat) (e:Int):zad (inE L p e w) 3=.int .i64 (w:Int):=rfl
theorem ckE_i{Z:Type}(L:List Lx.TA)(p w:Nat)(e:Int)(A:Option Z):ckE 84 4 (inE L p e w) A=A:=by
 unfold ckE inE;dsimp only;rw[if_pos ⟨rfl,rfl,by simp[wfs,wf,zhd]⟩]
theorem i_of{α:Type}{L:List Lx.TA}{enc:α→Vm.V}{x:Qy.Rs α}{f:FuncId}{a:List Vm.V}{e:List Ent}{rs:List R}{σ:List (Nat×Nat)}{A:List LA}{r:Option Out}(hd:pr.D f=false)(ha:a.map argR=rs)(hA:pr.A f=(σ,A))(h:evF pr.P pr.G pr.ev lup σ 10 A f rs e=r)(hr:outI L enc x r):outI L enc x (pr.ev f a e):=by
 cases x with
 |ok b q=>exact pr.of hd ha hA h hr
 |stop q er=>
  obtain⟨h0,b,p',h1⟩:=hr;exact⟨h0,b,p',pr.of hd ha hA h h1⟩
structure QR(L:List Lx.TA):Prop extends QL L where
 two:zwZ L
section
variable{Z:Type}{c:Orc}{g:FuncId}{args:List Vm.V}{L:List Lx.TA}{p q w w':Nat}{e e':Int}{v:Vm.V}
theorem i_r(h:c g args [inE L p e w]=some (.ret v,[inE L q e' w']))(Kp K:Vm.V→Ent→Option Z):cl1 c g args (inE L p e w) 84 4 Kp K=K v (inE L q e' w'):=by
 simp only[cl1,cal,h,nth,List.getD_cons_zero,ckE_i]
theorem i_go{α:Type}{enc:α→Vm.V}{r:Qy.Rs α}{Kp K:Vm.V→Ent→Option Z}{G:Option Z→Prop}(h:outI L enc r (c g args [inE L p 0 0]))(hk:∀a q,r=.ok a q→G (K (enc a) (inE L q 0 0)))(hs:∀a p' q e,e≠0→r=.stop q e→G (K (enc a) (inE L p' e q))):G (cl1 c g args (inE L p 0 0) 84 4 Kp K):=by
 cases r with
 |ok a q=>rw[i_r h];exact hk a q rfl
 |stop q e=>
  obtain⟨h0,b,p',h1⟩:=h;rw[i_r h1];exact hs b p' q e h0 rfl
end
section
variable{L:List Lx.TA}{p w:Nat}{e:Int}(he:¬e=0)
include he
theorem zs4(a b:Int):pr.ev 83 [.ptr 0 0,.int .i64 a,.int .i64 b] [inE L p e w]=some (.ret (.tup []),[inE L p e w]):=by
 refine pr.of rfl rfl rfl (zgU _ _ _ _ _ _ _ _ _) ?_;simp[-Int.natCast_add,zew,he,rtn]
theorem zy9(a k:Int)(s:List UInt8):pr.ev 82 [.ptr 0 0,.int .i64 a,.int .i64 k,.str s] [inE L p e w]=some (.ret (.bool false),[inE L p e w]):=by
 refine pr.of rfl rfl rfl (ziO _ _ _ _ _ _ _ _ _ _) ?_;simp[-Int.natCast_add,zeo,he,rtn]
theorem zvF(s:List UInt8):pr.ev 34 [.ptr 0 0,.str s] [inE L p e w]=some (.ret (.bool false),[inE L p e w]):=by
 refine pr.of rfl rfl rfl (zhl _ _ _ _ _ _ _ _) ?_;simp[-Int.natCast_add,zeT,i_r (zy9 he 0 2 s),rtn]
theorem i_mark_d(s:List UInt8):pr.ev 37 [.ptr 0 0,.str s] [inE L p e w]=some (.ret (.bool false),[inE L p e w]):=by
 refine pr.of rfl rfl rfl (zhp _ _ _ _ _ _ _ _) ?_;simp[-Int.natCast_add,zeU,i_r (zy9 he 0 4 s),rtn]
theorem i_must_d(s:List UInt8):pr.ev 35 [.ptr 0 0,.str s] [inE L p e w]=some (.ret (.tup []),[inE L p e w]):=by
 refine pr.of rfl rfl rfl (zho _ _ _ _ _ _ _ _) ?_;simp[-Int.natCast_add,zdI,i_r (zvF he s),i_r (zs4 he 20 p),rtn]
theorem i_name_d:pr.ev 113 [.ptr 0 0] [inE L p e w]=some (.ret (.str []),[inE L p e w]):=by
 refine pr.of rfl rfl rfl (zhn _ _ _ _ _ _ _) ?_;simp[-Int.natCast_add,zcU,he,rtn]
theorem i_expr_d:pr.ev 38 [.ptr 0 0] [inE L p e w]=some (.ret (encE Ex.e0),[inE L p e w]):=by
 refine pr.of rfl rfl rfl (zhr _ _ _ _ _ _ _) ?_;have h:(Vm.V.agg [(.int .i64 0),(.str []),(.int .i64 0),(.int .i64 0),(.str []),(.str []),(.str []),(.int .i64 0),(.bool false),(.bool false),(.list [])])=encE Ex.e0:=by simp only[Ex.e0,enc_mk,expC_mk];rfl
 simp[-Int.natCast_add,zcV,he,rtn,h]
end
section
variable{L:List Lx.TA}{p:Nat}(hL:L.length≤999000)(hp:p≤999900)
theorem zlq(a:Int)(b:Nat):pr.ev 83 [.ptr 0 0,.int .i64 a,.int .i64 (b:Int)] [inE L p 0 0]=some (.ret (.tup []),[inE L p a b]):=by
 refine pr.of rfl rfl rfl (zgU _ _ _ _ _ _ _ _ _) ?_;simp[-Int.natCast_add,zew,rtn]
include hL hp
theorem i_is(a:Nat)(ha:a≤2)(k:Int)(s:List UInt8):pr.ev 82 [.ptr 0 0,.int .i64 (a:Int),.int .i64 k,.str s] [inE L p 0 0]=some (.ret (.bool (Ex.isT (L.map (·.1)) (p+a) k s)),[inE L p 0 0]):=by
 refine pr.of rfl rfl rfl (ziO _ _ _ _ _ _ _ _ _ _) ?_;have hw:IntKind.wrap .i64 ((p:Int)+a)=((p+a:Nat):Int):=by rw[zcd (by omega) (by omega)];simp
 by_cases h:p+a<L.length
 ·have c0:∀t:Lx.TA,ldV false 1 (tokM t) 0=some (.int .i64 t.1.kind):=fun _=>rfl;have c1:∀t:Lx.TA,ldV false 1 (tokM t) 1=some (.str t.1.text):=fun _=>rfl;by_cases h2:L[p+a].1.kind=k<;>simp[-Int.natCast_add,zeo,hw,rtn,Ex.isT,h,c0,c1,h2]
 ·simp[-Int.natCast_add,zeo,hw,rtn,Ex.isT,h]
theorem i_word(s:List UInt8):pr.ev 34 [.ptr 0 0,.str s] [inE L p 0 0]=some (.ret (.bool (Ex.isT (L.map (·.1)) p 2 s)),[inE L (if Ex.isT (L.map (·.1)) p 2 s then p+1 else p) 0 0]):=by
 refine pr.of rfl rfl rfl (zhl _ _ _ _ _ _ _ _) ?_;have h0:=i_is hL hp 0 (by omega) 2 s;simp only[qa34,Nat.add_zero]at h0;cases h:Ex.isT (L.map (·.1)) p 2 s<;>simp[-Int.natCast_add,zeT,i_r h0,h,rtn,zbU (show p≤1000000 by omega)]
theorem i_mark(s:List UInt8):pr.ev 37 [.ptr 0 0,.str s] [inE L p 0 0]=some (.ret (.bool (Ex.isT (L.map (·.1)) p 4 s)),[inE L (if Ex.isT (L.map (·.1)) p 4 s then p+1 else p) 0 0]):=by
 refine pr.of rfl rfl rfl (zhp _ _ _ _ _ _ _ _) ?_;have h0:=i_is hL hp 0 (by omega) 4 s;simp only[qa34,Nat.add_zero]at h0;cases h:Ex.isT (L.map (·.1)) p 4 s<;>simp[-Int.natCast_add,zeU,i_r h0,h,rtn,zbU (show p≤1000000 by omega)]
theorem zs6(s:List UInt8):outI L (fun _=>.tup []) (Qy.must (L.map (·.1)) s p) (pr.ev 35 [.ptr 0 0,.str s] [inE L p 0 0]):=by
 refine i_of rfl rfl rfl (zho _ _ _ _ _ _ _ _) ?_;have h0:=i_word hL hp s;unfold Qy.must;cases h:Ex.isT (L.map (·.1)) p 2 s
 ·rw[h]at h0;exact zaT (by decide) () (p':=p) (by simp[-Int.natCast_add,zdI,i_r h0,i_r (zlq (L:=L) (p:=p) 20 p),rtn])
 ·rw[h]at h0;show _=_;simp[-Int.natCast_add,zdI,i_r h0,rtn]
theorem zy8:outI L .str (Qy.name (L.map (·.1)) p) (pr.ev 113 [.ptr 0 0] [inE L p 0 0]):=by
 refine i_of rfl rfl rfl (zhn _ _ _ _ _ _ _) ?_;have c0:∀t:Lx.TA,ldV false 1 (tokM t) 0=some (.int .i64 t.1.kind):=fun _=>rfl;have c1:∀t:Lx.TA,ldV false 1 (tokM t) 1=some (.str t.1.text):=fun _=>rfl;have hw:IntKind.wrap .i64 (((p+1:Nat):Int)-1)=(p:Int):=by rw[zcd (by omega) (by omega)];omega
 have i0:=zlq (L:=L) (p:=p) 20 p;unfold Qy.name;rw[qa24];cases h:L[p]? with
 |none=>
  have h1:L.length≤p:=by simpa using h
  exact zaT (by decide) [] (p':=p) (by simp[-Int.natCast_add,zcU,zbW,h1,i_r i0,rtn])
 |some t=>
  obtain⟨hlt,ht⟩:=qa9.1 h;have h1:¬L.length≤p:=by omega
  simp only[qa46];by_cases hk:t.1.kind=1
  ·rw[if_pos hk];show _=_;simp[-Int.natCast_add,zcU,zbW,h1,h,c0,c1,hk,rtn,hw,zbU (show p≤1000000 by omega)]
  ·rw[if_neg hk];exact zaT (by decide) [] (p':=p) (by simp[-Int.natCast_add,zcU,zbW,h1,h,c0,hk,i_r i0,rtn])
end
section
variable{Z:Type}{L:List Lx.TA}{p:Nat}(hL:L.length≤999000)(hp:p≤L.length){Kp K:Vm.V→Ent→Option Z}{G:Option Z→Prop}
include hL hp
theorem ziw{s:List UInt8}(h1:Ex.isT (L.map (·.1)) p 2 s=true→p<L.length→G (K (.bool true) (inE L (p+1) 0 0)))(h0:Ex.isT (L.map (·.1)) p 2 s=false→G (K (.bool false) (inE L p 0 0))):G (cl1 pr.ev 34 [.ptr 0 0,.str s] (inE L p 0 0) 84 4 Kp K):=by
 rw[i_r (i_word hL (by omega) s)];cases ht:Ex.isT (L.map (·.1)) p 2 s
 ·exact h0 ht
 ·exact h1 ht (by simpa using Ex.isT_lt ht)
theorem zy5{s:List UInt8}(h1:Ex.isT (L.map (·.1)) p 4 s=true→p<L.length→G (K (.bool true) (inE L (p+1) 0 0)))(h0:Ex.isT (L.map (·.1)) p 4 s=false→G (K (.bool false) (inE L p 0 0))):G (cl1 pr.ev 37 [.ptr 0 0,.str s] (inE L p 0 0) 84 4 Kp K):=by
 rw[i_r (i_mark hL (by omega) s)];cases ht:Ex.isT (L.map (·.1)) p 4 s
 ·exact h0 ht
 ·exact h1 ht (by simpa using Ex.isT_lt ht)
end
theorem zlW{L:List Lx.TA}{p:Nat}(hQ:QR L)(hp:p≤L.length):outI L encE (Qy.exprR (L.map (·.1)) p) (pr.ev 38 [.ptr 0 0] [inE L p 0 0]):=by
 refine i_of rfl rfl rfl (zhr _ _ _ _ _ _ _) ?_;have hl:=hQ.len;have hp':p≤(L.map (·.1)).length:=by simpa using hp
 have he0:(Vm.V.agg [(.int .i64 0),(.str []),(.int .i64 0),(.int .i64 0),(.str []),(.str []),(.str []),(.int .i64 0),(.bool false),(.bool false),(.list [])])=encE Ex.e0:=by simp only[Ex.e0,enc_mk,expC_mk];rfl
 rcases Qy.exprR_run hp' with⟨e,q,h⟩|⟨q,h⟩
 ·have hP:=zxZ (by omega) hQ.good hQ.two hp h (fun e' q' he=>by cases he;exact hQ.cnt p _ _ _ hp h);simp only[parV]at hP;unfold Qy.exprR;rw[h];dsimp only;by_cases hd:Ex.deep e≤24
  ·rw[if_pos hd]at hP ⊢;show _=_;simp[-Int.natCast_add,zcV,zaa hP,rtn]
  ·rw[if_neg hd]at hP ⊢;exact zaT (by decide) Ex.e0 (p':=p) (by simp[-Int.natCast_add,zcV,zaa hP,i_r (zlq (L:=L) (p:=p) 12 p),rtn,he0])
 ·have hP:=zxZ (by omega) hQ.good hQ.two hp h (fun e' q' he=>by cases he);simp only[parV]at hP;unfold Qy.exprR;rw[h];exact zaT (by decide) Ex.e0 (p':=p) (by simp[-Int.natCast_add,zcV,zaa hP,i_r (zlq (L:=L) (p:=p) 20 q),rtn,he0])
end
section
open Go.RowKit
open Vm
variable[Gl]
theorem zoX(x:Qy.Item):wf (itC x)=true:=by
 obtain⟨e,n,b,t⟩:=x;have:=zdh e;obtain⟨k,o,v,t',nm,s,g,d,l⟩:=e;simp only[itC,expC_mk,enc_mk]at this ⊢;simpa[wf,wfs]using this
theorem tmC_wf(x:Qy.Term):wf (tmC x)=true:=by
 obtain⟨e,n,b⟩:=x;have:=zdh e;obtain⟨k,o,v,t',nm,s,g,d,l⟩:=e;simp only[tmC,expC_mk,enc_mk]at this ⊢;simpa[wf,wfs]using this
theorem zqF{α:Type}{enc:α→Vm.V}(h:∀a,wf (enc a)=true)(l:List α):wfs (l.map enc)=true:=zbf.2 fun v hv=>by
 obtain⟨x,_,rfl⟩:=qa55.1 hv;exact h x
theorem oeq_i{v:Vm.V}{L:List Lx.TA}{p w:Nat}{e:Int}(h:wf v=true):oeq (.ret v,[inE L p e w]) (.ret v,[inE L p e w])=true:=by
 have h1:veqs (L.map tokM) (L.map tokM)=true:=zdm (zhd L);simp[oeq,eeqs,eeq,inE, -zap, -zvE, -id_fold1,veqs,veq,h1,zf9 h]
theorem ag_i{α:Type}{L:List Lx.TA}{enc:α→Vm.V}{r:Qy.Rs α}{A:Option Out}(hw:∀a,wf (enc a)=true)(h:outI L enc r A):outI L enc r (ag oeq A):=by
 cases r with
 |ok a q=>exact zf7 h (oeq_i (hw a))
 |stop q e=>
  obtain⟨h0,a,p',h1⟩:=h;exact⟨h0,a,p',zf7 h1 (oeq_i (hw a))⟩
theorem ag_id{A:Option Out}{v:Vm.V}{L:List Lx.TA}{p w:Nat}{e:Int}(h:A=some (.ret v,[inE L p e w]))(hw:wf v=true):ag oeq A=some (.ret v,[inE L p e w]):=zf7 h (oeq_i hw)
theorem zwY{A:Option (Stp Out)}{l:List Vm.V}(h:A=some (.next l))(hw:wfs l=true):ag (eqS oeq) A=some (.next l):=zf7 h (zdm hw)
section
variable{Z:Type}{L:List Lx.TA}{p w:Nat}{e:Int}(he:¬e=0)(Kp K:Vm.V→Ent→Option Z)
include he
@[simp] theorem cd_wrong (a b:Int):cl1 pr.ev 83 [.ptr 0 0,.int .i64 a,.int .i64 b] (inE L p e w) 84 4 Kp K=K (.tup []) (inE L p e w):=i_r (zs4 he a b) _ _
@[simp] theorem cd_is (a k:Int) (s:List UInt8):cl1 pr.ev 82 [.ptr 0 0,.int .i64 a,.int .i64 k,.str s] (inE L p e w) 84 4 Kp K=K (.bool false) (inE L p e w):=i_r (zy9 he a k s) _ _
@[simp] theorem zur (s:List UInt8):cl1 pr.ev 34 [.ptr 0 0,.str s] (inE L p e w) 84 4 Kp K=K (.bool false) (inE L p e w):=i_r (zvF he s) _ _
@[simp] theorem cd_mark (s:List UInt8):cl1 pr.ev 37 [.ptr 0 0,.str s] (inE L p e w) 84 4 Kp K=K (.bool false) (inE L p e w):=i_r (i_mark_d he s) _ _
@[simp] theorem cd_must (s:List UInt8):cl1 pr.ev 35 [.ptr 0 0,.str s] (inE L p e w) 84 4 Kp K=K (.tup []) (inE L p e w):=i_r (i_must_d he s) _ _
@[simp] theorem cd_name:cl1 pr.ev 113 [.ptr 0 0] (inE L p e w) 84 4 Kp K=K (.str []) (inE L p e w):=i_r (i_name_d he) _ _
@[simp] theorem zzW:cl1 pr.ev 38 [.ptr 0 0] (inE L p e w) 84 4 Kp K=K (encE Ex.e0) (inE L p e w):=i_r (i_expr_d he) _ _
end
section
variable{L:List Lx.TA}{p w:Nat}{e:Int}(he:¬e=0)
include he
theorem zui(l:List Ex.E):lup Out (zcI pr.ev lup) [rdV L p e w,.list (l.map encE)]=some (.ret (.list (l.map encE)),[inE L p e w]):=by
 rw[zan];simp[-Int.natCast_add,zcI,he,rtn]
theorem zza:pr.ev 81 [.ptr 0 0] [inE L p e w]=some (.ret (.list ([Ex.e0].map encE)),[inE L p e w]):=by
 refine pr.of rfl rfl rfl (zgW _ _ _ _ _ _ _) ?_;have:=zui (L:=L) (p:=p) (w:=w) he [Ex.e0];simpa[-Int.natCast_add,zgf,he]using this
theorem i_item_d:pr.ev 79 [.ptr 0 0] [inE L p e w]=some (.ret (itC ⟨Ex.e0,[],false,[]⟩),[inE L p e w]):=by
 refine pr.of rfl rfl rfl (zhq _ _ _ _ _ _ _) ?_;have h:zaz pr.ev lup (.bool false) (rdV L p e w)=some (.ret (itC ⟨Ex.e0,[],false,[]⟩),[inE L p e w]):=by
  simp[-Int.natCast_add, -nm_a,zaz,he,rtn,zuf]
 simp[-Int.natCast_add, -nm_a,zgK,he];exact ag_id (ag_id h (zoX _)) (zoX _)
theorem ztE(n:List UInt8):zbI pr.ev lup (rdV L p e w) (.agg [.str n,.str [],.int .i64 0,.nils])=some (.ret (frC ⟨n,n,0,[]⟩),[inE L p e w]):=by
 simp[-Int.natCast_add,zbI,he,rtn,ckA_agg,frC]
theorem zs5(m:Int):pr.ev 114 [.ptr 0 0,.int .i64 m] [inE L p e w]=some (.ret (frC ⟨[],[],0,[]⟩),[inE L p e w]):=by
 refine pr.of rfl rfl rfl (zgV _ _ _ _ _ _ _ _) ?_;have:=ztE (L:=L) (p:=p) (w:=w) he [];by_cases h6:6≤m<;>simpa[-Int.natCast_add,zge,he,ckA_agg,h6]using this
theorem zi1(l:List Qy.From):lup Out (zay pr.ev lup) [rdV L p e w,.list (l.map frC)]=some (.ret (.list (l.map frC)),[inE L p e w]):=by
 rw[zan];simp[-Int.natCast_add,zay,he,rtn]
theorem zwE:pr.ev 80 [.ptr 0 0] [inE L p e w]=some (.ret (.list ([⟨[],[],0,[]⟩].map frC)),[inE L p e w]):=by
 refine pr.of rfl rfl rfl (zgk _ _ _ _ _ _ _) ?_;have:=zi1 (L:=L) (p:=p) (w:=w) he [⟨[],[],0,[]⟩];simpa[-Int.natCast_add,zfO,i_r (zs5 he 0),zbr.nm,zbr.ck]using this
end
section
variable{Z:Type}{L:List Lx.TA}{p w:Nat}{e:Int}(he:¬e=0)(Kp K:Vm.V→Ent→Option Z)
include he
@[simp] theorem cd_exprs:cl1 pr.ev 81 [.ptr 0 0] (inE L p e w) 84 4 Kp K=K (.list ([Ex.e0].map encE)) (inE L p e w):=i_r (zza he) _ _
@[simp] theorem cd_item:cl1 pr.ev 79 [.ptr 0 0] (inE L p e w) 84 4 Kp K=K (itC ⟨Ex.e0,[],false,[]⟩) (inE L p e w):=i_r (i_item_d he) _ _
@[simp] theorem cd_table (m:Int):cl1 pr.ev 114 [.ptr 0 0,.int .i64 m] (inE L p e w) 84 4 Kp K=K (frC ⟨[],[],0,[]⟩) (inE L p e w):=i_r (zs5 he m) _ _
@[simp] theorem cd_tables:cl1 pr.ev 80 [.ptr 0 0] (inE L p e w) 84 4 Kp K=K (.list ([⟨[],[],0,[]⟩].map frC)) (inE L p e w):=i_r (zwE he) _ _
end
end
section
open Go.RowKit
open Vm
variable[Gl]
theorem name_isK{L:List Lx.T}{p q:Nat}{n:List UInt8}(h:Qy.name L p=.ok n q):Ex.isK L p 1=true:=by
 unfold Qy.name at h;unfold Ex.isK;cases ht:L[p]? with
 |none=>rw[ht]at h;cases h
 |some t=>
  rw[ht]at h;dsimp only at h ⊢;by_cases hk:t.kind=1
  ·simp[hk]
  ·rw[if_neg hk]at h;cases h
theorem name_noK{L:List Lx.T}{p q:Nat}{e:Int}(h:Qy.name L p=.stop q e):Ex.isK L p 1=false:=by
 unfold Qy.name at h;unfold Ex.isK;cases ht:L[p]? with
 |none=>rfl
 |some t=>
  rw[ht]at h;dsimp only at h ⊢;by_cases hk:t.kind=1
  ·rw[if_pos hk]at h;cases h
  ·simp[hk]
section
variable{L:List Lx.TA}(hQ:QR L)
include hQ
theorem zo0:∀(n:Nat)(acc:List Ex.E)(p:Nat),p≤L.length→L.length+1≤n+p→acc.length≤p →
  outI L (fun l=>.list (l.map encE)) (Qy.sev (L.map (·.1)) (Qy.exprR (L.map (·.1))) n acc p) (lup Out (zcI pr.ev lup) [rdV L p 0 ((0:Nat):Int),.list (acc.map encE)])
 |0,_,p,hp,hn,_=>by omega
 |n+1,acc,p,hp,hn,ha=>by
  have hl:=hQ.len;rw[zan,Qy.sev];delta zcI;dsimp only;refine zy5 (G:=fun o=>outI L _ _ (stp _ o)) hl hp (s:=Ex.zdH) (fun h hlt=>?_) fun h=>?_
  ·rw[if_pos h];have iq:=zd2 (L:=L) (p+1) (zcO hlt);simp only[cnd,id_0,id_1,id_2,id_3,zap,gt_0,gt_s];refine i_go (G:=fun o=>outI L _ _ (stp _ o)) (zlW hQ hlt) (fun a q hq=>?_) fun a p' q e he hq=>?_
   ·rw[hq]at iq ⊢;have h2:=zdD iq;have hap:=zfI zmO (b:=128) (by omega) acc a (by omega);have ih:=zo0 n (acc++[a]) q h2.2 (by omega) (by simp;omega);simp only[zbw,za0,hap,qa31,zce,id_0,id_1,id_2,id_3,zau,Qy.bind_ok];exact ih
   ·rw[hq];have hap:=zfI zmO (b:=128) (by omega) acc a (by omega);have hd:=zui (L:=L) (p:=p') (w:=q) he (acc++[a]);refine zaT he (acc++[a]) (p':=p') ?_;simp only[zbw,za0,hap,qa31,zce,id_0,id_1,id_2,id_3,zau];exact hd
  ·rw [if_neg (by rw [h];decide)];show _=_;simp[-Int.natCast_add,rtn]
theorem i_exprs{p:Nat}(hp:p≤L.length):outI L (fun l=>.list (l.map encE)) (Qy.several (L.map (·.1)) (Qy.exprR (L.map (·.1))) p) (pr.ev 81 [.ptr 0 0] [inE L p 0 0]):=by
 refine i_of rfl rfl rfl (zgW _ _ _ _ _ _ _) ?_;have iq:=zd2 (L:=L) p (zcO hp);unfold Qy.several;delta zgf;dsimp only;refine i_go (zlW hQ hp) (fun a q hq=>?_) fun a p' q e he hq=>?_
 ·rw[hq]at iq ⊢;have h2:=zdD iq;simp only[zbw,za0,id_0,id_1,id_2,id_3,zau,Qy.bind_ok];exact zo0 hQ ((L.map (·.1)).length+1) [a] q h2.2 (by simp) (by simp;omega)
 ·rw[hq];refine zaT he [a] (p':=p') ?_;simp only[zbw,za0,id_0,id_1,id_2,id_3,zau];exact zui he [a]
theorem i_item{p:Nat}(hp:p≤L.length):outI L itC (Qy.item (L.map (·.1)) (Qy.exprR (L.map (·.1))) p) (pr.ev 79 [.ptr 0 0] [inE L p 0 0]):=by
 refine i_of rfl rfl rfl (zhq _ _ _ _ _ _ _) ?_;have hl:=hQ.len;have fin:(Ex.isK (L.map (·.1)) p 1 && (Ex.isT (L.map (·.1)) (p+1) 4 Ex.mDot && Ex.isT (L.map (·.1)) (p+2) 4 Ex.zem))=false→Ex.isT (L.map (·.1)) p 4 Ex.zem=false →
   outI L itC (Qy.item (L.map (·.1)) (Qy.exprR (L.map (·.1))) p) (zaz pr.ev lup (.bool false) (rdV L p 0 ((0:Nat):Int))):=by
  intro hb h0;unfold Qy.item;rw[if_neg (by rw[h0];decide),if_neg (by rw[hb];decide)];simp only[zaz,cnd,rd_0,rd_1,rd_2,rd_3,zap];refine i_go (zlW hQ hp) (fun e q hq=>?_) fun a p' q e he hq=>?_
  ·rw[hq];have iq:=zd2 (L:=L) p (zcO hp);rw[hq]at iq;have hq2:=(zdD iq).2;simp only[za0,Qy.bind_ok,zuf,zue,id_0,id_1,id_2,id_3,zap];refine ziw hl hq2 (s:=Ex.wAs) (fun h hlt=>?_) fun h=>?_
   ·rw[if_pos h];simp only[cnd,id_0,id_1,id_2,id_3,zap];refine i_go (zy8 hl (by omega)) (fun n r hn=>?_) fun a p' r e he hn=>?_
    ·rw[hn];show _=_;simp[-Int.natCast_add,rtn,zuf]
    ·rw[hn];exact zaT he _ (p':=p') (by simp[-Int.natCast_add,rtn,zuf];rfl)
   ·rw [if_neg (by rw [h];decide)];show _=_;simp[-Int.natCast_add,rtn]
  ·rw[hq];exact zaT he ⟨a,[],false,[]⟩ (p':=p') (by simp[-Int.natCast_add, -nm_a,rtn,zuf,he])
 delta zgK;dsimp only;refine zy5 hl hp (s:=Ex.zem) (fun h hlt=>?_) fun h0=>?_
 ·unfold Qy.item;rw[if_pos h];show _=_;simp[-Int.natCast_add,rtn,znS]
 ·have hb0:b0 .eql (.int .i64 0) (.int .i64 0)=some (.bool true):=rfl;simp only[cnd,id_0,id_1,id_2,id_3,zap,zau,hb0,qa31,zm7,qa44];refine ag_i zoX ?_;have c0:∀t:Lx.TA,ldV false 1 (tokM t) 0=some (.int .i64 t.1.kind):=fun _=>rfl;have c1:∀t:Lx.TA,ldV false 1 (tokM t) 1=some (.str t.1.text):=fun _=>rfl;by_cases hlt:p<L.length
  ·have ht:L[p]?=some L[p]:=qa11 hlt;rw[show b0 .lss (.int .i64 (p:Int)) (.int .i64 (L.length:Int))=some (.bool true)by simp[hlt]];simp only[qa31,cnd];refine ag_i zoX ?_;simp only[zfr,ht,qa46,qa31,c0];have hK:Ex.isK (L.map (·.1)) p 1=decide (L[p].1.kind=1):=by unfold Ex.isK;rw[qa24,ht];rfl
   by_cases hk:L[p].1.kind=1
   ·rw [show b0 .eql (.int .i64 L[p].1.kind) (.int .i64 1)=some (.bool true) by simp [hk]];simp only[qa31,cnd];have i1:pr.ev 82 [.ptr 0 0,.int .i64 1,.int .i64 4,.str [46]] [inE L p 0 0]=_:=i_is hl (show p≤999900 by omega) 1 (by omega) 4 Ex.mDot;rw[i_r i1];cases b1:Ex.isT (L.map (·.1)) (p+1) 4 Ex.mDot
    ·simp only[cnd,id_0,id_1,id_2,id_3,zau];exact fin (by rw[b1];simp) h0
    ·simp only[cnd,id_0,id_1,id_2,id_3,zap];have i2:pr.ev 82 [.ptr 0 0,.int .i64 2,.int .i64 4,.str [42]] [inE L p 0 0]=_:=i_is hl (show p≤999900 by omega) 2 (by omega) 4 Ex.zem;rw[i_r i2];cases b2:Ex.isT (L.map (·.1)) (p+2) 4 Ex.zem
     ·simp only[id_0,id_1,id_2,id_3,zau];exact fin (by rw[b2];simp) h0
     ·have hlt:=Ex.isT_lt b2;rw[qa44]at hlt;unfold Qy.item;rw[if_neg (by rw[h0];decide),if_pos (by rw[hK,b1,b2];simp[hk])];have hw:IntKind.wrap .i64 ((p:Int)+3)=((p+3:Nat):Int):=by rw[zcd (by omega) (by omega)];simp
      have hw2:IntKind.wrap .i64 (((p+3:Nat):Int)-3)=(p:Int):=by rw[zcd (by omega) (by omega)];omega
      have hx:Qy.txt (L.map (·.1)) p=L[p].1.text:=by unfold Qy.txt;rw[qa24,ht];rfl
      show _=_;simp[-Int.natCast_add,zaz,hw,hw2,ht,rtn,ckA_agg,znS,hx,c1]
   ·rw [show b0 .eql (.int .i64 L[p].1.kind) (.int .i64 1)=some (.bool false) by simp [hk]];simp only[qa31,cnd];exact fin (by rw[hK];simp[hk]) h0
  ·rw [show b0 .lss (.int .i64 (p:Int)) (.int .i64 (L.length:Int))=some (.bool false) by simp [hlt]];simp only[qa31,cnd];refine ag_i zoX (fin ?_ h0);have:L[p]?=none:=by simpa using hlt
   unfold Ex.isK;rw[qa24,this];rfl
def frT(f:Qy.From):Vm.V:=frC ⟨f.table,f.as_,0,f.on⟩
theorem zy7{p:Nat}(hp:p≤L.length)(m:Nat)(hm:m≤1000000)(j:Int):outI L frT (Qy.table (L.map (·.1)) m j p) (pr.ev 114 [.ptr 0 0,.int .i64 (m:Int)] [inE L p 0 0]):=by
 refine i_of rfl rfl rfl (zgV _ _ _ _ _ _ _ _) ?_;have hl:=hQ.len;unfold Qy.table;delta zge;dsimp only;refine i_go (zy8 hl (by omega)) (fun n q hq=>?_) fun a p' q e he hq=>?_
 ·have hK:=name_isK hq;have iq:=Qy.name_in (L:=L.map (·.1)) (p:=p) (zcO hp);rw[hq]at iq;have hq2:=(zdD iq).2;by_cases h6:6≤m
  ·have h6i:(6:Int)≤(m:Int):=by omega
   rw[if_pos (by rw[hK];simpa using h6)];refine zaT (by decide) ⟨n,n,j,[]⟩ (p':=q) ?_;simp[-Int.natCast_add,ckA_agg,h6i,i_r (zlq (L:=L) (p:=q) 3 p),ztE (L:=L) (p:=q) (w:=p) (e:=3) (by decide) n,frT]
  ·have h6i:¬ (6:Int)≤(m:Int):=by omega
   rw[if_neg (by simp[h6]),hq,Qy.bind_ok];simp only[ztp];rw[show ∀(A:Option Out),ckA 4 (.agg [.str n,.str [],.int .i64 0,.nils]) A=A from fun A=>ckA_agg _ _ rfl rfl];rw[show b0 .geq (.int .i64 (m:Int)) (.int .i64 6)=some (.bool false)by simp[h6i]];simp only[qa31,cnd,zbI,zbS,qb4,id_0,id_1,id_2,id_3,zap,ztp];refine ziw hl hq2 (s:=Ex.wAs) (fun h hlt=>?_) fun h=>?_
   ·rw[if_pos h];simp only[cnd,id_0,id_1,id_2,id_3,zap];refine i_go (zy8 hl (by omega)) (fun k r hn=>?_) fun a p' r e he hn=>?_
    ·rw[hn];show _=_;simp[-Int.natCast_add,rtn,ckA_agg,frC,frT]
    ·rw[hn];exact zaT he ⟨n,a,j,[]⟩ (p':=p') (by simp[-Int.natCast_add,rtn,ckA_agg,frC,frT])
   ·rw [if_neg (by rw [h];decide)];show _=_;simp[-Int.natCast_add,rtn,ckA_agg,frC,frT]
 ·have hK:=name_noK hq;rw[if_neg (by rw[hK];simp),hq];refine zaT he ⟨a,a,j,[]⟩ (p':=p') ?_;have:=ztE (L:=L) (p:=p') (w:=q) he a;by_cases h6:(6:Int)≤(m:Int)<;>simpa[-Int.natCast_add,ckA_agg,h6,he,frT]using this
end
end
section
open Go.RowKit
open Vm
variable[Gl]
theorem zpI{L:List Lx.T}{m p r:Nat}{j:Int}{f:Qy.From}(h:Qy.table L m j p=.ok f r):f.join=j:=by
 unfold Qy.table at h;split at h
 ·cases h
 ·cases hn:Qy.name L p with
  |stop q e=>rw[hn]at h;cases h
  |ok n q=>
   rw[hn,Qy.bind_ok]at h;split at h
   ·cases hm:Qy.name L (q+1)with
    |stop q e=>rw[hm]at h;cases h
    |ok n q=>rw[hm]at h;cases h;rfl
   ·cases h;rfl
theorem isT_one{L:List Lx.T}{p:Nat}{k:Int}{s s':List UInt8}(h:Ex.isT L p k s=true)(hs:s≠s'):Ex.isT L p k s'=false:=by
 unfold Ex.isT at h ⊢;cases ht:L[p]? with
 |none=>rfl
 |some t=>
  rw[ht]at h;simp only[qa32,beq_iff_eq]at h;simp[h.2,hs]
theorem fr0(t a:List UInt8)(k:Int):Vm.V.agg [.str t,.str a,.int .i64 k,.list []]=frC ⟨t,a,k,[]⟩:=rfl
theorem fr1(t a:List UInt8)(k:Int)(e:Ex.E):Vm.V.agg [.str t,.str a,.int .i64 k,.list [encE e]]=frC ⟨t,a,k,[e]⟩:=rfl
theorem frx(t a:List UInt8)(k:Int)(l:List Ex.E):Vm.V.agg [.str t,.str a,.int .i64 k,.list (l.map encE)]=frC ⟨t,a,k,l⟩:=rfl
theorem fc0(f:Qy.From):cell (frC f) 0=.str f.table:=rfl
theorem fc1(f:Qy.From):cell (frC f) 1=.str f.as_:=rfl
theorem fc3(f:Qy.From):cell (frC f) 3=.list (f.on.map encE):=rfl
theorem tabs_jd{L:List Lx.TA}{p w:Nat}{e:Int}(he:¬e=0)(acc:List Qy.From)(ha:acc.length≤999800)(k:Int)(hk:0≤k):
  stp (lup Out (zay pr.ev lup)) (zak pr.ev lup (.int .i64 k) (rdV L p e w) (.list (acc.map frC)))=some (.ret (frL (acc++[⟨[],[],k,if k=0 then[]else[Ex.e0]⟩])),[inE L p e w]):=by
 have h0:¬k<0:=by omega
 have hd:=zi1 (L:=L) (p:=p) (w:=w) he (acc++[⟨[],[],k,if k=0 then[]else[Ex.e0]⟩]);have hap:=zfI zbr (b:=64) (by omega) acc ⟨[],[],k,if k=0 then[]else[Ex.e0]⟩ (by omega);by_cases h1:k=0
 ·subst h1;simp only[qa60]at hd hap ⊢;simp[-Int.natCast_add, -List.map_append, -nm_a,zak,zas,he,zbr.ck,zbr.nm,fc0,fc1,fc3,fr0,hap,hd,frL]
 ·simp only[h1,qa59]at hd hap ⊢;simp[-Int.natCast_add, -List.map_append, -nm_a,zak,zas,he,h0,h1,zbr.ck,zbr.nm,fc0,fc1,fc3,fr1,hap,hd,frL]
section
variable{L:List Lx.TA}(hQ:QR L)
include hQ
theorem tabs_j{n:Nat}{acc:List Qy.From}{q:Nat}(hq:q≤L.length)(ha:acc.length≤999800)(k:Int)(hk:0≤k)
  (ih:∀f r,q+1≤r→r≤L.length→outI L frL (Qy.tabs (L.map (·.1)) (Qy.exprR (L.map (·.1))) n (acc++[f]) r) (lup Out (zay pr.ev lup) [rdV L r 0 ((0:Nat):Int),.list ((acc++[f]).map frC)])):
  outI L frL ((Qy.table (L.map (·.1)) acc.length k q).bind fun f r=>
   if k=0 then Qy.tabs (L.map (·.1)) (Qy.exprR (L.map (·.1))) n (acc++[f]) r
   else(Qy.must (L.map (·.1)) Qy.wOn r).bind fun _ r2=>(Qy.exprR (L.map (·.1)) r2).bind fun e r3=>Qy.tabs (L.map (·.1)) (Qy.exprR (L.map (·.1))) n (acc++[⟨f.table,f.as_,f.join,[e]⟩]) r3)
   (stp (lup Out (zay pr.ev lup)) (zak pr.ev lup (.int .i64 k) (rdV L q 0 ((0:Nat):Int)) (.list (acc.map frC)))):=by
 have hl:=hQ.len;have hb:b0 .lss (.int .i64 k) (.int .i64 0)=some (.bool false):=by simp;omega
 have hap:=fun f=>zfI zbr (b:=64) (by omega) acc f (by omega);simp only[zak,hb,qa31,cnd,zm7,qa44,rd_0,rd_1,rd_2,rd_3,zap,nm_i];refine i_go (G:=fun o=>outI L _ _ (stp _ o)) (zy7 hQ hq acc.length (by omega) k) (fun f r hr=>?_) fun f p' r e he hr=>?_
 ·have ir:=Qy.table_in (L:=L.map (·.1)) acc.length k (zcO hq);have hj:=zpI hr;rw[hr]at ir ⊢;obtain⟨g1,g2⟩:=zdD ir;simp only[frT,zbr.ck,zpz,fc0,fc1,fc3,Qy.bind_ok];by_cases h0:k=0
  ·subst h0;have hn:b0 .neq (.int .i64 0) (.int .i64 0)=some (.bool false):=rfl;rw[if_pos rfl];have e1:(⟨f.table,f.as_,0,f.on⟩:Qy.From)=f:=by rw[←hj]
   simp only[hn,qa31,cnd,zas,id_0,id_1,id_2,id_3,zau,frx,zbr.nm,zbr.ck,hap,za2,zce,e1];exact ih f r g1 g2
  ·have hn:b0 .neq (.int .i64 k) (.int .i64 0)=some (.bool true):=by simp [h0]
   rw[if_neg h0];simp only[hn,qa31,cnd,id_0,id_1,id_2,id_3,zap];refine i_go (G:=fun o=>outI L _ _ (stp _ o)) (zs6 hl (by omega) Qy.wOn) (fun u t ht=>?_) fun u p' t e he ht=>?_
   ·have it:=Qy.must_in (L:=L.map (·.1)) Qy.wOn (zcO g2);rw[ht]at it ⊢;obtain⟨g3,g4⟩:=zdD it;simp only[Qy.bind_ok,id_0,id_1,id_2,id_3,zap];refine i_go (G:=fun o=>outI L _ _ (stp _ o)) (zlW hQ g4) (fun a s hs=>?_) fun a p' s e he hs=>?_
    ·have is:=zd2 (L:=L) t (zcO g4);rw[hs]at is ⊢;obtain⟨g5,g6⟩:=zdD is;simp only[Qy.bind_ok,zas,zbw,za0,id_0,id_1,id_2,id_3,zau,fr1,zbr.nm,zbr.ck,hap,za2,zce,qa31];rw[←hj];exact ih _ s (by omega) g6
    ·rw[hs];refine zaT he (acc++[⟨f.table,f.as_,k,[a]⟩]) (p':=p') ?_;simp only[zas,zbw,za0,id_0,id_1,id_2,id_3,zau,fr1,zbr.nm,zbr.ck,hap,za2,zce,qa31];exact zi1 he _
   ·rw[ht];refine zaT he (acc++[⟨f.table,f.as_,k,[Ex.e0]⟩]) (p':=p') ?_;simp only[zas,zzW he,zbw,za0,id_0,id_1,id_2,id_3,zap,zau,fr1,zbr.nm,zbr.ck,hap,za2,zce,qa31];exact zi1 he _
 ·rw[hr];refine zaT he (acc++[⟨f.table,f.as_,k,if k=0 then f.on else[Ex.e0]⟩]) (p':=p') ?_;by_cases h0:k=0
  ·subst h0;have hn:b0 .neq (.int .i64 0) (.int .i64 0)=some (.bool false):=rfl;simp only[qa60,frT,zbr.ck,zpz,fc0,fc1,fc3,hn,qa31,cnd,zas,id_0,id_1,id_2,id_3,zau,frx,zbr.nm,hap,za2,zce];exact zi1 he _
  ·have hn:b0 .neq (.int .i64 k) (.int .i64 0)=some (.bool true):=by simp [h0]
   simp only[h0,qa59,frT,zbr.ck,zpz,fc0,fc1,fc3,hn,qa31,cnd,cd_must he,zzW he,zbw,za0,zas,id_0,id_1,id_2,id_3,zap,zau,fr1,zbr.nm,hap,za2,zce];exact zi1 he _
theorem zqg:∀(n:Nat)(acc:List Qy.From)(p:Nat),p≤L.length→L.length+1≤n+p→acc.length≤p →
  outI L frL (Qy.tabs (L.map (·.1)) (Qy.exprR (L.map (·.1))) n acc p) (lup Out (zay pr.ev lup) [rdV L p 0 ((0:Nat):Int),.list (acc.map frC)])
 |0,_,p,hp,hn,_=>by omega
 |n+1,acc,p,hp,hn,ha=>by
  have hl:=hQ.len;have hb0:b0 .eql (.int .i64 0) (.int .i64 0)=some (.bool true):=rfl;have jn:=fun(k:Int)(hk:0≤k)(q:Nat)(h1:p≤q)(h2:q≤L.length)=>tabs_j hQ (n:=n) (acc:=acc) h2 (by omega) k hk (fun f r h3 h4=>zqg n (acc++[f]) r h4 (by omega) (by simp;omega));have mj:∀ (k:Int),0≤k→p < L.length→outI L frL (((Qy.must (L.map (·.1)) Qy.wJoin (p+1)).bind fun _ q=>.ok (some k) q).bind fun j q=>match j with
    |none=>.ok acc q
    |some k=>(Qy.table (L.map (·.1)) acc.length k q).bind fun f r=>
     if k=0 then Qy.tabs (L.map (·.1)) (Qy.exprR (L.map (·.1))) n (acc++[f]) r
     else(Qy.must (L.map (·.1)) Qy.wOn r).bind fun _ r2=>(Qy.exprR (L.map (·.1)) r2).bind fun e r3=>Qy.tabs (L.map (·.1)) (Qy.exprR (L.map (·.1))) n (acc++[⟨f.table,f.as_,f.join,[e]⟩]) r3)
    (stp (lup Out (zay pr.ev lup)) (cl1 pr.ev 35 [(.ptr 0 0),(.str [106,111,105,110])] (inE L (p+1) 0 0) 84 4 (fun v10 v9=>om (pnk v10 [.blk 84 [(zad v9 0),(zad v9 1),(zad v9 2),(zad v9 3)]])) fun v8 v9=>
     zak pr.ev lup (.int .i64 k) (.agg [(zad v9 0),(zad v9 1),(zad v9 2),(zad v9 3)]) (.list (acc.map frC)))):=fun k hk hlt=>by
   refine i_go (G:=fun o=>outI L _ _ (stp _ o)) (zs6 hl (show p+1≤999900 by omega) Qy.wJoin) (fun u t ht=>?_) fun u p' t e he ht=>?_
   ·have it:=Qy.must_in (L:=L.map (·.1)) (p:=p+1) Qy.wJoin (by rw [qa44];omega);rw[ht]at it ⊢;obtain⟨g3,g4⟩:=zdD it;simp only[Qy.bind_ok,id_0,id_1,id_2,id_3,zau];exact jn k hk t (by omega) g4
   ·rw[ht];refine zaT he (acc++[⟨[],[],k,if k=0 then[]else[Ex.e0]⟩]) (p':=p') ?_;simp only[id_0,id_1,id_2,id_3,zau];exact tabs_jd he acc (by omega) k hk
  rw[zan,Qy.tabs];unfold Qy.join;simp only[zay,gt_0,gt_s,rd_0,rd_1,rd_2,rd_3,zap,hb0,qa31,cnd];refine zy5 (G:=fun o=>outI L _ _ (stp _ o)) hl hp (s:=Ex.zdH) (fun h hlt=>?_) fun h=>?_
  ·rw[if_pos h];simp only[Qy.bind_ok,id_0,id_1,id_2,id_3,zau];exact jn 0 (by omega) (p+1) (by omega) hlt
  rw[if_neg (by rw[h];decide)];simp only[id_0,id_1,id_2,id_3,zap];refine ziw (G:=fun o=>outI L _ _ (stp _ o)) hl hp (s:=Qy.wCross) (fun h hlt=>?_) fun h=>?_
  ·rw[if_pos h];simp only[id_0,id_1,id_2,id_3,zap];exact mj 0 (by omega) hlt
  rw[if_neg (by rw[h];decide)];simp only[id_0,id_1,id_2,id_3,zap];refine ziw (G:=fun o=>outI L _ _ (stp _ o)) hl hp (s:=Qy.wInner) (fun h hlt=>?_) fun h=>?_
  ·rw[if_pos h];simp only[id_0,id_1,id_2,id_3,zap];exact mj 1 (by omega) hlt
  rw[if_neg (by rw[h];decide)];simp only[id_0,id_1,id_2,id_3,zap];refine ziw (G:=fun o=>outI L _ _ (stp _ o)) hl hp (s:=Qy.wJoin) (fun h hlt=>?_) fun h2=>?_
  ·rw [if_neg (by rw [isT_one h (by decide:Qy.wJoin≠Qy.wLeft)];decide),if_pos h];simp only[Qy.bind_ok,id_0,id_1,id_2,id_3,zau];exact jn 1 (by omega) (p+1) (by omega) hlt
  simp only[id_0,id_1,id_2,id_3,zap];refine ziw (G:=fun o=>outI L _ _ (stp _ o)) hl hp (s:=Qy.wLeft) (fun h hlt=>?_) fun h=>?_
  ·rw[if_pos h];simp only[id_0,id_1,id_2,id_3,zap];exact mj 2 (by omega) hlt
  rw[if_neg (by rw[h];decide),if_neg (by rw[h2];decide)];show _=_;simp[-Int.natCast_add,zak,rtn,frL]
theorem i_tables{p:Nat}(hp:p≤L.length):outI L frL (Qy.tables (L.map (·.1)) (Qy.exprR (L.map (·.1))) p) (pr.ev 80 [.ptr 0 0] [inE L p 0 0]):=by
 refine i_of rfl rfl rfl (zgk _ _ _ _ _ _ _) ?_;have iq:=Qy.table_in (L:=L.map (·.1)) 0 0 (zcO hp);unfold Qy.tables;delta zfO;dsimp only;refine i_go (zy7 hQ hp 0 (by omega) 0) (fun a q hq=>?_) fun a p' q e he hq=>?_
 ·have hj:=zpI hq;rw[hq]at iq ⊢;have h2:=zdD iq;have e1:frT a=frC a:=by unfold frT;rw[←hj]
  simp only[e1,zbr.nm,zbr.ck,id_0,id_1,id_2,id_3,zau,Qy.bind_ok];exact zqg hQ ((L.map (·.1)).length+1) [a] q h2.2 (by simp) (by simp;omega)
 ·rw[hq];refine zaT he [⟨a.table,a.as_,0,a.on⟩] (p':=p') ?_;simp only[frT,zbr.nm,zbr.ck,id_0,id_1,id_2,id_3,zau];exact zi1 he [_]
end
end
section
open Go.RowKit
open Vm
variable[Gl]
structure Ls{α:Type}(enc:α→Vm.V)(v:Vm.V)(l:List α):Prop where
 n:norm0 v=.list (l.map enc)
 o:v.one=true
theorem ls_n{α:Type}(enc:α→Vm.V):Ls enc .nils []:=⟨rfl,rfl⟩
theorem ls_l{α:Type}(enc:α→Vm.V)(l:List α):Ls enc (.list (l.map enc)) l:=⟨rfl,rfl⟩
theorem ls_1{α:Type}(enc:α→Vm.V)(a:α):Ls enc (.list [enc a]) [a]:=⟨rfl,rfl⟩
theorem coC_n{fv wv hv gv iv:Vm.V}{d:Bool}{is:List Qy.Item}{fs:List Qy.From}{ws hs gs:List Ex.E}(hi:Ls itC iv is)(hf:Ls frC fv fs)(hw:Ls encE wv ws)(hh:Ls encE hv hs)(hg:Ls encE gv gs):
  norm1 (.agg [.bool d,iv,fv,wv,hv,gv])=coC ⟨d,is,fs,ws,hs,gs⟩:=by
 simp only[nm_a,qb3,hi.n,hf.n,hw.n,hh.n,hg.n,n0_b,coC]
theorem coC_k{fv wv hv gv iv:Vm.V}{d:Bool}{is:List Qy.Item}{fs:List Qy.From}{ws hs gs:List Ex.E}(hi:Ls itC iv is)(hf:Ls frC fv fs)(hw:Ls encE wv ws)(hh:Ls encE hv hs)(hg:Ls encE gv gs){Z:Type}(A:Option Z):
  ckA 6 (.agg [.bool d,iv,fv,wv,hv,gv]) A=A:=ck6 (by simp[hi.o,hf.o,hw.o,hh.o,hg.o]) A
section
variable{L:List Lx.TA}{p w:Nat}{e:Int}(he:¬e=0){fv wv hv gv iv:Vm.V}{d:Bool}{is:List Qy.Item}{fs:List Qy.From}{ws hs gs:List Ex.E}(hi:Ls itC iv is)(hf:Ls frC fv fs)(hw:Ls encE wv ws)(hh:Ls encE hv hs)(hg:Ls encE gv gs)
include he hi hf hw hh hg
theorem zun:zbk pr.ev lup (rdV L p e w) (.bool d) fv wv hv gv iv=some (.ret (coC ⟨d,is,fs,ws,hs,gs⟩),[inE L p e w]):=by
 simp[-Int.natCast_add, -nm_a,zbk,he,coC_n hi hf hw hh hg,coC_k hi hf hw hh hg,rtn]
theorem zzN:zbl pr.ev lup (rdV L p e w) (.bool d) fv wv hv gv iv=some (.ret (coC ⟨d,is,fs,ws,hs,gs⟩),[inE L p e w]):=by
 have:=zun (L:=L) (p:=p) (w:=w) (d:=d) he hi hf hw hh hg;simp[-Int.natCast_add, -nm_a,zbl,he,this]
theorem zzO:zbm pr.ev lup (rdV L p e w) (.bool d) fv wv hv gv iv=some (.ret (coC ⟨d,is,fs,ws,hs,gs⟩),[inE L p e w]):=by
 have:=zzN (L:=L) (p:=p) (w:=w) (d:=d) he hi hf hw hh hg;simp[-Int.natCast_add, -nm_a,zbm,he,this]
theorem core1_d:zbY pr.ev lup (rdV L p e w) (.bool d) fv wv hv gv iv=some (.ret (coC ⟨d,is,fs,ws,hs,gs⟩),[inE L p e w]):=by
 have:=zzO (L:=L) (p:=p) (w:=w) (d:=d) he hi hf hw hh hg;simp[-Int.natCast_add, -nm_a,zbY,he,this]
end
def coS(L:List Lx.TA)(p:Nat)(e:Int)(w:Nat)(d:Bool)(is:List Qy.Item):List Vm.V:=[rdV L p e w,.agg [.bool false,.nils,.nils,.nils,.nils,.nils],.bool d,.nils,.nils,.nils,.nils,.list (is.map itC)]
section
variable{L:List Lx.TA}{p w:Nat}{e:Int}(he:¬e=0)
include he
theorem zuo(d:Bool)(is:List Qy.Item):lup Out (zbX pr.ev lup) (coS L p e w d is)=some (.ret (coC ⟨d,is,[],[],[],[]⟩),[inE L p e w]):=by
 have:=core1_d (L:=L) (p:=p) (w:=w) (d:=d) he (ls_l itC is) (ls_n frC) (ls_n encE) (ls_n encE) (ls_n encE);rw[zan];simp[-Int.natCast_add, -nm_a,coS,zbX,he,this]
theorem i_op_d:pr.ev 33 [.ptr 0 0] [inE L p e w]=some (.ret (.int .i64 (-1)),[inE L p e w]):=by
 refine pr.of rfl rfl rfl (ziN _ _ _ _ _ _ _) ?_;simp[-Int.natCast_add,zhX,he,rtn]
theorem ztx(x:Ex.E)(k:Int):zbj pr.ev lup (rdV L p e w) (tmC ⟨x,k,false⟩)=some (.ret (tmC ⟨x,k,false⟩),[inE L p e w]):=by
 have hx:Vm.V.agg [cell (tmC ⟨x,k,false⟩) 0,cell (tmC ⟨x,k,false⟩) 1,cell (tmC ⟨x,k,false⟩) 2,cell (tmC ⟨x,k,false⟩) 3,cell (tmC ⟨x,k,false⟩) 4,cell (tmC ⟨x,k,false⟩) 5,cell (tmC ⟨x,k,false⟩) 6,cell (tmC ⟨x,k,false⟩) 7,cell (tmC ⟨x,k,false⟩) 8,cell (tmC ⟨x,k,false⟩) 9,cell (tmC ⟨x,k,false⟩) 10,cell (tmC ⟨x,k,false⟩) 11,.bool false]=tmC ⟨x,k,false⟩:=by cases x;simp only[tmC,expC_mk];rfl
 simp[-Int.natCast_add, -nm_a,zbj,he,rtn,hx]
theorem i_term_d:pr.ev 36 [.ptr 0 0] [inE L p e w]=some (.ret (tmC ⟨Ex.e0,0,false⟩),[inE L p e w]):=by
 refine pr.of rfl rfl rfl (zhm _ _ _ _ _ _ _) ?_;have:=ztx (L:=L) (p:=p) (w:=w) he Ex.e0 0;simpa[-Int.natCast_add, -nm_a,zgJ,he,zxi]using this
end
section
variable{Z:Type}{L:List Lx.TA}{p w:Nat}{e:Int}(he:¬e=0)(Kp K:Vm.V→Ent→Option Z)
include he
@[simp] theorem cd_op:cl1 pr.ev 33 [.ptr 0 0] (inE L p e w) 84 4 Kp K=K (.int .i64 (-1)) (inE L p e w):=i_r (i_op_d he) _ _
@[simp] theorem cd_term:cl1 pr.ev 36 [.ptr 0 0] (inE L p e w) 84 4 Kp K=K (tmC ⟨Ex.e0,0,false⟩) (inE L p e w):=i_r (i_term_d he) _ _
end
section
variable{L:List Lx.TA}(hQ:QR L)
include hQ
theorem zzb{p:Nat}(hp:p≤L.length){fv wv gv iv:Vm.V}{d:Bool}{is:List Qy.Item}{fs:List Qy.From}{ws gs:List Ex.E}(hi:Ls itC iv is)(hf:Ls frC fv fs)(hw:Ls encE wv ws)(hg:Ls encE gv gs):
  outI L coC ((Qy.maybe (L.map (·.1)) (Qy.exprR (L.map (·.1))) Qy.wHaving p).bind fun h q=>.ok ⟨d,is,fs,ws,h,gs⟩ q) (zbk pr.ev lup (rdV L p 0 ((0:Nat):Int)) (.bool d) fv wv .nils gv iv):=by
 have hl:=hQ.len;unfold Qy.maybe;simp only[zbk,rd_0,rd_1,rd_2,rd_3,zap];refine ziw hl hp (s:=Qy.wHaving) (fun h hlt=>?_) fun h=>?_
 ·rw[if_pos h];simp only[cnd,id_0,id_1,id_2,id_3,zap];refine i_go (zlW hQ hlt) (fun x q hq=>?_) fun x p' q e he hq=>?_
  ·rw[hq];show _=_;simp only[zbw,za0,coC_n hi hf hw (ls_1 encE x) hg,coC_k hi hf hw (ls_1 encE x) hg,rtn,id_0,id_1,id_2,id_3,zap]
  ·rw[hq];refine zaT he ⟨d,is,fs,ws,[x],gs⟩ (p':=p') ?_;simp only[zbw,za0,coC_n hi hf hw (ls_1 encE x) hg,coC_k hi hf hw (ls_1 encE x) hg,rtn,id_0,id_1,id_2,id_3,zap]
 ·rw [if_neg (by rw [h];decide)];show _=_;simp only[cnd,coC_n hi hf hw (ls_n encE) hg,coC_k hi hf hw (ls_n encE) hg,rtn,id_0,id_1,id_2,id_3,zap]
theorem zzc{p:Nat}(hp:p≤L.length){fv wv iv:Vm.V}{d:Bool}{is:List Qy.Item}{fs:List Qy.From}{ws:List Ex.E}(hi:Ls itC iv is)(hf:Ls frC fv fs)(hw:Ls encE wv ws):
  outI L coC ((Qy.group (L.map (·.1)) (Qy.exprR (L.map (·.1))) p).bind fun g q4=>(Qy.maybe (L.map (·.1)) (Qy.exprR (L.map (·.1))) Qy.wHaving q4).bind fun h q=>.ok ⟨d,is,fs,ws,h,g⟩ q) (zbl pr.ev lup (rdV L p 0 ((0:Nat):Int)) (.bool d) fv wv .nils .nils iv):=by
 have hl:=hQ.len;unfold Qy.group;simp only[zbl,rd_0,rd_1,rd_2,rd_3,zap];refine ziw hl hp (s:=Qy.wGroup) (fun h hlt=>?_) fun h=>?_
 ·rw[if_pos h];simp only[cnd,id_0,id_1,id_2,id_3,zap];refine i_go (zs6 hl (show p+1≤999900 by omega) Qy.wBy) (fun u q hq=>?_) fun u p' q e he hq=>?_
  ·have iq:=Qy.must_in (L:=L.map (·.1)) (p:=p+1) Qy.wBy (by rw [qa44];omega);rw[hq]at iq ⊢;simp only[Qy.bind_ok,id_0,id_1,id_2,id_3,zap];have g2:=(zdD iq).2;refine i_go (i_exprs hQ g2) (fun g r hr=>?_) fun g p' r e he hr=>?_
   ·have ir:=Qy.several_in (zd2 (L:=L)) (zcO g2);rw[hr]at ir ⊢;simp only[Qy.bind_ok,zmT,id_0,id_1,id_2,id_3,zau];exact zzb hQ (zdD ir).2 hi hf hw (ls_l encE g)
   ·rw[hr];refine zaT he ⟨d,is,fs,ws,[],g⟩ (p':=p') ?_;simp only[zmT,id_0,id_1,id_2,id_3,zau];exact zun he hi hf hw (ls_n encE) (ls_l encE g)
  ·rw[hq];refine zaT he ⟨d,is,fs,ws,[],[Ex.e0]⟩ (p':=p') ?_;simp only[cd_exprs he,zmT,id_0,id_1,id_2,id_3,zap,zau];exact zun he hi hf hw (ls_n encE) (ls_1 encE _)
 ·rw [if_neg (by rw [h];decide)];simp only[cnd,id_0,id_1,id_2,id_3,zau,Qy.bind_ok];exact zzb hQ hp hi hf hw (ls_n encE)
theorem zzd{p:Nat}(hp:p≤L.length){fv iv:Vm.V}{d:Bool}{is:List Qy.Item}{fs:List Qy.From}(hi:Ls itC iv is)(hf:Ls frC fv fs):
  outI L coC ((Qy.maybe (L.map (·.1)) (Qy.exprR (L.map (·.1))) Qy.wWhere p).bind fun w q3=>(Qy.group (L.map (·.1)) (Qy.exprR (L.map (·.1))) q3).bind fun g q4=>(Qy.maybe (L.map (·.1)) (Qy.exprR (L.map (·.1))) Qy.wHaving q4).bind fun h q=>.ok ⟨d,is,fs,w,h,g⟩ q) (zbm pr.ev lup (rdV L p 0 ((0:Nat):Int)) (.bool d) fv .nils .nils .nils iv):=by
 have hl:=hQ.len
 conv=>enter [3,1];unfold Qy.maybe
 simp only[zbm,rd_0,rd_1,rd_2,rd_3,zap];refine ziw hl hp (s:=Qy.wWhere) (fun h hlt=>?_) fun h=>?_
 ·rw[if_pos h];simp only[cnd,id_0,id_1,id_2,id_3,zap];refine i_go (zlW hQ hlt) (fun x q hq=>?_) fun x p' q e he hq=>?_
  ·have iq:=zd2 (L:=L) (p+1) (zcO hlt);rw[hq]at iq ⊢;simp only[zbw,za0,id_0,id_1,id_2,id_3,zau,Qy.bind_ok];exact zzc hQ (zdD iq).2 hi hf (ls_1 encE x)
  ·rw[hq];refine zaT he ⟨d,is,fs,[x],[],[]⟩ (p':=p') ?_;simp only[zbw,za0,id_0,id_1,id_2,id_3,zau];exact zzN he hi hf (ls_1 encE x) (ls_n encE) (ls_n encE)
 ·rw [if_neg (by rw [h];decide)];simp only[cnd,id_0,id_1,id_2,id_3,zau,Qy.bind_ok];exact zzc hQ hp hi hf (ls_n encE)
theorem i_core1{p:Nat}(hp:p≤L.length){iv:Vm.V}{d:Bool}{is:List Qy.Item}(hi:Ls itC iv is):
  outI L coC ((Qy.from_ (L.map (·.1)) (Qy.exprR (L.map (·.1))) p).bind fun fs q2=>(Qy.maybe (L.map (·.1)) (Qy.exprR (L.map (·.1))) Qy.wWhere q2).bind fun w q3=>(Qy.group (L.map (·.1)) (Qy.exprR (L.map (·.1))) q3).bind fun g q4=>(Qy.maybe (L.map (·.1)) (Qy.exprR (L.map (·.1))) Qy.wHaving q4).bind fun h q=>.ok ⟨d,is,fs,w,h,g⟩ q) (zbY pr.ev lup (rdV L p 0 ((0:Nat):Int)) (.bool d) .nils .nils .nils .nils iv):=by
 have hl:=hQ.len;unfold Qy.from_;simp only[zbY,rd_0,rd_1,rd_2,rd_3,zap];refine ziw hl hp (s:=Qy.wFrom) (fun h hlt=>?_) fun h=>?_
 ·rw[if_pos h];simp only[cnd,id_0,id_1,id_2,id_3,zap];refine i_go (i_tables hQ hlt) (fun x q hq=>?_) fun x p' q e he hq=>?_
  ·have iq:=Qy.tables_in (zd2 (L:=L)) (p:=p+1) (by rw [qa44];omega);rw[hq]at iq ⊢;simp only[frL,zmT,id_0,id_1,id_2,id_3,zau,Qy.bind_ok];exact zzd hQ (zdD iq).2 hi (ls_l frC x)
  ·rw[hq];refine zaT he ⟨d,is,x,[],[],[]⟩ (p':=p') ?_;simp only[frL,zmT,id_0,id_1,id_2,id_3,zau];exact zzO he hi (ls_l frC x) (ls_n encE) (ls_n encE) (ls_n encE)
 ·rw [if_neg (by rw [h];decide)];simp only[cnd,id_0,id_1,id_2,id_3,zau,Qy.bind_ok];exact zzd hQ hp hi (ls_n frC)
theorem zql(d:Bool):∀(n:Nat)(acc:List Qy.Item)(p:Nat),p≤L.length→L.length+1≤n+p→acc.length≤p →
  outI L coC ((Qy.sev (L.map (·.1)) (Qy.item (L.map (·.1)) (Qy.exprR (L.map (·.1)))) n acc p).bind fun is q=>(Qy.from_ (L.map (·.1)) (Qy.exprR (L.map (·.1))) q).bind fun fs q2=>(Qy.maybe (L.map (·.1)) (Qy.exprR (L.map (·.1))) Qy.wWhere q2).bind fun w q3=>(Qy.group (L.map (·.1)) (Qy.exprR (L.map (·.1))) q3).bind fun g q4=>(Qy.maybe (L.map (·.1)) (Qy.exprR (L.map (·.1))) Qy.wHaving q4).bind fun h q=>.ok ⟨d,is,fs,w,h,g⟩ q) (lup Out (zbX pr.ev lup) (coS L p 0 0 d acc))
 |0,_,p,hp,hn,_=>by omega
 |n+1,acc,p,hp,hn,ha=>by
  have hl:=hQ.len;rw[zan,Qy.sev,coS];delta zbX;dsimp only;refine zy5 (G:=fun o=>outI L _ _ (stp _ o)) hl hp (s:=Ex.zdH) (fun h hlt=>?_) fun h=>?_
  ·rw[if_pos h];have iq:=Qy.item_in (zd2 (L:=L)) (p:=p+1) (zcO hlt);have hi:=i_item hQ hlt;simp only[cnd,id_0,id_1,id_2,id_3,zap,gt_0,gt_s];cases hq:Qy.item (L.map (·.1)) (Qy.exprR (L.map (·.1))) (p+1)with
   |ok a q=>
    rw[hq]at iq hi;have h2:=zdD iq;have hap:=zfI zm8 (b:=168) (by omega) acc a (by omega);have ih:=zql d n (acc++[a]) q h2.2 (by omega) (by simp;omega);simp only[i_r hi,zyZ,zue,hap,qa31,id_0,id_1,id_2,id_3,zau,Qy.bind_ok];rw[zwY rfl (by simp[wfs,wf,zrk,zqF zoX, -List.map_append]),zce];exact ih
   |stop q e=>
    rw[hq]at hi;obtain⟨he,a,p',hi⟩:=hi;have hap:=zfI zm8 (b:=168) (by omega) acc a (by omega);refine zaT he ⟨d,acc++[a],[],[],[],[]⟩ (p':=p') ?_;simp only[i_r hi,zyZ,zue,hap,qa31,id_0,id_1,id_2,id_3,zau];rw[zwY rfl (by simp[wfs,wf,zrk,zqF zoX, -List.map_append]),zce];exact zuo he d _
  ·rw [if_neg (by rw [h];decide)];simp only[cnd,id_0,id_1,id_2,id_3,zau,gt_0,gt_s,zlA,Qy.bind_ok];exact i_core1 hQ hp (ls_l itC acc)
theorem i_core{p:Nat}(hp:p≤L.length):outI L coC (Qy.core (L.map (·.1)) (Qy.exprR (L.map (·.1))) p) (pr.ev 32 [.ptr 0 0] [inE L p 0 0]):=by
 refine i_of rfl rfl rfl (zk2 _ _ _ _ _ _ _) ?_;have hl:=hQ.len;unfold Qy.core;delta zkt;dsimp only;refine i_go (zs6 hl (show p≤999900 by omega) Qy.wSelect) (fun u p1 h1=>?_) fun u p' p1 e he h1=>?_
 ·have i1:=Qy.must_in (L:=L.map (·.1)) Qy.wSelect (zcO hp);rw[h1]at i1 ⊢;have hp1:=(zdD i1).2;simp only[Qy.bind_ok,id_0,id_1,id_2,id_3,zap];have rest:∀(d:Bool)(p2:Nat),p2≤L.length→outI L coC ((Qy.several (L.map (·.1)) (Qy.item (L.map (·.1)) (Qy.exprR (L.map (·.1)))) p2).bind fun is q=>(Qy.from_ (L.map (·.1)) (Qy.exprR (L.map (·.1))) q).bind fun fs q2=>(Qy.maybe (L.map (·.1)) (Qy.exprR (L.map (·.1))) Qy.wWhere q2).bind fun w q3=>(Qy.group (L.map (·.1)) (Qy.exprR (L.map (·.1))) q3).bind fun g q4=>(Qy.maybe (L.map (·.1)) (Qy.exprR (L.map (·.1))) Qy.wHaving q4).bind fun h q5=>.ok ⟨d,is,fs,w,h,g⟩ q5)
    (cl1 pr.ev 79 [(.ptr 0 0)] (inE L p2 0 0) 84 4 (fun v9 v8=>pnk v9 [.blk 84 [(zad v8 0),(zad v8 1),(zad v8 2),(zad v8 3)]]) fun v7 v8=>
     ckA 14 (norm1 v7)<|
     lup Out (zbX pr.ev lup) [(.agg [(zad v8 0),(zad v8 1),(zad v8 2),(zad v8 3)]),(.agg [(.bool false),.nils,.nils,.nils,.nils,.nils]),.bool d,.nils,.nils,.nils,.nils,(.list [(norm1 v7)])]):=by
   intro d p2 hp2;refine i_go (i_item hQ hp2) (fun a q hq=>?_) fun a p' q e he hq=>?_
   ·have iq:=Qy.item_in (zd2 (L:=L)) (zcO hp2);unfold Qy.several;rw[hq]at iq ⊢;have h2:=zdD iq;simp only[zyZ,zue,id_0,id_1,id_2,id_3,zau,Qy.bind_ok];exact zql hQ d ((L.map (·.1)).length+1) [a] q h2.2 (by simp) (by simp;omega)
   ·unfold Qy.several;rw[hq];refine zaT he ⟨d,[a],[],[],[],[]⟩ (p':=p') ?_;simp only[zyZ,zue,id_0,id_1,id_2,id_3,zau];exact zuo he d [a]
  refine ziw hl hp1 (s:=Ex.zav) (fun h hlt=>?_) fun h0=>?_
  ·rw[h];simp only[ztq,id_0,id_1,id_2,id_3,zap,qa60];rw[ck6 rfl];exact rest true (p1+1) (by omega)
  ·rw[h0];simp only[ztq,id_0,id_1,id_2,id_3,zap];rw[ck6 rfl];exact rest false p1 hp1
 ·rw[h1];refine zaT he ⟨false,[⟨Ex.e0,[],false,[]⟩],[],[],[],[]⟩ (p':=p') ?_;simp only[zap,zur he,cd_item he,id_0,id_1,id_2,id_3,zau,ztq,zyZ,zue];rw[ck6 rfl];exact zuo he false [_]
end
end
section
open Go.RowKit
open Vm
variable[Gl]
def opI(o:Option Int):Int:=match o with|some k=>k|none=>-1
theorem zwS{L:List Lx.T}{p q:Nat}{k:Int}(h:Qy.between L p=(some k,q)):0≤k:=by
 unfold Qy.between at h;split at h
 ·split at h<;>· cases h;decide
 ·split at h
  ·cases h;decide
  ·split at h<;>· cases h;try decide
section
variable{L:List Lx.TA}(hQ:QR L)
include hQ
theorem zy6{e:Ex.E}{c:Int}{p:Nat}(hp:p≤L.length):outI L tmC (Qy.dir (L.map (·.1)) e c p) (zbj pr.ev lup (rdV L p 0 ((0:Nat):Int)) (tmC ⟨e,c,false⟩)):=by
 have hl:=hQ.len;unfold Qy.dir;simp only[zbj,rd_0,rd_1,rd_2,rd_3,zap];have hx:∀b:Bool,Vm.V.agg [cell (tmC ⟨e,c,false⟩) 0,cell (tmC ⟨e,c,false⟩) 1,cell (tmC ⟨e,c,false⟩) 2,cell (tmC ⟨e,c,false⟩) 3,cell (tmC ⟨e,c,false⟩) 4,cell (tmC ⟨e,c,false⟩) 5,cell (tmC ⟨e,c,false⟩) 6,cell (tmC ⟨e,c,false⟩) 7,cell (tmC ⟨e,c,false⟩) 8,cell (tmC ⟨e,c,false⟩) 9,cell (tmC ⟨e,c,false⟩) 10,cell (tmC ⟨e,c,false⟩) 11,.bool b]=tmC ⟨e,c,b⟩:=fun b=>by
  cases e;simp only[tmC,expC_mk];rfl
 have ha:agN 13 (tmC ⟨e,c,false⟩)=tmC ⟨e,c,false⟩:=by cases e;simp only[tmC,expC_mk];rfl
 refine ziw hl hp (s:=Qy.wAsc) (fun h hlt=>?_) fun h0=>?_
 ·rw[if_pos h];show _=_;simp[-Int.natCast_add,rtn,ha]
 ·rw [if_neg (by rw [h0];decide)];simp only[zgH,qa31,qa50,cnd,id_0,id_1,id_2,id_3,zap];refine ziw hl hp (s:=Qy.wDesc) (fun h hlt=>?_) fun h0=>?_
  ·rw[if_pos h];show _=_;simp[-Int.natCast_add,rtn,hx]
  ·rw[if_neg (by rw[h0];decide)];show _=_;simp[-Int.natCast_add,rtn,hx]
theorem i_term{p:Nat}(hp:p≤L.length):outI L tmC (Qy.term (L.map (·.1)) (Qy.exprR (L.map (·.1))) p) (pr.ev 36 [.ptr 0 0] [inE L p 0 0]):=by
 refine i_of rfl rfl rfl (zhm _ _ _ _ _ _ _) ?_;have hl:=hQ.len;have c0:∀t:Lx.TA,ldV false 1 (tokM t) 0=some (.int .i64 t.1.kind):=fun _=>rfl;have c1:∀t:Lx.TA,ldV false 1 (tokM t) 1=some (.str t.1.text):=fun _=>rfl;have ha:∀x,agN 13 (tmC x)=tmC x:=fun x=>by obtain⟨e,_,_⟩:=x;cases e;simp only[tmC,expC_mk];rfl
 have h11:∀(e:Ex.E)(c k:Int)(b:Bool),Vm.V.agg [cell (tmC ⟨e,c,b⟩) 0,cell (tmC ⟨e,c,b⟩) 1,cell (tmC ⟨e,c,b⟩) 2,cell (tmC ⟨e,c,b⟩) 3,cell (tmC ⟨e,c,b⟩) 4,cell (tmC ⟨e,c,b⟩) 5,cell (tmC ⟨e,c,b⟩) 6,cell (tmC ⟨e,c,b⟩) 7,cell (tmC ⟨e,c,b⟩) 8,cell (tmC ⟨e,c,b⟩) 9,cell (tmC ⟨e,c,b⟩) 10,.int .i64 k,cell (tmC ⟨e,c,b⟩) 12]=tmC ⟨e,k,b⟩:=fun e c k b=>by cases e;simp only[tmC,expC_mk];rfl
 have hs:∀q:Nat,q≤1000000→b0 .add (.int .i64 (q:Int)) (.int .i64 1)=some (.int .i64 ((q+1:Nat):Int)):=fun q h=>by simp[-Int.natCast_add,zbU h]
 have j4:∀(x:Ex.E)(c:Int)(q:Nat),q<L.length→outI L tmC (Qy.dir (L.map (·.1)) x c (q+1)) (zbh pr.ev lup (rdV L q 0 ((0:Nat):Int)) (tmC ⟨x,c,false⟩)):=fun x c q h=>by
  simp only[zbh,rd_0,rd_1,rd_2,rd_3,hs q (by omega),qa31,zpz,zau,ha];exact zy6 hQ (show q+1≤L.length from h)
 have j4d:∀(x:Ex.E)(c:Int)(q:Nat),q≤L.length→zbh pr.ev lup (rdV L q 20 q) (tmC ⟨x,c,false⟩)=some (.ret (tmC ⟨x,c,false⟩),[inE L (q+1) 20 q]):=fun x c q h=>by
  simp only[zbh,rd_0,rd_1,rd_2,rd_3,hs q (by omega),qa31,zpz,zau,ha];exact ztx (show ¬(20:Int)=0 by decide) x c
 have j2:∀(x:Ex.E)(q:Nat)(s:List UInt8),q<L.length→outI L tmC ((if s==Qy.wBinary then .ok 0 (q+1)else if s==Qy.wNocase then .ok 1 (q+1)else .stop q 20:Qy.Rs Int).bind fun c r=>Qy.dir (L.map (·.1)) x c r) (zaP pr.ev lup (.str s) (rdV L q 0 ((0:Nat):Int)) (tmC ⟨x,0,false⟩)):=fun x q s h=>by
  by_cases h1:s=Qy.wBinary
  ·subst h1;have:=j4 x 0 q h;rw[if_pos (by simp)];have b1:b0 .neq (.str Qy.wBinary) (.str [110,111,99,97,115,101])=some (.bool true):=rfl;have b2:b0 .neq (.str Qy.wBinary) (.str [98,105,110,97,114,121])=some (.bool false):=rfl;have b3:b0 .eql (.str Qy.wBinary) (.str [110,111,99,97,115,101])=some (.bool false):=rfl;simp only[zaP,zbi,zbg,b1,b2,b3,qa31,cnd,za2,ha,Qy.bind_ok];exact this
  ·rw [if_neg (by simpa using h1)];by_cases h2:s=Qy.wNocase
   ·subst h2;have:=j4 x 1 q h;rw[if_pos (by simp)];have b1:b0 .neq (.str Qy.wNocase) (.str [110,111,99,97,115,101])=some (.bool false):=rfl;have b3:b0 .eql (.str Qy.wNocase) (.str [110,111,99,97,115,101])=some (.bool true):=rfl;simp only[zaP,zbi,zbg,b1,b3,qa31,cnd,za2,ha,Qy.bind_ok,h11];exact this
   ·rw [if_neg (by simpa using h2)];have b1:b0 .neq (.str s) (.str [110,111,99,97,115,101])=some (.bool true):=by simpa[Qy.wNocase]using h2
    have b2:b0 .neq (.str s) (.str [98,105,110,97,114,121])=some (.bool true):=by simpa[Qy.wBinary]using h1
    have b3:b0 .eql (.str s) (.str [110,111,99,97,115,101])=some (.bool false):=by simpa[Qy.wNocase]using h2
    refine zaT (by decide) ⟨x,0,false⟩ (p':=q+1) ?_;simp only[zaP,zbi,zbg,b1,b2,b3,qa31,cnd,za2,ha,rd_0,rd_1,rd_2,rd_3,zap,nm_i,i_r (zlq (L:=L) (p:=q) 20 q),id_0,id_1,id_2,id_3,zau];exact j4d x 0 q (by omega)
 have j2n:∀(x:Ex.E)(q:Nat),q≤L.length→zaP pr.ev lup (.str []) (rdV L q 0 ((0:Nat):Int)) (tmC ⟨x,0,false⟩)=some (.ret (tmC ⟨x,0,false⟩),[inE L (q+1) 20 q]):=fun x q h=>by
  have b1:b0 .neq (.str []) (.str [110,111,99,97,115,101])=some (.bool true):=rfl;have b2:b0 .neq (.str []) (.str [98,105,110,97,114,121])=some (.bool true):=rfl;have b3:b0 .eql (.str []) (.str [110,111,99,97,115,101])=some (.bool false):=rfl;simp only[zaP,zbi,zbg,b1,b2,b3,qa31,cnd,za2,ha,rd_0,rd_1,rd_2,rd_3,zap,nm_i,i_r (zlq (L:=L) (p:=q) 20 q),id_0,id_1,id_2,id_3,zau];exact j4d x 0 q h
 unfold Qy.term;delta zgJ;dsimp only;refine i_go (zlW hQ hp) (fun e q hq=>?_) fun e p' q er he hq=>?_
 ·rw[hq];have iq:=zd2 (L:=L) p (zcO hp);rw[hq]at iq;obtain⟨h1,h2⟩:=zdD iq;simp only[za0,zxi,zsa,Qy.bind_ok,id_0,id_1,id_2,id_3,zap];refine ziw hl h2 (s:=Qy.wCollate) (fun h hlt=>?_) fun h0=>?_
  ·rw[if_pos h];simp only[cnd,id_0,id_1,id_2,id_3,zau,zm7,qa44,qa31];unfold Qy.coll;rw[qa24];cases ht:L[q+1]? with
   |none=>
    have hge:¬q+1<L.length:=by simpa using ht
    rw[show b0 .lss (.int .i64 ((q+1:Nat):Int)) (.int .i64 (L.length:Int))=some (.bool false)by simp[-Int.natCast_add,hge]];refine zaT (by decide) ⟨e,0,false⟩ (p':=q+1+1) ?_;simp only[qa31,cnd,za1,za2,ha];exact j2n e (q+1) (by omega)
   |some t=>
    obtain⟨hlt2,_⟩:=qa9.1 ht;rw[show b0 .lss (.int .i64 ((q+1:Nat):Int)) (.int .i64 (L.length:Int))=some (.bool true)by simp[-Int.natCast_add,hlt2]];have hts:t.1.text.length≤1000000:=(hQ.good (q+1) t ht).1;have hf:=zrG hts;have J:=j2 e (q+1) (Lx.fold t.1.text) hlt2;simp only[qa31,cnd,zfr,ht,qa46,c0];by_cases k1:t.1.kind=1
    ·rw [show b0 .eql (.int .i64 t.1.kind) (.int .i64 1)=some (.bool true) by simp [k1]];simp only[qa31,cnd,za1,rd_0,rd_1,rd_2,rd_3,zap,zfr,ht,qa46,c1,nm_s,zaa hf,za2,ha];simpa[k1]using J
    ·rw [show b0 .eql (.int .i64 t.1.kind) (.int .i64 1)=some (.bool false) by simp [k1]];by_cases k2:t.1.kind=2
     ·rw [show b0 .eql (.int .i64 t.1.kind) (.int .i64 2)=some (.bool true) by simp [k2]];simp only[qa31,cnd,za1,rd_0,rd_1,rd_2,rd_3,zap,zfr,ht,qa46,c1,nm_s,zaa hf,za2,ha];simpa[k2]using J
     ·rw [show b0 .eql (.int .i64 t.1.kind) (.int .i64 2)=some (.bool false) by simp [k2]];simp only[k1,k2,decide_false,Bool.or_false,Bool.false_and,qb0];refine zaT (by decide) ⟨e,0,false⟩ (p':=q+1+1) ?_;simp only[qa31,cnd,za1,za2,ha];exact j2n e (q+1) (by omega)
  ·rw [if_neg (by rw [h0];decide)];simp only[cnd,id_0,id_1,id_2,id_3,zau];exact zy6 hQ h2
 ·rw[hq];refine zaT he ⟨e,0,false⟩ (p':=p') ?_;simp only[za0,zxi,zsa,id_0,id_1,id_2,id_3,zap,zau,zur he,cnd];exact ztx he e 0
theorem i_op{p:Nat}(hp:p≤L.length):pr.ev 33 [.ptr 0 0] [inE L p 0 0]=some (.ret (.int .i64 (opI (Qy.between (L.map (·.1)) p).1)),[inE L (Qy.between (L.map (·.1)) p).2 0 0]):=by
 refine pr.of rfl rfl rfl (ziN _ _ _ _ _ _ _) ?_;have hl:=hQ.len;unfold Qy.between;delta zhX;dsimp only;refine ziw (G:=fun o=>o=_) hl hp (s:=Qy.wUnion) (fun h hlt=>?_) fun h0=>?_
 ·rw[if_pos h];simp only[cnd,id_0,id_1,id_2,id_3,zap];refine ziw (G:=fun o=>o=_) hl hlt (s:=Qy.wAll) (fun h hlt=>?_) fun h0=>?_
  ·rw[if_pos h];rfl
  ·rw[if_neg (by rw[h0];decide)];rfl
 rw[if_neg (by rw[h0];decide)];simp only[cnd,id_0,id_1,id_2,id_3,zap];refine ziw (G:=fun o=>o=_) hl hp (s:=Qy.wIntersect) (fun h hlt=>?_) fun h0=>?_
 ·rw[if_pos h];rfl
 rw[if_neg (by rw[h0];decide)];simp only[cnd,id_0,id_1,id_2,id_3,zap];refine ziw (G:=fun o=>o=_) hl hp (s:=Qy.wExcept) (fun h hlt=>?_) fun h0=>?_
 ·rw[if_pos h];rfl
 ·rw[if_neg (by rw[h0];decide)];rfl
end
end
section
open Go.RowKit
open Vm
variable[Gl]
theorem ls_ops(l:List Int):Ls (Vm.V.int .i64) (opsV l) l:=⟨ops_n l,ops_1 l⟩
theorem seC_n{cv pv ov lv fv:Vm.V}{cs:List Qy.Core}{os:List Int}{o:List Qy.Term}{l f:List Ex.E}(hc:Ls coC cv cs)(hp:Ls (Vm.V.int .i64) pv os)(ho:Ls tmC ov o)(hl:Ls encE lv l)(hf:Ls encE fv f):
  norm1 (.agg [cv,pv,ov,lv,fv])=seC ⟨cs,os,o,l,f⟩:=by
 simp only[nm_a,qb3,hc.n,hp.n,ho.n,hl.n,hf.n,seC]
theorem seC_k{cv pv ov lv fv:Vm.V}{cs:List Qy.Core}{os:List Int}{o:List Qy.Term}{l f:List Ex.E}(hc:Ls coC cv cs)(hp:Ls (Vm.V.int .i64) pv os)(ho:Ls tmC ov o)(hl:Ls encE lv l)(hf:Ls encE fv f){Z:Type}(A:Option Z):
  ckA 5 (.agg [cv,pv,ov,lv,fv]) A=A:=ck5 (by simp[hc.o,hp.o,ho.o,hl.o,hf.o]) A
theorem oeq_se(s:Qy.Sel)(a b:Int):oeq (.ret (.tup [seC s,.int .i64 a,.int .i64 b]),[]) (.ret (.tup [seC s,.int .i64 a,.int .i64 b]),[])=true:=zsT (by simp[wf,wfs,zsl])
section
variable{L:List Lx.TA}{p w:Nat}{e:Int}(he:¬e=0)
include he
theorem zya(a b c d f:Vm.V):zbb pr.ev lup (rdV L p e w) a b c d f=some (.ret (parQ (.stop w e)),[]):=by
 have ho:=oeq_se Qy.sel0 w e;simp[-Int.natCast_add,zbb,he,rtn,zkN,parQ,ag,zg2,ho]
theorem par3_d(a b c d f:Vm.V):zbN pr.ev lup (rdV L p e w) a b c d f=some (.ret (parQ (.stop w e)),[]):=by
 have:=zya (L:=L) (p:=p) (w:=w) he a b c d f;simp[-Int.natCast_add,zbN,he,this]
theorem par2_d(z a b c d f:Vm.V):zcr pr.ev lup z (rdV L p e w) a b c d f=some (.ret (parQ (.stop w e)),[]):=by
 have:=par3_d (L:=L) (p:=p) (w:=w) he a b c d f;simp[-Int.natCast_add,zcr,he,this]
theorem zyb(z a b c d f:Vm.V):lup Out (zdp pr.ev lup) [z,rdV L p e w,a,b,c,d,f]=some (.ret (parQ (.stop w e)),[]):=by
 have:=par3_d (L:=L) (p:=p) (w:=w) he f b c a d;rw[zan];simp[-Int.natCast_add,zdp,he,this]
theorem par0_d(z a b c d f:Vm.V):lup Out (zbM pr.ev lup) [.int .i64 (-1),z,rdV L p e w,a,b,c,d,f]=some (.ret (parQ (.stop w e)),[]):=by
 have:=par2_d (L:=L) (p:=p) (w:=w) he (agN 5 z) b c d a f;rw[zan];simp[-Int.natCast_add,zbM,this]
end
def zSe:Vm.V:=.agg [.nils,.nils,.nils,.nils,.nils]
theorem zwa:agN 5 zSe=zSe:=rfl
theorem zuy:wf zSe=true:=rfl
section
variable{L:List Lx.TA}(hQ:QR L)
include hQ
theorem par4{p:Nat}{cv pv ov lv fv:Vm.V}{cs:List Qy.Core}{os:List Int}{o:List Qy.Term}{l f:List Ex.E}(hc:Ls coC cv cs)(hp:Ls (Vm.V.int .i64) pv os)(ho:Ls tmC ov o)(hl:Ls encE lv l)(hf:Ls encE fv f):
  zbb pr.ev lup (rdV L p 0 ((0:Nat):Int)) ov lv fv cv pv=some (.ret (parQ (.ok ⟨cs,os,o,l,f⟩ p)),[]):=by
 have hq:=oeq_se ⟨cs,os,o,l,f⟩ p 0;have hn:b0 .neq (.int .i64 0) (.int .i64 0)=some (.bool false):=rfl;simp only[zbb,rd_2,rd_1,hn,qa31,cnd,seC_k hc hp ho hl hf,seC_n hc hp ho hl hf,nm_i,rtn,parQ];exact zf7 rfl hq
theorem par3{p:Nat}(hp:p≤L.length){cv pv ov:Vm.V}{cs:List Qy.Core}{os:List Int}{o:List Qy.Term}(hc:Ls coC cv cs)(hv:Ls (Vm.V.int .i64) pv os)(ho:Ls tmC ov o):
  zbN pr.ev lup (rdV L p 0 ((0:Nat):Int)) ov .nils .nils cv pv=some (.ret (parQ ((Qy.maybe (L.map (·.1)) (Qy.exprR (L.map (·.1))) Qy.wLimit p).bind fun l q4=>(if l.length=0 then .ok [] q4 else Qy.maybe (L.map (·.1)) (Qy.exprR (L.map (·.1))) Qy.wOffset q4).bind fun f q5=>.ok ⟨cs,os,o,l,f⟩ q5)),[]):=by
 have hl:=hQ.len
 conv=>enter [2,1,1,1,1,1];unfold Qy.maybe
 simp only[zbN,rd_0,rd_1,rd_2,rd_3,zap];refine ziw (G:=fun o=>o=_) hl hp (s:=Qy.wLimit) (fun h hlt=>?_) fun h=>?_
 ·rw[if_pos h];simp only[cnd,id_0,id_1,id_2,id_3,zap];refine i_go (G:=fun o=>o=_) (zlW hQ hlt) (fun x q hq=>?_) fun x p' q e he hq=>?_
  ·have iq:=zd2 (L:=L) (p+1) (zcO hlt);rw[hq]at iq ⊢;have h2:=(zdD iq).2;simp only[zbw,za0,id_0,id_1,id_2,id_3,zap,Qy.bind_ok];rw[if_neg (by simp)];unfold Qy.maybe;refine ziw (G:=fun o=>o=_) hl h2 (s:=Qy.wOffset) (fun h hlt=>?_) fun h=>?_
   ·rw[if_pos h];simp only[cnd,id_0,id_1,id_2,id_3,zap];refine i_go (G:=fun o=>o=_) (zlW hQ hlt) (fun y r hr=>?_) fun y p' r e he hr=>?_
    ·rw[hr];simp only[zbw,za0,id_0,id_1,id_2,id_3,zau,Qy.bind_ok];exact par4 hQ hc hv ho (ls_1 encE x) (ls_1 encE y)
    ·rw[hr];simp only[zbw,za0,id_0,id_1,id_2,id_3,zau,Qy.bind_stop];exact zya he _ _ _ _ _
   ·rw [if_neg (by rw [h];decide)];simp only[cnd,id_0,id_1,id_2,id_3,zau,Qy.bind_ok];exact par4 hQ hc hv ho (ls_1 encE x) (ls_n encE)
  ·rw[hq];simp only[zbw,za0,zur he,cnd,id_0,id_1,id_2,id_3,zap,zau,Qy.bind_stop];exact zya he _ _ _ _ _
 ·rw [if_neg (by rw [h];decide)];simp only[cnd,id_0,id_1,id_2,id_3,zau,Qy.bind_ok,qa40,qa60];exact par4 hQ hc hv ho (ls_n encE) (ls_n encE)
theorem par1{cv pv:Vm.V}{cs:List Qy.Core}{os:List Int}(hc:Ls coC cv cs)(hv:Ls (Vm.V.int .i64) pv os)(hcw:wf cv=true)(hvw:wf pv=true):∀(n:Nat)(acc:List Qy.Term)(p:Nat),p≤L.length→L.length+1≤n+p→acc.length≤p →
  lup Out (zdp pr.ev lup) [zSe,rdV L p 0 ((0:Nat):Int),cv,.nils,.nils,pv,.list (acc.map tmC)]=some (.ret (parQ ((Qy.sev (L.map (·.1)) (Qy.term (L.map (·.1)) (Qy.exprR (L.map (·.1)))) n acc p).bind fun o q3=>(Qy.maybe (L.map (·.1)) (Qy.exprR (L.map (·.1))) Qy.wLimit q3).bind fun l q4=>(if l.length=0 then .ok [] q4 else Qy.maybe (L.map (·.1)) (Qy.exprR (L.map (·.1))) Qy.wOffset q4).bind fun f q5=>.ok ⟨cs,os,o,l,f⟩ q5)),[])
 |0,_,p,hp,hn,_=>by omega
 |n+1,acc,p,hp,hn,ha=>by
  have hl:=hQ.len;rw[zan,Qy.sev];delta zdp;dsimp only;refine zy5 (G:=fun o=>stp _ o=_) hl hp (s:=Ex.zdH) (fun h hlt=>?_) fun h=>?_
  ·rw[if_pos h];have iq:=Qy.term_in (zd2 (L:=L)) (p:=p+1) (zcO hlt);have hi:=i_term hQ hlt;simp only[cnd,id_0,id_1,id_2,id_3,zap,gt_0,gt_s,zwa];cases hq:Qy.term (L.map (·.1)) (Qy.exprR (L.map (·.1))) (p+1)with
   |ok a q=>
    rw[hq]at iq hi;have h2:=zdD iq;have hap:=zfI zmX (b:=144) (by omega) acc a (by omega);have ih:=par1 hc hv hcw hvw n (acc++[a]) q h2.2 (by omega) (by simp;omega);simp only[i_r hi,zxg,zsa,hap,qa31,id_0,id_1,id_2,id_3,zau,Qy.bind_ok];rw[zwY rfl (by simp[wfs,wf,zuy,zrk,hcw,hvw,zqF tmC_wf, -List.map_append]),zce];exact ih
   |stop q e=>
    rw[hq]at hi;obtain⟨he,a,p',hi⟩:=hi;have hap:=zfI zmX (b:=144) (by omega) acc a (by omega);simp only[i_r hi,zxg,zsa,hap,qa31,id_0,id_1,id_2,id_3,zau,Qy.bind_stop];rw[zwY rfl (by simp[wfs,wf,zuy,zrk,hcw,hvw,zqF tmC_wf, -List.map_append]),zce];exact zyb he _ _ _ _ _ _
  ·rw [if_neg (by rw [h];decide)];simp only[cnd,id_0,id_1,id_2,id_3,zau,gt_0,gt_s,zlA,Qy.bind_ok];exact par3 hQ hp hc hv (ls_l tmC acc)
theorem par2{p:Nat}(hp:p≤L.length){cv pv:Vm.V}{cs:List Qy.Core}{os:List Int}(hc:Ls coC cv cs)(hv:Ls (Vm.V.int .i64) pv os)(hcw:wf cv=true)(hvw:wf pv=true):
  zcr pr.ev lup zSe (rdV L p 0 ((0:Nat):Int)) .nils .nils .nils cv pv=some (.ret (parQ ((Qy.order (L.map (·.1)) (Qy.exprR (L.map (·.1))) p).bind fun o q3=>(Qy.maybe (L.map (·.1)) (Qy.exprR (L.map (·.1))) Qy.wLimit q3).bind fun l q4=>(if l.length=0 then .ok [] q4 else Qy.maybe (L.map (·.1)) (Qy.exprR (L.map (·.1))) Qy.wOffset q4).bind fun f q5=>.ok ⟨cs,os,o,l,f⟩ q5)),[]):=by
 have hl:=hQ.len;unfold Qy.order;simp only[zcr,rd_0,rd_1,rd_2,rd_3,zap];refine ziw (G:=fun o=>o=_) hl hp (s:=Qy.wOrder) (fun h hlt=>?_) fun h=>?_
 ·rw[if_pos h];simp only[cnd,id_0,id_1,id_2,id_3,zap];refine i_go (G:=fun o=>o=_) (zs6 hl (show p+1≤999900 by omega) Qy.wBy) (fun u q hq=>?_) fun u p' q e he hq=>?_
  ·have iq:=Qy.must_in (L:=L.map (·.1)) (p:=p+1) Qy.wBy (by rw [qa44];omega);rw[hq]at iq ⊢;have g2:=(zdD iq).2;simp only[Qy.bind_ok,id_0,id_1,id_2,id_3,zap];unfold Qy.several;refine i_go (G:=fun o=>o=_) (i_term hQ g2) (fun a r hr=>?_) fun a p' r e he hr=>?_
   ·have ir:=Qy.term_in (zd2 (L:=L)) (zcO g2);rw[hr]at ir ⊢;have h2:=zdD ir;simp only[Qy.bind_ok,zxg,zsa,id_0,id_1,id_2,id_3,zau,zwa];exact par1 hQ hc hv hcw hvw ((L.map (·.1)).length+1) [a] r h2.2 (by simp) (by simp;omega)
   ·rw[hr];simp only[Qy.bind_stop,zxg,zsa,id_0,id_1,id_2,id_3,zau];exact zyb he _ _ _ _ _ _
  ·rw[hq];simp only[Qy.bind_stop,cd_term he,zxg,zsa,id_0,id_1,id_2,id_3,zap,zau];exact zyb he _ _ _ _ _ _
 ·rw [if_neg (by rw [h];decide)];simp only[cnd,id_0,id_1,id_2,id_3,zau,Qy.bind_ok];exact par3 hQ hp hc hv (ls_n tmC)
theorem zyf(os:List Int):wf (opsV os)=true:=by
 unfold opsV;split
 ·rfl
 ·simp only[wf];exact zbf.2 fun v hv=>by obtain⟨x,_,rfl⟩:=qa55.1 hv;rfl
theorem par0:∀(n:Nat)(cs:List Qy.Core)(os:List Int)(p:Nat)(o:Option Int)(q:Nat),Qy.between (L.map (·.1)) p=(o,q)→p≤L.length→L.length+1≤n+p→cs.length≤p→os.length≤p →
  lup Out (zbM pr.ev lup) [.int .i64 (opI o),zSe,rdV L q 0 ((0:Nat):Int),.list (cs.map coC),.nils,.nils,.nils,opsV os] =
   some (.ret (parQ ((Qy.cores (L.map (·.1)) (Qy.exprR (L.map (·.1))) n cs os p).bind fun x q2=>(Qy.order (L.map (·.1)) (Qy.exprR (L.map (·.1))) q2).bind fun o q3=>(Qy.maybe (L.map (·.1)) (Qy.exprR (L.map (·.1))) Qy.wLimit q3).bind fun l q4=>(if l.length=0 then .ok [] q4 else Qy.maybe (L.map (·.1)) (Qy.exprR (L.map (·.1))) Qy.wOffset q4).bind fun f q5=>.ok ⟨x.1,x.2,o,l,f⟩ q5)),[])
 |0,_,_,p,_,_,_,hp,hn,_,_=>by omega
 |n+1,cs,os,p,o,q,hb,hp,hn,h1,h2=>by
  have hl:=hQ.len;rw[zan,Qy.cores,hb];cases o with
  |none=>
   obtain rfl:=Qy.between_none hb;have hg:b0 .geq (.int .i64 (-1)) (.int .i64 0)=some (.bool false):=rfl;simp only[zbM,gt_0,gt_s,opI,hg,qa31,cnd,zwa,za2,zlA,Qy.bind_ok];exact par2 hQ hp (ls_l coC cs) (ls_ops os) (by simp only[wf];exact ztk cs) (zyf hQ os)
  |some k=>
   obtain⟨h3,h4⟩:=Qy.between_in hb;rw[qa44]at h4;have hk:=zwS hb;have hg:b0 .geq (.int .i64 k) (.int .i64 0)=some (.bool true):=by simp;omega
   have hoa:=zyh os k (by omega);have ic:=Qy.core_in (zd2 (L:=L)) (zcO h4);have hi:=i_core hQ h4;dsimp only;simp only[zbM,gt_0,gt_s,opI,hg,qa31,cnd,zwa,rd_0,rd_1,rd_2,rd_3,zap,nm_i,zpz,hoa];cases hq:Qy.core (L.map (·.1)) (Qy.exprR (L.map (·.1))) q with
   |ok a r=>
    rw[hq]at ic hi;obtain⟨h5,h6⟩:=zdD ic;have hap:=zfI zdz (b:=128) (by omega) cs a (by omega);have ih:=par0 n (cs++[a]) (os++[k]) r _ _ rfl h6 (by omega) (by simp;omega) (by simp;omega);simp only[i_r hi,zdz.nm,zdz.ck,hap,qa31,zex,zwa,rd_0,rd_1,rd_2,rd_3,id_0,id_1,id_2,id_3,zap,i_r (i_op hQ h6),zau,Qy.bind_ok];rw[zwY rfl (by simp[wfs,wf,zuy,zrk,ztk,zyf hQ, -List.map_append]),zce];exact ih
   |stop r e=>
    rw[hq]at hi;obtain⟨he,a,p',hi⟩:=hi;have hap:=zfI zdz (b:=128) (by omega) cs a (by omega);simp only[i_r hi,zdz.nm,zdz.ck,hap,qa31,zex,zwa,rd_0,rd_1,rd_2,rd_3,id_0,id_1,id_2,id_3,zap,cd_op he,zau,Qy.bind_stop];rw[zwY rfl (by simp[wfs,wf,zuy,zrk,ztk,zyf hQ, -List.map_append]),zce];exact par0_d he _ _ _ _ _ _
theorem r_qParse{p:Nat}(hp:p≤L.length):pr.ev 14 [.list (L.map tokM),.int .i64 (p:Int)] []=some (.ret (parQ (Qy.query (L.map (·.1)) (Qy.exprR (L.map (·.1))) p)),[]):=by
 refine pr.of rfl rfl rfl (zmk _ _ _ _ _) ?_;have h1:¬(p:Int)<0:=by omega
 have h2:¬(L.length<p):=by omega
 have b1:b0 .lss (.int .i64 (p:Int)) (.int .i64 0)=some (.bool false):=by simp
 have b2:b0 .gtr (.int .i64 (p:Int)) (.int .i64 (L.length:Int))=some (.bool false):=by simp[h2]
 have hz:∀A:Option Out,ckA 4 (.agg [.list (L.map tokM),.int .i64 (p:Int),.int .i64 0,.int .i64 0]) A=A:=fun A=>zcR;simp only[zhZ,b1,b2,qa31,cnd,zm7,qa44,zey,zmT,zpz,hz,zvE];unfold Qy.query;refine i_go (G:=fun o=>o=_) (i_core hQ hp) (fun a q hq=>?_) fun a p' q e he hq=>?_
 ·have iq:=Qy.core_in (zd2 (L:=L)) (zcO hp);rw[hq]at iq ⊢;have h2:=zdD iq;have ih:=par0 hQ ((L.map (·.1)).length+1) [a] [] q _ _ rfl h2.2 (by simp) (by simp;omega) (by simp);simp only[zdz.nm,zdz.ck,id_0,id_1,id_2,id_3,zap,i_r (i_op hQ h2.2),zau,Qy.bind_ok];exact ih
 ·rw[hq];simp only[zdz.nm,zdz.ck,cd_op he,id_0,id_1,id_2,id_3,zap,zau,Qy.bind_stop];exact par0_d he _ _ _ _ _ _
end
end
section
open Go.RowKit
open Vm
variable[Gl]
theorem r_qOf{s:List UInt8}(hs:s.length≤1000000):pr.ev 7 [.str s] []=some (.ret (ofQV (Qy.ofQ s)),[]):=by
 refine pr.of rfl rfl rfl (zpn _ _ _ _) ?_;have hsc:=ev_rscan hs;have ld0:∀t:Lx.TA,ldV false 1 (tokM t) 0=some (.int .i64 t.1.kind):=fun _=>rfl;have ld5:∀t:Lx.TA,ldV false 1 (tokM t) 5=some (.int .i64 (t.2:Int)):=fun _=>rfl;have ho:∀{a b:Int},oeq (.ret (.tup [seC Qy.sel0,.int .i64 a,.int .i64 b]),[]) (.ret (.tup [seC Qy.sel0,.int .i64 a,.int .i64 b]),[])=true:=zsT (by simp[wf,wfs,zsl]);unfold Qy.ofQ;rw[zq0]at hsc;cases hq:Lx.scan s with
 |mk l r=>
 obtain⟨a,no⟩:=r;rw[hq]at hsc;dsimp only at hsc ⊢;by_cases hno:no=0
 ·subst hno;have hQ:QR l:=⟨zxA hs hq,scan_G2 hq⟩;have hpar:=r_qParse hQ (p:=0) (Nat.zero_le _);simp only[qa34]at hpar;rw[if_neg (by simp)];cases hc:Qy.query (l.map (·.1)) (Qy.exprR (l.map (·.1))) 0 with
  |stop q e=>
   have he:e≠0:=by
    have:=Qy.query_in (zd2 (L:=l)) (p:=0) (Nat.zero_le _);rw[hc]at this;exact this.2
   rw[hc]at hpar;simp only[parQ]at hpar;cases hq2:l[q]? with
   |some t=>
    obtain⟨hlt,ht⟩:=qa9.1 hq2;simp[-Int.natCast_add,zda,zbZ,zbs,zaa hsc,zaa hpar,he,hlt,ht,ld5,ofQV,rtn,zkN,zp8 hq2,ag,zg2,ho]
   |none=>
    have hge:¬q<l.length:=by simpa using hq2
    simp[-Int.natCast_add,zda,zbZ,zbs,zaa hsc,zaa hpar,he,hge,ofQV,rtn,zkN,zp9 hq2]
  |ok x q=>
   rw[hc]at hpar;simp only[parQ]at hpar;cases hq2:l[q]? with
   |some t=>
    obtain⟨hlt,ht⟩:=qa9.1 hq2;by_cases hk:t.1.kind=0
    ·simp[-Int.natCast_add,zda,zbZ,zbs,zaa hsc,zaa hpar,hlt,ht,hq2,hk,ld0,ofQV,rtn]
    ·simp[-Int.natCast_add,zda,zbZ,zbs,zaa hsc,zaa hpar,hlt,ht,hq2,hk,ld0,ld5,ofQV,rtn,zkN,ag,zg2,ho]
   |none=>
    have hge:¬q<l.length:=by simpa using hq2
    simp[-Int.natCast_add,zda,zbZ,zbs,zaa hsc,zaa hpar,hge,ofQV,rtn]
 ·simp[-Int.natCast_add,zda,zaa hsc,hno,ofQV,rtn,zkN]
end
section
open Go.RowKit
open Vm
variable[Gl]
theorem ziZ{α:Type}{z:Nat}{enc:α→Vm.V}(he:EncOk z enc)(l:List α)(i:Nat)(h:i<l.length):elV z (.list (l.map enc)) (.int .i64 (i:Int))=some (enc l[i]):=by
 rw[zm9 z enc l .i64 i he.size,qa11 h];rfl
theorem zvD(x:Qy.Item):ldV true 14 (itC x) 0=some (itC x):=by
 obtain⟨⟨k,o,v,t,n,s,g,d,l⟩,m,st,tb⟩:=x;simp only[itC,expC_mk];rfl
theorem tmC_ld(x:Qy.Term):ldV true 13 (tmC x) 0=some (tmC x):=by
 obtain⟨⟨k,o,v,t,n,s,g,d,l⟩,m,st⟩:=x;simp only[tmC,expC_mk];rfl
theorem zkU(x:Qy.Item):agN 14 (itC x)=itC x:=by
 obtain⟨⟨k,o,v,t,n,s,g,d,l⟩,m,st,tb⟩:=x;simp only[itC,expC_mk];rfl
theorem zpG(x:Qy.Term):agN 13 (tmC x)=tmC x:=by
 obtain⟨⟨k,o,v,t,n,s,g,d,l⟩,m,st⟩:=x;simp only[tmC,expC_mk];rfl
theorem zy0(x:Qy.Item):agN 11 (itC x)=encE x.e:=by
 obtain⟨⟨k,o,v,t,n,s,g,d,l⟩,m,st,tb⟩:=x;simp only[itC,expC_mk,enc_mk];rfl
theorem zxh(x:Qy.Term):agN 11 (tmC x)=encE x.e:=by
 obtain⟨⟨k,o,v,t,n,s,g,d,l⟩,m,st⟩:=x;simp only[tmC,expC_mk,enc_mk];rfl
theorem zy1(x:Qy.Item):cell (itC x) 11=.str x.name∧cell (itC x) 12=.bool x.star∧cell (itC x) 13=.str x.table:=by
 obtain⟨⟨k,o,v,t,n,s,g,d,l⟩,m,st,tb⟩:=x;simp only[itC,expC_mk];exact⟨rfl,rfl,rfl⟩
theorem tmC_11(x:Qy.Term):cell (tmC x) 11=.int .i64 x.coll∧cell (tmC x) 12=.bool x.desc:=by
 obtain⟨⟨k,o,v,t,n,s,g,d,l⟩,m,st⟩:=x;simp only[tmC,expC_mk];exact⟨rfl,rfl⟩
def FE(e:Ex.E):Prop:=Ex.count e≤900000
def FL(l:List Ex.E):Prop:=l.length≤900000∧∀x∈l,FE x
structure FC(c:Qy.Core):Prop where
 il:c.items.length≤900000
 i:∀x∈c.items,FE x.e
 fl:c.from_.length≤900000
 f:∀f∈c.from_,FL f.on
 w:FL c.wher
 h:FL c.having
 g:FL c.group
structure FS(s:Qy.Sel):Prop where
 cl:s.cores.length≤900000
 c:∀c∈s.cores,FC c
 ol:s.ops.length≤900000
 tl:s.order.length≤900000
 t:∀t∈s.order,FE t.e
 l:FL s.lim
 o:FL s.off
theorem zpW(l:List Ex.E)(hl:l.length≤900000)(h:∀x∈l,pr.ev 16 [encE x,encE x] []=some (.ret (.bool true),[])):∀(n i:Nat),i+n=l.length →
  lup Out (zcj pr.ev lup) [.list (l.map encE),.list (l.map encE),.int .i64 (i:Int)]=some (.ret (.bool true),[])
 |0,i,hi=>by
  obtain rfl:i=l.length:=by omega
  rw[zan];simp[-Int.natCast_add,zcj,rtn]
 |n+1,i,hi=>by
  have h1:i<l.length:=by omega
  have ih:=zpW l hl h n (i+1) (by omega);have hx:=h _ (qa36 h1);rw[zan];simp[-Int.natCast_add,zcj,h1,ziZ zmO l i h1,zdb,zaa hx,zbU (show i≤1000000 by omega),ih]
theorem zyB(l:List Ex.E)(hl:l.length≤900000)(h:∀x∈l,pr.ev 16 [encE x,encE x] []=some (.ret (.bool true),[])):pr.ev 17 [.list (l.map encE),.list (l.map encE)] []=some (.ret (.bool true),[]):=by
 refine pr.of rfl rfl rfl (zjN _ _ _ _ _) ?_;have h:=zpW l hl h l.length 0 (by omega);simp only[qa34]at h;simp[-Int.natCast_add,zfP,h]
theorem zyD:∀(n:Nat)(e:Ex.E),Ex.deep e≤n→FE e→pr.ev 16 [encE e,encE e] []=some (.ret (.bool true),[])
 |0,.mk k o v t nm s g d a,h,_=>by rw[zgD]at h;omega
 |n+1,.mk k o v t nm s g d a,h,hc=>by
  rw[zgD]at h;unfold FE at hc;rw[zl3]at hc;have hl:a.length≤900000:=by have:=zha a;omega
  have ha:=zyB a hl fun x hx=>zyD n x (by have:=zgn hx;omega) (by unfold FE;have:=zg9 hx;omega);refine pr.of rfl (by simp only[List.map,(zbe _).rd];rfl) rfl (zkC _ _ _ _ _) ?_;rw[enc_mk];have hv:eqVal [.int .i64 v.1,.int .i64 v.2.1,.str v.2.2] [.int .i64 v.1,.int .i64 v.2.1,.str v.2.2]=some true:=by simp[eqVal]
  simp[-Int.natCast_add,zgc,ckA_agg,binV,hv,zaa ha,rtn]
theorem zt8{e:Ex.E}(h:FE e):pr.ev 16 [encE e,encE e] []=some (.ret (.bool true),[]):=zyD _ e (qa57 _) h
theorem zmI{l:List Ex.E}(h:FL l):pr.ev 17 [.list (l.map encE),.list (l.map encE)] []=some (.ret (.bool true),[]):=zyB l h.1 fun x hx=>zt8 (h.2 x hx)
end
section
open Go.RowKit
open Vm
variable[Gl]
theorem co_1(c:Qy.Core):cell (coC c) 0=.bool c.dist∧cell (coC c) 1=.list (c.items.map itC)∧cell (coC c) 2=.list (c.from_.map frC)∧cell (coC c) 3=.list (c.wher.map encE)∧cell (coC c) 4=.list (c.having.map encE)∧cell (coC c) 5=.list (c.group.map encE):=⟨rfl,rfl,rfl,rfl,rfl,rfl⟩
theorem se_1(s:Qy.Sel):cell (seC s) 0=.list (s.cores.map coC)∧cell (seC s) 1=.list (s.ops.map (.int .i64))∧cell (seC s) 2=.list (s.order.map tmC)∧cell (seC s) 3=.list (s.lim.map encE)∧cell (seC s) 4=.list (s.off.map encE):=⟨rfl,rfl,rfl,rfl,rfl⟩
theorem fr_1(f:Qy.From):cell (frC f) 0=.str f.table∧cell (frC f) 1=.str f.as_∧cell (frC f) 2=.int .i64 f.join∧cell (frC f) 3=.list (f.on.map encE):=⟨rfl,rfl,rfl,rfl⟩
@[simp] theorem co_ag (c:Qy.Core):agN 6 (coC c)=coC c:=rfl
@[simp] theorem fr_ag (c:Qy.From):agN 4 (frC c)=frC c:=rfl
theorem zuh(c:Qy.From):ldV true 4 (frC c) 0=some (frC c):=rfl
theorem zzT(c:Qy.Core):ldV true 6 (coC c) 0=some (coC c):=rfl
section
variable{c:Qy.Core}(h:FC c)
include h
theorem zxB(i:Int):eqS oeq (.next [.int .i64 i,coC c,coC c]) (.next [.int .i64 i,coC c,coC c])=true:=zdm (by simp[wfs,wf,coC_wf])
theorem zu0:∀(n i:Nat),i+n=c.from_.length→lup Out (zcD pr.ev lup) [.int .i64 (i:Int),coC c,coC c]=some (.ret (.bool true),[])
 |0,i,hi=>by
  obtain rfl:i=c.from_.length:=by omega
  obtain⟨c0,c1,c2,c3,c4,c5⟩:=co_1 c;rw[zan];simp[-Int.natCast_add,zcD,zfj,c2,c3,c4,c5,zaa (zmI h.w),zaa (zmI h.h),zaa (zmI h.g),rtn]
 |n+1,i,hi=>by
  have h1:i<c.from_.length:=by omega
  have hl:=h.fl;obtain⟨c0,c1,c2,c3,c4,c5⟩:=co_1 c;have ih:=zu0 n (i+1) (by omega);obtain⟨f0,f1,f2,f3⟩:=fr_1 c.from_[i];have hx:=zmI (h.f _ (qa36 h1));have hr:=zxB h (((i+1:Nat):Int));rw[zan];simp[-Int.natCast_add,zcD,zcG,zbH,c2,h1,ziZ zbr c.from_ i h1,zuh,zbr.ck,f0,f1,f2,f3,zaa hx,zbU (show i≤1000000 by omega),ag,zg2,hr,ih]
theorem zu1:∀(n i:Nat),i+n=c.items.length→lup Out (zcE pr.ev lup) [.int .i64 (i:Int),coC c,coC c]=some (.ret (.bool true),[])
 |0,i,hi=>by
  obtain rfl:i=c.items.length:=by omega
  obtain⟨c0,c1,c2,c3,c4,c5⟩:=co_1 c;have hn:=zu0 h c.from_.length 0 (by omega);simp only[qa34]at hn;rw[zan];simp[-Int.natCast_add,zcE,zfk,c1,hn]
 |n+1,i,hi=>by
  have h1:i<c.items.length:=by omega
  have hl:=h.il;obtain⟨c0,c1,c2,c3,c4,c5⟩:=co_1 c;have ih:=zu1 n (i+1) (by omega);obtain⟨f0,f1,f2⟩:=zy1 c.items[i];have hx:=zt8 (h.i _ (qa36 h1));have hr:=zxB h (((i+1:Nat):Int));rw[zan];simp[-Int.natCast_add,zcE,zcF,zbG,c1,h1,ziZ zm8 c.items i h1,zvD,zkU,zy0,f0,f1,f2,binV,zaa hx,zbU (show i≤1000000 by omega),ag,zg2,hr,ih]
theorem m_sameC:pr.ev 15 [coC c,coC c] []=some (.ret (.bool true),[]):=by
 refine pr.of rfl rfl rfl (zkD _ _ _ _ _) ?_;obtain⟨c0,c1,c2,c3,c4,c5⟩:=co_1 c;have hn:=zu1 h c.items.length 0 (by omega);simp only[qa34]at hn;simp[-Int.natCast_add,zgd,zcH,zdz.ck,c0,c1,c2,binV,hn]
end
section
variable{s:Qy.Sel}(h:FS s)
include h
theorem ss_next(i:Int):eqS oeq (.next [.int .i64 i,seC s,seC s]) (.next [.int .i64 i,seC s,seC s])=true:=zdm (by simp[wfs,wf,zsl])
theorem zuJ:∀(n i:Nat),i+n=s.order.length→lup Out (zdJ pr.ev lup) [.int .i64 (i:Int),seC s,seC s]=some (.ret (.bool true),[])
 |0,i,hi=>by
  obtain rfl:i=s.order.length:=by omega
  obtain⟨c0,c1,c2,c3,c4⟩:=se_1 s;rw[zan];simp[-Int.natCast_add,zdJ,zgL,c2,c3,c4,zaa (zmI h.l),zaa (zmI h.o),rtn]
 |n+1,i,hi=>by
  have h1:i<s.order.length:=by omega
  have hl:=h.tl;obtain⟨c0,c1,c2,c3,c4⟩:=se_1 s;have ih:=zuJ n (i+1) (by omega);obtain⟨f0,f1⟩:=tmC_11 s.order[i];have hx:=zt8 (h.t _ (qa36 h1));have hr:=ss_next h (((i+1:Nat):Int));rw[zan];simp[-Int.natCast_add,zdJ,zdN,zdM,c2,h1,ziZ zmX s.order i h1,tmC_ld,zpG,zxh,f0,f1,binV,zaa hx,zbU (show i≤1000000 by omega),ag,zg2,hr,ih]
theorem zuK:∀(n i:Nat),i+n=s.ops.length→lup Out (zdK pr.ev lup) [.int .i64 (i:Int),seC s,seC s]=some (.ret (.bool true),[])
 |0,i,hi=>by
  obtain rfl:i=s.ops.length:=by omega
  obtain⟨c0,c1,c2,c3,c4⟩:=se_1 s;have hn:=zuJ h s.order.length 0 (by omega);simp only[qa34]at hn;rw[zan];simp[-Int.natCast_add,zdK,zgM,c1,hn]
 |n+1,i,hi=>by
  have h1:i<s.ops.length:=by omega
  have hl:=h.ol;obtain⟨c0,c1,c2,c3,c4⟩:=se_1 s;have ih:=zuK n (i+1) (by omega);have el:elV 1 (.list (s.ops.map (.int .i64))) (.int .i64 (i:Int))=some (.int .i64 s.ops[i]):=by rw[zm9 1 (Vm.V.int .i64) s.ops .i64 i (fun _=>rfl),qa11 h1];rfl
  have ld:ldV false 1 (.int .i64 s.ops[i]) 0=some (.int .i64 s.ops[i]):=rfl;rw[zan];simp[-Int.natCast_add,zdK,c1,h1,el,ld,zbU (show i≤1000000 by omega),ih]
theorem zuL:∀(n i:Nat),i+n=s.cores.length→lup Out (zdL pr.ev lup) [.int .i64 (i:Int),seC s,seC s]=some (.ret (.bool true),[])
 |0,i,hi=>by
  obtain rfl:i=s.cores.length:=by omega
  obtain⟨c0,c1,c2,c3,c4⟩:=se_1 s;have hn:=zuK h s.ops.length 0 (by omega);simp only[qa34]at hn;rw[zan];simp[-Int.natCast_add,zdL,zgN,c0,hn]
 |n+1,i,hi=>by
  have h1:i<s.cores.length:=by omega
  have hl:=h.cl;obtain⟨c0,c1,c2,c3,c4⟩:=se_1 s;have ih:=zuL n (i+1) (by omega);have hx:=m_sameC (h.c _ (qa36 h1));rw[zan];simp[-Int.natCast_add,zdL,c0,h1,ziZ zdz s.cores i h1,zzT,zdz.nm,zaa hx,zbU (show i≤1000000 by omega),ih]
theorem zyC:pr.ev 8 [seC s,seC s] []=some (.ret (.bool true),[]):=by
 refine pr.of rfl rfl rfl (zni _ _ _ _ _) ?_;obtain⟨c0,c1,c2,c3,c4⟩:=se_1 s;have hn:=zuL h s.cores.length 0 (by omega);simp only[qa34]at hn;simp[-Int.natCast_add,ziC,zdO,c0,c1,c2,hn]
end
end
end Go.Proofs.YtlooegbcfkoloaaGreatDoor
namespace Qy
open Lx Ex
def itemP(x:Item):S:=if x.star then(if x.table=[]then[42]else x.table++[46,42])else if x.name=[]then print x.e else print x.e++[32,97,115,32]++x.name
def sepS:List S→S
 |[]=>[]
 |[a]=>a
 |a::b::r=>a++[44,32]++sepS (b::r)
theorem sepS_join:∀l:List S,sepS l=Go.Lib.join l [44,32]
 |[]=>rfl
 |[c]=>by rw[sepS];simp[Go.Lib.join,List.intercalate]
 |c::d::r=>by
  rw[sepS,sepS_join (d::r),Go.Lib.join_cons,Go.Lib.join_cons];simp[Go.Lib.joinTail]
def behind(w:S)(l:List E):S:=if l=[]then[]else[32]++w++[32]++sepS (l.map print)
def joinP(j:Int):S:=if j=1 then[32,106,111,105,110,32]else if j=2 then[32,108,101,102,116,32,106,111,105,110,32]else[44,32]
def asP(f:From):S:=if f.as_=f.table then[]else[32,97,115,32]++f.as_
def fromP(b:Bool)(f:From):S:=(if b then[32,102,114,111,109,32]else joinP f.join)++f.table++asP f++(if b=false∧f.join≠0 then behind wOn f.on else[])
def tablesP:List From→S
 |[]=>[]
 |f::r=>fromP true f++r.flatMap (fromP false)
def wGroupBy:S:=[103,114,111,117,112,32,98,121]
def selP(d:Bool):S:=if d then[115,101,108,101,99,116,32,100,105,115,116,105,110,99,116,32]else[115,101,108,101,99,116,32]
def coreP(c:Core):S:=selP c.dist++(sepS (c.items.map itemP)++tablesP c.from_++behind wWhere c.wher)++behind wGroupBy c.group++behind wHaving c.having
def termP(t:Term):S:=print t.e++(if t.coll=1 then[32,99,111,108,108,97,116,101,32,110,111,99,97,115,101]else[])++(if t.desc then[32,100,101,115,99]else[])
def wordP(o:Int):S:=if o=1 then[32,117,110,105,111,110,32,97,108,108,32]else if o=2 then[32,105,110,116,101,114,115,101,99,116,32]else if o=3 then[32,101,120,99,101,112,116,32]else[32,117,110,105,111,110,32]
def restP:List Core→List Int→S
 |[],_=>[]
 |c::cs,[]=>coreP c++restP cs []
 |c::cs,o::os=>wordP o++coreP c++restP cs os
def coresP:List Core→List Int→S
 |[],_=>[]
 |c::cs,os=>coreP c++restP cs os
def orderP(l:List Term):S:=if l=[]then[]else[32,111,114,100,101,114,32,98,121,32]++sepS (l.map termP)
def printQ(s:Sel):S:=coresP s.cores s.ops++orderP s.order++behind wLimit s.lim++behind wOffset s.off
def atP(cs:List Core)(os:List Int)(i:Nat):S:=match cs[i]? with
 |some c=>(if i=0 then[]else match os[i-1]? with|some o=>wordP o|none=>[])++coreP c
 |none=>[]
theorem zq6:∀(cs:List Core)(os:List Int),restP cs os=(List.range cs.length).flatMap fun i=>(match os[i]? with|some o=>wordP o|none=>[])++(match cs[i]? with|some c=>coreP c|none=>[])
 |[],os=>rfl
 |c::cs,[]=>by
  rw[restP,zq6 cs []];simp[List.range_succ_eq_map,List.flatMap_map]
 |c::cs,o::os=>by
  rw[restP,zq6 cs os];simp[List.range_succ_eq_map,List.flatMap_map]
theorem coresP_at(cs:List Core)(os:List Int):coresP cs os=(List.range cs.length).flatMap (atP cs os):=by
 cases cs with
 |nil=>rfl
 |cons c cs=>
  rw[coresP,zq6];simp only[qa30,List.range_succ_eq_map,qa29,List.flatMap_map];congr 1;simp only[List.flatMap];congr 1;refine qa17 fun i hi=>?_;have hi:i<cs.length:=by simpa using hi
  unfold atP;simp[qa11 hi]
end Qy
namespace Go.Proofs.YtlooegbcfkoloaaGreatDoor
section
open Go.RowKit
open Vm
theorem inner_eq(k k' kv:Int)(T:Ex.S):(if k=3 then Ex.innU (k',kv,T)else Ex.inn (k',kv,T))=if(3≤k'∧k'≤8)∨(k'=1∧k=3∧kv=1)then 40::(T++[41])else T:=by
 by_cases h3:k=3
 ·rw[if_pos h3,Ex.innU];congr 1;simp[Ex.zkT,h3]
 ·rw[if_neg h3,Ex.inn];congr 1;simp[Ex.zkT,h3]
def shape(k:Int)(d:Bool)(n:Nat):Prop:=
 k=1∨k=2∨(k=3∧n=1)∨(k=4∧n=2)∨(k=5∧n=2)∨(k=6∧2≤n)∨(k=7∧n=3)∨(k=8∧n=2)∨(k=9∧2≤n)∨(k=10∧d=false)∨(k=11∧n=1)∨(k=11∧n=0)∨(k=12∧n=1)
theorem zsO{k:Int}{o:Ex.S}{v:Ex.V}{t m:Ex.S}{g d:Bool}{n:Nat}(h:Ex.ownF k o v t m g d n=true):shape k d n:=by
 unfold Ex.ownF at h;unfold shape;by_cases hk:k=1
 ·rw[if_pos hk]at h;simp only[qb5,qa27,qa25]at h;simp only[hk];first|(simp;done)|(simp_all;done)|(simp_all;omega)
 rw[if_neg hk]at h;by_cases hk:k=2
 ·rw[if_pos hk]at h;simp only[qb5,qa27,qa25]at h;simp only[hk];first|(simp;done)|(simp_all;done)|(simp_all;omega)
 rw[if_neg hk]at h;by_cases hk:k=3
 ·rw[if_pos hk]at h;simp only[qb5,qa27,qa25]at h;simp only[hk];first|(simp;done)|(simp_all;done)|(simp_all;omega)
 rw[if_neg hk]at h;by_cases hk:k=4
 ·rw[if_pos hk]at h;simp only[qb5,qa27,qa25]at h;simp only[hk];first|(simp;done)|(simp_all;done)|(simp_all;omega)
 rw[if_neg hk]at h;by_cases hk:k=5
 ·rw[if_pos hk]at h;simp only[qb5,qa27,qa25]at h;simp only[hk];first|(simp;done)|(simp_all;done)|(simp_all;omega)
 rw[if_neg hk]at h;by_cases hk:k=6
 ·rw[if_pos hk]at h;simp only[qb5,qa27,qa25]at h;simp only[hk];first|(simp;done)|(simp_all;done)|(simp_all;omega)
 rw[if_neg hk]at h;by_cases hk:k=7
 ·rw[if_pos hk]at h;simp only[qb5,qa27,qa25]at h;simp only[hk];first|(simp;done)|(simp_all;done)|(simp_all;omega)
 rw[if_neg hk]at h;by_cases hk:k=8
 ·rw[if_pos hk]at h;simp only[qb5,qa27,qa25]at h;simp only[hk];first|(simp;done)|(simp_all;done)|(simp_all;omega)
 rw[if_neg hk]at h;by_cases hk:k=9
 ·rw[if_pos hk]at h;simp only[qb5,qa27,qa25]at h;simp only[hk];first|(simp;done)|(simp_all;done)|(simp_all;omega)
 rw[if_neg hk]at h;by_cases hk:k=10
 ·rw[if_pos hk]at h;simp only[qb5,qa27,qa25]at h;simp only[hk];first|(simp;done)|(simp_all;done)|(simp_all;omega)
 rw[if_neg hk]at h;by_cases hk:k=11
 ·rw[if_pos hk]at h;simp only[qb5,qa27,qa25]at h;simp only[hk];first|(simp;done)|(simp_all;done)|(simp_all;omega)
 rw[if_neg hk]at h;by_cases hk:k=12
 ·rw[if_pos hk]at h;simp only[qb5,qa27,qa25]at h;simp only[hk];first|(simp;done)|(simp_all;done)|(simp_all;omega)
 rw[if_neg hk]at h;cases h
inductive Qt:Ex.E→Prop
 |mk {e:Ex.E}:Ex.N64 e→e.val.2.2.length≤1000000→(∀x∈e.args,Qt x)→Qt e
theorem Qt.n{e:Ex.E}(h:Qt e):Ex.N64 e:=by cases h;assumption
theorem Qt.v{e:Ex.E}(h:Qt e):e.val.2.2.length≤1000000:=by cases h;assumption
theorem Qt.a{e:Ex.E}(h:Qt e):∀x∈e.args,Qt x:=by cases h;assumption
theorem zfn(c:Ex.C):c.2.2.length≤(Ex.inn c).length:=by
 unfold Ex.inn;split<;>simp<;>omega
theorem zy3(c:Ex.C):c.2.2.length≤(Ex.innU c).length:=by
 unfold Ex.innU;split<;>simp<;>omega
abbrev kO(e:Ex.E):Ex.C:=(e.kind,e.val.1,Ex.print e)
theorem zhc:∀{l:List Ex.E} {x:Ex.E},x∈l→(Ex.print x).length≤(Ex.commas (Ex.prints l)).length
 |[y],x,h=>by
  obtain rfl:=qa22.1 h;exact qa57 _
 |y::z::r,x,h=>by
  rw[Ex.prints,Ex.prints,Ex.commas]
  ·rcases qa53.1 h with rfl|h
   ·simp only[qa21];omega
   ·have:=zhc h;rw[Ex.prints]at this;simp only[qa21];omega
  ·intro h;cases h
theorem zn0:∀{l:List Ex.E} {x:Ex.E},x∈l→(Ex.print x).length≤(Ex.zeQ (Ex.prints l)).length
 |[y],x,h=>by
  obtain rfl:=qa22.1 h;rw[Ex.prints,Ex.prints,Ex.zeQ];simp only[qa21];omega
 |y::z::r,x,h=>by
  rw[Ex.prints,Ex.prints,Ex.zeQ];simp only[qa21];rcases qa53.1 h with rfl|h
  ·omega
  ·rcases qa53.1 h with rfl|h
   ·omega
   ·have:=zn0 h;omega
theorem zrO{d:Bool}{l:List Ex.E}{x:Ex.E}(h:x∈l):(Ex.print x).length≤(Ex.zj5 d (Ex.prints l)).length:=by
 unfold Ex.zj5;cases d
 ·have:=zn0 h;simp only[qb0,qa21];omega
 ·simp only[qa60,qa21];cases l with
  |nil=>cases h
  |cons y r=>
   rw[Ex.prints];simp only[Ex.kid,List.drop_succ_cons,List.drop_zero,qa12,Option.getD_some];rcases qa53.1 h with rfl|h
   ·omega
   ·have:=zn0 h;omega
theorem zkh:∀s:Ex.S,(Ex.zd1 s).length≤2*s.length
 |[]=>qa57 _
 |c::r=>by
  have:=zkh r;rw[Ex.zd1];split<;>simp<;>omega
theorem add_s(x y:List UInt8)(h:x.length≤2000000000)(h':y.length≤2000000000):strV .add x y=some (.str (x++y)):=st_add x y (by omega)
def accL{α:Type}(f:α→Vm.V)(l:List α)(i:Nat):Vm.V:=if i=0 then .nils else .list ((l.take i).map f)
theorem accL_0{α:Type}(f:α→Vm.V)(l:List α):accL f l 0=.nils:=rfl
theorem zAh{α:Type}(z b:Nat)(f:α→Vm.V)(l:List α)(i:Nat)(h:i<l.length)(hz:∀x,(f x).size=z)(hb:l.length*(b+1)≤140737488355328):appV z b (accL f l i) (.list [f l[i]])=some (accL f l (i+1)):=by
 have h2:l.take (i+1)=l.take i++[l[i]]:=by rw[List.take_add_one,qa11 h];rfl
 have hm:(i+1)*(b+1)≤l.length*(b+1):=Nat.mul_le_mul_right _ h;have hz2:∀y∈[f l[i]],y.size=z:=fun y hy=>by rw[qa22.1 hy];exact hz _
 unfold accL;rw[if_neg (Nat.succ_ne_zero i),h2,qa43];by_cases h0:i=0
 ·subst h0;rw[if_pos rfl,app_n z b _ hz2 (by simpa using qa56 hm hb)];simp
 ·rw [if_neg h0,zjz z b _ _ hz2 (by simp;rw [Nat.min_eq_left (Nat.le_of_lt h)];omega)];rfl
theorem zAl{α:Type}(f:α→Vm.V)(l:List α):norm1 (accL f l l.length)=.list (l.map f):=by
 unfold accL;split
 ·rename_i h;rw[qa6 h];rfl
 ·rw[List.take_length];rfl
theorem zlB{α:Type}(z:Nat)(f:α→Vm.V)(l:List α)(i:Nat)(hz:∀x,(f x).size=z)(h:i≤l.length):slL z (.list (l.map f)) (some (.int .i64 (i:Int))) none=some (.list ((l.drop i).map f)):=by
 have h1:∀x∈l.map f,x.size=z:=fun x hx=>by
  obtain⟨y,_,rfl⟩:=qa55.1 hx;exact hz y
 have h2:(l.map f).take l.length=l.map f:=List.take_of_length_le (by simp);simp[slL,ziL,bnd,norm0,h,hz,List.map_drop,h2]
end
section
open Go.RowKit
open Vm
variable[Gl]
theorem ev_num{n:Int}(h1:-9223372036854775808≤n)(h2:n≤9223372036854775807):pr.ev 119 [.int .i64 n] []=some (.ret (.str (Ox.num n)),[]):=pr.ofN rfl (by show zhT (znb [.int .i64 n])=_;simp[zhT,znb,h1,h2])
theorem ev_rnum{n:Int}(h1:-9223372036854775808≤n)(h2:n≤9223372036854775807):pr.ev 95 [.int .i64 n] []=some (.ret (.str (Ox.num n)),[]):=pr.ofN rfl (by show zhT (znb [.int .i64 n])=_;simp[zhT,znb,h1,h2])
theorem ev_hex{s:List UInt8}(hs:s.length≤1000000):pr.ev 121 [.str s] []=some (.ret (.str (Ox.hex s)),[]):=pr.ofN rfl (by show zhT (ans1 _ [.str s])=_;simp[zhT,ans1,hs])
theorem ev_rhex{s:List UInt8}(hs:s.length≤1000000):pr.ev 96 [.str s] []=some (.ret (.str (Ox.hex s)),[]):=pr.ofN rfl (by show zhT (ans1 _ [.str s])=_;simp[zhT,ans1,hs])
theorem zrH{l:List (List UInt8)}{s:List UInt8}(h1:l.length≤1000000)(h2:(Lib.join l s).length≤1000000000):pr.ev 42 [.list (l.map Vm.V.str),.str s] []=some (.ret (.str (Lib.join l s)),[]):=pr.ofN rfl (by show zhT (zpk [.list (l.map Vm.V.str),.str s])=_;simp[zhT,zpk,zpK,h1,h2])
theorem ev_repl{s:List UInt8}(hs:s.length≤1000000):pr.ev 120 [.str s,.str [39],.str [39,39]] []=some (.ret (.str (Ex.zd1 s)),[]):=pr.ofN rfl (by show zhT (zpj [.str s,.str [39],.str [39,39]])=_;simp[zhT,zpj,hs])
theorem m_Quote{v:Ex.V}(h1:-9223372036854775808≤v.2.1)(h2:v.2.1≤9223372036854775807)(h3:v.2.2.length≤1000000):pr.ev 88 [.agg [.int .i64 v.1,.int .i64 v.2.1,.str v.2.2]] []=some (.ret (.str (Ex.valP v)),[]):=by
 refine pr.of rfl rfl rfl (zso _ _ _ _) ?_;have hq:=zkh v.2.2;have hx:=zug v.2.2;unfold Ex.valP;by_cases k0:v.1=0
 ·simp[zeJ,ckA_agg,k0,rtn,Ex.zqG]
 by_cases k1:v.1=1
 ·simp[zeJ,ckA_agg,k1,rtn,zaa (ev_num h1 h2)]
 by_cases k2:v.1=2
 ·simp[zeJ,ckA_agg,k2,rtn,zaa (ev_repl h3),add_s,show(Ex.zd1 v.2.2).length≤2000000000 by omega,show(Ex.zd1 v.2.2).length+1≤2000000000 by omega]
 by_cases k3:v.1=3
 ·simp[zeJ,ckA_agg,k3,rtn,zaa (ev_hex h3),add_s,show(Ox.hex v.2.2).length≤2000000000 by omega,show(Ox.hex v.2.2).length+1+1≤2000000000 by omega]
 ·simp[zeJ,ckA_agg,k0,k1,k2,k3,rtn]
theorem zoT{e x:Ex.E}{i:Nat}(hx:e.args[i]?=some x)(hl:e.args.length≤1000000):pr.ev 94 [encE e,.int .i64 (i:Int)] []=some (.ret (encE x),[]):=by
 refine pr.of rfl (by simp only[List.map,(zbe _).rd];rfl) rfl (ztN _ _ _ _ _) ?_;have hlt:=(qa9.1 hx).1;have hxi:e.args[i]=x:=(qa9.1 hx).2;have h10:cell (encE e) 10=.list (e.args.map encE):=by cases e;rw[enc_mk];rfl
 simp[-Int.natCast_add,zmZ,h10,hlt,zeg,hxi,zdb,rtn]
theorem m_not{e:Ex.E}{w:Ex.S}(hw:w.length≤1000):pr.ev 90 [encE e,.str w] []=some (.ret (.str (Ex.notW e.neg w)),[]):=by
 refine pr.of rfl (by simp only[List.map,(zbe _).rd];rfl) rfl (zwi _ _ _ _ _) ?_;have h8:cell (encE e) 8=.bool e.neg:=by cases e;rw[enc_mk];rfl
 cases h:e.neg<;>simp[zof,h8,h,Ex.notW,add_s,rtn,show w.length≤2000000000 by omega,show w.length+1≤2000000000 by omega,show w.length+1+1+1+1+1≤2000000000 by omega]
theorem zyJ{e x:Ex.E}{i:Nat}(hx:e.args[i]?=some x)(hl:e.args.length≤1000000)(hT:(Ex.print x).length≤1000000000)(hp:pr.ev 43 [encE x] []=some (.ret (.str (Ex.print x)),[])):
  pr.ev 89 [encE e,.int .i64 (i:Int)] []=some (.ret (.str (if e.kind=3 then Ex.innU (kO x)else Ex.inn (kO x))),[]):=by
 refine pr.of rfl (by simp only[List.map,(zbe _).rd];rfl) rfl (zst _ _ _ _ _) ?_;have h0:cell (encE e) 0=.int .i64 e.kind:=by cases e;rw[enc_mk];rfl
 have x0:cell (encE x) 0=.int .i64 x.kind:=by cases x;rw[enc_mk];rfl
 have x2:cell (encE x) 2=.int .i64 x.val.1:=by cases x;rw[enc_mk];rfl
 rw[inner_eq];have b1:(Ex.print x).length≤2000000000:=by omega
 have b2:(Ex.print x).length+1≤2000000000:=by omega
 have hsh:=fun a b c d=>show zaV pr.ev lup a b (.bool true) c d=_ from rfl;by_cases hk:3≤x.kind∧x.kind≤8
 ·have:x.kind=3∨x.kind=4∨x.kind=5∨x.kind=6∨x.kind=7∨x.kind=8:=by omega
  rw[if_pos (.inl hk)];rcases this with h|h|h|h|h|h<;>simp[sh_expr_inner,zaV,zaa (zoT hx hl),zaa hp,x0,h,add_s,b1,b2,rtn]
 ·have n3:¬ x.kind=3:=by omega
  have n4:¬x.kind=4:=by omega
  have n5:¬x.kind=5:=by omega
  have n6:¬x.kind=6:=by omega
  have n7:¬x.kind=7:=by omega
  have n8:¬x.kind=8:=by omega
  by_cases k1:x.kind=1
  ·by_cases k3:e.kind=3
   ·by_cases kv:x.val.1=1
    ·simp[sh_expr_inner,zaV,zeb,zaa (zoT hx hl),zaa hp,x0,x2,h0,k1,k3,kv,add_s,b1,b2,rtn]
    ·simp[sh_expr_inner,zaV,zeb,zaa (zoT hx hl),zaa hp,x0,x2,h0,k1,k3,kv,rtn]
   ·simp[sh_expr_inner,zaV,zeb,zaa (zoT hx hl),zaa hp,x0,x2,h0,k1,k3,rtn]
  ·rw [if_neg (by omega)];simp[sh_expr_inner,zaV,zaa (zoT hx hl),zaa hp,x0,n3,n4,n5,n6,n7,n8,k1,rtn]
end
section
open Go.RowKit
open Vm
variable[Gl]
def PrA(l:List Ex.E):Prop:=∀x∈l,pr.ev 43 [encE x] []=some (.ret (.str (Ex.print x)),[])
theorem zoV(l:List Ex.E)(hl:l.length≤900000)(hp:PrA l)(hlen:(Lib.join (l.map Ex.print) [44,32]).length≤100000000):∀(n i:Nat),i+n=l.length →
  lup Out (zeO pr.ev lup) [.list (l.map encE),.int .i64 l.length,.int .i64 (i:Int),accL (fun e=>Vm.V.str (Ex.print e)) l i]=some (.ret (.str (40::(Lib.join (l.map Ex.print) [44,32]++[41]))),[])
 |0,i,hi=>by
  obtain rfl:i=l.length:=by omega
  have hj:=zrH (l:=l.map Ex.print) (s:=[44,32]) (by simp;omega) (by omega);rw[List.map_map]at hj;have b1:(Lib.join (l.map Ex.print) [44,32]).length≤2000000000:=by omega
  have b2:(Lib.join (l.map Ex.print) [44,32]).length+1≤2000000000:=by omega
  have hn:=zAl (fun e=>Vm.V.str (Ex.print e)) l;rw[zan];have hj2:pr.ev 42 [.list (l.map fun e=>Vm.V.str (Ex.print e)),.str [44,32]] []=some (.ret (.str (Lib.join (l.map Ex.print) [44,32])),[]):=hj;simp[-Int.natCast_add,zeO,ziJ,hn,zaa hj2,add_s,b1,b2,rtn]
 |n+1,i,hi=>by
  have h1:i<l.length:=by omega
  have hx:=hp _ (qa36 h1);have ih:=zoV l hl hp hlen n (i+1) (by omega);have ha:=zAh 1 16 (fun e=>Vm.V.str (Ex.print e)) l i h1 (fun _=>rfl) (by omega);rw[zan];simp[-Int.natCast_add,zeO,h1,zeg,zdb,zaa hx,ha,zbU (show i≤1000000 by omega),ih]
theorem zzR(l:List Ex.E):Ex.commas (Ex.prints l)=Lib.join (l.map Ex.print) [44,32]:=by
 rw[Ex.zpe,Ex.zei,List.map_map];rfl
theorem zvu(l:List Ex.E)(hl:l.length≤900000)(hp:PrA l)(hlen:(Ex.commas (Ex.prints l)).length≤100000000):pr.ev 91 [.list (l.map encE)] []=some (.ret (.str (40::(Ex.commas (Ex.prints l)++[41]))),[]):=by
 refine pr.of rfl rfl rfl (zq3 _ _ _ _) ?_;rw[zzR]at hlen ⊢;have h:=zoV l hl hp hlen l.length 0 (by omega);simpa[-Int.natCast_add,zkM,accL_0]using h
theorem zef(k:Int)(o:Ex.S)(v:Ex.V)(t n:Ex.S)(s:Int)(g d:Bool)(a:List Ex.E):cell (encE (.mk k o v t n s g d a)) 10=.list (a.map encE):=by rw[enc_mk];rfl
theorem mk_0(k:Int)(o:Ex.S)(v:Ex.V)(t n:Ex.S)(s:Int)(g d:Bool)(a:List Ex.E):cell (encE (.mk k o v t n s g d a)) 0=.int .i64 k:=by rw[enc_mk];rfl
theorem mk_1(k:Int)(o:Ex.S)(v:Ex.V)(t n:Ex.S)(s:Int)(g d:Bool)(a:List Ex.E):cell (encE (.mk k o v t n s g d a)) 1=.str o:=by rw[enc_mk];rfl
theorem mk_2(k:Int)(o:Ex.S)(v:Ex.V)(t n:Ex.S)(s:Int)(g d:Bool)(a:List Ex.E):cell (encE (.mk k o v t n s g d a)) 2=.int .i64 v.1:=by rw[enc_mk];rfl
theorem mk_3(k:Int)(o:Ex.S)(v:Ex.V)(t n:Ex.S)(s:Int)(g d:Bool)(a:List Ex.E):cell (encE (.mk k o v t n s g d a)) 3=.int .i64 v.2.1:=by rw[enc_mk];rfl
theorem mk_4(k:Int)(o:Ex.S)(v:Ex.V)(t n:Ex.S)(s:Int)(g d:Bool)(a:List Ex.E):cell (encE (.mk k o v t n s g d a)) 4=.str v.2.2:=by rw[enc_mk];rfl
theorem mk_5(k:Int)(o:Ex.S)(v:Ex.V)(t n:Ex.S)(s:Int)(g d:Bool)(a:List Ex.E):cell (encE (.mk k o v t n s g d a)) 5=.str t:=by rw[enc_mk];rfl
theorem mk_6(k:Int)(o:Ex.S)(v:Ex.V)(t n:Ex.S)(s:Int)(g d:Bool)(a:List Ex.E):cell (encE (.mk k o v t n s g d a)) 6=.str n:=by rw[enc_mk];rfl
theorem mk_8(k:Int)(o:Ex.S)(v:Ex.V)(t n:Ex.S)(s:Int)(g d:Bool)(a:List Ex.E):cell (encE (.mk k o v t n s g d a)) 8=.bool g:=by rw[enc_mk];rfl
theorem mk_9(k:Int)(o:Ex.S)(v:Ex.V)(t n:Ex.S)(s:Int)(g d:Bool)(a:List Ex.E):cell (encE (.mk k o v t n s g d a)) 9=.bool d:=by rw[enc_mk];rfl
section
variable(o:Ex.S)(v:Ex.V)(t nm:Ex.S)(s:Int)(g d:Bool)
theorem zyK(a:List Ex.E)(T:Ex.S)(hT:T.length+o.length≤100000000)(h:pr.ev 91 [.list (a.map encE)] []=some (.ret (.str T),[])):pr.ev 93 [encE (.mk 10 o v t nm s g d a)] []=some (.ret (.str (o++T)),[]):=by
 refine pr.of rfl (by simp only[List.map,(zbe _).rd];rfl) rfl (zgA _ _ _ _) ?_;simp[zeN,mk_0,mk_1,zef,zaa h,add_s,show T.length≤2000000000 by omega,show o.length≤2000000000 by omega,rtn]
theorem zwx(x:Ex.E)(hT:(Ex.print x).length+o.length≤100000000)(h:pr.ev 43 [encE x] []=some (.ret (.str (Ex.print x)),[])):
  pr.ev 93 [encE (.mk 11 o v t nm s g d [x])] []=some (.ret (.str (if d then o++[40]++Ex.zav++[32]++Ex.print x++[41]else o++[40]++Ex.print x++[41])),[]):=by
 refine pr.of rfl (by simp only[List.map,(zbe _).rd];rfl) rfl (zgA _ _ _ _) ?_;have hpt:=zoT (e:=.mk 11 o v t nm s g d [x]) (x:=x) (i:=0) rfl (by simp[Ex.E.args]);simp only[qa34]at hpt;cases d<;>simp(disch:=first|omega|(simp only[qb1];omega)|fail) [zeN,mk_0,mk_1,mk_9,zef,zaa hpt,zaa h,add_s,rtn,Ex.zav]
theorem zub(hT:o.length≤100000000):pr.ev 93 [encE (.mk 11 o v t nm s g d [])] []=some (.ret (.str (o++[40,42,41])),[]):=by
 refine pr.of rfl (by simp only[List.map,(zbe _).rd];rfl) rfl (zgA _ _ _ _) ?_;simp[zeN,mk_0,mk_1,zef,add_s,show o.length≤2000000000 by omega,rtn]
end
theorem zl6(W U:List (List UInt8))(h:W.length+U.length≤1000000):appV 1 16 (.list (W.map .str)) (.list (U.map .str))=some (.list ((W++U).map .str)):=by
 rw[zjz 1 16 _ _ (fun y hy=>by obtain⟨x,_,rfl⟩:=qa55.1 hy;rfl) (by simp;omega),qa43]
theorem zpg:∀(n:Nat)(l:List Ex.E) (W:List (List UInt8)),l.length≤n→PrA l→W.length+2*l.length+1≤1000000→(Lib.join (W++Ex.zgG (Ex.prints l)++[Ex.wEnd]) [32]).length≤1000000000 →
  lup Out (zcY pr.ev lup) [.list (l.map encE),.list (W.map .str)]=some (.ret (.str (Lib.join (W++Ex.zgG (Ex.prints l)++[Ex.wEnd]) [32])),[])
 |_,[],W,_,hp,hW,hT=>by
  have ha:=zl6 W [Ex.wEnd] (by simp at hW ⊢;omega);simp only[Ex.prints,Ex.zgG,qa48]at hT ⊢;have hj:=zrH (l:=W++[Ex.wEnd]) (s:=[32]) (by simp at hW ⊢;omega) hT;rw[zan];simp only[Ex.wEnd,qb3]at ha hj ⊢;simp[-Int.natCast_add, -List.map_append,zcY,zeX,zdU,ha,zaa hj,rtn]
 |_,[x],W,_,hp,hW,hT=>by
  have hx:=hp x (by simp);have ha1:=zl6 W [Ex.zkW,Ex.print x] (by simp at hW ⊢;omega);have ha:=zl6 (W++[Ex.zkW,Ex.print x]) [Ex.wEnd] (by simp at hW ⊢;omega);have hp1:Ex.prints [x]=[(x.kind,x.val.1,Ex.print x)]:=by rw[Ex.prints,Ex.prints]
  rw[hp1,Ex.zgG]at hT ⊢;dsimp only at hT ⊢;have hj:=zrH (l:=W++[Ex.zkW,Ex.print x]++[Ex.wEnd]) (s:=[32]) (by simp at hW ⊢;omega) hT;have el:=zeg [x] 0 .i64;simp only[qa34,qb3,qa12,qa46]at el;rw[zan];simp only[Ex.wEnd,Ex.zkW,qb3]at ha ha1 hj ⊢;simp[-Int.natCast_add, -List.map_append, -List.append_assoc,zcY,zeX,zdU,el,zdb,zaa hx,ha1,ha,zaa hj,rtn]
 |n+1,x::y::r,W,hn,hp,hW,hT=>by
  have hx:=hp x (by simp);have hy:=hp y (by simp);have ha:=zl6 W [Ex.zgb,Ex.print x,Ex.zjC,Ex.print y] (by simp at hW ⊢;omega);have hp1:Ex.prints (x::y::r)=(x.kind,x.val.1,Ex.print x)::(y.kind,y.val.1,Ex.print y)::Ex.prints r:=by rw[Ex.prints,Ex.prints]
  rw[hp1,Ex.zgG]at hT ⊢;dsimp only at hT ⊢;have e1:W++Ex.zgb::Ex.print x::Ex.zjC::Ex.print y::Ex.zgG (Ex.prints r)++[Ex.wEnd]=W++[Ex.zgb,Ex.print x,Ex.zjC,Ex.print y]++Ex.zgG (Ex.prints r)++[Ex.wEnd]:=by simp
  rw[e1]at hT ⊢;have ih:=zpg n r (W++[Ex.zgb,Ex.print x,Ex.zjC,Ex.print y]) (by simp at hn;omega) (fun z hz=>hp z (by simp[hz])) (by simp at hW ⊢;omega) hT;have el0:=zeg (x::y::r) 0 .i64;have el1:=zeg (x::y::r) 1 .i64;have sl:=zlB 11 encE (x::y::r) 2 (fun e=>zde e) (by simp);have hlen:(1:Int)<((r.length+1+1:Nat):Int):=by omega
  simp only[qa34,Int.natCast_one,show((2:Nat):Int)=2 from rfl,qa52,qa12,qa13,qa46,List.drop_succ_cons,List.drop_zero]at el0 el1 sl;rw[zan,←ih];simp only[Ex.zgb,Ex.zjC,qb3]at ha ⊢;simp[-Int.natCast_add, -List.map_append, -List.append_assoc,zcY,el0,el1,zdb,zaa hx,zaa hy,ha,sl,hlen]
theorem m_case(o:Ex.S)(v:Ex.V)(t nm:Ex.S)(s:Int)(g d:Bool)(a:List Ex.E)(hl:a.length≤400000)(hd:d=true→a≠[])(hlen:(Ex.zj5 d (Ex.prints a)).length≤100000000)(hp:PrA a):
  pr.ev 92 [encE (.mk 9 o v t nm s g d a)] []=some (.ret (.str (Ex.zj5 d (Ex.prints a))),[]):=by
 refine pr.of rfl (by simp only[List.map,(zbe _).rd];rfl) rfl (znq _ _ _ _) ?_;rw[Ex.zzX]at hlen ⊢;cases d
 ·simp only[qb0]at hlen ⊢;have h:=zpg a.length a [Ex.wCase] (qa57 _) hp (by simp;omega) (by simpa using qa56 hlen (by omega));simp only[Ex.wCase,qb3]at h ⊢;simpa[zf0,zdT,zdV,mk_9,zef]using h
 ·cases a with
  |nil=>exact absurd rfl (hd rfl)
  |cons x r=>
   have hx:=hp x (by simp);have hk:(Ex.kid (Ex.prints (x::r)) 0).2.2=Ex.print x:=by rw[Ex.prints];rfl
   have hdr:(Ex.prints (x::r)).drop 1=Ex.prints r:=by rw[Ex.prints];rfl
   simp only[qa60,hk,hdr]at hlen ⊢;have h:=zpg r.length r [Ex.wCase,Ex.print x] (qa57 _) (fun z hz=>hp z (by simp[hz])) (by simp at hl ⊢;omega) (by simpa using qa56 hlen (by omega));have el0:=zeg (x::r) 0 .i64;have sl:=zlB 11 encE (x::r) 1 (fun e=>zde e) (by simp);have ha:=zl6 [Ex.wCase] [Ex.print x] (by simp);simp only[qa34,Int.natCast_one,qa52,qa12,qa46,List.drop_succ_cons,List.drop_zero]at el0 sl;have hlen:(0:Int)<(r.length:Int)+1:=by omega
   simp only[Ex.wCase,qb3]at h ha ⊢;simpa[-Int.natCast_add,zf0,zdT,zdV,mk_9,zef,el0,zdb,zaa hx,ha,sl,hlen]using h
end
section
open Go.RowKit
open Vm
variable[Gl]
section
variable{k:Int}{o:Ex.S}{v:Ex.V}{t nm:Ex.S}{s:Int}{g d:Bool}{a:List Ex.E}{x:Ex.E}{i:Nat}
theorem innU_at(hx:a[i]?=some x)(hl:a.length≤1000000)(hT:(Ex.print x).length≤1000000000)(hp:pr.ev 43 [encE x] []=some (.ret (.str (Ex.print x)),[])):
  pr.ev 89 [encE (.mk 3 o v t nm s g d a),.int .i64 (i:Int)] []=some (.ret (.str (Ex.innU (kO x))),[]):=zyJ (e:=.mk 3 o v t nm s g d a) hx hl hT hp
theorem ziy(hk:k≠3)(hx:a[i]?=some x)(hl:a.length≤1000000)(hT:(Ex.print x).length≤1000000000)(hp:pr.ev 43 [encE x] []=some (.ret (.str (Ex.print x)),[])):
  pr.ev 89 [encE (.mk k o v t nm s g d a),.int .i64 (i:Int)] []=some (.ret (.str (Ex.inn (kO x))),[]):=by
 have:=zyJ (e:=.mk k o v t nm s g d a) hx hl hT hp;rwa[if_neg (show ¬(Ex.E.mk k o v t nm s g d a).kind=3 from hk)]at this
end
set_option maxHeartbeats 4000000 in
theorem zyL:∀(n:Nat)(e:Ex.E),Ex.deep e≤n→Ex.count e≤400000→Ex.right e=true→Qt e→(Ex.print e).length≤100000000→pr.ev 43 [encE e] []=some (.ret (.str (Ex.print e)),[])
 |0,.mk k o v t nm s g d a,h,_,_,_,_=>by rw[zgD]at h;omega
 |n+1,.mk k o v t nm s g d a,h,hc,hR,hQ,hl=>by
  rw[zgD]at h;rw[zl3]at hc;rw[Ex.right,qa32,Ex.zke,qa33]at hR;obtain⟨hO,hR⟩:=hR;have hS:shape k d a.length:=zsO hO;have hal:=zha a;have ih:∀x∈a,(Ex.print x).length≤100000000→pr.ev 43 [encE x] []=some (.ret (.str (Ex.print x)),[]):=fun x hx hl=>zyL n x (by have:=zgn hx;omega) (by have:=zg9 hx;omega) (hR x hx) (hQ.a x hx) hl;have hv:=hQ.v;have hn:=hQ.n;simp only[Ex.N64,Ex.E.val]at hn hv;clear hR hQ h hO;refine pr.of rfl (by simp only[List.map,(zbe _).rd];rfl) rfl (zsu _ _ _ _) ?_;rcases hS with rfl|rfl|⟨rfl,ha⟩|⟨rfl,ha⟩|⟨rfl,ha⟩|⟨rfl,ha⟩|⟨rfl,ha⟩|⟨rfl,ha⟩|⟨rfl,ha⟩|⟨rfl,hd⟩|⟨rfl,ha⟩|⟨rfl,ha⟩|⟨rfl,ha⟩
  ·have hpr:Ex.print (.mk 1 o v t nm s g d a)=Ex.valP v:=by rw [Ex.print];rfl
   rw[hpr]at hl ⊢;simp[zaS,mk_0,mk_2,mk_3,mk_4,zaa (m_Quote hn.2 hn.1 hv),rtn]
  ·have hpr:Ex.print (.mk 2 o v t nm s g d a)=if t=[] then nm else t++[46]++nm:=by rw [Ex.print];rfl
   rw[hpr]at hl ⊢;by_cases ht:t=[]
   ·simp[zaS,mk_0,mk_5,mk_6,ht,rtn]
   ·rw[if_neg ht]at hl ⊢;simp only[qb1]at hl;simp(disch:=first|omega|(simp only[qb1];omega)|fail) [zaS,mk_0,mk_5,mk_6,ht,add_s,rtn]
  ·obtain⟨x,rfl⟩:=List.length_eq_one_iff.1 ha;have hpr:Ex.print (.mk 3 o v t nm s g d [x])=if o=Ex.wNot then Ex.wNot++[32]++Ex.innU (kO x)else o++Ex.innU (kO x):=by rw[Ex.print];rfl
   rw[hpr]at hl ⊢;have hl2:(Ex.innU (kO x)).length+o.length≤100000000:=by
    by_cases ho:o=Ex.wNot
    ·rw[if_pos ho]at hl;rw[ho];simp only[qb1]at hl ⊢;omega
    ·rw[if_neg ho]at hl;simp only[qb1]at hl;omega
   clear hl;have hga:=zy3 (kO x);have Ia:=innU_at (o:=o) (v:=v) (t:=t) (nm:=nm) (s:=s) (g:=g) (d:=d) (a:=[x]) (x:=x) (i:=0) rfl (by first|(simp;done)|(simp at hal ⊢;omega)) (by dsimp only at hga;omega) (ih x (by simp) (by dsimp only at hga;omega));simp only[qa34]at Ia;generalize Ex.innU (kO x)=T at *;simp only[Ex.wNot];by_cases ho:o=[110,111,116]
   ·simp(disch:=first|omega|(simp only[qb1];omega)|fail) [-Int.natCast_add,zaS,zaF,mk_0,mk_1,mk_8,zef,add_s,rtn,ho,zaa Ia];subst ho;simp(disch:=first|omega|(simp only[qb1];omega)|fail) [-Int.natCast_add,zaS,zaF,mk_0,mk_1,mk_8,zef,add_s,rtn,zaa Ia]
   ·simp(disch:=first|omega|(simp only[qb1];omega)|fail) [-Int.natCast_add,zaS,zaF,mk_0,mk_1,mk_8,zef,add_s,rtn,ho,zaa Ia]
  ·obtain⟨x,y,rfl⟩:=Ex.len2 ha;have hpr:Ex.print (.mk 4 o v t nm s g d [x,y])=Ex.inn (kO x)++[32]++o++[32]++Ex.inn (kO y):=by rw[Ex.print];rfl
   rw[hpr]at hl ⊢;simp only[qb1]at hl;have hga:=zfn (kO x);have Ia:=ziy (by decide) (k:=4) (o:=o) (v:=v) (t:=t) (nm:=nm) (s:=s) (g:=g) (d:=d) (a:=[x,y]) (x:=x) (i:=0) rfl (by first|(simp;done)|(simp at hal ⊢;omega)) (by dsimp only at hga;omega) (ih x (by simp) (by dsimp only at hga;omega));simp only[qa34]at Ia;have hgb:=zfn (kO y);have Ib:=ziy (by decide) (k:=4) (o:=o) (v:=v) (t:=t) (nm:=nm) (s:=s) (g:=g) (d:=d) (a:=[x,y]) (x:=y) (i:=1) rfl (by first|(simp;done)|(simp at hal ⊢;omega)) (by dsimp only at hgb;omega) (ih y (by simp) (by dsimp only at hgb;omega));simp only[Int.natCast_one]at Ib;generalize Ex.inn (kO x)=T at *;generalize Ex.inn (kO y)=U at *;simp(disch:=first|omega|(simp only[qb1];omega)|fail) [-Int.natCast_add,zaS,zaF,mk_0,mk_1,mk_8,zef,add_s,rtn,zaa Ia,zaa Ib]
  ·obtain⟨x,y,rfl⟩:=Ex.len2 ha;have hpr:Ex.print (.mk 5 o v t nm s g d [x,y])=Ex.inn (kO x)++[32]++Ex.wIs++[32]++(if g then Ex.wNot++[32]else[])++Ex.inn (kO y):=by rw[Ex.print];rfl
   rw[hpr]at hl ⊢;simp only[qb1]at hl;have hga:=zfn (kO x);have Ia:=ziy (by decide) (k:=5) (o:=o) (v:=v) (t:=t) (nm:=nm) (s:=s) (g:=g) (d:=d) (a:=[x,y]) (x:=x) (i:=0) rfl (by first|(simp;done)|(simp at hal ⊢;omega)) (by dsimp only at hga;omega) (ih x (by simp) (by dsimp only at hga;omega));simp only[qa34]at Ia;have hgb:=zfn (kO y);have Ib:=ziy (by decide) (k:=5) (o:=o) (v:=v) (t:=t) (nm:=nm) (s:=s) (g:=g) (d:=d) (a:=[x,y]) (x:=y) (i:=1) rfl (by first|(simp;done)|(simp at hal ⊢;omega)) (by dsimp only at hgb;omega) (ih y (by simp) (by dsimp only at hgb;omega));simp only[Int.natCast_one]at Ib;generalize Ex.inn (kO x)=T at *;generalize Ex.inn (kO y)=U at *;cases g<;>simp(disch:=first|omega|(simp only[qb1];omega)|fail) [-Int.natCast_add,zaS,zaF,mk_0,mk_1,mk_8,zef,add_s,rtn,zaa Ia,zaa Ib,Ex.wIs,Ex.wNot]
  ·obtain⟨x,r,rfl⟩:∃x r,a=x::r:=by
    cases a with
    |nil=>simp at ha
    |cons x r=>exact⟨x,r,rfl⟩
   have hpr:Ex.print (.mk 6 o v t nm s g d (x::r))=Ex.inn (kO x)++Ex.notW g [105,110]++[40]++Ex.commas (Ex.prints r)++[41]:=by rw[Ex.print];rfl
   rw[hpr]at hl ⊢;simp only[qb1]at hl;have hga:=zfn (kO x);have Ia:=ziy (by decide) (k:=6) (o:=o) (v:=v) (t:=t) (nm:=nm) (s:=s) (g:=g) (d:=d) (a:=(x::r)) (x:=x) (i:=0) rfl (by first|(simp;done)|(simp at hal ⊢;omega)) (by dsimp only at hga;omega) (ih x (by simp) (by dsimp only at hga;omega));simp only[qa34]at Ia;have Fn:=m_not (e:=.mk 6 o v t nm s g d (x::r)) (w:=[105,110]) (by decide);simp only[Ex.E.neg]at Fn;have Fl:=zvu r (by simp at hal;omega) (fun z hz=>ih z (by simp[hz]) (by have:=zhc hz;omega)) (by omega);have sl:=zlB 11 encE (x::r) 1 (fun e=>zde e) (by simp);simp only[Int.natCast_one,qa52,List.drop_succ_cons,List.drop_zero]at sl;have hmm:zkB .min (.int .i64 1) (.int .i64 ((r.length+1:Nat):Int))=some (.int .i64 1):=by
    have:¬(((r.length+1:Nat):Int)<1):=by omega
    simp[zkB, -Int.natCast_add,this]
   generalize Ex.inn (kO x)=T at *;generalize Ex.notW g [105,110]=U at *;generalize Ex.commas (Ex.prints r)=W at *;simp(disch:=first|omega|(simp only[qb1];omega)|fail) [-Int.natCast_add,zaS,zaF,mk_0,mk_1,mk_8,zef,add_s,rtn,zaa Ia,zaa Fn,zaa Fl,sl,hmm]
  ·obtain⟨x,y,z,rfl⟩:=Ex.len3 ha;have hpr:Ex.print (.mk 7 o v t nm s g d [x,y,z])=Ex.inn (kO x)++Ex.notW g [98,101,116,119,101,101,110]++Ex.inn (kO y)++[32]++Ex.wAnd++[32]++Ex.inn (kO z):=by rw[Ex.print];rfl
   rw[hpr]at hl ⊢;simp only[qb1]at hl;have hga:=zfn (kO x);have Ia:=ziy (by decide) (k:=7) (o:=o) (v:=v) (t:=t) (nm:=nm) (s:=s) (g:=g) (d:=d) (a:=[x,y,z]) (x:=x) (i:=0) rfl (by first|(simp;done)|(simp at hal ⊢;omega)) (by dsimp only at hga;omega) (ih x (by simp) (by dsimp only at hga;omega));simp only[qa34]at Ia;have hgb:=zfn (kO y);have Ib:=ziy (by decide) (k:=7) (o:=o) (v:=v) (t:=t) (nm:=nm) (s:=s) (g:=g) (d:=d) (a:=[x,y,z]) (x:=y) (i:=1) rfl (by first|(simp;done)|(simp at hal ⊢;omega)) (by dsimp only at hgb;omega) (ih y (by simp) (by dsimp only at hgb;omega));simp only[Int.natCast_one]at Ib;have hgc:=zfn (kO z);have Ic:=ziy (by decide) (k:=7) (o:=o) (v:=v) (t:=t) (nm:=nm) (s:=s) (g:=g) (d:=d) (a:=[x,y,z]) (x:=z) (i:=2) rfl (by first|(simp;done)|(simp at hal ⊢;omega)) (by dsimp only at hgc;omega) (ih z (by simp) (by dsimp only at hgc;omega));simp only[show((2:Nat):Int)=2 from rfl]at Ic;have Fn:=m_not (e:=.mk 7 o v t nm s g d [x,y,z]) (w:=[98,101,116,119,101,101,110]) (by decide);simp only[Ex.E.neg]at Fn;generalize Ex.inn (kO x)=T at *;generalize Ex.inn (kO y)=U at *;generalize Ex.inn (kO z)=W at *;generalize Ex.notW g [98,101,116,119,101,101,110]=X at *;simp(disch:=first|omega|(simp only[qb1];omega)|fail) [-Int.natCast_add,zaS,zaF,mk_0,mk_1,mk_8,zef,add_s,rtn,zaa Ia,zaa Ib,zaa Ic,zaa Fn,Ex.wAnd]
  ·obtain⟨x,y,rfl⟩:=Ex.len2 ha;have hpr:Ex.print (.mk 8 o v t nm s g d [x,y])=Ex.inn (kO x)++Ex.notW g [108,105,107,101]++Ex.inn (kO y):=by rw[Ex.print];rfl
   rw[hpr]at hl ⊢;simp only[qb1]at hl;have hga:=zfn (kO x);have Ia:=ziy (by decide) (k:=8) (o:=o) (v:=v) (t:=t) (nm:=nm) (s:=s) (g:=g) (d:=d) (a:=[x,y]) (x:=x) (i:=0) rfl (by first|(simp;done)|(simp at hal ⊢;omega)) (by dsimp only at hga;omega) (ih x (by simp) (by dsimp only at hga;omega));simp only[qa34]at Ia;have hgb:=zfn (kO y);have Ib:=ziy (by decide) (k:=8) (o:=o) (v:=v) (t:=t) (nm:=nm) (s:=s) (g:=g) (d:=d) (a:=[x,y]) (x:=y) (i:=1) rfl (by first|(simp;done)|(simp at hal ⊢;omega)) (by dsimp only at hgb;omega) (ih y (by simp) (by dsimp only at hgb;omega));simp only[Int.natCast_one]at Ib;have Fn:=m_not (e:=.mk 8 o v t nm s g d [x,y]) (w:=[108,105,107,101]) (by decide);simp only[Ex.E.neg]at Fn;generalize Ex.inn (kO x)=T at *;generalize Ex.inn (kO y)=U at *;generalize Ex.notW g [108,105,107,101]=X at *;simp(disch:=first|omega|(simp only[qb1];omega)|fail) [-Int.natCast_add,zaS,zaF,mk_0,mk_1,mk_8,zef,add_s,rtn,zaa Ia,zaa Ib,zaa Fn]
  ·have hpr:Ex.print (.mk 9 o v t nm s g d a)=Ex.zj5 d (Ex.prints a):=by rw [Ex.print];rfl
   rw[hpr]at hl ⊢;have F:=m_case o v t nm s g d a (by omega) (fun _ h0=>by subst h0;simp at ha) hl (fun x hx=>ih x hx (by have:=zrO (d:=d) hx;omega));simp(disch:=first|omega|(simp only[qb1];omega)|fail) [-Int.natCast_add,zaS,zaF,mk_0,mk_1,mk_8,zef,add_s,rtn,zaa F]
  ·have hpr:Ex.print (.mk 10 o v t nm s g d a)=o++[40]++Ex.commas (Ex.prints a)++[41]:=by rw [Ex.print,Ex.pr];simp [Ex.E.kind,Ex.E.dist,hd,Ex.E.op]
   rw[hpr]at hl ⊢;simp only[qb1]at hl;have Fl:=zvu a (by omega) (fun z hz=>ih z hz (by have:=zhc hz;omega)) (by omega);have F:=zyK o v t nm s g d a _ (by simp only[qb1];omega) Fl;simp(disch:=first|omega|(simp only[qb1];omega)|fail) [-Int.natCast_add,zaS,zaF,mk_0,mk_1,mk_8,zef,add_s,rtn,zaa F]
  ·obtain⟨x,rfl⟩:=List.length_eq_one_iff.1 ha;have hpr:Ex.print (.mk 11 o v t nm s g d [x])=if d then o++[40]++Ex.zav++[32]++Ex.print x++[41]else o++[40]++Ex.print x++[41]:=by rw[Ex.print,Ex.prints,Ex.prints,Ex.pr];cases d<;>simp[Ex.E.kind,Ex.E.dist,Ex.E.op,Ex.commas]
   rw[hpr]at hl ⊢;have hl2:(Ex.print x).length+o.length≤100000000:=by
    cases d<;>simp at hl<;>omega
   have F:=zwx o v t nm s g d x hl2 (ih x (by simp) (by omega));simp(disch:=first|omega|(simp only[qb1];omega)|fail) [-Int.natCast_add,zaS,zaF,mk_0,mk_1,mk_8,zef,add_s,rtn,zaa F]
  ·obtain rfl:a=[]:=qa6 (by first | exact ha | exact ha.1);have hpr:Ex.print (.mk 11 o v t nm s g d [])=o++[40,42,41]:=by rw[Ex.print,Ex.prints,Ex.pr];simp[Ex.E.kind,Ex.E.op]
   rw[hpr]at hl ⊢;simp only[qb1]at hl;have F:=zub o v t nm s g d (by omega);simp(disch:=first|omega|(simp only[qb1];omega)|fail) [-Int.natCast_add,zaS,zaF,mk_0,mk_1,mk_8,zef,add_s,rtn,zaa F]
  ·obtain⟨x,rfl⟩:=List.length_eq_one_iff.1 ha;have hpr:Ex.print (.mk 12 o v t nm s g d [x])=Ex.zly++[40]++Ex.print x++[32]++Ex.wAs++[32]++o++[41]:=by rw[Ex.print,Ex.prints,Ex.prints,Ex.pr];simp[Ex.E.kind,Ex.E.op,Ex.kid]
   rw[hpr]at hl ⊢;simp only[qb1]at hl;have hpt:=zoT (e:=.mk 12 o v t nm s g d [x]) (x:=x) (i:=0) rfl (by simp[Ex.E.args]);simp only[qa34]at hpt;have Ip:=ih x (by simp) (by omega);generalize Ex.print x=T at *;simp(disch:=first|omega|(simp only[qb1];omega)|fail) [-Int.natCast_add,zaS,zaF,mk_0,mk_1,mk_8,zef,add_s,rtn,zaa hpt,zaa Ip,Ex.zly,Ex.wAs]
end
section
open Go.RowKit
open Vm
variable[Gl]
def lstF(z:Nat)(c:Orc)(s:List Vm.V):Option (Stp Out):=
 (b0 .lss (gt s 3) (gt s 2)).bind fun v1=>
 cnd v1 ((elV z (gt s 1) (gt s 3)).bind fun v2=>
 (ldV true z v2 0).bind fun v3=>
 ckA z v3<|
 cl0 c (fnG (gt s 0)) [(norm1 (agN z v3))] (fun w=>om (pnk w [])) fun v4=>
 ck1 (norm1 v4)<|
 (appV 1 16 (gt s 4) (.list [(norm1 v4)])).bind fun v5=>
 (b0 .add (gt s 3) (.int .i64 1)).bind fun v6=>
 some (.next [(.fn (fnG (gt s 0)) [] []),(gt s 1),(gt s 2),v6,v5]))
 (om (cl0 c 42 [(norm1 (gt s 4)),(.str [44,32])] (fun w=>pnk w []) fun v1=>
 rtn (norm1 v1) []))
section
variable{α:Type}{z:Nat}{enc:α→Vm.V}{g:FuncId}{tx:α→List UInt8}{l:List α}(he:EncOk z enc)(hag:∀a,agN z (enc a)=enc a)(hld:∀a,ldV true z (enc a) 0=some (enc a))(hl:l.length≤900000)
 (hg:∀a∈l,pr.ev g [enc a] []=some (.ret (.str (tx a)),[])) (hlen:(Qy.sepS (l.map tx)).length≤100000000)
include he hag hld hl hg hlen
theorem zvv:∀(n i:Nat),i+n=l.length→lup Out (lstF z pr.ev) [.fn g [] [],.list (l.map enc),.int .i64 l.length,.int .i64 (i:Int),accL (fun a=>Vm.V.str (tx a)) l i]=some (.ret (.str (Qy.sepS (l.map tx))),[])
 |0,i,hi=>by
  obtain rfl:i=l.length:=by omega
  rw[Qy.sepS_join]at hlen ⊢;have hj:=zrH (l:=l.map tx) (s:=[44,32]) (by simp;omega) (by omega);rw[List.map_map]at hj;have hn:=zAl (fun e=>Vm.V.str (tx e)) l;rw[zan];have hj2:pr.ev 42 [.list (l.map fun e=>Vm.V.str (tx e)),.str [44,32]] []=some (.ret (.str (Go.Lib.join (l.map tx) [44,32])),[]):=hj;simp[-Int.natCast_add,lstF,hn,zaa hj2,rtn]
 |n+1,i,hi=>by
  have h1:i<l.length:=by omega
  have hx:=hg _ (qa36 h1);have ih:=zvv n (i+1) (by omega);have ha:=zAh 1 16 (fun e=>Vm.V.str (tx e)) l i h1 (fun _=>rfl) (by omega);rw[zan];simp[-Int.natCast_add,lstF,h1,ziZ he l i h1,hld,he.ck,hag,he.nm,fnG,zaa hx,ha,zbU (show i≤1000000 by omega),ih]
theorem zuc:(lenL (.list (l.map enc))).bind (fun v1=>lup Out (lstF z pr.ev) [(.fn g [] []),.list (l.map enc),v1,(.int .i64 0),.nils])=some (.ret (.str (Qy.sepS (l.map tx))),[]):=by
 have h:=zvv he hag hld hl hg hlen l.length 0 (by omega);simpa[accL_0]using h
end
theorem m_lstI{g:FuncId}{tx:Qy.Item→List UInt8}{l:List Qy.Item}(hl:l.length≤900000)(hg:∀a∈l,pr.ev g [itC a] []=some (.ret (.str (tx a)),[]))(hlen:(Qy.sepS (l.map tx)).length≤100000000):
  pr.ev 39 [.list (l.map itC),.fn g [] []] []=some (.ret (.str (Qy.sepS (l.map tx))),[]):=by
 refine pr.of rfl rfl rfl (zjw _ _ _ _ _) ?_;exact zuc zm8 zkU zvD hl hg hlen
theorem m_lstE{g:FuncId}{tx:Ex.E→List UInt8}{l:List Ex.E}(hl:l.length≤900000)(hg:∀a∈l,pr.ev g [encE a] []=some (.ret (.str (tx a)),[]))(hlen:(Qy.sepS (l.map tx)).length≤100000000):
  pr.ev 44 [.list (l.map encE),.fn g [] []] []=some (.ret (.str (Qy.sepS (l.map tx))),[]):=by
 refine pr.of rfl rfl rfl (zjx _ _ _ _ _) ?_;exact zuc zmO zdy zdb hl hg hlen
theorem m_lstT{g:FuncId}{tx:Qy.Term→List UInt8}{l:List Qy.Term}(hl:l.length≤900000)(hg:∀a∈l,pr.ev g [tmC a] []=some (.ret (.str (tx a)),[]))(hlen:(Qy.sepS (l.map tx)).length≤100000000):
  pr.ev 20 [.list (l.map tmC),.fn g [] []] []=some (.ret (.str (Qy.sepS (l.map tx))),[]):=by
 refine pr.of rfl rfl rfl (zjv _ _ _ _ _) ?_;exact zuc zmX zpG tmC_ld hl hg hlen
def PX(e:Ex.E):Prop:=pr.ev 43 [encE e] []=some (.ret (.str (Ex.print e)),[])
def PL(l:List Ex.E):Prop:=l.length≤900000∧∀x∈l,PX x
abbrev Sh(s:List UInt8):Prop:=s.length≤100000000
theorem sh_l{a b:List UInt8}(h:Sh (a++b)):Sh a:=by unfold Sh at *;rw[qa21]at h;omega
theorem sh_r{a b:List UInt8}(h:Sh (a++b)):Sh b:=by unfold Sh at *;rw[qa21]at h;omega
theorem zbT{a b:List UInt8}(h:Sh (a++b)):strV .add a b=some (.str (a++b)):=add_s a b (by have:=sh_l h;unfold Sh at this;omega) (by have:=sh_r h;unfold Sh at this;omega)
theorem zki{w:List UInt8}{l:List Ex.E}(hp:PL l)(h:Sh (Qy.behind w l))(hw:w.length≤1000):pr.ev 22 [.str w,.list (l.map encE)] []=some (.ret (.str (Qy.behind w l)),[]):=by
 refine pr.of rfl rfl rfl (zpq _ _ _ _ _) ?_;unfold Qy.behind at h ⊢;by_cases hl:l=[]
 ·subst hl;simp[zhg,rtn]
 ·rw[if_neg hl]at h ⊢;have hll:=m_lstE hp.1 hp.2 (sh_r h);have a1:=zbT (sh_l (sh_l h));have a2:=zbT (sh_l h);have a3:=zbT h;have hl2:¬(l.length:Int)=0:=by simpa using hl
  simp only[qa28,qb2]at a1 a2 a3;simp[zhg,hl,a1,a2,a3,zaa hll,rtn]
theorem m_pitem{x:Qy.Item}(hp:x.star=false→PX x.e)(h:Sh (Qy.itemP x)):pr.ev 40 [itC x] []=some (.ret (.str (Qy.itemP x)),[]):=by
 refine pr.of rfl rfl rfl (zsr _ _ _ _) ?_;obtain⟨c11,c12,c13⟩:=zy1 x;unfold Qy.itemP at h ⊢;cases hs:x.star
 ·rw[hs]at h c12;simp only[qb0]at h ⊢;have hx:=hp hs;unfold PX at hx;by_cases hn:x.name=[]
  ·simp[zfA,zdk,zkU,zy0,c11,c12,c13,hn,zaa hx,rtn]
  ·rw[if_neg hn]at h ⊢;have a1:=zbT (sh_l h);have a2:=zbT h;simp only[qa28,qb2]at a1 a2;simp[zfA,zdk,zkU,zy0,c11,c12,c13,hn,zaa hx,rtn,a1,a2]
 ·rw[hs]at h c12;simp only[qa60]at h ⊢;by_cases hn:x.table=[]
  ·simp[zfA,zdk,zkU,c11,c12,c13,hn,rtn]
  ·rw[if_neg hn]at h ⊢;have a1:=zbT h;simp[zfA,zdk,zkU,c11,c12,c13,hn,rtn,a1]
theorem m_pterm{t:Qy.Term}(hp:PX t.e)(h:Sh (Qy.termP t)):pr.ev 21 [tmC t] []=some (.ret (.str (Qy.termP t)),[]):=by
 refine pr.of rfl rfl rfl (zsq _ _ _ _) ?_;obtain⟨c11,c12⟩:=tmC_11 t;unfold Qy.termP at h ⊢;unfold PX at hp;by_cases hc:t.coll=1
 ·rw[if_pos hc]at h ⊢;have a1:=zbT (sh_l h);cases hd:t.desc
  ·rw[hd]at c12;simp[zfy,zdj,zpG,zxh,c11,c12,hc,zaa hp,a1,rtn]
  ·rw[hd]at c12 h;have a2:=zbT h;simp only[qa60,qa28,qb2]at a1 a2;simp[zfy,zdj,zpG,zxh,c11,c12,hc,zaa hp,a1,a2,rtn]
 ·rw[if_neg hc,qa48]at h ⊢;cases hd:t.desc
  ·rw[hd]at c12;simp[zfy,zdj,zpG,zxh,c11,c12,hc,zaa hp,rtn]
  ·rw[hd]at c12 h;have a2:=zbT h;simp only[qa60]at a2;simp[zfy,zdj,zpG,zxh,c11,c12,hc,zaa hp,a2,rtn]
theorem m_pword(o:Int):pr.ev 18 [.int .i64 o] []=some (.ret (.str (Qy.wordP o)),[]):=by
 refine pr.of rfl rfl rfl (zsp _ _ _ _) ?_;unfold Qy.wordP;by_cases h1:o=1
 ·simp[zfx,h1,rtn]
 by_cases h2:o=2
 ·simp[zfx,h2,rtn]
 by_cases h3:o=3
 ·simp[zfx,h3,rtn]
 ·simp[zfx,h1,h2,h3,rtn]
end
section
open Go.RowKit
open Vm
variable[Gl]
def zhI(l:List Qy.From)(i:Nat):List UInt8:=Qy.tablesP (l.take i)
theorem ztD(l:List Qy.From):zhI l 0=[]:=rfl
theorem zqT(l:List Qy.From)(i:Nat)(h:i<l.length):zhI l (i+1)=zhI l i++Qy.fromP (decide (i=0)) l[i]:=by
 cases l with
 |nil=>cases h
 |cons f r=>
  cases i with
  |zero=>simp[zhI,Qy.tablesP]
  |succ i=>
   have h':i<r.length:=by simpa using h
   show Qy.tablesP (f::r.take (i+1))=Qy.tablesP (f::r.take i)++Qy.fromP false r[i];rw[List.take_add_one,qa11 h'];show Qy.fromP true f++(r.take i++[r[i]]).flatMap (Qy.fromP false)=(Qy.fromP true f++(r.take i).flatMap (Qy.fromP false))++Qy.fromP false r[i];rw[List.flatMap_append,qa28];simp
theorem zqU(l:List Qy.From):∀(d i:Nat),i+d=l.length→Sh (zhI l l.length)→Sh (zhI l i)
 |0,i,hi,h=>by rw[show i=l.length by omega];exact h
 |d+1,i,hi,h=>by
  have:=zqU l d (i+1) (by omega) h;rw[zqT l i (by omega)]at this;exact sh_l this
theorem m_ptabs{l:List Qy.From}(hl:l.length≤900000)(hp:∀f∈l,PL f.on)(h:Sh (Qy.tablesP l)):pr.ev 41 [.list (l.map frC)] []=some (.ret (.str (Qy.tablesP l)),[]):=by
 refine pr.of rfl rfl rfl (zpp _ _ _ _) ?_;have e0:Qy.tablesP l=zhI l l.length:=by unfold zhI;rw[List.take_length]
 rw[e0]at h ⊢;have key:∀(n i:Nat),i+n=l.length→lup Out (zbt pr.ev lup) [.str (zhI l i),.list (l.map frC),.int .i64 l.length,.int .i64 (i:Int)]=some (.ret (.str (zhI l l.length)),[]):=by
  intro n;induction n with
  |zero=>
   intro i hi;obtain rfl:i=l.length:=by omega
   rw[zan];simp[-Int.natCast_add,zbt,rtn]
  |succ n ih=>
   intro i hi;have h1:i<l.length:=by omega
   have ih:=ih (i+1) (by omega);have hs:=zqU l n (i+1) (by omega) h;rw[zqT l i h1]at hs ih;obtain⟨f0,f1,f2,f3⟩:=fr_1 l[i];have hon:=hp _ (qa36 h1);have hw:=zbU (p:=i) (by omega);have hel:=ziZ zbr l i h1;generalize l[i]=f at *;have hsf:=sh_r hs;have j3:∀(s:List UInt8)(b:Bool),Sh (s++(if b=true then Qy.behind Qy.wOn f.on else[]))→zdt pr.ev lup (.str s) (.list (l.map frC)) (.int .i64 l.length) (.int .i64 (i:Int)) (.bool b) (frC f)=some (.next [.str (s++(if b=true then Qy.behind Qy.wOn f.on else[])),.list (l.map frC),.int .i64 l.length,.int .i64 ((i+1:Nat):Int)]):=by
    intro s b hb;cases b
    ·simp[-Int.natCast_add,zdt,hw]
    ·simp only[qa60]at hb ⊢;have hbh:=zki hon (sh_r hb) (by decide);have ha:=zbT hb;simp only[Qy.wOn]at hbh ha ⊢;simp[-Int.natCast_add,zdt,f3,zaa hbh,ha,hw]
   have j2:∀s:List UInt8,Sh (s++(if decide (i=0)=false∧f.join≠0 then Qy.behind Qy.wOn f.on else[]))→zcK pr.ev lup (.str s) (.int .i64 (i:Int)) (.list (l.map frC)) (.int .i64 l.length) (.int .i64 (i:Int)) (frC f)=some (.next [.str (s++(if decide (i=0)=false∧f.join≠0 then Qy.behind Qy.wOn f.on else[])),.list (l.map frC),.int .i64 l.length,.int .i64 ((i+1:Nat):Int)]):=by
    intro s hs;by_cases hi0:i=0
    ·have hi2:¬ (0 < i):=by omega
     have:=j3 s false (by simpa[hi0]using hs);simpa[-Int.natCast_add,zcK,hi2,hi0]using this
    ·have hi2:0 < i:=by omega
     by_cases hj:f.join=0
     ·have:=j3 s false (by simpa [hj] using hs);simpa[-Int.natCast_add,zcK,hi2,f2,hj]using this
     ·have:=j3 s true (by simpa [hi0,hj] using hs);have hb:(f.join==0)=false:=by simpa using hj
      simpa[-Int.natCast_add,zcK,hi2,hi0,f2,hj,hb]using this
   have j1:∀s:List UInt8,Sh (s++f.table++Qy.asP f++(if decide (i=0)=false∧f.join≠0 then Qy.behind Qy.wOn f.on else[]))→zbu pr.ev lup (.str s) (.int .i64 (i:Int)) (.list (l.map frC)) (.int .i64 l.length) (.int .i64 (i:Int)) (frC f)=some (.next [.str (s++f.table++Qy.asP f++(if decide (i=0)=false∧f.join≠0 then Qy.behind Qy.wOn f.on else[])),.list (l.map frC),.int .i64 l.length,.int .i64 ((i+1:Nat):Int)]):=by
    intro s hs;have j:=j2 _ hs;have a1:=zbT (sh_l (sh_l hs));have a2:=zbT (sh_l hs);unfold Qy.asP at *;by_cases ha:f.as_=f.table
    ·simp only[if_pos ha,qa48]at j a2 ⊢;simp[-Int.natCast_add, -List.append_assoc,zbu,f0,f1,a1,ha,j]
    ·simp only[if_neg ha]at j a2 ⊢;rw[if_neg ha]at hs;have a3:=zbT (sh_r (sh_l hs));generalize s++f.table=s1 at *;simp only[qb2]at a3 a2 j ⊢;simp[-Int.natCast_add,zbu,f0,f1,a1,ha,a3,a2];simpa[-Int.natCast_add]using j
   have e:zhI l i++Qy.fromP (decide (i=0)) f=(zhI l i++(if decide (i=0)=true then[32,102,114,111,109,32]else Qy.joinP f.join))++f.table++Qy.asP f++(if decide (i=0)=false∧f.join≠0 then Qy.behind Qy.wOn f.on else[]):=by
    unfold Qy.fromP;simp only[qa28]
   rw[e]at hs ih;have j:=j1 _ hs;have ah:=zbT (sh_l (sh_l (sh_l hs)));rw[zan];suffices b:zbt pr.ev lup [.str (zhI l i),.list (l.map frC),.int .i64 l.length,.int .i64 (i:Int)]=zbu pr.ev lup (.str (zhI l i++(if decide (i=0)=true then[32,102,114,111,109,32]else Qy.joinP f.join))) (.int .i64 (i:Int)) (.list (l.map frC)) (.int .i64 l.length) (.int .i64 (i:Int)) (frC f)by
    rw[b,j];exact ih
   clear ih j j1 j2 j3 e hs;by_cases hi0:i=0
   ·subst hi0;simp only[qa34]at *;simp[-Int.natCast_add,ztD,zbt,h1,hel,zuh,zbr.ck]
   ·simp only[qa45 hi0,qb0]at ah ⊢;unfold Qy.joinP at *;by_cases j1':f.join=1
    ·simp only[j1',qa60]at ah ⊢;simp[-Int.natCast_add,zbt,h1,hel,zuh,zbr.ck,hi0,f2,j1',ah]
    ·simp only[j1',qa59]at ah ⊢;by_cases j2':f.join=2
     ·simp only[j2',qa60]at ah ⊢;simp[-Int.natCast_add,zbt,h1,hel,zuh,zbr.ck,hi0,f2,j2',ah]
     ·simp only[j2',qa59]at ah ⊢;simp[-Int.natCast_add,zbt,h1,hel,zuh,zbr.ck,hi0,f2,j1',j2',ah]
 have h0:=key l.length 0 (by omega);simpa[ztD,zjF]using h0
end
section
open Go.RowKit
open Vm
variable[Gl]
structure PC(c:Qy.Core):Prop where
 il:c.items.length≤900000
 i:∀x∈c.items,x.star=false→PX x.e
 fl:c.from_.length≤900000
 f:∀f∈c.from_,PL f.on
 w:PL c.wher
 h:PL c.having
 g:PL c.group
structure PS(s:Qy.Sel):Prop where
 cl:s.cores.length≤900000
 c:∀c∈s.cores,PC c
 ol:s.ops.length≤900000
 tl:s.order.length≤900000
 t:∀t∈s.order,PX t.e
 l:PL s.lim
 o:PL s.off
theorem zkZ{l:List (List UInt8)}{a:List UInt8}(h:Sh (Qy.sepS l))(ha:a∈l):Sh a:=by
 induction l with
 |nil=>cases ha
 |cons x r ih=>
  cases r with
  |nil=>
   rcases qa53.1 ha with rfl|ha
   ·exact h
   ·cases ha
  |cons y r=>
   rw[Qy.sepS]at h;rcases qa53.1 ha with rfl|ha
   ·exact sh_l (sh_l h)
   ·exact ih (sh_r h) ha
theorem m_pcore{c:Qy.Core}(hp:PC c)(h:Sh (Qy.coreP c)):pr.ev 19 [coC c] []=some (.ret (.str (Qy.coreP c)),[]):=by
 refine pr.of rfl rfl rfl (zss _ _ _ _) ?_;obtain⟨c0,c1,c2,c3,c4,c5⟩:=co_1 c;have hI:=m_lstI (g:=40) (tx:=Qy.itemP) hp.il (fun x hx=>m_pitem (hp.i x hx) (zkZ (sh_l (sh_l (sh_r (sh_l (sh_l h))))) (qa18 hx))) (sh_l (sh_l (sh_r (sh_l (sh_l h)))));have hF:=m_ptabs hp.fl hp.f (sh_r (sh_l (sh_r (sh_l (sh_l h)))));have hW:=zki hp.w (sh_r (sh_r (sh_l (sh_l h)))) (by decide);have hG:=zki hp.g (sh_r (sh_l h)) (by decide);have hH:=zki hp.h (sh_r h) (by decide);have a1:=zbT (sh_l (sh_r (sh_l (sh_l h))));have a2:=zbT (sh_r (sh_l (sh_l h)));have a3:=zbT (sh_l (sh_l h));have a4:=zbT (sh_l h);have a5:=zbT h;have hw:∀s:List UInt8,oeq (.ret (.str s),[]) (.ret (.str s),[])=true:=fun s=>zsT rfl;simp only[Qy.wWhere,Qy.wGroupBy,Qy.wHaving]at hW hG hH a1 a2 a3 a4 a5;show _=some (POut.ret (.str (Qy.selP c.dist++(Qy.sepS (c.items.map Qy.itemP)++Qy.tablesP c.from_++Qy.behind [119,104,101,114,101] c.wher)++Qy.behind [103,114,111,117,112,32,98,121] c.group++Qy.behind [104,97,118,105,110,103] c.having)),[]);have j1:ze5 pr.ev lup (.str (Qy.selP c.dist)) (coC c)=some (.ret (.str (Qy.selP c.dist++(Qy.sepS (c.items.map Qy.itemP)++Qy.tablesP c.from_++Qy.behind [119,104,101,114,101] c.wher)++Qy.behind [103,114,111,117,112,32,98,121] c.group++Qy.behind [104,97,118,105,110,103] c.having)),[]):=by
  generalize Qy.selP c.dist=s0 at *;generalize Qy.sepS (c.items.map Qy.itemP)=s1 at *;generalize Qy.tablesP c.from_=s2 at *;generalize Qy.behind [119,104,101,114,101] c.wher=s3 at *;generalize Qy.behind [103,114,111,117,112,32,98,121] c.group=s4 at *;generalize Qy.behind [104,97,118,105,110,103] c.having=s5 at *;simp[-List.append_assoc,ze5,zgx,c1,c2,c3,c4,c5,zaa hI,zaa hF,zaa hW,zaa hG,zaa hH,a1,a2,a3,a4,a5,rtn,ag,zg2,hw]
 cases hd:c.dist
 ·rw[hd]at j1 c0;simp only[Qy.selP,qb0]at j1 ⊢;simpa[-List.append_assoc, -List.cons_append,zi6,zdz.ck,c0]using j1
 ·rw[hd]at j1 c0;simp only[Qy.selP,qa60]at j1 ⊢;have a0:strV .add [115,101,108,101,99,116,32] [100,105,115,116,105,110,99,116,32]=some (.str [115,101,108,101,99,116,32,100,105,115,116,105,110,99,116,32]):=add_s _ _ (by decide) (by decide);simpa[-List.append_assoc, -List.cons_append,zi6,zdz.ck,c0,a0]using j1
def corP(cs:List Qy.Core)(os:List Int)(i:Nat):List UInt8:=(List.range i).flatMap (Qy.atP cs os)
theorem zzP(cs:List Qy.Core)(os:List Int)(i:Nat):corP cs os (i+1)=corP cs os i++Qy.atP cs os i:=by simp[corP,List.range_succ]
theorem zup(cs:List Qy.Core)(os:List Int):∀(d i:Nat),Sh (corP cs os (i+d))→Sh (corP cs os i)
 |0,i,h=>h
 |d+1,i,h=>by
  have:=zup cs os d (i+1) (by rwa[show i+1+d=i+(d+1)by omega]);rw[zzP]at this;exact sh_l this
theorem m_pQuery{s:Qy.Sel}(hp:PS s)(h:Sh (Qy.printQ s)):pr.ev 9 [seC s] []=some (.ret (.str (Qy.printQ s)),[]):=by
 refine pr.of rfl rfl rfl (zq1 _ _ _ _) ?_;obtain⟨c0,c1,c2,c3,c4⟩:=se_1 s;have hcl:=hp.cl;have hol:=hp.ol;unfold Qy.printQ at h ⊢;rw[Qy.coresP_at,show(List.range s.cores.length).flatMap (Qy.atP s.cores s.ops)=corP s.cores s.ops s.cores.length from rfl]at h ⊢;have hL:=zki hp.l (sh_r (sh_l h)) (by decide);have hO:=zki hp.o (sh_r h) (by decide);have a5:=zbT h;have a4:=zbT (sh_l h);simp only[Qy.wLimit,Qy.wOffset]at hL hO a4 a5;have j1:zeL pr.ev lup (.str (corP s.cores s.ops s.cores.length)) (seC s)=some (.ret (.str (corP s.cores s.ops s.cores.length++Qy.orderP s.order++Qy.behind Qy.wLimit s.lim++Qy.behind Qy.wOffset s.off)),[]):=by
  have hc:Sh (corP s.cores s.ops s.cores.length++Qy.orderP s.order):=sh_l (sh_l h);have j2:zeK pr.ev lup (.str (corP s.cores s.ops s.cores.length++Qy.orderP s.order)) (seC s)=some (.ret (.str (corP s.cores s.ops s.cores.length++Qy.orderP s.order++Qy.behind Qy.wLimit s.lim++Qy.behind Qy.wOffset s.off)),[]):=by
   simp only[Qy.wLimit,Qy.wOffset];generalize corP s.cores s.ops s.cores.length++Qy.orderP s.order=x at *;simp[-List.append_assoc,zeK,c3,c4,zaa hL,zaa hO,a4,a5,rtn]
  unfold Qy.orderP at hc j2 ⊢;by_cases ho:s.order=[]
  ·simp only[ho,qa60,qa48]at j2 ⊢;simpa[-List.append_assoc,zeL,c2,ho]using j2
  ·simp only[ho,qa59]at hc j2 ⊢;have hT:=m_lstT (g:=21) (tx:=Qy.termP) hp.tl (fun x hx=>m_pterm (hp.t x hx) (zkZ (sh_r (sh_r hc)) (qa18 hx))) (sh_r (sh_r hc));have b1:=zbT (sh_r hc);have b2:=zbT hc;have hpos:0<s.order.length:=List.length_pos_iff.2 ho;generalize corP s.cores s.ops s.cores.length=x at *;simp only[qb2]at b1 b2 j2 ⊢;simp[-List.append_assoc,zeL,c2,hpos,zaa hT,b1,b2];exact j2
 have key:∀(n i:Nat),i+n=s.cores.length→lup Out (zcc pr.ev lup) [.str (corP s.cores s.ops i),.list (s.cores.map coC),.int .i64 s.cores.length,.int .i64 (i:Int),seC s]=some (.ret (.str (corP s.cores s.ops s.cores.length++Qy.orderP s.order++Qy.behind Qy.wLimit s.lim++Qy.behind Qy.wOffset s.off)),[]):=by
  intro n;induction n with
  |zero=>
   intro i hi;obtain rfl:i=s.cores.length:=by omega
   rw[zan];simp[-Int.natCast_add, -List.append_assoc,zcc,j1]
  |succ n ih=>
   intro i hi;have h1:i<s.cores.length:=by omega
   have ih:=ih (i+1) (by omega);have hs:Sh (corP s.cores s.ops (i+1)):=zup s.cores s.ops (s.cores.length - (i+1)) (i+1) (by
    rw[show i+1+(s.cores.length-(i+1))=s.cores.length by omega];exact sh_l (sh_l (sh_l h)))
   rw[zzP]at hs ih;have hat:Qy.atP s.cores s.ops i=(if i=0 then[]else match s.ops[i-1]? with|some o=>Qy.wordP o|none=>[])++Qy.coreP s.cores[i]:=by unfold Qy.atP;rw[qa11 h1]<;>rfl
   rw[hat,←qa28]at hs ih;have hC:=m_pcore (hp.c _ (qa36 h1)) (sh_r hs);have hel:=ziZ zdz s.cores i h1;have hw:=zbU (p:=i) (by omega);have ac:=zbT hs;generalize s.cores[i]=c at *;have j3:zd0 pr.ev lup (.str (corP s.cores s.ops i++(if i=0 then[]else match s.ops[i-1]? with|some o=>Qy.wordP o|none=>[]))) (.list (s.cores.map coC)) (.int .i64 s.cores.length) (.int .i64 (i:Int)) (seC s) (coC c) =
     some (.next [.str (corP s.cores s.ops i++(if i=0 then[]else match s.ops[i-1]? with|some o=>Qy.wordP o|none=>[])++Qy.coreP c),.list (s.cores.map coC),.int .i64 s.cores.length,.int .i64 ((i+1:Nat):Int),seC s]):=by
    generalize corP s.cores s.ops i++(if i=0 then[]else match s.ops[i-1]? with|some o=>Qy.wordP o|none=>[])=x at *;simp[-Int.natCast_add, -List.append_assoc,zd0,zdz.nm,zaa hC,ac,hw]
   suffices b:zcc pr.ev lup [.str (corP s.cores s.ops i),.list (s.cores.map coC),.int .i64 s.cores.length,.int .i64 (i:Int),seC s]=zd0 pr.ev lup (.str (corP s.cores s.ops i++(if i=0 then[]else match s.ops[i-1]? with|some o=>Qy.wordP o|none=>[]))) (.list (s.cores.map coC)) (.int .i64 s.cores.length) (.int .i64 (i:Int)) (seC s) (coC c)by
    rw[zan,b,j3];exact ih
   have aw:=zbT (sh_l hs);clear ih j3 ac hs;by_cases hi0:i=0
   ·subst hi0;simp only[qa34]at *;simp[-Int.natCast_add,zcc,zdZ,h1,hel,zzT,zdz.ck]
   ·have hi2:(0:Int) < (i:Int):=by omega
    have hi3:0<i:=by omega
    have hw1:IntKind.wrap .i64 ((i:Int)-1)=((i-1:Nat):Int):=by rw[zcd (by omega) (by omega)];omega
    simp only[if_neg hi0]at aw ⊢;cases ho:s.ops[i-1]? with
    |none=>
     have hge:¬i-1<s.ops.length:=by simpa using ho
     simp[-Int.natCast_add,zcc,zdZ,h1,hel,zzT,zdz.ck,hi3,hw1,c1,hge]
    |some o=>
     obtain⟨hlt,hoe⟩:=qa9.1 ho;rw[ho]at aw;have elo:elV 1 (.list (s.ops.map (.int .i64))) (.int .i64 ((i-1:Nat):Int))=some (.int .i64 o):=by rw[zm9 1 (Vm.V.int .i64) s.ops .i64 (i-1) (fun _=>rfl),ho];rfl
     have ld:ldV false 1 (.int .i64 o) 0=some (.int .i64 o):=rfl;simp[-Int.natCast_add, -List.append_assoc,zcc,zdZ,h1,hel,zzT,zdz.ck,hi3,hw1,c1,hlt,elo,ld,zaa (m_pword o),aw]
 have h0:=key s.cores.length 0 (by omega);simpa[-List.append_assoc,zkL,c0,corP]using h0
end
end Go.Proofs.YtlooegbcfkoloaaGreatDoor
namespace Qy
section
open Lx Ex
def RX(e:E):Prop:=Rt e∧deep e≤24∧count e≤5000
structure RI(x:Item):Prop where
 e:x.star=false→RX x.e∧x.table=[]∧(x.name=[]∨nmE x.name=true)
 s:x.star=true→x.e=e0∧x.name=[]∧(x.table=[]∨nmE x.table=true)
structure RF(b:Bool)(f:From):Prop where
 t:nmE f.table=true
 a:nmE f.as_=true
 j:f.join=0∨f.join=1∨f.join=2
 b:b=true→f.join=0
 z:f.join=0→f.on=[]
 o:f.join≠0→∃e,f.on=[e]∧RX e
def RFs:List From→Prop
 |[]=>True
 |f::r=>RF true f∧(∀x∈r,RF false x)∧r.length≤5
structure RT(t:Term):Prop where
 e:RX t.e
 c:t.coll=0∨t.coll=1
def R1(l:List E):Prop:=l=[]∨∃e,l=[e]∧RX e
structure RC(c:Core):Prop where
 i0:c.items≠[]
 i:∀x∈c.items,RI x
 f:RFs c.from_
 w:R1 c.wher
 h:R1 c.having
 g:∀x∈c.group,RX x
 il:c.items.length≤5000
 gl:c.group.length≤5000
structure RS(s:Sel):Prop where
 c:∀x∈s.cores,RC x
 n:s.cores.length=s.ops.length+1
 o:∀x∈s.ops,0≤x∧x≤3
 t:∀x∈s.order,RT x
 l:R1 s.lim
 f:R1 s.off
 z:s.lim=[]→s.off=[]
 cl:s.cores.length≤5000
 tl:s.order.length≤5000
def zmK(x:Item):List Pc:=if x.star then(if x.table=[]then[mk zem]else[nmP x.table,mk mDot,mk zem])else if x.name=[]then pcs x.e else pcs x.e++[bk,wd wAs,bk,nmP x.name]
def sepQ:List (List Pc)→List Pc
 |[]=>[]
 |[a]=>a
 |a::b::r=>a++[mk zdH,bk]++sepQ (b::r)
def behQ(ws:List Pc)(l:List E):List Pc:=if l=[]then[]else bk::(ws++(bk::sepQ (l.map pcs)))
def zlU(j:Int):List Pc:=if j=1 then[bk,wd wJoin,bk]else if j=2 then[bk,wd wLeft,bk,wd wJoin,bk]else[mk zdH,bk]
def asQ(f:From):List Pc:=if f.as_=f.table then[]else[bk,wd wAs,bk,nmP f.as_]
def znw(b:Bool)(f:From):List Pc:=(if b then[bk,wd wFrom,bk]else zlU f.join)++(nmP f.table::(asQ f++(if b=false∧f.join≠0 then behQ [wd wOn] f.on else[])))
def zse:List From→List Pc
 |[]=>[]
 |f::r=>znw true f++r.flatMap (znw false)
def selQ(d:Bool):List Pc:=if d then[wd wSelect,bk,wd zav,bk]else[wd wSelect,bk]
def gbQ:List Pc:=[wd wGroup,bk,wd wBy]
def ztm(c:Core):List Pc:=selQ c.dist++(sepQ (c.items.map zmK)++(zse c.from_++(behQ [wd wWhere] c.wher++(behQ gbQ c.group++behQ [wd wHaving] c.having))))
def zqN(t:Term):List Pc:=pcs t.e++((if t.coll=1 then[bk,wd wCollate,bk,nmP wNocase]else[])++(if t.desc then[bk,wd wDesc]else[]))
def znd(o:Int):List Pc:=if o=1 then[bk,wd wUnion,bk,wd wAll,bk]else if o=2 then[bk,wd wIntersect,bk]else if o=3 then[bk,wd wExcept,bk]else[bk,wd wUnion,bk]
def zox:List Core→List Int→List Pc
 |[],_=>[]
 |c::cs,[]=>ztm c++zox cs []
 |c::cs,o::os=>znd o++(ztm c++zox cs os)
def ztl:List Core→List Int→List Pc
 |[],_=>[]
 |c::cs,os=>ztm c++zox cs os
def ordQ(l:List Term):List Pc:=if l=[]then[]else bk::wd wOrder::bk::wd wBy::bk::sepQ (l.map zqN)
def queryQ(s:Sel):List Pc:=ztl s.cores s.ops++(ordQ s.order++(behQ [wd wLimit] s.lim++behQ [wd wOffset] s.off))
theorem znV:∀l:List (List Pc),flat (sepQ l)=sepS (l.map flat)
 |[]=>rfl
 |[a]=>rfl
 |a::b::r=>by
  rw[sepQ,flat_app,flat_app,znV (b::r)];simp[sepS,flat_cons,flat_nil,mk,zdH,bk]
theorem zzq(x:Item):flat (zmK x)=itemP x:=by
 unfold zmK itemP;split
 ·split
  ·rfl
  ·simp[flat_cons,flat_nil,nmP,mk,mDot,zem]
 ·split
  ·exact zkk _
  ·simp[flat_app,zkk,flat_cons,flat_nil,bk,wd,wAs,nmP]
theorem zkl{ws:List Pc}{w:S}(h:flat ws=w)(l:List E):flat (behQ ws l)=behind w l:=by
 unfold behQ behind;split
 ·rfl
 ·have e:(l.map pcs).map flat=l.map print:=by rw [List.map_map];exact qa17 fun x _=>zkk x
  rw[flat_cons,flat_app,flat_cons,znV,e,h];simp[bk]
theorem ztb(b:Bool)(f:From):flat (znw b f)=fromP b f:=by
 unfold znw fromP;have e1:flat (if b then[bk,wd wFrom,bk]else zlU f.join)=(if b then[32,102,114,111,109,32]else joinP f.join):=by
  cases b
  ·simp only[qb0];unfold zlU joinP;split
   ·rfl
   ·split<;>rfl
  ·rfl
 have e2:flat (asQ f)=asP f:=by
  unfold asQ asP;split
  ·rfl
  ·simp[flat_cons,flat_nil,bk,wd,wAs,nmP]
 have e3:flat (if b=false∧f.join≠0 then behQ [wd wOn] f.on else[])=(if b=false∧f.join≠0 then behind wOn f.on else[]):=by
  split
  ·exact zkl rfl _
  ·rfl
 rw[flat_app,flat_cons,flat_app,e1,e2,e3];simp[nmP]
theorem zzo(l:List From):flat (zse l)=tablesP l:=by
 have e:∀r:List From,flat (r.flatMap (znw false))=r.flatMap (fromP false):=fun r=>by
  induction r with
  |nil=>rfl
  |cons f r ih=>rw[qa29,qa29,flat_app,ztb,ih]
 cases l with
 |nil=>rfl
 |cons f r=>rw[zse,tablesP,flat_app,ztb,e]
theorem zo2(c:Core):flat (ztm c)=coreP c:=by
 unfold ztm coreP;have e1:flat (selQ c.dist)=selP c.dist:=by cases c.dist<;>rfl
 have e2:(c.items.map zmK).map flat=c.items.map itemP:=by rw[List.map_map];exact qa17 fun x _=>zzq x
 rw[flat_app,flat_app,flat_app,flat_app,flat_app,e1,znV,e2,zzo,zkl (w:=wWhere) rfl,zkl (w:=wGroupBy) rfl,zkl (w:=wHaving) rfl];simp
theorem zzn(t:Term):flat (zqN t)=termP t:=by
 unfold zqN termP;have e1:flat (if t.coll=1 then[bk,wd wCollate,bk,nmP wNocase]else[])=(if t.coll=1 then[32,99,111,108,108,97,116,101,32,110,111,99,97,115,101]else[]):=by split<;>rfl
 have e2:flat (if t.desc then[bk,wd wDesc]else[])=(if t.desc then[32,100,101,115,99]else[]):=by split<;>rfl
 rw[flat_app,flat_app,zkk,e1,e2,qa28]
theorem zzm(o:Int):flat (znd o)=wordP o:=by
 unfold znd wordP;split
 ·rfl
 ·split
  ·rfl
  ·split<;>rfl
theorem zo1:∀(cs:List Core)(os:List Int),flat (zox cs os)=restP cs os
 |[],os=>rfl
 |c::cs,[]=>by rw[zox,restP,flat_app,zo2,zo1 cs []]
 |c::cs,o::os=>by rw[zox,restP,flat_app,flat_app,zzm,zo2,zo1 cs os,qa28]
theorem flat_query(s:Sel):flat (queryQ s)=printQ s:=by
 unfold queryQ printQ;have e1:flat (ztl s.cores s.ops)=coresP s.cores s.ops:=by
  cases s.cores with
  |nil=>rfl
  |cons c cs=>rw[ztl,coresP,flat_app,zo2,zo1]
 have e2:flat (ordQ s.order)=orderP s.order:=by
  unfold ordQ orderP;split
  ·rfl
  ·have e:(s.order.map zqN).map flat=s.order.map termP:=by rw [List.map_map];exact qa17 fun x _=>zzn x
   rw[flat_cons,flat_cons,flat_cons,flat_cons,flat_cons,znV,e];simp[bk,wd,wOrder,wBy]
 rw[flat_app,flat_app,flat_app,e1,e2,zkl (w:=wLimit) rfl,zkl (w:=wOffset) rfl];simp
end
section
open Lx Ex
theorem R1.all{l:List E}(h:R1 l):∀x∈l,RX x:=by
 rcases h with rfl|⟨e,rfl,h⟩
 ·intro x hx;cases hx
 ·intro x hx;rw[qa22.1 hx];exact h
end
section
open Lx Ex
variable{L:List T}
theorem zuR(a:List Pc):∀l:List (List Pc),sepQ (a::l)=a++l.flatMap fun b=>mk zdH::bk::b
 |[]=>by rw[sepQ];simp
 |b::l=>by rw[sepQ,zuR b l,qa29];simp
end
section
open Lx Ex
theorem zaE{α β:Type}{r:Rs α}{f:α→Nat→Rs β}{b:β}{q:Nat}(h:r.bind f=.ok b q):∃a m,r=.ok a m∧f a m=.ok b q:=by
 cases r with
 |ok a m=>exact⟨a,m,rfl,h⟩
 |stop m e=>cases h
def ln(l:List Pc):Nat:=(flat l).length
def tk(l:List Pc):Nat:=(toks l).length
@[simp] theorem ln_nil:ln []=0:=rfl
@[simp] theorem tk_nil:tk []=0:=rfl
@[simp] theorem ln_app (a b:List Pc):ln (a++b)=ln a+ln b:=by simp[ln,flat_app]
@[simp] theorem tk_app (a b:List Pc):tk (a++b)=tk a+tk b:=by simp[tk,toks_app]
@[simp] theorem ln_bk (a:List Pc):ln (bk::a)=ln a+1:=by simp[ln,flat_cons,bk]
@[simp] theorem tk_bk (a:List Pc):tk (bk::a)=tk a:=rfl
@[simp] theorem ln_wd (w:S) (a:List Pc):ln (wd w::a)=w.length+ln a:=by simp[ln,flat_cons,wd]
@[simp] theorem tk_wd (w:S) (a:List Pc):tk (wd w::a)=tk a+1:=rfl
@[simp] theorem ln_nm (w:S) (a:List Pc):ln (nmP w::a)=w.length+ln a:=by simp[ln,flat_cons,nmP]
@[simp] theorem tk_nm (w:S) (a:List Pc):tk (nmP w::a)=tk a+1:=rfl
@[simp] theorem ln_mk (w:S) (a:List Pc):ln (mk w::a)=w.length+ln a:=by simp[ln,flat_cons,mk]
@[simp] theorem tk_mk (w:S) (a:List Pc):tk (mk w::a)=tk a+1:=rfl
variable{L:List T}
structure Wp(L:List T)(l:List Pc)(k p q:Nat):Prop where
 lt:p≤q
 g:ln l+k+cw L p≤cw L q
 t:tk l+k+3*p≤3*q
theorem zt7{n:S}{p q:Nat}(h:name L p=.ok n q)(hG:zmW L):nmE n=true∧q=p+1∧q≤L.length∧cw L p+40+5*n.length=cw L q:=by
 unfold name at h;split at h
 ·rename_i t ht;split at h
  ·rename_i hk;cases h;have hm:=qa16 ht;exact⟨(hG t hm).1 hk,rfl,(qa9.1 ht).1,zna ht⟩
  ·cases h
 ·cases h
theorem zoM{w:S}{u:Unit}{p q:Nat}(h:must L w p=.ok u q):q=p+1∧q≤L.length∧cw L p+40+5*w.length=cw L q:=by
 unfold must at h;split at h
 ·rename_i ht;cases h;exact⟨rfl,isT_lt ht,cw_isT ht⟩
 ·cases h
theorem zlZ(hG:zmW L)(hV:ValT L)(hN:L.length≤5000){e:E}{p q:Nat}(hp:p≤L.length)(h:exprR L p=.ok e q):RX e∧p<q∧q≤L.length∧Wp L (pcs e) 2 p q:=by
 unfold exprR at h;split at h
 ·rename_i e' q' hr;split at h
  ·rename_i hd;cases h;have h1:=(zsx _ hG _).1 0 p _ _ hr e (by simp);obtain⟨h2,e2,h3,h4⟩:=(zmv _ hV _).1 0 p _ _ hr;cases h3;obtain⟨k1,k2,k3⟩:=h4;have hg:G e=(print e).length+14:=rfl;have ht:Tk e=(toks (pcs e)).length+2:=rfl;have hf:ln (pcs e)=(print e).length:=by unfold ln;rw[zkk]
   obtain⟨h5,h6⟩:=zmw hp hr;refine⟨⟨h1,hd,by omega⟩,h5,h6,⟨by omega,by omega, ?_⟩⟩;unfold tk;omega
  ·cases h
 ·cases h
 ·cases h
def Rg{α:Type}(L:List T)(one:Rd α)(Q:α→List Pc)(P:α→Prop):Prop:=∀p a q,p≤L.length→one p=.ok a q→P a∧p<q∧q≤L.length∧Wp L (Q a) 2 p q
theorem sev_ok{α:Type}{one:Rd α}{Q:α→List Pc}{P:α→Prop}(ho:Rg L one Q P):∀(n:Nat)(acc:List α)(p:Nat)(l:List α)(q:Nat),p≤L.length→sev L one n acc p=.ok l q →
  ∃r,l=acc++r∧(∀a∈r,P a)∧p+r.length≤q∧q≤L.length∧Wp L (r.flatMap fun b=>mk zdH::bk::Q b) 0 p q
 |0,acc,p,l,q,hp,h=>by rw[sev]at h;cases h
 |n+1,acc,p,l,q,hp,h=>by
  rw[sev]at h;split at h
  ·rename_i hc;have hlt:p+1≤L.length:=isT_lt hc;have hw:=cw_isT hc;obtain⟨a,m,h1,h2⟩:=zaE h;obtain⟨g1,g2,g3,g4,g5,g6⟩:=ho _ _ _ hlt h1;obtain⟨r,rfl,e1,e2,e3,e4,e5,e6⟩:=sev_ok ho n (acc++[a]) m l q g3 h2;refine⟨a::r,by simp,fun x hx=>?_,by simp;omega,e3,⟨by omega, ?_, ?_⟩⟩
   ·rcases qa53.1 hx with rfl|hx
    ·exact g1
    ·exact e1 x hx
   ·have hc1:zdH.length=1:=rfl;rw[qa29];simp;omega
   ·rw[qa29];simp;omega
  ·cases h;exact⟨[],by simp,by simp,by simp,hp,⟨qa57 _,by simp,by simp⟩⟩
theorem zmh{α:Type}{one:Rd α}{Q:α→List Pc}{P:α→Prop}(ho:Rg L one Q P){p q:Nat}{l:List α}(hp:p≤L.length)(h:several L one p=.ok l q):
  l≠[]∧(∀a∈l,P a)∧p+l.length≤q∧q≤L.length∧Wp L (sepQ (l.map Q)) 2 p q:=by
 unfold several at h;obtain⟨a,m,h1,h2⟩:=zaE h;obtain⟨g1,g2,g3,g4,g5,g6⟩:=ho _ _ _ hp h1;obtain⟨r,rfl,e1,e2,e3,e4,e5,e6⟩:=sev_ok ho _ _ _ _ _ g3 h2;refine⟨by simp,fun x hx=>?_,by simp;omega,e3, ?_⟩
 ·rcases qa47.1 hx with hx|hx
  ·rw[qa22.1 hx];exact g1
  ·exact e1 x hx
 ·rw[List.singleton_append,qa52,zuR,List.flatMap_map];exact⟨by omega,by simp;omega,by simp;omega⟩
variable(hG:zmW L)(hV:ValT L)(hN:L.length≤5000)
include hG hV hN
theorem expr_rg:Rg L (exprR L) pcs RX:=fun p e q hp h=>by
 obtain⟨h1,h2,h3,h4⟩:=zlZ hG hV hN hp h;exact⟨h1,h2,h3,h4⟩
theorem item_rg:Rg L (item L (exprR L)) zmK RI:=by
 intro p x q hp h;unfold item at h;split at h
 ·rename_i hc;cases h;have hw:=cw_isT hc;refine⟨⟨fun h=>(by cases h),fun _=>⟨rfl,rfl,.inl rfl⟩⟩,by omega,isT_lt hc,⟨by omega, ?_, ?_⟩⟩
  ·simp[zmK,zem]at hw ⊢;omega
  ·simp[zmK];omega
 ·split at h
  ·rename_i hc;simp only[qa32]at hc;obtain⟨h1,h2,h3⟩:=hc;cases h;unfold isK at h1;split at h1
   ·rename_i t ht;have hk:t.kind=1:=by simpa using h1
    have hx:txt L p=t.text:=by unfold txt;rw[ht]
    have hn:=(hG t (qa16 ht)).1 hk;have w1:=zna ht;have w2:cw L (p+1)+40+5*mDot.length=cw L (p+2):=cw_isT h2;have w3:cw L (p+2)+40+5*zem.length=cw L (p+3):=cw_isT h3;have hne:t.text≠[]:=fun e=>by rw[e]at hn;revert hn;decide
    rw[hx];refine⟨⟨fun h=>(by cases h),fun _=>⟨rfl,rfl,.inr hn⟩⟩,by omega,isT_lt h3,⟨by omega, ?_, ?_⟩⟩
    ·simp[zmK,hne,mDot,zem]at w1 w2 w3 ⊢;omega
    ·simp[zmK,hne];omega
   ·cases h1
  ·obtain⟨e,m,h1,h2⟩:=zaE h;obtain⟨g1,g2,g3,⟨g4,g5,g6⟩⟩:=zlZ hG hV hN hp h1;split at h2
   ·rename_i ha;have wa:=cw_isT ha;obtain⟨n,r,h3,h4⟩:=zaE h2;obtain⟨k1,k2,k3,k4⟩:=zt7 h3 hG;cases h4;have hne:n≠[]:=fun e=>by rw[e]at k1;revert k1;decide
    refine⟨⟨fun _=>⟨g1,rfl,.inr k1⟩,fun h=>(by cases h)⟩,by omega,k3,⟨by omega, ?_, ?_⟩⟩
    ·simp[zmK,hne,wAs]at wa ⊢;omega
    ·simp[zmK,hne];omega
   ·cases h2;refine⟨⟨fun _=>⟨g1,rfl,.inl rfl⟩,fun h=>(by cases h)⟩,g2,g3,⟨g4, ?_, ?_⟩⟩
    ·simpa[zmK]using g5
    ·simpa[zmK]using g6
omit hV hN in
theorem zuI{m:Nat}{j:Int}{p q:Nat}{f:From}(h:table L m j p=.ok f q):nmE f.table=true∧nmE f.as_=true∧f.join=j∧f.on=[]∧m≤5∧p<q∧q≤L.length∧Wp L (nmP f.table::asQ f) 2 p q:=by
 unfold table at h;split at h
 ·cases h
 ·rename_i hm;obtain⟨n,m1,h1,h2⟩:=zaE h;obtain⟨k1,k2,k3,k4⟩:=zt7 h1 hG;have hk:isK L p 1=true:=by
   unfold name at h1;unfold isK;split at h1
   ·rename_i t ht;split at h1
    ·rename_i hk;rw[ht];simpa using hk
    ·cases h1
   ·cases h1
  have hm5:m≤5:=by
   rw[hk]at hm;simp at hm;omega
  split at h2
  ·rename_i ha;have wa:=cw_isT ha;obtain⟨n2,r,h3,h4⟩:=zaE h2;obtain⟨j1,j2,j3,j4⟩:=zt7 h3 hG;cases h4;refine⟨k1,j1,rfl,rfl,hm5,by omega,j3,⟨by omega, ?_, ?_⟩⟩
   ·unfold asQ;split
    ·simp;omega
    ·simp[wAs]at wa ⊢;omega
   ·unfold asQ;split
    ·simp;omega
    ·simp;omega
  ·cases h2;refine⟨k1,k1,rfl,rfl,hm5,by omega,k3,⟨by omega, ?_, ?_⟩⟩
   ·simp[asQ];omega
   ·simp[asQ];omega
omit hV hG hN in
theorem join_ok{o:Option Int}{p q:Nat}(hp:p≤L.length)(h:join L p=.ok o q):match o with
  |none=>q=p
  |some j=>(j=0∨j=1∨j=2)∧p<q∧q≤L.length∧Wp L (zlU j) 0 p q:=by
 have mj:∀{j:Int} {w:S},isT L p 2 w=true→((must L wJoin (p+1)).bind fun _ q=>(.ok (some j) q:Rs (Option Int)))=.ok o q→o=some j∧q=p+2∧q≤L.length∧cw L p+80≤cw L q:=fun{j w} ht h=>by
  obtain⟨u,m,h1,h2⟩:=zaE h;obtain⟨k1,k2,k3⟩:=zoM h1;have:=cw_isT ht;cases h2;exact⟨rfl,k1,k2,by simp[wJoin]at k3;omega⟩
 unfold join at h;split at h
 ·rename_i hc;have:=cw_isT hc;cases h;exact⟨.inl rfl,by omega,isT_lt hc,by omega,by simp[zlU,zdH]at this ⊢;omega,by simp[zlU];omega⟩
 ·split at h
  ·rename_i hc;obtain⟨rfl,rfl,h3,h4⟩:=mj hc h;exact⟨.inl rfl,by omega,h3,by omega,by simp[zlU,zdH];omega,by simp[zlU];omega⟩
  ·split at h
   ·rename_i hc;obtain⟨rfl,rfl,h3,h4⟩:=mj hc h;exact⟨.inr (.inl rfl),by omega,h3,by omega,by simp[zlU,wJoin];omega,by simp[zlU];omega⟩
   ·split at h
    ·rename_i hc;obtain⟨rfl,rfl,h3,h4⟩:=mj hc h;exact⟨.inr (.inr rfl),by omega,h3,by omega,by simp[zlU,wJoin,wLeft];omega,by simp[zlU];omega⟩
    ·split at h
     ·rename_i hc;have:=cw_isT hc;cases h;exact⟨.inr (.inl rfl),by omega,isT_lt hc,by omega,by simp[zlU,wJoin]at this ⊢;omega,by simp[zlU];omega⟩
     ·cases h;rfl
end
section
open Lx Ex
variable{L:List T}(hG:zmW L)(hV:ValT L)(hN:L.length≤5000)
include hG hV hN
theorem ztB:∀(n:Nat)(acc:List From)(p:Nat)(l:List From)(q:Nat),p≤L.length→1≤acc.length→acc.length≤6→tabs L (exprR L) n acc p=.ok l q →
  ∃r,l=acc++r∧(∀f∈r,RF false f)∧acc.length+r.length≤6∧p≤q∧q≤L.length∧Wp L (r.flatMap (znw false)) 0 p q
 |0,acc,p,l,q,hp,_,_,h=>by rw[tabs]at h;cases h
 |n+1,acc,p,l,q,hp,h1,h6,h=>by
  rw[tabs]at h;obtain⟨o,m,h2,h3⟩:=zaE h;have hj:=join_ok hp h2;cases o with
  |none=>
   dsimp only at hj h3;subst hj;cases h3;exact⟨[],by simp,by simp,by simp;exact h6,qa57 _,hp,⟨qa57 _,by simp,by simp⟩⟩
  |some k=>
   dsimp only at hj h3;obtain⟨j1,j2,j3,j4,j5,j6⟩:=hj;obtain⟨f,m2,h4,h5⟩:=zaE h3;obtain⟨t1,t2,t3,t4,t5,t6,t7,t8,t9,t10⟩:=zuI hG h4;split at h5
   ·rename_i hk;subst hk;obtain⟨r,rfl,e1,e2,e3,e4,e5,e6,e7⟩:=ztB n (acc++[f]) m2 l q t7 (by simp) (by simp;omega) h5;refine⟨f::r,by simp,fun x hx=>?_,by simp at e2 ⊢;omega,by omega,e4,⟨by omega, ?_, ?_⟩⟩
    ·rcases qa53.1 hx with rfl|hx
     ·exact⟨t1,t2,.inl t3,fun _=>t3,fun _=>t4,fun h=>absurd t3 h⟩
     ·exact e1 x hx
    ·rw[qa29,znw];simp[t3]at j5 t9 ⊢;omega
    ·rw[qa29,znw];simp[t3]at j6 t10 ⊢;omega
   ·rename_i hk;obtain⟨u,m3,h6',h7⟩:=zaE h5;obtain⟨m3e,m3l,m3w⟩:=zoM h6';obtain⟨e,m4,h8,h9⟩:=zaE h7;obtain⟨g1,g2,g3,⟨g4,g5,g6⟩⟩:=zlZ hG hV hN m3l h8;obtain⟨r,rfl,e1,e2,e3,e4,e5,e6,e7⟩:=ztB n (acc++[⟨f.table,f.as_,f.join,[e]⟩]) m4 l q g3 (by simp) (by simp;omega) h9;have hj0:f.join≠0:=by rw[t3];exact hk
    have hal:wOn.length=2:=rfl;have hasq:asQ ⟨f.table,f.as_,f.join,[e]⟩=asQ f:=rfl;refine⟨⟨f.table,f.as_,f.join,[e]⟩::r,by simp,fun x hx=>?_,by simp at e2 ⊢;omega,by omega,e4,⟨by omega, ?_, ?_⟩⟩
    ·rcases qa53.1 hx with rfl|hx
     ·exact⟨t1,t2,by rw[t3];exact j1,fun h=>(by cases h),fun h=>absurd h hj0,fun _=>⟨e,rfl,g1⟩⟩
     ·exact e1 x hx
    ·rw[qa29,znw,hasq];simp[hj0,behQ,sepQ]at t9 ⊢;rw[t3]at *;omega
    ·rw[qa29,znw,hasq];simp[hj0,behQ,sepQ]at t10 ⊢;rw[t3]at *;omega
theorem from_ok{p q:Nat}{l:List From}(hp:p≤L.length)(h:from_ L (exprR L) p=.ok l q):RFs l∧p≤q∧q≤L.length∧Wp L (zse l) 0 p q:=by
 unfold from_ at h;split at h
 ·rename_i hc;have hlt:p+1≤L.length:=isT_lt hc;have hw:=cw_isT hc;unfold tables at h;obtain⟨f,m,h1,h2⟩:=zaE h;obtain⟨t1,t2,t3,t4,t5,t6,t7,t8,t9,t10⟩:=zuI hG h1;obtain⟨r,rfl,e1,e2,e3,e4,e5,e6,e7⟩:=ztB hG hV hN _ _ _ _ _ t7 (by simp) (by simp) h2;have hal:wFrom.length=4:=rfl;refine⟨⟨⟨t1,t2,.inl t3,fun _=>t3,fun _=>t4,fun h=>absurd t3 h⟩,e1,by simp at e2 ⊢;omega⟩,by omega,e4,⟨by omega, ?_, ?_⟩⟩
  ·rw[List.singleton_append,zse,znw];simp at t9 ⊢;omega
  ·rw[List.singleton_append,zse,znw];simp at t10 ⊢;omega
 ·cases h;exact⟨trivial,qa57 _,hp,⟨qa57 _,by simp[zse],by simp[zse]⟩⟩
theorem znN{w:S}{p q:Nat}{l:List E}(hp:p≤L.length)(h:maybe L (exprR L) w p=.ok l q):R1 l∧p≤q∧q≤L.length∧Wp L (behQ [wd w] l) 0 p q:=by
 unfold maybe at h;split at h
 ·rename_i hc;have hlt:p+1≤L.length:=isT_lt hc;have hw:=cw_isT hc;obtain⟨e,m,h1,h2⟩:=zaE h;obtain⟨g1,g2,g3,⟨g4,g5,g6⟩⟩:=zlZ hG hV hN hlt h1;cases h2;refine⟨.inr ⟨e,rfl,g1⟩,by omega,g3,⟨by omega, ?_, ?_⟩⟩
  ·simp[behQ,sepQ];omega
  ·simp[behQ,sepQ];omega
 ·cases h;exact⟨.inl rfl,qa57 _,hp,⟨qa57 _,by simp[behQ],by simp[behQ]⟩⟩
theorem group_ok{p q:Nat}{l:List E}(hp:p≤L.length)(h:group L (exprR L) p=.ok l q):(∀x∈l,RX x)∧p+l.length≤q∧q≤L.length∧Wp L (behQ gbQ l) 0 p q:=by
 unfold group at h;split at h
 ·rename_i hc;have hw:=cw_isT hc;obtain⟨u,m,h1,h2⟩:=zaE h;obtain⟨k1,k2,k3⟩:=zoM h1;obtain⟨g0,g1,g2,g3,g4,g5,g6⟩:=zmh (expr_rg hG hV hN) k2 h2;have hal:wGroup.length=5:=rfl;have hal2:wBy.length=2:=rfl;refine⟨g1,by omega,g3,⟨by omega, ?_, ?_⟩⟩
  ·simp[behQ,g0,gbQ];omega
  ·simp[behQ,g0,gbQ];omega
 ·cases h;exact⟨by simp,by simp,hp,⟨qa57 _,by simp[behQ],by simp[behQ]⟩⟩
theorem zzM{p q:Nat}{c:Core}(hp:p≤L.length)(h:core L (exprR L) p=.ok c q):RC c∧p<q∧q≤L.length∧Wp L (ztm c) 2 p q:=by
 unfold core at h;obtain⟨u,p1,h1,h⟩:=zaE h;obtain⟨k1,k2,k3⟩:=zoM h1;obtain⟨is,q1,h2,h⟩:=zaE h;obtain⟨fs,q2,h3,h⟩:=zaE h;obtain⟨w,q3,h4,h⟩:=zaE h;obtain⟨g,q4,h5,h⟩:=zaE h;obtain⟨hv,q5,h6,h⟩:=zaE h;have hd:(if isT L p1 2 zav=true then p1+1 else p1)≤L.length∧ln (selQ (isT L p1 2 zav))+2+cw L p≤cw L (if isT L p1 2 zav=true then p1+1 else p1)∧tk (selQ (isT L p1 2 zav))+2+3*p≤3*(if isT L p1 2 zav=true then p1+1 else p1)∧p<(if isT L p1 2 zav=true then p1+1 else p1):=by
  have hal:wSelect.length=6:=rfl;have hal2:zav.length=8:=rfl;cases ht:isT L p1 2 zav
  ·simp[selQ];omega
  ·have hlt:p1+1≤L.length:=isT_lt ht;have hw:=cw_isT ht;simp[selQ];omega
 obtain⟨d1,d2,d3,d4⟩:=hd;obtain⟨i0,i1,i2,i3,i4,i5,i6⟩:=zmh (item_rg hG hV hN) d1 h2;obtain⟨f1,f2,f3,f4,f5,f6⟩:=from_ok hG hV hN i3 h3;obtain⟨w1,w2,w3,w4,w5,w6⟩:=znN hG hV hN f3 h4;obtain⟨g1,g2,g3,g4,g5,g6⟩:=group_ok hG hV hN w3 h5;obtain⟨v1,v2,v3,v4,v5,v6⟩:=znN hG hV hN g3 h6;cases h;refine⟨⟨i0,i1,f1,w1,v1,g1,by dsimp only;omega,by dsimp only;omega⟩,by omega,v3,⟨by omega, ?_, ?_⟩⟩
 ·simp[ztm]at *;omega
 ·simp[ztm]at *;omega
theorem term_rg:Rg L (term L (exprR L)) zqN RT:=by
 intro p t q hp h;unfold term at h;obtain⟨e,m,h1,h2⟩:=zaE h;obtain⟨g1,g2,g3,⟨g4,g5,g6⟩⟩:=zlZ hG hV hN hp h1;have dk:∀{c:Int} {m:Nat},m≤L.length→dir L e c m=.ok t q→t.e=e∧t.coll=c∧m≤q∧q≤L.length∧Wp L (if t.desc then[bk,wd wDesc]else[]) 0 m q:=by
  intro c m hm hd;unfold dir at hd;split at hd
  ·rename_i hc;have:=cw_isT hc;cases hd;exact⟨rfl,rfl,by omega,isT_lt hc,⟨by omega,by simp;omega,by simp;omega⟩⟩
  ·split at hd
   ·rename_i hc;have:=cw_isT hc;have hal:wDesc.length=4:=rfl;cases hd;exact⟨rfl,rfl,by omega,isT_lt hc,⟨by omega,by simp;omega,by simp;omega⟩⟩
   ·cases hd;exact⟨rfl,rfl,qa57 _,hm,⟨qa57 _,by simp,by simp⟩⟩
 split at h2
 ·rename_i hc;have hw:=cw_isT hc;have hlt:m+1≤L.length:=isT_lt hc;obtain⟨c,m2,h3,h4⟩:=zaE h2;have hcc:(c=0∨c=1)∧m2=m+2∧m2≤L.length∧cw L (m+1)+40≤cw L m2:=by
   unfold coll at h3;split at h3
   ·rename_i t' ht;have:=zna ht;have hl:=(qa9.1 ht).1;split at h3
    ·cases h3;exact⟨.inl rfl,rfl,hl,by omega⟩
    ·split at h3
     ·cases h3;exact⟨.inr rfl,rfl,hl,by omega⟩
     ·cases h3
   ·cases h3
  obtain⟨c1,c2,c3,c4⟩:=hcc;obtain⟨d1,d2,d3,d4,d5,d6,d7⟩:=dk c3 h4;have hal:wCollate.length=7:=rfl;have hal2:wNocase.length=6:=rfl;refine⟨⟨by rw[d1];exact g1,by rw[d2];exact c1⟩,by omega,d4,⟨by omega, ?_, ?_⟩⟩
  ·rw[zqN,d1];split<;>simp at *<;>omega
  ·rw[zqN,d1];split<;>simp at *<;>omega
 ·obtain⟨d1,d2,d3,d4,d5,d6,d7⟩:=dk g3 h2;refine⟨⟨by rw[d1];exact g1,.inl d2⟩,by omega,d4,⟨by omega, ?_, ?_⟩⟩
  ·rw[zqN,d1,d2];simp at *;omega
  ·rw[zqN,d1,d2];simp at *;omega
omit hG hV hN in
theorem zwT{o:Int}{p q:Nat}(h:between L p=(some o,q)):(0≤o∧o≤3)∧p<q∧q≤L.length∧Wp L (znd o) 0 p q:=by
 have hal:wUnion.length=5:=rfl;have hal2:wAll.length=3:=rfl;have hal3:wIntersect.length=9:=rfl;have hal4:wExcept.length=6:=rfl;unfold between at h;split at h
 ·rename_i h1;have w1:=cw_isT h1;split at h
  ·rename_i h2;have w2:cw L (p+1)+40+5*wAll.length=cw L (p+2):=cw_isT h2;cases h;exact⟨by decide,by omega,isT_lt h2,⟨by omega,by simp[znd];omega,by simp[znd];omega⟩⟩
  ·cases h;exact⟨by decide,by omega,isT_lt h1,⟨by omega,by simp[znd];omega,by simp[znd];omega⟩⟩
 ·split at h
  ·rename_i h1;have w1:=cw_isT h1;cases h;exact⟨by decide,by omega,isT_lt h1,⟨by omega,by simp[znd];omega,by simp[znd];omega⟩⟩
  ·split at h
   ·rename_i h1;have w1:=cw_isT h1;cases h;exact⟨by decide,by omega,isT_lt h1,⟨by omega,by simp[znd];omega,by simp[znd];omega⟩⟩
   ·cases h
theorem zvV:∀(n:Nat)(cs:List Core)(os:List Int)(p:Nat)(x:List Core×List Int)(q:Nat),p≤L.length→cores L (exprR L) n cs os p=.ok x q →
  ∃rc ro,x=(cs++rc,os++ro)∧(∀c∈rc,RC c)∧(∀o∈ro,0≤o∧o≤3)∧rc.length=ro.length∧p+rc.length≤q∧q≤L.length∧Wp L (zox rc ro) 0 p q
 |0,cs,os,p,x,q,hp,h=>by rw[cores]at h;cases h
 |n+1,cs,os,p,x,q,hp,h=>by
  rw[cores]at h;split at h
  ·rename_i m hb;have:=between_none hb;subst this;cases h;exact⟨[],[],by simp,by simp,by simp,rfl,by simp,hp,⟨qa57 _,by simp[zox],by simp[zox]⟩⟩
  ·rename_i o m hb;obtain⟨b1,b2,b3,b4,b5,b6⟩:=zwT hb;obtain⟨c,m2,h1,h2⟩:=zaE h;obtain⟨c1,c2,c3,c4,c5,c6⟩:=zzM hG hV hN b3 h1;obtain⟨rc,ro,rfl,e1,e2,e3,e4,e5,e6,e7,e8⟩:=zvV n (cs++[c]) (os++[o]) m2 x q c3 h2;refine⟨c::rc,o::ro,by simp,fun y hy=>?_,fun y hy=>?_,by simp[e3],by simp;omega,e5,⟨by omega, ?_, ?_⟩⟩
   ·rcases qa53.1 hy with rfl|hy
    ·exact c1
    ·exact e1 y hy
   ·rcases qa53.1 hy with rfl|hy
    ·exact b1
    ·exact e2 y hy
   ·rw[zox];simp;omega
   ·rw[zox];simp;omega
theorem query_ok{p q:Nat}{s:Sel}(hp:p≤L.length)(h:query L (exprR L) p=.ok s q):RS s∧p<q∧q≤L.length∧Wp L (queryQ s) 0 p q:=by
 unfold query at h;obtain⟨c,m1,h1,h⟩:=zaE h;obtain⟨c1,c2,c3,c4,c5,c6⟩:=zzM hG hV hN hp h1;obtain⟨x,m2,h2,h⟩:=zaE h;obtain⟨rc,ro,rfl,e1,e2,e3,e4,e5,e6,e7,e8⟩:=zvV hG hV hN _ _ _ _ _ _ c3 h2;obtain⟨o,m3,h3,h⟩:=zaE h;have ho:(∀t∈o,RT t)∧m2+o.length≤m3∧m3≤L.length∧Wp L (ordQ o) 0 m2 m3:=by
  unfold order at h3;split at h3
  ·rename_i hc;have hw:=cw_isT hc;obtain⟨u,m,h4,h5⟩:=zaE h3;obtain⟨k1,k2,k3⟩:=zoM h4;obtain⟨g0,g1,g2,g3,g4,g5,g6⟩:=zmh (term_rg hG hV hN) k2 h5;have hal:wOrder.length=5:=rfl;have hal2:wBy.length=2:=rfl;refine⟨g1,by omega,g3,⟨by omega, ?_, ?_⟩⟩
   ·simp[ordQ,g0];omega
   ·simp[ordQ,g0];omega
  ·cases h3;exact⟨by simp,by simp,e5,⟨qa57 _,by simp[ordQ],by simp[ordQ]⟩⟩
 obtain⟨o1,o2,o3,o4,o5,o6⟩:=ho;obtain⟨l,m4,h4,h⟩:=zaE h;obtain⟨l1,l2,l3,l4,l5,l6⟩:=znN hG hV hN o3 h4;obtain⟨f,m5,h5,h⟩:=zaE h;have hf:R1 f∧(l=[]→f=[])∧m4≤m5∧m5≤L.length∧Wp L (behQ [wd wOffset] f) 0 m4 m5:=by
  split at h5
  ·cases h5;exact⟨.inl rfl,fun _=>rfl,qa57 _,l3,⟨qa57 _,by simp[behQ],by simp[behQ]⟩⟩
  ·rename_i hl;obtain⟨f1,f2,f3,f4⟩:=znN hG hV hN l3 h5;exact⟨f1,fun h=>absurd (by rw[h];rfl) hl,f2,f3,f4⟩
 obtain⟨f1,f2,f3,f4,f5,f6,f7⟩:=hf;cases h;refine⟨⟨fun y hy=>?_,by simp[e3],fun y hy=>e2 y (by simpa using hy),o1,l1,f1,f2,by simp;omega,by dsimp only;omega⟩,by omega,f4,⟨by omega, ?_, ?_⟩⟩
 ·simp only[List.singleton_append]at hy;rcases qa53.1 hy with rfl|hy
  ·exact c1
  ·exact e1 y hy
 ·simp[queryQ,ztl]at *;omega
 ·simp[queryQ,ztl]at *;omega
end
section
open Lx Ex
theorem zuZ(L:S):∀(f:Nat)(acc:List TA)(k:Nat)(l:List TA)(a:Nat)(e:Int),k≤L.length→zhS L f acc k=(l,a,e)→e≠0→a≤L.length
 |0,acc,k,l,a,e,hk,h,he=>by rw[zhS]at h;cases h;exact absurd rfl he
 |f+1,acc,k,l,a,e,hk,h,he=>by
  rw[zhS]at h;split at h
  ·cases h;exact absurd rfl he
  ·split at h
   ·cases h;exact hk
   ·split at h
    ·rename_i h3;have h4:=zqM h3;rw[qa39]at h4;have h5:=zhW false (L.drop (k+(tok (L.drop k)).2.2));rw[qa39]at h5;exact zuZ L f _ _ l a e (by omega) h he
    ·cases h;exact hk
theorem scan_at{L:S}{l:List TA}{a:Nat}{e:Int}(h:scan L=(l,a,e))(he:e≠0):a≤L.length:=by
 rw[scan]at h;split at h
 ·cases h;exact Nat.zero_le _
 ·exact zuZ L _ _ _ l a e (zhW _ _) h he
theorem zxI{N:Nat}:∀{l:List TA} {k:Nat},Rise N k l→∀t∈l,t.2≤N
 |[],_,_,t,ht=>by cases ht
 |x::l,k,h,t,ht=>by
  rcases qa53.1 ht with rfl|ht
  ·exact Nat.le_of_lt h.2.1
  ·exact zxI h.2.2 t ht
theorem zu7{s:S}{l:List TA}{a:Nat}(h:scan s=(l,a,0))(q:Nat):zpv l s.length q≤s.length:=by
 obtain⟨ext,_,rfl,_,hr,_⟩:=zpU h;unfold zpv;split
 ·rename_i t ht;rcases qa47.1 (qa16 ht)with h1|h1
  ·exact zxI hr t h1
  ·rw[qa22.1 h1];exact qa57 _
 ·exact qa57 _
theorem ofQ_cases(s:S):((ofQ s).2.2≠0∧(ofQ s).1=sel0∧(ofQ s).2.1≤s.length) ∨
  ((ofQ s).2.2=0∧(ofQ s).2.1=s.length∧RS (ofQ s).1∧ln (queryQ (ofQ s).1)≤40*(s.length+1)+5*s.length∧tk (queryQ (ofQ s).1)≤3*(s.length+1)):=by
 unfold ofQ;cases hsc:scan s with
 |mk l r=>
 obtain⟨a,e⟩:=r;dsimp only;by_cases he:e=0
 ·subst he;rw[if_neg (by simp)];obtain⟨g1,g2,g3,g4,g5,g6⟩:=zjK hsc;cases hq:query (l.map (·.1)) (exprR (l.map (·.1))) 0 with
  |stop q er=>
   left;have:=query_in (L:=l.map (·.1)) (ex:=exprR (l.map (·.1))) (fun p hp=>exprR_in hp) (p:=0) (Nat.zero_le _);rw[hq]at this;exact⟨this.2,rfl,zu7 hsc q⟩
  |ok x q=>
   obtain⟨h1,h2,h3,h4,h5,h6⟩:=query_ok g1 g2 (by rw[qa44];omega) (Nat.zero_le _) hq;have hw:=cw_le (l.map (·.1)) q;have h0:cw (l.map (·.1)) 0=0:=rfl;simp only[qa44]at h3 hw;have fin:RS x∧ln (queryQ x)≤40*(s.length+1)+5*s.length∧tk (queryQ x)≤3*(s.length+1):=⟨h1,by omega,by omega⟩;dsimp only;cases hl:l[q]? with
   |none=>exact .inr ⟨rfl,rfl,fin⟩
   |some t=>
    dsimp only;by_cases hk:t.1.kind=0
    ·rw [if_neg (by simpa using hk)];exact .inr ⟨rfl,rfl,fin⟩
    ·rw[if_pos hk];left;have:=zu7 hsc q;unfold zpv at this;rw[hl]at this;exact⟨show(20:Int)≠0 by decide,rfl,this⟩
 ·rw[if_pos he];exact .inl ⟨he,rfl,scan_at hsc he⟩
end
end Qy
namespace Go.Proofs.YtlooegbcfkoloaaGreatDoor
section
open Go.RowKit
open Vm
theorem rt_qt{e:Ex.E}(h:Ex.Rt e):Qt e:=by
 have hz:Ex.N64 (Ex.eVal Ex.v0):=⟨by decide,by decide⟩;have h0:(Ex.eVal Ex.v0).val.2.2.length≤1000000:=by decide
 induction h with
 |val v h1 h2 h3=>
  refine .mk h3 ?_ (fun x hx=>by cases hx);unfold Ex.mayV at h1;show v.2.2.length≤1000000;split at h1
  ·simp only[qa32,beq_iff_eq]at h1;rw[h1.2];decide
  ·split at h1
   ·rw[beq_iff_eq.1 h1];decide
   ·split at h1
    ·simp only[qa32,qa25]at h1;omega
    ·cases h1
 |col t n=>exact .mk hz h0 (fun x hx=>by cases hx)
 |un op a _ _ ih=>exact .mk hz h0 (fun x hx=>by obtain rfl:=qa22.1 hx;exact ih)
 | bin op a b _ _ _ i1 i2=>exact .mk hz h0 (fun x hx=>by
   simp only[Ex.eBin,Ex.E.args,qa53,qa37,or_false]at hx;rcases hx with rfl|rfl<;>assumption)
 | is g a b _ _ i1 i2=>exact .mk hz h0 (fun x hx=>by
   simp only[Ex.eIs,Ex.E.args,qa53,qa37,or_false]at hx;rcases hx with rfl|rfl<;>assumption)
 | in_ g a l _ _ _ i1 i2=>exact .mk hz h0 (fun x hx=>by
   simp only[Ex.eIn,Ex.E.args,qa53]at hx;rcases hx with rfl|hx
   ·assumption
   ·exact i2 x hx)
 | btw g a b c _ _ _ i1 i2 i3=>exact .mk hz h0 (fun x hx=>by
   simp only[Ex.eBtw,Ex.E.args,qa53,qa37,or_false]at hx;rcases hx with rfl|rfl|rfl<;>assumption)
 | like g a b _ _ i1 i2=>exact .mk hz h0 (fun x hx=>by
   simp only[Ex.zls,Ex.E.args,qa53,qa37,or_false]at hx;rcases hx with rfl|rfl<;>assumption)
 |case d l _ _ _ ih=>exact .mk hz h0 ih
 |fn op l _ _ _ _ ih=>exact .mk hz h0 ih
 |agg op d a _ _ ih=>exact .mk hz h0 (fun x hx=>by obtain rfl:=qa22.1 hx;exact ih)
 |star=>exact .mk hz h0 (fun x hx=>by cases hx)
 |cast op a _ _ ih=>exact .mk hz h0 (fun x hx=>by obtain rfl:=qa22.1 hx;exact ih)
variable[Gl]
end
section
open Go.RowKit
open Vm
variable[Gl]
theorem zua:pr.ev 5 [] []=some (.ret (.bool true),[]):=pr.ev_phi 80 (by kernel_rfl)
end
section
open Go.RowKit
open Vm
variable[Gl]
theorem rx_fe{e:Ex.E}(h:Qy.RX e):FE e:=by have:=h.2.2;unfold FE;omega
theorem zt0{l:List Ex.E}(h:Qy.R1 l):FL l:=by
 rcases h with rfl|⟨e,rfl,h⟩
 ·exact⟨by simp,by simp⟩
 ·exact⟨by simp,fun x hx=>by rw[qa22.1 hx];exact rx_fe h⟩
theorem rf_on{b:Bool}{f:Qy.From}(h:Qy.RF b f):Qy.R1 f.on:=by
 by_cases hj:f.join=0
 ·exact .inl (h.z hj)
 ·exact .inr (h.o hj)
theorem ztV{l:List Qy.From}(h:Qy.RFs l):l.length≤6∧∀f∈l,Qy.R1 f.on:=by
 cases l with
 |nil=>exact⟨by simp,by simp⟩
 |cons f r=>
  obtain⟨h1,h2,h3⟩:=h;refine⟨by simp;omega,fun x hx=>?_⟩;rcases qa53.1 hx with rfl|hx
  ·exact rf_on h1
  ·exact rf_on (h2 x hx)
theorem rs_fs{s:Qy.Sel}(h:Qy.RS s):FS s:=by
 have hn:=h.n;have hc:=h.cl;have ht:=h.tl;refine⟨by omega,fun c hc=>?_,by omega,by omega,fun t ht=>rx_fe (h.t t ht).e,zt0 h.l,zt0 h.f⟩;have r:=h.c c hc;obtain⟨f1,f2⟩:=ztV r.f;have hil:=r.il;have hgl:=r.gl;refine⟨by omega,fun x hx=>?_,by omega,fun f hf=>zt0 (f2 f hf),zt0 r.w,zt0 r.h,⟨by omega,fun x hx=>rx_fe (r.g x hx)⟩⟩;have ri:=r.i x hx;cases hs:x.star
 ·exact rx_fe (ri.e hs).1
 ·rw[(ri.s hs).1];unfold FE;decide
theorem sh_px{e:Ex.E}(h:Qy.RX e)(hl:Sh (Ex.print e)):PX e:=zyL (Ex.deep e) e (qa57 _) (by have:=h.2.2;omega) h.1.right (rt_qt h.1) hl
theorem zv3{w:List UInt8}{l:List Ex.E}(h:Sh (Qy.behind w l)):∀x∈l,Sh (Ex.print x):=fun x hx=>by
 have hl:l≠[]:=fun e=>by rw[e]at hx;cases hx
 unfold Qy.behind at h;rw[if_neg hl]at h;exact zkZ (sh_r h) (qa18 hx)
theorem zx1{w:List UInt8}{l:List Ex.E}(h:Qy.R1 l)(hs:Sh (Qy.behind w l)):PL l:=⟨(zt0 h).1,fun x hx=>sh_px (h.all x hx) (zv3 hs x hx)⟩
theorem zzp{α:Type}{f:α→List UInt8}{l:List α}(h:Sh (l.flatMap f)):∀x∈l,Sh (f x):=by
 induction l with
 |nil=>intro x hx;cases hx
 |cons a l ih=>
  rw[qa29]at h;intro x hx;rcases qa53.1 hx with rfl|hx
  ·exact sh_l h
  ·exact ih (sh_r h) x hx
theorem zzi{b:Bool}{f:Qy.From}(h:Qy.RF b f)(hs:Sh (Qy.fromP b f)):PL f.on:=by
 by_cases hj:f.join=0
 ·rw[h.z hj];exact⟨by simp,by simp⟩
 ·have hb:b=false:=by
   cases b
   ·rfl
   ·exact absurd (h.b rfl) hj
  subst hb;unfold Qy.fromP at hs;simp only[qb0,true_and]at hs;rw[if_pos hj]at hs;exact zx1 (.inr (h.o hj)) (sh_r hs)
theorem rc_pc{c:Qy.Core}(h:Qy.RC c)(hs:Sh (Qy.coreP c)):PC c:=by
 have hil:=h.il;have hgl:=h.gl;obtain⟨f1,_⟩:=ztV h.f;unfold Qy.coreP at hs;refine⟨by omega,fun x hx hst=>?_,by omega,fun f hf=>?_,zx1 h.w (sh_r (sh_r (sh_l (sh_l hs)))),zx1 h.h (sh_r hs),⟨by omega,fun x hx=>sh_px (h.g x hx) (zv3 (sh_r (sh_l hs)) x hx)⟩⟩
 ·have h1:=zkZ (sh_l (sh_l (sh_r (sh_l (sh_l hs))))) (qa18 hx);refine sh_px ((h.i x hx).e hst).1 ?_;unfold Qy.itemP at h1;rw[hst]at h1;simp only[qb0]at h1;split at h1
  ·exact h1
  ·exact sh_l (sh_l h1)
 ·have h1:=sh_r (sh_l (sh_r (sh_l (sh_l hs))));have hf':=h.f;revert h1 hf' hf;cases c.from_ with
  |nil=>intro hf;cases hf
  |cons g r=>
   intro hf h1 hf';obtain⟨h2,h3,_⟩:=hf';unfold Qy.tablesP at h1;rcases qa53.1 hf with rfl|hf
   ·exact zzi h2 (sh_l h1)
   ·exact zzi (h3 f hf) (zzp (sh_r h1) f hf)
theorem zq5:∀{cs:List Qy.Core} {os:List Int},Sh (Qy.restP cs os)→∀c∈cs,Sh (Qy.coreP c)
 |[],_,_,c,hc=>by cases hc
 |d::cs,[],h,c,hc=>by
  rw[Qy.restP]at h;rcases qa53.1 hc with rfl|hc
  ·exact sh_l h
  ·exact zq5 (sh_r h) c hc
 |d::cs,o::os,h,c,hc=>by
  rw[Qy.restP]at h;rcases qa53.1 hc with rfl|hc
  ·exact sh_r (sh_l h)
  ·exact zq5 (sh_r h) c hc
theorem rs_ps{s:Qy.Sel}(h:Qy.RS s)(hs:Sh (Qy.printQ s)):PS s:=by
 have hn:=h.n;have hcl:=h.cl;have htl:=h.tl;unfold Qy.printQ at hs;refine⟨by omega,fun c hc=>rc_pc (h.c c hc) ?_,by omega,by omega,fun t ht=>sh_px (h.t t ht).e ?_,zx1 h.l (sh_r (sh_l hs)),zx1 h.f (sh_r hs)⟩
 ·have h1:=sh_l (sh_l (sh_l hs));revert h1 hc;cases s.cores with
  |nil=>intro hc;cases hc
  |cons d cs=>
   intro hc h1;rw[Qy.coresP]at h1;rcases qa53.1 hc with rfl|hc
   ·exact sh_l h1
   ·exact zq5 (sh_r h1) c hc
 ·have h1:=sh_r (sh_l (sh_l hs));unfold Qy.orderP at h1;have hl:s.order≠[]:=fun e=>by rw[e]at ht;cases ht
  rw[if_neg hl]at h1;have h2:=zkZ (sh_r h1) (qa18 ht);unfold Qy.termP at h2;exact sh_l (sh_l h2)
end
section
open Go.RowKit
open Vm
variable[Gl]
theorem slS_one(s:List UInt8)(i:Nat)(h:i<s.length):slS (.str s) (some (.int .i64 (i:Int))) (some (.int .i64 ((i+1:Nat):Int)))=some (.str [s[i]]):=by
 have h1:(s.take (i+1)).drop i=[s[i]]:=by
  rw[List.take_add_one,qa11 h,List.drop_append,List.drop_of_length_le (by simp;omega)];simp[Nat.min_eq_left (Nat.le_of_lt h)]
 have h2:i+1≤s.length:=h;simp[slS,ziK,bnd,h1,h2, -Int.natCast_add]
theorem idxV_at(s:List UInt8)(i:Nat)(h:i<s.length):idxV (.str s) (.int .i64 (i:Int))=some (.int .u8 (s[i].toNat:Int)):=by
 simp[idxV,qa11 h]
theorem u8_eq(c:UInt8)(k:Nat)(hk:k<256):((c.toNat:Int)=(k:Int))=(c=UInt8.ofNat k):=by
 refine propext ⟨fun h=>?_,fun h=>?_⟩
 ·have:c.toNat=k:=by omega
  rw[←this];simp
 ·subst h;simp;omega
theorem zwp(s:List UInt8)(i:Nat)(h:i<s.length):Ex.zd1 (s.take (i+1))=Ex.zd1 (s.take i)++(if s[i]=39 then[39,39]else[s[i]]):=by
 have key:∀(a b:List UInt8),Ex.zd1 (a++b)=Ex.zd1 a++Ex.zd1 b:=by
  intro a b;induction a with
  |nil=>rfl
  |cons c r ih=>rw[qa35,Ex.zd1,Ex.zd1];split<;>simp[ih]
 rw[List.take_add_one,qa11 h,key];congr 1
theorem zoG(v:Ex.V)(hs:v.2.2.length≤1000000):∀(n i:Nat),i+n=v.2.2.length →
  lup Out (zcx pr.ev lup) [.str (39::Ex.zd1 (v.2.2.take i)),.int .i64 (i:Int),.agg [.int .i64 v.1,.int .i64 v.2.1,.str v.2.2]]=some (.ret (.str (39::(Ex.zd1 v.2.2++[39]))),[])
 |0,i,hi=>by
  obtain rfl:i=v.2.2.length:=by omega
  have hq:=zkh v.2.2;rw[zan,List.take_length];simp(disch:=first|omega|(simp only[qb1];omega)|rfl|fail) [-Int.natCast_add,zcx,zgi,add_s,rtn]
 |n+1,i,hi=>by
  have h1:i<v.2.2.length:=by omega
  have ih:=zoG v hs n (i+1) (by omega);rw[zwp _ _ h1]at ih;have hq:=zkh (v.2.2.take i);have hq2:(v.2.2.take i).length≤i:=by simp;omega
  have hsl:=slS_one v.2.2 i h1;have hid:=idxV_at v.2.2 i h1;have hw:=zbU (show i≤1000000 by omega);have hu:=u8_eq v.2.2[i] 39 (by decide);have hag:agN 3 (Vm.V.agg [.int .i64 v.1,.int .i64 v.2.1,.str v.2.2])=.agg [.int .i64 v.1,.int .i64 v.2.1,.str v.2.2]:=agN_agg _ _ rfl;rw[zan,←ih];generalize Ex.zd1 (v.2.2.take i)=A at *;by_cases hc:v.2.2[i]=39
  ·have hcn:(v.2.2[i].toNat:Int)=39:=by rw [hc];rfl
   rw[hcn]at hid;simp(disch:=first|omega|(simp only[qb1];omega)|rfl|fail) [-Int.natCast_add,zcx,zds,h1,hid,hc,hsl,hw,add_s,hag]
  ·have hcn:¬ (v.2.2[i].toNat:Int)=39:=by rw [show (39:Int)=((39:Nat):Int) from rfl,hu];exact hc
   simp(disch:=first|omega|(simp only[qb1];omega)|rfl|fail) [-Int.natCast_add,zcx,zds,h1,hid,hc,hcn,hsl,hw,add_s,hag]
theorem r_Quote{v:Ex.V}(h1:-9223372036854775808≤v.2.1)(h2:v.2.1≤9223372036854775807)(h3:v.2.2.length≤1000000):pr.ev 48 [.agg [.int .i64 v.1,.int .i64 v.2.1,.str v.2.2]] []=some (.ret (.str (Ex.valP v)),[]):=by
 refine pr.of rfl rfl rfl (zmt _ _ _ _) ?_;have hx:=zug v.2.2;unfold Ex.valP;by_cases k0:v.1=0
 ·simp[zcJ,ckA_agg,k0,rtn,Ex.zqG]
 by_cases k1:v.1=1
 ·simp[zcJ,ckA_agg,k1,rtn,zaa (ev_rnum h1 h2)]
 by_cases k2:v.1=2
 ·have h:=zoG v h3 v.2.2.length 0 (by omega);rw[k2]at h;simp only[List.take_zero,Ex.zd1,qa34]at h;simp[zcJ,ckA_agg,k2];exact h
 by_cases k3:v.1=3
 ·simp[zcJ,ckA_agg,k3,rtn,zaa (ev_rhex h3),add_s,show(Ox.hex v.2.2).length≤2000000000 by omega,show(Ox.hex v.2.2).length+1+1≤2000000000 by omega]
 ·simp[zcJ,ckA_agg,k0,k1,k2,k3,rtn]
theorem r_joined(e:Ex.E):pr.ev 97 [encE e] []=some (.ret (.bool (Ex.zkT e.kind)),[]):=by
 refine pr.of rfl (by simp only[List.map,(zbe _).rd];rfl) rfl (zlE _ _ _ _) ?_;have h0:cell (encE e) 0=.int .i64 e.kind:=by cases e;rw[enc_mk];rfl
 unfold Ex.zkT;by_cases h3:e.kind=3
 ·simp[zbc,h0,h3,rtn]
 by_cases h4:e.kind=4
 ·simp[zbc,h0,h4,rtn]
 by_cases h5:e.kind=5
 ·simp[zbc,h0,h5,rtn]
 by_cases h6:e.kind=6
 ·simp[zbc,h0,h6,rtn]
 by_cases h7:e.kind=7
 ·simp[zbc,h0,h7,rtn]
 by_cases h8:e.kind=8
 ·simp[zbc,h0,h8,rtn]
 ·have:(decide (3≤e.kind) && decide (e.kind≤8))=false:=by
   rw[Bool.and_eq_false_iff,decide_eq_false_iff_not,decide_eq_false_iff_not];omega
  rw[this];simp[zbc,h0,h3,h4,h5,h6,h7,h8,rtn]
def PrR(l:List Ex.E):Prop:=∀x∈l,pr.ev 24 [encE x] []=some (.ret (.str (Ex.print x)),[])
theorem zhv{x:Ex.E}(hT:(Ex.print x).length≤1000000000)(hp:pr.ev 24 [encE x] []=some (.ret (.str (Ex.print x)),[])):pr.ev 49 [encE x] []=some (.ret (.str (Ex.inn (kO x))),[]):=by
 refine pr.of rfl (by simp only[List.map,(zbe _).rd];rfl) rfl (zmp _ _ _ _) ?_;have hj:=r_joined x;unfold Ex.inn;cases h:Ex.zkT x.kind
 ·rw[h]at hj;simp[zfu,zaa hj,zaa hp,rtn,h]
 ·rw[h]at hj;simp[zfu,zaa hj,zaa hp,rtn,h,add_s,show(Ex.print x).length≤2000000000 by omega,show(Ex.print x).length+1≤2000000000 by omega]
theorem r_not{g:Bool}{w:Ex.S}(hw:w.length≤1000):pr.ev 50 [.bool g,.str w] []=some (.ret (.str (Ex.notW g w)),[]):=by
 refine pr.of rfl rfl rfl (zol _ _ _ _ _) ?_;cases g<;>simp[sh_tomeref25_not,Ex.notW,add_s,rtn,show w.length≤2000000000 by omega,show w.length+1≤2000000000 by omega,show w.length+1+1+1+1+1≤2000000000 by omega]
theorem zpd(l:List Ex.C)(c:Ex.C)(h:l≠[]):Ex.commas (l++[c])=Ex.commas l++[44,32]++c.2.2:=by
 induction l with
 |nil=>exact absurd rfl h
 |cons d r ih=>
  cases r with
  |nil=>simp[Ex.commas]
  |cons e r=>
   rw[qa35,Ex.commas,Ex.commas,ih (by simp)]
   ·simp
   ·intro h;cases h
   ·intro h;cases r<;>cases h
theorem zzS(a b:List Ex.C):(Ex.commas a).length≤(Ex.commas (a++b)).length:=by
 induction b generalizing a with
 |nil=>simp
 |cons c r ih=>
  have h:=ih (a++[c]);rw[qa28,List.singleton_append]at h;refine qa56 ?_ h;by_cases ha:a=[]
  ·subst ha;simp[Ex.commas]
  ·rw[zpd _ _ ha];simp only[qa21];omega
theorem zm1(l:List Ex.E)(hl:l.length≤900000)(hp:PrR l)(hlen:(Ex.commas (Ex.prints l)).length≤100000000):∀(n i:Nat),i+n=l.length→(Ex.commas (Ex.prints (l.take i))).length≤100000000 →
  lup Out (zb0 pr.ev lup) [.list (l.map encE),.str (Ex.commas (Ex.prints (l.take i))),.int .i64 (i:Int)]=some (.ret (.str (Ex.commas (Ex.prints l))),[])
 |0,i,hi,_=>by
  obtain rfl:i=l.length:=by omega
  rw[zan,List.take_length];simp[-Int.natCast_add,zb0,rtn]
 |n+1,i,hi,hb=>by
  have h1:i<l.length:=by omega
  have hx:=hp _ (qa36 h1);have hm:=zhc (qa36 h1);have ht:Ex.prints (l.take (i+1))=Ex.prints (l.take i)++[(l[i].kind,l[i].val.1,Ex.print l[i])]:=by
   rw[List.take_add_one,qa11 h1,Ex.zei,Ex.zei];simp only[Option.toList_some,qa43,qb3]
  have hw:=zbU (show i≤1000000 by omega);have hb2:(Ex.commas (Ex.prints (l.take (i+1)))).length≤100000000:=by
   have h2:=zzS (Ex.prints (l.take (i+1))) (Ex.prints (l.drop (i+1)));rw[Ex.zei,Ex.zei,←qa43,List.take_append_drop,←Ex.zei,←Ex.zei]at h2;omega
  have ih:=zm1 l hl hp hlen n (i+1) (by omega) hb2;rw[ht]at ih;rw[zan,←ih];by_cases h0:i=0
  ·subst h0;have el0:=zeg l 0 .i64;have hw0:IntKind.wrap .i64 (0+1)=1:=rfl;simp only[qa34]at el0;simp(disch:=first|omega|(simp only[qb1];omega)|rfl|fail) [-Int.natCast_add,zb0,zc0,h1,el0,zdb,zaa hx,Ex.prints,Ex.commas,add_s,zcd]
  ·have hi0:0 < i:=by omega
   have hne:Ex.prints (l.take i)≠[]:=by
    rw[Ex.zei];intro h;have:=congrArg List.length h;simp at this;rcases this with h2|h2
    ·exact h0 h2
    ·subst h2;simp at h1
   rw[zpd _ _ hne];generalize Ex.commas (Ex.prints (l.take i))=A at *;simp(disch:=first|omega|(simp only[qb1];omega)|rfl|fail) [-Int.natCast_add,zb0,zc0,h1,hi0,zeg,zdb,zaa hx,add_s,hw]
theorem zoE(l:List Ex.E)(hl:l.length≤900000)(hp:PrR l)(hlen:(Ex.commas (Ex.prints l)).length≤100000000):pr.ev 51 [.list (l.map encE)] []=some (.ret (.str (Ex.commas (Ex.prints l))),[]):=by
 refine pr.of rfl rfl rfl (zk3 _ _ _ _) ?_;have h:=zm1 l hl hp hlen l.length 0 (by omega) (by simp[Ex.prints,Ex.commas]);simp only[List.take_zero,Ex.prints,Ex.commas,qa34]at h;simpa[zgO]using h
end
section
open Go.RowKit
open Vm
variable[Gl]
theorem zqr(x:Ex.E):ldV false 1 (encE x) 0=some (.int .i64 x.kind):=by cases x;rw[enc_mk];rfl
theorem zqq(x:Ex.E):ldV false 1 (encE x) 2=some (.int .i64 x.val.1):=by cases x;rw[enc_mk];rfl
def zyU(k:Int)(d:Bool):Int:=if k=3∨k=6∨k=12 then 1 else if k=4∨k=5∨k=8 then 2 else if k=7 then 3 else if k=9∧d=true then 1 else 0
theorem r_least(k:Int)(o:Ex.S)(v:Ex.V)(t n:Ex.S)(s:Int)(g d:Bool)(a:List Ex.E):pr.ev 47 [encE (.mk k o v t n s g d a)] []=some (.ret (.int .i64 (zyU k d)),[]):=by
 refine pr.of rfl (by simp only[List.map,(zbe _).rd];rfl) rfl (zmo _ _ _ _) ?_;unfold zyU;by_cases h3:k=3
 ·simp[sh_tomeref25_least,sh_tomeref25_least_j1,mk_0,h3,rtn]
 by_cases h6:k=6
 ·simp[sh_tomeref25_least,sh_tomeref25_least_j1,mk_0,h6,rtn]
 by_cases h12:k=12
 ·simp[sh_tomeref25_least,sh_tomeref25_least_j1,mk_0,h12,rtn]
 by_cases h4:k=4
 ·simp[sh_tomeref25_least,sh_tomeref25_least_j1,zaQ,mk_0,h4,rtn]
 by_cases h5:k=5
 ·simp[sh_tomeref25_least,sh_tomeref25_least_j1,zaQ,mk_0,h5,rtn]
 by_cases h8:k=8
 ·simp[sh_tomeref25_least,sh_tomeref25_least_j1,zaQ,mk_0,h8,rtn]
 by_cases h7:k=7
 ·simp[sh_tomeref25_least,sh_tomeref25_least_j1,zaQ,mk_0,h7,rtn]
 by_cases h9:k=9
 ·cases d<;>simp[sh_tomeref25_least,sh_tomeref25_least_j1,zaQ,mk_0,mk_9,h9,rtn]
 ·simp[sh_tomeref25_least,sh_tomeref25_least_j1,zaQ,mk_0,h3,h4,h5,h6,h7,h8,h9,h12,rtn]
theorem zqx(l:List Ex.E)(hl:l.length≤900000)(hp:PrR l)(T:Ex.S)(hT:T.length≤100000000):∀(n i:Nat)(A:Ex.S),l.length≤i+n→i % 2=0→i≤l.length→A++Ex.zeQ (Ex.prints (l.drop i))++Ex.wEnd=T →
  lup Out (zcu pr.ev lup) [.str A,.list (l.map encE),.int .i64 (i:Int)]=some (.ret (.str T),[]):=by
 intro n;induction n using Nat.strongRecOn with
 |_ n ih=>
 intro i A hn hi hle hA;have hw1:=zbU (show i≤1000000 by omega);have hAl:A.length≤100000000:=by
  rw[←hA]at hT;simp only[qa21]at hT;omega
 by_cases h2:i+1<l.length
 ·have h0:i < l.length:=by omega
  have hx:=hp _ (qa36 h0);have hy:=hp _ (qa36 h2);have hd:l.drop i=l[i]::l[i+1]::l.drop (i+2):=by rw[qa10 h0,qa10 h2]
  rw[hd,Ex.prints,Ex.prints,Ex.zeQ]at hA;have hw2:IntKind.wrap .i64 ((i:Int)+2)=((i+2:Nat):Int):=by rw[zcd (by omega) (by omega)];simp
  have hTl:(A++(Ex.zgb++[32]++Ex.print l[i]++[32]++Ex.zjC++[32]++Ex.print l[i+1]++[32]++Ex.zeQ (Ex.prints (l.drop (i+2))))++Ex.wEnd).length≤100000000:=by rw[hA];exact hT
  simp only[qa21]at hTl;have hr:=ih (n-2) (by omega) (i+2) (A++(Ex.zgb++[32]++Ex.print l[i]++[32]++Ex.zjC++[32]++Ex.print l[i+1]++[32])) (by omega) (by omega) (by omega) (by rw[←hA];simp);rw[zan,←hr];generalize Ex.print l[i]=X at *;generalize Ex.print l[i+1]=Y at *;simp(disch:=first|omega|(simp only[qb1];omega)|rfl|fail) [-Int.natCast_add,zcu,h0,h2,hw1,hw2,zeg,zdb,zaa hx,zaa hy,add_s,Ex.zgb,Ex.zjC]
 ·by_cases h1:i<l.length
  ·have hil:l.length=i+1:=by omega
   have hd:l.drop i=[l[i]]:=by rw[qa10 h1,List.drop_of_length_le (by omega)]
   have hx:=hp _ (qa36 h1);rw[hd,Ex.prints,Ex.prints,Ex.zeQ]at hA;have hTl:(A++(Ex.zkW++[32]++Ex.print l[i]++[32])++Ex.wEnd).length≤100000000:=by rw[hA];exact hT
   simp only[qa21]at hTl;have hm:Int.tmod ((i+1:Nat):Int) 2=1:=by rw[Int.tmod_eq_emod_of_nonneg (by omega)];omega
   have hs:IntKind.wrap .i64 (((i+1:Nat):Int)-1)=(i:Int):=by rw[zcd (by omega) (by omega)];omega
   rw[zan,←hA];generalize Ex.print l[i]=X at *;simp(disch:=first|omega|(simp only[qb1];omega)|rfl|fail) [-Int.natCast_add,zcu,zeA,zdq,hil,h1,hw1,hm,hs,zfR,zeg,zdb,zaa hx,add_s,rtn,Ex.zkW,Ex.wEnd]
  ·have hil:l.length=i:=by omega
   rw[List.drop_of_length_le (by omega),Ex.prints,Ex.zeQ,qa48]at hA;have hm:Int.tmod (i:Int) 2=0:=by rw[Int.tmod_eq_emod_of_nonneg (by omega)];omega
   have hgt:¬((i+1:Nat):Int)<(i:Int):=by omega
   have hge:((i:Nat):Int)≤((i+1:Nat):Int):=by omega
   rw[zan,←hA];simp(disch:=first|omega|(simp only[qb1];omega)|rfl|fail) [-Int.natCast_add,zcu,zeA,zdq,hil,hw1,hm,hgt,hge,zfR,add_s,rtn,Ex.wEnd]
set_option maxHeartbeats 4000000 in
theorem zxY:∀(n:Nat)(e:Ex.E),Ex.deep e≤n→Ex.count e≤400000→Ex.right e=true→Qt e→(Ex.print e).length≤100000000→pr.ev 24 [encE e] []=some (.ret (.str (Ex.print e)),[])
 |0,.mk k o v t nm s g d a,h,_,_,_,_=>by rw[zgD]at h;omega
 |n+1,.mk k o v t nm s g d a,h,hc,hR,hQ,hl=>by
  rw[zgD]at h;rw[zl3]at hc;rw[Ex.right,qa32,Ex.zke,qa33]at hR;obtain⟨hO,hR⟩:=hR;have hS:shape k d a.length:=zsO hO;have hal:=zha a;have ih:∀x∈a,(Ex.print x).length≤100000000→pr.ev 24 [encE x] []=some (.ret (.str (Ex.print x)),[]):=fun x hx hl=>zxY n x (by have:=zgn hx;omega) (by have:=zg9 hx;omega) (hR x hx) (hQ.a x hx) hl;have hv:=hQ.v;have hn:=hQ.n;simp only[Ex.N64,Ex.E.val]at hn hv;clear hR hQ h hO;have hle:=r_least k o v t nm s g d a;refine pr.of rfl (by simp only[List.map,(zbe _).rd];rfl) rfl (zmr _ _ _ _) ?_;rcases hS with rfl|rfl|⟨rfl,ha⟩|⟨rfl,ha⟩|⟨rfl,ha⟩|⟨rfl,ha⟩|⟨rfl,ha⟩|⟨rfl,ha⟩|⟨rfl,ha⟩|⟨rfl,hd⟩|⟨rfl,ha⟩|⟨rfl,ha⟩|⟨rfl,ha⟩;all_goals simp only[zyU]at hle
  ·have hpr:Ex.print (.mk 1 o v t nm s g d a)=Ex.valP v:=by rw [Ex.print];rfl
   rw[hpr]at hl ⊢;have h0:¬(a.length:Int)<0:=by omega
   simp at hle;simp[-Int.natCast_add,zai,mk_0,mk_2,mk_3,mk_4,zef,zaa hle,h0,zaa (r_Quote hn.2 hn.1 hv),rtn]
  ·have hpr:Ex.print (.mk 2 o v t nm s g d a)=if t=[] then nm else t++[46]++nm:=by rw [Ex.print];rfl
   rw[hpr]at hl ⊢;have h0:¬(a.length:Int)<0:=by omega
   simp at hle;by_cases ht:t=[]
   ·subst ht;simp[-Int.natCast_add,zai,mk_0,mk_5,mk_6,zef,zaa hle,h0,rtn]
   ·rw[if_neg ht]at hl ⊢;simp only[qb1]at hl;simp(disch:=first|omega|(simp only[qb1];omega)|rfl|fail) [-Int.natCast_add,zai,mk_0,mk_5,mk_6,zef,zaa hle,h0,ht,add_s,rtn]
  ·obtain⟨x,rfl⟩:=List.length_eq_one_iff.1 ha;have hpr:Ex.print (.mk 3 o v t nm s g d [x])=if o=Ex.wNot then Ex.wNot++[32]++Ex.innU (kO x)else o++Ex.innU (kO x):=by rw[Ex.print];rfl
   rw[hpr]at hl ⊢;have hl2:(Ex.innU (kO x)).length+o.length≤100000000:=by
    by_cases ho:o=Ex.wNot
    ·rw[if_pos ho]at hl;rw[ho];simp only[qb1]at hl ⊢;omega
    ·rw[if_neg ho]at hl;simp only[qb1]at hl;omega
   clear hl;have hga:=zy3 (kO x);dsimp only at hga;have Ia:=zhv (x:=x) (by omega) (ih x (by simp) (by omega));have hin:Ex.innU (kO x)=if x.kind=1∧x.val.1=1 then 40::(Ex.inn (kO x)++[41])else Ex.inn (kO x):=by
    unfold Ex.innU Ex.inn Ex.zkT kO;by_cases k1:x.kind=1
    ·simp[k1]
    ·simp[k1]
   simp at hle;have el0:elV 11 (.list ([x].map encE)) (.int .i64 0)=some (encE x):=by have:=zeg [x] 0 .i64;simpa using this
   simp only[qb3]at el0;rw[hin]at hl2 ⊢;simp only[Ex.wNot];by_cases k1:x.kind=1∧x.val.1=1
   ·rw[if_pos k1]at hl2 ⊢;obtain⟨k1,k2⟩:=k1;simp only[qa30,qa21,qa40]at hl2;generalize Ex.inn (kO x)=T at *;by_cases ho:o=[110,111,116]
    ·subst ho;simp(disch:=first|omega|(simp only[qb1];omega)|rfl|fail) [-Int.natCast_add,zai,mk_0,mk_1,mk_8,mk_9,zef,zaa hle,zdb,add_s,rtn,zaY,zaZ,el0,zqr,zqq,k1,k2,zaa Ia]
    ·simp(disch:=first|omega|(simp only[qb1];omega)|rfl|fail) [-Int.natCast_add,zai,mk_0,mk_1,mk_8,mk_9,zef,zaa hle,zdb,add_s,rtn,zaY,zaZ,el0,zqr,zqq,k1,k2,ho,zaa Ia]
   ·rw[if_neg k1]at hl2 ⊢;generalize Ex.inn (kO x)=T at *;by_cases k2:x.kind=1
    ·have k3:¬x.val.1=1:=fun h=>k1 ⟨k2,h⟩;by_cases ho:o=[110,111,116]
     ·subst ho;simp(disch:=first|omega|(simp only[qb1];omega)|rfl|fail) [-Int.natCast_add,zai,mk_0,mk_1,mk_8,mk_9,zef,zaa hle,zdb,add_s,rtn,zaY,zaZ,el0,zqr,zqq,k2,k3,zaa Ia]
     ·simp(disch:=first|omega|(simp only[qb1];omega)|rfl|fail) [-Int.natCast_add,zai,mk_0,mk_1,mk_8,mk_9,zef,zaa hle,zdb,add_s,rtn,zaY,zaZ,el0,zqr,zqq,k2,k3,ho,zaa Ia]
    ·by_cases ho:o=[110,111,116]
     ·subst ho;simp(disch:=first|omega|(simp only[qb1];omega)|rfl|fail) [-Int.natCast_add,zai,mk_0,mk_1,mk_8,mk_9,zef,zaa hle,zdb,add_s,rtn,zaY,zaZ,el0,zqr,zqq,k2,zaa Ia]
     ·simp(disch:=first|omega|(simp only[qb1];omega)|rfl|fail) [-Int.natCast_add,zai,mk_0,mk_1,mk_8,mk_9,zef,zaa hle,zdb,add_s,rtn,zaY,zaZ,el0,zqr,zqq,k2,ho,zaa Ia]
  ·obtain⟨x,y,rfl⟩:=Ex.len2 ha;have hpr:Ex.print (.mk 4 o v t nm s g d [x,y])=Ex.inn (kO x)++[32]++o++[32]++Ex.inn (kO y):=by rw[Ex.print];rfl
   rw[hpr]at hl ⊢;simp only[qb1]at hl;simp at hle;have el0:elV 11 (.list ([x,y].map encE)) (.int .i64 0)=some (encE x):=by have:=zeg [x,y] 0 .i64;simpa using this
   have el1:elV 11 (.list ([x,y].map encE)) (.int .i64 1)=some (encE y):=by have:=zeg [x,y] 1 .i64;simpa using this
   simp only[qb3]at el0 el1;have hga:=zfn (kO x);have Ia:=zhv (x:=x) (by dsimp only at hga;omega) (ih x (by simp) (by dsimp only at hga;omega));have hgb:=zfn (kO y);have Ib:=zhv (x:=y) (by dsimp only at hgb;omega) (ih y (by simp) (by dsimp only at hgb;omega));generalize Ex.inn (kO x)=T at *;generalize Ex.inn (kO y)=U at *;simp(disch:=first|omega|(simp only[qb1];omega)|rfl|fail) [-Int.natCast_add,zai,mk_0,mk_1,mk_8,mk_9,zef,zaa hle,zdb,add_s,rtn,el0,el1,zaa Ia,zaa Ib]
  ·obtain⟨x,y,rfl⟩:=Ex.len2 ha;have hpr:Ex.print (.mk 5 o v t nm s g d [x,y])=Ex.inn (kO x)++[32]++Ex.wIs++[32]++(if g then Ex.wNot++[32]else[])++Ex.inn (kO y):=by rw[Ex.print];rfl
   rw[hpr]at hl ⊢;simp only[qb1]at hl;simp at hle;have el0:elV 11 (.list ([x,y].map encE)) (.int .i64 0)=some (encE x):=by have:=zeg [x,y] 0 .i64;simpa using this
   have el1:elV 11 (.list ([x,y].map encE)) (.int .i64 1)=some (encE y):=by have:=zeg [x,y] 1 .i64;simpa using this
   simp only[qb3]at el0 el1;have hga:=zfn (kO x);have Ia:=zhv (x:=x) (by dsimp only at hga;omega) (ih x (by simp) (by dsimp only at hga;omega));have hgb:=zfn (kO y);have Ib:=zhv (x:=y) (by dsimp only at hgb;omega) (ih y (by simp) (by dsimp only at hgb;omega));generalize Ex.inn (kO x)=T at *;generalize Ex.inn (kO y)=U at *;cases g<;>simp(disch:=first|omega|(simp only[qb1];omega)|rfl|fail) [-Int.natCast_add,zai,mk_0,mk_1,mk_8,mk_9,zef,zaa hle,zdb,add_s,rtn,el0,el1,zaa Ia,zaa Ib,Ex.wIs,Ex.wNot]
  ·obtain⟨x,r,rfl⟩:∃x r,a=x::r:=by
    cases a with
    |nil=>simp at ha
    |cons x r=>exact⟨x,r,rfl⟩
   have hpr:Ex.print (.mk 6 o v t nm s g d (x::r))=Ex.inn (kO x)++Ex.notW g [105,110]++[40]++Ex.commas (Ex.prints r)++[41]:=by rw[Ex.print];rfl
   rw[hpr]at hl ⊢;simp only[qb1]at hl;simp at hle;have el0:elV 11 (.list ((x::r).map encE)) (.int .i64 0)=some (encE x):=by have:=zeg (x::r) 0 .i64;simpa using this
   simp only[qb3]at el0;have hga:=zfn (kO x);have Ia:=zhv (x:=x) (by dsimp only at hga;omega) (ih x (by simp) (by dsimp only at hga;omega));have Fn:=r_not (g:=g) (w:=[105,110]) (by decide);have Fl:=zoE r (by simp at hal;omega) (fun z hz=>ih z (by simp[hz]) (by have:=zhc hz;omega)) (by omega);have sl:=zlB 11 encE (x::r) 1 (fun e=>zde e) (by simp);simp only[Int.natCast_one,qa52,List.drop_succ_cons,List.drop_zero]at sl;have h0:¬((r.length+1:Nat):Int)<1:=by omega
   generalize Ex.inn (kO x)=T at *;generalize Ex.notW g [105,110]=U at *;generalize Ex.commas (Ex.prints r)=W at *;simp(disch:=first|omega|(simp only[qb1];omega)|rfl|fail) [-Int.natCast_add,zai,mk_0,mk_1,mk_8,mk_9,zef,zaa hle,zdb,add_s,rtn,el0,h0,zaa Ia,zaa Fn,zaa Fl,sl]
  ·obtain⟨x,y,z,rfl⟩:=Ex.len3 ha;have hpr:Ex.print (.mk 7 o v t nm s g d [x,y,z])=Ex.inn (kO x)++Ex.notW g [98,101,116,119,101,101,110]++Ex.inn (kO y)++[32]++Ex.wAnd++[32]++Ex.inn (kO z):=by rw[Ex.print];rfl
   rw[hpr]at hl ⊢;simp only[qb1]at hl;simp at hle;have el0:elV 11 (.list ([x,y,z].map encE)) (.int .i64 0)=some (encE x):=by have:=zeg [x,y,z] 0 .i64;simpa using this
   have el1:elV 11 (.list ([x,y,z].map encE)) (.int .i64 1)=some (encE y):=by have:=zeg [x,y,z] 1 .i64;simpa using this
   have el2:elV 11 (.list ([x,y,z].map encE)) (.int .i64 2)=some (encE z):=by have:=zeg [x,y,z] 2 .i64;simpa using this
   simp only[qb3]at el0 el1 el2;have hga:=zfn (kO x);have Ia:=zhv (x:=x) (by dsimp only at hga;omega) (ih x (by simp) (by dsimp only at hga;omega));have hgb:=zfn (kO y);have Ib:=zhv (x:=y) (by dsimp only at hgb;omega) (ih y (by simp) (by dsimp only at hgb;omega));have hgc:=zfn (kO z);have Ic:=zhv (x:=z) (by dsimp only at hgc;omega) (ih z (by simp) (by dsimp only at hgc;omega));have Fn:=r_not (g:=g) (w:=[98,101,116,119,101,101,110]) (by decide);generalize Ex.inn (kO x)=T at *;generalize Ex.inn (kO y)=U at *;generalize Ex.inn (kO z)=W at *;generalize Ex.notW g [98,101,116,119,101,101,110]=X at *;simp(disch:=first|omega|(simp only[qb1];omega)|rfl|fail) [-Int.natCast_add,zai,mk_0,mk_1,mk_8,mk_9,zef,zaa hle,zdb,add_s,rtn,el0,el1,el2,zaa Ia,zaa Ib,zaa Ic,zaa Fn,Ex.wAnd]
  ·obtain⟨x,y,rfl⟩:=Ex.len2 ha;have hpr:Ex.print (.mk 8 o v t nm s g d [x,y])=Ex.inn (kO x)++Ex.notW g [108,105,107,101]++Ex.inn (kO y):=by rw[Ex.print];rfl
   rw[hpr]at hl ⊢;simp only[qb1]at hl;simp at hle;have el0:elV 11 (.list ([x,y].map encE)) (.int .i64 0)=some (encE x):=by have:=zeg [x,y] 0 .i64;simpa using this
   have el1:elV 11 (.list ([x,y].map encE)) (.int .i64 1)=some (encE y):=by have:=zeg [x,y] 1 .i64;simpa using this
   simp only[qb3]at el0 el1;have hga:=zfn (kO x);have Ia:=zhv (x:=x) (by dsimp only at hga;omega) (ih x (by simp) (by dsimp only at hga;omega));have hgb:=zfn (kO y);have Ib:=zhv (x:=y) (by dsimp only at hgb;omega) (ih y (by simp) (by dsimp only at hgb;omega));have Fn:=r_not (g:=g) (w:=[108,105,107,101]) (by decide);generalize Ex.inn (kO x)=T at *;generalize Ex.inn (kO y)=U at *;generalize Ex.notW g [108,105,107,101]=X at *;simp(disch:=first|omega|(simp only[qb1];omega)|rfl|fail) [-Int.natCast_add,zai,mk_0,mk_1,mk_8,mk_9,zef,zaa hle,zdb,add_s,rtn,el0,el1,zaa Ia,zaa Ib,zaa Fn]
  ·have hpr:Ex.print (.mk 9 o v t nm s g d a)=Ex.zj5 d (Ex.prints a):=by rw [Ex.print];rfl
   rw[hpr]at hl ⊢;have hp:PrR a:=fun x hx=>ih x hx (by have:=zrO (d:=d) hx;omega);cases d with
   |false=>
    simp at hle;have h0:¬(a.length:Int)<0:=by omega
    have F:=zqx a (by omega) hp _ hl a.length 0 (Ex.wCase++[32]) (by omega) rfl (by omega) (by rw[Ex.zj5];simp);simp only[Ex.wCase,qa34,qb2]at F;simp(disch:=first|omega|(simp only[qb1];omega)|rfl|fail) [-Int.natCast_add,zai,zdr,mk_0,mk_9,zef,zaa hle,h0];exact F
   |true=>
    simp at hle;obtain⟨x,r,rfl⟩:∃x r,a=x::r:=by
     cases a with
     |nil=>simp at ha
     |cons x r=>exact⟨x,r,rfl⟩
    have h0:¬((r.length+1:Nat):Int)<1:=by omega
    have hx:=hp x (by simp);have hcx:=zrO (d:=true) (l:=x::r) (x:=x) (by simp);have sl:=zlB 11 encE (x::r) 1 (fun e=>zde e) (by simp);simp only[Int.natCast_one,qa52,List.drop_succ_cons,List.drop_zero]at sl;have el0:elV 11 (.list ((x::r).map encE)) (.int .i64 0)=some (encE x):=by have:=zeg (x::r) 0 .i64;simpa using this
    simp only[qa52]at el0;have F:=zqx r (by simp at hal;omega) (fun z hz=>hp z (by simp[hz])) _ hl r.length 0 (Ex.wCase++[32]++Ex.print x++[32]) (by omega) rfl (by omega) (by rw[Ex.zj5,Ex.prints];simp[Ex.kid]);simp only[Ex.wCase,qa34,qb2,qa28]at F;generalize Ex.zj5 true (Ex.prints (x::r))=Z at *;generalize Ex.print x=X at *;simp(disch:=first|omega|(simp only[qb1];omega)|rfl|fail) [-Int.natCast_add,zai,zdr,mk_0,mk_9,zef,zaa hle,h0,el0,zdb,zaa hx,add_s,sl];exact F
  ·have hpr:Ex.print (.mk 10 o v t nm s g d a)=o++[40]++Ex.commas (Ex.prints a)++[41]:=by rw [Ex.print,Ex.pr];subst hd;simp [Ex.E.kind,Ex.E.dist,Ex.E.op]
   subst hd;rw[hpr]at hl ⊢;simp only[qb1]at hl;simp at hle;have h0:¬(a.length:Int)<0:=by omega
   have Fl:=zoE a (by omega) (fun z hz=>ih z hz (by have:=zhc hz;omega)) (by omega);generalize Ex.commas (Ex.prints a)=W at *;simp(disch:=first|omega|(simp only[qb1];omega)|rfl|fail) [-Int.natCast_add,zai,mk_0,mk_1,mk_8,mk_9,zef,zaa hle,zdb,add_s,rtn,zcv,h0,zaa Fl]
  ·obtain⟨x,rfl⟩:=List.length_eq_one_iff.1 ha;have hpr:Ex.print (.mk 11 o v t nm s g d [x])=if d then o++[40]++Ex.zav++[32]++Ex.print x++[41]else o++[40]++Ex.print x++[41]:=by rw[Ex.print,Ex.prints,Ex.prints,Ex.pr];cases d<;>simp[Ex.E.kind,Ex.E.dist,Ex.E.op,Ex.commas]
   rw[hpr]at hl ⊢;have hl2:(Ex.print x).length+o.length≤100000000:=by
    cases d<;>simp at hl<;>omega
   have hc1:Ex.commas (Ex.prints [x])=Ex.print x:=by rw[Ex.prints,Ex.prints,Ex.commas]
   have Fl:=zoE [x] (by simp) (fun z hz=>ih z hz (by obtain rfl:=qa22.1 hz;omega)) (by rw[hc1];omega);rw[hc1]at Fl;simp only[qb3]at Fl;simp at hle;clear hl hc1;generalize Ex.print x=X at *;cases d<;>simp(disch:=first|omega|(simp only[qb1];omega)|rfl|fail) [-Int.natCast_add,zai,mk_0,mk_1,mk_8,mk_9,zef,zaa hle,zdb,add_s,rtn,zcv,zaa Fl,Ex.zav]
  ·obtain rfl:a=[]:=qa6 (by first | exact ha | exact ha.1);have hpr:Ex.print (.mk 11 o v t nm s g d [])=o++[40,42,41]:=by rw[Ex.print,Ex.prints,Ex.pr];simp[Ex.E.kind,Ex.E.op]
   rw[hpr]at hl ⊢;simp only[qb1]at hl;simp at hle;simp(disch:=first|omega|(simp only[qb1];omega)|rfl|fail) [-Int.natCast_add,zai,mk_0,mk_1,mk_8,mk_9,zef,zaa hle,zdb,add_s,rtn,zcv]
  ·obtain⟨x,rfl⟩:=List.length_eq_one_iff.1 ha;have hpr:Ex.print (.mk 12 o v t nm s g d [x])=Ex.zly++[40]++Ex.print x++[32]++Ex.wAs++[32]++o++[41]:=by rw[Ex.print,Ex.prints,Ex.prints,Ex.pr];simp[Ex.E.kind,Ex.E.op,Ex.kid]
   rw[hpr]at hl ⊢;simp only[qb1]at hl;simp at hle;have el0:elV 11 (.list ([x].map encE)) (.int .i64 0)=some (encE x):=by have:=zeg [x] 0 .i64;simpa using this
   simp only[qb3]at el0;have Ip:=ih x (by simp) (by omega);generalize Ex.print x=T at *;simp(disch:=first|omega|(simp only[qb1];omega)|rfl|fail) [-Int.natCast_add,zai,mk_0,mk_1,mk_8,mk_9,zef,zaa hle,zdb,add_s,rtn,el0,zaa Ip,Ex.zly,Ex.wAs]
end
section
open Go.RowKit
open Vm
variable[Gl]
def PY(e:Ex.E):Prop:=pr.ev 24 [encE e] []=some (.ret (.str (Ex.print e)),[])
def PM(l:List Ex.E):Prop:=l.length≤900000∧∀x∈l,PY x
theorem sh_py{e:Ex.E}(h:Qy.RX e)(hl:Sh (Ex.print e)):PY e:=zxY (Ex.deep e) e (qa57 _) (by have:=h.2.2;omega) h.1.right (rt_qt h.1) hl
def jn{α:Type}(tx:α→List UInt8)(l:List α)(i:Nat):List UInt8:=Qy.sepS ((l.take i).map tx)
theorem zsg(a:List UInt8):∀l:List (List UInt8),l≠[]→Qy.sepS (l++[a])=Qy.sepS l++[44,32]++a
 |[],h=>absurd rfl h
 |[b],_=>by simp[Qy.sepS]
 |b::c::r,_=>by
  have:=zsg a (c::r) (by simp);show Qy.sepS (b::c::(r++[a]))=_;rw[Qy.sepS,show c::(r++[a])=(c::r)++[a]from rfl,this,Qy.sepS];simp only[qa28]
section
variable{α:Type}(tx:α→List UInt8)(l:List α)
theorem jn_0:jn tx l 0=[]:=rfl
theorem jn_s(i:Nat)(h:i<l.length):jn tx l (i+1)=jn tx l i++(if i=0 then[]else[44,32])++tx l[i]:=by
 unfold jn;rw[List.take_add_one,qa11 h];show Qy.sepS ((l.take i++[l[i]]).map tx)=_;rw[qa43,List.map_singleton];by_cases hi:i=0
 ·subst hi;simp[Qy.sepS]
 ·rw[if_neg hi,zsg];intro e;have:((l.take i).map tx).length=0:=by rw[e];rfl
  rw[qa44,qa38]at this;omega
theorem jn_le:∀(d i:Nat),i+d=l.length→Sh (jn tx l l.length)→Sh (jn tx l i)
 |0,i,hi,h=>by rw[show i=l.length by omega];exact h
 |d+1,i,hi,h=>by
  have:=jn_le d (i+1) (by omega) h;rw[jn_s tx l i (by omega)]at this;exact sh_l (sh_l this)
theorem zvC:jn tx l l.length=Qy.sepS (l.map tx):=by unfold jn;rw[List.take_length]
end
theorem zhu{l:List Ex.E}(hp:PM l)(h:Sh (Qy.sepS (l.map Ex.print))):pr.ev 25 [.list (l.map encE)] []=some (.ret (.str (Qy.sepS (l.map Ex.print))),[]):=by
 refine pr.of rfl rfl rfl (zk1 _ _ _ _) ?_;rw[←zvC]at h ⊢;have hl:=hp.1;have key:∀(n i:Nat),i+n=l.length→lup Out (zbV pr.ev lup) [.list (l.map encE),.str (jn Ex.print l i),.int .i64 (i:Int)]=some (.ret (.str (jn Ex.print l l.length)),[]):=by
  intro n;induction n with
  |zero=>
   intro i hi;obtain rfl:i=l.length:=by omega
   rw[zan];simp[-Int.natCast_add,zbV,rtn]
  |succ n ih=>
   intro i hi;have h1:i<l.length:=by omega
   have ih:=ih (i+1) (by omega);have hs:=jn_le Ex.print l n (i+1) (by omega) h;rw[jn_s _ l i h1]at hs ih;have hx:=hp.2 _ (qa36 h1);have hel:=ziZ zmO l i h1;have hw:=zbU (p:=i) (by omega);have a1:=zbT hs;have a0:=zbT (sh_l hs);unfold PY at hx;generalize l[i]=x at *;rw[zan];by_cases hi0:i=0
   ·subst hi0;simp only[qa60,qa48,jn_0,qa41,qa34]at *;simp[-Int.natCast_add,zbV,zcZ,h1,hel,zdb,zaa hx,a1,show IntKind.wrap .i64 1=1 from rfl];simpa using ih
   ·have hi2:0 < i:=by omega
    simp only[hi0,qa59]at a1 a0 ih;simp[-Int.natCast_add, -List.append_assoc,zbV,zcZ,h1,hel,zdb,zaa hx,a1,a0,hi2,hw,ih]
 have h0:=key l.length 0 (by omega);simpa[zgI,jn_0]using h0
theorem r_pitem{x:Qy.Item}(hp:x.star=false→PY x.e)(h:Sh (Qy.itemP x)):pr.ev 45 [itC x] []=some (.ret (.str (Qy.itemP x)),[]):=by
 refine pr.of rfl rfl rfl (zjL _ _ _ _) ?_;obtain⟨c11,c12,c13⟩:=zy1 x;unfold Qy.itemP at h ⊢;cases hs:x.star
 ·rw[hs]at h c12;simp only[qb0]at h ⊢;have hx:=hp hs;unfold PY at hx;by_cases hn:x.name=[]
  ·simp[zb6,za4,zkU,zy0,c11,c12,c13,hn,zaa hx,rtn]
  ·rw[if_neg hn]at h ⊢;have a1:=zbT (sh_l h);have a2:=zbT h;simp only[qa28,qb2]at a1 a2;simp[zb6,za4,zkU,zy0,c11,c12,c13,hn,zaa hx,rtn,a1,a2]
 ·rw[hs]at h c12;simp only[qa60]at h ⊢;by_cases hn:x.table=[]
  ·simp[zb6,za4,zkU,c11,c12,c13,hn,rtn]
  ·rw[if_neg hn]at h ⊢;have a1:=zbT h;simp[zb6,za4,zkU,c11,c12,c13,hn,rtn,a1]
def tabR(b:Bool)(f:Qy.From):List UInt8:=if b then f.table++Qy.asP f else if f.join=1 then[32,106,111,105,110,32]++(f.table++Qy.asP f)++[32,111,110,32]++Qy.sepS (f.on.map Ex.print)else if f.join=2 then[32,108,101,102,116,32,106,111,105,110,32]++(f.table++Qy.asP f)++[32,111,110,32]++Qy.sepS (f.on.map Ex.print)else[44,32]++(f.table++Qy.asP f)
theorem tabR_p{b:Bool}{f:Qy.From}(h:Qy.RF b f):Qy.fromP b f=(if b then[32,102,114,111,109,32]else[])++tabR b f:=by
 unfold Qy.fromP tabR Qy.joinP Qy.behind Qy.wOn;cases b
 ·by_cases h1:f.join=1
  ·obtain ⟨e,he,_⟩:=h.o (by omega);simp[h1,he]
  ·by_cases h2:f.join=2
   ·obtain ⟨e,he,_⟩:=h.o (by omega);simp[h2,he]
   ·have h0:f.join=0:=by rcases h.j with h | h | h<;>omega
    simp[h0]
 ·simp
theorem r_ptable{f:Qy.From}(b:Bool)(hp:PM f.on)(h:Sh (tabR b f)):pr.ev 46 [frC f,.bool b] []=some (.ret (.str (tabR b f)),[]):=by
 refine pr.of rfl rfl rfl (zjr _ _ _ _ _) ?_;obtain⟨f0,f1,f2,f3⟩:=fr_1 f;have hnm:Sh (f.table++Qy.asP f):=by
  unfold tabR at h;cases b
  ·simp only[qb0]at h;split at h
   ·exact sh_r (sh_l (sh_l h))
   ·split at h
    ·exact sh_r (sh_l (sh_l h))
    ·exact sh_r h
  ·exact h
 have j1:zaO pr.ev lup (.bool b) (.str (f.table++Qy.asP f)) (frC f)=some (.ret (.str (tabR b f)),[]):=by
  unfold tabR at h ⊢;generalize f.table++Qy.asP f=s at *;cases b
  ·simp only[qb0]at h ⊢;by_cases h1:f.join=1
   ·rw[if_pos h1]at h ⊢;have hpr:=zhu hp (sh_r h);have a1:=zbT (sh_l (sh_l h));have a2:=zbT (sh_l h);have a3:=zbT h;simp only[qa28,qb2]at a1 a2 a3;simp[zaO,f2,f3,h1,zaa hpr,a1,a2,a3,rtn]
   ·rw[if_neg h1]at h ⊢;by_cases h2:f.join=2
    ·rw[if_pos h2]at h ⊢;have hpr:=zhu hp (sh_r h);have a1:=zbT (sh_l (sh_l h));have a2:=zbT (sh_l h);have a3:=zbT h;simp only[qa28,qb2]at a1 a2 a3;simp[zaO,f2,f3,h2,zaa hpr,a1,a2,a3,rtn]
    ·rw[if_neg h2]at h ⊢;have a1:=zbT h;simp only[qa28,qb2]at a1;simp[zaO,f2,h1,h2,a1,rtn]
  ·simp[zaO,rtn]
 unfold Qy.asP at j1 hnm;by_cases ha:f.as_=f.table
 ·simp only[if_pos ha,qa48]at j1;simp[zd5,zbr.ck,f0,f1,ha,j1]
 ·simp only[if_neg ha]at j1 hnm;have a1:=zbT (sh_r hnm);have a2:=zbT hnm;simp only[qa28,qb2]at a1 a2 j1;simp[zd5,zbr.ck,f0,f1,ha,a1,a2,j1]
end
end Go.Proofs.YtlooegbcfkoloaaGreatDoor
end
