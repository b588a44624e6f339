/- tomelaw26.QueryBack returns true at every text: the query that is read of a text is printed, and read again to the same one, and printed to the same text; where a text is wrong lies in it, or at its end. Condition: the two laid tables of the library of Go, tied to the program by the given ties. -/
import Derived.Test.YtlooegbcfkoloaaGreatDoorP21
import Derived.Test.YtlooegbcfkoloaaGreatDoorP23
import Derived.Test.YtlooegbcfkoloaaGreatDoorP24
set_option maxRecDepth 20000
set_option linter.unusedVariables false
set_option linter.unusedSimpArgs false
set_option linter.unusedSectionVars false
namespace Go.Proofs.YtlooegbcfkoloaaGreatDoor
open Go.RowKit
open Vm
variable [Gl]
theorem zh1 (k:Int) (o:Ex.S) (v:Ex.V) (t n:Ex.S) (s:Int) (g d:Bool) (a:List Ex.E):Ex.deep (.mk k o v t n s g d a)=Ex.deeps a+1:=by rw [Ex.deep]
theorem znn (k:Int) (o:Ex.S) (v:Ex.V) (t n:Ex.S) (s:Int) (g d:Bool) (a:List Ex.E):Ex.count (.mk k o v t n s g d a)=Ex.counts a+1:=by rw [Ex.count]
theorem zgG:∀ {l:List Ex.E} {x:Ex.E},x∈l→Ex.deep x≤Ex.deeps l
 | a :: l,x,h=>by
  rw [Ex.deeps]
  rcases List.mem_cons.1 h with rfl | h
  ·omega
  ·have:=zgG h;omega
theorem zuL (e:Ex.E):1≤Ex.count e:=by cases e;rw [Ex.count];omega
theorem zgZ:∀ {l:List Ex.E} {x:Ex.E},x∈l→Ex.count x≤Ex.counts l
 | a :: l,x,h=>by
  rw [Ex.counts]
  rcases List.mem_cons.1 h with rfl | h
  ·omega
  ·have:=zgZ h;omega
theorem zg0:∀ l:List Ex.E,l.length≤Ex.counts l
 | []=>Nat.le_refl _
 | a :: l=>by
  have:=zg0 l
  have:=zuL a
  rw [Ex.counts,List.length_cons];omega
mutual
theorem zr2:∀ e,Ex.deep e≤Ex.count e
 | .mk _ _ _ _ _ _ _ _ a=>by
  rw [Ex.deep,Ex.count]
  have:=zgH a
  omega
theorem zgH:∀ l,Ex.deeps l≤Ex.counts l
 | []=>Nat.le_refl _
 | e :: r=>by
  rw [Ex.deeps,Ex.counts]
  have:=zr2 e
  have:=zgH r
  omega
end
theorem zk3 (l:List Ex.E) (i:Nat) (k:IntKind):elV 11 (.list (l.map encE)) (.int k (i:Int))=(l[i]?).map encE:=zl9 11 encE l k i fun e=>zdO e
theorem zjt (e:Ex.E):ldV true 11 (encE e) 0=some (encE e):=by
 have h:=zdO e
 cases e
 rw [enc_mk] at h ⊢
 unfold ldV
 rw [if_pos ⟨rfl,rfl,h⟩]
def parV (p:Nat) (r:Ex.R):Vm.V:=match r with
 | .ok [e] q=>if Ex.deep e≤24 then .tup [encE e,.int .i64 (q:Int),.int .i64 0] else .tup [encE Ex.e0,.int .i64 (p:Int),.int .i64 12]
 | .ok _ _=>.undef
 | .stop q=>.tup [encE Ex.e0,.int .i64 (q:Int),.int .i64 20]
theorem oeq_w {v:Vm.V} (h:wf v=true):oeq (.ret v,[]) (.ret v,[])=true:=by simp [oeq,eeqs,zeV h]
section
variable {s:List UInt8} {l:List Lx.TA} {a:Nat}
theorem zsG:∀ {l:List Lx.T} {t:Lx.T},t∈l→t.text.length≤(l.map fun t=>t.text.length).sum
 | u :: l,t,h=>by
  rw [List.map_cons,List.sum_cons]
  rcases List.mem_cons.1 h with rfl | h
  ·omega
  ·have:=zsG h;omega
theorem scan_L (h:Lx.scan s=(l,a,0)):l.length≤4097:=(Ex.zif h).2.2.2.2.2
theorem scan_G (hs:s.length≤1000000) (h:Lx.scan s=(l,a,0)):Good l:=fun i t ht=>by
 obtain ⟨g1,g2,g3,g4,g5,g6⟩:=Ex.zif h
 have hm:t.1∈l.map (·.1):=List.mem_map.2 ⟨t,List.mem_of_getElem? ht,rfl⟩
 have hg:=g3 _ hm
 have:=zsG hm
 exact ⟨by omega,hg.lo,hg.hi⟩
theorem zrF {t:Lx.TA} {n i:Nat} (h:l[i]?=some t):Ex.zlk l n i=t.2:=by unfold Ex.zlk;rw [h]
theorem zrG {n i:Nat} (h:l[i]?=none):Ex.zlk l n i=n:=by unfold Ex.zlk;rw [h]
end
end Go.Proofs.YtlooegbcfkoloaaGreatDoor
namespace Go.Proofs.YtlooegbcfkoloaaGreatDoor
open Go.RowKit
open Vm
variable [Gl]
theorem zmb (a:List Ex.E) (ha:a.length≤900000) (hd:∀ x∈a,Ex.deep x≤900000) (h:∀ x∈a,pr.ev 149 [encE x] []=some (.ret (.int .i64 (Ex.deep x:Nat)),[])):∀ (n i m:Nat),i+n=a.length→m≤900000 →
  lup Out (zdo pr.ev lup) [.int .i64 (m:Nat),.list (a.map encE),.int .i64 (a.length:Nat),.int .i64 (i:Nat)]=some (.ret (.int .i64 ((max m (Ex.deeps (a.drop i))+1:Nat):Int)),[])
 | 0,i,m,hi,hm=>by
  have h1:¬ i < a.length:=by omega
  have h2:a.drop i=[]:=List.drop_of_length_le (by omega)
  rw [zaF]
  simp [-Int.natCast_add,zdo,zgo,h1,h2,Ex.deeps,rtn,zcs (show m≤1000000 by omega)]
 | n+1,i,m,hi,hm=>by
  have h1:i < a.length:=by omega
  have h2:a.drop i=a[i] :: a.drop (i+1):=List.drop_eq_getElem_cons h1
  have hmem:a[i]∈a:=List.getElem_mem h1
  have hdi:=hd _ hmem
  have ih:=zmb a ha hd h n (i+1) (max m (Ex.deep a[i])) (by omega) (by omega)
  have hmx:max (m:Int) (Ex.deep a[i]:Int)=((max m (Ex.deep a[i]):Nat):Int):=by omega
  rw [zaF,h2,Ex.deeps,← Nat.max_assoc,← ih]
  simp [-Int.natCast_add,zdo,h1,zk3,zjt,zac (h _ hmem),zcs (show i≤1000000 by omega),hmx]
theorem m_Deep:∀ (n:Nat) (e:Ex.E),Ex.deep e≤n→Ex.count e≤900000→pr.ev 149 [encE e] []=some (.ret (.int .i64 (Ex.deep e:Nat)),[])
 | 0,.mk k o v t nm s g d a,h,_=>by rw [zh1] at h;omega
 | n+1,.mk k o v t nm s g d a,h,hc=>by
  rw [zh1] at h
  rw [znn] at hc
  have hal:=zg0 a
  have hdc:=zgH a
  have ih:∀ x∈a,pr.ev 149 [encE x] []=some (.ret (.int .i64 (Ex.deep x:Nat)),[]):=fun x hx=>m_Deep n x (by have:=zgG hx;omega) (by have:=zgZ hx;omega)
  have hl:=zmb a (by omega) (fun x hx=>by have:=zgG hx;omega) ih a.length 0 0 (by omega) (by omega)
  have e10:cell (encE (.mk k o v t nm s g d a)) 10=.list (a.map encE):=by rw [enc_mk];rfl
  refine pr.of rfl (by simp only [List.map,(zd6 _).rd];rfl) rfl (zo8 _ _ _ _) ?_
  rw [zh1]
  simpa [-Int.natCast_add,zjq,e10] using hl
end Go.Proofs.YtlooegbcfkoloaaGreatDoor
namespace Go.Proofs.YtlooegbcfkoloaaGreatDoor
open Go.RowKit
open Vm
variable [Gl]
theorem zq8 (c:Orc) (a b k d e f g h i j l m n:Vm.V):zbp c .niface a b k d e f g h i j l m n=some [.blk 46 [a,b,k,d,e,f,g,h,i,j,l],.blk 3 [m],.blk 29 [n]]:=by kernel_rfl
theorem clo_stop (c:Orc) (q:Nat) (a b k d e f g h i j l m n:Vm.V):zbp c (stopV q) a b k d e f g h i j l m n=some [.blk 46 [.int .i64 0,.str [],.int .i64 0,.int .i64 0,.str [],.str [],.str [],.int .i64 0,.bool false,.bool false,.nils],.blk 3 [.int .i64 q],.blk 29 [.int .i64 20]]:=by
 have h:eeqs [.blk 46 [.int .i64 0,.str [],.int .i64 0,.int .i64 0,.str [],.str [],.str [],.int .i64 0,.bool false,.bool false,.nils],.blk 3 [.int .i64 q],.blk 29 [.int .i64 20]] [.blk 46 [.int .i64 0,.str [],.int .i64 0,.int .i64 0,.str [],.str [],.str [],.int .i64 0,.bool false,.bool false,.nils],.blk 3 [.int .i64 q],.blk 29 [.int .i64 20]]=true:=by simp [eeqs,eeq,veqs,veq]
 simp [zbp,stopV,gW,tasW,tasV,wf,wfs,ag,ckA_agg,zhm,h]
section
variable {L:List Lx.TA}
theorem ztV (hL:L.length≤999999) (hT:Good L) {p m:Nat} {r:Ex.R} (hp:p≤L.length) (hr:Ex.run (L.map (·.1)) m (.lev 0) p=some r) (hc:∀ e q,r=.ok [e] q→Ex.count e≤900000) :
  pr.ev 132 [.list (L.map tokM),.int .i64 (p:Int)] []=some (.ret (parV p r),[]):=by
 refine pr.ofN rfl ?_
 show evFD Tryz.prog _ pr.ev [10,11,12] [(4,0),(5,1),(6,2)] 132 [.d (.list (L.map tokM)),.d (.int .i64 p)]=_
 rw [znZ]
 have h1:¬ ((p:Int) < 0):=by omega
 have h2:¬ (L.length < p):=by omega
 rcases prog_expr hL hT hp hr with ⟨e,q,rfl,h3,h4,h5⟩ | ⟨q,rfl,h4,h5⟩
 ·have hd:=m_Deep (Ex.deep e) e (Nat.le_refl _) (hc e q rfl)
  have hw:wfs (((fun e=>encE e) <$> ([]:List Ex.E)))=true:=rfl
  have hwe:=zhx e
  by_cases hde:Ex.deep e≤24
  ·have h24:¬ ((24:Int) < (Ex.deep e:Int)):=by omega
   cases e with
   | mk k o v t nm s g d a =>
    rw [enc_mk] at h5 hd hwe
    have hwl:wfs (a.map encE)=true:=by simpa [wf,wfs] using hwe
    have hq:oeq (.ret (.tup [encE (.mk k o v t nm s g d a),.int .i64 q,.int .i64 0]),[]) (.ret (.tup [encE (.mk k o v t nm s g d a),.int .i64 q,.int .i64 0]),[])=true:=oeq_w (by simp [wf,wfs,zhx])
    rw [enc_mk] at hq
    simp [-Int.natCast_add,zel,zcj,h1,h2,ckA_agg,k_r h5,zac hd,zq8,zuI,zr7,wfs,wf,parV,rtn,hde,h24,hwl,ag,zhm,hq]
    rw [enc_mk]
  ·have h24:((24:Int) < (Ex.deep e:Int)):=by omega
   cases e with
   | mk k o v t nm s g d a =>
    rw [enc_mk] at h5 hd hwe
    have hwl:wfs (a.map encE)=true:=by simpa [wf,wfs] using hwe
    simp [-Int.natCast_add,zel,zcj,h1,h2,ckA_agg,k_r h5,zac hd,zq8,zuI,zr7,wfs,wf,parV,rtn,hde,h24,hwl,e0_v]
 ·simp [-Int.natCast_add,zel,zcj,h1,h2,ckA_agg,k_p h5,clo_stop,zuI,zr7,wfs,wf,parV,rtn,e0_v]
end
end Go.Proofs.YtlooegbcfkoloaaGreatDoor
namespace Qy
open Lx Ex
inductive Rs (α:Type) where
 | ok (a:α) (q:Nat)
 | stop (q:Nat) (e:Int)
def Rs.bind {α β:Type} (r:Rs α) (f:α→Nat→Rs β):Rs β:=match r with | .ok a q=>f a q | .stop q e=>.stop q e
@[simp] theorem bind_ok {α β:Type} (a:α) (q:Nat) (f:α→Nat→Rs β):(Rs.ok a q).bind f=f a q:=rfl
@[simp] theorem bind_stop {α β:Type} (q:Nat) (e:Int) (f:α→Nat→Rs β):(Rs.stop q e:Rs α).bind f=.stop q e:=rfl
abbrev Rd (α:Type):=Nat→Rs α
structure Item where
 e:E
 name:S
 star:Bool
 table:S
structure From where
 table:S
 as_:S
 join:Int
 on:List E
structure Term where
 e:E
 coll:Int
 desc:Bool
structure Core where
 dist:Bool
 items:List Item
 from_:List From
 wher:List E
 having:List E
 group:List E
structure Sel where
 cores:List Core
 ops:List Int
 order:List Term
 lim:List E
 off:List E
def wFrom:S:=[102,114,111,109]
def wSelect:S:=[115,101,108,101,99,116]
def wCross:S:=[99,114,111,115,115]
def wInner:S:=[105,110,110,101,114]
def wLeft:S:=[108,101,102,116]
def wJoin:S:=[106,111,105,110]
def wOn:S:=[111,110]
def wWhere:S:=[119,104,101,114,101]
def wGroup:S:=[103,114,111,117,112]
def wBy:S:=[98,121]
def wHaving:S:=[104,97,118,105,110,103]
def wCollate:S:=[99,111,108,108,97,116,101]
def wAsc:S:=[97,115,99]
def wDesc:S:=[100,101,115,99]
def wBinary:S:=[98,105,110,97,114,121]
def wNocase:S:=[110,111,99,97,115,101]
def wUnion:S:=[117,110,105,111,110]
def wAll:S:=[97,108,108]
def wIntersect:S:=[105,110,116,101,114,115,101,99,116]
def wExcept:S:=[101,120,99,101,112,116]
def wOrder:S:=[111,114,100,101,114]
def wLimit:S:=[108,105,109,105,116]
def wOffset:S:=[111,102,102,115,101,116]
section
variable (L:List T) (ex:Rd E)
def must (s:S):Rd Unit:=fun p=>if isT L p 2 s then .ok () (p+1) else .stop p 20
def name:Rd S:=fun p=>match L[p]? with | some t=>if t.kind=1 then .ok t.text (p+1) else .stop p 20 | none=>.stop p 20
def txt (p:Nat):S:=match L[p]? with | some t=>t.text | none=>[]
def sev {α:Type} (one:Rd α):Nat→List α→Rd (List α)
 | 0,_,p=>.stop p 0
 | n+1,acc,p=>if isT L p 4 mComma then (one (p+1)).bind fun a q=>sev one n (acc++[a]) q else .ok acc p
def several {α:Type} (one:Rd α):Rd (List α):=fun p=>(one p).bind fun a q=>sev L one (L.length+1) [a] q
def maybe (s:S):Rd (List E):=fun p=>if isT L p 2 s then (ex (p+1)).bind fun e q=>.ok [e] q else .ok [] p
def item:Rd Item:=fun p =>
 if isT L p 4 zbG then .ok ⟨e0,[],true,[]⟩ (p+1)
 else if isK L p 1 && (isT L (p+1) 4 mDot && isT L (p+2) 4 zbG) then .ok ⟨e0,[],true,txt L p⟩ (p+3)
 else (ex p).bind fun e q=>if isT L q 2 wAs then (name L (q+1)).bind fun n r=>.ok ⟨e,n,false,[]⟩ r else .ok ⟨e,[],false,[]⟩ q
def table (many:Nat) (j:Int):Rd From:=fun p =>
 if decide (6≤many) && isK L p 1 then .stop p 3
 else (name L p).bind fun n q=>if isT L q 2 wAs then (name L (q+1)).bind fun m r=>.ok ⟨n,m,j,[]⟩ r else .ok ⟨n,n,j,[]⟩ q
def join:Rd (Option Int):=fun p =>
 if isT L p 4 mComma then .ok (some 0) (p+1)
 else if isT L p 2 wCross then (must L wJoin (p+1)).bind fun _ q=>.ok (some 0) q
 else if isT L p 2 wInner then (must L wJoin (p+1)).bind fun _ q=>.ok (some 1) q
 else if isT L p 2 wLeft then (must L wJoin (p+1)).bind fun _ q=>.ok (some 2) q
 else if isT L p 2 wJoin then .ok (some 1) (p+1)
 else .ok none p
def tabs:Nat→List From→Rd (List From)
 | 0,_,p=>.stop p 0
 | n+1,acc,p=>(join L p).bind fun j q=>match j with
  | none=>.ok acc q
  | some k=>(table L acc.length k q).bind fun f r =>
   if k=0 then tabs n (acc++[f]) r
   else (must L wOn r).bind fun _ r2=>(ex r2).bind fun e r3=>tabs n (acc++[⟨f.table,f.as_,f.join,[e]⟩]) r3
def tables:Rd (List From):=fun p=>(table L 0 0 p).bind fun f q=>tabs L ex (L.length+1) [f] q
def from_:Rd (List From):=fun p=>if isT L p 2 wFrom then tables L ex (p+1) else .ok [] p
def group:Rd (List E):=fun p=>if isT L p 2 wGroup then (must L wBy (p+1)).bind fun _ q=>several L ex q else .ok [] p
def core:Rd Core:=fun p=>(must L wSelect p).bind fun _ p1 =>
 (several L (item L ex) (if isT L p1 2 zae then p1+1 else p1)).bind fun is q =>
 (from_ L ex q).bind fun fs q2=>(maybe L ex wWhere q2).bind fun w q3=>(group L ex q3).bind fun g q4=>(maybe L ex wHaving q4).bind fun h q5 =>
 .ok ⟨isT L p1 2 zae,is,fs,w,h,g⟩ q5
def coll:Rd Int:=fun p=>match L[p]? with
 | some t=>if (decide (t.kind=2) || decide (t.kind=1)) && fold t.text == wBinary then .ok 0 (p+1) else if (decide (t.kind=2) || decide (t.kind=1)) && fold t.text == wNocase then .ok 1 (p+1) else .stop p 20
 | none=>.stop p 20
def dir (e:E) (c:Int):Rd Term:=fun p=>if isT L p 2 wAsc then .ok ⟨e,c,false⟩ (p+1) else if isT L p 2 wDesc then .ok ⟨e,c,true⟩ (p+1) else .ok ⟨e,c,false⟩ p
def term:Rd Term:=fun p=>(ex p).bind fun e q=>if isT L q 2 wCollate then (coll L (q+1)).bind fun c r=>dir L e c r else dir L e 0 q
def between (p:Nat):Option Int×Nat :=
 if isT L p 2 wUnion then (if isT L (p+1) 2 wAll then (some 1,p+2) else (some 0,p+1))
 else if isT L p 2 wIntersect then (some 2,p+1)
 else if isT L p 2 wExcept then (some 3,p+1)
 else (none,p)
def cores:Nat→List Core→List Int→Rd (List Core×List Int)
 | 0,_,_,p=>.stop p 0
 | n+1,cs,os,p=>match between L p with
  | (none,q)=>.ok (cs,os) q
  | (some o,q)=>(core L ex q).bind fun c r=>cores n (cs++[c]) (os++[o]) r
def order:Rd (List Term):=fun p=>if isT L p 2 wOrder then (must L wBy (p+1)).bind fun _ q=>several L (term L ex) q else .ok [] p
def query:Rd Sel:=fun p=>(core L ex p).bind fun c q=>(cores L ex (L.length+1) [c] [] q).bind fun x q2=>(order L ex q2).bind fun o q3 =>
 (maybe L ex wLimit q3).bind fun l q4=>(if l.length=0 then .ok [] q4 else maybe L ex wOffset q4).bind fun f q5=>.ok ⟨x.1,x.2,o,l,f⟩ q5
end
def exprR (L:List T):Rd E:=fun p=>match run L (12 * L.length+10) (.lev 0) p with
 | some (.ok [e] q)=>if deep e≤24 then .ok e q else .stop p 12
 | some (.stop q)=>.stop q 20
 | _=>.stop p 0
end Qy
namespace Qy
open Lx Ex
def In {α:Type} (n lo:Nat) (r:Rs α):Prop:=match r with | .ok _ q=>lo≤q∧q≤n | .stop q e=>q≤n∧e≠0
theorem In.bind {α β:Type} {n lo lo':Nat} {r:Rs α} {f:α→Nat→Rs β} (h:In n lo r) (hf:∀ a q,r=.ok a q→lo≤q→q≤n→In n lo' (f a q)):In n lo' (r.bind f):=by
 cases r with
 | ok a q=>exact hf a q rfl h.1 h.2
 | stop q e=>exact h
theorem In.mono {α:Type} {n lo lo':Nat} {r:Rs α} (h:In n lo r) (hl:lo'≤lo):In n lo' r:=by
 cases r with
 | ok a q=>exact ⟨Nat.le_trans hl h.1,h.2⟩
 | stop q e=>exact h
theorem In.ok {α:Type} {n lo q:Nat} {a:α} (h1:lo≤q) (h2:q≤n):In n lo (.ok a q):=⟨h1,h2⟩
theorem In.stop {α:Type} {n lo q:Nat} {e:Int} (h1:q≤n) (h2:e≠0):In n lo (.stop q e:Rs α):=⟨h1,h2⟩
section
variable {L:List T} {ex:Rd E} {p:Nat}
theorem must_in (s:S) (hp:p≤L.length):In L.length (p+1) (must L s p):=by
 unfold must
 split
 ·rename_i h;exact .ok (Nat.le_refl _) (isT_lt h)
 ·exact .stop hp (by decide)
theorem name_in (hp:p≤L.length):In L.length (p+1) (name L p):=by
 unfold name
 split
 ·rename_i t h
  have:=(List.getElem?_eq_some_iff.1 h).1
  split
  ·exact .ok (Nat.le_refl _) this
  ·exact .stop hp (by decide)
 ·exact .stop hp (by decide)
theorem sev_in {α:Type} {one:Rd α} (h1:∀ p,p≤L.length→In L.length (p+1) (one p)):∀ (n:Nat) (acc:List α) (p:Nat),p≤L.length→L.length+1≤n+p→In L.length p (sev L one n acc p)
 | 0,_,p,hp,hn=>by omega
 | n+1,acc,p,hp,hn=>by
  rw [sev]
  split
  ·rename_i h
   have hlt:=isT_lt h
   exact (h1 (p+1) hlt).bind fun a q _ h1' h2=>(sev_in h1 n _ q h2 (by omega)).mono (by omega)
  ·exact .ok (Nat.le_refl _) hp
theorem several_in {α:Type} {one:Rd α} (h1:∀ p,p≤L.length→In L.length (p+1) (one p)) (hp:p≤L.length):In L.length (p+1) (several L one p) :=
 (h1 p hp).bind fun a q _ h h2=>(sev_in h1 _ _ q h2 (by omega)).mono h
variable (hx:∀ p,p≤L.length→In L.length (p+1) (ex p))
include hx
theorem maybe_in (s:S) (hp:p≤L.length):In L.length p (maybe L ex s p):=by
 unfold maybe
 split
 ·rename_i h
  exact (hx _ (isT_lt h)).bind fun a q _ h1 h2=>.ok (by omega) h2
 ·exact .ok (Nat.le_refl _) hp
theorem item_in (hp:p≤L.length):In L.length (p+1) (item L ex p):=by
 unfold item
 split
 ·rename_i h;exact .ok (Nat.le_refl _) (isT_lt h)
 ·split
  ·rename_i h
   simp only [Bool.and_eq_true] at h
   exact .ok (by omega) (isT_lt h.2.2)
  ·refine (hx p hp).bind fun e q _ h1 h2=>?_
   split
   ·rename_i h
    exact (name_in (isT_lt h)).bind fun a r _ h3 h4=>.ok (by omega) h4
   ·exact .ok h1 h2
omit hx in
theorem table_in (m:Nat) (j:Int) (hp:p≤L.length):In L.length (p+1) (table L m j p):=by
 unfold table
 split
 ·exact .stop hp (by decide)
 ·refine (name_in hp).bind fun n q _ h1 h2=>?_
  split
  ·rename_i h
   exact (name_in (isT_lt h)).bind fun a r _ h3 h4=>.ok (by omega) h4
  ·exact .ok h1 h2
omit hx in
theorem join_in (hp:p≤L.length):In L.length p (join L p):=by
 have hm:∀ {s:S} {j:Option Int},isT L p 2 s=true→In L.length p ((must L wJoin (p+1)).bind fun _ q=>.ok j q):=fun h=>(must_in _ (isT_lt h)).bind fun a q _ h1 h2=>.ok (by omega) h2
 unfold join
 split
 ·rename_i h;exact .ok (by omega) (isT_lt h)
 ·split
  ·rename_i h;exact hm h
  ·split
   ·rename_i h;exact hm h
   ·split
    ·rename_i h;exact hm h
    ·split
     ·rename_i h;exact .ok (by omega) (isT_lt h)
     ·exact .ok (Nat.le_refl _) hp
theorem zoW:∀ (n:Nat) (acc:List From) (p:Nat),p≤L.length→L.length+1≤n+p→In L.length p (tabs L ex n acc p)
 | 0,_,p,hp,hn=>by omega
 | n+1,acc,p,hp,hn=>by
  rw [tabs]
  refine (join_in hp).bind fun j q _ h1 h2=>?_
  cases j with
  | none=>exact .ok h1 h2
  | some k =>
   refine (table_in _ _ h2).bind fun f r _ h3 h4=>?_
   split
   ·exact (zoW n _ r h4 (by omega)).mono (by omega)
   ·refine (must_in _ h4).bind fun _ r2 _ h5 h6=>?_
    refine (hx _ h6).bind fun e r3 _ h7 h8=>?_
    exact (zoW n _ r3 h8 (by omega)).mono (by omega)
theorem tables_in (hp:p≤L.length):In L.length (p+1) (tables L ex p) :=
 (table_in _ _ hp).bind fun f q _ h1 h2=>(zoW hx _ _ q h2 (by omega)).mono h1
theorem from_in (hp:p≤L.length):In L.length p (from_ L ex p):=by
 unfold from_
 split
 ·rename_i h;exact (tables_in hx (isT_lt h)).mono (by omega)
 ·exact .ok (Nat.le_refl _) hp
theorem group_in (hp:p≤L.length):In L.length p (group L ex p):=by
 unfold group
 split
 ·rename_i h;exact (must_in _ (isT_lt h)).bind fun _ q _ h1 h2=>(several_in hx h2).mono (by omega)
 ·exact .ok (Nat.le_refl _) hp
theorem core_in (hp:p≤L.length):In L.length (p+1) (core L ex p):=by
 unfold core
 refine (must_in _ hp).bind fun _ p1 _ h1 h2=>?_
 have h3:p1≤(if isT L p1 2 zae then p1+1 else p1)∧(if isT L p1 2 zae then p1+1 else p1)≤L.length:=by
  split
  ·rename_i h;exact ⟨by omega,isT_lt h⟩
  ·exact ⟨Nat.le_refl _,h2⟩
 refine (several_in (fun p hp=>item_in hx hp) h3.2).bind fun is q _ h4 h5=>?_
 refine (from_in hx h5).bind fun fs q2 _ h6 h7=>?_
 refine (maybe_in hx _ h7).bind fun w q3 _ h8 h9=>?_
 refine (group_in hx h9).bind fun g q4 _ h10 h11=>?_
 refine (maybe_in hx _ h11).bind fun h q5 _ h12 h13=>?_
 exact .ok (by omega) h13
omit hx in
theorem coll_in (hp:p≤L.length):In L.length p (coll L p):=by
 unfold coll
 split
 ·rename_i t h
  have:=(List.getElem?_eq_some_iff.1 h).1
  split
  ·exact .ok (by omega) this
  ·split
   ·exact .ok (by omega) this
   ·exact .stop hp (by decide)
 ·exact .stop hp (by decide)
omit hx in
theorem dir_in (e:E) (c:Int) (hp:p≤L.length):In L.length p (dir L e c p):=by
 unfold dir
 split
 ·rename_i h;exact .ok (by omega) (isT_lt h)
 ·split
  ·rename_i h;exact .ok (by omega) (isT_lt h)
  ·exact .ok (Nat.le_refl _) hp
theorem term_in (hp:p≤L.length):In L.length (p+1) (term L ex p):=by
 unfold term
 refine (hx p hp).bind fun e q _ h1 h2=>?_
 split
 ·rename_i h
  exact (coll_in (isT_lt h)).bind fun c r _ h3 h4=>(dir_in e c h4).mono (by omega)
 ·exact (dir_in e 0 h2).mono h1
omit hx in
theorem between_in {o:Int} {q:Nat} (h:between L p=(some o,q)):p < q∧q≤L.length:=by
 unfold between at h
 split at h
 ·split at h
  ·rename_i h2;cases h;exact ⟨by omega,isT_lt h2⟩
  ·rename_i h2 _;cases h;exact ⟨by omega,isT_lt h2⟩
 ·split at h
  ·rename_i h2;cases h;exact ⟨by omega,isT_lt h2⟩
  ·split at h
   ·rename_i h2;cases h;exact ⟨by omega,isT_lt h2⟩
   ·cases h
omit hx in
theorem between_none {q:Nat} (h:between L p=(none,q)):q=p:=by
 unfold between at h
 split at h
 ·split at h<;>cases h
 ·split at h
  ·cases h
  ·split at h
   ·cases h
   ·cases h;rfl
theorem zq6:∀ (n:Nat) (cs:List Core) (os:List Int) (p:Nat),p≤L.length→L.length+1≤n+p→In L.length p (cores L ex n cs os p)
 | 0,_,_,p,hp,hn=>by omega
 | n+1,cs,os,p,hp,hn=>by
  rw [cores]
  split
  ·rename_i q h
   rw [between_none h]
   exact .ok (Nat.le_refl _) hp
  ·rename_i o q h
   obtain ⟨h1,h2⟩:=between_in h
   exact (core_in hx h2).bind fun c r _ h3 h4=>(zq6 n _ _ r h4 (by omega)).mono (by omega)
theorem order_in (hp:p≤L.length):In L.length p (order L ex p):=by
 unfold order
 split
 ·rename_i h;exact (must_in _ (isT_lt h)).bind fun _ q _ h1 h2=>(several_in (fun p hp=>term_in hx hp) h2).mono (by omega)
 ·exact .ok (Nat.le_refl _) hp
theorem query_in (hp:p≤L.length):In L.length (p+1) (query L ex p):=by
 unfold query
 refine (core_in hx hp).bind fun c q _ h1 h2=>?_
 refine (zq6 hx _ _ _ q h2 (by omega)).bind fun x q2 _ h3 h4=>?_
 refine (order_in hx h4).bind fun o q3 _ h5 h6=>?_
 refine (maybe_in hx _ h6).bind fun l q4 _ h7 h8=>?_
 have h9:In L.length q4 (if l.length=0 then .ok [] q4 else maybe L ex wOffset q4):=by
  split
  ·exact .ok (Nat.le_refl _) h8
  ·exact maybe_in hx _ h8
 exact h9.bind fun f q5 _ h9 h10=>.ok (by omega) h10
end
theorem exprR_run {L:List T} {p:Nat} (hp:p≤L.length):(∃ e q,run L (12 * L.length+10) (.lev 0) p=some (.ok [e] q))∨∃ q,run L (12 * L.length+10) (.lev 0) p=some (.stop q) :=
 (zsX L _).1 0 p (by omega) hp (by omega)
theorem exprR_in {L:List T} {p:Nat} (hp:p≤L.length):In L.length (p+1) (exprR L p):=by
 unfold exprR
 rcases exprR_run hp with ⟨e,q,h⟩ | ⟨q,h⟩
 ·obtain ⟨h1,h2⟩:=ziZ hp h
  rw [h]
  dsimp only
  split
  ·exact .ok h1 h2
  ·exact .stop hp (by decide)
 ·have h1:=zo9 hp h
  rw [h]
  exact .stop h1 (by decide)
end Qy
namespace Go.Proofs.YtlooegbcfkoloaaGreatDoor
open Go.RowKit
open Vm
variable [Gl]
def rdE (L:List Lx.TA) (p:Nat):Ent:=.blk 76 [.list (L.map tokM),.int .i64 (p:Int)]
def wrV (q:Nat) (e:Int):Vm.V:=.iface 78 (.agg [.int .i64 (q:Int),.int .i64 e])
def outQ {α:Type} (L:List Lx.TA) (enc:α→Vm.V) (r:Qy.Rs α):Option Out:=match r with | .ok a q=>some (.ret (enc a),[rdE L q]) | .stop q e=>some (.panic (wrV q e),[rdE L q])
@[simp] theorem outQ_ok {α:Type} (L:List Lx.TA) (enc:α→Vm.V) (a:α) (q:Nat):outQ L enc (.ok a q)=some (.ret (enc a),[rdE L q]):=rfl
@[simp] theorem outQ_stop {α:Type} (L:List Lx.TA) (enc:α→Vm.V) (e:Int) (q:Nat):outQ L enc (.stop q e)=some (.panic (wrV q e),[rdE L q]):=rfl
@[simp] theorem zar (L:List Lx.TA) (p:Nat):Ent.blk 76 [.list (L.map tokM),.int .i64 (p:Int)]=rdE L p:=rfl
@[simp] theorem qd_0 (L:List Lx.TA) (p:Nat):zaa (rdE L p) 0=.list (L.map tokM):=rfl
@[simp] theorem qd_1 (L:List Lx.TA) (p:Nat):zaa (rdE L p) 1=.int .i64 (p:Int):=rfl
theorem ckE_q {Z:Type} (L:List Lx.TA) (p:Nat) (A:Option Z):ckE 76 2 (rdE L p) A=A:=by
 unfold ckE rdE
 dsimp only
 rw [if_pos ⟨rfl,rfl,by simp [wfs,wf,zfI]⟩]
theorem q_of {α:Type} {L:List Lx.TA} {enc:α→Vm.V} {x:Qy.Rs α} {f:FuncId} {a:List Vm.V} {e:List Ent} {rs:List R} {σ:List (Nat×Nat)} {A:List LA} {r:Option Out} (hd:pr.D f=false) (ha:a.map argR=rs) (hA:pr.A f=(σ,A)) (h:evF pr.P pr.G pr.ev lup σ 10 A f rs e=r) (hr:r=outQ L enc x):pr.ev f a e=outQ L enc x:=by
 cases x with
 | ok b q=>exact pr.of hd ha hA h hr
 | stop q er=>exact pr.of hd ha hA h hr
structure QL (L:List Lx.TA):Prop where
 len:L.length≤999000
 good:Good L
 cnt:∀ p m e q,p≤L.length→Ex.run (L.map (·.1)) m (.lev 0) p=some (.ok [e] q)→Ex.count e≤900000
section
variable {Z:Type} {c:Orc} {g:FuncId} {args:List Vm.V} {L:List Lx.TA} {p q:Nat} {v:Vm.V}
theorem q_r (h:c g args [rdE L p]=some (.ret v,[rdE L q])) (Kp K:Vm.V→Ent→Option Z):cl1 c g args (rdE L p) 76 2 Kp K=K v (rdE L q):=by
 simp only [cl1,cal,h,nth,List.getD_cons_zero,ckE_q]
theorem q_p (h:c g args [rdE L p]=some (.panic v,[rdE L q])) (Kp K:Vm.V→Ent→Option Z):cl1 c g args (rdE L p) 76 2 Kp K=Kp v (rdE L q):=by
 simp only [cl1,cal,h,nth,List.getD_cons_zero,ckE_q]
theorem q_go {α:Type} {enc:α→Vm.V} {r:Qy.Rs α} {Kp K:Vm.V→Ent→Option Z} {X:Option Z} (h:c g args [rdE L p]=outQ L enc r) (hk:∀ a q,r=.ok a q→K (enc a) (rdE L q)=X) (hs:∀ q e,r=.stop q e→Kp (wrV q e) (rdE L q)=X):cl1 c g args (rdE L p) 76 2 Kp K=X:=by
 cases r with
 | ok a q=>rw [q_r h];exact hk a q rfl
 | stop q e=>rw [q_p h];exact hs q e rfl
end
section
variable {L:List Lx.TA} {p:Nat} (hL:L.length≤999000) (hp:p≤999900)
include hL hp
theorem m_qis (a:Nat) (ha:a≤2) (k:Int) (s:List UInt8) (hs:s≠[]):pr.ev 128 [.ptr 0 0,.int .i64 (a:Int),.int .i64 k,.str s] [rdE L p]=some (.ret (.bool (Ex.isT (L.map (·.1)) (p+a) k s)),[rdE L p]):=by
 refine pr.of rfl rfl rfl (zfy _ _ _ _ _ _ _ _) ?_
 have hw:IntKind.wrap .i64 ((p:Int)+a)=((p+a:Nat):Int):=by rw [zdf (by omega) (by omega)];simp
 by_cases h:p+a < L.length
 ·have h1:¬ L.length≤p+a:=by omega
  have c0:∀ t:Lx.TA,cell (tokM t) 0=.int .i64 t.1.kind:=fun _=>rfl
  have c1:∀ t:Lx.TA,cell (tokM t) 1=.str t.1.text:=fun _=>rfl
  simp [-Int.natCast_add,zbM,hw,rtn,Ex.isT,h,h1, -zar,rdE,c0,c1,hs]
  by_cases h2:L[p+a].1.kind=k<;>simp [h2]
 ·have h1:L.length≤p+a:=by omega
  simp [-Int.natCast_add,zbM,hw,rtn,Ex.isT,h,h1, -zar,rdE]
theorem zoq (a:Nat) (ha:a≤2) (k:Int):pr.ev 128 [.ptr 0 0,.int .i64 (a:Int),.int .i64 k,.str []] [rdE L p]=some (.ret (.bool (Ex.isK (L.map (·.1)) (p+a) k)),[rdE L p]):=by
 refine pr.of rfl rfl rfl (zfy _ _ _ _ _ _ _ _) ?_
 have hw:IntKind.wrap .i64 ((p:Int)+a)=((p+a:Nat):Int):=by rw [zdf (by omega) (by omega)];simp
 by_cases h:p+a < L.length
 ·have h1:¬ L.length≤p+a:=by omega
  have c0:∀ t:Lx.TA,cell (tokM t) 0=.int .i64 t.1.kind:=fun _=>rfl
  simp [-Int.natCast_add,zbM,hw,rtn,Ex.isK,h,h1, -zar,rdE,c0]
  by_cases h2:L[p+a].1.kind=k<;>simp [h2]
 ·have h1:L.length≤p+a:=by omega
  simp [-Int.natCast_add,zbM,hw,rtn,Ex.isK,h,h1, -zar,rdE]
omit hL hp in
theorem zjd (e:Int):pr.ev 108 [.ptr 0 0,.int .i64 e] [rdE L p]=some (.panic (wrV p e),[rdE L p]):=by
 refine pr.of rfl rfl rfl (zhJ _ _ _ _ _ _) ?_
 rfl
theorem m_qmay (k:Int) (s:List UInt8) (hs:s≠[]):pr.ev 107 [.ptr 0 0,.int .i64 k,.str s] [rdE L p]=some (.ret (.bool (Ex.isT (L.map (·.1)) p k s)),[rdE L (if Ex.isT (L.map (·.1)) p k s then p+1 else p)]):=by
 refine pr.of rfl rfl rfl (ze0 _ _ _ _ _ _ _) ?_
 have h0:=m_qis hL hp 0 (by omega) k s hs
 simp only [Int.natCast_zero,Nat.add_zero] at h0
 cases h:Ex.isT (L.map (·.1)) p k s<;>simp [-Int.natCast_add,zcX,q_r h0,h,rtn,zcs (show p≤1000000 by omega)]
theorem m_qmayk (k:Int):pr.ev 107 [.ptr 0 0,.int .i64 k,.str []] [rdE L p]=some (.ret (.bool (Ex.isK (L.map (·.1)) p k)),[rdE L (if Ex.isK (L.map (·.1)) p k then p+1 else p)]):=by
 refine pr.of rfl rfl rfl (ze0 _ _ _ _ _ _ _) ?_
 have h0:=zoq hL hp 0 (by omega) k
 simp only [Int.natCast_zero,Nat.add_zero] at h0
 cases h:Ex.isK (L.map (·.1)) p k<;>simp [-Int.natCast_add,zcX,q_r h0,h,rtn,zcs (show p≤1000000 by omega)]
theorem ztN (s:List UInt8) (hs:s≠[]):pr.ev 65 [.ptr 0 0,.str s] [rdE L p]=some (.ret (.bool (Ex.isT (L.map (·.1)) p 2 s)),[rdE L (if Ex.isT (L.map (·.1)) p 2 s then p+1 else p)]):=by
 refine pr.of rfl rfl rfl (zhD _ _ _ _ _ _) ?_
 simp [-Int.natCast_add,zed,q_r (m_qmay hL hp 2 s hs),rtn]
theorem zkN (s:List UInt8) (hs:s≠[]):pr.ev 66 [.ptr 0 0,.str s] [rdE L p]=outQ L (fun _=>.tup []) (Qy.must (L.map (·.1)) s p):=by
 refine q_of rfl rfl rfl (zhG _ _ _ _ _ _) ?_
 have h0:=ztN hL hp s hs
 unfold Qy.must
 cases h:Ex.isT (L.map (·.1)) p 2 s
 ·rw [h] at h0;simp [-Int.natCast_add,zcJ,q_r h0,q_p (zjd (L:=L) (p:=p) 20),pnk]
 ·rw [h] at h0;simp [-Int.natCast_add,zcJ,q_r h0,rtn]
theorem zpr:pr.ev 129 [.ptr 0 0] [rdE L p]=outQ L .str (Qy.name (L.map (·.1)) p):=by
 refine q_of rfl rfl rfl (zhF _ _ _ _ _) ?_
 have h0:=m_qmayk hL hp 1
 unfold Qy.name
 unfold Ex.isK at h0
 cases h:(L.map (·.1))[p]? with
 | none =>
  rw [h] at h0
  simp [-Int.natCast_add,zb0,q_r h0,q_p (zjd (L:=L) (p:=p) 20),pnk]
 | some t =>
  rw [h] at h0
  by_cases hk:t.kind=1
  ·have hw:IntKind.wrap .i64 (((p+1:Nat):Int) - 1)=(p:Int):=by rw [zdf (by omega) (by omega)];omega
   simp only [hk,decide_true,if_true] at h0 ⊢
   rw [List.getElem?_map,Option.map_eq_some_iff] at h
   obtain ⟨ta,h2,rfl⟩:=h
   simp [-Int.natCast_add,zb0,zcd,q_r h0,rtn,hw,h2]
  ·simp only [hk,decide_false,Bool.false_eq_true,if_false] at h0 ⊢
   simp [-Int.natCast_add,zb0,q_r h0,q_p (zjd (L:=L) (p:=p) 20),pnk]
end
section
variable {Z:Type} {L:List Lx.TA} {p:Nat} (hL:L.length≤999000) (hp:p≤L.length) {Kp K:Vm.V→Ent→Option Z} {X:Option Z}
include hL hp
theorem w_go {s:List UInt8} (hs:s≠[]) (h1:Ex.isT (L.map (·.1)) p 2 s=true→p < L.length→K (.bool true) (rdE L (p+1))=X) (h0:Ex.isT (L.map (·.1)) p 2 s=false→K (.bool false) (rdE L p)=X):cl1 pr.ev 65 [.ptr 0 0,.str s] (rdE L p) 76 2 Kp K=X:=by
 rw [q_r (ztN hL (by omega) s hs)]
 cases ht:Ex.isT (L.map (·.1)) p 2 s
 ·exact h0 ht
 ·exact h1 ht (by simpa using Ex.isT_lt ht)
theorem ztE {k:Int} {s:List UInt8} (hs:s≠[]) (h1:Ex.isT (L.map (·.1)) p k s=true→p < L.length→K (.bool true) (rdE L (p+1))=X) (h0:Ex.isT (L.map (·.1)) p k s=false→K (.bool false) (rdE L p)=X):cl1 pr.ev 107 [.ptr 0 0,.int .i64 k,.str s] (rdE L p) 76 2 Kp K=X:=by
 rw [q_r (m_qmay hL (by omega) k s hs)]
 cases ht:Ex.isT (L.map (·.1)) p k s
 ·exact h0 ht
 ·exact h1 ht (by simpa using Ex.isT_lt ht)
end
theorem zkO {L:List Lx.TA} {p:Nat} (hQ:QL L) (hp:p≤L.length):pr.ev 106 [.ptr 0 0] [rdE L p]=outQ L encE (Qy.exprR (L.map (·.1)) p):=by
 refine q_of rfl rfl rfl (zhK _ _ _ _ _) ?_
 have hl:=hQ.len
 have hp':p≤(L.map (·.1)).length:=by simpa using hp
 have wf:∀ e q,cl1 pr.ev 108 [.ptr 0 0,.int .i64 e] (rdE L q) 76 2 (fun v8 v7=>pnk v8 [.blk 76 [(zaa v7 0),(zaa v7 1)]]) (fun v6 v7=>ckA 11 (agN 11 (encE Ex.e0)) (rtn (norm1 (agN 11 (encE Ex.e0))) [.blk 76 [(zaa v7 0),(zaa v7 1)]]))=some (.panic (wrV q e),[rdE L q]):=fun e q=>q_p (zjd e) _ _
 rcases Qy.exprR_run hp' with ⟨e,q,h⟩ | ⟨q,h⟩
 ·have hP:=ztV (by omega) hQ.good hp h (fun e' q' he=>by cases he;exact hQ.cnt p _ _ _ hp h)
  simp only [parV] at hP
  unfold Qy.exprR
  rw [h]
  dsimp only
  by_cases hd:Ex.deep e≤24
  ·rw [if_pos hd] at hP ⊢
   simp [-Int.natCast_add,zb1,zac hP,rtn]
  ·rw [if_neg hd] at hP ⊢
   have:=wf 12 p
   simp [-Int.natCast_add,zb1,zac hP] at this ⊢
   exact this
 ·have hP:=ztV (by omega) hQ.good hp h (fun e' q' he=>by cases he)
  simp only [parV] at hP
  unfold Qy.exprR
  rw [h]
  dsimp only
  have:=wf 20 q
  simp [-Int.natCast_add,zb1,zac hP] at this ⊢
  exact this
end Go.Proofs.YtlooegbcfkoloaaGreatDoor
namespace Go.Proofs.YtlooegbcfkoloaaGreatDoor
open Go.RowKit
open Vm
variable [Gl]
structure EncOk {α:Type} (z:Nat) (enc:α→Vm.V):Prop where
 nm:∀ a,norm1 (enc a)=enc a
 ck:∀ {Z:Type} a (A:Option Z),ckA z (enc a) A=A
 size:∀ a,(enc a).size=z
def itC (x:Qy.Item):Vm.V:=.agg (expC x.e++[.str x.name,.bool x.star,.str x.table])
def frC (f:Qy.From):Vm.V:=.agg [.str f.table,.str f.as_,.int .i64 f.join,.list (f.on.map encE)]
def tmC (t:Qy.Term):Vm.V:=.agg (expC t.e++[.int .i64 t.coll,.bool t.desc])
def coC (c:Qy.Core):Vm.V:=.agg [.bool c.dist,.list (c.items.map itC),.list (c.from_.map frC),.list (c.wher.map encE),.list (c.having.map encE),.list (c.group.map encE)]
def seC (s:Qy.Sel):Vm.V:=.agg [.list (s.cores.map coC),.list (s.ops.map (.int .i64)),.list (s.order.map tmC),.list (s.lim.map encE),.list (s.off.map encE)]
theorem expC_mk (k:Int) (op:Ex.S) (v:Ex.V) (t n:Ex.S) (s:Int) (g d:Bool) (l:List Ex.E):expC (.mk k op v t n s g d l)=[.int .i64 k,.str op,.int .i64 v.1,.int .i64 v.2.1,.str v.2.2,.str t,.str n,.int .i64 s,.bool g,.bool d,.list (l.map encE)]:=by rw [expC];rfl
theorem zpC:EncOk 11 encE:=⟨zhy,fun e A=>ze9 e A,zdO⟩
theorem zot:EncOk 14 itC:=by
 refine ⟨fun a=>?_,fun a A=>?_,fun a=>?_⟩<;>obtain ⟨⟨k,o,v,t,n,s,g,d,l⟩,m,st,tb⟩:=a<;>simp only [itC,expC_mk]
 ·rfl
 ·exact ckA_agg _ _ rfl rfl
 ·rfl
theorem zei:EncOk 4 frC:=⟨fun _=>rfl,fun a A=>ckA_agg _ _ rfl rfl,fun _=>rfl⟩
theorem znH:EncOk 13 tmC:=by
 refine ⟨fun a=>?_,fun a A=>?_,fun a=>?_⟩<;>obtain ⟨⟨k,o,v,t,n,s,g,d,l⟩,m,st⟩:=a<;>simp only [tmC,expC_mk]
 ·rfl
 ·exact ckA_agg _ _ rfl rfl
 ·rfl
theorem zdx:EncOk 6 coC:=⟨fun _=>rfl,fun a A=>ckA_agg _ _ rfl rfl,fun _=>rfl⟩
theorem seC_ok:EncOk 5 seC:=⟨fun _=>rfl,fun a A=>ckA_agg _ _ rfl rfl,fun _=>rfl⟩
@[simp] theorem it_nm (x:Qy.Item):norm1 (itC x)=itC x:=zot.nm x
@[simp] theorem it_ck {Z:Type} (x:Qy.Item) (A:Option Z):ckA 14 (itC x) A=A:=zot.ck x A
@[simp] theorem tm_nm (x:Qy.Term):norm1 (tmC x)=tmC x:=znH.nm x
@[simp] theorem tm_ck {Z:Type} (x:Qy.Term) (A:Option Z):ckA 13 (tmC x) A=A:=znH.ck x A
theorem znu {α:Type} {z b:Nat} {enc:α→Vm.V} (he:EncOk z enc) (hb:b≤999) (acc:List α) (a:α) (h:acc.length≤999900):appV z b (.list (acc.map enc)) (.list [enc a])=some (.list ((acc++[a]).map enc)):=by
 have:=Nat.mul_le_mul (show acc.length+1≤1000000 by omega) (show b+1≤1000 by omega)
 rw [zpM z b _ _ (fun y hy=>by rw [List.mem_singleton.1 hy];exact he.size a) (by simp;omega),List.map_append];rfl
def RdP (L:List Lx.TA) {α:Type} (enc:α→Vm.V) (g:FuncId) (one:Qy.Rd α):Prop:=(∀ p,p≤L.length→pr.ev g [.ptr 0 0] [rdE L p]=outQ L enc (one p))∧∀ p,p≤(L.map (·.1)).length→Qy.In (L.map (·.1)).length (p+1) (one p)
noncomputable def sevF (z b:Nat) (c:Orc) (s:List Vm.V):Option (Stp Out) :=
 cl1 c 107 [(.ptr 0 0),(.int .i64 4),(.str [44])] (.blk 76 [(cell (gt s 1) 0),(cell (gt s 1) 1)]) 76 2 (fun v3 v2=>om (pnk v3 [.blk 76 [(zaa v2 0),(zaa v2 1)]])) fun v1 v2 =>
 cnd v1 (cl1 c (fnG (gt s 0)) [(.ptr 0 0)] (.blk 76 [(zaa v2 0),(zaa v2 1)]) 76 2 (fun v6 v5=>om (pnk v6 [.blk 76 [(zaa v5 0),(zaa v5 1)]])) fun v4 v5 =>
 ckA z (norm1 v4) <|
 (appV z b (gt s 2) (.list [(norm1 v4)])).bind fun v7 =>
 some (.next [(.fn (fnG (gt s 0)) [] []),(.agg [(zaa v5 0),(zaa v5 1)]),v7]))
 (om (rtn (norm1 (gt s 2)) [.blk 76 [(zaa v2 0),(zaa v2 1)]]))
section
variable {L:List Lx.TA} {α:Type} {enc:α→Vm.V} {g:FuncId} {one:Qy.Rd α} {z b:Nat} (hL:L.length≤999000) (he:EncOk z enc) (hb:b≤999) (ho:RdP L enc g one)
include hL he hb ho
theorem zp7:∀ (n:Nat) (acc:List α) (p:Nat),p≤L.length→L.length+1≤n+p→acc.length≤p →
  lup Out (sevF z b pr.ev) [.fn g [] [],.agg [.list (L.map tokM),.int .i64 p],.list (acc.map enc)]=outQ L (fun l=>.list (l.map enc)) (Qy.sev (L.map (·.1)) one n acc p)
 | 0,_,p,hp,hn,_=>by omega
 | n+1,acc,p,hp,hn,ha=>by
  rw [zaF,Qy.sev]
  have key:sevF z b pr.ev [.fn g [] [],.agg [.list (L.map tokM),.int .i64 p],.list (acc.map enc)]=(if Ex.isT (L.map (·.1)) p 4 Ex.mComma=true then (match one (p+1) with
    | .ok a q=>some (.next [.fn g [] [],.agg [.list (L.map tokM),.int .i64 q],.list ((acc++[a]).map enc)])
    | .stop q e=>some (.out (.panic (wrV q e),[rdE L q]))) else some (.out (.ret (.list (acc.map enc)),[rdE L p]))):=by
   refine ztE hL hp (s:=Ex.mComma) (by decide) (fun h hlt=>?_) fun h=>?_
   ·have hc:=ho.1 (p+1) hlt
    rw [if_pos h]
    simp only [cnd,qd_0,qd_1,zar,gt_0,gt_s,fnG]
    refine q_go hc (fun a q hq=>?_) fun q e hq=>?_
    ·rw [hq]
     simp [-Int.natCast_add, -List.map_append,fnG,he.nm,he.ck,znu he hb acc a (by omega)]
    ·rw [hq];rfl
   ·rw [if_neg (by rw [h];decide)];rfl
  rw [key]
  by_cases h:Ex.isT (L.map (·.1)) p 4 Ex.mComma=true
  ·rw [if_pos h,if_pos h]
   have hlt:p < L.length:=by simpa using Ex.isT_lt h
   have hi:=ho.2 (p+1) (by simp;omega)
   cases hq:one (p+1) with
   | ok a q =>
    rw [hq] at hi
    have hq2:p+1+1≤q∧q≤L.length:=by simpa [Qy.In] using hi
    exact zp7 n (acc++[a]) q hq2.2 (by omega) (by simp;omega)
   | stop q e=>rfl
  ·rw [if_neg h,if_neg h];rfl
theorem zo0 {p:Nat} (hp:p≤L.length):cl1 pr.ev g [(.ptr 0 0)] (rdE L p) 76 2 (fun v3 v2=>pnk v3 [.blk 76 [(zaa v2 0),(zaa v2 1)]]) (fun v1 v2 =>
  ckA z (norm1 v1) <| lup Out (sevF z b pr.ev) [(.fn g [] []),(.agg [(zaa v2 0),(zaa v2 1)]),(.list [(norm1 v1)])])=outQ L (fun l=>.list (l.map enc)) (Qy.several (L.map (·.1)) one p):=by
 have hc:=ho.1 p hp
 have hi:=ho.2 p (by simpa using hp)
 unfold Qy.several
 cases hq:one p with
 | ok a q =>
  rw [hq] at hc hi
  have hq2:p+1≤q∧q≤L.length:=by simpa [Qy.In] using hi
  have h:=zp7 hL he hb ho ((L.map (·.1)).length+1) [a] q hq2.2 (by simp) (by simp;omega)
  simp only [List.map_cons,List.map_nil] at h
  rw [q_r hc]
  simp only [qd_0,qd_1,he.nm,he.ck,Qy.bind_ok]
  exact h
 | stop q e =>
  rw [hq] at hc
  rw [q_p hc]
  simp [pnk]
end
theorem m_sevI {L:List Lx.TA} {g:FuncId} {one:Qy.Rd Qy.Item} {p:Nat} (hL:L.length≤999000) (ho:RdP L itC g one) (hp:p≤L.length):pr.ev 102 [.ptr 0 0,.fn g [.ptr 0 0] []] [rdE L p]=outQ L (fun l=>.list (l.map itC)) (Qy.several (L.map (·.1)) one p):=by
 refine q_of rfl rfl rfl (zfi _ _ _ _ _ _) ?_
 exact zo0 hL zot (b:=168) (by omega) ho hp
theorem m_sevE {L:List Lx.TA} {g:FuncId} {one:Qy.Rd Ex.E} {p:Nat} (hL:L.length≤999000) (ho:RdP L encE g one) (hp:p≤L.length):pr.ev 105 [.ptr 0 0,.fn g [.ptr 0 0] []] [rdE L p]=outQ L (fun l=>.list (l.map encE)) (Qy.several (L.map (·.1)) one p):=by
 refine q_of rfl rfl rfl (zfj _ _ _ _ _ _) ?_
 exact zo0 hL zpC (b:=128) (by omega) ho hp
theorem m_sevT {L:List Lx.TA} {g:FuncId} {one:Qy.Rd Qy.Term} {p:Nat} (hL:L.length≤999000) (ho:RdP L tmC g one) (hp:p≤L.length):pr.ev 67 [.ptr 0 0,.fn g [.ptr 0 0] []] [rdE L p]=outQ L (fun l=>.list (l.map tmC)) (Qy.several (L.map (·.1)) one p):=by
 refine q_of rfl rfl rfl (zfh _ _ _ _ _ _) ?_
 exact zo0 hL znH (b:=144) (by omega) ho hp
end Go.Proofs.YtlooegbcfkoloaaGreatDoor
namespace Go.Proofs.YtlooegbcfkoloaaGreatDoor
open Go.RowKit
open Vm
variable [Gl]
theorem itC_e (e:Ex.E) (n t:List UInt8) (b:Bool):Vm.V.agg [cell (encE e) 0,cell (encE e) 1,cell (encE e) 2,cell (encE e) 3,cell (encE e) 4,cell (encE e) 5,cell (encE e) 6,cell (encE e) 7,cell (encE e) 8,cell (encE e) 9,cell (encE e) 10,.str n,.bool b,.str t]=itC ⟨e,n,b,t⟩:=by
 cases e;simp only [itC,enc_mk,expC_mk];rfl
theorem tmC_e (e:Ex.E) (c:Int) (b:Bool):Vm.V.agg [cell (encE e) 0,cell (encE e) 1,cell (encE e) 2,cell (encE e) 3,cell (encE e) 4,cell (encE e) 5,cell (encE e) 6,cell (encE e) 7,cell (encE e) 8,cell (encE e) 9,cell (encE e) 10,.int .i64 c,.bool b]=tmC ⟨e,c,b⟩:=by
 cases e;simp only [tmC,enc_mk,expC_mk];rfl
theorem zqS (t:List UInt8):Vm.V.agg [.int .i64 0,.str [],.int .i64 0,.int .i64 0,.str [],.str [],.str [],.int .i64 0,.bool false,.bool false,.list [],.str [],.bool true,.str t]=itC ⟨Ex.e0,[],true,t⟩:=by
 simp only [itC,Ex.e0,expC_mk];rfl
section
variable {L:List Lx.TA} {p:Nat} (hQ:QL L) (hp:p≤L.length)
include hQ hp
theorem zjV {s:List UInt8} (hs:s≠[]):pr.ev 69 [.ptr 0 0,.str s] [rdE L p]=outQ L (fun l=>.list (l.map encE)) (Qy.maybe (L.map (·.1)) (Qy.exprR (L.map (·.1))) s p):=by
 refine q_of rfl rfl rfl (zhk _ _ _ _ _ _) ?_
 unfold Qy.maybe
 refine w_go hQ.len hp hs (fun h hlt=>?_) fun h=>?_
 ·rw [if_pos h]
  simp only [zlr,Option.bind_some,Bool.not_true,cnd,qd_0,qd_1,zar]
  refine q_go (zkO hQ hlt) (fun e q hq=>?_) fun q e hq=>?_
  ·rw [hq];simp [-Int.natCast_add,rtn]
  ·rw [hq];rfl
 ·rw [if_neg (by rw [h];decide)];rfl
theorem m_qitem:pr.ev 103 [.ptr 0 0] [rdE L p]=outQ L itC (Qy.item (L.map (·.1)) (Qy.exprR (L.map (·.1))) p):=by
 refine q_of rfl rfl rfl (zhI _ _ _ _ _) ?_
 have hl:=hQ.len
 have fin:(Ex.isK (L.map (·.1)) p 1 && (Ex.isT (L.map (·.1)) (p+1) 4 Ex.mDot && Ex.isT (L.map (·.1)) (p+2) 4 Ex.zbG))=false→Ex.isT (L.map (·.1)) p 4 Ex.zbG=false →
   zaL pr.ev lup (.bool false) (.agg [.list (L.map tokM),.int .i64 p])=outQ L itC (Qy.item (L.map (·.1)) (Qy.exprR (L.map (·.1))) p):=by
  intro hb h0
  unfold Qy.item
  rw [if_neg (by rw [h0];decide),if_neg (by rw [hb];decide)]
  simp only [zaL,cnd,za1,List.getD_cons_zero,List.getD_cons_succ,zar]
  refine q_go (zkO hQ hp) (fun e q hq=>?_) fun q e hq=>?_
  ·rw [hq]
   have hq1:=Qy.exprR_in (L:=L.map (·.1)) (p:=p) (by simpa using hp)
   rw [hq] at hq1
   have hq2:q≤L.length:=by simpa [Qy.In] using hq1.2
   simp only [ze9,Qy.bind_ok,itC_e,it_ck,qd_0,qd_1,zar]
   refine w_go hl hq2 (s:=Ex.wAs) (by decide) (fun h hlt=>?_) fun h=>?_
   ·rw [if_pos h]
    simp only [cnd,qd_0,qd_1,zar]
    refine q_go (zpr hl (by omega)) (fun n r hn=>?_) fun r e hn=>?_
    ·rw [hn];simp [-Int.natCast_add,rtn,itC_e]
    ·rw [hn];rfl
   ·rw [if_neg (by rw [h];decide)]
    simp [-Int.natCast_add,rtn]
  ·rw [hq];rfl
 refine ztE hl hp (s:=Ex.zbG) (by decide) (fun h hlt=>?_) fun h0=>?_
 ·unfold Qy.item
  rw [if_pos h]
  simp [-Int.natCast_add,rtn,zqS]
 ·simp only [cnd,qd_0,qd_1,zar]
  have i0:=zoq hl (show p≤999900 by omega) 0 (by omega) 1
  simp only [Int.natCast_zero,Nat.add_zero] at i0
  rw [q_r i0]
  cases b0:Ex.isK (L.map (·.1)) p 1
  ·simp only [cnd,qd_0,qd_1];exact fin (by rw [b0];rfl) h0
  ·simp only [cnd,qd_0,qd_1,zar]
   have i1:pr.ev 128 [.ptr 0 0,.int .i64 1,.int .i64 4,.str [46]] [rdE L p]=_:=m_qis hl (show p≤999900 by omega) 1 (by omega) 4 Ex.mDot (by decide)
   rw [q_r i1]
   cases b1:Ex.isT (L.map (·.1)) (p+1) 4 Ex.mDot
   ·simp only [cnd,qd_0,qd_1];exact fin (by rw [b0,b1];rfl) h0
   ·simp only [cnd,qd_0,qd_1,zar]
    have i2:pr.ev 128 [.ptr 0 0,.int .i64 2,.int .i64 4,.str [42]] [rdE L p]=_:=m_qis hl (show p≤999900 by omega) 2 (by omega) 4 Ex.zbG (by decide)
    rw [q_r i2]
    cases b2:Ex.isT (L.map (·.1)) (p+2) 4 Ex.zbG
    ·simp only [qd_0,qd_1];exact fin (by rw [b0,b1,b2];rfl) h0
    ·have hlt:=Ex.isT_lt b2
     rw [List.length_map] at hlt
     unfold Qy.item
     rw [if_neg (by rw [h0];decide),if_pos (by rw [b0,b1,b2];rfl)]
     have hw:IntKind.wrap .i64 ((p:Int)+3)=((p+3:Nat):Int):=by rw [zdf (by omega) (by omega)];simp
     have hw2:IntKind.wrap .i64 (((p+3:Nat):Int) - 3)=(p:Int):=by rw [zdf (by omega) (by omega)];omega
     have ht:L[p]?=some L[p]:=List.getElem?_eq_getElem (by omega)
     have hx:Qy.txt (L.map (·.1)) p=L[p].1.text:=by unfold Qy.txt;rw [List.getElem?_map,ht];rfl
     simp [-Int.natCast_add,zaL,hw,hw2,ht,rtn,ckA_agg,zqS,hx]
theorem zqG (m:Nat) (hm:m≤1000000) (j:Int):pr.ev 130 [.ptr 0 0,.int .i64 (m:Int),.int .i64 j] [rdE L p]=outQ L frC (Qy.table (L.map (·.1)) m j p):=by
 refine q_of rfl rfl rfl (zhi _ _ _ _ _ _ _) ?_
 have hl:=hQ.len
 have fin:(decide (6≤m) && Ex.isK (L.map (·.1)) p 1)=false→zbn pr.ev lup (.int .i64 j) (.agg [.list (L.map tokM),.int .i64 p])=outQ L frC (Qy.table (L.map (·.1)) m j p):=by
  intro hb
  unfold Qy.table
  rw [if_neg (by rw [hb];decide)]
  simp only [zbn,za1,List.getD_cons_zero,List.getD_cons_succ,zar]
  refine q_go (zpr hl (by omega)) (fun n q hq=>?_) fun q e hq=>?_
  ·rw [hq]
   have hq1:=Qy.name_in (L:=L.map (·.1)) (p:=p) (by simpa using hp)
   rw [hq] at hq1
   have hq2:q≤L.length:=by simpa [Qy.In] using hq1.2
   simp only [ck1_s,ck1_i,Qy.bind_ok,qd_0,qd_1,zar]
   rw [show ∀ (A:Option Out),ckA 4 (.agg [.str n,.str n,.int .i64 j,.nils]) A=A from fun A=>ckA_agg _ _ rfl rfl]
   refine w_go hl hq2 (s:=Ex.wAs) (by decide) (fun h hlt=>?_) fun h=>?_
   ·rw [if_pos h]
    simp only [cnd,qd_0,qd_1,zar]
    refine q_go (zpr hl (by omega)) (fun n r hn=>?_) fun r e hn=>?_
    ·rw [hn];simp [-Int.natCast_add,rtn,ckA_agg,frC]
    ·rw [hn];rfl
   ·rw [if_neg (by rw [h];decide)]
    simp [-Int.natCast_add,rtn,ckA_agg,frC]
  ·rw [hq];rfl
 by_cases h6:6≤m
 ·have h6i:(6:Int)≤(m:Int):=by omega
  have i0:=zoq hl (show p≤999900 by omega) 0 (by omega) 1
  simp only [Int.natCast_zero,Nat.add_zero] at i0
  cases b0:Ex.isK (L.map (·.1)) p 1
  ·rw [b0] at i0
   simp [-Int.natCast_add,zbL,zaX,h6i,q_r i0]
   exact fin (by rw [b0];simp)
  ·rw [b0] at i0
   have hx:Qy.table (L.map (·.1)) m j p=.stop p 3:=by unfold Qy.table;rw [if_pos (by rw [b0];simpa using h6)]
   rw [hx]
   simp [-Int.natCast_add,zbL,zaX,h6i,q_r i0,q_p (zjd (L:=L) (p:=p) 3),pnk]
 ·have h6i:¬ (6:Int)≤(m:Int):=by omega
  simp [-Int.natCast_add,zbL,zaX,h6i]
  have:=fin (by simp;omega)
  exact this
def joV (j:Option Int):Vm.V:=match j with | some k=>.tup [.int .i64 k,.bool true] | none=>.tup [.int .i64 0,.bool false]
theorem m_qjoin:pr.ev 131 [.ptr 0 0] [rdE L p]=outQ L joV (Qy.join (L.map (·.1)) p):=by
 refine q_of rfl rfl rfl (zhH _ _ _ _ _) ?_
 have hl:=hQ.len
 unfold Qy.join
 refine ztE hl hp (s:=Ex.mComma) (by decide) (fun h hlt=>?_) fun h0=>?_
 ·rw [if_pos h];rfl
 rw [if_neg (by rw [h0];decide)]
 simp only [cnd,qd_0,qd_1,zar]
 have mj:∀ {j:Int} {K:Option Out},p < L.length→K=(cl1 pr.ev 66 [.ptr 0 0,.str [106,111,105,110]] (rdE L (p+1)) 76 2 (fun v9 v8=>pnk v9 [.blk 76 [(zaa v8 0),(zaa v8 1)]]) fun v7 v8=>rtn (.tup [(.int .i64 j),(.bool true)]) [.blk 76 [(zaa v8 0),(zaa v8 1)]]) →
   K=outQ L joV ((Qy.must (L.map (·.1)) Qy.wJoin (p+1)).bind fun _ q=>.ok (some j) q):=fun {j K} hlt hK=>by
  rw [hK]
  refine q_go (zkN hl (show p+1≤999900 by omega) Qy.wJoin (by decide)) (fun a q hq=>?_) fun q e hq=>?_
  ·rw [hq];rfl
  ·rw [hq];rfl
 refine w_go hl hp (s:=Qy.wCross) (by decide) (fun h hlt=>?_) fun h1=>?_
 ·rw [if_pos h]
  simp only [cnd,qd_0,qd_1,zar]
  exact mj hlt rfl
 rw [if_neg (by rw [h1];decide)]
 simp only [cnd,qd_0,qd_1,zar]
 refine w_go hl hp (s:=Qy.wInner) (by decide) (fun h hlt=>?_) fun h2=>?_
 ·rw [if_pos h]
  simp only [cnd,qd_0,qd_1,zar]
  exact mj hlt rfl
 rw [if_neg (by rw [h2];decide)]
 simp only [cnd,qd_0,qd_1,zar]
 refine w_go hl hp (s:=Qy.wLeft) (by decide) (fun h hlt=>?_) fun h3=>?_
 ·rw [if_pos h]
  simp only [cnd,qd_0,qd_1,zar]
  exact mj hlt rfl
 rw [if_neg (by rw [h3];decide)]
 simp only [cnd,qd_0,qd_1,zar]
 refine w_go hl hp (s:=Qy.wJoin) (by decide) (fun h hlt=>?_) fun h4=>?_
 ·rw [if_pos h];rfl
 ·rw [if_neg (by rw [h4];decide)];rfl
end
end Go.Proofs.YtlooegbcfkoloaaGreatDoor
namespace Go.Proofs.YtlooegbcfkoloaaGreatDoor
open Go.RowKit
open Vm
variable [Gl]
theorem zfG {α:Type} {L:List Lx.TA} {lo q:Nat} {a:α} (h:Qy.In (L.map (·.1)).length lo (.ok a q)):lo≤q∧q≤L.length:=by simpa [Qy.In] using h
theorem zeD {L:List Lx.TA} {p:Nat} (hp:p≤L.length):p≤(L.map (·.1)).length:=by simpa using hp
theorem zgE {L:List Lx.TA}:∀ p,p≤(L.map (·.1)).length→Qy.In (L.map (·.1)).length (p+1) (Qy.exprR (L.map (·.1)) p):=fun p hp=>Qy.exprR_in hp
def frL (l:List Qy.From):Vm.V:=.list (l.map frC)
section
variable {L:List Lx.TA} (hQ:QL L)
include hQ
theorem zkd:∀ (n:Nat) (acc:List Qy.From) (p:Nat),p≤L.length→L.length+1≤n+p→acc.length≤p →
  lup Out (zaj pr.ev lup) [.agg [.list (L.map tokM),.int .i64 p],frL acc]=outQ L frL (Qy.tabs (L.map (·.1)) (Qy.exprR (L.map (·.1))) n acc p)
 | 0,_,p,hp,hn,_=>by omega
 | n+1,acc,p,hp,hn,ha=>by
  have hl:=hQ.len
  have hj:=m_qjoin hQ hp
  have ij:=Qy.join_in (zeD hp)
  rw [zaF,Qy.tabs]
  cases hjq:Qy.join (L.map (·.1)) p with
  | stop q e =>
   rw [hjq] at hj
   simp [-Int.natCast_add,zaj,q_p hj,pnk]
  | ok j q =>
   rw [hjq] at hj ij
   obtain ⟨h1,h2⟩:=zfG ij
   cases j with
   | none=>simp [-Int.natCast_add,zaj,q_r hj,joV,rtn,frL]
   | some k =>
    have ht:=zqG hQ h2 acc.length (by omega) k
    have it:=Qy.table_in (L:=L.map (·.1)) acc.length k (zeD h2)
    rw [Qy.bind_ok]
    dsimp only
    cases htq:Qy.table (L.map (·.1)) acc.length k q with
    | stop r e =>
     rw [htq] at ht
     simp [-Int.natCast_add,zaj,q_r hj,q_p ht,joV,pnk,frL]
    | ok f r =>
     rw [htq] at ht it
     obtain ⟨h3,h4⟩:=zfG it
     rw [Qy.bind_ok]
     have c0:∀ x y:Vm.V,cell (frC f) 0=.str f.table:=fun _ _=>rfl
     by_cases hk:k=0
     ·subst hk
      rw [if_pos rfl]
      have ih:=zkd n (acc++[f]) r h4 (by omega) (by simp;omega)
      simp only [frL] at ih
      have hap:=znu (b:=64) zei (by omega) acc f (by omega)
      have hfc:norm1 (.agg [cell (frC f) 0,cell (frC f) 1,cell (frC f) 2,cell (frC f) 3])=frC f:=rfl
      simp [-Int.natCast_add, -List.map_append, -nm_a,zaj,zba,q_r hj,q_r ht,joV,frL,zei.ck,hfc,hap,ih]
     ·rw [if_neg hk]
      have hm:=zkN hl (show r≤999900 by omega) Qy.wOn (by decide)
      have im:=Qy.must_in (L:=L.map (·.1)) Qy.wOn (zeD h4)
      cases hmq:Qy.must (L.map (·.1)) Qy.wOn r with
      | stop r2 e =>
       rw [hmq] at hm
       simp only [Qy.wOn] at hm
       simp [-Int.natCast_add,zaj,q_r hj,q_r ht,q_p hm,joV,hk,pnk,frL,zei.ck]
      | ok u r2 =>
       rw [hmq] at hm im
       simp only [Qy.wOn] at hm
       obtain ⟨h5,h6⟩:=zfG im
       have he:=zkO hQ h6
       have ie:=Qy.exprR_in (zeD h6)
       rw [Qy.bind_ok]
       cases heq:Qy.exprR (L.map (·.1)) r2 with
       | stop r3 e =>
        rw [heq] at he
        simp [-Int.natCast_add,zaj,q_r hj,q_r ht,q_r hm,q_p he,joV,hk,pnk,frL,zei.ck]
       | ok x r3 =>
        rw [heq] at he ie
        obtain ⟨h7,h8⟩:=zfG ie
        rw [Qy.bind_ok]
        have ih:=zkd n (acc++[⟨f.table,f.as_,f.join,[x]⟩]) r3 h8 (by omega) (by simp;omega)
        simp only [frL] at ih
        have hap:=znu (b:=64) zei (by omega) acc ⟨f.table,f.as_,f.join,[x]⟩ (by omega)
        have hfc:norm1 (.agg [cell (frC f) 0,cell (frC f) 1,cell (frC f) 2,.list [encE x]])=frC ⟨f.table,f.as_,f.join,[x]⟩:=rfl
        simp [-Int.natCast_add, -List.map_append, -nm_a,zaj,zba,q_r hj,q_r ht,q_r hm,q_r he,joV,hk,frL,zei.ck,hfc,hap,ih]
theorem ztO {p:Nat} (hp:p≤L.length):pr.ev 104 [.ptr 0 0] [rdE L p]=outQ L frL (Qy.tables (L.map (·.1)) (Qy.exprR (L.map (·.1))) p):=by
 refine q_of rfl rfl rfl (zgu _ _ _ _ _) ?_
 unfold Qy.tables
 have ht:=zqG hQ hp 0 (by omega) 0
 have it:=Qy.table_in (L:=L.map (·.1)) 0 0 (zeD hp)
 simp only [Int.natCast_zero] at ht
 refine q_go ht (fun f q hq=>?_) fun q e hq=>?_
 ·rw [hq] at it ⊢
  obtain ⟨h1,h2⟩:=zfG it
  have h:=zkd hQ ((L.map (·.1)).length+1) [f] q h2 (by simp) (by simp;omega)
  simp only [frL,List.map_cons,List.map_nil] at h
  simp only [zei.nm,zei.ck,qd_0,qd_1,Qy.bind_ok]
  exact h
 ·rw [hq];rfl
theorem m_qcoll {p:Nat} (hp:p≤L.length):pr.ev 109 [.ptr 0 0] [rdE L p]=outQ L (.int .i64) (Qy.coll (L.map (·.1)) p):=by
 refine q_of rfl rfl rfl (zhM _ _ _ _ _) ?_
 have hl:=hQ.len
 have k2:=zoq hl (show p≤999900 by omega) 0 (by omega) 2
 have k1:=zoq hl (show p≤999900 by omega) 0 (by omega) 1
 simp only [Int.natCast_zero,Nat.add_zero] at k1 k2
 have e0:elV 1 (.list [(.str [98,105,110,97,114,121]),(.str [110,111,99,97,115,101])]) (.int .i64 0)=some (.str [98,105,110,97,114,121]):=rfl
 have e1:elV 1 (.list [(.str [98,105,110,97,114,121]),(.str [110,111,99,97,115,101])]) (.int .i64 1)=some (.str [110,111,99,97,115,101]):=rfl
 have ld:∀ s:List UInt8,ldV false 1 (.str s) 0=some (.str s):=fun _=>rfl
 have hw:IntKind.wrap .i64 (p+1)=((p+1:Nat):Int):=zcs (by omega)
 have w1:IntKind.wrap .i64 (0+1)=1:=rfl
 have w2:IntKind.wrap .i64 (1+1)=2:=rfl
 have r1:∀ n:Int,eqS oeq (.next [.int .i64 2,.int .i64 n,.agg [.list (L.map tokM),.int .i64 p],.list [(.str [98,105,110,97,114,121]),(.str [110,111,99,97,115,101])]]) (.next [.int .i64 2,.int .i64 n,.agg [.list (L.map tokM),.int .i64 p],.list [(.str [98,105,110,97,114,121]),(.str [110,111,99,97,115,101])]])=true:=fun n=>zch (by simp [wfs,wf,zfI])
 have r2:∀ n:Int,eqS oeq (.out (.ret (.int .i64 n),[rdE L (p+1)])) (.out (.ret (.int .i64 n),[rdE L (p+1)]))=true:=fun n=>by
  have h1:veqs (L.map tokM) (L.map tokM)=true:=zch (zfI L)
  simp [eqS,oeq,eeqs,eeq,rdE, -zar,veqs,veq,h1]
 have rd:∀ (n:Nat) (b:Bool) (w:List UInt8),((n=0∧w=Qy.wBinary)∨(n=1∧w=Qy.wNocase))→(match L[p]? with | some t=>(decide (t.1.kind=2) || decide (t.1.kind=1)) && Lx.fold t.1.text == w | none=>false)=b →
   zah pr.ev lup [.int .i64 2,.int .i64 n,.agg [.list (L.map tokM),.int .i64 p],.list [(.str [98,105,110,97,114,121]),(.str [110,111,99,97,115,101])]] =
    if b then some (.out (.ret (.int .i64 n),[rdE L (p+1)])) else some (.next [.int .i64 2,.int .i64 ((n+1:Nat):Int),.agg [.list (L.map tokM),.int .i64 p],.list [(.str [98,105,110,97,114,121]),(.str [110,111,99,97,115,101])]]):=by
  intro n b w hn hb
  have hn2:(n:Int) < 2:=by rcases hn with ⟨rfl,_⟩ | ⟨rfl,_⟩<;>decide
  have el:elV 1 (.list [(.str [98,105,110,97,114,121]),(.str [110,111,99,97,115,101])]) (.int .i64 n)=some (.str w):=by rcases hn with ⟨rfl,rfl⟩ | ⟨rfl,rfl⟩<;>rfl
  have hs:=zcs (p:=n) (by omega)
  unfold Ex.isK at k1 k2
  cases h:L[p]? with
  | none =>
   rw [h] at hb
   subst hb
   have h1:¬ p < L.length:=by simpa using h
   simp [-Int.natCast_add,zah,zak,hn2,el,ld,h1,hs,ag,zhm,r1]
  | some t =>
   rw [h] at hb
   dsimp only at hb
   obtain ⟨h1,ht2⟩:=List.getElem?_eq_some_iff.1 h
   rw [List.getElem?_map,h] at k1 k2
   dsimp only [Option.map] at k1 k2
   have ht:t.1.text.length≤1000000:=(hQ.good p t h).1
   have hf:=zpA ht
   by_cases t2:t.1.kind=2
   ·simp only [t2,decide_true] at k2
    cases b
    ·have hw:¬ Lx.fold t.1.text=w:=by simpa [t2] using hb
     simp [-Int.natCast_add,zah,zak,hn2,el,ld,h1,q_r k2,ht2,zac hf,hs,hw,ag,zhm,r1]
    ·have hw':Lx.fold t.1.text=w:=by simpa [t2] using hb
     simp [-Int.natCast_add,zah,zak,hn2,el,ld,h1,q_r k2,ht2,zac hf,hw,hw',rtn,hs,om,ag,zhm,r2]
   ·simp only [t2,decide_false] at k2
    by_cases t1:t.1.kind=1
    ·simp only [t1,decide_true] at k1
     cases b
     ·have hw:¬ Lx.fold t.1.text=w:=by simpa [t1] using hb
      simp [-Int.natCast_add,zah,zak,hn2,el,ld,h1,q_r k2,q_r k1,ht2,zac hf,hs,hw,ag,zhm,r1]
     ·have hw':Lx.fold t.1.text=w:=by simpa [t1] using hb
      simp [-Int.natCast_add,zah,zak,hn2,el,ld,h1,q_r k2,q_r k1,ht2,zac hf,hw,hw',rtn,hs,om,ag,zhm,r2]
    ·simp only [t1,decide_false] at k1
     have hb':b=false:=by simpa [t1,t2] using hb.symm
     subst hb'
     simp [-Int.natCast_add,zah,zak,hn2,el,ld,h1,q_r k2,q_r k1,h,hs,ag,zhm,r1]
 have r0:=rd 0 _ _ (.inl ⟨rfl,rfl⟩) rfl
 have r1':=rd 1 _ _ (.inr ⟨rfl,rfl⟩) rfl
 have l2:lup Out (zah pr.ev lup) [.int .i64 2,.int .i64 2,.agg [.list (L.map tokM),.int .i64 p],.list [(.str [98,105,110,97,114,121]),(.str [110,111,99,97,115,101])]]=some (.panic (wrV p 20),[rdE L p]):=by
  rw [zaF]
  simp [-Int.natCast_add,zah,zdk,q_p (zjd (L:=L) (p:=p) 20),pnk]
 show (lenL _).bind _=_
 simp only [zqR,Option.bind_some,List.length_cons,List.length_nil]
 show lup Out (zah pr.ev lup) [.int .i64 2,.int .i64 ((0:Nat):Int),.agg [.list (L.map tokM),.int .i64 p],_]=_
 unfold Qy.coll
 rw [zaF,r0,List.getElem?_map]
 cases h:L[p]? with
 | none =>
  rw [h] at r1'
  simp only [Option.map_none,Bool.false_eq_true,if_false,zmy] at r1' ⊢
  rw [zaF,r1']
  exact l2
 | some t =>
  rw [h] at r1'
  simp only [Option.map_some]
  by_cases b0:((decide (t.1.kind=2) || decide (t.1.kind=1)) && Lx.fold t.1.text == Qy.wBinary)=true
  ·rw [if_pos b0,if_pos b0];rfl
  ·rw [if_neg b0,if_neg b0,zmy,zaF,r1']
   by_cases b1:((decide (t.1.kind=2) || decide (t.1.kind=1)) && Lx.fold t.1.text == Qy.wNocase)=true
   ·rw [if_pos b1,if_pos b1];rfl
   ·rw [if_neg b1,if_neg b1];exact l2
theorem m_qdir {e:Ex.E} {c:Int} {p:Nat} (hp:p≤L.length):zbu pr.ev lup (.agg [.list (L.map tokM),.int .i64 p]) (tmC ⟨e,c,false⟩)=outQ L tmC (Qy.dir (L.map (·.1)) e c p):=by
 have hl:=hQ.len
 unfold Qy.dir
 simp only [zbu,za1,List.getD_cons_zero,List.getD_cons_succ,zar]
 have hx:∀ b:Bool,Vm.V.agg [cell (tmC ⟨e,c,false⟩) 0,cell (tmC ⟨e,c,false⟩) 1,cell (tmC ⟨e,c,false⟩) 2,cell (tmC ⟨e,c,false⟩) 3,cell (tmC ⟨e,c,false⟩) 4,cell (tmC ⟨e,c,false⟩) 5,cell (tmC ⟨e,c,false⟩) 6,cell (tmC ⟨e,c,false⟩) 7,cell (tmC ⟨e,c,false⟩) 8,cell (tmC ⟨e,c,false⟩) 9,cell (tmC ⟨e,c,false⟩) 10,cell (tmC ⟨e,c,false⟩) 11,.bool b]=tmC ⟨e,c,b⟩:=fun b=>by
  cases e;simp only [tmC,expC_mk];rfl
 have ha:agN 13 (tmC ⟨e,c,false⟩)=tmC ⟨e,c,false⟩:=by cases e;simp only [tmC,expC_mk];rfl
 refine w_go hl hp (s:=Qy.wAsc) (by decide) (fun h hlt=>?_) fun h0=>?_
 ·rw [if_pos h]
  simp [-Int.natCast_add,rtn,ha]
 ·rw [if_neg (by rw [h0];decide)]
  simp only [zlr,Option.bind_some,Bool.not_false,cnd,qd_0,qd_1,zar]
  refine w_go hl hp (s:=Qy.wDesc) (by decide) (fun h hlt=>?_) fun h0=>?_
  ·rw [if_pos h];simp [-Int.natCast_add,rtn,hx]
  ·rw [if_neg (by rw [h0];decide)];simp [-Int.natCast_add,rtn,hx]
theorem m_qterm {p:Nat} (hp:p≤L.length):pr.ev 68 [.ptr 0 0] [rdE L p]=outQ L tmC (Qy.term (L.map (·.1)) (Qy.exprR (L.map (·.1))) p):=by
 refine q_of rfl rfl rfl (zhE _ _ _ _ _) ?_
 have hl:=hQ.len
 unfold Qy.term
 refine q_go (zkO hQ hp) (fun e q hq=>?_) fun q e hq=>?_
 ·rw [hq]
  have iq:=zgE (L:=L) p (zeD hp)
  rw [hq] at iq
  obtain ⟨h1,h2⟩:=zfG iq
  simp only [ze9,tmC_e,tm_ck,Qy.bind_ok,qd_0,qd_1,zar]
  refine w_go hl h2 (s:=Qy.wCollate) (by decide) (fun h hlt=>?_) fun h0=>?_
  ·rw [if_pos h]
   simp only [cnd,qd_0,qd_1,zar]
   refine q_go (m_qcoll hQ (p:=q+1) (by omega)) (fun c r hc=>?_) fun r er hc=>?_
   ·have ic:=Qy.coll_in (L:=L.map (·.1)) (p:=q+1) (by rw [List.length_map];omega)
    rw [hc] at ic ⊢
    simp only [ck1_i,tmC_e,qd_0,qd_1,Qy.bind_ok]
    exact m_qdir hQ (zfG ic).2
   ·rw [hc];rfl
  ·rw [if_neg (by rw [h0];decide)]
   exact m_qdir hQ h2
 ·rw [hq];rfl
def beV (o:Option Int):Vm.V:=match o with | some k=>.tup [.int .i64 k,.bool true] | none=>.tup [.int .i64 0,.bool false]
theorem zrJ {p:Nat} (hp:p≤L.length):pr.ev 64 [.ptr 0 0] [rdE L p]=some (.ret (beV (Qy.between (L.map (·.1)) p).1),[rdE L (Qy.between (L.map (·.1)) p).2]):=by
 refine pr.of rfl rfl rfl (zga _ _ _ _ _) ?_
 have hl:=hQ.len
 unfold Qy.between
 refine w_go hl hp (s:=Qy.wUnion) (by decide) (fun h hlt=>?_) fun h0=>?_
 ·rw [if_pos h]
  simp only [cnd,qd_0,qd_1,zar]
  refine w_go hl (show p+1≤L.length by omega) (s:=Qy.wAll) (by decide) (fun h hlt=>?_) fun h0=>?_
  ·rw [if_pos h];rfl
  ·rw [if_neg (by rw [h0];decide)];rfl
 rw [if_neg (by rw [h0];decide)]
 simp only [cnd,qd_0,qd_1,zar]
 refine w_go hl hp (s:=Qy.wIntersect) (by decide) (fun h hlt=>?_) fun h0=>?_
 ·rw [if_pos h];rfl
 rw [if_neg (by rw [h0];decide)]
 simp only [cnd,qd_0,qd_1,zar]
 refine w_go hl hp (s:=Qy.wExcept) (by decide) (fun h hlt=>?_) fun h0=>?_
 ·rw [if_pos h];rfl
 ·rw [if_neg (by rw [h0];decide)];rfl
end
end Go.Proofs.YtlooegbcfkoloaaGreatDoor
namespace Go.Proofs.YtlooegbcfkoloaaGreatDoor
open Go.RowKit
open Vm
variable [Gl]
theorem ck6 {Z:Type} {a b c d e f:Vm.V} (h:(a.one && b.one && c.one && d.one && e.one && f.one)=true) (A:Option Z):ckA 6 (.agg [a,b,c,d,e,f]) A=A:=ckA_agg _ _ rfl (by simpa [and_assoc] using h)
theorem ck5 {Z:Type} {a b c d e:Vm.V} (h:(a.one && b.one && c.one && d.one && e.one)=true) (A:Option Z):ckA 5 (.agg [a,b,c,d,e]) A=A:=ckA_agg _ _ rfl (by simpa [and_assoc] using h)
section
variable {L:List Lx.TA} (hQ:QL L)
include hQ
theorem rdI:RdP L itC 103 (Qy.item (L.map (·.1)) (Qy.exprR (L.map (·.1)))):=⟨fun p hp=>m_qitem hQ hp,fun p hp=>Qy.item_in zgE hp⟩
theorem rdX:RdP L encE 106 (Qy.exprR (L.map (·.1))):=⟨fun p hp=>zkO hQ hp,zgE⟩
theorem rdT:RdP L tmC 68 (Qy.term (L.map (·.1)) (Qy.exprR (L.map (·.1)))):=⟨fun p hp=>m_qterm hQ hp,fun p hp=>Qy.term_in zgE hp⟩
theorem zqH {d:Bool} {is:List Qy.Item} {fs:List Qy.From} {w g:List Ex.E} {p:Nat} (hp:p≤L.length) {gv:Vm.V} (hg:norm0 gv=.list (g.map encE)) (hg1:gv.one=true) {fv:Vm.V} (hf:norm0 fv=frL fs) (hf1:fv.one=true) :
  zbv pr.ev lup (.agg [.list (L.map tokM),.int .i64 p]) (.agg [.bool d,.list (is.map itC),fv,.list (w.map encE),.nils,gv]) =
   outQ L coC ((Qy.maybe (L.map (·.1)) (Qy.exprR (L.map (·.1))) Qy.wHaving p).bind fun h q=>.ok ⟨d,is,fs,w,h,g⟩ q):=by
 simp only [zbv,za1,List.getD_cons_zero,List.getD_cons_succ,zar]
 refine q_go (zjV hQ hp (s:=Qy.wHaving) (by decide)) (fun h q hq=>?_) fun q e hq=>?_
 ·rw [hq]
  simp only [zpG,qd_0,qd_1,zar,Qy.bind_ok,nm_a,List.map_cons,List.map_nil,hg,hf,n0_b,n0_l]
  rw [ck6 (by simp [hg1,hf1])]
  rfl
 ·rw [hq];rfl
theorem zqI {d:Bool} {is:List Qy.Item} {fs:List Qy.From} {p:Nat} (hp:p≤L.length) {fv:Vm.V} (hf:norm0 fv=frL fs) (hf1:fv.one=true) :
  zaM pr.ev lup (.agg [.list (L.map tokM),.int .i64 p]) (.agg [.bool d,.list (is.map itC),fv,.nils,.nils,.nils]) =
   outQ L coC ((Qy.maybe (L.map (·.1)) (Qy.exprR (L.map (·.1))) Qy.wWhere p).bind fun w q3=>(Qy.group (L.map (·.1)) (Qy.exprR (L.map (·.1))) q3).bind fun g q4=>(Qy.maybe (L.map (·.1)) (Qy.exprR (L.map (·.1))) Qy.wHaving q4).bind fun h q5=>.ok ⟨d,is,fs,w,h,g⟩ q5):=by
 have hl:=hQ.len
 simp only [zaM,za1,List.getD_cons_zero,List.getD_cons_succ,zar]
 refine q_go (zjV hQ hp (s:=Qy.wWhere) (by decide)) (fun w q hq=>?_) fun q e hq=>?_
 ·have iq:=Qy.maybe_in (zgE (L:=L)) Qy.wWhere (zeD hp)
  rw [hq] at iq ⊢
  obtain ⟨h1,h2⟩:=zfG iq
  simp only [zpG,qd_0,qd_1,zar,Qy.bind_ok]
  unfold Qy.group
  refine w_go hl h2 (s:=Qy.wGroup) (by decide) (fun h hlt=>?_) fun h0=>?_
  ·rw [if_pos h]
   simp only [cnd,qd_0,qd_1,zar]
   refine q_go (zkN hl (show q+1≤999900 by omega) Qy.wBy (by decide)) (fun u r hr=>?_) fun r e hr=>?_
   ·have ir:=Qy.must_in (L:=L.map (·.1)) (p:=q+1) Qy.wBy (by rw [List.length_map];omega)
    rw [hr] at ir ⊢
    simp only [Qy.bind_ok,qd_0,qd_1,zar]
    refine q_go (m_sevE hl (rdX hQ) (zfG ir).2) (fun g t ht=>?_) fun t e ht=>?_
    ·have it:=Qy.several_in (zgE (L:=L)) (zeD (zfG ir).2)
     rw [ht] at it ⊢
     simp only [zpG,qd_0,qd_1,Qy.bind_ok]
     exact zqH hQ (zfG it).2 rfl rfl hf hf1
    ·rw [ht];rfl
   ·rw [hr];rfl
  ·rw [if_neg (by rw [h0];decide)]
   simp only [cnd,qd_0,qd_1,Qy.bind_ok]
   exact zqH hQ h2 (g:=[]) rfl rfl hf hf1
 ·rw [hq];rfl
theorem ztP {p:Nat} (hp:p≤L.length):pr.ev 63 [.ptr 0 0] [rdE L p]=outQ L coC (Qy.core (L.map (·.1)) (Qy.exprR (L.map (·.1))) p):=by
 refine q_of rfl rfl rfl (zhL _ _ _ _ _) ?_
 have hl:=hQ.len
 unfold Qy.core
 refine q_go (zkN hl (show p≤999900 by omega) Qy.wSelect (by decide)) (fun u p1 h1=>?_) fun p1 e h1=>?_
 ·have i1:=Qy.must_in (L:=L.map (·.1)) Qy.wSelect (zeD hp)
  rw [h1] at i1 ⊢
  have hp1:=(zfG i1).2
  simp only [Qy.bind_ok,qd_0,qd_1,zar]
  have rest:∀ (d:Bool) (p2:Nat),p2≤L.length→(cl1 pr.ev 102 [(.ptr 0 0),(.fn 103 [(.ptr 0 0)] [])] (rdE L p2) 76 2 (fun v9 v8=>pnk v9 [.blk 76 [(zaa v8 0),(zaa v8 1)]]) fun v7 v8 =>
    ck1 v7 <|
    cl1 pr.ev 65 [(.ptr 0 0),(.str [102,114,111,109])] (.blk 76 [(zaa v8 0),(zaa v8 1)]) 76 2 (fun v12 v11=>pnk v12 [.blk 76 [(zaa v11 0),(zaa v11 1)]]) fun v10 v11 =>
    cnd v10 (cl1 pr.ev 104 [(.ptr 0 0)] (.blk 76 [(zaa v11 0),(zaa v11 1)]) 76 2 (fun v15 v14=>pnk v15 [.blk 76 [(zaa v14 0),(zaa v14 1)]]) fun v13 v14 =>
    ck1 v13 <|
    zaM pr.ev lup (.agg [(zaa v14 0),(zaa v14 1)]) (.agg [.bool d,v7,v13,.nils,.nils,.nils]))
    (zaM pr.ev lup (.agg [(zaa v11 0),(zaa v11 1)]) (.agg [.bool d,v7,.nils,.nils,.nils,.nils]))) =
    outQ L coC ((Qy.several (L.map (·.1)) (Qy.item (L.map (·.1)) (Qy.exprR (L.map (·.1)))) p2).bind fun is q=>(Qy.from_ (L.map (·.1)) (Qy.exprR (L.map (·.1))) q).bind fun fs q2=>(Qy.maybe (L.map (·.1)) (Qy.exprR (L.map (·.1))) Qy.wWhere q2).bind fun w q3=>(Qy.group (L.map (·.1)) (Qy.exprR (L.map (·.1))) q3).bind fun g q4=>(Qy.maybe (L.map (·.1)) (Qy.exprR (L.map (·.1))) Qy.wHaving q4).bind fun h q5=>.ok ⟨d,is,fs,w,h,g⟩ q5):=by
   intro d p2 hp2
   refine q_go (m_sevI hl (rdI hQ) hp2) (fun is q hq=>?_) fun q e hq=>?_
   ·have iq:=Qy.several_in (rdI hQ).2 (zeD hp2)
    rw [hq] at iq ⊢
    have hq2:=(zfG iq).2
    simp only [zpG,qd_0,qd_1,zar,Qy.bind_ok]
    unfold Qy.from_
    refine w_go hl hq2 (s:=Qy.wFrom) (by decide) (fun h hlt=>?_) fun h0=>?_
    ·rw [if_pos h]
     simp only [cnd,qd_0,qd_1,zar]
     refine q_go (ztO hQ (p:=q+1) (by omega)) (fun fs r hr=>?_) fun r e hr=>?_
     ·have ir:=Qy.tables_in (zgE (L:=L)) (p:=q+1) (by rw [List.length_map];omega)
      rw [hr] at ir ⊢
      simp only [frL,zpG,qd_0,qd_1,Qy.bind_ok]
      exact zqI hQ (zfG ir).2 rfl rfl
     ·rw [hr];rfl
    ·rw [if_neg (by rw [h0];decide)]
     simp only [cnd,qd_0,qd_1,Qy.bind_ok]
     exact zqI hQ hq2 (fs:=[]) rfl rfl
   ·rw [hq];rfl
  refine w_go hl hp1 (s:=Ex.zae) (by decide) (fun h hlt=>?_) fun h0=>?_
  ·rw [h]
   simp only [ck1_b,qd_0,qd_1,zar,if_true]
   rw [ck6 rfl]
   exact rest true (p1+1) (by omega)
  ·rw [h0]
   simp only [ck1_b,qd_0,qd_1,zar]
   rw [ck6 rfl]
   exact rest false p1 hp1
 ·rw [h1];rfl
end
end Go.Proofs.YtlooegbcfkoloaaGreatDoor
namespace Go.Proofs.YtlooegbcfkoloaaGreatDoor
open Go.RowKit
open Vm
variable [Gl]
def opsV (l:List Int):Vm.V:=if l=[] then .nils else .list (l.map (.int .i64))
theorem ops_n (l:List Int):norm0 (opsV l)=.list (l.map (.int .i64)):=by
 unfold opsV;split
 ·rename_i h;rw [h];rfl
 ·rfl
theorem ops_1 (l:List Int):(opsV l).one=true:=by unfold opsV;split<;>rfl
theorem ops_app (l:List Int) (o:Int) (h:l.length≤1000000):appV 1 8 (opsV l) (.list [.int .i64 o])=some (opsV (l++[o])):=by
 unfold opsV
 rw [if_neg (show ¬ l++[o]=[] by simp)]
 split
 ·rename_i hl;subst hl;exact app_n 1 8 _ (fun y hy=>by rw [List.mem_singleton.1 hy];rfl) (by simp)
 ·rw [zpM 1 8 _ _ (fun y hy=>by rw [List.mem_singleton.1 hy];rfl) (by simp;omega),List.map_append];rfl
theorem coC_wf (c:Qy.Core):wf (coC c)=true:=by
 have hI:wfs (c.items.map itC)=true:=zbb.2 fun v hv=>by
  obtain ⟨x,_,rfl⟩:=List.mem_map.1 hv
  obtain ⟨e,n,b,t⟩:=x
  have:=zhx e
  obtain ⟨k,o,v,t',nm,s,g,d,l⟩:=e
  simp only [itC,expC_mk,enc_mk] at this ⊢
  simpa [wf,wfs] using this
 have hE:∀ l:List Ex.E,wfs (l.map encE)=true:=fun l=>zbb.2 fun v hv=>by
  obtain ⟨x,_,rfl⟩:=List.mem_map.1 hv
  exact zhx x
 have hF:wfs (c.from_.map frC)=true:=zbb.2 fun v hv=>by
  obtain ⟨x,_,rfl⟩:=List.mem_map.1 hv
  simp [frC,wf,wfs,hE]
 simp [coC,wf,wfs,hI,hE,hF]
theorem cos_wf (l:List Qy.Core):wfs (l.map coC)=true:=zbb.2 fun v hv=>by
 obtain ⟨x,_,rfl⟩:=List.mem_map.1 hv
 exact coC_wf x
section
variable {L:List Lx.TA} (hQ:QL L)
include hQ
theorem m_qfin {cs:List Qy.Core} {os:List Int} {o:List Qy.Term} {ov:Vm.V} (ho:norm0 ov=.list (o.map tmC)) (ho1:ov.one=true) {p:Nat} (hp:p≤L.length) :
  zbo pr.ev lup (.agg [.list (L.map tokM),.int .i64 p]) ov .nils (.list (cs.map coC)) (opsV os) =
   outQ L seC ((Qy.maybe (L.map (·.1)) (Qy.exprR (L.map (·.1))) Qy.wLimit p).bind fun l q4=>(if l.length=0 then .ok [] q4 else Qy.maybe (L.map (·.1)) (Qy.exprR (L.map (·.1))) Qy.wOffset q4).bind fun f q5=>.ok ⟨cs,os,o,l,f⟩ q5):=by
 simp only [zbo,za1,List.getD_cons_zero,List.getD_cons_succ,zar]
 refine q_go (zjV hQ hp (s:=Qy.wLimit) (by decide)) (fun l q hq=>?_) fun q e hq=>?_
 ·have iq:=Qy.maybe_in (zgE (L:=L)) Qy.wLimit (zeD hp)
  rw [hq] at iq ⊢
  have hq2:=(zfG iq).2
  have h1:=ops_1 os
  by_cases hl:l=[]
  ·subst hl
   simp [-Int.natCast_add,rtn,ck5,h1,ho1,ho,ops_n,seC]
  ·have hl2:¬ l.length=0:=by simpa using hl
   have hl3:0 < l.length:=by omega
   rw [Qy.bind_ok,if_neg hl2]
   simp only [zpG,zqR,List.length_map,Option.bind_some,qd_0,qd_1,zar]
   have hb:b0 .gtr (.int .i64 (l.length:Int)) (.int .i64 0)=some (.bool true):=by simp [hl3]
   simp only [hb,Option.bind_some,cnd]
   refine q_go (zjV hQ hq2 (s:=Qy.wOffset) (by decide)) (fun f r hr=>?_) fun r e hr=>?_
   ·rw [hr]
    simp [-Int.natCast_add,rtn,ck5,h1,ho1,ho,ops_n,seC]
   ·rw [hr];rfl
 ·rw [hq];rfl
theorem m_qord {cs:List Qy.Core} {os:List Int} {p:Nat} (hp:p≤L.length) :
  zb8 pr.ev lup (.agg [.list (L.map tokM),.int .i64 p]) .nils .nils (.list (cs.map coC)) (opsV os) =
   outQ L seC ((Qy.order (L.map (·.1)) (Qy.exprR (L.map (·.1))) p).bind fun o q3=>(Qy.maybe (L.map (·.1)) (Qy.exprR (L.map (·.1))) Qy.wLimit q3).bind fun l q4=>(if l.length=0 then .ok [] q4 else Qy.maybe (L.map (·.1)) (Qy.exprR (L.map (·.1))) Qy.wOffset q4).bind fun f q5=>.ok ⟨cs,os,o,l,f⟩ q5):=by
 have hl:=hQ.len
 simp only [zb8,za1,List.getD_cons_zero,List.getD_cons_succ,zar]
 unfold Qy.order
 refine w_go hl hp (s:=Qy.wOrder) (by decide) (fun h hlt=>?_) fun h0=>?_
 ·rw [if_pos h]
  simp only [cnd,qd_0,qd_1,zar]
  refine q_go (zkN hl (show p+1≤999900 by omega) Qy.wBy (by decide)) (fun u r hr=>?_) fun r e hr=>?_
  ·have ir:=Qy.must_in (L:=L.map (·.1)) (p:=p+1) Qy.wBy (by rw [List.length_map];omega)
   rw [hr] at ir ⊢
   simp only [Qy.bind_ok,qd_0,qd_1,zar]
   refine q_go (m_sevT hl (rdT hQ) (zfG ir).2) (fun g t ht=>?_) fun t e ht=>?_
   ·have it:=Qy.several_in (rdT hQ).2 (zeD (zfG ir).2)
    rw [ht] at it ⊢
    simp only [zpG,qd_0,qd_1,Qy.bind_ok]
    exact m_qfin hQ rfl rfl (zfG it).2
   ·rw [ht];rfl
  ·rw [hr];rfl
 ·rw [if_neg (by rw [h0];decide)]
  simp only [cnd,qd_0,qd_1,Qy.bind_ok]
  exact m_qfin hQ (o:=[]) rfl rfl hp
theorem zmd:∀ (n:Nat) (cs:List Qy.Core) (os:List Int) (p:Nat),p≤L.length→L.length+1≤n+p→cs.length≤p→os.length≤p →
  lup Out (zaI pr.ev lup) [.agg [.list (L.map tokM),.int .i64 p],.agg [.nils,.nils,.nils,.nils,.nils],.list (cs.map coC),.nils,.nils,.nils,opsV os] =
   outQ L seC ((Qy.cores (L.map (·.1)) (Qy.exprR (L.map (·.1))) n cs os p).bind fun x q2=>(Qy.order (L.map (·.1)) (Qy.exprR (L.map (·.1))) q2).bind fun o q3=>(Qy.maybe (L.map (·.1)) (Qy.exprR (L.map (·.1))) Qy.wLimit q3).bind fun l q4=>(if l.length=0 then .ok [] q4 else Qy.maybe (L.map (·.1)) (Qy.exprR (L.map (·.1))) Qy.wOffset q4).bind fun f q5=>.ok ⟨x.1,x.2,o,l,f⟩ q5)
 | 0,_,_,p,hp,hn,_,_=>by omega
 | n+1,cs,os,p,hp,hn,h1,h2=>by
  have hl:=hQ.len
  have hb:=zrJ hQ hp
  rw [zaF,Qy.cores]
  cases hbq:Qy.between (L.map (·.1)) p with
  | mk o q =>
   rw [hbq] at hb
   dsimp only at hb
   cases o with
   | none =>
    obtain rfl:=Qy.between_none hbq
    have hf:=m_qord hQ (cs:=cs) (os:=os) hp
    simp only [Qy.bind_ok] at hf ⊢
    simp [-Int.natCast_add,zaI,q_r hb,beV,hf]
   | some k =>
    obtain ⟨h3,h4⟩:=Qy.between_in hbq
    rw [List.length_map] at h4
    have hc:=ztP hQ h4
    have ic:=Qy.core_in (zgE (L:=L)) (zeD h4)
    dsimp only
    have hoa:=ops_app os k (by omega)
    cases hcq:Qy.core (L.map (·.1)) (Qy.exprR (L.map (·.1))) q with
    | stop r e =>
     rw [hcq] at hc
     have key:∀ X:Vm.V→Ent→Option (Stp Out),ag (eqS oeq) (cl1 pr.ev 63 [.ptr 0 0] (rdE L q) 76 2 (fun v10 v9=>om (pnk v10 [.blk 76 [(zaa v9 0),(zaa v9 1)]])) X)=some (.out (.panic (wrV r e),[rdE L r])):=fun X=>by
      refine zgO (q_p hc _ _) ?_
      have h1:veqs (L.map tokM) (L.map tokM)=true:=zch (zfI L)
      simp [eqS,oeq,eeqs,eeq,rdE,wrV, -zar,veqs,veq,h1]
     simp [-Int.natCast_add,zaI,q_r hb,beV,hoa,key]
    | ok c r =>
     rw [hcq] at hc ic
     obtain ⟨h5,h6⟩:=zfG ic
     have ih:=zmd n (cs++[c]) (os++[k]) r h6 (by omega) (by simp;omega) (by simp;omega)
     have hca:=znu (b:=128) zdx (by omega) cs c (by omega)
     have key:ag (eqS oeq) (cl1 pr.ev 63 [.ptr 0 0] (rdE L q) 76 2 (fun v10 v9=>om (pnk v10 [.blk 76 [(zaa v9 0),(zaa v9 1)]])) fun v8 v9 =>
       ckA 6 (norm1 v8) <| (appV 6 128 (.list (cs.map coC)) (.list [(norm1 v8)])).bind fun v11 =>
       some (.next [(.agg [(zaa v9 0),(zaa v9 1)]),.agg [.nils,.nils,.nils,.nils,.nils],v11,.nils,.nils,.nils,opsV (os++[k])])) =
       some (.next [.agg [.list (L.map tokM),.int .i64 r],.agg [.nils,.nils,.nils,.nils,.nils],.list ((cs++[c]).map coC),.nils,.nils,.nils,opsV (os++[k])]):=by
      refine zgO (z:=Stp.next _) ?_ ?_
      ·rw [q_r hc]
       simp only [zdx.nm,zdx.ck,hca,Option.bind_some,qd_0,qd_1]
      ·refine zch ?_
       have h1:=cos_wf (cs++[c])
       have h2:wf (opsV (os++[k]))=true:=by
        unfold opsV
        split
        ·rfl
        ·simp only [wf];exact zbb.2 fun v hv=>by obtain ⟨x,_,rfl⟩:=List.mem_map.1 hv;rfl
       simp [wfs,wf,zfI,h1,h2, -List.map_append]
     rw [Qy.bind_ok]
     have e:zaI pr.ev lup [.agg [.list (L.map tokM),.int .i64 p],.agg [.nils,.nils,.nils,.nils,.nils],.list (cs.map coC),.nils,.nils,.nils,opsV os]=some (.next [.agg [.list (L.map tokM),.int .i64 r],.agg [.nils,.nils,.nils,.nils,.nils],.list ((cs++[c]).map coC),.nils,.nils,.nils,opsV (os++[k])]):=by
      simp [-Int.natCast_add, -List.map_append,zaI,q_r hb,beV,hoa,key]
     rw [e]
     exact ih
theorem m_qquery {p:Nat} (hp:p≤L.length):pr.ev 29 [.ptr 0 0] [rdE L p]=outQ L seC (Qy.query (L.map (·.1)) (Qy.exprR (L.map (·.1))) p):=by
 refine q_of rfl rfl rfl (zhj _ _ _ _ _) ?_
 unfold Qy.query
 refine q_go (ztP hQ hp) (fun c q hq=>?_) fun q e hq=>?_
 ·have iq:=Qy.core_in (zgE (L:=L)) (zeD hp)
  rw [hq] at iq ⊢
  obtain ⟨h1,h2⟩:=zfG iq
  simp only [zdx.nm,zdx.ck,qd_0,qd_1,Qy.bind_ok]
  exact zmd hQ ((L.map (·.1)).length+1) [c] [] q h2 (by simp) (by simp;omega) (by simp)
 ·rw [hq];rfl
end
end Go.Proofs.YtlooegbcfkoloaaGreatDoor
namespace Qy
open Lx Ex
def sel0:Sel:=⟨[],[],[],[],[]⟩
def ofQ (s:S):Sel×Nat×Int:=match scan s with
 | (l,a,e)=>if e≠0 then (sel0,a,e) else match query (l.map (·.1)) (exprR (l.map (·.1))) 0 with
  | .stop q e=>(sel0,zlk l s.length q,e)
  | .ok x q=>match l[q]? with
   | some t=>if t.1.kind≠0 then (sel0,t.2,20) else (x,s.length,0)
   | none=>(x,s.length,0)
end Qy
namespace Go.Proofs.YtlooegbcfkoloaaGreatDoor
open Go.RowKit
open Vm
variable [Gl]
theorem zte (c:Orc) (a b k d e m n:Vm.V):zb7 c .niface a b k d e m n=some [.blk 28 [a,b,k,d,e],.blk 3 [m],.blk 29 [n]]:=by kernel_rfl
theorem ztd (c:Orc) (q:Nat) (er:Int) (a b k d e m n:Vm.V):zb7 c (wrV q er) a b k d e m n=some [.blk 28 [.nils,.nils,.nils,.nils,.nils],.blk 3 [.int .i64 q],.blk 29 [.int .i64 er]]:=by
 have h:eeqs [.blk 28 [.nils,.nils,.nils,.nils,.nils],.blk 3 [.int .i64 q],.blk 29 [.int .i64 er]] [.blk 28 [.nils,.nils,.nils,.nils,.nils],.blk 3 [.int .i64 q],.blk 29 [.int .i64 er]]=true:=by simp [eeqs,eeq,veqs,veq]
 simp [zb7,wrV,gW,binV,tasW,tasV,wf,wfs,ag,ckA_agg,zhm,h]
theorem zsR (s:Qy.Sel):wf (seC s)=true:=by
 have hE:∀ l:List Ex.E,wfs (l.map encE)=true:=fun l=>zbb.2 fun v hv=>by
  obtain ⟨x,_,rfl⟩:=List.mem_map.1 hv
  exact zhx x
 have hT:wfs (s.order.map tmC)=true:=zbb.2 fun v hv=>by
  obtain ⟨x,_,rfl⟩:=List.mem_map.1 hv
  obtain ⟨e,n,b⟩:=x
  have:=zhx e
  obtain ⟨k,o,v,t',nm,s,g,d,l⟩:=e
  simp only [tmC,expC_mk,enc_mk] at this ⊢
  simpa [wf,wfs] using this
 have hO:wfs (s.ops.map (Vm.V.int .i64))=true:=zbb.2 fun v hv=>by obtain ⟨x,_,rfl⟩:=List.mem_map.1 hv;rfl
 simp [seC,wf,wfs,cos_wf,hE,hT,hO]
theorem se_cells (s:Qy.Sel):seC s=.agg [cell (seC s) 0,cell (seC s) 1,cell (seC s) 2,cell (seC s) 3,cell (seC s) 4]:=rfl
@[simp] theorem se_nm (s:Qy.Sel):norm1 (seC s)=seC s:=seC_ok.nm s
@[simp] theorem se_ck {Z:Type} (s:Qy.Sel) (A:Option Z):ckA 5 (seC s) A=A:=seC_ok.ck s A
@[simp] theorem se_ag (s:Qy.Sel):agN 5 (seC s)=seC s:=rfl
def parQ (r:Qy.Rs Qy.Sel):Vm.V:=match r with | .ok s q=>.tup [seC s,.int .i64 (q:Int),.int .i64 0] | .stop q e=>.tup [seC Qy.sel0,.int .i64 (q:Int),.int .i64 e]
theorem znR:Vm.V.agg [.list [],.list [],.list [],.list [],.list []]=seC Qy.sel0:=rfl
theorem m_qParse {L:List Lx.TA} (hQ:QL L) {p:Nat} (hp:p≤L.length):pr.ev 12 [.list (L.map tokM),.int .i64 (p:Int)] []=some (.ret (parQ (Qy.query (L.map (·.1)) (Qy.exprR (L.map (·.1))) p)),[]):=by
 refine pr.ofN rfl ?_
 show evFD Tryz.prog _ pr.ev [10,11,12,29] [(4,0),(5,1),(6,2)] 12 [.d (.list (L.map tokM)),.d (.int .i64 p)]=_
 rw [zmI]
 have h1:¬ ((p:Int) < 0):=by omega
 have h2:¬ (L.length < p):=by omega
 have hc:=m_qquery hQ hp
 cases hq:Qy.query (L.map (·.1)) (Qy.exprR (L.map (·.1))) p with
 | ok s q =>
  rw [hq] at hc
  have hw:=zsR s
  have hw5:wfs [cell (seC s) 0,cell (seC s) 1,cell (seC s) 2,cell (seC s) 3,cell (seC s) 4]=true:=by
   rw [se_cells] at hw
   simpa only [wf] using hw
  have ho:oeq (.ret (.tup [seC s,.int .i64 q,.int .i64 0]),[]) (.ret (.tup [seC s,.int .i64 q,.int .i64 0]),[])=true:=oeq_w (by simp [wf,wfs,hw])
  have hs5:norm1 (.agg [cell (seC s) 0,cell (seC s) 1,cell (seC s) 2,cell (seC s) 3,cell (seC s) 4])=seC s:=rfl
  have hb5:=fun A:Option Out=>zr7 28 5 [cell (seC s) 0,cell (seC s) 1,cell (seC s) 2,cell (seC s) 3,cell (seC s) 4] A rfl hw5
  simp [-Int.natCast_add, -nm_a,zfg,zcB,h1,h2,ckA_agg,q_r hc,zte,zuI,hb5,zr7,wf,wfs,hs5,parQ,rtn,ag,zhm,ho]
 | stop q e =>
  rw [hq] at hc
  simp [-Int.natCast_add,zfg,zcB,h1,h2,ckA_agg,q_p hc,ztd,zuI,zr7,wfs,wf,parQ,rtn,znR]
theorem scan_QL {s:List UInt8} (hs:s.length≤1000000) {l:List Lx.TA} {a:Nat} (h:Lx.scan s=(l,a,0)):QL l:=by
 have h1:=scan_L h
 refine ⟨by omega,scan_G hs h,fun p m e q hp hr=>?_⟩
 obtain ⟨g1,g2,g3,g4,g5,g6⟩:=Ex.zif h
 obtain ⟨h2,e',h3,h4⟩:=(Ex.ziY _ g2 m).1 0 p _ _ hr
 cases h3
 have:=h4.c
 have:=(Ex.ziZ (zeD hp) hr).2
 rw [List.length_map] at this
 omega
def ofQV (r:Qy.Sel×Nat×Int):Vm.V:=.tup [seC r.1,.int .i64 (r.2.1:Int),.int .i64 r.2.2]
theorem m_qOf {s:List UInt8} (hs:s.length≤1000000):pr.ev 6 [.str s] []=some (.ret (ofQV (Qy.ofQ s)),[]):=by
 refine pr.of rfl rfl rfl (zrx _ _ _ _) ?_
 have hsc:=ev_scan hs
 have ld0:∀ t:Lx.TA,ldV false 1 (tokM t) 0=some (.int .i64 t.1.kind):=fun _=>rfl
 have ld5:∀ t:Lx.TA,ldV false 1 (tokM t) 5=some (.int .i64 (t.2:Int)):=fun _=>rfl
 have ho:∀ {a b:Int},oeq (.ret (.tup [seC Qy.sel0,.int .i64 a,.int .i64 b]),[]) (.ret (.tup [seC Qy.sel0,.int .i64 a,.int .i64 b]),[])=true:=oeq_w (by simp [wf,wfs,zsR])
 unfold Qy.ofQ
 rw [zsS] at hsc
 cases hq:Lx.scan s with
 | mk l r =>
 obtain ⟨a,no⟩:=r
 rw [hq] at hsc
 dsimp only at hsc ⊢
 by_cases hno:no=0
 ·subst hno
  have hQ:=scan_QL hs hq
  have hpar:=m_qParse hQ (p:=0) (Nat.zero_le _)
  simp only [Int.natCast_zero] at hpar
  rw [if_neg (by simp)]
  cases hc:Qy.query (l.map (·.1)) (Qy.exprR (l.map (·.1))) 0 with
  | stop q e =>
   have he:e≠0:=by
    have:=Qy.query_in (zgE (L:=l)) (p:=0) (Nat.zero_le _)
    rw [hc] at this
    exact this.2
   rw [hc] at hpar
   simp only [parQ] at hpar
   cases hq2:l[q]? with
   | some t =>
    obtain ⟨hlt,ht⟩:=List.getElem?_eq_some_iff.1 hq2
    simp [-Int.natCast_add,zcY,zbR,zbA,zac hsc,zac hpar,he,hlt,ht,ld5,ofQV,rtn,znR,zrF hq2,ag,zhm,ho]
   | none =>
    have hge:¬ q < l.length:=by simpa using hq2
    simp [-Int.natCast_add,zcY,zbR,zbA,zac hsc,zac hpar,he,hge,ofQV,rtn,znR,zrG hq2]
  | ok x q =>
   rw [hc] at hpar
   simp only [parQ] at hpar
   cases hq2:l[q]? with
   | some t =>
    obtain ⟨hlt,ht⟩:=List.getElem?_eq_some_iff.1 hq2
    by_cases hk:t.1.kind=0
    ·simp [-Int.natCast_add,zcY,zbR,zbA,zac hsc,zac hpar,hlt,ht,hq2,hk,ld0,ofQV,rtn]
    ·simp [-Int.natCast_add,zcY,zbR,zbA,zac hsc,zac hpar,hlt,ht,hq2,hk,ld0,ld5,ofQV,rtn,znR,ag,zhm,ho]
   | none =>
    have hge:¬ q < l.length:=by simpa using hq2
    simp [-Int.natCast_add,zcY,zbR,zbA,zac hsc,zac hpar,hge,ofQV,rtn]
 ·simp [-Int.natCast_add,zcY,zac hsc,hno,ofQV,rtn,znR]
end Go.Proofs.YtlooegbcfkoloaaGreatDoor
namespace Go.Proofs.YtlooegbcfkoloaaGreatDoor
open Go.RowKit
open Vm
variable [Gl]
theorem zhz {α:Type} {z:Nat} {enc:α→Vm.V} (he:EncOk z enc) (l:List α) (i:Nat) (h:i < l.length):elV z (.list (l.map enc)) (.int .i64 (i:Int))=some (enc l[i]):=by
 rw [zl9 z enc l .i64 i he.size,List.getElem?_eq_getElem h];rfl
theorem itC_ld (x:Qy.Item):ldV true 14 (itC x) 0=some (itC x):=by
 obtain ⟨⟨k,o,v,t,n,s,g,d,l⟩,m,st,tb⟩:=x;simp only [itC,expC_mk];rfl
theorem tmC_ld (x:Qy.Term):ldV true 13 (tmC x) 0=some (tmC x):=by
 obtain ⟨⟨k,o,v,t,n,s,g,d,l⟩,m,st⟩:=x;simp only [tmC,expC_mk];rfl
theorem zl0 (x:Qy.Item):agN 14 (itC x)=itC x:=by
 obtain ⟨⟨k,o,v,t,n,s,g,d,l⟩,m,st,tb⟩:=x;simp only [itC,expC_mk];rfl
theorem zlv (x:Qy.Term):agN 13 (tmC x)=tmC x:=by
 obtain ⟨⟨k,o,v,t,n,s,g,d,l⟩,m,st⟩:=x;simp only [tmC,expC_mk];rfl
theorem itC_x (x:Qy.Item):agN 11 (itC x)=encE x.e:=by
 obtain ⟨⟨k,o,v,t,n,s,g,d,l⟩,m,st,tb⟩:=x;simp only [itC,expC_mk,enc_mk];rfl
theorem zsv (x:Qy.Term):agN 11 (tmC x)=encE x.e:=by
 obtain ⟨⟨k,o,v,t,n,s,g,d,l⟩,m,st⟩:=x;simp only [tmC,expC_mk,enc_mk];rfl
theorem itC_11 (x:Qy.Item):cell (itC x) 11=.str x.name∧cell (itC x) 12=.bool x.star∧cell (itC x) 13=.str x.table:=by
 obtain ⟨⟨k,o,v,t,n,s,g,d,l⟩,m,st,tb⟩:=x;simp only [itC,expC_mk];exact ⟨rfl,rfl,rfl⟩
theorem tmC_11 (x:Qy.Term):cell (tmC x) 11=.int .i64 x.coll∧cell (tmC x) 12=.bool x.desc:=by
 obtain ⟨⟨k,o,v,t,n,s,g,d,l⟩,m,st⟩:=x;simp only [tmC,expC_mk];exact ⟨rfl,rfl⟩
def FE (e:Ex.E):Prop:=Ex.count e≤900000
def FL (l:List Ex.E):Prop:=l.length≤900000∧∀ x∈l,FE x
structure FC (c:Qy.Core):Prop where
 il:c.items.length≤900000
 i:∀ x∈c.items,FE x.e
 fl:c.from_.length≤900000
 f:∀ f∈c.from_,FL f.on
 w:FL c.wher
 h:FL c.having
 g:FL c.group
structure FS (s:Qy.Sel):Prop where
 cl:s.cores.length≤900000
 c:∀ c∈s.cores,FC c
 ol:s.ops.length≤900000
 tl:s.order.length≤900000
 t:∀ t∈s.order,FE t.e
 l:FL s.lim
 o:FL s.off
theorem zlH (l:List Ex.E) (hl:l.length≤900000) (h:∀ x∈l,pr.ev 16 [encE x,encE x] []=some (.ret (.bool true),[])):∀ (n i:Nat),i+n=l.length →
  lup Out (za9 pr.ev lup) [.list (l.map encE),.list (l.map encE),.int .i64 (i:Int)]=some (.ret (.bool true),[])
 | 0,i,hi=>by
  obtain rfl:i=l.length:=by omega
  rw [zaF]
  simp [-Int.natCast_add,za9,rtn]
 | n+1,i,hi=>by
  have h1:i < l.length:=by omega
  have ih:=zlH l hl h n (i+1) (by omega)
  have hx:=h _ (List.getElem_mem h1)
  rw [zaF]
  simp [-Int.natCast_add,za9,h1,zhz zpC l i h1,zjt,zac hx,zcs (show i≤1000000 by omega),ih]
theorem ztL (l:List Ex.E) (hl:l.length≤900000) (h:∀ x∈l,pr.ev 16 [encE x,encE x] []=some (.ret (.bool true),[])):pr.ev 17 [.list (l.map encE),.list (l.map encE)] []=some (.ret (.bool true),[]):=by
 refine pr.of rfl rfl rfl (zgs _ _ _ _ _) ?_
 have h:=zlH l hl h l.length 0 (by omega)
 simp only [Int.natCast_zero] at h
 simp [-Int.natCast_add,zdw,h]
theorem ztM:∀ (n:Nat) (e:Ex.E),Ex.deep e≤n→FE e→pr.ev 16 [encE e,encE e] []=some (.ret (.bool true),[])
 | 0,.mk k o v t nm s g d a,h,_=>by rw [zh1] at h;omega
 | n+1,.mk k o v t nm s g d a,h,hc=>by
  rw [zh1] at h
  unfold FE at hc
  rw [znn] at hc
  have hl:a.length≤900000:=by have:=zg0 a;omega
  have ha:=ztL a hl fun x hx=>ztM n x (by have:=zgG hx;omega) (by unfold FE;have:=zgZ hx;omega)
  refine pr.of rfl (by simp only [List.map,(zd6 _).rd];rfl) rfl (zhg _ _ _ _ _) ?_
  rw [enc_mk]
  have hv:eqVal [.int .i64 v.1,.int .i64 v.2.1,.str v.2.2] [.int .i64 v.1,.int .i64 v.2.1,.str v.2.2]=some true:=by simp [eqVal]
  simp [-Int.natCast_add,zdS,ckA_agg,binV,hv,zac ha,rtn]
theorem zpq {e:Ex.E} (h:FE e):pr.ev 16 [encE e,encE e] []=some (.ret (.bool true),[]):=ztM _ e (Nat.le_refl _) h
theorem zjc {l:List Ex.E} (h:FL l):pr.ev 17 [.list (l.map encE),.list (l.map encE)] []=some (.ret (.bool true),[]):=ztL l h.1 fun x hx=>zpq (h.2 x hx)
end Go.Proofs.YtlooegbcfkoloaaGreatDoor
namespace Go.Proofs.YtlooegbcfkoloaaGreatDoor
open Go.RowKit
open Vm
variable [Gl]
theorem co_1 (c:Qy.Core):cell (coC c) 0=.bool c.dist∧cell (coC c) 1=.list (c.items.map itC)∧cell (coC c) 2=.list (c.from_.map frC)∧cell (coC c) 3=.list (c.wher.map encE)∧cell (coC c) 4=.list (c.having.map encE)∧cell (coC c) 5=.list (c.group.map encE):=⟨rfl,rfl,rfl,rfl,rfl,rfl⟩
theorem se_1 (s:Qy.Sel):cell (seC s) 0=.list (s.cores.map coC)∧cell (seC s) 1=.list (s.ops.map (.int .i64))∧cell (seC s) 2=.list (s.order.map tmC)∧cell (seC s) 3=.list (s.lim.map encE)∧cell (seC s) 4=.list (s.off.map encE):=⟨rfl,rfl,rfl,rfl,rfl⟩
theorem fr_1 (f:Qy.From):cell (frC f) 0=.str f.table∧cell (frC f) 1=.str f.as_∧cell (frC f) 2=.int .i64 f.join∧cell (frC f) 3=.list (f.on.map encE):=⟨rfl,rfl,rfl,rfl⟩
@[simp] theorem co_ag (c:Qy.Core):agN 6 (coC c)=coC c:=rfl
@[simp] theorem fr_ag (c:Qy.From):agN 4 (frC c)=frC c:=rfl
theorem zug (c:Qy.From):ldV true 4 (frC c) 0=some (frC c):=rfl
theorem zr6 (c:Qy.Core):ldV true 6 (coC c) 0=some (coC c):=rfl
section
variable {c:Qy.Core} (h:FC c)
include h
theorem zsV (i:Int):eqS oeq (.next [.int .i64 i,coC c,coC c]) (.next [.int .i64 i,coC c,coC c])=true:=zch (by simp [wfs,wf,coC_wf])
theorem zqf:∀ (n i:Nat),i+n=c.from_.length→lup Out (zbh pr.ev lup) [.int .i64 (i:Int),coC c,coC c]=some (.ret (.bool true),[])
 | 0,i,hi=>by
  obtain rfl:i=c.from_.length:=by omega
  obtain ⟨c0,c1,c2,c3,c4,c5⟩:=co_1 c
  rw [zaF]
  simp [-Int.natCast_add,zbh,zc6,c2,c3,c4,c5,zac (zjc h.w),zac (zjc h.h),zac (zjc h.g),rtn]
 | n+1,i,hi=>by
  have h1:i < c.from_.length:=by omega
  have hl:=h.fl
  obtain ⟨c0,c1,c2,c3,c4,c5⟩:=co_1 c
  have ih:=zqf n (i+1) (by omega)
  obtain ⟨f0,f1,f2,f3⟩:=fr_1 c.from_[i]
  have hx:=zjc (h.f _ (List.getElem_mem h1))
  have hr:=zsV h (((i+1:Nat):Int))
  rw [zaF]
  simp [-Int.natCast_add,zbh,zbk,zaW,c2,h1,zhz zei c.from_ i h1,zug,zei.ck,f0,f1,f2,f3,zac hx,zcs (show i≤1000000 by omega),ag,zhm,hr,ih]
theorem zqg:∀ (n i:Nat),i+n=c.items.length→lup Out (zbi pr.ev lup) [.int .i64 (i:Int),coC c,coC c]=some (.ret (.bool true),[])
 | 0,i,hi=>by
  obtain rfl:i=c.items.length:=by omega
  obtain ⟨c0,c1,c2,c3,c4,c5⟩:=co_1 c
  have hn:=zqf h c.from_.length 0 (by omega)
  simp only [Int.natCast_zero] at hn
  rw [zaF]
  simp [-Int.natCast_add,zbi,zc7,c1,hn]
 | n+1,i,hi=>by
  have h1:i < c.items.length:=by omega
  have hl:=h.il
  obtain ⟨c0,c1,c2,c3,c4,c5⟩:=co_1 c
  have ih:=zqg n (i+1) (by omega)
  obtain ⟨f0,f1,f2⟩:=itC_11 c.items[i]
  have hx:=zpq (h.i _ (List.getElem_mem h1))
  have hr:=zsV h (((i+1:Nat):Int))
  rw [zaF]
  simp [-Int.natCast_add,zbi,zbj,zaV,c1,h1,zhz zot c.items i h1,itC_ld,zl0,itC_x,f0,f1,f2,binV,zac hx,zcs (show i≤1000000 by omega),ag,zhm,hr,ih]
theorem m_sameC:pr.ev 15 [coC c,coC c] []=some (.ret (.bool true),[]):=by
 refine pr.of rfl rfl rfl (zhh _ _ _ _ _) ?_
 obtain ⟨c0,c1,c2,c3,c4,c5⟩:=co_1 c
 have hn:=zqg h c.items.length 0 (by omega)
 simp only [Int.natCast_zero] at hn
 simp [-Int.natCast_add,zdT,zbl,zdx.ck,c0,c1,c2,binV,hn]
end
section
variable {s:Qy.Sel} (h:FS s)
include h
theorem ss_next (i:Int):eqS oeq (.next [.int .i64 i,seC s,seC s]) (.next [.int .i64 i,seC s,seC s])=true:=zch (by simp [wfs,wf,zsR])
theorem zp3:∀ (n i:Nat),i+n=s.order.length→lup Out (zbU pr.ev lup) [.int .i64 (i:Int),seC s,seC s]=some (.ret (.bool true),[])
 | 0,i,hi=>by
  obtain rfl:i=s.order.length:=by omega
  obtain ⟨c0,c1,c2,c3,c4⟩:=se_1 s
  rw [zaF]
  simp [-Int.natCast_add,zbU,zea,c2,c3,c4,zac (zjc h.l),zac (zjc h.o),rtn]
 | n+1,i,hi=>by
  have h1:i < s.order.length:=by omega
  have hl:=h.tl
  obtain ⟨c0,c1,c2,c3,c4⟩:=se_1 s
  have ih:=zp3 n (i+1) (by omega)
  obtain ⟨f0,f1⟩:=tmC_11 s.order[i]
  have hx:=zpq (h.t _ (List.getElem_mem h1))
  have hr:=ss_next h (((i+1:Nat):Int))
  rw [zaF]
  simp [-Int.natCast_add,zbU,zbY,zbX,c2,h1,zhz znH s.order i h1,tmC_ld,zlv,zsv,f0,f1,binV,zac hx,zcs (show i≤1000000 by omega),ag,zhm,hr,ih]
theorem zp4:∀ (n i:Nat),i+n=s.ops.length→lup Out (zbV pr.ev lup) [.int .i64 (i:Int),seC s,seC s]=some (.ret (.bool true),[])
 | 0,i,hi=>by
  obtain rfl:i=s.ops.length:=by omega
  obtain ⟨c0,c1,c2,c3,c4⟩:=se_1 s
  have hn:=zp3 h s.order.length 0 (by omega)
  simp only [Int.natCast_zero] at hn
  rw [zaF]
  simp [-Int.natCast_add,zbV,zeb,c1,hn]
 | n+1,i,hi=>by
  have h1:i < s.ops.length:=by omega
  have hl:=h.ol
  obtain ⟨c0,c1,c2,c3,c4⟩:=se_1 s
  have ih:=zp4 n (i+1) (by omega)
  have el:elV 1 (.list (s.ops.map (.int .i64))) (.int .i64 (i:Int))=some (.int .i64 s.ops[i]):=by rw [zl9 1 (Vm.V.int .i64) s.ops .i64 i (fun _=>rfl),List.getElem?_eq_getElem h1];rfl
  have ld:ldV false 1 (.int .i64 s.ops[i]) 0=some (.int .i64 s.ops[i]):=rfl
  rw [zaF]
  simp [-Int.natCast_add,zbV,c1,h1,el,ld,zcs (show i≤1000000 by omega),ih]
theorem zp5:∀ (n i:Nat),i+n=s.cores.length→lup Out (zbW pr.ev lup) [.int .i64 (i:Int),seC s,seC s]=some (.ret (.bool true),[])
 | 0,i,hi=>by
  obtain rfl:i=s.cores.length:=by omega
  obtain ⟨c0,c1,c2,c3,c4⟩:=se_1 s
  have hn:=zp4 h s.ops.length 0 (by omega)
  simp only [Int.natCast_zero] at hn
  rw [zaF]
  simp [-Int.natCast_add,zbW,zec,c0,hn]
 | n+1,i,hi=>by
  have h1:i < s.cores.length:=by omega
  have hl:=h.cl
  obtain ⟨c0,c1,c2,c3,c4⟩:=se_1 s
  have ih:=zp5 n (i+1) (by omega)
  have hx:=m_sameC (h.c _ (List.getElem_mem h1))
  rw [zaF]
  simp [-Int.natCast_add,zbW,c0,h1,zhz zdx s.cores i h1,zr6,zdx.nm,zac hx,zcs (show i≤1000000 by omega),ih]
theorem m_sameS:pr.ev 8 [seC s,seC s] []=some (.ret (.bool true),[]):=by
 refine pr.of rfl rfl rfl (zjB _ _ _ _ _) ?_
 obtain ⟨c0,c1,c2,c3,c4⟩:=se_1 s
 have hn:=zp5 h s.cores.length 0 (by omega)
 simp only [Int.natCast_zero] at hn
 simp [-Int.natCast_add,zfv,zbZ,c0,c1,c2,hn]
end
end Go.Proofs.YtlooegbcfkoloaaGreatDoor
namespace Qy
open Lx Ex
def itemP (x:Item):S:=if x.star then (if x.table=[] then [42] else x.table++[46,42]) else if x.name=[] then print x.e else print x.e++[32,97,115,32]++x.name
def sepS:List S→S
 | []=>[]
 | [a]=>a
 | a :: b :: r=>a++[44,32]++sepS (b :: r)
theorem sepS_join:∀ l:List S,sepS l=Go.Lib.join l [44,32]
 | []=>rfl
 | [c]=>by rw [sepS];simp [Go.Lib.join,List.intercalate]
 | c :: d :: r=>by
  rw [sepS,sepS_join (d :: r),Go.Lib.join_cons,Go.Lib.join_cons]
  simp [Go.Lib.joinTail]
def behind (w:S) (l:List E):S:=if l=[] then [] else [32]++w++[32]++sepS (l.map print)
def joinP (j:Int):S:=if j=1 then [32,106,111,105,110,32] else if j=2 then [32,108,101,102,116,32,106,111,105,110,32] else [44,32]
def asP (f:From):S:=if f.as_=f.table then [] else [32,97,115,32]++f.as_
def fromP (b:Bool) (f:From):S:=(if b then [32,102,114,111,109,32] else joinP f.join)++f.table++asP f++(if b=false∧f.join≠0 then behind wOn f.on else [])
def tablesP:List From→S
 | []=>[]
 | f :: r=>fromP true f++r.flatMap (fromP false)
def wGroupBy:S:=[103,114,111,117,112,32,98,121]
def selP (d:Bool):S:=if d then [115,101,108,101,99,116,32,100,105,115,116,105,110,99,116,32] else [115,101,108,101,99,116,32]
def coreP (c:Core):S:=selP c.dist++(sepS (c.items.map itemP)++tablesP c.from_++behind wWhere c.wher)++behind wGroupBy c.group++behind wHaving c.having
def termP (t:Term):S:=print t.e++(if t.coll=1 then [32,99,111,108,108,97,116,101,32,110,111,99,97,115,101] else [])++(if t.desc then [32,100,101,115,99] else [])
def wordP (o:Int):S:=if o=1 then [32,117,110,105,111,110,32,97,108,108,32] else if o=2 then [32,105,110,116,101,114,115,101,99,116,32] else if o=3 then [32,101,120,99,101,112,116,32] else [32,117,110,105,111,110,32]
def restP:List Core→List Int→S
 | [],_=>[]
 | c :: cs,[]=>coreP c++restP cs []
 | c :: cs,o :: os=>wordP o++coreP c++restP cs os
def coresP:List Core→List Int→S
 | [],_=>[]
 | c :: cs,os=>coreP c++restP cs os
def orderP (l:List Term):S:=if l=[] then [] else [32,111,114,100,101,114,32,98,121,32]++sepS (l.map termP)
def printQ (s:Sel):S:=coresP s.cores s.ops++orderP s.order++behind wLimit s.lim++behind wOffset s.off
def atP (cs:List Core) (os:List Int) (i:Nat):S:=match cs[i]? with
 | some c=>(if i=0 then [] else match os[i - 1]? with | some o=>wordP o | none=>[])++coreP c
 | none=>[]
theorem zmK:∀ (cs:List Core) (os:List Int),restP cs os=(List.range cs.length).flatMap fun i=>(match os[i]? with | some o=>wordP o | none=>[])++(match cs[i]? with | some c=>coreP c | none=>[])
 | [],os=>rfl
 | c :: cs,[]=>by
  rw [restP,zmK cs []]
  simp [List.range_succ_eq_map,List.flatMap_map]
 | c :: cs,o :: os=>by
  rw [restP,zmK cs os]
  simp [List.range_succ_eq_map,List.flatMap_map]
theorem coresP_at (cs:List Core) (os:List Int):coresP cs os=(List.range cs.length).flatMap (atP cs os):=by
 cases cs with
 | nil=>rfl
 | cons c cs =>
  rw [coresP,zmK]
  simp only [List.length_cons,List.range_succ_eq_map,List.flatMap_cons,List.flatMap_map]
  congr 1
  simp only [List.flatMap]
  congr 1
  refine List.map_congr_left fun i hi=>?_
  have hi:i < cs.length:=by simpa using hi
  unfold atP
  simp [List.getElem?_eq_getElem hi]
end Qy
namespace Go.Proofs.YtlooegbcfkoloaaGreatDoor
open Go.RowKit
open Vm
theorem inner_eq (k k' kv:Int) (T:Ex.S):(if k=3 then Ex.innU (k',kv,T) else Ex.inn (k',kv,T))=if (3≤k'∧k'≤8)∨(k'=1∧k=3∧kv=1) then 40 :: (T++[41]) else T:=by
 by_cases h3:k=3
 ·rw [if_pos h3,Ex.innU]
  congr 1
  simp [Ex.zcl,h3]
 ·rw [if_neg h3,Ex.inn]
  congr 1
  simp [Ex.zcl,h3]
def shape (k:Int) (d:Bool) (n:Nat):Prop :=
 k=1∨k=2∨(k=3∧n=1)∨(k=4∧n=2)∨(k=5∧n=2)∨(k=6∧2≤n)∨(k=7∧n=3)∨(k=8∧n=2)∨(k=9∧2≤n)∨(k=10∧d=false)∨(k=11∧n=1)∨(k=11∧n=0)∨(k=12∧n=1)
theorem zto {k:Int} {o:Ex.S} {v:Ex.V} {t m:Ex.S} {g d:Bool} {n:Nat} (h:Ex.ownF k o v t m g d n=true):shape k d n:=by
 unfold Ex.ownF at h
 unfold shape
 by_cases hk:k=1
 ·rw [if_pos hk] at h
  simp only [Bool.and_eq_true,Bool.or_eq_true,Bool.not_eq_true',decide_eq_true_eq] at h
  simp only [hk]
  first | (simp;done) | (simp_all;done) | (simp_all;omega)
 rw [if_neg hk] at h
 by_cases hk:k=2
 ·rw [if_pos hk] at h
  simp only [Bool.and_eq_true,Bool.or_eq_true,Bool.not_eq_true',decide_eq_true_eq] at h
  simp only [hk]
  first | (simp;done) | (simp_all;done) | (simp_all;omega)
 rw [if_neg hk] at h
 by_cases hk:k=3
 ·rw [if_pos hk] at h
  simp only [Bool.and_eq_true,Bool.or_eq_true,Bool.not_eq_true',decide_eq_true_eq] at h
  simp only [hk]
  first | (simp;done) | (simp_all;done) | (simp_all;omega)
 rw [if_neg hk] at h
 by_cases hk:k=4
 ·rw [if_pos hk] at h
  simp only [Bool.and_eq_true,Bool.or_eq_true,Bool.not_eq_true',decide_eq_true_eq] at h
  simp only [hk]
  first | (simp;done) | (simp_all;done) | (simp_all;omega)
 rw [if_neg hk] at h
 by_cases hk:k=5
 ·rw [if_pos hk] at h
  simp only [Bool.and_eq_true,Bool.or_eq_true,Bool.not_eq_true',decide_eq_true_eq] at h
  simp only [hk]
  first | (simp;done) | (simp_all;done) | (simp_all;omega)
 rw [if_neg hk] at h
 by_cases hk:k=6
 ·rw [if_pos hk] at h
  simp only [Bool.and_eq_true,Bool.or_eq_true,Bool.not_eq_true',decide_eq_true_eq] at h
  simp only [hk]
  first | (simp;done) | (simp_all;done) | (simp_all;omega)
 rw [if_neg hk] at h
 by_cases hk:k=7
 ·rw [if_pos hk] at h
  simp only [Bool.and_eq_true,Bool.or_eq_true,Bool.not_eq_true',decide_eq_true_eq] at h
  simp only [hk]
  first | (simp;done) | (simp_all;done) | (simp_all;omega)
 rw [if_neg hk] at h
 by_cases hk:k=8
 ·rw [if_pos hk] at h
  simp only [Bool.and_eq_true,Bool.or_eq_true,Bool.not_eq_true',decide_eq_true_eq] at h
  simp only [hk]
  first | (simp;done) | (simp_all;done) | (simp_all;omega)
 rw [if_neg hk] at h
 by_cases hk:k=9
 ·rw [if_pos hk] at h
  simp only [Bool.and_eq_true,Bool.or_eq_true,Bool.not_eq_true',decide_eq_true_eq] at h
  simp only [hk]
  first | (simp;done) | (simp_all;done) | (simp_all;omega)
 rw [if_neg hk] at h
 by_cases hk:k=10
 ·rw [if_pos hk] at h
  simp only [Bool.and_eq_true,Bool.or_eq_true,Bool.not_eq_true',decide_eq_true_eq] at h
  simp only [hk]
  first | (simp;done) | (simp_all;done) | (simp_all;omega)
 rw [if_neg hk] at h
 by_cases hk:k=11
 ·rw [if_pos hk] at h
  simp only [Bool.and_eq_true,Bool.or_eq_true,Bool.not_eq_true',decide_eq_true_eq] at h
  simp only [hk]
  first | (simp;done) | (simp_all;done) | (simp_all;omega)
 rw [if_neg hk] at h
 by_cases hk:k=12
 ·rw [if_pos hk] at h
  simp only [Bool.and_eq_true,Bool.or_eq_true,Bool.not_eq_true',decide_eq_true_eq] at h
  simp only [hk]
  first | (simp;done) | (simp_all;done) | (simp_all;omega)
 rw [if_neg hk] at h
 cases h
inductive Qt:Ex.E→Prop
 | mk {e:Ex.E}:Ex.N64 e→e.val.2.2.length≤1000000→(∀ x∈e.args,Qt x)→Qt e
theorem Qt.n {e:Ex.E} (h:Qt e):Ex.N64 e:=by cases h;assumption
theorem Qt.v {e:Ex.E} (h:Qt e):e.val.2.2.length≤1000000:=by cases h;assumption
theorem Qt.a {e:Ex.E} (h:Qt e):∀ x∈e.args,Qt x:=by cases h;assumption
theorem zhw (c:Ex.C):c.2.2.length≤(Ex.inn c).length:=by
 unfold Ex.inn;split<;>simp<;>omega
theorem innU_ge (c:Ex.C):c.2.2.length≤(Ex.innU c).length:=by
 unfold Ex.innU;split<;>simp<;>omega
abbrev kO (e:Ex.E):Ex.C:=(e.kind,e.val.1,Ex.print e)
theorem zjj:∀ {l:List Ex.E} {x:Ex.E},x∈l→(Ex.print x).length≤(Ex.commas (Ex.prints l)).length
 | [y],x,h=>by
  obtain rfl:=List.mem_singleton.1 h
  exact Nat.le_refl _
 | y :: z :: r,x,h=>by
  rw [Ex.prints,Ex.prints,Ex.commas]
  ·rcases List.mem_cons.1 h with rfl | h
   ·simp only [List.length_append];omega
   ·have:=zjj h
    rw [Ex.prints] at this
    simp only [List.length_append];omega
  ·intro h;cases h
theorem zj3:∀ {l:List Ex.E} {x:Ex.E},x∈l→(Ex.print x).length≤(Ex.zdP (Ex.prints l)).length
 | [y],x,h=>by
  obtain rfl:=List.mem_singleton.1 h
  rw [Ex.prints,Ex.prints,Ex.zdP]
  simp only [List.length_append];omega
 | y :: z :: r,x,h=>by
  rw [Ex.prints,Ex.prints,Ex.zdP]
  simp only [List.length_append]
  rcases List.mem_cons.1 h with rfl | h
  ·omega
  ·rcases List.mem_cons.1 h with rfl | h
   ·omega
   ·have:=zj3 h
    omega
theorem case_mem {d:Bool} {l:List Ex.E} {x:Ex.E} (h:x∈l):(Ex.print x).length≤(Ex.zjm d (Ex.prints l)).length:=by
 unfold Ex.zjm
 cases d
 ·have:=zj3 h
  simp only [Bool.false_eq_true,if_false,List.length_append];omega
 ·simp only [if_true,List.length_append]
  cases l with
  | nil=>cases h
  | cons y r =>
   rw [Ex.prints]
   simp only [Ex.kid,List.drop_succ_cons,List.drop_zero,List.getElem?_cons_zero,Option.getD_some]
   rcases List.mem_cons.1 h with rfl | h
   ·omega
   ·have:=zj3 h
    omega
theorem zlQ:∀ s:Ex.S,(Ex.za8 s).length≤2 * s.length
 | []=>Nat.le_refl _
 | c :: r=>by
  have:=zlQ r
  rw [Ex.za8]
  split<;>simp<;>omega
theorem zd7 (x y:List UInt8) (h:x.length≤2000000000) (h':y.length≤2000000000):strV .add x y=some (.str (x++y)):=st_add x y (by omega)
def accL {α:Type} (f:α→Vm.V) (l:List α) (i:Nat):Vm.V:=if i=0 then .nils else .list ((l.take i).map f)
theorem accL_0 {α:Type} (f:α→Vm.V) (l:List α):accL f l 0=.nils:=rfl
theorem zvd {α:Type} (z b:Nat) (f:α→Vm.V) (l:List α) (i:Nat) (h:i < l.length) (hz:∀ x,(f x).size=z) (hb:l.length * (b+1)≤140737488355328):appV z b (accL f l i) (.list [f l[i]])=some (accL f l (i+1)):=by
 have h2:l.take (i+1)=l.take i++[l[i]]:=by rw [List.take_add_one,List.getElem?_eq_getElem h];rfl
 have hm:(i+1) * (b+1)≤l.length * (b+1):=Nat.mul_le_mul_right _ h
 have hz2:∀ y∈[f l[i]],y.size=z:=fun y hy=>by rw [List.mem_singleton.1 hy];exact hz _
 unfold accL
 rw [if_neg (Nat.succ_ne_zero i),h2,List.map_append]
 by_cases h0:i=0
 ·subst h0
  rw [if_pos rfl,app_n z b _ hz2 (by simpa using Nat.le_trans hm hb)]
  simp
 ·rw [if_neg h0,zpM z b _ _ hz2 (by simp;rw [Nat.min_eq_left (Nat.le_of_lt h)];omega)]
  rfl
theorem zvi {α:Type} (f:α→Vm.V) (l:List α):norm1 (accL f l l.length)=.list (l.map f):=by
 unfold accL
 split
 ·rename_i h
  rw [List.eq_nil_of_length_eq_zero h]
  rfl
 ·rw [List.take_length];rfl
theorem zmz {α:Type} (z:Nat) (f:α→Vm.V) (l:List α) (i:Nat) (hz:∀ x,(f x).size=z) (h:i≤l.length):slL z (.list (l.map f)) (some (.int .i64 (i:Int))) none=some (.list ((l.drop i).map f)):=by
 have h1:∀ x∈l.map f,x.size=z:=fun x hx=>by
  obtain ⟨y,_,rfl⟩:=List.mem_map.1 hx
  exact hz y
 have h2:(l.map f).take l.length=l.map f:=List.take_of_length_le (by simp)
 simp [slL,zfx,bnd,norm0,h,hz,List.map_drop,h2]
end Go.Proofs.YtlooegbcfkoloaaGreatDoor
namespace Go.Proofs.YtlooegbcfkoloaaGreatDoor
open Go.RowKit
open Vm
variable [Gl]
theorem ev_num {n:Int} (h1:-9223372036854775808≤n) (h2:n≤9223372036854775807):pr.ev 119 [.int .i64 n] []=some (.ret (.str (Ox.num n)),[]):=pr.ofN rfl (by show ziq (zoN [.int .i64 n])=_;simp [ziq,zoN,h1,h2])
theorem ev_hex {s:List UInt8} (hs:s.length≤1000000):pr.ev 121 [.str s] []=some (.ret (.str (Ox.hex s)),[]):=pr.ofN rfl (by show ziq (ans1 _ [.str s])=_;simp [ziq,ans1,hs])
theorem znj {l:List (List UInt8)} {s:List UInt8} (h1:l.length≤1000000) (h2:(Lib.join l s).length≤1000000000):pr.ev 42 [.list (l.map Vm.V.str),.str s] []=some (.ret (.str (Lib.join l s)),[]):=pr.ofN rfl (by show ziq (zle [.list (l.map Vm.V.str),.str s])=_;simp [ziq,zle,zly,h1,h2])
theorem ev_repl {s:List UInt8} (hs:s.length≤1000000):pr.ev 120 [.str s,.str [39],.str [39,39]] []=some (.ret (.str (Ex.za8 s)),[]):=pr.ofN rfl (by show ziq (zld [.str s,.str [39],.str [39,39]])=_;simp [ziq,zld,hs])
theorem m_Quote {v:Ex.V} (h1:-9223372036854775808≤v.2.1) (h2:v.2.1≤9223372036854775807) (h3:v.2.2.length≤1000000):pr.ev 88 [.agg [.int .i64 v.1,.int .i64 v.2.1,.str v.2.2]] []=some (.ret (.str (Ex.valP v)),[]):=by
 refine pr.of rfl rfl rfl (znS _ _ _ _) ?_
 have hq:=zlQ v.2.2
 have hx:=zt8 v.2.2
 unfold Ex.valP
 by_cases k0:v.1=0
 ·simp [zcy,ckA_agg,k0,rtn,Ex.zmn]
 by_cases k1:v.1=1
 ·simp [zcy,ckA_agg,k1,rtn,zac (ev_num h1 h2)]
 by_cases k2:v.1=2
 ·simp [zcy,ckA_agg,k2,rtn,zac (ev_repl h3),zd7,show (Ex.za8 v.2.2).length≤2000000000 by omega,show (Ex.za8 v.2.2).length+1≤2000000000 by omega]
 by_cases k3:v.1=3
 ·simp [zcy,ckA_agg,k3,rtn,zac (ev_hex h3),zd7,show (Ox.hex v.2.2).length≤2000000000 by omega,show (Ox.hex v.2.2).length+1+1≤2000000000 by omega]
 ·simp [zcy,ckA_agg,k0,k1,k2,k3,rtn]
theorem zkP {e x:Ex.E} {i:Nat} (hx:e.args[i]?=some x) (hl:e.args.length≤1000000):pr.ev 94 [encE e,.int .i64 (i:Int)] []=some (.ret (encE x),[]):=by
 refine pr.of rfl (by simp only [List.map,(zd6 _).rd];rfl) rfl (zo7 _ _ _ _ _) ?_
 have hlt:=(List.getElem?_eq_some_iff.1 hx).1
 have hxi:e.args[i]=x:=(List.getElem?_eq_some_iff.1 hx).2
 have h10:cell (encE e) 10=.list (e.args.map encE):=by cases e;rw [enc_mk];rfl
 simp [-Int.natCast_add,zjp,h10,hlt,zk3,hxi,zjt,rtn]
theorem m_not {e:Ex.E} {w:Ex.S} (hw:w.length≤1000):pr.ev 90 [encE e,.str w] []=some (.ret (.str (Ex.notW e.neg w)),[]):=by
 refine pr.of rfl (by simp only [List.map,(zd6 _).rd];rfl) rfl (zry _ _ _ _ _) ?_
 have h8:cell (encE e) 8=.bool e.neg:=by cases e;rw [enc_mk];rfl
 cases h:e.neg<;>simp [zkj,h8,h,Ex.notW,zd7,rtn,show w.length≤2000000000 by omega,show w.length+1≤2000000000 by omega,show w.length+1+1+1+1+1≤2000000000 by omega]
theorem ztS {e x:Ex.E} {i:Nat} (hx:e.args[i]?=some x) (hl:e.args.length≤1000000) (hT:(Ex.print x).length≤1000000000) (hp:pr.ev 43 [encE x] []=some (.ret (.str (Ex.print x)),[])) :
  pr.ev 89 [encE e,.int .i64 (i:Int)] []=some (.ret (.str (if e.kind=3 then Ex.innU (kO x) else Ex.inn (kO x))),[]):=by
 refine pr.of rfl (by simp only [List.map,(zd6 _).rd];rfl) rfl (znX _ _ _ _ _) ?_
 have h0:cell (encE e) 0=.int .i64 e.kind:=by cases e;rw [enc_mk];rfl
 have x0:cell (encE x) 0=.int .i64 x.kind:=by cases x;rw [enc_mk];rfl
 have x2:cell (encE x) 2=.int .i64 x.val.1:=by cases x;rw [enc_mk];rfl
 rw [inner_eq]
 have b1:(Ex.print x).length≤2000000000:=by omega
 have b2:(Ex.print x).length+1≤2000000000:=by omega
 have hsh:=fun a b c d=>show zaA pr.ev lup a b (.bool true) c d=_ from rfl
 by_cases hk:3≤x.kind∧x.kind≤8
 ·have:x.kind=3∨x.kind=4∨x.kind=5∨x.kind=6∨x.kind=7∨x.kind=8:=by omega
  rw [if_pos (.inl hk)]
  rcases this with h | h | h | h | h | h<;>simp [sh_expr_inner,zaA,zac (zkP hx hl),zac hp,x0,h,zd7,b1,b2,rtn]
 ·have n3:¬ x.kind=3:=by omega
  have n4:¬ x.kind=4:=by omega
  have n5:¬ x.kind=5:=by omega
  have n6:¬ x.kind=6:=by omega
  have n7:¬ x.kind=7:=by omega
  have n8:¬ x.kind=8:=by omega
  by_cases k1:x.kind=1
  ·by_cases k3:e.kind=3
   ·by_cases kv:x.val.1=1
    ·simp [sh_expr_inner,zaA,zci,zac (zkP hx hl),zac hp,x0,x2,h0,k1,k3,kv,zd7,b1,b2,rtn]
    ·simp [sh_expr_inner,zaA,zci,zac (zkP hx hl),zac hp,x0,x2,h0,k1,k3,kv,rtn]
   ·simp [sh_expr_inner,zaA,zci,zac (zkP hx hl),zac hp,x0,x2,h0,k1,k3,rtn]
  ·rw [if_neg (by omega)]
   simp [sh_expr_inner,zaA,zac (zkP hx hl),zac hp,x0,n3,n4,n5,n6,n7,n8,k1,rtn]
end Go.Proofs.YtlooegbcfkoloaaGreatDoor
namespace Go.Proofs.YtlooegbcfkoloaaGreatDoor
open Go.RowKit
open Vm
variable [Gl]
def PrA (l:List Ex.E):Prop:=∀ x∈l,pr.ev 43 [encE x] []=some (.ret (.str (Ex.print x)),[])
theorem zkS (l:List Ex.E) (hl:l.length≤900000) (hp:PrA l) (hlen:(Lib.join (l.map Ex.print) [44,32]).length≤100000000):∀ (n i:Nat),i+n=l.length →
  lup Out (zcD pr.ev lup) [.list (l.map encE),.int .i64 l.length,.int .i64 (i:Int),accL (fun e=>Vm.V.str (Ex.print e)) l i]=some (.ret (.str (40 :: (Lib.join (l.map Ex.print) [44,32]++[41]))),[])
 | 0,i,hi=>by
  obtain rfl:i=l.length:=by omega
  have hj:=znj (l:=l.map Ex.print) (s:=[44,32]) (by simp;omega) (by omega)
  rw [List.map_map] at hj
  have b1:(Lib.join (l.map Ex.print) [44,32]).length≤2000000000:=by omega
  have b2:(Lib.join (l.map Ex.print) [44,32]).length+1≤2000000000:=by omega
  have hn:=zvi (fun e=>Vm.V.str (Ex.print e)) l
  rw [zaF]
  have hj2:pr.ev 42 [.list (l.map fun e=>Vm.V.str (Ex.print e)),.str [44,32]] []=some (.ret (.str (Lib.join (l.map Ex.print) [44,32])),[]):=hj
  simp [-Int.natCast_add,zcD,zfw,hn,zac hj2,zd7,b1,b2,rtn]
 | n+1,i,hi=>by
  have h1:i < l.length:=by omega
  have hx:=hp _ (List.getElem_mem h1)
  have ih:=zkS l hl hp hlen n (i+1) (by omega)
  have ha:=zvd 1 16 (fun e=>Vm.V.str (Ex.print e)) l i h1 (fun _=>rfl) (by omega)
  rw [zaF]
  simp [-Int.natCast_add,zcD,h1,zk3,zjt,zac hx,ha,zcs (show i≤1000000 by omega),ih]
theorem zuQ (l:List Ex.E):Ex.commas (Ex.prints l)=Lib.join (l.map Ex.print) [44,32]:=by
 rw [Ex.zk9,Ex.zi8,List.map_map]
 rfl
theorem zqK (l:List Ex.E) (hl:l.length≤900000) (hp:PrA l) (hlen:(Ex.commas (Ex.prints l)).length≤100000000):pr.ev 91 [.list (l.map encE)] []=some (.ret (.str (40 :: (Ex.commas (Ex.prints l)++[41]))),[]):=by
 refine pr.of rfl rfl rfl (zmJ _ _ _ _) ?_
 rw [zuQ] at hlen ⊢
 have h:=zkS l hl hp hlen l.length 0 (by omega)
 simpa [-Int.natCast_add,zhp,accL_0] using h
theorem zge (k:Int) (o:Ex.S) (v:Ex.V) (t n:Ex.S) (s:Int) (g d:Bool) (a:List Ex.E):cell (encE (.mk k o v t n s g d a)) 10=.list (a.map encE):=by rw [enc_mk];rfl
theorem mk_0 (k:Int) (o:Ex.S) (v:Ex.V) (t n:Ex.S) (s:Int) (g d:Bool) (a:List Ex.E):cell (encE (.mk k o v t n s g d a)) 0=.int .i64 k:=by rw [enc_mk];rfl
theorem mk_1 (k:Int) (o:Ex.S) (v:Ex.V) (t n:Ex.S) (s:Int) (g d:Bool) (a:List Ex.E):cell (encE (.mk k o v t n s g d a)) 1=.str o:=by rw [enc_mk];rfl
theorem mk_2 (k:Int) (o:Ex.S) (v:Ex.V) (t n:Ex.S) (s:Int) (g d:Bool) (a:List Ex.E):cell (encE (.mk k o v t n s g d a)) 2=.int .i64 v.1:=by rw [enc_mk];rfl
theorem mk_3 (k:Int) (o:Ex.S) (v:Ex.V) (t n:Ex.S) (s:Int) (g d:Bool) (a:List Ex.E):cell (encE (.mk k o v t n s g d a)) 3=.int .i64 v.2.1:=by rw [enc_mk];rfl
theorem mk_4 (k:Int) (o:Ex.S) (v:Ex.V) (t n:Ex.S) (s:Int) (g d:Bool) (a:List Ex.E):cell (encE (.mk k o v t n s g d a)) 4=.str v.2.2:=by rw [enc_mk];rfl
theorem mk_5 (k:Int) (o:Ex.S) (v:Ex.V) (t n:Ex.S) (s:Int) (g d:Bool) (a:List Ex.E):cell (encE (.mk k o v t n s g d a)) 5=.str t:=by rw [enc_mk];rfl
theorem mk_6 (k:Int) (o:Ex.S) (v:Ex.V) (t n:Ex.S) (s:Int) (g d:Bool) (a:List Ex.E):cell (encE (.mk k o v t n s g d a)) 6=.str n:=by rw [enc_mk];rfl
theorem mk_8 (k:Int) (o:Ex.S) (v:Ex.V) (t n:Ex.S) (s:Int) (g d:Bool) (a:List Ex.E):cell (encE (.mk k o v t n s g d a)) 8=.bool g:=by rw [enc_mk];rfl
theorem mk_9 (k:Int) (o:Ex.S) (v:Ex.V) (t n:Ex.S) (s:Int) (g d:Bool) (a:List Ex.E):cell (encE (.mk k o v t n s g d a)) 9=.bool d:=by rw [enc_mk];rfl
section
variable (o:Ex.S) (v:Ex.V) (t nm:Ex.S) (s:Int) (g d:Bool)
theorem ztT (a:List Ex.E) (T:Ex.S) (hT:T.length+o.length≤100000000) (h:pr.ev 91 [.list (a.map encE)] []=some (.ret (.str T),[])):pr.ev 93 [encE (.mk 10 o v t nm s g d a)] []=some (.ret (.str (o++T)),[]):=by
 refine pr.of rfl (by simp only [List.map,(zd6 _).rd];rfl) rfl (zd4 _ _ _ _) ?_
 simp [zcC,mk_0,mk_1,zge,zac h,zd7,show T.length≤2000000000 by omega,show o.length≤2000000000 by omega,rtn]
theorem zrL (x:Ex.E) (hT:(Ex.print x).length+o.length≤100000000) (h:pr.ev 43 [encE x] []=some (.ret (.str (Ex.print x)),[])) :
  pr.ev 93 [encE (.mk 11 o v t nm s g d [x])] []=some (.ret (.str (if d then o++[40]++Ex.zae++[32]++Ex.print x++[41] else o++[40]++Ex.print x++[41])),[]):=by
 refine pr.of rfl (by simp only [List.map,(zd6 _).rd];rfl) rfl (zd4 _ _ _ _) ?_
 have hpt:=zkP (e:=.mk 11 o v t nm s g d [x]) (x:=x) (i:=0) rfl (by simp [Ex.E.args])
 simp only [Int.natCast_zero] at hpt
 cases d<;>simp (disch:=first | omega | (simp only [List.length_append,List.length_cons,List.length_nil];omega) | fail) [zcC,mk_0,mk_1,mk_9,zge,zac hpt,zac h,zd7,rtn,Ex.zae]
theorem zpt (hT:o.length≤100000000):pr.ev 93 [encE (.mk 11 o v t nm s g d [])] []=some (.ret (.str (o++[40,42,41])),[]):=by
 refine pr.of rfl (by simp only [List.map,(zd6 _).rd];rfl) rfl (zd4 _ _ _ _) ?_
 simp [zcC,mk_0,mk_1,zge,zd7,show o.length≤2000000000 by omega,rtn]
end
theorem ziD (W U:List (List UInt8)) (h:W.length+U.length≤1000000):appV 1 16 (.list (W.map .str)) (.list (U.map .str))=some (.list ((W++U).map .str)):=by
 rw [zpM 1 16 _ _ (fun y hy=>by obtain ⟨x,_,rfl⟩:=List.mem_map.1 hy;rfl) (by simp;omega),List.map_append]
theorem zla:∀ (n:Nat) (l:List Ex.E) (W:List (List UInt8)),l.length≤n→PrA l→W.length+2 * l.length+1≤1000000→(Lib.join (W++Ex.zd9 (Ex.prints l)++[Ex.wEnd]) [32]).length≤1000000000 →
  lup Out (zbs pr.ev lup) [.list (l.map encE),.list (W.map .str)]=some (.ret (.str (Lib.join (W++Ex.zd9 (Ex.prints l)++[Ex.wEnd]) [32])),[])
 | _,[],W,_,hp,hW,hT=>by
  have ha:=ziD W [Ex.wEnd] (by simp at hW ⊢;omega)
  simp only [Ex.prints,Ex.zd9,List.append_nil] at hT ⊢
  have hj:=znj (l:=W++[Ex.wEnd]) (s:=[32]) (by simp at hW ⊢;omega) hT
  rw [zaF]
  simp only [Ex.wEnd,List.map_cons,List.map_nil] at ha hj ⊢
  simp [-Int.natCast_add, -List.map_append,zbs,zcK,zb3,ha,zac hj,rtn]
 | _,[x],W,_,hp,hW,hT=>by
  have hx:=hp x (by simp)
  have ha1:=ziD W [Ex.ziO,Ex.print x] (by simp at hW ⊢;omega)
  have ha:=ziD (W++[Ex.ziO,Ex.print x]) [Ex.wEnd] (by simp at hW ⊢;omega)
  have hp1:Ex.prints [x]=[(x.kind,x.val.1,Ex.print x)]:=by rw [Ex.prints,Ex.prints]
  rw [hp1,Ex.zd9] at hT ⊢
  dsimp only at hT ⊢
  have hj:=znj (l:=W++[Ex.ziO,Ex.print x]++[Ex.wEnd]) (s:=[32]) (by simp at hW ⊢;omega) hT
  have el:=zk3 [x] 0 .i64
  simp only [Int.natCast_zero,List.map_cons,List.map_nil,List.getElem?_cons_zero,Option.map_some] at el
  rw [zaF]
  simp only [Ex.wEnd,Ex.ziO,List.map_cons,List.map_nil] at ha ha1 hj ⊢
  simp [-Int.natCast_add, -List.map_append, -List.append_assoc,zbs,zcK,zb3,el,zjt,zac hx,ha1,ha,zac hj,rtn]
 | n+1,x :: y :: r,W,hn,hp,hW,hT=>by
  have hx:=hp x (by simp)
  have hy:=hp y (by simp)
  have ha:=ziD W [Ex.zdg,Ex.print x,Ex.wThen,Ex.print y] (by simp at hW ⊢;omega)
  have hp1:Ex.prints (x :: y :: r)=(x.kind,x.val.1,Ex.print x) :: (y.kind,y.val.1,Ex.print y) :: Ex.prints r:=by rw [Ex.prints,Ex.prints]
  rw [hp1,Ex.zd9] at hT ⊢
  dsimp only at hT ⊢
  have e1:W++Ex.zdg :: Ex.print x :: Ex.wThen :: Ex.print y :: Ex.zd9 (Ex.prints r)++[Ex.wEnd]=W++[Ex.zdg,Ex.print x,Ex.wThen,Ex.print y]++Ex.zd9 (Ex.prints r)++[Ex.wEnd]:=by simp
  rw [e1] at hT ⊢
  have ih:=zla n r (W++[Ex.zdg,Ex.print x,Ex.wThen,Ex.print y]) (by simp at hn;omega) (fun z hz=>hp z (by simp [hz])) (by simp at hW ⊢;omega) hT
  have el0:=zk3 (x :: y :: r) 0 .i64
  have el1:=zk3 (x :: y :: r) 1 .i64
  have sl:=zmz 11 encE (x :: y :: r) 2 (fun e=>zdO e) (by simp)
  have hlen:(1:Int) < ((r.length+1+1:Nat):Int):=by omega
  simp only [Int.natCast_zero,Int.natCast_one,show ((2:Nat):Int)=2 from rfl,List.map_cons,List.getElem?_cons_zero,List.getElem?_cons_succ,Option.map_some,List.drop_succ_cons,List.drop_zero] at el0 el1 sl
  rw [zaF,← ih]
  simp only [Ex.zdg,Ex.wThen,List.map_cons,List.map_nil] at ha ⊢
  simp [-Int.natCast_add, -List.map_append, -List.append_assoc,zbs,el0,el1,zjt,zac hx,zac hy,ha,sl,hlen]
theorem m_case (o:Ex.S) (v:Ex.V) (t nm:Ex.S) (s:Int) (g d:Bool) (a:List Ex.E) (hl:a.length≤400000) (hd:d=true→a≠[]) (hlen:(Ex.zjm d (Ex.prints a)).length≤100000000) (hp:PrA a) :
  pr.ev 92 [encE (.mk 9 o v t nm s g d a)] []=some (.ret (.str (Ex.zjm d (Ex.prints a))),[]):=by
 refine pr.of rfl (by simp only [List.map,(zd6 _).rd];rfl) rfl (zjC _ _ _ _) ?_
 rw [Ex.zuT] at hlen ⊢
 cases d
 ·simp only [Bool.false_eq_true,if_false] at hlen ⊢
  have h:=zla a.length a [Ex.wCase] (Nat.le_refl _) hp (by simp;omega) (by simpa using Nat.le_trans hlen (by omega))
  simp only [Ex.wCase,List.map_cons,List.map_nil] at h ⊢
  simpa [zdF,zb2,zb4,mk_9,zge] using h
 ·cases a with
  | nil=>exact absurd rfl (hd rfl)
  | cons x r =>
   have hx:=hp x (by simp)
   have hk:(Ex.kid (Ex.prints (x :: r)) 0).2.2=Ex.print x:=by rw [Ex.prints];rfl
   have hdr:(Ex.prints (x :: r)).drop 1=Ex.prints r:=by rw [Ex.prints];rfl
   simp only [if_true,hk,hdr] at hlen ⊢
   have h:=zla r.length r [Ex.wCase,Ex.print x] (Nat.le_refl _) (fun z hz=>hp z (by simp [hz])) (by simp at hl ⊢;omega) (by simpa using Nat.le_trans hlen (by omega))
   have el0:=zk3 (x :: r) 0 .i64
   have sl:=zmz 11 encE (x :: r) 1 (fun e=>zdO e) (by simp)
   have ha:=ziD [Ex.wCase] [Ex.print x] (by simp)
   simp only [Int.natCast_zero,Int.natCast_one,List.map_cons,List.getElem?_cons_zero,Option.map_some,List.drop_succ_cons,List.drop_zero] at el0 sl
   have hlen:(0:Int) < (r.length:Int)+1:=by omega
   simp only [Ex.wCase,List.map_cons,List.map_nil] at h ha ⊢
   simpa [-Int.natCast_add,zdF,zb2,zb4,mk_9,zge,el0,zjt,zac hx,ha,sl,hlen] using h
end Go.Proofs.YtlooegbcfkoloaaGreatDoor
namespace Go.Proofs.YtlooegbcfkoloaaGreatDoor
open Go.RowKit
open Vm
variable [Gl]
section
variable {k:Int} {o:Ex.S} {v:Ex.V} {t nm:Ex.S} {s:Int} {g d:Bool} {a:List Ex.E} {x:Ex.E} {i:Nat}
theorem innU_at (hx:a[i]?=some x) (hl:a.length≤1000000) (hT:(Ex.print x).length≤1000000000) (hp:pr.ev 43 [encE x] []=some (.ret (.str (Ex.print x)),[])) :
  pr.ev 89 [encE (.mk 3 o v t nm s g d a),.int .i64 (i:Int)] []=some (.ret (.str (Ex.innU (kO x))),[]):=ztS (e:=.mk 3 o v t nm s g d a) hx hl hT hp
theorem zfr (hk:k≠3) (hx:a[i]?=some x) (hl:a.length≤1000000) (hT:(Ex.print x).length≤1000000000) (hp:pr.ev 43 [encE x] []=some (.ret (.str (Ex.print x)),[])) :
  pr.ev 89 [encE (.mk k o v t nm s g d a),.int .i64 (i:Int)] []=some (.ret (.str (Ex.inn (kO x))),[]):=by
 have:=ztS (e:=.mk k o v t nm s g d a) hx hl hT hp
 rwa [if_neg (show ¬ (Ex.E.mk k o v t nm s g d a).kind=3 from hk)] at this
end
set_option maxHeartbeats 4000000 in
theorem ztU:∀ (n:Nat) (e:Ex.E),Ex.deep e≤n→Ex.count e≤400000→Ex.right e=true→Qt e→(Ex.print e).length≤100000000→pr.ev 43 [encE e] []=some (.ret (.str (Ex.print e)),[])
 | 0,.mk k o v t nm s g d a,h,_,_,_,_=>by rw [zh1] at h;omega
 | n+1,.mk k o v t nm s g d a,h,hc,hR,hQ,hl=>by
  rw [zh1] at h
  rw [znn] at hc
  rw [Ex.right,Bool.and_eq_true,Ex.zi2,List.all_eq_true] at hR
  obtain ⟨hO,hR⟩:=hR
  have hS:shape k d a.length:=zto hO
  have hal:=zg0 a
  have ih:∀ x∈a,(Ex.print x).length≤100000000→pr.ev 43 [encE x] []=some (.ret (.str (Ex.print x)),[]):=fun x hx hl=>ztU n x (by have:=zgG hx;omega) (by have:=zgZ hx;omega) (hR x hx) (hQ.a x hx) hl
  have hv:=hQ.v
  have hn:=hQ.n
  simp only [Ex.N64,Ex.E.val] at hn hv
  clear hR hQ h hO
  refine pr.of rfl (by simp only [List.map,(zd6 _).rd];rfl) rfl (znY _ _ _ _) ?_
  rcases hS with rfl | rfl | ⟨rfl,ha⟩ | ⟨rfl,ha⟩ | ⟨rfl,ha⟩ | ⟨rfl,ha⟩ | ⟨rfl,ha⟩ | ⟨rfl,ha⟩ | ⟨rfl,ha⟩ | ⟨rfl,hd⟩ | ⟨rfl,ha⟩ | ⟨rfl,ha⟩ | ⟨rfl,ha⟩
  ·have hpr:Ex.print (.mk 1 o v t nm s g d a)=Ex.valP v:=by rw [Ex.print];rfl
   rw [hpr] at hl ⊢
   simp [zaw,mk_0,mk_2,mk_3,mk_4,zac (m_Quote hn.2 hn.1 hv),rtn]
  ·have hpr:Ex.print (.mk 2 o v t nm s g d a)=if t=[] then nm else t++[46]++nm:=by rw [Ex.print];rfl
   rw [hpr] at hl ⊢
   by_cases ht:t=[]
   ·simp [zaw,mk_0,mk_5,mk_6,ht,rtn]
   ·rw [if_neg ht] at hl ⊢
    simp only [List.length_append,List.length_cons,List.length_nil] at hl
    simp (disch:=first | omega | (simp only [List.length_append,List.length_cons,List.length_nil];omega) | fail) [zaw,mk_0,mk_5,mk_6,ht,zd7,rtn]
  ·obtain ⟨x,rfl⟩:=List.length_eq_one_iff.1 ha
   have hpr:Ex.print (.mk 3 o v t nm s g d [x])=if o=Ex.wNot then Ex.wNot++[32]++Ex.innU (kO x) else o++Ex.innU (kO x):=by rw [Ex.print];rfl
   rw [hpr] at hl ⊢
   have hl2:(Ex.innU (kO x)).length+o.length≤100000000:=by
    by_cases ho:o=Ex.wNot
    ·rw [if_pos ho] at hl
     rw [ho];simp only [List.length_append,List.length_cons,List.length_nil] at hl ⊢;omega
    ·rw [if_neg ho] at hl
     simp only [List.length_append,List.length_cons,List.length_nil] at hl
     omega
   clear hl
   have hga:=innU_ge (kO x)
   have Ia:=innU_at (o:=o) (v:=v) (t:=t) (nm:=nm) (s:=s) (g:=g) (d:=d) (a:=[x]) (x:=x) (i:=0) rfl (by first | (simp;done) | (simp at hal ⊢;omega)) (by dsimp only at hga;omega) (ih x (by simp) (by dsimp only at hga;omega))
   simp only [Int.natCast_zero] at Ia
   generalize Ex.innU (kO x)=T at *
   simp only [Ex.wNot]
   by_cases ho:o=[110,111,116]
   ·simp (disch:=first | omega | (simp only [List.length_append,List.length_cons,List.length_nil];omega) | fail) [-Int.natCast_add,zaw,zan,mk_0,mk_1,mk_8,zge,zd7,rtn,ho,zac Ia]
    subst ho
    simp (disch:=first | omega | (simp only [List.length_append,List.length_cons,List.length_nil];omega) | fail) [-Int.natCast_add,zaw,zan,mk_0,mk_1,mk_8,zge,zd7,rtn,zac Ia]
   ·simp (disch:=first | omega | (simp only [List.length_append,List.length_cons,List.length_nil];omega) | fail) [-Int.natCast_add,zaw,zan,mk_0,mk_1,mk_8,zge,zd7,rtn,ho,zac Ia]
  ·obtain ⟨x,y,rfl⟩:=Ex.len2 ha
   have hpr:Ex.print (.mk 4 o v t nm s g d [x,y])=Ex.inn (kO x)++[32]++o++[32]++Ex.inn (kO y):=by rw [Ex.print];rfl
   rw [hpr] at hl ⊢
   simp only [List.length_append,List.length_cons,List.length_nil] at hl
   have hga:=zhw (kO x)
   have Ia:=zfr (by decide) (k:=4) (o:=o) (v:=v) (t:=t) (nm:=nm) (s:=s) (g:=g) (d:=d) (a:=[x,y]) (x:=x) (i:=0) rfl (by first | (simp;done) | (simp at hal ⊢;omega)) (by dsimp only at hga;omega) (ih x (by simp) (by dsimp only at hga;omega))
   simp only [Int.natCast_zero] at Ia
   have hgb:=zhw (kO y)
   have Ib:=zfr (by decide) (k:=4) (o:=o) (v:=v) (t:=t) (nm:=nm) (s:=s) (g:=g) (d:=d) (a:=[x,y]) (x:=y) (i:=1) rfl (by first | (simp;done) | (simp at hal ⊢;omega)) (by dsimp only at hgb;omega) (ih y (by simp) (by dsimp only at hgb;omega))
   simp only [Int.natCast_one] at Ib
   generalize Ex.inn (kO x)=T at *
   generalize Ex.inn (kO y)=U at *
   simp (disch:=first | omega | (simp only [List.length_append,List.length_cons,List.length_nil];omega) | fail) [-Int.natCast_add,zaw,zan,mk_0,mk_1,mk_8,zge,zd7,rtn,zac Ia,zac Ib]
  ·obtain ⟨x,y,rfl⟩:=Ex.len2 ha
   have hpr:Ex.print (.mk 5 o v t nm s g d [x,y])=Ex.inn (kO x)++[32]++Ex.wIs++[32]++(if g then Ex.wNot++[32] else [])++Ex.inn (kO y):=by rw [Ex.print];rfl
   rw [hpr] at hl ⊢
   simp only [List.length_append,List.length_cons,List.length_nil] at hl
   have hga:=zhw (kO x)
   have Ia:=zfr (by decide) (k:=5) (o:=o) (v:=v) (t:=t) (nm:=nm) (s:=s) (g:=g) (d:=d) (a:=[x,y]) (x:=x) (i:=0) rfl (by first | (simp;done) | (simp at hal ⊢;omega)) (by dsimp only at hga;omega) (ih x (by simp) (by dsimp only at hga;omega))
   simp only [Int.natCast_zero] at Ia
   have hgb:=zhw (kO y)
   have Ib:=zfr (by decide) (k:=5) (o:=o) (v:=v) (t:=t) (nm:=nm) (s:=s) (g:=g) (d:=d) (a:=[x,y]) (x:=y) (i:=1) rfl (by first | (simp;done) | (simp at hal ⊢;omega)) (by dsimp only at hgb;omega) (ih y (by simp) (by dsimp only at hgb;omega))
   simp only [Int.natCast_one] at Ib
   generalize Ex.inn (kO x)=T at *
   generalize Ex.inn (kO y)=U at *
   cases g<;>simp (disch:=first | omega | (simp only [List.length_append,List.length_cons,List.length_nil];omega) | fail) [-Int.natCast_add,zaw,zan,mk_0,mk_1,mk_8,zge,zd7,rtn,zac Ia,zac Ib,Ex.wIs,Ex.wNot]
  ·obtain ⟨x,r,rfl⟩:∃ x r,a=x :: r:=by
    cases a with
    | nil=>simp at ha
    | cons x r=>exact ⟨x,r,rfl⟩
   have hpr:Ex.print (.mk 6 o v t nm s g d (x :: r))=Ex.inn (kO x)++Ex.notW g [105,110]++[40]++Ex.commas (Ex.prints r)++[41]:=by rw [Ex.print];rfl
   rw [hpr] at hl ⊢
   simp only [List.length_append,List.length_cons,List.length_nil] at hl
   have hga:=zhw (kO x)
   have Ia:=zfr (by decide) (k:=6) (o:=o) (v:=v) (t:=t) (nm:=nm) (s:=s) (g:=g) (d:=d) (a:=(x :: r)) (x:=x) (i:=0) rfl (by first | (simp;done) | (simp at hal ⊢;omega)) (by dsimp only at hga;omega) (ih x (by simp) (by dsimp only at hga;omega))
   simp only [Int.natCast_zero] at Ia
   have Fn:=m_not (e:=.mk 6 o v t nm s g d (x :: r)) (w:=[105,110]) (by decide)
   simp only [Ex.E.neg] at Fn
   have Fl:=zqK r (by simp at hal;omega) (fun z hz=>ih z (by simp [hz]) (by have:=zjj hz;omega)) (by omega)
   have sl:=zmz 11 encE (x :: r) 1 (fun e=>zdO e) (by simp)
   simp only [Int.natCast_one,List.map_cons,List.drop_succ_cons,List.drop_zero] at sl
   have hmm:zjz .min (.int .i64 1) (.int .i64 ((r.length+1:Nat):Int))=some (.int .i64 1):=by
    have:¬ (((r.length+1:Nat):Int) < 1):=by omega
    simp [zjz, -Int.natCast_add,this]
   generalize Ex.inn (kO x)=T at *
   generalize Ex.notW g [105,110]=U at *
   generalize Ex.commas (Ex.prints r)=W at *
   simp (disch:=first | omega | (simp only [List.length_append,List.length_cons,List.length_nil];omega) | fail) [-Int.natCast_add,zaw,zan,mk_0,mk_1,mk_8,zge,zd7,rtn,zac Ia,zac Fn,zac Fl,sl,hmm]
  ·obtain ⟨x,y,z,rfl⟩:=Ex.len3 ha
   have hpr:Ex.print (.mk 7 o v t nm s g d [x,y,z])=Ex.inn (kO x)++Ex.notW g [98,101,116,119,101,101,110]++Ex.inn (kO y)++[32]++Ex.wAnd++[32]++Ex.inn (kO z):=by rw [Ex.print];rfl
   rw [hpr] at hl ⊢
   simp only [List.length_append,List.length_cons,List.length_nil] at hl
   have hga:=zhw (kO x)
   have Ia:=zfr (by decide) (k:=7) (o:=o) (v:=v) (t:=t) (nm:=nm) (s:=s) (g:=g) (d:=d) (a:=[x,y,z]) (x:=x) (i:=0) rfl (by first | (simp;done) | (simp at hal ⊢;omega)) (by dsimp only at hga;omega) (ih x (by simp) (by dsimp only at hga;omega))
   simp only [Int.natCast_zero] at Ia
   have hgb:=zhw (kO y)
   have Ib:=zfr (by decide) (k:=7) (o:=o) (v:=v) (t:=t) (nm:=nm) (s:=s) (g:=g) (d:=d) (a:=[x,y,z]) (x:=y) (i:=1) rfl (by first | (simp;done) | (simp at hal ⊢;omega)) (by dsimp only at hgb;omega) (ih y (by simp) (by dsimp only at hgb;omega))
   simp only [Int.natCast_one] at Ib
   have hgc:=zhw (kO z)
   have Ic:=zfr (by decide) (k:=7) (o:=o) (v:=v) (t:=t) (nm:=nm) (s:=s) (g:=g) (d:=d) (a:=[x,y,z]) (x:=z) (i:=2) rfl (by first | (simp;done) | (simp at hal ⊢;omega)) (by dsimp only at hgc;omega) (ih z (by simp) (by dsimp only at hgc;omega))
   simp only [show ((2:Nat):Int)=2 from rfl] at Ic
   have Fn:=m_not (e:=.mk 7 o v t nm s g d [x,y,z]) (w:=[98,101,116,119,101,101,110]) (by decide)
   simp only [Ex.E.neg] at Fn
   generalize Ex.inn (kO x)=T at *
   generalize Ex.inn (kO y)=U at *
   generalize Ex.inn (kO z)=W at *
   generalize Ex.notW g [98,101,116,119,101,101,110]=X at *
   simp (disch:=first | omega | (simp only [List.length_append,List.length_cons,List.length_nil];omega) | fail) [-Int.natCast_add,zaw,zan,mk_0,mk_1,mk_8,zge,zd7,rtn,zac Ia,zac Ib,zac Ic,zac Fn,Ex.wAnd]
  ·obtain ⟨x,y,rfl⟩:=Ex.len2 ha
   have hpr:Ex.print (.mk 8 o v t nm s g d [x,y])=Ex.inn (kO x)++Ex.notW g [108,105,107,101]++Ex.inn (kO y):=by rw [Ex.print];rfl
   rw [hpr] at hl ⊢
   simp only [List.length_append,List.length_cons,List.length_nil] at hl
   have hga:=zhw (kO x)
   have Ia:=zfr (by decide) (k:=8) (o:=o) (v:=v) (t:=t) (nm:=nm) (s:=s) (g:=g) (d:=d) (a:=[x,y]) (x:=x) (i:=0) rfl (by first | (simp;done) | (simp at hal ⊢;omega)) (by dsimp only at hga;omega) (ih x (by simp) (by dsimp only at hga;omega))
   simp only [Int.natCast_zero] at Ia
   have hgb:=zhw (kO y)
   have Ib:=zfr (by decide) (k:=8) (o:=o) (v:=v) (t:=t) (nm:=nm) (s:=s) (g:=g) (d:=d) (a:=[x,y]) (x:=y) (i:=1) rfl (by first | (simp;done) | (simp at hal ⊢;omega)) (by dsimp only at hgb;omega) (ih y (by simp) (by dsimp only at hgb;omega))
   simp only [Int.natCast_one] at Ib
   have Fn:=m_not (e:=.mk 8 o v t nm s g d [x,y]) (w:=[108,105,107,101]) (by decide)
   simp only [Ex.E.neg] at Fn
   generalize Ex.inn (kO x)=T at *
   generalize Ex.inn (kO y)=U at *
   generalize Ex.notW g [108,105,107,101]=X at *
   simp (disch:=first | omega | (simp only [List.length_append,List.length_cons,List.length_nil];omega) | fail) [-Int.natCast_add,zaw,zan,mk_0,mk_1,mk_8,zge,zd7,rtn,zac Ia,zac Ib,zac Fn]
  ·have hpr:Ex.print (.mk 9 o v t nm s g d a)=Ex.zjm d (Ex.prints a):=by rw [Ex.print];rfl
   rw [hpr] at hl ⊢
   have F:=m_case o v t nm s g d a (by omega) (fun _ h0=>by subst h0;simp at ha) hl (fun x hx=>ih x hx (by have:=case_mem (d:=d) hx;omega))
   simp (disch:=first | omega | (simp only [List.length_append,List.length_cons,List.length_nil];omega) | fail) [-Int.natCast_add,zaw,zan,mk_0,mk_1,mk_8,zge,zd7,rtn,zac F]
  ·have hpr:Ex.print (.mk 10 o v t nm s g d a)=o++[40]++Ex.commas (Ex.prints a)++[41]:=by rw [Ex.print,Ex.pr];simp [Ex.E.kind,Ex.E.dist,hd,Ex.E.op]
   rw [hpr] at hl ⊢
   simp only [List.length_append,List.length_cons,List.length_nil] at hl
   have Fl:=zqK a (by omega) (fun z hz=>ih z hz (by have:=zjj hz;omega)) (by omega)
   have F:=ztT o v t nm s g d a _ (by simp only [List.length_append,List.length_cons,List.length_nil];omega) Fl
   simp (disch:=first | omega | (simp only [List.length_append,List.length_cons,List.length_nil];omega) | fail) [-Int.natCast_add,zaw,zan,mk_0,mk_1,mk_8,zge,zd7,rtn,zac F]
  ·obtain ⟨x,rfl⟩:=List.length_eq_one_iff.1 ha
   have hpr:Ex.print (.mk 11 o v t nm s g d [x])=if d then o++[40]++Ex.zae++[32]++Ex.print x++[41] else o++[40]++Ex.print x++[41]:=by rw [Ex.print,Ex.prints,Ex.prints,Ex.pr];cases d<;>simp [Ex.E.kind,Ex.E.dist,Ex.E.op,Ex.commas]
   rw [hpr] at hl ⊢
   have hl2:(Ex.print x).length+o.length≤100000000:=by
    cases d<;>simp at hl<;>omega
   have F:=zrL o v t nm s g d x hl2 (ih x (by simp) (by omega))
   simp (disch:=first | omega | (simp only [List.length_append,List.length_cons,List.length_nil];omega) | fail) [-Int.natCast_add,zaw,zan,mk_0,mk_1,mk_8,zge,zd7,rtn,zac F]
  ·obtain rfl:a=[]:=List.eq_nil_of_length_eq_zero (by first | exact ha | exact ha.1)
   have hpr:Ex.print (.mk 11 o v t nm s g d [])=o++[40,42,41]:=by rw [Ex.print,Ex.prints,Ex.pr];simp [Ex.E.kind,Ex.E.op]
   rw [hpr] at hl ⊢
   simp only [List.length_append,List.length_cons,List.length_nil] at hl
   have F:=zpt o v t nm s g d (by omega)
   simp (disch:=first | omega | (simp only [List.length_append,List.length_cons,List.length_nil];omega) | fail) [-Int.natCast_add,zaw,zan,mk_0,mk_1,mk_8,zge,zd7,rtn,zac F]
  ·obtain ⟨x,rfl⟩:=List.length_eq_one_iff.1 ha
   have hpr:Ex.print (.mk 12 o v t nm s g d [x])=Ex.wCast++[40]++Ex.print x++[32]++Ex.wAs++[32]++o++[41]:=by rw [Ex.print,Ex.prints,Ex.prints,Ex.pr];simp [Ex.E.kind,Ex.E.op,Ex.kid]
   rw [hpr] at hl ⊢
   simp only [List.length_append,List.length_cons,List.length_nil] at hl
   have hpt:=zkP (e:=.mk 12 o v t nm s g d [x]) (x:=x) (i:=0) rfl (by simp [Ex.E.args])
   simp only [Int.natCast_zero] at hpt
   have Ip:=ih x (by simp) (by omega)
   generalize Ex.print x=T at *
   simp (disch:=first | omega | (simp only [List.length_append,List.length_cons,List.length_nil];omega) | fail) [-Int.natCast_add,zaw,zan,mk_0,mk_1,mk_8,zge,zd7,rtn,zac hpt,zac Ip,Ex.wCast,Ex.wAs]
end Go.Proofs.YtlooegbcfkoloaaGreatDoor
namespace Go.Proofs.YtlooegbcfkoloaaGreatDoor
open Go.RowKit
open Vm
variable [Gl]
noncomputable def lstF (z:Nat) (c:Orc) (s:List Vm.V):Option (Stp Out) :=
 (b0 .lss (gt s 3) (gt s 2)).bind fun v1 =>
 cnd v1 ((elV z (gt s 1) (gt s 3)).bind fun v2 =>
 (ldV true z v2 0).bind fun v3 =>
 ckA z v3 <|
 cl0 c (fnG (gt s 0)) [(norm1 (agN z v3))] (fun w=>om (pnk w [])) fun v4 =>
 ck1 (norm1 v4) <|
 (appV 1 16 (gt s 4) (.list [(norm1 v4)])).bind fun v5 =>
 (b0 .add (gt s 3) (.int .i64 1)).bind fun v6 =>
 some (.next [(.fn (fnG (gt s 0)) [] []),(gt s 1),(gt s 2),v6,v5]))
 (om (cl0 c 42 [(norm1 (gt s 4)),(.str [44,32])] (fun w=>pnk w []) fun v1 =>
 rtn (norm1 v1) []))
section
variable {α:Type} {z:Nat} {enc:α→Vm.V} {g:FuncId} {tx:α→List UInt8} {l:List α} (he:EncOk z enc) (hag:∀ a,agN z (enc a)=enc a) (hld:∀ a,ldV true z (enc a) 0=some (enc a)) (hl:l.length≤900000)
 (hg:∀ a∈l,pr.ev g [enc a] []=some (.ret (.str (tx a)),[])) (hlen:(Qy.sepS (l.map tx)).length≤100000000)
include he hag hld hl hg hlen
theorem zqM:∀ (n i:Nat),i+n=l.length→lup Out (lstF z pr.ev) [.fn g [] [],.list (l.map enc),.int .i64 l.length,.int .i64 (i:Int),accL (fun a=>Vm.V.str (tx a)) l i]=some (.ret (.str (Qy.sepS (l.map tx))),[])
 | 0,i,hi=>by
  obtain rfl:i=l.length:=by omega
  rw [Qy.sepS_join] at hlen ⊢
  have hj:=znj (l:=l.map tx) (s:=[44,32]) (by simp;omega) (by omega)
  rw [List.map_map] at hj
  have hn:=zvi (fun e=>Vm.V.str (tx e)) l
  rw [zaF]
  have hj2:pr.ev 42 [.list (l.map fun e=>Vm.V.str (tx e)),.str [44,32]] []=some (.ret (.str (Go.Lib.join (l.map tx) [44,32])),[]):=hj
  simp [-Int.natCast_add,lstF,hn,zac hj2,rtn]
 | n+1,i,hi=>by
  have h1:i < l.length:=by omega
  have hx:=hg _ (List.getElem_mem h1)
  have ih:=zqM n (i+1) (by omega)
  have ha:=zvd 1 16 (fun e=>Vm.V.str (tx e)) l i h1 (fun _=>rfl) (by omega)
  rw [zaF]
  simp [-Int.natCast_add,lstF,h1,zhz he l i h1,hld,he.ck,hag,he.nm,fnG,zac hx,ha,zcs (show i≤1000000 by omega),ih]
theorem zpv:(lenL (.list (l.map enc))).bind (fun v1=>lup Out (lstF z pr.ev) [(.fn g [] []),.list (l.map enc),v1,(.int .i64 0),.nils])=some (.ret (.str (Qy.sepS (l.map tx))),[]):=by
 have h:=zqM he hag hld hl hg hlen l.length 0 (by omega)
 simpa [accL_0] using h
end
theorem m_lstI {g:FuncId} {tx:Qy.Item→List UInt8} {l:List Qy.Item} (hl:l.length≤900000) (hg:∀ a∈l,pr.ev g [itC a] []=some (.ret (.str (tx a)),[])) (hlen:(Qy.sepS (l.map tx)).length≤100000000) :
  pr.ev 39 [.list (l.map itC),.fn g [] []] []=some (.ret (.str (Qy.sepS (l.map tx))),[]):=by
 refine pr.of rfl rfl rfl (zgc _ _ _ _ _) ?_
 exact zpv zot zl0 itC_ld hl hg hlen
theorem m_lstE {g:FuncId} {tx:Ex.E→List UInt8} {l:List Ex.E} (hl:l.length≤900000) (hg:∀ a∈l,pr.ev g [encE a] []=some (.ret (.str (tx a)),[])) (hlen:(Qy.sepS (l.map tx)).length≤100000000) :
  pr.ev 44 [.list (l.map encE),.fn g [] []] []=some (.ret (.str (Qy.sepS (l.map tx))),[]):=by
 refine pr.of rfl rfl rfl (zgd _ _ _ _ _) ?_
 exact zpv zpC zl8 zjt hl hg hlen
theorem m_lstT {g:FuncId} {tx:Qy.Term→List UInt8} {l:List Qy.Term} (hl:l.length≤900000) (hg:∀ a∈l,pr.ev g [tmC a] []=some (.ret (.str (tx a)),[])) (hlen:(Qy.sepS (l.map tx)).length≤100000000) :
  pr.ev 20 [.list (l.map tmC),.fn g [] []] []=some (.ret (.str (Qy.sepS (l.map tx))),[]):=by
 refine pr.of rfl rfl rfl (zgb _ _ _ _ _) ?_
 exact zpv znH zlv tmC_ld hl hg hlen
def PX (e:Ex.E):Prop:=pr.ev 43 [encE e] []=some (.ret (.str (Ex.print e)),[])
def PL (l:List Ex.E):Prop:=l.length≤900000∧∀ x∈l,PX x
abbrev Sh (s:List UInt8):Prop:=s.length≤100000000
theorem sh_l {a b:List UInt8} (h:Sh (a++b)):Sh a:=by unfold Sh at *;rw [List.length_append] at h;omega
theorem sh_r {a b:List UInt8} (h:Sh (a++b)):Sh b:=by unfold Sh at *;rw [List.length_append] at h;omega
theorem zd8 {a b:List UInt8} (h:Sh (a++b)):strV .add a b=some (.str (a++b)):=zd7 a b (by have:=sh_l h;unfold Sh at this;omega) (by have:=sh_r h;unfold Sh at this;omega)
theorem zgV {w:List UInt8} {l:List Ex.E} (hp:PL l) (h:Sh (Qy.behind w l)) (hw:w.length≤1000):pr.ev 22 [.str w,.list (l.map encE)] []=some (.ret (.str (Qy.behind w l)),[]):=by
 refine pr.of rfl rfl rfl (zli _ _ _ _ _) ?_
 unfold Qy.behind at h ⊢
 by_cases hl:l=[]
 ·subst hl;simp [zet,rtn]
 ·rw [if_neg hl] at h ⊢
  have hll:=m_lstE hp.1 hp.2 (sh_r h)
  have a1:=zd8 (sh_l (sh_l h))
  have a2:=zd8 (sh_l h)
  have a3:=zd8 h
  have hl2:¬ (l.length:Int)=0:=by simpa using hl
  simp only [List.append_assoc,List.cons_append,List.nil_append] at a1 a2 a3
  simp [zet,hl,a1,a2,a3,zac hll,rtn]
theorem m_pitem {x:Qy.Item} (hp:x.star=false→PX x.e) (h:Sh (Qy.itemP x)):pr.ev 40 [itC x] []=some (.ret (.str (Qy.itemP x)),[]):=by
 refine pr.of rfl rfl rfl (znV _ _ _ _) ?_
 obtain ⟨c11,c12,c13⟩:=itC_11 x
 unfold Qy.itemP at h ⊢
 cases hs:x.star
 ·rw [hs] at h c12
  simp only [Bool.false_eq_true,if_false] at h ⊢
  have hx:=hp hs
  unfold PX at hx
  by_cases hn:x.name=[]
  ·simp [zdl,zbI,zl0,itC_x,c11,c12,c13,hn,zac hx,rtn]
  ·rw [if_neg hn] at h ⊢
   have a1:=zd8 (sh_l h)
   have a2:=zd8 h
   simp only [List.append_assoc,List.cons_append,List.nil_append] at a1 a2
   simp [zdl,zbI,zl0,itC_x,c11,c12,c13,hn,zac hx,rtn,a1,a2]
 ·rw [hs] at h c12
  simp only [if_true] at h ⊢
  by_cases hn:x.table=[]
  ·simp [zdl,zbI,zl0,c11,c12,c13,hn,rtn]
  ·rw [if_neg hn] at h ⊢
   have a1:=zd8 h
   simp [zdl,zbI,zl0,c11,c12,c13,hn,rtn,a1]
theorem m_pterm {t:Qy.Term} (hp:PX t.e) (h:Sh (Qy.termP t)):pr.ev 21 [tmC t] []=some (.ret (.str (Qy.termP t)),[]):=by
 refine pr.of rfl rfl rfl (znU _ _ _ _) ?_
 obtain ⟨c11,c12⟩:=tmC_11 t
 unfold Qy.termP at h ⊢
 unfold PX at hp
 by_cases hc:t.coll=1
 ·rw [if_pos hc] at h ⊢
  have a1:=zd8 (sh_l h)
  cases hd:t.desc
  ·rw [hd] at c12
   simp [zdj,zbH,zlv,zsv,c11,c12,hc,zac hp,a1,rtn]
  ·rw [hd] at c12 h
   have a2:=zd8 h
   simp only [if_true,List.append_assoc,List.cons_append,List.nil_append] at a1 a2
   simp [zdj,zbH,zlv,zsv,c11,c12,hc,zac hp,a1,a2,rtn]
 ·rw [if_neg hc,List.append_nil] at h ⊢
  cases hd:t.desc
  ·rw [hd] at c12
   simp [zdj,zbH,zlv,zsv,c11,c12,hc,zac hp,rtn]
  ·rw [hd] at c12 h
   have a2:=zd8 h
   simp only [if_true] at a2
   simp [zdj,zbH,zlv,zsv,c11,c12,hc,zac hp,a2,rtn]
theorem m_pword (o:Int):pr.ev 18 [.int .i64 o] []=some (.ret (.str (Qy.wordP o)),[]):=by
 refine pr.of rfl rfl rfl (znT _ _ _ _) ?_
 unfold Qy.wordP
 by_cases h1:o=1
 ·simp [zdi,h1,rtn]
 by_cases h2:o=2
 ·simp [zdi,h2,rtn]
 by_cases h3:o=3
 ·simp [zdi,h3,rtn]
 ·simp [zdi,h1,h2,h3,rtn]
end Go.Proofs.YtlooegbcfkoloaaGreatDoor
namespace Go.Proofs.YtlooegbcfkoloaaGreatDoor
open Go.RowKit
open Vm
variable [Gl]
def zib (l:List Qy.From) (i:Nat):List UInt8:=Qy.tablesP (l.take i)
theorem zsF (l:List Qy.From):zib l 0=[]:=rfl
theorem zsE (l:List Qy.From) (i:Nat) (h:i < l.length):zib l (i+1)=zib l i++Qy.fromP (decide (i=0)) l[i]:=by
 cases l with
 | nil=>cases h
 | cons f r =>
  cases i with
  | zero=>simp [zib,Qy.tablesP]
  | succ i =>
   have h':i < r.length:=by simpa using h
   show Qy.tablesP (f :: r.take (i+1))=Qy.tablesP (f :: r.take i)++Qy.fromP false r[i]
   rw [List.take_add_one,List.getElem?_eq_getElem h']
   show Qy.fromP true f++(r.take i++[r[i]]).flatMap (Qy.fromP false)=(Qy.fromP true f++(r.take i).flatMap (Qy.fromP false))++Qy.fromP false r[i]
   rw [List.flatMap_append,List.append_assoc]
   simp
theorem zp1 (l:List Qy.From):∀ (d i:Nat),i+d=l.length→Sh (zib l l.length)→Sh (zib l i)
 | 0,i,hi,h=>by rw [show i=l.length by omega];exact h
 | d+1,i,hi,h=>by
  have:=zp1 l d (i+1) (by omega) h
  rw [zsE l i (by omega)] at this
  exact sh_l this
theorem m_ptabs {l:List Qy.From} (hl:l.length≤900000) (hp:∀ f∈l,PL f.on) (h:Sh (Qy.tablesP l)):pr.ev 41 [.list (l.map frC)] []=some (.ret (.str (Qy.tablesP l)),[]):=by
 refine pr.of rfl rfl rfl (zlh _ _ _ _) ?_
 have e0:Qy.tablesP l=zib l l.length:=by unfold zib;rw [List.take_length]
 rw [e0] at h ⊢
 have key:∀ (n i:Nat),i+n=l.length→lup Out (zaP pr.ev lup) [.str (zib l i),.list (l.map frC),.int .i64 l.length,.int .i64 (i:Int)]=some (.ret (.str (zib l l.length)),[]):=by
  intro n
  induction n with
  | zero =>
   intro i hi
   obtain rfl:i=l.length:=by omega
   rw [zaF]
   simp [-Int.natCast_add,zaP,rtn]
  | succ n ih =>
   intro i hi
   have h1:i < l.length:=by omega
   have ih:=ih (i+1) (by omega)
   have hs:=zp1 l n (i+1) (by omega) h
   rw [zsE l i h1] at hs ih
   obtain ⟨f0,f1,f2,f3⟩:=fr_1 l[i]
   have hon:=hp _ (List.getElem_mem h1)
   have hw:=zcs (p:=i) (by omega)
   have hel:=zhz zei l i h1
   generalize l[i]=f at *
   have hsf:=sh_r hs
   have j3:∀ (s:List UInt8) (b:Bool),Sh (s++(if b=true then Qy.behind Qy.wOn f.on else []))→zbK pr.ev lup (.str s) (.list (l.map frC)) (.int .i64 l.length) (.int .i64 (i:Int)) (.bool b) (frC f)=some (.next [.str (s++(if b=true then Qy.behind Qy.wOn f.on else [])),.list (l.map frC),.int .i64 l.length,.int .i64 ((i+1:Nat):Int)]):=by
    intro s b hb
    cases b
    ·simp [-Int.natCast_add,zbK,hw]
    ·simp only [if_true] at hb ⊢
     have hbh:=zgV hon (sh_r hb) (by decide)
     have ha:=zd8 hb
     simp only [Qy.wOn] at hbh ha ⊢
     simp [-Int.natCast_add,zbK,f3,zac hbh,ha,hw]
   have j2:∀ s:List UInt8,Sh (s++(if decide (i=0)=false∧f.join≠0 then Qy.behind Qy.wOn f.on else []))→zbm pr.ev lup (.str s) (.int .i64 (i:Int)) (.list (l.map frC)) (.int .i64 l.length) (.int .i64 (i:Int)) (frC f)=some (.next [.str (s++(if decide (i=0)=false∧f.join≠0 then Qy.behind Qy.wOn f.on else [])),.list (l.map frC),.int .i64 l.length,.int .i64 ((i+1:Nat):Int)]):=by
    intro s hs
    by_cases hi0:i=0
    ·have hi2:¬ (0 < i):=by omega
     have:=j3 s false (by simpa [hi0] using hs)
     simpa [-Int.natCast_add,zbm,hi2,hi0] using this
    ·have hi2:0 < i:=by omega
     by_cases hj:f.join=0
     ·have:=j3 s false (by simpa [hj] using hs)
      simpa [-Int.natCast_add,zbm,hi2,f2,hj] using this
     ·have:=j3 s true (by simpa [hi0,hj] using hs)
      have hb:(f.join == 0)=false:=by simpa using hj
      simpa [-Int.natCast_add,zbm,hi2,hi0,f2,hj,hb] using this
   have j1:∀ s:List UInt8,Sh (s++f.table++Qy.asP f++(if decide (i=0)=false∧f.join≠0 then Qy.behind Qy.wOn f.on else []))→zaQ pr.ev lup (.str s) (.int .i64 (i:Int)) (.list (l.map frC)) (.int .i64 l.length) (.int .i64 (i:Int)) (frC f)=some (.next [.str (s++f.table++Qy.asP f++(if decide (i=0)=false∧f.join≠0 then Qy.behind Qy.wOn f.on else [])),.list (l.map frC),.int .i64 l.length,.int .i64 ((i+1:Nat):Int)]):=by
    intro s hs
    have j:=j2 _ hs
    have a1:=zd8 (sh_l (sh_l hs))
    have a2:=zd8 (sh_l hs)
    unfold Qy.asP at *
    by_cases ha:f.as_=f.table
    ·simp only [if_pos ha,List.append_nil] at j a2 ⊢
     simp [-Int.natCast_add, -List.append_assoc,zaQ,f0,f1,a1,ha,j]
    ·simp only [if_neg ha] at j a2 ⊢
     rw [if_neg ha] at hs
     have a3:=zd8 (sh_r (sh_l hs))
     generalize s++f.table=s1 at *
     simp only [List.cons_append,List.nil_append] at a3 a2 j ⊢
     simp [-Int.natCast_add,zaQ,f0,f1,a1,ha,a3,a2]
     simpa [-Int.natCast_add] using j
   have e:zib l i++Qy.fromP (decide (i=0)) f=(zib l i++(if decide (i=0)=true then [32,102,114,111,109,32] else Qy.joinP f.join))++f.table++Qy.asP f++(if decide (i=0)=false∧f.join≠0 then Qy.behind Qy.wOn f.on else []):=by
    unfold Qy.fromP;simp only [List.append_assoc]
   rw [e] at hs ih
   have j:=j1 _ hs
   have ah:=zd8 (sh_l (sh_l (sh_l hs)))
   rw [zaF]
   suffices b:zaP pr.ev lup [.str (zib l i),.list (l.map frC),.int .i64 l.length,.int .i64 (i:Int)]=zaQ pr.ev lup (.str (zib l i++(if decide (i=0)=true then [32,102,114,111,109,32] else Qy.joinP f.join))) (.int .i64 (i:Int)) (.list (l.map frC)) (.int .i64 l.length) (.int .i64 (i:Int)) (frC f) by
    rw [b,j];exact ih
   clear ih j j1 j2 j3 e hs
   by_cases hi0:i=0
   ·subst hi0
    simp only [Int.natCast_zero] at *
    simp [-Int.natCast_add,zsF,zaP,h1,hel,zug,zei.ck]
   ·simp only [decide_eq_false hi0,Bool.false_eq_true,if_false] at ah ⊢
    unfold Qy.joinP at *
    by_cases j1':f.join=1
    ·simp only [j1',if_true] at ah ⊢
     simp [-Int.natCast_add,zaP,h1,hel,zug,zei.ck,hi0,f2,j1',ah]
    ·simp only [j1',if_false] at ah ⊢
     by_cases j2':f.join=2
     ·simp only [j2',if_true] at ah ⊢
      simp [-Int.natCast_add,zaP,h1,hel,zug,zei.ck,hi0,f2,j2',ah]
     ·simp only [j2',if_false] at ah ⊢
      simp [-Int.natCast_add,zaP,h1,hel,zug,zei.ck,hi0,f2,j1',j2',ah]
 have h0:=key l.length 0 (by omega)
 simpa [zsF,zgl] using h0
end Go.Proofs.YtlooegbcfkoloaaGreatDoor
namespace Go.Proofs.YtlooegbcfkoloaaGreatDoor
open Go.RowKit
open Vm
variable [Gl]
structure PC (c:Qy.Core):Prop where
 il:c.items.length≤900000
 i:∀ x∈c.items,x.star=false→PX x.e
 fl:c.from_.length≤900000
 f:∀ f∈c.from_,PL f.on
 w:PL c.wher
 h:PL c.having
 g:PL c.group
structure PS (s:Qy.Sel):Prop where
 cl:s.cores.length≤900000
 c:∀ c∈s.cores,PC c
 ol:s.ops.length≤900000
 tl:s.order.length≤900000
 t:∀ t∈s.order,PX t.e
 l:PL s.lim
 o:PL s.off
theorem zkk {l:List (List UInt8)} {a:List UInt8} (h:Sh (Qy.sepS l)) (ha:a∈l):Sh a:=by
 induction l with
 | nil=>cases ha
 | cons x r ih =>
  cases r with
  | nil =>
   rcases List.mem_cons.1 ha with rfl | ha
   ·exact h
   ·cases ha
  | cons y r =>
   rw [Qy.sepS] at h
   rcases List.mem_cons.1 ha with rfl | ha
   ·exact sh_l (sh_l h)
   ·exact ih (sh_r h) ha
theorem m_pcore {c:Qy.Core} (hp:PC c) (h:Sh (Qy.coreP c)):pr.ev 19 [coC c] []=some (.ret (.str (Qy.coreP c)),[]):=by
 refine pr.of rfl rfl rfl (znW _ _ _ _) ?_
 obtain ⟨c0,c1,c2,c3,c4,c5⟩:=co_1 c
 have hI:=m_lstI (g:=40) (tx:=Qy.itemP) hp.il (fun x hx=>m_pitem (hp.i x hx) (zkk (sh_l (sh_l (sh_r (sh_l (sh_l h))))) (List.mem_map_of_mem hx))) (sh_l (sh_l (sh_r (sh_l (sh_l h)))))
 have hF:=m_ptabs hp.fl hp.f (sh_r (sh_l (sh_r (sh_l (sh_l h)))))
 have hW:=zgV hp.w (sh_r (sh_r (sh_l (sh_l h)))) (by decide)
 have hG:=zgV hp.g (sh_r (sh_l h)) (by decide)
 have hH:=zgV hp.h (sh_r h) (by decide)
 have a1:=zd8 (sh_l (sh_r (sh_l (sh_l h))))
 have a2:=zd8 (sh_r (sh_l (sh_l h)))
 have a3:=zd8 (sh_l (sh_l h))
 have a4:=zd8 (sh_l h)
 have a5:=zd8 h
 have hw:∀ s:List UInt8,oeq (.ret (.str s),[]) (.ret (.str s),[])=true:=fun s=>oeq_w rfl
 simp only [Qy.wWhere,Qy.wGroupBy,Qy.wHaving] at hW hG hH a1 a2 a3 a4 a5
 show _=some (POut.ret (.str (Qy.selP c.dist++(Qy.sepS (c.items.map Qy.itemP)++Qy.tablesP c.from_++Qy.behind [119,104,101,114,101] c.wher)++Qy.behind [103,114,111,117,112,32,98,121] c.group++Qy.behind [104,97,118,105,110,103] c.having)),[])
 have j1:zcT pr.ev lup (.str (Qy.selP c.dist)) (coC c)=some (.ret (.str (Qy.selP c.dist++(Qy.sepS (c.items.map Qy.itemP)++Qy.tablesP c.from_++Qy.behind [119,104,101,114,101] c.wher)++Qy.behind [103,114,111,117,112,32,98,121] c.group++Qy.behind [104,97,118,105,110,103] c.having)),[]):=by
  generalize Qy.selP c.dist=s0 at *
  generalize Qy.sepS (c.items.map Qy.itemP)=s1 at *
  generalize Qy.tablesP c.from_=s2 at *
  generalize Qy.behind [119,104,101,114,101] c.wher=s3 at *
  generalize Qy.behind [103,114,111,117,112,32,98,121] c.group=s4 at *
  generalize Qy.behind [104,97,118,105,110,103] c.having=s5 at *
  simp [-List.append_assoc,zcT,zd3,c1,c2,c3,c4,c5,zac hI,zac hF,zac hW,zac hG,zac hH,a1,a2,a3,a4,a5,rtn,ag,zhm,hw]
 cases hd:c.dist
 ·rw [hd] at j1 c0
  simp only [Qy.selP,Bool.false_eq_true,if_false] at j1 ⊢
  simpa [-List.append_assoc, -List.cons_append,zfN,zdx.ck,c0] using j1
 ·rw [hd] at j1 c0
  simp only [Qy.selP,if_true] at j1 ⊢
  have a0:strV .add [115,101,108,101,99,116,32] [100,105,115,116,105,110,99,116,32]=some (.str [115,101,108,101,99,116,32,100,105,115,116,105,110,99,116,32]):=zd7 _ _ (by decide) (by decide)
  simpa [-List.append_assoc, -List.cons_append,zfN,zdx.ck,c0,a0] using j1
def corP (cs:List Qy.Core) (os:List Int) (i:Nat):List UInt8:=(List.range i).flatMap (Qy.atP cs os)
theorem corP_s (cs:List Qy.Core) (os:List Int) (i:Nat):corP cs os (i+1)=corP cs os i++Qy.atP cs os i:=by simp [corP,List.range_succ]
theorem zuO (cs:List Qy.Core) (os:List Int):∀ (d i:Nat),Sh (corP cs os (i+d))→Sh (corP cs os i)
 | 0,i,h=>h
 | d+1,i,h=>by
  have:=zuO cs os d (i+1) (by rwa [show i+1+d=i+(d+1) by omega])
  rw [corP_s] at this
  exact sh_l this
theorem m_pQuery {s:Qy.Sel} (hp:PS s) (h:Sh (Qy.printQ s)):pr.ev 9 [seC s] []=some (.ret (.str (Qy.printQ s)),[]):=by
 refine pr.of rfl rfl rfl (zmH _ _ _ _) ?_
 obtain ⟨c0,c1,c2,c3,c4⟩:=se_1 s
 have hcl:=hp.cl
 have hol:=hp.ol
 unfold Qy.printQ at h ⊢
 rw [Qy.coresP_at,show (List.range s.cores.length).flatMap (Qy.atP s.cores s.ops)=corP s.cores s.ops s.cores.length from rfl] at h ⊢
 have hL:=zgV hp.l (sh_r (sh_l h)) (by decide)
 have hO:=zgV hp.o (sh_r h) (by decide)
 have a5:=zd8 h
 have a4:=zd8 (sh_l h)
 simp only [Qy.wLimit,Qy.wOffset] at hL hO a4 a5
 have j1:zcA pr.ev lup (.str (corP s.cores s.ops s.cores.length)) (seC s)=some (.ret (.str (corP s.cores s.ops s.cores.length++Qy.orderP s.order++Qy.behind Qy.wLimit s.lim++Qy.behind Qy.wOffset s.off)),[]):=by
  have hc:Sh (corP s.cores s.ops s.cores.length++Qy.orderP s.order):=sh_l (sh_l h)
  have j2:zcz pr.ev lup (.str (corP s.cores s.ops s.cores.length++Qy.orderP s.order)) (seC s)=some (.ret (.str (corP s.cores s.ops s.cores.length++Qy.orderP s.order++Qy.behind Qy.wLimit s.lim++Qy.behind Qy.wOffset s.off)),[]):=by
   simp only [Qy.wLimit,Qy.wOffset]
   generalize corP s.cores s.ops s.cores.length++Qy.orderP s.order=x at *
   simp [-List.append_assoc,zcz,c3,c4,zac hL,zac hO,a4,a5,rtn]
  unfold Qy.orderP at hc j2 ⊢
  by_cases ho:s.order=[]
  ·simp only [ho,if_true,List.append_nil] at j2 ⊢
   simpa [-List.append_assoc,zcA,c2,ho] using j2
  ·simp only [ho,if_false] at hc j2 ⊢
   have hT:=m_lstT (g:=21) (tx:=Qy.termP) hp.tl (fun x hx=>m_pterm (hp.t x hx) (zkk (sh_r (sh_r hc)) (List.mem_map_of_mem hx))) (sh_r (sh_r hc))
   have b1:=zd8 (sh_r hc)
   have b2:=zd8 hc
   have hpos:0 < s.order.length:=List.length_pos_iff.2 ho
   generalize corP s.cores s.ops s.cores.length=x at *
   simp only [List.cons_append,List.nil_append] at b1 b2 j2 ⊢
   simp [-List.append_assoc,zcA,c2,hpos,zac hT,b1,b2]
   exact j2
 have key:∀ (n i:Nat),i+n=s.cores.length→lup Out (za7 pr.ev lup) [.str (corP s.cores s.ops i),.list (s.cores.map coC),.int .i64 s.cores.length,.int .i64 (i:Int),seC s]=some (.ret (.str (corP s.cores s.ops s.cores.length++Qy.orderP s.order++Qy.behind Qy.wLimit s.lim++Qy.behind Qy.wOffset s.off)),[]):=by
  intro n
  induction n with
  | zero =>
   intro i hi
   obtain rfl:i=s.cores.length:=by omega
   rw [zaF]
   simp [-Int.natCast_add, -List.append_assoc,za7,j1]
  | succ n ih =>
   intro i hi
   have h1:i < s.cores.length:=by omega
   have ih:=ih (i+1) (by omega)
   have hs:Sh (corP s.cores s.ops (i+1)):=zuO s.cores s.ops (s.cores.length - (i+1)) (i+1) (by
    rw [show i+1+(s.cores.length - (i+1))=s.cores.length by omega]
    exact sh_l (sh_l (sh_l h)))
   rw [corP_s] at hs ih
   have hat:Qy.atP s.cores s.ops i=(if i=0 then [] else match s.ops[i - 1]? with | some o=>Qy.wordP o | none=>[])++Qy.coreP s.cores[i]:=by unfold Qy.atP;rw [List.getElem?_eq_getElem h1]<;>rfl
   rw [hat,← List.append_assoc] at hs ih
   have hC:=m_pcore (hp.c _ (List.getElem_mem h1)) (sh_r hs)
   have hel:=zhz zdx s.cores i h1
   have hw:=zcs (p:=i) (by omega)
   have ac:=zd8 hs
   generalize s.cores[i]=c at *
   have j3:zca pr.ev lup (.str (corP s.cores s.ops i++(if i=0 then [] else match s.ops[i - 1]? with | some o=>Qy.wordP o | none=>[]))) (.list (s.cores.map coC)) (.int .i64 s.cores.length) (.int .i64 (i:Int)) (seC s) (coC c) =
     some (.next [.str (corP s.cores s.ops i++(if i=0 then [] else match s.ops[i - 1]? with | some o=>Qy.wordP o | none=>[])++Qy.coreP c),.list (s.cores.map coC),.int .i64 s.cores.length,.int .i64 ((i+1:Nat):Int),seC s]):=by
    generalize corP s.cores s.ops i++(if i=0 then [] else match s.ops[i - 1]? with | some o=>Qy.wordP o | none=>[])=x at *
    simp [-Int.natCast_add, -List.append_assoc,zca,zdx.nm,zac hC,ac,hw]
   suffices b:za7 pr.ev lup [.str (corP s.cores s.ops i),.list (s.cores.map coC),.int .i64 s.cores.length,.int .i64 (i:Int),seC s]=zca pr.ev lup (.str (corP s.cores s.ops i++(if i=0 then [] else match s.ops[i - 1]? with | some o=>Qy.wordP o | none=>[]))) (.list (s.cores.map coC)) (.int .i64 s.cores.length) (.int .i64 (i:Int)) (seC s) (coC c) by
    rw [zaF,b,j3];exact ih
   have aw:=zd8 (sh_l hs)
   clear ih j3 ac hs
   by_cases hi0:i=0
   ·subst hi0
    simp only [Int.natCast_zero] at *
    simp [-Int.natCast_add,za7,zb9,h1,hel,zr6,zdx.ck]
   ·have hi2:(0:Int) < (i:Int):=by omega
    have hi3:0 < i:=by omega
    have hw1:IntKind.wrap .i64 ((i:Int) - 1)=((i - 1:Nat):Int):=by rw [zdf (by omega) (by omega)];omega
    simp only [if_neg hi0] at aw ⊢
    cases ho:s.ops[i - 1]? with
    | none =>
     have hge:¬ i - 1 < s.ops.length:=by simpa using ho
     simp [-Int.natCast_add,za7,zb9,h1,hel,zr6,zdx.ck,hi3,hw1,c1,hge]
    | some o =>
     obtain ⟨hlt,hoe⟩:=List.getElem?_eq_some_iff.1 ho
     rw [ho] at aw
     have elo:elV 1 (.list (s.ops.map (.int .i64))) (.int .i64 ((i - 1:Nat):Int))=some (.int .i64 o):=by rw [zl9 1 (Vm.V.int .i64) s.ops .i64 (i - 1) (fun _=>rfl),ho];rfl
     have ld:ldV false 1 (.int .i64 o) 0=some (.int .i64 o):=rfl
     simp [-Int.natCast_add, -List.append_assoc,za7,zb9,h1,hel,zr6,zdx.ck,hi3,hw1,c1,hlt,elo,ld,zac (m_pword o),aw]
 have h0:=key s.cores.length 0 (by omega)
 simpa [-List.append_assoc,zho,c0,corP] using h0
end Go.Proofs.YtlooegbcfkoloaaGreatDoor
namespace Qy
open Lx Ex
def RX (e:E):Prop:=Rt e∧deep e≤24∧count e≤5000
structure RI (x:Item):Prop where
 e:x.star=false→RX x.e∧x.table=[]∧(x.name=[]∨nmE x.name=true)
 s:x.star=true→x.e=e0∧x.name=[]∧(x.table=[]∨nmE x.table=true)
structure RF (b:Bool) (f:From):Prop where
 t:nmE f.table=true
 a:nmE f.as_=true
 j:f.join=0∨f.join=1∨f.join=2
 b:b=true→f.join=0
 z:f.join=0→f.on=[]
 o:f.join≠0→∃ e,f.on=[e]∧RX e
def RFs:List From→Prop
 | []=>True
 | f :: r=>RF true f∧(∀ x∈r,RF false x)∧r.length≤5
structure RT (t:Term):Prop where
 e:RX t.e
 c:t.coll=0∨t.coll=1
def R1 (l:List E):Prop:=l=[]∨∃ e,l=[e]∧RX e
structure RC (c:Core):Prop where
 i0:c.items≠[]
 i:∀ x∈c.items,RI x
 f:RFs c.from_
 w:R1 c.wher
 h:R1 c.having
 g:∀ x∈c.group,RX x
 il:c.items.length≤5000
 gl:c.group.length≤5000
structure RS (s:Sel):Prop where
 c:∀ x∈s.cores,RC x
 n:s.cores.length=s.ops.length+1
 o:∀ x∈s.ops,0≤x∧x≤3
 t:∀ x∈s.order,RT x
 l:R1 s.lim
 f:R1 s.off
 z:s.lim=[]→s.off=[]
 cl:s.cores.length≤5000
 tl:s.order.length≤5000
def zfU (x:Item):List Pc:=if x.star then (if x.table=[] then [mk zbG] else [nmP x.table,mk mDot,mk zbG]) else if x.name=[] then pcs x.e else pcs x.e++[bk,wd wAs,bk,nmP x.name]
def sepQ:List (List Pc)→List Pc
 | []=>[]
 | [a]=>a
 | a :: b :: r=>a++[mk mComma,bk]++sepQ (b :: r)
def behQ (ws:List Pc) (l:List E):List Pc:=if l=[] then [] else bk :: (ws++(bk :: sepQ (l.map pcs)))
def zfT (j:Int):List Pc:=if j=1 then [bk,wd wJoin,bk] else if j=2 then [bk,wd wLeft,bk,wd wJoin,bk] else [mk mComma,bk]
def asQ (f:From):List Pc:=if f.as_=f.table then [] else [bk,wd wAs,bk,nmP f.as_]
def zfV (b:Bool) (f:From):List Pc:=(if b then [bk,wd wFrom,bk] else zfT f.join)++(nmP f.table :: (asQ f++(if b=false∧f.join≠0 then behQ [wd wOn] f.on else [])))
def ziS:List From→List Pc
 | []=>[]
 | f :: r=>zfV true f++r.flatMap (zfV false)
def selQ (d:Bool):List Pc:=if d then [wd wSelect,bk,wd zae,bk] else [wd wSelect,bk]
def gbQ:List Pc:=[wd wGroup,bk,wd wBy]
def zjg (c:Core):List Pc:=selQ c.dist++(sepQ (c.items.map zfU)++(ziS c.from_++(behQ [wd wWhere] c.wher++(behQ gbQ c.group++behQ [wd wHaving] c.having))))
def ziR (t:Term):List Pc:=pcs t.e++((if t.coll=1 then [bk,wd wCollate,bk,nmP wNocase] else [])++(if t.desc then [bk,wd wDesc] else []))
def zf8 (o:Int):List Pc:=if o=1 then [bk,wd wUnion,bk,wd wAll,bk] else if o=2 then [bk,wd wIntersect,bk] else if o=3 then [bk,wd wExcept,bk] else [bk,wd wUnion,bk]
def zfl:List Core→List Int→List Pc
 | [],_=>[]
 | c :: cs,[]=>zjg c++zfl cs []
 | c :: cs,o :: os=>zf8 o++(zjg c++zfl cs os)
def zk6:List Core→List Int→List Pc
 | [],_=>[]
 | c :: cs,os=>zjg c++zfl cs os
def ordQ (l:List Term):List Pc:=if l=[] then [] else bk :: wd wOrder :: bk :: wd wBy :: bk :: sepQ (l.map ziR)
def queryQ (s:Sel):List Pc:=zk6 s.cores s.ops++(ordQ s.order++(behQ [wd wLimit] s.lim++behQ [wd wOffset] s.off))
theorem zj1:∀ l:List (List Pc),flat (sepQ l)=sepS (l.map flat)
 | []=>rfl
 | [a]=>rfl
 | a :: b :: r=>by
  rw [sepQ,flat_app,flat_app,zj1 (b :: r)]
  simp [sepS,flat_cons,flat_nil,mk,mComma,bk]
theorem zuk (x:Item):flat (zfU x)=itemP x:=by
 unfold zfU itemP
 split
 ·split
  ·rfl
  ·simp [flat_cons,flat_nil,nmP,mk,mDot,zbG]
 ·split
  ·exact zgW _
  ·simp [flat_app,zgW,flat_cons,flat_nil,bk,wd,wAs,nmP]
theorem zgX {ws:List Pc} {w:S} (h:flat ws=w) (l:List E):flat (behQ ws l)=behind w l:=by
 unfold behQ behind
 split
 ·rfl
 ·have e:(l.map pcs).map flat=l.map print:=by rw [List.map_map];exact List.map_congr_left fun x _=>zgW x
  rw [flat_cons,flat_app,flat_cons,zj1,e,h]
  simp [bk]
theorem zoz (b:Bool) (f:From):flat (zfV b f)=fromP b f:=by
 unfold zfV fromP
 have e1:flat (if b then [bk,wd wFrom,bk] else zfT f.join)=(if b then [32,102,114,111,109,32] else joinP f.join):=by
  cases b
  ·simp only [Bool.false_eq_true,if_false]
   unfold zfT joinP
   split
   ·rfl
   ·split<;>rfl
  ·rfl
 have e2:flat (asQ f)=asP f:=by
  unfold asQ asP
  split
  ·rfl
  ·simp [flat_cons,flat_nil,bk,wd,wAs,nmP]
 have e3:flat (if b=false∧f.join≠0 then behQ [wd wOn] f.on else [])=(if b=false∧f.join≠0 then behind wOn f.on else []):=by
  split
  ·exact zgX rfl _
  ·rfl
 rw [flat_app,flat_cons,flat_app,e1,e2,e3]
 simp [nmP]
theorem zuj (l:List From):flat (ziS l)=tablesP l:=by
 have e:∀ r:List From,flat (r.flatMap (zfV false))=r.flatMap (fromP false):=fun r=>by
  induction r with
  | nil=>rfl
  | cons f r ih=>rw [List.flatMap_cons,List.flatMap_cons,flat_app,zoz,ih]
 cases l with
 | nil=>rfl
 | cons f r=>rw [ziS,tablesP,flat_app,zoz,e]
theorem zkY (c:Core):flat (zjg c)=coreP c:=by
 unfold zjg coreP
 have e1:flat (selQ c.dist)=selP c.dist:=by cases c.dist<;>rfl
 have e2:(c.items.map zfU).map flat=c.items.map itemP:=by rw [List.map_map];exact List.map_congr_left fun x _=>zuk x
 rw [flat_app,flat_app,flat_app,flat_app,flat_app,e1,zj1,e2,zuj,zgX (w:=wWhere) rfl,zgX (w:=wGroupBy) rfl,zgX (w:=wHaving) rfl]
 simp
theorem zui (t:Term):flat (ziR t)=termP t:=by
 unfold ziR termP
 have e1:flat (if t.coll=1 then [bk,wd wCollate,bk,nmP wNocase] else [])=(if t.coll=1 then [32,99,111,108,108,97,116,101,32,110,111,99,97,115,101] else []):=by split<;>rfl
 have e2:flat (if t.desc then [bk,wd wDesc] else [])=(if t.desc then [32,100,101,115,99] else []):=by split<;>rfl
 rw [flat_app,flat_app,zgW,e1,e2,List.append_assoc]
theorem zuh (o:Int):flat (zf8 o)=wordP o:=by
 unfold zf8 wordP
 split
 ·rfl
 ·split
  ·rfl
  ·split<;>rfl
theorem zkX:∀ (cs:List Core) (os:List Int),flat (zfl cs os)=restP cs os
 | [],os=>rfl
 | c :: cs,[]=>by rw [zfl,restP,flat_app,zkY,zkX cs []]
 | c :: cs,o :: os=>by rw [zfl,restP,flat_app,flat_app,zuh,zkY,zkX cs os,List.append_assoc]
theorem flat_query (s:Sel):flat (queryQ s)=printQ s:=by
 unfold queryQ printQ
 have e1:flat (zk6 s.cores s.ops)=coresP s.cores s.ops:=by
  cases s.cores with
  | nil=>rfl
  | cons c cs=>rw [zk6,coresP,flat_app,zkY,zkX]
 have e2:flat (ordQ s.order)=orderP s.order:=by
  unfold ordQ orderP
  split
  ·rfl
  ·have e:(s.order.map ziR).map flat=s.order.map termP:=by rw [List.map_map];exact List.map_congr_left fun x _=>zui x
   rw [flat_cons,flat_cons,flat_cons,flat_cons,flat_cons,zj1,e]
   simp [bk,wd,wOrder,wBy]
 rw [flat_app,flat_app,flat_app,e1,e2,zgX (w:=wLimit) rfl,zgX (w:=wOffset) rfl]
 simp
end Qy
namespace Qy
open Lx Ex
def OkT (l:List Pc):Prop:=∀ r,okP r→Sep (flat r)→okP (l++r)∧Sep (flat (l++r))
theorem zfo:OkT []:=fun r h1 h2=>⟨h1,h2⟩
theorem zfS {a b:List Pc} (ha:OkT a) (hb:OkT b):OkT (a++b):=fun r h1 h2=>by
 rw [List.append_assoc]
 obtain ⟨h3,h4⟩:=hb r h1 h2
 exact ha _ h3 h4
theorem zpl {a b:List Pc} (ha:OkE a) (hb:OkT b):OkE (a++b):=fun r h1 h2=>by
 rw [List.append_assoc]
 obtain ⟨h3,h4⟩:=hb r h1 h2
 exact ha _ h3 h4
theorem ze6 {a:List Pc} (ha:OkE a):OkT (bk :: a):=fun r h1 h2=>⟨ok_bk (ha r h1 h2),zbN _⟩
theorem zc9 {w:S} {a:List Pc} (hw:zoO w=true) (ha:OkE a):OkE (wd w :: bk :: a):=fun r h1 h2=>zfn hw (zbN _).n (ok_bk (ha r h1 h2))
theorem okE_w {w:S} (hw:zoO w=true):OkE [wd w]:=fun r h1 h2=>zfn hw h2.n h1
theorem okE_n {w:S} (hw:nmE w=true):OkE [nmP w]:=fun r h1 h2=>ok_nm hw h2.n h1
theorem zqw {e:E} (h:Rt e):OkE (pcs e):=rt_ok h h.n
theorem zm7:∀ l:List (List Pc),(∀ x∈l,OkE x)→OkE (sepQ l)
 | [],_=>fun r h1 _=>h1
 | [a],h=>h a (by simp)
 | a :: b :: l,h=>fun r h1 h2=>by
  rw [sepQ,List.append_assoc,List.append_assoc]
  have h3:=zm7 (b :: l) (fun x hx=>h x (by simp [hx])) r h1 h2
  exact h a (by simp) _ (zm4 (ok_bk h3)) (zkl _)
theorem okE_item {x:Item} (h:RI x):OkE (zfU x):=by
 unfold zfU
 cases hs:x.star
 ·obtain ⟨⟨h1,_⟩,_,h2⟩:=h.e hs
  simp only [Bool.false_eq_true,if_false]
  split
  ·exact zqw h1
  ·rename_i hn
   exact zpl (zqw h1) (ze6 (zc9 (by decide) (okE_n (h2.resolve_left hn))))
 ·obtain ⟨h1,_,h2⟩:=h.s hs
  simp only [if_true]
  split
  ·exact fun r h1 h2=>ok_mk (by decide) (fun h=>by cases h) h1
  ·rename_i hn
   exact fun r h1 _=>ok_nm (h2.resolve_left hn) (zsN _) (ok_mk (by decide) (fun h=>by cases h) (ok_mk (by decide) (fun h=>by cases h) h1))
theorem zqx {l:List E} (h:∀ x∈l,RX x):OkE (sepQ (l.map pcs)):=zm7 _ fun x hx=>by
 obtain ⟨e,he,rfl⟩:=List.mem_map.1 hx
 exact zqw (h e he).1
theorem R1.all {l:List E} (h:R1 l):∀ x∈l,RX x:=by
 rcases h with rfl | ⟨e,rfl,h⟩
 ·intro x hx;cases hx
 ·intro x hx;rw [List.mem_singleton.1 hx];exact h
theorem zkG {w:S} (hw:zoO w=true) {l:List E} (h:∀ x∈l,RX x):OkT (behQ [wd w] l):=by
 unfold behQ
 split
 ·exact zfo
 ·exact ze6 (zc9 hw (zqx h))
theorem okT_gb {l:List E} (h:∀ x∈l,RX x):OkT (behQ gbQ l):=by
 unfold behQ
 split
 ·exact zfo
 ·exact ze6 (zc9 (by decide) (zc9 (by decide) (zqx h)))
theorem ztt {a:List Pc} (ha:OkE a):OkT (mk mComma :: bk :: a):=fun r h1 h2=>⟨zm4 (ok_bk (ha r h1 h2)),zkl _⟩
theorem zqv {b:Bool} {f:From} (h:RF b f):OkT (zfV b f):=by
 have ha:OkT (asQ f):=by
  unfold asQ
  split
  ·exact zfo
  ·exact ze6 (zc9 (by decide) (okE_n h.a))
 have ho:OkT (if b=false∧f.join≠0 then behQ [wd wOn] f.on else []):=by
  split
  ·rename_i hc
   obtain ⟨e,he,hx⟩:=h.o hc.2
   exact zkG (by decide) (by rw [he];intro x hx';rw [List.mem_singleton.1 hx'];exact hx)
  ·exact zfo
 have hn:OkE ([nmP f.table]++(asQ f++(if b=false∧f.join≠0 then behQ [wd wOn] f.on else []))):=zpl (okE_n h.t) (zfS ha ho)
 unfold zfV
 generalize asQ f++(if b=false∧f.join≠0 then behQ [wd wOn] f.on else [])=tl at hn ⊢
 cases b
 ·show OkT (zfT f.join++nmP f.table :: tl)
  unfold zfT
  split
  ·exact ze6 (zc9 (by decide) hn)
  ·split
   ·exact ze6 (zc9 (by decide) (zc9 (by decide) hn))
   ·exact ztt hn
 ·exact ze6 (zc9 (by decide) hn)
theorem okT_tabs {l:List From} (h:RFs l):OkT (ziS l):=by
 cases l with
 | nil=>exact zfo
 | cons f r =>
  obtain ⟨h1,h2,_⟩:=h
  refine zfS (zqv h1) ?_
  clear h1
  induction r with
  | nil=>exact zfo
  | cons g r ih =>
   rw [List.flatMap_cons]
   exact zfS (zqv (h2 g (by simp))) (ih (fun x hx=>h2 x (by simp [hx])) (by simp at *;omega))
theorem zqy {c:Core} (h:RC c):OkE (zjg c):=by
 have ht:OkE (sepQ (c.items.map zfU)++(ziS c.from_++(behQ [wd wWhere] c.wher++(behQ gbQ c.group++behQ [wd wHaving] c.having)))) :=
  zpl (zm7 _ fun x hx=>by obtain ⟨y,hy,rfl⟩:=List.mem_map.1 hx;exact okE_item (h.i y hy))
   (zfS (okT_tabs h.f) (zfS (zkG (by decide) h.w.all) (zfS (okT_gb h.g) (zkG (by decide) h.h.all))))
 unfold zjg selQ
 cases c.dist
 ·exact zc9 (by decide) ht
 ·exact zc9 (by decide) (zc9 (by decide) ht)
theorem okE_term {t:Term} (h:RT t):OkE (ziR t):=by
 refine zpl (zqw h.e.1) (zfS ?_ ?_)
 ·split
  ·exact ze6 (zc9 (by decide) (okE_n (by decide)))
  ·exact zfo
 ·split
  ·exact ze6 (okE_w (by decide))
  ·exact zfo
theorem okT_word (o:Int) {a:List Pc} (ha:OkE a):OkT (zf8 o++a):=by
 unfold zf8
 split
 ·exact ze6 (zc9 (by decide) (zc9 (by decide) ha))
 ·split
  ·exact ze6 (zc9 (by decide) ha)
  ·split
   ·exact ze6 (zc9 (by decide) ha)
   ·exact ze6 (zc9 (by decide) ha)
theorem zqu:∀ (cs:List Core) (os:List Int),(∀ c∈cs,RC c)→cs.length=os.length→OkT (zfl cs os)
 | [],_,_,_=>zfo
 | c :: cs,[],_,h=>by cases h
 | c :: cs,o :: os,h,hn=>by
  rw [zfl]
  exact okT_word o (zpl (zqy (h c (by simp))) (zqu cs os (fun x hx=>h x (by simp [hx])) (by simpa using hn)))
theorem zts {s:Sel} (h:RS s):okP (queryQ s):=by
 have ho:OkT (ordQ s.order):=by
  unfold ordQ
  split
  ·exact zfo
  ·exact ze6 (zc9 (by decide) (zc9 (by decide) (zm7 _ fun x hx=>by obtain ⟨y,hy,rfl⟩:=List.mem_map.1 hx;exact okE_term (h.t y hy))))
 have hc:OkE (zk6 s.cores s.ops):=by
  have hn:=h.n
  have hr:=h.c
  cases hcs:s.cores with
  | nil=>rw [hcs] at hn;simp at hn
  | cons c cs =>
   rw [hcs] at hn hr
   exact zpl (zqy (hr c (by simp))) (zqu cs s.ops (fun x hx=>hr x (by simp [hx])) (by simpa using hn))
 have:=zpl hc (zfS ho (zfS (zkG (w:=wLimit) (by decide) h.l.all) (zkG (w:=wOffset) (by decide) h.f.all))) [] trivial (fun c hc=>by cases hc)
 rw [List.append_nil] at this
 exact this
end Qy
namespace Qy
open Lx Ex
def Le {α:Type} (a b:Option α):Prop:=∀ r,a=some r→b=some r
theorem Le.refl {α:Type} (a:Option α):Le a a:=fun _ h=>h
theorem zbt {a b:Option R} {f g:E→Nat→Option R} (h:Le a b) (hf:∀ e q,Le (f e q) (g e q)):Le (then1 a f) (then1 b g):=fun r hr=>by
 rcases then1_some hr with ⟨e,q,h1,h2⟩ | ⟨q,h1,rfl⟩
 ·rw [h _ h1];exact hf e q r h2
 ·rw [h _ h1];rfl
theorem zpW {a b:Option R} {f g:List E→Nat→Option R} (h:Le a b) (hf:∀ e q,Le (f e q) (g e q)):Le (zg7 a f) (zg7 b g):=fun r hr=>by
 rcases thenL_some hr with ⟨e,q,h1,h2⟩ | ⟨q,h1,rfl⟩
 ·rw [h _ h1];exact hf e q r h2
 ·rw [h _ h1];rfl
theorem zcH {c:Prop} [Decidable c] {a b a' b':Option R} (h1:Le a a') (h2:Le b b'):Le (if c then a else b) (if c then a' else b'):=by
 split
 ·exact h1
 ·exact h2
theorem zkJ {L:List T} {k:Int} {s:S} {p:Nat} {f g:Nat→Option R} (h:∀ q,Le (f q) (g q)):Le (need L k s p f) (need L k s p g):=zcH (h _) (Le.refl _)
theorem zn1 (L:List T):∀ (n:Nat) (K:K) (p:Nat),Le (run L n K p) (run L (n+1) K p)
 | 0,K,p=>fun r h=>by rw [run] at h;cases h
 | n+1,.lev k,p=>by
  have ih:=zn1 L n
  by_cases hk:k≠2∧k≠3∧k≠7∧k≠8
  ·rw [zfk L n k p hk,zfk L (n+1) k p hk]
   exact zbt (ih _ _) fun e q=>ih _ _
  ·have hk':k=2∨k=3∨k=7∨k=8:=by omega
   rcases hk' with rfl | rfl | rfl | rfl
   ·simp only [run]
    exact zcH (zbt (ih _ _) fun _ _=>Le.refl _) (ih _ _)
   ·simp only [run]
    refine zbt (ih _ _) fun a q=>?_
    cases oneOf L q 4 cmps with
    | some op=>exact zbt (ih _ _) fun _ _=>Le.refl _
    | none =>
    dsimp only
    refine zcH (zbt (ih _ _) fun _ _=>Le.refl _) ?_
    refine zcH (zkJ fun _=>zpW (ih _ _) fun _ _=>Le.refl _) ?_
    refine zcH (zbt (ih _ _) fun _ _=>zkJ fun _=>zbt (ih _ _) fun _ _=>Le.refl _) ?_
    exact zcH (zbt (ih _ _) fun _ _=>Le.refl _) (Le.refl _)
   ·simp only [run]
    cases oneOf L p 4 [mMinus,mPlus] with
    | none=>exact ih _ _
    | some op =>
     dsimp only
     cases L[p+1]? with
     | none=>exact zbt (ih _ _) fun _ _=>Le.refl _
     | some t=>exact zcH (Le.refl _) (zbt (ih _ _) fun _ _=>Le.refl _)
   ·simp only [run]
    cases L[p]? with
    | none=>exact Le.refl _
    | some t =>
     dsimp only
     refine zcH (Le.refl _) (zcH ?_ ?_)
     ·refine zcH (Le.refl _) (zcH ?_ (Le.refl _))
      refine zcH (zcH (Le.refl _) (zbt (ih _ _) fun _ _=>Le.refl _)) ?_
      exact zcH (Le.refl _) (zpW (ih _ _) fun _ _=>Le.refl _)
     ·refine zcH (Le.refl _) (zcH ?_ (zcH ?_ (zcH ?_ (Le.refl _))))
      ·exact zcH (ih _ _) (zbt (ih _ _) fun _ _=>ih _ _)
      ·exact zkJ fun _=>zbt (ih _ _) fun _ _=>Le.refl _
      ·exact zbt (ih _ _) fun _ _=>Le.refl _
 | n+1,.chain k e,p=>by
  have ih:=zn1 L n
  simp only [run]
  cases oneOf L p (ops k).2 (ops k).1 with
  | none=>exact Le.refl _
  | some op=>exact zbt (ih _ _) fun _ _=>ih _ _
 | n+1,.list acc,p=>by
  have ih:=zn1 L n
  simp only [run]
  exact zbt (ih _ _) fun _ _=>zcH (ih _ _) (Le.refl _)
 | n+1,.whens d acc,p=>by
  have ih:=zn1 L n
  simp only [run]
  exact zkJ fun _=>zbt (ih _ _) fun _ _=>zkJ fun _=>zbt (ih _ _) fun _ _=>zcH (ih _ _) (zcH (zbt (ih _ _) fun _ _=>Le.refl _) (Le.refl _))
theorem zqh (L:List T) {n m:Nat} (h:n≤m) (K:K) (p:Nat):Le (run L n K p) (run L m K p):=by
 obtain ⟨d,rfl⟩:∃ d,m=n+d:=⟨m - n,by omega⟩
 clear h
 induction d with
 | zero=>exact Le.refl _
 | succ d ih=>exact fun r hr=>zn1 L _ K p r (ih r hr)
theorem run_eq {L:List T} {n m:Nat} {K:K} {p:Nat} {r r':R} (h:run L n K p=some r) (h':run L m K p=some r'):r=r':=by
 have h1:=zqh L (Nat.le_max_left n m) K p r h
 have h2:=zqh L (Nat.le_max_right n m) K p r' h'
 exact Option.some.inj (h1.symm.trans h2)
theorem exprR_of {L:List T} {p q:Nat} {e:E} (hp:p≤L.length) {n:Nat} (h:run L n (.lev 0) p=some (.ok [e] q)) (hd:deep e≤24):exprR L p=.ok e q:=by
 unfold exprR
 rcases exprR_run hp with ⟨e',q',h1⟩ | ⟨q',h1⟩
 ·have:=run_eq h h1
  cases this
  rw [h1]
  exact if_pos hd
 ·have:=run_eq h h1
  cases this
theorem zur {L:List T} {p q:Nat} {e:E} (h:RX e) (hp:p≤L.length) (hs:Sp L p (pcs e) q) (ht:St L 0 q):exprR L p=.ok e q:=by
 obtain ⟨N,hN⟩:=full h.1 (rt_b h.1) hs ht
 exact exprR_of hp (hN N (Nat.le_refl _)) h.2.1
end Qy
namespace Qy
open Lx Ex
def rankA:List (Int×S×Nat):=[(2,wAs,1),(2,wCollate,1),(2,wDesc,2),(2,wOn,2),(4,mComma,3),(2,wJoin,3),(2,wLeft,3),(2,wFrom,4),(2,wWhere,5),(2,wGroup,6),(2,wHaving,7),(2,wUnion,8),(2,wIntersect,8),(2,wExcept,8),(2,wOrder,9),(2,wLimit,10),(2,wOffset,11)]
def zpf (k:Int) (s:S):Nat:=if k=0 then 12 else match rankA.find? fun a=>decide (k=a.1) && s == a.2.1 with | some a=>a.2.2 | none=>0
def rank (t:T):Nat:=zpf t.kind t.text
def Rk (L:List T) (q k:Nat):Prop:=∃ t,L[q]?=some t∧k≤rank t
theorem Rk.mono {L:List T} {q k j:Nat} (h:Rk L q k) (hj:j≤k):Rk L q j:=by
 obtain ⟨t,h1,h2⟩:=h
 exact ⟨t,h1,Nat.le_trans hj h2⟩
theorem Rk.lt {L:List T} {q k:Nat} (h:Rk L q k):q < L.length:=by
 obtain ⟨t,h1,h2⟩:=h
 exact (List.getElem?_eq_some_iff.1 h1).1
theorem Rk.no {L:List T} {q k:Nat} (h:Rk L q k) {kd:Int} {s:S} (hr:zpf kd s < k):isT L q kd s=false:=by
 obtain ⟨t,h1,h2⟩:=h
 rw [zaz h1]
 by_cases hk:t.kind=kd
 ·by_cases hs:t.text=s
  ·subst hk hs
   unfold rank at h2
   omega
  ·simp [hs]
 ·simp [hk]
theorem Rk.st {L:List T} {q:Nat} (h:Rk L q 1):St L 0 q:=by
 obtain ⟨t,h1,h2⟩:=h
 refine St.of h1 ?_
 obtain ⟨k,s,v⟩:=t
 unfold rank zpf at h2
 dsimp only at h2
 split at h2
 ·rename_i hk
  subst hk
  unfold stB
  rw [List.all_eq_true]
  intro a ha
  have:∀ a∈forbA,a.2.1≠0:=by decide
  have:=this a ha
  simp [Ne.symm this]
 ·split at h2
  ·rename_i a ha
   have hm:=List.mem_of_find?_eq_some ha
   have hp:=List.find?_some ha
   simp only [Bool.and_eq_true,decide_eq_true_eq,beq_iff_eq] at hp
   obtain ⟨rfl,rfl⟩:=hp
   have key:∀ a∈rankA,stB 0 ⟨a.1,a.2.1,v0⟩=true:=by decide
   exact key a hm
  ·omega
theorem Rk.at {L:List T} {q:Nat} {t:T} (h:L[q]?=some t) (k:Nat) (hk:k≤zpf t.kind t.text):Rk L q k:=⟨t,h,hk⟩
theorem zg8 {L:List T}:∀ {a:List Pc} {p q:Nat},Sp L p a q→p≤q
 | [],p,q,h=>by have h:q=p:=h;omega
 | none :: a,p,q,h=>zg8 (a:=a) h
 | some t :: a,p,q,h=>by have:=zg8 (a:=a) h.2;omega
theorem zcG {L:List T} {p q:Nat} (h:Sp L p [] q):q=p:=h
variable {L:List T}
theorem zlP {e:E} (h:RX e) {p q:Nat} (hs:Sp L p (pcs e) q) (hr:Rk L q 1):exprR L p=.ok e q :=
 zur h (by have:=zg8 hs;have:=hr.lt;omega) hs hr.st
theorem ztb {n:S} {p:Nat} (h:L[p]?=some ⟨1,n,v0⟩):name L p=.ok n (p+1):=by
 unfold name;rw [h];rfl
theorem zob {w:S} {p:Nat} (h:L[p]?=some ⟨2,w,v0⟩):must L w p=.ok () (p+1):=by
 unfold must;rw [if_pos (isT_yes h)]
theorem zje {p:Nat} {t:T} (h:L[p]?=some t) {k:Int} (hk:t.kind≠k) (s:S):isT L p k s=false:=by
 rw [zaz h];simp [hk]
theorem dot8 {p:Nat} (h1:isK L p 1=true) (h2:isT L (p+1) 4 mDot=true) (h3:isT L (p+2) 4 zbG=true) (n:Nat):run L n (.lev 8) p=none∨run L n (.lev 8) p=some (.stop (p+2)):=by
 cases n with
 | zero=>left;rw [run]
 | succ n =>
  right
  simp only [run]
  unfold isK at h1
  split at h1
  ·rename_i t ht
   have hk:t.kind=1:=by simpa using h1
   rw [ht]
   dsimp only
   rw [if_neg (by rw [hk];decide),if_pos hk,if_pos h2]
   unfold isT at h3
   split at h3
   ·rename_i u hu
    simp only [Bool.and_eq_true,decide_eq_true_eq] at h3
    rw [if_neg (by rw [h3.1];decide)]
   ·cases h3
  ·cases h1
theorem dot_no {p:Nat} (h1:isK L p 1=true) (h2:isT L (p+1) 4 mDot=true) (h3:isT L (p+2) 4 zbG=true):∀ (j n:Nat),j≤8→run L n (.lev (8 - j)) p=none∨run L n (.lev (8 - j)) p=some (.stop (p+2)):=by
 have hk:∃ t,L[p]?=some t∧t.kind=1:=by
  unfold isK at h1
  split at h1
  ·rename_i t ht;exact ⟨t,ht,by simpa using h1⟩
  ·cases h1
 obtain ⟨t,ht,hk⟩:=hk
 have no:∀ {k:Int} {s:S},k≠1→isT L p k s=false:=fun hk'=>zje ht (by rw [hk];exact Ne.symm hk') _
 have t1:∀ {o:Option R} {f:E→Nat→Option R},(o=none∨o=some (.stop (p+2)))→then1 o f=none∨then1 o f=some (.stop (p+2)):=fun h=>by
  rcases h with h | h<;>rw [h]
  ·exact .inl rfl
  ·exact .inr rfl
 intro j
 induction j with
 | zero=>intro n _;exact dot8 h1 h2 h3 n
 | succ j ih =>
  intro n hj
  cases n with
  | zero=>left;rw [run]
  | succ n =>
   have ih:=ih n (by omega)
   have e:8 - j=8 - (j+1)+1:=by omega
   have h7:8 - (j+1)≤7:=by omega
   rw [e] at ih
   generalize 8 - (j+1)=k at *
   by_cases hk4:k≠2∧k≠3∧k≠7∧k≠8
   ·rw [zfk L n k p hk4]
    exact t1 ih
   ·have hk':k=2∨k=3∨k=7∨k=8:=by omega
    rcases hk' with rfl | rfl | rfl | rfl
    ·simp only [run]
     rw [if_neg (by rw [no (by decide)];decide)]
     exact ih
    ·simp only [run]
     exact t1 ih
    ·simp only [run]
     have:oneOf L p 4 [mMinus,mPlus]=none:=zc8 fun s _=>no (by decide)
     rw [this]
     exact ih
    ·omega
end Qy
namespace Qy
open Lx Ex
variable {L:List T}
theorem zjM (a:List Pc):∀ l:List (List Pc),sepQ (a :: l)=a++l.flatMap fun b=>mk mComma :: bk :: b
 | []=>by rw [sepQ];simp
 | b :: l=>by rw [sepQ,zjM b l,List.flatMap_cons];simp
def Back {α:Type} (L:List T) (one:Rd α) (Q:α→List Pc) (P:α→Prop):Prop:=∀ a,P a→∀ p q,Sp L p (Q a) q→Rk L q 3→one p=.ok a q
theorem zq7 {q:Nat} (h:L[q]?=some ⟨4,mComma,v0⟩):Rk L q 3:=Rk.at h 3 (by decide)
theorem zp8 {α:Type} {one:Rd α} {Q:α→List Pc} {P:α→Prop} (ho:Back L one Q P):∀ (l acc:List α) (p q n:Nat),(∀ a∈l,P a)→L.length+1≤n+p→Sp L p (l.flatMap fun b=>mk mComma :: bk :: Q b) q→Rk L q 4→sev L one n acc p=.ok (acc++l) q
 | [],acc,p,q,0,_,hn,hs,hr=>by have:=hr.lt;rw [zcG hs] at this;omega
 | [],acc,p,q,n+1,_,_,hs,hr=>by
  obtain rfl:=zcG hs
  rw [sev,if_neg (by rw [hr.no (by decide)];decide)]
  simp
 | a :: l,acc,p,q,0,_,hn,hs,hr=>by have:=zg8 hs;have:=hr.lt;omega
 | a :: l,acc,p,q,n+1,hP,hn,hs,hr=>by
  rw [List.flatMap_cons] at hs
  have hs:L[p]?=some ⟨4,mComma,v0⟩∧Sp L (p+1) (Q a++l.flatMap fun b=>mk mComma :: bk :: Q b) q:=hs
  obtain ⟨h1,h2⟩:=hs
  obtain ⟨m,h3,h4⟩:=zaU h2
  have hm:Rk L m 3:=by
   cases l with
   | nil=>rw [zcG h4] at hr;exact hr.mono (by omega)
   | cons b l =>
    rw [List.flatMap_cons] at h4
    exact zq7 (show L[m]?=_ from h4.1)
  rw [sev,if_pos (isT_yes h1),ho a (hP a (by simp)) _ _ h3 hm,bind_ok]
  have:=zg8 h3
  rw [zp8 ho l (acc++[a]) m q n (fun x hx=>hP x (by simp [hx])) (by omega) h4 hr]
  simp
theorem zgp {α:Type} {one:Rd α} {Q:α→List Pc} {P:α→Prop} (ho:Back L one Q P) {l:List α} (h0:l≠[]) (hP:∀ a∈l,P a) {p q:Nat} (hs:Sp L p (sepQ (l.map Q)) q) (hr:Rk L q 4):several L one p=.ok l q:=by
 cases l with
 | nil=>exact absurd rfl h0
 | cons a l =>
  rw [List.map_cons,zjM,List.flatMap_map] at hs
  obtain ⟨m,h3,h4⟩:=zaU hs
  have hm:Rk L m 3:=by
   cases l with
   | nil=>rw [zcG h4] at hr;exact hr.mono (by omega)
   | cons b l =>
    rw [List.flatMap_cons] at h4
    exact zq7 (show L[m]?=_ from h4.1)
  unfold several
  rw [ho a (hP a (by simp)) _ _ h3 hm,bind_ok,zp8 ho l [a] m q _ (fun x hx=>hP x (by simp [hx])) (by omega) h4 hr]
  rfl
theorem zuq:Back L (exprR L) pcs RX:=fun e h p q hs hr=>zlP h hs (hr.mono (by omega))
theorem zt4:Back L (item L (exprR L)) zfU RI:=by
 intro x h p q hs hr
 unfold zfU at hs
 unfold item
 obtain ⟨e,n,s,t⟩:=x
 cases s
 ·obtain ⟨h12,h3,h4⟩:=h.e rfl
  dsimp only at h12 h3 h4
  have h1:=h12.1
  subst h3
  simp only [Bool.false_eq_true,if_false] at hs
  have hpre:∃ m,Sp L p (pcs e) m∧Rk L m 1∧(if n=[] then m=q else L[m]?=some ⟨2,wAs,v0⟩∧L[m+1]?=some ⟨1,n,v0⟩∧q=m+2):=by
   by_cases hn:n=[]
   ·rw [if_pos hn] at hs
    exact ⟨q,hs,hr.mono (by omega),by rw [if_pos hn]⟩
   ·rw [if_neg hn] at hs
    obtain ⟨m,h5,h6⟩:=zaU hs
    have h6:L[m]?=some ⟨2,wAs,v0⟩∧L[m+1]?=some ⟨1,n,v0⟩∧q=m+1+1:=h6
    exact ⟨m,h5,Rk.at h6.1 1 (by decide),by rw [if_neg hn];exact h6⟩
  obtain ⟨m,h5,h6,h7⟩:=hpre
  have hX:=zlP h12 h5 h6
  have hb:=zg6 h1 (r:=[]) (by rw [List.append_nil];exact h5)
  rw [if_neg (by rw [hb.2.1];decide)]
  have hnd:(isK L p 1 && (isT L (p+1) 4 mDot && isT L (p+2) 4 zbG))=false:=by
   cases hc:(isK L p 1 && (isT L (p+1) 4 mDot && isT L (p+2) 4 zbG)) with
   | false=>rfl
   | true =>
    simp only [Bool.and_eq_true] at hc
    unfold exprR at hX
    rcases dot_no hc.1 hc.2.1 hc.2.2 8 (12 * L.length+10) (Nat.le_refl _) with h | h<;>(rw [h] at hX;cases hX)
  rw [if_neg (by rw [hnd];decide),hX,bind_ok]
  by_cases hn:n=[]
  ·subst hn
   rw [if_pos rfl] at h7
   subst h7
   rw [if_neg (by rw [hr.no (by decide)];decide)]
  ·rw [if_neg hn] at h7
   obtain ⟨h8,h9,rfl⟩:=h7
   rw [if_pos (isT_yes h8),ztb h9]
   rfl
 ·obtain ⟨h1,h2,h3⟩:=h.s rfl
  dsimp only at h1 h2 h3
  subst h1 h2
  simp only [if_true] at hs
  by_cases ht:t=[]
  ·subst ht
   rw [if_pos rfl] at hs
   have hs:L[p]?=some ⟨4,zbG,v0⟩∧q=p+1:=hs
   rw [if_pos (isT_yes hs.1),hs.2]
  ·rw [if_neg ht] at hs
   have hs:L[p]?=some ⟨1,t,v0⟩∧L[p+1]?=some ⟨4,mDot,v0⟩∧L[p+1+1]?=some ⟨4,zbG,v0⟩∧q=p+1+1+1:=hs
   obtain ⟨h4,h5,h6,rfl⟩:=hs
   have hk:isK L p 1=true:=by unfold isK;rw [h4];rfl
   have hx:txt L p=t:=by unfold txt;rw [h4]
   rw [if_neg (by rw [zje h4 (show (1:Int)≠4 by decide)];decide),if_pos (by rw [hk,isT_yes h5,isT_yes (show L[p+2]?=_ from h6)];rfl),hx]
theorem ziT {f:From} {b:Bool} (h:RF b f) {m:Nat} (hm:m≤5) (j:Int) {p q:Nat} (hs:Sp L p (nmP f.table :: asQ f) q) (hr:Rk L q 2):table L m j p=.ok ⟨f.table,f.as_,j,[]⟩ q:=by
 have hs:L[p]?=some ⟨1,f.table,v0⟩∧Sp L (p+1) (asQ f) q:=hs
 unfold table
 rw [if_neg (by simp;omega),ztb hs.1,bind_ok]
 have h2:=hs.2
 unfold asQ at h2
 by_cases ha:f.as_=f.table
 ·rw [if_pos ha] at h2
  obtain rfl:=zcG h2
  rw [if_neg (by rw [hr.no (by decide)];decide),ha]
 ·rw [if_neg ha] at h2
  have h2:L[p+1]?=some ⟨2,wAs,v0⟩∧L[p+1+1]?=some ⟨1,f.as_,v0⟩∧q=p+1+1+1:=h2
  rw [if_pos (isT_yes h2.1),ztb h2.2.1,h2.2.2]
  rfl
theorem zt3 {j:Int} (hj:j=0∨j=1∨j=2) {p q:Nat} (hs:Sp L p (zfT j) q):join L p=.ok (some j) q:=by
 unfold zfT at hs
 unfold join
 rcases hj with rfl | rfl | rfl
 ·have hs:L[p]?=some ⟨4,mComma,v0⟩∧q=p+1:=hs
  rw [if_pos (isT_yes hs.1),hs.2]
 ·have hs:L[p]?=some ⟨2,wJoin,v0⟩∧q=p+1:=hs
  have no:∀ {s:S},s≠wJoin→isT L p 2 s=false:=fun h=>by rw [zaz hs.1];simp [Ne.symm h]
  rw [if_neg (by rw [zje hs.1 (by decide)];decide),if_neg (by rw [no (by decide)];decide),if_neg (by rw [no (by decide)];decide),if_neg (by rw [no (by decide)];decide),if_pos (isT_yes hs.1),hs.2]
 ·have hs:L[p]?=some ⟨2,wLeft,v0⟩∧L[p+1]?=some ⟨2,wJoin,v0⟩∧q=p+1+1:=hs
  have no:∀ {s:S},s≠wLeft→isT L p 2 s=false:=fun h=>by rw [zaz hs.1];simp [Ne.symm h]
  rw [if_neg (by rw [zje hs.1 (by decide)];decide),if_neg (by rw [no (by decide)];decide),if_neg (by rw [no (by decide)];decide),if_pos (isT_yes hs.1),zob hs.2.1,hs.2.2]
  rfl
theorem zue {f:From} {p q:Nat} {r:List Pc} (hs:Sp L p (zfV false f++r) q):Rk L p 3:=by
 unfold zfV zfT at hs
 by_cases h1:f.join=1
 ·simp only [Bool.false_eq_true,if_false,h1,if_true] at hs
  exact Rk.at (show L[p]?=some ⟨2,wJoin,v0⟩ from hs.1) 3 (by decide)
 ·by_cases h2:f.join=2
  ·simp only [Bool.false_eq_true,if_false,h2,if_true] at hs
   exact Rk.at (show L[p]?=some ⟨2,wLeft,v0⟩ from hs.1) 3 (by decide)
  ·simp only [Bool.false_eq_true,if_false,h1,h2] at hs
   exact Rk.at (show L[p]?=some ⟨4,mComma,v0⟩ from hs.1) 3 (by decide)
theorem zke:∀ (l acc:List From) (p q n:Nat),(∀ f∈l,RF false f)→acc.length+l.length≤6→L.length+1≤n+p→Sp L p (l.flatMap (zfV false)) q→Rk L q 5→tabs L (exprR L) n acc p=.ok (acc++l) q
 | [],acc,p,q,0,_,_,hn,hs,hr=>by have:=hr.lt;rw [zcG hs] at this;omega
 | [],acc,p,q,n+1,_,_,_,hs,hr=>by
  obtain rfl:=zcG hs
  have hj:join L q=.ok none q:=by
   unfold join
   rw [if_neg (by rw [hr.no (by decide)];decide),if_neg (by rw [hr.no (by decide)];decide),if_neg (by rw [hr.no (by decide)];decide),if_neg (by rw [hr.no (by decide)];decide),if_neg (by rw [hr.no (by decide)];decide)]
  rw [tabs,hj,bind_ok]
  simp
 | f :: l,acc,p,q,0,_,_,hn,hs,hr=>by have:=zg8 hs;have:=hr.lt;omega
 | f :: l,acc,p,q,n+1,hP,hl,hn,hs,hr=>by
  have hf:=hP f (by simp)
  rw [List.flatMap_cons] at hs
  obtain ⟨m,h1,h2⟩:=zaU hs
  have hm:Rk L m 3:=by
   cases l with
   | nil=>rw [zcG h2] at hr;exact hr.mono (by omega)
   | cons b l=>rw [List.flatMap_cons] at h2;exact zue h2
  unfold zfV at h1
  simp only [Bool.false_eq_true,if_false,true_and] at h1
  obtain ⟨m1,h3,h4⟩:=zaU h1
  have hj:=zt3 hf.j h3
  rw [show nmP f.table :: (asQ f++(if f.join≠0 then behQ [wd wOn] f.on else []))=(nmP f.table :: asQ f)++(if f.join≠0 then behQ [wd wOn] f.on else []) from rfl] at h4
  obtain ⟨m2,h5,h6⟩:=zaU h4
  have e1:=zg8 h3
  have e2:=zg8 h5
  have e2':m1 < m2:=by have h5:Sp L (m1+1) (asQ f) m2:=h5.2;have:=zg8 h5;omega
  rw [tabs,hj,bind_ok]
  dsimp only
  have hlen:acc.length≤5:=by simp at hl;omega
  by_cases hz:f.join=0
  ·rw [if_neg (by simp [hz])] at h6
   obtain rfl:=zcG h6
   rw [ziT hf hlen f.join h5 (hm.mono (by omega)),bind_ok,if_pos hz,zke l (acc++[(⟨f.table,f.as_,f.join,[]⟩:From)]) m q n (fun x hx=>hP x (by simp [hx])) (by simp at hl ⊢;omega) (by omega) h2 hr]
   have:f=⟨f.table,f.as_,f.join,[]⟩:=by have:=hf.z hz;cases f;simp_all
   rw [← this]
   simp
  ·obtain ⟨e,he,hx⟩:=hf.o hz
   rw [if_pos hz,he] at h6
   unfold behQ at h6
   rw [if_neg (by simp)] at h6
   have h6:L[m2]?=some ⟨2,wOn,v0⟩∧Sp L (m2+1) (pcs e) m:=h6
   rw [ziT hf hlen f.join h5 (Rk.at h6.1 2 (by decide)),bind_ok,if_neg hz,zob h6.1,bind_ok,zlP hx h6.2 (hm.mono (by omega)),bind_ok]
   have e3:=zg8 h6.2
   have:f=⟨f.table,f.as_,f.join,[e]⟩:=by cases f;simp_all
   dsimp only
   rw [← this,zke l (acc++[f]) m q n (fun x hx=>hP x (by simp [hx])) (by simp at hl ⊢;omega) (by omega) h2 hr]
   simp
theorem zoX {l:List From} (h:RFs l) {p q:Nat} (hs:Sp L p (ziS l) q) (hr:Rk L q 5):from_ L (exprR L) p=.ok l q:=by
 cases l with
 | nil =>
  obtain rfl:=zcG hs
  unfold from_
  rw [if_neg (by rw [hr.no (by decide)];decide)]
 | cons f r =>
  obtain ⟨hf,h2,h3⟩:=h
  unfold ziS at hs
  obtain ⟨m,h4,h5⟩:=zaU hs
  have hz:=hf.b rfl
  have hon:=hf.z hz
  have hm:Rk L m 3:=by
   cases r with
   | nil=>rw [zcG h5] at hr;exact hr.mono (by omega)
   | cons b l=>rw [List.flatMap_cons] at h5;exact zue h5
  unfold zfV at h4
  simp only [if_true] at h4
  have h4:L[p]?=some ⟨2,wFrom,v0⟩∧Sp L (p+1) (nmP f.table :: (asQ f++[])) m:=by
   have:(if true=false∧f.join≠0 then behQ [wd wOn] f.on else [])=[]:=by simp
   rw [this] at h4
   exact h4
  rw [List.append_nil] at h4
  unfold from_ tables
  rw [if_pos (isT_yes h4.1),ziT hf (Nat.zero_le _) 0 h4.2 (hm.mono (by omega)),bind_ok]
  have:f=⟨f.table,f.as_,0,[]⟩:=by cases f;simp_all
  rw [← this]
  have e1:=zg8 h4.2
  exact zke r [f] m q _ h2 (by simp;omega) (by omega) h5 hr
end Qy
namespace Qy
open Lx Ex
variable {L:List T}
theorem zoL {w:S} {ws:List Pc} {l:List E} {p q k:Nat} (hs:Sp L p (behQ (wd w :: ws) l) q) (hr:Rk L q k) (hk:k≤zpf 2 w):Rk L p k:=by
 unfold behQ at hs
 split at hs
 ·rw [zcG hs] at hr;exact hr
 ·exact Rk.at (show L[p]?=some ⟨2,w,v0⟩ from hs.1) k hk
theorem tabsQ_at {l:List From} {p q:Nat} (hs:Sp L p (ziS l) q) (hr:Rk L q 4):Rk L p 4:=by
 cases l with
 | nil=>rw [zcG hs] at hr;exact hr
 | cons f r=>exact Rk.at (show L[p]?=some ⟨2,wFrom,v0⟩ from hs.1) 4 (by decide)
theorem zgU {w:S} {l:List E} (h:R1 l) {p q:Nat} (hs:Sp L p (behQ [wd w] l) q) (hr:Rk L q (zpf 2 w+1)) (h1:1≤zpf 2 w):maybe L (exprR L) w p=.ok l q:=by
 unfold maybe
 rcases h with rfl | ⟨e,rfl,hx⟩
 ·obtain rfl:=zcG hs
  rw [if_neg (by rw [hr.no (by omega)];decide)]
 ·unfold behQ at hs
  rw [if_neg (by simp)] at hs
  have hs:L[p]?=some ⟨2,w,v0⟩∧Sp L (p+1) (pcs e) q:=hs
  rw [if_pos (isT_yes hs.1),zlP hx hs.2 (hr.mono (by omega))]
  rfl
theorem zrW {l:List E} (h:∀ x∈l,RX x) {p q:Nat} (hs:Sp L p (behQ gbQ l) q) (hr:Rk L q 7):group L (exprR L) p=.ok l q:=by
 unfold group
 by_cases hl:l=[]
 ·subst hl
  obtain rfl:=zcG hs
  rw [if_neg (by rw [hr.no (by decide)];decide)]
 ·unfold behQ at hs
  rw [if_neg hl] at hs
  have hs:L[p]?=some ⟨2,wGroup,v0⟩∧L[p+1]?=some ⟨2,wBy,v0⟩∧Sp L (p+1+1) (sepQ (l.map pcs)) q:=hs
  rw [if_pos (isT_yes hs.1),zob hs.2.1,bind_ok]
  exact zgp zuq hl h hs.2.2 (hr.mono (by omega))
theorem zoD {c:Core} (h:RC c) {p q:Nat} (hs:Sp L p (zjg c) q) (hr:Rk L q 8):core L (exprR L) p=.ok c q∧L[p]?=some ⟨2,wSelect,v0⟩:=by
 unfold zjg at hs
 obtain ⟨m0,h0,hs⟩:=zaU hs
 obtain ⟨m1,h1,hs⟩:=zaU hs
 obtain ⟨m2,h2,hs⟩:=zaU hs
 obtain ⟨m3,h3,hs⟩:=zaU hs
 obtain ⟨m4,h4,h5⟩:=zaU hs
 have r4:Rk L m4 7:=zoL h5 (hr.mono (by omega)) (by decide)
 have r3:Rk L m3 6:=zoL h4 (r4.mono (by omega)) (by decide)
 have r2:Rk L m2 5:=zoL h3 (r3.mono (by omega)) (by decide)
 have r1:Rk L m1 4:=tabsQ_at h2 (r2.mono (by omega))
 have hsel:L[p]?=some ⟨2,wSelect,v0⟩∧(if isT L (p+1) 2 zae then p+1+1 else p+1)=m0∧isT L (p+1) 2 zae=c.dist:=by
  unfold selQ at h0
  cases hd:c.dist
  ·rw [hd] at h0
   have h0:L[p]?=some ⟨2,wSelect,v0⟩∧m0=p+1:=h0
   have hnd:isT L m0 2 zae=false:=by
    cases hi:c.items with
    | nil=>exact absurd hi h.i0
    | cons x l =>
     rw [hi,List.map_cons,zjM] at h1
     have hx:=h.i x (by rw [hi];simp)
     unfold zfU at h1
     cases hst:x.star
     ·rw [hst] at h1
      simp only [Bool.false_eq_true,if_false] at h1
      split at h1
      ·exact (zg6 (hx.e hst).1.1 h1).2.2.2
      ·rw [List.append_assoc] at h1
       exact (zg6 (hx.e hst).1.1 h1).2.2.2
     ·rw [hst] at h1
      simp only [if_true] at h1
      split at h1
      ·exact zje (show L[m0]?=some ⟨4,zbG,v0⟩ from h1.1) (by decide) _
      ·exact zje (show L[m0]?=some ⟨1,x.table,v0⟩ from h1.1) (show (1:Int)≠2 by decide) _
   rw [h0.2] at hnd ⊢
   exact ⟨h0.1,by rw [hnd];rfl,hnd⟩
  ·rw [hd] at h0
   have h0:L[p]?=some ⟨2,wSelect,v0⟩∧L[p+1]?=some ⟨2,zae,v0⟩∧m0=p+1+1:=h0
   exact ⟨h0.1,by rw [if_pos (isT_yes h0.2.1),h0.2.2],isT_yes h0.2.1⟩
 obtain ⟨g1,g2,g3⟩:=hsel
 refine ⟨?_,g1⟩
 unfold core
 rw [zob g1,bind_ok,g2,zgp zt4 h.i0 h.i h1 r1,bind_ok,zoX h.f h2 r2,bind_ok,zgU h.w h3 r3 (by decide),bind_ok,zrW h.g h4 r4,bind_ok,zgU h.h h5 hr (by decide),bind_ok,g3]
theorem zoK {o:Int} (ho:0≤o∧o≤3) {p q:Nat} (hs:Sp L p (zf8 o) q) (hq:L[q]?=some ⟨2,wSelect,v0⟩):between L p=(some o,q):=by
 have ho:o=0∨o=1∨o=2∨o=3:=by omega
 unfold zf8 at hs
 unfold between
 rcases ho with rfl | rfl | rfl | rfl
 ·have hs:L[p]?=some ⟨2,wUnion,v0⟩∧q=p+1:=hs
  rw [hs.2] at hq
  rw [if_pos (isT_yes hs.1),if_neg (by rw [zaz hq];decide),hs.2]
 ·have hs:L[p]?=some ⟨2,wUnion,v0⟩∧L[p+1]?=some ⟨2,wAll,v0⟩∧q=p+1+1:=hs
  rw [if_pos (isT_yes hs.1),if_pos (isT_yes hs.2.1),hs.2.2]
 ·have hs:L[p]?=some ⟨2,wIntersect,v0⟩∧q=p+1:=hs
  rw [if_neg (by rw [zaz hs.1];decide),if_pos (isT_yes hs.1),hs.2]
 ·have hs:L[p]?=some ⟨2,wExcept,v0⟩∧q=p+1:=hs
  rw [if_neg (by rw [zaz hs.1];decide),if_neg (by rw [zaz hs.1];decide),if_pos (isT_yes hs.1),hs.2]
theorem zpL {p:Nat} (hr:Rk L p 9):between L p=(none,p):=by
 unfold between
 rw [if_neg (by rw [hr.no (by decide)];decide),if_neg (by rw [hr.no (by decide)];decide),if_neg (by rw [hr.no (by decide)];decide)]
theorem zsi {o:Int} {r:List Pc} {p q:Nat} (hs:Sp L p (zf8 o++r) q):Rk L p 8:=by
 unfold zf8 at hs
 split at hs
 ·exact Rk.at (show L[p]?=some ⟨2,wUnion,v0⟩ from hs.1) 8 (by decide)
 ·split at hs
  ·exact Rk.at (show L[p]?=some ⟨2,wIntersect,v0⟩ from hs.1) 8 (by decide)
  ·split at hs
   ·exact Rk.at (show L[p]?=some ⟨2,wExcept,v0⟩ from hs.1) 8 (by decide)
   ·exact Rk.at (show L[p]?=some ⟨2,wUnion,v0⟩ from hs.1) 8 (by decide)
theorem zme:∀ (cs:List Core) (os:List Int) (ac:List Core) (ao:List Int) (p q n:Nat),(∀ c∈cs,RC c)→(∀ o∈os,0≤o∧o≤3)→cs.length=os.length→L.length+1≤n+p→Sp L p (zfl cs os) q→Rk L q 9→cores L (exprR L) n ac ao p=.ok (ac++cs,ao++os) q
 | [],[],ac,ao,p,q,0,_,_,_,hn,hs,hr=>by have:=hr.lt;rw [zcG hs] at this;omega
 | [],[],ac,ao,p,q,n+1,_,_,_,hn,hs,hr=>by
  obtain rfl:=zcG hs
  rw [cores,zpL hr]
  simp
 | [],_ :: _,_,_,_,_,_,_,_,h,_,_,_=>by cases h
 | _ :: _,[],_,_,_,_,_,_,_,h,_,_,_=>by cases h
 | c :: cs,o :: os,ac,ao,p,q,0,_,_,_,hn,hs,hr=>by have:=zg8 hs;have:=hr.lt;omega
 | c :: cs,o :: os,ac,ao,p,q,n+1,hc,ho,hl,hn,hs,hr=>by
  rw [zfl] at hs
  obtain ⟨m1,h1,h2⟩:=zaU hs
  obtain ⟨m2,h3,h4⟩:=zaU h2
  have hm:Rk L m2 8:=by
   cases cs with
   | nil=>rw [show zfl [] os=[] by rw [zfl]] at h4;rw [zcG h4] at hr;exact hr.mono (by omega)
   | cons d cs =>
    cases os with
    | nil=>simp at hl
    | cons o2 os=>rw [zfl] at h4;exact zsi h4
  obtain ⟨g1,g2⟩:=zoD (hc c (by simp)) h3 hm
  have e1:=zg8 h1
  have e2:m1 < m2:=by
   unfold zjg selQ at h3
   cases hd:c.dist
   ·rw [hd] at h3;have:=zg8 h3.2;omega
   ·rw [hd] at h3;have:=zg8 h3.2;omega
  rw [cores,zoK (ho o (by simp)) h1 g2]
  dsimp only
  rw [g1,bind_ok,zme cs os (ac++[c]) (ao++[o]) m2 q n (fun x hx=>hc x (by simp [hx])) (fun x hx=>ho x (by simp [hx])) (by simpa using hl) (by omega) h4 hr]
  simp
theorem zsy:Back L (term L (exprR L)) ziR RT:=by
 intro t h p q hs hr
 obtain ⟨e,c,d⟩:=t
 have hx:=h.e
 have hcc:=h.c
 dsimp only at hx hcc
 unfold ziR at hs
 obtain ⟨m,h1,h2⟩:=zaU hs
 obtain ⟨m2,h3,h4⟩:=zaU h2
 dsimp only at h3 h4
 have r2:Rk L m2 2∧dir L e c m2=.ok ⟨e,c,d⟩ q:=by
  unfold dir
  cases d
  ·obtain rfl:q=m2:=h4
   exact ⟨hr.mono (by omega),by rw [if_neg (by rw [hr.no (by decide)];decide),if_neg (by rw [hr.no (by decide)];decide)]⟩
  ·have h4:L[m2]?=some ⟨2,wDesc,v0⟩∧q=m2+1:=h4
   exact ⟨Rk.at h4.1 2 (by decide),by rw [if_neg (by rw [zaz h4.1];decide),if_pos (isT_yes h4.1),h4.2]⟩
 unfold term
 by_cases h1c:c=1
 ·subst h1c
  have h3:L[m]?=some ⟨2,wCollate,v0⟩∧L[m+1]?=some ⟨1,wNocase,v0⟩∧m2=m+1+1:=h3
  rw [zlP hx h1 (Rk.at h3.1 1 (by decide)),bind_ok,if_pos (isT_yes h3.1)]
  have hc:coll L (m+1)=.ok 1 (m+1+1):=by
   unfold coll
   rw [h3.2.1]
   rfl
  rw [hc,bind_ok,← h3.2.2]
  exact r2.2
 ·have h0:c=0:=by omega
  subst h0
  obtain rfl:m2=m:=h3
  rw [zlP hx h1 (r2.1.mono (by omega)),bind_ok,if_neg (by rw [r2.1.no (by decide)];decide)]
  exact r2.2
theorem zrH {l:List Term} (h:∀ x∈l,RT x) {p q:Nat} (hs:Sp L p (ordQ l) q) (hr:Rk L q 10):order L (exprR L) p=.ok l q:=by
 unfold order
 unfold ordQ at hs
 by_cases hl:l=[]
 ·subst hl
  obtain rfl:=zcG hs
  rw [if_neg (by rw [hr.no (by decide)];decide)]
 ·rw [if_neg hl] at hs
  have hs:L[p]?=some ⟨2,wOrder,v0⟩∧L[p+1]?=some ⟨2,wBy,v0⟩∧Sp L (p+1+1) (sepQ (l.map ziR)) q:=hs
  rw [if_pos (isT_yes hs.1),zob hs.2.1,bind_ok]
  exact zgp zsy hl h hs.2.2 (hr.mono (by omega))
theorem zrD {s:Sel} (h:RS s) {p q:Nat} (hs:Sp L p (queryQ s) q) (hr:Rk L q 12):query L (exprR L) p=.ok s q:=by
 unfold queryQ at hs
 obtain ⟨m1,h1,hs⟩:=zaU hs
 obtain ⟨m2,h2,hs⟩:=zaU hs
 obtain ⟨m3,h3,h4⟩:=zaU hs
 have r3:Rk L m3 11:=zoL h4 (hr.mono (by omega)) (by decide)
 have r2:Rk L m2 10:=zoL h3 (r3.mono (by omega)) (by decide)
 have r1:Rk L m1 9:=by
  unfold ordQ at h2
  split at h2
  ·rw [zcG h2] at r2;exact r2.mono (by omega)
  ·exact Rk.at (show L[m1]?=some ⟨2,wOrder,v0⟩ from h2.1) 9 (by decide)
 have hn:=h.n
 have hc:=h.c
 obtain ⟨cs,os,od,li,off⟩:=s
 dsimp only at *
 cases cs with
 | nil=>simp at hn
 | cons c cs =>
  unfold zk6 at h1
  obtain ⟨m0,h5,h6⟩:=zaU h1
  have r0:Rk L m0 8:=by
   cases cs with
   | nil=>rw [show zfl [] os=[] by rw [zfl]] at h6;rw [zcG h6] at r1;exact r1.mono (by omega)
   | cons d cs =>
    cases os with
    | nil=>simp at hn
    | cons o2 os=>rw [zfl] at h6;exact zsi h6
  have:=zg8 h5
  unfold query
  rw [(zoD (hc c (by simp)) h5 r0).1,bind_ok,zme cs os [c] [] m0 m1 _ (fun x hx=>hc x (by simp [hx])) h.o (by simpa using hn) (by omega) h6 r1,bind_ok,zrH h.t h2 r2,bind_ok,zgU h.l h3 r3 (by decide),bind_ok]
  by_cases hl:li=[]
  ·have hz:=h.z hl
   dsimp only at hz
   subst hl hz
   obtain rfl:=zcG h4
   simp
  ·rw [if_neg (by simpa using hl),zgU h.f h4 hr (by decide),bind_ok]
   rfl
theorem ofQ_print {s:Sel} (h:RS s) (h1:(printQ s).length≤65536) (h2:(toks (queryQ s)).length≤4096):ofQ (printQ s)=(s,(printQ s).length,0):=by
 have hx:=zkH _ (zts h)
 rw [flat_query] at hx
 obtain ⟨ext,hs,he⟩:=zrN hx h1 h2
 have hL:((ext++[(endT,(printQ s).length)]).map (·.1))=toks (queryQ s)++[endT]:=by rw [List.map_append,he];rfl
 have hsp:Sp ((ext++[(endT,(printQ s).length)]).map (·.1)) 0 (queryQ s) (0+(toks (queryQ s)).length):=sp_of _ 0 [endT] (by rw [List.drop_zero,hL])
 rw [Nat.zero_add] at hsp
 have hat:((ext++[(endT,(printQ s).length)]).map (·.1))[(toks (queryQ s)).length]?=some endT:=by rw [hL];simp
 have hq:=zrD h hsp (Rk.at hat 12 (by decide))
 unfold ofQ
 rw [hs]
 dsimp only
 rw [if_neg (by decide),hq]
 dsimp only
 rw [List.getElem?_map] at hat
 obtain ⟨u,hu,hu2⟩:=Option.map_eq_some_iff.1 hat
 rw [hu]
 dsimp only
 rw [hu2,if_neg (by decide)]
end Qy
namespace Qy
open Lx Ex
theorem zam {α β:Type} {r:Rs α} {f:α→Nat→Rs β} {b:β} {q:Nat} (h:r.bind f=.ok b q):∃ a m,r=.ok a m∧f a m=.ok b q:=by
 cases r with
 | ok a m=>exact ⟨a,m,rfl,h⟩
 | stop m e=>cases h
def ln (l:List Pc):Nat:=(flat l).length
def tk (l:List Pc):Nat:=(toks l).length
@[simp] theorem ln_nil:ln []=0:=rfl
@[simp] theorem tk_nil:tk []=0:=rfl
@[simp] theorem ln_app (a b:List Pc):ln (a++b)=ln a+ln b:=by simp [ln,flat_app]
@[simp] theorem tk_app (a b:List Pc):tk (a++b)=tk a+tk b:=by simp [tk,toks_app]
@[simp] theorem ln_bk (a:List Pc):ln (bk :: a)=ln a+1:=by simp [ln,flat_cons,bk]
@[simp] theorem tk_bk (a:List Pc):tk (bk :: a)=tk a:=rfl
@[simp] theorem ln_wd (w:S) (a:List Pc):ln (wd w :: a)=w.length+ln a:=by simp [ln,flat_cons,wd]
@[simp] theorem tk_wd (w:S) (a:List Pc):tk (wd w :: a)=tk a+1:=rfl
@[simp] theorem ln_nm (w:S) (a:List Pc):ln (nmP w :: a)=w.length+ln a:=by simp [ln,flat_cons,nmP]
@[simp] theorem tk_nm (w:S) (a:List Pc):tk (nmP w :: a)=tk a+1:=rfl
@[simp] theorem ln_mk (w:S) (a:List Pc):ln (mk w :: a)=w.length+ln a:=by simp [ln,flat_cons,mk]
@[simp] theorem tk_mk (w:S) (a:List Pc):tk (mk w :: a)=tk a+1:=rfl
variable {L:List T}
structure Wp (L:List T) (l:List Pc) (k p q:Nat):Prop where
 lt:p≤q
 g:ln l+k+cw L p≤cw L q
 t:tk l+k+3 * p≤3 * q
theorem zpp {n:S} {p q:Nat} (h:name L p=.ok n q) (hG:zln L):nmE n=true∧q=p+1∧q≤L.length∧cw L p+40+5 * n.length=cw L q:=by
 unfold name at h
 split at h
 ·rename_i t ht
  split at h
  ·rename_i hk
   cases h
   have hm:=List.mem_of_getElem? ht
   exact ⟨(hG t hm).1 hk,rfl,(List.getElem?_eq_some_iff.1 ht).1,zju ht⟩
  ·cases h
 ·cases h
theorem zkK {w:S} {u:Unit} {p q:Nat} (h:must L w p=.ok u q):q=p+1∧q≤L.length∧cw L p+40+5 * w.length=cw L q:=by
 unfold must at h
 split at h
 ·rename_i ht;cases h;exact ⟨rfl,isT_lt ht,cw_isT ht⟩
 ·cases h
theorem ziz (hG:zln L) (hV:ValT L) (hN:L.length≤5000) {e:E} {p q:Nat} (hp:p≤L.length) (h:exprR L p=.ok e q):RX e∧p < q∧q≤L.length∧Wp L (pcs e) 2 p q:=by
 unfold exprR at h
 split at h
 ·rename_i e' q' hr
  split at h
  ·rename_i hd
   cases h
   have h1:=(zn0 _ hG _).1 0 p _ _ hr e (by simp)
   obtain ⟨h2,e2,h3,h4⟩:=(ziY _ hV _).1 0 p _ _ hr
   cases h3
   obtain ⟨k1,k2,k3⟩:=h4
   have hg:G e=(print e).length+14:=rfl
   have ht:Tk e=(toks (pcs e)).length+2:=rfl
   have hf:ln (pcs e)=(print e).length:=by unfold ln;rw [zgW]
   obtain ⟨h5,h6⟩:=ziZ hp hr
   refine ⟨⟨h1,hd,by omega⟩,h5,h6,⟨by omega,by omega, ?_⟩⟩
   unfold tk;omega
  ·cases h
 ·cases h
 ·cases h
def Rg {α:Type} (L:List T) (one:Rd α) (Q:α→List Pc) (P:α→Prop):Prop:=∀ p a q,p≤L.length→one p=.ok a q→P a∧p < q∧q≤L.length∧Wp L (Q a) 2 p q
theorem sev_ok {α:Type} {one:Rd α} {Q:α→List Pc} {P:α→Prop} (ho:Rg L one Q P):∀ (n:Nat) (acc:List α) (p:Nat) (l:List α) (q:Nat),p≤L.length→sev L one n acc p=.ok l q →
  ∃ r,l=acc++r∧(∀ a∈r,P a)∧p+r.length≤q∧q≤L.length∧Wp L (r.flatMap fun b=>mk mComma :: bk :: Q b) 0 p q
 | 0,acc,p,l,q,hp,h=>by rw [sev] at h;cases h
 | n+1,acc,p,l,q,hp,h=>by
  rw [sev] at h
  split at h
  ·rename_i hc
   have hlt:p+1≤L.length:=isT_lt hc
   have hw:=cw_isT hc
   obtain ⟨a,m,h1,h2⟩:=zam h
   obtain ⟨g1,g2,g3,g4,g5,g6⟩:=ho _ _ _ hlt h1
   obtain ⟨r,rfl,e1,e2,e3,e4,e5,e6⟩:=sev_ok ho n (acc++[a]) m l q g3 h2
   refine ⟨a :: r,by simp,fun x hx=>?_,by simp;omega,e3,⟨by omega, ?_, ?_⟩⟩
   ·rcases List.mem_cons.1 hx with rfl | hx
    ·exact g1
    ·exact e1 x hx
   ·have hc1:mComma.length=1:=rfl
    rw [List.flatMap_cons];simp;omega
   ·rw [List.flatMap_cons];simp;omega
  ·cases h
   exact ⟨[],by simp,by simp,by simp,hp,⟨Nat.le_refl _,by simp,by simp⟩⟩
theorem ziV {α:Type} {one:Rd α} {Q:α→List Pc} {P:α→Prop} (ho:Rg L one Q P) {p q:Nat} {l:List α} (hp:p≤L.length) (h:several L one p=.ok l q) :
  l≠[]∧(∀ a∈l,P a)∧p+l.length≤q∧q≤L.length∧Wp L (sepQ (l.map Q)) 2 p q:=by
 unfold several at h
 obtain ⟨a,m,h1,h2⟩:=zam h
 obtain ⟨g1,g2,g3,g4,g5,g6⟩:=ho _ _ _ hp h1
 obtain ⟨r,rfl,e1,e2,e3,e4,e5,e6⟩:=sev_ok ho _ _ _ _ _ g3 h2
 refine ⟨by simp,fun x hx=>?_,by simp;omega,e3, ?_⟩
 ·rcases List.mem_append.1 hx with hx | hx
  ·rw [List.mem_singleton.1 hx];exact g1
  ·exact e1 x hx
 ·rw [List.singleton_append,List.map_cons,zjM,List.flatMap_map]
  exact ⟨by omega,by simp;omega,by simp;omega⟩
variable (hG:zln L) (hV:ValT L) (hN:L.length≤5000)
include hG hV hN
theorem expr_rg:Rg L (exprR L) pcs RX:=fun p e q hp h=>by
 obtain ⟨h1,h2,h3,h4⟩:=ziz hG hV hN hp h
 exact ⟨h1,h2,h3,h4⟩
theorem item_rg:Rg L (item L (exprR L)) zfU RI:=by
 intro p x q hp h
 unfold item at h
 split at h
 ·rename_i hc
  cases h
  have hw:=cw_isT hc
  refine ⟨⟨fun h=>(by cases h),fun _=>⟨rfl,rfl,.inl rfl⟩⟩,by omega,isT_lt hc,⟨by omega, ?_, ?_⟩⟩
  ·simp [zfU,zbG] at hw ⊢;omega
  ·simp [zfU];omega
 ·split at h
  ·rename_i hc
   simp only [Bool.and_eq_true] at hc
   obtain ⟨h1,h2,h3⟩:=hc
   cases h
   unfold isK at h1
   split at h1
   ·rename_i t ht
    have hk:t.kind=1:=by simpa using h1
    have hx:txt L p=t.text:=by unfold txt;rw [ht]
    have hn:=(hG t (List.mem_of_getElem? ht)).1 hk
    have w1:=zju ht
    have w2:cw L (p+1)+40+5 * mDot.length=cw L (p+2):=cw_isT h2
    have w3:cw L (p+2)+40+5 * zbG.length=cw L (p+3):=cw_isT h3
    have hne:t.text≠[]:=fun e=>by rw [e] at hn;revert hn;decide
    rw [hx]
    refine ⟨⟨fun h=>(by cases h),fun _=>⟨rfl,rfl,.inr hn⟩⟩,by omega,isT_lt h3,⟨by omega, ?_, ?_⟩⟩
    ·simp [zfU,hne,mDot,zbG] at w1 w2 w3 ⊢;omega
    ·simp [zfU,hne];omega
   ·cases h1
  ·obtain ⟨e,m,h1,h2⟩:=zam h
   obtain ⟨g1,g2,g3,⟨g4,g5,g6⟩⟩:=ziz hG hV hN hp h1
   split at h2
   ·rename_i ha
    have wa:=cw_isT ha
    obtain ⟨n,r,h3,h4⟩:=zam h2
    obtain ⟨k1,k2,k3,k4⟩:=zpp h3 hG
    cases h4
    have hne:n≠[]:=fun e=>by rw [e] at k1;revert k1;decide
    refine ⟨⟨fun _=>⟨g1,rfl,.inr k1⟩,fun h=>(by cases h)⟩,by omega,k3,⟨by omega, ?_, ?_⟩⟩
    ·simp [zfU,hne,wAs] at wa ⊢;omega
    ·simp [zfU,hne];omega
   ·cases h2
    refine ⟨⟨fun _=>⟨g1,rfl,.inl rfl⟩,fun h=>(by cases h)⟩,g2,g3,⟨g4, ?_, ?_⟩⟩
    ·simpa [zfU] using g5
    ·simpa [zfU] using g6
omit hV hN in
theorem zp2 {m:Nat} {j:Int} {p q:Nat} {f:From} (h:table L m j p=.ok f q):nmE f.table=true∧nmE f.as_=true∧f.join=j∧f.on=[]∧m≤5∧p < q∧q≤L.length∧Wp L (nmP f.table :: asQ f) 2 p q:=by
 unfold table at h
 split at h
 ·cases h
 ·rename_i hm
  obtain ⟨n,m1,h1,h2⟩:=zam h
  obtain ⟨k1,k2,k3,k4⟩:=zpp h1 hG
  have hk:isK L p 1=true:=by
   unfold name at h1
   unfold isK
   split at h1
   ·rename_i t ht
    split at h1
    ·rename_i hk;rw [ht];simpa using hk
    ·cases h1
   ·cases h1
  have hm5:m≤5:=by
   rw [hk] at hm
   simp at hm
   omega
  split at h2
  ·rename_i ha
   have wa:=cw_isT ha
   obtain ⟨n2,r,h3,h4⟩:=zam h2
   obtain ⟨j1,j2,j3,j4⟩:=zpp h3 hG
   cases h4
   refine ⟨k1,j1,rfl,rfl,hm5,by omega,j3,⟨by omega, ?_, ?_⟩⟩
   ·unfold asQ
    split
    ·simp;omega
    ·simp [wAs] at wa ⊢;omega
   ·unfold asQ
    split
    ·simp;omega
    ·simp;omega
  ·cases h2
   refine ⟨k1,k1,rfl,rfl,hm5,by omega,k3,⟨by omega, ?_, ?_⟩⟩
   ·simp [asQ];omega
   ·simp [asQ];omega
omit hV hG hN in
theorem join_ok {o:Option Int} {p q:Nat} (hp:p≤L.length) (h:join L p=.ok o q):match o with
  | none=>q=p
  | some j=>(j=0∨j=1∨j=2)∧p < q∧q≤L.length∧Wp L (zfT j) 0 p q:=by
 have mj:∀ {j:Int} {w:S},isT L p 2 w=true→((must L wJoin (p+1)).bind fun _ q=>(.ok (some j) q:Rs (Option Int)))=.ok o q→o=some j∧q=p+2∧q≤L.length∧cw L p+80≤cw L q:=fun {j w} ht h=>by
  obtain ⟨u,m,h1,h2⟩:=zam h
  obtain ⟨k1,k2,k3⟩:=zkK h1
  have:=cw_isT ht
  cases h2
  exact ⟨rfl,k1,k2,by simp [wJoin] at k3;omega⟩
 unfold join at h
 split at h
 ·rename_i hc
  have:=cw_isT hc
  cases h
  exact ⟨.inl rfl,by omega,isT_lt hc,by omega,by simp [zfT,mComma] at this ⊢;omega,by simp [zfT];omega⟩
 ·split at h
  ·rename_i hc
   obtain ⟨rfl,rfl,h3,h4⟩:=mj hc h
   exact ⟨.inl rfl,by omega,h3,by omega,by simp [zfT,mComma];omega,by simp [zfT];omega⟩
  ·split at h
   ·rename_i hc
    obtain ⟨rfl,rfl,h3,h4⟩:=mj hc h
    exact ⟨.inr (.inl rfl),by omega,h3,by omega,by simp [zfT,wJoin];omega,by simp [zfT];omega⟩
   ·split at h
    ·rename_i hc
     obtain ⟨rfl,rfl,h3,h4⟩:=mj hc h
     exact ⟨.inr (.inr rfl),by omega,h3,by omega,by simp [zfT,wJoin,wLeft];omega,by simp [zfT];omega⟩
    ·split at h
     ·rename_i hc
      have:=cw_isT hc
      cases h
      exact ⟨.inr (.inl rfl),by omega,isT_lt hc,by omega,by simp [zfT,wJoin] at this ⊢;omega,by simp [zfT];omega⟩
     ·cases h;rfl
end Qy
namespace Qy
open Lx Ex
variable {L:List T} (hG:zln L) (hV:ValT L) (hN:L.length≤5000)
include hG hV hN
theorem zoV:∀ (n:Nat) (acc:List From) (p:Nat) (l:List From) (q:Nat),p≤L.length→1≤acc.length→acc.length≤6→tabs L (exprR L) n acc p=.ok l q →
  ∃ r,l=acc++r∧(∀ f∈r,RF false f)∧acc.length+r.length≤6∧p≤q∧q≤L.length∧Wp L (r.flatMap (zfV false)) 0 p q
 | 0,acc,p,l,q,hp,_,_,h=>by rw [tabs] at h;cases h
 | n+1,acc,p,l,q,hp,h1,h6,h=>by
  rw [tabs] at h
  obtain ⟨o,m,h2,h3⟩:=zam h
  have hj:=join_ok hp h2
  cases o with
  | none =>
   dsimp only at hj h3
   subst hj
   cases h3
   exact ⟨[],by simp,by simp,by simp;exact h6,Nat.le_refl _,hp,⟨Nat.le_refl _,by simp,by simp⟩⟩
  | some k =>
   dsimp only at hj h3
   obtain ⟨j1,j2,j3,j4,j5,j6⟩:=hj
   obtain ⟨f,m2,h4,h5⟩:=zam h3
   obtain ⟨t1,t2,t3,t4,t5,t6,t7,t8,t9,t10⟩:=zp2 hG h4
   split at h5
   ·rename_i hk
    subst hk
    obtain ⟨r,rfl,e1,e2,e3,e4,e5,e6,e7⟩:=zoV n (acc++[f]) m2 l q t7 (by simp) (by simp;omega) h5
    refine ⟨f :: r,by simp,fun x hx=>?_,by simp at e2 ⊢;omega,by omega,e4,⟨by omega, ?_, ?_⟩⟩
    ·rcases List.mem_cons.1 hx with rfl | hx
     ·exact ⟨t1,t2,.inl t3,fun _=>t3,fun _=>t4,fun h=>absurd t3 h⟩
     ·exact e1 x hx
    ·rw [List.flatMap_cons,zfV];simp [t3] at j5 t9 ⊢;omega
    ·rw [List.flatMap_cons,zfV];simp [t3] at j6 t10 ⊢;omega
   ·rename_i hk
    obtain ⟨u,m3,h6',h7⟩:=zam h5
    obtain ⟨m3e,m3l,m3w⟩:=zkK h6'
    obtain ⟨e,m4,h8,h9⟩:=zam h7
    obtain ⟨g1,g2,g3,⟨g4,g5,g6⟩⟩:=ziz hG hV hN m3l h8
    obtain ⟨r,rfl,e1,e2,e3,e4,e5,e6,e7⟩:=zoV n (acc++[⟨f.table,f.as_,f.join,[e]⟩]) m4 l q g3 (by simp) (by simp;omega) h9
    have hj0:f.join≠0:=by rw [t3];exact hk
    have hal:wOn.length=2:=rfl
    have hasq:asQ ⟨f.table,f.as_,f.join,[e]⟩=asQ f:=rfl
    refine ⟨⟨f.table,f.as_,f.join,[e]⟩ :: r,by simp,fun x hx=>?_,by simp at e2 ⊢;omega,by omega,e4,⟨by omega, ?_, ?_⟩⟩
    ·rcases List.mem_cons.1 hx with rfl | hx
     ·exact ⟨t1,t2,by rw [t3];exact j1,fun h=>(by cases h),fun h=>absurd h hj0,fun _=>⟨e,rfl,g1⟩⟩
     ·exact e1 x hx
    ·rw [List.flatMap_cons,zfV,hasq];simp [hj0,behQ,sepQ] at t9 ⊢;rw [t3] at *;omega
    ·rw [List.flatMap_cons,zfV,hasq];simp [hj0,behQ,sepQ] at t10 ⊢;rw [t3] at *;omega
theorem from_ok {p q:Nat} {l:List From} (hp:p≤L.length) (h:from_ L (exprR L) p=.ok l q):RFs l∧p≤q∧q≤L.length∧Wp L (ziS l) 0 p q:=by
 unfold from_ at h
 split at h
 ·rename_i hc
  have hlt:p+1≤L.length:=isT_lt hc
  have hw:=cw_isT hc
  unfold tables at h
  obtain ⟨f,m,h1,h2⟩:=zam h
  obtain ⟨t1,t2,t3,t4,t5,t6,t7,t8,t9,t10⟩:=zp2 hG h1
  obtain ⟨r,rfl,e1,e2,e3,e4,e5,e6,e7⟩:=zoV hG hV hN _ _ _ _ _ t7 (by simp) (by simp) h2
  have hal:wFrom.length=4:=rfl
  refine ⟨⟨⟨t1,t2,.inl t3,fun _=>t3,fun _=>t4,fun h=>absurd t3 h⟩,e1,by simp at e2 ⊢;omega⟩,by omega,e4,⟨by omega, ?_, ?_⟩⟩
  ·rw [List.singleton_append,ziS,zfV];simp at t9 ⊢;omega
  ·rw [List.singleton_append,ziS,zfV];simp at t10 ⊢;omega
 ·cases h
  exact ⟨trivial,Nat.le_refl _,hp,⟨Nat.le_refl _,by simp [ziS],by simp [ziS]⟩⟩
theorem zjU {w:S} {p q:Nat} {l:List E} (hp:p≤L.length) (h:maybe L (exprR L) w p=.ok l q):R1 l∧p≤q∧q≤L.length∧Wp L (behQ [wd w] l) 0 p q:=by
 unfold maybe at h
 split at h
 ·rename_i hc
  have hlt:p+1≤L.length:=isT_lt hc
  have hw:=cw_isT hc
  obtain ⟨e,m,h1,h2⟩:=zam h
  obtain ⟨g1,g2,g3,⟨g4,g5,g6⟩⟩:=ziz hG hV hN hlt h1
  cases h2
  refine ⟨.inr ⟨e,rfl,g1⟩,by omega,g3,⟨by omega, ?_, ?_⟩⟩
  ·simp [behQ,sepQ];omega
  ·simp [behQ,sepQ];omega
 ·cases h
  exact ⟨.inl rfl,Nat.le_refl _,hp,⟨Nat.le_refl _,by simp [behQ],by simp [behQ]⟩⟩
theorem group_ok {p q:Nat} {l:List E} (hp:p≤L.length) (h:group L (exprR L) p=.ok l q):(∀ x∈l,RX x)∧p+l.length≤q∧q≤L.length∧Wp L (behQ gbQ l) 0 p q:=by
 unfold group at h
 split at h
 ·rename_i hc
  have hw:=cw_isT hc
  obtain ⟨u,m,h1,h2⟩:=zam h
  obtain ⟨k1,k2,k3⟩:=zkK h1
  obtain ⟨g0,g1,g2,g3,g4,g5,g6⟩:=ziV (expr_rg hG hV hN) k2 h2
  have hal:wGroup.length=5:=rfl
  have hal2:wBy.length=2:=rfl
  refine ⟨g1,by omega,g3,⟨by omega, ?_, ?_⟩⟩
  ·simp [behQ,g0,gbQ];omega
  ·simp [behQ,g0,gbQ];omega
 ·cases h
  exact ⟨by simp,by simp,hp,⟨Nat.le_refl _,by simp [behQ],by simp [behQ]⟩⟩
theorem zuN {p q:Nat} {c:Core} (hp:p≤L.length) (h:core L (exprR L) p=.ok c q):RC c∧p < q∧q≤L.length∧Wp L (zjg c) 2 p q:=by
 unfold core at h
 obtain ⟨u,p1,h1,h⟩:=zam h
 obtain ⟨k1,k2,k3⟩:=zkK h1
 obtain ⟨is,q1,h2,h⟩:=zam h
 obtain ⟨fs,q2,h3,h⟩:=zam h
 obtain ⟨w,q3,h4,h⟩:=zam h
 obtain ⟨g,q4,h5,h⟩:=zam h
 obtain ⟨hv,q5,h6,h⟩:=zam h
 have hd:(if isT L p1 2 zae=true then p1+1 else p1)≤L.length∧ln (selQ (isT L p1 2 zae))+2+cw L p≤cw L (if isT L p1 2 zae=true then p1+1 else p1)∧tk (selQ (isT L p1 2 zae))+2+3 * p≤3 * (if isT L p1 2 zae=true then p1+1 else p1)∧p < (if isT L p1 2 zae=true then p1+1 else p1):=by
  have hal:wSelect.length=6:=rfl
  have hal2:zae.length=8:=rfl
  cases ht:isT L p1 2 zae
  ·simp [selQ];omega
  ·have hlt:p1+1≤L.length:=isT_lt ht
   have hw:=cw_isT ht
   simp [selQ];omega
 obtain ⟨d1,d2,d3,d4⟩:=hd
 obtain ⟨i0,i1,i2,i3,i4,i5,i6⟩:=ziV (item_rg hG hV hN) d1 h2
 obtain ⟨f1,f2,f3,f4,f5,f6⟩:=from_ok hG hV hN i3 h3
 obtain ⟨w1,w2,w3,w4,w5,w6⟩:=zjU hG hV hN f3 h4
 obtain ⟨g1,g2,g3,g4,g5,g6⟩:=group_ok hG hV hN w3 h5
 obtain ⟨v1,v2,v3,v4,v5,v6⟩:=zjU hG hV hN g3 h6
 cases h
 refine ⟨⟨i0,i1,f1,w1,v1,g1,by dsimp only;omega,by dsimp only;omega⟩,by omega,v3,⟨by omega, ?_, ?_⟩⟩
 ·simp [zjg] at *;omega
 ·simp [zjg] at *;omega
theorem term_rg:Rg L (term L (exprR L)) ziR RT:=by
 intro p t q hp h
 unfold term at h
 obtain ⟨e,m,h1,h2⟩:=zam h
 obtain ⟨g1,g2,g3,⟨g4,g5,g6⟩⟩:=ziz hG hV hN hp h1
 have dk:∀ {c:Int} {m:Nat},m≤L.length→dir L e c m=.ok t q→t.e=e∧t.coll=c∧m≤q∧q≤L.length∧Wp L (if t.desc then [bk,wd wDesc] else []) 0 m q:=by
  intro c m hm hd
  unfold dir at hd
  split at hd
  ·rename_i hc
   have:=cw_isT hc
   cases hd
   exact ⟨rfl,rfl,by omega,isT_lt hc,⟨by omega,by simp;omega,by simp;omega⟩⟩
  ·split at hd
   ·rename_i hc
    have:=cw_isT hc
    have hal:wDesc.length=4:=rfl
    cases hd
    exact ⟨rfl,rfl,by omega,isT_lt hc,⟨by omega,by simp;omega,by simp;omega⟩⟩
   ·cases hd
    exact ⟨rfl,rfl,Nat.le_refl _,hm,⟨Nat.le_refl _,by simp,by simp⟩⟩
 split at h2
 ·rename_i hc
  have hw:=cw_isT hc
  have hlt:m+1≤L.length:=isT_lt hc
  obtain ⟨c,m2,h3,h4⟩:=zam h2
  have hcc:(c=0∨c=1)∧m2=m+2∧m2≤L.length∧cw L (m+1)+40≤cw L m2:=by
   unfold coll at h3
   split at h3
   ·rename_i t' ht
    have:=zju ht
    have hl:=(List.getElem?_eq_some_iff.1 ht).1
    split at h3
    ·cases h3;exact ⟨.inl rfl,rfl,hl,by omega⟩
    ·split at h3
     ·cases h3;exact ⟨.inr rfl,rfl,hl,by omega⟩
     ·cases h3
   ·cases h3
  obtain ⟨c1,c2,c3,c4⟩:=hcc
  obtain ⟨d1,d2,d3,d4,d5,d6,d7⟩:=dk c3 h4
  have hal:wCollate.length=7:=rfl
  have hal2:wNocase.length=6:=rfl
  refine ⟨⟨by rw [d1];exact g1,by rw [d2];exact c1⟩,by omega,d4,⟨by omega, ?_, ?_⟩⟩
  ·rw [ziR,d1];split<;>simp at *<;>omega
  ·rw [ziR,d1];split<;>simp at *<;>omega
 ·obtain ⟨d1,d2,d3,d4,d5,d6,d7⟩:=dk g3 h2
  refine ⟨⟨by rw [d1];exact g1,.inl d2⟩,by omega,d4,⟨by omega, ?_, ?_⟩⟩
  ·rw [ziR,d1,d2];simp at *;omega
  ·rw [ziR,d1,d2];simp at *;omega
omit hG hV hN in
theorem zsa {o:Int} {p q:Nat} (h:between L p=(some o,q)):(0≤o∧o≤3)∧p < q∧q≤L.length∧Wp L (zf8 o) 0 p q:=by
 have hal:wUnion.length=5:=rfl
 have hal2:wAll.length=3:=rfl
 have hal3:wIntersect.length=9:=rfl
 have hal4:wExcept.length=6:=rfl
 unfold between at h
 split at h
 ·rename_i h1
  have w1:=cw_isT h1
  split at h
  ·rename_i h2
   have w2:cw L (p+1)+40+5 * wAll.length=cw L (p+2):=cw_isT h2
   cases h
   exact ⟨by decide,by omega,isT_lt h2,⟨by omega,by simp [zf8];omega,by simp [zf8];omega⟩⟩
  ·cases h
   exact ⟨by decide,by omega,isT_lt h1,⟨by omega,by simp [zf8];omega,by simp [zf8];omega⟩⟩
 ·split at h
  ·rename_i h1
   have w1:=cw_isT h1
   cases h
   exact ⟨by decide,by omega,isT_lt h1,⟨by omega,by simp [zf8];omega,by simp [zf8];omega⟩⟩
  ·split at h
   ·rename_i h1
    have w1:=cw_isT h1
    cases h
    exact ⟨by decide,by omega,isT_lt h1,⟨by omega,by simp [zf8];omega,by simp [zf8];omega⟩⟩
   ·cases h
theorem zq5:∀ (n:Nat) (cs:List Core) (os:List Int) (p:Nat) (x:List Core×List Int) (q:Nat),p≤L.length→cores L (exprR L) n cs os p=.ok x q →
  ∃ rc ro,x=(cs++rc,os++ro)∧(∀ c∈rc,RC c)∧(∀ o∈ro,0≤o∧o≤3)∧rc.length=ro.length∧p+rc.length≤q∧q≤L.length∧Wp L (zfl rc ro) 0 p q
 | 0,cs,os,p,x,q,hp,h=>by rw [cores] at h;cases h
 | n+1,cs,os,p,x,q,hp,h=>by
  rw [cores] at h
  split at h
  ·rename_i m hb
   have:=between_none hb
   subst this
   cases h
   exact ⟨[],[],by simp,by simp,by simp,rfl,by simp,hp,⟨Nat.le_refl _,by simp [zfl],by simp [zfl]⟩⟩
  ·rename_i o m hb
   obtain ⟨b1,b2,b3,b4,b5,b6⟩:=zsa hb
   obtain ⟨c,m2,h1,h2⟩:=zam h
   obtain ⟨c1,c2,c3,c4,c5,c6⟩:=zuN hG hV hN b3 h1
   obtain ⟨rc,ro,rfl,e1,e2,e3,e4,e5,e6,e7,e8⟩:=zq5 n (cs++[c]) (os++[o]) m2 x q c3 h2
   refine ⟨c :: rc,o :: ro,by simp,fun y hy=>?_,fun y hy=>?_,by simp [e3],by simp;omega,e5,⟨by omega, ?_, ?_⟩⟩
   ·rcases List.mem_cons.1 hy with rfl | hy
    ·exact c1
    ·exact e1 y hy
   ·rcases List.mem_cons.1 hy with rfl | hy
    ·exact b1
    ·exact e2 y hy
   ·rw [zfl];simp;omega
   ·rw [zfl];simp;omega
theorem query_ok {p q:Nat} {s:Sel} (hp:p≤L.length) (h:query L (exprR L) p=.ok s q):RS s∧p < q∧q≤L.length∧Wp L (queryQ s) 0 p q:=by
 unfold query at h
 obtain ⟨c,m1,h1,h⟩:=zam h
 obtain ⟨c1,c2,c3,c4,c5,c6⟩:=zuN hG hV hN hp h1
 obtain ⟨x,m2,h2,h⟩:=zam h
 obtain ⟨rc,ro,rfl,e1,e2,e3,e4,e5,e6,e7,e8⟩:=zq5 hG hV hN _ _ _ _ _ _ c3 h2
 obtain ⟨o,m3,h3,h⟩:=zam h
 have ho:(∀ t∈o,RT t)∧m2+o.length≤m3∧m3≤L.length∧Wp L (ordQ o) 0 m2 m3:=by
  unfold order at h3
  split at h3
  ·rename_i hc
   have hw:=cw_isT hc
   obtain ⟨u,m,h4,h5⟩:=zam h3
   obtain ⟨k1,k2,k3⟩:=zkK h4
   obtain ⟨g0,g1,g2,g3,g4,g5,g6⟩:=ziV (term_rg hG hV hN) k2 h5
   have hal:wOrder.length=5:=rfl
   have hal2:wBy.length=2:=rfl
   refine ⟨g1,by omega,g3,⟨by omega, ?_, ?_⟩⟩
   ·simp [ordQ,g0];omega
   ·simp [ordQ,g0];omega
  ·cases h3
   exact ⟨by simp,by simp,e5,⟨Nat.le_refl _,by simp [ordQ],by simp [ordQ]⟩⟩
 obtain ⟨o1,o2,o3,o4,o5,o6⟩:=ho
 obtain ⟨l,m4,h4,h⟩:=zam h
 obtain ⟨l1,l2,l3,l4,l5,l6⟩:=zjU hG hV hN o3 h4
 obtain ⟨f,m5,h5,h⟩:=zam h
 have hf:R1 f∧(l=[]→f=[])∧m4≤m5∧m5≤L.length∧Wp L (behQ [wd wOffset] f) 0 m4 m5:=by
  split at h5
  ·cases h5
   exact ⟨.inl rfl,fun _=>rfl,Nat.le_refl _,l3,⟨Nat.le_refl _,by simp [behQ],by simp [behQ]⟩⟩
  ·rename_i hl
   obtain ⟨f1,f2,f3,f4⟩:=zjU hG hV hN l3 h5
   exact ⟨f1,fun h=>absurd (by rw [h];rfl) hl,f2,f3,f4⟩
 obtain ⟨f1,f2,f3,f4,f5,f6,f7⟩:=hf
 cases h
 refine ⟨⟨fun y hy=>?_,by simp [e3],fun y hy=>e2 y (by simpa using hy),o1,l1,f1,f2,by simp;omega,by dsimp only;omega⟩,by omega,f4,⟨by omega, ?_, ?_⟩⟩
 ·simp only [List.singleton_append] at hy
  rcases List.mem_cons.1 hy with rfl | hy
  ·exact c1
  ·exact e1 y hy
 ·simp [queryQ,zk6] at *;omega
 ·simp [queryQ,zk6] at *;omega
end Qy
namespace Qy
open Lx Ex
theorem zqe (L:S):∀ (f:Nat) (acc:List TA) (k:Nat) (l:List TA) (a:Nat) (e:Int),k≤L.length→zeS L f acc k=(l,a,e)→e≠0→a≤L.length
 | 0,acc,k,l,a,e,hk,h,he=>by rw [zeS] at h;cases h;exact absurd rfl he
 | f+1,acc,k,l,a,e,hk,h,he=>by
  rw [zeS] at h
  split at h
  ·cases h;exact absurd rfl he
  ·split at h
   ·cases h;exact hk
   ·split at h
    ·rename_i h3
     have h4:=zoR h3
     rw [List.length_drop] at h4
     have h5:=zeX false (L.drop (k+(tok (L.drop k)).2.2))
     rw [List.length_drop] at h5
     exact zqe L f _ _ l a e (by omega) h he
    ·cases h;exact hk
theorem scan_at {L:S} {l:List TA} {a:Nat} {e:Int} (h:scan L=(l,a,e)) (he:e≠0):a≤L.length:=by
 rw [scan] at h
 split at h
 ·cases h;exact Nat.zero_le _
 ·exact zqe L _ _ _ l a e (zeX _ _) h he
theorem zsY {N:Nat}:∀ {l:List TA} {k:Nat},Rise N k l→∀ t∈l,t.2≤N
 | [],_,_,t,ht=>by cases ht
 | x :: l,k,h,t,ht=>by
  rcases List.mem_cons.1 ht with rfl | ht
  ·exact Nat.le_of_lt h.2.1
  ·exact zsY h.2.2 t ht
theorem zqm {s:S} {l:List TA} {a:Nat} (h:scan s=(l,a,0)) (q:Nat):zlk l s.length q≤s.length:=by
 obtain ⟨ext,_,rfl,_,hr,_⟩:=zlG h
 unfold zlk
 split
 ·rename_i t ht
  rcases List.mem_append.1 (List.mem_of_getElem? ht) with h1 | h1
  ·exact zsY hr t h1
  ·rw [List.mem_singleton.1 h1];exact Nat.le_refl _
 ·exact Nat.le_refl _
theorem ofQ_cases (s:S):((ofQ s).2.2≠0∧(ofQ s).1=sel0∧(ofQ s).2.1≤s.length) ∨
  ((ofQ s).2.2=0∧(ofQ s).2.1=s.length∧RS (ofQ s).1∧ln (queryQ (ofQ s).1)≤40 * (s.length+1)+5 * s.length∧tk (queryQ (ofQ s).1)≤3 * (s.length+1)):=by
 unfold ofQ
 cases hsc:scan s with
 | mk l r =>
 obtain ⟨a,e⟩:=r
 dsimp only
 by_cases he:e=0
 ·subst he
  rw [if_neg (by simp)]
  obtain ⟨g1,g2,g3,g4,g5,g6⟩:=zif hsc
  cases hq:query (l.map (·.1)) (exprR (l.map (·.1))) 0 with
  | stop q er =>
   left
   have:=query_in (L:=l.map (·.1)) (ex:=exprR (l.map (·.1))) (fun p hp=>exprR_in hp) (p:=0) (Nat.zero_le _)
   rw [hq] at this
   exact ⟨this.2,rfl,zqm hsc q⟩
  | ok x q =>
   obtain ⟨h1,h2,h3,h4,h5,h6⟩:=query_ok g1 g2 (by rw [List.length_map];omega) (Nat.zero_le _) hq
   have hw:=cw_le (l.map (·.1)) q
   have h0:cw (l.map (·.1)) 0=0:=rfl
   simp only [List.length_map] at h3 hw
   have fin:RS x∧ln (queryQ x)≤40 * (s.length+1)+5 * s.length∧tk (queryQ x)≤3 * (s.length+1):=⟨h1,by omega,by omega⟩
   dsimp only
   cases hl:l[q]? with
   | none=>exact .inr ⟨rfl,rfl,fin⟩
   | some t =>
    dsimp only
    by_cases hk:t.1.kind=0
    ·rw [if_neg (by simpa using hk)]
     exact .inr ⟨rfl,rfl,fin⟩
    ·rw [if_pos hk]
     left
     have:=zqm hsc q
     unfold zlk at this
     rw [hl] at this
     exact ⟨show (20:Int)≠0 by decide,rfl,this⟩
 ·rw [if_pos he]
  exact .inl ⟨he,rfl,scan_at hsc he⟩
end Qy
namespace Go.Proofs.YtlooegbcfkoloaaGreatDoor
open Go.RowKit
open Vm
variable [Gl]
inductive Ln:Ex.E→Prop
 | mk {e:Ex.E}:e.args.length≤900000→(∀ x∈e.args,Ln x)→Ln e
theorem Ln.l {e:Ex.E} (h:Ln e):e.args.length≤900000:=by cases h;assumption
theorem Ln.a {e:Ex.E} (h:Ln e):∀ x∈e.args,Ln x:=by cases h;assumption
end Go.Proofs.YtlooegbcfkoloaaGreatDoor
namespace Go.Proofs.YtlooegbcfkoloaaGreatDoor
open Go.RowKit
open Vm
variable [Gl]
inductive So:Ex.E→Prop
 | mk {k:Int} {o:Ex.S} {v:Ex.V} {t n:Ex.S} {s:Int} {g d:Bool} {a:List Ex.E}:o.length≤1000000→(∀ x∈a,So x)→So (.mk k o v t n s g d a)
theorem So.o {e:Ex.E} (h:So e):e.op.length≤1000000:=by cases h;assumption
theorem So.a {e:Ex.E} (h:So e):∀ x∈e.args,So x:=by cases h;assumption
end Go.Proofs.YtlooegbcfkoloaaGreatDoor
namespace Go.Proofs.YtlooegbcfkoloaaGreatDoor
open Go.RowKit
open Vm
theorem rt_qt {e:Ex.E} (h:Ex.Rt e):Qt e:=by
 have hz:Ex.N64 (Ex.eVal Ex.v0):=⟨by decide,by decide⟩
 have h0:(Ex.eVal Ex.v0).val.2.2.length≤1000000:=by decide
 induction h with
 | val v h1 h2 h3 =>
  refine .mk h3 ?_ (fun x hx=>by cases hx)
  unfold Ex.mayV at h1
  show v.2.2.length≤1000000
  split at h1
  ·simp only [Bool.and_eq_true,beq_iff_eq] at h1;rw [h1.2];decide
  ·split at h1
   ·rw [beq_iff_eq.1 h1];decide
   ·split at h1
    ·simp only [Bool.and_eq_true,decide_eq_true_eq] at h1;omega
    ·cases h1
 | col t n=>exact .mk hz h0 (fun x hx=>by cases hx)
 | un op a _ _ ih=>exact .mk hz h0 (fun x hx=>by obtain rfl:=List.mem_singleton.1 hx;exact ih)
 | bin op a b _ _ _ i1 i2=>exact .mk hz h0 (fun x hx=>by
   simp only [Ex.eBin,Ex.E.args,List.mem_cons,List.not_mem_nil,or_false] at hx
   rcases hx with rfl | rfl<;>assumption)
 | is g a b _ _ i1 i2=>exact .mk hz h0 (fun x hx=>by
   simp only [Ex.eIs,Ex.E.args,List.mem_cons,List.not_mem_nil,or_false] at hx
   rcases hx with rfl | rfl<;>assumption)
 | in_ g a l _ _ _ i1 i2=>exact .mk hz h0 (fun x hx=>by
   simp only [Ex.eIn,Ex.E.args,List.mem_cons] at hx
   rcases hx with rfl | hx
   ·assumption
   ·exact i2 x hx)
 | btw g a b c _ _ _ i1 i2 i3=>exact .mk hz h0 (fun x hx=>by
   simp only [Ex.eBtw,Ex.E.args,List.mem_cons,List.not_mem_nil,or_false] at hx
   rcases hx with rfl | rfl | rfl<;>assumption)
 | like g a b _ _ i1 i2=>exact .mk hz h0 (fun x hx=>by
   simp only [Ex.zeT,Ex.E.args,List.mem_cons,List.not_mem_nil,or_false] at hx
   rcases hx with rfl | rfl<;>assumption)
 | case d l _ _ _ ih=>exact .mk hz h0 ih
 | fn op l _ _ _ _ ih=>exact .mk hz h0 ih
 | agg op d a _ _ ih=>exact .mk hz h0 (fun x hx=>by obtain rfl:=List.mem_singleton.1 hx;exact ih)
 | star=>exact .mk hz h0 (fun x hx=>by cases hx)
 | cast op a _ _ ih=>exact .mk hz h0 (fun x hx=>by obtain rfl:=List.mem_singleton.1 hx;exact ih)
variable [Gl]
end Go.Proofs.YtlooegbcfkoloaaGreatDoor
namespace Go.Proofs.YtlooegbcfkoloaaGreatDoor
open Go.RowKit
open Vm
variable [Gl]
theorem zps:pr.ev 5 [] []=some (.ret (.bool true),[]):=pr.ev_phi 80 (by kernel_rfl)
end Go.Proofs.YtlooegbcfkoloaaGreatDoor
namespace Go.Proofs.YtlooegbcfkoloaaGreatDoor
open Go.RowKit
open Vm
variable [Gl]
theorem rx_fe {e:Ex.E} (h:Qy.RX e):FE e:=by have:=h.2.2;unfold FE;omega
theorem zrB {l:List Ex.E} (h:Qy.R1 l):FL l:=by
 rcases h with rfl | ⟨e,rfl,h⟩
 ·exact ⟨by simp,by simp⟩
 ·exact ⟨by simp,fun x hx=>by rw [List.mem_singleton.1 hx];exact rx_fe h⟩
theorem rf_on {b:Bool} {f:Qy.From} (h:Qy.RF b f):Qy.R1 f.on:=by
 by_cases hj:f.join=0
 ·exact .inl (h.z hj)
 ·exact .inr (h.o hj)
theorem zpa {l:List Qy.From} (h:Qy.RFs l):l.length≤6∧∀ f∈l,Qy.R1 f.on:=by
 cases l with
 | nil=>exact ⟨by simp,by simp⟩
 | cons f r =>
  obtain ⟨h1,h2,h3⟩:=h
  refine ⟨by simp;omega,fun x hx=>?_⟩
  rcases List.mem_cons.1 hx with rfl | hx
  ·exact rf_on h1
  ·exact rf_on (h2 x hx)
theorem rs_fs {s:Qy.Sel} (h:Qy.RS s):FS s:=by
 have hn:=h.n
 have hc:=h.cl
 have ht:=h.tl
 refine ⟨by omega,fun c hc=>?_,by omega,by omega,fun t ht=>rx_fe (h.t t ht).e,zrB h.l,zrB h.f⟩
 have r:=h.c c hc
 obtain ⟨f1,f2⟩:=zpa r.f
 have hil:=r.il
 have hgl:=r.gl
 refine ⟨by omega,fun x hx=>?_,by omega,fun f hf=>zrB (f2 f hf),zrB r.w,zrB r.h,⟨by omega,fun x hx=>rx_fe (r.g x hx)⟩⟩
 have ri:=r.i x hx
 cases hs:x.star
 ·exact rx_fe (ri.e hs).1
 ·rw [(ri.s hs).1];unfold FE;decide
theorem sh_px {e:Ex.E} (h:Qy.RX e) (hl:Sh (Ex.print e)):PX e:=ztU (Ex.deep e) e (Nat.le_refl _) (by have:=h.2.2;omega) h.1.right (rt_qt h.1) hl
theorem beh_sh {w:List UInt8} {l:List Ex.E} (h:Sh (Qy.behind w l)):∀ x∈l,Sh (Ex.print x):=fun x hx=>by
 have hl:l≠[]:=fun e=>by rw [e] at hx;cases hx
 unfold Qy.behind at h
 rw [if_neg hl] at h
 exact zkk (sh_r h) (List.mem_map_of_mem hx)
theorem ztc {w:List UInt8} {l:List Ex.E} (h:Qy.R1 l) (hs:Sh (Qy.behind w l)):PL l:=⟨(zrB h).1,fun x hx=>sh_px (h.all x hx) (beh_sh hs x hx)⟩
theorem flat_sh {α:Type} {f:α→List UInt8} {l:List α} (h:Sh (l.flatMap f)):∀ x∈l,Sh (f x):=by
 induction l with
 | nil=>intro x hx;cases hx
 | cons a l ih =>
  rw [List.flatMap_cons] at h
  intro x hx
  rcases List.mem_cons.1 hx with rfl | hx
  ·exact sh_l h
  ·exact ih (sh_r h) x hx
theorem zud {b:Bool} {f:Qy.From} (h:Qy.RF b f) (hs:Sh (Qy.fromP b f)):PL f.on:=by
 by_cases hj:f.join=0
 ·rw [h.z hj];exact ⟨by simp,by simp⟩
 ·have hb:b=false:=by
   cases b
   ·rfl
   ·exact absurd (h.b rfl) hj
  subst hb
  unfold Qy.fromP at hs
  simp only [Bool.false_eq_true,if_false,true_and] at hs
  rw [if_pos hj] at hs
  exact ztc (.inr (h.o hj)) (sh_r hs)
theorem rc_pc {c:Qy.Core} (h:Qy.RC c) (hs:Sh (Qy.coreP c)):PC c:=by
 have hil:=h.il
 have hgl:=h.gl
 obtain ⟨f1,_⟩:=zpa h.f
 unfold Qy.coreP at hs
 refine ⟨by omega,fun x hx hst=>?_,by omega,fun f hf=>?_,ztc h.w (sh_r (sh_r (sh_l (sh_l hs)))),ztc h.h (sh_r hs),⟨by omega,fun x hx=>sh_px (h.g x hx) (beh_sh (sh_r (sh_l hs)) x hx)⟩⟩
 ·have h1:=zkk (sh_l (sh_l (sh_r (sh_l (sh_l hs))))) (List.mem_map_of_mem hx)
  refine sh_px ((h.i x hx).e hst).1 ?_
  unfold Qy.itemP at h1
  rw [hst] at h1
  simp only [Bool.false_eq_true,if_false] at h1
  split at h1
  ·exact h1
  ·exact sh_l (sh_l h1)
 ·have h1:=sh_r (sh_l (sh_r (sh_l (sh_l hs))))
  have hf':=h.f
  revert h1 hf' hf
  cases c.from_ with
  | nil=>intro hf;cases hf
  | cons g r =>
   intro hf h1 hf'
   obtain ⟨h2,h3,_⟩:=hf'
   unfold Qy.tablesP at h1
   rcases List.mem_cons.1 hf with rfl | hf
   ·exact zud h2 (sh_l h1)
   ·exact zud (h3 f hf) (flat_sh (sh_r h1) f hf)
theorem zpb:∀ {cs:List Qy.Core} {os:List Int},Sh (Qy.restP cs os)→∀ c∈cs,Sh (Qy.coreP c)
 | [],_,_,c,hc=>by cases hc
 | d :: cs,[],h,c,hc=>by
  rw [Qy.restP] at h
  rcases List.mem_cons.1 hc with rfl | hc
  ·exact sh_l h
  ·exact zpb (sh_r h) c hc
 | d :: cs,o :: os,h,c,hc=>by
  rw [Qy.restP] at h
  rcases List.mem_cons.1 hc with rfl | hc
  ·exact sh_r (sh_l h)
  ·exact zpb (sh_r h) c hc
theorem rs_ps {s:Qy.Sel} (h:Qy.RS s) (hs:Sh (Qy.printQ s)):PS s:=by
 have hn:=h.n
 have hcl:=h.cl
 have htl:=h.tl
 unfold Qy.printQ at hs
 refine ⟨by omega,fun c hc=>rc_pc (h.c c hc) ?_,by omega,by omega,fun t ht=>sh_px (h.t t ht).e ?_,ztc h.l (sh_r (sh_l hs)),ztc h.f (sh_r hs)⟩
 ·have h1:=sh_l (sh_l (sh_l hs))
  revert h1 hc
  cases s.cores with
  | nil=>intro hc;cases hc
  | cons d cs =>
   intro hc h1
   rw [Qy.coresP] at h1
   rcases List.mem_cons.1 hc with rfl | hc
   ·exact sh_l h1
   ·exact zpb (sh_r h1) c hc
 ·have h1:=sh_r (sh_l (sh_l hs))
  unfold Qy.orderP at h1
  have hl:s.order≠[]:=fun e=>by rw [e] at ht;cases ht
  rw [if_neg hl] at h1
  have h2:=zkk (sh_r h1) (List.mem_map_of_mem ht)
  unfold Qy.termP at h2
  exact sh_l (sh_l h2)
theorem ztf {s:Qy.Sel} (h:Qy.RS s):∀ (n i:Nat),i+n=s.cores.length→lup Out (zaR pr.ev lup) [.int .i64 (i:Int),seC s]=some (.ret (.bool true),[])
 | 0,i,hi=>by
  obtain rfl:i=s.cores.length:=by omega
  obtain ⟨c0,c1,c2,c3,c4⟩:=se_1 s
  have hz:=h.z
  have hl:s.lim.length≤1:=by rcases h.l with e | ⟨e,he,_⟩<;>simp_all
  have hf:(s.off.length:Int)≤s.lim.length:=by
   rcases h.l with e | ⟨e,he,_⟩
   ·rw [hz e,e];simp
   ·rcases h.f with e' | ⟨e',he',_⟩<;>simp_all
  have hl2:(s.lim.length:Int)≤1:=by omega
  rw [zaF]
  simp [-Int.natCast_add,zaR,zcM,c0,c3,c4,zac zps,hl2,hf,rtn]
 | n+1,i,hi=>by
  have h1:i < s.cores.length:=by omega
  have hcl:=h.cl
  obtain ⟨c0,c1,c2,c3,c4⟩:=se_1 s
  have ih:=ztf h n (i+1) (by omega)
  have r:=h.c _ (List.getElem_mem h1)
  have hel:=zhz zdx s.cores i h1
  have hw:=zcs (p:=i) (by omega)
  generalize s.cores[i]=c at *
  obtain ⟨d0,d1,d2,d3,d4,d5⟩:=co_1 c
  have i0:c.items≠[]:=r.i0
  have f6:¬ (6:Int) < c.from_.length:=by have:=(zpa r.f).1;omega
  have w1:¬ (1:Int) < c.wher.length:=by rcases r.w with e | ⟨e,he,_⟩<;>simp_all
  have v1:¬ (1:Int) < c.having.length:=by rcases r.h with e | ⟨e,he,_⟩<;>simp_all
  rw [zaF]
  cases hf:c.from_ with
  | nil =>
   rw [hf] at d2
   simp [-Int.natCast_add,zaR,zap,c0,h1,hel,zr6,zdx.ck,d1,d2,d3,d4,i0,w1,v1,hw,ih]
  | cons f fr =>
   have hrf:=r.f
   rw [hf] at d2 f6 hrf
   have hj:f.join=0:=hrf.1.b rfl
   have el0:elV 4 (.list ((f :: fr).map frC)) (.int .i64 0)=some (frC f):=zhz zei (f :: fr) 0 (by simp)
   have ld2:ldV false 1 (frC f) 2=some (.int .i64 f.join):=rfl
   simp only [List.length_cons,Int.natCast_add,Int.natCast_one] at f6
   have hp:(0:Int) < (fr.length:Int)+1:=by omega
   simp only [List.map_cons] at el0 d2
   simp [zaR,zap,c0,h1,hel,zr6,zdx.ck,d1,d2,d3,d4,i0,f6,w1,v1,hp,el0,ld2,hj]
   have hw':IntKind.wrap .i64 ((i:Int)+1)=(i:Int)+1:=by rw [hw];simp
   rw [hw',show ((i:Int)+1)=((i+1:Nat):Int) by simp]
   exact ih
theorem zpu (s:List UInt8):pr.ev 4 [.str s] []=some (.ret (.bool true),[]):=by
 refine pr.of rfl rfl rfl (zgt _ _ _ _) ?_
 by_cases hs:s.length≤1000
 ·have hsi:¬ ((1000:Int) < s.length):=by omega
  have hof:=m_qOf (s:=s) (by omega)
  rw [ofQV] at hof
  obtain ⟨c0,c1,c2,c3,c4⟩:=se_1 (Qy.ofQ s).1
  rcases Qy.ofQ_cases s with ⟨h1,h2,h3⟩ | ⟨h1,h2,h3,h4,h5⟩
  ·have hle:((Qy.ofQ s).2.1:Int)≤s.length:=by omega
   rw [h2] at hof
   simp [zbC,hsi,zac hof,h1,zac zps,hle,rtn]
   rfl
  ·have hln:(Qy.printQ (Qy.ofQ s).1).length=Qy.ln (Qy.queryQ (Qy.ofQ s).1):=by unfold Qy.ln;rw [Qy.flat_query]
   have htk:(Ex.toks (Qy.queryQ (Qy.ofQ s).1)).length=Qy.tk (Qy.queryQ (Qy.ofQ s).1):=rfl
   have hb:=Qy.ofQ_print h3 (by omega) (by omega)
   have hP:=m_pQuery (rs_ps h3 (by unfold Sh;omega)) (by unfold Sh;omega)
   have hof2:=m_qOf (s:=Qy.printQ (Qy.ofQ s).1) (by omega)
   rw [hb,ofQV] at hof2
   dsimp only at hof2
   have hS:=m_sameS (rs_fs h3)
   rw [h1,h2] at hof
   have hlp:=ztf h3 (Qy.ofQ s).1.cores.length 0 (by omega)
   simp only [Int.natCast_zero] at hlp
   have hn:=h3.n
   have hol:=h3.cl
   have hw:IntKind.wrap .i64 (((Qy.ofQ s).1.ops.length:Int)+1)=(((Qy.ofQ s).1.cores.length:Nat):Int):=by rw [zdf (by omega) (by omega)];omega
   simp [-Int.natCast_add,zbC,zax,hsi,zac hof,zac hP,zac hof2,zac hS,c0,c1,hw,hlp]
 ·have hsi:((1000:Int) < s.length):=by omega
  simp [zbC,hsi,zac zps,rtn]
end Go.Proofs.YtlooegbcfkoloaaGreatDoor
namespace Go.Proofs.YtlooegbcfkoloaaGreatDoor
open Go.RowKit
open Go.ChangeShapes Go.WideShapes Go.ChangeAt Go.ChangeMaps
theorem zmZ (s:ByteArray) (w:World) (h:w.ShapedOpen Tryz.prog):Calls Tryz.prog 4 #[.string s] w fun e w'=>e=.returned (.bool true)∧Below w.heap.size w w':=by
 obtain ⟨m,hm⟩:=g_cell h
 have hs:s=Lx.bs (Lx.ls s):=(Lx.znq s).symm
 rw [hs]
 refine Calls.mono (zpH (@zpu ⟨m⟩ (Lx.ls s)) (fun a ha=>by rw [List.mem_singleton.1 ha];rfl) hm (.cons _ _ _ _ (.str _) .nil)) fun e w' ⟨hb,A',v,he,hv⟩=>?_
 cases hv
 exact ⟨he,hb⟩
theorem zjE (os:Os) (started:os.Started) (H:Type) (enc:TypeId×Value→H) :
  ReturnsInHanded {} Tryz.checked os 4 .any (fun w args=>(Rows.queryBackSpec.pre enc Tryz.prog Tryz.f4 [] false w args∧laidMetH Tryz.prog zrQ w)∧sizedMet enc Tryz.prog Tryz.f4 (OpenSpec.ofChange Rows.queryBackSpec) false w args)
   (Rows.queryBackSpec.post enc Tryz.prog Tryz.f4 false true false false):=by
 refine zjf (C:=Tryz.checked) (X:=fun w _=>laidMetH Tryz.prog zrQ w) (fun _ _ _ hh h=>h.of_heap hh) xOwn_ started (by kernel_rfl) Tryz.func4
  (ChangeSpec.witness_shaped (enc:=enc) (C:=Tryz.checked) (os:=os) (X:=fun w _=>laidMetH Tryz.prog zrQ w) false (World.laidAll Tryz.prog os zrQ) #[.string ⟨#[]⟩] 8 (World.laidAll_os _ _ _) (World.shaped_of_ZipB (by kernel_rfl) (by kernel_rfl)) (by kernel_rfl) (by kernel_rfl) (by kernel_rfl) (zsf os _)) ?_
 intro W base args ds gs before hval0 hW _ _ _ hsh _
 have hval:∀ (j:Nat) t v,Tryz.f4.params[j]?=some t→args[j]?=some v→Value.okWide Tryz.prog W .any base t v:=hval0
 have hW':=hW
 obtain ⟨p,q,hA0,hV,rfl,hfz,hnd⟩:=hW
 have hA:DataW.TrodAll enc Tryz.prog W 0 (fun _=>true) true Tryz.f4.params.toList args.toList ds p:=hA0
 rw [Tryz.params4] at hA hval
 obtain ⟨v0,vs0,d0,ds0,p0,q0,hargs,rfl,rfl,h0,r0⟩:=trodAll_cons hA
 obtain ⟨rfl,rfl,rfl⟩:=trodAll_nil r0
 obtain rfl:args=#[v0]:=by cases args;simp_all
 obtain ⟨rfl,rfl⟩:=trodVars_none hV
 obtain ⟨s,rfl,rfl,rfl,ws⟩:=open_string Tryz.underlying9 (hval 0 9 v0 rfl rfl) h0
 clear hA0 hval0
 simp only [List.append_nil] at hW'
 refine (zmZ s W hsh).mono fun e W' ⟨he,hg⟩=>?_
 subst he
 exact ⟨_,rfl,zrE (pa:=[]) (pv:=[]) hW' (fun _ _ _=>(trodAll_cons_mk (shut_bool Tryz.underlying4 _) trodAll_mk0)) (fun sp _=>(trodAll_cons_mk (shut_string Tryz.underlying9 ws) trodAll_mk0)) (fun _ _=>rfl) rfl hg (ok_one (by kernel_rfl) rfl (okWide_bool_mk Tryz.underlying4 _))⟩
theorem zmY:Rows.QueryBackSaid :=
 OpenClaim.holds_of_wide 4 Tryz.f4 rfl rfl rfl rfl rfl rfl rfl ⟨rfl,rfl,rfl,rfl,rfl⟩ rfl rfl rfl rfl rfl (by kernel_rfl) Tryz.func4 (by kernel_rfl)
  (of_decide_eq_true (by kernel_rfl)) (by unfold Func.isWrapper;first | (rw [if_pos (by decide +kernel)];kernel_rfl) | (rw [if_neg (by decide +kernel)];exact ⟨rfl,rfl⟩))
  (fun os started H enc _=>zjE os started H enc)
theorem queryBack_card:Rows.QueryBackCardSaid :=
 Claim7.holds_tied_plain_at .later [] [.data,.pinned] true _ true
  zmY (fun _ h=>by cases h) (by kernel_rfl) (fun _ h=>by cases h) queryBack_row_tie rfl ⟨rfl,rfl⟩ (by kernel_rfl) rfl
  (fun f fn hf hfn=>by
   obtain rfl:f=4:=Option.some.inj ((show Tryz.prog.funcNamed "tome/tomelaw26.QueryBack" = some 4 by kernel_rfl).symm.trans hf) |>.symm
   obtain rfl:fn=Tryz.f4:=(Option.some.inj (Tryz.func4.symm.trans hfn)).symm
   exact ⟨by kernel_rfl,fun j t ht=>by
    rw [Tryz.params4] at ht
    have hm:t∈[9]:=by simpa using Array.mem_of_getElem? ht
    have hall:([9].all fun u=>!Tryz.prog.wantsStandIn u)=true:=by kernel_rfl
    exact (show Tryz.prog.wantsStandIn t=false by simpa using List.all_eq_true.1 hall t hm)⟩)
  (by kernel_rfl)
end Go.Proofs.YtlooegbcfkoloaaGreatDoor
