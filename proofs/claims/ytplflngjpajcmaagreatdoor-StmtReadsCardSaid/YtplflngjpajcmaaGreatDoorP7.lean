/- Part of the proof: see the last text. -/
import Derived.Test.YtplflngjpajcmaaGreatDoorP0
import Derived.Test.YtplflngjpajcmaaGreatDoorP6
set_option maxRecDepth 20000
set_option linter.unusedVariables false
set_option linter.unusedSimpArgs false
noncomputable section
namespace Ex
section
open Lx
abbrev S:=List UInt8
abbrev V:=Int×Int×S
inductive E where
 |mk (kind:Int) (op:S) (val:V) (table name:S) (slot:Int) (neg dist:Bool) (args:List E)
def E.kind:E→Int|.mk k _ _ _ _ _ _ _ _=>k
def E.op:E→S|.mk _ o _ _ _ _ _ _ _=>o
def E.val:E→V|.mk _ _ v _ _ _ _ _ _=>v
def E.table:E→S|.mk _ _ _ t _ _ _ _ _=>t
def E.name:E→S|.mk _ _ _ _ n _ _ _ _=>n
def E.slot:E→Int|.mk _ _ _ _ _ s _ _ _=>s
def E.neg:E→Bool|.mk _ _ _ _ _ _ b _ _=>b
def E.dist:E→Bool|.mk _ _ _ _ _ _ _ d _=>d
def E.args:E→List E|.mk _ _ _ _ _ _ _ _ a=>a
def v0:V:=(0,0,[])
def e0:E:=.mk 0 [] v0 [] [] 0 false false []
def eVal(v:V):E:=.mk 1 [] v [] [] 0 false false []
def eCol(t n:S):E:=.mk 2 [] v0 t n 0 false false []
def eUn(op:S)(a:E):E:=.mk 3 op v0 [] [] 0 false false [a]
def eBin(op:S)(a b:E):E:=.mk 4 op v0 [] [] 0 false false [a,b]
def eIs(n:Bool)(a b:E):E:=.mk 5 [] v0 [] [] 0 n false [a,b]
def eIn(n:Bool)(l:List E):E:=.mk 6 [] v0 [] [] 0 n false l
def eBtw(n:Bool)(a b c:E):E:=.mk 7 [] v0 [] [] 0 n false [a,b,c]
def eLike(n:Bool)(a b:E):E:=.mk 8 [] v0 [] [] 0 n false [a,b]
def eCase(d:Bool)(l:List E):E:=.mk 9 [] v0 [] [] 0 false d l
def eFn(op:S)(l:List E):E:=.mk 10 op v0 [] [] 0 false false l
def eAgg(op:S)(d:Bool)(l:List E):E:=.mk 11 op v0 [] [] 0 false d l
def eCast(op:S)(a:E):E:=.mk 12 op v0 [] [] 0 false false [a]
def wNot:S:=[110,111,116]
def wIs:S:=[105,115]
def wIn:S:=[105,110]
def zh2:S:=[98,101,116,119,101,101,110]
def wLike:S:=[108,105,107,101]
def wAnd:S:=[97,110,100]
def wOr:S:=[111,114]
def wNull:S:=[110,117,108,108]
def wCase:S:=[99,97,115,101]
def wCast:S:=[99,97,115,116]
def wWhen:S:=[119,104,101,110]
def wThen:S:=[116,104,101,110]
def wElse:S:=[101,108,115,101]
def wEnd:S:=[101,110,100]
def wAs:S:=[97,115]
def zjq:S:=[100,105,115,116,105,110,99,116]
def zh1:S:=[99,111,117,110,116]
def mOpen:S:=[40]
def zi5:S:=[41]
def mComma:S:=[44]
def mDot:S:=[46]
def mStar:S:=[42]
def zg6:S:=[45]
def mPlus:S:=[43]
def cmps:List S:=[[61],[60,62],[60],[60,61],[62],[62,61]]
def aggs:List S:=[zh1,[115,117,109],[109,105,110],[109,97,120],[97,118,103],[116,111,116,97,108]]
def types:List S:=[[105,110,116],[116,101,120,116],[98,108,111,98]]
def isT(L:List T)(p:Nat)(k:Int)(s:S):Bool:=match L[p]? with|some t=>decide (t.kind=k) && t.text==s|none=>false
def zeE(L:List T)(p:Nat)(k:Int):List S→Option S
 |[]=>none
 |s::r=>if isT L p k s then some s else zeE L p k r
inductive R where
 |ok (l:List E) (p:Nat)
 |stop (p:Nat)
inductive K where
 |lev (n:Nat)
 |chain (n:Nat) (e:E)
 |list (acc:List E)
 |whens (d:Bool) (acc:List E)
def ops:Nat→List S×Int
 |0=>([wOr],2)
 |1=>([wAnd],2)
 |4=>([mPlus,zg6],4)
 |5=>([mStar,[47],[37]],4)
 |_=>([[124,124]],4)
def need(L:List T)(k:Int)(s:S)(p:Nat)(f:Nat→Option R):Option R:=if isT L p k s then f (p+1)else some (.stop p)
def zbS(r:Option R)(f:E→Nat→Option R):Option R:=match r with
 |some (.ok [e] q)=>f e q
 |some (.ok _ _)=>none
 |some (.stop q)=>some (.stop q)
 |none=>none
def thenL(r:Option R)(f:List E→Nat→Option R):Option R:=match r with
 |some (.ok l q)=>f l q
 |some (.stop q)=>some (.stop q)
 |none=>none
def one(e:E)(p:Nat):Option R:=some (.ok [e] p)
def run(L:List T):Nat→K→Nat→Option R
 |0,_,_=>none
 |n+1,.lev 2,p=>if isT L p 2 wNot then zbS (run L n (.lev 2) (p+1)) fun e q=>one (eUn wNot e) q else run L n (.lev 3) p
 |n+1,.lev 3,p=>zbS (run L n (.lev 4) p) fun a q=>
   match zeE L q 4 cmps with
   |some op=>zbS (run L n (.lev 4) (q+1)) fun b r=>one (eBin op a b) r
   |none=>
    if isT L q 2 wIs then
     (fun nt=>zbS (run L n (.lev 4) (if nt then q+2 else q+1)) fun b r=>one (eIs nt a b) r) (isT L (q+1) 2 wNot)
    else
     (fun nt=>(fun q2=>
      if isT L q2 2 wIn then need L 4 mOpen (q2+1) fun q3=>thenL (run L n (.list []) q3) fun l r=>one (eIn nt (a::l)) r
      else if isT L q2 2 zh2 then zbS (run L n (.lev 4) (q2+1)) fun b r=>need L 2 wAnd r fun r2=>zbS (run L n (.lev 4) r2) fun c r3=>one (eBtw nt a b c) r3
      else if isT L q2 2 wLike then zbS (run L n (.lev 4) (q2+1)) fun b r=>one (eLike nt a b) r
      else one a q2) (if nt then q+1 else q))
      (isT L q 2 wNot && (isT L (q+1) 2 wIn || isT L (q+1) 2 zh2 || isT L (q+1) 2 wLike))
 |n+1,.lev 7,p=>
   match zeE L p 4 [zg6,mPlus]with
   |none=>run L n (.lev 8) p
   |some op=>
    match L[p+1]? with
    |some t=>if op==zg6 && decide (t.kind=3) && decide (t.val.1=1)then one (eVal (t.val.1, -t.val.2.1,t.val.2.2)) (p+2)else zbS (run L n (.lev 7) (p+1)) fun e q=>one (eUn op e) q
    |none=>zbS (run L n (.lev 7) (p+1)) fun e q=>one (eUn op e) q
 |n+1,.lev 8,p=>
   match L[p]? with
   |none=>some (.stop p)
   |some t=>
    if t.kind=3 then one (eVal t.val) (p+1)
    else if t.kind=1 then
     if isT L (p+1) 4 mDot then
      (match L[p+2]? with
      |some u=>if u.kind=1 then one (eCol t.text u.text) (p+3)else some (.stop (p+2))
      |none=>some (.stop (p+2)))
     else if isT L (p+1) 4 mOpen then
      (if aggs.contains (fold t.text) then
       (if fold t.text==zh1 && isT L (p+2) 4 mStar then need L 4 zi5 (p+3) fun q=>one (eAgg (fold t.text) false []) q
       else(fun d=>zbS (run L n (.lev 0) (if d then p+3 else p+2)) fun e q=>need L 4 zi5 q fun r=>one (eAgg (fold t.text) d [e]) r) (isT L (p+2) 2 zjq))
      else if isT L (p+2) 4 zi5 then one (eFn (fold t.text) []) (p+3)
      else thenL (run L n (.list []) (p+2)) fun l q=>one (eFn (fold t.text) l) q)
     else one (eCol [] t.text) (p+1)
    else if isT L p 2 wNull then one (eVal v0) (p+1)
    else if isT L p 2 wCase then
     (if isT L (p+1) 2 wWhen then run L n (.whens false []) (p+1)
     else zbS (run L n (.lev 0) (p+1)) fun e q=>run L n (.whens true [e]) q)
    else if isT L p 2 wCast then
     need L 4 mOpen (p+1) fun q=>zbS (run L n (.lev 0) q) fun e r=>need L 2 wAs r fun r2=>
      (match L[r2]? with
      |some u=>if(decide (u.kind=2) || decide (u.kind=1)) && types.contains (fold u.text)then need L 4 zi5 (r2+1) fun r3=>one (eCast (fold u.text) e) r3 else some (.stop r2)
      |none=>some (.stop r2))
    else if isT L p 4 mOpen then zbS (run L n (.lev 0) (p+1)) fun e q=>need L 4 zi5 q fun r=>one e r
    else some (.stop p)
 |n+1,.lev k,p=>zbS (run L n (.lev (k+1)) p) fun e q=>run L n (.chain k e) q
 |n+1,.chain k e,p=>
   match zeE L p (ops k).2 (ops k).1 with
   |none=>one e p
   |some op=>zbS (run L n (.lev (k+1)) (p+1)) fun b q=>run L n (.chain k (eBin op e b)) q
 |n+1,.list acc,p=>zbS (run L n (.lev 0) p) fun e q=>
   if isT L q 4 mComma then run L n (.list (acc++[e])) (q+1)else need L 4 zi5 q fun r=>some (.ok (acc++[e]) r)
 |n+1,.whens d acc,p=>need L 2 wWhen p fun p1=>zbS (run L n (.lev 0) p1) fun a q=>need L 2 wThen q fun q1=>zbS (run L n (.lev 0) q1) fun b r=>
   if isT L r 2 wWhen then run L n (.whens d (acc++[a,b])) r
   else if isT L r 2 wElse then zbS (run L n (.lev 0) (r+1)) fun c r2=>need L 2 wEnd r2 fun r3=>one (eCase d (acc++[a,b,c])) r3
   else need L 2 wEnd r fun r3=>one (eCase d (acc++[a,b])) r3
end
section
open Lx
def Fw(N p:Nat):Option R→Prop
 |none=>True
 |some (.ok _ q)=>p<q∧q≤N
 |some (.stop q)=>q≤N
theorem Fw.mono{N p p':Nat}{r:Option R}(h:Fw N p' r)(hp:p≤p'):Fw N p r:=by
 unfold Fw at *;split
 ·trivial
 ·exact⟨by simp at h;omega,by simp at h;omega⟩
 ·simpa using h
def FwC(N p:Nat):Option R→Prop
 |none=>True
 |some (.ok _ q)=>p≤q∧q≤N
 |some (.stop q)=>q≤N
theorem FwC.mono{N p p':Nat}{r:Option R}(h:FwC N p' r)(hp:p≤p'):FwC N p r:=by
 unfold FwC at *;split
 ·trivial
 ·exact⟨by simp at h;omega,by simp at h;omega⟩
 ·simpa using h
end
section
open Lx
def joined(k:Int):Bool:=decide (3≤k) && decide (k≤8)
abbrev C:=Int×Int×S
def inn(c:C):S:=if joined c.1 then 40::(c.2.2++[41])else c.2.2
mutual
def deep:E→Nat
 |.mk _ _ _ _ _ _ _ _ a=>deeps a+1
termination_by structural x=>x
def deeps:List E→Nat
 |[]=>0
 |e::r=>max (deep e) (deeps r)
termination_by structural x=>x
end
def mayV(v:V):Bool:=
 if v.1=0 then decide (v.2.1=0) && v.2.2==[]else if v.1=1 then v.2.2==[]else if v.1=2∨v.1=3 then decide (v.2.1=0) && decide (v.2.2.length≤4096)else false
def nmE(s:S):Bool:=nameOk s && !isW s
def uns:List S:=[zg6,mPlus,wNot]
def bins:List S:=[[124,124],mStar,[47],[37],mPlus,zg6,[61],[60,62],[60],[60,61],[62],[62,61],wAnd,wOr]
def lowI:Int:=-9223372036854775808
def ownF(k:Int)(o:S)(v:V)(t m:S)(g d:Bool)(n:Nat):Bool:=
 if k=1 then o==[] && t==[] && m==[] && !g && !d && decide (n=0) && mayV v && !(decide (v.1=1) && decide (v.2.1=lowI))
 else if k=2 then o==[] && v==v0 && !g && !d && decide (n=0) && nmE m && (t==[] || nmE t)
 else if k=3 then v==v0 && t==[] && m==[] && !g && !d && decide (n=1) && uns.contains o
 else if k=4 then v==v0 && t==[] && m==[] && !g && !d && decide (n=2) && bins.contains o
 else if k=5 then o==[] && v==v0 && t==[] && m==[] && !d && decide (n=2)
 else if k=6 then o==[] && v==v0 && t==[] && m==[] && !d && decide (2≤n)
 else if k=7 then o==[] && v==v0 && t==[] && m==[] && !d && decide (n=3)
 else if k=8 then o==[] && v==v0 && t==[] && m==[] && !d && decide (n=2)
 else if k=9 then o==[] && v==v0 && t==[] && m==[] && !g && decide (2≤n) && (!d || decide (3≤n))
 else if k=10 then v==v0 && t==[] && m==[] && !g && !d && nmE o && fold o==o && !aggs.contains o
 else if k=11 then v==v0 && t==[] && m==[] && !g && aggs.contains o && (decide (n=1) || decide (n=0) && o==zh1 && !d)
 else if k=12 then v==v0 && t==[] && m==[] && !g && !d && decide (n=1) && types.contains o
 else false
def own(e:E):Bool:=ownF e.kind e.op e.val e.table e.name e.neg e.dist e.args.length
def N64(e:E):Prop:=e.val.2.1≤9223372036854775807∧-9223372036854775808≤e.val.2.1
inductive RtN:E→Prop
 |mk {e:E}:N64 e→(∀x∈e.args,RtN x)→RtN e
theorem RtN.n{e:E}(h:RtN e):N64 e:=by cases h;assumption
theorem RtN.a{e:E}(h:RtN e):∀x∈e.args,RtN x:=by cases h;assumption
inductive Rt:E→Prop
 |val (v:V):mayV v=true→(v.1=1→v.2.1≠lowI)→(v.2.1≤9223372036854775807∧-9223372036854775808≤v.2.1)→Rt (eVal v)
 |col (t n:S):nmE n=true→(t=[]∨nmE t=true)→Rt (eCol t n)
 |un (op:S) (a:E):op∈uns→Rt a→Rt (eUn op a)
 |bin (op:S) (a b:E):op∈bins→Rt a→Rt b→Rt (eBin op a b)
 |is (g:Bool) (a b:E):Rt a→Rt b→Rt (eIs g a b)
 |in_ (g:Bool) (a:E) (l:List E):l≠[]→Rt a→(∀x∈l,Rt x)→Rt (eIn g (a::l))
 |btw (g:Bool) (a b c:E):Rt a→Rt b→Rt c→Rt (eBtw g a b c)
 |like (g:Bool) (a b:E):Rt a→Rt b→Rt (eLike g a b)
 |case (d:Bool) (l:List E):2≤l.length→(d=true→3≤l.length)→(∀x∈l,Rt x)→Rt (eCase d l)
 |fn (op:S) (l:List E):nmE op=true→fold op=op→aggs.contains op=false→(∀x∈l,Rt x)→Rt (eFn op l)
 |agg (op:S) (d:Bool) (a:E):aggs.contains op=true→Rt a→Rt (eAgg op d [a])
 |star:Rt (eAgg zh1 false [])
 |cast (op:S) (a:E):types.contains op=true→Rt a→Rt (eCast op a)
end
end Ex
end
