/- Part of the proof: see the last text. -/
import Derived.Test.YtlooegbcfkoloaaGreatDoorP0
import Derived.Test.YtlooegbcfkoloaaGreatDoorP6
set_option maxRecDepth 20000
set_option linter.unusedVariables false
set_option linter.unusedSimpArgs false
noncomputable section
namespace Ex
section
open Lx
abbrev S:=List UInt8
abbrev V:=Int×Int×S
inductive E where
 |mk (kind:Int) (op:S) (val:V) (table name:S) (slot:Int) (neg dist:Bool) (args:List E)
def E.kind:E→Int|.mk k _ _ _ _ _ _ _ _=>k
def E.op:E→S|.mk _ o _ _ _ _ _ _ _=>o
def E.val:E→V|.mk _ _ v _ _ _ _ _ _=>v
def E.table:E→S|.mk _ _ _ t _ _ _ _ _=>t
def E.name:E→S|.mk _ _ _ _ n _ _ _ _=>n
def E.neg:E→Bool|.mk _ _ _ _ _ _ b _ _=>b
def E.dist:E→Bool|.mk _ _ _ _ _ _ _ d _=>d
def E.args:E→List E|.mk _ _ _ _ _ _ _ _ a=>a
def v0:V:=(0,0,[])
def e0:E:=.mk 0 [] v0 [] [] 0 false false []
def eVal(v:V):E:=.mk 1 [] v [] [] 0 false false []
def eCol(t n:S):E:=.mk 2 [] v0 t n 0 false false []
def eUn(op:S)(a:E):E:=.mk 3 op v0 [] [] 0 false false [a]
def eBin(op:S)(a b:E):E:=.mk 4 op v0 [] [] 0 false false [a,b]
def eIs(n:Bool)(a b:E):E:=.mk 5 [] v0 [] [] 0 n false [a,b]
def eIn(n:Bool)(l:List E):E:=.mk 6 [] v0 [] [] 0 n false l
def eBtw(n:Bool)(a b c:E):E:=.mk 7 [] v0 [] [] 0 n false [a,b,c]
def zls(n:Bool)(a b:E):E:=.mk 8 [] v0 [] [] 0 n false [a,b]
def eCase(d:Bool)(l:List E):E:=.mk 9 [] v0 [] [] 0 false d l
def eFn(op:S)(l:List E):E:=.mk 10 op v0 [] [] 0 false false l
def eAgg(op:S)(d:Bool)(l:List E):E:=.mk 11 op v0 [] [] 0 false d l
def zmP(op:S)(a:E):E:=.mk 12 op v0 [] [] 0 false false [a]
def wNot:S:=[110,111,116]
def wIs:S:=[105,115]
def wIn:S:=[105,110]
def zdl:S:=[98,101,116,119,101,101,110]
def zjD:S:=[108,105,107,101]
def wAnd:S:=[97,110,100]
def wOr:S:=[111,114]
def zqG:S:=[110,117,108,108]
def wCase:S:=[99,97,115,101]
def zly:S:=[99,97,115,116]
def zgb:S:=[119,104,101,110]
def zjC:S:=[116,104,101,110]
def zkW:S:=[101,108,115,101]
def wEnd:S:=[101,110,100]
def wAs:S:=[97,115]
def zav:S:=[100,105,115,116,105,110,99,116]
def zeR:S:=[99,111,117,110,116]
def zea:S:=[40]
def zdf:S:=[41]
def zdH:S:=[44]
def mDot:S:=[46]
def zem:S:=[42]
def zfm:S:=[45]
def zjY:S:=[43]
def cmps:List S:=[[61],[60,62],[60],[60,61],[62],[62,61]]
def aggs:List S:=[zeR,[115,117,109],[109,105,110],[109,97,120],[97,118,103],[116,111,116,97,108]]
def zks:List S:=[[105,110,116],[116,101,120,116],[98,108,111,98]]
def isT(L:List T)(p:Nat)(k:Int)(s:S):Bool:=match L[p]? with|some t=>decide (t.kind=k) && t.text==s|none=>false
def isK(L:List T)(p:Nat)(k:Int):Bool:=match L[p]? with|some t=>decide (t.kind=k)|none=>false
def zet(L:List T)(p:Nat)(k:Int):List S→Option S
 |[]=>none
 |s::r=>if isT L p k s then some s else zet L p k r
inductive R where
 |ok (l:List E) (p:Nat)
 |stop (p:Nat)
inductive K where
 |lev (n:Nat)
 |chain (n:Nat) (e:E)
 |list (acc:List E)
 |whens (d:Bool) (acc:List E)
def ops:Nat→List S×Int
 |0=>([wOr],2)
 |1=>([wAnd],2)
 |4=>([zjY,zfm],4)
 |5=>([zem,[47],[37]],4)
 |_=>([[124,124]],4)
def need(L:List T)(k:Int)(s:S)(p:Nat)(f:Nat→Option R):Option R:=if isT L p k s then f (p+1)else some (.stop p)
def then1(r:Option R)(f:E→Nat→Option R):Option R:=match r with
 |some (.ok [e] q)=>f e q
 |some (.ok _ _)=>none
 |some (.stop q)=>some (.stop q)
 |none=>none
def zkX(r:Option R)(f:List E→Nat→Option R):Option R:=match r with
 |some (.ok l q)=>f l q
 |some (.stop q)=>some (.stop q)
 |none=>none
def one(e:E)(p:Nat):Option R:=some (.ok [e] p)
def run(L:List T):Nat→K→Nat→Option R
 |0,_,_=>none
 |n+1,.lev 2,p=>if isT L p 2 wNot then then1 (run L n (.lev 2) (p+1)) fun e q=>one (eUn wNot e) q else run L n (.lev 3) p
 |n+1,.lev 3,p=>then1 (run L n (.lev 4) p) fun a q=>
   match zet L q 4 cmps with
   |some op=>then1 (run L n (.lev 4) (q+1)) fun b r=>one (eBin op a b) r
   |none=>
    if isT L q 2 wIs then
     (fun nt=>then1 (run L n (.lev 4) (if nt then q+2 else q+1)) fun b r=>one (eIs nt a b) r) (isT L (q+1) 2 wNot)
    else
     (fun nt=>(fun q2=>
      if isT L q2 2 wIn then need L 4 zea (q2+1) fun q3=>zkX (run L n (.list []) q3) fun l r=>one (eIn nt (a::l)) r
      else if isT L q2 2 zdl then then1 (run L n (.lev 4) (q2+1)) fun b r=>need L 2 wAnd r fun r2=>then1 (run L n (.lev 4) r2) fun c r3=>one (eBtw nt a b c) r3
      else if isT L q2 2 zjD then then1 (run L n (.lev 4) (q2+1)) fun b r=>one (zls nt a b) r
      else one a q2) (if nt then q+1 else q))
      (isT L q 2 wNot && (isT L (q+1) 2 wIn || isT L (q+1) 2 zdl || isT L (q+1) 2 zjD))
 |n+1,.lev 7,p=>
   match zet L p 4 [zfm,zjY]with
   |none=>run L n (.lev 8) p
   |some op=>
    match L[p+1]? with
    |some t=>if op==zfm && decide (t.kind=3) && decide (t.val.1=1)then one (eVal (t.val.1, -t.val.2.1,t.val.2.2)) (p+2)else then1 (run L n (.lev 7) (p+1)) fun e q=>one (eUn op e) q
    |none=>then1 (run L n (.lev 7) (p+1)) fun e q=>one (eUn op e) q
 |n+1,.lev 8,p=>
   match L[p]? with
   |none=>some (.stop p)
   |some t=>
    if t.kind=3 then one (eVal t.val) (p+1)
    else if t.kind=1 then
     if isT L (p+1) 4 mDot then
      (match L[p+2]? with
      |some u=>if u.kind=1 then one (eCol t.text u.text) (p+3)else some (.stop (p+2))
      |none=>some (.stop (p+2)))
     else if isT L (p+1) 4 zea then
      (if aggs.contains (fold t.text) then
       (if fold t.text==zeR && isT L (p+2) 4 zem then need L 4 zdf (p+3) fun q=>one (eAgg (fold t.text) false []) q
       else(fun d=>then1 (run L n (.lev 0) (if d then p+3 else p+2)) fun e q=>need L 4 zdf q fun r=>one (eAgg (fold t.text) d [e]) r) (isT L (p+2) 2 zav))
      else if isT L (p+2) 4 zdf then one (eFn (fold t.text) []) (p+3)
      else zkX (run L n (.list []) (p+2)) fun l q=>one (eFn (fold t.text) l) q)
     else one (eCol [] t.text) (p+1)
    else if isT L p 2 zqG then one (eVal v0) (p+1)
    else if isT L p 2 wCase then
     (if isT L (p+1) 2 zgb then run L n (.whens false []) (p+1)
     else then1 (run L n (.lev 0) (p+1)) fun e q=>run L n (.whens true [e]) q)
    else if isT L p 2 zly then
     need L 4 zea (p+1) fun q=>then1 (run L n (.lev 0) q) fun e r=>need L 2 wAs r fun r2=>
      (match L[r2]? with
      |some u=>if(decide (u.kind=2) || decide (u.kind=1)) && zks.contains (fold u.text)then need L 4 zdf (r2+1) fun r3=>one (zmP (fold u.text) e) r3 else some (.stop r2)
      |none=>some (.stop r2))
    else if isT L p 4 zea then then1 (run L n (.lev 0) (p+1)) fun e q=>need L 4 zdf q fun r=>one e r
    else some (.stop p)
 |n+1,.lev k,p=>then1 (run L n (.lev (k+1)) p) fun e q=>run L n (.chain k e) q
 |n+1,.chain k e,p=>
   match zet L p (ops k).2 (ops k).1 with
   |none=>one e p
   |some op=>then1 (run L n (.lev (k+1)) (p+1)) fun b q=>run L n (.chain k (eBin op e b)) q
 |n+1,.list acc,p=>then1 (run L n (.lev 0) p) fun e q=>
   if isT L q 4 zdH then run L n (.list (acc++[e])) (q+1)else need L 4 zdf q fun r=>some (.ok (acc++[e]) r)
 |n+1,.whens d acc,p=>need L 2 zgb p fun p1=>then1 (run L n (.lev 0) p1) fun a q=>need L 2 zjC q fun q1=>then1 (run L n (.lev 0) q1) fun b r=>
   if isT L r 2 zgb then run L n (.whens d (acc++[a,b])) r
   else if isT L r 2 zkW then then1 (run L n (.lev 0) (r+1)) fun c r2=>need L 2 wEnd r2 fun r3=>one (eCase d (acc++[a,b,c])) r3
   else need L 2 wEnd r fun r3=>one (eCase d (acc++[a,b])) r3
end
section
open Lx
def Fw(N p:Nat):Option R→Prop
 |none=>True
 |some (.ok _ q)=>p<q∧q≤N
 |some (.stop q)=>q≤N
theorem isT_lt{L:List T}{p:Nat}{k:Int}{s:S}(h:isT L p k s=true):p<L.length:=by
 rcases Nat.lt_or_ge p L.length with h1|h1
 ·exact h1
 ·simp[isT,h1]at h
theorem zcl{L:List T}{p:Nat}{k:Int}{s:S}:∀{l:List S},zet L p k l=some s→p<L.length∧isT L p k s=true∧s∈l
 |[],h=>by cases h
 |a::r,h=>by
  simp only[zet]at h;split at h
  ·rename_i h1;cases h;exact⟨isT_lt h1,h1,by simp⟩
  ·obtain⟨h1,h2,h3⟩:=zcl h;exact⟨h1,h2,by simp[h3]⟩
theorem then1_some{r:Option R}{f:E→Nat→Option R}{x:R}(h:then1 r f=some x):(∃e q,r=some (.ok [e] q)∧f e q=some x)∨∃q,r=some (.stop q)∧x=.stop q:=by
 unfold then1 at h;split at h
 ·exact .inl ⟨_,_,rfl,h⟩
 ·cases h
 ·cases h;exact .inr ⟨_,rfl,rfl⟩
 ·cases h
theorem thenL_some{r:Option R}{f:List E→Nat→Option R}{x:R}(h:zkX r f=some x):(∃e q,r=some (.ok e q)∧f e q=some x)∨∃q,r=some (.stop q)∧x=.stop q:=by
 unfold zkX at h;split at h
 ·exact .inl ⟨_,_,rfl,h⟩
 ·cases h;exact .inr ⟨_,rfl,rfl⟩
 ·cases h
theorem need_some{L:List T}{k:Int}{s:S}{p:Nat}{f:Nat→Option R}{x:R}(h:need L k s p f=some x):(isT L p k s=true∧f (p+1)=some x)∨(isT L p k s=false∧x=.stop p):=by
 unfold need at h;split at h
 ·rename_i h1;exact .inl ⟨h1,h⟩
 ·rename_i h1;cases h;exact .inr ⟨by simpa using h1,rfl⟩
theorem zaI{e:E}{p:Nat}{x:R}(h:one e p=some x):x=.ok [e] p:=by cases h;rfl
theorem Fw.mono{N p p':Nat}{r:Option R}(h:Fw N p' r)(hp:p≤p'):Fw N p r:=by
 unfold Fw at *;split
 ·trivial
 ·exact⟨by simp at h;omega,by simp at h;omega⟩
 ·simpa using h
theorem zcC{N p p':Nat}{r:Option R}{f:E→Nat→Option R}(h:Fw N p' r)(hp:p≤p')(hf:∀e q,p'<q→q≤N→Fw N p (f e q)):Fw N p (then1 r f):=by
 unfold then1;split
 ·exact hf _ _ h.1 h.2
 ·trivial
 ·exact h
 ·trivial
theorem zuF{N p p':Nat}{r:Option R}{f:List E→Nat→Option R}(h:Fw N p' r)(hp:p≤p')(hf:∀e q,p'<q→q≤N→Fw N p (f e q)):Fw N p (zkX r f):=by
 unfold zkX;split
 ·exact hf _ _ h.1 h.2
 ·exact h
 ·trivial
theorem zfF{L:List T}{k:Int}{s:S}{p q:Nat}{f:Nat→Option R}(hq:q≤L.length)(hf:q<L.length→Fw L.length p (f (q+1))):Fw L.length p (need L k s q f):=by
 unfold need;split
 ·rename_i h;exact hf (isT_lt h)
 ·exact hq
theorem zer{N p q:Nat}{e:E}(h1:p<q)(h2:q≤N):Fw N p (one e q):=⟨h1,h2⟩
theorem zmx(L:List T)(n k p:Nat)(hk:k≠2∧k≠3∧k≠7∧k≠8):run L (n+1) (.lev k) p=then1 (run L n (.lev (k+1)) p) fun e q=>run L n (.chain k e) q:=by
 match k,hk with
 |0,_=>rfl
 |1,_=>rfl
 |4,_=>rfl
 |5,_=>rfl
 |6,_=>rfl
 |k+9,_=>rfl
def FwC(N p:Nat):Option R→Prop
 |none=>True
 |some (.ok _ q)=>p≤q∧q≤N
 |some (.stop q)=>q≤N
theorem FwC.fw{N p q:Nat}{r:Option R}(h:FwC N q r)(hp:p<q):Fw N p r:=by
 unfold FwC at h;unfold Fw;split
 ·trivial
 ·simp at h;exact⟨by omega,h.2⟩
 ·simpa using h
theorem zxk{N p p':Nat}{r:Option R}{f:E→Nat→Option R}(h:Fw N p' r)(hf:∀e q,p'<q→q≤N→FwC N p (f e q)):FwC N p (then1 r f):=by
 unfold then1;split
 ·exact hf _ _ h.1 h.2
 ·trivial
 ·exact h
 ·trivial
theorem FwC.mono{N p p':Nat}{r:Option R}(h:FwC N p' r)(hp:p≤p'):FwC N p r:=by
 unfold FwC at *;split
 ·trivial
 ·exact⟨by simp at h;omega,by simp at h;omega⟩
 ·simpa using h
theorem zkd(L:List T):∀n,(∀k p,p≤L.length→Fw L.length p (run L n (.lev k) p))∧(∀k e p,p≤L.length→FwC L.length p (run L n (.chain k e) p))∧(∀acc p,p≤L.length→Fw L.length p (run L n (.list acc) p))∧(∀d acc p,p≤L.length→Fw L.length p (run L n (.whens d acc) p))
 |0=>⟨fun _ _ _=>trivial,fun _ _ _ _=>trivial,fun _ _ _=>trivial,fun _ _ _ _=>trivial⟩
 |n+1=>by
  obtain⟨hl,hc,hs,hw⟩:=zkd L n;refine⟨fun k p hp=>?_,fun k e p hp=>?_,fun acc p hp=>?_,fun d acc p hp=>?_⟩
  ·by_cases hk:k≠2∧k≠3∧k≠7∧k≠8
   ·rw[zmx L n k p hk];exact zcC (hl _ p hp) (qa57 _) fun e q h1 h2=>(hc k e q h2).fw h1
   ·have hk':k=2∨k=3∨k=7∨k=8:=by omega
    rcases hk' with rfl|rfl|rfl|rfl
    ·simp only[run];split
     ·rename_i h;have:=isT_lt h;exact zcC (hl _ (p+1) (by omega)) (by omega) fun e q h1 h2=>zer (by omega) h2
     ·exact hl _ p hp
    ·simp only[run];refine zcC (hl _ p hp) (qa57 _) fun e q h1 h2=>?_;split
     ·rename_i op ho;have:=(zcl ho).1;exact zcC (hl _ (q+1) (by omega)) (by omega) fun e q h1 h2=>zer (by omega) h2
     ·split
      ·rename_i ht;have:=isT_lt ht;split
       ·rename_i ht2;have:=isT_lt ht2;exact zcC (hl _ (q+2) (by omega)) (by omega) fun e q h1 h2=>zer (by omega) h2
       ·exact zcC (hl _ (q+1) (by omega)) (by omega) fun e q h1 h2=>zer (by omega) h2
      ·have hq2:∃q2,(if(isT L q 2 wNot && (isT L (q+1) 2 wIn || isT L (q+1) 2 zdl || isT L (q+1) 2 zjD))=true then q+1 else q)=q2∧q≤q2∧q2≤L.length:=by
        split
        ·rename_i h;simp only[qa32]at h;have:=isT_lt h.1;exact⟨_,rfl,by omega,by omega⟩
        ·exact⟨_,rfl,qa57 _,h2⟩
       obtain⟨q2,hq2,h3,h4⟩:=hq2;rw[hq2];split
       ·rename_i ht;have:=isT_lt ht;exact zfF (by omega) fun h5=>zuF (hs _ (q2+2) (by omega)) (by omega) fun e q h1 h2=>zer (by omega) h2
       ·split
        ·rename_i ht;have:=isT_lt ht;refine zcC (hl _ (q2+1) (by omega)) (by omega) fun e r h1 h2=>zfF (by omega) fun h5=>zcC (hl _ (r+1) (by omega)) (by omega) fun e q h1 h2=>zer (by omega) h2
        ·split
         ·rename_i ht;have:=isT_lt ht;exact zcC (hl _ (q2+1) (by omega)) (by omega) fun e q h1 h2=>zer (by omega) h2
         ·exact zer (by omega) h4
    ·simp only[run];split
     ·exact hl _ p hp
     ·rename_i op ho;have:=(zcl ho).1;split
      ·rename_i t ht;have:=(qa9.1 ht).1;split
       ·exact zer (by omega) (by omega)
       ·exact zcC (hl _ (p+1) (by omega)) (by omega) fun e q h1 h2=>zer (by omega) h2
      ·exact zcC (hl _ (p+1) (by omega)) (by omega) fun e q h1 h2=>zer (by omega) h2
    ·simp only[run];split
     ·exact hp
     ·rename_i t ht;have hlt:=(qa9.1 ht).1;split
      ·exact zer (by omega) (by omega)
      split
      ·split
       ·rename_i hd;have:=isT_lt hd;split
        ·rename_i u hu;have:=(qa9.1 hu).1;split
         ·exact zer (by omega) (by omega)
         ·exact(by omega:p+2≤L.length)
        ·exact(by omega:p+2≤L.length)
       split
       ·rename_i ho;have:=isT_lt ho;split
        ·split
         ·rename_i hst;simp only[qa32]at hst;have:=isT_lt hst.2;exact zfF (by omega) fun h5=>zer (by omega) (by omega)
         ·split
          ·rename_i hd;have:=isT_lt hd;exact zcC (hl _ (p+3) (by omega)) (by omega) fun e q h1 h2=>zfF (by omega) fun h5=>zer (by omega) (by omega)
          ·exact zcC (hl _ (p+2) (by omega)) (by omega) fun e q h1 h2=>zfF (by omega) fun h5=>zer (by omega) (by omega)
        ·split
         ·rename_i hd;have:=isT_lt hd;exact zer (by omega) (by omega)
         ·exact zuF (hs _ (p+2) (by omega)) (by omega) fun e q h1 h2=>zer (by omega) (by omega)
       ·exact zer (by omega) (by omega)
      split
      ·exact zer (by omega) (by omega)
      split
      ·split
       ·exact(hw _ _ (p+1) (by omega)).mono (by omega)
       ·exact zcC (hl _ (p+1) (by omega)) (by omega) fun e q h1 h2=>(hw _ _ q h2).mono (by omega)
      split
      ·refine zfF (by omega) fun h5=>zcC (hl _ (p+2) (by omega)) (by omega) fun e r h1 h2=>zfF h2 fun h6=>?_;split
       ·rename_i u hu;have:=(qa9.1 hu).1;split
        ·exact zfF (by omega) fun h5=>zer (by omega) (by omega)
        ·exact(by omega:r+1≤L.length)
       ·exact(by omega:r+1≤L.length)
      split
      ·exact zcC (hl _ (p+1) (by omega)) (by omega) fun e q h1 h2=>zfF (by omega) fun h5=>zer (by omega) (by omega)
      ·exact hp
  ·simp only[run];split
   ·exact⟨qa57 _,hp⟩
   ·rename_i op ho;have:=(zcl ho).1;exact zxk (hl _ (p+1) (by omega)) fun e q h1 h2=>(hc _ _ q h2).mono (by omega)
  ·simp only[run];refine zcC (hl _ p hp) (qa57 _) fun e q h1 h2=>?_;split
   ·rename_i hd;have:=isT_lt hd;exact(hs _ (q+1) (by omega)).mono (by omega)
   ·exact zfF (by omega) fun h5=>⟨by omega,by omega⟩
  ·simp only[run];refine zfF hp fun h0=>zcC (hl _ (p+1) (by omega)) (by omega) fun e q h1 h2=>zfF (by omega) fun h5=>zcC (hl _ (q+1) (by omega)) (by omega) fun e r h3 h4=>?_;split
   ·exact(hw _ _ r h4).mono (by omega)
   split
   ·rename_i hd;have:=isT_lt hd;exact zcC (hl _ (r+1) (by omega)) (by omega) fun e q h1 h2=>zfF (by omega) fun h5=>zer (by omega) (by omega)
   ·exact zfF (by omega) fun h5=>zer (by omega) (by omega)
theorem zmw{L:List T}{n k p q:Nat}{e:List E}(hp:p≤L.length)(h:run L n (.lev k) p=some (.ok e q)):p<q∧q≤L.length:=by
 have:=(zkd L n).1 k p hp;rw[h]at this;exact this
theorem ztQ{L:List T}{n k p q:Nat}(hp:p≤L.length)(h:run L n (.lev k) p=some (.stop q)):q≤L.length:=by
 have:=(zkd L n).1 k p hp;rw[h]at this;exact this
end
section
open Lx
def callK(L:List T)(n:Nat)(op:S)(p:Nat):Option R:=
 if aggs.contains op then
  (if op==zeR && isT L p 4 zem then need L 4 zdf (p+1) fun q=>one (eAgg op false []) q
  else(fun d=>then1 (run L n (.lev 0) (if d then p+1 else p)) fun e q=>need L 4 zdf q fun r=>one (eAgg op d [e]) r) (isT L p 2 zav))
 else if isT L p 4 zdf then one (eFn op []) (p+1)
 else zkX (run L n (.list []) p) fun l q=>one (eFn op l) q
def zoL(L:List T)(n:Nat)(nm:S)(p:Nat):Option R:=
 if isT L p 4 mDot then
  (match L[p+1]? with
  |some u=>if u.kind=1 then one (eCol nm u.text) (p+2)else some (.stop (p+1))
  |none=>some (.stop (p+1)))
 else if isT L p 4 zea then callK L n (fold nm) (p+1)
 else one (eCol [] nm) p
def zpf(L:List T)(n:Nat)(p:Nat):Option R:=
 need L 4 zea p fun q=>then1 (run L n (.lev 0) q) fun e r=>need L 2 wAs r fun r2=>
  (match L[r2]? with
  |some u=>if(decide (u.kind=2) || decide (u.kind=1)) && zks.contains (fold u.text)then need L 4 zdf (r2+1) fun r3=>one (zmP (fold u.text) e) r3 else some (.stop r2)
  |none=>some (.stop r2))
def zj4(L:List T)(n:Nat)(p:Nat):Option R:=
 if isT L p 2 zgb then run L n (.whens false []) p else then1 (run L n (.lev 0) p) fun e q=>run L n (.whens true [e]) q
def zsd(L:List T)(n:Nat)(d:Bool)(acc:List E)(r:Nat):Option R:=
 if isT L r 2 zkW then then1 (run L n (.lev 0) (r+1)) fun c r2=>need L 2 wEnd r2 fun r3=>one (eCase d (acc++[c])) r3
 else need L 2 wEnd r fun r3=>one (eCase d acc) r3
def whenK(L:List T)(n:Nat)(d:Bool)(acc:List E)(p1:Nat):Option R:=
 then1 (run L n (.lev 0) p1) fun a q=>need L 2 zjC q fun q1=>then1 (run L n (.lev 0) q1) fun b r=>
   if isT L r 2 zgb then run L n (.whens d (acc++[a,b])) r else zsd L n d (acc++[a,b]) r
theorem zjQ(L:List T)(n:Nat)(d:Bool)(acc:List E)(p:Nat):run L (n+1) (.whens d acc) p=need L 2 zgb p fun p1=>whenK L n d acc p1:=by
 rw[run];unfold whenK zsd;simp only[qa28,qb2]
theorem zjR(L:List T)(n p:Nat):run L (n+1) (.lev 8) p=match L[p]? with
   |none=>some (.stop p)
   |some t=>
    if t.kind=3 then one (eVal t.val) (p+1)
    else if t.kind=1 then zoL L n t.text (p+1)
    else if isT L p 2 zqG then one (eVal v0) (p+1)
    else if isT L p 2 wCase then zj4 L n (p+1)
    else if isT L p 2 zly then zpf L n (p+1)
    else if isT L p 4 zea then then1 (run L n (.lev 0) (p+1)) fun e q=>need L 4 zdf q fun r=>one e r
    else some (.stop p):=by
 rw[run];rfl
end
section
open Lx
def Def1(o:Option R):Prop:=(∃e q,o=some (.ok [e] q))∨∃q,o=some (.stop q)
def DefL(o:Option R):Prop:=∃r,o=some r
theorem zbF{r:Option R}{f:E→Nat→Option R}(h:Def1 r)(hf:∀e q,r=some (.ok [e] q)→Def1 (f e q)):Def1 (then1 r f):=by
 rcases h with⟨e,q,h⟩|⟨q,h⟩
 ·have:=hf e q h;subst h;exact this
 ·subst h;exact .inr ⟨_,rfl⟩
theorem zwd{r:Option R}{f:E→Nat→Option R}(h:Def1 r)(hf:∀e q,r=some (.ok [e] q)→DefL (f e q)):DefL (then1 r f):=by
 rcases h with⟨e,q,h⟩|⟨q,h⟩
 ·have:=hf e q h;subst h;exact this
 ·subst h;exact⟨_,rfl⟩
theorem zsb{r:Option R}{f:List E→Nat→Option R}(h:DefL r)(hf:∀e q,r=some (.ok e q)→Def1 (f e q)):Def1 (zkX r f):=by
 obtain⟨r,h⟩:=h;subst h;cases r with
 |ok l q=>exact hf l q rfl
 |stop q=>exact .inr ⟨_,rfl⟩
theorem zeP{L:List T}{k:Int}{s:S}{p:Nat}{f:Nat→Option R}(hf:p<L.length→Def1 (f (p+1))):Def1 (need L k s p f):=by
 unfold need;split
 ·rename_i h;exact hf (isT_lt h)
 ·exact .inr ⟨_,rfl⟩
theorem zyr{L:List T}{k:Int}{s:S}{p:Nat}{f:Nat→Option R}(hf:p<L.length→DefL (f (p+1))):DefL (need L k s p f):=by
 unfold need;split
 ·rename_i h;exact hf (isT_lt h)
 ·exact⟨_,rfl⟩
theorem zcT{e:E}{p:Nat}:Def1 (one e p):=.inl ⟨_,_,rfl⟩
theorem zka{p:Nat}:Def1 (some (.stop p)):=.inr ⟨_,rfl⟩
theorem zxF(L:List T):∀n,(∀k p,k≤8→p≤L.length→12*(L.length-p)+10-k≤n→Def1 (run L n (.lev k) p)) ∧
  (∀k e p,k≤7→p≤L.length→12*(L.length-p)+1≤n→Def1 (run L n (.chain k e) p)) ∧
  (∀acc p,p≤L.length→12*(L.length-p)+11≤n→DefL (run L n (.list acc) p)) ∧
  (∀d acc p,p≤L.length→12*(L.length-p)+11≤n→Def1 (run L n (.whens d acc) p))
 |0=>⟨fun _ _ _ _ h=>by omega,fun _ _ _ _ _ h=>by omega,fun _ _ _ h=>by omega,fun _ _ _ _ h=>by omega⟩
 |n+1=>by
  obtain⟨hl,hc,hs,hw⟩:=zxF L n;obtain⟨fl,fc,fs,fw⟩:=zkd L n;have fl':∀{k p e q},p≤L.length→run L n (.lev k) p=some (.ok e q)→p<q∧q≤L.length:=fun{k p e q} hp h=>by
   have:=fl k p hp;rw[h]at this;exact this
  refine⟨fun k p hk8 hp hn=>?_,fun k e p hk hp hn=>?_,fun acc p hp hn=>?_,fun d acc p hp hn=>?_⟩
  ·by_cases hk:k≠2∧k≠3∧k≠7∧k≠8
   ·rw[zmx L n k p hk];refine zbF (hl _ p (by omega) hp (by omega)) fun e q h=>?_;have:=fl' hp h;exact hc k e q (by omega) this.2 (by omega)
   ·have hk':k=2∨k=3∨k=7∨k=8:=by omega
    rcases hk' with rfl|rfl|rfl|rfl
    ·simp only[run];split
     ·rename_i h;have:=isT_lt h;exact zbF (hl _ (p+1) (by omega) (by omega) (by omega)) fun e q h=>zcT
     ·exact hl _ p (by omega) hp (by omega)
    ·simp only[run];refine zbF (hl _ p (by omega) hp (by omega)) fun e q h=>?_;have h1:=fl' hp h;split
     ·rename_i op ho;have:=(zcl ho).1;exact zbF (hl _ (q+1) (by omega) (by omega) (by omega)) fun e q h=>zcT
     ·split
      ·rename_i ht;have:=isT_lt ht;split
       ·rename_i ht2;have:=isT_lt ht2;exact zbF (hl _ (q+2) (by omega) (by omega) (by omega)) fun e q h=>zcT
       ·exact zbF (hl _ (q+1) (by omega) (by omega) (by omega)) fun e q h=>zcT
      ·have hq2:∃q2,(if(isT L q 2 wNot && (isT L (q+1) 2 wIn || isT L (q+1) 2 zdl || isT L (q+1) 2 zjD))=true then q+1 else q)=q2∧q≤q2∧q2≤L.length:=by
        split
        ·rename_i h;simp only[qa32]at h;have:=isT_lt h.1;exact⟨_,rfl,by omega,by omega⟩
        ·exact⟨_,rfl,qa57 _,h1.2⟩
       obtain⟨q2,hq2,h3,h4⟩:=hq2;rw[hq2];split
       ·rename_i ht;have:=isT_lt ht;exact zeP fun h5=>zsb (hs _ (q2+2) (by omega) (by omega)) fun e q h=>zcT
       ·split
        ·rename_i ht;have:=isT_lt ht;refine zbF (hl _ (q2+1) (by omega) (by omega) (by omega)) fun e r h=>zeP fun h5=>?_;have:=fl' (by omega) h;exact zbF (hl _ (r+1) (by omega) (by omega) (by omega)) fun e q h=>zcT
        ·split
         ·rename_i ht;have:=isT_lt ht;exact zbF (hl _ (q2+1) (by omega) (by omega) (by omega)) fun e q h=>zcT
         ·exact zcT
    ·simp only[run];split
     ·exact hl _ p (by omega) hp (by omega)
     ·rename_i op ho;have:=(zcl ho).1;split
      ·split
       ·exact zcT
       ·exact zbF (hl _ (p+1) (by omega) (by omega) (by omega)) fun e q h=>zcT
      ·exact zbF (hl _ (p+1) (by omega) (by omega) (by omega)) fun e q h=>zcT
    ·rw[zjR];split
     ·exact zka
     ·rename_i t ht;have hlt:=(qa9.1 ht).1;split
      ·exact zcT
      split
      ·unfold zoL;split
       ·split
        ·split
         ·exact zcT
         ·exact zka
        ·exact zka
       split
       ·rename_i ho;have:=isT_lt ho;unfold callK;split
        ·split
         ·exact zeP fun h5=>zcT
         ·dsimp only;split
          ·rename_i hd;have:=isT_lt hd;exact zbF (hl 0 (p+1+1+1) (by omega) (by omega) (by omega)) fun e q h=>zeP fun h5=>zcT
          ·exact zbF (hl 0 (p+1+1) (by omega) (by omega) (by omega)) fun e q h=>zeP fun h5=>zcT
        ·split
         ·exact zcT
         ·exact zsb (hs _ _ (by omega) (by omega)) fun e q h=>zcT
       ·exact zcT
      split
      ·exact zcT
      split
      ·unfold zj4;split
       ·exact hw _ _ (p+1) (by omega) (by omega)
       ·refine zbF (hl _ (p+1) (by omega) (by omega) (by omega)) fun e q h=>?_;have:=fl' (by omega) h;exact hw _ _ q (by omega) (by omega)
      split
      ·unfold zpf;refine zeP fun h5=>zbF (hl 0 (p+1+1) (by omega) (by omega) (by omega)) fun e r h=>zeP fun h6=>?_;split
       ·split
        ·exact zeP fun h5=>zcT
        ·exact zka
       ·exact zka
      split
      ·exact zbF (hl _ (p+1) (by omega) (by omega) (by omega)) fun e q h=>zeP fun h5=>zcT
      ·exact zka
  ·simp only[run];split
   ·exact zcT
   ·rename_i op ho;have:=(zcl ho).1;refine zbF (hl _ (p+1) (by omega) (by omega) (by omega)) fun e q h=>?_;have:=fl' (by omega) h;exact hc _ _ q hk (by omega) (by omega)
  ·simp only[run];refine zwd (hl _ p (by omega) hp (by omega)) fun e q h=>?_;have:=fl' hp h;split
   ·rename_i hd;have:=isT_lt hd;exact hs _ (q+1) (by omega) (by omega)
   ·exact zyr fun h5=>⟨_,rfl⟩
  ·simp only[run];refine zeP fun h0=>zbF (hl _ (p+1) (by omega) (by omega) (by omega)) fun e q h=>?_;have:=fl' (by omega) h;refine zeP fun h5=>zbF (hl _ (q+1) (by omega) (by omega) (by omega)) fun e r h=>?_;have:=fl' (by omega) h;split
   ·exact hw _ _ r (by omega) (by omega)
   split
   ·rename_i he;have:=isT_lt he;exact zbF (hl _ (r+1) (by omega) (by omega) (by omega)) fun e q h=>zeP fun h5=>zcT
   ·exact zeP fun h5=>zcT
end
section
open Lx
def zd1:S→S
 |[]=>[]
 |c::r=>if c=39 then 39::39::zd1 r else c::zd1 r
def valP(v:V):S:=
 if v.1=0 then zqG else if v.1=1 then Ox.num v.2.1 else if v.1=2 then 39::(zd1 v.2.2++[39])else if v.1=3 then[120,39]++Ox.hex v.2.2++[39]else[]
def zkT(k:Int):Bool:=decide (3≤k) && decide (k≤8)
abbrev C:=Int×Int×S
def inn(c:C):S:=if zkT c.1 then 40::(c.2.2++[41])else c.2.2
def innU(c:C):S:=if zkT c.1 || decide (c.1=1) && decide (c.2.1=1)then 40::(c.2.2++[41])else c.2.2
def kid(l:List C)(i:Nat):C:=(l[i]?).getD (0,0,[])
def notW(b:Bool)(w:S):S:=if b then[32,110,111,116,32]++w++[32]else 32::(w++[32])
def commas:List C→S
 |[]=>[]
 |[c]=>c.2.2
 |c::r=>c.2.2++[44,32]++commas r
def zeQ:List C→S
 |[]=>[]
 |[c]=>zkW++[32]++c.2.2++[32]
 |c::d::r=>zgb++[32]++c.2.2++[32]++zjC++[32]++d.2.2++[32]++zeQ r
def zj5(d:Bool)(l:List C):S:=
 wCase++[32]++(if d then(kid l 0).2.2++[32]++zeQ (l.drop 1)else zeQ l)++wEnd
def pr(e:E)(l:List C):S:=
 if e.kind=1 then valP e.val
 else if e.kind=2 then(if e.table=[]then e.name else e.table++[46]++e.name)
 else if e.kind=3 then(if e.op=wNot then wNot++[32]++innU (kid l 0)else e.op++innU (kid l 0))
 else if e.kind=4 then inn (kid l 0)++[32]++e.op++[32]++inn (kid l 1)
 else if e.kind=5 then inn (kid l 0)++[32]++wIs++[32]++(if e.neg then wNot++[32]else[])++inn (kid l 1)
 else if e.kind=6 then inn (kid l 0)++notW e.neg wIn++[40]++commas (l.drop 1)++[41]
 else if e.kind=7 then inn (kid l 0)++notW e.neg zdl++inn (kid l 1)++[32]++wAnd++[32]++inn (kid l 2)
 else if e.kind=8 then inn (kid l 0)++notW e.neg zjD++inn (kid l 1)
 else if e.kind=9 then zj5 e.dist l
 else if e.kind=12 then zly++[40]++(kid l 0).2.2++[32]++wAs++[32]++e.op++[41]
 else if e.kind=11∧l=[]then e.op++[40,42,41]
 else if e.dist then e.op++[40]++zav++[32]++commas l++[41]
 else e.op++[40]++commas l++[41]
mutual
def print:E→S
 |.mk k o v t n s g d a=>pr (.mk k o v t n s g d a) (prints a)
termination_by structural x=>x
def prints:List E→List C
 |[]=>[]
 |e::r=>(e.kind,e.val.1,print e)::prints r
termination_by structural x=>x
end
theorem zei:∀l,prints l=l.map fun e=>(e.kind,e.val.1,print e)
 |[]=>rfl
 |e::r=>by rw[prints,zei r];rfl
theorem print_eq(e:E):print e=pr e (e.args.map fun x=>(x.kind,x.val.1,print x)):=by
 cases e with
 |mk k o v t n s g d a=>rw[print,zei];rfl
mutual
def deep:E→Nat
 |.mk _ _ _ _ _ _ _ _ a=>deeps a+1
termination_by structural x=>x
def deeps:List E→Nat
 |[]=>0
 |e::r=>max (deep e) (deeps r)
termination_by structural x=>x
end
mutual
def count:E→Nat
 |.mk _ _ _ _ _ _ _ _ a=>counts a+1
termination_by structural x=>x
def counts:List E→Nat
 |[]=>0
 |e::r=>count e+counts r
termination_by structural x=>x
end
def mayV(v:V):Bool:=
 if v.1=0 then decide (v.2.1=0) && v.2.2==[]else if v.1=1 then v.2.2==[]else if v.1=2∨v.1=3 then decide (v.2.1=0) && decide (v.2.2.length≤4096)else false
def nmE(s:S):Bool:=zys s && !isW s
def uns:List S:=[zfm,zjY,wNot]
def bins:List S:=[[124,124],zem,[47],[37],zjY,zfm,[61],[60,62],[60],[60,61],[62],[62,61],wAnd,wOr]
def lowI:Int:=-9223372036854775808
def ownF(k:Int)(o:S)(v:V)(t m:S)(g d:Bool)(n:Nat):Bool:=
 if k=1 then o==[] && t==[] && m==[] && !g && !d && decide (n=0) && mayV v && !(decide (v.1=1) && decide (v.2.1=lowI))
 else if k=2 then o==[] && v==v0 && !g && !d && decide (n=0) && nmE m && (t==[] || nmE t)
 else if k=3 then v==v0 && t==[] && m==[] && !g && !d && decide (n=1) && uns.contains o
 else if k=4 then v==v0 && t==[] && m==[] && !g && !d && decide (n=2) && bins.contains o
 else if k=5 then o==[] && v==v0 && t==[] && m==[] && !d && decide (n=2)
 else if k=6 then o==[] && v==v0 && t==[] && m==[] && !d && decide (2≤n)
 else if k=7 then o==[] && v==v0 && t==[] && m==[] && !d && decide (n=3)
 else if k=8 then o==[] && v==v0 && t==[] && m==[] && !d && decide (n=2)
 else if k=9 then o==[] && v==v0 && t==[] && m==[] && !g && decide (2≤n) && (!d || decide (3≤n))
 else if k=10 then v==v0 && t==[] && m==[] && !g && !d && nmE o && fold o==o && !aggs.contains o
 else if k=11 then v==v0 && t==[] && m==[] && !g && aggs.contains o && (decide (n=1) || decide (n=0) && o==zeR && !d)
 else if k=12 then v==v0 && t==[] && m==[] && !g && !d && decide (n=1) && zks.contains o
 else false
def own(e:E):Bool:=ownF e.kind e.op e.val e.table e.name e.neg e.dist e.args.length
mutual
def right:E→Bool
 |.mk k o v t n s g d a=>own (.mk k o v t n s g d a) && rights a
termination_by structural x=>x
def rights:List E→Bool
 |[]=>true
 |e::r=>right e && rights r
termination_by structural x=>x
end
theorem zke:∀l,rights l=l.all right
 |[]=>rfl
 |e::r=>by rw[rights,zke r];rfl
def N64(e:E):Prop:=e.val.2.1≤9223372036854775807∧-9223372036854775808≤e.val.2.1
inductive RtN:E→Prop
 |mk {e:E}:N64 e→(∀x∈e.args,RtN x)→RtN e
inductive Rt:E→Prop
 |val (v:V):mayV v=true→(v.1=1→v.2.1≠lowI)→(v.2.1≤9223372036854775807∧-9223372036854775808≤v.2.1)→Rt (eVal v)
 |col (t n:S):nmE n=true→(t=[]∨nmE t=true)→Rt (eCol t n)
 |un (op:S) (a:E):op∈uns→Rt a→Rt (eUn op a)
 |bin (op:S) (a b:E):op∈bins→Rt a→Rt b→Rt (eBin op a b)
 |is (g:Bool) (a b:E):Rt a→Rt b→Rt (eIs g a b)
 |in_ (g:Bool) (a:E) (l:List E):l≠[]→Rt a→(∀x∈l,Rt x)→Rt (eIn g (a::l))
 |btw (g:Bool) (a b c:E):Rt a→Rt b→Rt c→Rt (eBtw g a b c)
 |like (g:Bool) (a b:E):Rt a→Rt b→Rt (zls g a b)
 |case (d:Bool) (l:List E):2≤l.length→(d=true→3≤l.length)→(∀x∈l,Rt x)→Rt (eCase d l)
 |fn (op:S) (l:List E):nmE op=true→fold op=op→aggs.contains op=false→(∀x∈l,Rt x)→Rt (eFn op l)
 |agg (op:S) (d:Bool) (a:E):aggs.contains op=true→Rt a→Rt (eAgg op d [a])
 |star:Rt (eAgg zeR false [])
 |cast (op:S) (a:E):zks.contains op=true→Rt a→Rt (zmP op a)
end
section
open Lx
theorem zps(c:UInt8)(hc:c≠39):∀(k:Nat)(r:S),Go.Lib.replaceK [39] [39,39] k (c::r)=c::Go.Lib.replaceK [39] [39,39] k r
 |0,r=>rfl
 |k+1,r=>by
  have hg:=Go.Lib.index_ge r [39];have hp:([39]:List UInt8).isPrefixOf (c::r)=false:=by
   show((39:UInt8)==c && _)=false;rw[qa19.2 (fun h=>hc h.symm)];rfl
  have h1:Go.Lib.index (c::r) [39]=if Go.Lib.index r [39] == -1 then -1 else Go.Lib.index r [39]+1:=by
   rw[Go.Lib.index,hp];rfl
  rw[Go.Lib.replaceK,Go.Lib.replaceK,h1];by_cases hm:Go.Lib.index r [39]=-1
  ·rw[hm];rfl
  ·obtain ⟨i,hi⟩:∃ i:Nat,Go.Lib.index r [39]=i:=⟨(Go.Lib.index r [39]).toNat,by omega⟩;rw[hi,if_neg (by first|(simp;done)|(simp;omega)),if_neg (by first|(simp;done)|(simp;omega)),if_neg (by first|(simp;done)|(simp;omega))];have e1:((i:Int)+1).toNat=i+1:=by omega
   rw[e1,Int.toNat_natCast];simp[List.take_succ_cons,show i+1+1=(i+1)+1 from rfl]
theorem ziu:∀s:S,Go.Lib.replaceK [39] [39,39] (Go.Lib.count s [39]) s=zd1 s
 |[]=>rfl
 |c::r=>by
  rw[zd1];by_cases hc:c=39
  ·subst hc;have h0:Go.Lib.index (39::r) [39]=(0:Nat):=by
    rw[Go.Lib.index];rfl
   rw[if_pos rfl,Go.Lib.count_cons_eq,Nat.add_comm,Go.Lib.replaceK_hit _ _ _ _ 0 h0];show[]++[39,39]++Go.Lib.replaceK [39] [39,39] (Go.Lib.count r [39]) r=_;rw[ziu r];rfl
  ·rw[if_neg hc,Go.Lib.count_cons_ne _ _ _ hc,zps c hc,ziu r]
theorem zwq(s:S):Go.Lib.replaceAll s [39] [39,39]=zd1 s:=by
 rw[Go.Lib.replaceAll,Go.Lib.replace,if_neg (by decide),Go.Lib.replaceNum,if_pos (by left;decide),ziu]
end
section
open Lx
theorem len2{l:List E}(h:l.length=2):∃x y,l=[x,y]:=by
 match l,h with
 |[x,y],_=>exact⟨x,y,rfl⟩
theorem len3{l:List E}(h:l.length=3):∃x y z,l=[x,y,z]:=by
 match l,h with
 |[x,y,z],_=>exact⟨x,y,z,rfl⟩
theorem zov{l:List E}(h:∀x∈l,right x=true):rights l=true:=by
 rw[zke];exact qa33.2 h
theorem Rt.right{e:E}(h:Rt e):right e=true:=by
 induction h with
 |val v h1 h2=>
  simp only[eVal,Ex.right,rights,own,ownF,E.kind,E.op,E.val,E.table,E.name,E.neg,E.dist,E.args];simp[h1];exact(Decidable.em (v.1=1)).elim (fun h=>.inr (qa45 (h2 h))) (fun h=>.inl (qa45 h))
 |col t n h1 h2=>
  simp only[eCol,Ex.right,rights,own,ownF,E.kind,E.op,E.val,E.table,E.name,E.neg,E.dist,E.args];simp[h1];exact h2
 |un op a h1 _ ih=>simp[eUn,Ex.right,rights,own,ownF,E.kind,E.op,E.val,E.table,E.name,E.neg,E.dist,E.args,ih,h1]
 |bin op a b h1 _ _ ih1 ih2=>simp[eBin,Ex.right,rights,own,ownF,E.kind,E.op,E.val,E.table,E.name,E.neg,E.dist,E.args,ih1,ih2,h1]
 |is g a b _ _ ih1 ih2=>simp[eIs,Ex.right,rights,own,ownF,E.kind,E.op,E.val,E.table,E.name,E.neg,E.dist,E.args,ih1,ih2]
 |in_ g a l h1 _ _ ih1 ih2=>
  simp[eIn,Ex.right,rights,own,ownF,E.kind,E.op,E.val,E.table,E.name,E.neg,E.dist,E.args,ih1,zov ih2];exact List.length_pos_iff.2 h1
 |btw g a b c _ _ _ ih1 ih2 ih3=>simp[eBtw,Ex.right,rights,own,ownF,E.kind,E.op,E.val,E.table,E.name,E.neg,E.dist,E.args,ih1,ih2,ih3]
 |like g a b _ _ ih1 ih2=>simp[zls,Ex.right,rights,own,ownF,E.kind,E.op,E.val,E.table,E.name,E.neg,E.dist,E.args,ih1,ih2]
 |case d l h1 h2 _ ih=>
  simp[eCase,Ex.right,rights,own,ownF,E.kind,E.op,E.val,E.table,E.name,E.neg,E.dist,E.args,zov ih,h1];cases d<;>simp_all
 |fn op l h1 h2 h3 _ ih=>
  have h3':op ∉ aggs:=by simpa using h3
  simp[eFn,Ex.right,rights,own,ownF,E.kind,E.op,E.val,E.table,E.name,E.neg,E.dist,E.args,zov ih,h1,h2,h3']
 |agg op d a h1 _ ih=>
  have h1':op∈aggs:=by simpa using h1
  simp[eAgg,Ex.right,rights,own,ownF,E.kind,E.op,E.val,E.table,E.name,E.neg,E.dist,E.args,ih,h1']
 |star=>rfl
 |cast op a h1 _ ih=>
  have h1':op∈zks:=by simpa using h1
  simp[zmP,Ex.right,rights,own,ownF,E.kind,E.op,E.val,E.table,E.name,E.neg,E.dist,E.args,ih,h1']
end
section
open Lx
abbrev Pc:=Option T
def mk(s:S):Pc:=some ⟨4,s,v0⟩
def wd(s:S):Pc:=some ⟨2,s,v0⟩
def nmP(s:S):Pc:=some ⟨1,s,v0⟩
def bk:Pc:=none
def opP(s:S):Pc:=if s=wAnd∨s=wOr∨s=wNot then wd s else mk s
def zw7(v:V):List Pc:=
 if v.1=0 then[wd zqG]else if v.1=1∧v.2.1<0 then[mk zfm,some ⟨3,Ox.num (-v.2.1),(1, -v.2.1,[])⟩]else[some ⟨3,valP v,v⟩]
def flat(l:List Pc):S:=l.flatMap fun p=>match p with|none=>[32]|some t=>t.text
def toks(l:List Pc):List T:=l.filterMap id
theorem flat_app(a b:List Pc):flat (a++b)=flat a++flat b:=by simp[flat]
theorem toks_app(a b:List Pc):toks (a++b)=toks a++toks b:=by simp[toks]
theorem flat_nil:flat []=[]:=rfl
theorem flat_cons(p:Pc)(l:List Pc):flat (p::l)=(match p with|none=>[32]|some t=>t.text)++flat l:=by simp[flat]
abbrev D:=Int×Int×List Pc
def innP(c:D):List Pc:=if zkT c.1 then mk zea::(c.2.2++[mk zdf])else c.2.2
def zs3(c:D):List Pc:=if zkT c.1 || decide (c.1=1) && decide (c.2.1=1)then mk zea::(c.2.2++[mk zdf])else c.2.2
def kidP(l:List D)(i:Nat):D:=(l[i]?).getD (0,0,[])
def notP(b:Bool)(w:S):List Pc:=if b then[bk,wd wNot,bk,wd w,bk]else[bk,wd w,bk]
def zhz:List D→List Pc
 |[]=>[]
 |[c]=>c.2.2
 |c::r=>c.2.2++[mk zdH,bk]++zhz r
def zkI:List D→List Pc
 |[]=>[]
 |[c]=>[wd zkW,bk]++c.2.2++[bk]
 |c::d::r=>[wd zgb,bk]++c.2.2++[bk,wd zjC,bk]++d.2.2++[bk]++zkI r
def zwP(d:Bool)(l:List D):List Pc:=
 [wd wCase,bk]++(if d then(kidP l 0).2.2++[bk]++zkI (l.drop 1)else zkI l)++[wd wEnd]
def pp(e:E)(l:List D):List Pc:=
 if e.kind=1 then zw7 e.val
 else if e.kind=2 then(if e.table=[]then[nmP e.name]else[nmP e.table,mk mDot,nmP e.name])
 else if e.kind=3 then(if e.op=wNot then[wd wNot,bk]++zs3 (kidP l 0)else[mk e.op]++zs3 (kidP l 0))
 else if e.kind=4 then innP (kidP l 0)++[bk,opP e.op,bk]++innP (kidP l 1)
 else if e.kind=5 then innP (kidP l 0)++[bk,wd wIs,bk]++(if e.neg then[wd wNot,bk]else[])++innP (kidP l 1)
 else if e.kind=6 then innP (kidP l 0)++notP e.neg wIn++[mk zea]++zhz (l.drop 1)++[mk zdf]
 else if e.kind=7 then innP (kidP l 0)++notP e.neg zdl++innP (kidP l 1)++[bk,wd wAnd,bk]++innP (kidP l 2)
 else if e.kind=8 then innP (kidP l 0)++notP e.neg zjD++innP (kidP l 1)
 else if e.kind=9 then zwP e.dist l
 else if e.kind=12 then[wd zly,mk zea]++(kidP l 0).2.2++[bk,wd wAs,bk,nmP e.op,mk zdf]
 else if e.kind=11∧l=[]then[nmP e.op,mk zea,mk zem,mk zdf]
 else if e.dist then[nmP e.op,mk zea,wd zav,bk]++zhz l++[mk zdf]
 else[nmP e.op,mk zea]++zhz l++[mk zdf]
mutual
def pcs:E→List Pc
 |.mk k o v t n s g d a=>pp (.mk k o v t n s g d a) (pcsL a)
termination_by structural x=>x
def pcsL:List E→List D
 |[]=>[]
 |e::r=>(e.kind,e.val.1,pcs e)::pcsL r
termination_by structural x=>x
end
theorem zva:∀l,pcsL l=l.map fun e=>(e.kind,e.val.1,pcs e)
 |[]=>rfl
 |e::r=>by rw[pcsL,zva r];rfl
def fl(d:D):C:=(d.1,d.2.1,flat d.2.2)
theorem zlY(d:D):flat (innP d)=inn (fl d):=by
 unfold innP inn fl;dsimp only;split<;>simp[flat_cons,flat_app,mk,zea,zdf,flat_nil]
theorem zzr(d:D):flat (zs3 d)=innU (fl d):=by
 unfold zs3 innU fl;dsimp only;split<;>simp[flat_cons,flat_app,mk,zea,zdf,flat_nil]
theorem zo3(l:List D)(i:Nat):fl (kidP l i)=kid (l.map fl) i:=by
 unfold kidP kid;rw[qa24];cases l[i]?<;>rfl
theorem zrF(b:Bool)(w:S):flat (notP b w)=notW b w:=by
 unfold notP notW;cases b<;>simp[flat_cons,flat_nil,bk,wd,wNot]
theorem zjc:∀l:List D,flat (zhz l)=commas (l.map fl)
 |[]=>rfl
 |[c]=>rfl
 |c::d::r=>by
  rw[zhz,flat_app,flat_app,zjc (d::r)];simp[commas,flat_cons,flat_nil,mk,zdH,bk,fl];all_goals simp
theorem zqn:∀l:List D,flat (zkI l)=zeQ (l.map fl)
 |[]=>rfl
 |[c]=>by simp[zkI,zeQ,flat_app,flat_cons,flat_nil,wd,bk,fl]
 |c::d::r=>by
  rw[zkI,flat_app,zqn r];simp[zeQ,flat_app,flat_cons,flat_nil,wd,bk,fl]
theorem zyY(l:List D)(i:Nat):flat (kidP l i).2.2=(kid (l.map fl) i).2.2:=by rw[←zo3];rfl
theorem zzs(d:Bool)(l:List D):flat (zwP d l)=zj5 d (l.map fl):=by
 unfold zwP zj5;cases d<;>simp[flat_app,flat_cons,flat_nil,wd,bk,zqn,zyY]
theorem opP_flat(s:S):flat [opP s]=s:=by
 unfold opP;split<;>simp[flat_cons,flat_nil,wd,mk]
theorem num_neg{n:Int}(h:n<0):Ox.num n=45::Ox.num (-n):=by
 unfold Ox.num;rw[if_pos h,if_neg (by omega),Int.natAbs_neg]
theorem flat_val(v:V):flat (zw7 v)=valP v:=by
 unfold zw7;split
 ·rename_i h;simp[valP,h,flat_cons,flat_nil,wd]
 ·split
  ·rename_i h;simp[valP,h.1,flat_cons,flat_nil,mk,zfm,num_neg h.2]
  ·simp[flat_cons,flat_nil]
theorem flat_pp(e:E)(l:List D):flat (pp e l)=pr e (l.map fl):=by
 unfold pp pr;have hop:∀r,flat (opP e.op::r)=e.op++flat r:=fun r=>by
  have:=opP_flat e.op;rw[flat_cons,flat_nil,qa48]at this;rw[flat_cons,this]
 by_cases hk:e.kind=1
 ·rw[if_pos hk,if_pos hk];exact flat_val _
 rw[if_neg hk,if_neg hk];clear hk;by_cases hk:e.kind=2
 ·rw[if_pos hk,if_pos hk];split<;>simp[flat_cons,flat_nil,nmP,mk,mDot]
 rw[if_neg hk,if_neg hk];clear hk;by_cases hk:e.kind=3
 ·rw[if_pos hk,if_pos hk];split<;>simp[flat_cons,flat_nil,flat_app,wd,bk,mk,zzr,zo3, *]
 rw[if_neg hk,if_neg hk];clear hk;by_cases hk:e.kind=4
 ·rw[if_pos hk,if_pos hk];simp[flat_app,zlY,zo3,flat_cons,bk,hop,flat_nil]
 rw[if_neg hk,if_neg hk];clear hk;by_cases hk:e.kind=5
 ·rw[if_pos hk,if_pos hk];split<;>simp[flat_app,zlY,zo3,flat_cons,bk,wd,flat_nil]
 rw[if_neg hk,if_neg hk];clear hk;by_cases hk:e.kind=6
 ·rw[if_pos hk,if_pos hk];simp[flat_app,zlY,zo3,flat_cons,bk,wd,mk,zea,zdf,flat_nil,zrF,zjc,List.map_drop]
 rw[if_neg hk,if_neg hk];clear hk;by_cases hk:e.kind=7
 ·rw[if_pos hk,if_pos hk];simp[flat_app,zlY,zo3,flat_cons,bk,wd,flat_nil,zrF]
 rw[if_neg hk,if_neg hk];clear hk;by_cases hk:e.kind=8
 ·rw[if_pos hk,if_pos hk];simp[flat_app,zlY,zo3,flat_cons,bk,wd,flat_nil,zrF]
 rw[if_neg hk,if_neg hk];clear hk;by_cases hk:e.kind=9
 ·rw[if_pos hk,if_pos hk];exact zzs _ _
 rw[if_neg hk,if_neg hk];clear hk;by_cases hk:e.kind=12
 ·rw[if_pos hk,if_pos hk];simp[flat_app,zyY,flat_cons,bk,wd,mk,nmP,zea,zdf,flat_nil]
 rw[if_neg hk,if_neg hk];clear hk;by_cases hk:e.kind=11∧l=[]
 ·have hk2:e.kind=11∧l.map fl=[]:=by simpa using hk
  rw[if_pos hk,if_pos hk2];simp[flat_cons,mk,nmP,zea,zdf,zem,flat_nil]
 have hk2:¬(e.kind=11∧l.map fl=[]):=by simpa using hk
 rw[if_neg hk,if_neg hk2];split
 ·simp[flat_app,flat_cons,bk,wd,mk,nmP,zea,zdf,flat_nil,zjc]
 ·simp[flat_app,flat_cons,mk,nmP,zea,zdf,flat_nil,zjc]
mutual
theorem zkk:∀e,flat (pcs e)=print e
 |.mk k o v t n s g d a=>by rw[pcs,print,flat_pp,zta a]
theorem zta:∀l,(pcsL l).map fl=prints l
 |[]=>rfl
 |e::r=>by
  rw[pcsL,prints,qa52,zta r,←zkk e];rfl
end
end
end Ex
end
