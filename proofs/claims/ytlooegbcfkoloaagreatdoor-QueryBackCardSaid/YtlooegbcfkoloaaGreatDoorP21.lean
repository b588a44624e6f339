/- Part of the proof: see the last text. -/
import Derived.Test.YtlooegbcfkoloaaGreatDoorP0
import Derived.Test.YtlooegbcfkoloaaGreatDoorP20
set_option maxRecDepth 20000
set_option linter.unusedVariables false
set_option linter.unusedSimpArgs false
namespace Ex
open Lx
abbrev S:=List UInt8
abbrev V:=Int×Int×S
inductive E where
 | mk (kind:Int) (op:S) (val:V) (table name:S) (slot:Int) (neg dist:Bool) (args:List E)
def E.kind:E→Int | .mk k _ _ _ _ _ _ _ _=>k
def E.op:E→S | .mk _ o _ _ _ _ _ _ _=>o
def E.val:E→V | .mk _ _ v _ _ _ _ _ _=>v
def E.table:E→S | .mk _ _ _ t _ _ _ _ _=>t
def E.name:E→S | .mk _ _ _ _ n _ _ _ _=>n
def E.slot:E→Int | .mk _ _ _ _ _ s _ _ _=>s
def E.neg:E→Bool | .mk _ _ _ _ _ _ b _ _=>b
def E.dist:E→Bool | .mk _ _ _ _ _ _ _ d _=>d
def E.args:E→List E | .mk _ _ _ _ _ _ _ _ a=>a
def v0:V:=(0,0,[])
def e0:E:=.mk 0 [] v0 [] [] 0 false false []
def eVal (v:V):E:=.mk 1 [] v [] [] 0 false false []
def eCol (t n:S):E:=.mk 2 [] v0 t n 0 false false []
def eUn (op:S) (a:E):E:=.mk 3 op v0 [] [] 0 false false [a]
def eBin (op:S) (a b:E):E:=.mk 4 op v0 [] [] 0 false false [a,b]
def eIs (n:Bool) (a b:E):E:=.mk 5 [] v0 [] [] 0 n false [a,b]
def eIn (n:Bool) (l:List E):E:=.mk 6 [] v0 [] [] 0 n false l
def eBtw (n:Bool) (a b c:E):E:=.mk 7 [] v0 [] [] 0 n false [a,b,c]
def zeT (n:Bool) (a b:E):E:=.mk 8 [] v0 [] [] 0 n false [a,b]
def eCase (d:Bool) (l:List E):E:=.mk 9 [] v0 [] [] 0 false d l
def eFn (op:S) (l:List E):E:=.mk 10 op v0 [] [] 0 false false l
def eAgg (op:S) (d:Bool) (l:List E):E:=.mk 11 op v0 [] [] 0 false d l
def zhl (op:S) (a:E):E:=.mk 12 op v0 [] [] 0 false false [a]
def wNot:S:=[110,111,116]
def wIs:S:=[105,115]
def wIn:S:=[105,110]
def zaO:S:=[98,101,116,119,101,101,110]
def zdQ:S:=[108,105,107,101]
def wAnd:S:=[97,110,100]
def wOr:S:=[111,114]
def zmn:S:=[110,117,108,108]
def wCase:S:=[99,97,115,101]
def wCast:S:=[99,97,115,116]
def zdg:S:=[119,104,101,110]
def wThen:S:=[116,104,101,110]
def ziO:S:=[101,108,115,101]
def wEnd:S:=[101,110,100]
def wAs:S:=[97,115]
def zae:S:=[100,105,115,116,105,110,99,116]
def wCount:S:=[99,111,117,110,116]
def mOpen:S:=[40]
def mShut:S:=[41]
def mComma:S:=[44]
def mDot:S:=[46]
def zbG:S:=[42]
def mMinus:S:=[45]
def mPlus:S:=[43]
def cmps:List S:=[[61],[60,62],[60],[60,61],[62],[62,61]]
def aggs:List S:=[wCount,[115,117,109],[109,105,110],[109,97,120],[97,118,103],[116,111,116,97,108]]
def zhA:List S:=[[105,110,116],[116,101,120,116],[98,108,111,98]]
def isT (L:List T) (p:Nat) (k:Int) (s:S):Bool:=match L[p]? with | some t=>decide (t.kind=k) && t.text == s | none=>false
def isK (L:List T) (p:Nat) (k:Int):Bool:=match L[p]? with | some t=>decide (t.kind=k) | none=>false
def oneOf (L:List T) (p:Nat) (k:Int):List S→Option S
 | []=>none
 | s :: r=>if isT L p k s then some s else oneOf L p k r
inductive R where
 | ok (l:List E) (p:Nat)
 | stop (p:Nat)
inductive K where
 | lev (n:Nat)
 | chain (n:Nat) (e:E)
 | list (acc:List E)
 | whens (d:Bool) (acc:List E)
def ops:Nat→List S×Int
 | 0=>([wOr],2)
 | 1=>([wAnd],2)
 | 4=>([mPlus,mMinus],4)
 | 5=>([zbG,[47],[37]],4)
 | _=>([[124,124]],4)
def need (L:List T) (k:Int) (s:S) (p:Nat) (f:Nat→Option R):Option R:=if isT L p k s then f (p+1) else some (.stop p)
def then1 (r:Option R) (f:E→Nat→Option R):Option R:=match r with
 | some (.ok [e] q)=>f e q
 | some (.ok _ _)=>none
 | some (.stop q)=>some (.stop q)
 | none=>none
def zg7 (r:Option R) (f:List E→Nat→Option R):Option R:=match r with
 | some (.ok l q)=>f l q
 | some (.stop q)=>some (.stop q)
 | none=>none
def one (e:E) (p:Nat):Option R:=some (.ok [e] p)
def run (L:List T):Nat→K→Nat→Option R
 | 0,_,_=>none
 | n+1,.lev 2,p=>if isT L p 2 wNot then then1 (run L n (.lev 2) (p+1)) fun e q=>one (eUn wNot e) q else run L n (.lev 3) p
 | n+1,.lev 3,p=>then1 (run L n (.lev 4) p) fun a q =>
   match oneOf L q 4 cmps with
   | some op=>then1 (run L n (.lev 4) (q+1)) fun b r=>one (eBin op a b) r
   | none =>
    if isT L q 2 wIs then
     (fun nt=>then1 (run L n (.lev 4) (if nt then q+2 else q+1)) fun b r=>one (eIs nt a b) r) (isT L (q+1) 2 wNot)
    else
     (fun nt=>(fun q2 =>
      if isT L q2 2 wIn then need L 4 mOpen (q2+1) fun q3=>zg7 (run L n (.list []) q3) fun l r=>one (eIn nt (a :: l)) r
      else if isT L q2 2 zaO then then1 (run L n (.lev 4) (q2+1)) fun b r=>need L 2 wAnd r fun r2=>then1 (run L n (.lev 4) r2) fun c r3=>one (eBtw nt a b c) r3
      else if isT L q2 2 zdQ then then1 (run L n (.lev 4) (q2+1)) fun b r=>one (zeT nt a b) r
      else one a q2) (if nt then q+1 else q))
      (isT L q 2 wNot && (isT L (q+1) 2 wIn || isT L (q+1) 2 zaO || isT L (q+1) 2 zdQ))
 | n+1,.lev 7,p =>
   match oneOf L p 4 [mMinus,mPlus] with
   | none=>run L n (.lev 8) p
   | some op =>
    match L[p+1]? with
    | some t=>if op == mMinus && decide (t.kind=3) && decide (t.val.1=1) then one (eVal (t.val.1, -t.val.2.1,t.val.2.2)) (p+2) else then1 (run L n (.lev 7) (p+1)) fun e q=>one (eUn op e) q
    | none=>then1 (run L n (.lev 7) (p+1)) fun e q=>one (eUn op e) q
 | n+1,.lev 8,p =>
   match L[p]? with
   | none=>some (.stop p)
   | some t =>
    if t.kind=3 then one (eVal t.val) (p+1)
    else if t.kind=1 then
     if isT L (p+1) 4 mDot then
      (match L[p+2]? with
      | some u=>if u.kind=1 then one (eCol t.text u.text) (p+3) else some (.stop (p+2))
      | none=>some (.stop (p+2)))
     else if isT L (p+1) 4 mOpen then
      (if aggs.contains (fold t.text) then
       (if fold t.text == wCount && isT L (p+2) 4 zbG then need L 4 mShut (p+3) fun q=>one (eAgg (fold t.text) false []) q
       else (fun d=>then1 (run L n (.lev 0) (if d then p+3 else p+2)) fun e q=>need L 4 mShut q fun r=>one (eAgg (fold t.text) d [e]) r) (isT L (p+2) 2 zae))
      else if isT L (p+2) 4 mShut then one (eFn (fold t.text) []) (p+3)
      else zg7 (run L n (.list []) (p+2)) fun l q=>one (eFn (fold t.text) l) q)
     else one (eCol [] t.text) (p+1)
    else if isT L p 2 zmn then one (eVal v0) (p+1)
    else if isT L p 2 wCase then
     (if isT L (p+1) 2 zdg then run L n (.whens false []) (p+1)
     else then1 (run L n (.lev 0) (p+1)) fun e q=>run L n (.whens true [e]) q)
    else if isT L p 2 wCast then
     need L 4 mOpen (p+1) fun q=>then1 (run L n (.lev 0) q) fun e r=>need L 2 wAs r fun r2 =>
      (match L[r2]? with
      | some u=>if (decide (u.kind=2) || decide (u.kind=1)) && zhA.contains (fold u.text) then need L 4 mShut (r2+1) fun r3=>one (zhl (fold u.text) e) r3 else some (.stop r2)
      | none=>some (.stop r2))
    else if isT L p 4 mOpen then then1 (run L n (.lev 0) (p+1)) fun e q=>need L 4 mShut q fun r=>one e r
    else some (.stop p)
 | n+1,.lev k,p=>then1 (run L n (.lev (k+1)) p) fun e q=>run L n (.chain k e) q
 | n+1,.chain k e,p =>
   match oneOf L p (ops k).2 (ops k).1 with
   | none=>one e p
   | some op=>then1 (run L n (.lev (k+1)) (p+1)) fun b q=>run L n (.chain k (eBin op e b)) q
 | n+1,.list acc,p=>then1 (run L n (.lev 0) p) fun e q =>
   if isT L q 4 mComma then run L n (.list (acc++[e])) (q+1) else need L 4 mShut q fun r=>some (.ok (acc++[e]) r)
 | n+1,.whens d acc,p=>need L 2 zdg p fun p1=>then1 (run L n (.lev 0) p1) fun a q=>need L 2 wThen q fun q1=>then1 (run L n (.lev 0) q1) fun b r =>
   if isT L r 2 zdg then run L n (.whens d (acc++[a,b])) r
   else if isT L r 2 ziO then then1 (run L n (.lev 0) (r+1)) fun c r2=>need L 2 wEnd r2 fun r3=>one (eCase d (acc++[a,b,c])) r3
   else need L 2 wEnd r fun r3=>one (eCase d (acc++[a,b])) r3
end Ex
namespace Ex
open Lx
def Fw (N p:Nat):Option R→Prop
 | none=>True
 | some (.ok _ q)=>p < q∧q≤N
 | some (.stop q)=>q≤N
theorem isT_lt {L:List T} {p:Nat} {k:Int} {s:S} (h:isT L p k s=true):p < L.length:=by
 rcases Nat.lt_or_ge p L.length with h1 | h1
 ·exact h1
 ·simp [isT,h1] at h
theorem zbP {L:List T} {p:Nat} {k:Int} {s:S}:∀ {l:List S},oneOf L p k l=some s→p < L.length∧isT L p k s=true∧s∈l
 | [],h=>by cases h
 | a :: r,h=>by
  simp only [oneOf] at h
  split at h
  ·rename_i h1
   cases h
   exact ⟨isT_lt h1,h1,by simp⟩
  ·obtain ⟨h1,h2,h3⟩:=zbP h
   exact ⟨h1,h2,by simp [h3]⟩
theorem then1_some {r:Option R} {f:E→Nat→Option R} {x:R} (h:then1 r f=some x):(∃ e q,r=some (.ok [e] q)∧f e q=some x)∨∃ q,r=some (.stop q)∧x=.stop q:=by
 unfold then1 at h
 split at h
 ·exact .inl ⟨_,_,rfl,h⟩
 ·cases h
 ·cases h;exact .inr ⟨_,rfl,rfl⟩
 ·cases h
theorem thenL_some {r:Option R} {f:List E→Nat→Option R} {x:R} (h:zg7 r f=some x):(∃ e q,r=some (.ok e q)∧f e q=some x)∨∃ q,r=some (.stop q)∧x=.stop q:=by
 unfold zg7 at h
 split at h
 ·exact .inl ⟨_,_,rfl,h⟩
 ·cases h;exact .inr ⟨_,rfl,rfl⟩
 ·cases h
theorem need_some {L:List T} {k:Int} {s:S} {p:Nat} {f:Nat→Option R} {x:R} (h:need L k s p f=some x):(isT L p k s=true∧f (p+1)=some x)∨(isT L p k s=false∧x=.stop p):=by
 unfold need at h
 split at h
 ·rename_i h1;exact .inl ⟨h1,h⟩
 ·rename_i h1;cases h;exact .inr ⟨by simpa using h1,rfl⟩
theorem zbz {e:E} {p:Nat} {x:R} (h:one e p=some x):x=.ok [e] p:=by cases h;rfl
theorem Fw.mono {N p p':Nat} {r:Option R} (h:Fw N p' r) (hp:p≤p'):Fw N p r:=by
 unfold Fw at *
 split
 ·trivial
 ·exact ⟨by simp at h;omega,by simp at h;omega⟩
 ·simpa using h
theorem zbg {N p p':Nat} {r:Option R} {f:E→Nat→Option R} (h:Fw N p' r) (hp:p≤p') (hf:∀ e q,p' < q→q≤N→Fw N p (f e q)):Fw N p (then1 r f):=by
 unfold then1
 split
 ·exact hf _ _ h.1 h.2
 ·trivial
 ·exact h
 ·trivial
theorem zpX {N p p':Nat} {r:Option R} {f:List E→Nat→Option R} (h:Fw N p' r) (hp:p≤p') (hf:∀ e q,p' < q→q≤N→Fw N p (f e q)):Fw N p (zg7 r f):=by
 unfold zg7
 split
 ·exact hf _ _ h.1 h.2
 ·exact h
 ·trivial
theorem zdq {L:List T} {k:Int} {s:S} {p q:Nat} {f:Nat→Option R} (hq:q≤L.length) (hf:q < L.length→Fw L.length p (f (q+1))):Fw L.length p (need L k s q f):=by
 unfold need
 split
 ·rename_i h;exact hf (isT_lt h)
 ·exact hq
theorem zcq {N p q:Nat} {e:E} (h1:p < q) (h2:q≤N):Fw N p (one e q):=⟨h1,h2⟩
theorem zfk (L:List T) (n k p:Nat) (hk:k≠2∧k≠3∧k≠7∧k≠8):run L (n+1) (.lev k) p=then1 (run L n (.lev (k+1)) p) fun e q=>run L n (.chain k e) q:=by
 match k,hk with
 | 0,_=>rfl
 | 1,_=>rfl
 | 4,_=>rfl
 | 5,_=>rfl
 | 6,_=>rfl
 | k+9,_=>rfl
def FwC (N p:Nat):Option R→Prop
 | none=>True
 | some (.ok _ q)=>p≤q∧q≤N
 | some (.stop q)=>q≤N
theorem FwC.fw {N p q:Nat} {r:Option R} (h:FwC N q r) (hp:p < q):Fw N p r:=by
 unfold FwC at h
 unfold Fw
 split
 ·trivial
 ·simp at h;exact ⟨by omega,h.2⟩
 ·simpa using h
theorem zsx {N p p':Nat} {r:Option R} {f:E→Nat→Option R} (h:Fw N p' r) (hf:∀ e q,p' < q→q≤N→FwC N p (f e q)):FwC N p (then1 r f):=by
 unfold then1
 split
 ·exact hf _ _ h.1 h.2
 ·trivial
 ·exact h
 ·trivial
theorem FwC.mono {N p p':Nat} {r:Option R} (h:FwC N p' r) (hp:p≤p'):FwC N p r:=by
 unfold FwC at *
 split
 ·trivial
 ·exact ⟨by simp at h;omega,by simp at h;omega⟩
 ·simpa using h
theorem zgR (L:List T):∀ n,(∀ k p,p≤L.length→Fw L.length p (run L n (.lev k) p))∧(∀ k e p,p≤L.length→FwC L.length p (run L n (.chain k e) p))∧(∀ acc p,p≤L.length→Fw L.length p (run L n (.list acc) p))∧(∀ d acc p,p≤L.length→Fw L.length p (run L n (.whens d acc) p))
 | 0=>⟨fun _ _ _=>trivial,fun _ _ _ _=>trivial,fun _ _ _=>trivial,fun _ _ _ _=>trivial⟩
 | n+1=>by
  obtain ⟨hl,hc,hs,hw⟩:=zgR L n
  refine ⟨fun k p hp=>?_,fun k e p hp=>?_,fun acc p hp=>?_,fun d acc p hp=>?_⟩
  ·by_cases hk:k≠2∧k≠3∧k≠7∧k≠8
   ·rw [zfk L n k p hk]
    exact zbg (hl _ p hp) (Nat.le_refl _) fun e q h1 h2=>(hc k e q h2).fw h1
   ·have hk':k=2∨k=3∨k=7∨k=8:=by omega
    rcases hk' with rfl | rfl | rfl | rfl
    ·simp only [run]
     split
     ·rename_i h
      have:=isT_lt h
      exact zbg (hl _ (p+1) (by omega)) (by omega) fun e q h1 h2=>zcq (by omega) h2
     ·exact hl _ p hp
    ·simp only [run]
     refine zbg (hl _ p hp) (Nat.le_refl _) fun e q h1 h2=>?_
     split
     ·rename_i op ho
      have:=(zbP ho).1
      exact zbg (hl _ (q+1) (by omega)) (by omega) fun e q h1 h2=>zcq (by omega) h2
     ·split
      ·rename_i ht
       have:=isT_lt ht
       split
       ·rename_i ht2
        have:=isT_lt ht2
        exact zbg (hl _ (q+2) (by omega)) (by omega) fun e q h1 h2=>zcq (by omega) h2
       ·exact zbg (hl _ (q+1) (by omega)) (by omega) fun e q h1 h2=>zcq (by omega) h2
      ·have hq2:∃ q2,(if (isT L q 2 wNot && (isT L (q+1) 2 wIn || isT L (q+1) 2 zaO || isT L (q+1) 2 zdQ))=true then q+1 else q)=q2∧q≤q2∧q2≤L.length:=by
        split
        ·rename_i h
         simp only [Bool.and_eq_true] at h
         have:=isT_lt h.1
         exact ⟨_,rfl,by omega,by omega⟩
        ·exact ⟨_,rfl,Nat.le_refl _,h2⟩
       obtain ⟨q2,hq2,h3,h4⟩:=hq2
       rw [hq2]
       split
       ·rename_i ht
        have:=isT_lt ht
        exact zdq (by omega) fun h5=>zpX (hs _ (q2+2) (by omega)) (by omega) fun e q h1 h2=>zcq (by omega) h2
       ·split
        ·rename_i ht
         have:=isT_lt ht
         refine zbg (hl _ (q2+1) (by omega)) (by omega) fun e r h1 h2=>zdq (by omega) fun h5=>zbg (hl _ (r+1) (by omega)) (by omega) fun e q h1 h2=>zcq (by omega) h2
        ·split
         ·rename_i ht
          have:=isT_lt ht
          exact zbg (hl _ (q2+1) (by omega)) (by omega) fun e q h1 h2=>zcq (by omega) h2
         ·exact zcq (by omega) h4
    ·simp only [run]
     split
     ·exact hl _ p hp
     ·rename_i op ho
      have:=(zbP ho).1
      split
      ·rename_i t ht
       have:=(List.getElem?_eq_some_iff.1 ht).1
       split
       ·exact zcq (by omega) (by omega)
       ·exact zbg (hl _ (p+1) (by omega)) (by omega) fun e q h1 h2=>zcq (by omega) h2
      ·exact zbg (hl _ (p+1) (by omega)) (by omega) fun e q h1 h2=>zcq (by omega) h2
    ·simp only [run]
     split
     ·exact hp
     ·rename_i t ht
      have hlt:=(List.getElem?_eq_some_iff.1 ht).1
      split
      ·exact zcq (by omega) (by omega)
      split
      ·split
       ·rename_i hd
        have:=isT_lt hd
        split
        ·rename_i u hu
         have:=(List.getElem?_eq_some_iff.1 hu).1
         split
         ·exact zcq (by omega) (by omega)
         ·exact (by omega:p+2≤L.length)
        ·exact (by omega:p+2≤L.length)
       split
       ·rename_i ho
        have:=isT_lt ho
        split
        ·split
         ·rename_i hst
          simp only [Bool.and_eq_true] at hst
          have:=isT_lt hst.2
          exact zdq (by omega) fun h5=>zcq (by omega) (by omega)
         ·split
          ·rename_i hd
           have:=isT_lt hd
           exact zbg (hl _ (p+3) (by omega)) (by omega) fun e q h1 h2=>zdq (by omega) fun h5=>zcq (by omega) (by omega)
          ·exact zbg (hl _ (p+2) (by omega)) (by omega) fun e q h1 h2=>zdq (by omega) fun h5=>zcq (by omega) (by omega)
        ·split
         ·rename_i hd
          have:=isT_lt hd
          exact zcq (by omega) (by omega)
         ·exact zpX (hs _ (p+2) (by omega)) (by omega) fun e q h1 h2=>zcq (by omega) (by omega)
       ·exact zcq (by omega) (by omega)
      split
      ·exact zcq (by omega) (by omega)
      split
      ·split
       ·exact (hw _ _ (p+1) (by omega)).mono (by omega)
       ·exact zbg (hl _ (p+1) (by omega)) (by omega) fun e q h1 h2=>(hw _ _ q h2).mono (by omega)
      split
      ·refine zdq (by omega) fun h5=>zbg (hl _ (p+2) (by omega)) (by omega) fun e r h1 h2=>zdq h2 fun h6=>?_
       split
       ·rename_i u hu
        have:=(List.getElem?_eq_some_iff.1 hu).1
        split
        ·exact zdq (by omega) fun h5=>zcq (by omega) (by omega)
        ·exact (by omega:r+1≤L.length)
       ·exact (by omega:r+1≤L.length)
      split
      ·exact zbg (hl _ (p+1) (by omega)) (by omega) fun e q h1 h2=>zdq (by omega) fun h5=>zcq (by omega) (by omega)
      ·exact hp
  ·simp only [run]
   split
   ·exact ⟨Nat.le_refl _,hp⟩
   ·rename_i op ho
    have:=(zbP ho).1
    exact zsx (hl _ (p+1) (by omega)) fun e q h1 h2=>(hc _ _ q h2).mono (by omega)
  ·simp only [run]
   refine zbg (hl _ p hp) (Nat.le_refl _) fun e q h1 h2=>?_
   split
   ·rename_i hd
    have:=isT_lt hd
    exact (hs _ (q+1) (by omega)).mono (by omega)
   ·exact zdq (by omega) fun h5=>⟨by omega,by omega⟩
  ·simp only [run]
   refine zdq hp fun h0=>zbg (hl _ (p+1) (by omega)) (by omega) fun e q h1 h2=>zdq (by omega) fun h5=>zbg (hl _ (q+1) (by omega)) (by omega) fun e r h3 h4=>?_
   split
   ·exact (hw _ _ r h4).mono (by omega)
   split
   ·rename_i hd
    have:=isT_lt hd
    exact zbg (hl _ (r+1) (by omega)) (by omega) fun e q h1 h2=>zdq (by omega) fun h5=>zcq (by omega) (by omega)
   ·exact zdq (by omega) fun h5=>zcq (by omega) (by omega)
theorem ziZ {L:List T} {n k p q:Nat} {e:List E} (hp:p≤L.length) (h:run L n (.lev k) p=some (.ok e q)):p < q∧q≤L.length:=by
 have:=(zgR L n).1 k p hp
 rw [h] at this
 exact this
theorem zo9 {L:List T} {n k p q:Nat} (hp:p≤L.length) (h:run L n (.lev k) p=some (.stop q)):q≤L.length:=by
 have:=(zgR L n).1 k p hp
 rw [h] at this
 exact this
end Ex
namespace Ex
open Lx
def callK (L:List T) (n:Nat) (op:S) (p:Nat):Option R :=
 if aggs.contains op then
  (if op == wCount && isT L p 4 zbG then need L 4 mShut (p+1) fun q=>one (eAgg op false []) q
  else (fun d=>then1 (run L n (.lev 0) (if d then p+1 else p)) fun e q=>need L 4 mShut q fun r=>one (eAgg op d [e]) r) (isT L p 2 zae))
 else if isT L p 4 mShut then one (eFn op []) (p+1)
 else zg7 (run L n (.list []) p) fun l q=>one (eFn op l) q
def zhu (L:List T) (n:Nat) (nm:S) (p:Nat):Option R :=
 if isT L p 4 mDot then
  (match L[p+1]? with
  | some u=>if u.kind=1 then one (eCol nm u.text) (p+2) else some (.stop (p+1))
  | none=>some (.stop (p+1)))
 else if isT L p 4 mOpen then callK L n (fold nm) (p+1)
 else one (eCol [] nm) p
def zll (L:List T) (n:Nat) (p:Nat):Option R :=
 need L 4 mOpen p fun q=>then1 (run L n (.lev 0) q) fun e r=>need L 2 wAs r fun r2 =>
  (match L[r2]? with
  | some u=>if (decide (u.kind=2) || decide (u.kind=1)) && zhA.contains (fold u.text) then need L 4 mShut (r2+1) fun r3=>one (zhl (fold u.text) e) r3 else some (.stop r2)
  | none=>some (.stop r2))
def zgI (L:List T) (n:Nat) (p:Nat):Option R :=
 if isT L p 2 zdg then run L n (.whens false []) p else then1 (run L n (.lev 0) p) fun e q=>run L n (.whens true [e]) q
def znJ (L:List T) (n:Nat) (d:Bool) (acc:List E) (r:Nat):Option R :=
 if isT L r 2 ziO then then1 (run L n (.lev 0) (r+1)) fun c r2=>need L 2 wEnd r2 fun r3=>one (eCase d (acc++[c])) r3
 else need L 2 wEnd r fun r3=>one (eCase d acc) r3
def whenK (L:List T) (n:Nat) (d:Bool) (acc:List E) (p1:Nat):Option R :=
 then1 (run L n (.lev 0) p1) fun a q=>need L 2 wThen q fun q1=>then1 (run L n (.lev 0) q1) fun b r =>
   if isT L r 2 zdg then run L n (.whens d (acc++[a,b])) r else znJ L n d (acc++[a,b]) r
theorem zez (L:List T) (n:Nat) (d:Bool) (acc:List E) (p:Nat):run L (n+1) (.whens d acc) p=need L 2 zdg p fun p1=>whenK L n d acc p1:=by
 rw [run]
 unfold whenK znJ
 simp only [List.append_assoc,List.cons_append,List.nil_append]
theorem zfB (L:List T) (n p:Nat):run L (n+1) (.lev 8) p=match L[p]? with
   | none=>some (.stop p)
   | some t =>
    if t.kind=3 then one (eVal t.val) (p+1)
    else if t.kind=1 then zhu L n t.text (p+1)
    else if isT L p 2 zmn then one (eVal v0) (p+1)
    else if isT L p 2 wCase then zgI L n (p+1)
    else if isT L p 2 wCast then zll L n (p+1)
    else if isT L p 4 mOpen then then1 (run L n (.lev 0) (p+1)) fun e q=>need L 4 mShut q fun r=>one e r
    else some (.stop p):=by
 rw [run]
 rfl
end Ex
namespace Ex
open Lx
def Def1 (o:Option R):Prop:=(∃ e q,o=some (.ok [e] q))∨∃ q,o=some (.stop q)
def DefL (o:Option R):Prop:=∃ r,o=some r
theorem zaT {r:Option R} {f:E→Nat→Option R} (h:Def1 r) (hf:∀ e q,r=some (.ok [e] q)→Def1 (f e q)):Def1 (then1 r f):=by
 rcases h with ⟨e,q,h⟩ | ⟨q,h⟩
 ·have:=hf e q h
  subst h
  exact this
 ·subst h
  exact .inr ⟨_,rfl⟩
theorem zrq {r:Option R} {f:E→Nat→Option R} (h:Def1 r) (hf:∀ e q,r=some (.ok [e] q)→DefL (f e q)):DefL (then1 r f):=by
 rcases h with ⟨e,q,h⟩ | ⟨q,h⟩
 ·have:=hf e q h
  subst h
  exact this
 ·subst h
  exact ⟨_,rfl⟩
theorem znI {r:Option R} {f:List E→Nat→Option R} (h:DefL r) (hf:∀ e q,r=some (.ok e q)→Def1 (f e q)):Def1 (zg7 r f):=by
 obtain ⟨r,h⟩:=h
 subst h
 cases r with
 | ok l q=>exact hf l q rfl
 | stop q=>exact .inr ⟨_,rfl⟩
theorem zcE {L:List T} {k:Int} {s:S} {p:Nat} {f:Nat→Option R} (hf:p < L.length→Def1 (f (p+1))):Def1 (need L k s p f):=by
 unfold need
 split
 ·rename_i h;exact hf (isT_lt h)
 ·exact .inr ⟨_,rfl⟩
theorem ztD {L:List T} {k:Int} {s:S} {p:Nat} {f:Nat→Option R} (hf:p < L.length→DefL (f (p+1))):DefL (need L k s p f):=by
 unfold need
 split
 ·rename_i h;exact hf (isT_lt h)
 ·exact ⟨_,rfl⟩
theorem zbq {e:E} {p:Nat}:Def1 (one e p):=.inl ⟨_,_,rfl⟩
theorem zgP {p:Nat}:Def1 (some (.stop p)):=.inr ⟨_,rfl⟩
theorem zsX (L:List T):∀ n,(∀ k p,k≤8→p≤L.length→12 * (L.length - p)+10 - k≤n→Def1 (run L n (.lev k) p)) ∧
  (∀ k e p,k≤7→p≤L.length→12 * (L.length - p)+1≤n→Def1 (run L n (.chain k e) p)) ∧
  (∀ acc p,p≤L.length→12 * (L.length - p)+11≤n→DefL (run L n (.list acc) p)) ∧
  (∀ d acc p,p≤L.length→12 * (L.length - p)+11≤n→Def1 (run L n (.whens d acc) p))
 | 0=>⟨fun _ _ _ _ h=>by omega,fun _ _ _ _ _ h=>by omega,fun _ _ _ h=>by omega,fun _ _ _ _ h=>by omega⟩
 | n+1=>by
  obtain ⟨hl,hc,hs,hw⟩:=zsX L n
  obtain ⟨fl,fc,fs,fw⟩:=zgR L n
  have fl':∀ {k p e q},p≤L.length→run L n (.lev k) p=some (.ok e q)→p < q∧q≤L.length:=fun {k p e q} hp h=>by
   have:=fl k p hp
   rw [h] at this
   exact this
  refine ⟨fun k p hk8 hp hn=>?_,fun k e p hk hp hn=>?_,fun acc p hp hn=>?_,fun d acc p hp hn=>?_⟩
  ·by_cases hk:k≠2∧k≠3∧k≠7∧k≠8
   ·rw [zfk L n k p hk]
    refine zaT (hl _ p (by omega) hp (by omega)) fun e q h=>?_
    have:=fl' hp h
    exact hc k e q (by omega) this.2 (by omega)
   ·have hk':k=2∨k=3∨k=7∨k=8:=by omega
    rcases hk' with rfl | rfl | rfl | rfl
    ·simp only [run]
     split
     ·rename_i h
      have:=isT_lt h
      exact zaT (hl _ (p+1) (by omega) (by omega) (by omega)) fun e q h=>zbq
     ·exact hl _ p (by omega) hp (by omega)
    ·simp only [run]
     refine zaT (hl _ p (by omega) hp (by omega)) fun e q h=>?_
     have h1:=fl' hp h
     split
     ·rename_i op ho
      have:=(zbP ho).1
      exact zaT (hl _ (q+1) (by omega) (by omega) (by omega)) fun e q h=>zbq
     ·split
      ·rename_i ht
       have:=isT_lt ht
       split
       ·rename_i ht2
        have:=isT_lt ht2
        exact zaT (hl _ (q+2) (by omega) (by omega) (by omega)) fun e q h=>zbq
       ·exact zaT (hl _ (q+1) (by omega) (by omega) (by omega)) fun e q h=>zbq
      ·have hq2:∃ q2,(if (isT L q 2 wNot && (isT L (q+1) 2 wIn || isT L (q+1) 2 zaO || isT L (q+1) 2 zdQ))=true then q+1 else q)=q2∧q≤q2∧q2≤L.length:=by
        split
        ·rename_i h
         simp only [Bool.and_eq_true] at h
         have:=isT_lt h.1
         exact ⟨_,rfl,by omega,by omega⟩
        ·exact ⟨_,rfl,Nat.le_refl _,h1.2⟩
       obtain ⟨q2,hq2,h3,h4⟩:=hq2
       rw [hq2]
       split
       ·rename_i ht
        have:=isT_lt ht
        exact zcE fun h5=>znI (hs _ (q2+2) (by omega) (by omega)) fun e q h=>zbq
       ·split
        ·rename_i ht
         have:=isT_lt ht
         refine zaT (hl _ (q2+1) (by omega) (by omega) (by omega)) fun e r h=>zcE fun h5=>?_
         have:=fl' (by omega) h
         exact zaT (hl _ (r+1) (by omega) (by omega) (by omega)) fun e q h=>zbq
        ·split
         ·rename_i ht
          have:=isT_lt ht
          exact zaT (hl _ (q2+1) (by omega) (by omega) (by omega)) fun e q h=>zbq
         ·exact zbq
    ·simp only [run]
     split
     ·exact hl _ p (by omega) hp (by omega)
     ·rename_i op ho
      have:=(zbP ho).1
      split
      ·split
       ·exact zbq
       ·exact zaT (hl _ (p+1) (by omega) (by omega) (by omega)) fun e q h=>zbq
      ·exact zaT (hl _ (p+1) (by omega) (by omega) (by omega)) fun e q h=>zbq
    ·rw [zfB]
     split
     ·exact zgP
     ·rename_i t ht
      have hlt:=(List.getElem?_eq_some_iff.1 ht).1
      split
      ·exact zbq
      split
      ·unfold zhu
       split
       ·split
        ·split
         ·exact zbq
         ·exact zgP
        ·exact zgP
       split
       ·rename_i ho
        have:=isT_lt ho
        unfold callK
        split
        ·split
         ·exact zcE fun h5=>zbq
         ·dsimp only
          split
          ·rename_i hd
           have:=isT_lt hd
           exact zaT (hl 0 (p+1+1+1) (by omega) (by omega) (by omega)) fun e q h=>zcE fun h5=>zbq
          ·exact zaT (hl 0 (p+1+1) (by omega) (by omega) (by omega)) fun e q h=>zcE fun h5=>zbq
        ·split
         ·exact zbq
         ·exact znI (hs _ _ (by omega) (by omega)) fun e q h=>zbq
       ·exact zbq
      split
      ·exact zbq
      split
      ·unfold zgI
       split
       ·exact hw _ _ (p+1) (by omega) (by omega)
       ·refine zaT (hl _ (p+1) (by omega) (by omega) (by omega)) fun e q h=>?_
        have:=fl' (by omega) h
        exact hw _ _ q (by omega) (by omega)
      split
      ·unfold zll
       refine zcE fun h5=>zaT (hl 0 (p+1+1) (by omega) (by omega) (by omega)) fun e r h=>zcE fun h6=>?_
       split
       ·split
        ·exact zcE fun h5=>zbq
        ·exact zgP
       ·exact zgP
      split
      ·exact zaT (hl _ (p+1) (by omega) (by omega) (by omega)) fun e q h=>zcE fun h5=>zbq
      ·exact zgP
  ·simp only [run]
   split
   ·exact zbq
   ·rename_i op ho
    have:=(zbP ho).1
    refine zaT (hl _ (p+1) (by omega) (by omega) (by omega)) fun e q h=>?_
    have:=fl' (by omega) h
    exact hc _ _ q hk (by omega) (by omega)
  ·simp only [run]
   refine zrq (hl _ p (by omega) hp (by omega)) fun e q h=>?_
   have:=fl' hp h
   split
   ·rename_i hd
    have:=isT_lt hd
    exact hs _ (q+1) (by omega) (by omega)
   ·exact ztD fun h5=>⟨_,rfl⟩
  ·simp only [run]
   refine zcE fun h0=>zaT (hl _ (p+1) (by omega) (by omega) (by omega)) fun e q h=>?_
   have:=fl' (by omega) h
   refine zcE fun h5=>zaT (hl _ (q+1) (by omega) (by omega) (by omega)) fun e r h=>?_
   have:=fl' (by omega) h
   split
   ·exact hw _ _ r (by omega) (by omega)
   split
   ·rename_i he
    have:=isT_lt he
    exact zaT (hl _ (r+1) (by omega) (by omega) (by omega)) fun e q h=>zcE fun h5=>zbq
   ·exact zcE fun h5=>zbq
end Ex
namespace Ex
open Lx
def za8:S→S
 | []=>[]
 | c :: r=>if c=39 then 39 :: 39 :: za8 r else c :: za8 r
def valP (v:V):S :=
 if v.1=0 then zmn else if v.1=1 then Ox.num v.2.1 else if v.1=2 then 39 :: (za8 v.2.2++[39]) else if v.1=3 then [120,39]++Ox.hex v.2.2++[39] else []
def zcl (k:Int):Bool:=decide (3≤k) && decide (k≤8)
abbrev C:=Int×Int×S
def inn (c:C):S:=if zcl c.1 then 40 :: (c.2.2++[41]) else c.2.2
def innU (c:C):S:=if zcl c.1 || decide (c.1=1) && decide (c.2.1=1) then 40 :: (c.2.2++[41]) else c.2.2
def kid (l:List C) (i:Nat):C:=(l[i]?).getD (0,0,[])
def notW (b:Bool) (w:S):S:=if b then [32,110,111,116,32]++w++[32] else 32 :: (w++[32])
def commas:List C→S
 | []=>[]
 | [c]=>c.2.2
 | c :: r=>c.2.2++[44,32]++commas r
def zdP:List C→S
 | []=>[]
 | [c]=>ziO++[32]++c.2.2++[32]
 | c :: d :: r=>zdg++[32]++c.2.2++[32]++wThen++[32]++d.2.2++[32]++zdP r
def zjm (d:Bool) (l:List C):S :=
 wCase++[32]++(if d then (kid l 0).2.2++[32]++zdP (l.drop 1) else zdP l)++wEnd
def pr (e:E) (l:List C):S :=
 if e.kind=1 then valP e.val
 else if e.kind=2 then (if e.table=[] then e.name else e.table++[46]++e.name)
 else if e.kind=3 then (if e.op=wNot then wNot++[32]++innU (kid l 0) else e.op++innU (kid l 0))
 else if e.kind=4 then inn (kid l 0)++[32]++e.op++[32]++inn (kid l 1)
 else if e.kind=5 then inn (kid l 0)++[32]++wIs++[32]++(if e.neg then wNot++[32] else [])++inn (kid l 1)
 else if e.kind=6 then inn (kid l 0)++notW e.neg wIn++[40]++commas (l.drop 1)++[41]
 else if e.kind=7 then inn (kid l 0)++notW e.neg zaO++inn (kid l 1)++[32]++wAnd++[32]++inn (kid l 2)
 else if e.kind=8 then inn (kid l 0)++notW e.neg zdQ++inn (kid l 1)
 else if e.kind=9 then zjm e.dist l
 else if e.kind=12 then wCast++[40]++(kid l 0).2.2++[32]++wAs++[32]++e.op++[41]
 else if e.kind=11∧l=[] then e.op++[40,42,41]
 else if e.dist then e.op++[40]++zae++[32]++commas l++[41]
 else e.op++[40]++commas l++[41]
mutual
def print:E→S
 | .mk k o v t n s g d a=>pr (.mk k o v t n s g d a) (prints a)
termination_by structural x=>x
def prints:List E→List C
 | []=>[]
 | e :: r=>(e.kind,e.val.1,print e) :: prints r
termination_by structural x=>x
end
theorem zi8:∀ l,prints l=l.map fun e=>(e.kind,e.val.1,print e)
 | []=>rfl
 | e :: r=>by rw [prints,zi8 r];rfl
theorem print_eq (e:E):print e=pr e (e.args.map fun x=>(x.kind,x.val.1,print x)):=by
 cases e with
 | mk k o v t n s g d a=>rw [print,zi8];rfl
mutual
def deep:E→Nat
 | .mk _ _ _ _ _ _ _ _ a=>deeps a+1
termination_by structural x=>x
def deeps:List E→Nat
 | []=>0
 | e :: r=>max (deep e) (deeps r)
termination_by structural x=>x
end
mutual
def count:E→Nat
 | .mk _ _ _ _ _ _ _ _ a=>counts a+1
termination_by structural x=>x
def counts:List E→Nat
 | []=>0
 | e :: r=>count e+counts r
termination_by structural x=>x
end
def mayV (v:V):Bool :=
 if v.1=0 then decide (v.2.1=0) && v.2.2 == [] else if v.1=1 then v.2.2 == [] else if v.1=2∨v.1=3 then decide (v.2.1=0) && decide (v.2.2.length≤4096) else false
def nmE (s:S):Bool:=zlW s && !isW s
def uns:List S:=[mMinus,mPlus,wNot]
def bins:List S:=[[124,124],zbG,[47],[37],mPlus,mMinus,[61],[60,62],[60],[60,61],[62],[62,61],wAnd,wOr]
def lowI:Int:=-9223372036854775808
def ownF (k:Int) (o:S) (v:V) (t m:S) (g d:Bool) (n:Nat):Bool :=
 if k=1 then o == [] && t == [] && m == [] && !g && !d && decide (n=0) && mayV v && !(decide (v.1=1) && decide (v.2.1=lowI))
 else if k=2 then o == [] && v == v0 && !g && !d && decide (n=0) && nmE m && (t == [] || nmE t)
 else if k=3 then v == v0 && t == [] && m == [] && !g && !d && decide (n=1) && uns.contains o
 else if k=4 then v == v0 && t == [] && m == [] && !g && !d && decide (n=2) && bins.contains o
 else if k=5 then o == [] && v == v0 && t == [] && m == [] && !d && decide (n=2)
 else if k=6 then o == [] && v == v0 && t == [] && m == [] && !d && decide (2≤n)
 else if k=7 then o == [] && v == v0 && t == [] && m == [] && !d && decide (n=3)
 else if k=8 then o == [] && v == v0 && t == [] && m == [] && !d && decide (n=2)
 else if k=9 then o == [] && v == v0 && t == [] && m == [] && !g && decide (2≤n) && (!d || decide (3≤n))
 else if k=10 then v == v0 && t == [] && m == [] && !g && !d && nmE o && fold o == o && !aggs.contains o
 else if k=11 then v == v0 && t == [] && m == [] && !g && aggs.contains o && (decide (n=1) || decide (n=0) && o == wCount && !d)
 else if k=12 then v == v0 && t == [] && m == [] && !g && !d && decide (n=1) && zhA.contains o
 else false
def own (e:E):Bool:=ownF e.kind e.op e.val e.table e.name e.neg e.dist e.args.length
mutual
def right:E→Bool
 | .mk k o v t n s g d a=>own (.mk k o v t n s g d a) && rights a
termination_by structural x=>x
def rights:List E→Bool
 | []=>true
 | e :: r=>right e && rights r
termination_by structural x=>x
end
theorem zi2:∀ l,rights l=l.all right
 | []=>rfl
 | e :: r=>by rw [rights,zi2 r];rfl
def N64 (e:E):Prop:=e.val.2.1≤9223372036854775807∧-9223372036854775808≤e.val.2.1
inductive RtN:E→Prop
 | mk {e:E}:N64 e→(∀ x∈e.args,RtN x)→RtN e
theorem RtN.n {e:E} (h:RtN e):N64 e:=by cases h;assumption
theorem RtN.a {e:E} (h:RtN e):∀ x∈e.args,RtN x:=by cases h;assumption
inductive Rt:E→Prop
 | val (v:V):mayV v=true→(v.1=1→v.2.1≠lowI)→(v.2.1≤9223372036854775807∧-9223372036854775808≤v.2.1)→Rt (eVal v)
 | col (t n:S):nmE n=true→(t=[]∨nmE t=true)→Rt (eCol t n)
 | un (op:S) (a:E):op∈uns→Rt a→Rt (eUn op a)
 | bin (op:S) (a b:E):op∈bins→Rt a→Rt b→Rt (eBin op a b)
 | is (g:Bool) (a b:E):Rt a→Rt b→Rt (eIs g a b)
 | in_ (g:Bool) (a:E) (l:List E):l≠[]→Rt a→(∀ x∈l,Rt x)→Rt (eIn g (a :: l))
 | btw (g:Bool) (a b c:E):Rt a→Rt b→Rt c→Rt (eBtw g a b c)
 | like (g:Bool) (a b:E):Rt a→Rt b→Rt (zeT g a b)
 | case (d:Bool) (l:List E):2≤l.length→(d=true→3≤l.length)→(∀ x∈l,Rt x)→Rt (eCase d l)
 | fn (op:S) (l:List E):nmE op=true→fold op=op→aggs.contains op=false→(∀ x∈l,Rt x)→Rt (eFn op l)
 | agg (op:S) (d:Bool) (a:E):aggs.contains op=true→Rt a→Rt (eAgg op d [a])
 | star:Rt (eAgg wCount false [])
 | cast (op:S) (a:E):zhA.contains op=true→Rt a→Rt (zhl op a)
end Ex
namespace Ex
open Lx
theorem zlj (c:UInt8) (hc:c≠39):∀ (k:Nat) (r:S),Go.Lib.replaceK [39] [39,39] k (c :: r)=c :: Go.Lib.replaceK [39] [39,39] k r
 | 0,r=>rfl
 | k+1,r=>by
  have hg:=Go.Lib.index_ge r [39]
  have hp:([39]:List UInt8).isPrefixOf (c :: r)=false:=by
   show ((39:UInt8) == c && _)=false
   rw [beq_eq_false_iff_ne.2 (fun h=>hc h.symm)];rfl
  have h1:Go.Lib.index (c :: r) [39]=if Go.Lib.index r [39] == -1 then -1 else Go.Lib.index r [39]+1:=by
   rw [Go.Lib.index,hp];rfl
  rw [Go.Lib.replaceK,Go.Lib.replaceK,h1]
  by_cases hm:Go.Lib.index r [39]=-1
  ·rw [hm];rfl
  ·obtain ⟨i,hi⟩:∃ i:Nat,Go.Lib.index r [39]=i:=⟨(Go.Lib.index r [39]).toNat,by omega⟩
   rw [hi,if_neg (by first | (simp;done) | (simp;omega)),if_neg (by first | (simp;done) | (simp;omega)),if_neg (by first | (simp;done) | (simp;omega))]
   have e1:((i:Int)+1).toNat=i+1:=by omega
   rw [e1,Int.toNat_natCast]
   simp [List.take_succ_cons,show i+1+1=(i+1)+1 from rfl]
theorem zfm:∀ s:S,Go.Lib.replaceK [39] [39,39] (Go.Lib.count s [39]) s=za8 s
 | []=>rfl
 | c :: r=>by
  rw [za8]
  by_cases hc:c=39
  ·subst hc
   have h0:Go.Lib.index (39 :: r) [39]=(0:Nat):=by
    rw [Go.Lib.index];rfl
   rw [if_pos rfl,Go.Lib.count_cons_eq,Nat.add_comm,Go.Lib.replaceK_hit _ _ _ _ 0 h0]
   show []++[39,39]++Go.Lib.replaceK [39] [39,39] (Go.Lib.count r [39]) r=_
   rw [zfm r];rfl
  ·rw [if_neg hc,Go.Lib.count_cons_ne _ _ _ hc,zlj c hc,zfm r]
theorem zrC (s:S):Go.Lib.replaceAll s [39] [39,39]=za8 s:=by
 rw [Go.Lib.replaceAll,Go.Lib.replace,if_neg (by decide),Go.Lib.replaceNum,if_pos (by left;decide),zfm]
end Ex
namespace Ex
open Lx
theorem len2 {l:List E} (h:l.length=2):∃ x y,l=[x,y]:=by
 match l,h with
 | [x,y],_=>exact ⟨x,y,rfl⟩
theorem len3 {l:List E} (h:l.length=3):∃ x y z,l=[x,y,z]:=by
 match l,h with
 | [x,y,z],_=>exact ⟨x,y,z,rfl⟩
theorem zku {l:List E} (h:∀ x∈l,right x=true):rights l=true:=by
 rw [zi2]
 exact List.all_eq_true.2 h
theorem Rt.right {e:E} (h:Rt e):right e=true:=by
 induction h with
 | val v h1 h2 =>
  simp only [eVal,Ex.right,rights,own,ownF,E.kind,E.op,E.val,E.table,E.name,E.neg,E.dist,E.args]
  simp [h1]
  exact (Decidable.em (v.1=1)).elim (fun h=>.inr (decide_eq_false (h2 h))) (fun h=>.inl (decide_eq_false h))
 | col t n h1 h2 =>
  simp only [eCol,Ex.right,rights,own,ownF,E.kind,E.op,E.val,E.table,E.name,E.neg,E.dist,E.args]
  simp [h1]
  exact h2
 | un op a h1 _ ih=>simp [eUn,Ex.right,rights,own,ownF,E.kind,E.op,E.val,E.table,E.name,E.neg,E.dist,E.args,ih,h1]
 | bin op a b h1 _ _ ih1 ih2=>simp [eBin,Ex.right,rights,own,ownF,E.kind,E.op,E.val,E.table,E.name,E.neg,E.dist,E.args,ih1,ih2,h1]
 | is g a b _ _ ih1 ih2=>simp [eIs,Ex.right,rights,own,ownF,E.kind,E.op,E.val,E.table,E.name,E.neg,E.dist,E.args,ih1,ih2]
 | in_ g a l h1 _ _ ih1 ih2 =>
  simp [eIn,Ex.right,rights,own,ownF,E.kind,E.op,E.val,E.table,E.name,E.neg,E.dist,E.args,ih1,zku ih2]
  exact List.length_pos_iff.2 h1
 | btw g a b c _ _ _ ih1 ih2 ih3=>simp [eBtw,Ex.right,rights,own,ownF,E.kind,E.op,E.val,E.table,E.name,E.neg,E.dist,E.args,ih1,ih2,ih3]
 | like g a b _ _ ih1 ih2=>simp [zeT,Ex.right,rights,own,ownF,E.kind,E.op,E.val,E.table,E.name,E.neg,E.dist,E.args,ih1,ih2]
 | case d l h1 h2 _ ih =>
  simp [eCase,Ex.right,rights,own,ownF,E.kind,E.op,E.val,E.table,E.name,E.neg,E.dist,E.args,zku ih,h1]
  cases d<;>simp_all
 | fn op l h1 h2 h3 _ ih =>
  have h3':op ∉ aggs:=by simpa using h3
  simp [eFn,Ex.right,rights,own,ownF,E.kind,E.op,E.val,E.table,E.name,E.neg,E.dist,E.args,zku ih,h1,h2,h3']
 | agg op d a h1 _ ih =>
  have h1':op∈aggs:=by simpa using h1
  simp [eAgg,Ex.right,rights,own,ownF,E.kind,E.op,E.val,E.table,E.name,E.neg,E.dist,E.args,ih,h1']
 | star=>rfl
 | cast op a h1 _ ih =>
  have h1':op∈zhA:=by simpa using h1
  simp [zhl,Ex.right,rights,own,ownF,E.kind,E.op,E.val,E.table,E.name,E.neg,E.dist,E.args,ih,h1']
end Ex
namespace Ex
open Lx
abbrev Pc:=Option T
def mk (s:S):Pc:=some ⟨4,s,v0⟩
def wd (s:S):Pc:=some ⟨2,s,v0⟩
def nmP (s:S):Pc:=some ⟨1,s,v0⟩
def bk:Pc:=none
def opP (s:S):Pc:=if s=wAnd∨s=wOr∨s=wNot then wd s else mk s
def zgi (v:V):List Pc :=
 if v.1=0 then [wd zmn] else if v.1=1∧v.2.1 < 0 then [mk mMinus,some ⟨3,Ox.num (-v.2.1),(1, -v.2.1,[])⟩] else [some ⟨3,valP v,v⟩]
def flat (l:List Pc):S:=l.flatMap fun p=>match p with | none=>[32] | some t=>t.text
def toks (l:List Pc):List T:=l.filterMap id
theorem flat_app (a b:List Pc):flat (a++b)=flat a++flat b:=by simp [flat]
theorem toks_app (a b:List Pc):toks (a++b)=toks a++toks b:=by simp [toks]
theorem flat_nil:flat []=[]:=rfl
theorem flat_cons (p:Pc) (l:List Pc):flat (p :: l)=(match p with | none=>[32] | some t=>t.text)++flat l:=by simp [flat]
abbrev D:=Int×Int×List Pc
def innP (c:D):List Pc:=if zcl c.1 then mk mOpen :: (c.2.2++[mk mShut]) else c.2.2
def zdJ (c:D):List Pc:=if zcl c.1 || decide (c.1=1) && decide (c.2.1=1) then mk mOpen :: (c.2.2++[mk mShut]) else c.2.2
def kidP (l:List D) (i:Nat):D:=(l[i]?).getD (0,0,[])
def notP (b:Bool) (w:S):List Pc:=if b then [bk,wd wNot,bk,wd w,bk] else [bk,wd w,bk]
def commasP:List D→List Pc
 | []=>[]
 | [c]=>c.2.2
 | c :: r=>c.2.2++[mk mComma,bk]++commasP r
def whensQ:List D→List Pc
 | []=>[]
 | [c]=>[wd ziO,bk]++c.2.2++[bk]
 | c :: d :: r=>[wd zdg,bk]++c.2.2++[bk,wd wThen,bk]++d.2.2++[bk]++whensQ r
def zjl (d:Bool) (l:List D):List Pc :=
 [wd wCase,bk]++(if d then (kidP l 0).2.2++[bk]++whensQ (l.drop 1) else whensQ l)++[wd wEnd]
def pp (e:E) (l:List D):List Pc :=
 if e.kind=1 then zgi e.val
 else if e.kind=2 then (if e.table=[] then [nmP e.name] else [nmP e.table,mk mDot,nmP e.name])
 else if e.kind=3 then (if e.op=wNot then [wd wNot,bk]++zdJ (kidP l 0) else [mk e.op]++zdJ (kidP l 0))
 else if e.kind=4 then innP (kidP l 0)++[bk,opP e.op,bk]++innP (kidP l 1)
 else if e.kind=5 then innP (kidP l 0)++[bk,wd wIs,bk]++(if e.neg then [wd wNot,bk] else [])++innP (kidP l 1)
 else if e.kind=6 then innP (kidP l 0)++notP e.neg wIn++[mk mOpen]++commasP (l.drop 1)++[mk mShut]
 else if e.kind=7 then innP (kidP l 0)++notP e.neg zaO++innP (kidP l 1)++[bk,wd wAnd,bk]++innP (kidP l 2)
 else if e.kind=8 then innP (kidP l 0)++notP e.neg zdQ++innP (kidP l 1)
 else if e.kind=9 then zjl e.dist l
 else if e.kind=12 then [wd wCast,mk mOpen]++(kidP l 0).2.2++[bk,wd wAs,bk,nmP e.op,mk mShut]
 else if e.kind=11∧l=[] then [nmP e.op,mk mOpen,mk zbG,mk mShut]
 else if e.dist then [nmP e.op,mk mOpen,wd zae,bk]++commasP l++[mk mShut]
 else [nmP e.op,mk mOpen]++commasP l++[mk mShut]
mutual
def pcs:E→List Pc
 | .mk k o v t n s g d a=>pp (.mk k o v t n s g d a) (pcsL a)
termination_by structural x=>x
def pcsL:List E→List D
 | []=>[]
 | e :: r=>(e.kind,e.val.1,pcs e) :: pcsL r
termination_by structural x=>x
end
theorem zqp:∀ l,pcsL l=l.map fun e=>(e.kind,e.val.1,pcs e)
 | []=>rfl
 | e :: r=>by rw [pcsL,zqp r];rfl
def fl (d:D):C:=(d.1,d.2.1,flat d.2.2)
theorem ziy (d:D):flat (innP d)=inn (fl d):=by
 unfold innP inn fl
 dsimp only
 split<;>simp [flat_cons,flat_app,mk,mOpen,mShut,flat_nil]
theorem zul (d:D):flat (zdJ d)=innU (fl d):=by
 unfold zdJ innU fl
 dsimp only
 split<;>simp [flat_cons,flat_app,mk,mOpen,mShut,flat_nil]
theorem zkZ (l:List D) (i:Nat):fl (kidP l i)=kid (l.map fl) i:=by
 unfold kidP kid
 rw [List.getElem?_map]
 cases l[i]?<;>rfl
theorem znh (b:Bool) (w:S):flat (notP b w)=notW b w:=by
 unfold notP notW
 cases b<;>simp [flat_cons,flat_nil,bk,wd,wNot]
theorem zfW:∀ l:List D,flat (commasP l)=commas (l.map fl)
 | []=>rfl
 | [c]=>rfl
 | c :: d :: r=>by
  rw [commasP,flat_app,flat_app,zfW (d :: r)]
  simp [commas,flat_cons,flat_nil,mk,mComma,bk,fl]
  all_goals simp
theorem zl5:∀ l:List D,flat (whensQ l)=zdP (l.map fl)
 | []=>rfl
 | [c]=>by simp [whensQ,zdP,flat_app,flat_cons,flat_nil,wd,bk,fl]
 | c :: d :: r=>by
  rw [whensQ,flat_app,zl5 r]
  simp [zdP,flat_app,flat_cons,flat_nil,wd,bk,fl]
theorem zt2 (l:List D) (i:Nat):flat (kidP l i).2.2=(kid (l.map fl) i).2.2:=by rw [← zkZ];rfl
theorem zum (d:Bool) (l:List D):flat (zjl d l)=zjm d (l.map fl):=by
 unfold zjl zjm
 cases d<;>simp [flat_app,flat_cons,flat_nil,wd,bk,zl5,zt2]
theorem opP_flat (s:S):flat [opP s]=s:=by
 unfold opP
 split<;>simp [flat_cons,flat_nil,wd,mk]
theorem num_neg {n:Int} (h:n < 0):Ox.num n=45 :: Ox.num (-n):=by
 unfold Ox.num
 rw [if_pos h,if_neg (by omega),Int.natAbs_neg]
theorem flat_val (v:V):flat (zgi v)=valP v:=by
 unfold zgi
 split
 ·rename_i h;simp [valP,h,flat_cons,flat_nil,wd]
 ·split
  ·rename_i h
   simp [valP,h.1,flat_cons,flat_nil,mk,mMinus,num_neg h.2]
  ·simp [flat_cons,flat_nil]
theorem flat_pp (e:E) (l:List D):flat (pp e l)=pr e (l.map fl):=by
 unfold pp pr
 have hop:∀ r,flat (opP e.op :: r)=e.op++flat r:=fun r=>by
  have:=opP_flat e.op
  rw [flat_cons,flat_nil,List.append_nil] at this
  rw [flat_cons,this]
 by_cases hk:e.kind=1
 ·rw [if_pos hk,if_pos hk]
  exact flat_val _
 rw [if_neg hk,if_neg hk];clear hk
 by_cases hk:e.kind=2
 ·rw [if_pos hk,if_pos hk]
  split<;>simp [flat_cons,flat_nil,nmP,mk,mDot]
 rw [if_neg hk,if_neg hk];clear hk
 by_cases hk:e.kind=3
 ·rw [if_pos hk,if_pos hk]
  split<;>simp [flat_cons,flat_nil,flat_app,wd,bk,mk,zul,zkZ, *]
 rw [if_neg hk,if_neg hk];clear hk
 by_cases hk:e.kind=4
 ·rw [if_pos hk,if_pos hk]
  simp [flat_app,ziy,zkZ,flat_cons,bk,hop,flat_nil]
 rw [if_neg hk,if_neg hk];clear hk
 by_cases hk:e.kind=5
 ·rw [if_pos hk,if_pos hk]
  split<;>simp [flat_app,ziy,zkZ,flat_cons,bk,wd,flat_nil]
 rw [if_neg hk,if_neg hk];clear hk
 by_cases hk:e.kind=6
 ·rw [if_pos hk,if_pos hk]
  simp [flat_app,ziy,zkZ,flat_cons,bk,wd,mk,mOpen,mShut,flat_nil,znh,zfW,List.map_drop]
 rw [if_neg hk,if_neg hk];clear hk
 by_cases hk:e.kind=7
 ·rw [if_pos hk,if_pos hk]
  simp [flat_app,ziy,zkZ,flat_cons,bk,wd,flat_nil,znh]
 rw [if_neg hk,if_neg hk];clear hk
 by_cases hk:e.kind=8
 ·rw [if_pos hk,if_pos hk]
  simp [flat_app,ziy,zkZ,flat_cons,bk,wd,flat_nil,znh]
 rw [if_neg hk,if_neg hk];clear hk
 by_cases hk:e.kind=9
 ·rw [if_pos hk,if_pos hk]
  exact zum _ _
 rw [if_neg hk,if_neg hk];clear hk
 by_cases hk:e.kind=12
 ·rw [if_pos hk,if_pos hk]
  simp [flat_app,zt2,flat_cons,bk,wd,mk,nmP,mOpen,mShut,flat_nil]
 rw [if_neg hk,if_neg hk];clear hk
 by_cases hk:e.kind=11∧l=[]
 ·have hk2:e.kind=11∧l.map fl=[]:=by simpa using hk
  rw [if_pos hk,if_pos hk2]
  simp [flat_cons,mk,nmP,mOpen,mShut,zbG,flat_nil]
 have hk2:¬ (e.kind=11∧l.map fl=[]):=by simpa using hk
 rw [if_neg hk,if_neg hk2]
 split
 ·simp [flat_app,flat_cons,bk,wd,mk,nmP,mOpen,mShut,flat_nil,zfW]
 ·simp [flat_app,flat_cons,mk,nmP,mOpen,mShut,flat_nil,zfW]
mutual
theorem zgW:∀ e,flat (pcs e)=print e
 | .mk k o v t n s g d a=>by rw [pcs,print,flat_pp,zoy a]
theorem zoy:∀ l,(pcsL l).map fl=prints l
 | []=>rfl
 | e :: r=>by
  rw [pcsL,prints,List.map_cons,zoy r,← zgW e]
  rfl
end
end Ex
