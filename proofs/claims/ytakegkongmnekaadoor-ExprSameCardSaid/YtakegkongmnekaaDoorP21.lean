/- Part of the proof: see the last text. -/
import Derived.Test.YtakegkongmnekaaDoorP0
import Derived.Test.YtakegkongmnekaaDoorP20
set_option maxRecDepth 20000
set_option linter.unusedVariables false
set_option linter.unusedSimpArgs false
namespace Ex
open Lx
abbrev S := List UInt8
abbrev V := Int × Int × S
inductive E where
 | mk (kind : Int) (op : S) (val : V) (table name : S) (slot : Int) (neg dist : Bool) (args : List E)
def E.kind : E → Int | .mk k _ _ _ _ _ _ _ _ => k
def E.op : E → S | .mk _ o _ _ _ _ _ _ _ => o
def E.val : E → V | .mk _ _ v _ _ _ _ _ _ => v
def E.table : E → S | .mk _ _ _ t _ _ _ _ _ => t
def E.name : E → S | .mk _ _ _ _ n _ _ _ _ => n
def E.slot : E → Int | .mk _ _ _ _ _ s _ _ _ => s
def E.neg : E → Bool | .mk _ _ _ _ _ _ b _ _ => b
def E.dist : E → Bool | .mk _ _ _ _ _ _ _ d _ => d
def E.args : E → List E | .mk _ _ _ _ _ _ _ _ a => a
def v0 : V := (0,0,[])
def e0 : E := .mk 0 [] v0 [] [] 0 false false []
def eVal (v : V) : E := .mk 1 [] v [] [] 0 false false []
def eCol (t n : S) : E := .mk 2 [] v0 t n 0 false false []
def eUn (op : S) (a : E) : E := .mk 3 op v0 [] [] 0 false false [a]
def eBin (op : S) (a b : E) : E := .mk 4 op v0 [] [] 0 false false [a,b]
def eIs (n : Bool) (a b : E) : E := .mk 5 [] v0 [] [] 0 n false [a,b]
def eIn (n : Bool) (l : List E) : E := .mk 6 [] v0 [] [] 0 n false l
def eBtw (n : Bool) (a b c : E) : E := .mk 7 [] v0 [] [] 0 n false [a,b,c]
def eLike (n : Bool) (a b : E) : E := .mk 8 [] v0 [] [] 0 n false [a,b]
def eCase (d : Bool) (l : List E) : E := .mk 9 [] v0 [] [] 0 false d l
def eFn (op : S) (l : List E) : E := .mk 10 op v0 [] [] 0 false false l
def eAgg (op : S) (d : Bool) (l : List E) : E := .mk 11 op v0 [] [] 0 false d l
def eCast (op : S) (a : E) : E := .mk 12 op v0 [] [] 0 false false [a]
def wNot : S := [110,111,116]
def wIs : S := [105,115]
def wIn : S := [105,110]
def zcP : S := [98,101,116,119,101,101,110]
def zjk : S := [108,105,107,101]
def wAnd : S := [97,110,100]
def wOr : S := [111,114]
def wNull : S := [110,117,108,108]
def wCase : S := [99,97,115,101]
def wCast : S := [99,97,115,116]
def zjj : S := [119,104,101,110]
def wThen : S := [116,104,101,110]
def wElse : S := [101,108,115,101]
def wEnd : S := [101,110,100]
def wAs : S := [97,115]
def zd3 : S := [100,105,115,116,105,110,99,116]
def zhK : S := [99,111,117,110,116]
def zdO : S := [40]
def zdw : S := [41]
def mComma : S := [44]
def mDot : S := [46]
def ziT : S := [42]
def zdD : S := [45]
def ziU : S := [43]
def cmps : List S := [[61],[60,62],[60],[60,61],[62],[62,61]]
def aggs : List S := [zhK,[115,117,109],[109,105,110],[109,97,120],[97,118,103],[116,111,116,97,108]]
def types : List S := [[105,110,116],[116,101,120,116],[98,108,111,98]]
def isT (L : List T) (p : Nat) (k : Int) (s : S) : Bool := match L[p]? with | some t => decide (t.kind = k) && t.text == s | none => false
def zcI (L : List T) (p : Nat) (k : Int) : List S → Option S
 | [] => none
 | s :: r => if isT L p k s then some s else zcI L p k r
inductive R where
 | ok (l : List E) (p : Nat)
 | stop (p : Nat)
inductive K where
 | lev (n : Nat)
 | chain (n : Nat) (e : E)
 | list (acc : List E)
 | whens (d : Bool) (acc : List E)
def ops : Nat → List S × Int
 | 0 => ([wOr],2)
 | 1 => ([wAnd],2)
 | 4 => ([ziU,zdD],4)
 | 5 => ([ziT,[47],[37]],4)
 | _ => ([[124,124]],4)
def need (L : List T) (k : Int) (s : S) (p : Nat) (f : Nat → Option R) : Option R := if isT L p k s then f (p + 1) else some (.stop p)
def zbD (r : Option R) (f : E → Nat → Option R) : Option R := match r with
 | some (.ok [e] q) => f e q
 | some (.ok _ _) => none
 | some (.stop q) => some (.stop q)
 | none => none
def zjv (r : Option R) (f : List E → Nat → Option R) : Option R := match r with
 | some (.ok l q) => f l q
 | some (.stop q) => some (.stop q)
 | none => none
def one (e : E) (p : Nat) : Option R := some (.ok [e] p)
def run (L : List T) : Nat → K → Nat → Option R
 | 0,_,_ => none
 | n + 1,.lev 2,p => if isT L p 2 wNot then zbD (run L n (.lev 2) (p + 1)) fun e q => one (eUn wNot e) q else run L n (.lev 3) p
 | n + 1,.lev 3,p => zbD (run L n (.lev 4) p) fun a q =>
   match zcI L q 4 cmps with
   | some op => zbD (run L n (.lev 4) (q + 1)) fun b r => one (eBin op a b) r
   | none =>
    if isT L q 2 wIs then
     (fun nt => zbD (run L n (.lev 4) (if nt then q + 2 else q + 1)) fun b r => one (eIs nt a b) r) (isT L (q + 1) 2 wNot)
    else
     (fun nt => (fun q2 =>
      if isT L q2 2 wIn then need L 4 zdO (q2 + 1) fun q3 => zjv (run L n (.list []) q3) fun l r => one (eIn nt (a :: l)) r
      else if isT L q2 2 zcP then zbD (run L n (.lev 4) (q2 + 1)) fun b r => need L 2 wAnd r fun r2 => zbD (run L n (.lev 4) r2) fun c r3 => one (eBtw nt a b c) r3
      else if isT L q2 2 zjk then zbD (run L n (.lev 4) (q2 + 1)) fun b r => one (eLike nt a b) r
      else one a q2) (if nt then q + 1 else q))
      (isT L q 2 wNot && (isT L (q + 1) 2 wIn || isT L (q + 1) 2 zcP || isT L (q + 1) 2 zjk))
 | n + 1,.lev 7,p =>
   match zcI L p 4 [zdD,ziU] with
   | none => run L n (.lev 8) p
   | some op =>
    match L[p + 1]? with
    | some t => if op == zdD && decide (t.kind = 3) && decide (t.val.1 = 1) then one (eVal (t.val.1, -t.val.2.1,t.val.2.2)) (p + 2) else zbD (run L n (.lev 7) (p + 1)) fun e q => one (eUn op e) q
    | none => zbD (run L n (.lev 7) (p + 1)) fun e q => one (eUn op e) q
 | n + 1,.lev 8,p =>
   match L[p]? with
   | none => some (.stop p)
   | some t =>
    if t.kind = 3 then one (eVal t.val) (p + 1)
    else if t.kind = 1 then
     if isT L (p + 1) 4 mDot then
      (match L[p + 2]? with
      | some u => if u.kind = 1 then one (eCol t.text u.text) (p + 3) else some (.stop (p + 2))
      | none => some (.stop (p + 2)))
     else if isT L (p + 1) 4 zdO then
      (if aggs.contains (fold t.text) then
       (if fold t.text == zhK && isT L (p + 2) 4 ziT then need L 4 zdw (p + 3) fun q => one (eAgg (fold t.text) false []) q
       else (fun d => zbD (run L n (.lev 0) (if d then p + 3 else p + 2)) fun e q => need L 4 zdw q fun r => one (eAgg (fold t.text) d [e]) r) (isT L (p + 2) 2 zd3))
      else if isT L (p + 2) 4 zdw then one (eFn (fold t.text) []) (p + 3)
      else zjv (run L n (.list []) (p + 2)) fun l q => one (eFn (fold t.text) l) q)
     else one (eCol [] t.text) (p + 1)
    else if isT L p 2 wNull then one (eVal v0) (p + 1)
    else if isT L p 2 wCase then
     (if isT L (p + 1) 2 zjj then run L n (.whens false []) (p + 1)
     else zbD (run L n (.lev 0) (p + 1)) fun e q => run L n (.whens true [e]) q)
    else if isT L p 2 wCast then
     need L 4 zdO (p + 1) fun q => zbD (run L n (.lev 0) q) fun e r => need L 2 wAs r fun r2 =>
      (match L[r2]? with
      | some u => if (decide (u.kind = 2) || decide (u.kind = 1)) && types.contains (fold u.text) then need L 4 zdw (r2 + 1) fun r3 => one (eCast (fold u.text) e) r3 else some (.stop r2)
      | none => some (.stop r2))
    else if isT L p 4 zdO then zbD (run L n (.lev 0) (p + 1)) fun e q => need L 4 zdw q fun r => one e r
    else some (.stop p)
 | n + 1,.lev k,p => zbD (run L n (.lev (k + 1)) p) fun e q => run L n (.chain k e) q
 | n + 1,.chain k e,p =>
   match zcI L p (ops k).2 (ops k).1 with
   | none => one e p
   | some op => zbD (run L n (.lev (k + 1)) (p + 1)) fun b q => run L n (.chain k (eBin op e b)) q
 | n + 1,.list acc,p => zbD (run L n (.lev 0) p) fun e q =>
   if isT L q 4 mComma then run L n (.list (acc ++ [e])) (q + 1) else need L 4 zdw q fun r => some (.ok (acc ++ [e]) r)
 | n + 1,.whens d acc,p => need L 2 zjj p fun p1 => zbD (run L n (.lev 0) p1) fun a q => need L 2 wThen q fun q1 => zbD (run L n (.lev 0) q1) fun b r =>
   if isT L r 2 zjj then run L n (.whens d (acc ++ [a,b])) r
   else if isT L r 2 wElse then zbD (run L n (.lev 0) (r + 1)) fun c r2 => need L 2 wEnd r2 fun r3 => one (eCase d (acc ++ [a,b,c])) r3
   else need L 2 wEnd r fun r3 => one (eCase d (acc ++ [a,b])) r3
end Ex
namespace Ex
open Lx
def Fw (N p : Nat) : Option R → Prop
 | none => True
 | some (.ok _ q) => p < q ∧ q ≤ N
 | some (.stop q) => q ≤ N
theorem then1_some {r : Option R} {f : E → Nat → Option R} {x : R} (h : zbD r f = some x) : (∃ e q,r = some (.ok [e] q) ∧ f e q = some x) ∨ ∃ q,r = some (.stop q) ∧ x = .stop q := by
 unfold zbD at h
 split at h
 ·exact .inl ⟨_,_,rfl,h⟩
 ·cases h
 ·cases h;exact .inr ⟨_,rfl,rfl⟩
 ·cases h
theorem thenL_some {r : Option R} {f : List E → Nat → Option R} {x : R} (h : zjv r f = some x) : (∃ e q,r = some (.ok e q) ∧ f e q = some x) ∨ ∃ q,r = some (.stop q) ∧ x = .stop q := by
 unfold zjv at h
 split at h
 ·exact .inl ⟨_,_,rfl,h⟩
 ·cases h;exact .inr ⟨_,rfl,rfl⟩
 ·cases h
theorem Fw.mono {N p p' : Nat} {r : Option R} (h : Fw N p' r) (hp : p ≤ p') : Fw N p r := by
 unfold Fw at *
 split
 ·trivial
 ·exact ⟨by simp at h;omega,by simp at h;omega⟩
 ·simpa using h
def FwC (N p : Nat) : Option R → Prop
 | none => True
 | some (.ok _ q) => p ≤ q ∧ q ≤ N
 | some (.stop q) => q ≤ N
theorem FwC.mono {N p p' : Nat} {r : Option R} (h : FwC N p' r) (hp : p ≤ p') : FwC N p r := by
 unfold FwC at *
 split
 ·trivial
 ·exact ⟨by simp at h;omega,by simp at h;omega⟩
 ·simpa using h
end Ex
namespace Ex
open Lx
def zcY : S → S
 | [] => []
 | c :: r => if c = 39 then 39 :: 39 :: zcY r else c :: zcY r
def valP (v : V) : S :=
 if v.1 = 0 then wNull else if v.1 = 1 then Ox.num v.2.1 else if v.1 = 2 then 39 :: (zcY v.2.2 ++ [39]) else if v.1 = 3 then [120,39] ++ Ox.hex v.2.2 ++ [39] else []
def zij (k : Int) : Bool := decide (3 ≤ k) && decide (k ≤ 8)
abbrev C := Int × Int × S
def inn (c : C) : S := if zij c.1 then 40 :: (c.2.2 ++ [41]) else c.2.2
def innU (c : C) : S := if zij c.1 || decide (c.1 = 1) && decide (c.2.1 = 1) then 40 :: (c.2.2 ++ [41]) else c.2.2
def kid (l : List C) (i : Nat) : C := (l[i]?).getD (0,0,[])
def notW (b : Bool) (w : S) : S := if b then [32,110,111,116,32] ++ w ++ [32] else 32 :: (w ++ [32])
def zit : List C → S
 | [] => []
 | [c] => c.2.2
 | c :: r => c.2.2 ++ [44,32] ++ zit r
def zjg : List C → S
 | [] => []
 | [c] => wElse ++ [32] ++ c.2.2 ++ [32]
 | c :: d :: r => zjj ++ [32] ++ c.2.2 ++ [32] ++ wThen ++ [32] ++ d.2.2 ++ [32] ++ zjg r
def caseP (d : Bool) (l : List C) : S :=
 wCase ++ [32] ++ (if d then (kid l 0).2.2 ++ [32] ++ zjg (l.drop 1) else zjg l) ++ wEnd
def pr (e : E) (l : List C) : S :=
 if e.kind = 1 then valP e.val
 else if e.kind = 2 then (if e.table = [] then e.name else e.table ++ [46] ++ e.name)
 else if e.kind = 3 then (if e.op = wNot then wNot ++ [32] ++ innU (kid l 0) else e.op ++ innU (kid l 0))
 else if e.kind = 4 then inn (kid l 0) ++ [32] ++ e.op ++ [32] ++ inn (kid l 1)
 else if e.kind = 5 then inn (kid l 0) ++ [32] ++ wIs ++ [32] ++ (if e.neg then wNot ++ [32] else []) ++ inn (kid l 1)
 else if e.kind = 6 then inn (kid l 0) ++ notW e.neg wIn ++ [40] ++ zit (l.drop 1) ++ [41]
 else if e.kind = 7 then inn (kid l 0) ++ notW e.neg zcP ++ inn (kid l 1) ++ [32] ++ wAnd ++ [32] ++ inn (kid l 2)
 else if e.kind = 8 then inn (kid l 0) ++ notW e.neg zjk ++ inn (kid l 1)
 else if e.kind = 9 then caseP e.dist l
 else if e.kind = 12 then wCast ++ [40] ++ (kid l 0).2.2 ++ [32] ++ wAs ++ [32] ++ e.op ++ [41]
 else if e.kind = 11 ∧ l = [] then e.op ++ [40,42,41]
 else if e.dist then e.op ++ [40] ++ zd3 ++ [32] ++ zit l ++ [41]
 else e.op ++ [40] ++ zit l ++ [41]
mutual
def print : E → S
 | .mk k o v t n s g d a => pr (.mk k o v t n s g d a) (prints a)
termination_by structural x => x
def prints : List E → List C
 | [] => []
 | e :: r => (e.kind,e.val.1,print e) :: prints r
termination_by structural x => x
end
mutual
def deep : E → Nat
 | .mk _ _ _ _ _ _ _ _ a => zkG a + 1
termination_by structural x => x
def zkG : List E → Nat
 | [] => 0
 | e :: r => max (deep e) (zkG r)
termination_by structural x => x
end
mutual
def count : E → Nat
 | .mk _ _ _ _ _ _ _ _ a => zgT a + 1
termination_by structural x => x
def zgT : List E → Nat
 | [] => 0
 | e :: r => count e + zgT r
termination_by structural x => x
end
def mayV (v : V) : Bool :=
 if v.1 = 0 then decide (v.2.1 = 0) && v.2.2 == [] else if v.1 = 1 then v.2.2 == [] else if v.1 = 2 ∨ v.1 = 3 then decide (v.2.1 = 0) && decide (v.2.2.length ≤ 4096) else false
def nmE (s : S) : Bool := nameOk s && !isW s
def uns : List S := [zdD,ziU,wNot]
def bins : List S := [[124,124],ziT,[47],[37],ziU,zdD,[61],[60,62],[60],[60,61],[62],[62,61],wAnd,wOr]
def lowI : Int := -9223372036854775808
def ownF (k : Int) (o : S) (v : V) (t m : S) (g d : Bool) (n : Nat) : Bool :=
 if k = 1 then o == [] && t == [] && m == [] && !g && !d && decide (n = 0) && mayV v && !(decide (v.1 = 1) && decide (v.2.1 = lowI))
 else if k = 2 then o == [] && v == v0 && !g && !d && decide (n = 0) && nmE m && (t == [] || nmE t)
 else if k = 3 then v == v0 && t == [] && m == [] && !g && !d && decide (n = 1) && uns.contains o
 else if k = 4 then v == v0 && t == [] && m == [] && !g && !d && decide (n = 2) && bins.contains o
 else if k = 5 then o == [] && v == v0 && t == [] && m == [] && !d && decide (n = 2)
 else if k = 6 then o == [] && v == v0 && t == [] && m == [] && !d && decide (2 ≤ n)
 else if k = 7 then o == [] && v == v0 && t == [] && m == [] && !d && decide (n = 3)
 else if k = 8 then o == [] && v == v0 && t == [] && m == [] && !d && decide (n = 2)
 else if k = 9 then o == [] && v == v0 && t == [] && m == [] && !g && decide (2 ≤ n) && (!d || decide (3 ≤ n))
 else if k = 10 then v == v0 && t == [] && m == [] && !g && !d && nmE o && fold o == o && !aggs.contains o
 else if k = 11 then v == v0 && t == [] && m == [] && !g && aggs.contains o && (decide (n = 1) || decide (n = 0) && o == zhK && !d)
 else if k = 12 then v == v0 && t == [] && m == [] && !g && !d && decide (n = 1) && types.contains o
 else false
def own (e : E) : Bool := ownF e.kind e.op e.val e.table e.name e.neg e.dist e.args.length
mutual
def right : E → Bool
 | .mk k o v t n s g d a => own (.mk k o v t n s g d a) && rights a
termination_by structural x => x
def rights : List E → Bool
 | [] => true
 | e :: r => right e && rights r
termination_by structural x => x
end
theorem ze5 : ∀ l,rights l = l.all right
 | [] => rfl
 | e :: r => by rw [rights,ze5 r];rfl
def N64 (e : E) : Prop := e.val.2.1 ≤ 9223372036854775807 ∧ -9223372036854775808 ≤ e.val.2.1
inductive RtN : E → Prop
 | mk {e : E} : N64 e → (∀ x ∈ e.args,RtN x) → RtN e
theorem RtN.n {e : E} (h : RtN e) : N64 e := by cases h;assumption
theorem RtN.a {e : E} (h : RtN e) : ∀ x ∈ e.args,RtN x := by cases h;assumption
inductive Rt : E → Prop
 | val (v : V) : mayV v = true → (v.1 = 1 → v.2.1 ≠ lowI) → (v.2.1 ≤ 9223372036854775807 ∧ -9223372036854775808 ≤ v.2.1) → Rt (eVal v)
 | col (t n : S) : nmE n = true → (t = [] ∨ nmE t = true) → Rt (eCol t n)
 | un (op : S) (a : E) : op ∈ uns → Rt a → Rt (eUn op a)
 | bin (op : S) (a b : E) : op ∈ bins → Rt a → Rt b → Rt (eBin op a b)
 | is (g : Bool) (a b : E) : Rt a → Rt b → Rt (eIs g a b)
 | in_ (g : Bool) (a : E) (l : List E) : l ≠ [] → Rt a → (∀ x ∈ l,Rt x) → Rt (eIn g (a :: l))
 | btw (g : Bool) (a b c : E) : Rt a → Rt b → Rt c → Rt (eBtw g a b c)
 | like (g : Bool) (a b : E) : Rt a → Rt b → Rt (eLike g a b)
 | case (d : Bool) (l : List E) : 2 ≤ l.length → (d = true → 3 ≤ l.length) → (∀ x ∈ l,Rt x) → Rt (eCase d l)
 | fn (op : S) (l : List E) : nmE op = true → fold op = op → aggs.contains op = false → (∀ x ∈ l,Rt x) → Rt (eFn op l)
 | agg (op : S) (d : Bool) (a : E) : aggs.contains op = true → Rt a → Rt (eAgg op d [a])
 | star : Rt (eAgg zhK false [])
 | cast (op : S) (a : E) : types.contains op = true → Rt a → Rt (eCast op a)
end Ex
namespace Ex
open Lx
theorem zeM (c : UInt8) (hc : c ≠ 39) : ∀ (k : Nat) (r : S),Go.Lib.replaceK [39] [39,39] k (c :: r) = c :: Go.Lib.replaceK [39] [39,39] k r
 | 0,r => rfl
 | k + 1,r => by
  have hg := Go.Lib.index_ge r [39]
  have hp : ([39] : List UInt8).isPrefixOf (c :: r) = false := by
   show ((39 : UInt8) == c && _) = false
   rw [beq_eq_false_iff_ne.2 (fun h => hc h.symm)];rfl
  have h1 : Go.Lib.index (c :: r) [39] = if Go.Lib.index r [39] == -1 then -1 else Go.Lib.index r [39] + 1 := by
   rw [Go.Lib.index,hp];rfl
  rw [Go.Lib.replaceK,Go.Lib.replaceK,h1]
  by_cases hm : Go.Lib.index r [39] = -1
  ·rw [hm];rfl
  ·obtain ⟨i,hi⟩ : ∃ i : Nat,Go.Lib.index r [39] = i := ⟨(Go.Lib.index r [39]).toNat,by omega⟩
   rw [hi,if_neg (by first | (simp;done) | (simp;omega)),if_neg (by first | (simp;done) | (simp;omega)),if_neg (by first | (simp;done) | (simp;omega))]
   have e1 : ((i : Int) + 1).toNat = i + 1 := by omega
   rw [e1,Int.toNat_natCast]
   simp [List.take_succ_cons,show i + 1 + 1 = (i + 1) + 1 from rfl]
theorem zbO : ∀ s : S,Go.Lib.replaceK [39] [39,39] (Go.Lib.count s [39]) s = zcY s
 | [] => rfl
 | c :: r => by
  rw [zcY]
  by_cases hc : c = 39
  ·subst hc
   have h0 : Go.Lib.index (39 :: r) [39] = (0 : Nat) := by
    rw [Go.Lib.index];rfl
   rw [if_pos rfl,Go.Lib.count_cons_eq,Nat.add_comm,Go.Lib.replaceK_hit _ _ _ _ 0 h0]
   show [] ++ [39,39] ++ Go.Lib.replaceK [39] [39,39] (Go.Lib.count r [39]) r = _
   rw [zbO r];rfl
  ·rw [if_neg hc,Go.Lib.count_cons_ne _ _ _ hc,zeM c hc,zbO r]
theorem ziN (s : S) : Go.Lib.replaceAll s [39] [39,39] = zcY s := by
 rw [Go.Lib.replaceAll,Go.Lib.replace,if_neg (by decide),Go.Lib.replaceNum,if_pos (by left;decide),zbO]
end Ex
namespace Ex
open Lx
theorem zek {l : List E} (h : ∀ x ∈ l,right x = true) : rights l = true := by
 rw [ze5]
 exact List.all_eq_true.2 h
theorem Rt.right {e : E} (h : Rt e) : right e = true := by
 induction h with
 | val v h1 h2 =>
  simp only [eVal,Ex.right,rights,own,ownF,E.kind,E.op,E.val,E.table,E.name,E.neg,E.dist,E.args]
  simp [h1]
  exact (Decidable.em (v.1 = 1)).elim (fun h => .inr (decide_eq_false (h2 h))) (fun h => .inl (decide_eq_false h))
 | col t n h1 h2 =>
  simp only [eCol,Ex.right,rights,own,ownF,E.kind,E.op,E.val,E.table,E.name,E.neg,E.dist,E.args]
  simp [h1]
  exact h2
 | un op a h1 _ ih => simp [eUn,Ex.right,rights,own,ownF,E.kind,E.op,E.val,E.table,E.name,E.neg,E.dist,E.args,ih,h1]
 | bin op a b h1 _ _ ih1 ih2 => simp [eBin,Ex.right,rights,own,ownF,E.kind,E.op,E.val,E.table,E.name,E.neg,E.dist,E.args,ih1,ih2,h1]
 | is g a b _ _ ih1 ih2 => simp [eIs,Ex.right,rights,own,ownF,E.kind,E.op,E.val,E.table,E.name,E.neg,E.dist,E.args,ih1,ih2]
 | in_ g a l h1 _ _ ih1 ih2 =>
  simp [eIn,Ex.right,rights,own,ownF,E.kind,E.op,E.val,E.table,E.name,E.neg,E.dist,E.args,ih1,zek ih2]
  exact List.length_pos_iff.2 h1
 | btw g a b c _ _ _ ih1 ih2 ih3 => simp [eBtw,Ex.right,rights,own,ownF,E.kind,E.op,E.val,E.table,E.name,E.neg,E.dist,E.args,ih1,ih2,ih3]
 | like g a b _ _ ih1 ih2 => simp [eLike,Ex.right,rights,own,ownF,E.kind,E.op,E.val,E.table,E.name,E.neg,E.dist,E.args,ih1,ih2]
 | case d l h1 h2 _ ih =>
  simp [eCase,Ex.right,rights,own,ownF,E.kind,E.op,E.val,E.table,E.name,E.neg,E.dist,E.args,zek ih,h1]
  cases d <;> simp_all
 | fn op l h1 h2 h3 _ ih =>
  have h3' : op ∉ aggs := by simpa using h3
  simp [eFn,Ex.right,rights,own,ownF,E.kind,E.op,E.val,E.table,E.name,E.neg,E.dist,E.args,zek ih,h1,h2,h3']
 | agg op d a h1 _ ih =>
  have h1' : op ∈ aggs := by simpa using h1
  simp [eAgg,Ex.right,rights,own,ownF,E.kind,E.op,E.val,E.table,E.name,E.neg,E.dist,E.args,ih,h1']
 | star => rfl
 | cast op a h1 _ ih =>
  have h1' : op ∈ types := by simpa using h1
  simp [eCast,Ex.right,rights,own,ownF,E.kind,E.op,E.val,E.table,E.name,E.neg,E.dist,E.args,ih,h1']
end Ex
namespace Ex
open Lx
abbrev Pc := Option T
def mk (s : S) : Pc := some ⟨4,s,v0⟩
def wd (s : S) : Pc := some ⟨2,s,v0⟩
def nmP (s : S) : Pc := some ⟨1,s,v0⟩
def bk : Pc := none
def opP (s : S) : Pc := if s = wAnd ∨ s = wOr ∨ s = wNot then wd s else mk s
def valPs (v : V) : List Pc :=
 if v.1 = 0 then [wd wNull] else if v.1 = 1 ∧ v.2.1 < 0 then [mk zdD,some ⟨3,Ox.num (-v.2.1),(1, -v.2.1,[])⟩] else [some ⟨3,valP v,v⟩]
def flat (l : List Pc) : S := l.flatMap fun p => match p with | none => [32] | some t => t.text
def toks (l : List Pc) : List T := l.filterMap id
abbrev D := Int × Int × List Pc
def innP (c : D) : List Pc := if zij c.1 then mk zdO :: (c.2.2 ++ [mk zdw]) else c.2.2
def innUP (c : D) : List Pc := if zij c.1 || decide (c.1 = 1) && decide (c.2.1 = 1) then mk zdO :: (c.2.2 ++ [mk zdw]) else c.2.2
def kidP (l : List D) (i : Nat) : D := (l[i]?).getD (0,0,[])
def notP (b : Bool) (w : S) : List Pc := if b then [bk,wd wNot,bk,wd w,bk] else [bk,wd w,bk]
def zga : List D → List Pc
 | [] => []
 | [c] => c.2.2
 | c :: r => c.2.2 ++ [mk mComma,bk] ++ zga r
def zjf : List D → List Pc
 | [] => []
 | [c] => [wd wElse,bk] ++ c.2.2 ++ [bk]
 | c :: d :: r => [wd zjj,bk] ++ c.2.2 ++ [bk,wd wThen,bk] ++ d.2.2 ++ [bk] ++ zjf r
def caseQ (d : Bool) (l : List D) : List Pc :=
 [wd wCase,bk] ++ (if d then (kidP l 0).2.2 ++ [bk] ++ zjf (l.drop 1) else zjf l) ++ [wd wEnd]
def pp (e : E) (l : List D) : List Pc :=
 if e.kind = 1 then valPs e.val
 else if e.kind = 2 then (if e.table = [] then [nmP e.name] else [nmP e.table,mk mDot,nmP e.name])
 else if e.kind = 3 then (if e.op = wNot then [wd wNot,bk] ++ innUP (kidP l 0) else [mk e.op] ++ innUP (kidP l 0))
 else if e.kind = 4 then innP (kidP l 0) ++ [bk,opP e.op,bk] ++ innP (kidP l 1)
 else if e.kind = 5 then innP (kidP l 0) ++ [bk,wd wIs,bk] ++ (if e.neg then [wd wNot,bk] else []) ++ innP (kidP l 1)
 else if e.kind = 6 then innP (kidP l 0) ++ notP e.neg wIn ++ [mk zdO] ++ zga (l.drop 1) ++ [mk zdw]
 else if e.kind = 7 then innP (kidP l 0) ++ notP e.neg zcP ++ innP (kidP l 1) ++ [bk,wd wAnd,bk] ++ innP (kidP l 2)
 else if e.kind = 8 then innP (kidP l 0) ++ notP e.neg zjk ++ innP (kidP l 1)
 else if e.kind = 9 then caseQ e.dist l
 else if e.kind = 12 then [wd wCast,mk zdO] ++ (kidP l 0).2.2 ++ [bk,wd wAs,bk,nmP e.op,mk zdw]
 else if e.kind = 11 ∧ l = [] then [nmP e.op,mk zdO,mk ziT,mk zdw]
 else if e.dist then [nmP e.op,mk zdO,wd zd3,bk] ++ zga l ++ [mk zdw]
 else [nmP e.op,mk zdO] ++ zga l ++ [mk zdw]
mutual
def pcs : E → List Pc
 | .mk k o v t n s g d a => pp (.mk k o v t n s g d a) (pcsL a)
termination_by structural x => x
def pcsL : List E → List D
 | [] => []
 | e :: r => (e.kind,e.val.1,pcs e) :: pcsL r
termination_by structural x => x
end
end Ex
