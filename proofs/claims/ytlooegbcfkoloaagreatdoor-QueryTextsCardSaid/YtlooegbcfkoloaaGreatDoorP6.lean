/- Part of the proof: see the last text. -/
import Derived.Test.YtlooegbcfkoloaaGreatDoorP0
import Derived.Test.YtlooegbcfkoloaaGreatDoorP3
import Derived.Test.YtlooegbcfkoloaaGreatDoorP4
import Derived.Test.YtlooegbcfkoloaaGreatDoorP5
set_option maxRecDepth 20000
set_option linter.unusedVariables false
set_option linter.unusedSimpArgs false
noncomputable section
namespace Vm
section
open Go Go.RowKit
mutual
def wf:V→Bool
 |.list l=>wfs l
 |.agg l=>wfs l
 |.tup l=>wfs l
 |.ip x _=>wf x
 |.iface _ x=>wf x
 |.ptr _ _|.row _ _|.fn _ _ _|.any|.ta _=>false
 |_=>true
termination_by structural x=>x
def wfs:List V→Bool
 |[]=>true
 |x::r=>wf x && wfs r
termination_by structural x=>x
end
inductive RS where
 |d (v:V)
 |p (id off:Nat)
def RS.v:RS→V|.d v=>v|.p i o=>.ptr i o
inductive RK where
 |d (v:V)
 |q (id k:Nat)
inductive R where
 |d (v:V)
 |p (id off:Nat)
 |q (id k:Nat)
 |i (x:V) (off:Nat)
 |f (g:FuncId) (a b:List RS)
 |sa (l:List RK)
 |un
 |u
def RK.r:RK→R|.d v=>.d v|.q i k=>.q i k
def RS.r:RS→R|.d v=>.d v|.p i o=>.p i o
inductive EN where
 |gone
 |blk (T:TypeId) (cs:List R)
 |rq (T z k:Nat) (v:V)
structure Y where
 e:Nat→R
 s:Nat→EN
 c:Nat
def updR(e:Nat→R)(d:Nat)(r:R):Nat→R:=fun i=>if i=d then r else e i
def updN(s:Nat→EN)(d:Nat)(r:EN):Nat→EN:=fun i=>if i=d then r else s i
def putR(e:Nat→R)(d:Option Nat)(r:R):Nat→R:=match d with|some d=>updR e d r|none=>e
def Y.put(y:Y)(d:Option Nat)(r:R):Y:=⟨putR y.e d r,y.s,y.c⟩
def Y.set(y:Y)(id:Nat)(n:EN):Y:=⟨y.e,updN y.s id n,y.c⟩
def Y.new(y:Y)(id:Nat)(T z:Nat)(v:V):Y:=⟨y.e,updN y.s id (.rq T z y.c v),y.c+1⟩
def conR:V→R
 |.fn f [] []=>.f f [] []
 |.ip x o=>if wf x=true then .i x o else .u
 |.undef=>.un
 |v=>if wf v=true then .d v else .u
def Y.er(y:Y):O→R
 |.t n=>y.e n
 |.c v=>conR v
def Y.datK(y:Y):List RK→Option (List V)
 |[]=>some []
 |.d v::l=>(match y.datK l with|some vs=>some (v::vs)|none=>none)
 |.q id k::l=>(match y.s id with|.rq _ _ k' v=>if k=k' then(match y.datK l with|some vs=>some (v::vs)|none=>none)else none|_=>none)
def Y.dat(y:Y):R→Option V
 |.sa l=>(match y.datK l with|some vs=>some (.agg vs)|none=>none)
 |.d v=>some v
 |.i x o=>some (.ip x o)
 |.q id k=>match y.s id with|.rq _ _ k' v=>if k=k' then some v else none|_=>none
 |_=>none
def Y.dats(y:Y):List R→Option (List V)
 |[]=>some []
 |r::l=>match y.dat r with|some v=>(match y.dats l with|some vs=>some (v::vs)|none=>none)|none=>none
def cell(v:V)(j:Nat):V:=v.cells.getD j .undef
def zqw(n:Nat)(v:V):List R:=(List.range n).map fun j=>.d (cell v j)
def zv0(n:Nat)(v:V):List V:=(List.range n).map fun j=>cell v j
variable{Z:Type}
def cnd(v:V)(A B:Option Z):Option Z:=match v with|.bool true=>A|.bool false=>B|_=>none
def ck1(v:V)(A:Option Z):Option Z:=if v.one=true then A else none
def ckA(n:Nat)(v:V)(A:Option Z):Option Z:=if v.isAgg=true∧v.size=n∧v.storable=true then A else none
def ckN(n:Nat)(v:V)(A:Option Z):Option Z:=match n with|1=>ck1 v A|n=>ckA n v A
def binV(op:BinOp)(b i s:Bool)(x y:V):Option V:=match x,y with
 |.int k a,.int k' c=>if k=k' then zfR op k a c else none
 |.str a,.str c=>strV op a c
 |.bool a,.bool c=>if b=true∧i=false then(match op with|.eql=>some (.bool (a==c))|.neq=>some (.bool (!(a==c)))|_=>none)else none
 |.nils,.nils=>if s=true∧i=false then(match op with|.eql=>some (.bool true)|.neq=>some (.bool false)|_=>none)else none
 |.iface _ _,.niface=>if i=true∧b=false then(match op with|.eql=>some (.bool false)|.neq=>some (.bool true)|_=>none)else none
 |.niface,.niface=>if(i=true∧b=false)∧s=true then(match op with|.eql=>some (.bool true)|.neq=>some (.bool false)|_=>none)else none
 |.agg xs,.agg ys=>if b=true∧i=true then(match op,eqVal xs ys with|.eql,some r=>some (.bool r)|.neq,some r=>some (.bool (!r))|_,_=>none)else none
 |_,_=>none
def convV(k:Option IntKind)(x:V):Option V:=match k,x with
 |some k,.int _ n=>some (.int k (k.wrap n))
 |none,.str s=>some (.str s)
 |_,_=>none
def slS(v:V)(lo hi:Option V):Option V:=match v with|.str s=>ziK s lo hi|_=>none
def slL(z:Nat)(v:V)(lo hi:Option V):Option V:=match norm0 v with|.list xs=>ziL z xs lo hi|_=>none
def ldV(ag:Bool)(n:Nat)(x:V)(off:Nat):Option V:=match ag with
 |true=>if off=0∧x.isAgg=true∧x.size=n then some x else if off+n≤x.size then some (.agg ((x.cells.drop off).take n))else none
 |false=>x.cells[off]?
def fldV(o n:Nat)(ag:Bool)(v:V):Option V:=match v with
 |.agg cs=>(match ag with|true=>if o+n≤cs.length then some (.agg ((cs.drop o).take n))else none|false=>cs[o]?)
 |_=>none
def elV(z:Nat)(v i:V):Option V:=match norm0 v,i with
 |.list xs,.int _ n=>match xs[n.toNat]? with
  |some y=>if 0≤n∧y.size=z then some y else none
  |none=>none
 |_,_=>none
def idxV(v i:V):Option V:=match v,i with
 |.str s,.int _ n=>match s[n.toNat]? with
  |some c=>if 0≤n then some (.int .u8 (c.toNat:Int))else none
  |none=>none
 |_,_=>none
def extV(v:V)(i:Nat):Option V:=match v with|.tup vs=>vs[i]?|_=>none
def tasW(z:Option V)(T:TypeId)(v:V):Option V:=match z with
 |some u=>if wf u=true then tasV (some u) T v else none
 |none=>tasV none T v
def lenS(v:V):Option V:=match v with|.str s=>some (.int .i64 (s.length:Int))|_=>none
def lenL(v:V):Option V:=match norm0 v with|.list xs=>some (.int .i64 (xs.length:Int))|_=>none
def ifcV(v:V):Option V:=match norm1 v with|.iface T u=>some (.iface T u)|_=>none
def appV(z b:Nat)(v ys:V):Option V:=match norm0 ys,v with
 |.list ys,.list xs=>if(∀y∈ys,y.size=z)∧(xs.length+ys.length)*(b+1)≤140737488355328 then some (.list (xs++ys))else none
 |.list ys,.nils=>if(∀y∈ys,y.size=z)∧ys.length*(b+1)≤140737488355328 then some (.list ys)else none
 |_,_=>none
def appL(z b:Nat)(v ys:V):Option V:=match v with|.list _=>appV z b v ys|_=>none
def appN(z b:Nat)(v ys:V):Option V:=match v with|.nils=>appV z b v ys|_=>none
abbrev Out:=POut×List Ent
abbrev Orc:=FuncId→List V→List Ent→Option Out
def cal(c:Orc)(g:FuncId)(args:List V)(ents:List Ent)(K:V→List Ent→Option Z)(Kp:V→List Ent→Option Z):Option Z:=match c g args ents with
 |some (.ret v,es)=>K v es
 |some (.panic v,es)=>Kp v es
 |none=>none
def cal0(c:Orc)(g:FuncId)(args:List V)(K:V→Option Z)(Kp:V→Option Z):Option Z:=cal c g args [] (fun v _=>K v) fun v _=>Kp v
def zad(e:Ent)(j:Nat):V:=match e with|.blk _ cs=>cs.getD j .undef|_=>.undef
def ckE(T n:Nat)(e:Ent)(A:Option Z):Option Z:=match e with|.blk T' cs=>if T'=T∧cs.length=n∧wfs cs=true then A else none|_=>none
def nth(l:List Ent)(j:Nat):Ent:=l.getD j .gone
def RS.ren(ids:List Nat):RS→Option V
 |.d v=>some v
 |.p i o=>if i∈ids then some (.ptr (ids.findIdx (· == i)) o)else none
def RS.rens(ids:List Nat):List RS→Option (List V)
 |[]=>some []
 |r::l=>match r.ren ids with|some v=>(match RS.rens ids l with|some vs=>some (v::vs)|none=>none)|none=>none
def RS.ids:List RS→List Nat
 |[]=>[]
 |.d _::l=>RS.ids l
 |.p i _::l=>i::RS.ids l
def addN(l:List Nat)(i:Nat):List Nat:=if i∈l then l else l++[i]
def idsOf:List R→List Nat→List Nat
 |[],a=>a
 |.p i _::l,a=>idsOf l (addN a i)
 |.f _ x z::l,a=>idsOf l ((RS.ids x++RS.ids z).foldl addN a)
 |_::l,a=>idsOf l a
def Y.arg(y:Y)(ids:List Nat):R→Option V
 |.p i o=>RS.ren ids (.p i o)
 |.f g a b=>match RS.rens ids a,RS.rens ids b with|some a,some b=>some (.fn g a b)|_,_=>none
 |r=>match y.dat r with|some v=>some (norm1 v)|none=>none
def Y.args(y:Y)(ids:List Nat):List R→Option (List V)
 |[]=>some []
 |r::l=>match y.arg ids r with|some v=>(match y.args ids l with|some vs=>some (v::vs)|none=>none)|none=>none
def plainC:List R→Option (List V)
 |[]=>some []
 |.d v::l=>(match plainC l with|some vs=>some (v::vs)|none=>none)
 |.i x o::l=>(match plainC l with|some vs=>some (.ip x o::vs)|none=>none)
 |_=>none
def Y.ent(y:Y)(id:Nat):Option Ent:=match y.s id with|.blk T cs=>(match plainC cs with|some vs=>some (.blk T vs)|none=>none)|_=>none
def Y.entL(y:Y):List Nat→Option (List Ent)
 |[]=>some []
 |i::l=>match y.ent i with|some e=>(match y.entL l with|some es=>some (e::es)|none=>none)|none=>none
def EN.tn:EN→Nat×Nat|.blk T cs=>(T,cs.length)|_=>(0,0)
def ztt(es:List Ent):List Nat→Nat→Y→(Y→Option Z)→Option Z
 |[],_,y,K=>K y
 |i::l,j,y,K=>ckE (y.s i).tn.1 (y.s i).tn.2 (nth es j) (ztt es l (j+1) (y.set i (.blk (y.s i).tn.1 ((List.range (y.s i).tn.2).map fun k=>.d (zad (nth es j) k)))) K)
def apt(y:Y)(av ids:List Nat):Bool:=av.all fun t=>match y.e t with|.p i _=>!ids.contains i|.u=>false|_=>true
def zqp(c:Orc)(b:Bool)(f:O)(args:List O)(av:List Nat)(y:Y)(K:V→Y→Option Z)(Kp:V→Y→Option Z):Option Z:=match y.er f with
 |.f g x z=>
  let rs:=x.map RS.r++args.map y.er++z.map RS.r;let ids:=idsOf rs []
  match y.args ids rs,y.entL ids with
  |some vs,some es0=>
   if apt y av ids=true∧(b=true→ids=[])then
    match ids with
    |[]=>cal0 c g vs (fun v=>K v y) (fun v=>Kp v y)
    |i::l=>cal c g vs es0 (fun v es=>ztt es (i::l) 0 y (K v)) (fun v es=>ztt es (i::l) 0 y (Kp v))
   else none
  |_,_=>none
 |_=>none
def Y.rs(y:Y):List O→Option (List RS)
 |[]=>some []
 |o::l=>match y.er o with
  |.d v=>(match y.rs l with|some r=>some (.d v::r)|none=>none)
  |.p i f=>(match y.rs l with|some r=>some (.p i f::r)|none=>none)
  |_=>none
def cndT(o:O)(y:Y)(A B:Y→Option Z):Option Z:=match o with
 |.t n=>(match y.e n with|.d v=>cnd v (A ⟨updR y.e n (.d (.bool true)),y.s,y.c⟩) (B ⟨updR y.e n (.d (.bool false)),y.s,y.c⟩)|_=>none)
 |.c v=>cnd v (A y) (B y)
def bldY(y:Y):List V→List (Nat×Nat×O)→(List V→Option Z)→Option Z
 |cs,[],K=>K cs
 |cs,(off,n,o)::r,K=>match y.dat (y.er o)with
  | some v=>(match n with
   |1=>ck1 v (if off+1≤cs.length then bldY y (cs.take off++[v]++cs.drop (off+1)) r K else none)
   |n=>ckA n v (if off+n≤cs.length then bldY y (cs.take off++zv0 n v++cs.drop (off+n)) r K else none))
  |none=>none
def zv1(n:Nat)(v:V):List RK:=(List.range n).map fun j=>.d (cell v j)
def bldK(y:Y):List RK→List (Nat×Nat×O)→(List RK→Option Z)→Option Z
 |cs,[],K=>K cs
 |cs,(off,n,o)::r,K=>match y.er o with
  |.q i k=>(match y.dat (.q i k)with|some _=>if n=1∧off+1≤cs.length then bldK y (cs.take off++[.q i k]++cs.drop (off+1)) r K else none|none=>none)
  | .d v=>(match n with
   |1=>ck1 v (if off+1≤cs.length then bldK y (cs.take off++[.d v]++cs.drop (off+1)) r K else none)
   |n=>ckA n v (if off+n≤cs.length then bldK y (cs.take off++zv1 n v++cs.drop (off+n)) r K else none))
  |_=>none
def sliY(y:Y)(z:Nat):List O→List V→(List V→Option Z)→Option Z
 |[],a,K=>K a
 |o::r,a,K=>match y.dat (y.er o)with|some v=>ckN z (norm1 v) (sliY y z r (a++[norm1 v]) K)|none=>none
def dO(y:Y):Option O→Option (Option V)
 |none=>some none
 |some o=>match y.er o with|.d v=>some (some v)|_=>none
def evM(P:Program)(c:Orc)(slot:Nat)(m:M)(av:List Nat)(y:Y)(K:R→Y→Option Z)(Kp:V→Y→Option Z):Option Z:=match m with
 |.move x=>K (y.er x) y
 |.pick o a b=>cndT o y (fun y=>K (y.er a) y) (fun y=>K (y.er b) y)
 |.alloc T cs=>(match y.s slot with|.gone=>if wfs cs=true then K (.p slot 0) (y.set slot (.blk T (cs.map .d)))else none|_=>none)
 | .box T x=>(match y.s slot with
  | .gone=>(match y.er x with
   | .d v=>(match zhe P T with
    |some (true,n)=>ckA n v (K (.p slot 0) (y.set slot (.blk T (zqw n v))))
    |some (false,_)=>ck1 v (K (.p slot 0) (y.set slot (.blk T [.d v])))
    |none=>none)
   |.un=>none
   |.u=>none
   |.sa l=>K (.p slot 0) (y.set slot (.blk T (l.map RK.r)))
   |.q id k=>(match y.dat (.q id k)with|some _=>K (.p slot 0) (y.set slot (.blk T [.q id k]))|none=>none)
   |r=>K (.p slot 0) (y.set slot (.blk T [r])))
  |_=>none)
 |.build cs ps=>if slot<1000 then(if wfs cs=true then bldY y cs ps fun r=>K (.d (.agg r)) y else none)else if wfs cs=true∧cs.all V.one=true then bldK y (cs.map .d) ps fun r=>K (.sa r) y else none
 | .bslice el z xs=>(match y.s slot with
  |.gone=>if xs.length*z≤16777216 then sliY y z xs [] fun r=>K (.q slot y.c) (y.new slot el z (.list r))else none
  |_=>none)
 | .load ag n a=>(match y.er a with
  | .p id off=>(match y.s id with
   | .blk _ cs=>(match ag with
    |true=>if((cs.drop off).take n).length=n then(match y.dats ((cs.drop off).take n)with|some vs=>K (.d (.agg vs)) y|none=>none)else none
    |false=>(match cs[off]? with|some r=>K r y|none=>none))
   |_=>none)
  |.i x off=>(ldV ag n x off).bind fun v=>K (.d v) y
  |_=>none)
 | .store n a x=>(match y.er a with
  | .p id off=>if apt y av [id]=true then (match y.s id with
   | .blk T cs=>if off+stN n≤cs.length then (match y.er x with
    | .d v=>(match n with
     |1=>ck1 v (K .un (y.set id (.blk T (cs.take off++[.d v]++cs.drop (off+1)))))
     |n=>ckA (stN n) v (K .un (y.set id (.blk T (cs.take off++zqw (stN n) v++cs.drop (off+stN n))))))
    |.un=>none
    |.u=>none
    |.sa l=>if l.length=stN n then K .un (y.set id (.blk T (cs.take off++l.map RK.r++cs.drop (off+stN n))))else none
    |.q i k=>(match y.dat (.q i k)with|some _=>if n=1 then K .un (y.set id (.blk T (cs.take off++[.q i k]++cs.drop (off+1))))else none|none=>none)
    |r=>if n=1 then K .un (y.set id (.blk T (cs.take off++[r]++cs.drop (off+1))))else none)else none
   |_=>none)else none
  |_=>none)
 | .chk x=>(match y.er x with
  |.p i o=>K (.p i o) y
  |.i v o=>K (.i v o) y
  |.f g a b=>K (.f g a b) y
  |_=>none)
 |.arith op b i s x w=>(match y.er x,y.er w with|.d u,.d v=>(binV op b i s u v).bind fun r=>K (.d r) y|_,_=>none)
 |.un op x=>(match y.er x with|.d v=>(zgj op v).bind fun r=>K (.d r) y|_=>none)
 |.conv k x=>(match y.er x with|.d v=>(convV k v).bind fun r=>K (.d r) y|_=>none)
 |.iface T x=>(match y.dat (y.er x)with|some v=>K (.d (.iface T (norm1 v))) y|none=>none)
 |.fn f a b=>(match y.rs a,y.rs b with|some a,some b=>K (.f f a b) y|_,_=>none)
 |.sls x lo hi=>(match y.er x,dO y lo,dO y hi with|.d v,some l,some h=>(slS v l h).bind fun r=>K (.d r) y|_,_,_=>none)
 |.sll z x lo hi=>(match y.dat (y.er x),dO y lo,dO y hi with|some v,some l,some h=>(slL z v l h).bind fun r=>K (.d r) y|_,_,_=>none)
 |.faddr o x=>(match y.er x with|.p id off=>K (.p id (off+o)) y|.i v off=>K (.i v (off+o)) y|_=>none)
 |.field o n ag x=>(match y.er x with|.d v=>(fldV o n ag v).bind fun r=>K (.d r) y|_=>none)
 |.iaddr z x i=>(match y.dat (y.er x),y.er i with|some v,.d w=>(elV z v w).bind fun r=>K (.i r 0) y|_,_=>none)
 |.idx x i=>(match y.er x,y.er i with|.d v,.d w=>(idxV v w).bind fun r=>K (.d r) y|_,_=>none)
 |.tas z T x=>(match y.er x with|.d v=>(tasW z T v).bind fun r=>K (.d r) y|_=>none)
 |.ext x i=>(match y.er x with|.d v=>(extV v i).bind fun r=>K (.d r) y|_=>none)
 |.lens x=>(match y.er x with|.d v=>(lenS v).bind fun r=>K (.d r) y|_=>none)
 |.lenl x=>(match y.dat (y.er x)with|some v=>(lenL v).bind fun r=>K (.d r) y|none=>none)
 | .app el z b s x=>(match y.dat (y.er x),y.er s with
  | some ys,.q id k=>(match y.s id with
   |.rq T z' k' v=>if T=el∧z'=z∧k=k' then(if slot=id then(appV z b v ys).bind fun r=>K (.q id y.c) (y.new id T z r)else(appL z b v ys).bind fun r=>K (.q id y.c) (y.new id T z r))else none
   |_=>none)
  | some ys,.d v=>(match y.s slot with
   |.gone=>(appN z b v ys).bind fun r=>K (.q slot y.c) (y.new slot el z r)
   |_=>none)
  |_,_=>none)
 |.mm b x w=>(match y.er x,y.er w with|.d u,.d v=>(zkB b u v).bind fun r=>K (.d r) y|_,_=>none)
 |.call b f args=>zqp c b f args av y (fun v y=>K (.d v) y) Kp
 |.pan x=>(match y.dat (y.er x)with|some v=>(ifcV v).bind fun r=>Kp r y|none=>none)
def evS(P:Program)(c:Orc)(mo:MO)(y:Y)(K:Y→Option Z)(Kp:V→Y→Option Z):Option Z:=match mo.guard with
 |none=>evM P c mo.slot mo.m mo.av y (fun r y=>K (y.put mo.dst r)) Kp
 |some (t,w)=>match y.e t with
  |.un=>K (y.put mo.dst .un)
  | .d g=>(match w with
   |true=>cnd g (evM P c mo.slot mo.m mo.av ⟨updR y.e t (.d (.bool true)),y.s,y.c⟩ (fun r y=>K (y.put mo.dst r)) Kp) (K (Y.put ⟨updR y.e t (.d (.bool false)),y.s,y.c⟩ mo.dst .un))
   |false=>cnd g (K (Y.put ⟨updR y.e t (.d (.bool true)),y.s,y.c⟩ mo.dst .un)) (evM P c mo.slot mo.m mo.av ⟨updR y.e t (.d (.bool false)),y.s,y.c⟩ (fun r y=>K (y.put mo.dst r)) Kp))
  |_=>none
def agr(eq:Z→Z→Bool)(A B:Option Z):Option Z:=match A,B with|some a,some b=>if eq a b=true then some a else none|_,_=>none
def evR(P:Program)(c:Orc)(eq:Z→Z→Bool):RT→Y→(Y→Option Z)→(V→Y→Option Z)→Option Z
 |.done,y,K,_=>K y
 |.step mo t,y,K,Kp=>evS P c mo y (fun y=>evR P c eq t y K Kp) Kp
 |.alt a b,y,K,Kp=>agr eq (evR P c eq a y K Kp) (evR P c eq b y K Kp)
 |.bad,_,_,_=>none
end
section
open Go Go.RowKit
inductive Cls where
 |d
 |q (id:Nat)
 |c (r:R)
 |f (a b:List RS)
inductive ECl where
 |blk (id T:Nat) (cs:List Cls)
 |bv (id T n:Nat)
 |rq (id T z:Nat)
structure LA where
 fz:Bool
 ts:List (Nat×Cls)
 es:List ECl
def RS.same:RS→RS→Bool
 |.p a1 o1,.p a2 o2=>a1==a2 && o1==o2
 |_,_=>false
def RS.sames:List RS→List RS→Bool
 |[],[]=>true
 |a::l,b::m=>a.same b && RS.sames l m
 |_,_=>false
def R.same:R→R→Bool
 |.p a1 o1,.p a2 o2=>a1==a2 && o1==o2
 |.f g1 a1 b1,.f g2 a2 b2=>g1==g2 && RS.sames a1 a2 && RS.sames b1 b2
 |.un,.un=>true
 |_,_=>false
def Y.isQ(y:Y)(id:Nat):R→Bool
 |.q j k=>j==id && (match y.s id with|.rq _ _ k' _=>k==k'|_=>false)
 |.d .nils=>match y.s id with|.gone=>true|_=>false
 |_=>false
def Y.pk(y:Y)(fz:Bool)(r:R):Cls→List V→Option (List V)
 |.d,l=>match r,fz with
  |.d v,_=>some (v::l)
  |.i x o,_=>some (.ip x o::l)
  |.q i k,true=>(match y.dat (.q i k)with|some v=>some (v::l)|none=>none)
  |_,_=>none
 |.q id,l=>if fz=false∧y.isQ id r=true then some l else none
 |.c r',l=>if r.same r'=true then some l else none
 |.f a b,l=>match r with|.f g a' b'=>if RS.sames a' a=true∧RS.sames b' b=true then some (.fn g [] []::l)else none|_=>none
def Y.pkT(y:Y)(fz:Bool):List (Nat×Cls)→List V→Option (List V)
 |[],l=>some l
 |(t,k)::r,l=>match y.pkT fz r l with|some l=>y.pk fz (y.e t) k l|none=>none
def Y.pkC(y:Y)(fz:Bool):List R→List Cls→List V→Option (List V)
 |[],[],l=>some l
 |r::rs,k::ks,l=>(match y.pkC fz rs ks l with|some l=>y.pk fz r k l|none=>none)
 |_,_,_=>none
def Y.pkE(y:Y)(fz:Bool):List ECl→List V→Option (List V)
 |[],l=>some l
 | .blk id T ks :: r,l=>(match y.pkE fz r l with
  |some l=>(match y.s id with|.blk T' cs=>if T'=T then y.pkC fz cs ks l else none|_=>none)
  |none=>none)
 | .bv id T n :: r,l=>(match y.pkE fz r l with
  | some l=>(match y.s id with
   |.blk T' cs=>if T'=T∧cs.length=n then(match(match fz with|true=>y.dats cs|false=>plainC cs)with|some vs=>some (.agg vs::l)|none=>none)else none
   |_=>none)
  |none=>none)
 | .rq id T z :: r,l=>(match y.pkE fz r l with
  |some l=>(match y.s id with|.gone=>some (.nils::l)|.rq T' z' _ v=>if T'=T∧z'=z then some (v::l)else none|_=>none)
  |none=>none)
def Y.pack(y:Y)(A:LA):Option (List V):=match y.pkE A.fz A.es []with|some l=>y.pkT A.fz A.ts l|none=>none
def gt(l:List V)(j:Nat):V:=l.getD j .any
def fnG(v:V):FuncId:=match v with|.fn g _ _=>g|_=>0
def Cls.un(k:Cls)(l:List V)(j:Nat):R×Nat:=match k with
 |.d=>(.d (gt l j),j+1)
 |.q id=>(.q id 0,j)
 |.c r=>(r,j)
 |.f a b=>(.f (fnG (gt l j)) a b,j+1)
def unT(l:List V):List (Nat×Cls)→Nat→List (Nat×R)×Nat
 |[],j=>([],j)
 |(t,k)::r,j=>let a:=k.un l j;let b:=unT l r a.2;((t,a.1)::b.1,b.2)
def unC(l:List V):List Cls→Nat→List R×Nat
 |[],j=>([],j)
 |k::r,j=>let a:=k.un l j;let b:=unC l r a.2;(a.1::b.1,b.2)
def unE(l:List V):List ECl→Nat→List (Nat×EN)
 |[],_=>[]
 |.blk id T ks::r,j=>let a:=unC l ks j;(id,.blk T a.1)::unE l r a.2
 |.bv id T n::r,j=>(id,.blk T (zqw n (gt l j)))::unE l r (j+1)
 |.rq id T z::r,j=>(id,.rq T z 0 (gt l j))::unE l r (j+1)
def lkR(t:Nat):List (Nat×R)→R
 |[]=>.u
 |(i,v)::r=>if t=i then v else lkR t r
def lkN(t:Nat):List (Nat×EN)→EN
 |[]=>.gone
 |(i,v)::r=>if t=i then v else lkN t r
def unpk(A:LA)(l:List V):Y:=let a:=unT l A.ts 0;⟨fun t=>lkR t a.1,fun id=>lkN id (unE l A.es a.2),1⟩
inductive Stp(Z:Type) where
 |next (l:List V)
 |out (z:Z)
def om{Z:Type}(o:Option Z):Option (Stp Z):=match o with|some z=>some (.out z)|none=>none
abbrev Lup:=(Z:Type)→(List V→Option (Stp Z))→List V→Option Z
def C.nl:C→Nat
 |.seq a b=>a.nl+b.nl
 |.cond _ a b=>a.nl+b.nl
 |.block _ b=>b.nl
 |.loop b=>b.nl+1
 |.scope b=>b.nl
 |_=>0
mutual
def veq:V→V→Bool
 |.bool a,.bool b=>a==b
 |.int k a,.int k' b=>decide (k=k') && a==b
 |.str a,.str b=>a==b
 |.list a,.list b=>veqs a b
 |.agg a,.agg b=>veqs a b
 |.tup a,.tup b=>veqs a b
 |.nils,.nils=>true
 |.nilp,.nilp=>true
 |.niface,.niface=>true
 |.iface T a,.iface T' b=>T==T' && veq a b
 |.ip a o,.ip b q=>veq a b && o==q
 |.undef,.undef=>true
 |_,_=>false
termination_by structural x=>x
def veqs:List V→List V→Bool
 |[],[]=>true
 |a::l,b::m=>veq a b && veqs l m
 |_,_=>false
termination_by structural x=>x
end
def eqS{Z:Type}(eq:Z→Z→Bool):Stp Z→Stp Z→Bool
 |.out a,.out b=>eq a b
 |.next a,.next b=>veqs a b
 |_,_=>false
def RS.inn(l:List Nat):List RS→Bool
 |[]=>true
 |.d _::r=>RS.inn l r
 |.p a _::r=>l.contains a && RS.inn l r
def Cls.ok(l:List Nat):Cls→Bool
 |.d=>true
 |.q a=>l.contains a
 |.c (.p a _)=>l.contains a
 |.c (.f _ a b)=>RS.inn l a && RS.inn l b
 |.c .un=>true
 |.f a b=>RS.inn l a && RS.inn l b
 |_=>false
def ECl.id:ECl→Nat|.blk a _ _=>a|.bv a _ _=>a|.rq a _ _=>a
def ECl.ok(l:List Nat):ECl→Bool|.blk _ _ ks=>ks.all (Cls.ok l)|_=>true
def LA.ok(n:Nat)(A:LA):Bool:=(List.range n).all ((A.es.map ECl.id).contains ·) && (A.ts.all fun p=>p.2.ok (A.es.map ECl.id)) && A.es.all (ECl.ok (A.es.map ECl.id))
def evC(P:Program)(c:Orc)(lp:Lup)(n:Nat)(A:List LA):C→Nat→(Z:Type)→(Z→Z→Bool)→Y→(PEx→Y→Option Z)→(V→Y→Option Z)→Option Z
 |.skip,_,_,_,y,K,_=>K .normal y
 |.reg t,_,_,eq,y,K,Kp=>evR P c eq t y (K .normal) Kp
 |.seq a b,o,Z,eq,y,K,Kp=>evC P c lp n A a o Z eq y (fun e y=>match e with|.normal=>evC P c lp n A b (o+a.nl) Z eq y K Kp|.exit i=>K (.exit i) y|.ret=>K .ret y) Kp
 |.cond t a b,o,Z,eq,y,K,Kp=>cndT t y (fun y=>evC P c lp n A a o Z eq y K Kp) (fun y=>evC P c lp n A b (o+a.nl) Z eq y K Kp)
 |.block id b,o,Z,eq,y,K,Kp=>evC P c lp n A b o Z eq y (fun e y=>match e with|.normal=>K .normal y|.exit i=>if i=id then K .normal y else K (.exit i) y|.ret=>K .ret y) Kp
 |.loop b,o,Z,eq,y,K,Kp=>match A[o]? with
  | some a=>if a.ok n=true then (match y.pack a with
   |some l=>lp Z (fun l=>evC P c lp n A b (o+1) (Stp Z) (eqS eq) (unpk a l) (fun e y=>match e with|.normal=>(match y.pack a with|some l=>some (.next l)|none=>none)|.exit i=>om (K (.exit i) y)|.ret=>om (K .ret y)) (fun v y=>om (Kp v y))) l
   |none=>none)else none
  |none=>none
 |.exit id,_,_,_,y,K,_=>K (.exit id) y
 |.scope b,o,Z,eq,y,K,Kp=>evC P c lp n A b o Z eq y K Kp
 |.ret,_,_,_,y,K,_=>K .ret y
def Y.rv(y:Y):RV→Option V
 |.tmp t=>match y.dat (y.e t)with|some v=>some (norm1 v)|none=>none
 |.cell t ag n=>match y.e t with
  | .p id off=>(match y.s id with
   | .blk _ cs=>(match ag with
    |true=>if((cs.drop off).take n).length=n then(match y.dats ((cs.drop off).take n)with|some vs=>some (norm1 (.agg vs))|none=>none)else none
    |false=>(match cs[off]? with|some r=>(match y.dat r with|some v=>some (norm1 v)|none=>none)|none=>none))
   |_=>none)
  |.i x off=>(match ldV ag n x off with|some v=>some (norm1 v)|none=>none)
  |_=>none
def Y.rvs(y:Y):List RV→Option (List V)
 |[]=>some []
 |r::l=>match y.rv r with|some v=>(match y.rvs l with|some vs=>some (v::vs)|none=>none)|none=>none
def Y.outs(y:Y)(l:List RV):Option V:=match l with
 |[r]=>y.rv r
 |l=>match y.rvs l with|some vs=>some (.tup vs)|none=>none
def finK(n:Nat)(l:List RV):PEx→Y→Option Out
 |.exit _,_=>none
 |_,y=>match y.outs l,y.entL (List.range n)with|some v,some es=>some (.ret v,es)|_,_=>none
def finP(n:Nat)(v:V)(y:Y):Option Out:=match y.entL (List.range n)with|some es=>some (.panic v,es)|none=>none
def entN:Ent→EN|.blk T cs=>.blk T (cs.map .d)|_=>.gone
def strY(args:List R)(ents:List Ent):Y:=⟨fun t=>args.getD t .u,fun id=>entN (ents.getD id .gone),0⟩
def argS:V→RS|.ptr i o=>.p i o|v=>.d v
def argR(v:V):R:=match v with|.ptr i o=>.p i o|.fn f a b=>.f f (a.map argS) (b.map argS)|v=>.d v
def eeq:Ent→Ent→Bool
 |.blk T a,.blk T' b=>T==T' && veqs a b
 |_,_=>false
def eeqs:List Ent→List Ent→Bool
 |[],[]=>true
 |a::l,b::m=>eeq a b && eeqs l m
 |_,_=>false
def oeq:Out→Out→Bool
 |(.ret a,l),(.ret b,m)=>veq a b && eeqs l m
 |(.panic a,l),(.panic b,m)=>veq a b && eeqs l m
 |_,_=>false
def evF(P:Program)(G:Nat→V)(c:Orc)(lp:Lup)(σ:List (Nat×Nat))(s:Nat)(A:List LA)(f:FuncId)(args:List R)(ents:List Ent):Option Out:=match compF P G σ s f with
 |some F=>if(ents.length≤s∧(σ.all fun p=>decide (ents.length≤p.2))=true)∧args.length≤F.N then evC P c lp ents.length A F.code 0 Out oeq (strY args ents) (finK ents.length F.res) (finP ents.length)else none
 |none=>none
end
section
open Go Go.RowKit
def rowV(i:Nat):V→V|.list xs=>.row i xs.length|_=>.nils
def RS.ok:RS→Prop|.d v=>wf v=true|.p _ _=>True
def RelK(s:Nat→EN)(c:Nat):RK→V→Prop
 |.d v,u=>u=v∧wf v=true∧v.one=true
 |.q i k,u=>k<c∧(∃w,u=rowV i w)∧∀T z v,s i=.rq T z k v→u=rowV i v
inductive RelKs(s:Nat→EN)(c:Nat):List RK→List V→Prop
 |nil:RelKs s c [] []
 |cons {r:RK} {l:List RK} {v:V} {vs:List V}:RelK s c r v→RelKs s c l vs→RelKs s c (r::l) (v::vs)
def RelR(s:Nat→EN)(c:Nat):R→V→Prop
 |.d v,u=>u=v∧wf v=true
 |.p i o,u=>u=.ptr i o
 |.q i k,u=>k<c∧(∃w,u=rowV i w)∧∀T z v,s i=.rq T z k v→u=rowV i v
 |.i x o,u=>u=.ip x o∧wf x=true
 |.f g a b,u=>u=.fn g (a.map RS.v) (b.map RS.v)∧(∀r∈a,r.ok)∧∀r∈b,r.ok
 |.sa l,u=>∃us,u=.ta us∧RelKs s c l us
 |.un,u=>u=.undef
 |.u,_=>True
inductive RelRs(s:Nat→EN)(c:Nat):List R→List V→Prop
 |nil:RelRs s c [] []
 |cons {r:R} {l:List R} {v:V} {vs:List V}:RelR s c r v→RelRs s c l vs→RelRs s c (r::l) (v::vs)
def RelE(s:Nat→EN)(c:Nat):EN→Ent→Prop
 |.gone,e=>e=.gone
 |.blk T cs,e=>∃us,e=.blk T us∧RelRs s c cs us
 |.rq T z k v,e=>k<c∧((∃xs,v=.list xs∧wfs xs=true∧e=.row T z xs)∨(v=.nils∧e=.gone))
abbrev RelS(st:Nat→Ent)(y:Y):Prop:=∀id,RelE y.s y.c (y.s id) (st id)
structure Rel(x:X)(y:Y):Prop where
 e:∀t,RelR y.s y.c (y.e t) (x.env t)
 s:RelS x.st y
structure Le(s:Nat→EN)(c:Nat)(s':Nat→EN)(c':Nat):Prop where
 le:c≤c'
 q:∀i T z k v,k<c→s' i=.rq T z k v→s i=.rq T z k v
theorem Le.refl(s:Nat→EN)(c:Nat):Le s c s c:=⟨qa57 _,fun _ _ _ _ _ _ h=>h⟩
theorem RelK.le{s s':Nat→EN}{c c':Nat}(l:Le s c s' c'){r:RK}{v:V}(h:RelK s c r v):RelK s' c' r v:=by
 cases r with
 |q i k=>exact⟨qa23 h.1 l.le,h.2.1,fun T z v hs=>h.2.2 T z v (l.q _ _ _ _ _ h.1 hs)⟩
 |_=>exact h
theorem RelKs.le{s s':Nat→EN}{c c':Nat}(l:Le s c s' c'){r:List RK}{v:List V}(h:RelKs s c r v):RelKs s' c' r v:=by
 induction h with
 |nil=>exact .nil
 |cons h1 _ ih=>exact .cons (h1.le l) ih
theorem RelR.le{s s':Nat→EN}{c c':Nat}(l:Le s c s' c'){r:R}{v:V}(h:RelR s c r v):RelR s' c' r v:=by
 cases r with
 |q i k=>exact⟨qa23 h.1 l.le,h.2.1,fun T z v hs=>h.2.2 T z v (l.q _ _ _ _ _ h.1 hs)⟩
 |sa ks=>obtain⟨us,h1,h2⟩:=h;exact⟨us,h1,h2.le l⟩
 |_=>exact h
theorem RelRs.le{s s':Nat→EN}{c c':Nat}(l:Le s c s' c'){r:List R}{v:List V}(h:RelRs s c r v):RelRs s' c' r v:=by
 induction h with
 |nil=>exact .nil
 |cons h1 _ ih=>exact .cons (h1.le l) ih
theorem RelE.le{s s':Nat→EN}{c c':Nat}(l:Le s c s' c'){r:EN}{e:Ent}(h:RelE s c r e):RelE s' c' r e:=by
 cases r with
 |gone=>exact h
 |blk T cs=>obtain⟨us,h1,h2⟩:=h;exact⟨us,h1,h2.le l⟩
 |rq T z k v=>exact⟨qa23 h.1 l.le,h.2⟩
theorem RelRs.length{s:Nat→EN}{c:Nat}{r:List R}{v:List V}(h:RelRs s c r v):r.length=v.length:=by
 induction h with
 |nil=>rfl
 |cons _ _ ih=>simp[ih]
theorem RelRs.get{s:Nat→EN}{c:Nat}{r:List R}{v:List V}(h:RelRs s c r v):∀{i:Nat} {a:R},r[i]?=some a→∃u,v[i]?=some u∧RelR s c a u:=by
 induction h with
 |nil=>intro i a h;simp at h
 |cons h1 _ ih=>
  intro i a h;cases i with
  |zero=>simp at h;subst h;exact⟨_,rfl,h1⟩
  |succ i=>simpa using ih (by simpa using h)
theorem RelRs.take{s:Nat→EN}{c:Nat}{r:List R}{v:List V}(h:RelRs s c r v):∀n,RelRs s c (r.take n) (v.take n):=by
 induction h with
 |nil=>intro n;simpa using .nil
 |cons h1 _ ih=>
  intro n;cases n with
  |zero=>exact .nil
  |succ n=>exact .cons h1 (ih n)
theorem RelRs.drop{s:Nat→EN}{c:Nat}{r:List R}{v:List V}(h:RelRs s c r v):∀n,RelRs s c (r.drop n) (v.drop n):=by
 induction h with
 |nil=>intro n;simpa using .nil
 |cons h1 h2 ih=>
  intro n;cases n with
  |zero=>exact .cons h1 h2
  |succ n=>exact ih n
theorem RelRs.append{s:Nat→EN}{c:Nat}{r r':List R}{v v':List V}(h:RelRs s c r v)(h':RelRs s c r' v'):RelRs s c (r++r') (v++v'):=by
 induction h with
 |nil=>exact h'
 |cons h1 _ ih=>exact .cons h1 ih
theorem zbf:∀{l:List V},wfs l=true↔∀v∈l,wf v=true
 |[]=>by simp[wfs]
 |x::r=>by simp[wfs,zbf (l:=r)]
theorem ziA{a b:List V}:wfs (a++b)=true↔wfs a=true∧wfs b=true:=by
 simp only[zbf,qa47];exact⟨fun h=>⟨fun v hv=>h v (.inl hv),fun v hv=>h v (.inr hv)⟩,fun h v hv=>hv.elim (h.1 v) (h.2 v)⟩
theorem wf_cells{v:V}(h:wf v=true):wfs v.cells=true:=by
 cases v<;>simp_all [V.cells,wf,wfs]
theorem zfV{v:V}(h:wf v=true):v.data=true:=by cases v<;>simp_all [wf,V.data]
theorem wf_res{v:V}(st:Nat→Ent)(h:wf v=true):res st v=v:=by cases v<;>simp_all [wf,res]
theorem wf_norm0{v:V}(h:wf v=true):wf (norm0 v)=true:=by cases v<;>simp_all [wf,norm0,wfs]
theorem zw5{l:List V}(h:wfs l=true):wfs (l.map norm0)=true:=by
 rw[zbf]at *;intro v hv;obtain⟨u,hu,rfl⟩:=qa55.1 hv;exact wf_norm0 (h u hu)
theorem zf8{v:V}(h:wf v=true):wf (norm1 v)=true:=by
 cases v<;>first|exact wf_norm0 h|(simp only[norm1,wf]at *;exact zw5 h)
theorem wf_ren{v:V}(h:wf v=true)(ρ:Nat→Nat):v.ren ρ=v:=by cases v<;>simp_all [wf,V.ren]
theorem wf_on{v:V}(h:wf v=true)(p:Nat→Bool):v.on p=true:=by cases v<;>simp_all [wf,V.on]
theorem zmD{s:Nat→EN}{c:Nat}:∀{l:List V},wfs l=true→RelRs s c (l.map .d) l
 |[],_=>.nil
 |v::l,h=>by
  simp only[wfs,qa32]at h;exact .cons ⟨rfl,h.1⟩ (zmD h.2)
theorem zjh{v:V}{n:Nat}(h:v.size=n):(List.range n).map (fun j=>cell v j)=v.cells:=by
 refine List.ext_getElem (by simp[←h,V.size]) fun i h1 h2=>?_;simp only[List.getElem_map,List.getElem_range,cell,qa8,qa11 h2,Option.getD_some]
theorem zll{s:Nat→EN}{c n:Nat}{v:V}(h:v.size=n)(hw:wf v=true):RelRs s c (zqw n v) v.cells:=by
 have h1:zqw n v=v.cells.map .d:=by
  rw[←zjh h,zqw,List.map_map];rfl
 rw[h1];exact zmD (wf_cells hw)
theorem Rel.put{x:X}{y:Y}(h:Rel x y){d:Option Nat}{v:V}{r:R}(hr:RelR y.s y.c r v):Rel (x.put d v []) (y.put d r):=by
 refine⟨fun t=>?_,h.s⟩;cases d with
 |none=>exact h.e t
 |some d=>
  show RelR y.s y.c (updR y.e d r t) (upd x.env d v t);unfold updR upd;split
  ·exact hr
  ·exact h.e t
theorem Rel.putS{x:X}{y:Y}(h:Rel x y){d:Option Nat}{v:V}{r:R}{id:Nat}{n:EN}{e:Ent}{c':Nat}(hl:Le y.s y.c (updN y.s id n) c')(hn:RelE (updN y.s id n) c' n e)(hr:RelR (updN y.s id n) c' r v):
  Rel (x.put d v [(id,e)]) (Y.put ⟨y.e,updN y.s id n,c'⟩ d r):=by
 refine⟨fun t=>?_,fun j=>?_⟩
 ·cases d with
  |none=>exact(h.e t).le hl
  |some d=>
   show RelR _ _ (updR y.e d r t) (upd x.env d v t);unfold updR upd;split
   ·exact hr
   ·exact(h.e t).le hl
 ·show RelE _ _ (updN y.s id n j) (updE x.st id e j);have:updN y.s id n j=if j=id then n else y.s j:=rfl;rw[this];have:updE x.st id e j=if j=id then e else x.st j:=rfl;rw[this];split
  ·exact hn
  ·exact(h.s j).le hl
theorem Rel.bool{x:X}{y:Y}(h:Rel x y){t:Nat}{b:Bool}(ht:y.e t=.d (.bool b)∨x.env t=.bool b):Rel x ⟨updR y.e t (.d (.bool b)),y.s,y.c⟩:=by
 refine⟨fun i=>?_,h.s⟩;show RelR y.s y.c (updR y.e t (.d (.bool b)) i) (x.env i);unfold updR;split
 ·rename_i hi;subst hi;rcases ht with ht|ht
  ·have:=h.e i;rw[ht]at this;exact this
  ·exact⟨ht,rfl⟩
 ·exact h.e i
theorem rel_con(s:Nat→EN)(c:Nat)(v:V):RelR s c (conR v) v:=by
 unfold conR;split
 ·exact⟨rfl,by simp,by simp⟩
 ·split
  ·exact⟨rfl,by assumption⟩
  ·trivial
 ·rfl
 ·split
  ·exact⟨rfl,by assumption⟩
  ·trivial
theorem Rel.er{x:X}{y:Y}(h:Rel x y)(o:O):RelR y.s y.c (y.er o) (o.ev x.env):=by
 cases o with
 |t n=>exact h.e n
 |c v=>exact rel_con _ _ v
theorem zoD{st:Nat→Ent}{y:Y}(hs:RelS st y):∀{l:List RK} {us vs:List V},RelKs y.s y.c l us→y.datK l=some vs→us.map (resK st)=vs∧wfs vs=true
 |[],_,_,.nil,h=>by cases h;exact⟨rfl,rfl⟩
 |.d v::l,_,vs,.cons h1 h2,h=>by
  simp only[Y.datK]at h;split at h<;>first|(cases h;done)|skip
  rename_i vs' hvs;cases h;obtain⟨a',b'⟩:=zoD hs h2 hvs;have key:∀u,wf u=true→resK st u=u:=fun u hu=>by cases u<;>simp_all [wf,resK]
  obtain⟨rfl,hw,_⟩:=h1;exact⟨by rw[qa52,a',key _ hw],by simp[wfs,hw,b']⟩
 |.q i k::l,_,vs,.cons h1 h2,h=>by
  simp only[Y.datK]at h;split at h<;>first|(cases h;done)|skip
  rename_i T z k' w hq;split at h<;>first|(cases h;done)|skip
  rename_i hk;subst hk;split at h<;>first|(cases h;done)|skip
  rename_i vs' hvs;cases h;obtain⟨a',b'⟩:=zoD hs h2 hvs;have h1:=h1.2.2 _ _ _ hq;have h3:=hs i;rw[hq]at h3;rcases h3.2 with⟨xs,rfl,hw,h3⟩|⟨rfl,h3⟩
  ·subst h1;refine⟨?_,by simp[wfs,wf,hw,b']⟩;rw[qa52,a'];simp only[rowV,resK,h3,qa57,qa60,List.take_length]
  ·subst h1;refine⟨?_,by simp[wfs,wf,b']⟩;rw[qa52,a'];rfl
theorem zd9{st:Nat→Ent}{y:Y}(hs:RelS st y){r:R}{u v:V}(hr:RelR y.s y.c r u)(hd:y.dat r=some v):res st u=v∧wf v=true:=by
 cases r with
 |d w=>cases hd;obtain⟨rfl,hw⟩:=hr;exact⟨wf_res st hw,hw⟩
 |i w o=>cases hd;obtain⟨rfl,hw⟩:=hr;exact⟨rfl,hw⟩
 |q i k=>
  simp only[Y.dat]at hd;split at hd
  ·rename_i T z k' w hq;split at hd
   ·rename_i hk;subst hk;cases hd;have h1:=hr.2.2 _ _ _ hq;have h2:=hs i;rw[hq]at h2;rcases h2.2 with⟨xs,rfl,hw,h3⟩|⟨rfl,h3⟩
    ·subst h1;simp only[rowV,res,h3,qa57,qa60,List.take_length];exact⟨trivial,hw⟩
    ·subst h1;exact⟨rfl,rfl⟩
   ·cases hd
  ·cases hd
 |sa l=>
  simp only[Y.dat]at hd;split at hd<;>first|(cases hd;done)|skip
  rename_i vs hvs;cases hd;obtain⟨us,rfl,hk⟩:=hr;obtain⟨h1,h2⟩:=zoD hs hk hvs;simp only[res,h1,wf,h2];exact⟨if_pos (qa33.2 fun v hv=>zfV (zbf.1 h2 v hv)),trivial⟩
 |_=>cases hd
theorem Rel.dat{x:X}{y:Y}(h:Rel x y){o:O}{v:V}(hd:y.dat (y.er o)=some v):res x.st (o.ev x.env)=v∧wf v=true:=zd9 h.s (h.er o) hd
theorem Rel.d{x:X}{y:Y}(h:Rel x y){o:O}{v:V}(hd:y.er o=.d v):o.ev x.env=v∧wf v=true:=by
 have:=h.er o;rw[hd]at this;exact this
theorem Rel.p{x:X}{y:Y}(h:Rel x y){o:O}{i f:Nat}(hd:y.er o=.p i f):o.ev x.env=.ptr i f:=by
 have:=h.er o;rw[hd]at this;exact this
theorem Rel.i{x:X}{y:Y}(h:Rel x y){o:O}{w:V}{f:Nat}(hd:y.er o=.i w f):o.ev x.env=.ip w f∧wf w=true:=by
 have:=h.er o;rw[hd]at this;exact this
theorem ziV{st:Nat→Ent}{y:Y}(hs:RelS st y):∀{l:List R} {us vs:List V},RelRs y.s y.c l us→y.dats l=some vs→us.map (res st)=vs∧wfs vs=true
 |[],_,_,.nil,h=>by cases h;exact⟨rfl,rfl⟩
 |r::l,_,vs,.cons h1 h2,h=>by
  simp only[Y.dats]at h;split at h
  ·rename_i v hv;split at h
   ·rename_i vs' hvs;cases h;obtain⟨a,b⟩:=zd9 hs h1 hv;obtain⟨a',b'⟩:=ziV hs h2 hvs;exact⟨by rw[qa52,a,a'],by simp[wfs,b,b']⟩
   ·cases h
  ·cases h
end
section
open Go Go.RowKit
theorem zkq{Z:Type}{v:V}{A:Option Z}{r:Z}(h:ck1 v A=some r):v.one=true∧A=some r:=by
 unfold ck1 at h;split at h
 ·exact⟨by assumption,h⟩
 ·cases h
theorem zkp{Z:Type}{n:Nat}{v:V}{A:Option Z}{r:Z}(h:ckA n v A=some r):(v.isAgg=true∧v.size=n∧v.storable=true)∧A=some r:=by
 unfold ckA at h;split at h
 ·exact⟨by assumption,h⟩
 ·cases h
theorem zi9{v:V}(h:v.one=true):v.size=1:=by rw[V.size,zd3 h];rfl
theorem znL{v:V}(h:v.one=true):v.storable=true:=by cases v<;>simp_all [V.one,V.storable]
theorem ckN_some{Z:Type}{n:Nat}{v:V}{A:Option Z}{r:Z}(h:ckN n v A=some r):v.size=n∧v.storable=true∧A=some r:=by
 unfold ckN at h;split at h
 ·obtain⟨h1,h2⟩:=zkq h;exact⟨zi9 h1,znL h1,h2⟩
 ·obtain⟨⟨_,h1,h2⟩,h3⟩:=zkp h;exact⟨h1,h2,h3⟩
theorem bind_some{Z:Type}{o:Option V}{K:V→Option Z}{r:Z}(h:o.bind K=some r):∃v,o=some v∧K v=some r:=Option.bind_eq_some_iff.1 h
theorem znR{y:Y}{id:Nat}{T z:Nat}{v:V}:Le y.s y.c (updN y.s id (.rq T z y.c v)) (y.c+1):=by
 refine⟨Nat.le_succ _,fun i T' z' k w hk hs=>?_⟩;unfold updN at hs;split at hs
 ·cases hs;exact absurd hk (Nat.lt_irrefl _)
 ·exact hs
theorem zkS{y:Y}{id:Nat}{T:Nat}{cs:List R}:Le y.s y.c (updN y.s id (.blk T cs)) y.c:=by
 refine⟨qa57 _,fun i T' z' k w hk hs=>?_⟩;unfold updN at hs;split at hs
 ·cases hs
 ·exact hs
theorem rel_q{s:Nat→EN}{id T z c:Nat}{v:V}:RelR (updN s id (.rq T z c v)) (c+1) (.q id c) (rowV id v):=by
 refine⟨Nat.lt_succ_self _,⟨v,rfl⟩,fun T' z' w hs=>?_⟩;unfold updN at hs;rw[if_pos rfl]at hs;cases hs;rfl
theorem zrE{y:Y}{st:Nat→Ent}(hs:RelS st y){id:Nat}(h:y.s id=.gone):(st id).isGone=true:=by
 have:=hs id;rw[h]at this;rw[show st id=.gone from this];rfl
theorem zre{s:Nat→EN}{c:Nat}{r:R}{u:V}(h:RelR s c r u)(hn:(∀v,r≠.d v)∧r≠.un∧r≠.u∧∀l,r≠.sa l):u.one=true:=by
 cases r with
 |d v=>exact absurd rfl (hn.1 v)
 |p i o=>rw[show u=_ from h];rfl
 |q i k=>obtain⟨v,rfl⟩:=h.2.1;cases v<;>rfl
 |i x o=>rw[h.1];rfl
 |f g a b=>rw[h.1];rfl
 |sa l=>exact absurd rfl (hn.2.2.2 l)
 |un=>exact absurd rfl hn.2.1
 |u=>exact absurd rfl hn.2.2.1
section
variable{Z:Type}{P:Program}{G:Nat→V}{c:Orc}{x:X}{y:Y}{r:Z}{d:Option Nat}{slot:Nat}{g:Option (Nat×Bool)}{av:List Nat}{K:Y→Option Z}{Kp:V→Y→Option Z}{Q:X→Prop}{KP:V→(Nat→Ent)→Prop}
def OpOk(P:Program)(G:Nat→V)(Q:X→Prop)(KP:V→(Nat→Ent)→Prop)(d:Option Nat)(slot:Nat)(g:Option (Nat×Bool))(av:List Nat)(m:M)(x:X):Prop:=zfX P G ⟨d,m,slot,g,av⟩ Q KP x
theorem zkY{m:M}{v:V}{U:Upds}(hp:m.plain=true)(hw:wantX x.env g=some true)(hs:semM slot m x.env x.st=some (v,U))(h:Q (x.put d v U)):OpOk P G Q KP d slot g av m x:=by
 unfold OpOk;rw[zmg (fun b f xs e=>?_) (fun y e=>?_) (fun n y z e=>?_) hw,show semM (MO.slot ⟨d,m,slot,g,av⟩) (MO.m ⟨d,m,slot,g,av⟩) x.env x.st=some (v,U)from hs]
 ·exact h
 all_goals
  dsimp only at e;subst e;cases hp
theorem step_d{m:M}{v:V}{rr:R}(h:Rel x y)(hp:m.plain=true)(hw:wantX x.env g=some true)(hs:semM slot m x.env x.st=some (v,[]))(hr:RelR y.s y.c rr v)(hK:∀x' y',Rel x' y'→K y'=some r→Q x')(he:K (y.put d rr)=some r):OpOk P G Q KP d slot g av m x:=
 zkY hp hw hs (hK _ _ (h.put hr) he)
theorem binV_sem{op:BinOp}{b i s:Bool}{u w v:V}{X Y':O}(hx:X.ev x.env=u)(hy:Y'.ev x.env=w)(h:binV op b i s u w=some v):semM slot (.arith op b i s X Y') x.env x.st=some (v,[]):=by
 simp only[semM,hx,hy];unfold binV at h;split at h<;>first|(cases h;done)|skip
 all_goals dsimp only
 ·split at h
  ·rename_i hk;rw[if_pos hk,h];rfl
  ·cases h
 ·rw[h];rfl
 ·split at h
  ·rename_i hk;rw[if_pos hk];split at h<;>first|(cases h;done)|(cases h;rfl)
  ·cases h
 ·split at h
  ·rename_i hk;rw[if_pos hk];split at h<;>first|(cases h;done)|(cases h;rfl)
  ·cases h
 ·split at h
  ·rename_i hk;rw[if_pos hk];split at h<;>first|(cases h;done)|(cases h;rfl)
  ·cases h
 ·split at h
  ·rename_i hk;rw[if_pos hk];split at h<;>first|(cases h;done)|(cases h;rfl)
  ·cases h
 ·split at h
  ·rename_i hk;rw[if_pos hk];split at h<;>first|(cases h;done)|skip
   all_goals
    rename_i h1;cases h;simp only[h1]
  ·cases h
theorem wf_bin{op:BinOp}{b i s:Bool}{u w v:V}(h:binV op b i s u w=some v):wf v=true:=by
 unfold binV zfR strV at h
 repeat' split at h
 all_goals first
  |(cases h;done)
  |(cases h;rfl)
end
end
section
open Go Go.RowKit
section
variable{Z:Type}{P:Program}{G:Nat→V}{c:Orc}{x:X}{y:Y}{r:Z}{d:Option Nat}{slot:Nat}{g:Option (Nat×Bool)}{av:List Nat}{K:Y→Option Z}{Kp:V→Y→Option Z}{Q:X→Prop}{KP:V→(Nat→Ent)→Prop}
theorem wf_un{op:UnOp}{u v:V}(h:zgj op u=some v):wf v=true:=by
 unfold zgj at h;split at h<;>first|(cases h;done)|(cases h;rfl)
theorem wf_mm{b:Builtin}{u w v:V}(h:zkB b u w=some v):wf v=true:=by
 unfold zkB at h;split at h<;>first|(cases h;done)|(cases h;rfl)
theorem wfs_take{l:List V}(n:Nat)(h:wfs l=true):wfs (l.take n)=true:=zbf.2 fun v hv=>zbf.1 h v (List.mem_of_mem_take hv)
theorem wfs_drop{l:List V}(n:Nat)(h:wfs l=true):wfs (l.drop n)=true:=zbf.2 fun v hv=>zbf.1 h v (List.mem_of_mem_drop hv)
theorem zqE{l:List V}{n:Nat}{v:V}(h:wfs l=true)(hn:l[n]?=some v):wf v=true:=zbf.1 h v (qa16 hn)
theorem tasW_ok{z:Option V}{T:TypeId}{u v:V}(hu:wf u=true)(h:tasW z T u=some v):tasV z T u=some v∧wf v=true:=by
 unfold tasW at h;cases z with
 |some w=>
  dsimp only at h;split at h<;>first|(cases h;done)|skip
  rename_i hw;refine⟨h, ?_⟩;unfold tasV at h;split at h
  ·rename_i e;cases e;cases h;split<;>simp_all [wf,wfs]
  ·rename_i e;cases e;cases h
   simp_all [wf,wfs]
  ·rename_i e;cases e
  ·cases h
 |none=>
  refine⟨h, ?_⟩;dsimp only at h;unfold tasV at h;split at h
  ·rename_i e;cases e
  ·rename_i e;cases e
  ·split at h<;>first|(cases h;done)|skip
   cases h;simpa[wf]using hu
  ·cases h
theorem ldV_wf{ag:Bool}{n off:Nat}{w v:V}(hw:wf w=true)(h:ldV ag n w off=some v):wf v=true:=by
 unfold ldV at h;cases ag
 ·exact zqE (wf_cells hw) h
 ·dsimp only at h;split at h
  ·cases h;exact hw
  ·split at h
   ·cases h;simp only[wf];exact wfs_take _ (wfs_drop _ (wf_cells hw))
   ·cases h
theorem zyV{ag:Bool}{n off:Nat}{w v:V}{a:O}(ha:a.ev x.env=.ip w off)(h:ldV ag n w off=some v):semM slot (.load ag n a) x.env x.st=some (v,[]):=by
 unfold ldV at h;cases ag
 ·simp only[semM,ha];dsimp only at h;rw[h];rfl
 ·simp only[semM,ha];dsimp only at h;split at h
  ·rename_i hc;cases h;rw[if_pos hc]
  ·rename_i hc;rw[if_neg hc];split at h
   ·rename_i hc2;cases h;rw[if_pos hc2]
   ·cases h
theorem dO_ok(h:Rel x y){o:Option O}{v:Option V}(hd:dO y o=some v):o.map (O.ev x.env)=v:=by
 cases o with
 |none=>cases hd;rfl
 |some o=>
  simp only[dO]at hd;split at hd
  ·rename_i hv;cases hd;simp[(h.d hv).1]
  ·cases hd
theorem rs_ok(h:Rel x y):∀{l:List O} {a:List RS},y.rs l=some a→l.map (O.ev x.env)=a.map RS.v∧(∀r∈a,r.ok)∧∀v∈a.map RS.v,v.simple=true
 |[],_,hd=>by cases hd;exact⟨rfl,by simp,by simp⟩
 |o::l,a,hd=>by
  simp only[Y.rs]at hd;split at hd
  ·rename_i v hv;split at hd
   ·rename_i r hr;cases hd;obtain⟨h1,h2,h3⟩:=rs_ok h hr;obtain⟨h4,h5⟩:=h.d hv;refine⟨by simp[h1,h4,RS.v], ?_, ?_⟩
    ·intro r hr;rcases qa53.1 hr with rfl|hr
     ·exact h5
     ·exact h2 r hr
    ·intro w hw;rw[qa52]at hw;rcases qa53.1 hw with hw|hw
     ·rw[show w=v from hw];cases v<;>simp_all [wf,V.simple]
     ·exact h3 w hw
   ·cases hd
  ·rename_i i f hv;split at hd
   ·rename_i r hr;cases hd;obtain⟨h1,h2,h3⟩:=rs_ok h hr;refine⟨by simp[h1,h.p hv,RS.v], ?_, ?_⟩
    ·intro r hr;rcases qa53.1 hr with rfl|hr
     ·trivial
     ·exact h2 r hr
    ·intro w hw;rw[qa52]at hw;rcases qa53.1 hw with rfl|hw
     ·rfl
     ·exact h3 w hw
   ·cases hd
  ·cases hd
theorem zz3(h:Rel x y):∀{ps:List (Nat×Nat×O)} {cs:List V} {K:List V→Option Z},wfs cs=true→bldY y cs ps K=some r→∃rs,fillM cs (ps.map fun p=>(p.1,p.2.1,res x.st (p.2.2.ev x.env)))=some rs∧wfs rs=true∧K rs=some r
 |[],cs,K,hw,hb=>⟨cs,rfl,hw,hb⟩
 |(off,n,o)::ps,cs,K,hw,hb=>by
  simp only[bldY]at hb;split at hb
  ·rename_i v hv;obtain⟨h1,h2⟩:=h.dat hv;split at hb
   ·obtain⟨h3,h4⟩:=zkq hb;split at h4
    ·rename_i hle;have hc:=zd3 h3;obtain⟨rs,h5,h6,h7⟩:=zz3 h (by rw[ziA,ziA];exact⟨⟨wfs_take _ hw,by simp[wfs,h2]⟩,wfs_drop _ hw⟩) h4;refine⟨rs, ?_,h6,h7⟩;rw[qa52,fillM,h1,if_pos ⟨zi9 h3,hle,zfV h2,.inr h3⟩,hc];exact h5
    ·cases h4
   ·obtain⟨⟨h3,h3',h3''⟩,h4⟩:=zkp hb;split at h4
    ·rename_i hle;have hc:=zjh h3';obtain⟨rs,h5,h6,h7⟩:=zz3 h (by rw[zv0,hc,ziA,ziA];exact⟨⟨wfs_take _ hw,wf_cells h2⟩,wfs_drop _ hw⟩) h4;refine⟨rs, ?_,h6,h7⟩;rw[qa52,fillM,h1,if_pos ⟨h3',hle,zfV h2,.inl h3⟩,←hc];exact h5
    ·cases h4
  ·cases hb
theorem RelKs.length{s:Nat→EN}{c:Nat}{r:List RK}{v:List V}(h:RelKs s c r v):r.length=v.length:=by
 induction h with
 |nil=>rfl
 |cons _ _ ih=>simp[ih]
theorem RelKs.take{s:Nat→EN}{c:Nat}{r:List RK}{v:List V}(h:RelKs s c r v):∀n,RelKs s c (r.take n) (v.take n):=by
 induction h with
 |nil=>intro n;simpa using .nil
 |cons h1 _ ih=>
  intro n;cases n with
  |zero=>exact .nil
  |succ n=>exact .cons h1 (ih n)
theorem RelKs.drop{s:Nat→EN}{c:Nat}{r:List RK}{v:List V}(h:RelKs s c r v):∀n,RelKs s c (r.drop n) (v.drop n):=by
 induction h with
 |nil=>intro n;simpa using .nil
 |cons h1 h2 ih=>
  intro n;cases n with
  |zero=>exact .cons h1 h2
  |succ n=>exact ih n
theorem RelKs.append{s:Nat→EN}{c:Nat}{r r':List RK}{v v':List V}(h:RelKs s c r v)(h':RelKs s c r' v'):RelKs s c (r++r') (v++v'):=by
 induction h with
 |nil=>exact h'
 |cons h1 _ ih=>exact .cons h1 ih
theorem ztY{s:Nat→EN}{c:Nat}:∀{l:List V},wfs l=true→l.all V.one=true→RelKs s c (l.map .d) l
 |[],_,_=>.nil
 |v::l,h,h2=>by
  simp only[wfs,qa32]at h;simp only[qa54,qa32]at h2;exact .cons ⟨rfl,h.1,h2.1⟩ (ztY h.2 h2.2)
theorem zoC{s:Nat→EN}{c:Nat}:∀{l:List RK} {us:List V},RelKs s c l us→us.all V.one=true
 |_,_,.nil=>rfl
 |.d v::_,_,.cons h1 h2=>by
  rw[qa54,zoC h2,h1.1,h1.2.2];rfl
 |.q i k::_,_,.cons h1 h2=>by
  obtain⟨w,hw⟩:=h1.2.1;rw[qa54,zoC h2,hw];cases w<;>rfl
theorem zrg{s:Nat→EN}{c:Nat}:∀{l:List RK} {us:List V},RelKs s c l us→RelRs s c (l.map RK.r) us
 |_,_,.nil=>.nil
 |.d v::_,_,.cons h1 h2=>.cons ⟨h1.1,h1.2.1⟩ (zrg h2)
 |.q i k::_,_,.cons h1 h2=>.cons h1 (zrg h2)
theorem zrS(h:Rel x y):∀{ps:List (Nat×Nat×O)} {cs:List RK} {us:List V} {K:List RK→Option Z},RelKs y.s y.c cs us→bldK y cs ps K=some r→∃rs ws,fillK us (ps.map fun p=>(p.1,p.2.1,p.2.2.ev x.env))=some ws∧RelKs y.s y.c rs ws∧K rs=some r
 |[],cs,us,K,hw,hb=>⟨cs,us,rfl,hw,hb⟩
 |(off,n,o)::ps,cs,us,K,hw,hb=>by
  simp only[bldK]at hb;have hlen:=hw.length;have hr:=h.er o;split at hb
  ·rename_i i k hv;split at hb<;>first|(cases hb;done)|skip
   split at hb<;>first|(cases hb;done)|skip
   rename_i hn;obtain⟨rfl,hle⟩:=hn;rw[hv]at hr;have hk:RelK y.s y.c (.q i k) (o.ev x.env):=hr;obtain⟨rs,ws,h5,h6,h7⟩:=zrS h (us:=us.take off++[o.ev x.env]++us.drop (off+1)) (((hw.take off).append (.cons hk .nil)).append (hw.drop _)) hb;refine⟨rs,ws, ?_,h6,h7⟩;obtain⟨w,hw2⟩:=hr.2.1;have h1:(o.ev x.env).one=true∧((o.ev x.env).data=true∨(o.ev x.env).isRow=true):=by
    rw[hw2];cases w<;>first|exact⟨rfl,.inl rfl⟩|exact⟨rfl,.inr rfl⟩
   rw[qa52,fillK,if_pos ⟨zi9 h1.1,by dsimp only;omega,h1.2,.inr h1.1⟩,zd3 h1.1];exact h5
  ·rename_i v hv;rw[hv]at hr;obtain⟨he,h2⟩:=hr;split at hb
   ·obtain⟨h3,h4⟩:=zkq hb;split at h4
    ·rename_i hle;have hc:=zd3 h3;have hk:RelK y.s y.c (.d v) v:=⟨rfl,h2,h3⟩;obtain⟨rs,ws,h5,h6,h7⟩:=zrS h (us:=us.take off++[v]++us.drop (off+1)) (((hw.take off).append (.cons hk .nil)).append (hw.drop _)) h4;refine⟨rs,ws, ?_,h6,h7⟩;rw[qa52,fillK,he,if_pos ⟨zi9 h3,by dsimp only;omega,.inl (zfV h2),.inr h3⟩,hc];exact h5
    ·cases h4
   ·obtain⟨⟨h3,h3',h3''⟩,h4⟩:=zkp hb;split at h4
    ·rename_i hle;have hc:=zjh h3';have hone:v.cells.all V.one=true:=(zkK h3'').2;have hk:RelKs y.s y.c (zv1 n v) v.cells:=by
      have h1:zv1 n v=v.cells.map .d:=by rw[←hc,zv1,List.map_map];rfl
      rw[h1];exact ztY (wf_cells h2) hone
     obtain⟨rs,ws,h5,h6,h7⟩:=zrS h (us:=us.take off++v.cells++us.drop (off+n)) (((hw.take off).append hk).append (hw.drop _)) h4;refine⟨rs,ws, ?_,h6,h7⟩;rw[qa52,fillK,he,if_pos ⟨h3',by dsimp only;omega,.inl (zfV h2),.inl h3⟩];exact h5
    ·cases h4
  ·cases hb
theorem sli_ok(h:Rel x y){z:Nat}:∀{xs:List O} {a:List V} {K:List V→Option Z},sliY y z xs a K=some r →
  (∀p∈xs.map (fun(o:O)=>norm1 (res x.st (o.ev x.env))),p.data=true∧p.storable=true∧p.size=z∧wf p=true)∧K (a++xs.map fun(o:O)=>norm1 (res x.st (o.ev x.env)))=some r
 |[],a,K,hb=>⟨by simp,by simpa[sliY]using hb⟩
 |o::xs,a,K,hb=>by
  simp only[sliY]at hb;split at hb
  ·rename_i v hv;obtain⟨h1,h2⟩:=h.dat hv;obtain⟨h3,h4,h5⟩:=ckN_some hb;obtain⟨h6,h7⟩:=sli_ok h h5;rw[qa52,h1];refine⟨fun p hp=>?_,by simpa using h7⟩;rcases qa53.1 hp with rfl|hp
   ·exact⟨zfV (zf8 h2),h4,h3,zf8 h2⟩
   ·exact h6 p hp
  ·cases hb
theorem zAg(h:Rel x y){ids:List Nat}(ha:apt y av ids=true):avoidV (av.map x.env) ids=true:=by
 unfold apt at ha;rw[qa33]at ha;refine qa33.2 fun v hv=>?_;obtain⟨t,ht,rfl⟩:=qa55.1 hv;have h1:=ha t ht;have h2:=h.e t;generalize y.e t=rt at h1 h2;cases rt with
 |p i o=>rw[show x.env t=_ from h2];exact h1
 |u=>cases h1
 |d v=>obtain⟨h3,h4⟩:=h2;rw[h3];cases v<;>simp_all [wf]
 |q i k=>
  obtain⟨w,hw⟩:=h2.2.1;rw[hw];cases w<;>rfl
 |i w o=>rw[h2.1]
 |f g a b=>rw[h2.1]
 |sa l=>obtain⟨us,h3,_⟩:=h2;rw[h3]
 |un=>rw[show x.env t=_ from h2]
end
end
section
open Go Go.RowKit
section
variable{Z:Type}{P:Program}{G:Nat→V}{c:Orc}{x:X}{y:Y}{r:Z}{d:Option Nat}{slot:Nat}{g:Option (Nat×Bool)}{av:List Nat}{K:Y→Option Z}{Kp:V→Y→Option Z}{Q:X→Prop}{KP:V→(Nat→Ent)→Prop}
theorem zl4{v:V}{A B:Option Z}(h:cnd v A B=some r):∃b,v=.bool b∧(if b=true then A else B)=some r:=by
 unfold cnd at h;split at h
 ·exact⟨true,rfl,by simpa using h⟩
 ·exact⟨false,rfl,by simpa using h⟩
 ·cases h
theorem zzU(h:Rel x y){o:O}{A B:Y→Option Z}(hc:cndT o y A B=some r):∃b y',o.ev x.env=.bool b∧Rel x y'∧(if b=true then A y' else B y')=some r:=by
 unfold cndT at hc;split at hc
 ·rename_i n;split at hc
  ·rename_i v hv;obtain⟨b,rfl,h1⟩:=zl4 hc;have h2:=h.e n;rw[hv]at h2;refine⟨b,⟨updR y.e n (.d (.bool b)),y.s,y.c⟩,h2.1,h.bool (.inl hv), ?_⟩;cases b<;>exact h1
  ·cases hc
 ·rename_i v;obtain⟨b,rfl,h1⟩:=zl4 hc;exact⟨b,y,rfl,h,h1⟩
theorem zsf(h:Rel x y){n id off T:Nat}{a z:O}{cs rs:List R}{u:V}(hw:wantX x.env g=some true)(ha:a.ev x.env=.ptr id off)(hs:y.s id=.blk T cs)(hle:off+stN n≤cs.length)(hav:apt y av [id]=true)(hz:z.ev x.env=u)(hsz:u.size=stN n)(hst:u.storable=true)
  (hr:RelRs (updN y.s id (.blk T (cs.take off++rs++cs.drop (off+stN n)))) y.c rs u.cells) (hK:∀x' y',Rel x' y'→K y'=some r→Q x') (he:K (Y.put (y.set id (.blk T (cs.take off++rs++cs.drop (off+stN n)))) d .un)=some r):OpOk P G Q KP d slot g av (.store n a z) x:=by
 have h1:=h.s id;rw[hs]at h1;obtain⟨us,h2,h3⟩:=h1;have hl:Le y.s y.c (updN y.s id (.blk T (cs.take off++rs++cs.drop (off+stN n)))) y.c:=zkS;have hsem:semM slot (.store n a z) x.env x.st=some (.undef,[(id,.blk T (us.take off++u.cells++us.drop (off+stN n)))]):=by
  simp only[semM,ha,h2,hz];rw[if_pos ⟨hsz,by rw[←h3.length];exact hle,hst⟩]
 have hrel:=h.putS (d:=d) (v:=.undef) (r:=.un) (id:=id) (n:=.blk T (cs.take off++rs++cs.drop (off+stN n))) (e:=.blk T (us.take off++u.cells++us.drop (off+stN n))) (c':=y.c) hl ⟨_,rfl,(((h3.le hl).take off).append hr).append ((h3.le hl).drop _)⟩ rfl;show zfX P G ⟨d,.store n a z,slot,g,av⟩ Q KP x;unfold zfX;dsimp only;rw[hw];dsimp only;rw[hsem];exact⟨zAg h hav,hK _ _ hrel he⟩
set_option maxHeartbeats 1000000 in
theorem evM_ok{m:M}(h:Rel x y)(hw:wantX x.env g=some true)(he:evM P c slot m av y (fun rr y=>K (y.put d rr)) Kp=some r)(hK:∀x' y',Rel x' y'→K y'=some r→Q x')
  (hP:∀v st y',RelS st y'→wf v=true→Kp v y'=some r→KP v st) (hn:∀b f xs,m≠.call b f xs):OpOk P G Q KP d slot g av m x:=by
 cases m with
 |call b f xs=>exact absurd rfl (hn b f xs)
 |move o=>exact step_d h rfl hw (v:=o.ev x.env) rfl (h.er o) hK he
 |pick o a b=>
  simp only[evM]at he;obtain⟨t,y',h1,h2,h3⟩:=zzU h he;refine step_d (y:=y') (rr:=y'.er (if t=true then a else b)) h2 rfl hw (v:=(if t=true then a else b).ev x.env) ?_ (h2.er _) hK ?_
  ·simp only[semM,h1];cases t<;>simp
  ·cases t<;>exact h3
 |alloc T cs=>
  simp only[evM]at he;split at he<;>first|(cases he;done)|skip
  rename_i hg;split at he<;>first|(cases he;done)|skip
  rename_i hwf;refine zkY rfl hw (v:=.ptr slot 0) (U:=[(slot,.blk T cs)]) ?_ (hK _ _ (h.putS (id:=slot) (r:=.p slot 0) (n:=.blk T (cs.map .d)) (c':=y.c) zkS ⟨_,rfl,zmD hwf⟩ rfl) he);simp only[semM,zrE h.s hg,qa60]
 |box T o=>
  simp only[evM]at he;split at he<;>first|(cases he;done)|skip
  rename_i hg;have key:∀(rs:List R)(u:V),o.ev x.env=u→(u.isTa=true∨u.isAgg=true∨u.one=true)→RelRs (updN y.s slot (.blk T rs)) y.c rs u.cells→K (Y.put (y.set slot (.blk T rs)) d (.p slot 0))=some r→OpOk P G Q KP d slot g av (.box T o) x:=by
   intro rs u hu ho hr he;refine zkY rfl hw (v:=.ptr slot 0) (U:=[(slot,.blk T u.cells)]) ?_ (hK _ _ (h.putS (id:=slot) (r:=.p slot 0) (n:=.blk T rs) (c':=y.c) zkS ⟨_,rfl,hr⟩ rfl) he);simp only[semM,zoi,hu];rw[if_pos ⟨zrE h.s hg,ho⟩]
  have hr:=h.er o;split at he
  ·rename_i v hv;obtain⟨h1,h2⟩:=h.d hv;split at he
   ·obtain⟨h3,h4⟩:=zkp he;exact key _ _ h1 (.inr (.inl h3.1)) (zll h3.2.1 h2) h4
   ·obtain⟨h3,h4⟩:=zkq he;exact key _ _ h1 (.inr (.inr h3)) (by rw[zd3 h3];exact .cons ⟨rfl,h2⟩ .nil) h4
   ·cases he
  ·cases he
  ·cases he
  ·rename_i l hv;rw[hv]at hr;obtain⟨us,h3,h4⟩:=hr;exact key _ _ h3 (.inl rfl) (zrg (h4.le zkS)) he
  ·rename_i i k hv;rw[hv]at hr;split at he
   ·have h3:(o.ev x.env).one=true:=zre hr (by simp);exact key _ _ rfl (.inr (.inr h3)) (by rw[zd3 h3];exact .cons (hr.le zkS) .nil) he
   ·cases he
  ·rename_i rr h1 h2 h3 h4 h4';have h5:(o.ev x.env).one=true:=zre hr ⟨h1,h2,h3,h4⟩;exact key _ _ rfl (.inr (.inr h5)) (by rw[zd3 h5];exact .cons (hr.le zkS) .nil) he
 |build cs ps=>
  simp only[evM]at he;split at he
  ·rename_i hlt;split at he<;>first|(cases he;done)|skip
   rename_i hwf;obtain⟨rs,h1,h2,h3⟩:=zz3 h hwf he;refine step_d (rr:=.d (.agg rs)) h rfl hw (v:=.agg rs) ?_ ⟨rfl,h2⟩ hK h3;simp only[semM,h1,if_pos hlt]
  ·rename_i hlt;split at he<;>first|(cases he;done)|skip
   rename_i hwf;obtain⟨rs,ws,h1,h2,h3⟩:=zrS h (ztY hwf.1 hwf.2) he;refine step_d (rr:=.sa rs) h rfl hw (v:=.ta ws) ?_ ⟨ws,rfl,h2⟩ hK h3;simp only[semM,h1,if_neg hlt]
 |bslice el z xs=>
  simp only[evM]at he;split at he<;>first|(cases he;done)|skip
  rename_i hg;split at he<;>first|(cases he;done)|skip
  rename_i hle;obtain⟨h1,h2⟩:=sli_ok h he;rw[qa41]at h2;have hlen:(xs.map fun(o:O)=>norm1 (res x.st (o.ev x.env))).length=xs.length:=by simp
  have hsem:semM slot (.bslice el z xs) x.env x.st=some (.row slot xs.length,[(slot,.row el z (xs.map fun(o:O)=>norm1 (res x.st (o.ev x.env))))]):=by
   simp only[semM];rw[if_pos ⟨zrE h.s hg,fun p hp=>⟨(h1 p hp).1,(h1 p hp).2.1,(h1 p hp).2.2.1⟩,hle⟩]
  generalize(xs.map fun(o:O)=>norm1 (res x.st (o.ev x.env)))=l at *;refine zkY rfl hw hsem (hK _ _ (h.putS (id:=slot) (r:=.q slot y.c) (n:=.rq el z y.c (.list l)) (c':=y.c+1) znR ⟨Nat.lt_succ_self _,.inl ⟨l,rfl,zbf.2 fun v hv=>(h1 v hv).2.2.2,rfl⟩⟩ ?_) h2);rw[←hlen];exact rel_q
 |load ag n a=>
  simp only[evM]at he;split at he<;>first|(cases he;done)|skip
  ·rename_i id off ha;have ha:=h.p ha;split at he<;>first|(cases he;done)|skip
   rename_i T cs hs;have h1:=h.s id;rw[hs]at h1;obtain⟨us,h2,h3⟩:=h1;split at he
   ·split at he<;>first|(cases he;done)|skip
    rename_i hl;split at he<;>first|(cases he;done)|skip
    rename_i vs hvs;obtain⟨h4,h5⟩:=ziV h.s ((h3.drop off).take n) hvs;refine step_d (rr:=.d (.agg vs)) h rfl hw (v:=.agg vs) ?_ ⟨rfl,h5⟩ hK he;simp only[semM,ha,h2,h4];rw[if_pos ⟨by rw[←((h3.drop off).take n).length];exact hl,qa33.2 fun v hv=>zfV (zbf.1 h5 v hv)⟩]
   ·split at he<;>first|(cases he;done)|skip
    rename_i rr hrr;obtain⟨u,h4,h5⟩:=h3.get hrr;refine step_d (rr:=rr) h rfl hw (v:=u) ?_ h5 hK he;simp only[semM,ha,h2,h4,one1]
  ·rename_i w off ha;obtain⟨ha,hwf⟩:=h.i ha;obtain⟨v,h1,h2⟩:=bind_some he;exact step_d (rr:=.d v) h rfl hw (v:=v) (zyV ha h1) ⟨rfl,ldV_wf hwf h1⟩ hK h2
 |store n a o=>
  simp only[evM]at he;split at he<;>first|(cases he;done)|skip
  rename_i id off ha;have ha:=h.p ha;split at he<;>first|(cases he;done)|skip
  rename_i hav;split at he<;>first|(cases he;done)|skip
  rename_i T cs hs;split at he<;>first|(cases he;done)|skip
  rename_i hle;have hr:=h.er o;split at he
  ·rename_i v hv;obtain⟨h1,h2⟩:=h.d hv;split at he
   ·obtain⟨h3,h4⟩:=zkq he;exact zsf h hw ha hs hle hav h1 (zi9 h3) (znL h3) (by rw[zd3 h3];exact .cons ⟨rfl,h2⟩ .nil) hK h4
   ·obtain⟨h3,h4⟩:=zkp he;exact zsf h hw ha hs hle hav h1 h3.2.1 h3.2.2 (zll h3.2.1 h2) hK h4
  ·cases he
  ·cases he
  ·rename_i l hv;rw[hv]at hr;obtain⟨us,h3,h4⟩:=hr;split at he<;>first|(cases he;done)|skip
   rename_i hl;exact zsf h hw ha hs hle hav h3 (by rw[←hl,h4.length];rfl) (zoC h4) (zrg (h4.le zkS)) hK he
  ·rename_i i k hv;rw[hv]at hr;have h3:(o.ev x.env).one=true:=zre hr (by simp);split at he<;>first|(cases he;done)|skip
   split at he<;>first|(cases he;done)|skip
   rename_i hn1;subst hn1;exact zsf h hw ha hs hle hav rfl (zi9 h3) (znL h3) (by rw[zd3 h3];exact .cons (hr.le zkS) .nil) hK he
  ·rename_i h1 h2 h3 h4 h4';have h5:(o.ev x.env).one=true:=zre hr ⟨h1,h2,h3,h4⟩;split at he<;>first|(cases he;done)|skip
   rename_i hn1;subst hn1;exact zsf h hw ha hs hle hav rfl (zi9 h5) (znL h5) (by rw[zd3 h5];exact .cons (hr.le zkS) .nil) hK he
 |chk o=>
  simp only[evM]at he;have hr:=h.er o;split at he<;>first|(cases he;done)|skip
  ·rename_i i f hv;rw[hv]at hr;exact step_d (rr:=.p i f) (v:=.ptr i f) h rfl hw (by simp only[semM,show o.ev x.env=_ from hr]) rfl hK he
  ·rename_i w f hv;rw[hv]at hr;exact step_d (rr:=.i w f) (v:=.ip w f) h rfl hw (by simp only[semM,show o.ev x.env=_ from hr.1]) ⟨rfl,hr.2⟩ hK he
  ·rename_i f a b hv;rw[hv]at hr;exact step_d (rr:=.f f a b) (v:=.fn f (a.map RS.v) (b.map RS.v)) h rfl hw (by simp only[semM,show o.ev x.env=_ from hr.1]) ⟨rfl,hr.2⟩ hK he
 |arith op b i s o w=>
  simp only[evM]at he;split at he<;>first|(cases he;done)|skip
  rename_i hu hv;obtain⟨v,h1,h2⟩:=bind_some he;exact step_d (rr:=.d v) h rfl hw (binV_sem (h.d hu).1 (h.d hv).1 h1) ⟨rfl,wf_bin h1⟩ hK h2
 |un op o=>
  simp only[evM]at he;split at he<;>first|(cases he;done)|skip
  rename_i hu;obtain⟨v,h1,h2⟩:=bind_some he;exact step_d (rr:=.d v) h rfl hw (by simp only[semM,(h.d hu).1,h1,one1]) ⟨rfl,wf_un h1⟩ hK h2
 |conv k o=>
  simp only[evM]at he;split at he<;>first|(cases he;done)|skip
  rename_i hu;obtain⟨v,h1,h2⟩:=bind_some he;unfold convV at h1;split at h1<;>first|(cases h1;done)|skip
  ·cases h1;exact step_d (rr:=.d _) h rfl hw (by simp only[semM,(h.d hu).1]) ⟨rfl,rfl⟩ hK h2
  ·cases h1;exact step_d (rr:=.d _) h rfl hw (by simp only[semM,(h.d hu).1]) ⟨rfl,rfl⟩ hK h2
 |iface T o=>
  simp only[evM]at he;split at he<;>first|(cases he;done)|skip
  rename_i v hv;obtain⟨h1,h2⟩:=h.dat hv;refine step_d (rr:=.d _) h rfl hw (v:=.iface T (norm1 v)) ?_ ⟨rfl, ?_⟩ hK he
  ·simp only[semM,h1];rw[if_pos (zfV (zf8 h2))]
  ·simp only[wf];exact zf8 h2
 |fn f a b=>
  simp only[evM]at he;split at he<;>first|(cases he;done)|skip
  rename_i a' b' ha hb;obtain⟨h1,h2,h3⟩:=rs_ok h ha;obtain⟨h4,h5,h6⟩:=rs_ok h hb;refine step_d (rr:=.f f a' b') h rfl hw (v:=.fn f (a'.map RS.v) (b'.map RS.v)) ?_ ⟨rfl,h2,h5⟩ hK he;simp only[semM,h1,h4];rw[if_pos ⟨h3,h6⟩]
 |sls o lo hi=>
  simp only[evM]at he;split at he<;>first|(cases he;done)|skip
  rename_i v l u hv hl hh;obtain⟨w,h1,h2⟩:=bind_some he;unfold slS at h1;split at h1<;>first|(cases h1;done)|skip
  refine step_d (rr:=.d w) h rfl hw (v:=w) ?_ ⟨rfl, ?_⟩ hK h2
  ·simp only[semM,(h.d hv).1,dO_ok h hl,dO_ok h hh,h1,one1]
  ·unfold ziK at h1;split at h1<;>first|(cases h1;done)|skip
   split at h1<;>first|(cases h1;done)|(cases h1;rfl)
 |sll z o lo hi=>
  simp only[evM]at he;split at he<;>first|(cases he;done)|skip
  rename_i v l u hv hl hh;obtain⟨h3,h4⟩:=h.dat hv;obtain⟨w,h1,h2⟩:=bind_some he;unfold slL at h1;split at h1<;>first|(cases h1;done)|skip
  rename_i xs hxs;have h5:=wf_norm0 h4;rw[hxs]at h5;refine step_d (rr:=.d w) h rfl hw (v:=w) ?_ ⟨rfl, ?_⟩ hK h2
  ·simp only[semM,h3,hxs,dO_ok h hl,dO_ok h hh,h1,one1]
  ·unfold ziL at h1;split at h1<;>first|(cases h1;done)|skip
   split at h1<;>first|(cases h1;done)|skip
   cases h1;simp only[wf]at h5 ⊢;exact wfs_drop _ (wfs_take _ h5)
 |faddr o p=>
  simp only[evM]at he;split at he<;>first|(cases he;done)|skip
  ·rename_i i f hv;exact step_d (rr:=.p i (f+o)) (v:=.ptr i (f+o)) h rfl hw (by simp only[semM,h.p hv]) rfl hK he
  ·rename_i w f hv;exact step_d (rr:=.i w (f+o)) (v:=.ip w (f+o)) h rfl hw (by simp only[semM,(h.i hv).1]) ⟨rfl,(h.i hv).2⟩ hK he
 |field o n ag p=>
  simp only[evM]at he;split at he<;>first|(cases he;done)|skip
  rename_i hu;obtain⟨h3,h4⟩:=h.d hu;obtain⟨v,h1,h2⟩:=bind_some he;unfold fldV at h1;split at h1<;>first|(cases h1;done)|skip
  rename_i cs;simp only[wf]at h4;cases ag
  ·exact step_d (rr:=.d v) h rfl hw (by simp only[semM,h3,h1,one1]) ⟨rfl,zqE h4 h1⟩ hK h2
  ·dsimp only at h1;split at h1<;>first|(cases h1;done)|skip
   rename_i hle;cases h1;refine step_d (rr:=.d _) h rfl hw (v:=.agg ((cs.drop o).take n)) ?_ ⟨rfl,by simp only[wf];exact wfs_take _ (wfs_drop _ h4)⟩ hK h2;simp only[semM,h3];rw[if_pos hle]
 |iaddr z o i=>
  simp only[evM]at he;split at he<;>first|(cases he;done)|skip
  rename_i v w hv hi;obtain⟨h3,h4⟩:=h.dat hv;obtain⟨e,h1,h2⟩:=bind_some he;unfold elV at h1;split at h1<;>first|(cases h1;done)|skip
  rename_i xs k n hxs;split at h1<;>first|(cases h1;done)|skip
  rename_i e' hxe;split at h1<;>first|(cases h1;done)|skip
  rename_i hc;cases h1;have h5:=wf_norm0 h4;rw[hxs]at h5;simp only[wf]at h5;refine step_d (rr:=.i e 0) h rfl hw (v:=.ip e 0) ?_ ⟨rfl,zqE h5 hxe⟩ hK h2;simp only[semM,h3,hxs,(h.d hi).1,hxe];rw[if_pos hc]
 |idx o i=>
  simp only[evM]at he;split at he<;>first|(cases he;done)|skip
  rename_i v w hv hi;obtain⟨e,h1,h2⟩:=bind_some he;unfold idxV at h1;split at h1<;>first|(cases h1;done)|skip
  split at h1<;>first|(cases h1;done)|skip
  rename_i hxe;split at h1<;>first|(cases h1;done)|skip
  rename_i hc;cases h1;refine step_d (rr:=.d _) h rfl hw ?_ ⟨rfl,rfl⟩ hK h2;simp only[semM,(h.d hv).1,(h.d hi).1,hxe];rw[if_pos hc]
 |tas z T o=>
  simp only[evM]at he;split at he<;>first|(cases he;done)|skip
  rename_i hu;obtain⟨h3,h4⟩:=h.d hu;obtain⟨v,h1,h2⟩:=bind_some he;obtain⟨h5,h6⟩:=tasW_ok h4 h1;exact step_d (rr:=.d v) h rfl hw (by simp only[semM,h3,h5,one1]) ⟨rfl,h6⟩ hK h2
 |ext o i=>
  simp only[evM]at he;split at he<;>first|(cases he;done)|skip
  rename_i hu;obtain⟨h3,h4⟩:=h.d hu;obtain⟨v,h1,h2⟩:=bind_some he;unfold extV at h1;split at h1<;>first|(cases h1;done)|skip
  simp only[wf]at h4;exact step_d (rr:=.d v) h rfl hw (by simp only[semM,h3,h1,one1]) ⟨rfl,zqE h4 h1⟩ hK h2
 |lens o=>
  simp only[evM]at he;split at he<;>first|(cases he;done)|skip
  rename_i hu;obtain⟨v,h1,h2⟩:=bind_some he;unfold lenS at h1;split at h1<;>first|(cases h1;done)|skip
  cases h1;exact step_d (rr:=.d _) h rfl hw (by simp only[semM,(h.d hu).1]) ⟨rfl,rfl⟩ hK h2
 |lenl o=>
  simp only[evM]at he;split at he<;>first|(cases he;done)|skip
  rename_i hu;obtain⟨h3,h4⟩:=h.dat hu;obtain⟨v,h1,h2⟩:=bind_some he;unfold lenL at h1;split at h1<;>first|(cases h1;done)|skip
  rename_i hxs;cases h1;exact step_d (rr:=.d _) h rfl hw (by simp only[semM,h3,hxs]) ⟨rfl,rfl⟩ hK h2
 |app el z b s o=>
  have hr:=h.er s;have key:∀{v ys w:V},appV z b v ys=some w→wf ys=true→wf v=true→∃l,w=.list l∧wfs l=true ∧
    ((∃xs zs,v=.list xs∧norm0 ys=.list zs∧l=xs++zs∧(∀y∈zs,y.size=z)∧(xs.length+zs.length)*(b+1)≤140737488355328)∨(v=.nils∧norm0 ys=.list l∧(∀y∈l,y.size=z)∧l.length*(b+1)≤140737488355328)):=by
   intro v ys w h1 h2 h3;have h4:=wf_norm0 h2;unfold appV at h1;split at h1<;>first|(cases h1;done)|skip
   ·rename_i zs xs h5;rw[h5]at h4;split at h1<;>first|(cases h1;done)|skip
    rename_i hc;cases h1;simp only[wf]at h3 h4;exact⟨_,rfl,ziA.2 ⟨h3,h4⟩,.inl ⟨xs,zs,rfl,h5,rfl,hc.1,hc.2⟩⟩
   ·rename_i zs h5;rw[h5]at h4;split at h1<;>first|(cases h1;done)|skip
    rename_i hc;cases h1;simp only[wf]at h4;exact⟨_,rfl,h4,.inr ⟨rfl,h5,hc.1,hc.2⟩⟩
  simp only[evM]at he;split at he<;>first|(cases he;done)|skip
  ·rename_i ys id k hy hsr;obtain⟨h1,h2⟩:=h.dat hy;rw[hsr]at hr;split at he<;>first|(cases he;done)|skip
   rename_i T z' k' v hq;split at he<;>first|(cases he;done)|skip
   rename_i hc;obtain⟨rfl,rfl,rfl⟩:=hc;have h5:=hr.2.2 _ _ _ hq;have h6:=h.s id;rw[hq]at h6;have hlist:∀{w:V} {xs:List V},v=.list xs→wfs xs=true→x.st id=.row T z' xs→appV z' b v ys=some w→K (Y.put (y.new id T z' w) d (.q id y.c))=some r→OpOk P G Q KP d slot g av (.app T z' b s o) x:=by
    intro w xs e hxs h7 h3 h4;subst e;obtain⟨l,rfl,hl,⟨xs',zs,e1,e2,rfl,e3,e4⟩|⟨e1,_⟩⟩:=key h3 h2 (by simpa[wf]using hxs)
    ·cases e1;refine zkY rfl hw (v:=.row id (xs.length+zs.length)) (U:=[(id,.row T z' (xs++zs))]) ?_ (hK _ _ (h.putS (id:=id) (r:=.q id y.c) (n:=.rq T z' y.c (.list (xs++zs))) (c':=y.c+1) znR ⟨Nat.lt_succ_self _,.inl ⟨_,rfl,hl,rfl⟩⟩ ?_) h4)
     ·simp only[semM,h1,e2,h5,rowV,h7];rw[if_pos ⟨trivial,trivial,trivial,e3,e4⟩]
     ·rw[←qa21];exact rel_q
    ·cases e1
   split at he
   ·rename_i hs;subst hs;obtain⟨w,h3,h4⟩:=bind_some he;rcases h6.2 with⟨xs,e,hxs,h7⟩|⟨rfl,h7⟩
    ·exact hlist e hxs h7 h3 h4
    ·obtain⟨l,rfl,hl,⟨xs',zs,e1,_⟩|⟨_,e2,e3,e4⟩⟩:=key h3 h2 rfl
     ·cases e1
     ·refine zkY rfl hw (v:=.row slot l.length) (U:=[(slot,.row T z' l)]) ?_ (hK _ _ (h.putS (id:=slot) (r:=.q slot y.c) (n:=.rq T z' y.c (.list l)) (c':=y.c+1) znR ⟨Nat.lt_succ_self _,.inl ⟨_,rfl,hl,rfl⟩⟩ rel_q) h4);simp only[semM,h1,e2,h5,rowV,h7];rw[if_pos ⟨rfl,e3,e4⟩]
   ·obtain⟨w,h3,h4⟩:=bind_some he;unfold appL at h3;split at h3<;>first|(cases h3;done)|skip
    rename_i xs0;rcases h6.2 with⟨xs,e,hxs,h7⟩|⟨e,h7⟩
    ·exact hlist e hxs h7 h3 h4
    ·cases e
  ·rename_i ys v hy hsr;obtain⟨h1,h2⟩:=h.dat hy;split at he<;>first|(cases he;done)|skip
   rename_i hg;obtain⟨w,h3,h4⟩:=bind_some he;unfold appN at h3;split at h3<;>first|(cases h3;done)|skip
   obtain⟨l,rfl,hl,⟨xs',zs,e1,_⟩|⟨_,e2,e3,e4⟩⟩:=key h3 h2 rfl
   ·cases e1
   ·refine zkY rfl hw (v:=.row slot l.length) (U:=[(slot,.row el z l)]) ?_ (hK _ _ (h.putS (id:=slot) (r:=.q slot y.c) (n:=.rq el z y.c (.list l)) (c':=y.c+1) znR ⟨Nat.lt_succ_self _,.inl ⟨_,rfl,hl,rfl⟩⟩ rel_q) h4);simp only[semM,h1,e2,(h.d hsr).1];rw[if_pos ⟨zrE h.s hg,e3,e4⟩]
 |mm b o w=>
  simp only[evM]at he;split at he<;>first|(cases he;done)|skip
  rename_i hu hv;obtain⟨v,h1,h2⟩:=bind_some he;exact step_d (rr:=.d v) h rfl hw (by simp only[semM,(h.d hu).1,(h.d hv).1,h1,one1]) ⟨rfl,wf_mm h1⟩ hK h2
 |pan o=>
  simp only[evM]at he;split at he<;>first|(cases he;done)|skip
  rename_i v hv;obtain⟨h1,h2⟩:=h.dat hv;obtain⟨w,h3,h4⟩:=bind_some he;unfold ifcV at h3;split at h3<;>first|(cases h3;done)|skip
  rename_i T u hu;cases h3;show zfX P G ⟨d,.pan o,slot,g,av⟩ Q KP x;unfold zfX;dsimp only;rw[hw];dsimp only;rw[h1,hu];have h5:=zf8 h2;rw[hu]at h5;exact hP _ _ _ h.s h5 h4
end
end
section
open Go Go.RowKit
def wfO:POut→Bool|.ret v=>wf v|.panic v=>wf v
def wfE:Ent→Prop|.blk _ cs=>wfs cs=true|_=>False
def argOk(n:Nat):V→Prop
 |.ptr i _=>i<n
 |.fn _ a b=>∀w∈a++b,wf w=true∨∃i o,w=.ptr i o∧i<n
 |v=>wf v=true
def Sound(P:Program)(G:Nat→V)(c:Orc):Prop:=∀g args ents o es,(∀v∈args,argOk ents.length v)→(∀e∈ents,wfE e)→c g args ents=some (o,es)→zes P G g args ents (fun o' es'=>o'=o∧es'=es)
mutual
theorem zoy{w:World}{A:Nat→Nat→Prop}:∀{v:V} {x:Value},RepV w A v x→wf v=true
 |_,_,.bool _=>rfl
 |_,_,.int _ _=>rfl
 |_,_,.str _=>rfl
 |_,_,.nil _ _=>rfl
 |_,_,.list _ _ _ _ _ _ _ h _ _ _=>by simp only[wf];exact zxO h
 |_,_,.ip _ _ _ _ _ h _=>by simp only[wf];exact zxP h
 |_,_,.nilp=>rfl
 |_,_,.nils=>rfl
 |_,_,.niface=>rfl
 |_,_,.iface _ _ _ h=>by simp only[wf];exact zoy h
 |_,_,.agg _ _ h=>by simp only[wf];exact zra h
 |_,_,.tup _ _ h=>by simp only[wf];exact zra h
 |_,_,.undef=>rfl
theorem zra{w:World}{A:Nat→Nat→Prop}:∀{v:List V} {x:List Value},RepL w A v x→wfs v=true
 |_,_,.nil=>rfl
 |_,_,.cons _ _ _ _ h1 h2=>by simp only[wfs,zoy h1,zra h2,Bool.and_self]
theorem zxP{w:World}{A:Nat→Nat→Prop}:∀{v:V} {x:List Value},RepC w A v x→wf v=true
 |_,_,.agg _ _ _ h=>by simp only[wf];exact zra h
 |_,_,.one _ _ _ h=>zoy h
theorem zxO{w:World}{A:Nat→Nat→Prop}:∀{z:Nat} {v:List V} {x:List Value},RepE w A z v x→wfs v=true
 |_,_,_,.nil _=>rfl
 |_,_,_,.cons _ _ _ _ _ _ h1 h2=>by simp only[wfs,zxP h1,zxO h2,Bool.and_self]
end
theorem zsM{P:Program}{G:Nat→V}{f:FuncId}{args:List V}{ents:List Ent}{R:POut→List Ent→Prop}(h:zes P G f args ents R):zes P G f args ents fun o es=>R o es∧wfO o=true:=
 ⟨h.1,fun w H A vals hm hv=>Calls.mono (h.2 w H A vals hm hv) fun e w' ⟨o,es,H',A',h1,h2,h3,h4,h5⟩=>⟨o,es,H',A',⟨h1,by
  cases o with
  |ret v=>obtain⟨xv,_,hr⟩:=h5;exact zoy hr
  |panic v=>obtain⟨xv,_,hr⟩:=h5;exact zoy hr⟩,h2,h3,h4,h5⟩⟩
theorem wf_arg{n:Nat}{v:V}(h:wf v=true):argOk n v:=by cases v<;>first|exact h|(simp[wf]at h;done)
theorem ztv{e:Ent}(h:wfE e)(ρ:Nat→Nat):e.ren ρ=e:=by
 cases e with
 |blk T cs=>
  have:∀(l:List V),wfs l=true→l.map (V.ren ρ)=l:=fun l hl=>by
   have:=qa17 (f:=V.ren ρ) (g:=fun v=>v) fun v hv=>wf_ren (zbf.1 hl v hv) ρ;rw[this];simp
  simp only[Ent.ren,this cs h]
 |_=>exact h.elim
theorem zpD{e:Ent}(h:wfE e)(p:Nat→Bool):e.on p=true:=by
 cases e with
 |blk T cs=>exact qa33.2 fun v hv=>wf_on (zbf.1 h v hv) p
 |_=>exact h.elim
theorem zo4{ids:List Nat}{i:Nat}(h:i∈ids):ids.findIdx (· == i)<ids.length∧nameOf ids (ids.findIdx (· == i))=i:=by
 have h1:ids.findIdx (· == i)<ids.length:=List.findIdx_lt_length_of_exists ⟨i,h,by simp⟩;refine⟨h1, ?_⟩;have h2:=List.findIdx_getElem (w:=h1);simp only[beq_iff_eq]at h2;simp only[nameOf,qa8,qa11 h1,Option.getD_some];exact h2
theorem ztX{ids:List Nat}:∀{l:List RS} {a:List V},(∀r∈l,r.ok)→RS.rens ids l=some a→a.map (renS (nameOf ids))=l.map RS.v∧a.all (onS fun k=>decide (k<ids.length))=true∧∀w∈a,wf w=true∨∃i o,w=.ptr i o∧i<ids.length
 |[],_,_,h=>by cases h;exact⟨rfl,rfl,by simp⟩
 |r::l,a,hk,h=>by
  simp only[RS.rens]at h;split at h<;>first|(cases h;done)|skip
  rename_i v hv;split at h<;>first|(cases h;done)|skip
  rename_i vs hvs;cases h;obtain⟨h1,h2,h3⟩:=ztX (fun r hr=>hk r (by simp[hr])) hvs;have hk0:=hk r (by simp);have key:renS (nameOf ids) v=r.v∧onS (fun k=>decide (k<ids.length)) v=true∧(wf v=true∨∃i o,v=.ptr i o∧i<ids.length):=by
   cases r with
   |d w=>
    cases hv;have hk0:wf v=true:=hk0;refine⟨?_, ?_,.inl hk0⟩<;>cases v<;>simp_all [wf,renS,onS,RS.v]
   |p i o=>
    simp only[RS.ren]at hv;split at hv<;>first|(cases hv;done)|skip
    rename_i hi;cases hv;obtain⟨h4,h5⟩:=zo4 hi;exact⟨by simp only[renS,h5,RS.v],by simpa[onS]using h4,.inr ⟨_,_,rfl,h4⟩⟩
  refine⟨by simp[h1,key.1],by simp[h2,key.2.1],fun w hw=>?_⟩;rcases qa53.1 hw with rfl|hw
  ·exact key.2.2
  ·exact h3 w hw
theorem arg_ok{st:Nat→Ent}{y:Y}(hs:RelS st y){ids:List Nat}{r:R}{u a:V}(hr:RelR y.s y.c r u)(h:y.arg ids r=some a):argV st u=a.ren (nameOf ids)∧a.on (fun k=>decide (k<ids.length))=true∧argOk ids.length a:=by
 have data:∀{v:V},y.dat r=some v→a=norm1 v→argV st u=a.ren (nameOf ids)∧a.on (fun k=>decide (k<ids.length))=true∧argOk ids.length a:=by
  intro v hv e;obtain⟨h1,h2⟩:=zd9 hs hr hv;have h3:=zf8 h2;subst e;exact⟨by rw[argV,h1,wf_ren h3],wf_on h3 _,wf_arg h3⟩
 have other:(match y.dat r with|some v=>some (norm1 v)|none=>none)=some a→argV st u=a.ren (nameOf ids)∧a.on (fun k=>decide (k<ids.length))=true∧argOk ids.length a:=by
  intro h;split at h<;>first|(cases h;done)|skip
  rename_i v hv;cases h;exact data hv rfl
 cases r with
 |p i o=>
  simp only[Y.arg,RS.ren]at h;split at h<;>first|(cases h;done)|skip
  rename_i hi;cases h;obtain⟨h4,h5⟩:=zo4 hi;rw[show u=_ from hr];exact⟨by simp only[argV,res,norm1,norm0,V.ren,h5],by simpa[V.on]using h4,h4⟩
 |f g x z=>
  simp only[Y.arg]at h;split at h<;>first|(cases h;done)|skip
  rename_i a' b' ha hb;cases h;obtain⟨h1,h2,h3⟩:=ztX hr.2.1 ha;obtain⟨h4,h5,h6⟩:=ztX hr.2.2 hb;rw[hr.1];refine⟨by simp only[argV,res,norm1,norm0,V.ren,h1,h4],by simp only[V.on,h2,h5,Bool.and_self],fun w hw=>?_⟩;rcases qa47.1 hw with hw|hw
  ·exact h3 w hw
  ·exact h6 w hw
 |_=>exact other h
theorem zAc{st:Nat→Ent}{y:Y}(hs:RelS st y){ids:List Nat}:∀{l:List R} {us qs:List V},RelRs y.s y.c l us→y.args ids l=some qs →
  us.map (argV st)=qs.map (V.ren (nameOf ids))∧qs.all (V.on fun k=>decide (k<ids.length))=true∧∀a∈qs,argOk ids.length a
 |[],_,_,.nil,h=>by cases h;exact⟨rfl,rfl,by simp⟩
 |r::l,_,qs,.cons h1 h2,h=>by
  simp only[Y.args]at h;split at h<;>first|(cases h;done)|skip
  rename_i v hv;split at h<;>first|(cases h;done)|skip
  rename_i vs hvs;cases h;obtain⟨a1,a2,a3⟩:=arg_ok hs h1 hv;obtain⟨b1,b2,b3⟩:=zAc hs h2 hvs;refine⟨by simp[a1,b1],by simp[a2,b2],fun a ha=>?_⟩;rcases qa53.1 ha with rfl|ha
  ·exact a3
  ·exact b3 a ha
theorem zv5{l:List Nat}{i j:Nat}:j∈addN l i↔j∈l∨j=i:=by
 unfold addN;split
 ·rename_i h;exact⟨.inl,fun h1=>h1.elim id fun e=>e ▸ h⟩
 ·simp
theorem addN_nodup{l:List Nat}{i:Nat}(h:l.Nodup):(addN l i).Nodup:=by
 unfold addN;split
 ·exact h
 ·rename_i hi;rw[List.nodup_append];refine⟨h,by simp,fun a ha b hb e=>?_⟩;simp at hb;subst hb e;exact hi ha
theorem zAk{m:List Nat}:∀{l:List Nat} {j:Nat},j∈m.foldl addN l↔j∈l∨j∈m:=by
 induction m with
 |nil=>simp
 |cons i m ih=>
  intro l j;rw[List.foldl_cons,ih,zv5,qa53];constructor
  ·rintro((h|h)|h)<;>simp[h]
  ·rintro(h|h|h)<;>simp[h]
theorem zuw{m:List Nat}:∀{l:List Nat},l.Nodup→(m.foldl addN l).Nodup:=by
 induction m with
 |nil=>exact id
 |cons i m ih=>intro l h;exact ih (addN_nodup h)
def R.has(i:Nat):R→Prop
 |.p j _=>j=i
 |.f _ a b=>i∈RS.ids a++RS.ids b
 |_=>False
theorem zqk:∀{l:List R} {a:List Nat},(a.Nodup→(idsOf l a).Nodup)∧∀i,i∈idsOf l a→i∈a∨∃r∈l,r.has i
 |[],a=>⟨id,fun i h=>.inl h⟩
 |r::l,a=>by
  have rec1:∀{a':List Nat},idsOf (r::l) a=idsOf l a'→(a.Nodup→a'.Nodup)→(∀i,i∈a'→i∈a∨r.has i)→(a.Nodup→(idsOf (r::l) a).Nodup)∧∀i,i∈idsOf (r::l) a→i∈a∨∃r'∈r::l,r'.has i:=by
   intro a' e h1 h2;obtain⟨h3,h4⟩:=zqk (l:=l) (a:=a');rw[e];refine⟨fun h=>h3 (h1 h),fun i hi=>?_⟩;rcases h4 i hi with h|⟨r',hr',h⟩
   ·rcases h2 i h with h|h
    ·exact .inl h
    ·exact .inr ⟨r,by simp,h⟩
   ·exact .inr ⟨r',by simp[hr'],h⟩
  cases r with
  |p j o=>exact rec1 rfl addN_nodup fun i hi=>(zv5.1 hi).imp id Eq.symm
  |f g x z=>exact rec1 rfl zuw fun i hi=>(zAk.1 hi).imp id id
  |_=>exact rec1 rfl id fun i hi=>.inl hi
theorem ids_on{l:List RS}{i:Nat}:i∈RS.ids l→(l.map RS.v).all (onS fun j=>j != i)=false:=by
 induction l with
 |nil=>simp[RS.ids]
 |cons r l ih=>
  intro h;cases r with
  |d v=>
   simp only[RS.ids]at h;simp[ih h]
  |p j o=>
   simp only[RS.ids,qa53]at h;rcases h with rfl|h
   ·simp[RS.v,onS]
   ·simp[ih h]
theorem has_on{s:Nat→EN}{c i:Nat}{r:R}{u:V}(hr:RelR s c r u)(h:r.has i):u.on (fun j=>j != i)=false:=by
 cases r with
 |p j o=>rw[show u=_ from hr];have h:j=i:=h;subst h;simp[V.on]
 |f g a b=>
  rw[hr.1];simp only[V.on,Bool.and_eq_false_iff];exact(qa47.1 h).imp ids_on ids_on
 |_=>exact h.elim
theorem zsH{s:Nat→EN}{c:Nat}{r:R}:∀{l:List R} {us:List V},RelRs s c l us→r∈l→∃u∈us,RelR s c r u
 |_,_,.cons h1 h2,h=>by
  rcases qa53.1 h with rfl|h
  ·exact⟨_,by simp,h1⟩
  ·obtain⟨u,hu,hr⟩:=zsH h2 h;exact⟨u,by simp[hu],hr⟩
end
section
open Go Go.RowKit
theorem zu3{x:X}{y:Y}(h:Rel x y):∀(l:List O),RelRs y.s y.c (l.map y.er) (l.map (O.ev x.env))
 |[]=>.nil
 |o::l=>.cons (h.er o) (zu3 h l)
theorem zrf{s:Nat→EN}{c:Nat}:∀{l:List RS},(∀r∈l,r.ok)→RelRs s c (l.map RS.r) (l.map RS.v)
 |[],_=>.nil
 | r :: l,h=>.cons (by
   have:=h r (by simp);cases r with
   |d v=>exact⟨rfl,this⟩
   |p i o=>rfl) (zrf fun r hr=>h r (by simp[hr]))
theorem zlP{s:Nat→EN}{c:Nat}:∀{l:List R} {us vs:List V},RelRs s c l us→plainC l=some vs→us=vs∧wfs vs=true
 |[],_,_,.nil,h=>by cases h;exact⟨rfl,rfl⟩
 |r::l,_,vs,.cons h1 h2,h=>by
  cases r<;>simp only[plainC]at h<;>first|(cases h;done)|skip
  all_goals
   split at h<;>first|(cases h;done)|skip
   rename_i vs' hvs;cases h;obtain⟨e,h3⟩:=zlP h2 hvs;obtain⟨e',h4⟩:=h1;exact⟨by rw[e,e'],by simp[wfs,wf,h3,h4]⟩
theorem ent_ok{st:Nat→Ent}{y:Y}(hs:RelS st y){i:Nat}{e:Ent}(h:y.ent i=some e):st i=e∧wfE e:=by
 unfold Y.ent at h;split at h<;>first|(cases h;done)|skip
 rename_i T cs hc;split at h<;>first|(cases h;done)|skip
 rename_i vs hvs;cases h;have h1:=hs i;rw[hc]at h1;obtain⟨us,h2,h3⟩:=h1;obtain⟨rfl,h4⟩:=zlP h3 hvs;exact⟨h2,h4⟩
theorem zjd{st:Nat→Ent}{y:Y}(hs:RelS st y):∀{ids:List Nat} {es:List Ent},y.entL ids=some es→es=ids.map st∧∀e∈es,wfE e
 |[],_,h=>by cases h;exact⟨rfl,by simp⟩
 |i::l,es,h=>by
  simp only[Y.entL]at h;split at h<;>first|(cases h;done)|skip
  rename_i e he;split at h<;>first|(cases h;done)|skip
  rename_i es' hes;cases h;obtain⟨h1,h2⟩:=ent_ok hs he;obtain⟨h3,h4⟩:=zjd hs hes;refine⟨by rw[h3,qa52,h1],fun e' he'=>?_⟩;rcases qa53.1 he' with rfl|he'
  ·exact h2
  ·exact h4 e' he'
section
variable{Z:Type}{P:Program}{G:Nat→V}{c:Orc}{x:X}{y:Y}{r:Z}{d:Option Nat}{slot:Nat}{g:Option (Nat×Bool)}{av:List Nat}{K:Y→Option Z}{Kp:V→Y→Option Z}{Q:X→Prop}{KP:V→(Nat→Ent)→Prop}
theorem zvZ{T n:Nat}{e:Ent}{A:Option Z}(h:ckE T n e A=some r):(∃cs,e=.blk T cs∧cs.length=n∧wfs cs=true)∧A=some r:=by
 unfold ckE at h;split at h<;>first|(cases h;done)|skip
 split at h<;>first|(cases h;done)|skip
 rename_i hc;obtain⟨rfl,rfl,hw⟩:=hc;exact⟨⟨_,rfl,rfl,hw⟩,h⟩
theorem zrU{es:List Ent}:∀{ids:List Nat} {j:Nat} {y:Y} {st:Nat→Ent} {K:Y→Option Z},ids.length+j=es.length→RelS st y→ztt es ids j y K=some r →
  (∀e∈es.drop j,wfE e)∧∃y',K y'=some r∧y'.e=y.e∧Le y.s y.c y'.s y'.c∧RelS (updL st (ids.zip (es.drop j))) y'
 |[],j,y,st,K,hl,hs,h=>⟨by simp at hl;simp[List.drop_of_length_le (Nat.le_of_eq hl.symm)],y,h,rfl,.refl _ _,by simpa[updL]using hs⟩
 |i::l,j,y,st,K,hl,hs,h=>by
  simp only[ztt]at h;obtain⟨⟨cs,h1,h2,hw⟩,h3⟩:=zvZ h;simp only[qa30]at hl;have hj:j<es.length:=by omega
  have he:es[j]=.blk (y.s i).tn.1 cs:=by
   rw[←h1];simp[nth,qa11 hj]
  have hle:Le y.s y.c (updN y.s i (.blk (y.s i).tn.1 ((List.range (y.s i).tn.2).map fun k=>.d (zad (nth es j) k)))) y.c:=zkS;have hrel:RelS (updE st i es[j]) (y.set i (.blk (y.s i).tn.1 ((List.range (y.s i).tn.2).map fun k=>.d (zad (nth es j) k)))):=by
   intro k;show RelE _ _ (if k=i then _ else y.s k) (if k=i then _ else st k);split
   ·refine⟨cs,he, ?_⟩;have:((List.range (y.s i).tn.2).map fun k=>R.d (zad (nth es j) k))=cs.map .d:=by
     rw[h1,←h2];refine List.ext_getElem (by simp) fun k h4 h5=>?_;simp only[qa44]at h5;simp[zad,qa11 h5]
    rw[this];exact zmD hw
   ·exact(hs k).le hle
  obtain⟨h8,y',h4,h5,h6,h7⟩:=zrU (by omega) hrel h3;rw[qa10 hj];refine⟨fun e he'=>?_,y',h4,h5,⟨qa56 hle.le h6.le,fun a T z k v hk hv=>hle.q a T z k v hk (h6.q a T z k v (qa23 hk hle.le) hv)⟩, ?_⟩
  ·rcases qa53.1 he' with rfl|he'
   ·rw[he];exact hw
   ·exact h8 e he'
  ·rw[List.zip_cons_cons,updL];exact h7
theorem zrC{ids:List Nat}{es:List Ent}(h:∀e∈es,wfE e):lendU ids es=ids.zip es:=by
 unfold lendU;have:=qa17 (f:=Ent.ren (nameOf ids)) (g:=fun e=>e) fun e he=>ztv (h e he) _;rw[this];simp
theorem zzA(hc:Sound P G c)(h:Rel x y)(hw:wantX x.env g=some true){b:Bool}{f:O}{args:List O}(he:zqp c b f args av y (fun v y=>K (y.put d (.d v))) Kp=some r)(hK:∀x' y',Rel x' y'→K y'=some r→Q x')
  (hP:∀v st y',RelS st y'→wf v=true→Kp v y'=some r→KP v st):OpOk P G Q KP d slot g av (.call b f args) x:=by
 unfold zqp at he;have hf:=h.er f;split at he<;>first|(cases he;done)|skip
 rename_i fid a z hfr;rw[hfr]at hf;obtain⟨hf1,hf2,hf3⟩:=hf;dsimp only at he;have hrs:RelRs y.s y.c (a.map RS.r++args.map y.er++z.map RS.r) (a.map RS.v++args.map (O.ev x.env)++z.map RS.v):=((zrf hf2).append (zu3 h args)).append (zrf hf3);obtain⟨hnd,hmem⟩:=zqk (l:=a.map RS.r++args.map y.er++z.map RS.r) (a:=[]);generalize a.map RS.r++args.map y.er++z.map RS.r=rs at *;generalize idsOf rs []=ids at *;split at he<;>first|(cases he;done)|skip
 rename_i vs es0 hvs hes0;split at he<;>first|(cases he;done)|skip
 rename_i hcond;obtain⟨h1,h2,h3⟩:=zAc h.s hrs hvs;obtain⟨h4,h5⟩:=zjd h.s hes0;have hlen:es0.length=ids.length:=by rw[h4];simp
 have hent:∀k,(hk:k<ids.length)→entF es0 k=x.st (nameOf ids k):=fun k hk=>by
  simp[entF,nameOf,h4,qa11 hk]
 have hwE:∀k,k<ids.length→wfE (entF es0 k):=fun k hk=>h5 _ (zl1 (by rw[hlen];exact hk));have hcx:CallX x.st (a.map RS.v++args.map (O.ev x.env)++z.map RS.v) ids es0 vs:=by
  refine⟨⟨hnd (by simp),hlen,fun k hk=>by rw[ztv (hwE k hk)];exact(hent k hk).symm,fun k hk e=>by have:=hwE k hk;rw[e]at this;exact this,fun e he=>zpD (h5 e he) _⟩,h1,h2,fun k hk=>.inl ?_⟩;rcases hmem (nameOf ids k) (name_mem hk)with h6|⟨r',hr',hh⟩
  ·simp at h6
  ·obtain⟨u,hu,hru⟩:=zsH hrs hr';exact⟨u,hu,has_on hru hh⟩
 show zfX P G ⟨d,.call b f args,slot,g,av⟩ Q KP x;unfold zfX;dsimp only;rw[hw];dsimp only;rw[hf1];have core:∀{K1 Kp1:V→List Ent→Option Z},cal c fid vs es0 K1 Kp1=some r →
   (∀v es,wf v=true→es.length=ids.length→K1 v es=some r→Q (x.put d v (lendU ids es)))→(∀v es,wf v=true→es.length=ids.length→Kp1 v es=some r→KP v (updL x.st (lendU ids es))) →
   zut P G b (av.map x.env) (.fn fid (a.map RS.v) (z.map RS.v)) (args.map (O.ev x.env)) x.st (fun v U=>Q (x.put d v U)) (fun v U=>KP v (updL x.st U)):=by
  intro K1 Kp1 hcal hk1 hk2;unfold cal at hcal;split at hcal<;>first|(cases hcal;done)|skip
  ·rename_i v es ho;refine⟨ids,es0,vs,_,hcond.2,zAg h hcond.1,hcx,zsM (hc _ _ _ _ _ (by rw[hlen];exact h3) h5 ho), ?_⟩;rintro o' es' ⟨⟨rfl,rfl⟩,p2⟩ hf;exact hk1 v _ p2 (by rw[hf.len,hlen]) hcal
  ·rename_i v es ho;refine⟨ids,es0,vs,_,hcond.2,zAg h hcond.1,hcx,zsM (hc _ _ _ _ _ (by rw[hlen];exact h3) h5 ho), ?_⟩;rintro o' es' ⟨⟨rfl,rfl⟩,p2⟩ hf;exact hk2 v _ p2 (by rw[hf.len,hlen]) hcal
 split at he
 ·have e0:es0=[]:=qa6 (by simpa using hlen);unfold cal0 at he;rw[←e0]at he;refine core he (fun v es hv hl hk=>?_) (fun v es hv hl hk=>?_)
  ·have e1:es=[]:=qa6 (by simpa using hl);subst e1;exact hK _ _ (h.put (r:=.d v) ⟨rfl,hv⟩) hk
  ·have e1:es=[]:=qa6 (by simpa using hl);subst e1;exact hP _ _ _ h.s hv hk
 ·rename_i i l;refine core he (fun v es hv hl hk=>?_) (fun v es hv hl hk=>?_)
  ·obtain ⟨b0,y',b1,b2,b3,b4⟩:=zrU (by simpa using hl.symm) h.s hk;rw[zrC (by simpa using b0)];refine hK _ (y'.put d (.d v)) ⟨fun t=>?_,b4⟩ b1;cases d with
   |none=>
    show RelR _ _ (y'.e t) (x.env t);rw[b2];exact(h.e t).le b3
   |some d=>
    show RelR _ _ (updR y'.e d (.d v) t) (upd x.env d v t);unfold updR upd;split
    ·exact⟨rfl,hv⟩
    ·rw[b2];exact(h.e t).le b3
  ·obtain ⟨b0,y',b1,b2,b3,b4⟩:=zrU (by simpa using hl.symm) h.s hk;rw[zrC (by simpa using b0)];exact hP _ _ _ b4 hv b1
theorem zuk(hc:Sound P G c){m:M}(h:Rel x y)(hw:wantX x.env g=some true)(he:evM P c slot m av y (fun rr y=>K (y.put d rr)) Kp=some r)(hK:∀x' y',Rel x' y'→K y'=some r→Q x')
  (hP:∀v st y',RelS st y'→wf v=true→Kp v y'=some r→KP v st):OpOk P G Q KP d slot g av m x:=by
 by_cases hm:∃b f xs,m=.call b f xs
 ·obtain⟨b,f,xs,rfl⟩:=hm;exact zzA hc h hw he hK hP
 ·exact evM_ok h hw he hK hP fun b f xs e=>hm ⟨b,f,xs,e⟩
theorem evS_ok(hc:Sound P G c){mo:MO}(h:Rel x y)(he:evS P c mo y K Kp=some r)(hK:∀x' y',Rel x' y'→K y'=some r→Q x')(hP:∀v st y',RelS st y'→wf v=true→Kp v y'=some r→KP v st):zfX P G mo Q KP x:=by
 obtain⟨d,m,slot,g,av⟩:=mo;unfold evS at he;dsimp only at he;have skip:∀{y':Y},Rel x y'→wantX x.env g=some false→K (y'.put d .un)=some r→zfX P G ⟨d,m,slot,g,av⟩ Q KP x:=by
  intro y' hy hw hk;unfold zfX;dsimp only;rw[hw];exact hK _ _ (hy.put (r:=.un) rfl) hk
 split at he
 ·exact zuk hc h rfl he hK hP
 ·rename_i t w;split at he
  ·rename_i ht;have h1:=h.e t;rw[ht]at h1;exact skip h (by simp only[wantX,show x.env t=_ from h1]) he
  ·rename_i v ht;have h1:=h.e t;rw[ht]at h1;cases w
   ·obtain⟨b,rfl,h2⟩:=zl4 he;cases b
    ·exact zuk hc (h.bool (.inl ht)) (by simp only[wantX,h1.1];rfl) h2 hK hP
    ·exact skip (h.bool (.inl ht)) (by simp only[wantX,h1.1];rfl) h2
   ·obtain⟨b,rfl,h2⟩:=zl4 he;cases b
    ·exact skip (h.bool (.inl ht)) (by simp only[wantX,h1.1];rfl) h2
    ·exact zuk hc (h.bool (.inl ht)) (by simp only[wantX,h1.1];rfl) h2 hK hP
  ·cases he
theorem evR_ok(hc:Sound P G c){eq:Z→Z→Bool}(hq:∀a b,eq a b=true→a=b):∀{t:RT} {x:X} {y:Y},Rel x y→evR P c eq t y K Kp=some r→(∀x' y',Rel x' y'→K y'=some r→Q x')→(∀v st y',RelS st y'→wf v=true→Kp v y'=some r→KP v st)→wpR P G KP Q t x
 |.done,x,y,h,he,hK,hP=>hK x y h he
 |.step mo t,x,y,h,he,hK,hP=>evS_ok hc h he (fun x' y' h' he'=>evR_ok hc hq h' he' hK hP) hP
 |.alt a b,x,y,h,he,hK,hP=>by
  simp only[evR,agr]at he;split at he<;>first|(cases he;done)|skip
  rename_i u v hu hv;split at he<;>first|(cases he;done)|skip
  rename_i huv;cases he;have:=hq _ _ huv;subst this;exact⟨evR_ok hc hq h hu hK hP,evR_ok hc hq h hv hK hP⟩
 |.bad,_,_,_,he,_,_=>by cases he
end
end
section
open Go Go.RowKit
def it:Nat→Lup
 |0,_,_,_=>none
 |n+1,Z,F,l=>match F l with
  |some (.next l')=>it n Z F l'
  |some (.out z)=>some z
  |none=>none
def LpOk(lp:Lup):Prop:=∀(Z:Type) (F:List V→Option (Stp Z)) (l:List V) (r:Z),lp Z F l=some r→∃n,it n Z F l=some r
theorem it_ok(n:Nat):LpOk (it n):=fun _ _ _ _ h=>⟨n,h⟩
open Classical in
def zwB(p:Nat→Prop):Nat:=if h:∃n,p n∧∀m,p m→n≤m then h.choose else 0
theorem zqf{p:Nat→Prop}{n:Nat}(h:p n):p (zwB p)∧zwB p≤n:=by
 have key:∀n,p n→∃k,p k∧∀m,p m→k≤m:=by
  intro n;induction n using Nat.strongRecOn with
  |_ n ih=>
   intro hn;by_cases hx:∃m,m<n∧p m
   ·obtain⟨m,h1,h2⟩:=hx;exact ih m h1 h2
   ·exact⟨n,hn,fun m hm=>Nat.le_of_not_lt fun hlt=>hx ⟨m,hlt,hm⟩⟩
 have hk:=key n h;have e:zwB p=hk.choose:=by unfold zwB;rw[dif_pos hk]
 rw[e];exact⟨hk.choose_spec.1,hk.choose_spec.2 n h⟩
theorem zs8(a b:List V)(v:V):gt (a++v::b) a.length=v:=by simp[gt]
def Rows(y:Y)(s1:Nat→EN):Prop:=∀id T z k v,s1 id=.rq T z k v→k=0∧((y.s id=.gone∧v=.nils)∨∃T' z' k',y.s id=.rq T' z' k' v)
theorem zk0:∀{a b:List RS},RS.sames a b=true→a=b
 |[],[],_=>rfl
 |[],_::_,h=>by cases h
 |_::_,[],h=>by cases h
 |x::a,w::b,h=>by
  simp only[RS.sames,qa32]at h;rw[zk0 h.2];have h1:=h.1;cases x<;>cases w<;>simp_all [RS.same]
theorem zxC{a b:R}(h:a.same b=true):a=b:=by
 cases a<;>cases b<;>simp_all [R.same];exact⟨zk0 h.1.2,zk0 h.2⟩
theorem res_one{st:Nat→Ent}{s:Nat→EN}{c:Nat}{r:R}{u:V}{r':R}(hr:RelR s c r u)(h:r.same r'=true):res st u=u:=by
 cases r<;>first|(cases r'<;>cases h;done)|skip
 ·rw[show u=_ from hr];rfl
 ·rw[hr.1];rfl
 ·rw[show u=_ from hr];rfl
def frzV(st:Nat→Ent)(fz:Bool)(u:V):V:=match fz with|true=>res st u|false=>u
section
variable{st:Nat→Ent}{y:Y}{s1:Nat→EN}{fz:Bool}
theorem pk_ok(hs:RelS st y)(hrow:Rows y s1){r:R}{u:V}(hr:RelR y.s y.c r u){k:Cls}{l l':List V}(h:y.pk fz r k l=some l'):
  ∃a,l'=a++l∧∀pre,RelR s1 1 (k.un (pre++l') pre.length).1 (frzV st fz u)∧(k.un (pre++l') pre.length).2=pre.length+a.length:=by
 cases k with
 |d=>
  have dd:∀{v:V},y.dat r=some v→frzV st fz u=v→l'=v::l→∃a,l'=a++l∧∀pre,RelR s1 1 (Cls.un .d (pre++l') pre.length).1 (frzV st fz u)∧(Cls.un .d (pre++l') pre.length).2=pre.length+a.length:=by
   intro v hv hu e;obtain⟨h1,h2⟩:=zd9 hs hr hv;subst e;refine⟨[v],rfl,fun pre=>⟨?_,rfl⟩⟩;show RelR s1 1 (.d (gt (pre++v::l) pre.length)) _;rw[zs8,hu];exact⟨rfl,h2⟩
  simp only[Y.pk]at h;split at h<;>first|(cases h;done)|skip
  ·rename_i v;cases h;refine dd (v:=v) rfl ?_ rfl;cases fz
   ·exact hr.1
   ·exact(zd9 hs hr (v:=v) rfl).1
  ·rename_i w o;cases h;refine dd (v:=.ip w o) rfl ?_ rfl;cases fz
   ·exact hr.1
   ·exact(zd9 hs hr (v:=.ip w o) rfl).1
  ·split at h<;>first|(cases h;done)|skip
   rename_i v hv;cases h;exact dd hv (zd9 hs hr hv).1 rfl
 |q id=>
  simp only[Y.pk]at h;split at h<;>first|(cases h;done)|skip
  rename_i hc;obtain⟨rfl,hq⟩:=hc;cases h;refine⟨[],rfl,fun pre=>⟨?_,rfl⟩⟩;show RelR s1 1 (.q id 0) u;unfold Y.isQ at hq;split at hq
  ·rename_i j k;simp only[qa32,beq_iff_eq]at hq;obtain⟨rfl,hq⟩:=hq;split at hq
   ·rename_i T z k' v hv;have:=beq_iff_eq.1 hq;subst this;have h1:=hr.2.2 _ _ _ hv;refine⟨Nat.one_pos,⟨v,h1⟩,fun T' z' w hw=>?_⟩;rcases(hrow _ _ _ _ _ hw).2 with⟨h2,_⟩|⟨T2,z2,k2,h2⟩
    ·rw[hv]at h2;cases h2
    ·rw[hv]at h2;cases h2;exact h1
   ·cases hq
  ·split at hq<;>first|(cases hq;done)|skip
   rename_i hg;have h1:u=.nils:=hr.1;refine⟨Nat.one_pos,⟨.nils,h1⟩,fun T' z' w hw=>?_⟩;rcases(hrow _ _ _ _ _ hw).2 with⟨_,h2⟩|⟨T2,z2,k2,h2⟩
   ·subst h2;exact h1
   ·rw[hg]at h2;cases h2
  ·cases hq
 |c r'=>
  simp only[Y.pk]at h;split at h<;>first|(cases h;done)|skip
  rename_i hc;cases h;refine⟨[],rfl,fun pre=>⟨?_,rfl⟩⟩;show RelR s1 1 r' (frzV st fz u);have e:frzV st fz u=u:=by cases fz;rfl;exact res_one hr hc
  rw[e];have:=zxC hc;subst this;cases r<;>first|(cases hc;done)|exact hr
 |f a b=>
  simp only[Y.pk]at h;split at h<;>first|(cases h;done)|skip
  rename_i g a' b';split at h<;>first|(cases h;done)|skip
  rename_i hc;cases h;have e1:=zk0 hc.1;have e2:=zk0 hc.2;subst e1 e2;refine⟨[.fn g [] []],rfl,fun pre=>⟨?_,rfl⟩⟩;show RelR s1 1 (.f (fnG (gt (pre++.fn g [] []::l) pre.length)) a' b') (frzV st fz u);rw[zs8];have hu:u=.fn g (a'.map RS.v) (b'.map RS.v):=hr.1;have e:frzV st fz u=u:=by subst hu;cases fz<;>rfl
  rw[e];exact hr
theorem zx7(hs:RelS st y)(hrow:Rows y s1):∀{rs:List R} {us:List V},RelRs y.s y.c rs us→∀{ks:List Cls} {l l':List V},y.pkC fz rs ks l=some l' →
  ∃a,l'=a++l∧∀pre,RelRs s1 1 (unC (pre++l') ks pre.length).1 (us.map (frzV st fz))∧(unC (pre++l') ks pre.length).2=pre.length+a.length
 |[],_,.nil,ks,l,l',h=>by
  cases ks with
  |nil=>cases h;exact⟨[],rfl,fun pre=>⟨.nil,rfl⟩⟩
  |cons k ks=>cases h
 |r::rs,_,.cons (v:=u) (vs:=us) h1 h2,ks,l,l',h=>by
  cases ks with
  |nil=>cases h
  |cons k ks=>
   simp only[Y.pkC]at h;split at h<;>first|(cases h;done)|skip
   rename_i l1 hl1;obtain⟨a,rfl,ha⟩:=zx7 hs hrow h2 hl1;obtain⟨b,rfl,hb⟩:=pk_ok hs hrow h1 h;refine⟨b++a,by simp,fun pre=>?_⟩;obtain⟨hb1,hb2⟩:=hb pre;have ha':=ha (pre++b);simp only[qa28,qa21]at ha' hb1 hb2 ⊢;simp only[unC];rw[hb2];exact⟨.cons hb1 ha'.1,by rw[ha'.2];omega⟩
theorem zx6{x:X}(h0:Rel x y)(hrow:Rows y s1):∀{ts:List (Nat×Cls)} {l l':List V},y.pkT fz ts l=some l' →
  ∃a,l'=a++l∧∀pre,(∀t,RelR s1 1 (lkR t (unT (pre++l') ts pre.length).1) (look t (ts.map fun p=>(p.1,frzV x.st fz (x.env p.1)))))∧(unT (pre++l') ts pre.length).2=pre.length+a.length
 |[],l,l',h=>by cases h;exact⟨[],rfl,fun pre=>⟨fun t=>trivial,rfl⟩⟩
 |(t,k)::ts,l,l',h=>by
  simp only[Y.pkT]at h;split at h<;>first|(cases h;done)|skip
  rename_i l1 hl1;obtain⟨a,rfl,ha⟩:=zx6 h0 hrow hl1;obtain⟨b,rfl,hb⟩:=pk_ok h0.s hrow (h0.e t) h;refine⟨b++a,by simp,fun pre=>?_⟩;obtain⟨hb1,hb2⟩:=hb pre;have ha':=ha (pre++b);simp only[qa28,qa21]at ha' hb1 hb2 ⊢;simp only[unT];rw[hb2];refine⟨fun i=>?_,by rw[ha'.2];omega⟩;simp only[qa52,lkR,look];split
  ·exact hb1
  ·exact ha'.1 i
theorem zu9{x:X}(h0:Rel x y)(hrow:Rows y s1):∀{es:List ECl} {l l':List V},y.pkE fz es l=some l' →
  ∃a,l'=a++l∧∀pre id,RelE s1 1 (lkN id (unE (pre++l') es pre.length)) (lookE id (es.map fun e=>(e.id,(x.frz fz).st e.id)))
 |[],l,l',h=>by cases h;exact⟨[],rfl,fun pre id=>rfl⟩
 |.blk id T ks::es,l,l',h=>by
  simp only[Y.pkE]at h;split at h<;>first|(cases h;done)|skip
  rename_i l1 hl1;obtain⟨a,rfl,ha⟩:=zu9 h0 hrow hl1;split at h<;>first|(cases h;done)|skip
  rename_i T' cs hc;split at h<;>first|(cases h;done)|skip
  rename_i hT;subst hT;have h1:=h0.s id;rw[hc]at h1;obtain⟨us,h2,h3⟩:=h1;obtain⟨b,rfl,hb⟩:=zx7 h0.s hrow h3 h;refine⟨b++a,by simp,fun pre i=>?_⟩;obtain⟨hb1,hb2⟩:=hb pre;have ha':=ha (pre++b) i;simp only[qa28,qa21]at ha' hb1 hb2 ⊢;simp only[unE,qa52,lkN,lookE,ECl.id];rw[hb2];split
  ·refine⟨_, ?_,hb1⟩;cases fz
   ·show x.st id=_;rw[h2];congr 1;exact(List.map_id us).symm
   ·show(x.st id).frz x.st=_;rw[h2];rfl
  ·exact ha'
 |.bv id T n::es,l,l',h=>by
  simp only[Y.pkE]at h;split at h<;>first|(cases h;done)|skip
  rename_i l1 hl1;obtain⟨a,rfl,ha⟩:=zu9 h0 hrow hl1;split at h<;>first|(cases h;done)|skip
  rename_i T' cs hc;split at h<;>first|(cases h;done)|skip
  rename_i hT;obtain⟨rfl,rfl⟩:=hT;have h1:=h0.s id;rw[hc]at h1;obtain⟨us,h2,h3⟩:=h1;split at h<;>first|(cases h;done)|skip
  rename_i vs hvs;cases h;have key:us.map (frzV x.st fz)=vs∧wfs vs=true:=by
   cases fz
   ·obtain⟨e1,e2⟩:=zlP h3 hvs;subst e1;exact⟨List.map_id us,e2⟩
   ·exact ziV h0.s h3 hvs
  refine⟨.agg vs::a,rfl,fun pre i=>?_⟩;have ha':=ha (pre++[.agg vs]) i;simp only[qa28,qa21,List.singleton_append,qa30,qa40]at ha' ⊢;simp only[unE,qa52,lkN,lookE,ECl.id];split
  ·rw[zs8];refine⟨vs, ?_, ?_⟩
   ·rw[←key.1];cases fz
    ·show x.st id=_;rw[h2];congr 1;exact(List.map_id us).symm
    ·show(x.st id).frz x.st=_;rw[h2];rfl
   ·have hsz:(V.agg vs).size=cs.length:=by
     rw[h3.length,←key.1];simp[V.size,V.cells]
    exact zll hsz (by simpa[wf]using key.2)
  ·exact ha'
 |.rq id T z::es,l,l',h=>by
  simp only[Y.pkE]at h;split at h<;>first|(cases h;done)|skip
  rename_i l1 hl1;obtain⟨a,rfl,ha⟩:=zu9 h0 hrow hl1;have key:∀v,l'=v::(a++l)→RelE s1 1 (.rq T z 0 v) ((x.frz fz).st id)→∃b,l'=b++l∧∀pre i,RelE s1 1 (lkN i (unE (pre++l') (.rq id T z::es) pre.length)) (lookE i ((ECl.rq id T z::es).map fun e=>(e.id,(x.frz fz).st e.id))):=by
   intro v e hv;subst e;refine⟨v::a,rfl,fun pre i=>?_⟩;have ha':=ha (pre++[v]) i;simp only[qa28,qa21,List.singleton_append,qa30,qa40]at ha' ⊢;simp only[unE,qa52,lkN,lookE,ECl.id];split
   ·rw[zs8];exact hv
   ·exact ha'
  have h1:=h0.s id;split at h
  ·rename_i hg;rw[hg]at h1;cases h;refine key _ rfl ⟨Nat.one_pos,.inr ⟨rfl, ?_⟩⟩;cases fz
   ·exact h1
   ·show(x.st id).frz x.st=_;rw[show x.st id=_ from h1];rfl
  ·rename_i T' z' k v hg;rw[hg]at h1;split at h<;>first|(cases h;done)|skip
   rename_i hT;obtain⟨rfl,rfl⟩:=hT;cases h;refine key _ rfl ⟨Nat.one_pos, ?_⟩;rcases h1.2 with⟨xs,h4,h5,h6⟩|⟨h4,h6⟩
   ·refine .inl ⟨xs,h4,h5, ?_⟩;cases fz
    ·exact h6
    ·show(x.st id).frz x.st=_;rw[h6];rfl
   ·refine .inr ⟨h4, ?_⟩;cases fz
    ·exact h6
    ·show(x.st id).frz x.st=_;rw[h6];rfl
  ·cases h
theorem rows0(y:Y):Rows y (fun _=>.gone):=fun _ _ _ _ _ h=>by cases h
theorem znQ{x:X}(h0:Rel x y):∀{es:List ECl} {l l':List V},y.pkE fz es l=some l'→(∃a,l'=a++l)∧∀pre,Rows y (fun id=>lkN id (unE (pre++l') es pre.length))
 |[],l,l',h=>by cases h;exact⟨⟨[],rfl⟩,fun pre id T z k v h=>by simp[unE,lkN]at h⟩
 |.blk i T ks::es,l,l',h=>by
  simp only[Y.pkE]at h;split at h<;>first|(cases h;done)|skip
  rename_i l1 hl1;obtain⟨⟨a,rfl⟩,ha⟩:=znQ h0 hl1;split at h<;>first|(cases h;done)|skip
  rename_i T' cs hc;split at h<;>first|(cases h;done)|skip
  rename_i hT;subst hT;have h1:=h0.s i;rw[hc]at h1;obtain⟨us,h2,h3⟩:=h1;obtain⟨b,rfl,hb⟩:=zx7 h0.s (rows0 y) h3 h;refine⟨⟨b++a,by simp⟩,fun pre id T z k v hv=>?_⟩;have hb2:=(hb pre).2;have ha':=ha (pre++b) id T z k v;simp only[qa28,qa21]at ha' hb2 hv;simp only[unE,lkN]at hv;rw[hb2]at hv;split at hv
  ·cases hv
  ·exact ha' hv
 |.bv i T n::es,l,l',h=>by
  simp only[Y.pkE]at h;split at h<;>first|(cases h;done)|skip
  rename_i l1 hl1;obtain⟨⟨a,rfl⟩,ha⟩:=znQ h0 hl1;split at h<;>first|(cases h;done)|skip
  split at h<;>first|(cases h;done)|skip
  split at h<;>first|(cases h;done)|skip
  rename_i vs hvs;cases h;refine⟨⟨.agg vs::a,rfl⟩,fun pre id T2 z2 k v hv=>?_⟩;have ha':=ha (pre++[.agg vs]) id T2 z2 k v;simp only[qa28,qa21,List.singleton_append,qa30,qa40]at ha';simp only[unE,lkN]at hv;split at hv
  ·cases hv
  ·exact ha' hv
 |.rq i T z::es,l,l',h=>by
  simp only[Y.pkE]at h;split at h<;>first|(cases h;done)|skip
  rename_i l1 hl1;obtain⟨⟨a,rfl⟩,ha⟩:=znQ h0 hl1;have key:∀w,l'=w::(a++l)→((y.s i=.gone∧w=.nils)∨∃T' z' k',y.s i=.rq T' z' k' w)→(∃b,l'=b++l)∧∀pre,Rows y (fun id=>lkN id (unE (pre++l') (.rq i T z::es) pre.length)):=by
   intro w e hw;subst e;refine⟨⟨w::a,rfl⟩,fun pre id T2 z2 k v hv=>?_⟩;have ha':=ha (pre++[w]) id T2 z2 k v;simp only[qa28,qa21,List.singleton_append,qa30,qa40]at ha';simp only[unE,lkN]at hv;split at hv
   ·rename_i he;subst he;rw[zs8]at hv;cases hv;exact⟨rfl,hw⟩
   ·exact ha' hv
  split at h
  ·rename_i hg;cases h;exact key _ rfl (.inl ⟨hg,rfl⟩)
  ·rename_i T' z' k v hg;split at h<;>first|(cases h;done)|skip
   cases h;exact key _ rfl (.inr ⟨_,_,_,hg⟩)
  ·cases h
theorem zyc{x:X}(h0:Rel x y){A:LA}{l:List V}(h:y.pack A=some l):Rel (scrub (A.ts.map (·.1)) (A.es.map ECl.id) (x.frz A.fz)) (unpk A l):=by
 unfold Y.pack at h;split at h<;>first|(cases h;done)|skip
 rename_i l1 hl1;obtain⟨_,hrow⟩:=znQ h0 hl1;obtain⟨a,rfl, -⟩:=zx6 (s1:=fun _=>.gone) h0 (rows0 y) h;obtain⟨b,e,hb⟩:=zx6 h0 (hrow a) h;obtain⟨c,e',hc⟩:=zu9 h0 (hrow a) hl1;have hb0:=hb [];have e1:b=a:=List.append_cancel_right e.symm;subst e1;simp only[qa41,qa40,Nat.zero_add]at hb0;have hun:(unpk A (b++l1)).s=fun id=>lkN id (unE (b++l1) A.es b.length):=by
  unfold unpk;simp only[hb0.2]
 refine⟨fun t=>?_,fun id=>?_⟩
 ·have:=hb0.1 t;show RelR (unpk A (b++l1)).s 1 (lkR t (unT (b++l1) A.ts 0).1) (look t ((A.ts.map (·.1)).map fun t=>(t,(x.frz A.fz).env t)));rw[hun,List.map_map];have e2:((fun t=>(t,(x.frz A.fz).env t)) ∘ fun(p:Nat×Cls)=>p.1)=fun p=>(p.1,frzV x.st A.fz (x.env p.1)):=by
   funext p;cases A.fz<;>rfl
  rw[e2];exact this
 ·have:=hc b id;show RelE (unpk A (b++l1)).s 1 ((unpk A (b++l1)).s id) (lookE id ((A.es.map ECl.id).map fun id=>(id,(x.frz A.fz).st id)));rw[hun,List.map_map];exact this
end
end
section
open Go Go.RowKit
section
variable{x:X}{y:Y}{fz:Bool}{keep:List Nat}
theorem zzg{st:Nat→Ent}{p:Nat→Bool}{u:V}(h:u.on p=true):(frzV st fz u).on p=true:=by
 cases fz
 ·exact h
 ·show(res st u).on p=true;cases u<;>first|exact h|skip
  ·simp only[res];split
   ·split<;>rfl
   ·rfl
  ·simp only[res];split<;>rfl
theorem zqi:∀{l:List RS},(∀r∈l,r.ok)→RS.inn keep l=true→(l.map RS.v).all (onS (keep.contains ·))=true
 |[],_,_=>rfl
 |.d v::l,h,hk=>by
  have h1:wf v=true:=h (.d v) (by simp);have h2:=zqi (l:=l) (fun r hr=>h r (by simp[hr])) hk;simp only[qa52,qa54,qa32];exact⟨by cases v<;>simp_all [wf,RS.v,onS],h2⟩
 |.p i o::l,h,hk=>by
  simp only[RS.inn,qa32]at hk;have h2:=zqi (l:=l) (fun r hr=>h r (by simp[hr])) hk.2;simp only[qa52,qa54,qa32];exact⟨hk.1,h2⟩
theorem pk_on(hs:RelS x.st y){r:R}{u:V}(hr:RelR y.s y.c r u){k:Cls}(hk:k.ok keep=true){l l':List V}(h:y.pk fz r k l=some l'):(frzV x.st fz u).on (keep.contains ·)=true:=by
 have dd:∀{v:V},y.dat r=some v→frzV x.st fz u=v→(frzV x.st fz u).on (keep.contains ·)=true:=fun hv e=>by
  rw[e];exact wf_on (zd9 hs hr hv).2 _
 cases k with
 |d=>
  simp only[Y.pk]at h;split at h<;>first|(cases h;done)|skip
  ·rename_i v;refine dd (v:=v) rfl ?_;cases fz
   ·exact hr.1
   ·exact(zd9 hs hr (v:=v) rfl).1
  ·rename_i w o;refine dd (v:=.ip w o) rfl ?_;cases fz
   ·exact hr.1
   ·exact(zd9 hs hr (v:=.ip w o) rfl).1
  ·split at h<;>first|(cases h;done)|skip
   rename_i v hv;exact dd hv (zd9 hs hr hv).1
 |q id=>
  simp only[Y.pk]at h;split at h<;>first|(cases h;done)|skip
  rename_i hc;obtain⟨rfl,hq⟩:=hc;refine zzg ?_;have hk:keep.contains id=true:=hk;have row:∀w,(rowV id w).on (keep.contains ·)=true:=fun w=>by cases w<;>first|exact hk|rfl
  unfold Y.isQ at hq;split at hq
  ·simp only[qa32,beq_iff_eq]at hq;obtain⟨rfl,_⟩:=hq;obtain⟨w,rfl⟩:=hr.2.1;exact row w
  ·rw[show u=.nils from hr.1];rfl
  ·cases hq
 |c r'=>
  simp only[Y.pk]at h;split at h<;>first|(cases h;done)|skip
  rename_i hc;have:=zxC hc;subst this;refine zzg ?_;cases r<;>first|(cases hc;done)|skip
  ·rw[show u=_ from hr];exact hk
  ·rw[hr.1];simp only[Cls.ok,qa32]at hk;simp only[V.on,qa32];exact⟨zqi hr.2.1 hk.1,zqi hr.2.2 hk.2⟩
  ·rw[show u=_ from hr];rfl
 |f a b=>
  simp only[Y.pk]at h;split at h<;>first|(cases h;done)|skip
  rename_i g a' b';split at h<;>first|(cases h;done)|skip
  rename_i hc;have e1:=zk0 hc.1;have e2:=zk0 hc.2;subst e1 e2;refine zzg ?_;rw[hr.1];simp only[Cls.ok,qa32]at hk;simp only[V.on,qa32];exact⟨zqi hr.2.1 hk.1,zqi hr.2.2 hk.2⟩
theorem pkC_on(hs:RelS x.st y):∀{rs:List R} {us:List V},RelRs y.s y.c rs us→∀{ks:List Cls} {l l':List V},ks.all (Cls.ok keep)=true→y.pkC fz rs ks l=some l'→∀u∈us,(frzV x.st fz u).on (keep.contains ·)=true
 |[],_,.nil,_,_,_,_,_=>by simp
 |r::rs,_,.cons (v:=u) (vs:=us) h1 h2,ks,l,l',hk,h=>by
  cases ks with
  |nil=>cases h
  |cons k ks=>
   simp only[Y.pkC]at h;split at h<;>first|(cases h;done)|skip
   rename_i l1 hl1;simp only[qa54,qa32]at hk;intro w hw;rcases qa53.1 hw with rfl|hw
   ·exact pk_on hs h1 hk.1 h
   ·exact pkC_on hs h2 hk.2 hl1 w hw
theorem pkT_on(h0:Rel x y):∀{ts:List (Nat×Cls)} {l l':List V},(ts.all fun p=>p.2.ok keep)=true→y.pkT fz ts l=some l'→∀p∈ts,(frzV x.st fz (x.env p.1)).on (keep.contains ·)=true
 |[],_,_,_,_=>by simp
 |(t,k)::ts,l,l',hk,h=>by
  simp only[Y.pkT]at h;split at h<;>first|(cases h;done)|skip
  rename_i l1 hl1;simp only[qa54,qa32]at hk;intro p hp;rcases qa53.1 hp with rfl|hp
  ·exact pk_on h0.s (h0.e t) hk.1 h
  ·exact pkT_on h0 hk.2 hl1 p hp
theorem zu8(h0:Rel x y):∀{es:List ECl} {l l':List V},es.all (ECl.ok keep)=true→y.pkE fz es l=some l'→∀e∈es,((x.frz fz).st e.id).on (keep.contains ·)=true
 |[],_,_,_,_=>by simp
 |.blk id T ks::es,l,l',hk,h=>by
  simp only[Y.pkE]at h;split at h<;>first|(cases h;done)|skip
  rename_i l1 hl1;split at h<;>first|(cases h;done)|skip
  rename_i T' cs hc;split at h<;>first|(cases h;done)|skip
  simp only[qa54,qa32]at hk;intro e he;rcases qa53.1 he with rfl|he
  ·have h1:=h0.s id;rw[hc]at h1;obtain⟨us,h2,h3⟩:=h1;have h4:=pkC_on h0.s h3 hk.1 h;have h5:(x.frz fz).st id=.blk T' (us.map (frzV x.st fz)):=by
    cases fz
    ·show x.st id=_;rw[h2];congr 1;exact(List.map_id us).symm
    ·show(x.st id).frz x.st=_;rw[h2];rfl
   show((x.frz fz).st id).on _=true;rw[h5];refine qa33.2 fun v hv=>?_;obtain⟨u,hu,rfl⟩:=qa55.1 hv;exact h4 u hu
  ·exact zu8 h0 hk.2 hl1 e he
 |.bv id T n::es,l,l',hk,h=>by
  simp only[Y.pkE]at h;split at h<;>first|(cases h;done)|skip
  rename_i l1 hl1;split at h<;>first|(cases h;done)|skip
  rename_i T' cs hc;split at h<;>first|(cases h;done)|skip
  split at h<;>first|(cases h;done)|skip
  rename_i vs hvs;simp only[qa54,qa32]at hk;intro e he;rcases qa53.1 he with rfl|he
  ·have h1:=h0.s id;rw[hc]at h1;obtain⟨us,h2,h3⟩:=h1;have key:us.map (frzV x.st fz)=vs∧wfs vs=true:=by
    cases fz
    ·obtain⟨e1,e2⟩:=zlP h3 hvs;subst e1;exact⟨List.map_id us,e2⟩
    ·exact ziV h0.s h3 hvs
   have h5:(x.frz fz).st id=.blk T' vs:=by
    rw[←key.1];cases fz
    ·show x.st id=_;rw[h2];congr 1;exact(List.map_id us).symm
    ·show(x.st id).frz x.st=_;rw[h2];rfl
   show((x.frz fz).st id).on _=true;rw[h5];exact qa33.2 fun v hv=>wf_on (zbf.1 key.2 v hv) _
  ·exact zu8 h0 hk.2 hl1 e he
 |.rq id T z::es,l,l',hk,h=>by
  simp only[Y.pkE]at h;split at h<;>first|(cases h;done)|skip
  rename_i l1 hl1;simp only[qa54,qa32]at hk;intro e he;rcases qa53.1 he with rfl|he
  ·have h1:=h0.s id;have key:∀{n:Ent},x.st id=n→(∀T cs,n≠.blk T cs)→((x.frz fz).st id).on (keep.contains ·)=true:=by
    intro n hn hb;have:((x.frz fz).st id)=n:=by
     cases fz
     ·exact hn
     ·show(x.st id).frz x.st=_;rw[hn];cases n<;>first|rfl|exact absurd rfl (hb _ _)
    rw[this];cases n<;>first|rfl|exact absurd rfl (hb _ _)
   split at h
   ·rename_i hg;rw[hg]at h1;exact key h1 (by simp)
   ·rename_i hg;rw[hg]at h1;rcases h1.2 with⟨xs,_,_,h6⟩|⟨_,h6⟩
    ·exact key h6 (by simp)
    ·exact key h6 (by simp)
   ·cases h
  ·exact zu8 h0 hk.2 hl1 e he
theorem zqa(h0:Rel x y){A:LA}{n:Nat}{l:List V}(ha:A.ok n=true)(h:y.pack A=some l):zru n (A.ts.map (·.1)) (A.es.map ECl.id) (x.frz A.fz):=by
 unfold Y.pack at h;split at h<;>first|(cases h;done)|skip
 rename_i l1 hl1;unfold LA.ok at ha;simp only[qa32]at ha;obtain⟨⟨h1,h2⟩,h3⟩:=ha;refine⟨h1,qa33.2 fun t ht=>?_,qa33.2 fun i hi=>?_⟩
 ·obtain⟨p,hp,rfl⟩:=qa55.1 ht;have:=pkT_on h0 h2 h p hp;cases hf:A.fz<;>rw[hf]at this<;>exact this
 ·obtain⟨e,he,rfl⟩:=qa55.1 hi;exact zu8 h0 h3 hl1 e he
end
section
variable{P:Program}{G:Nat→V}{c:Orc}{lp:Lup}{n:Nat}{A:List LA}{KP:V→(Nat→Ent)→Prop}
theorem zlo{Z:Type}{o:Option Z}{s:Stp Z}(h:om o=some s):∃z,s=.out z∧o=some z:=by
 unfold om at h;split at h<;>first|(cases h;done)|skip
 cases h;exact⟨_,rfl,rfl⟩
mutual
theorem zuB:∀{a b:V},veq a b=true→a=b
 |.bool _,b,h=>by cases b<;>simp_all [veq]
 |.int _ _,b,h=>by cases b<;>simp_all [veq]
 |.str _,b,h=>by cases b<;>simp_all [veq]
 |.list _,b,h=>by
  cases b<;>first|(simp[veq]at h;done)|skip
  simp only[veq]at h;rw[zme h]
 |.agg _,b,h=>by
  cases b<;>first|(simp[veq]at h;done)|skip
  simp only[veq]at h;rw[zme h]
 |.tup _,b,h=>by
  cases b<;>first|(simp[veq]at h;done)|skip
  simp only[veq]at h;rw[zme h]
 |.nils,b,h=>by cases b<;>simp_all [veq]
 |.nilp,b,h=>by cases b<;>simp_all [veq]
 |.niface,b,h=>by cases b<;>simp_all [veq]
 |.undef,b,h=>by cases b<;>simp_all [veq]
 |.iface _ _,b,h=>by
  cases b<;>first|(simp[veq]at h;done)|skip
  simp only[veq,qa32,beq_iff_eq]at h;rw[h.1,zuB h.2]
 |.ip _ _,b,h=>by
  cases b<;>first|(simp[veq]at h;done)|skip
  simp only[veq,qa32,beq_iff_eq]at h;rw[h.2,zuB h.1]
 |.any,b,h=>by cases b<;>simp[veq]at h
 |.ptr _ _,b,h=>by cases b<;>simp[veq]at h
 |.row _ _,b,h=>by cases b<;>simp[veq]at h
 |.fn _ _ _,b,h=>by cases b<;>simp[veq]at h
theorem zme:∀{a b:List V},veqs a b=true→a=b
 |[],b,h=>by cases b<;>simp_all [veqs]
 |x::a,b,h=>by
  cases b with
  |nil=>simp[veqs]at h
  |cons w b=>
   simp only[veqs,qa32]at h;rw[zuB h.1,zme h.2]
end
theorem zzB{Z:Type}{eq:Z→Z→Bool}(hq:∀a b,eq a b=true→a=b):∀a b,eqS eq a b=true→a=b:=by
 intro a b h;cases a<;>cases b<;>first|(cases h;done)|skip
 ·rw[zme h]
 ·rw[hq _ _ h]
theorem zvL(hc:Sound P G c)(hl:LpOk lp):∀(code:C) {o:Nat} {Z:Type} {eq:Z→Z→Bool} {x:X} {y:Y} {K:PEx→Y→Option Z} {Kp:V→Y→Option Z} {r:Z} {Q:PEx→X→Prop} {KP:V→(Nat→Ent)→Prop},(∀a b,eq a b=true→a=b)→Rel x y →
  evC P c lp n A code o Z eq y K Kp=some r→(∀pe x' y',Rel x' y'→K pe y'=some r→Q pe x')→(∀v st y',RelS st y'→wf v=true→Kp v y'=some r→KP v st)→wpC P G n KP code Q x:=by
 intro code;induction code with
 |skip=>intro o Z eq x y K Kp r Q KP hq h he hK hP;exact hK _ _ _ h he
 |ret=>intro o Z eq x y K Kp r Q KP hq h he hK hP;exact hK _ _ _ h he
 |exit i=>intro o Z eq x y K Kp r Q KP hq h he hK hP;exact hK _ _ _ h he
 |reg t=>intro o Z eq x y K Kp r Q KP hq h he hK hP;exact evR_ok hc hq h he (hK .normal) hP
 |scope b ih=>intro o Z eq x y K Kp r Q KP hq h he hK hP;exact ih hq h he hK hP
 |seq a b iha ihb=>
  intro o Z eq x y K Kp r Q KP hq h he hK hP;refine iha hq h he (fun pe x' y' h' he'=>?_) hP;cases pe with
  |normal=>exact ihb hq h' he' hK hP
  |exit i=>exact hK _ _ _ h' he'
  |ret=>exact hK _ _ _ h' he'
 |cond t a b iha ihb=>
  intro o Z eq x y K Kp r Q KP hq h he hK hP;obtain⟨v,y',h1,h2,h3⟩:=zzU h he;simp only[wpC,h1];cases v
  ·exact ihb hq h2 h3 hK hP
  ·exact iha hq h2 h3 hK hP
 |block id b ih=>
  intro o Z eq x y K Kp r Q KP hq h he hK hP;refine ih hq h he (fun pe x' y' h' he'=>?_) hP;cases pe with
  |normal=>exact hK _ _ _ h' he'
  |exit i=>
   simp only[zz2];dsimp only at he';split at he'
   ·rename_i e;rw[if_pos e];exact hK _ _ _ h' he'
   ·rename_i e;rw[if_neg e];exact hK _ _ _ h' he'
  |ret=>exact hK _ _ _ h' he'
 |loop b ih=>
  intro o Z eq x y K Kp r Q KP hq h he hK hP;simp only[evC]at he;split at he<;>first|(cases he;done)|skip
  rename_i a ha;split at he<;>first|(cases he;done)|skip
  rename_i hok;split at he<;>first|(cases he;done)|skip
  rename_i l0 hl0;obtain⟨m0,hm0⟩:=hl _ _ _ _ he;generalize hF:(fun l=>evC P c lp n A b (o+1) (Stp Z) (eqS eq) (unpk a l) (fun e y=>match e with|.normal=>(match y.pack a with|some l=>some (Stp.next l)|none=>none)|.exit i=>om (K (.exit i) y)|.ret=>om (K .ret y)) (fun v y=>om (Kp v y)))=F at hm0;refine⟨a.fz,a.ts.map (·.1),a.es.map ECl.id,fun z=>∃m l,it m Z F l=some r∧Rel z (unpk a l),fun z=>zwB fun m=>∃l,it m Z F l=some r∧Rel z (unpk a l),zqa h hok hl0,⟨m0,l0,hm0,zyc h hl0⟩, ?_⟩;rintro z ⟨m1,l1,h1,h2⟩;obtain⟨⟨l,h3,h4⟩,_⟩:=zqf (p:=fun m=>∃l,it m Z F l=some r∧Rel z (unpk a l)) ⟨l1,h1,h2⟩;generalize hm:(zwB fun m=>∃l,it m Z F l=some r∧Rel z (unpk a l))=m at h3 ⊢;cases m with
  |zero=>cases h3
  |succ m=>
   simp only[it]at h3;split at h3<;>first|(cases h3;done)|skip
   ·rename_i l' hl';rw[←hF]at hl';refine ih (zzB hq) h4 hl' (fun pe x' y' h' he'=>?_) (fun v st y' hs hv he'=>?_)
    ·cases pe with
     |normal=>
      dsimp only at he';split at he'<;>first|(cases he';done)|skip
      rename_i l2 hl2;cases he';have hr:=zyc h' hl2;have hw:∃l,it m Z F l=some r∧Rel (scrub (a.ts.map (·.1)) (a.es.map ECl.id) (x'.frz a.fz)) (unpk a l):=⟨_,h3,hr⟩;refine⟨zqa h' hok hl2,⟨m,hw⟩, ?_⟩;dsimp only;rw[hm];exact(Nat.lt_succ_of_le (zqf (p:=fun m=>∃l,it m Z F l=some r∧Rel (scrub (a.ts.map (·.1)) (a.es.map ECl.id) (x'.frz a.fz)) (unpk a l)) hw).2)
     |exit i=>obtain⟨z',e,_⟩:=zlo he';cases e
     |ret=>obtain⟨z',e,_⟩:=zlo he';cases e
    ·obtain⟨z',e,_⟩:=zlo he';cases e
   ·rename_i r' hl';cases h3;rw[←hF]at hl';refine ih (zzB hq) h4 hl' (fun pe x' y' h' he'=>?_) (fun v st y' hs hv he'=>?_)
    ·cases pe with
     |normal=>
      dsimp only at he';split at he'<;>first|(cases he';done)|skip
     |exit i=>obtain⟨z',e,h5⟩:=zlo he';cases e;exact hK _ _ _ h' h5
     |ret=>obtain⟨z',e,h5⟩:=zlo he';cases e;exact hK _ _ _ h' h5
    ·obtain⟨z',e,h5⟩:=zlo he';cases e;exact hP _ _ _ hs hv h5
end
end
section
open Go Go.RowKit
theorem zrL:∀{a b:List Ent},eeqs a b=true→a=b
 |[],[],_=>rfl
 |[],_::_,h=>by cases h
 |_::_,[],h=>by cases h
 |x::a,w::b,h=>by
  simp only[eeqs,qa32]at h;rw[zrL h.2];have h1:=h.1;cases x<;>cases w<;>first|(cases h1;done)|skip
  simp only[eeq,qa32,beq_iff_eq]at h1;rw[h1.1,zme h1.2]
theorem zyl:∀(a b:Out),oeq a b=true→a=b:=by
 rintro⟨a,l⟩ ⟨b,m⟩ h;cases a<;>cases b<;>first|(cases h;done)|skip
 all_goals
  simp only[oeq,qa32]at h;rw[zuB h.1,zrL h.2]
section
variable{P:Program}{G:Nat→V}{c:Orc}{lp:Lup}{A:List LA}
theorem relR_arg{s:Nat→EN}{k n:Nat}{v:V}(h:argOk n v):RelR s k (argR v) v:=by
 have rs:∀(l:List V),(∀w∈l,wf w=true∨∃i o,w=.ptr i o∧i<n)→(l.map argS).map RS.v=l∧∀r∈(l.map argS),r.ok:=by
  intro l hl;constructor
  ·rw[List.map_map];refine(qa17 fun v _=>?_).trans (List.map_id l);cases v<;>rfl
  ·intro r hr;obtain⟨w,hw,rfl⟩:=qa55.1 hr;rcases hl w hw with h1|⟨i,o,rfl,_⟩
   ·cases w<;>first|exact h1|trivial
   ·trivial
 cases v<;>first|exact⟨rfl,h⟩|skip
 ·rfl
 ·rename_i f a b;have h:∀w∈a++b,wf w=true∨∃i o,w=.ptr i o∧i<n:=h;obtain⟨h1,h2⟩:=rs a fun w hw=>h w (by simp[hw]);obtain⟨h3,h4⟩:=rs b fun w hw=>h w (by simp[hw]);exact⟨by show V.fn f a b=V.fn f (List.map RS.v _) (List.map RS.v _);rw[h1,h3],h2,h4⟩
theorem zoB{args:List V}{ents:List Ent}(ha:∀v∈args,argOk ents.length v)(he:∀e∈ents,wfE e):Rel (zft args ents) (strY (args.map argR) ents):=by
 refine⟨fun t=>?_,fun id=>?_⟩
 ·have h1:(zft args ents).env t=args.getD t .any:=znP args t;rw[h1];show RelR _ _ ((args.map argR).getD t .u) _;by_cases ht:t<args.length
  ·simp only[qa8,qa24,qa11 ht,qa46,Option.getD_some];exact relR_arg (ha _ (qa36 ht))
  ·simp only[qa8,qa24,List.getElem?_eq_none (Nat.le_of_not_lt ht),Option.map_none,Option.getD_none];trivial
 ·have h1:(zft args ents).st id=ents.getD id .gone:=zlT ents id;rw[h1];show RelE _ _ (entN (ents.getD id .gone)) _;by_cases ht:id<ents.length
  ·simp only[qa8,qa11 ht,Option.getD_some];have h2:=he _ (qa36 ht);generalize ents[id]=e at h2;cases e with
   |blk T cs=>exact⟨cs,rfl,zmD h2⟩
   |_=>exact h2.elim
  ·simp only[qa8,List.getElem?_eq_none (Nat.le_of_not_lt ht),Option.getD_none];rfl
theorem rv_ok{x:X}{y:Y}(h:Rel x y){r:RV}{v:V}(hv:y.rv r=some v):rvV x r=v∧wf v=true:=by
 cases r with
 |tmp t=>
  simp only[Y.rv]at hv;split at hv<;>first|(cases hv;done)|skip
  rename_i u hu;cases hv;obtain⟨h1,h2⟩:=zd9 h.s (h.e t) hu;exact⟨by rw[rvV,h1],zf8 h2⟩
 |cell t ag n=>
  simp only[Y.rv]at hv;have h0:=h.e t;split at hv<;>first|(cases hv;done)|skip
  ·rename_i id off ht;rw[ht]at h0;have h0:x.env t=.ptr id off:=h0;split at hv<;>first|(cases hv;done)|skip
   rename_i T cs hs;have h1:=h.s id;rw[hs]at h1;obtain⟨us,h2,h3⟩:=h1;split at hv
   ·split at hv<;>first|(cases hv;done)|skip
    rename_i hl;split at hv<;>first|(cases hv;done)|skip
    rename_i vs hvs;cases hv;obtain⟨h4,h5⟩:=ziV h.s ((h3.drop off).take n) hvs;refine⟨?_,zf8 (by simpa[wf]using h5)⟩;have hsem:semM 0 (.load true n (.t t)) x.env x.st=some (.agg vs,[]):=by
     simp only[semM,O.ev,h0,h2,h4];rw[if_pos ⟨by rw[←((h3.drop off).take n).length];exact hl,qa33.2 fun v hv=>zfV (zbf.1 h5 v hv)⟩]
    simp only[rvV,hsem];rfl
   ·split at hv<;>first|(cases hv;done)|skip
    rename_i r hr;split at hv<;>first|(cases hv;done)|skip
    rename_i u hu;cases hv;obtain⟨w,h4,h5⟩:=h3.get hr;obtain⟨h6,h7⟩:=zd9 h.s h5 hu;refine⟨?_,zf8 h7⟩;have hsem:semM 0 (.load false n (.t t)) x.env x.st=some (w,[]):=by simp only[semM,O.ev,h0,h2,h4,one1]
    simp only[rvV,hsem,h6]
  ·rename_i w off ht;rw[ht]at h0;split at hv<;>first|(cases hv;done)|skip
   rename_i u hu;cases hv;have h7:=ldV_wf h0.2 hu;refine⟨?_,zf8 h7⟩;simp only[rvV,zyV (slot:=0) (x:=x) (a:=.t t) h0.1 hu,wf_res x.st h7]
theorem rvs_ok{x:X}{y:Y}(h:Rel x y):∀{l:List RV} {vs:List V},y.rvs l=some vs→(l.map fun t=>rvV x t)=vs∧wfs vs=true
 |[],_,h=>by cases h;exact⟨rfl,rfl⟩
 |r::l,vs,hv=>by
  simp only[Y.rvs]at hv;split at hv<;>first|(cases hv;done)|skip
  rename_i v h1;split at hv<;>first|(cases hv;done)|skip
  rename_i vs' h2;cases hv;obtain⟨a1,a2⟩:=rv_ok h h1;obtain⟨b1,b2⟩:=rvs_ok h h2;exact⟨by rw[qa52,a1,b1],by simp[wfs,a2,b2]⟩
theorem zt5{x:X}{y:Y}(h:Rel x y){l:List RV}{v:V}(hv:y.outs l=some v):outV l x=v∧zsQ l x=true:=by
 unfold Y.outs at hv;split at hv
 ·rename_i r;obtain⟨h1,h2⟩:=rv_ok h hv;exact⟨h1,by simp only[zsQ,h1];exact zfV h2⟩
 ·rename_i hne;split at hv<;>first|(cases hv;done)|skip
  rename_i vs hvs;cases hv;obtain⟨h1,h2⟩:=rvs_ok h hvs;constructor
  ·unfold outV;split
   ·exact absurd rfl (hne _)
   ·rw[h1]
  ·unfold zsQ;split
   ·exact absurd rfl (hne _)
   ·rw[qa33];intro t ht;have:rvV x t∈vs:=by rw[←h1];exact qa55.2 ⟨t,ht,rfl⟩
    exact zfV (zbf.1 h2 _ this)
theorem zoW{x:X}{y:Y}(h:RelS x.st y){n:Nat}{es:List Ent}(he:y.entL (List.range n)=some es):lentOf n x.st=es∧zjm n x.st:=by
 obtain⟨h1,h2⟩:=zjd h he;refine⟨h1.symm,qa33.2 fun e he=>?_⟩;exact zpD (h2 e (by rw[h1];exact he)) _
theorem sg_le{n s:Nat}(hn:n≤s):∀{σ:List (Nat×Nat)},(σ.all fun p=>decide (n≤p.2))=true→∀k,s≤k→n≤sg σ k
 |[],_,k,hk=>qa56 hn hk
 |(a,b)::r,h,k,hk=>by
  simp only[qa54,qa32,qa25]at h;unfold sg;split
  ·exact h.1
  ·exact sg_le hn h.2 k hk
theorem evF_ok(hc:Sound P G c)(hl:LpOk lp){σ:List (Nat×Nat)}{s:Nat}{f:FuncId}{args:List V}{ents:List Ent}{o:POut}{es:List Ent}(ha:∀v∈args,argOk ents.length v)(he:∀e∈ents,wfE e)(h:evF P G c lp σ s A f (args.map argR) ents=some (o,es)):
  zes P G f args ents fun o' es'=>o'=o∧es'=es:=by
 unfold evF at h;split at h<;>first|(cases h;done)|skip
 rename_i F hF;split at h<;>first|(cases h;done)|skip
 rename_i hlen;simp only[qa44]at hlen;refine zx9 hF (sg_le hlen.1.1 hlen.1.2) hlen.2 (zvL hc hl F.code zyl (zoB ha he) h (fun pe x' y' hr hk=>?_) (fun v st y' hr hv hk=>?_))
 ·have fin:finK ents.length F.res .ret y'=some (o,es)→(POut.ret (outV F.res x')=o∧lentOf ents.length x'.st=es)∧zsQ F.res x'=true∧zjm ents.length x'.st:=by
   intro hk;simp only[finK]at hk;split at hk<;>first|(cases hk;done)|skip
   rename_i v es' h1 h2;cases hk;obtain⟨a1,a2⟩:=zt5 hr h1;obtain⟨b1,b2⟩:=zoW hr.s h2;exact⟨⟨by rw[a1],b1⟩,a2,b2⟩
  cases pe with
  |normal=>exact fin hk
  |exit i=>cases hk
  |ret=>exact fin hk
 ·unfold finP at hk;split at hk<;>first|(cases hk;done)|skip
  rename_i es' h2;cases hk;obtain⟨b1,b2⟩:=zoW (x:=⟨fun _=>.any,st⟩) hr h2;exact⟨⟨rfl,b1⟩,b2⟩
end
end
section
open Go Go.RowKit
def Evt{Z:Type}(f:Nat→Option Z)(r:Z):Prop:=∃N,∀n,N≤n→f n=some r
def Tds{Z:Type}(f:Nat→Option Z)(o:Option Z):Prop:=∀r,o=some r→Evt f r
theorem Evt.and{Z Z':Type}{f:Nat→Option Z}{g:Nat→Option Z'}{r:Z}{s:Z'}(h:Evt f r)(h':Evt g s):∃N,∀n,N≤n→f n=some r∧g n=some s:=by
 obtain⟨N,h⟩:=h;obtain⟨M,h'⟩:=h';exact⟨max N M,fun n hn=>⟨h n (by omega),h' n (by omega)⟩⟩
theorem Evt.of{Z Z':Type}{f:Nat→Option Z}{g:Nat→Option Z'}{r:Z}{s:Z'}(h:Evt f r)(e:∀n,f n=some r→g n=some s):Evt g s:=by
 obtain⟨N,h⟩:=h;exact⟨N,fun n hn=>e n (h n hn)⟩
section
variable{Z:Type}{P:Program}{c:Nat→Orc}{c0:Orc}{lp:Nat→Lup}{lp0:Lup}{n0:Nat}{A:List LA}
theorem zqP{v:V}{f g:Nat→Option Z}{o p:Option Z}(hf:Tds f o)(hg:Tds g p):Tds (fun n=>cnd v (f n) (g n)) (cnd v o p):=by
 intro r h;obtain⟨b,rfl,h⟩:=zl4 h;cases b
 ·exact(hg r h).of fun n e=>e
 ·exact(hf r h).of fun n e=>e
theorem tds_cndT{t:O}{y:Y}{f g:Nat→Y→Option Z}{o p:Y→Option Z}(hf:∀y,Tds (fun n=>f n y) (o y))(hg:∀y,Tds (fun n=>g n y) (p y)):Tds (fun n=>cndT t y (f n) (g n)) (cndT t y o p):=by
 unfold cndT;cases t with
 |t n=>
  dsimp only;split
  ·exact zqP (hf _) (hg _)
  ·intro r h;cases h
 |c v=>exact zqP (hf _) (hg _)
theorem zqR{v:V}{f:Nat→Option Z}{o:Option Z}(hf:Tds f o):Tds (fun n=>ck1 v (f n)) (ck1 v o):=fun r h=>by
 obtain⟨h1,h2⟩:=zkq h;exact(hf r h2).of fun n e=>by rw[ck1,if_pos h1,e]
theorem zqQ{k:Nat}{v:V}{f:Nat→Option Z}{o:Option Z}(hf:Tds f o):Tds (fun n=>ckA k v (f n)) (ckA k v o):=fun r h=>by
 obtain⟨h1,h2⟩:=zkp h;exact(hf r h2).of fun n e=>by rw[ckA,if_pos h1,e]
theorem tds_ckN{k:Nat}{v:V}{f:Nat→Option Z}{o:Option Z}(hf:Tds f o):Tds (fun n=>ckN k v (f n)) (ckN k v o):=by
 unfold ckN;split
 ·exact zqR hf
 ·exact zqQ hf
theorem tds_ckE{T k:Nat}{e:Ent}{f:Nat→Option Z}{o:Option Z}(hf:Tds f o):Tds (fun n=>ckE T k e (f n)) (ckE T k e o):=fun r h=>by
 obtain⟨⟨cs,rfl,h1,h3⟩,h2⟩:=zvZ h;exact(hf r h2).of fun n e=>by simp only[ckE,h1,h3,and_self,qa60,e]
theorem tds_bind{o:Option V}{f:Nat→V→Option Z}{p:V→Option Z}(hf:∀v,Tds (fun n=>f n v) (p v)):Tds (fun n=>o.bind (f n)) (o.bind p):=fun r h=>by
 obtain⟨v,rfl,h2⟩:=bind_some h;exact(hf v r h2).of fun n e=>e
theorem za3{f:Nat→Option Z}:Tds f none:=fun _ h=>by cases h
theorem ztz{y:Y}:∀{ps:List (Nat×Nat×O)} {cs:List V} {f:Nat→List V→Option Z} {p:List V→Option Z},(∀v,Tds (fun n=>f n v) (p v))→Tds (fun n=>bldY y cs ps (f n)) (bldY y cs ps p)
 |[],cs,f,p,h=>h cs
 |(off,k,o)::r,cs,f,p,h=>by
  simp only[bldY];split
  ·split
   ·refine zqR ?_;split
    ·exact ztz h
    ·exact za3
   ·refine zqQ ?_;split
    ·exact ztz h
    ·exact za3
  ·exact za3
theorem znz{y:Y}:∀{ps:List (Nat×Nat×O)} {cs:List RK} {f:Nat→List RK→Option Z} {p:List RK→Option Z},(∀v,Tds (fun n=>f n v) (p v))→Tds (fun n=>bldK y cs ps (f n)) (bldK y cs ps p)
 |[],cs,f,p,h=>h cs
 |(off,k,o)::r,cs,f,p,h=>by
  simp only[bldK];split
  ·split
   ·split
    ·exact znz h
    ·exact za3
   ·exact za3
  ·split
   ·refine zqR ?_;split
    ·exact znz h
    ·exact za3
   ·refine zqQ ?_;split
    ·exact znz h
    ·exact za3
  ·exact za3
theorem zxl{y:Y}{z:Nat}:∀{ps:List O} {cs:List V} {f:Nat→List V→Option Z} {p:List V→Option Z},(∀v,Tds (fun n=>f n v) (p v))→Tds (fun n=>sliY y z ps cs (f n)) (sliY y z ps cs p)
 |[],cs,f,p,h=>h cs
 |o::r,cs,f,p,h=>by
  simp only[sliY];split
  ·exact tds_ckN (zxl h)
  ·exact za3
theorem zqS{es:List Ent}:∀{ids:List Nat} {j:Nat} {y:Y} {f:Nat→Y→Option Z} {p:Y→Option Z},(∀y,Tds (fun n=>f n y) (p y))→Tds (fun n=>ztt es ids j y (f n)) (ztt es ids j y p)
 |[],j,y,f,p,h=>h y
 |i::l,j,y,f,p,h=>tds_ckE (zqS h)
theorem zxp(hc:∀g a e,Tds (fun n=>c n g a e) (c0 g a e)){g:FuncId}{args:List V}{ents:List Ent}{f fp:Nat→V→List Ent→Option Z}{p pp:V→List Ent→Option Z}(h:∀v e,Tds (fun n=>f n v e) (p v e))(hp:∀v e,Tds (fun n=>fp n v e) (pp v e)):
  Tds (fun n=>cal (c n) g args ents (f n) (fp n)) (cal c0 g args ents p pp):=by
 intro r hr;unfold cal at hr;split at hr<;>first|(cases hr;done)|skip
 ·rename_i v es ho;obtain⟨N,hN⟩:=(hc _ _ _ _ ho).and (h v es r hr);exact⟨N,fun n hn=>by simp only[cal,(hN n hn).1,(hN n hn).2]⟩
 ·rename_i v es ho;obtain⟨N,hN⟩:=(hc _ _ _ _ ho).and (hp v es r hr);exact⟨N,fun n hn=>by simp only[cal,(hN n hn).1,(hN n hn).2]⟩
variable{K:Nat→R→Y→Option Z}{Kp:Nat→V→Y→Option Z}{K0:R→Y→Option Z}{Kp0:V→Y→Option Z}
theorem tds_call(hc:∀g a e,Tds (fun n=>c n g a e) (c0 g a e)){b:Bool}{f:O}{args:List O}{av:List Nat}{y:Y}{K:Nat→V→Y→Option Z}{K0:V→Y→Option Z}(hK:∀r y,Tds (fun n=>K n r y) (K0 r y))(hP:∀v y,Tds (fun n=>Kp n v y) (Kp0 v y)):
  Tds (fun n=>zqp (c n) b f args av y (K n) (Kp n)) (zqp c0 b f args av y K0 Kp0):=by
 unfold zqp;split
 ·dsimp only;split
  ·split
   ·split
    ·exact zxp hc (fun v _=>hK v _) (fun v _=>hP v _)
    ·exact zxp hc (fun v _=>zqS (hK v)) (fun v _=>zqS (hP v))
   ·exact za3
  ·exact za3
 ·exact za3
set_option maxHeartbeats 1000000 in
theorem zty(hc:∀g a e,Tds (fun n=>c n g a e) (c0 g a e)){slot:Nat}{m:M}{av:List Nat}{y:Y}(hK:∀r y,Tds (fun n=>K n r y) (K0 r y))(hP:∀v y,Tds (fun n=>Kp n v y) (Kp0 v y)):
  Tds (fun n=>evM P (c n) slot m av y (K n) (Kp n)) (evM P c0 slot m av y K0 Kp0):=by
 cases m
 case call b f args=>exact tds_call hc (fun v y=>hK _ y) hP
 case pick o a b=>
  simp only[evM];exact tds_cndT (fun y=>hK (y.er a) y) (fun y=>hK (y.er b) y)
 all_goals
  simp only[evM]
  repeat' (first|exact hK _ _|exact hP _ _|exact za3|refine tds_bind fun v=>?_|refine ztz fun v=>?_|refine znz fun v=>?_|refine zxl fun v=>?_|refine zqR ?_|refine zqQ ?_|split)
theorem tds_evS(hc:∀g a e,Tds (fun n=>c n g a e) (c0 g a e)){mo:MO}{y:Y}{K:Nat→Y→Option Z}{K0:Y→Option Z}(hK:∀y,Tds (fun n=>K n y) (K0 y))(hP:∀v y,Tds (fun n=>Kp n v y) (Kp0 v y)):
  Tds (fun n=>evS P (c n) mo y (K n) (Kp n)) (evS P c0 mo y K0 Kp0):=by
 unfold evS;split
 ·exact zty hc (fun r y=>hK _) hP
 ·split
  ·exact hK _
  ·split
   ·exact zqP (zty hc (fun r y=>hK _) hP) (hK _)
   ·exact zqP (hK _) (zty hc (fun r y=>hK _) hP)
  ·exact za3
theorem tds_evR(hc:∀g a e,Tds (fun n=>c n g a e) (c0 g a e)){eq:Z→Z→Bool}:∀{t:RT} {y:Y} {K:Nat→Y→Option Z} {K0:Y→Option Z},(∀y,Tds (fun n=>K n y) (K0 y))→(∀v y,Tds (fun n=>Kp n v y) (Kp0 v y)) →
  Tds (fun n=>evR P (c n) eq t y (K n) (Kp n)) (evR P c0 eq t y K0 Kp0)
 |.done,y,K,K0,hK,hP=>hK y
 |.step mo t,y,K,K0,hK,hP=>tds_evS hc (fun y=>tds_evR hc hK hP) hP
 |.alt a b,y,K,K0,hK,hP=>by
  intro r h;simp only[evR,agr]at h;split at h<;>first|(cases h;done)|skip
  rename_i u v hu hv;split at h<;>first|(cases h;done)|skip
  rename_i huv;cases h;obtain⟨N,hN⟩:=(tds_evR hc hK hP _ hu).and (tds_evR hc hK hP _ hv);exact⟨N,fun n hn=>by simp only[evR,agr,(hN n hn).1,(hN n hn).2,huv,qa60]⟩
 |.bad,_,_,_,_,_=>za3
theorem zxm{f:Nat→Option Z}{o:Option Z}(hf:Tds f o):Tds (fun n=>om (f n)) (om o):=fun r h=>by
 obtain⟨z,rfl,h2⟩:=zlo h;exact(hf z h2).of fun n e=>by simp only[e,om]
def LpT(lp:Nat→Lup)(lp0:Lup):Prop:=∀(Z:Type) (F:Nat→List V→Option (Stp Z)) (F0:List V→Option (Stp Z)),(∀l,Tds (fun n=>F n l) (F0 l))→∀l,Tds (fun n=>lp n Z (F n) l) (lp0 Z F0 l)
theorem zqO(hc:∀g a e,Tds (fun n=>c n g a e) (c0 g a e))(hl:LpT lp lp0):∀(code:C) {o:Nat} {Z:Type} {eq:Z→Z→Bool} {y:Y} {K:Nat→PEx→Y→Option Z} {K0:PEx→Y→Option Z} {Kp:Nat→V→Y→Option Z} {Kp0:V→Y→Option Z},(∀e y,Tds (fun n=>K n e y) (K0 e y))→(∀v y,Tds (fun n=>Kp n v y) (Kp0 v y)) →
  Tds (fun n=>evC P (c n) (lp n) n0 A code o Z eq y (K n) (Kp n)) (evC P c0 lp0 n0 A code o Z eq y K0 Kp0):=by
 intro code;induction code with
 |skip=>intro o Z eq y K K0 Kp Kp0 hK hP;exact hK _ _
 |ret=>intro o Z eq y K K0 Kp Kp0 hK hP;exact hK _ _
 |exit i=>intro o Z eq y K K0 Kp Kp0 hK hP;exact hK _ _
 |reg t=>intro o Z eq y K K0 Kp Kp0 hK hP;exact tds_evR hc (hK _) hP
 |scope b ih=>intro o Z eq y K K0 Kp Kp0 hK hP;exact ih hK hP
 |seq a b iha ihb=>
  intro o Z eq y K K0 Kp Kp0 hK hP;refine iha (fun e y=>?_) hP;cases e with
  |normal=>exact ihb hK hP
  |exit i=>exact hK _ _
  |ret=>exact hK _ _
 |cond t a b iha ihb=>intro o Z eq y K K0 Kp Kp0 hK hP;exact tds_cndT (fun y=>iha hK hP) (fun y=>ihb hK hP)
 |block id b ih=>
  intro o Z eq y K K0 Kp Kp0 hK hP;refine ih (fun e y=>?_) hP;cases e with
  |normal=>exact hK _ _
  |exit i=>
   dsimp only;split
   ·exact hK _ _
   ·exact hK _ _
  |ret=>exact hK _ _
 |loop b ih=>
  intro o Z eq y K K0 Kp Kp0 hK hP;simp only[evC];split
  ·split
   ·split
    ·refine hl _ _ _ (fun l=>ih (fun e y=>?_) (fun v y=>zxm (hP v y))) _;cases e with
     |normal=>intro r h;exact⟨0,fun n _=>h⟩
     |exit i=>exact zxm (hK _ _)
     |ret=>exact zxm (hK _ _)
    ·exact za3
   ·exact za3
  ·exact za3
theorem zxo(hc:∀g a e,Tds (fun n=>c n g a e) (c0 g a e))(hl:LpT lp lp0){G:Nat→V}{σ:List (Nat×Nat)}{s:Nat}{f:FuncId}{args:List R}{ents:List Ent}:Tds (fun n=>evF P G (c n) (lp n) σ s A f args ents) (evF P G c0 lp0 σ s A f args ents):=by
 unfold evF;split
 ·split
  ·exact zqO hc hl _ (fun e y r h=>⟨0,fun _ _=>h⟩) (fun v y r h=>⟨0,fun _ _=>h⟩)
  ·exact za3
 ·exact za3
end
open Classical in
def lup:Lup:=fun Z F l=>if h:∃r,∃n,it n Z F l=some r then some h.choose else none
theorem it_mono{Z:Type}{F:List V→Option (Stp Z)}{r:Z}:∀{n m:Nat} {l:List V},n≤m→it n Z F l=some r→it m Z F l=some r
 |0,_,_,_,h=>by cases h
 |n+1,0,_,hle,_=>by omega
 |n+1,m+1,l,hle,h=>by
  simp only[it]at h ⊢;split at h<;>first|(cases h;done)|skip
  ·rename_i l' hl;exact it_mono (by omega) h
  ·exact h
theorem lup_some{Z:Type}{F:List V→Option (Stp Z)}{l:List V}{r:Z}:lup Z F l=some r↔∃n,it n Z F l=some r:=by
 unfold lup;constructor
 ·intro h;split at h<;>first|(cases h;done)|skip
  rename_i hx;cases h;exact hx.choose_spec
 ·rintro⟨n,h⟩;rw[dif_pos ⟨r,n,h⟩];obtain⟨m,hm⟩:=(Exists.choose_spec (⟨r,n,h⟩:∃r,∃n,it n Z F l=some r));have h1:=it_mono (Nat.le_max_left n m) h;have h2:=it_mono (Nat.le_max_right n m) hm;rw[h1]at h2;exact h2.symm
def stp{Z:Type}(L:List V→Option Z)(s:Option (Stp Z)):Option Z:=match s with
 |some (.next l)=>L l
 |some (.out z)=>some z
 |none=>none
theorem zan(Z:Type)(F:List V→Option (Stp Z))(l:List V):lup Z F l=stp (lup Z F) (F l):=by
 have key:∀r,lup Z F l=some r↔stp (lup Z F) (F l)=some r:=by
  intro r;rw[lup_some];constructor
  ·rintro⟨n,h⟩;cases n with
   |zero=>cases h
   |succ n=>
    simp only[it]at h;split at h<;>first|(cases h;done)|skip
    ·rename_i l' hl;rw[hl];exact lup_some.2 ⟨n,h⟩
    ·rename_i z hl;rw[hl];exact h
  ·intro h;unfold stp at h;split at h<;>first|(cases h;done)|skip
   ·rename_i l' hl;obtain⟨n,h⟩:=lup_some.1 h;exact⟨n+1,by simp only[it,hl,h]⟩
   ·rename_i z hl;exact⟨1,by simp only[it,hl,h]⟩
 cases h:stp (lup Z F) (F l)with
 |some r=>exact(key r).2 h
 |none=>
  cases h2:lup Z F l with
  |none=>rfl
  |some r=>rw[(key r).1 h2]at h;cases h
theorem zyN:LpT it lup:=by
 intro Z F F0 hF l r h;obtain⟨k,hk⟩:=lup_some.1 h;clear h;have key:∀(k:Nat)(l:List V),it k Z F0 l=some r→∃N,∀n,N≤n→∀j,k≤j→it j Z (F n) l=some r:=by
  intro k;induction k with
  |zero=>intro l h;cases h
  |succ k ih=>
   intro l h;simp only[it]at h;split at h<;>first|(cases h;done)|skip
   ·rename_i l' hl;obtain⟨N,hN⟩:=hF l _ hl;obtain⟨M,hM⟩:=ih l' h;refine⟨max N M,fun n hn j hj=>?_⟩;obtain⟨j,rfl⟩:∃i,j=i+1:=⟨j-1,by omega⟩;simp only[it,hN n (by omega)];exact hM n (by omega) j (by omega)
   ·rename_i z hl;cases h;obtain⟨N,hN⟩:=hF l _ hl;refine⟨N,fun n hn j hj=>?_⟩;obtain⟨j,rfl⟩:∃i,j=i+1:=⟨j-1,by omega⟩;simp only[it,hN n hn]
 obtain⟨N,hN⟩:=key k l hk;exact⟨max N k,fun n hn=>hN n (by omega) n (by omega)⟩
structure Pro where
 P:Program
 G:Nat→V
 A:FuncId→List (Nat×Nat)×List LA
 D:FuncId→Bool
 B:Orc→Orc
 sound:∀c,Sound P G c→∀f,D f=true→∀args ents o es,(∀v∈args,argOk ents.length v)→(∀e∈ents,wfE e)→B c f args ents=some (o,es)→zes P G f args ents (fun o' es'=>o'=o∧es'=es)
 tends:∀(c:Nat→Orc)(c0:Orc),(∀g a e,Tds (fun n=>c n g a e) (c0 g a e))→∀g a e,Tds (fun n=>B (c n) g a e) (B c0 g a e)
def Pro.step(p:Pro)(c:Orc)(lp:Lup):Orc:=fun f args ents=>match p.D f with
 |true=>p.B c f args ents
 |false=>evF p.P p.G c lp (p.A f).1 10 (p.A f).2 f (args.map argR) ents
def Pro.phi(p:Pro):Nat→Orc
 |0=>fun _ _ _=>none
 |n+1=>p.step (p.phi n) (it n)
theorem Pro.step_ok(p:Pro){c:Orc}{lp:Lup}(hc:Sound p.P p.G c)(hl:LpOk lp):Sound p.P p.G (p.step c lp):=by
 intro g args ents o es ha he h;unfold Pro.step at h;split at h
 ·rename_i hd;exact p.sound c hc g hd args ents o es ha he h
 ·exact evF_ok hc hl ha he h
theorem Pro.phi_ok(p:Pro):∀n,Sound p.P p.G (p.phi n)
 |0=>fun _ _ _ _ _ _ _ h=>by cases h
 |n+1=>p.step_ok (p.phi_ok n) (it_ok n)
open Classical in
def Pro.ev(p:Pro):Orc:=fun f a e=>if h:∃r,Evt (fun n=>p.phi n f a e) r then some h.choose else none
theorem Pro.ev_some(p:Pro){f:FuncId}{a:List V}{e:List Ent}{r:Out}:p.ev f a e=some r↔Evt (fun n=>p.phi n f a e) r:=by
 unfold Pro.ev;constructor
 ·intro h;split at h<;>first|(cases h;done)|skip
  rename_i hx;cases h;exact hx.choose_spec
 ·intro h;rw[dif_pos ⟨r,h⟩];obtain⟨N,hN⟩:=h.and (Exists.choose_spec (⟨r,h⟩:∃r,Evt (fun n=>p.phi n f a e) r));obtain⟨h1,h2⟩:=hN N (qa57 _);rw[h1]at h2;exact h2.symm
theorem Pro.ev_tds(p:Pro)(f:FuncId)(a:List V)(e:List Ent):Tds (fun n=>p.phi n f a e) (p.ev f a e):=fun _ h=>p.ev_some.1 h
theorem Pro.ev_step(p:Pro){f:FuncId}{a:List V}{e:List Ent}{r:Out}(h:p.step p.ev lup f a e=some r):p.ev f a e=some r:=by
 have key:Evt (fun n=>p.step (p.phi n) (it n) f a e) r:=by
  unfold Pro.step at h ⊢;cases hd:p.D f
  ·rw[hd]at h;exact zxo (fun g a e=>p.ev_tds g a e) zyN _ h
  ·rw[hd]at h;exact p.tends _ _ (fun g a e=>p.ev_tds g a e) _ _ _ _ h
 obtain⟨N,hN⟩:=key;refine p.ev_some.2 ⟨N+1,fun n hn=>?_⟩;obtain⟨m,rfl⟩:∃m,n=m+1:=⟨n-1,by omega⟩;exact hN m (by omega)
theorem Pro.ev_ok(p:Pro):Sound p.P p.G p.ev:=by
 intro g args ents o es ha he h;obtain⟨N,hN⟩:=p.ev_some.1 h;exact p.phi_ok N g args ents o es ha he (hN N (qa57 _))
abbrev b0(op:BinOp)(x y:V):Option V:=binV op false false false x y
def agN(n:Nat)(v:V):V:=.agg (zv0 n v)
def rtn(v:V)(es:List Ent):Option Out:=some (.ret v,es)
def pnk(v:V)(es:List Ent):Option Out:=some (.panic v,es)
def ag{Z:Type}(eq:Z→Z→Bool)(A:Option Z):Option Z:=agr eq A A
def cl0{Z:Type}(c:Orc)(g:FuncId)(args:List V)(Kp K:V→Option Z):Option Z:=cal0 c g args K Kp
def cl1{Z:Type}(c:Orc)(g:FuncId)(args:List V)(e:Ent)(T n:Nat)(Kp K:V→Ent→Option Z):Option Z:=cal c g args [e] (fun v es=>ckE T n (nth es 0) (K v (nth es 0))) (fun v es=>ckE T n (nth es 0) (Kp v (nth es 0)))
theorem Pro.of(p:Pro){f:FuncId}{a:List V}{e:List Ent}{rs:List R}{σ:List (Nat×Nat)}{A:List LA}{r:Option Out}{z:Out}(hd:p.D f=false)(ha:a.map argR=rs)(hA:p.A f=(σ,A))(h:evF p.P p.G p.ev lup σ 10 A f rs e=r)(hr:r=some z):p.ev f a e=some z:=by
 refine p.ev_step ?_;unfold Pro.step;rw[hd];dsimp only;rw[ha,hA,h,hr]
end
section
open Go Go.RowKit
section
variable{Z:Type}{A B:Option Z}
@[simp] theorem zar (b:Bool):cnd (.bool b) A B=if b=true then A else B:=by cases b<;>rfl
@[simp] theorem zph (op:BinOp) (b i s:Bool) (k:IntKind) (x y:Int):binV op b i s (.int k x) (.int k y)=zfR op k x y:=by simp[binV]
@[simp] theorem bin_ss (op:BinOp) (b i s:Bool) (x y:List UInt8):binV op b i s (.str x) (.str y)=strV op x y:=rfl
@[simp] theorem bin_bb (op:BinOp) (s x y:Bool):binV op true false s (.bool x) (.bool y)=(match op with|.eql=>some (.bool (x==y))|.neq=>some (.bool (!(x==y)))|_=>none):=by cases op<;>rfl
@[simp] theorem ar_add (k:IntKind) (x y:Int):zfR .add k x y=some (.int k (k.wrap (x+y))):=rfl
@[simp] theorem ar_sub (k:IntKind) (x y:Int):zfR .sub k x y=some (.int k (k.wrap (x-y))):=rfl
@[simp] theorem ar_mul (k:IntKind) (x y:Int):zfR .mul k x y=some (.int k (k.wrap (x*y))):=rfl
@[simp] theorem zAf (k:IntKind) (x y:Int):zfR .eql k x y=some (.bool (x==y)):=rfl
@[simp] theorem ar_neq (k:IntKind) (x y:Int):zfR .neq k x y=some (.bool (!(x==y))):=rfl
@[simp] theorem ar_lss (k:IntKind) (x y:Int):zfR .lss k x y=some (.bool (decide (x<y))):=rfl
@[simp] theorem ar_leq (k:IntKind) (x y:Int):zfR .leq k x y=some (.bool (decide (x≤y))):=rfl
@[simp] theorem ar_gtr (k:IntKind) (x y:Int):zfR .gtr k x y=some (.bool (decide (y<x))):=rfl
@[simp] theorem ar_geq (k:IntKind) (x y:Int):zfR .geq k x y=some (.bool (decide (y≤x))):=rfl
@[simp] theorem st_eql (x y:List UInt8):strV .eql x y=some (.bool (x==y)):=rfl
@[simp] theorem st_neq (x y:List UInt8):strV .neq x y=some (.bool (!(x==y))):=rfl
theorem st_add(x y:List UInt8)(h:x.length+y.length≤4611686018427387904):strV .add x y=some (.str (x++y)):=by simp only[strV,if_pos h]
@[simp] theorem zm7 (l:List V):lenL (.list l)=some (.int .i64 l.length):=rfl
@[simp] theorem lenS_s (l:List UInt8):lenS (.str l)=some (.int .i64 l.length):=rfl
@[simp] theorem zpz (k:IntKind) (x:Int):ck1 (.int k x) A=A:=rfl
@[simp] theorem ztp (x:List UInt8):ck1 (.str x) A=A:=rfl
@[simp] theorem ztq (x:Bool):ck1 (.bool x) A=A:=rfl
@[simp] theorem zmT (x:List V):ck1 (.list x) A=A:=rfl
@[simp] theorem nm_i (k:IntKind) (x:Int):norm1 (.int k x)=.int k x:=rfl
@[simp] theorem nm_s (x:List UInt8):norm1 (.str x)=.str x:=rfl
@[simp] theorem nm_b (x:Bool):norm1 (.bool x)=.bool x:=rfl
@[simp] theorem nm_l (x:List V):norm1 (.list x)=.list x:=rfl
@[simp] theorem nm_t (x:List V):norm1 (.tup x)=.tup x:=rfl
@[simp] theorem ze2 (l:List V) (i:Nat):extV (.tup l) i=l[i]?:=rfl
@[simp] theorem zgH (b:Bool):zgj .not (.bool b)=some (.bool (!b)):=rfl
@[simp] theorem mm_max (k:IntKind) (x y:Int):zkB .max (.int k x) (.int k y)=some (.int k (max x y)):=by
 simp only[zkB];congr 2;by_cases h:x<y<;>simp[h,Int.max_def]<;>omega
theorem zm9{α:Type}(z:Nat)(f:α→V)(l:List α)(k:IntKind)(i:Nat)(hz:∀x,(f x).size=z):elV z (.list (l.map f)) (.int k (i:Int))=(l[i]?).map f:=by
 unfold elV;simp only[norm0,Int.toNat_natCast,qa24];cases l[i]? with
 |none=>rfl
 |some x=>simp[hz]
@[simp] theorem gt_0 (a:V) (l:List V):gt (a::l) 0=a:=rfl
@[simp] theorem gt_s (a:V) (l:List V) (n:Nat):gt (a::l) (n+1)=gt l n:=rfl
@[simp] theorem zbS (l:List V) (j:Nat):cell (.agg l) j=l.getD j .undef:=rfl
@[simp] theorem zlA (L:List V→Option Z) (o:Option Z):stp L (om o)=o:=by cases o<;>rfl
@[simp] theorem zce (L:List V→Option Z) (l:List V):stp L (some (.next l))=L l:=rfl
@[simp] theorem stp_out (L:List V→Option Z) (z:Z):stp L (some (.out z))=some z:=rfl
@[simp] theorem stp_ite (L:List V→Option Z) (p:Prop) [Decidable p] (a b:Option (Stp Z)):stp L (if p then a else b)=if p then stp L a else stp L b:=by split<;>rfl
@[simp] theorem one_i (k:IntKind) (x:Int):V.one (.int k x)=true:=rfl
@[simp] theorem one_s (x:List UInt8):V.one (.str x)=true:=rfl
@[simp] theorem one_b (x:Bool):V.one (.bool x)=true:=rfl
@[simp] theorem znv (x:List V):V.one (.list x)=true:=rfl
@[simp] theorem one_n:V.one .nils=true:=rfl
@[simp] theorem n0_i (k:IntKind) (x:Int):norm0 (.int k x)=.int k x:=rfl
@[simp] theorem n0_s (x:List UInt8):norm0 (.str x)=.str x:=rfl
@[simp] theorem n0_b (x:Bool):norm0 (.bool x)=.bool x:=rfl
@[simp] theorem n0_l (x:List V):norm0 (.list x)=.list x:=rfl
@[simp] theorem n0_n:norm0 .nils=.list []:=rfl
@[simp] theorem nm_a (x:List V):norm1 (.agg x)=.agg (x.map norm0):=rfl
@[simp] theorem agN_agg (n:Nat) (l:List V) (h:l.length=n):agN n (.agg l)=.agg l:=by
 unfold agN zv0;rw[zjh (v:=.agg l) (by simpa[V.size,V.cells]using h)];rfl
theorem ckA_agg(n:Nat)(l:List V)(h:l.length=n)(h2:l.all V.one=true):ckA n (.agg l) A=A:=by
 unfold ckA;rw[if_pos ⟨rfl,by simpa[V.size,V.cells]using h,h2⟩]
theorem zjz(z b:Nat)(xs ys:List V)(h1:∀y∈ys,y.size=z)(h2:(xs.length+ys.length)*(b+1)≤140737488355328):appV z b (.list xs) (.list ys)=some (.list (xs++ys)):=by
 simp only[appV,norm0];rw[if_pos ⟨h1,h2⟩]
theorem app_n(z b:Nat)(ys:List V)(h1:∀y∈ys,y.size=z)(h2:ys.length*(b+1)≤140737488355328):appV z b .nils (.list ys)=some (.list ys):=by
 simp only[appV,norm0];rw[if_pos ⟨h1,h2⟩]
theorem zaa{c:Orc}{g:FuncId}{args:List V}{v:V}{es:List Ent}(h:c g args []=some (.ret v,es))(Kp K:V→Option Z):cl0 c g args Kp K=K v:=by simp only[cl0,cal0,cal,h]
end
mutual
theorem zf9:∀{v:V},wf v=true→veq v v=true
 |.bool _,_=>by simp[veq]
 |.int _ _,_=>by simp[veq]
 |.str _,_=>by simp[veq]
 |.list _,h=>by simp only[wf]at h;simp only[veq];exact zdm h
 |.agg _,h=>by simp only[wf]at h;simp only[veq];exact zdm h
 |.tup _,h=>by simp only[wf]at h;simp only[veq];exact zdm h
 |.nils,_=>rfl
 |.nilp,_=>rfl
 |.niface,_=>rfl
 |.undef,_=>rfl
 |.iface _ _,h=>by simp only[wf]at h;simp[veq,zf9 h]
 |.ip _ _,h=>by simp only[wf]at h;simp[veq,zf9 h]
 |.any,h=>by simp[wf]at h
 |.ptr _ _,h=>by simp[wf]at h
 |.row _ _,h=>by simp[wf]at h
 |.fn _ _ _,h=>by simp[wf]at h
theorem zdm:∀{l:List V},wfs l=true→veqs l l=true
 |[],_=>rfl
 |v::l,h=>by
  simp only[wfs,qa32]at h;simp only[veqs,zf9 h.1,zdm h.2,Bool.and_self]
end
theorem zf7{Z:Type}{eq:Z→Z→Bool}{A:Option Z}{z:Z}(h:A=some z)(hr:eq z z=true):ag eq A=some z:=by
 subst h;simp only[ag,agr,hr,qa60]
end
section
open Go Go.RowKit
def qE2(T:Nat)(e:Ent):Ent:=.blk T [zad e 0,zad e 1]
def qF2(T:Nat)(x:V):Ent:=.blk T [cell x 0,cell x 1]
def qA2(e:Ent):V:=.agg [zad e 0,zad e 1]
def qL2(T:Nat)(c:Orc)(g:FuncId)(a:List V)(e:Ent)(K:V→Ent→Option Out):Option Out:=cl1 c g a e T 2 (fun v e=>pnk v [.blk T [zad e 0,zad e 1]]) K
def qM2(T:Nat)(c:Orc)(g:FuncId)(a:List V)(e:Ent)(K:V→Ent→Option (Stp Out)):Option (Stp Out):=cl1 c g a e T 2 (fun v e=>om (pnk v [.blk T [zad e 0,zad e 1]])) K
def qE4(T:Nat)(e:Ent):Ent:=.blk T [zad e 0,zad e 1,zad e 2,zad e 3]
def qF4(T:Nat)(x:V):Ent:=.blk T [cell x 0,cell x 1,cell x 2,cell x 3]
def qA4(e:Ent):V:=.agg [zad e 0,zad e 1,zad e 2,zad e 3]
def qC4(x:V)(l:List V):List V:=cell x 0::cell x 1::cell x 2::cell x 3::l
def qL4(T:Nat)(c:Orc)(g:FuncId)(a:List V)(e:Ent)(K:V→Ent→Option Out):Option Out:=cl1 c g a e T 4 (fun v e=>pnk v [.blk T [zad e 0,zad e 1,zad e 2,zad e 3]]) K
def qM4(T:Nat)(c:Orc)(g:FuncId)(a:List V)(e:Ent)(K:V→Ent→Option (Stp Out)):Option (Stp Out):=cl1 c g a e T 4 (fun v e=>om (pnk v [.blk T [zad e 0,zad e 1,zad e 2,zad e 3]])) K
def qN4(T:Nat)(c:Orc)(g:FuncId)(a:List V)(e:Ent)(K:V→Ent→Option Out):Option Out:=cl1 c g a e T 4 (fun v e=>pnk v []) K
def qR4(T:Nat)(c:Orc)(g:FuncId)(a:List V)(e:Ent)(K:V→Ent→Option (Stp Out)):Option (Stp Out):=cl1 c g a e T 4 (fun v e=>om (pnk v [])) K
def qC8(x:V)(l:List V):List V:=cell x 0::cell x 1::cell x 2::cell x 3::cell x 4::cell x 5::cell x 6::cell x 7::l
def qC10(x:V)(l:List V):List V:=cell x 0::cell x 1::cell x 2::cell x 3::cell x 4::cell x 5::cell x 6::cell x 7::cell x 8::cell x 9::l
def qC11(x:V)(l:List V):List V:=cell x 0::cell x 1::cell x 2::cell x 3::cell x 4::cell x 5::cell x 6::cell x 7::cell x 8::cell x 9::cell x 10::l
def qC12(x:V)(l:List V):List V:=cell x 0::cell x 1::cell x 2::cell x 3::cell x 4::cell x 5::cell x 6::cell x 7::cell x 8::cell x 9::cell x 10::cell x 11::l
def qpn(c:Orc)(g:FuncId)(a:List V)(K:V→Option Out):Option Out:=cl0 c g a (fun w=>pnk w []) K
def qpo(c:Orc)(g:FuncId)(a:List V)(K:V→Option (Stp Out)):Option (Stp Out):=cl0 c g a (fun w=>om (pnk w [])) K
def qadd{Z:Type}(x y:V)(k:V→Option Z):Option Z:=(b0 .add x y).bind k
def qsub{Z:Type}(x y:V)(k:V→Option Z):Option Z:=(b0 .sub x y).bind k
def qeql{Z:Type}(x y:V)(k:V→Option Z):Option Z:=(b0 .eql x y).bind k
def qneq{Z:Type}(x y:V)(k:V→Option Z):Option Z:=(b0 .neq x y).bind k
def qlss{Z:Type}(x y:V)(k:V→Option Z):Option Z:=(b0 .lss x y).bind k
def qleq{Z:Type}(x y:V)(k:V→Option Z):Option Z:=(b0 .leq x y).bind k
def qgtr{Z:Type}(x y:V)(k:V→Option Z):Option Z:=(b0 .gtr x y).bind k
def qgeq{Z:Type}(x y:V)(k:V→Option Z):Option Z:=(b0 .geq x y).bind k
def qel{Z:Type}(n:Nat)(x y:V)(k:V→Option Z):Option Z:=(elV n x y).bind k
def qld{Z:Type}(x:V)(n:Nat)(k:V→Option Z):Option Z:=(ldV false 1 x n).bind k
def qlt{Z:Type}(m:Nat)(x:V)(n:Nat)(k:V→Option Z):Option Z:=(ldV true m x n).bind k
def qll{Z:Type}(x:V)(k:V→Option Z):Option Z:=(lenL x).bind k
def qls{Z:Type}(x:V)(k:V→Option Z):Option Z:=(lenS x).bind k
def qap{Z:Type}(n b:Nat)(x y:V)(k:V→Option Z):Option Z:=(appV n b x y).bind k
def qex{Z:Type}(x:V)(n:Nat)(k:V→Option Z):Option Z:=(extV x n).bind k
def qno{Z:Type}(x:V)(k:V→Option Z):Option Z:=(zgj .not x).bind k
def qi:V:=.int .i64 0
def qj:V:=.int .i64 1
def qs:V:=.str []
def qf:V:=.bool false
def qt:V:=.bool true
def qp:V:=.ptr 0 0
structure qX{A:Type}(a:A) where
 v:A
 h:a=v:=by delta qE2 qF2 qA2 qL2 qM2 qE4 qF4 qA4 qC4 qL4 qM4 qN4 qR4 qC8 qC10 qC11 qC12 qpn qpo qadd qsub qeql qneq qlss qleq qgtr qgeq qel qld qlt qll qls qap qex qno qi qj qs qf qt qp;rfl
end
end Vm
namespace Go.Proofs.YtlooegbcfkoloaaGreatDoor
section
open Go.RowKit
open Vm
variable(G:Nat→Vm.V)(c:Orc)(l:Lup)(x1 x2 x3 y0 y1:V)
def zkA(c:Orc)(l:Lup)(y0 y1:V):Option Out:=ck1 y1<|pnk (.iface 178 (norm1 (.agg [y1]))) [.blk 182 [y0,y1]]
theorem zle:evF Tryz.prog G c l [] 10 [] 188 [.p 0 0] [.blk 182 [y0,y1]]=zkA c l y0 y1:=by kernel_rfl
def zf1(c:Orc)(l:Lup)(x1 x2 x3 y0 y1:V):Option Out :=({v:=_}:qX (qadd y1 x1 fun v1=>qll y0 fun v2=>qlss v1 v2 fun v3=>cnd v3 (qel 6 y0 v1 fun v4=>qld v4 0 fun v5=>qeql v5 x2 fun v6=>cnd v6 (qel 6 y0 v1 fun v7=>qld v7 1 fun v8=>qeql v8 x3 fun v9=>rtn (norm1 v9) [.blk 182 [y0,y1]]) (rtn qf [.blk 182 [y0,y1]])) (rtn qf [.blk 182 [y0,y1]]))).v
theorem znr:evF Tryz.prog G c l [] 10 [] 183 [.p 0 0,.d x1,.d x2,.d x3] [.blk 182 [y0,y1]]=zf1 c l x1 x2 x3 y0 y1:=by kernel_rfl
def zhi(c:Orc)(l:Lup)(x1 x2 y0 y1:V):Option Out :=({v:=_}:qX (qL2 182 c 183 [qp,qi,(norm1 x1),(norm1 x2)] (.blk 182 [y0,y1]) fun v1 v2=>qno v1 fun v4=>cnd v4 (rtn qf [qE2 182 v2]) (qadd (zad v2 1) qj fun v5=>ck1 v5<|rtn qt [.blk 182 [(zad v2 0),v5]]))).v
theorem zlG:evF Tryz.prog G c l [] 10 [] 178 [.p 0 0,.d x1,.d x2] [.blk 182 [y0,y1]]=zhi c l x1 x2 y0 y1:=by kernel_rfl
def zhh(c:Orc)(l:Lup)(x1 y0 y1:V):Option Out :=({v:=_}:qX (qL2 182 c 178 [qp,(.int .i64 2),(norm1 x1)] (.blk 182 [y0,y1]) fun v1 v2=>rtn (norm1 v1) [qE2 182 v2])).v
theorem zlF:evF Tryz.prog G c l [] 10 [] 179 [.p 0 0,.d x1] [.blk 182 [y0,y1]]=zhh c l x1 y0 y1:=by kernel_rfl
def zhj(c:Orc)(l:Lup)(x1 y0 y1:V):Option Out :=({v:=_}:qX (qL2 182 c 178 [qp,(.int .i64 4),(norm1 x1)] (.blk 182 [y0,y1]) fun v1 v2=>rtn (norm1 v1) [qE2 182 v2])).v
theorem zlH:evF Tryz.prog G c l [] 10 [] 189 [.p 0 0,.d x1] [.blk 182 [y0,y1]]=zhj c l x1 y0 y1:=by kernel_rfl
def zfb(c:Orc)(l:Lup)(x1 x2 y0 y1:V):Option Out :=({v:=_}:qX (qL2 182 c 178 [qp,(norm1 x1),(norm1 x2)] (.blk 182 [y0,y1]) fun v1 v2=>qno v1 fun v4=>cnd v4 (qL2 182 c 188 [qp] (qE2 182 v2) fun v5 v6=>rtn (.tup []) [qE2 182 v6]) (rtn (.tup []) [qE2 182 v2]))).v
theorem zh7:evF Tryz.prog G c l [] 10 [] 185 [.p 0 0,.d x1,.d x2] [.blk 182 [y0,y1]]=zfb c l x1 x2 y0 y1:=by kernel_rfl
def zb8(c:Orc)(l:Lup)(a1_0 a1_1:V):Option Out :=({v:=_}:qX (cnd a1_0 (rtn (.tup [(.agg [qi,qs,qi,qi,qs,qi]),qf]) [qF2 182 a1_1]) (qadd (cell a1_1 1) qj fun v1=>ck1 v1<|qsub v1 qj fun v2=>qel 6 (cell a1_1 0) v2 fun v3=>qlt 6 v3 0 fun v4=>ckA 6 v4<|rtn (.tup [(norm1 (agN 6 v4)),qt]) [.blk 182 [(cell a1_1 0),v1]]))).v
def zd8(c:Orc)(l:Lup)(x1 y0 y1:V):Option Out :=({v:=_}:qX (qll y0 fun v1=>qgeq y1 v1 fun v2=>cnd v2 (zb8 c l qt (.agg [y0,y1])) (qel 6 y0 y1 fun v3=>qld v3 0 fun v4=>qneq v4 x1 fun v5=>zb8 c l v5 (.agg [y0,y1])))).v
theorem zfE:evF Tryz.prog G c l [] 10 [] 193 [.p 0 0,.d x1] [.blk 182 [y0,y1]]=zd8 c l x1 y0 y1:=by kernel_rfl
def zcy(c:Orc)(l:Lup)(s:List V):Option (Stp Out) :=({v:=_}:qX (qlss (gt s 3) (gt s 2) fun v1=>cnd v1 (qel 1 (gt s 1) (gt s 3) fun v2=>qld v2 0 fun v3=>qM2 182 c 178 [qp,(norm1 (gt s 0)),(norm1 v3)] (qF2 182 (gt s 4)) fun v4 v5=>cnd v4 (om (rtn (.tup [(norm1 v3),qt]) [qE2 182 v5])) (qadd (gt s 3) qj fun v7=>some (.next [(gt s 0),(gt s 1),(gt s 2),v7,(qA2 v5)]))) (om (rtn (.tup [qs,qf]) [qF2 182 (gt s 4)])))).v
def zh4(c:Orc)(l:Lup)(x1 x2 y0 y1:V):Option Out:=(lenL x2).bind fun v1=>l Out (zcy c l) [x1,x2,v1,(.int .i64 0),(.agg [y0,y1])]
def zhH:List LA:=[⟨false,[(0,.c (.p 0 0)),(1,.d),(10,.d),(11,.d),(12,.d)],[.bv 0 182 2]⟩]
theorem zmu:evF Tryz.prog G c l [] 10 zhH 171 [.p 0 0,.d x1,.d x2] [.blk 182 [y0,y1]]=zh4 c l x1 x2 y0 y1:=by kernel_rfl
def sh_expr_parser_chain_l0(c:Orc)(l:Lup)(s:List V):Option (Stp Out) :=({v:=_}:qX (qM2 182 c 171 [qp,(norm1 (gt s 1)),(norm1 (gt s 2))] (qF2 182 (gt s 3)) fun v1 v2=>qex v1 0 fun v4=>qex v1 1 fun v5=>qno v5 fun v6=>cnd v6 (ckA 11 (agN 11 (gt s 5))<|om (rtn (norm1 (agN 11 (gt s 5))) [qE2 182 v2])) (cl1 c (fnG (gt s 0)) [qp] (qE2 182 v2) 182 2 (fun v9 v8=>om (pnk v9 [qE2 182 v8])) fun v7 v8=>ckA 11 (norm1 (agN 11 (gt s 5)))<|ckA 11 (norm1 v7)<|ck1 v4<|ckA 11 (.agg [(.int .i64 4),v4,qi,qi,qs,qs,qs,qi,qf,qf,(.list [(norm1 (agN 11 (gt s 5))),(norm1 v7)])])<|some (.next [(.fn (fnG (gt s 0)) [] []),(gt s 1),(gt s 2),(qA2 v8),(agN 11 (gt s 4)),(.agg [(.int .i64 4),v4,qi,qi,qs,qs,qs,qi,qf,qf,(.list [(norm1 (agN 11 (gt s 5))),(norm1 v7)])])])))).v
def zeY(c:Orc)(l:Lup)(g1:FuncId)(x2 x3 y0 y1:V):Option Out :=({v:=_}:qX (cl1 c g1 [qp] (.blk 182 [y0,y1]) 182 2 (fun v3 v2=>pnk v3 [qE2 182 v2]) fun v1 v2=>ckA 11 v1<|l Out (sh_expr_parser_chain_l0 c l) [(.fn g1 [] []),x2,x3,(qA2 v2),(.agg [qi,qs,qi,qi,qs,qs,qs,qi,qf,qf,.nils]),(agN 11 v1)])).v
def zgs:List LA:=[⟨false,[(0,.c (.p 0 0)),(1,.f [.p 0 0] []),(2,.d),(3,.d),(8,.c (.p 10 0)),(9,.c (.p 13 0))],[.bv 0 182 2,.bv 10 46 11,.bv 13 46 11]⟩]
theorem zhs(G:Nat→Vm.V)(c:Orc)(l:Lup)(g1:FuncId)(x2 x3 y0 y1:V):evF Tryz.prog G c l [] 10 zgs 161 [.p 0 0,.f g1 [.p 0 0] [],.d x2,.d x3] [.blk 182 [y0,y1]]=zeY c l g1 x2 x3 y0 y1:=by kernel_rfl
def zfe(c:Orc)(l:Lup)(y0 y1:V):Option Out :=({v:=_}:qX (qL2 182 c 161 [qp,(.fn 162 [qp] []),(.int .i64 2),(.list [(.str [111,114])])] (.blk 182 [y0,y1]) fun v1 v2=>ckA 11 v1<|rtn (norm1 (agN 11 v1)) [qE2 182 v2])).v
theorem zia:evF Tryz.prog G c l [] 10 [] 148 [.p 0 0] [.blk 182 [y0,y1]]=zfe c l y0 y1:=by kernel_rfl
def zdi(c:Orc)(l:Lup)(y0 y1:V):Option Out :=({v:=_}:qX (qL2 182 c 161 [qp,(.fn 172 [qp] []),(.int .i64 2),(.list [(.str [97,110,100])])] (.blk 182 [y0,y1]) fun v1 v2=>ckA 11 v1<|rtn (norm1 (agN 11 v1)) [qE2 182 v2])).v
theorem ze1:evF Tryz.prog G c l [] 10 [] 162 [.p 0 0] [.blk 182 [y0,y1]]=zdi c l y0 y1:=by kernel_rfl
def zfB(c:Orc)(l:Lup)(y0 y1:V):Option Out :=({v:=_}:qX (qL2 182 c 161 [qp,(.fn 187 [qp] []),(.int .i64 4),(.list [(.str [43]),(.str [45])])] (.blk 182 [y0,y1]) fun v1 v2=>ckA 11 v1<|rtn (norm1 (agN 11 v1)) [qE2 182 v2])).v
theorem ziQ:evF Tryz.prog G c l [] 10 [] 184 [.p 0 0] [.blk 182 [y0,y1]]=zfB c l y0 y1:=by kernel_rfl
def zel(c:Orc)(l:Lup)(y0 y1:V):Option Out :=({v:=_}:qX (qL2 182 c 161 [qp,(.fn 190 [qp] []),(.int .i64 4),(.list [(.str [42]),(.str [47]),(.str [37])])] (.blk 182 [y0,y1]) fun v1 v2=>ckA 11 v1<|rtn (norm1 (agN 11 v1)) [qE2 182 v2])).v
theorem zgl:evF Tryz.prog G c l [] 10 [] 187 [.p 0 0] [.blk 182 [y0,y1]]=zel c l y0 y1:=by kernel_rfl
def zfd(c:Orc)(l:Lup)(y0 y1:V):Option Out :=({v:=_}:qX (qL2 182 c 161 [qp,(.fn 191 [qp] []),(.int .i64 4),(.list [(.str [124,124])])] (.blk 182 [y0,y1]) fun v1 v2=>ckA 11 v1<|rtn (norm1 (agN 11 v1)) [qE2 182 v2])).v
theorem zh9:evF Tryz.prog G c l [] 10 [] 190 [.p 0 0] [.blk 182 [y0,y1]]=zfd c l y0 y1:=by kernel_rfl
def zb1(c:Orc)(l:Lup)(y0 y1:V):Option Out :=({v:=_}:qX (qL2 182 c 179 [qp,(.str [110,111,116])] (.blk 182 [y0,y1]) fun v1 v2=>cnd v1 (qL2 182 c 172 [qp] (qE2 182 v2) fun v4 v5=>ckA 11 (norm1 v4)<|rtn (.agg [(.int .i64 3),(.str [110,111,116]),qi,qi,qs,qs,qs,qi,qf,qf,(.list [(norm1 v4)])]) [qE2 182 v5]) (qL2 182 c 180 [qp] (qE2 182 v2) fun v7 v8=>ckA 11 v7<|rtn (norm1 (agN 11 v7)) [qE2 182 v8]))).v
theorem zdd:evF Tryz.prog G c l [] 10 [] 172 [.p 0 0] [.blk 182 [y0,y1]]=zb1 c l y0 y1:=by kernel_rfl
def zbR(c:Orc)(l:Lup)(a2_0 a2_1 a2_2:V):Option Out :=({v:=_}:qX (qL2 182 c 179 [qp,(.str [105,110])] (qF2 182 a2_1) fun v1 v2=>cnd v1 (qL2 182 c 185 [qp,(.int .i64 4),(.str [40])] (qE2 182 v2) fun v4 v5=>ckA 11 (norm1 (agN 11 a2_2))<|qL2 182 c 186 [qp] (qE2 182 v5) fun v7 v8=>qap 11 128 (.list [(norm1 (agN 11 a2_2))]) v7 fun v10=>ck1 a2_0<|ck1 v10<|ckA 11 (.agg [(.int .i64 6),qs,qi,qi,qs,qs,qs,qi,a2_0,qf,v10])<|rtn (norm1 (.agg [(.int .i64 6),qs,qi,qi,qs,qs,qs,qi,a2_0,qf,v10])) [qE2 182 v8]) (qL2 182 c 179 [qp,(.str [98,101,116,119,101,101,110])] (qE2 182 v2) fun v11 v12=>cnd v11 (qL2 182 c 184 [qp] (qE2 182 v12) fun v14 v15=>ckA 11 v14<|qL2 182 c 185 [qp,(.int .i64 2),(.str [97,110,100])] (qE2 182 v15) fun v17 v18=>qL2 182 c 184 [qp] (qE2 182 v18) fun v20 v21=>ckA 11 (norm1 (agN 11 a2_2))<|ckA 11 (norm1 (agN 11 v14))<|ckA 11 (norm1 v20)<|ck1 a2_0<|ckA 11 (.agg [(.int .i64 7),qs,qi,qi,qs,qs,qs,qi,a2_0,qf,(.list [(norm1 (agN 11 a2_2)),(norm1 (agN 11 v14)),(norm1 v20)])])<|rtn (norm1 (.agg [(.int .i64 7),qs,qi,qi,qs,qs,qs,qi,a2_0,qf,(.list [(norm1 (agN 11 a2_2)),(norm1 (agN 11 v14)),(norm1 v20)])])) [qE2 182 v21]) (qL2 182 c 179 [qp,(.str [108,105,107,101])] (qE2 182 v12) fun v23 v24=>cnd v23 (qL2 182 c 184 [qp] (qE2 182 v24) fun v26 v27=>ckA 11 (norm1 (agN 11 a2_2))<|ckA 11 (norm1 v26)<|ck1 a2_0<|ckA 11 (.agg [(.int .i64 8),qs,qi,qi,qs,qs,qs,qi,a2_0,qf,(.list [(norm1 (agN 11 a2_2)),(norm1 v26)])])<|rtn (norm1 (.agg [(.int .i64 8),qs,qi,qi,qs,qs,qs,qi,a2_0,qf,(.list [(norm1 (agN 11 a2_2)),(norm1 v26)])])) [qE2 182 v27]) (ckA 11 (agN 11 a2_2)<|rtn (norm1 (agN 11 a2_2)) [qE2 182 v24]))))).v
def zaH(c:Orc)(l:Lup)(a1_0 a1_1 a1_2:V):Option Out:=cnd a1_0 ((b0 .add (cell a1_1 1) (.int .i64 1)).bind fun v1=>ck1 v1<|zbR c l a1_0 (.agg [(cell a1_1 0),v1]) (agN 11 a1_2)) (zbR c l a1_0 (agN 2 a1_1) (agN 11 a1_2))
def ze0(c:Orc)(l:Lup)(y0 y1:V):Option Out :=({v:=_}:qX (qL2 182 c 184 [qp] (.blk 182 [y0,y1]) fun v1 v2=>ckA 11 v1<|qL2 182 c 171 [qp,(.int .i64 4),(.list [(.str [61]),(.str [60,62]),(.str [60]),(.str [60,61]),(.str [62]),(.str [62,61])])] (qE2 182 v2) fun v4 v5=>qex v4 0 fun v7=>qex v4 1 fun v8=>cnd v8 (qL2 182 c 184 [qp] (qE2 182 v5) fun v9 v10=>ckA 11 (norm1 (agN 11 v1))<|ckA 11 (norm1 v9)<|ck1 v7<|ckA 11 (.agg [(.int .i64 4),v7,qi,qi,qs,qs,qs,qi,qf,qf,(.list [(norm1 (agN 11 v1)),(norm1 v9)])])<|rtn (norm1 (.agg [(.int .i64 4),v7,qi,qi,qs,qs,qs,qi,qf,qf,(.list [(norm1 (agN 11 v1)),(norm1 v9)])])) [qE2 182 v10]) (qL2 182 c 179 [qp,(.str [105,115])] (qE2 182 v5) fun v12 v13=>cnd v12 (qL2 182 c 179 [qp,(.str [110,111,116])] (qE2 182 v13) fun v15 v16=>qL2 182 c 184 [qp] (qE2 182 v16) fun v18 v19=>ckA 11 (norm1 (agN 11 v1))<|ckA 11 (norm1 v18)<|ck1 v15<|ckA 11 (.agg [(.int .i64 5),qs,qi,qi,qs,qs,qs,qi,v15,qf,(.list [(norm1 (agN 11 v1)),(norm1 v18)])])<|rtn (norm1 (.agg [(.int .i64 5),qs,qi,qi,qs,qs,qs,qi,v15,qf,(.list [(norm1 (agN 11 v1)),(norm1 v18)])])) [qE2 182 v19]) (qL2 182 c 183 [qp,qi,(.int .i64 2),(.str [110,111,116])] (qE2 182 v13) fun v21 v22=>cnd v21 (qL2 182 c 183 [qp,qj,(.int .i64 2),(.str [105,110])] (qE2 182 v22) fun v24 v25=>cnd v24 (zaH c l qt (qA2 v25) (agN 11 v1)) (qL2 182 c 183 [qp,qj,(.int .i64 2),(.str [98,101,116,119,101,101,110])] (qE2 182 v25) fun v27 v28=>cnd v27 (zaH c l qt (qA2 v28) (agN 11 v1)) (qL2 182 c 183 [qp,qj,(.int .i64 2),(.str [108,105,107,101])] (qE2 182 v28) fun v30 v31=>zaH c l v30 (qA2 v31) (agN 11 v1)))) (zaH c l qf (qA2 v22) (agN 11 v1)))))).v
theorem ziR:evF Tryz.prog G c l [(77,74)] 10 [] 180 [.p 0 0] [.blk 182 [y0,y1]]=ze0 c l y0 y1:=by kernel_rfl
def zb7(c:Orc)(l:Lup)(a1_0 a1_1:V):Option Out :=({v:=_}:qX (qL2 182 c 185 [qp,(.int .i64 4),(.str [41])] (qF2 182 a1_0) fun v1 v2=>rtn (norm1 a1_1) [qE2 182 v2])).v
def sh_expr_parser_list_l0(c:Orc)(l:Lup)(s:List V):Option (Stp Out) :=({v:=_}:qX (qM2 182 c 189 [qp,(.str [44])] (qF2 182 (gt s 0)) fun v1 v2=>cnd v1 (qM2 182 c 148 [qp] (qE2 182 v2) fun v4 v5=>ckA 11 (norm1 v4)<|qap 11 128 (gt s 1) (.list [(norm1 v4)]) fun v7=>some (.next [(qA2 v5),v7])) (om (zb7 c l (qA2 v2) (gt s 1))))).v
def zfc(c:Orc)(l:Lup)(y0 y1:V):Option Out :=({v:=_}:qX (qL2 182 c 148 [qp] (.blk 182 [y0,y1]) fun v1 v2=>ckA 11 (norm1 v1)<|l Out (sh_expr_parser_list_l0 c l) [(qA2 v2),(.list [(norm1 v1)])])).v
def zgY:List LA:=[⟨false,[(0,.c (.p 0 0)),(3,.q 13)],[.bv 0 182 2,.rq 13 46 11]⟩]
theorem zh8:evF Tryz.prog G c l [(21,13)] 10 zgY 186 [.p 0 0] [.blk 182 [y0,y1]]=zfc c l y0 y1:=by kernel_rfl
def zaW(c:Orc)(l:Lup)(a1_0 a1_1 a1_2:V):Option Out :=({v:=_}:qX (cnd a1_1 (qel 6 (cell a1_2 0) (cell a1_2 1) fun v1=>qlt 3 v1 2 fun v2=>ckA 3 v2<|qadd (cell a1_2 1) qj fun v3=>ck1 v3<|(zgj .neg (cell v2 1)).bind fun v4=>ck1 v4<|ckA 3 (.agg [(cell v2 0),v4,(cell v2 2)])<|ckA 11 (.agg [qj,qs,(cell v2 0),v4,(cell v2 2),qs,qs,qi,qf,qf,.nils])<|rtn (norm1 (.agg [qj,qs,(cell v2 0),v4,(cell v2 2),qs,qs,qi,qf,qf,.nils])) [.blk 182 [(cell a1_2 0),v3]]) (qL2 182 c 191 [qp] (qF2 182 a1_2) fun v5 v6=>ckA 11 (norm1 v5)<|ck1 a1_0<|ckA 11 (.agg [(.int .i64 3),a1_0,qi,qi,qs,qs,qs,qi,qf,qf,(.list [(norm1 v5)])])<|rtn (norm1 (.agg [(.int .i64 3),a1_0,qi,qi,qs,qs,qs,qi,qf,qf,(.list [(norm1 v5)])])) [qE2 182 v6]))).v
def zaR(c:Orc)(l:Lup)(y0 y1:V):Option Out :=({v:=_}:qX (qL2 182 c 171 [qp,(.int .i64 4),(.list [(.str [45]),(.str [43])])] (.blk 182 [y0,y1]) fun v1 v2=>qex v1 0 fun v4=>qex v1 1 fun v5=>qno v5 fun v6=>cnd v6 (qL2 182 c 192 [qp] (qE2 182 v2) fun v7 v8=>ckA 11 v7<|rtn (norm1 (agN 11 v7)) [qE2 182 v8]) (qeql v4 (.str [45]) fun v10=>cnd v10 (qll (zad v2 0) fun v11=>qlss (zad v2 1) v11 fun v12=>cnd v12 (qel 6 (zad v2 0) (zad v2 1) fun v13=>qld v13 0 fun v14=>qeql v14 (.int .i64 3) fun v15=>cnd v15 (qel 6 (zad v2 0) (zad v2 1) fun v16=>qld v16 2 fun v17=>qeql v17 qj fun v18=>zaW c l v4 v18 (qA2 v2)) (zaW c l v4 qf (qA2 v2))) (zaW c l v4 qf (qA2 v2))) (zaW c l v4 qf (qA2 v2))))).v
theorem zgX:evF Tryz.prog G c l [] 10 [] 191 [.p 0 0] [.blk 182 [y0,y1]]=zaR c l y0 y1:=by kernel_rfl
def zgR(c:Orc)(l:Lup)(y0 y1:V):Option Out :=({v:=_}:qX (qL2 182 c 193 [qp,(.int .i64 3)] (.blk 182 [y0,y1]) fun v1 v2=>qex v1 0 fun v4=>qex v1 1 fun v5=>ckA 6 v4<|cnd v5 (ckA 3 (.agg [(cell v4 2),(cell v4 3),(cell v4 4)])<|ckA 11 (.agg [qj,qs,(cell v4 2),(cell v4 3),(cell v4 4),qs,qs,qi,qf,qf,.nils])<|rtn (norm1 (.agg [qj,qs,(cell v4 2),(cell v4 3),(cell v4 4),qs,qs,qi,qf,qf,.nils])) [qE2 182 v2]) (qL2 182 c 193 [qp,qj] (qE2 182 v2) fun v6 v7=>qex v6 0 fun v9=>qex v6 1 fun v10=>ckA 6 v9<|cnd v10 (qL2 182 c 194 [qp,(norm1 (cell v9 1))] (qE2 182 v7) fun v11 v12=>ckA 11 v11<|rtn (norm1 (agN 11 v11)) [qE2 182 v12]) (qL2 182 c 179 [qp,(.str [110,117,108,108])] (qE2 182 v7) fun v14 v15=>cnd v14 (rtn (.agg [qj,qs,qi,qi,qs,qs,qs,qi,qf,qf,(.list [])]) [qE2 182 v15]) (qL2 182 c 179 [qp,(.str [99,97,115,101])] (qE2 182 v15) fun v17 v18=>cnd v17 (qL2 182 c 195 [qp] (qE2 182 v18) fun v20 v21=>ckA 11 v20<|rtn (norm1 (agN 11 v20)) [qE2 182 v21]) (qL2 182 c 179 [qp,(.str [99,97,115,116])] (qE2 182 v18) fun v23 v24=>cnd v23 (qL2 182 c 196 [qp] (qE2 182 v24) fun v26 v27=>ckA 11 v26<|rtn (norm1 (agN 11 v26)) [qE2 182 v27]) (qL2 182 c 189 [qp,(.str [40])] (qE2 182 v24) fun v29 v30=>cnd v29 (qL2 182 c 148 [qp] (qE2 182 v30) fun v32 v33=>ckA 11 v32<|qL2 182 c 185 [qp,(.int .i64 4),(.str [41])] (qE2 182 v33) fun v35 v36=>ckA 11 (agN 11 v32)<|rtn (norm1 (agN 11 v32)) [qE2 182 v36]) (qL2 182 c 188 [qp] (qE2 182 v30) fun v38 v39=>rtn (.agg [qi,qs,qi,qi,qs,qs,qs,qi,qf,qf,(.list [])]) [qE2 182 v39])))))))).v
theorem zlf:evF Tryz.prog G c l [] 10 [] 192 [.p 0 0] [.blk 182 [y0,y1]]=zgR c l y0 y1:=by kernel_rfl
def zd7(c:Orc)(l:Lup)(a1_0 a1_1 a1_2:V):Option Out :=({v:=_}:qX (ck1 a1_0<|ck1 (cell a1_1 1)<|ckA 11 (.agg [(.int .i64 2),qs,qi,qi,qs,a1_0,(cell a1_1 1),qi,qf,qf,.nils])<|rtn (norm1 (.agg [(.int .i64 2),qs,qi,qi,qs,a1_0,(cell a1_1 1),qi,qf,qf,.nils])) [qF2 182 a1_2])).v
def zgS(c:Orc)(l:Lup)(x1 y0 y1:V):Option Out :=({v:=_}:qX (qL2 182 c 189 [qp,(.str [46])] (.blk 182 [y0,y1]) fun v1 v2=>cnd v1 (qL2 182 c 193 [qp,qj] (qE2 182 v2) fun v4 v5=>qex v4 0 fun v7=>qex v4 1 fun v8=>ckA 6 v7<|qno v8 fun v9=>cnd v9 (qL2 182 c 188 [qp] (qE2 182 v5) fun v10 v11=>zd7 c l x1 (agN 6 v7) (qA2 v11)) (zd7 c l x1 (agN 6 v7) (qA2 v5))) (qL2 182 c 189 [qp,(.str [40])] (qE2 182 v2) fun v13 v14=>cnd v13 (cl0 c 59 [(norm1 x1)] (fun w=>pnk w [qE2 182 v14]) fun v16=>qL2 182 c 197 [qp,(norm1 v16)] (qE2 182 v14) fun v17 v18=>ckA 11 v17<|rtn (norm1 (agN 11 v17)) [qE2 182 v18]) (ck1 x1<|ckA 11 (.agg [(.int .i64 2),qs,qi,qi,qs,qs,x1,qi,qf,qf,.nils])<|rtn (norm1 (.agg [(.int .i64 2),qs,qi,qi,qs,qs,x1,qi,qf,qf,.nils])) [qE2 182 v14])))).v
theorem zlg:evF Tryz.prog G c l [] 10 [] 194 [.p 0 0,.d x1] [.blk 182 [y0,y1]]=zgS c l x1 y0 y1:=by kernel_rfl
def zca(c:Orc)(l:Lup)(a2_0 a2_1 a2_2:V):Option Out :=({v:=_}:qX (cnd a2_0 (qL2 182 c 185 [qp,(.int .i64 4),(.str [41])] (qF2 182 a2_1) fun v1 v2=>ckA 11 (agN 11 a2_2)<|rtn (norm1 (agN 11 a2_2)) [qE2 182 v2]) (qL2 182 c 179 [qp,(.str [100,105,115,116,105,110,99,116])] (qF2 182 a2_1) fun v4 v5=>ck1 v4<|qL2 182 c 148 [qp] (qE2 182 v5) fun v7 v8=>ckA 11 (norm1 v7)<|qL2 182 c 185 [qp,(.int .i64 4),(.str [41])] (qE2 182 v8) fun v10 v11=>ckA 11 (.agg (qC8 a2_2 [(cell a2_2 8),v4,(.list [(norm1 v7)])]))<|rtn (norm1 (.agg (qC8 a2_2 [(cell a2_2 8),v4,(.list [(norm1 v7)])]))) [qE2 182 v11]))).v
def zaK(c:Orc)(l:Lup)(a1_0 a1_1 a1_2:V):Option Out :=({v:=_}:qX (cnd a1_1 (ck1 a1_0<|ckA 11 (.agg [(.int .i64 11),a1_0,qi,qi,qs,qs,qs,qi,qf,qf,.nils])<|qeql a1_0 (.str [99,111,117,110,116]) fun v1=>cnd v1 (qL2 182 c 189 [qp,(.str [42])] (qF2 182 a1_2) fun v2 v3=>zca c l v2 (qA2 v3) (.agg [(.int .i64 11),a1_0,qi,qi,qs,qs,qs,qi,qf,qf,.nils])) (zca c l qf (agN 2 a1_2) (.agg [(.int .i64 11),a1_0,qi,qi,qs,qs,qs,qi,qf,qf,.nils]))) (ck1 a1_0<|ckA 11 (.agg [(.int .i64 10),a1_0,qi,qi,qs,qs,qs,qi,qf,qf,.nils])<|qL2 182 c 189 [qp,(.str [41])] (qF2 182 a1_2) fun v5 v6=>qno v5 fun v8=>cnd v8 (qL2 182 c 186 [qp] (qE2 182 v6) fun v9 v10=>ck1 v9<|ckA 11 (.agg [(.int .i64 10),a1_0,qi,qi,qs,qs,qs,qi,qf,qf,v9])<|rtn (norm1 (.agg [(.int .i64 10),a1_0,qi,qi,qs,qs,qs,qi,qf,qf,v9])) [qE2 182 v10]) (ckA 11 (.agg [(.int .i64 10),a1_0,qi,qi,qs,qs,qs,qi,qf,qf,.nils])<|rtn (norm1 (.agg [(.int .i64 10),a1_0,qi,qi,qs,qs,qs,qi,qf,qf,.nils])) [qE2 182 v6])))).v
def zff(c:Orc)(l:Lup)(x1 y0 y1:V):Option Out :=({v:=_}:qX (qeql x1 (.str [99,111,117,110,116]) fun v1=>cnd v1 (zaK c l x1 qt (.agg [y0,y1])) (qeql x1 (.str [115,117,109]) fun v2=>cnd v2 (zaK c l x1 qt (.agg [y0,y1])) (qeql x1 (.str [109,105,110]) fun v3=>cnd v3 (zaK c l x1 qt (.agg [y0,y1])) (qeql x1 (.str [109,97,120]) fun v4=>cnd v4 (zaK c l x1 qt (.agg [y0,y1])) (qeql x1 (.str [97,118,103]) fun v5=>cnd v5 (zaK c l x1 qt (.agg [y0,y1])) (qeql x1 (.str [116,111,116,97,108]) fun v6=>zaK c l x1 v6 (.agg [y0,y1])))))))).v
theorem zlJ:evF Tryz.prog G c l [] 10 [] 197 [.p 0 0,.d x1] [.blk 182 [y0,y1]]=zff c l x1 y0 y1:=by kernel_rfl
def zc5(c:Orc)(l:Lup)(a3_0 a3_2 a3_3 a3_4 a3_5 a3_6 a3_7 a3_8 a3_9 a3_10 a3_11 a3_12:V):Option Out :=({v:=_}:qX (qL2 182 c 185 [qp,(.int .i64 2),(.str [101,110,100])] (qF2 182 a3_0) fun v1 v2=>ckA 11 (.agg [a3_2,a3_3,a3_4,a3_5,a3_6,a3_7,a3_8,a3_9,a3_10,a3_11,a3_12])<|rtn (norm1 (.agg [a3_2,a3_3,a3_4,a3_5,a3_6,a3_7,a3_8,a3_9,a3_10,a3_11,a3_12])) [qE2 182 v2])).v
def zfC(c:Orc)(l:Lup)(a2_0 a2_2 a2_3 a2_4 a2_5 a2_6 a2_7 a2_8 a2_9 a2_10 a2_11 a2_12:V):Option Out :=({v:=_}:qX (qL2 182 c 179 [qp,(.str [101,108,115,101])] (qF2 182 a2_0) fun v1 v2=>cnd v1 (ag oeq<|qL2 182 c 148 [qp] (qE2 182 v2) fun v4 v5=>ckA 11 (norm1 v4)<|qap 11 128 a2_12 (.list [(norm1 v4)]) fun v7=>zc5 c l (qA2 v5) a2_2 a2_3 a2_4 a2_5 a2_6 a2_7 a2_8 a2_9 a2_10 a2_11 v7) (zc5 c l (qA2 v2) a2_2 a2_3 a2_4 a2_5 a2_6 a2_7 a2_8 a2_9 a2_10 a2_11 a2_12))).v
def zc4(c:Orc)(l:Lup)(a4_0 a4_1 a4_2 a4_3 a4_4 a4_5 a4_6 a4_7 a4_8 a4_9 a4_10 a4_11 a4_12:V):Option (Stp Out) :=({v:=_}:qX (qM2 182 c 179 [qp,(.str [119,104,101,110])] (qF2 182 a4_0) fun v1 v2=>some (.next [v1,(qA2 v2),(agN 11 a4_1),a4_2,a4_3,a4_4,a4_5,a4_6,a4_7,a4_8,a4_9,a4_10,a4_11,a4_12]))).v
def zaC(c:Orc)(l:Lup)(s:List V):Option (Stp Out) :=({v:=_}:qX (cnd (gt s 0) (qM2 182 c 148 [qp] (qF2 182 (gt s 1)) fun v1 v2=>ckA 11 v1<|qM2 182 c 185 [qp,(.int .i64 2),(.str [116,104,101,110])] (qE2 182 v2) fun v4 v5=>ag (eqS oeq)<|qM2 182 c 148 [qp] (qE2 182 v5) fun v7 v8=>ckA 11 (norm1 (agN 11 v1))<|ckA 11 (norm1 v7)<|qap 11 128 (gt s 13) (.list [(norm1 (agN 11 v1)),(norm1 v7)]) fun v10=>zc4 c l (qA2 v8) (agN 11 (gt s 2)) (gt s 3) (gt s 4) (gt s 5) (gt s 6) (gt s 7) (gt s 8) (gt s 9) (gt s 10) (gt s 11) (gt s 12) v10) (om (zfC c l (agN 2 (gt s 1)) (gt s 3) (gt s 4) (gt s 5) (gt s 6) (gt s 7) (gt s 8) (gt s 9) (gt s 10) (gt s 11) (gt s 12) (gt s 13))))).v
def zc6(c:Orc)(l:Lup)(a1_0 a1_1 a1_2:V):Option Out :=({v:=_}:qX (qL2 182 c 185 [qp,(.int .i64 2),(.str [119,104,101,110])] (qF2 182 a1_0) fun v1 v2=>l Out (zaC c l) [qt,(qA2 v2),(.agg [qi,qs,qi,qi,qs,qs,qs,qi,qf,qf,.nils]),(.int .i64 9),qs,qi,qi,qs,qs,qs,qi,qf,a1_1,a1_2])).v
def zgT(c:Orc)(l:Lup)(y0 y1:V):Option Out :=({v:=_}:qX (qL2 182 c 183 [qp,qi,(.int .i64 2),(.str [119,104,101,110])] (.blk 182 [y0,y1]) fun v1 v2=>qno v1 fun v4=>cnd v4 (ag oeq<|qL2 182 c 148 [qp] (qE2 182 v2) fun v5 v6=>ckA 11 (norm1 v5)<|(appN 11 128 .nils (.list [(norm1 v5)])).bind fun v8=>zc6 c l (qA2 v6) qt v8) (zc6 c l (qA2 v2) qf .nils))).v
def zgt:List LA:=[⟨false,[(0,.c (.p 0 0)),(2,.c (.p 10 0)),(3,.c (.p 12 0)),(4,.d)],[.bv 0 182 2,.bv 10 46 11,.blk 12 46 [.d,.d,.d,.d,.d,.d,.d,.d,.d,.d,.q 24],.rq 24 46 11]⟩]
theorem zlh:evF Tryz.prog G c l [(43,24),(56,24)] 10 zgt 195 [.p 0 0] [.blk 182 [y0,y1]]=zgT c l y0 y1:=by kernel_rfl
def zdc(c:Orc)(l:Lup)(a2_0 a2_1:V):Option Out :=({v:=_}:qX (qL2 182 c 185 [qp,(.int .i64 4),(.str [41])] (qF2 182 a2_0) fun v1 v2=>ckA 11 (agN 11 a2_1)<|rtn (norm1 (agN 11 a2_1)) [qE2 182 v2])).v
def za6(c:Orc)(l:Lup)(a3_0 a3_1 a3_2:V):Option Out :=({v:=_}:qX (cnd a3_0 (qadd (cell a3_1 1) qj fun v1=>ck1 v1<|zdc c l (.agg [(cell a3_1 0),v1]) (agN 11 a3_2)) (qL2 182 c 188 [qp] (qF2 182 a3_1) fun v2 v3=>zdc c l (qA2 v3) (agN 11 a3_2)))).v
def zb9(c:Orc)(l:Lup)(a1_0 a1_1:V):Option Out :=({v:=_}:qX (qeql (cell a1_1 1) (.str [105,110,116]) fun v1=>cnd v1 (za6 c l qt (agN 2 a1_0) (agN 11 a1_1)) (qeql (cell a1_1 1) (.str [116,101,120,116]) fun v2=>cnd v2 (za6 c l qt (agN 2 a1_0) (agN 11 a1_1)) (qeql (cell a1_1 1) (.str [98,108,111,98]) fun v3=>za6 c l v3 (agN 2 a1_0) (agN 11 a1_1))))).v
def za5(c:Orc)(l:Lup)(a4_0 a4_1 a4_2:V):Option Out :=({v:=_}:qX (cnd a4_0 (qel 6 (cell a4_1 0) (cell a4_1 1) fun v1=>qld v1 1 fun v2=>cl0 c 59 [(norm1 v2)] (fun w=>pnk w [qF2 182 a4_1]) fun v3=>ck1 v3<|zb9 c l (agN 2 a4_1) (.agg [(cell a4_2 0),v3,(cell a4_2 2),(cell a4_2 3),(cell a4_2 4),(cell a4_2 5),(cell a4_2 6),(cell a4_2 7),(cell a4_2 8),(cell a4_2 9),(cell a4_2 10)])) (zb9 c l (agN 2 a4_1) (agN 11 a4_2)))).v
def zhk(c:Orc)(l:Lup)(y0 y1:V):Option Out :=({v:=_}:qX (qL2 182 c 185 [qp,(.int .i64 4),(.str [40])] (.blk 182 [y0,y1]) fun v1 v2=>qL2 182 c 148 [qp] (qE2 182 v2) fun v4 v5=>ckA 11 (norm1 v4)<|qL2 182 c 185 [qp,(.int .i64 2),(.str [97,115])] (qE2 182 v5) fun v7 v8=>qll (zad v8 0) fun v10=>qlss (zad v8 1) v10 fun v11=>cnd v11 (qel 6 (zad v8 0) (zad v8 1) fun v12=>qld v12 0 fun v13=>qeql v13 (.int .i64 2) fun v14=>cnd v14 (za5 c l qt (qA2 v8) (.agg [(.int .i64 12),qs,qi,qi,qs,qs,qs,qi,qf,qf,(.list [(norm1 v4)])])) (qel 6 (zad v8 0) (zad v8 1) fun v15=>qld v15 0 fun v16=>qeql v16 qj fun v17=>za5 c l v17 (qA2 v8) (.agg [(.int .i64 12),qs,qi,qi,qs,qs,qs,qi,qf,qf,(.list [(norm1 v4)])]))) (za5 c l qf (qA2 v8) (.agg [(.int .i64 12),qs,qi,qi,qs,qs,qs,qi,qf,qf,(.list [(norm1 v4)])])))).v
theorem zlI:evF Tryz.prog G c l [] 10 [] 196 [.p 0 0] [.blk 182 [y0,y1]]=zhk c l y0 y1:=by kernel_rfl
def annTc(f:FuncId)(d:List (Nat×Nat)×List LA):List (Nat×Nat)×List LA:=if f=171 then([],zhH)else if f=161 then([],zgs)else if f=180 then([(77,74)],[])else if f=186 then([(21,13)],zgY)else if f=195 then([(43,24),(56,24)],zgt)else d
end
section
open Go.RowKit
open Vm
variable(G:Nat→Vm.V)(c:Orc)(l:Lup)(x0 x1 x2 x3:V)
def zfw(c:Orc)(l:Lup)(x0 x1 x2 x3:V):Option Out :=({v:=_}:qX (ckA 4 x0<|qeql (cell x0 2) qi fun v1=>cnd v1 (qadd (cell x0 1) x1 fun v2=>qll (cell x0 0) fun v3=>qlss v2 v3 fun v4=>cnd v4 (qadd (cell x0 1) x1 fun v5=>qel 6 (cell x0 0) v5 fun v6=>qld v6 0 fun v7=>qeql v7 x2 fun v8=>cnd v8 (qadd (cell x0 1) x1 fun v9=>qel 6 (cell x0 0) v9 fun v10=>qld v10 1 fun v11=>qeql v11 x3 fun v12=>rtn (norm1 v12) []) (rtn qf [])) (rtn qf [])) (rtn qf []))).v
theorem zpo:evF Tryz.prog G c l [] 10 [] 152 [.d x0,.d x1,.d x2,.d x3] []=zfw c l x0 x1 x2 x3:=by kernel_rfl
def ziD(c:Orc)(l:Lup)(x0 x1:V):Option Out:=ckA 4 x0<|cl0 c 152 [(norm1 (agN 4 x0)),(.int .i64 0),(.int .i64 2),(norm1 x1)] (fun w=>pnk w []) fun v1=>rtn (norm1 v1) []
theorem znj:evF Tryz.prog G c l [] 10 [] 151 [.d x0,.d x1] []=ziD c l x0 x1:=by kernel_rfl
def ziF(c:Orc)(l:Lup)(x0 x1:V):Option Out:=ckA 4 x0<|cl0 c 152 [(norm1 (agN 4 x0)),(.int .i64 0),(.int .i64 4),(norm1 x1)] (fun w=>pnk w []) fun v1=>rtn (norm1 v1) []
theorem znl:evF Tryz.prog G c l [] 10 [] 155 [.d x0,.d x1] []=ziF c l x0 x1:=by kernel_rfl
def zeI(c:Orc)(l:Lup)(x0 x1:V):Option Out :=({v:=_}:qX (ckA 4 x0<|qeql (cell x0 2) qi fun v1=>cnd v1 (qll (cell x0 0) fun v2=>qlss (cell x0 1) v2 fun v3=>cnd v3 (qel 6 (cell x0 0) (cell x0 1) fun v4=>qld v4 0 fun v5=>qeql v5 x1 fun v6=>rtn (norm1 v6) []) (rtn qf [])) (rtn qf []))).v
theorem znm:evF Tryz.prog G c l [] 10 [] 157 [.d x0,.d x1] []=zeI c l x0 x1:=by kernel_rfl
def ziE(c:Orc)(l:Lup)(x0:V):Option Out:=ckA 4 x0<|(b0 .add (cell x0 1) (.int .i64 1)).bind fun v1=>ck1 v1<|ckA 4 (.agg [(cell x0 0),v1,(cell x0 2),(cell x0 3)])<|rtn (norm1 (.agg [(cell x0 0),v1,(cell x0 2),(cell x0 3)])) []
theorem znk:evF Tryz.prog G c l [] 10 [] 140 [.d x0] []=ziE c l x0:=by kernel_rfl
def zfZ(c:Orc)(l:Lup)(x0:V):Option Out:=ckA 4 x0<|(b0 .eql (cell x0 2) (.int .i64 0)).bind fun v1=>cnd v1 ((lenL (cell x0 0)).bind fun v2=>(zkB .min (cell x0 1) v2).bind fun v3=>ck1 v3<|ckA 4 (.agg [(cell x0 0),(cell x0 1),(.int .i64 20),v3])<|rtn (norm1 (.agg [(cell x0 0),(cell x0 1),(.int .i64 20),v3])) []) (ckA 4 (agN 4 x0)<|rtn (norm1 (agN 4 x0)) [])
theorem zjl:evF Tryz.prog G c l [] 10 [] 163 [.d x0] []=zfZ c l x0:=by kernel_rfl
def zfY(c:Orc)(l:Lup)(x0 x1 x2:V):Option Out :=({v:=_}:qX (ckA 4 x0<|qpn c 152 [(norm1 (agN 4 x0)),qi,(norm1 x1),(norm1 x2)] fun v1=>qno v1 fun v2=>cnd v2 (qpn c 163 [(norm1 (agN 4 x0))] fun v3=>ckA 4 v3<|rtn (norm1 (agN 4 v3)) []) (qpn c 140 [(norm1 (agN 4 x0))] fun v4=>ckA 4 v4<|rtn (norm1 (agN 4 v4)) []))).v
theorem zjk:evF Tryz.prog G c l [] 10 [] 153 [.d x0,.d x1,.d x2] []=zfY c l x0 x1 x2:=by kernel_rfl
def zjj(c:Orc)(l:Lup)(x0 x1 x2:V):Option Out :=({v:=_}:qX (ckA 11 x1<|ckA 11 x2<|ckA 11 (norm1 (agN 11 x1))<|ckA 11 (norm1 (agN 11 x2))<|ck1 x0<|ckA 11 (.agg [(.int .i64 4),x0,qi,qi,qs,qs,qs,qi,qf,qf,(.list [(norm1 (agN 11 x1)),(norm1 (agN 11 x2))])])<|rtn (norm1 (.agg [(.int .i64 4),x0,qi,qi,qs,qs,qs,qi,qf,qf,(.list [(norm1 (agN 11 x1)),(norm1 (agN 11 x2))])])) [])).v
theorem zok:evF Tryz.prog G c l [] 10 [] 141 [.d x0,.d x1,.d x2] []=zjj c l x0 x1 x2:=by kernel_rfl
def zcs(c:Orc)(l:Lup)(s:List V):Option (Stp Out) :=({v:=_}:qX (qll (gt s 0) fun v1=>qlss (gt s 2) v1 fun v2=>cnd v2 (qel 1 (gt s 0) (gt s 2) fun v3=>qld v3 0 fun v4=>qpo c 152 [(norm1 (agN 4 (gt s 3))),qi,(norm1 (gt s 1)),(norm1 v4)] fun v5=>cnd v5 (qel 1 (gt s 0) (gt s 2) fun v6=>qld v6 0 fun v7=>om (rtn (norm1 v7) [])) (qadd (gt s 2) qj fun v8=>some (.next [(gt s 0),(gt s 1),v8,(agN 4 (gt s 3))]))) (om (rtn qs [])))).v
def zh0(c:Orc)(l:Lup)(x0 x1 x2:V):Option Out:=ckA 4 x0<|l Out (zcs c l) [x1,x2,(.int .i64 0),(agN 4 x0)]
def zhD:List LA:=[⟨false,[(1,.d),(2,.d),(3,.c (.p 10 0)),(7,.d)],[.bv 10 151 4]⟩]
theorem zml:evF Tryz.prog G c l [] 10 zhD 139 [.d x0,.d x1,.d x2] []=zh0 c l x0 x1 x2:=by kernel_rfl
def zfQ(c:Orc)(l:Lup)(x0:V):Option Out :=({v:=_}:qX (qeql x0 (.str [99,111,117,110,116]) fun v1=>cnd v1 (rtn qt []) (qeql x0 (.str [115,117,109]) fun v2=>cnd v2 (rtn qt []) (qeql x0 (.str [109,105,110]) fun v3=>cnd v3 (rtn qt []) (qeql x0 (.str [109,97,120]) fun v4=>cnd v4 (rtn qt []) (qeql x0 (.str [97,118,103]) fun v5=>cnd v5 (rtn qt []) (qeql x0 (.str [116,111,116,97,108]) fun v6=>rtn (norm1 v6) []))))))).v
theorem zjO:evF Tryz.prog G c l [] 10 [] 173 [.d x0] []=zfQ c l x0:=by kernel_rfl
def zh2(c:Orc)(l:Lup)(x0:V):Option Out :=({v:=_}:qX (qeql x0 qi fun v1=>cnd v1 (rtn (.tup [(.list [(.str [111,114])]),(.int .i64 2)]) []) (qeql x0 qj fun v2=>cnd v2 (rtn (.tup [(.list [(.str [97,110,100])]),(.int .i64 2)]) []) (qeql x0 (.int .i64 4) fun v3=>cnd v3 (rtn (.tup [(.list [(.str [43]),(.str [45])]),(.int .i64 4)]) []) (qeql x0 (.int .i64 5) fun v4=>cnd v4 (rtn (.tup [(.list [(.str [42]),(.str [47]),(.str [37])]),(.int .i64 4)]) []) (rtn (.tup [(.list [(.str [124,124])]),(.int .i64 4)]) [])))))).v
theorem zmn:evF Tryz.prog G c l [] 10 [] 138 [.d x0] []=zh2 c l x0:=by kernel_rfl
def zgh(c:Orc)(l:Lup)(x0:V):Option Out :=({v:=_}:qX (ckA 4 x0<|qpn c 151 [(norm1 (agN 4 x0)),(.str [110,111,116])] fun v1=>qno v1 fun v2=>cnd v2 (qpn c 115 [(norm1 (agN 4 x0)),(.int .i64 3)] fun v3=>qex v3 0 fun v4=>qex v3 1 fun v5=>ckA 4 v4<|ckA 11 v5<|rtn (.tup [(norm1 (agN 4 v4)),(norm1 (agN 11 v5))]) []) (qpn c 140 [(norm1 (agN 4 x0))] fun v6=>qpn c 115 [(norm1 v6),(.int .i64 2)] fun v7=>qex v7 0 fun v8=>qex v7 1 fun v9=>ckA 4 v8<|ckA 11 v9<|ckA 11 (norm1 (agN 11 v9))<|ckA 4 (agN 4 v8)<|rtn (.tup [(norm1 (agN 4 v8)),(.agg [(.int .i64 3),(.str [110,111,116]),qi,qi,qs,qs,qs,qi,qf,qf,(.list [(norm1 (agN 11 v9))])])]) []))).v
theorem zkE:evF Tryz.prog G c l [] 10 [] 135 [.d x0] []=zgh c l x0:=by kernel_rfl
def zb5(c:Orc)(l:Lup)(a1_0 a1_1 a1_2:V):Option Out :=({v:=_}:qX (qpn c 115 [(norm1 (agN 4 a1_1)),(.int .i64 4)] fun v1=>qex v1 0 fun v2=>qex v1 1 fun v3=>ckA 4 v2<|ckA 11 v3<|ckA 11 (norm1 (agN 11 a1_2))<|ckA 11 (norm1 (agN 11 v3))<|ck1 a1_0<|ckA 4 (agN 4 v2)<|ckA 11 (.agg [(.int .i64 5),qs,qi,qi,qs,qs,qs,qi,a1_0,qf,(.list [(norm1 (agN 11 a1_2)),(norm1 (agN 11 v3))])])<|rtn (.tup [(norm1 (agN 4 v2)),(norm1 (.agg [(.int .i64 5),qs,qi,qi,qs,qs,qs,qi,a1_0,qf,(.list [(norm1 (agN 11 a1_2)),(norm1 (agN 11 v3))])]))]) [])).v
def zbq(c:Orc)(l:Lup)(a3_0 a3_1 a3_2:V):Option Out :=({v:=_}:qX (qpn c 151 [(norm1 (agN 4 a3_1)),(.str [105,110])] fun v1=>cnd v1 (qpn c 140 [(norm1 (agN 4 a3_1))] fun v2=>qpn c 153 [(norm1 v2),(.int .i64 4),(.str [40])] fun v3=>ckA 4 v3<|qpn c 154 [(norm1 (agN 4 v3))] fun v4=>qex v4 0 fun v5=>qex v4 1 fun v6=>ckA 4 v5<|qpn c 153 [(norm1 (agN 4 v5)),(.int .i64 4),(.str [41])] fun v7=>ckA 4 v7<|ckA 11 (norm1 (agN 11 a3_2))<|qap 11 128 (.list [(norm1 (agN 11 a3_2))]) v6 fun v8=>ck1 a3_0<|ck1 v8<|ckA 4 (agN 4 v7)<|ckA 11 (.agg [(.int .i64 6),qs,qi,qi,qs,qs,qs,qi,a3_0,qf,v8])<|rtn (.tup [(norm1 (agN 4 v7)),(norm1 (.agg [(.int .i64 6),qs,qi,qi,qs,qs,qs,qi,a3_0,qf,v8]))]) []) (qpn c 151 [(norm1 (agN 4 a3_1)),(.str [98,101,116,119,101,101,110])] fun v9=>cnd v9 (qpn c 140 [(norm1 (agN 4 a3_1))] fun v10=>qpn c 115 [(norm1 v10),(.int .i64 4)] fun v11=>qex v11 0 fun v12=>qex v11 1 fun v13=>ckA 4 v12<|ckA 11 v13<|qpn c 153 [(norm1 (agN 4 v12)),(.int .i64 2),(.str [97,110,100])] fun v14=>ckA 4 v14<|qpn c 115 [(norm1 (agN 4 v14)),(.int .i64 4)] fun v15=>qex v15 0 fun v16=>qex v15 1 fun v17=>ckA 4 v16<|ckA 11 v17<|ckA 11 (norm1 (agN 11 a3_2))<|ckA 11 (norm1 (agN 11 v13))<|ckA 11 (norm1 (agN 11 v17))<|ck1 a3_0<|ckA 4 (agN 4 v16)<|ckA 11 (.agg [(.int .i64 7),qs,qi,qi,qs,qs,qs,qi,a3_0,qf,(.list [(norm1 (agN 11 a3_2)),(norm1 (agN 11 v13)),(norm1 (agN 11 v17))])])<|rtn (.tup [(norm1 (agN 4 v16)),(norm1 (.agg [(.int .i64 7),qs,qi,qi,qs,qs,qs,qi,a3_0,qf,(.list [(norm1 (agN 11 a3_2)),(norm1 (agN 11 v13)),(norm1 (agN 11 v17))])]))]) []) (qpn c 151 [(norm1 (agN 4 a3_1)),(.str [108,105,107,101])] fun v18=>cnd v18 (qpn c 140 [(norm1 (agN 4 a3_1))] fun v19=>qpn c 115 [(norm1 v19),(.int .i64 4)] fun v20=>qex v20 0 fun v21=>qex v20 1 fun v22=>ckA 4 v21<|ckA 11 v22<|ckA 11 (norm1 (agN 11 a3_2))<|ckA 11 (norm1 (agN 11 v22))<|ck1 a3_0<|ckA 4 (agN 4 v21)<|ckA 11 (.agg [(.int .i64 8),qs,qi,qi,qs,qs,qs,qi,a3_0,qf,(.list [(norm1 (agN 11 a3_2)),(norm1 (agN 11 v22))])])<|rtn (.tup [(norm1 (agN 4 v21)),(norm1 (.agg [(.int .i64 8),qs,qi,qi,qs,qs,qs,qi,a3_0,qf,(.list [(norm1 (agN 11 a3_2)),(norm1 (agN 11 v22))])]))]) []) (ckA 4 (agN 4 a3_1)<|ckA 11 (agN 11 a3_2)<|rtn (.tup [(norm1 (agN 4 a3_1)),(norm1 (agN 11 a3_2))]) []))))).v
def zaG(c:Orc)(l:Lup)(a2_0 a2_1 a2_2:V):Option Out:=cnd a2_0 (cl0 c 140 [(norm1 (agN 4 a2_1))] (fun w=>pnk w []) fun v1=>ckA 4 v1<|zbq c l a2_0 (agN 4 v1) (agN 11 a2_2)) (zbq c l a2_0 (agN 4 a2_1) (agN 11 a2_2))
def zfv(c:Orc)(l:Lup)(x0:V):Option Out :=({v:=_}:qX (ckA 4 x0<|qpn c 115 [(norm1 (agN 4 x0)),(.int .i64 4)] fun v1=>qex v1 0 fun v2=>qex v1 1 fun v3=>ckA 4 v2<|ckA 11 v3<|qpn c 139 [(norm1 (agN 4 v2)),(.list [(.str [61]),(.str [60,62]),(.str [60]),(.str [60,61]),(.str [62]),(.str [62,61])]),(.int .i64 4)] fun v4=>qneq v4 qs fun v5=>cnd v5 (qpn c 140 [(norm1 (agN 4 v2))] fun v6=>qpn c 115 [(norm1 v6),(.int .i64 4)] fun v7=>qex v7 0 fun v8=>qex v7 1 fun v9=>ckA 4 v8<|ckA 11 v9<|ag oeq<|qpn c 141 [(norm1 v4),(norm1 (agN 11 v3)),(norm1 (agN 11 v9))] fun v10=>ckA 4 (agN 4 v8)<|ckA 11 v10<|rtn (.tup [(norm1 (agN 4 v8)),(norm1 (agN 11 v10))]) []) (qpn c 151 [(norm1 (agN 4 v2)),(.str [105,115])] fun v11=>cnd v11 (qpn c 140 [(norm1 (agN 4 v2))] fun v12=>ckA 4 v12<|qpn c 151 [(norm1 (agN 4 v12)),(.str [110,111,116])] fun v13=>cnd v13 (qpn c 140 [(norm1 (agN 4 v12))] fun v14=>ckA 4 v14<|zb5 c l v13 (agN 4 v14) (agN 11 v3)) (zb5 c l v13 (agN 4 v12) (agN 11 v3))) (qpn c 151 [(norm1 (agN 4 v2)),(.str [110,111,116])] fun v15=>cnd v15 (qpn c 152 [(norm1 (agN 4 v2)),qj,(.int .i64 2),(.str [105,110])] fun v16=>cnd v16 (zaG c l qt (agN 4 v2) (agN 11 v3)) (qpn c 152 [(norm1 (agN 4 v2)),qj,(.int .i64 2),(.str [98,101,116,119,101,101,110])] fun v17=>cnd v17 (zaG c l qt (agN 4 v2) (agN 11 v3)) (qpn c 152 [(norm1 (agN 4 v2)),qj,(.int .i64 2),(.str [108,105,107,101])] fun v18=>zaG c l v18 (agN 4 v2) (agN 11 v3)))) (zaG c l qf (agN 4 v2) (agN 11 v3)))))).v
theorem zjs:evF Tryz.prog G c l [(115,113)] 10 [] 136 [.d x0] []=zfv c l x0:=by kernel_rfl
def zbx(c:Orc)(l:Lup)(a2_0 a2_1 a2_2:V):Option Out :=({v:=_}:qX (cnd a2_1 (agr oeq (qpn c 140 [(norm1 (agN 4 a2_2))] fun v1=>agr oeq (agr oeq (qel 6 (cell a2_2 0) (cell a2_2 1) fun v2=>agr oeq (qld v2 3 fun v3=>(zgj .neg v3).bind fun v4=>ck1 v4<|ckA 3 (.agg [qj,v4,qs])<|ckA 4 v1<|ckA 11 (.agg [qj,qs,qj,v4,qs,qs,qs,qi,qf,qf,.nils])<|rtn (.tup [(norm1 (agN 4 v1)),(norm1 (.agg [qj,qs,qj,v4,qs,qs,qs,qi,qf,qf,.nils]))]) []) (ckA 4 v1<|qld v2 3 fun v3=>(zgj .neg v3).bind fun v4=>ck1 v4<|ckA 3 (.agg [qj,v4,qs])<|ckA 11 (.agg [qj,qs,qj,v4,qs,qs,qs,qi,qf,qf,.nils])<|rtn (.tup [(norm1 (agN 4 v1)),(norm1 (.agg [qj,qs,qj,v4,qs,qs,qs,qi,qf,qf,.nils]))]) [])) (ckA 4 v1<|qel 6 (cell a2_2 0) (cell a2_2 1) fun v2=>qld v2 3 fun v3=>(zgj .neg v3).bind fun v4=>ck1 v4<|ckA 3 (.agg [qj,v4,qs])<|ckA 11 (.agg [qj,qs,qj,v4,qs,qs,qs,qi,qf,qf,.nils])<|rtn (.tup [(norm1 (agN 4 v1)),(norm1 (.agg [qj,qs,qj,v4,qs,qs,qs,qi,qf,qf,.nils]))]) [])) (agr oeq (agr oeq (qel 6 (cell a2_2 0) (cell a2_2 1) fun v2=>agr oeq (qld v2 3 fun v3=>(zgj .neg v3).bind fun v4=>ck1 v4<|ckA 3 (.agg [qj,v4,qs])<|ckA 4 v1<|ckA 11 (.agg [qj,qs,qj,v4,qs,qs,qs,qi,qf,qf,.nils])<|rtn (.tup [(norm1 (agN 4 v1)),(norm1 (.agg [qj,qs,qj,v4,qs,qs,qs,qi,qf,qf,.nils]))]) []) (ckA 4 v1<|qld v2 3 fun v3=>(zgj .neg v3).bind fun v4=>ck1 v4<|ckA 3 (.agg [qj,v4,qs])<|ckA 11 (.agg [qj,qs,qj,v4,qs,qs,qs,qi,qf,qf,.nils])<|rtn (.tup [(norm1 (agN 4 v1)),(norm1 (.agg [qj,qs,qj,v4,qs,qs,qs,qi,qf,qf,.nils]))]) [])) (ckA 4 v1<|qel 6 (cell a2_2 0) (cell a2_2 1) fun v2=>qld v2 3 fun v3=>(zgj .neg v3).bind fun v4=>ck1 v4<|ckA 3 (.agg [qj,v4,qs])<|ckA 11 (.agg [qj,qs,qj,v4,qs,qs,qs,qi,qf,qf,.nils])<|rtn (.tup [(norm1 (agN 4 v1)),(norm1 (.agg [qj,qs,qj,v4,qs,qs,qs,qi,qf,qf,.nils]))]) [])) (ckA 4 v1<|qel 6 (cell a2_2 0) (cell a2_2 1) fun v2=>qld v2 3 fun v3=>(zgj .neg v3).bind fun v4=>ck1 v4<|ckA 3 (.agg [qj,v4,qs])<|ckA 11 (.agg [qj,qs,qj,v4,qs,qs,qs,qi,qf,qf,.nils])<|rtn (.tup [(norm1 (agN 4 v1)),(norm1 (.agg [qj,qs,qj,v4,qs,qs,qs,qi,qf,qf,.nils]))]) []))) (ag oeq<|agr oeq (qpn c 140 [(norm1 (agN 4 a2_2))] fun v1=>agr oeq (qel 6 (cell a2_2 0) (cell a2_2 1) fun v2=>agr oeq (qld v2 3 fun v3=>(zgj .neg v3).bind fun v4=>ck1 v4<|ckA 3 (.agg [qj,v4,qs])<|ckA 4 v1<|ckA 11 (.agg [qj,qs,qj,v4,qs,qs,qs,qi,qf,qf,.nils])<|rtn (.tup [(norm1 (agN 4 v1)),(norm1 (.agg [qj,qs,qj,v4,qs,qs,qs,qi,qf,qf,.nils]))]) []) (ckA 4 v1<|qld v2 3 fun v3=>(zgj .neg v3).bind fun v4=>ck1 v4<|ckA 3 (.agg [qj,v4,qs])<|ckA 11 (.agg [qj,qs,qj,v4,qs,qs,qs,qi,qf,qf,.nils])<|rtn (.tup [(norm1 (agN 4 v1)),(norm1 (.agg [qj,qs,qj,v4,qs,qs,qs,qi,qf,qf,.nils]))]) [])) (ckA 4 v1<|qel 6 (cell a2_2 0) (cell a2_2 1) fun v2=>qld v2 3 fun v3=>(zgj .neg v3).bind fun v4=>ck1 v4<|ckA 3 (.agg [qj,v4,qs])<|ckA 11 (.agg [qj,qs,qj,v4,qs,qs,qs,qi,qf,qf,.nils])<|rtn (.tup [(norm1 (agN 4 v1)),(norm1 (.agg [qj,qs,qj,v4,qs,qs,qs,qi,qf,qf,.nils]))]) [])) (qel 6 (cell a2_2 0) (cell a2_2 1) fun v1=>agr oeq (qpn c 140 [(norm1 (agN 4 a2_2))] fun v2=>agr oeq (qld v1 3 fun v3=>(zgj .neg v3).bind fun v4=>ck1 v4<|ckA 3 (.agg [qj,v4,qs])<|ckA 4 v2<|ckA 11 (.agg [qj,qs,qj,v4,qs,qs,qs,qi,qf,qf,.nils])<|rtn (.tup [(norm1 (agN 4 v2)),(norm1 (.agg [qj,qs,qj,v4,qs,qs,qs,qi,qf,qf,.nils]))]) []) (ckA 4 v2<|qld v1 3 fun v3=>(zgj .neg v3).bind fun v4=>ck1 v4<|ckA 3 (.agg [qj,v4,qs])<|ckA 11 (.agg [qj,qs,qj,v4,qs,qs,qs,qi,qf,qf,.nils])<|rtn (.tup [(norm1 (agN 4 v2)),(norm1 (.agg [qj,qs,qj,v4,qs,qs,qs,qi,qf,qf,.nils]))]) [])) (qld v1 3 fun v2=>(zgj .neg v2).bind fun v3=>ck1 v3<|ckA 3 (.agg [qj,v3,qs])<|qpn c 140 [(norm1 (agN 4 a2_2))] fun v4=>ckA 4 v4<|ckA 11 (.agg [qj,qs,qj,v3,qs,qs,qs,qi,qf,qf,.nils])<|rtn (.tup [(norm1 (agN 4 v4)),(norm1 (.agg [qj,qs,qj,v3,qs,qs,qs,qi,qf,qf,.nils]))]) [])))) (qpn c 115 [(norm1 (agN 4 a2_2)),(.int .i64 7)] fun v5=>qex v5 0 fun v6=>qex v5 1 fun v7=>ckA 4 v6<|ckA 11 v7<|ckA 11 (norm1 (agN 11 v7))<|ck1 a2_0<|ckA 4 (agN 4 v6)<|ckA 11 (.agg [(.int .i64 3),a2_0,qi,qi,qs,qs,qs,qi,qf,qf,(.list [(norm1 (agN 11 v7))])])<|rtn (.tup [(norm1 (agN 4 v6)),(norm1 (.agg [(.int .i64 3),a2_0,qi,qi,qs,qs,qs,qi,qf,qf,(.list [(norm1 (agN 11 v7))])]))]) []))).v
def zby(c:Orc)(l:Lup)(a1_0 a1_1:V):Option Out :=({v:=_}:qX (cnd a1_0 (qpn c 156 [(norm1 (agN 4 a1_1))] fun v1=>qex v1 0 fun v2=>qex v1 1 fun v3=>ckA 4 v2<|ckA 11 v3<|rtn (.tup [(norm1 (agN 4 v2)),(norm1 (agN 11 v3))]) []) (qel 6 (cell a1_1 0) (cell a1_1 1) fun v4=>qld v4 1 fun v5=>qpn c 140 [(norm1 (agN 4 a1_1))] fun v6=>ckA 4 v6<|qeql v5 (.str [45]) fun v7=>cnd v7 (qpn c 157 [(norm1 (agN 4 v6)),(.int .i64 3)] fun v8=>cnd v8 (qel 6 (cell v6 0) (cell v6 1) fun v9=>qld v9 2 fun v10=>qeql v10 qj fun v11=>zbx c l v5 v11 (agN 4 v6)) (zbx c l v5 qf (agN 4 v6))) (zbx c l v5 qf (agN 4 v6))))).v
def zhf(c:Orc)(l:Lup)(x0:V):Option Out :=({v:=_}:qX (ckA 4 x0<|qpn c 155 [(norm1 (agN 4 x0)),(.str [45])] fun v1=>qno v1 fun v2=>cnd v2 (qpn c 155 [(norm1 (agN 4 x0)),(.str [43])] fun v3=>qno v3 fun v4=>zby c l v4 (agN 4 x0)) (zby c l qf (agN 4 x0)))).v
theorem zlD:evF Tryz.prog G c l [] 10 [] 137 [.d x0] []=zhf c l x0:=by kernel_rfl
def zeV(c:Orc)(l:Lup)(a1_2 a1_3:V):Option Out:=ckA 4 (agN 4 a1_2)<|ckA 11 (agN 11 a1_3)<|rtn (.tup [(norm1 (agN 4 a1_2)),(norm1 (agN 11 a1_3))]) []
def zaU(c:Orc)(l:Lup)(s:List V):Option (Stp Out) :=({v:=_}:qX (qneq (gt s 3) qs fun v1=>cnd v1 (qpo c 140 [(norm1 (agN 4 (gt s 6)))] fun v2=>qadd (gt s 0) qj fun v3=>qpo c 115 [(norm1 v2),(norm1 v3)] fun v4=>qex v4 0 fun v5=>qex v4 1 fun v6=>ckA 4 v5<|ckA 11 v6<|ckA 4 (agN 4 v5)<|qpo c 141 [(norm1 (gt s 3)),(norm1 (agN 11 (gt s 7))),(norm1 (agN 11 v6))] fun v7=>ckA 11 v7<|qpo c 139 [(norm1 (agN 4 v5)),(norm1 (gt s 1)),(norm1 (gt s 2))] fun v8=>some (.next [(gt s 0),(gt s 1),(gt s 2),v8,(agN 4 (gt s 4)),(agN 11 (gt s 5)),(agN 4 v5),(agN 11 v7)])) (om (zeV c l (agN 4 (gt s 6)) (agN 11 (gt s 7)))))).v
def zeG(c:Orc)(l:Lup)(x0 x1:V):Option Out :=({v:=_}:qX (ckA 4 x0<|qneq (cell x0 2) qi fun v1=>cnd v1 (ckA 4 (agN 4 x0)<|rtn (.tup [(norm1 (agN 4 x0)),(.agg [qi,qs,qi,qi,qs,qs,qs,qi,qf,qf,(.list [])])]) []) (qeql x1 (.int .i64 2) fun v2=>cnd v2 (qpn c 135 [(norm1 (agN 4 x0))] fun v3=>qex v3 0 fun v4=>qex v3 1 fun v5=>ckA 4 v4<|ckA 11 v5<|rtn (.tup [(norm1 (agN 4 v4)),(norm1 (agN 11 v5))]) []) (qeql x1 (.int .i64 3) fun v6=>cnd v6 (qpn c 136 [(norm1 (agN 4 x0))] fun v7=>qex v7 0 fun v8=>qex v7 1 fun v9=>ckA 4 v8<|ckA 11 v9<|rtn (.tup [(norm1 (agN 4 v8)),(norm1 (agN 11 v9))]) []) (qeql x1 (.int .i64 7) fun v10=>cnd v10 (qpn c 137 [(norm1 (agN 4 x0))] fun v11=>qex v11 0 fun v12=>qex v11 1 fun v13=>ckA 4 v12<|ckA 11 v13<|rtn (.tup [(norm1 (agN 4 v12)),(norm1 (agN 11 v13))]) []) (qpn c 138 [(norm1 x1)] fun v14=>qex v14 0 fun v15=>qex v14 1 fun v16=>qadd x1 qj fun v17=>qpn c 115 [(norm1 (agN 4 x0)),(norm1 v17)] fun v18=>qex v18 0 fun v19=>qex v18 1 fun v20=>ckA 4 v19<|ckA 11 v20<|qpn c 139 [(norm1 (agN 4 v19)),(norm1 v15),(norm1 v16)] fun v21=>l Out (zaU c l) [x1,v15,v16,v21,(.agg [.nils,qi,qi,qi]),(.agg [qi,qs,qi,qi,qs,qs,qs,qi,qf,qf,.nils]),(agN 4 v19),(agN 11 v20)])))))).v
def zii:List LA:=[⟨false,[(1,.d),(4,.c (.p 11 0)),(5,.c (.p 12 0)),(6,.d),(7,.d),(8,.c (.p 58 0)),(9,.c (.p 59 0)),(10,.d)],[.bv 11 151 4,.bv 12 46 11,.bv 58 151 4,.bv 59 46 11]⟩]
theorem zgy:evF Tryz.prog G c l [] 10 zii 115 [.d x0,.d x1] []=zeG c l x0 x1:=by kernel_rfl
def zcW(c:Orc)(l:Lup)(a1_1 a1_2:V):Option Out:=ckA 4 (agN 4 a1_1)<|rtn (.tup [(norm1 (agN 4 a1_1)),(norm1 a1_2)]) []
def zaM(c:Orc)(l:Lup)(s:List V):Option (Stp Out) :=({v:=_}:qX (qpo c 155 [(norm1 (agN 4 (gt s 1))),(.str [44])] fun v1=>cnd v1 (qpo c 140 [(norm1 (agN 4 (gt s 1)))] fun v2=>qpo c 115 [(norm1 v2),qi] fun v3=>qex v3 0 fun v4=>qex v3 1 fun v5=>ckA 4 v4<|ckA 11 v5<|ckA 4 (agN 4 v4)<|ckA 11 (norm1 (agN 11 v5))<|qap 11 128 (gt s 2) (.list [(norm1 (agN 11 v5))]) fun v6=>some (.next [(agN 4 (gt s 0)),(agN 4 v4),v6])) (om (zcW c l (agN 4 (gt s 1)) (gt s 2))))).v
def zeH(c:Orc)(l:Lup)(x0:V):Option Out :=({v:=_}:qX (ckA 4 x0<|qpn c 115 [(norm1 (agN 4 x0)),qi] fun v1=>qex v1 0 fun v2=>qex v1 1 fun v3=>ckA 4 v2<|ckA 11 v3<|ckA 11 (norm1 (agN 11 v3))<|l Out (zaM c l) [(.agg [.nils,qi,qi,qi]),(agN 4 v2),(.list [(norm1 (agN 11 v3))])])).v
def zij:List LA:=[⟨false,[(2,.c (.p 11 0)),(4,.c (.p 18 0)),(6,.q 23)],[.bv 11 151 4,.bv 18 151 4,.rq 23 46 11]⟩]
theorem zgz:evF Tryz.prog G c l [(42,23)] 10 zij 154 [.d x0] []=zeH c l x0:=by kernel_rfl
def zh1(c:Orc)(l:Lup)(x0:V):Option Out :=({v:=_}:qX (ckA 4 x0<|qpn c 157 [(norm1 (agN 4 x0)),(.int .i64 3)] fun v1=>cnd v1 (agr oeq (qpn c 140 [(norm1 (agN 4 x0))] fun v2=>agr oeq (agr oeq (qel 6 (cell x0 0) (cell x0 1) fun v3=>agr oeq (qlt 3 v3 2 fun v4=>ckA 3 v4<|ckA 4 v2<|ckA 11 (.agg [qj,qs,(cell v4 0),(cell v4 1),(cell v4 2),qs,qs,qi,qf,qf,.nils])<|rtn (.tup [(norm1 (agN 4 v2)),(norm1 (.agg [qj,qs,(cell v4 0),(cell v4 1),(cell v4 2),qs,qs,qi,qf,qf,.nils]))]) []) (ckA 4 v2<|qlt 3 v3 2 fun v4=>ckA 3 v4<|ckA 11 (.agg [qj,qs,(cell v4 0),(cell v4 1),(cell v4 2),qs,qs,qi,qf,qf,.nils])<|rtn (.tup [(norm1 (agN 4 v2)),(norm1 (.agg [qj,qs,(cell v4 0),(cell v4 1),(cell v4 2),qs,qs,qi,qf,qf,.nils]))]) [])) (ckA 4 v2<|qel 6 (cell x0 0) (cell x0 1) fun v3=>qlt 3 v3 2 fun v4=>ckA 3 v4<|ckA 11 (.agg [qj,qs,(cell v4 0),(cell v4 1),(cell v4 2),qs,qs,qi,qf,qf,.nils])<|rtn (.tup [(norm1 (agN 4 v2)),(norm1 (.agg [qj,qs,(cell v4 0),(cell v4 1),(cell v4 2),qs,qs,qi,qf,qf,.nils]))]) [])) (agr oeq (agr oeq (qel 6 (cell x0 0) (cell x0 1) fun v3=>agr oeq (qlt 3 v3 2 fun v4=>ckA 3 v4<|ckA 4 v2<|ckA 11 (.agg [qj,qs,(cell v4 0),(cell v4 1),(cell v4 2),qs,qs,qi,qf,qf,.nils])<|rtn (.tup [(norm1 (agN 4 v2)),(norm1 (.agg [qj,qs,(cell v4 0),(cell v4 1),(cell v4 2),qs,qs,qi,qf,qf,.nils]))]) []) (ckA 4 v2<|qlt 3 v3 2 fun v4=>ckA 3 v4<|ckA 11 (.agg [qj,qs,(cell v4 0),(cell v4 1),(cell v4 2),qs,qs,qi,qf,qf,.nils])<|rtn (.tup [(norm1 (agN 4 v2)),(norm1 (.agg [qj,qs,(cell v4 0),(cell v4 1),(cell v4 2),qs,qs,qi,qf,qf,.nils]))]) [])) (ckA 4 v2<|qel 6 (cell x0 0) (cell x0 1) fun v3=>qlt 3 v3 2 fun v4=>ckA 3 v4<|ckA 11 (.agg [qj,qs,(cell v4 0),(cell v4 1),(cell v4 2),qs,qs,qi,qf,qf,.nils])<|rtn (.tup [(norm1 (agN 4 v2)),(norm1 (.agg [qj,qs,(cell v4 0),(cell v4 1),(cell v4 2),qs,qs,qi,qf,qf,.nils]))]) [])) (ckA 4 v2<|qel 6 (cell x0 0) (cell x0 1) fun v3=>qlt 3 v3 2 fun v4=>ckA 3 v4<|ckA 11 (.agg [qj,qs,(cell v4 0),(cell v4 1),(cell v4 2),qs,qs,qi,qf,qf,.nils])<|rtn (.tup [(norm1 (agN 4 v2)),(norm1 (.agg [qj,qs,(cell v4 0),(cell v4 1),(cell v4 2),qs,qs,qi,qf,qf,.nils]))]) []))) (ag oeq<|agr oeq (qpn c 140 [(norm1 (agN 4 x0))] fun v2=>agr oeq (qel 6 (cell x0 0) (cell x0 1) fun v3=>agr oeq (qlt 3 v3 2 fun v4=>ckA 3 v4<|ckA 4 v2<|ckA 11 (.agg [qj,qs,(cell v4 0),(cell v4 1),(cell v4 2),qs,qs,qi,qf,qf,.nils])<|rtn (.tup [(norm1 (agN 4 v2)),(norm1 (.agg [qj,qs,(cell v4 0),(cell v4 1),(cell v4 2),qs,qs,qi,qf,qf,.nils]))]) []) (ckA 4 v2<|qlt 3 v3 2 fun v4=>ckA 3 v4<|ckA 11 (.agg [qj,qs,(cell v4 0),(cell v4 1),(cell v4 2),qs,qs,qi,qf,qf,.nils])<|rtn (.tup [(norm1 (agN 4 v2)),(norm1 (.agg [qj,qs,(cell v4 0),(cell v4 1),(cell v4 2),qs,qs,qi,qf,qf,.nils]))]) [])) (ckA 4 v2<|qel 6 (cell x0 0) (cell x0 1) fun v3=>qlt 3 v3 2 fun v4=>ckA 3 v4<|ckA 11 (.agg [qj,qs,(cell v4 0),(cell v4 1),(cell v4 2),qs,qs,qi,qf,qf,.nils])<|rtn (.tup [(norm1 (agN 4 v2)),(norm1 (.agg [qj,qs,(cell v4 0),(cell v4 1),(cell v4 2),qs,qs,qi,qf,qf,.nils]))]) [])) (qel 6 (cell x0 0) (cell x0 1) fun v2=>agr oeq (qpn c 140 [(norm1 (agN 4 x0))] fun v3=>agr oeq (qlt 3 v2 2 fun v4=>ckA 3 v4<|ckA 4 v3<|ckA 11 (.agg [qj,qs,(cell v4 0),(cell v4 1),(cell v4 2),qs,qs,qi,qf,qf,.nils])<|rtn (.tup [(norm1 (agN 4 v3)),(norm1 (.agg [qj,qs,(cell v4 0),(cell v4 1),(cell v4 2),qs,qs,qi,qf,qf,.nils]))]) []) (ckA 4 v3<|qlt 3 v2 2 fun v4=>ckA 3 v4<|ckA 11 (.agg [qj,qs,(cell v4 0),(cell v4 1),(cell v4 2),qs,qs,qi,qf,qf,.nils])<|rtn (.tup [(norm1 (agN 4 v3)),(norm1 (.agg [qj,qs,(cell v4 0),(cell v4 1),(cell v4 2),qs,qs,qi,qf,qf,.nils]))]) [])) (qlt 3 v2 2 fun v3=>ckA 3 v3<|qpn c 140 [(norm1 (agN 4 x0))] fun v4=>ckA 4 v4<|ckA 11 (.agg [qj,qs,(cell v3 0),(cell v3 1),(cell v3 2),qs,qs,qi,qf,qf,.nils])<|rtn (.tup [(norm1 (agN 4 v4)),(norm1 (.agg [qj,qs,(cell v3 0),(cell v3 1),(cell v3 2),qs,qs,qi,qf,qf,.nils]))]) [])))) (qpn c 151 [(norm1 (agN 4 x0)),(.str [110,117,108,108])] fun v5=>cnd v5 (qpn c 140 [(norm1 (agN 4 x0))] fun v6=>ckA 4 v6<|rtn (.tup [(norm1 (agN 4 v6)),(.agg [qj,qs,qi,qi,qs,qs,qs,qi,qf,qf,(.list [])])]) []) (qpn c 151 [(norm1 (agN 4 x0)),(.str [99,97,115,101])] fun v7=>cnd v7 (qpn c 140 [(norm1 (agN 4 x0))] fun v8=>qpn c 164 [(norm1 v8)] fun v9=>qex v9 0 fun v10=>qex v9 1 fun v11=>ckA 4 v10<|ckA 11 v11<|rtn (.tup [(norm1 (agN 4 v10)),(norm1 (agN 11 v11))]) []) (qpn c 151 [(norm1 (agN 4 x0)),(.str [99,97,115,116])] fun v12=>cnd v12 (qpn c 140 [(norm1 (agN 4 x0))] fun v13=>qpn c 165 [(norm1 v13)] fun v14=>qex v14 0 fun v15=>qex v14 1 fun v16=>ckA 4 v15<|ckA 11 v16<|rtn (.tup [(norm1 (agN 4 v15)),(norm1 (agN 11 v16))]) []) (qpn c 155 [(norm1 (agN 4 x0)),(.str [40])] fun v17=>cnd v17 (qpn c 140 [(norm1 (agN 4 x0))] fun v18=>qpn c 115 [(norm1 v18),qi] fun v19=>qex v19 0 fun v20=>qex v19 1 fun v21=>ckA 4 v20<|ckA 11 v21<|qpn c 153 [(norm1 (agN 4 v20)),(.int .i64 4),(.str [41])] fun v22=>ckA 4 v22<|ckA 11 (agN 11 v21)<|rtn (.tup [(norm1 (agN 4 v22)),(norm1 (agN 11 v21))]) []) (qpn c 157 [(norm1 (agN 4 x0)),qj] fun v23=>qno v23 fun v24=>cnd v24 (qpn c 163 [(norm1 (agN 4 x0))] fun v25=>ckA 4 v25<|rtn (.tup [(norm1 (agN 4 v25)),(.agg [qi,qs,qi,qi,qs,qs,qs,qi,qf,qf,(.list [])])]) []) (qel 6 (cell x0 0) (cell x0 1) fun v26=>qld v26 1 fun v27=>qpn c 140 [(norm1 (agN 4 x0))] fun v28=>ckA 4 v28<|qpn c 155 [(norm1 (agN 4 v28)),(.str [46])] fun v29=>cnd v29 (qpn c 140 [(norm1 (agN 4 v28))] fun v30=>ckA 4 v30<|qpn c 157 [(norm1 (agN 4 v30)),qj] fun v31=>qno v31 fun v32=>cnd v32 (qpn c 163 [(norm1 (agN 4 v30))] fun v33=>ckA 4 v33<|rtn (.tup [(norm1 (agN 4 v33)),(.agg [qi,qs,qi,qi,qs,qs,qs,qi,qf,qf,(.list [])])]) []) (agr oeq (qpn c 140 [(norm1 (agN 4 v30))] fun v34=>agr oeq (agr oeq (qel 6 (cell v30 0) (cell v30 1) fun v35=>agr oeq (qld v35 1 fun v36=>ck1 v27<|ck1 v36<|ckA 4 v34<|ckA 11 (.agg [(.int .i64 2),qs,qi,qi,qs,v27,v36,qi,qf,qf,.nils])<|rtn (.tup [(norm1 (agN 4 v34)),(norm1 (.agg [(.int .i64 2),qs,qi,qi,qs,v27,v36,qi,qf,qf,.nils]))]) []) (ckA 4 v34<|qld v35 1 fun v36=>ck1 v27<|ck1 v36<|ckA 11 (.agg [(.int .i64 2),qs,qi,qi,qs,v27,v36,qi,qf,qf,.nils])<|rtn (.tup [(norm1 (agN 4 v34)),(norm1 (.agg [(.int .i64 2),qs,qi,qi,qs,v27,v36,qi,qf,qf,.nils]))]) [])) (ckA 4 v34<|qel 6 (cell v30 0) (cell v30 1) fun v35=>qld v35 1 fun v36=>ck1 v27<|ck1 v36<|ckA 11 (.agg [(.int .i64 2),qs,qi,qi,qs,v27,v36,qi,qf,qf,.nils])<|rtn (.tup [(norm1 (agN 4 v34)),(norm1 (.agg [(.int .i64 2),qs,qi,qi,qs,v27,v36,qi,qf,qf,.nils]))]) [])) (agr oeq (agr oeq (qel 6 (cell v30 0) (cell v30 1) fun v35=>agr oeq (qld v35 1 fun v36=>ck1 v27<|ck1 v36<|ckA 4 v34<|ckA 11 (.agg [(.int .i64 2),qs,qi,qi,qs,v27,v36,qi,qf,qf,.nils])<|rtn (.tup [(norm1 (agN 4 v34)),(norm1 (.agg [(.int .i64 2),qs,qi,qi,qs,v27,v36,qi,qf,qf,.nils]))]) []) (ckA 4 v34<|qld v35 1 fun v36=>ck1 v27<|ck1 v36<|ckA 11 (.agg [(.int .i64 2),qs,qi,qi,qs,v27,v36,qi,qf,qf,.nils])<|rtn (.tup [(norm1 (agN 4 v34)),(norm1 (.agg [(.int .i64 2),qs,qi,qi,qs,v27,v36,qi,qf,qf,.nils]))]) [])) (ckA 4 v34<|qel 6 (cell v30 0) (cell v30 1) fun v35=>qld v35 1 fun v36=>ck1 v27<|ck1 v36<|ckA 11 (.agg [(.int .i64 2),qs,qi,qi,qs,v27,v36,qi,qf,qf,.nils])<|rtn (.tup [(norm1 (agN 4 v34)),(norm1 (.agg [(.int .i64 2),qs,qi,qi,qs,v27,v36,qi,qf,qf,.nils]))]) [])) (ckA 4 v34<|qel 6 (cell v30 0) (cell v30 1) fun v35=>qld v35 1 fun v36=>ck1 v27<|ck1 v36<|ckA 11 (.agg [(.int .i64 2),qs,qi,qi,qs,v27,v36,qi,qf,qf,.nils])<|rtn (.tup [(norm1 (agN 4 v34)),(norm1 (.agg [(.int .i64 2),qs,qi,qi,qs,v27,v36,qi,qf,qf,.nils]))]) []))) (ag oeq<|agr oeq (qpn c 140 [(norm1 (agN 4 v30))] fun v34=>agr oeq (qel 6 (cell v30 0) (cell v30 1) fun v35=>agr oeq (qld v35 1 fun v36=>ck1 v27<|ck1 v36<|ckA 4 v34<|ckA 11 (.agg [(.int .i64 2),qs,qi,qi,qs,v27,v36,qi,qf,qf,.nils])<|rtn (.tup [(norm1 (agN 4 v34)),(norm1 (.agg [(.int .i64 2),qs,qi,qi,qs,v27,v36,qi,qf,qf,.nils]))]) []) (ckA 4 v34<|qld v35 1 fun v36=>ck1 v27<|ck1 v36<|ckA 11 (.agg [(.int .i64 2),qs,qi,qi,qs,v27,v36,qi,qf,qf,.nils])<|rtn (.tup [(norm1 (agN 4 v34)),(norm1 (.agg [(.int .i64 2),qs,qi,qi,qs,v27,v36,qi,qf,qf,.nils]))]) [])) (ckA 4 v34<|qel 6 (cell v30 0) (cell v30 1) fun v35=>qld v35 1 fun v36=>ck1 v27<|ck1 v36<|ckA 11 (.agg [(.int .i64 2),qs,qi,qi,qs,v27,v36,qi,qf,qf,.nils])<|rtn (.tup [(norm1 (agN 4 v34)),(norm1 (.agg [(.int .i64 2),qs,qi,qi,qs,v27,v36,qi,qf,qf,.nils]))]) [])) (qel 6 (cell v30 0) (cell v30 1) fun v34=>agr oeq (qpn c 140 [(norm1 (agN 4 v30))] fun v35=>agr oeq (qld v34 1 fun v36=>ck1 v27<|ck1 v36<|ckA 4 v35<|ckA 11 (.agg [(.int .i64 2),qs,qi,qi,qs,v27,v36,qi,qf,qf,.nils])<|rtn (.tup [(norm1 (agN 4 v35)),(norm1 (.agg [(.int .i64 2),qs,qi,qi,qs,v27,v36,qi,qf,qf,.nils]))]) []) (ckA 4 v35<|qld v34 1 fun v36=>ck1 v27<|ck1 v36<|ckA 11 (.agg [(.int .i64 2),qs,qi,qi,qs,v27,v36,qi,qf,qf,.nils])<|rtn (.tup [(norm1 (agN 4 v35)),(norm1 (.agg [(.int .i64 2),qs,qi,qi,qs,v27,v36,qi,qf,qf,.nils]))]) [])) (qld v34 1 fun v35=>ck1 v27<|ck1 v35<|qpn c 140 [(norm1 (agN 4 v30))] fun v36=>ckA 4 v36<|ckA 11 (.agg [(.int .i64 2),qs,qi,qi,qs,v27,v35,qi,qf,qf,.nils])<|rtn (.tup [(norm1 (agN 4 v36)),(norm1 (.agg [(.int .i64 2),qs,qi,qi,qs,v27,v35,qi,qf,qf,.nils]))]) []))))) (qpn c 155 [(norm1 (agN 4 v28)),(.str [40])] fun v37=>cnd v37 (qpn c 140 [(norm1 (agN 4 v28))] fun v38=>qpn c 77 [(norm1 v27)] fun v39=>qpn c 166 [(norm1 v38),(norm1 v39)] fun v40=>qex v40 0 fun v41=>qex v40 1 fun v42=>ckA 4 v41<|ckA 11 v42<|rtn (.tup [(norm1 (agN 4 v41)),(norm1 (agN 11 v42))]) []) (ck1 v27<|ckA 4 (agN 4 v28)<|ckA 11 (.agg [(.int .i64 2),qs,qi,qi,qs,qs,v27,qi,qf,qf,.nils])<|rtn (.tup [(norm1 (agN 4 v28)),(norm1 (.agg [(.int .i64 2),qs,qi,qi,qs,qs,v27,qi,qf,qf,.nils]))]) [])))))))))).v
theorem zmm:evF Tryz.prog G c l [] 10 [] 156 [.d x0] []=zh1 c l x0:=by kernel_rfl
def zbO(c:Orc)(l:Lup)(a3_0 a3_3 a3_4 a3_5 a3_6 a3_7 a3_8 a3_9 a3_10 a3_11 a3_12 a3_13:V):Option Out:=cl0 c 153 [(norm1 (agN 4 a3_0)),(.int .i64 2),(.str [101,110,100])] (fun w=>pnk w []) fun v1=>ckA 4 v1<|ckA 11 (.agg [a3_3,a3_4,a3_5,a3_6,a3_7,a3_8,a3_9,a3_10,a3_11,a3_12,a3_13])<|rtn (.tup [(norm1 (agN 4 v1)),(norm1 (.agg [a3_3,a3_4,a3_5,a3_6,a3_7,a3_8,a3_9,a3_10,a3_11,a3_12,a3_13]))]) []
def zez(c:Orc)(l:Lup)(a2_0 a2_3:V):Option Out :=({v:=_}:qX (qpn c 151 [(norm1 (agN 4 a2_0)),(.str [101,108,115,101])] fun v1=>cnd v1 (qpn c 140 [(norm1 (agN 4 a2_0))] fun v2=>qpn c 115 [(norm1 v2),qi] fun v3=>qex v3 0 fun v4=>qex v3 1 fun v5=>ckA 4 v4<|ckA 11 v5<|ckA 4 (agN 4 v4)<|ckA 11 (norm1 (agN 11 v5))<|qap 11 128 (.list []) (cell a2_3 10) fun v6=>qap 11 128 v6 (.list [(norm1 (agN 11 v5))]) fun v7=>zbO c l (agN 4 v4) (cell a2_3 0) (cell a2_3 1) (cell a2_3 2) (cell a2_3 3) (cell a2_3 4) (cell a2_3 5) (cell a2_3 6) (cell a2_3 7) (cell a2_3 8) (cell a2_3 9) v7) (zbO c l (agN 4 a2_0) (cell a2_3 0) (cell a2_3 1) (cell a2_3 2) (cell a2_3 3) (cell a2_3 4) (cell a2_3 5) (cell a2_3 6) (cell a2_3 7) (cell a2_3 8) (cell a2_3 9) (cell a2_3 10)))).v
def zaw(c:Orc)(l:Lup)(a4_0 a4_1 a4_2 a4_3:V):Option (Stp Out) :=({v:=_}:qX (qpo c 153 [(norm1 (agN 4 a4_0)),(.int .i64 2),(.str [119,104,101,110])] fun v1=>qpo c 115 [(norm1 v1),qi] fun v2=>qex v2 0 fun v3=>qex v2 1 fun v4=>ckA 4 v3<|ckA 11 v4<|qpo c 153 [(norm1 (agN 4 v3)),(.int .i64 2),(.str [116,104,101,110])] fun v5=>qpo c 115 [(norm1 v5),qi] fun v6=>qex v6 0 fun v7=>qex v6 1 fun v8=>ckA 4 v7<|ckA 11 v8<|ckA 4 (agN 4 v7)<|ckA 11 (norm1 (agN 11 v4))<|ckA 11 (norm1 (agN 11 v8))<|qap 11 128 (.list []) (cell a4_3 10) fun v9=>qap 11 128 v9 (.list [(norm1 (agN 11 v4)),(norm1 (agN 11 v8))]) fun v10=>some (.next [qf,(agN 4 v7),(agN 4 a4_1),(agN 11 a4_2),(.agg (qC10 a4_3 [v10]))]))).v
def zam(c:Orc)(l:Lup)(s:List V):Option (Stp Out):=cnd (gt s 0) (zaw c l (agN 4 (gt s 1)) (agN 4 (gt s 2)) (agN 11 (gt s 3)) (agN 11 (gt s 4))) (cl0 c 151 [(norm1 (agN 4 (gt s 1))),(.str [119,104,101,110])] (fun w=>om (pnk w [])) fun v1=>cnd v1 (zaw c l (agN 4 (gt s 1)) (agN 4 (gt s 2)) (agN 11 (gt s 3)) (agN 11 (gt s 4))) (om (zez c l (agN 4 (gt s 1)) (agN 11 (gt s 4)))))
def zct(c:Orc)(l:Lup)(a1_0 a1_1 a1_2:V):Option Out :=({v:=_}:qX (l Out (zam c l) [qt,(agN 4 a1_0),(.agg [.nils,qi,qi,qi]),(.agg [qi,qs,qi,qi,qs,qs,qs,qi,qf,qf,.nils]),(.agg [(.int .i64 9),qs,qi,qi,qs,qs,qs,qi,qf,a1_1,a1_2])])).v
def zh3(c:Orc)(l:Lup)(x0:V):Option Out :=({v:=_}:qX (ckA 4 x0<|qpn c 151 [(norm1 (agN 4 x0)),(.str [119,104,101,110])] fun v1=>qno v1 fun v2=>cnd v2 (qpn c 115 [(norm1 (agN 4 x0)),qi] fun v3=>qex v3 0 fun v4=>qex v3 1 fun v5=>ckA 4 v4<|ckA 11 v5<|ckA 4 (agN 4 v4)<|ckA 11 (norm1 (agN 11 v5))<|zct c l (agN 4 v4) qt (.list [(norm1 (agN 11 v5))])) (zct c l (agN 4 x0) qf .nils))).v
def zhE:List LA:=[⟨true,[(1,.c (.p 10 0)),(2,.c (.p 11 0)),(3,.c (.p 12 0)),(4,.c (.p 14 0)),(7,.d)],[.bv 10 151 4,.bv 11 151 4,.bv 12 46 11,.bv 14 46 11]⟩]
theorem zmq:evF Tryz.prog G c l [(68,65),(72,65),(92,89),(95,89)] 10 zhE 164 [.d x0] []=zh3 c l x0:=by kernel_rfl
def zb2(c:Orc)(l:Lup)(a2_0 a2_1 a2_2 a2_3:V):Option Out :=({v:=_}:qX (cnd a2_1 (qpn c 163 [(norm1 (agN 4 a2_2))] fun v1=>ckA 4 v1<|rtn (.tup [(norm1 (agN 4 v1)),(.agg [qi,qs,qi,qi,qs,qs,qs,qi,qf,qf,(.list [])])]) []) (ckA 11 (norm1 (agN 11 a2_3))<|ck1 a2_0<|qpn c 140 [(norm1 (agN 4 a2_2))] fun v2=>qpn c 153 [(norm1 v2),(.int .i64 4),(.str [41])] fun v3=>ckA 4 v3<|ckA 11 (.agg [(.int .i64 12),a2_0,qi,qi,qs,qs,qs,qi,qf,qf,(.list [(norm1 (agN 11 a2_3))])])<|rtn (.tup [(norm1 (agN 4 v3)),(norm1 (.agg [(.int .i64 12),a2_0,qi,qi,qs,qs,qs,qi,qf,qf,(.list [(norm1 (agN 11 a2_3))])]))]) []))).v
def zb3(c:Orc)(l:Lup)(a1_0 a1_1 a1_2:V):Option Out :=({v:=_}:qX (cnd a1_0 (qpn c 163 [(norm1 (agN 4 a1_1))] fun v1=>ckA 4 v1<|rtn (.tup [(norm1 (agN 4 v1)),(.agg [qi,qs,qi,qi,qs,qs,qs,qi,qf,qf,(.list [])])]) []) (qel 6 (cell a1_1 0) (cell a1_1 1) fun v2=>qld v2 1 fun v3=>qpn c 77 [(norm1 v3)] fun v4=>qneq v4 (.str [105,110,116]) fun v5=>cnd v5 (qneq v4 (.str [116,101,120,116]) fun v6=>cnd v6 (qneq v4 (.str [98,108,111,98]) fun v7=>zb2 c l v4 v7 (agN 4 a1_1) (agN 11 a1_2)) (zb2 c l v4 qf (agN 4 a1_1) (agN 11 a1_2))) (zb2 c l v4 qf (agN 4 a1_1) (agN 11 a1_2))))).v
def ziG(c:Orc)(l:Lup)(x0:V):Option Out :=({v:=_}:qX (ckA 4 x0<|qpn c 153 [(norm1 (agN 4 x0)),(.int .i64 4),(.str [40])] fun v1=>qpn c 115 [(norm1 v1),qi] fun v2=>qex v2 0 fun v3=>qex v2 1 fun v4=>ckA 4 v3<|ckA 11 v4<|qpn c 153 [(norm1 (agN 4 v3)),(.int .i64 2),(.str [97,115])] fun v5=>ckA 4 v5<|qneq (cell v5 2) qi fun v6=>cnd v6 (ckA 4 (agN 4 v5)<|rtn (.tup [(norm1 (agN 4 v5)),(.agg [qi,qs,qi,qi,qs,qs,qs,qi,qf,qf,(.list [])])]) []) (qpn c 157 [(norm1 (agN 4 v5)),(.int .i64 2)] fun v7=>qno v7 fun v8=>cnd v8 (qpn c 157 [(norm1 (agN 4 v5)),qj] fun v9=>qno v9 fun v10=>zb3 c l v10 (agN 4 v5) (agN 11 v4)) (zb3 c l qf (agN 4 v5) (agN 11 v4))))).v
theorem znn:evF Tryz.prog G c l [] 10 [] 165 [.d x0] []=ziG c l x0:=by kernel_rfl
def zdP(c:Orc)(l:Lup)(a2_0 a2_1 a2_2:V):Option Out :=({v:=_}:qX (qpn c 115 [(norm1 (agN 4 a2_2)),qi] fun v1=>qex v1 0 fun v2=>qex v1 1 fun v3=>ckA 4 v2<|ckA 11 v3<|ckA 11 (norm1 (agN 11 v3))<|ck1 a2_0<|ck1 a2_1<|qpn c 153 [(norm1 (agN 4 v2)),(.int .i64 4),(.str [41])] fun v4=>ckA 4 v4<|ckA 11 (.agg [(.int .i64 11),a2_0,qi,qi,qs,qs,qs,qi,qf,a2_1,(.list [(norm1 (agN 11 v3))])])<|rtn (.tup [(norm1 (agN 4 v4)),(norm1 (.agg [(.int .i64 11),a2_0,qi,qi,qs,qs,qs,qi,qf,a2_1,(.list [(norm1 (agN 11 v3))])]))]) [])).v
def zcX(c:Orc)(l:Lup)(a1_0 a1_1 a1_2:V):Option Out :=({v:=_}:qX (cnd a1_1 (qpn c 140 [(norm1 (agN 4 a1_2))] fun v1=>qpn c 153 [(norm1 v1),(.int .i64 4),(.str [41])] fun v2=>ck1 a1_0<|ckA 4 v2<|ckA 11 (.agg [(.int .i64 11),a1_0,qi,qi,qs,qs,qs,qi,qf,qf,.nils])<|rtn (.tup [(norm1 (agN 4 v2)),(norm1 (.agg [(.int .i64 11),a1_0,qi,qi,qs,qs,qs,qi,qf,qf,.nils]))]) []) (qpn c 151 [(norm1 (agN 4 a1_2)),(.str [100,105,115,116,105,110,99,116])] fun v3=>cnd v3 (qpn c 140 [(norm1 (agN 4 a1_2))] fun v4=>ckA 4 v4<|zdP c l a1_0 v3 (agN 4 v4)) (zdP c l a1_0 v3 (agN 4 a1_2))))).v
def ziH(c:Orc)(l:Lup)(x0 x1:V):Option Out :=({v:=_}:qX (ckA 4 x0<|qpn c 173 [(norm1 x1)] fun v1=>qno v1 fun v2=>cnd v2 (qpn c 155 [(norm1 (agN 4 x0)),(.str [41])] fun v3=>cnd v3 (qpn c 140 [(norm1 (agN 4 x0))] fun v4=>ck1 x1<|ckA 4 v4<|ckA 11 (.agg [(.int .i64 10),x1,qi,qi,qs,qs,qs,qi,qf,qf,.nils])<|rtn (.tup [(norm1 (agN 4 v4)),(norm1 (.agg [(.int .i64 10),x1,qi,qi,qs,qs,qs,qi,qf,qf,.nils]))]) []) (qpn c 154 [(norm1 (agN 4 x0))] fun v5=>qex v5 0 fun v6=>qex v5 1 fun v7=>ckA 4 v6<|qpn c 153 [(norm1 (agN 4 v6)),(.int .i64 4),(.str [41])] fun v8=>ck1 x1<|ck1 v7<|ckA 4 v8<|ckA 11 (.agg [(.int .i64 10),x1,qi,qi,qs,qs,qs,qi,qf,qf,v7])<|rtn (.tup [(norm1 (agN 4 v8)),(norm1 (.agg [(.int .i64 10),x1,qi,qi,qs,qs,qs,qi,qf,qf,v7]))]) [])) (qeql x1 (.str [99,111,117,110,116]) fun v9=>cnd v9 (qpn c 155 [(norm1 (agN 4 x0)),(.str [42])] fun v10=>zcX c l x1 v10 (agN 4 x0)) (zcX c l x1 qf (agN 4 x0))))).v
theorem zno:evF Tryz.prog G c l [] 10 [] 166 [.d x0,.d x1] []=ziH c l x0 x1:=by kernel_rfl
def annTr(f:FuncId)(d:List (Nat×Nat)×List LA):List (Nat×Nat)×List LA:=if f=139 then([],zhD)else if f=136 then([(115,113)],[])else if f=115 then([],zii)else if f=154 then([(42,23)],zij)else if f=164 then([(68,65),(72,65),(92,89),(95,89)],zhE)else d
end
section
open Go.RowKit
open Vm
variable(G:Nat→Vm.V)(c:Orc)(l:Lup)(x0 x1:V)
def zgP(c:Orc)(l:Lup)(a1_0:V):Option Out:=(b0 .add a1_0 (.int .i64 1)).bind fun v1=>rtn (norm1 v1) []
def zdQ(c:Orc)(l:Lup)(s:List V):Option (Stp Out) :=({v:=_}:qX (qll (cell (gt s 2) 10) fun v1=>qlss (gt s 1) v1 fun v2=>cnd v2 (qel 11 (cell (gt s 2) 10) (gt s 1) fun v3=>qlt 11 v3 0 fun v4=>qpo c 116 [(norm1 v4)] fun v5=>(zkB .max (gt s 0) v5).bind fun v6=>qadd (gt s 1) qj fun v7=>some (.next [v6,v7,(agN 11 (gt s 2))])) (om (zgP c l (gt s 0))))).v
def ziI(c:Orc)(l:Lup)(x0:V):Option Out:=ckA 11 x0<|l Out (zdQ c l) [(.int .i64 0),(.int .i64 0),(agN 11 x0)]
def zik:List LA:=[⟨false,[(1,.c (.p 10 0)),(3,.d),(4,.d)],[.bv 10 46 11]⟩]
theorem znp:evF Tryz.prog G c l [] 10 zik 116 [.d x0] []=ziI c l x0:=by kernel_rfl
def zcw(c:Orc)(l:Lup)(a1_0 a1_1 a1_2:V):Option Out :=({v:=_}:qX (cnd a1_2 (rtn (.tup [(.agg [qi,qs,qi,qi,qs,qs,qs,qi,qf,qf,(.list [])]),(norm1 a1_1),(.int .i64 20)]) []) (ck1 a1_0<|ck1 a1_1<|qpn c 115 [(norm1 (.agg [a1_0,a1_1,qi,qi])),qi] fun v1=>qex v1 0 fun v2=>qex v1 1 fun v3=>ckA 4 v2<|ckA 11 v3<|qneq (cell v2 2) qi fun v4=>cnd v4 (agr oeq (ag oeq<|rtn (.tup [(.agg [qi,qs,qi,qi,qs,qs,qs,qi,qf,qf,(.list [])]),(norm1 (cell v2 3)),(norm1 (cell v2 2))]) []) (agr oeq (ag oeq<|rtn (.tup [(.agg [qi,qs,qi,qi,qs,qs,qs,qi,qf,qf,(.list [])]),(norm1 (cell v2 3)),(norm1 (cell v2 2))]) []) (rtn (.tup [(.agg [qi,qs,qi,qi,qs,qs,qs,qi,qf,qf,(.list [])]),(norm1 (cell v2 3)),(norm1 (cell v2 2))]) []))) (qpn c 116 [(norm1 (agN 11 v3))] fun v5=>qgtr v5 (.int .i64 24) fun v6=>cnd v6 (rtn (.tup [(.agg [qi,qs,qi,qi,qs,qs,qs,qi,qf,qf,(.list [])]),(norm1 a1_1),(.int .i64 12)]) []) (ag oeq<|ckA 11 (agN 11 v3)<|rtn (.tup [(norm1 (agN 11 v3)),(norm1 (cell v2 1)),qi]) []))))).v
def zep(c:Orc)(l:Lup)(x0 x1:V):Option Out :=({v:=_}:qX (qlss x1 qi fun v1=>cnd v1 (zcw c l x0 x1 qt) (qll x0 fun v2=>qgtr x1 v2 fun v3=>zcw c l x0 x1 v3))).v
theorem zms:evF Tryz.prog G c l [] 10 [] 84 [.d x0,.d x1] []=zep c l x0 x1:=by kernel_rfl
def zjI(c:Orc)(l:Lup)(a1_0:V):Option Out:=(b0 .add a1_0 (.int .i64 1)).bind fun v1=>rtn (norm1 v1) []
def zfD(c:Orc)(l:Lup)(s:List V):Option (Stp Out) :=({v:=_}:qX (qlss (gt s 3) (gt s 2) fun v1=>cnd v1 (qel 11 (gt s 1) (gt s 3) fun v2=>qlt 11 v2 0 fun v3=>ckA 11 v3<|qpo c 149 [(norm1 (agN 11 v3))] fun v4=>(zkB .max (gt s 0) v4).bind fun v5=>qadd (gt s 3) qj fun v6=>some (.next [v5,(gt s 1),(gt s 2),v6])) (om (zjI c l (gt s 0))))).v
def zm0(c:Orc)(l:Lup)(x0:V):Option Out:=ckA 11 x0<|(lenL (cell x0 10)).bind fun v1=>l Out (zfD c l) [(.int .i64 0),(cell x0 10),v1,(.int .i64 0)]
def zl8:List LA:=[⟨false,[(3,.d),(7,.d),(8,.d),(9,.d)],[]⟩]
theorem ztO:evF Tryz.prog G c l [] 10 zl8 149 [.d x0] []=zm0 c l x0:=by kernel_rfl
def zaQ(c:Orc)(l:Lup)(a2_0 a2_1 a2_2:V):Option Out :=({v:=_}:qX (cnd a2_1 (rtn (.int .i64 2) []) (qeql a2_0 (.int .i64 7) fun v1=>cnd v1 (rtn (.int .i64 3) []) (qeql a2_0 (.int .i64 9) fun v2=>cnd v2 (cnd (cell a2_2 9) (rtn qj []) (rtn qi [])) (rtn qi []))))).v
def sh_tomeref25_least_j1(c:Orc)(l:Lup)(a1_0 a1_1 a1_2:V):Option Out :=({v:=_}:qX (cnd a1_1 (rtn qj []) (qeql a1_0 (.int .i64 4) fun v1=>cnd v1 (zaQ c l a1_0 qt (agN 11 a1_2)) (qeql a1_0 (.int .i64 5) fun v2=>cnd v2 (zaQ c l a1_0 qt (agN 11 a1_2)) (qeql a1_0 (.int .i64 8) fun v3=>zaQ c l a1_0 v3 (agN 11 a1_2)))))).v
def sh_tomeref25_least(c:Orc)(l:Lup)(x0:V):Option Out :=({v:=_}:qX (ckA 11 x0<|qeql (cell x0 0) (.int .i64 3) fun v1=>cnd v1 (sh_tomeref25_least_j1 c l (cell x0 0) qt (agN 11 x0)) (qeql (cell x0 0) (.int .i64 6) fun v2=>cnd v2 (sh_tomeref25_least_j1 c l (cell x0 0) qt (agN 11 x0)) (qeql (cell x0 0) (.int .i64 12) fun v3=>sh_tomeref25_least_j1 c l (cell x0 0) v3 (agN 11 x0))))).v
theorem zmo:evF Tryz.prog G c l [] 10 [] 47 [.d x0] []=sh_tomeref25_least c l x0:=by kernel_rfl
def sh_tomeref25_not(c:Orc)(l:Lup)(x0 x1:V):Option Out :=({v:=_}:qX (cnd x0 (qadd (.str [32,110,111,116,32]) x1 fun v1=>qadd v1 (.str [32]) fun v2=>rtn (norm1 v2) []) (qadd (.str [32]) x1 fun v3=>qadd v3 (.str [32]) fun v4=>rtn (norm1 v4) []))).v
theorem zol:evF Tryz.prog G c l [] 10 [] 50 [.d x0,.d x1] []=sh_tomeref25_not c l x0 x1:=by kernel_rfl
def zfu(c:Orc)(l:Lup)(x0:V):Option Out :=({v:=_}:qX (ckA 11 x0<|qpn c 97 [(norm1 (agN 11 x0))] fun v1=>cnd v1 (qpn c 24 [(norm1 (agN 11 x0))] fun v2=>qadd (.str [40]) v2 fun v3=>qadd v3 (.str [41]) fun v4=>rtn (norm1 v4) []) (qpn c 24 [(norm1 (agN 11 x0))] fun v5=>rtn (norm1 v5) []))).v
theorem zmp:evF Tryz.prog G c l [] 10 [] 49 [.d x0] []=zfu c l x0:=by kernel_rfl
def zc0(c:Orc)(l:Lup)(a1_0 a1_1 a1_2:V):Option (Stp Out) :=({v:=_}:qX (qel 11 a1_0 a1_2 fun v1=>qlt 11 v1 0 fun v2=>qpo c 24 [(norm1 v2)] fun v3=>qadd a1_1 v3 fun v4=>qadd a1_2 qj fun v5=>some (.next [a1_0,v4,v5]))).v
def zb0(c:Orc)(l:Lup)(s:List V):Option (Stp Out) :=({v:=_}:qX (qll (gt s 0) fun v1=>qlss (gt s 2) v1 fun v2=>cnd v2 (qgtr (gt s 2) qi fun v3=>cnd v3 (qadd (gt s 1) (.str [44,32]) fun v4=>zc0 c l (gt s 0) v4 (gt s 2)) (zc0 c l (gt s 0) (gt s 1) (gt s 2))) (om (rtn (norm1 (gt s 1)) [])))).v
def zgO(c:Orc)(l:Lup)(x0:V):Option Out:=l Out (zb0 c l) [x0,(.str []),(.int .i64 0)]
def zgq:List LA:=[⟨false,[(0,.d),(3,.d),(4,.d)],[]⟩]
theorem zk3:evF Tryz.prog G c l [] 10 zgq 51 [.d x0] []=zgO c l x0:=by kernel_rfl
def zbc(c:Orc)(l:Lup)(x0:V):Option Out :=({v:=_}:qX (ckA 11 x0<|qeql (cell x0 0) (.int .i64 3) fun v1=>cnd v1 (rtn qt []) (qeql (cell x0 0) (.int .i64 4) fun v2=>cnd v2 (rtn qt []) (qeql (cell x0 0) (.int .i64 5) fun v3=>cnd v3 (rtn qt []) (qeql (cell x0 0) (.int .i64 6) fun v4=>cnd v4 (rtn qt []) (qeql (cell x0 0) (.int .i64 7) fun v5=>cnd v5 (rtn qt []) (qeql (cell x0 0) (.int .i64 8) fun v6=>rtn (norm1 v6) []))))))).v
theorem zlE:evF Tryz.prog G c l [] 10 [] 97 [.d x0] []=zbc c l x0:=by kernel_rfl
def zaZ(c:Orc)(l:Lup)(a1_0 a1_1:V):Option Out:=(b0 .eql (cell a1_1 1) (.str [110,111,116])).bind fun v1=>cnd v1 ((b0 .add (.str [110,111,116,32]) a1_0).bind fun v2=>rtn (norm1 v2) []) ((b0 .add (cell a1_1 1) a1_0).bind fun v3=>rtn (norm1 v3) [])
def zaY(c:Orc)(l:Lup)(a2_0 a2_1 a2_2:V):Option Out:=cnd a2_1 ((b0 .add (.str [40]) a2_0).bind fun v1=>(b0 .add v1 (.str [41])).bind fun v2=>zaZ c l v2 (agN 11 a2_2)) (zaZ c l a2_0 (agN 11 a2_2))
def zdq(c:Orc)(l:Lup)(a5_0:V):Option Out:=(b0 .add a5_0 (.str [101,110,100])).bind fun v1=>rtn (norm1 v1) []
def zeA(c:Orc)(l:Lup)(a4_0 a4_1:V):Option Out :=({v:=_}:qX (qll a4_1 fun v1=>(b0 .rem v1 (.int .i64 2)).bind fun v2=>qeql v2 qj fun v3=>cnd v3 (qadd a4_0 (.str [101,108,115,101,32]) fun v4=>qll a4_1 fun v5=>qsub v5 qj fun v6=>qel 11 a4_1 v6 fun v7=>qlt 11 v7 0 fun v8=>qpn c 24 [(norm1 v8)] fun v9=>qadd v4 v9 fun v10=>qadd v10 (.str [32]) fun v11=>zdq c l v11) (zdq c l a4_0))).v
def zcu(c:Orc)(l:Lup)(s:List V):Option (Stp Out) :=({v:=_}:qX (qadd (gt s 2) qj fun v1=>qll (gt s 1) fun v2=>qlss v1 v2 fun v3=>cnd v3 (qadd (gt s 0) (.str [119,104,101,110,32]) fun v4=>qel 11 (gt s 1) (gt s 2) fun v5=>qlt 11 v5 0 fun v6=>qadd (gt s 2) qj fun v7=>qel 11 (gt s 1) v7 fun v8=>qlt 11 v8 0 fun v9=>qpo c 24 [(norm1 v6)] fun v10=>qadd v4 v10 fun v11=>qadd v11 (.str [32,116,104,101,110,32]) fun v12=>qpo c 24 [(norm1 v9)] fun v13=>qadd v12 v13 fun v14=>qadd v14 (.str [32]) fun v15=>qadd (gt s 2) (.int .i64 2) fun v16=>some (.next [v15,(gt s 1),v16])) (om (zeA c l (gt s 0) (gt s 1))))).v
def zdr(c:Orc)(l:Lup)(a3_0 a3_1:V):Option Out:=l Out (zcu c l) [a3_0,a3_1,(.int .i64 0)]
def zcv(c:Orc)(l:Lup)(a6_0 a6_1:V):Option Out :=({v:=_}:qX (cnd a6_0 (qadd (cell a6_1 1) (.str [40,42,41]) fun v1=>rtn (norm1 v1) []) (cnd (cell a6_1 9) (qadd (cell a6_1 1) (.str [40,100,105,115,116,105,110,99,116,32]) fun v2=>qpn c 51 [(norm1 (cell a6_1 10))] fun v3=>qadd v2 v3 fun v4=>qadd v4 (.str [41]) fun v5=>rtn (norm1 v5) []) (qadd (cell a6_1 1) (.str [40]) fun v6=>qpn c 51 [(norm1 (cell a6_1 10))] fun v7=>qadd v6 v7 fun v8=>qadd v8 (.str [41]) fun v9=>rtn (norm1 v9) [])))).v
def zai(c:Orc)(l:Lup)(x0:V):Option Out :=({v:=_}:qX (ckA 11 x0<|qll (cell x0 10) fun v1=>qpn c 47 [(norm1 (agN 11 x0))] fun v2=>qlss v1 v2 fun v3=>cnd v3 (rtn qs []) (qeql (cell x0 0) qj fun v4=>cnd v4 (qpn c 48 [(norm1 (.agg [(cell x0 2),(cell x0 3),(cell x0 4)]))] fun v5=>rtn (norm1 v5) []) (qeql (cell x0 0) (.int .i64 2) fun v6=>cnd v6 (qneq (cell x0 5) qs fun v7=>cnd v7 (qadd (cell x0 5) (.str [46]) fun v8=>qadd v8 (cell x0 6) fun v9=>rtn (norm1 v9) []) (rtn (norm1 (cell x0 6)) [])) (qeql (cell x0 0) (.int .i64 3) fun v10=>cnd v10 (qel 11 (cell x0 10) qi fun v11=>qlt 11 v11 0 fun v12=>qpn c 49 [(norm1 v12)] fun v13=>qel 11 (cell x0 10) qi fun v14=>qld v14 0 fun v15=>qeql v15 qj fun v16=>cnd v16 (qel 11 (cell x0 10) qi fun v17=>qld v17 2 fun v18=>qeql v18 qj fun v19=>zaY c l v13 v19 (agN 11 x0)) (zaY c l v13 qf (agN 11 x0))) (qeql (cell x0 0) (.int .i64 4) fun v20=>cnd v20 (qel 11 (cell x0 10) qi fun v21=>qlt 11 v21 0 fun v22=>qel 11 (cell x0 10) qj fun v23=>qlt 11 v23 0 fun v24=>qpn c 49 [(norm1 v22)] fun v25=>qadd v25 (.str [32]) fun v26=>qadd v26 (cell x0 1) fun v27=>qadd v27 (.str [32]) fun v28=>qpn c 49 [(norm1 v24)] fun v29=>qadd v28 v29 fun v30=>rtn (norm1 v30) []) (qeql (cell x0 0) (.int .i64 5) fun v31=>cnd v31 (cnd (cell x0 8) (qel 11 (cell x0 10) qi fun v32=>qlt 11 v32 0 fun v33=>qel 11 (cell x0 10) qj fun v34=>qlt 11 v34 0 fun v35=>qpn c 49 [(norm1 v33)] fun v36=>qadd v36 (.str [32,105,115,32,110,111,116,32]) fun v37=>qpn c 49 [(norm1 v35)] fun v38=>qadd v37 v38 fun v39=>rtn (norm1 v39) []) (qel 11 (cell x0 10) qi fun v40=>qlt 11 v40 0 fun v41=>qel 11 (cell x0 10) qj fun v42=>qlt 11 v42 0 fun v43=>qpn c 49 [(norm1 v41)] fun v44=>qadd v44 (.str [32,105,115,32]) fun v45=>qpn c 49 [(norm1 v43)] fun v46=>qadd v45 v46 fun v47=>rtn (norm1 v47) [])) (qeql (cell x0 0) (.int .i64 6) fun v48=>cnd v48 (qel 11 (cell x0 10) qi fun v49=>qlt 11 v49 0 fun v50=>(slL 11 (cell x0 10) (some qj) none).bind fun v51=>qpn c 49 [(norm1 v50)] fun v52=>qpn c 50 [(norm1 (cell x0 8)),(.str [105,110])] fun v53=>qadd v52 v53 fun v54=>qadd v54 (.str [40]) fun v55=>qpn c 51 [(norm1 v51)] fun v56=>qadd v55 v56 fun v57=>qadd v57 (.str [41]) fun v58=>rtn (norm1 v58) []) (qeql (cell x0 0) (.int .i64 7) fun v59=>cnd v59 (qel 11 (cell x0 10) qi fun v60=>qlt 11 v60 0 fun v61=>qel 11 (cell x0 10) qj fun v62=>qlt 11 v62 0 fun v63=>qel 11 (cell x0 10) (.int .i64 2) fun v64=>qlt 11 v64 0 fun v65=>qpn c 49 [(norm1 v61)] fun v66=>qpn c 50 [(norm1 (cell x0 8)),(.str [98,101,116,119,101,101,110])] fun v67=>qadd v66 v67 fun v68=>qpn c 49 [(norm1 v63)] fun v69=>qadd v68 v69 fun v70=>qadd v70 (.str [32,97,110,100,32]) fun v71=>qpn c 49 [(norm1 v65)] fun v72=>qadd v71 v72 fun v73=>rtn (norm1 v73) []) (qeql (cell x0 0) (.int .i64 8) fun v74=>cnd v74 (qel 11 (cell x0 10) qi fun v75=>qlt 11 v75 0 fun v76=>qel 11 (cell x0 10) qj fun v77=>qlt 11 v77 0 fun v78=>qpn c 49 [(norm1 v76)] fun v79=>qpn c 50 [(norm1 (cell x0 8)),(.str [108,105,107,101])] fun v80=>qadd v79 v80 fun v81=>qpn c 49 [(norm1 v78)] fun v82=>qadd v81 v82 fun v83=>rtn (norm1 v83) []) (qeql (cell x0 0) (.int .i64 9) fun v84=>cnd v84 (cnd (cell x0 9) (qel 11 (cell x0 10) qi fun v85=>qlt 11 v85 0 fun v86=>qpn c 24 [(norm1 v86)] fun v87=>qadd (.str [99,97,115,101,32]) v87 fun v88=>qadd v88 (.str [32]) fun v89=>(slL 11 (cell x0 10) (some qj) none).bind fun v90=>zdr c l v89 v90) (zdr c l (.str [99,97,115,101,32]) (cell x0 10))) (qeql (cell x0 0) (.int .i64 12) fun v91=>cnd v91 (qel 11 (cell x0 10) qi fun v92=>qlt 11 v92 0 fun v93=>qpn c 24 [(norm1 v93)] fun v94=>qadd (.str [99,97,115,116,40]) v94 fun v95=>qadd v95 (.str [32,97,115,32]) fun v96=>qadd v96 (cell x0 1) fun v97=>qadd v97 (.str [41]) fun v98=>rtn (norm1 v98) []) (qeql (cell x0 0) (.int .i64 11) fun v99=>cnd v99 (qll (cell x0 10) fun v100=>qeql v100 qi fun v101=>zcv c l v101 (agN 11 x0)) (zcv c l qf (agN 11 x0))))))))))))))).v
def zhF:List LA:=[⟨false,[(4,.d),(5,.d),(6,.d)],[]⟩]
theorem zmr:evF Tryz.prog G c l [] 10 zhF 24 [.d x0] []=zai c l x0:=by kernel_rfl
def annTu(f:FuncId)(d:List (Nat×Nat)×List LA):List (Nat×Nat)×List LA:=if f=116 then([],zik)else if f=149 then([],zl8)else if f=51 then([],zgq)else if f=24 then([],zhF)else d
end
section
open Go.RowKit
open Vm
def zl7:List LA:=[⟨false,[(0,.d),(3,.d),(4,.d)],[]⟩]
def annTv(f:FuncId)(d:List (Nat×Nat)×List LA):List (Nat×Nat)×List LA:=if f=76 then([],zl7)else d
end
end Go.Proofs.YtlooegbcfkoloaaGreatDoor
namespace Vm
section
open Go Go.RowKit
def isDefer:Code→Bool
 |.region _ ops false=>ops.toList.any fun o=>match o.op with|.defer _=>true|_=>false
 |_=>false
def cutD:Code→Option (List Code×Code×Code)
 |.seq a b=>if isDefer a=true then some ([],a,b)else match cutD b with|some (l,d,r)=>some (a::l,d,r)|none=>none
 |_=>none
def seqs:List Code→Code→Code
 |[],d=>d
 |a::l,d=>.seq a (seqs l d)
theorem zzJ:∀{code:Code} {l:List Code} {d r:Code},cutD code=some (l,d,r)→code=seqs l (.seq d r):=by
 intro code;induction code with
 |seq a b iha ihb=>
  intro l d r h;simp only[cutD]at h;split at h
  ·cases h;rfl
  ·split at h
   ·rename_i hb;cases h;rw[ihb hb];rfl
   ·cases h
 |_=>intro l d r h;simp only[cutD]at h;cases h
def defD:Code→Option (Nat×FuncId×Array Operand)
 |.region _ ops false=>match ops.toList with
  |[⟨some d1,.makeFunc (.func g) first cap,_,_,_,none⟩,⟨none,.defer ⟨.value (.tmp d),args,_⟩,_,_,_,none⟩]=>if d=d1∧first.toList.length=0∧args.toList.length=0 then some (d1,g,cap)else none
  |_=>none
 |_=>none
theorem zz9{α:Type}{a:Array α}(h:a.toList.length=0):a=#[]:=by simpa using h
theorem wp_defD{P:Program}{code:Code}{d1:Nat}{g:FuncId}{cap:Array Operand}{a:Act}{w:World}{Kw:Act→World→Prop}{Q:Exit→Act→World→Prop}(h:defD code=some (d1,g,cap))(hd:d1<a.tmps.size)
  (hK:Kw { a.put (some d1) (.func (.func g) #[] (cap.map a.eval))with defers:={ target:=.fn (.func g) (cap.map a.eval),args:=#[] } :: a.defers } w):code.wp P (Exit.then Kw Q) a w:=by
 unfold defD at h;split at h<;>first|(cases h;done)|skip
 rename_i id ops;split at h<;>first|(cases h;done)|skip
 rename_i e1 g' first cap' ty1 po1 af1 d args at1 ty2 po2 af2 hl;split at h<;>first|(cases h;done)|skip
 rename_i hc;obtain⟨rfl,hc1,hc2⟩:=hc;obtain⟨rfl⟩:=zz9 hc1;obtain⟨rfl⟩:=zz9 hc2;cases h;refine wp_region_list ?_;rw[hl];have hmf:∀(fn:Fn)(first cap:Array Value)(w:World),(Instr.makeFunc fn first cap).run P w=.ok (.func fn first cap) w:=fun _ _ _ _=>rfl;have hev:(a.put (some d1) (.func (.func g) #[] (cap.map a.eval))).eval (.tmp d1)=.func (.func g) #[] (cap.map a.eval):=by
  have:=zrl a (some d1) (.func (.func g) #[] (cap.map a.eval)) d1;rw[if_pos ⟨rfl,hd⟩]at this;exact this
 simp only[wpList,Region.wanted,qa60];refine .inl ?_;unfold Oper.wp;rw[show(execOp a.eval { dst:=some d1,op:=Op.makeFunc (Fn.func g) #[] cap,type:=ty1,pos:=po1,after:=af1,guard:=none }).run P w=.ok (.value (.func (.func g) #[] (cap.map a.eval))) w by simp[execOp,hmf],Oper.upon_value];refine .inl ?_;rw [show (execOp (a.put (some d1) (.func (.func g) #[] (cap.map a.eval))).eval { dst:=none,op:=Op.defer { callee:=Callee.value (Operand.tmp d1),args:=#[],argTypes:=at1 },type:=ty2,pos:=po2,after:=af2,guard:=none }).run P w=.ok (.defer { target:=.fn (.func g) (cap.map a.eval),args:=#[] }) w by
  simp[execOp,resolve,Deferred.ofValue,hev],Oper.upon_defer]
 exact hK
def Pin(T:List (Nat×Value))(a:Act):Prop:=∀p∈T,a.tmps.getD p.1 Go.undef=p.2
def noDst(ts:List Nat)(o:Oper):Bool:=match o.dst with|some d=>!ts.contains d|none=>true
theorem Pin.put{T:List (Nat×Value)}{a:Act}(h:Pin T a){o:Oper}(hd:noDst (T.map (·.1)) o=true)(v:Value):Pin T (a.put o.dst v):=by
 intro p hp;rw[zrl,if_neg ?_]
 ·exact h p hp
 ·rintro⟨h1, -⟩;unfold noDst at hd;rw[h1]at hd;simp at hd;exact hd p.2 hp
theorem zn2{P:Program}{o:Oper}{a:Act}{K K':Act→World→Prop}{Q Q':Exit→Act→World→Prop}(hK:∀a w,K a w→K' a w)(hQ:∀e a w,Q e a w→Q' e a w){r:Result Next}(h:o.upon P a K Q r):o.upon P a K' Q' r:=by
 cases r with
 |ok n w'=>
  cases n with
  |value v=>exact hK _ _ h
  |skip=>exact hK _ _ h
  |defer d=>exact hK _ _ h
  |enter f args=>
   refine Calls.mono h ?_;rintro(_|_|_) w'' hr
   ·exact hK _ _ hr
   ·exact hQ _ _ _ hr
   ·obtain⟨a,w,hq⟩:=hr;exact⟨a,w,hQ _ _ _ hq⟩
  |row r args=>exact Rows.mono h fun _ _ hr=>hK _ _ hr
  |_=>exact h
 |halt s w'=>cases s with
  |panic v=>exact hQ _ _ _ h
  |_=>exact h
theorem zuD{P:Program}{o:Oper}{a:Act}{K:Act→World→Prop}{Q:Exit→Act→World→Prop}{T:List (Nat×Value)}(hd:noDst (T.map (·.1)) o=true)(hp:Pin T a)(hO:∀a w,¬Q .outgrown a w){r:Result Next}(h:o.upon P a K Q r):
  o.upon P a (fun a w=>K a w∧Pin T a) (fun e a w=>Q e a w∧Pin T a) r:=by
 cases r with
 |ok n w'=>
  cases n with
  |value v=>exact⟨h,hp.put hd v⟩
  |skip=>exact⟨h,hp.put hd _⟩
  |defer d=>exact⟨h,Pin.put (a:={ a with defers:=d::a.defers }) hp hd _⟩
  |enter f args=>
   refine Calls.mono h ?_;rintro(_|_|_) w'' hr
   ·exact⟨hr,hp.put hd _⟩
   ·exact⟨hr,hp⟩
   ·obtain⟨a,w,hq⟩:=hr;exact absurd hq (hO a w)
  |row r args=>exact Rows.mono h fun _ _ hr=>⟨hr,hp.put hd _⟩
  |_=>exact h
 |halt s w'=>cases s with
  |panic v=>exact⟨h,hp⟩
  |_=>exact h
theorem zqe{Q:Exit→Act→World→Prop}(hO:∀a w,¬Q .outgrown a w):¬LetsOut Q:=fun⟨a,w,h⟩=>hO a w h
theorem zmb{P:Program}{ops:Array Oper}{Q:Exit→Act→World→Prop}{T:List (Nat×Value)}(hO:∀a w,¬Q .outgrown a w):∀(l:List Oper)(a:Act)(w:World),(∀o∈l,noDst (T.map (·.1)) o=true)→Pin T a→wpList P ops Q l a w→wpList P ops (fun e a w=>Q e a w∧Pin T a) l a w
 |[],a,w,_,hp,h=>⟨h,hp⟩
 |o::l,a,w,hl,hp,h=>by
  unfold wpList at h ⊢;have hd:=hl o (by simp);split
  ·rename_i hw;rw[if_pos hw]at h;rcases h with h|⟨_,h⟩
   ·refine .inl (zn2 ?_ (fun e a w h=>h) (zuD hd hp hO h));rintro a' w' ⟨h1,h2⟩;exact zmb hO l a' w' (fun o ho=>hl o (by simp[ho])) h2 h1
   ·exact absurd h (zqe hO)
  ·rename_i hw;rw[if_neg hw]at h;exact zmb hO l _ w (fun o ho=>hl o (by simp[ho])) (hp.put hd _) h
theorem zlw{P:Program}{md:Region.Mode}{ops:Array Oper}{Q:Exit→Act→World→Prop}{T:List (Nat×Value)}(hO:∀a w,¬Q .outgrown a w)(hl:∀o∈ops.toList,noDst (T.map (·.1)) o=true):∀(fuel:Nat)(listed:Array Bool)(a:Act)(w:World),Pin T a→wpAny P md ops Q fuel listed a w→wpAny P md ops (fun e a w=>Q e a w∧Pin T a) fuel listed a w
 |0,listed,a,w,hp,h=>⟨h.1,h.2,hp⟩
 |fuel+1,listed,a,w,hp,h=>by
  refine⟨fun e=>⟨h.1 e,hp⟩,fun i hi=>?_⟩;have h1:=h.2 i hi;unfold wpOp at h1 ⊢;split at h1
  ·rename_i ho;exact zlw hO hl fuel _ a w hp h1
  ·rename_i o ho;have hd:=hl o (by simpa using Array.mem_of_getElem? ho);split
   ·rename_i hw;rw[if_pos hw]at h1;rcases h1 with h1|⟨_,h1⟩
    ·refine .inl (zn2 ?_ (fun e a w h=>h) (zuD hd hp hO h1));rintro a' w' ⟨h2,h3⟩;exact zlw hO hl fuel _ a' w' h3 h2
    ·exact absurd h1 (zqe hO)
   ·rename_i hw;rw[if_neg hw]at h1;exact zlw hO hl fuel _ _ w (hp.put hd _) h1
def flat(ts:List Nat):Code→Bool
 |.skip=>true
 |.ret=>true
 |.region _ ops _=>ops.toList.all (noDst ts)
 |.seq a b=>flat ts a && flat ts b
 |.cond _ a b=>flat ts a && flat ts b
 |.scope b=>flat ts b
 |_=>false
section
variable{P:Program}{c:Ctx}{ops:Array Oper}{Kp:V→(Nat→Ent)→Prop}{T:List (Nat×Value)}
abbrev LQT(c:Ctx)(T:List (Nat×Value))(Kp:V→(Nat→Ent)→Prop)(Q:PEx→X→Prop):Exit→Act→World→Prop:=fun e a w=>LQ c Kp Q e a w∧Pin T a
theorem reg_okT(hp:zpA c.n0 Kp){σ:List (Nat×Nat)}{s id:Nat}(hs:∀k,s≤k→c.n0≤sg σ k){draw:Bool}{t:RT}(hc:zpb P c.N c.G σ s ops draw=some t){Q:PEx→X→Prop}{x:X}{a:Act}{w:World}{H:Nat→Value}{A:Nat→Nat→Prop}(hx:SimH c x a w H A)(h:wpR P c.G Kp (Q .normal) t x)
  (hl:∀o∈ops.toList,noDst (T.map (·.1)) o=true) (hpin:Pin T a):(Code.region id ops draw).wp P (LQT c T Kp Q) a w:=by
 have hO:∀a w,¬LQ c Kp Q .outgrown a w:=fun _ _ h=>h;unfold zpb at hc;split at hc
 ·rename_i ms hms;obtain⟨h1,h2⟩:=zig _ _ _ _ hms;have hslot:∀(i:Nat)(mo:MO),ms[i]?=some mo→c.n0≤mo.slot:=fun i mo hm=>by
   have hi:i<ops.toList.length:=by rw[←h1];exact(qa9.1 hm).1
   rw[(h2 i _ mo (qa11 hi) hm).2];exact hs _ (Nat.le_add_right _ _)
  split at hc
  ·rename_i hd;split at hc
   ·rename_i hm;cases hc;subst hd;obtain⟨A',hx'⟩:=hx.drew;have hC:Comped P c ops ms:=⟨by simpa using h1,fun i o mo ho hm=>(h2 i o mo (by simpa using ho) hm).1,hslot⟩;exact wp_region_any hm (zlw hO hl _ _ _ _ hpin (zmV hC _ _ x (zqB hC hp _ _ x h) a _ H A' hx'))
   ·cases hc
  ·rename_i hd;have hd':draw=false:=by simpa using hd
   subst hd';cases hc;exact wp_region_list (zmb hO _ _ _ hl hpin (zqA (mos:=ms) hslot ops.toList ms h1 (fun i o mo hi hm=>⟨(h2 i o mo hi hm).1,hslot i mo hm⟩) x a w H A hx h))
 ·cases hc
theorem LQT_then{Q:PEx→X→Prop}{K:X→Prop}{Kw:Act→World→Prop}(hK:∀x a w H A,SimH c x a w H A→Pin T a→K x→Kw a w):∀e a w,LQT c T Kp (thenP K Q) e a w→Exit.then Kw (LQT c T Kp Q) e a w
 |.normal,a,w,⟨⟨x,H,A,h,hk⟩,hp⟩=>hK x a w H A h hp hk
 |.exit _,_,_,h=>h
 |.goto _,_,_,h=>h
 |.ret,_,_,h=>h
 |.panic _,_,_,h=>h
 |.outgrown,_,_,h=>h
theorem code_okT(hp:zpA c.n0 Kp){σ:List (Nat×Nat)}:∀{code:Code} {s s':Nat} {t:C},flat (T.map (·.1)) code=true→(∀k,s≤k→c.n0≤sg σ k)→compC P c.N c.G σ s code=some (t,s')→∀{Q:PEx→X→Prop} {x:X} {a:Act} {w:World} {H:Nat→Value} {A:Nat→Nat→Prop},SimH c x a w H A→Pin T a→wpC P c.G c.n0 Kp t Q x→code.wp P (LQT c T Kp Q) a w:=by
 intro code;induction code with
 |skip=>intro s s' t _ hs h Q x a w H A hx hpin hw;cases h;exact wp_skip ⟨⟨x,H,A,hx,hw⟩,hpin⟩
 |ret=>intro s s' t _ hs h Q x a w H A hx hpin hw;cases h;exact wp_ret ⟨⟨x,H,A,hx,hw⟩,hpin⟩
 |region id ops draw=>
  intro s s' t hf hs h Q x a w H A hx hpin hw;simp only[compC]at h;split at h
  ·rename_i ht;cases h;exact reg_okT hp hs ht hx hw (qa33.1 hf) hpin
  ·cases h
 |seq p q ihp ihq=>
  intro s s' t hf hs h Q x a w H A hx hpin hw;simp only[flat,qa32]at hf;simp only[compC]at h;split at h
  ·rename_i h1;split at h
   ·rename_i h2;cases h;exact wp_seq (Code.wp_mono (LQT_then (fun x' a' w' H' A' hx' hp' hK=>ihq hf.2 (fun k hk=>hs k (qa56 (zko h1) hk)) h2 hx' hp' hK)) (ihp hf.1 hs h1 hx hpin hw))
   ·cases h
  ·cases h
 |cond o p q ihp ihq=>
  intro s s' t hf hs h Q x a w H A hx hpin hw;simp only[flat,qa32]at hf;simp only[compC]at h;split at h
  ·rename_i o' ho;split at h
   ·rename_i h1;split at h
    ·rename_i h2;cases h;have h3:=zao hx ho;simp only[wpC]at hw;split at hw
     ·rename_i hb;rw[hb]at h3;have h4:=h3.data rfl;generalize hv:a.eval o=v at h4;cases h4;exact wp_cond_true hv (ihp hf.1 hs h1 hx hpin hw)
     ·rename_i hb;rw[hb]at h3;have h4:=h3.data rfl;generalize hv:a.eval o=v at h4;cases h4;exact wp_cond_false hv (ihq hf.2 (fun k hk=>hs k (qa56 (zko h1) hk)) h2 hx hpin hw)
     ·exact hw.elim
    ·cases h
   ·cases h
  ·cases h
 |scope b ih=>
  intro s s' t hf hs h Q x a w H A hx hpin hw;simp only[flat]at hf;simp only[compC]at h;split at h
  ·rename_i h1;cases h;refine wp_scope_straight (Code.wp_mono ?_ (ih hf hs h1 hx hpin hw));rintro(_|i|_|_|_|_) a' w' hq<;>first|exact hq|exact hq.1.elim
  ·cases h
 |_=>intro s s' t hf;cases hf
end
end
section
open Go Go.RowKit
def cutR:Code→Option (Option Nat×List Oper×Array Oper×Code)
 |.seq (.region _ ops false) r=>match ops.toList with
  |⟨d,.call ⟨.builtin .recover,_,_⟩,_,_,_,none⟩::os=>some (d,os,ops,r)
  |_=>none
 |_=>none
def zhA(n:Nat):List V:=(List.range n).map fun i=>.ptr i 0
def nol:Lup:=fun _ _ _=>none
theorem zyq:LpOk nol:=fun _ _ _ _ h=>by cases h
def gW{Z:Type}(m:V)(A:Option Z):Option Z:=if wf m=true then A else none
def evG(P:Program)(G:Nat→V)(c:Orc)(g:FuncId)(es:List Ent)(mode:V):Option (List Ent):=match P.funcs[g]? with
 |some fn=>if fn.name == "runtime.NumGoroutine" then none else match fn.body with
  |some code=>match cutR code with
   |some (d,os,ops,r)=>match zpc P fn.ntmps G ops none [] 20 1 os,compC P fn.ntmps G [] 300 r,fn.results.toList with
    |some ms,some (t,_),[]=>if es.length≤20∧es.length≤fn.ntmps then gW mode<|
      evR P c eeqs (ztr ms) ((strY ((zhA es.length).map argR) es).put d (.d mode)) (fun y=>evC P c nol es.length [] t 0 (List Ent) eeqs y (fun e y=>match e with|.exit _=>none|_=>y.entL (List.range es.length)) fun _ _=>none) (fun _ _=>none)
     else none
    |_,_,_=>none
   |none=>none
  |none=>none
 |none=>none
section
variable{P:Program}{c:Ctx}{ops:Array Oper}{Kp:V→(Nat→Ent)→Prop}
theorem zrZ{Q:PEx→X→Prop}{Q':Exit→Act→List Frame→World→Prop}{cs:List Frame}(hQ:∀e a w,LQ c Kp Q e a w→Q' e a cs w):∀(l:List Oper)(ms:List MO)(k:Nat),(∀j,l[j]?=ops[k+j]?)→ms.length=l.length→(∀(i:Nat)(o:Oper)(mo:MO),l[i]?=some o→ms[i]?=some mo→zjo P c.N c.G ops mo.slot mo.av o=some mo∧c.n0≤mo.slot) →
  ∀(x:X)(a:Act)(w:World)(H:Nat→Value)(A:Nat→Nat→Prop),SimH c x a w H A→wpR P c.G Kp (Q .normal) (ztr ms) x→wpOpsS P ops Q' (List.range' k l.length) a cs w
 |[],ms,k,_,hl,_,x,a,w,H,A,hx,h=>by
  cases ms with
  |nil=>exact hQ .normal _ _ ⟨x,H,A,hx,h⟩
  |cons _ _=>simp at hl
 |o::l,ms,k,hk,hl,he,x,a,w,H,A,hx,h=>by
  cases ms with
  |nil=>simp at hl
  |cons m ms=>
   obtain⟨h1,h2⟩:=he 0 o m rfl rfl;have h3:=step_ok hx h2 h1 h (Q:=Q) (Kw:=fun a w=>wpOpsS P ops Q' (List.range' (k+1) l.length) a cs w) (fun x' a' w' H' A' hx' hK=>zrZ hQ l ms (k+1) (fun j=>by have:=hk (j+1);simpa[Nat.add_assoc,Nat.add_comm 1 j]using this) (by simpa using hl) (fun i o mo hi hm=>he (i+1) o mo (by simpa using hi) (by simpa using hm)) x' a' w' H' A' hx' hK);have h0:ops[k]?=some o:=by simpa using(hk 0).symm
   rw[qa30,List.range'_succ];simp only[wpOpsS,h0];split at h3
   ·rename_i hw;rw[if_pos hw];unfold Oper.wp at h3;split
    ·rename_i w' hr;rw[hr]at h3;exact h3.elim
    ·exact zn2 (fun _ _ h=>h) hQ h3
   ·rename_i hw;rw[if_neg hw];exact h3
end
theorem zAe(n:Nat)(es:List Ent)(hn:n≤es.length)(he:∀e∈es,wfE e):Rel (zft (zhA n) es) (strY ((zhA n).map argR) es):=by
 refine zoB (fun v hv=>?_) he;obtain⟨i,hi,rfl⟩:=qa55.1 hv;show i<es.length;have:=List.mem_range.1 hi;omega
inductive Mode:V→Value→FrameMode→FrameMode→Prop where
 |idle:Mode .niface .nilIface .returning .returning
 |stop (v:V) (xv:Value):Mode v xv (.panicking [{ v:=xv,recovered:=false }]) (.panicking [{ v:=xv,recovered:=true }])
theorem Mode.rec1{v:V}{xv:Value}{u u':FrameMode}(h:Mode v xv u u'){c₀:Frame}(hu:c₀.mode=u)(cs:List Frame)(F:Value→List Frame→Prop)(hF:F xv ({ c₀ with mode:=u' } :: cs)):(match recoverD (c₀::cs)with|some (v,cs')=>F v cs'|none=>F .nilIface (c₀::cs)):=by
 cases h with
 |idle=>
  have:recoverD (c₀::cs)=none:=by simp only[recoverD,hu]
  rw[this];cases c₀
  simp_all
 |stop=>
  have:recoverD (c₀::cs)=some (xv,{ c₀ with mode:=.panicking [{ v:=xv,recovered:=true }] } :: cs):=by simp only[recoverD,hu]
  rw[this];exact hF
theorem Mode.settle{v:V}{xv:Value}{u u':FrameMode}(h:Mode v xv u u'):u≠.run∧settle u'=.returning:=by
 cases h with
 |idle=>exact⟨by simp,rfl⟩
 |stop=>exact⟨by simp,rfl⟩
def GR(G:Nat→V)(w:World)(H:Nat→Value)(A:Nat→Nat→Prop)(es es2:List Ent)(u':FrameMode)(e:Ending)(v:FrameMode)(w':World):Prop:=
 e=.returned (.tuple #[])∧v=u'∧∃H' A',es2.length=es.length∧(∀e∈es2,wfE e)∧Mem ⟨w,A,es.length,H,entF es,G,0,[]⟩ (entF es2) w' H' A'
set_option maxHeartbeats 1000000 in
theorem evG_ok{P:Program}{G:Nat→V}{c:Orc}(hc:Sound P G c){g:FuncId}{es es2:List Ent}{mode:V}(h:evG P G c g es mode=some es2)(he:∀e∈es,wfE e):zj2 P g=true∧∀(w:World)(H:Nat→Value)(A:Nat→Nat→Prop)(vals:Array Value)(u u':FrameMode)(xm:Value),
  Mem ⟨w,A,es.length,H,entF es,G,0,[]⟩ (entF es) w H A→zbQ w A (entF es) H (zhA es.length) vals.toList→RepV w A mode xm→Mode mode xm u u' →
  CallsD P g vals u w (GR G w H A es es2 u'):=by
 unfold evG at h;split at h<;>first|(cases h;done)|skip
 rename_i fn hf;split at h<;>first|(cases h;done)|skip
 rename_i hname;split at h<;>first|(cases h;done)|skip
 rename_i code hb;split at h<;>first|(cases h;done)|skip
 rename_i d os ops r hcut;split at h<;>first|(cases h;done)|skip
 rename_i ms t s' hms ht hres;split at h<;>first|(cases h;done)|skip
 rename_i hle;obtain⟨hle1,hle2⟩:=hle;unfold gW at h;split at h<;>first|(cases h;done)|skip
 rename_i hwm;refine⟨by simp only[zj2,hf,qa32,qa27];exact⟨by simpa using hname,by rw[hb];rfl⟩,fun w H A vals u u' xm m hv hm hmode=>?_⟩;refine callsD_of_wpS hf hb fun c₀ cs hu=>?_;unfold cutR at hcut;split at hcut<;>first|(cases hcut;done)|skip
 rename_i id ops' r';split at hcut<;>first|(cases hcut;done)|skip
 rename_i d' a1 a2 ty po af os' hops;cases hcut;have hlen:=zeB hv;have hal:(zhA es.length).length=es.length:=by simp[zhA]
 have hva:vals.size=es.length:=by rw[hal]at hlen;simpa using hlen.symm
 let cx:Ctx:=⟨w,A,es.length,H,entF es,G,fn.ntmps,[]⟩;have hE:∀id,cx.E0 id≠.gone→id<cx.n0:=fun id hg=>Nat.lt_of_not_le (fun hle=>hg (ziz hle));have hst:(zft (zhA es.length) es).st=entF es:=funext fun id=>zlT es id;have hm0:Mem cx (zft (zhA es.length) es).st w H A:=by rw[hst];exact m.forN fn.ntmps
 have hsim:SimH cx (zft (zhA es.length) es) { tmps:=vals++Array.replicate (fn.ntmps-vals.size) Go.undef,defers:=[] } w H A:=by
  refine hm0.sim (by simp;show vals.size+(fn.ntmps-vals.size)=fn.ntmps;omega) rfl (fun t ht=>?_);rw[hst];have he:(zft (zhA es.length) es).env t=(zhA es.length).getD t .any:=znP _ t;rw[he];by_cases hta:t<(zhA es.length).length
  ·obtain⟨u,h3,h4⟩:=ziT hv t (zhA es.length)[t] (qa11 hta);have h5:(vals++Array.replicate (fn.ntmps-vals.size) Go.undef).getD t Go.undef=u:=by
    have h6:vals[t]?=some u:=by simpa using h3
    simp only[qa7];rw[Array.getElem?_append_left (by omega),h6];rfl
   simp only[];rw[h5];simpa[qa11 hta]using h4
  ·have:(zhA es.length).getD t .any=.any:=by simp [List.getElem?_eq_none (Nat.le_of_not_lt hta)]
   rw[this];trivial
 have hsim1:=hsim.putv d mode xm (hm.toT);have hrel:Rel ((zft (zhA es.length) es).put d mode []) ((strY ((zhA es.length).map argR) es).put d (.d mode)):=(zAe _ _ (qa57 _) he).put ⟨rfl,hwm⟩;have hR:=evR_ok hc (fun a b=>zrL) hrel h (Q:=fun x=>PEx.normal=PEx.normal∧∃y,Rel x y∧evC P c nol es.length [] t 0 (List Ent) eeqs y (fun e y=>match e with|.exit _=>none|_=>y.entL (List.range es.length)) (fun _ _=>none)=some es2) (KP:=fun _ _=>False) (fun x' y' hr hk=>⟨rfl,y',hr,hk⟩) (fun v st y' _ _ hk=>by cases hk);have hsz:ops.size=os.length+1:=by rw[←Array.length_toList,hops];rfl
 have h0:ops[0]?=some ⟨d,.call ⟨.builtin .recover,a1,a2⟩,ty,po,af,none⟩:=by rw[←Array.getElem?_toList,hops];rfl
 obtain⟨hm1,hm2⟩:=zig _ _ _ _ hms;have hpk:zpA cx.n0 (fun _ _=>False):=fun _ _ _ _ h=>h;apply wpS_seq;apply wpS_region;rw[hsz,List.range_eq_range',List.range'_succ];have hrun:∀a:Act,(execOp a.eval { dst:=d,op:=.call ⟨.builtin .recover,a1,a2⟩,type:=ty,pos:=po,after:=af,guard:=none:Oper }).run P w=.ok .recover w:=fun a=>by
  simp[execOp,resolve,invoke];rfl
 simp only[wpOpsS,h0,Region.wanted,qa60,hrun];refine hmode.rec1 hu cs (fun v cs'=>wpOpsS P ops _ (List.range' (0+1) os.length) (Act.put _ d v) cs' w) ?_;refine zrZ (c:=cx) (Kp:=fun _ _=>False) (Q:=fun e x=>e=.normal∧∃y,Rel x y∧evC P c nol es.length [] t 0 (List Ent) eeqs y (fun e y=>match e with|.exit _=>none|_=>y.entL (List.range es.length)) (fun _ _=>none)=some es2) ?_ os ms 1 (fun j=>?_) hm1 (fun i o mo hi hm=>⟨(hm2 i o mo hi hm).1, ?_⟩) _ _ w H A hsim1 hR
 ·rintro(_|i|_|_|ch|_) a' w' hq
  ·obtain⟨x,H1,A1,hx, -,y,hr,hk⟩:=hq;refine wpS_of_wp ?_;have hw:=zvL hc zyq t (fun a b=>zrL) hr hk (Q:=fun pe x=>pe≠.exit 0∧(∀i,pe≠.exit i)∧lentOf es.length x.st=es2∧zjm es.length x.st∧∀e∈es2,wfE e) (KP:=fun _ _=>False) (fun pe x' y' hr hk=>?_) (fun v st y' _ _ hk=>by cases hk)
   ·refine Code.wp_mono ?_ (zuq (c:=cx) hpk hE (fun k hk=>by simp only [sg];show es.length≤k;omega) ht hx hw);have fin:∀(x:X)(a':Act)(w':World)(H':Nat→Value)(A':Nat→Nat→Prop),SimH cx x a' w' H' A'→lentOf es.length x.st=es2→zjm es.length x.st→(∀e∈es2,wfE e)→bodyPostS P fn c₀ cs (GR G w H A es es2 u') .ret a' ({ c₀ with mode:=u' } :: cs) w':=by
     intro x a' w' H' A' hx h1 h2 h3;refine⟨hx.df,u',rfl,.tuple #[], ?_,rfl,rfl,H',A',by rw[←h1];simp[lentOf],h3, ?_⟩
     ·have hr0:fn.results=#[]:=by simpa using hres
      simp[results,hr0]
     ·have:=(hx.mem.drop hE h2).forN 0;rw[show lentOf cx.n0 x.st=es2 from h1]at this;exact this
    rintro(_|i|_|_|ch|_) a' w' hq
    ·obtain⟨x,H',A',hx, -, -,h1,h2,h3⟩:=hq;exact fin x a' w' H' A' hx h1 h2 h3
    ·obtain⟨x,H',A',hx, -,h0, -⟩:=hq;exact absurd rfl (h0 i)
    ·exact hq.elim
    ·obtain⟨x,H',A',hx, -, -,h1,h2,h3⟩:=hq;exact fin x a' w' H' A' hx h1 h2 h3
    ·obtain⟨x,H',A',v,xv, -, -, -,hq⟩:=hq;exact hq.elim
    ·exact hq.elim
   ·cases pe with
    |exit i=>cases hk
    |normal=>
     obtain⟨h1,h2⟩:=zoW hr.s hk;exact⟨by simp,by simp,h1,h2,(zjd hr.s hk).2⟩
    |ret=>
     obtain⟨h1,h2⟩:=zoW hr.s hk;exact⟨by simp,by simp,h1,h2,(zjd hr.s hk).2⟩
  ·obtain⟨x,H2,A2,hx,hq, -⟩:=hq;cases hq
  ·exact hq.elim
  ·obtain⟨x,H2,A2,hx,hq, -⟩:=hq;cases hq
  ·obtain⟨x,H2,A2,v,xv, -, -, -,hq⟩:=hq;exact hq.elim
  ·exact hq.elim
 ·rw[←Array.getElem?_toList,hops,Nat.add_comm 1 j,qa13]
 ·rw[(hm2 i o mo hi hm).2];show es.length≤sg [] (20+i);simp only[sg];omega
end
section
open Go Go.RowKit
def compL(P:Program)(N:Nat)(G:Nat→V):Nat→List Code→Option (List C×Nat)
 |s,[]=>some ([],s)
 |s,c::l=>match compC P N G [] s c with
  |some (t,s1)=>(match compL P N G s1 l with|some (ts,s2)=>some (t::ts,s2)|none=>none)
  |none=>none
def evP(P:Program)(c:Orc)(KR:Y→Option Out):List C→Y→(Y→Option Out)→Option Out
 |[],y,K=>K y
 |t::l,y,K=>evC P c nol 0 [] t 0 Out oeq y (fun e y=>match e with|.normal=>evP P c KR l y K|.ret=>KR y|.exit _=>none) (fun v _=>some (.panic v,[]))
def capI(y:Y):List Operand→Option (List Nat)
 |[]=>some []
 |.tmp t::r=>(match y.e t with|.p i 0=>(match capI y r with|some l=>some (i::l)|none=>none)|_=>none)
 |_=>none
def reR(y:Y)(ids:List Nat):R→R
 |.d v=>.d v
 |.i x o=>.i x o
 |.q i k=>(match y.dat (.q i k)with|some v=>.d v|none=>.u)
 |.p i o=>if i∈ids then .p (ids.findIdx (· == i)) o else .u
 |.un=>.un
 |_=>.u
def resY(y:Y)(ids:List Nat)(es:List Ent)(d1:Nat):Y:=⟨fun t=>if t=d1 then .u else reR y ids (y.e t),fun id=>entN (es.getD id .gone),0⟩
def pinR(T:List (Nat×Nat))(t:Nat):R:=match T with
 |[]=>.u
 |(i,k)::r=>if t=i then .p k 0 else pinR r t
def pinY(T:List (Nat×Nat))(k:Nat)(y:Y):Y:=⟨pinR T,fun i=>if i<k then y.s i else .gone,y.c⟩
def isPin(y:Y)(p:Nat×Nat):Bool:=match y.e p.1 with|.p k 0=>k==p.2|_=>false
def cloD(P:Program)(G:Nat→V)(c:Orc)(g:FuncId)(m k:Nat)(res:List RV)(mode:V)(y:Y):Option Out:=match y.entL (List.range m)with
 |some es1=>(evG P G c g es1 mode).bind fun es2=>if es2.length=m then ztt es2 (List.range m) 0 y (fun y=>match y.outs res,y.entL (List.range k)with|some v,some _=>some (.ret v,[])|_,_=>none)else none
 |none=>none
def cloP(P:Program)(G:Nat→V)(c:Orc)(g:FuncId)(m k:Nat)(res:List RV)(T:List (Nat×Nat))(mode:V)(y:Y):Option Out:=match y.entL (List.range k)with
 |some _=>cloD P G c g m k res mode (pinY T k y)
 |none=>none
def evFD(P:Program)(G:Nat→V)(c:Orc)(ids:List Nat)(T:List (Nat×Nat))(f:FuncId)(args:List R):Option Out:=match P.funcs[f]? with
 |some fn=>if fn.name == "runtime.NumGoroutine" then none else match fn.body with
  |some code=>match cutD code with
   |some (l,dc,r)=>match defD dc,compL P fn.ntmps G 10 l,compC P fn.ntmps G [] 600 r,resT P fn.ntmps fn.results.toList with
    |some (d1,g,cap),some (cl,_),some (t,_),some res=>if(args.length≤fn.ntmps∧d1<fn.ntmps∧ids.length≤600∧(cap.toList.all fun o=>match o with|.tmp t=>decide (t<fn.ntmps)|_=>false)=true)∧(ids.Nodup∧flat (T.map (·.1)) r=true∧(T.all fun p=>decide (p.1<fn.ntmps∧p.2<ids.length))=true)then
      evP P c (finK 0 res .ret) cl (strY args []) fun y=>match capI y cap.toList,y.entL ids with
       |some m,some es=>if m=ids.take m.length∧T.all (isPin (resY y ids es d1))=true then
         evC P c nol ids.length [] t 0 Out oeq (resY y ids es d1) (fun e y=>match e with|.exit _=>none|_=>cloD P G c g m.length ids.length res .niface y) (fun v y=>cloP P G c g m.length ids.length res T v y)
        else none
       |_,_=>none
     else none
    |_,_,_,_=>none
   |none=>none
  |none=>none
 |none=>none
theorem zx4{P:Program}{c:Orc}{cx:Ctx}(hc:Sound P cx.G c)(hn:cx.n0=0)(hE:∀id,cx.E0 id≠.gone→id<cx.n0){KR K:Y→Option Out}{r:Out}{dc:Code}{Qw:Exit→Act→World→Prop}
  (hK:∀x y a w H A,Rel x y→SimH cx x a w H A→K y=some r→dc.wp P Qw a w)
  (hR:∀x y a w H A,Rel x y→SimH cx x a w H A→KR y=some r→Qw .ret a w)
  (hP:∀x a w H A v xv,SimH cx x a w H A→RepV w A v xv→r=(.panic v,[])→Qw (.panic [{ v:=xv,recovered:=false }]) a w):
  ∀(l:List Code)(s:Nat)(cl:List C)(s':Nat),compL P cx.N cx.G s l=some (cl,s')→∀x y a w H A,Rel x y→SimH cx x a w H A→evP P c KR cl y K=some r→(seqs l dc).wp P Qw a w
 |[],s,cl,s',hcl,x,y,a,w,H,A,hr,hs,h=>by
  cases hcl;exact hK x y a w H A hr hs h
 |p::l,s,cl,s',hcl,x,y,a,w,H,A,hr,hs,h=>by
  simp only[compL]at hcl;split at hcl<;>first|(cases hcl;done)|skip
  rename_i t s1 h1;split at hcl<;>first|(cases hcl;done)|skip
  rename_i ts s2 h2;cases hcl;simp only[evP]at h;have hw:=zvL hc zyq t zyl hr h (n:=0) (Q:=fun pe x=>∃y,Rel x y∧(match pe with|.normal=>evP P c KR ts y K|.ret=>KR y|.exit _=>none)=some r) (KP:=fun v _=>r=(.panic v,[])) (fun pe x' y' hr hk=>⟨y',hr,hk⟩) (fun v st y' _ _ hk=>by cases hk;rfl);refine wp_seq (Code.wp_mono ?_ (zuq (c:=cx) (fun v _ _ _ h=>h) hE (fun k hk=>by rw[hn];exact Nat.zero_le _) h1 hs (by rw[hn];exact hw)));rintro(_|i|_|_|ch|_) a' w' hq
  ·obtain⟨x',H',A',hx,y',hr',hk⟩:=hq;exact zx4 hc hn hE hK hR hP l s1 ts s' h2 x' y' a' w' H' A' hr' hx hk
  ·obtain⟨x',H',A',hx,y',hr',hk⟩:=hq;cases hk
  ·exact hq.elim
  ·obtain⟨x',H',A',hx,y',hr',hk⟩:=hq;exact hR x' y' a' w' H' A' hr' hx hk
  ·obtain⟨x',H',A',v,xv,rfl,hrep,hx,hk⟩:=hq;exact hP x' a' w' H' A' v xv hx hrep hk
  ·exact hq.elim
def Fin0(w:World)(A:Nat→Nat→Prop)(G:Nat→V)(H:Nat→Value)(R:POut→Prop)(e:Ending)(w':World):Prop:=
 ∃o H' A',R o∧Mem ⟨w,A,0,H,entF [],G,0,[]⟩ (entF []) w' H' A'∧OutRep w' A' o e
theorem zsN{P:Program}{G:Nat→V}{f:FuncId}{fn:Func}{code:Code}{args:List V}{R:POut→Prop}(hf:P.funcs[f]?=some fn)(hname:(fn.name == "runtime.NumGoroutine")=false)(hb:fn.body=some code)(ha:args.length≤fn.ntmps)
  (h:∀(w:World)(H:Nat→Value)(A:Nat→Nat→Prop)(a:Act),SimH ⟨w,A,0,H,entF [],G,fn.ntmps,[]⟩ (zft args []) a w H A→code.wp P (bodyPostD P fn (Fin0 w A G H R)) a w):zes P G f args [] fun o es=>R o∧es=[]:=by
 refine⟨by simp only[zj2,hf,qa32,qa27];exact⟨by simpa using hname,by rw[hb];rfl⟩,fun w H A vals m hv=>?_⟩;have hlen:=zeB hv;have hva:vals.size=args.length:=by simpa using hlen.symm
 have hst:(zft args []).st=entF []:=funext fun id=>zlT [] id;refine Calls.mono (calls_of_wp_defers (R:=Fin0 w A G H R) hf hb (h w H A _ ?_)) ?_
 ·have hm:Mem ⟨w,A,0,H,entF [],G,fn.ntmps,[]⟩ (zft args []).st w H A:=by rw [hst];exact m.forN fn.ntmps
  refine hm.sim (by simp;show vals.size+(fn.ntmps-vals.size)=fn.ntmps;omega) rfl (fun t ht=>?_);rw[hst];have he:(zft args []).env t=args.getD t .any:=znP args t;rw[he];by_cases hta:t<args.length
  ·obtain⟨u,h3,h4⟩:=ziT hv t args[t] (qa11 hta);have h5:(vals++Array.replicate (fn.ntmps-vals.size) Go.undef).getD t Go.undef=u:=by
    have h6:vals[t]?=some u:=by simpa using h3
    simp only[qa7];rw[Array.getElem?_append_left (by omega),h6];rfl
   simp only[];rw[h5];simpa[qa11 hta]using h4
  ·have:args.getD t .any=.any:=by simp [List.getElem?_eq_none (Nat.le_of_not_lt hta)]
   rw[this];trivial
 ·rintro e w' ⟨o,H',A',h1,h2,h3⟩;exact⟨o,[],H',A',⟨h1,rfl⟩,rfl,fun e he=>by simp at he,h2,h3⟩
theorem zvA{st:Nat→Ent}{ids:List Nat}{es:List Ent}(hn:ids.Nodup)(he:es=ids.map st)(hw:∀e∈es,wfE e):Lends st ids es:=by
 have hlen:es.length=ids.length:=by rw[he];simp
 have hk:∀k,k<ids.length→entF es k=st (nameOf ids k)∧wfE (entF es k):=fun k hk=>by
  have h1:entF es k∈es:=zl1 (by omega);refine⟨?_,hw _ h1⟩;simp[entF,nameOf,he,qa11 hk]
 refine⟨hn,hlen,fun k hk'=>?_,fun k hk'=>?_,fun e he'=>zpD (hw e he') _⟩
 ·obtain⟨h1,h2⟩:=hk k hk';rw[ztv h2,h1]
 ·obtain⟨h1,h2⟩:=hk k hk';intro h0;rw[h0]at h2;exact h2
theorem zwt{m j:Nat}(h:j<m):nameOf (List.range m) j=j:=by simp[nameOf,h]
theorem zAd(m:Nat):(zhA m).map (V.ren (nameOf (List.range m)))=zhA m:=by
 unfold zhA;rw[List.map_map];refine qa17 fun i hi=>?_;show V.ptr (nameOf (List.range m) i) 0=_;rw[zwt (List.mem_range.1 hi)]
theorem argsP_on(m:Nat):(zhA m).all (V.on fun k=>decide (k<m))=true:=by
 rw[qa33];intro v hv;obtain⟨i,hi,rfl⟩:=qa55.1 hv;simpa[V.on]using List.mem_range.1 hi
theorem inv_run{P:Program}{g:FuncId}(h:zj2 P g=true)(vs:Array Value)(w:World):(invoke (.fn (.func g) vs) #[]).run P w=.ok (.enter g vs) w:=by
 simp[invoke,zm3 h]
theorem leave_ok{P:Program}{c:Orc}{c3:Ctx}(hc:Sound P c3.G c)(hE3:∀id,c3.E0 id≠.gone→id<c3.n0){g:FuncId}{m:Nat}{res:List RV}{mode:V}{xm:Value}{u u':FrameMode}{fn:Func}(hres:resT P c3.N fn.results.toList=some res){vals:Array Value}{x:X}{y:Y}{a:Act}{w:World}{H:Nat→Value}{A:Nat→Nat→Prop}{o:Out}
  (hs:SimH c3 x a w H A) (hr:Rel x y) (hm:RepV w A mode xm) (hmode:Mode mode xm u u') (hv:zbQ w A x.st H (zhA m) vals.toList) (h:cloD P c3.G c g m c3.n0 res mode y=some o) {Rf:Ending→World→Prop}
  (hfin:∀x' w' H' A' v xv,SimH c3 x' a w' H' A'→(∀e∈lentOf c3.n0 x'.st,wfE e)→o=(.ret v,[])→RepV w' A' v xv→Rf (.returned xv) w'):
  Go.Leaves P fn a.tmps Rf [{ target:=.fn (.func g) vals,args:=#[] }] u w:=by
 unfold cloD at h;split at h<;>first|(cases h;done)|skip
 rename_i es1 he1;obtain⟨es2,hg,h⟩:=Option.bind_eq_some_iff.1 h;split at h<;>first|(cases h;done)|skip
 rename_i hl2;obtain⟨h1,h2⟩:=zjd hr.s he1;have hl1:es1.length=m:=by rw[h1];simp
 have hlend:Lends x.st (List.range m) es1:=zvA List.nodup_range h1 h2;obtain⟨hent,hclo⟩:=evG_ok hc hg h2;obtain⟨hu,hset⟩:=hmode.settle;refine leaves_cons (f:=g) (args:=vals) hu (inv_run hent vals w) ?_;have hv2:zbQ w A (entF es1) (fun k=>H (nameOf (List.range m) k)) (zhA es1.length) vals.toList:=by
  rw[hl1];refine zbQ.unren hlend.cor (by rw[zAd];exact hv) ?_;have:=argsP_on m;simpa using this
 refine(hclo w _ A vals u u' xm (hs.start hlend) hv2 hm hmode).mono ?_;rintro e v w' ⟨rfl,rfl,H1,A1,h3,h4,hmem⟩;dsimp only;rw[hset];obtain⟨H',h6⟩:=hs.back hlend h3 (fun e he=>zpD (h4 e he) _) hmem none .undef Go.undef .undef;rw[zrC h4]at h6;obtain⟨-,y',hk,h7,h8,h9⟩:=zrU (j:=0) (by simp[hl2]) hr.s h;simp only[List.drop_zero]at h9;have hr':Rel (x.put none .undef ((List.range m).zip es2)) y':=⟨fun t=>by rw[h7];exact(hr.e t).le h8,h9⟩;split at hk<;>first|(cases hk;done)|skip
 rename_i v es3 hv3 he3;cases hk;obtain⟨h10,h11⟩:=zt5 hr' hv3;obtain⟨xv,hrun,hrep⟩:=ztW (P:=P) h6 hres h11;rw[h10]at hrep;refine⟨xv,hrun,hfin _ _ _ _ v xv h6 ?_ rfl hrep⟩;obtain⟨h12,h13⟩:=zjd hr'.s he3;rw[h12]at h13;exact h13
end
section
open Go Go.RowKit
def conX:R→V
 |.d v=>v
 |.p i o=>.ptr i o
 |.i x o=>.ip x o
 |.un=>.undef
 |_=>.any
theorem find_idx{ids:List Nat}{i:Nat}(h:i∈ids):ids.findIdx (· == i)<ids.length∧nameOf ids (ids.findIdx (· == i))=i:=zo4 h
theorem zzZ{x:X}{y:Y}(hr:Rel x y){c:Ctx}{a:Act}{w:World}{H:Nat→Value}{A:Nat→Nat→Prop}(hs:SimH c x a w H A):∀{l:List Operand} {m:List Nat},capI y l=some m→(l.all fun o=>match o with|.tmp t=>decide (t<c.N)|_=>false)=true→zbQ w A x.st H (m.map fun i=>.ptr i 0) (l.map a.eval)
 |[],m,h,_=>by cases h;rfl
 |.tmp t::l,m,h,hl=>by
  simp only[qa54,qa32,qa25]at hl;simp only[capI]at h;split at h<;>first|(cases h;done)|skip
  rename_i i hi;split at h<;>first|(cases h;done)|skip
  rename_i m' hm;cases h;have h1:=hr.e t;rw[hi]at h1;have h2:=hs.env t hl.1;rw[show x.env t=.ptr i 0 from h1]at h2;exact⟨_,_,rfl,h2,zzZ hr hs hm hl.2⟩
 |.const _::_,_,h,_=>by cases h
 |.global _::_,_,h,_=>by cases h
 |.func _::_,_,h,_=>by cases h
theorem zp6{w w':World}{A A':Nat→Nat→Prop}{st st':Nat→Ent}{H H':Nat→Value}:∀{is js:List Nat} {vs:List Value},is.length=js.length→(∀n,n<is.length→H' (js.getD n 0)=H (is.getD n 0)∧∃T cs,st' (js.getD n 0)=.blk T cs)→zbQ w A st H (is.map fun i=>.ptr i 0) vs→zbQ w' A' st' H' (js.map fun i=>.ptr i 0) vs
 |[],[],vs,_,_,h=>h
 |i::is,j::js,vs,hl,hk,h=>by
  obtain⟨u,us,rfl,h1,h2⟩:=h;refine⟨u,us,rfl, ?_,zp6 (by simpa using hl) (fun n hn=>by have:=hk (n+1) (by simpa using hn);simpa using this) h2⟩;obtain⟨h3,h4⟩:=hk 0 (by simp);simp only[List.getD_cons_zero]at h3 h4;rcases h1 with⟨b,hb,_,he⟩|h1
  ·exact Or.inl ⟨b,h3.trans hb,h4,he⟩
  ·cases h1
 |[],_::_,_,hl,_,_=>by simp at hl
 |_::_,[],_,hl,_,_=>by simp at hl
theorem pinR_p{T:List (Nat×Nat)}{t k o:Nat}(h:pinR T t=.p k o):(t,k)∈T∧o=0:=by
 induction T with
 |nil=>cases h
 |cons p r ih=>
  obtain⟨i,j⟩:=p;simp only[pinR]at h;split at h
  ·rename_i e;cases h;subst e;exact⟨by simp,rfl⟩
  ·obtain⟨h1,h2⟩:=ih h;exact⟨by simp[h1],h2⟩
theorem pinR_or(T:List (Nat×Nat))(t:Nat):pinR T t=.u∨∃k,pinR T t=.p k 0:=by
 induction T with
 |nil=>exact .inl rfl
 |cons p r ih=>
  obtain⟨i,j⟩:=p;simp only[pinR];split
  ·exact .inr ⟨_,rfl⟩
  ·exact ih
set_option maxHeartbeats 2000000 in
theorem evFD_ok{P:Program}{G:Nat→V}{c:Orc}(hc:Sound P G c){ids:List Nat}{T:List (Nat×Nat)}{f:FuncId}{args:List V}{r:Out}(ha:∀v∈args,argOk 0 v)(h:evFD P G c ids T f (args.map argR)=some r):zes P G f args [] fun o' es'=>(o',es')=r:=by
 unfold evFD at h;split at h<;>first|(cases h;done)|skip
 rename_i fn hf;split at h<;>first|(cases h;done)|skip
 rename_i hname;split at h<;>first|(cases h;done)|skip
 rename_i code hb;split at h<;>first|(cases h;done)|skip
 rename_i l dc rc hcut;split at h<;>first|(cases h;done)|skip
 rename_i d1 g cap cl s1 t s2 res hdef hcl ht hres;split at h<;>first|(cases h;done)|skip
 rename_i hcond;obtain⟨⟨hlen,hd1,hids,hcapl⟩,hnd,hflat,hT⟩:=hcond;simp only[qa44]at hlen;refine(zsN (R:=fun o'=>(o',[])=r) hf (by simpa using hname) hb hlen fun w H A a hsim=>?_).mono (fun o es=>by rintro⟨h1,rfl⟩;exact h1);let cx:Ctx:=⟨w,A,0,H,entF [],G,fn.ntmps,[]⟩;have hE:∀id,cx.E0 id≠.gone→id<cx.n0:=fun id hg=>absurd rfl hg;have fin0:∀(x:X)(a:Act)(w':World)(H':Nat→Value)(A':Nat→Nat→Prop),SimH cx x a w' H' A'→Mem ⟨w,A,0,H,entF [],G,0,[]⟩ (entF []) w' H' A':=fun x a w' H' A' hx=>(hx.mem.drop hE (qa33.2 fun e he=>by simp[lentOf,cx]at he)).forD 0 [];rw[zzJ hcut];refine zx4 (cx:=cx) hc rfl hE ?_ ?_ ?_ l 10 cl s1 hcl (zft args []) (strY (args.map argR) []) a w H A (zoB ha (fun e he=>by simp at he)) hsim h
 ·-- behind the pieces
  intro x y a w2 H2 A2 hrel hsim hK;split at hK<;>first|(cases hK;done)|skip
  rename_i mi es hcap hes;split at hK<;>first|(cases hK;done)|skip
  rename_i hcc;obtain⟨hmi,hpins⟩:=hcc;obtain⟨he1,he2⟩:=zjd hrel.s hes;have hk:es.length=ids.length:=by rw[he1];simp
  have hlend:Lends x.st ids es:=zvA hnd he1 he2;refine wp_seq (wp_defD hdef (by rw[hsim.tm];exact hd1) ?_);generalize hvals:cap.map a.eval=vals;generalize hD:({ target:=.fn (.func g) vals,args:=#[] }:Deferred)=d;have hsimD:=hsim.putv (some d1) .any (.func (.func g) #[] vals) trivial;have hlendD:Lends (x.put (some d1) .any []).st ids es:=hlend;have hm:=hsimD.start hlendD;have hdf:a.defers=[]:=hsim.df;let H3:Nat→Value:=fun k=>H2 (nameOf ids k);let c3:Ctx:=⟨w2,A2,es.length,H3,entF es,G,fn.ntmps,[d]⟩;have hE3:∀id,c3.E0 id≠.gone→id<c3.n0:=fun id hg=>Nat.lt_of_not_le (fun hle=>hg (ziz (l:=es) hle));let y3:Y:=resY y ids es d1;let x3:X:=⟨fun t=>conX (y3.e t),entF es⟩;let a3:Act:={ a.put (some d1) (.func (.func g) #[] vals)with defers:=d::a.defers };have hblk:∀k,k<ids.length→∃T cs,entF es k=.blk T cs:=fun k hk'=>by
   have h1:entF es k∈es:=zl1 (by omega);have h2:=he2 _ h1;cases he:entF es k with
   |blk T cs=>exact⟨T,cs,rfl⟩
   |_=>rw[he]at h2;exact h2.elim
  have hrel3:Rel x3 y3:=by
   refine⟨fun t=>?_,fun id=>?_⟩
   ·show RelR _ _ (if t=d1 then R.u else reR y ids (y.e t)) (conX (if t=d1 then R.u else reR y ids (y.e t)));split
    ·trivial
    ·have h0:=hrel.e t;cases hy:y.e t with
     |d v=>rw[hy]at h0;exact⟨rfl,h0.2⟩
     |i v o=>rw[hy]at h0;exact⟨rfl,h0.2⟩
     |q i k=>
      rw[hy]at h0;simp only[reR];split
      ·rename_i v hv;exact⟨rfl,(zd9 hrel.s h0 hv).2⟩
      ·trivial
     |p i o=>
      simp only[reR];split
      ·exact rfl
      ·trivial
     |un=>exact rfl
     |_=>trivial
   ·show RelE _ _ (entN (es.getD id .gone)) (entF es id);by_cases hid:id<es.length
    ·have h2:=he2 _ (qa36 hid);simp only[entF,qa8,qa11 hid,Option.getD_some];generalize es[id]=e at h2;cases e with
     |blk T cs=>exact⟨cs,rfl,zmD h2⟩
     |_=>exact h2.elim
    ·simp only[entF,qa8,List.getElem?_eq_none (Nat.le_of_not_lt hid),Option.getD_none];rfl
  have hsim3:SimH c3 x3 a3 w2 H3 A2:=by
   refine Mem.sim (hm.forD fn.ntmps [d]) hsimD.tm (by show d::a.defers=[d];rw[hdf]) fun t ht=>?_;have h0:=hrel.e t;have h1:=hsimD.env t ht;show RepT w2 A2 (entF es) H3 (conX (if t=d1 then R.u else reR y ids (y.e t))) _;split
   ·trivial
   ·rename_i htd;rw[show(x.put (some d1) .any []).env t=x.env t from upd_ne _ _ htd]at h1;cases hy:y.e t with
    |d v=>
     rw[hy]at h0;rw[h0.1]at h1;exact(h1.data (zfV h0.2)).toT
    |i v o=>
     rw[hy]at h0;rw[h0.1]at h1;exact(h1.data rfl).toT
    |q i k=>
     rw[hy]at h0;simp only[reR];split
     ·rename_i v hv;obtain⟨h2,h3⟩:=zd9 hrel.s h0 hv;have h4:=zeq h1;rw[show(x.put (some d1) .any []).st=x.st from rfl,h2]at h4;exact(h4.data (zfV h3)).toT
     ·trivial
    |p i o=>
     rw[hy]at h0;rw[show x.env t=.ptr i o from h0]at h1;simp only[reR];split
     ·rename_i hi;obtain⟨h2,h3⟩:=find_idx hi;rcases h1 with⟨b,hb,_,he⟩|h1
      ·exact Or.inl ⟨b,by show H2 (nameOf ids _)=_;rw[h3];exact hb,hblk _ h2,he⟩
      ·cases h1
     ·trivial
    |un=>
     rw[hy]at h0;rw[show x.env t=.undef from h0]at h1;exact(h1.data rfl).toT
    |_=>trivial
  have hcapv:=zzZ hrel hsim hcap hcapl;rw[show cap.toList.map a.eval=vals.toList by rw[←hvals];simp]at hcapv;have hcapL:∀(st6:Nat→Ent)(H6:Nat→Value)(w6:World)(A6:Nat→Nat→Prop),(∀j,j<ids.length→H6 j=H3 j∧∃T cs,st6 j=.blk T cs)→zbQ w6 A6 st6 H6 (zhA mi.length) vals.toList:=by
   intro st6 H6 w6 A6 h6;have hml:mi.length≤ids.length:=by
    have:=congrArg List.length hmi;simp only[qa38]at this;omega
   refine zp6 (is:=mi) (js:=List.range mi.length) (by simp) (fun n hn=>?_) hcapv;have e1:(List.range mi.length).getD n 0=n:=by simp[hn]
   rw[e1];obtain⟨h7,h8⟩:=h6 n (by omega);refine⟨?_,h8⟩;rw[h7];show H2 (nameOf ids n)=H2 (mi.getD n 0);congr 1;rw[hmi];simp only[nameOf,qa8,List.getElem?_take];rw[if_pos hn]
  have hT':∀p∈T,p.1<fn.ntmps∧p.2<ids.length:=fun p hp=>by
   have:=qa33.1 hT p hp;simpa using this
  let TV:List (Nat×Value):=T.map fun p=>(p.1,a3.tmps.getD p.1 Go.undef);have hTV:TV.map (·.1)=T.map (·.1):=by simp[TV]
  have hpin:Pin TV a3:=by
   intro p hp;obtain⟨q,hq,rfl⟩:=qa55.1 hp;rfl
  have hlast:∀(x':X)(a':Act)(w':World)(H':Nat→Value)(A':Nat→Nat→Prop)(v:V)(xv:Value),SimH c3 x' a' w' H' A'→(∀e∈lentOf c3.n0 x'.st,wfE e)→r=(.ret v,[])→RepV w' A' v xv→Fin0 w A G H (fun o'=>(o',[])=r) (.returned xv) w':=by
   intro x' a' w' H' A' v xv h8 hwf ho hrep;have hon:∀e∈lentOf c3.n0 x'.st,e.on (fun k=>decide (k<c3.n0))=true:=fun e he=>zpD (hwf e he) _;have hm8:=(h8.mem.drop hE3 (qa33.2 hon)).forD 0 [];obtain⟨H9,h9⟩:=hsimD.back (es:=lentOf c3.n0 x'.st) hlendD (by simp[lentOf,c3]) (by simpa[c3]using hon) hm8 none .undef Go.undef .undef;exact⟨.ret v,H9,A',ho.symm,fin0 _ _ _ _ _ h9,xv,rfl,hrep⟩
  let QQ:PEx→X→Prop:=fun pe x'=>∃y',Rel x' y'∧(match pe with|.exit _=>none|_=>cloD P G c g mi.length ids.length res .niface y')=some r;let KK:V→(Nat→Ent)→Prop:=fun v st=>wf v=true∧∃st0 y',(∀i,i<ids.length→st i=st0 i)∧RelS st0 y'∧cloP P G c g mi.length ids.length res T v y'=some r;have hw0:wpC P G ids.length KK t QQ x3:=zvL hc zyq t zyl hrel3 hK (fun pe x' y' hr hk=>⟨y',hr,hk⟩) (fun v st y' hr hv hk=>⟨hv,st,y',fun _ _=>rfl,hr,hk⟩);have hpk:zpA c3.n0 KK:=by
   rintro v st st' h1 ⟨h2,st0,y',h3,h4⟩;exact⟨h2,st0,y',fun i hi=>(h1 i (by show i<es.length;omega)).trans (h3 i hi),h4⟩
  have hw:wpC P c3.G c3.n0 KK t QQ x3:=by
   show wpC P G es.length KK t QQ x3;rw[hk];exact hw0
  refine Code.wp_mono ?_ (code_okT (c:=c3) (T:=TV) hpk (by rw[hTV];exact hflat) (fun k hk'=>by simp only[sg];show es.length≤k;omega) ht hsim3 hpin hw);have hH6:∀(x':X)(a':Act)(w':World)(H':Nat→Value)(A':Nat→Nat→Prop),SimH c3 x' a' w' H' A'→∀j,j<ids.length→H' j=H3 j∧∃T cs,x'.st j=.blk T cs:=fun x' a' w' H' A' hx j hj=>by
   obtain⟨T0,cs0,h0⟩:=hblk j hj;exact hx.out.blk j T0 cs0 h0
  have fin:∀(x':X)(a':Act)(w':World)(H':Nat→Value)(A':Nat→Nat→Prop)(y':Y)(mode:V)(xm:Value)(u u':FrameMode),SimH c3 x' a' w' H' A'→Rel x' y'→RepV w' A' mode xm→Mode mode xm u u'→cloD P G c g mi.length ids.length res mode y'=some r→Go.Leaves P fn a'.tmps (Fin0 w A G H (fun o'=>(o',[])=r)) a'.defers u w':=by
   intro x' a' w' H' A' y' mode xm u u' hx hr hrep hmode hclo;rw[hx.df];show Go.Leaves P fn a'.tmps _ [d] u w';rw[←hD];rw[←hk]at hclo;exact leave_ok (c3:=c3) hc hE3 hres hx hr hrep hmode (hcapL x'.st H' w' A' (hH6 _ _ _ _ _ hx)) hclo (fun x'' w'' H'' A'' v xv h1 h2 h3 h4=>hlast x'' a' w'' H'' A'' v xv h1 h2 h3 h4)
  rintro(_|i|_|_|ch|_) a' w' ⟨hq,hp⟩
  ·obtain⟨x',H',A',hx,y',hr,hclo⟩:=hq;exact fin x' a' w' H' A' y' _ _ _ _ hx hr .niface .idle hclo
  ·obtain⟨x',H',A',hx,y',hr,hclo⟩:=hq;cases hclo
  ·exact hq.elim
  ·obtain⟨x',H',A',hx,y',hr,hclo⟩:=hq;exact fin x' a' w' H' A' y' _ _ _ _ hx hr .niface .idle hclo
  ·obtain⟨x',H',A',v,xv,rfl,hrep,hx,hwv,st0,y',heq,hrs,hclo⟩:=hq;show Go.Leaves P fn a'.tmps _ a'.defers (.panicking _) w';unfold cloP at hclo;split at hclo<;>first|(cases hclo;done)|skip
   rename_i es9 hes9;obtain⟨h9,h10⟩:=zjd hrs hes9;have hlo:lentOf c3.n0 x'.st=es9:=by
    rw[h9,←hk];exact qa17 fun i hi=>heq i (by have:i<es.length:=List.mem_range.1 hi;omega)
   have hml:=hx.mem.drop hE3 (qa33.2 fun e he=>zpD (h10 e (hlo ▸ he)) _);let x9:X:=⟨fun t=>conX (pinR T t),entF (lentOf c3.n0 x'.st)⟩;have hst9:∀i,entF (lentOf c3.n0 x'.st) i=if i<ids.length then st0 i else .gone:=fun i=>by
    by_cases hi:i<ids.length
    ·rw[if_pos hi];have:entF (lentOf c3.n0 x'.st) i=x'.st i:=zf5 (show i<es.length by omega);rw[this];exact heq i hi
    ·rw[if_neg hi];exact ziz (by simp[lentOf,c3];omega)
   have hsim9:SimH c3 x9 a' w' H' A':=by
    refine hml.sim hx.tm hx.df fun t ht=>?_;show RepT w' A' _ H' (conX (pinR T t)) _;rcases pinR_or T t with h11|⟨k,h11⟩
    ·rw[h11];trivial
    ·rw[h11];obtain⟨h12, -⟩:=pinR_p h11;obtain⟨h13,h14⟩:=hT' _ h12;have h15:=hp _ (qa55.2 ⟨_,h12,rfl⟩);dsimp only at h15;rw[h15];have h16:isPin y3 (t,k)=true:=qa33.1 hpins _ h12;have h17:y3.e t=.p k 0:=by
      unfold isPin at h16;dsimp only at h16;split at h16
      ·rename_i k' hk';rw[hk'];simp only[beq_iff_eq]at h16;rw[h16]
      ·cases h16
     have h18:=hsim3.env t h13;rw[show x3.env t=.ptr k 0 by show conX (y3.e t)=_;rw[h17];rfl]at h18;obtain⟨h19,T1,cs1,h20⟩:=hH6 x' a' w' H' A' hx k h14;rcases h18 with⟨b,hb,_,he⟩|h18
     ·refine Or.inl ⟨b,h19.trans hb,⟨T1,cs1, ?_⟩,he⟩;have:entF (lentOf c3.n0 x'.st) k=x'.st k:=zf5 (show k<es.length by omega);exact this.trans h20
     ·cases h18
   have hrel9:Rel x9 (pinY T ids.length y'):=by
    refine⟨fun t=>?_,fun i=>?_⟩
    ·show RelR _ _ (pinR T t) (conX (pinR T t));rcases pinR_or T t with h11|⟨k,h11⟩
     ·rw[h11];trivial
     ·rw[h11];exact rfl
    ·show RelE _ _ (if i<ids.length then y'.s i else .gone) (entF (lentOf c3.n0 x'.st) i);rw[hst9];split
     ·refine(hrs i).le ⟨qa57 _,fun i T z k v _ h=>?_⟩;simp only[pinY]at h;split at h
      ·exact h
      ·cases h
     ·rfl
   exact fin x9 a' w' H' A' _ _ _ _ _ hsim9 hrel9 hrep (.stop v xv) hclo
  ·exact hq.elim
 ·-- returned early
  intro x y a w' H' A' hrel hs hk;simp only[finK]at hk;split at hk<;>first|(cases hk;done)|skip
  rename_i v es' h1 h2;cases hk;obtain⟨a1,a2⟩:=zt5 hrel h1;obtain⟨b1,b2⟩:=zoW hrel.s h2;obtain⟨xv,h3,h4⟩:=ztW (P:=P) hs hres a2;show Go.Leaves P fn a.tmps _ a.defers .returning w';rw[hs.df];refine⟨xv,h3,.ret v,H',A', ?_,fin0 _ _ _ _ _ hs,xv,rfl,by rw[←a1];exact h4⟩;rw[←b1];rfl
 ·intro x a w' H' A' v xv hs hrep hr;show Go.Leaves P fn a.tmps _ a.defers (.panicking _) w';rw[hs.df];exact⟨.panic v,H',A',hr.symm,fin0 _ _ _ _ _ hs,xv,rfl,hrep⟩
end
section
open Go Go.RowKit
section
variable{P:Program}{G:Nat→V}{c:Nat→Orc}{c0:Orc}
theorem zt6:LpT (fun _=>nol) nol:=fun _ _ _ _ _ r h=>by cases h
theorem tds_const{Z:Type}(o:Option Z):Tds (fun _=>o) o:=fun _ h=>⟨0,fun _ _=>h⟩
theorem tds_evG(hc:∀g a e,Tds (fun n=>c n g a e) (c0 g a e)){g:FuncId}{es:List Ent}{mode:V}:Tds (fun n=>evG P G (c n) g es mode) (evG P G c0 g es mode):=by
 unfold evG gW
 repeat' (first|exact za3|split)
 refine tds_evR hc (fun y=>?_) (fun v y=>za3);refine zqO (lp:=fun _=>nol) hc zt6 _ (fun e y=>?_) (fun v y=>za3);cases e<;>exact tds_const _
theorem tds_bd{Z Z':Type}{f:Nat→Option Z}{o:Option Z}{g:Nat→Z→Option Z'}{p:Z→Option Z'}(h:Tds f o)(h':∀z,Tds (fun n=>g n z) (p z)):Tds (fun n=>(f n).bind (g n)) (o.bind p):=by
 intro r hr;obtain⟨z,rfl,hz⟩:=Option.bind_eq_some_iff.1 hr;obtain⟨N,hN⟩:=(h z rfl).and (h' z r hz);exact⟨N,fun n hn=>by show(f n).bind (g n)=_;rw[(hN n hn).1];exact(hN n hn).2⟩
theorem zuG(hc:∀g a e,Tds (fun n=>c n g a e) (c0 g a e)){g:FuncId}{m k:Nat}{res:List RV}{mode:V}{y:Y}:Tds (fun n=>cloD P G (c n) g m k res mode y) (cloD P G c0 g m k res mode y):=by
 unfold cloD;split
 ·exact tds_bd (tds_evG hc) (fun es2=>tds_const _)
 ·exact za3
theorem tds_cloP(hc:∀g a e,Tds (fun n=>c n g a e) (c0 g a e)){g:FuncId}{m k:Nat}{res:List RV}{T:List (Nat×Nat)}{mode:V}{y:Y}:Tds (fun n=>cloP P G (c n) g m k res T mode y) (cloP P G c0 g m k res T mode y):=by
 unfold cloP;split
 ·exact zuG hc
 ·exact za3
theorem zxn(hc:∀g a e,Tds (fun n=>c n g a e) (c0 g a e)){KR:Y→Option Out}:∀(l:List C) {y:Y} {K:Nat→Y→Option Out} {K0:Y→Option Out},(∀y,Tds (fun n=>K n y) (K0 y))→Tds (fun n=>evP P (c n) KR l y (K n)) (evP P c0 KR l y K0)
 |[],y,K,K0,hK=>hK y
 |t::l,y,K,K0,hK=>by
  simp only[evP];refine zqO (lp:=fun _=>nol) hc zt6 _ (fun e y=>?_) (fun v y=>tds_const _);cases e with
  |normal=>exact zxn hc l hK
  |ret=>exact tds_const _
  |exit i=>exact za3
theorem tds_evFD(hc:∀g a e,Tds (fun n=>c n g a e) (c0 g a e)){ids:List Nat}{T:List (Nat×Nat)}{f:FuncId}{args:List R}:Tds (fun n=>evFD P G (c n) ids T f args) (evFD P G c0 ids T f args):=by
 unfold evFD
 repeat' (first|exact za3|(refine zxn hc _ (fun y=>?_))|split)
 refine zqO (lp:=fun _=>nol) hc zt6 _ (fun e y=>?_) (fun v y=>tds_cloP hc);cases e with
 |exit i=>exact za3
 |_=>exact zuG hc
end
end
section
open Go Go.RowKit
section
variable{Z:Type}
def ckEs:List (Nat×Nat)→Nat→List Ent→Option Z→Option Z
 |[],_,_,A=>A
 |(T,n)::r,j,es,A=>ckE T n (nth es j) (ckEs r (j+1) es A)
def dfr(o:Option (List Ent))(tn:List (Nat×Nat))(K:List Ent→Option Out):Option Out:=o.bind fun es=>if es.length=tn.length then ckEs tn 0 es (K es)else none
@[simp] theorem ecell_b (T:Nat) (cs:List V) (j:Nat):zad (.blk T cs) j=cs.getD j .undef:=rfl
@[simp] theorem nth_0 (a:Ent) (l:List Ent):nth (a::l) 0=a:=rfl
@[simp] theorem nth_s (a:Ent) (l:List Ent) (n:Nat):nth (a::l) (n+1)=nth l n:=rfl
@[simp] theorem ckEs_0 (j:Nat) (es:List Ent) (A:Option Z):ckEs [] j es A=A:=rfl
@[simp] theorem ckEs_s (T n:Nat) (r:List (Nat×Nat)) (j:Nat) (es:List Ent) (A:Option Z):ckEs ((T,n)::r) j es A=ckE T n (nth es j) (ckEs r (j+1) es A):=rfl
theorem zwO(T n:Nat)(cs:List V)(A:Option Z)(h1:cs.length=n)(h2:wfs cs=true):ckE T n (.blk T cs) A=A:=by simp only[ckE,h1,h2,and_self,qa60]
theorem zzG(es:List Ent)(tn:List (Nat×Nat))(K:List Ent→Option Out)(h:es.length=tn.length):dfr (some es) tn K=ckEs tn 0 es (K es):=by
 show(if es.length=tn.length then _ else none)=_;rw[if_pos h]
end
theorem Pro.phi_tds(p:Pro):∀(k:Nat)(f:FuncId)(a:List V)(e:List Ent),Tds (fun n=>p.phi n f a e) (p.phi k f a e)
 |0,_,_,_=>fun _ h=>by cases h
 |k+1,f,a,e=>by
  intro r h;have key:Evt (fun n=>p.step (p.phi n) (it n) f a e) r:=by
   have h:p.step (p.phi k) (it k) f a e=some r:=h;unfold Pro.step at h ⊢;cases hd:p.D f
   ·rw[hd]at h;exact zxo (c0:=p.phi k) (lp0:=it k) (fun g a e=>p.phi_tds k g a e) (fun Z F F0 hF l r h=>zyN Z F F0 hF l r (lup_some.2 ⟨k,h⟩)) _ h
   ·rw[hd]at h;exact p.tends _ _ (fun g a e=>p.phi_tds k g a e) _ _ _ _ h
  obtain⟨N,hN⟩:=key;refine⟨N+1,fun n hn=>?_⟩;obtain⟨m,rfl⟩:∃m,n=m+1:=⟨n-1,by omega⟩;exact hN m (by omega)
theorem Pro.ev_phi(p:Pro)(k:Nat){f:FuncId}{a:List V}{e:List Ent}{r:Out}(h:p.phi k f a e=some r):p.ev f a e=some r:=p.ev_some.2 (p.phi_tds k f a e r h)
theorem Pro.ofN(p:Pro){f:FuncId}{a:List V}{e:List Ent}{z:Out}(hd:p.D f=true)(h:p.B p.ev f a e=some z):p.ev f a e=some z:=by
 refine p.ev_step ?_;unfold Pro.step;rw[hd];exact h
structure Nv(P:Program)(G:Nat→V) where
 f:FuncId
 B:Orc→List V→List Ent→Option Out
 sound:∀c,Sound P G c→∀args ents o es,(∀v∈args,argOk ents.length v)→(∀e∈ents,wfE e)→B c args ents=some (o,es)→zes P G f args ents (fun o' es'=>o'=o∧es'=es)
 tends:∀(c:Nat→Orc)(c0:Orc),(∀g a e,Tds (fun n=>c n g a e) (c0 g a e))→∀a e,Tds (fun n=>B (c n) a e) (B c0 a e)
section
variable{P:Program}{G:Nat→V}
def nvD(L:List (Nv P G))(f:FuncId):Bool:=L.any fun n=>n.f==f
def nvB(L:List (Nv P G))(c:Orc)(f:FuncId)(a:List V)(e:List Ent):Option Out:=match L.find? fun n=>n.f==f with|some n=>n.B c a e|none=>none
def Pro.ofL(P:Program)(G:Nat→V)(A:FuncId→List (Nat×Nat)×List LA)(L:List (Nv P G)):Pro where
 P:=P
 G:=G
 A:=A
 D:=nvD L
 B:=nvB L
 sound c hc f _ args ents o es ha he h:=by
  unfold nvB at h;split at h
  ·rename_i n hn;have hf:n.f=f:=by simpa using List.find?_some hn
   rw[←hf];exact n.sound c hc args ents o es ha he h
  ·cases h
 tends c c0 hc f a e:=by
  unfold nvB;split
  ·rename_i n _;exact n.tends c c0 hc a e
  ·exact za3
def zhT(o:Option V):Option Out:=match o with|some v=>some (.ret v,[])|none=>none
def Nv.pure(f:FuncId)(ans:List V→Option V)(h:∀args v,ans args=some v→zes P G f args [] fun o es=>o=.ret v∧es=[]):Nv P G where
 f:=f
 B _ a e:=match e with|[]=>zhT (ans a)|_=>none
 sound c _ args ents o es _ _ hb:=by
  split at hb<;>first|(cases hb;done)|skip
  unfold zhT at hb;split at hb<;>first|(cases hb;done)|skip
  rename_i v hv;cases hb;exact h args v hv
 tends c c0 _ a e:=fun _ hr=>⟨0,fun _ _=>hr⟩
def Nv.fd(f:FuncId)(ids:List Nat)(T:List (Nat×Nat)):Nv P G where
 f:=f
 B c a e:=match e with|[]=>evFD P G c ids T f (a.map argR)|_=>none
 sound c hc args ents o es ha _ hb:=by
  split at hb<;>first|(cases hb;done)|skip
  refine(evFD_ok hc ha hb).mono fun o' es' h=>?_;cases h;exact⟨rfl,rfl⟩
 tends c c0 hc a e:=by
  cases e with
  |nil=>exact tds_evFD hc
  |cons _ _=>exact za3
end
end
end Vm
namespace Go.Proofs.YtlooegbcfkoloaaGreatDoor
open Go.RowKit
open Vm
def tokM(t:Lx.TA):Vm.V:=.agg [.int .i64 t.1.kind,.str t.1.text,.int .i64 t.1.val.1,.int .i64 t.1.val.2.1,.str t.1.val.2.2,.int .i64 (t.2:Int)]
def Ret(P:Program)(G:Nat→Vm.V)(f:FuncId)(args:List Vm.V)(v:Vm.V):Prop:=zes P G f args [] fun o es=>o=.ret v∧es=[]
theorem zcS{P:Program}{G:Nat→Vm.V}{f:FuncId}{args:List Vm.V}{R:POut→Prop}(hen:zj2 P f=true)(hd:args.all V.data=true)
  (h:∀(w:World)(A:Nat→Nat→Prop)(vals:Array Value),(∀b o,A b o→b<w.heap.size)→RepL w A args vals.toList→Calls P f vals w fun e w'=>Below w.heap.size w w'∧∃o,R o∧OutRep w' A o e):zes P G f args [] fun o es=>R o∧es=[]:=by
 refine⟨hen,fun w H A vals m hv=>Calls.mono (h w A vals m.al (zkf hv hd)) fun e w' ⟨hb,o,hR,ho⟩=>?_⟩;exact⟨o,[],H,A,⟨hR,rfl⟩,rfl,fun e he=>by simp at he,m.below hb,ho⟩
theorem zuE{w:World}{A:Nat→Nat→Prop}:∀l:List Lx.TA,RepE w A 6 (l.map tokM) (l.flatMap zkJ)
 |[]=>.nil 6
 |t::l=>by
  rw[qa52,qa29];refine .cons 6 _ _ _ _ rfl (.agg _ _ rfl ?_) (zuE l);exact .cons _ _ _ _ (.int _ _) (.cons _ _ _ _ (.str _) (.cons _ _ _ _ (.int _ _) (.cons _ _ _ _ (.int _ _) (.cons _ _ _ _ (.str _) (.cons _ _ _ _ (.int _ _) .nil)))))
theorem own_rep{w:World}{A:Nat→Nat→Prop}{base T:Nat}{v:Value}{l:List Lx.TA}(h:w.ownsRow base T 6 v l.length (l.flatMap zkJ))(hA:∀b o,A b o→b<base):RepV w A (.list (l.map tokM)) v:=by
 obtain⟨h0,h|⟨g,cap,cur,h1,h2,h3,h4,h5,h6,h7⟩⟩:=h
 ·obtain⟨rfl,hl⟩:=h;obtain rfl:l=[]:=qa6 hl;exact .nil _ _
 ·subst h1;cases l with
  |nil=>exact .nil _ _
  |cons t l=>
   have:=RepV.list (w:=w) (A:=A) ((t::l).map tokM) 6 g 0 cap ((t::l).flatMap zkJ) (by simp) (zuE _) ⟨?_,fun j u hu=>⟨?_,fun hAA=>by have:=hA _ _ hAA;omega⟩⟩ (by simpa using h4) h5
   ·simpa using this
   ·exact(Array.getElem?_eq_some_iff.1 h3).1
   ·rw[Nat.zero_add];rw[←h7,List.getElem?_take]at hu;split at hu
    ·simp only[World.cell?,h3];simpa using hu
    ·cases hu
def zq0(s:List UInt8):Vm.V:=.tup [.list ((Lx.scan s).1.map tokM),.int .i64 ((Lx.scan s).2.1:Int),.int .i64 (Lx.scan s).2.2]
theorem zuX{w w':World}{A:Nat→Nat→Prop}{s:List UInt8}{e:Ending}(hA:∀b o,A b o→b<w.heap.size)(h:scanE w (Lx.scan s) e w'):Below w.heap.size w w'∧∃o,o=.ret (zq0 s)∧OutRep w' A o e:=by
 obtain⟨v,rfl,h1,h2⟩:=h;exact⟨h2,_,rfl,_,rfl,.tup _ _ (.cons _ _ _ _ (own_rep h1 hA) (.cons _ _ _ _ (.int _ _) (.cons _ _ _ _ (.int _ _) .nil)))⟩
theorem n_Scan{G:Nat→Vm.V}{s:List UInt8}(hs:s.length≤1000000):zes Tryz.prog G 11 [.str s] [] fun o es=>o=.ret (zq0 s)∧es=[]:=by
 refine zcS (by kernel_rfl) rfl fun w A vals hA hv=>?_;rw[ziU hv];refine Calls.mono (scan_any (Lx.bs s) w (by rw[Lx.zaD];omega)) fun e w' h=>?_;rw[Lx.zcn]at h;exact zuX hA h
theorem n_rScan{G:Nat→Vm.V}{s:List UInt8}(hs:s.length≤1000000):zes Tryz.prog G 13 [.str s] [] fun o es=>o=.ret (zq0 s)∧es=[]:=by
 refine zcS (by kernel_rfl) rfl fun w A vals hA hv=>?_;rw[ziU hv];refine Calls.mono (zxG (Lx.bs s) w (by rw[Lx.zaD];omega)) fun e w' h=>?_;rw[Lx.zcn]at h;exact zuX hA h
end Go.Proofs.YtlooegbcfkoloaaGreatDoor
namespace Ox
open Lx
abbrev S:=List UInt8
def numN(m:Nat):S:=if m<10 then[UInt8.ofNat (48+m)]else numN (m / 10)++[UInt8.ofNat (48+m % 10)]
def num(n:Int):S:=if n<0 then 45::numN n.natAbs else numN n.natAbs
def hexD(n:Nat):UInt8:=(hexs[n]?).getD 0
def hex:S→S
 |[]=>[]
 |c::r=>hexD (c.toNat / 16)::hexD (c.toNat % 16)::hex r
end Ox
end
