/- Part of the proof: see the last text. -/
import Derived.Test.YtplflngjpajcmaaGreatDoorP0
import Derived.Test.YtplflngjpajcmaaGreatDoorP3
import Derived.Test.YtplflngjpajcmaaGreatDoorP4
import Derived.Test.YtplflngjpajcmaaGreatDoorP5
set_option maxRecDepth 20000
set_option linter.unusedVariables false
set_option linter.unusedSimpArgs false
noncomputable section
namespace Vm
section
open Go Go.RowKit
mutual
def wf:V→Bool
 |.list l=>wfs l
 |.agg l=>wfs l
 |.tup l=>wfs l
 |.ip x _=>wf x
 |.iface _ x=>wf x
 |.ptr _ _|.row _ _|.fn _ _ _|.any|.ta _|.mr _ _|.rp _ _ _=>false
 |_=>true
termination_by structural x=>x
def wfs:List V→Bool
 |[]=>true
 |x::r=>wf x && wfs r
termination_by structural x=>x
end
inductive RS where
 |d (v:V)
 |p (id off:Nat)
def RS.v:RS→V|.d v=>v|.p i o=>.ptr i o
inductive RK where
 |d (v:V)
 |q (id k:Nat)
inductive R where
 |d (v:V)
 |p (id off:Nat)
 |q (id k:Nat)
 |i (x:V) (off:Nat)
 |f (g:FuncId) (a b:List RS)
 |sa (l:List RK)
 |m (id k:Nat)
 |e (id k:Nat) (i:V) (o:Nat)
 |un
 |u
def RK.r:RK→R|.d v=>.d v|.q i k=>.q i k
def RS.r:RS→R|.d v=>.d v|.p i o=>.p i o
inductive EN where
 |gone
 |blk (T:TypeId) (cs:List R)
 |rq (T z k:Nat) (v:V)
 |mq (T z k:Nat) (v:V)
 |fq (T z k:Nat) (v:V)
structure Y where
 e:Nat→R
 s:Nat→EN
 c:Nat
def updR(e:Nat→R)(d:Nat)(r:R):Nat→R:=fun i=>if i=d then r else e i
def updN(s:Nat→EN)(d:Nat)(r:EN):Nat→EN:=fun i=>if i=d then r else s i
def putR(e:Nat→R)(d:Option Nat)(r:R):Nat→R:=match d with|some d=>updR e d r|none=>e
def Y.put(y:Y)(d:Option Nat)(r:R):Y:=⟨putR y.e d r,y.s,y.c⟩
def Y.set(y:Y)(id:Nat)(n:EN):Y:=⟨y.e,updN y.s id n,y.c⟩
def Y.new(y:Y)(id:Nat)(T z:Nat)(v:V):Y:=⟨y.e,updN y.s id (.rq T z y.c v),y.c+1⟩
def Y.newM(y:Y)(id:Nat)(T z:Nat)(v:V):Y:=⟨y.e,updN y.s id (.mq T z y.c v),y.c+1⟩
def conR:V→R
 |.fn f [] []=>.f f [] []
 |.ip x o=>if wf x=true then .i x o else .u
 |.undef=>.un
 |v=>if wf v=true then .d v else .u
def Y.er(y:Y):O→R
 |.t n=>y.e n
 |.c v=>conR v
def Y.datK(y:Y):List RK→Option (List V)
 |[]=>some []
 |.d v::l=>(match y.datK l with|some vs=>some (v::vs)|none=>none)
 |.q id k::l=>(match y.s id with|.rq _ _ k' v=>if k=k' then(match y.datK l with|some vs=>some (v::vs)|none=>none)else none|_=>none)
def Y.dat(y:Y):R→Option V
 |.sa l=>(match y.datK l with|some vs=>some (.agg vs)|none=>none)
 |.d v=>some v
 |.i x o=>some (.ip x o)
 |.q id k=>match y.s id with|.rq _ _ k' v=>if k=k' then some v else none|_=>none
 |.m id k=>match y.s id with|.fq _ _ k' v=>if k=k' then some v else none|_=>none
 |_=>none
def Y.val(y:Y):R→Option V
 |.m id k=>match y.s id with|.mq _ _ k' v=>if k=k' then some v else none|.fq _ _ k' v=>if k=k' then some v else none|_=>none
 |r=>y.dat r
def Y.mut(y:Y):R→Option (Nat×Nat×Nat×V)
 |.m id k=>match y.s id with|.mq _ z k' v=>if k=k' then some (id,k,z,v)else none|_=>none
 |_=>none
def setV(v w u:V):V:=match v,w with|.list xs,.int _ n=>.list (xs.set n.toNat u)|_,_=>v
def Y.dats(y:Y):List R→Option (List V)
 |[]=>some []
 |r::l=>match y.dat r with|some v=>(match y.dats l with|some vs=>some (v::vs)|none=>none)|none=>none
def cell(v:V)(j:Nat):V:=v.cells.getD j .undef
def zfx(n:Nat)(v:V):List R:=(List.range n).map fun j=>.d (cell v j)
def ziH(n:Nat)(v:V):List V:=(List.range n).map fun j=>cell v j
variable{Z:Type}
def cnd(v:V)(A B:Option Z):Option Z:=match v with|.bool true=>A|.bool false=>B|_=>none
def ck1(v:V)(A:Option Z):Option Z:=if v.one=true then A else none
def ckA(n:Nat)(v:V)(A:Option Z):Option Z:=if v.isAgg=true∧v.size=n∧v.storable=true then A else none
def ckN(n:Nat)(v:V)(A:Option Z):Option Z:=match n with|1=>ck1 v A|n=>ckA n v A
def binV(op:BinOp)(b i s:Bool)(x y:V):Option V:=match x,y with
 |.int k a,.int k' c=>if k=k' then zbd op k a c else none
 |.str a,.str c=>strV op a c
 |.bool a,.bool c=>if b=true∧i=false then(match op with|.eql=>some (.bool (a==c))|.neq=>some (.bool (!(a==c)))|_=>none)else none
 |.nils,.nils=>if s=true∧i=false then(match op with|.eql=>some (.bool true)|.neq=>some (.bool false)|_=>none)else none
 |.iface _ _,.niface=>if i=true∧b=false then(match op with|.eql=>some (.bool false)|.neq=>some (.bool true)|_=>none)else none
 |.niface,.niface=>if(i=true∧b=false)∧s=true then(match op with|.eql=>some (.bool true)|.neq=>some (.bool false)|_=>none)else none
 |.agg xs,.agg ys=>if b=true∧i=true then(match op,eqVal xs ys with|.eql,some r=>some (.bool r)|.neq,some r=>some (.bool (!r))|_,_=>none)else none
 |_,_=>none
def convV(k:Option IntKind)(x:V):Option V:=match k,x with
 |some k,.int _ n=>some (.int k (k.wrap n))
 |none,.str s=>some (.str s)
 |_,_=>none
def slS(v:V)(lo hi:Option V):Option V:=match v with|.str s=>zcm s lo hi|_=>none
def slL(z:Nat)(v:V)(lo hi:Option V):Option V:=match norm0 v with|.list xs=>zcn z xs lo hi|_=>none
def ldV(ag:Bool)(n:Nat)(x:V)(off:Nat):Option V:=match ag with
 |true=>if off=0∧x.isAgg=true∧x.size=n then some x else if off+n≤x.size then some (.agg ((x.cells.drop off).take n))else none
 |false=>x.cells[off]?
def fldV(o n:Nat)(ag:Bool)(v:V):Option V:=match v with
 |.agg cs=>(match ag with|true=>if o+n≤cs.length then some (.agg ((cs.drop o).take n))else none|false=>cs[o]?)
 |_=>none
def elV(z:Nat)(v i:V):Option V:=match norm0 v,i with
 |.list xs,.int _ n=>match xs[n.toNat]? with
  |some y=>if 0≤n∧y.size=z then some y else none
  |none=>none
 |_,_=>none
def idxV(v i:V):Option V:=match v,i with
 |.str s,.int _ n=>match s[n.toNat]? with
  |some c=>if 0≤n then some (.int .u8 (c.toNat:Int))else none
  |none=>none
 |_,_=>none
def extV(v:V)(i:Nat):Option V:=match v with|.tup vs=>vs[i]?|_=>none
def tasW(z:Option V)(T:TypeId)(v:V):Option V:=match z with
 |some u=>if wf u=true then tasV (some u) T v else none
 |none=>tasV none T v
def lenS(v:V):Option V:=match v with|.str s=>some (.int .i64 (s.length:Int))|_=>none
def lenL(v:V):Option V:=match norm0 v with|.list xs=>some (.int .i64 (xs.length:Int))|_=>none
def ifcV(v:V):Option V:=match norm1 v with|.iface T u=>some (.iface T u)|_=>none
def appV(z b:Nat)(v ys:V):Option V:=match norm0 ys,v with
 |.list ys,.list xs=>if(∀y∈ys,y.size=z)∧(xs.length+ys.length)*(b+1)≤140737488355328 then some (.list (xs++ys))else none
 |.list ys,.nils=>if(∀y∈ys,y.size=z)∧ys.length*(b+1)≤140737488355328 then some (.list ys)else none
 |_,_=>none
def appL(z b:Nat)(v ys:V):Option V:=match v with|.list _=>appV z b v ys|_=>none
def appN(z b:Nat)(v ys:V):Option V:=match v with|.nils=>appV z b v ys|_=>none
abbrev Out:=POut×List Ent
abbrev Orc:=FuncId→List V→List Ent→Option Out
def cal(c:Orc)(g:FuncId)(args:List V)(ents:List Ent)(K:V→List Ent→Option Z)(Kp:V→List Ent→Option Z):Option Z:=match c g args ents with
 |some (.ret v,es)=>K v es
 |some (.panic v,es)=>Kp v es
 |none=>none
def cal0(c:Orc)(g:FuncId)(args:List V)(K:V→Option Z)(Kp:V→Option Z):Option Z:=cal c g args [] (fun v _=>K v) fun v _=>Kp v
def zdX(e:Ent)(j:Nat):V:=match e with|.blk _ cs=>cs.getD j .undef|_=>.undef
def ckE(T n:Nat)(e:Ent)(A:Option Z):Option Z:=match e with|.blk T' cs=>if T'=T∧cs.length=n∧wfs cs=true then A else none|_=>none
def nth(l:List Ent)(j:Nat):Ent:=l.getD j .gone
def RS.ren(ids:List Nat):RS→Option V
 |.d v=>some v
 |.p i o=>if i∈ids then some (.ptr (ids.findIdx (· == i)) o)else none
def RS.rens(ids:List Nat):List RS→Option (List V)
 |[]=>some []
 |r::l=>match r.ren ids with|some v=>(match RS.rens ids l with|some vs=>some (v::vs)|none=>none)|none=>none
def RS.ids:List RS→List Nat
 |[]=>[]
 |.d _::l=>RS.ids l
 |.p i _::l=>i::RS.ids l
def addN(l:List Nat)(i:Nat):List Nat:=if i∈l then l else l++[i]
def idsOf:List R→List Nat→List Nat
 |[],a=>a
 |.p i _::l,a=>idsOf l (addN a i)
 |.f _ x z::l,a=>idsOf l ((RS.ids x++RS.ids z).foldl addN a)
 |_::l,a=>idsOf l a
def nrm(k:Bool)(v:V):V:=match k with|true=>v|false=>norm1 v
def Y.arg(y:Y)(k:Bool)(ids:List Nat):R→Option V
 |.p i o=>RS.ren ids (.p i o)
 |.f g a b=>match RS.rens ids a,RS.rens ids b with|some a,some b=>some (.fn g a b)|_,_=>none
 |r=>match y.dat r with|some v=>some (nrm k v)|none=>none
def Y.args(y:Y)(k:Bool)(ids:List Nat):List R→Option (List V)
 |[]=>some []
 |r::l=>match y.arg k ids r with|some v=>(match y.args k ids l with|some vs=>some (v::vs)|none=>none)|none=>none
def plainC:List R→Option (List V)
 |[]=>some []
 |.d v::l=>(match plainC l with|some vs=>some (v::vs)|none=>none)
 |.i x o::l=>(match plainC l with|some vs=>some (.ip x o::vs)|none=>none)
 |_=>none
def Y.ent(y:Y)(id:Nat):Option Ent:=match y.s id with|.blk T cs=>(match plainC cs with|some vs=>some (.blk T vs)|none=>none)|_=>none
def Y.entL(y:Y):List Nat→Option (List Ent)
 |[]=>some []
 |i::l=>match y.ent i with|some e=>(match y.entL l with|some es=>some (e::es)|none=>none)|none=>none
def EN.tn:EN→Nat×Nat|.blk T cs=>(T,cs.length)|_=>(0,0)
def zhi(es:List Ent):List Nat→Nat→Y→(Y→Option Z)→Option Z
 |[],_,y,K=>K y
 |i::l,j,y,K=>ckE (y.s i).tn.1 (y.s i).tn.2 (nth es j) (zhi es l (j+1) (y.set i (.blk (y.s i).tn.1 ((List.range (y.s i).tn.2).map fun k=>.d (zdX (nth es j) k)))) K)
def apt(y:Y)(av ids:List Nat):Bool:=av.all fun t=>match y.e t with|.p i _=>!ids.contains i|.u=>false|_=>true
def cIds:List R→List Nat→List Nat
 |[],a=>a
 |.m i _::l,a=>cIds l (addN a i)
 |.p i _::l,a=>cIds l (addN a i)
 |_::l,a=>cIds l a
def deepC:List R→Bool
 |[]=>false
 |.m _ _::_=>true
 |.p _ _::_=>true
 |_::l=>deepC l
def Y.deep(y:Y):List Nat→Bool
 |[]=>false
 |i::l=>match y.s i with|.blk _ cs=>deepC cs || y.deep l|_=>y.deep l
def Y.reach(y:Y):Nat→Nat→List Nat→List Nat
 |0,_,a=>a
 |f+1,k,a=>match a[k]? with
  |some i=>(match y.s i with|.blk _ cs=>y.reach f (k+1) (cIds cs a)|_=>y.reach f (k+1) a)
  |none=>a
def lsV(v:V)(K:List V→Option Z):Option Z:=match v with|.list xs=>K xs|_=>none
def Y.lsK(y:Y):List Nat→(List Ent→Option Z)→Option Z
 |[],K=>K []
 |i::l,K=>match y.s i with
  |.mq T z _ v=>lsV v fun xs=>y.lsK l fun L=>K (.mrow T z xs::L)
  |_=>y.lsK l fun L=>K (.gone::L)
def elen:Ent→Nat|.mrow _ _ xs=>xs.length|_=>0
def Y.cQ(y:Y)(ids:List Nat)(L:List Ent):R→Option V
 |.d v=>some v
 |.i x o=>some (.ip x o)
 |.m r k=>match y.s r with|.mq _ _ k' _=>if k=k'∧r∈ids then some (.mr (ids.findIdx (· == r)) (elen (nth L (ids.findIdx (· == r)))))else none|_=>none
 |.p i o=>RS.ren ids (.p i o)
 |_=>none
def Y.csQ(y:Y)(ids:List Nat)(L:List Ent):List R→Option (List V)
 |[]=>some []
 |r::l=>match y.cQ ids L r with|some v=>(match y.csQ ids L l with|some vs=>some (v::vs)|none=>none)|none=>none
def Y.enQ(y:Y)(ids:List Nat)(L:List Ent)(id j:Nat):Option Ent:=match y.s id with
 |.blk T cs=>(match y.csQ ids L cs with|some vs=>some (.blk T vs)|none=>none)
 |.mq _ _ _ _=>some (nth L j)
 |_=>none
def Y.ensQ(y:Y)(ids:List Nat)(L:List Ent):List Nat→Nat→Option (List Ent)
 |[],_=>some []
 |i::l,j=>match y.enQ ids L i j with|some e=>(match y.ensQ ids L l (j+1)with|some es=>some (e::es)|none=>none)|none=>none
inductive SH where
 |d
 |m (j:Nat)
 |p (j o:Nat)
def ckR(T z:Nat)(e:Ent)(K:List V→Option Z):Option Z:=match e with|.mrow T' z' xs=>if(T'=T∧z'=z)∧wfs xs=true then K xs else none|_=>none
def okQ(es:List Ent):List SH→List V→Bool
 |[],[]=>true
 |.d::s,v::l=>wf v && okQ es s l
 |.m j::s,.mr i n::l=>i==j && (n==elen (nth es j) && okQ es s l)
 |.p j o::s,.ptr i o'::l=>i==j && (o'==o && okQ es s l)
 |_,_=>false
def ckQ(T:Nat)(sh:List SH)(es:List Ent)(e:Ent)(A:Option Z):Option Z:=match e with|.blk T' cs=>if T'=T∧okQ es sh cs=true then A else none|_=>none
def shQ(ids:List Nat)(l:List R):List SH:=l.map fun r=>match r with|.m i _=>.m (ids.findIdx (· == i))|.p i o=>.p (ids.findIdx (· == i)) o|_=>.d
def Y.ver(y:Y)(i:Nat):Nat:=match y.s i with|.mq _ _ k _=>k|_=>0
def Y.newQ(y:Y)(e:Ent):List R→Nat→List R
 |[],_=>[]
 |.m r _::l,m=>.m r (y.ver r)::y.newQ e l (m+1)
 |.p i o::l,m=>.p i o::y.newQ e l (m+1)
 |_::l,m=>.d (zdX e m)::y.newQ e l (m+1)
def zhj(es:List Ent):List Nat→Nat→Y→(Y→Option Z)→Option Z
 |[],_,y,K=>K y
 |i::l,j,y,K=>match y.s i with
  |.mq T z _ _=>ckR T z (nth es j) fun xs=>zhj es l (j+1) (y.newM i T z (.list xs)) K
  |_=>zhj es l (j+1) y K
def zhk(es:List Ent)(ids:List Nat):List Nat→Nat→Y→(Y→Option Z)→Option Z
 |[],_,y,K=>K y
 |i::l,j,y,K=>match y.s i with
  |.blk T cs=>ckQ T (shQ ids cs) es (nth es j) (zhk es ids l (j+1) (y.set i (.blk T (y.newQ (nth es j) cs 0))) K)
  |_=>zhk es ids l (j+1) y K
def backQ(es:List Ent)(ids:List Nat)(y:Y)(K:Y→Option Z):Option Z:=zhj es ids 0 y fun y=>zhk es ids ids 0 y K
def nodB:List Nat→Bool|[]=>true|i::l=>!l.contains i && nodB l
def zfu(c:Orc)(k b:Bool)(f:O)(args:List O)(av:List Nat)(y:Y)(K:V→Y→Option Z)(Kp:V→Y→Option Z):Option Z:=match y.er f with
 |.f g x z=>
  let rs:=x.map RS.r++args.map y.er++z.map RS.r;let ids:=idsOf rs []
  match y.deep ids with
  | false=>(match y.args k ids rs,y.entL ids with
   |some vs,some es0=>
    if apt y av ids=true∧(b=true→ids=[])then
     match ids with
     |[]=>cal0 c g vs (fun v=>K v y) (fun v=>Kp v y)
     |i::l=>cal c g vs es0 (fun v es=>zhi es (i::l) 0 y (K v)) (fun v es=>zhi es (i::l) 0 y (Kp v))
    else none
   |_,_=>none)
  |true=>let ids:=y.reach 64 0 ids
   y.lsK ids fun L=>match y.args k ids rs,y.ensQ ids L ids 0 with
   |some vs,some es0=>if(apt y av ids=true∧b=false)∧nodB ids=true then cal c g vs es0 (fun v es=>backQ es ids y (K v)) (fun v es=>backQ es ids y (Kp v))else none
   |_,_=>none
 |_=>none
def Y.rs(y:Y):List O→Option (List RS)
 |[]=>some []
 |o::l=>match y.er o with
  |.d v=>(match y.rs l with|some r=>some (.d v::r)|none=>none)
  |.p i f=>(match y.rs l with|some r=>some (.p i f::r)|none=>none)
  |_=>none
def cndT(o:O)(y:Y)(A B:Y→Option Z):Option Z:=match o with
 |.t n=>(match y.e n with|.d v=>cnd v (A ⟨updR y.e n (.d (.bool true)),y.s,y.c⟩) (B ⟨updR y.e n (.d (.bool false)),y.s,y.c⟩)|_=>none)
 |.c v=>cnd v (A y) (B y)
def bldY(y:Y):List V→List (Nat×Nat×O)→(List V→Option Z)→Option Z
 |cs,[],K=>K cs
 |cs,(off,n,o)::r,K=>match y.dat (y.er o)with
  | some v=>(match n with
   |1=>ck1 v (if off+1≤cs.length then bldY y (cs.take off++[v]++cs.drop (off+1)) r K else none)
   |n=>ckA n v (if off+n≤cs.length then bldY y (cs.take off++ziH n v++cs.drop (off+n)) r K else none))
  |none=>none
def ziI(n:Nat)(v:V):List RK:=(List.range n).map fun j=>.d (cell v j)
def bldK(y:Y):List RK→List (Nat×Nat×O)→(List RK→Option Z)→Option Z
 |cs,[],K=>K cs
 |cs,(off,n,o)::r,K=>match y.er o with
  |.q i k=>(match y.dat (.q i k)with|some _=>if n=1∧off+1≤cs.length then bldK y (cs.take off++[.q i k]++cs.drop (off+1)) r K else none|none=>none)
  | .d v=>(match n with
   |1=>ck1 v (if off+1≤cs.length then bldK y (cs.take off++[.d v]++cs.drop (off+1)) r K else none)
   |n=>ckA n v (if off+n≤cs.length then bldK y (cs.take off++ziI n v++cs.drop (off+n)) r K else none))
  |_=>none
def sliY(y:Y)(z:Nat):List O→List V→(List V→Option Z)→Option Z
 |[],a,K=>K a
 |o::r,a,K=>match y.dat (y.er o)with|some v=>ckN z (norm1 v) (sliY y z r (a++[norm1 v]) K)|none=>none
def dO(y:Y):Option O→Option (Option V)
 |none=>some none
 |some o=>match y.er o with|.d v=>some (some v)|_=>none
def evM(P:Program)(c:Orc)(slot:Nat)(m:M)(av:List Nat)(y:Y)(K:R→Y→Option Z)(Kp:V→Y→Option Z):Option Z:=match m with
 |.move x=>K (y.er x) y
 |.pick o a b=>cndT o y (fun y=>K (y.er a) y) (fun y=>K (y.er b) y)
 |.alloc T cs=>(match y.s slot with|.gone=>if wfs cs=true then K (.p slot 0) (y.set slot (.blk T (cs.map .d)))else none|_=>none)
 | .box T x=>(match y.s slot with
  | .gone=>(match y.er x with
   | .d v=>(match za7 P T with
    |some (true,n)=>ckA n v (K (.p slot 0) (y.set slot (.blk T (zfx n v))))
    |some (false,_)=>ck1 v (K (.p slot 0) (y.set slot (.blk T [.d v])))
    |none=>none)
   |.un=>none
   |.u=>none
   |.sa l=>K (.p slot 0) (y.set slot (.blk T (l.map RK.r)))
   |.q id k=>(match y.dat (.q id k)with|some _=>K (.p slot 0) (y.set slot (.blk T [.q id k]))|none=>none)
   |r=>K (.p slot 0) (y.set slot (.blk T [r])))
  |_=>none)
 |.build cs ps=>if slot<1000 then(if wfs cs=true then bldY y cs ps fun r=>K (.d (.agg r)) y else none)else if wfs cs=true∧cs.all V.one=true then bldK y (cs.map .d) ps fun r=>K (.sa r) y else none
 | .bslice el z xs=>(match y.s slot with
  |.gone=>if xs.length*z≤16777216 then sliY y z xs [] fun r=>K (.q slot y.c) (y.new slot el z (.list r))else none
  |_=>none)
 | .load ag n a=>(match y.er a with
  | .p id off=>(match y.s id with
   | .blk _ cs=>(match ag with
    |true=>if((cs.drop off).take n).length=n then(match y.dats ((cs.drop off).take n)with|some vs=>K (.d (.agg vs)) y|none=>none)else none
    |false=>(match cs[off]? with|some r=>K r y|none=>none))
   |_=>none)
  |.i x off=>(ldV ag n x off).bind fun v=>K (.d v) y
  | .e id k w o=>if 1000≤slot then (match y.s id with
   |.mq _ z k' v=>if k=k'∧o<z then(elV z v w).bind fun u=>(ldV ag n u o).bind fun r=>K (.d r) y else none
   |_=>none)else none
  |_=>none)
 | .store n a x=>(match y.er a with
  | .p id off=>if apt y av [id]=true then (match y.s id with
   | .blk T cs=>if off+stN n≤cs.length then (match y.er x with
    | .d v=>(match n with
     |1=>ck1 v (K .un (y.set id (.blk T (cs.take off++[.d v]++cs.drop (off+1)))))
     |n=>ckA (stN n) v (K .un (y.set id (.blk T (cs.take off++zfx (stN n) v++cs.drop (off+stN n))))))
    |.un=>none
    |.u=>none
    |.sa l=>if l.length=stN n then K .un (y.set id (.blk T (cs.take off++l.map RK.r++cs.drop (off+stN n))))else none
    |.q i k=>(match y.dat (.q i k)with|some _=>if n=1 then K .un (y.set id (.blk T (cs.take off++[.q i k]++cs.drop (off+1))))else none|none=>none)
    |r=>if n=1 then K .un (y.set id (.blk T (cs.take off++[r]++cs.drop (off+1))))else none)else none
   |_=>none)else none
  | .e id k w o=>if apt y av [id]=true∧o=0 then (match y.s id with
   | .mq T z k' v=>if (k=k'∧stN n=z)∧0 < z then (match y.dat (y.er x) with
    |some u=>(elV z v w).bind fun _=>ckN z (norm1 u) (K .un (y.set id (.mq T z k (setV v w (norm1 u)))))
    |none=>none)else none
   |_=>none)else none
  |_=>none)
 | .chk x=>(match y.er x with
  |.p i o=>K (.p i o) y
  |.i v o=>K (.i v o) y
  |.e i k w o=>K (.e i k w o) y
  |.f g a b=>K (.f g a b) y
  |_=>none)
 |.arith op b i s x w=>(match y.er x,y.er w with|.d u,.d v=>(binV op b i s u v).bind fun r=>K (.d r) y|_,_=>none)
 |.un op x=>(match y.er x with|.d v=>(zhw op v).bind fun r=>K (.d r) y|_=>none)
 |.conv k x=>(match y.er x with|.d v=>(convV k v).bind fun r=>K (.d r) y|_=>none)
 |.iface T x=>(match y.dat (y.er x)with|some v=>K (.d (.iface T (norm1 v))) y|none=>none)
 |.fn f a b=>(match y.rs a,y.rs b with|some a,some b=>K (.f f a b) y|_,_=>none)
 |.sls x lo hi=>(match y.er x,dO y lo,dO y hi with|.d v,some l,some h=>(slS v l h).bind fun r=>K (.d r) y|_,_,_=>none)
 |.sll z x lo hi=>(match y.dat (y.er x),dO y lo,dO y hi with|some v,some l,some h=>(slL z v l h).bind fun r=>K (.d r) y|_,_,_=>none)
 |.faddr o x=>(match y.er x with|.p id off=>K (.p id (off+o)) y|.i v off=>K (.i v (off+o)) y|.e id k w off=>K (.e id k w (off+o)) y|_=>none)
 |.field o n ag x=>(match y.er x with|.d v=>(fldV o n ag v).bind fun r=>K (.d r) y|_=>none)
 | .iaddr z x i=>(match y.mut (y.er x) with
  |some (id,k,z',v)=>(match y.er i with|.d w=>if z'=z then(elV z v w).bind fun _=>K (.e id k w 0) y else none|_=>none)
  |none=>(match y.dat (y.er x),y.er i with|some v,.d w=>(elV z v w).bind fun r=>K (.i r 0) y|_,_=>none))
 |.idx x i=>(match y.er x,y.er i with|.d v,.d w=>(idxV v w).bind fun r=>K (.d r) y|_,_=>none)
 |.tas z T x=>(match y.er x with|.d v=>(tasW z T v).bind fun r=>K (.d r) y|_=>none)
 |.ext x i=>(match y.er x with|.d v=>(extV v i).bind fun r=>K (.d r) y|_=>none)
 |.lens x=>(match y.er x with|.d v=>(lenS v).bind fun r=>K (.d r) y|_=>none)
 |.lenl x=>(match y.val (y.er x)with|some v=>(lenL v).bind fun r=>K (.d r) y|none=>none)
 | .app el z b s x=>(match y.dat (y.er x),y.er s with
  | some ys,.q id k=>(match y.s id with
   |.rq T z' k' v=>if T=el∧z'=z∧k=k' then(if slot=id then(appV z b v ys).bind fun r=>K (.q id y.c) (y.new id T z r)else(appL z b v ys).bind fun r=>K (.q id y.c) (y.new id T z r))else none
   |_=>none)
  | some ys,.d v=>(match y.s slot with
   |.gone=>(appN z b v ys).bind fun r=>K (.q slot y.c) (y.new slot el z r)
   |_=>none)
  | some ys,.m id k=>(match y.s id with
   |.mq T z' k' v=>if(T=el∧z'=z)∧k=k' then(appL z b v ys).bind fun r=>K (.m id y.c) (y.newM id T z r)else none
   |_=>none)
  |_,_=>none)
 |.mm b x w=>(match y.er x,y.er w with|.d u,.d v=>(zgH b u v).bind fun r=>K (.d r) y|_,_=>none)
 |.call b f args=>zfu c (decide (1000≤slot)) b f args av y (fun v y=>K (.d v) y) Kp
 |.pan x=>(match y.dat (y.er x)with|some v=>(ifcV v).bind fun r=>Kp r y|none=>none)
def evS(P:Program)(c:Orc)(mo:MO)(y:Y)(K:Y→Option Z)(Kp:V→Y→Option Z):Option Z:=match mo.guard with
 |none=>evM P c mo.slot mo.m mo.av y (fun r y=>K (y.put mo.dst r)) Kp
 |some (t,w)=>match y.e t with
  |.un=>K (y.put mo.dst .un)
  | .d g=>(match w with
   |true=>cnd g (evM P c mo.slot mo.m mo.av ⟨updR y.e t (.d (.bool true)),y.s,y.c⟩ (fun r y=>K (y.put mo.dst r)) Kp) (K (Y.put ⟨updR y.e t (.d (.bool false)),y.s,y.c⟩ mo.dst .un))
   |false=>cnd g (K (Y.put ⟨updR y.e t (.d (.bool true)),y.s,y.c⟩ mo.dst .un)) (evM P c mo.slot mo.m mo.av ⟨updR y.e t (.d (.bool false)),y.s,y.c⟩ (fun r y=>K (y.put mo.dst r)) Kp))
  |_=>none
def agr(eq:Z→Z→Bool)(A B:Option Z):Option Z:=match A,B with|some a,some b=>if eq a b=true then some a else none|_,_=>none
def evR(P:Program)(c:Orc)(eq:Z→Z→Bool):RT→Y→(Y→Option Z)→(V→Y→Option Z)→Option Z
 |.done,y,K,_=>K y
 |.step mo t,y,K,Kp=>evS P c mo y (fun y=>evR P c eq t y K Kp) Kp
 |.alt a b,y,K,Kp=>agr eq (evR P c eq a y K Kp) (evR P c eq b y K Kp)
 |.bad,_,_,_=>none
end
section
open Go Go.RowKit
inductive Cls where
 |d
 |q (id:Nat)
 |m (id:Nat)
 |c (r:R)
 |f (a b:List RS)
inductive ECl where
 |blk (id T:Nat) (cs:List Cls)
 |bv (id T n:Nat)
 |rq (id T z:Nat)
 |mq (id T z:Nat)
structure LA where
 fz:Bool
 ts:List (Nat×Cls)
 es:List ECl
def RS.same:RS→RS→Bool
 |.p a1 o1,.p a2 o2=>a1==a2 && o1==o2
 |_,_=>false
def RS.sames:List RS→List RS→Bool
 |[],[]=>true
 |a::l,b::m=>a.same b && RS.sames l m
 |_,_=>false
def R.same:R→R→Bool
 |.p a1 o1,.p a2 o2=>a1==a2 && o1==o2
 |.f g1 a1 b1,.f g2 a2 b2=>g1==g2 && RS.sames a1 a2 && RS.sames b1 b2
 |.un,.un=>true
 |_,_=>false
def Y.isQ(y:Y)(id:Nat):R→Bool
 |.q j k=>j==id && (match y.s id with|.rq _ _ k' _=>k==k'|_=>false)
 |.d .nils=>match y.s id with|.gone=>true|_=>false
 |_=>false
def Y.isM(y:Y)(id:Nat):R→Bool
 |.m j k=>j==id && (match y.s id with|.mq _ _ k' _=>k==k'|_=>false)
 |_=>false
def Y.pk(y:Y)(fz:Bool)(r:R):Cls→List V→Option (List V)
 |.d,l=>match r,fz with
  |.d v,_=>some (v::l)
  |.i x o,_=>some (.ip x o::l)
  |.q i k,true=>(match y.dat (.q i k)with|some v=>some (v::l)|none=>none)
  |.m i k,true=>(match y.dat (.m i k)with|some v=>some (v::l)|none=>none)
  |_,_=>none
 |.q id,l=>if fz=false∧y.isQ id r=true then some l else none
 |.m id,l=>if y.isM id r=true then some l else none
 |.c r',l=>if r.same r'=true then some l else none
 |.f a b,l=>match r with|.f g a' b'=>if RS.sames a' a=true∧RS.sames b' b=true then some (.fn g [] []::l)else none|_=>none
def Y.pkT(y:Y)(fz:Bool):List (Nat×Cls)→List V→Option (List V)
 |[],l=>some l
 |(t,k)::r,l=>match y.pkT fz r l with|some l=>y.pk fz (y.e t) k l|none=>none
def Y.pkC(y:Y)(fz:Bool):List R→List Cls→List V→Option (List V)
 |[],[],l=>some l
 |r::rs,k::ks,l=>(match y.pkC fz rs ks l with|some l=>y.pk fz r k l|none=>none)
 |_,_,_=>none
def Y.pkE(y:Y)(fz:Bool):List ECl→List V→Option (List V)
 |[],l=>some l
 | .blk id T ks :: r,l=>(match y.pkE fz r l with
  |some l=>(match y.s id with|.blk T' cs=>if T'=T then y.pkC fz cs ks l else none|_=>none)
  |none=>none)
 | .bv id T n :: r,l=>(match y.pkE fz r l with
  | some l=>(match y.s id with
   |.blk T' cs=>if T'=T∧cs.length=n then(match(match fz with|true=>y.dats cs|false=>plainC cs)with|some vs=>some (.agg vs::l)|none=>none)else none
   |_=>none)
  |none=>none)
 | .rq id T z :: r,l=>(match y.pkE fz r l with
  |some l=>(match y.s id with|.gone=>some (.nils::l)|.rq T' z' _ v=>if T'=T∧z'=z then some (v::l)else none|_=>none)
  |none=>none)
 | .mq id T z :: r,l=>(match y.pkE fz r l with
  |some l=>(match y.s id with|.mq T' z' _ v=>if T'=T∧z'=z then some (v::l)else none|_=>none)
  |none=>none)
def Y.pack(y:Y)(A:LA):Option (List V):=match y.pkE A.fz A.es []with|some l=>y.pkT A.fz A.ts l|none=>none
def gt(l:List V)(j:Nat):V:=l.getD j .any
def fnG(v:V):FuncId:=match v with|.fn g _ _=>g|_=>0
def Cls.un(k:Cls)(l:List V)(j:Nat):R×Nat:=match k with
 |.d=>(.d (gt l j),j+1)
 |.q id=>(.q id 0,j)
 |.m id=>(.m id 0,j)
 |.c r=>(r,j)
 |.f a b=>(.f (fnG (gt l j)) a b,j+1)
def unT(l:List V):List (Nat×Cls)→Nat→List (Nat×R)×Nat
 |[],j=>([],j)
 |(t,k)::r,j=>let a:=k.un l j;let b:=unT l r a.2;((t,a.1)::b.1,b.2)
def unC(l:List V):List Cls→Nat→List R×Nat
 |[],j=>([],j)
 |k::r,j=>let a:=k.un l j;let b:=unC l r a.2;(a.1::b.1,b.2)
def unE(l:List V):List ECl→Nat→List (Nat×EN)
 |[],_=>[]
 |.blk id T ks::r,j=>let a:=unC l ks j;(id,.blk T a.1)::unE l r a.2
 |.bv id T n::r,j=>(id,.blk T (zfx n (gt l j)))::unE l r (j+1)
 |.rq id T z::r,j=>(id,.rq T z 0 (gt l j))::unE l r (j+1)
 |.mq id T z::r,j=>(id,.mq T z 0 (gt l j))::unE l r (j+1)
def lkR(t:Nat):List (Nat×R)→R
 |[]=>.u
 |(i,v)::r=>if t=i then v else lkR t r
def lkN(t:Nat):List (Nat×EN)→EN
 |[]=>.gone
 |(i,v)::r=>if t=i then v else lkN t r
def unpk(A:LA)(l:List V):Y:=let a:=unT l A.ts 0;⟨fun t=>lkR t a.1,fun id=>lkN id (unE l A.es a.2),1⟩
inductive Stp(Z:Type) where
 |next (l:List V)
 |out (z:Z)
def om{Z:Type}(o:Option Z):Option (Stp Z):=match o with|some z=>some (.out z)|none=>none
abbrev Lup:=(Z:Type)→(List V→Option (Stp Z))→List V→Option Z
def C.nl:C→Nat
 |.seq a b=>a.nl+b.nl
 |.cond _ a b=>a.nl+b.nl
 |.block _ b=>b.nl
 |.loop b=>b.nl+1
 |.scope b=>b.nl
 |_=>0
mutual
def veq:V→V→Bool
 |.bool a,.bool b=>a==b
 |.int k a,.int k' b=>decide (k=k') && a==b
 |.str a,.str b=>a==b
 |.list a,.list b=>veqs a b
 |.agg a,.agg b=>veqs a b
 |.tup a,.tup b=>veqs a b
 |.nils,.nils=>true
 |.nilp,.nilp=>true
 |.niface,.niface=>true
 |.iface T a,.iface T' b=>T==T' && veq a b
 |.ip a o,.ip b q=>veq a b && o==q
 |.undef,.undef=>true
 |.mr i n,.mr j m=>i==j && n==m
 |.ptr i n,.ptr j m=>i==j && n==m
 |_,_=>false
termination_by structural x=>x
def veqs:List V→List V→Bool
 |[],[]=>true
 |a::l,b::m=>veq a b && veqs l m
 |_,_=>false
termination_by structural x=>x
end
def eqS{Z:Type}(eq:Z→Z→Bool):Stp Z→Stp Z→Bool
 |.out a,.out b=>eq a b
 |.next a,.next b=>veqs a b
 |_,_=>false
def RS.inn(l:List Nat):List RS→Bool
 |[]=>true
 |.d _::r=>RS.inn l r
 |.p a _::r=>l.contains a && RS.inn l r
def Cls.ok(l:List Nat):Cls→Bool
 |.d=>true
 |.q a=>l.contains a
 |.m a=>l.contains a
 |.c (.p a _)=>l.contains a
 |.c (.f _ a b)=>RS.inn l a && RS.inn l b
 |.c .un=>true
 |.f a b=>RS.inn l a && RS.inn l b
 |_=>false
def ECl.id:ECl→Nat|.blk a _ _=>a|.bv a _ _=>a|.rq a _ _=>a|.mq a _ _=>a
def ECl.ok(l:List Nat):ECl→Bool|.blk _ _ ks=>ks.all (Cls.ok l)|_=>true
def LA.ok(n:Nat)(A:LA):Bool:=(List.range n).all ((A.es.map ECl.id).contains ·) && (A.ts.all fun p=>p.2.ok (A.es.map ECl.id)) && A.es.all (ECl.ok (A.es.map ECl.id))
def zfV(P:Program):Nat→TypeId→List (Option TypeId)
 |0,_=>[]
 |d+1,t=>match P.underlying t with
  |some (.struct fs)=>fs.toList.flatMap fun f=>zfV P d f.type
  |some (.slice _)=>[some t]
  |some (.array n e)=>(List.replicate n (zfV P d e)).flatten
  |_=>[none]
def zhD(id j:Nat):Nat:=5000+100*id+j
def nilV{Z:Type}(w:V)(A:Option Z):Option Z:=match w with|.nils=>A|_=>none
def gho1{Z:Type}(P:Program)(y:Y)(j id:Nat)(K:Y→Option Z):Option Z:=match y.s id with
 | .blk T cs=>(match cs[j]? with
  | some (.d w)=>(match (zfV P 12 T).getD j none with
   | some t=>(match rowT P t,y.s (zhD id j) with
    |some (el,z,_),.gone=>if 0<z then nilV w (K ⟨y.e,updN (updN y.s (zhD id j) (.mq el z y.c (.list []))) id (.blk T (cs.take j++.m (zhD id j) y.c::cs.drop (j+1))),y.c+1⟩)else none
    |_,_=>none)
   |none=>none)
  |_=>K y)
 |_=>K y
def frz1{Z:Type}(n:Nat)(y:Y)(id:Nat)(K:Y→Option Z):Option Z:=match y.s id with
 |.mq T z k v=>if n≤id then K (y.set id (.fq T z k v))else none
 |_=>K y
def RT.slot:RT→Nat|.step mo _=>mo.slot|.alt a _=>a.slot|_=>0
def ghoY{Z:Type}(P:Program)(n t:Nat):List (Nat×Nat)→Y→(Y→Option Z)→Option Z
 |[],y,K=>K y
 |(a,id)::l,y,K=>if 2000000≤a then(if a=2000000+t then frz1 n y id (fun y=>ghoY P n t l y K)else ghoY P n t l y K)else if 1000000≤a then gho1 P y (a-1000000) id (fun y=>ghoY P n t l y K)else ghoY P n t l y K
def evC(P:Program)(c:Orc)(lp:Lup)(n:Nat)(σ:List (Nat×Nat))(A:List LA):C→Nat→(Z:Type)→(Z→Z→Bool)→Y→(PEx→Y→Option Z)→(V→Y→Option Z)→Option Z
 |.skip,_,_,_,y,K,_=>K .normal y
 |.reg t,_,_,eq,y,K,Kp=>ghoY P n t.slot σ y fun y=>evR P c eq t y (K .normal) Kp
 |.seq a b,o,Z,eq,y,K,Kp=>evC P c lp n σ A a o Z eq y (fun e y=>match e with|.normal=>evC P c lp n σ A b (o+a.nl) Z eq y K Kp|.exit i=>K (.exit i) y|.ret=>K .ret y) Kp
 |.cond t a b,o,Z,eq,y,K,Kp=>cndT t y (fun y=>evC P c lp n σ A a o Z eq y K Kp) (fun y=>evC P c lp n σ A b (o+a.nl) Z eq y K Kp)
 |.block id b,o,Z,eq,y,K,Kp=>evC P c lp n σ A b o Z eq y (fun e y=>match e with|.normal=>K .normal y|.exit i=>if i=id then K .normal y else K (.exit i) y|.ret=>K .ret y) Kp
 |.loop b,o,Z,eq,y,K,Kp=>match A[o]? with
  | some a=>if a.ok n=true then (match y.pack a with
   |some l=>lp Z (fun l=>evC P c lp n σ A b (o+1) (Stp Z) (eqS eq) (unpk a l) (fun e y=>match e with|.normal=>(match y.pack a with|some l=>some (.next l)|none=>none)|.exit i=>om (K (.exit i) y)|.ret=>om (K .ret y)) (fun v y=>om (Kp v y))) l
   |none=>none)else none
  |none=>none
 |.exit id,_,_,_,y,K,_=>K (.exit id) y
 |.scope b,o,Z,eq,y,K,Kp=>evC P c lp n σ A b o Z eq y K Kp
 |.ret,_,_,_,y,K,_=>K .ret y
def Y.rv(y:Y):RV→Option V
 |.tmp t=>match y.dat (y.e t)with|some v=>some (norm1 v)|none=>none
 |.cell t ag n=>match y.e t with
  | .p id off=>(match y.s id with
   | .blk _ cs=>(match ag with
    |true=>if((cs.drop off).take n).length=n then(match y.dats ((cs.drop off).take n)with|some vs=>some (norm1 (.agg vs))|none=>none)else none
    |false=>(match cs[off]? with|some r=>(match y.dat r with|some v=>some (norm1 v)|none=>none)|none=>none))
   |_=>none)
  |.i x off=>(match ldV ag n x off with|some v=>some (norm1 v)|none=>none)
  |_=>none
def Y.rvs(y:Y):List RV→Option (List V)
 |[]=>some []
 |r::l=>match y.rv r with|some v=>(match y.rvs l with|some vs=>some (v::vs)|none=>none)|none=>none
def Y.outs(y:Y)(l:List RV):Option V:=match l with
 |[r]=>y.rv r
 |l=>match y.rvs l with|some vs=>some (.tup vs)|none=>none
def finK(n:Nat)(l:List RV):PEx→Y→Option Out
 |.exit _,_=>none
 |_,y=>y.lsK (List.range n) fun L=>match y.outs l,y.ensQ (List.range n) L (List.range n) 0 with|some v,some es=>some (.ret v,es)|_,_=>none
def finP(n:Nat)(v:V)(y:Y):Option Out:=y.lsK (List.range n) fun L=>match y.ensQ (List.range n) L (List.range n) 0 with|some es=>some (.panic v,es)|none=>none
def celR:V→R|.mr j _=>.m j 0|.ptr j o=>.p j o|v=>.d v
def entR:Ent→EN|.blk T cs=>.blk T (cs.map celR)|.mrow T z xs=>.mq T z 0 (.list xs)|_=>.gone
def Ent.ty:Ent→Nat|.blk T _=>T|.row T _ _=>T|.mrow T _ _=>T|.frow T _ _=>T|.gone=>0
def strQ(args:List R)(es:List EN):Y:=⟨fun t=>args.getD t .u,fun id=>es.getD id .gone,1⟩
def entN:Ent→EN|.blk T cs=>.blk T (cs.map .d)|_=>.gone
def strY(args:List R)(ents:List Ent):Y:=⟨fun t=>args.getD t .u,fun id=>entN (ents.getD id .gone),0⟩
def argS:V→RS|.ptr i o=>.p i o|v=>.d v
def argR(v:V):R:=match v with|.ptr i o=>.p i o|.fn f a b=>.f f (a.map argS) (b.map argS)|v=>.d v
def eeq:Ent→Ent→Bool
 |.blk T a,.blk T' b=>T==T' && veqs a b
 |.mrow T z a,.mrow T' z' b=>(T==T' && z==z') && veqs a b
 |_,_=>false
def eeqs:List Ent→List Ent→Bool
 |[],[]=>true
 |a::l,b::m=>eeq a b && eeqs l m
 |_,_=>false
def oeq:Out→Out→Bool
 |(.ret a,l),(.ret b,m)=>veq a b && eeqs l m
 |(.panic a,l),(.panic b,m)=>veq a b && eeqs l m
 |_,_=>false
def evF(P:Program)(G:Nat→V)(c:Orc)(lp:Lup)(σ:List (Nat×Nat))(s:Nat)(A:List LA)(f:FuncId)(args:List R)(ents:List EN):Option Out:=match compF P G σ s f with
 |some F=>if(ents.length≤s∧(σ.all fun p=>decide (ents.length≤p.2))=true)∧args.length≤F.N then evC P c lp ents.length σ A F.code 0 Out oeq (strQ args ents) (finK ents.length F.res) (finP ents.length)else none
 |none=>none
end
section
open Go Go.RowKit
def rowV(i:Nat):V→V|.list xs=>.row i xs.length|_=>.nils
def llen:V→Option Nat|.list xs=>some xs.length|_=>none
def mrV(i:Nat)(v:V):V:=.mr i ((llen v).getD 0)
def RS.ok:RS→Prop|.d v=>wf v=true|.p _ _=>True
def RelK(s:Nat→EN)(c:Nat):RK→V→Prop
 |.d v,u=>u=v∧wf v=true∧v.one=true
 |.q i k,u=>k<c∧(∃w,u=rowV i w)∧∀T z v,s i=.rq T z k v→u=rowV i v
inductive RelKs(s:Nat→EN)(c:Nat):List RK→List V→Prop
 |nil:RelKs s c [] []
 |cons {r:RK} {l:List RK} {v:V} {vs:List V}:RelK s c r v→RelKs s c l vs→RelKs s c (r::l) (v::vs)
def RelR(s:Nat→EN)(c:Nat):R→V→Prop
 |.d v,u=>u=v∧wf v=true
 |.p i o,u=>u=.ptr i o
 |.q i k,u=>k<c∧(∃w,u=rowV i w)∧∀T z v,s i=.rq T z k v→u=rowV i v
 |.i x o,u=>u=.ip x o∧wf x=true
 |.f g a b,u=>u=.fn g (a.map RS.v) (b.map RS.v)∧(∀r∈a,r.ok)∧∀r∈b,r.ok
 |.m i k,u=>k<c∧(∃n,u=.mr i n)∧∀T z v,s i=.mq T z k v∨s i=.fq T z k v→u=mrV i v
 |.e i k w o,u=>k<c∧wf w=true∧(∃n f,u=.rp i n f)∧∀T z v,s i=.mq T z k v→∃n t m,llen v=some n∧w=.int t m∧0≤m∧m.toNat<n∧u=.rp i n (m.toNat*z+o)
 |.sa l,u=>∃us,u=.ta us∧RelKs s c l us
 |.un,u=>u=.undef
 |.u,_=>True
inductive RelRs(s:Nat→EN)(c:Nat):List R→List V→Prop
 |nil:RelRs s c [] []
 |cons {r:R} {l:List R} {v:V} {vs:List V}:RelR s c r v→RelRs s c l vs→RelRs s c (r::l) (v::vs)
def RelE(s:Nat→EN)(c:Nat):EN→Ent→Prop
 |.gone,e=>e=.gone
 |.blk T cs,e=>∃us,e=.blk T us∧RelRs s c cs us
 |.rq T z k v,e=>k<c∧((∃xs,v=.list xs∧wfs xs=true∧e=.row T z xs)∨(v=.nils∧e=.gone))
 |.mq T z k v,e=>k<c∧∃xs,v=.list xs∧wfs xs=true∧e=.mrow T z xs
 |.fq T z k v,e=>k<c∧∃xs,v=.list xs∧wfs xs=true∧e=.frow T z xs
abbrev RelS(st:Nat→Ent)(y:Y):Prop:=∀id,RelE y.s y.c (y.s id) (st id)
structure Rel(x:X)(y:Y):Prop where
 e:∀t,RelR y.s y.c (y.e t) (x.env t)
 s:RelS x.st y
structure Le(s:Nat→EN)(c:Nat)(s':Nat→EN)(c':Nat):Prop where
 le:c≤c'
 q:∀i T z k v,k<c→s' i=.rq T z k v→s i=.rq T z k v
 m:∀i T z k v,k<c→s' i=.mq T z k v→∃v0,s i=.mq T z k v0∧llen v0=llen v
 f:∀i T z k v,k<c→s' i=.fq T z k v→∃v0,(s i=.fq T z k v0∨s i=.mq T z k v0)∧llen v0=llen v
theorem Le.refl(s:Nat→EN)(c:Nat):Le s c s c:=⟨qa37 _,fun _ _ _ _ _ _ h=>h,fun _ _ _ _ v _ h=>⟨v,h,rfl⟩,fun _ _ _ _ v _ h=>⟨v,.inl h,rfl⟩⟩
theorem Le.trans{s s' s'':Nat→EN}{c c' c'':Nat}(a:Le s c s' c')(b:Le s' c' s'' c''):Le s c s'' c'':=by
 refine⟨qa36 a.le b.le,fun i T z k v hk h=>a.q i T z k v hk (b.q i T z k v (qa14 hk a.le) h),fun i T z k v hk h=>?_,fun i T z k v hk h=>?_⟩
 ·obtain⟨v1,h1,e1⟩:=b.m i T z k v (qa14 hk a.le) h;obtain⟨v2,h2,e2⟩:=a.m i T z k v1 hk h1;exact⟨v2,h2,e2.trans e1⟩
 ·obtain⟨v1,h1,e1⟩:=b.f i T z k v (qa14 hk a.le) h;rcases h1 with h1|h1
  ·obtain⟨v2,h2,e2⟩:=a.f i T z k v1 hk h1;exact⟨v2,h2,e2.trans e1⟩
  ·obtain⟨v2,h2,e2⟩:=a.m i T z k v1 hk h1;exact⟨v2,.inr h2,e2.trans e1⟩
theorem mrV_eq{i:Nat}{v w:V}(h:llen v=llen w):mrV i v=mrV i w:=by unfold mrV;rw[h]
theorem RelK.le{s s':Nat→EN}{c c':Nat}(l:Le s c s' c'){r:RK}{v:V}(h:RelK s c r v):RelK s' c' r v:=by
 cases r with
 |q i k=>exact⟨qa14 h.1 l.le,h.2.1,fun T z v hs=>h.2.2 T z v (l.q _ _ _ _ _ h.1 hs)⟩
 |_=>exact h
theorem RelKs.le{s s':Nat→EN}{c c':Nat}(l:Le s c s' c'){r:List RK}{v:List V}(h:RelKs s c r v):RelKs s' c' r v:=by
 induction h with
 |nil=>exact .nil
 |cons h1 _ ih=>exact .cons (h1.le l) ih
theorem RelR.le{s s':Nat→EN}{c c':Nat}(l:Le s c s' c'){r:R}{v:V}(h:RelR s c r v):RelR s' c' r v:=by
 cases r with
 |q i k=>exact⟨qa14 h.1 l.le,h.2.1,fun T z v hs=>h.2.2 T z v (l.q _ _ _ _ _ h.1 hs)⟩
 |m i k=>
  refine⟨qa14 h.1 l.le,h.2.1,fun T z v hs=>?_⟩;rcases hs with hs|hs
  ·obtain⟨v0,h0,e0⟩:=l.m _ _ _ _ _ h.1 hs;rw[h.2.2 T z v0 (.inl h0),mrV_eq e0]
  ·obtain⟨v0,h0,e0⟩:=l.f _ _ _ _ _ h.1 hs;rw[h.2.2 T z v0 h0.symm,mrV_eq e0]
 |e i k w o=>
  refine⟨qa14 h.1 l.le,h.2.1,h.2.2.1,fun T z v hs=>?_⟩;obtain⟨v0,h0,e0⟩:=l.m _ _ _ _ _ h.1 hs;rw[←e0];exact h.2.2.2 T z v0 h0
 |sa ks=>obtain⟨us,h1,h2⟩:=h;exact⟨us,h1,h2.le l⟩
 |_=>exact h
theorem RelRs.le{s s':Nat→EN}{c c':Nat}(l:Le s c s' c'){r:List R}{v:List V}(h:RelRs s c r v):RelRs s' c' r v:=by
 induction h with
 |nil=>exact .nil
 |cons h1 _ ih=>exact .cons (h1.le l) ih
theorem RelE.le{s s':Nat→EN}{c c':Nat}(l:Le s c s' c'){r:EN}{e:Ent}(h:RelE s c r e):RelE s' c' r e:=by
 cases r with
 |gone=>exact h
 |blk T cs=>obtain⟨us,h1,h2⟩:=h;exact⟨us,h1,h2.le l⟩
 |rq T z k v=>exact⟨qa14 h.1 l.le,h.2⟩
 |mq T z k v=>exact⟨qa14 h.1 l.le,h.2⟩
 |fq T z k v=>exact⟨qa14 h.1 l.le,h.2⟩
theorem RelRs.length{s:Nat→EN}{c:Nat}{r:List R}{v:List V}(h:RelRs s c r v):r.length=v.length:=by
 induction h with
 |nil=>rfl
 |cons _ _ ih=>simp[ih]
theorem RelRs.get{s:Nat→EN}{c:Nat}{r:List R}{v:List V}(h:RelRs s c r v):∀{i:Nat} {a:R},r[i]?=some a→∃u,v[i]?=some u∧RelR s c a u:=by
 induction h with
 |nil=>intro i a h;simp at h
 |cons h1 _ ih=>
  intro i a h;cases i with
  |zero=>simp at h;subst h;exact⟨_,rfl,h1⟩
  |succ i=>simpa using ih (by simpa using h)
theorem RelRs.take{s:Nat→EN}{c:Nat}{r:List R}{v:List V}(h:RelRs s c r v):∀n,RelRs s c (r.take n) (v.take n):=by
 induction h with
 |nil=>intro n;simpa using .nil
 |cons h1 _ ih=>
  intro n;cases n with
  |zero=>exact .nil
  |succ n=>exact .cons h1 (ih n)
theorem RelRs.drop{s:Nat→EN}{c:Nat}{r:List R}{v:List V}(h:RelRs s c r v):∀n,RelRs s c (r.drop n) (v.drop n):=by
 induction h with
 |nil=>intro n;simpa using .nil
 |cons h1 h2 ih=>
  intro n;cases n with
  |zero=>exact .cons h1 h2
  |succ n=>exact ih n
theorem RelRs.append{s:Nat→EN}{c:Nat}{r r':List R}{v v':List V}(h:RelRs s c r v)(h':RelRs s c r' v'):RelRs s c (r++r') (v++v'):=by
 induction h with
 |nil=>exact h'
 |cons h1 _ ih=>exact .cons h1 ih
theorem zay:∀{l:List V},wfs l=true↔∀v∈l,wf v=true
 |[]=>by simp[wfs]
 |x::r=>by simp[wfs,zay (l:=r)]
theorem zbG{a b:List V}:wfs (a++b)=true↔wfs a=true∧wfs b=true:=by
 simp only[zay,qa29];exact⟨fun h=>⟨fun v hv=>h v (.inl hv),fun v hv=>h v (.inr hv)⟩,fun h v hv=>hv.elim (h.1 v) (h.2 v)⟩
theorem wf_cells{v:V}(h:wf v=true):wfs v.cells=true:=by
 cases v<;>simp_all [V.cells,wf,wfs]
theorem zaU{v:V}(h:wf v=true):v.data=true:=by cases v<;>simp_all [wf,V.data]
theorem wf_res{v:V}(st:Nat→Ent)(h:wf v=true):res st v=v:=by cases v<;>simp_all [wf,res]
theorem wf_norm0{v:V}(h:wf v=true):wf (norm0 v)=true:=by cases v<;>simp_all [wf,norm0,wfs]
theorem zjo{l:List V}(h:wfs l=true):wfs (l.map norm0)=true:=by
 rw[zay]at *;intro v hv;obtain⟨u,hu,rfl⟩:=qa35.1 hv;exact wf_norm0 (h u hu)
theorem wf_norm1{v:V}(h:wf v=true):wf (norm1 v)=true:=by
 cases v<;>first|exact wf_norm0 h|(simp only[norm1,wf]at *;exact zjo h)
theorem zhZ{v:V}(h:wf v=true)(ρ:Nat→Nat):v.ren ρ=v:=by cases v<;>simp_all [wf,V.ren]
theorem wf_on{v:V}(h:wf v=true)(p:Nat→Bool):v.on p=true:=by cases v<;>simp_all [wf,V.on]
theorem zdG{s:Nat→EN}{c:Nat}:∀{l:List V},wfs l=true→RelRs s c (l.map .d) l
 |[],_=>.nil
 |v::l,h=>by
  simp only[wfs,qa21]at h;exact .cons ⟨rfl,h.1⟩ (zdG h.2)
theorem zb4{v:V}{n:Nat}(h:v.size=n):(List.range n).map (fun j=>cell v j)=v.cells:=by
 refine List.ext_getElem (by simp[←h,V.size]) fun i h1 h2=>?_;simp only[List.getElem_map,List.getElem_range,cell,qa3,qa5 h2,Option.getD_some]
theorem zcY{s:Nat→EN}{c n:Nat}{v:V}(h:v.size=n)(hw:wf v=true):RelRs s c (zfx n v) v.cells:=by
 have h1:zfx n v=v.cells.map .d:=by
  rw[←zb4 h,zfx,List.map_map];rfl
 rw[h1];exact zdG (wf_cells hw)
theorem Rel.put{x:X}{y:Y}(h:Rel x y){d:Option Nat}{v:V}{r:R}(hr:RelR y.s y.c r v):Rel (x.put d v []) (y.put d r):=by
 refine⟨fun t=>?_,h.s⟩;cases d with
 |none=>exact h.e t
 |some d=>
  show RelR y.s y.c (updR y.e d r t) (upd x.env d v t);unfold updR upd;split
  ·exact hr
  ·exact h.e t
theorem Rel.putS{x:X}{y:Y}(h:Rel x y){d:Option Nat}{v:V}{r:R}{id:Nat}{n:EN}{e:Ent}{c':Nat}(hl:Le y.s y.c (updN y.s id n) c')(hn:RelE (updN y.s id n) c' n e)(hr:RelR (updN y.s id n) c' r v):
  Rel (x.put d v [(id,e)]) (Y.put ⟨y.e,updN y.s id n,c'⟩ d r):=by
 refine⟨fun t=>?_,fun j=>?_⟩
 ·cases d with
  |none=>exact(h.e t).le hl
  |some d=>
   show RelR _ _ (updR y.e d r t) (upd x.env d v t);unfold updR upd;split
   ·exact hr
   ·exact(h.e t).le hl
 ·show RelE _ _ (updN y.s id n j) (updE x.st id e j);have:updN y.s id n j=if j=id then n else y.s j:=rfl;rw[this];have:updE x.st id e j=if j=id then e else x.st j:=rfl;rw[this];split
  ·exact hn
  ·exact(h.s j).le hl
theorem Rel.bool{x:X}{y:Y}(h:Rel x y){t:Nat}{b:Bool}(ht:y.e t=.d (.bool b)∨x.env t=.bool b):Rel x ⟨updR y.e t (.d (.bool b)),y.s,y.c⟩:=by
 refine⟨fun i=>?_,h.s⟩;show RelR y.s y.c (updR y.e t (.d (.bool b)) i) (x.env i);unfold updR;split
 ·rename_i hi;subst hi;rcases ht with ht|ht
  ·have:=h.e i;rw[ht]at this;exact this
  ·exact⟨ht,rfl⟩
 ·exact h.e i
theorem rel_con(s:Nat→EN)(c:Nat)(v:V):RelR s c (conR v) v:=by
 unfold conR;split
 ·exact⟨rfl,by simp,by simp⟩
 ·split
  ·exact⟨rfl,by assumption⟩
  ·trivial
 ·rfl
 ·split
  ·exact⟨rfl,by assumption⟩
  ·trivial
theorem Rel.er{x:X}{y:Y}(h:Rel x y)(o:O):RelR y.s y.c (y.er o) (o.ev x.env):=by
 cases o with
 |t n=>exact h.e n
 |c v=>exact rel_con _ _ v
theorem zeC{st:Nat→Ent}{y:Y}(hs:RelS st y):∀{l:List RK} {us vs:List V},RelKs y.s y.c l us→y.datK l=some vs→us.map (resK st)=vs∧wfs vs=true
 |[],_,_,.nil,h=>by cases h;exact⟨rfl,rfl⟩
 |.d v::l,_,vs,.cons h1 h2,h=>by
  simp only[Y.datK]at h;split at h<;>first|(cases h;done)|skip
  rename_i vs' hvs;cases h;obtain⟨a',b'⟩:=zeC hs h2 hvs;have key:∀u,wf u=true→resK st u=u:=fun u hu=>by cases u<;>simp_all [wf,resK]
  obtain⟨rfl,hw,_⟩:=h1;exact⟨by rw[qa32,a',key _ hw],by simp[wfs,hw,b']⟩
 |.q i k::l,_,vs,.cons h1 h2,h=>by
  simp only[Y.datK]at h;split at h<;>first|(cases h;done)|skip
  rename_i T z k' w hq;split at h<;>first|(cases h;done)|skip
  rename_i hk;subst hk;split at h<;>first|(cases h;done)|skip
  rename_i vs' hvs;cases h;obtain⟨a',b'⟩:=zeC hs h2 hvs;have h1:=h1.2.2 _ _ _ hq;have h3:=hs i;rw[hq]at h3;rcases h3.2 with⟨xs,rfl,hw,h3⟩|⟨rfl,h3⟩
  ·subst h1;refine⟨?_,by simp[wfs,wf,hw,b']⟩;rw[qa32,a'];simp only[rowV,resK,h3,qa37,qa39,List.take_length]
  ·subst h1;refine⟨?_,by simp[wfs,wf,b']⟩;rw[qa32,a'];rfl
theorem zaB{st:Nat→Ent}{y:Y}(hs:RelS st y){r:R}{u v:V}(hr:RelR y.s y.c r u)(hd:y.dat r=some v):res st u=v∧wf v=true:=by
 cases r with
 |d w=>cases hd;obtain⟨rfl,hw⟩:=hr;exact⟨wf_res st hw,hw⟩
 |i w o=>cases hd;obtain⟨rfl,hw⟩:=hr;exact⟨rfl,hw⟩
 |q i k=>
  simp only[Y.dat]at hd;split at hd
  ·rename_i T z k' w hq;split at hd
   ·rename_i hk;subst hk;cases hd;have h1:=hr.2.2 _ _ _ hq;have h2:=hs i;rw[hq]at h2;rcases h2.2 with⟨xs,rfl,hw,h3⟩|⟨rfl,h3⟩
    ·subst h1;simp only[rowV,res,h3,qa37,qa39,List.take_length];exact⟨trivial,hw⟩
    ·subst h1;exact⟨rfl,rfl⟩
   ·cases hd
  ·cases hd
 |m i k=>
  simp only[Y.dat]at hd;split at hd
  ·rename_i T z k' w hq;split at hd
   ·rename_i hk;subst hk;cases hd;have h1:=hr.2.2 _ _ _ (.inr hq);have h2:=hs i;rw[hq]at h2;obtain⟨_,xs,rfl,hw,h3⟩:=h2;subst h1;simp only[mrV,llen,Option.getD_some,res,h3,qa39];exact⟨trivial,hw⟩
   ·cases hd
  ·cases hd
 |sa l=>
  simp only[Y.dat]at hd;split at hd<;>first|(cases hd;done)|skip
  rename_i vs hvs;cases hd;obtain⟨us,rfl,hk⟩:=hr;obtain⟨h1,h2⟩:=zeC hs hk hvs;simp only[res,h1,wf,h2];exact⟨if_pos (qa22.2 fun v hv=>zaU (zay.1 h2 v hv)),trivial⟩
 |_=>cases hd
theorem Rel.dat{x:X}{y:Y}(h:Rel x y){o:O}{v:V}(hd:y.dat (y.er o)=some v):res x.st (o.ev x.env)=v∧wf v=true:=zaB h.s (h.er o) hd
theorem Rel.d{x:X}{y:Y}(h:Rel x y){o:O}{v:V}(hd:y.er o=.d v):o.ev x.env=v∧wf v=true:=by
 have:=h.er o;rw[hd]at this;exact this
theorem Rel.p{x:X}{y:Y}(h:Rel x y){o:O}{i f:Nat}(hd:y.er o=.p i f):o.ev x.env=.ptr i f:=by
 have:=h.er o;rw[hd]at this;exact this
theorem Rel.i{x:X}{y:Y}(h:Rel x y){o:O}{w:V}{f:Nat}(hd:y.er o=.i w f):o.ev x.env=.ip w f∧wf w=true:=by
 have:=h.er o;rw[hd]at this;exact this
theorem zbJ{st:Nat→Ent}{y:Y}(hs:RelS st y):∀{l:List R} {us vs:List V},RelRs y.s y.c l us→y.dats l=some vs→us.map (res st)=vs∧wfs vs=true
 |[],_,_,.nil,h=>by cases h;exact⟨rfl,rfl⟩
 |r::l,_,vs,.cons h1 h2,h=>by
  simp only[Y.dats]at h;split at h
  ·rename_i v hv;split at h
   ·rename_i vs' hvs;cases h;obtain⟨a,b⟩:=zaB hs h1 hv;obtain⟨a',b'⟩:=zbJ hs h2 hvs;exact⟨by rw[qa32,a,a'],by simp[wfs,b,b']⟩
   ·cases h
  ·cases h
end
section
open Go Go.RowKit
theorem zcO{Z:Type}{v:V}{A:Option Z}{r:Z}(h:ck1 v A=some r):v.one=true∧A=some r:=by
 unfold ck1 at h;split at h
 ·exact⟨by assumption,h⟩
 ·cases h
theorem zcN{Z:Type}{n:Nat}{v:V}{A:Option Z}{r:Z}(h:ckA n v A=some r):(v.isAgg=true∧v.size=n∧v.storable=true)∧A=some r:=by
 unfold ckA at h;split at h
 ·exact⟨by assumption,h⟩
 ·cases h
theorem zbY{v:V}(h:v.one=true):v.size=1:=by rw[V.size,zav h];rfl
theorem zd9{v:V}(h:v.one=true):v.storable=true:=by cases v<;>simp_all [V.one,V.storable]
theorem ziF{Z:Type}{n:Nat}{v:V}{A:Option Z}{r:Z}(h:ckN n v A=some r):v.size=n∧v.storable=true∧A=some r:=by
 unfold ckN at h;split at h
 ·obtain⟨h1,h2⟩:=zcO h;exact⟨zbY h1,zd9 h1,h2⟩
 ·obtain⟨⟨_,h1,h2⟩,h3⟩:=zcN h;exact⟨h1,h2,h3⟩
theorem bind_some{Z:Type}{o:Option V}{K:V→Option Z}{r:Z}(h:o.bind K=some r):∃v,o=some v∧K v=some r:=Option.bind_eq_some_iff.1 h
theorem zg7{s:Nat→EN}{c c' id:Nat}{e:EN}(hc:c≤c')(h:∀T z k v,k<c→e=.rq T z k v→s id=.rq T z k v)(h1:∀T z k v,k<c→e=.mq T z k v→∃v0,s id=.mq T z k v0∧llen v0=llen v)
  (h2:∀T z k v,k<c→e=.fq T z k v→∃v0,(s id=.fq T z k v0∨s id=.mq T z k v0)∧llen v0=llen v):Le s c (updN s id e) c':=by
 refine⟨hc,fun i T z k v hk hs=>?_,fun i T z k v hk hs=>?_,fun i T z k v hk hs=>?_⟩;all_goals
  unfold updN at hs;split at hs
 ·subst i;exact h _ _ _ _ hk hs
 ·exact hs
 ·subst i;exact h1 _ _ _ _ hk hs
 ·exact⟨v,hs,rfl⟩
 ·subst i;exact h2 _ _ _ _ hk hs
 ·exact⟨v,.inl hs,rfl⟩
theorem zea{y:Y}{id:Nat}{T z:Nat}{v:V}:Le y.s y.c (updN y.s id (.rq T z y.c v)) (y.c+1):=
 zg7 (Nat.le_succ _) (fun _ _ _ _ hk e=>by cases e;exact absurd hk (Nat.lt_irrefl _)) (fun _ _ _ _ _ e=>by cases e) fun _ _ _ _ _ e=>by cases e
theorem zg8{y:Y}{id:Nat}{T z:Nat}{v:V}:Le y.s y.c (updN y.s id (.mq T z y.c v)) (y.c+1):=
 zg7 (Nat.le_succ _) (fun _ _ _ _ _ e=>by cases e) (fun _ _ _ _ hk e=>by cases e;exact absurd hk (Nat.lt_irrefl _)) fun _ _ _ _ _ e=>by cases e
theorem zcz{y:Y}{id:Nat}{T:Nat}{cs:List R}:Le y.s y.c (updN y.s id (.blk T cs)) y.c:=
 zg7 (qa37 _) (fun _ _ _ _ _ e=>by cases e) (fun _ _ _ _ _ e=>by cases e) fun _ _ _ _ _ e=>by cases e
theorem le_setM{y:Y}{id:Nat}{T z k:Nat}{v v':V}(hs:y.s id=.mq T z k v)(hl:llen v=llen v'):Le y.s y.c (updN y.s id (.mq T z k v')) y.c:=
 zg7 (qa37 _) (fun _ _ _ _ _ e=>by cases e) (fun _ _ _ _ _ e=>by cases e;exact⟨v,hs,hl⟩) fun _ _ _ _ _ e=>by cases e
theorem le_frz{y:Y}{id:Nat}{T z k:Nat}{v:V}(hs:y.s id=.mq T z k v):Le y.s y.c (updN y.s id (.fq T z k v)) y.c:=
 zg7 (qa37 _) (fun _ _ _ _ _ e=>by cases e) (fun _ _ _ _ _ e=>by cases e) fun _ _ _ _ _ e=>by cases e;exact⟨v,.inr hs,rfl⟩
theorem rel_m{s:Nat→EN}{id T z c:Nat}{v:V}:RelR (updN s id (.mq T z c v)) (c+1) (.m id c) (mrV id v):=by
 refine⟨Nat.lt_succ_self _,⟨_,rfl⟩,fun T' z' w hs=>?_⟩;unfold updN at hs;rw[if_pos rfl]at hs;rcases hs with hs|hs<;>cases hs;rfl
theorem rel_q{s:Nat→EN}{id T z c:Nat}{v:V}:RelR (updN s id (.rq T z c v)) (c+1) (.q id c) (rowV id v):=by
 refine⟨Nat.lt_succ_self _,⟨v,rfl⟩,fun T' z' w hs=>?_⟩;unfold updN at hs;rw[if_pos rfl]at hs;cases hs;rfl
theorem zgj{y:Y}{st:Nat→Ent}(hs:RelS st y){id:Nat}(h:y.s id=.gone):(st id).isGone=true:=by
 have:=hs id;rw[h]at this;rw[show st id=.gone from this];rfl
theorem zf3{s:Nat→EN}{c:Nat}{r:R}{u:V}(h:RelR s c r u)(hn:(∀v,r≠.d v)∧r≠.un∧r≠.u∧∀l,r≠.sa l):u.one=true:=by
 cases r with
 |d v=>exact absurd rfl (hn.1 v)
 |p i o=>rw[show u=_ from h];rfl
 |q i k=>obtain⟨v,rfl⟩:=h.2.1;cases v<;>rfl
 |i x o=>rw[h.1];rfl
 |f g a b=>rw[h.1];rfl
 |m i k=>obtain⟨n,rfl⟩:=h.2.1;rfl
 |e i k w o=>obtain⟨n,f,rfl⟩:=h.2.2.1;rfl
 |sa l=>exact absurd rfl (hn.2.2.2 l)
 |un=>exact absurd rfl hn.2.1
 |u=>exact absurd rfl hn.2.2.1
section
variable{Z:Type}{P:Program}{G:Nat→V}{c:Orc}{x:X}{y:Y}{r:Z}{d:Option Nat}{slot:Nat}{g:Option (Nat×Bool)}{av:List Nat}{K:Y→Option Z}{Kp:V→Y→Option Z}{Q:X→Prop}{KP:V→(Nat→Ent)→Prop}
def OpOk(P:Program)(G:Nat→V)(Q:X→Prop)(KP:V→(Nat→Ent)→Prop)(d:Option Nat)(slot:Nat)(g:Option (Nat×Bool))(av:List Nat)(m:M)(x:X):Prop:=zaV P G ⟨d,m,slot,g,av⟩ Q KP x
theorem zcl{m:M}{v:V}{U:Upds}(hp:m.plain=true)(hw:wantX x.env g=some true)(hs:semM slot m x.env x.st=some (v,U))(h:Q (x.put d v U)):OpOk P G Q KP d slot g av m x:=by
 unfold OpOk;rw[zdx (fun b f xs e=>?_) (fun y e=>?_) (fun n y z e=>?_) hw,show semM (MO.slot ⟨d,m,slot,g,av⟩) (MO.m ⟨d,m,slot,g,av⟩) x.env x.st=some (v,U)from hs]
 ·exact h
 all_goals
  dsimp only at e;subst e;cases hp
theorem step_d{m:M}{v:V}{rr:R}(h:Rel x y)(hp:m.plain=true)(hw:wantX x.env g=some true)(hs:semM slot m x.env x.st=some (v,[]))(hr:RelR y.s y.c rr v)(hK:∀x' y',Rel x' y'→K y'=some r→Q x')(he:K (y.put d rr)=some r):OpOk P G Q KP d slot g av m x:=
 zcl hp hw hs (hK _ _ (h.put hr) he)
theorem binV_sem{op:BinOp}{b i s:Bool}{u w v:V}{X Y':O}(hx:X.ev x.env=u)(hy:Y'.ev x.env=w)(h:binV op b i s u w=some v):semM slot (.arith op b i s X Y') x.env x.st=some (v,[]):=by
 simp only[semM,hx,hy];unfold binV at h;split at h<;>first|(cases h;done)|skip
 all_goals dsimp only
 ·split at h
  ·rename_i hk;rw[if_pos hk,h];rfl
  ·cases h
 ·rw[h];rfl
 ·split at h
  ·rename_i hk;rw[if_pos hk];split at h<;>first|(cases h;done)|(cases h;rfl)
  ·cases h
 ·split at h
  ·rename_i hk;rw[if_pos hk];split at h<;>first|(cases h;done)|(cases h;rfl)
  ·cases h
 ·split at h
  ·rename_i hk;rw[if_pos hk];split at h<;>first|(cases h;done)|(cases h;rfl)
  ·cases h
 ·split at h
  ·rename_i hk;rw[if_pos hk];split at h<;>first|(cases h;done)|(cases h;rfl)
  ·cases h
 ·split at h
  ·rename_i hk;rw[if_pos hk];split at h<;>first|(cases h;done)|skip
   all_goals
    rename_i h1;cases h;simp only[h1]
  ·cases h
theorem wf_bin{op:BinOp}{b i s:Bool}{u w v:V}(h:binV op b i s u w=some v):wf v=true:=by
 unfold binV zbd strV at h
 repeat' split at h
 all_goals first
  |(cases h;done)
  |(cases h;rfl)
end
end
section
open Go Go.RowKit
section
variable{Z:Type}{P:Program}{G:Nat→V}{c:Orc}{x:X}{y:Y}{r:Z}{d:Option Nat}{slot:Nat}{g:Option (Nat×Bool)}{av:List Nat}{K:Y→Option Z}{Kp:V→Y→Option Z}{Q:X→Prop}{KP:V→(Nat→Ent)→Prop}
theorem wf_un{op:UnOp}{u v:V}(h:zhw op u=some v):wf v=true:=by
 unfold zhw at h;split at h<;>first|(cases h;done)|(cases h;rfl)
theorem wf_mm{b:Builtin}{u w v:V}(h:zgH b u w=some v):wf v=true:=by
 unfold zgH at h;split at h<;>first|(cases h;done)|(cases h;rfl)
theorem wfs_take{l:List V}(n:Nat)(h:wfs l=true):wfs (l.take n)=true:=zay.2 fun v hv=>zay.1 h v (List.mem_of_mem_take hv)
theorem wfs_drop{l:List V}(n:Nat)(h:wfs l=true):wfs (l.drop n)=true:=zay.2 fun v hv=>zay.1 h v (List.mem_of_mem_drop hv)
theorem zef{l:List V}{n:Nat}{v:V}(h:wfs l=true)(hn:l[n]?=some v):wf v=true:=zay.1 h v (qa8 hn)
theorem tasW_ok{z:Option V}{T:TypeId}{u v:V}(hu:wf u=true)(h:tasW z T u=some v):tasV z T u=some v∧wf v=true:=by
 unfold tasW at h;cases z with
 |some w=>
  dsimp only at h;split at h<;>first|(cases h;done)|skip
  rename_i hw;refine⟨h, ?_⟩;unfold tasV at h;split at h
  ·rename_i e;cases e;cases h;split<;>simp_all [wf,wfs]
  ·rename_i e;cases e;cases h
   simp_all [wf,wfs]
  ·rename_i e;cases e
  ·cases h
 |none=>
  refine⟨h, ?_⟩;dsimp only at h;unfold tasV at h;split at h
  ·rename_i e;cases e
  ·rename_i e;cases e
  ·split at h<;>first|(cases h;done)|skip
   cases h;simpa[wf]using hu
  ·cases h
theorem zks{ag:Bool}{n off:Nat}{w v:V}(hw:wf w=true)(h:ldV ag n w off=some v):wf v=true:=by
 unfold ldV at h;cases ag
 ·exact zef (wf_cells hw) h
 ·dsimp only at h;split at h
  ·cases h;exact hw
  ·split at h
   ·cases h;simp only[wf];exact wfs_take _ (wfs_drop _ (wf_cells hw))
   ·cases h
theorem zkt{ag:Bool}{n off:Nat}{w v:V}{a:O}(ha:a.ev x.env=.ip w off)(h:ldV ag n w off=some v):semM slot (.load ag n a) x.env x.st=some (v,[]):=by
 unfold ldV at h;cases ag
 ·simp only[semM,ha];dsimp only at h;rw[h];rfl
 ·simp only[semM,ha];dsimp only at h;split at h
  ·rename_i hc;cases h;rw[if_pos hc]
  ·rename_i hc;rw[if_neg hc];split at h
   ·rename_i hc2;cases h;rw[if_pos hc2]
   ·cases h
theorem dO_ok(h:Rel x y){o:Option O}{v:Option V}(hd:dO y o=some v):o.map (O.ev x.env)=v:=by
 cases o with
 |none=>cases hd;rfl
 |some o=>
  simp only[dO]at hd;split at hd
  ·rename_i hv;cases hd;simp[(h.d hv).1]
  ·cases hd
theorem rs_ok(h:Rel x y):∀{l:List O} {a:List RS},y.rs l=some a→l.map (O.ev x.env)=a.map RS.v∧(∀r∈a,r.ok)∧∀v∈a.map RS.v,v.simple=true
 |[],_,hd=>by cases hd;exact⟨rfl,by simp,by simp⟩
 |o::l,a,hd=>by
  simp only[Y.rs]at hd;split at hd
  ·rename_i v hv;split at hd
   ·rename_i r hr;cases hd;obtain⟨h1,h2,h3⟩:=rs_ok h hr;obtain⟨h4,h5⟩:=h.d hv;refine⟨by simp[h1,h4,RS.v], ?_, ?_⟩
    ·intro r hr;rcases qa33.1 hr with rfl|hr
     ·exact h5
     ·exact h2 r hr
    ·intro w hw;rw[qa32]at hw;rcases qa33.1 hw with hw|hw
     ·rw[show w=v from hw];cases v<;>simp_all [wf,V.simple]
     ·exact h3 w hw
   ·cases hd
  ·rename_i i f hv;split at hd
   ·rename_i r hr;cases hd;obtain⟨h1,h2,h3⟩:=rs_ok h hr;refine⟨by simp[h1,h.p hv,RS.v], ?_, ?_⟩
    ·intro r hr;rcases qa33.1 hr with rfl|hr
     ·trivial
     ·exact h2 r hr
    ·intro w hw;rw[qa32]at hw;rcases qa33.1 hw with rfl|hw
     ·rfl
     ·exact h3 w hw
   ·cases hd
  ·cases hd
theorem zkS(h:Rel x y):∀{ps:List (Nat×Nat×O)} {cs:List V} {K:List V→Option Z},wfs cs=true→bldY y cs ps K=some r→∃rs,fillM cs (ps.map fun p=>(p.1,p.2.1,res x.st (p.2.2.ev x.env)))=some rs∧wfs rs=true∧K rs=some r
 |[],cs,K,hw,hb=>⟨cs,rfl,hw,hb⟩
 |(off,n,o)::ps,cs,K,hw,hb=>by
  simp only[bldY]at hb;split at hb
  ·rename_i v hv;obtain⟨h1,h2⟩:=h.dat hv;split at hb
   ·obtain⟨h3,h4⟩:=zcO hb;split at h4
    ·rename_i hle;have hc:=zav h3;obtain⟨rs,h5,h6,h7⟩:=zkS h (by rw[zbG,zbG];exact⟨⟨wfs_take _ hw,by simp[wfs,h2]⟩,wfs_drop _ hw⟩) h4;refine⟨rs, ?_,h6,h7⟩;rw[qa32,fillM,h1,if_pos ⟨zbY h3,hle,zaU h2,.inr h3⟩,hc];exact h5
    ·cases h4
   ·obtain⟨⟨h3,h3',h3''⟩,h4⟩:=zcN hb;split at h4
    ·rename_i hle;have hc:=zb4 h3';obtain⟨rs,h5,h6,h7⟩:=zkS h (by rw[ziH,hc,zbG,zbG];exact⟨⟨wfs_take _ hw,wf_cells h2⟩,wfs_drop _ hw⟩) h4;refine⟨rs, ?_,h6,h7⟩;rw[qa32,fillM,h1,if_pos ⟨h3',hle,zaU h2,.inl h3⟩,←hc];exact h5
    ·cases h4
  ·cases hb
theorem RelKs.length{s:Nat→EN}{c:Nat}{r:List RK}{v:List V}(h:RelKs s c r v):r.length=v.length:=by
 induction h with
 |nil=>rfl
 |cons _ _ ih=>simp[ih]
theorem RelKs.take{s:Nat→EN}{c:Nat}{r:List RK}{v:List V}(h:RelKs s c r v):∀n,RelKs s c (r.take n) (v.take n):=by
 induction h with
 |nil=>intro n;simpa using .nil
 |cons h1 _ ih=>
  intro n;cases n with
  |zero=>exact .nil
  |succ n=>exact .cons h1 (ih n)
theorem RelKs.drop{s:Nat→EN}{c:Nat}{r:List RK}{v:List V}(h:RelKs s c r v):∀n,RelKs s c (r.drop n) (v.drop n):=by
 induction h with
 |nil=>intro n;simpa using .nil
 |cons h1 h2 ih=>
  intro n;cases n with
  |zero=>exact .cons h1 h2
  |succ n=>exact ih n
theorem RelKs.append{s:Nat→EN}{c:Nat}{r r':List RK}{v v':List V}(h:RelKs s c r v)(h':RelKs s c r' v'):RelKs s c (r++r') (v++v'):=by
 induction h with
 |nil=>exact h'
 |cons h1 _ ih=>exact .cons h1 ih
theorem zhG{s:Nat→EN}{c:Nat}:∀{l:List V},wfs l=true→l.all V.one=true→RelKs s c (l.map .d) l
 |[],_,_=>.nil
 |v::l,h,h2=>by
  simp only[wfs,qa21]at h;simp only[qa34,qa21]at h2;exact .cons ⟨rfl,h.1,h2.1⟩ (zhG h.2 h2.2)
theorem zeB{s:Nat→EN}{c:Nat}:∀{l:List RK} {us:List V},RelKs s c l us→us.all V.one=true
 |_,_,.nil=>rfl
 |.d v::_,_,.cons h1 h2=>by
  rw[qa34,zeB h2,h1.1,h1.2.2];rfl
 |.q i k::_,_,.cons h1 h2=>by
  obtain⟨w,hw⟩:=h1.2.1;rw[qa34,zeB h2,hw];cases w<;>rfl
theorem zf5{s:Nat→EN}{c:Nat}:∀{l:List RK} {us:List V},RelKs s c l us→RelRs s c (l.map RK.r) us
 |_,_,.nil=>.nil
 |.d v::_,_,.cons h1 h2=>.cons ⟨h1.1,h1.2.1⟩ (zf5 h2)
 |.q i k::_,_,.cons h1 h2=>.cons h1 (zf5 h2)
theorem zgo(h:Rel x y):∀{ps:List (Nat×Nat×O)} {cs:List RK} {us:List V} {K:List RK→Option Z},RelKs y.s y.c cs us→bldK y cs ps K=some r→∃rs ws,fillK us (ps.map fun p=>(p.1,p.2.1,p.2.2.ev x.env))=some ws∧RelKs y.s y.c rs ws∧K rs=some r
 |[],cs,us,K,hw,hb=>⟨cs,us,rfl,hw,hb⟩
 |(off,n,o)::ps,cs,us,K,hw,hb=>by
  simp only[bldK]at hb;have hlen:=hw.length;have hr:=h.er o;split at hb
  ·rename_i i k hv;split at hb<;>first|(cases hb;done)|skip
   split at hb<;>first|(cases hb;done)|skip
   rename_i hn;obtain⟨rfl,hle⟩:=hn;rw[hv]at hr;have hk:RelK y.s y.c (.q i k) (o.ev x.env):=hr;obtain⟨rs,ws,h5,h6,h7⟩:=zgo h (us:=us.take off++[o.ev x.env]++us.drop (off+1)) (((hw.take off).append (.cons hk .nil)).append (hw.drop _)) hb;refine⟨rs,ws, ?_,h6,h7⟩;obtain⟨w,hw2⟩:=hr.2.1;have h1:(o.ev x.env).one=true∧((o.ev x.env).data=true∨(o.ev x.env).isRow=true):=by
    rw[hw2];cases w<;>first|exact⟨rfl,.inl rfl⟩|exact⟨rfl,.inr rfl⟩
   rw[qa32,fillK,if_pos ⟨zbY h1.1,by dsimp only;omega,h1.2,.inr h1.1⟩,zav h1.1];exact h5
  ·rename_i v hv;rw[hv]at hr;obtain⟨he,h2⟩:=hr;split at hb
   ·obtain⟨h3,h4⟩:=zcO hb;split at h4
    ·rename_i hle;have hc:=zav h3;have hk:RelK y.s y.c (.d v) v:=⟨rfl,h2,h3⟩;obtain⟨rs,ws,h5,h6,h7⟩:=zgo h (us:=us.take off++[v]++us.drop (off+1)) (((hw.take off).append (.cons hk .nil)).append (hw.drop _)) h4;refine⟨rs,ws, ?_,h6,h7⟩;rw[qa32,fillK,he,if_pos ⟨zbY h3,by dsimp only;omega,.inl (zaU h2),.inr h3⟩,hc];exact h5
    ·cases h4
   ·obtain⟨⟨h3,h3',h3''⟩,h4⟩:=zcN hb;split at h4
    ·rename_i hle;have hc:=zb4 h3';have hone:v.cells.all V.one=true:=(zcS h3'').2;have hk:RelKs y.s y.c (ziI n v) v.cells:=by
      have h1:ziI n v=v.cells.map .d:=by rw[←hc,ziI,List.map_map];rfl
      rw[h1];exact zhG (wf_cells h2) hone
     obtain⟨rs,ws,h5,h6,h7⟩:=zgo h (us:=us.take off++v.cells++us.drop (off+n)) (((hw.take off).append hk).append (hw.drop _)) h4;refine⟨rs,ws, ?_,h6,h7⟩;rw[qa32,fillK,he,if_pos ⟨h3',by dsimp only;omega,.inl (zaU h2),.inl h3⟩];exact h5
    ·cases h4
  ·cases hb
theorem sli_ok(h:Rel x y){z:Nat}:∀{xs:List O} {a:List V} {K:List V→Option Z},sliY y z xs a K=some r →
  (∀p∈xs.map (fun(o:O)=>norm1 (res x.st (o.ev x.env))),p.data=true∧p.storable=true∧p.size=z∧wf p=true)∧K (a++xs.map fun(o:O)=>norm1 (res x.st (o.ev x.env)))=some r
 |[],a,K,hb=>⟨by simp,by simpa[sliY]using hb⟩
 |o::xs,a,K,hb=>by
  simp only[sliY]at hb;split at hb
  ·rename_i v hv;obtain⟨h1,h2⟩:=h.dat hv;obtain⟨h3,h4,h5⟩:=ziF hb;obtain⟨h6,h7⟩:=sli_ok h h5;rw[qa32,h1];refine⟨fun p hp=>?_,by simpa using h7⟩;rcases qa33.1 hp with rfl|hp
   ·exact⟨zaU (wf_norm1 h2),h4,h3,wf_norm1 h2⟩
   ·exact h6 p hp
  ·cases hb
theorem ziN(h:Rel x y){ids:List Nat}(ha:apt y av ids=true):avoidV (av.map x.env) ids=true:=by
 unfold apt at ha;rw[qa22]at ha;refine qa22.2 fun v hv=>?_;obtain⟨t,ht,rfl⟩:=qa35.1 hv;have h1:=ha t ht;have h2:=h.e t;generalize y.e t=rt at h1 h2;cases rt with
 |p i o=>rw[show x.env t=_ from h2];exact h1
 |u=>cases h1
 |d v=>obtain⟨h3,h4⟩:=h2;rw[h3];cases v<;>simp_all [wf]
 |q i k=>
  obtain⟨w,hw⟩:=h2.2.1;rw[hw];cases w<;>rfl
 |i w o=>rw[h2.1]
 |f g a b=>rw[h2.1]
 |m i k=>obtain⟨n,hw⟩:=h2.2.1;rw[hw]
 |e i k w o=>obtain⟨n,f,hw⟩:=h2.2.2.1;rw[hw]
 |sa l=>obtain⟨us,h3,_⟩:=h2;rw[h3]
 |un=>rw[show x.env t=_ from h2]
end
end
section
open Go Go.RowKit
section
variable{Z:Type}{P:Program}{G:Nat→V}{c:Orc}{x:X}{y:Y}{r:Z}{d:Option Nat}{slot:Nat}{g:Option (Nat×Bool)}{av:List Nat}{K:Y→Option Z}{Kp:V→Y→Option Z}{Q:X→Prop}{KP:V→(Nat→Ent)→Prop}
theorem zdp{v:V}{A B:Option Z}(h:cnd v A B=some r):∃b,v=.bool b∧(if b=true then A else B)=some r:=by
 unfold cnd at h;split at h
 ·exact⟨true,rfl,by simpa using h⟩
 ·exact⟨false,rfl,by simpa using h⟩
 ·cases h
theorem zkI(h:Rel x y){o:O}{A B:Y→Option Z}(hc:cndT o y A B=some r):∃b y',o.ev x.env=.bool b∧Rel x y'∧(if b=true then A y' else B y')=some r:=by
 unfold cndT at hc;split at hc
 ·rename_i n;split at hc
  ·rename_i v hv;obtain⟨b,rfl,h1⟩:=zdp hc;have h2:=h.e n;rw[hv]at h2;refine⟨b,⟨updR y.e n (.d (.bool b)),y.s,y.c⟩,h2.1,h.bool (.inl hv), ?_⟩;cases b<;>exact h1
  ·cases hc
 ·rename_i v;obtain⟨b,rfl,h1⟩:=zdp hc;exact⟨b,y,rfl,h,h1⟩
theorem zgD(h:Rel x y){n id off T:Nat}{a z:O}{cs rs:List R}{u:V}(hw:wantX x.env g=some true)(ha:a.ev x.env=.ptr id off)(hs:y.s id=.blk T cs)(hle:off+stN n≤cs.length)(hav:apt y av [id]=true)(hz:z.ev x.env=u)(hsz:u.size=stN n)(hst:u.storable=true)
  (hr:RelRs (updN y.s id (.blk T (cs.take off++rs++cs.drop (off+stN n)))) y.c rs u.cells) (hK:∀x' y',Rel x' y'→K y'=some r→Q x') (he:K (Y.put (y.set id (.blk T (cs.take off++rs++cs.drop (off+stN n)))) d .un)=some r):OpOk P G Q KP d slot g av (.store n a z) x:=by
 have h1:=h.s id;rw[hs]at h1;obtain⟨us,h2,h3⟩:=h1;have hl:Le y.s y.c (updN y.s id (.blk T (cs.take off++rs++cs.drop (off+stN n)))) y.c:=zcz;have hsem:semM slot (.store n a z) x.env x.st=some (.undef,[(id,.blk T (us.take off++u.cells++us.drop (off+stN n)))]):=by
  simp only[semM,ha,h2,hz];rw[if_pos ⟨hsz,by rw[←h3.length];exact hle,hst⟩]
 have hrel:=h.putS (d:=d) (v:=.undef) (r:=.un) (id:=id) (n:=.blk T (cs.take off++rs++cs.drop (off+stN n))) (e:=.blk T (us.take off++u.cells++us.drop (off+stN n))) (c':=y.c) hl ⟨_,rfl,(((h3.le hl).take off).append hr).append ((h3.le hl).drop _)⟩ rfl;show zaV P G ⟨d,.store n a z,slot,g,av⟩ Q KP x;unfold zaV;dsimp only;rw[hw];dsimp only;rw[hsem];exact⟨ziN h hav,hK _ _ hrel he⟩
theorem ziD{z:Nat}{xs:List V}{w u:V}(h:elV z (.list xs) w=some u):∃t m,w=.int t m∧0≤m∧xs[m.toNat]?=some u∧u.size=z:=by
 unfold elV at h;simp only[norm0]at h;split at h<;>first|(cases h;done)|skip
 rename_i xs' t m hxs;cases hxs;split at h<;>first|(cases h;done)|skip
 rename_i hx;split at h<;>first|(cases h;done)|skip
 rename_i hc;cases h;exact⟨t,m,rfl,hc.1,hx,hc.2⟩
theorem mut_ok(h:Rel x y){o:O}{id k z:Nat}{v:V}(hm:y.mut (y.er o)=some (id,k,z,v)):k<y.c∧∃T,y.s id=.mq T z k v∧o.ev x.env=mrV id v:=by
 have hr:=h.er o;unfold Y.mut at hm;split at hm<;>first|(cases hm;done)|skip
 rename_i i k' he;rw[he]at hr;split at hm<;>first|(cases hm;done)|skip
 rename_i T z' k2 v' hq;split at hm<;>first|(cases hm;done)|skip
 rename_i hk;subst hk;cases hm;exact⟨hr.1,T,hq,hr.2.2 _ _ _ (.inl hq)⟩
theorem val_ok(h:Rel x y){o:O}{v:V}(hm:y.val (y.er o)=some v):(∃i xs,o.ev x.env=.mr i xs.length∧v=.list xs)∨(y.dat (y.er o)=some v∧∀id n,o.ev x.env≠.mr id n):=by
 have hr:=h.er o;have key:∀i k,y.er o=.m i k→∀T z w,(y.s i=.mq T z k w∨y.s i=.fq T z k w)→w=v→∃i xs,o.ev x.env=.mr i xs.length∧v=.list xs:=by
  intro i k he T z w hs hwv;subst hwv;rw[he]at hr;have h1:=hr.2.2 _ _ _ hs;have h6:=h.s i;rcases hs with hs|hs;all_goals
   rw[hs]at h6;obtain⟨_,xs,rfl,hxs,h7⟩:=h6;exact⟨i,xs,h1,rfl⟩
 unfold Y.val at hm;split at hm
 ·rename_i i k he;left;split at hm<;>first|(cases hm;done)|skip
  all_goals
   rename_i T z k' w hq;split at hm<;>first|(cases hm;done)|skip
   rename_i hk;subst hk;cases hm
  ·exact key _ _ he _ _ _ (.inl hq) rfl
  ·exact key _ _ he _ _ _ (.inr hq) rfl
 ·rename_i hne;right;refine⟨hm,fun id n e=>?_⟩;generalize y.er o=rr at *;cases rr with
  |d w=>rw[hr.1]at e;subst e;cases hr.2
  |p i f=>rw[show o.ev x.env=_ from hr]at e;cases e
  |q i k=>obtain⟨w,hw⟩:=hr.2.1;rw[hw]at e;cases w<;>cases e
  |i w f=>rw[hr.1]at e;cases e
  |f g a b=>rw[hr.1]at e;cases e
  |m i k=>exact hne i k rfl
  |e i k w f=>cases hm
  |sa l=>obtain⟨us,h1,_⟩:=hr;rw[h1]at e;cases e
  |un=>cases hm
  |u=>cases hm
set_option maxHeartbeats 1000000 in
theorem evM_ok{m:M}(h:Rel x y)(hw:wantX x.env g=some true)(he:evM P c slot m av y (fun rr y=>K (y.put d rr)) Kp=some r)(hK:∀x' y',Rel x' y'→K y'=some r→Q x')
  (hP:∀v st y',RelS st y'→wf v=true→Kp v y'=some r→KP v st) (hn:∀b f xs,m≠.call b f xs):OpOk P G Q KP d slot g av m x:=by
 cases m with
 |call b f xs=>exact absurd rfl (hn b f xs)
 |move o=>exact step_d h rfl hw (v:=o.ev x.env) rfl (h.er o) hK he
 |pick o a b=>
  simp only[evM]at he;obtain⟨t,y',h1,h2,h3⟩:=zkI h he;refine step_d (y:=y') (rr:=y'.er (if t=true then a else b)) h2 rfl hw (v:=(if t=true then a else b).ev x.env) ?_ (h2.er _) hK ?_
  ·simp only[semM,h1];cases t<;>simp
  ·cases t<;>exact h3
 |alloc T cs=>
  simp only[evM]at he;split at he<;>first|(cases he;done)|skip
  rename_i hg;split at he<;>first|(cases he;done)|skip
  rename_i hwf;refine zcl rfl hw (v:=.ptr slot 0) (U:=[(slot,.blk T cs)]) ?_ (hK _ _ (h.putS (id:=slot) (r:=.p slot 0) (n:=.blk T (cs.map .d)) (c':=y.c) zcz ⟨_,rfl,zdG hwf⟩ rfl) he);simp only[semM,zgj h.s hg,qa39]
 |box T o=>
  simp only[evM]at he;split at he<;>first|(cases he;done)|skip
  rename_i hg;have key:∀(rs:List R)(u:V),o.ev x.env=u→(u.isTa=true∨u.isAgg=true∨u.one=true)→RelRs (updN y.s slot (.blk T rs)) y.c rs u.cells→K (Y.put (y.set slot (.blk T rs)) d (.p slot 0))=some r→OpOk P G Q KP d slot g av (.box T o) x:=by
   intro rs u hu ho hr he;refine zcl rfl hw (v:=.ptr slot 0) (U:=[(slot,.blk T u.cells)]) ?_ (hK _ _ (h.putS (id:=slot) (r:=.p slot 0) (n:=.blk T rs) (c':=y.c) zcz ⟨_,rfl,hr⟩ rfl) he);simp only[semM,zet,hu];rw[if_pos ⟨zgj h.s hg,ho⟩]
  have hr:=h.er o;split at he
  ·rename_i v hv;obtain⟨h1,h2⟩:=h.d hv;split at he
   ·obtain⟨h3,h4⟩:=zcN he;exact key _ _ h1 (.inr (.inl h3.1)) (zcY h3.2.1 h2) h4
   ·obtain⟨h3,h4⟩:=zcO he;exact key _ _ h1 (.inr (.inr h3)) (by rw[zav h3];exact .cons ⟨rfl,h2⟩ .nil) h4
   ·cases he
  ·cases he
  ·cases he
  ·rename_i l hv;rw[hv]at hr;obtain⟨us,h3,h4⟩:=hr;exact key _ _ h3 (.inl rfl) (zf5 (h4.le zcz)) he
  ·rename_i i k hv;rw[hv]at hr;split at he
   ·have h3:(o.ev x.env).one=true:=zf3 hr (by simp);exact key _ _ rfl (.inr (.inr h3)) (by rw[zav h3];exact .cons (hr.le zcz) .nil) he
   ·cases he
  ·rename_i rr h1 h2 h3 h4 h4';have h5:(o.ev x.env).one=true:=zf3 hr ⟨h1,h2,h3,h4⟩;exact key _ _ rfl (.inr (.inr h5)) (by rw[zav h5];exact .cons (hr.le zcz) .nil) he
 |build cs ps=>
  simp only[evM]at he;split at he
  ·rename_i hlt;split at he<;>first|(cases he;done)|skip
   rename_i hwf;obtain⟨rs,h1,h2,h3⟩:=zkS h hwf he;refine step_d (rr:=.d (.agg rs)) h rfl hw (v:=.agg rs) ?_ ⟨rfl,h2⟩ hK h3;simp only[semM,h1,if_pos hlt]
  ·rename_i hlt;split at he<;>first|(cases he;done)|skip
   rename_i hwf;obtain⟨rs,ws,h1,h2,h3⟩:=zgo h (zhG hwf.1 hwf.2) he;refine step_d (rr:=.sa rs) h rfl hw (v:=.ta ws) ?_ ⟨ws,rfl,h2⟩ hK h3;simp only[semM,h1,if_neg hlt]
 |bslice el z xs=>
  simp only[evM]at he;split at he<;>first|(cases he;done)|skip
  rename_i hg;split at he<;>first|(cases he;done)|skip
  rename_i hle;obtain⟨h1,h2⟩:=sli_ok h he;rw[qa26]at h2;have hlen:(xs.map fun(o:O)=>norm1 (res x.st (o.ev x.env))).length=xs.length:=by simp
  have hsem:semM slot (.bslice el z xs) x.env x.st=some (.row slot xs.length,[(slot,.row el z (xs.map fun(o:O)=>norm1 (res x.st (o.ev x.env))))]):=by
   simp only[semM];rw[if_pos ⟨zgj h.s hg,fun p hp=>⟨(h1 p hp).1,(h1 p hp).2.1,(h1 p hp).2.2.1⟩,hle⟩]
  generalize(xs.map fun(o:O)=>norm1 (res x.st (o.ev x.env)))=l at *;refine zcl rfl hw hsem (hK _ _ (h.putS (id:=slot) (r:=.q slot y.c) (n:=.rq el z y.c (.list l)) (c':=y.c+1) zea ⟨Nat.lt_succ_self _,.inl ⟨l,rfl,zay.2 fun v hv=>(h1 v hv).2.2.2,rfl⟩⟩ ?_) h2);rw[←hlen];exact rel_q
 |load ag n a=>
  simp only[evM]at he;split at he<;>first|(cases he;done)|skip
  ·rename_i id off ha;have ha:=h.p ha;split at he<;>first|(cases he;done)|skip
   rename_i T cs hs;have h1:=h.s id;rw[hs]at h1;obtain⟨us,h2,h3⟩:=h1;split at he
   ·split at he<;>first|(cases he;done)|skip
    rename_i hl;split at he<;>first|(cases he;done)|skip
    rename_i vs hvs;obtain⟨h4,h5⟩:=zbJ h.s ((h3.drop off).take n) hvs;refine step_d (rr:=.d (.agg vs)) h rfl hw (v:=.agg vs) ?_ ⟨rfl,h5⟩ hK he;simp only[semM,ha,h2,h4];rw[if_pos ⟨by rw[←((h3.drop off).take n).length];exact hl,qa22.2 fun v hv=>zaU (zay.1 h5 v hv)⟩]
   ·split at he<;>first|(cases he;done)|skip
    rename_i rr hrr;obtain⟨u,h4,h5⟩:=h3.get hrr;refine step_d (rr:=rr) h rfl hw (v:=u) ?_ h5 hK he;simp only[semM,ha,h2,h4,one1]
  ·rename_i w off ha;obtain⟨ha,hwf⟩:=h.i ha;obtain⟨v,h1,h2⟩:=bind_some he;exact step_d (rr:=.d v) h rfl hw (v:=v) (zkt ha h1) ⟨rfl,zks hwf h1⟩ hK h2
  ·rename_i id k w o ha;have hr:=h.er a;rw[ha]at hr;split at he<;>first|(cases he;done)|skip
   rename_i hslot;split at he<;>first|(cases he;done)|skip
   rename_i T z k' v hq;split at he<;>first|(cases he;done)|skip
   rename_i hc;obtain⟨rfl,hoz⟩:=hc;obtain⟨u,h1,h2⟩:=bind_some he;obtain⟨q,h3,h4⟩:=bind_some h2;obtain⟨n',t,m,e1,rfl,hm0,hmn,hu⟩:=hr.2.2.2 _ _ _ hq;have h6:=h.s id;rw[hq]at h6;obtain⟨_,xs,rfl,hxs,hst⟩:=h6;cases e1;obtain⟨t',m',e,e6,e5,e7⟩:=ziD h1;cases e;have hdm:(m.toNat*z+o) / z=m.toNat:=by
    rw[Nat.add_comm,Nat.add_mul_div_right _ _ (by omega),Nat.div_eq_of_lt hoz,Nat.zero_add]
   have hmm:(m.toNat*z+o) % z=o:=by
    rw[Nat.add_comm,Nat.add_mul_mod_self_right,Nat.mod_eq_of_lt hoz]
   have hL:loadM ag x.st id xs.length (m.toNat*z+o) n=some q:=by
    simp only[loadM,hst,qa39,hdm,hmm,e5];cases ag
    ·exact h3
    ·dsimp only[ldV]at h3 ⊢;split at h3
     ·rename_i hc2;cases h3;rw[hc2.1,if_pos (by omega),List.drop_zero,←hc2.2.2,List.take_of_length_le (by exact qa37 _)];cases u<;>simp_all [V.isAgg,V.cells]
     ·split at h3
      ·rename_i hc3;cases h3;rw[if_pos hc3]
      ·cases h3
   refine step_d (rr:=.d q) h rfl hw (v:=q) ?_ ⟨rfl,zks (zef hxs e5) h3⟩ hK h4;cases ag<;>simp only[semM,hu,if_pos hslot,hL,one1]
 |store n a o=>
  simp only[evM]at he;split at he<;>first|(cases he;done)|skip
  rotate_left
  ·rename_i id k w o' ha;have hr:=h.er a;rw[ha]at hr;split at he<;>first|(cases he;done)|skip
   rename_i hav;obtain⟨hav,rfl⟩:=hav;split at he<;>first|(cases he;done)|skip
   rename_i T z k' v hq;split at he<;>first|(cases he;done)|skip
   rename_i hc;obtain⟨⟨rfl,hz⟩,hz0⟩:=hc;split at he<;>first|(cases he;done)|skip
   rename_i u hu;obtain⟨q,h1,h2⟩:=bind_some he;obtain⟨h3,h4,h5⟩:=ziF h2;obtain⟨hu1,hu2⟩:=h.dat hu;obtain⟨n',t,m,e1,rfl,hm0,hmn,hp⟩:=hr.2.2.2 _ _ _ hq;have h6:=h.s id;rw[hq]at h6;obtain⟨hk,xs,rfl,hxs,hst⟩:=h6;cases e1;have hdm:(m.toNat*z+0) / z=m.toNat:=by
    rw[Nat.add_zero,Nat.mul_div_cancel _ hz0]
   have hU:storeM x.st id xs.length (m.toNat*z+0) (stN n) (norm1 u)=some [(id,.mrow T z (xs.set m.toNat (norm1 u)))]:=by
    simp only[storeM,hst,hdm];rw[if_pos ⟨⟨trivial,hz,by omega,hmn⟩,by rw[hz];exact h3,zaU (wf_norm1 hu2),h4⟩]
   have hsem:semM slot (.store n a o) x.env x.st=some (.undef,[(id,.mrow T z (xs.set m.toNat (norm1 u)))]):=by
    simp only[semM,hp,hu1,hU]
   have hlen:llen (.list xs)=llen (setV (.list xs) (.int t m) (norm1 u)):=by simp[setV,llen]
   have hrel:=h.putS (d:=d) (v:=.undef) (r:=.un) (id:=id) (n:=.mq T z k (setV (.list xs) (.int t m) (norm1 u))) (e:=.mrow T z (xs.set m.toNat (norm1 u))) (c':=y.c) (le_setM hq hlen)
    ⟨hk,_,rfl,zay.2 fun v hv=>by
     rcases List.mem_or_eq_of_mem_set hv with hv|rfl
     ·exact zay.1 hxs v hv
     ·exact wf_norm1 hu2,rfl⟩ rfl
   show zaV P G ⟨d,.store n a o,slot,g,av⟩ Q KP x;unfold zaV;dsimp only;rw[hw];dsimp only;rw[hsem];exact⟨ziN h hav,hK _ _ hrel h5⟩
  rename_i id off ha;have ha:=h.p ha;split at he<;>first|(cases he;done)|skip
  rename_i hav;split at he<;>first|(cases he;done)|skip
  rename_i T cs hs;split at he<;>first|(cases he;done)|skip
  rename_i hle;have hr:=h.er o;split at he
  ·rename_i v hv;obtain⟨h1,h2⟩:=h.d hv;split at he
   ·obtain⟨h3,h4⟩:=zcO he;exact zgD h hw ha hs hle hav h1 (zbY h3) (zd9 h3) (by rw[zav h3];exact .cons ⟨rfl,h2⟩ .nil) hK h4
   ·obtain⟨h3,h4⟩:=zcN he;exact zgD h hw ha hs hle hav h1 h3.2.1 h3.2.2 (zcY h3.2.1 h2) hK h4
  ·cases he
  ·cases he
  ·rename_i l hv;rw[hv]at hr;obtain⟨us,h3,h4⟩:=hr;split at he<;>first|(cases he;done)|skip
   rename_i hl;exact zgD h hw ha hs hle hav h3 (by rw[←hl,h4.length];rfl) (zeB h4) (zf5 (h4.le zcz)) hK he
  ·rename_i i k hv;rw[hv]at hr;have h3:(o.ev x.env).one=true:=zf3 hr (by simp);split at he<;>first|(cases he;done)|skip
   split at he<;>first|(cases he;done)|skip
   rename_i hn1;subst hn1;exact zgD h hw ha hs hle hav rfl (zbY h3) (zd9 h3) (by rw[zav h3];exact .cons (hr.le zcz) .nil) hK he
  ·rename_i h1 h2 h3 h4 h4';have h5:(o.ev x.env).one=true:=zf3 hr ⟨h1,h2,h3,h4⟩;split at he<;>first|(cases he;done)|skip
   rename_i hn1;subst hn1;exact zgD h hw ha hs hle hav rfl (zbY h5) (zd9 h5) (by rw[zav h5];exact .cons (hr.le zcz) .nil) hK he
 |chk o=>
  simp only[evM]at he;have hr:=h.er o;split at he<;>first|(cases he;done)|skip
  ·rename_i i f hv;rw[hv]at hr;exact step_d (rr:=.p i f) (v:=.ptr i f) h rfl hw (by simp only[semM,show o.ev x.env=_ from hr]) rfl hK he
  ·rename_i w f hv;rw[hv]at hr;exact step_d (rr:=.i w f) (v:=.ip w f) h rfl hw (by simp only[semM,show o.ev x.env=_ from hr.1]) ⟨rfl,hr.2⟩ hK he
  ·rename_i i k w f hv;rw[hv]at hr;obtain⟨n',f',hu⟩:=hr.2.2.1;refine step_d (rr:=.e i k w f) (v:=.rp i n' f') h rfl hw (by simp only[semM,hu]) ?_ hK he;rw[←hu];exact hr
  ·rename_i f a b hv;rw[hv]at hr;exact step_d (rr:=.f f a b) (v:=.fn f (a.map RS.v) (b.map RS.v)) h rfl hw (by simp only[semM,show o.ev x.env=_ from hr.1]) ⟨rfl,hr.2⟩ hK he
 |arith op b i s o w=>
  simp only[evM]at he;split at he<;>first|(cases he;done)|skip
  rename_i hu hv;obtain⟨v,h1,h2⟩:=bind_some he;exact step_d (rr:=.d v) h rfl hw (binV_sem (h.d hu).1 (h.d hv).1 h1) ⟨rfl,wf_bin h1⟩ hK h2
 |un op o=>
  simp only[evM]at he;split at he<;>first|(cases he;done)|skip
  rename_i hu;obtain⟨v,h1,h2⟩:=bind_some he;exact step_d (rr:=.d v) h rfl hw (by simp only[semM,(h.d hu).1,h1,one1]) ⟨rfl,wf_un h1⟩ hK h2
 |conv k o=>
  simp only[evM]at he;split at he<;>first|(cases he;done)|skip
  rename_i hu;obtain⟨v,h1,h2⟩:=bind_some he;unfold convV at h1;split at h1<;>first|(cases h1;done)|skip
  ·cases h1;exact step_d (rr:=.d _) h rfl hw (by simp only[semM,(h.d hu).1]) ⟨rfl,rfl⟩ hK h2
  ·cases h1;exact step_d (rr:=.d _) h rfl hw (by simp only[semM,(h.d hu).1]) ⟨rfl,rfl⟩ hK h2
 |iface T o=>
  simp only[evM]at he;split at he<;>first|(cases he;done)|skip
  rename_i v hv;obtain⟨h1,h2⟩:=h.dat hv;refine step_d (rr:=.d _) h rfl hw (v:=.iface T (norm1 v)) ?_ ⟨rfl, ?_⟩ hK he
  ·simp only[semM,h1];rw[if_pos (zaU (wf_norm1 h2))]
  ·simp only[wf];exact wf_norm1 h2
 |fn f a b=>
  simp only[evM]at he;split at he<;>first|(cases he;done)|skip
  rename_i a' b' ha hb;obtain⟨h1,h2,h3⟩:=rs_ok h ha;obtain⟨h4,h5,h6⟩:=rs_ok h hb;refine step_d (rr:=.f f a' b') h rfl hw (v:=.fn f (a'.map RS.v) (b'.map RS.v)) ?_ ⟨rfl,h2,h5⟩ hK he;simp only[semM,h1,h4];rw[if_pos ⟨h3,h6⟩]
 |sls o lo hi=>
  simp only[evM]at he;split at he<;>first|(cases he;done)|skip
  rename_i v l u hv hl hh;obtain⟨w,h1,h2⟩:=bind_some he;unfold slS at h1;split at h1<;>first|(cases h1;done)|skip
  refine step_d (rr:=.d w) h rfl hw (v:=w) ?_ ⟨rfl, ?_⟩ hK h2
  ·simp only[semM,(h.d hv).1,dO_ok h hl,dO_ok h hh,h1,one1]
  ·unfold zcm at h1;split at h1<;>first|(cases h1;done)|skip
   split at h1<;>first|(cases h1;done)|(cases h1;rfl)
 |sll z o lo hi=>
  simp only[evM]at he;split at he<;>first|(cases he;done)|skip
  rename_i v l u hv hl hh;obtain⟨h3,h4⟩:=h.dat hv;obtain⟨w,h1,h2⟩:=bind_some he;unfold slL at h1;split at h1<;>first|(cases h1;done)|skip
  rename_i xs hxs;have h5:=wf_norm0 h4;rw[hxs]at h5;refine step_d (rr:=.d w) h rfl hw (v:=w) ?_ ⟨rfl, ?_⟩ hK h2
  ·simp only[semM,h3,hxs,dO_ok h hl,dO_ok h hh,h1,one1]
  ·unfold zcn at h1;split at h1<;>first|(cases h1;done)|skip
   split at h1<;>first|(cases h1;done)|skip
   cases h1;simp only[wf]at h5 ⊢;exact wfs_drop _ (wfs_take _ h5)
 |faddr o p=>
  simp only[evM]at he;split at he<;>first|(cases he;done)|skip
  ·rename_i i f hv;exact step_d (rr:=.p i (f+o)) (v:=.ptr i (f+o)) h rfl hw (by simp only[semM,h.p hv]) rfl hK he
  ·rename_i w f hv;exact step_d (rr:=.i w (f+o)) (v:=.ip w (f+o)) h rfl hw (by simp only[semM,(h.i hv).1]) ⟨rfl,(h.i hv).2⟩ hK he
  ·rename_i i k w f hv;have hr:=h.er p;rw[hv]at hr;obtain⟨n',f',hu⟩:=hr.2.2.1;refine step_d (rr:=.e i k w (f+o)) (v:=.rp i n' (f'+o)) h rfl hw (by simp only[semM,hu]) ⟨hr.1,hr.2.1,⟨_,_,rfl⟩,fun T z v hs=>?_⟩ hK he;obtain⟨n2,t,m,e1,e2,e3,e4,e5⟩:=hr.2.2.2 T z v hs;rw[hu]at e5;cases e5;exact⟨_,t,m,e1,e2,e3,e4,by rw[Nat.add_assoc]⟩
 |field o n ag p=>
  simp only[evM]at he;split at he<;>first|(cases he;done)|skip
  rename_i hu;obtain⟨h3,h4⟩:=h.d hu;obtain⟨v,h1,h2⟩:=bind_some he;unfold fldV at h1;split at h1<;>first|(cases h1;done)|skip
  rename_i cs;simp only[wf]at h4;cases ag
  ·exact step_d (rr:=.d v) h rfl hw (by simp only[semM,h3,h1,one1]) ⟨rfl,zef h4 h1⟩ hK h2
  ·dsimp only at h1;split at h1<;>first|(cases h1;done)|skip
   rename_i hle;cases h1;refine step_d (rr:=.d _) h rfl hw (v:=.agg ((cs.drop o).take n)) ?_ ⟨rfl,by simp only[wf];exact wfs_take _ (wfs_drop _ h4)⟩ hK h2;simp only[semM,h3];rw[if_pos hle]
 |iaddr z o i=>
  simp only[evM]at he;split at he
  ·rename_i id k z' v hmut;split at he<;>first|(cases he;done)|skip
   rename_i w hi;split at he<;>first|(cases he;done)|skip
   rename_i hz;obtain⟨e,h1,h2⟩:=bind_some he;obtain⟨hk,T,hq,hr⟩:=mut_ok h hmut;have h6:=h.s id;rw[hq]at h6;obtain⟨_,xs,rfl,hxs,hst⟩:=h6;obtain⟨t,m,rfl,e0,e5,_⟩:=ziD h1;have hm:m.toNat<xs.length:=(qa4.1 e5).1;refine step_d (rr:=.e id k (.int t m) 0) h rfl hw (v:=.rp id xs.length (m.toNat*z)) ?_ ⟨hk,rfl,⟨_,_,rfl⟩,fun T' z2 v' hs=>?_⟩ hK h2
   ·have hr':o.ev x.env=.mr id xs.length:=hr;simp only[semM,hr',(h.d hi).1,iadM,hst];rw[if_pos ⟨hz,e0,hm⟩]
   ·rw[hq]at hs;cases hs;exact⟨_,t,m,rfl,rfl,e0,hm,by rw[hz];rfl⟩
  rename_i hmut;split at he<;>first|(cases he;done)|skip
  rename_i v w hv hi;obtain⟨h3,h4⟩:=h.dat hv;obtain⟨e,h1,h2⟩:=bind_some he;unfold elV at h1;split at h1<;>first|(cases h1;done)|skip
  rename_i xs k n hxs;split at h1<;>first|(cases h1;done)|skip
  rename_i e' hxe;split at h1<;>first|(cases h1;done)|skip
  rename_i hc;cases h1;have h5:=wf_norm0 h4;rw[hxs]at h5;simp only[wf]at h5;refine step_d (rr:=.i e 0) h rfl hw (v:=.ip e 0) ?_ ⟨rfl,zef h5 hxe⟩ hK h2;have hI:iadM z x.st (o.ev x.env) (.int k n) (.list xs)=some (.ip e 0,[]):=by
   have hD:iadD z (.list xs) (.int k n)=some (.ip e 0,[]):=by simp only[iadD,hxe];rw[if_pos hc]
   unfold iadM;split
   ·rename_i id m hm;rw[hm]at h3;simp only[res]at h3;split
    ·rename_i hst;rw[hst]at h3;subst h3;cases hxs
    ·exact hD
   ·exact hD
  simp only[semM,h3,hxs,(h.d hi).1,hI]
 |idx o i=>
  simp only[evM]at he;split at he<;>first|(cases he;done)|skip
  rename_i v w hv hi;obtain⟨e,h1,h2⟩:=bind_some he;unfold idxV at h1;split at h1<;>first|(cases h1;done)|skip
  split at h1<;>first|(cases h1;done)|skip
  rename_i hxe;split at h1<;>first|(cases h1;done)|skip
  rename_i hc;cases h1;refine step_d (rr:=.d _) h rfl hw ?_ ⟨rfl,rfl⟩ hK h2;simp only[semM,(h.d hv).1,(h.d hi).1,hxe];rw[if_pos hc]
 |tas z T o=>
  simp only[evM]at he;split at he<;>first|(cases he;done)|skip
  rename_i hu;obtain⟨h3,h4⟩:=h.d hu;obtain⟨v,h1,h2⟩:=bind_some he;obtain⟨h5,h6⟩:=tasW_ok h4 h1;exact step_d (rr:=.d v) h rfl hw (by simp only[semM,h3,h5,one1]) ⟨rfl,h6⟩ hK h2
 |ext o i=>
  simp only[evM]at he;split at he<;>first|(cases he;done)|skip
  rename_i hu;obtain⟨h3,h4⟩:=h.d hu;obtain⟨v,h1,h2⟩:=bind_some he;unfold extV at h1;split at h1<;>first|(cases h1;done)|skip
  simp only[wf]at h4;exact step_d (rr:=.d v) h rfl hw (by simp only[semM,h3,h1,one1]) ⟨rfl,zef h4 h1⟩ hK h2
 |lens o=>
  simp only[evM]at he;split at he<;>first|(cases he;done)|skip
  rename_i hu;obtain⟨v,h1,h2⟩:=bind_some he;unfold lenS at h1;split at h1<;>first|(cases h1;done)|skip
  cases h1;exact step_d (rr:=.d _) h rfl hw (by simp only[semM,(h.d hu).1]) ⟨rfl,rfl⟩ hK h2
 |lenl o=>
  simp only[evM]at he;split at he<;>first|(cases he;done)|skip
  rename_i hu;obtain⟨v,h1,h2⟩:=bind_some he;have hr:=h.er o;rcases val_ok h hu with⟨i,xs,h3,rfl⟩|⟨hd,hn⟩
  ·cases h1;exact step_d (rr:=.d _) h rfl hw (by simp only[semM,h3,lenM]) ⟨rfl,rfl⟩ hK h2
  ·obtain⟨h3,h4⟩:=h.dat hd;unfold lenL at h1;split at h1<;>first|(cases h1;done)|skip
   rename_i hxs;cases h1;exact step_d (rr:=.d _) h rfl hw (by simp only[semM,h3,hxs,zgi hn]) ⟨rfl,rfl⟩ hK h2
 |app el z b s o=>
  have hr:=h.er s;have key:∀{v ys w:V},appV z b v ys=some w→wf ys=true→wf v=true→∃l,w=.list l∧wfs l=true ∧
    ((∃xs zs,v=.list xs∧norm0 ys=.list zs∧l=xs++zs∧(∀y∈zs,y.size=z)∧(xs.length+zs.length)*(b+1)≤140737488355328)∨(v=.nils∧norm0 ys=.list l∧(∀y∈l,y.size=z)∧l.length*(b+1)≤140737488355328)):=by
   intro v ys w h1 h2 h3;have h4:=wf_norm0 h2;unfold appV at h1;split at h1<;>first|(cases h1;done)|skip
   ·rename_i zs xs h5;rw[h5]at h4;split at h1<;>first|(cases h1;done)|skip
    rename_i hc;cases h1;simp only[wf]at h3 h4;exact⟨_,rfl,zbG.2 ⟨h3,h4⟩,.inl ⟨xs,zs,rfl,h5,rfl,hc.1,hc.2⟩⟩
   ·rename_i zs h5;rw[h5]at h4;split at h1<;>first|(cases h1;done)|skip
    rename_i hc;cases h1;simp only[wf]at h4;exact⟨_,rfl,h4,.inr ⟨rfl,h5,hc.1,hc.2⟩⟩
  simp only[evM]at he;split at he<;>first|(cases he;done)|skip
  ·rename_i ys id k hy hsr;obtain⟨h1,h2⟩:=h.dat hy;rw[hsr]at hr;split at he<;>first|(cases he;done)|skip
   rename_i T z' k' v hq;split at he<;>first|(cases he;done)|skip
   rename_i hc;obtain⟨rfl,rfl,rfl⟩:=hc;have h5:=hr.2.2 _ _ _ hq;have h6:=h.s id;rw[hq]at h6;have hlist:∀{w:V} {xs:List V},v=.list xs→wfs xs=true→x.st id=.row T z' xs→appV z' b v ys=some w→K (Y.put (y.new id T z' w) d (.q id y.c))=some r→OpOk P G Q KP d slot g av (.app T z' b s o) x:=by
    intro w xs e hxs h7 h3 h4;subst e;obtain⟨l,rfl,hl,⟨xs',zs,e1,e2,rfl,e3,e4⟩|⟨e1,_⟩⟩:=key h3 h2 (by simpa[wf]using hxs)
    ·cases e1;refine zcl rfl hw (v:=.row id (xs.length+zs.length)) (U:=[(id,.row T z' (xs++zs))]) ?_ (hK _ _ (h.putS (id:=id) (r:=.q id y.c) (n:=.rq T z' y.c (.list (xs++zs))) (c':=y.c+1) zea ⟨Nat.lt_succ_self _,.inl ⟨_,rfl,hl,rfl⟩⟩ ?_) h4)
     ·simp only[semM,h1,e2,h5,rowV,h7];rw[if_pos ⟨trivial,trivial,trivial,e3,e4⟩]
     ·rw[←qa13];exact rel_q
    ·cases e1
   split at he
   ·rename_i hs;subst hs;obtain⟨w,h3,h4⟩:=bind_some he;rcases h6.2 with⟨xs,e,hxs,h7⟩|⟨rfl,h7⟩
    ·exact hlist e hxs h7 h3 h4
    ·obtain⟨l,rfl,hl,⟨xs',zs,e1,_⟩|⟨_,e2,e3,e4⟩⟩:=key h3 h2 rfl
     ·cases e1
     ·refine zcl rfl hw (v:=.row slot l.length) (U:=[(slot,.row T z' l)]) ?_ (hK _ _ (h.putS (id:=slot) (r:=.q slot y.c) (n:=.rq T z' y.c (.list l)) (c':=y.c+1) zea ⟨Nat.lt_succ_self _,.inl ⟨_,rfl,hl,rfl⟩⟩ rel_q) h4);simp only[semM,h1,e2,h5,rowV,h7];rw[if_pos ⟨rfl,e3,e4⟩]
   ·obtain⟨w,h3,h4⟩:=bind_some he;unfold appL at h3;split at h3<;>first|(cases h3;done)|skip
    rename_i xs0;rcases h6.2 with⟨xs,e,hxs,h7⟩|⟨e,h7⟩
    ·exact hlist e hxs h7 h3 h4
    ·cases e
  ·rename_i ys v hy hsr;obtain⟨h1,h2⟩:=h.dat hy;split at he<;>first|(cases he;done)|skip
   rename_i hg;obtain⟨w,h3,h4⟩:=bind_some he;unfold appN at h3;split at h3<;>first|(cases h3;done)|skip
   obtain⟨l,rfl,hl,⟨xs',zs,e1,_⟩|⟨_,e2,e3,e4⟩⟩:=key h3 h2 rfl
   ·cases e1
   ·refine zcl rfl hw (v:=.row slot l.length) (U:=[(slot,.row el z l)]) ?_ (hK _ _ (h.putS (id:=slot) (r:=.q slot y.c) (n:=.rq el z y.c (.list l)) (c':=y.c+1) zea ⟨Nat.lt_succ_self _,.inl ⟨_,rfl,hl,rfl⟩⟩ rel_q) h4);simp only[semM,h1,e2,(h.d hsr).1];rw[if_pos ⟨zgj h.s hg,e3,e4⟩]
  ·rename_i ys id k hy hsr;obtain⟨h1,h2⟩:=h.dat hy;rw[hsr]at hr;split at he<;>first|(cases he;done)|skip
   rename_i T z' k' v hq;split at he<;>first|(cases he;done)|skip
   rename_i hc;obtain⟨⟨rfl,rfl⟩,rfl⟩:=hc;have h5:=hr.2.2 _ _ _ (.inl hq);have h6:=h.s id;rw[hq]at h6;obtain⟨_,xs,rfl,hxs,h7⟩:=h6;obtain⟨w,h3,h4⟩:=bind_some he;simp only[appL]at h3;obtain⟨l,rfl,hl,⟨xs',zs,e1,e2,rfl,e3,e4⟩|⟨e1,_⟩⟩:=key h3 h2 (by simpa[wf]using hxs)
   ·cases e1;refine zcl rfl hw (v:=.mr id (xs.length+zs.length)) (U:=[(id,.mrow T z' (xs++zs))]) ?_ (hK _ _ (h.putS (id:=id) (r:=.m id y.c) (n:=.mq T z' y.c (.list (xs++zs))) (c':=y.c+1) zg8 ⟨Nat.lt_succ_self _,_,rfl,hl,rfl⟩ ?_) h4)
    ·have h5':s.ev x.env=.mr id xs.length:=h5;simp only[semM,h1,e2,h5',h7];rw[if_pos ⟨trivial,trivial,trivial,e3,e4⟩]
    ·have:=@rel_m y.s id T z' y.c (.list (xs++zs));simpa[mrV,llen]using this
   ·cases e1
 |mm b o w=>
  simp only[evM]at he;split at he<;>first|(cases he;done)|skip
  rename_i hu hv;obtain⟨v,h1,h2⟩:=bind_some he;exact step_d (rr:=.d v) h rfl hw (by simp only[semM,(h.d hu).1,(h.d hv).1,h1,one1]) ⟨rfl,wf_mm h1⟩ hK h2
 |pan o=>
  simp only[evM]at he;split at he<;>first|(cases he;done)|skip
  rename_i v hv;obtain⟨h1,h2⟩:=h.dat hv;obtain⟨w,h3,h4⟩:=bind_some he;unfold ifcV at h3;split at h3<;>first|(cases h3;done)|skip
  rename_i T u hu;cases h3;show zaV P G ⟨d,.pan o,slot,g,av⟩ Q KP x;unfold zaV;dsimp only;rw[hw];dsimp only;rw[h1,hu];have h5:=wf_norm1 h2;rw[hu]at h5;exact hP _ _ _ h.s h5 h4
end
end
section
open Go Go.RowKit
def wfO:POut→Bool|.ret v=>wf v|.panic v=>wf v
def wfE:Ent→Prop|.blk _ cs=>wfs cs=true|_=>False
def wfC(L:List Ent)(v:V):Prop:=wf v=true∨(∃j T z xs,v=.mr j xs.length∧L[j]?=some (.mrow T z xs))∨∃j o,v=.ptr j o
def wfX(L:List Ent):Ent→Prop|.blk _ cs=>∀v∈cs,wfC L v|.mrow _ _ xs=>wfs xs=true|_=>False
theorem wfX_of{L:List Ent}{e:Ent}(h:wfE e):wfX L e:=by
 cases e with
 |blk T cs=>exact fun v hv=>.inl (zay.1 h v hv)
 |_=>exact h.elim
def argOk(n:Nat):V→Prop
 |.ptr i _=>i<n
 |.fn _ a b=>∀w∈a++b,wf w=true∨∃i o,w=.ptr i o∧i<n
 |v=>wf v=true
def Sound(P:Program)(G:Nat→V)(c:Orc):Prop:=∀g args ents o es,(∀v∈args,argOk ents.length v)→(∀e∈ents,wfX ents e)→c g args ents=some (o,es)→zaL P G g args ents (fun o' es'=>o'=o∧es'=es)
mutual
theorem zdC{w:World}{A:Nat→Nat→Prop}:∀{v:V} {x:Value},RepV w A v x→wf v=true
 |_,_,.bool _=>rfl
 |_,_,.int _ _=>rfl
 |_,_,.str _=>rfl
 |_,_,.nil _ _=>rfl
 |_,_,.list _ _ _ _ _ _ _ h _ _ _=>by simp only[wf];exact zjU h
 |_,_,.ip _ _ _ _ _ h _=>by simp only[wf];exact zjV h
 |_,_,.nilp=>rfl
 |_,_,.nils=>rfl
 |_,_,.niface=>rfl
 |_,_,.iface _ _ _ h=>by simp only[wf];exact zdC h
 |_,_,.agg _ _ h=>by simp only[wf];exact zfY h
 |_,_,.tup _ _ h=>by simp only[wf];exact zfY h
 |_,_,.undef=>rfl
theorem zfY{w:World}{A:Nat→Nat→Prop}:∀{v:List V} {x:List Value},RepL w A v x→wfs v=true
 |_,_,.nil=>rfl
 |_,_,.cons _ _ _ _ h1 h2=>by simp only[wfs,zdC h1,zfY h2,Bool.and_self]
theorem zjV{w:World}{A:Nat→Nat→Prop}:∀{v:V} {x:List Value},RepC w A v x→wf v=true
 |_,_,.agg _ _ _ h=>by simp only[wf];exact zfY h
 |_,_,.one _ _ _ h=>zdC h
theorem zjU{w:World}{A:Nat→Nat→Prop}:∀{z:Nat} {v:List V} {x:List Value},RepE w A z v x→wfs v=true
 |_,_,_,.nil _=>rfl
 |_,_,_,.cons _ _ _ _ _ _ h1 h2=>by simp only[wfs,zjV h1,zjU h2,Bool.and_self]
end
theorem zg0{P:Program}{G:Nat→V}{f:FuncId}{args:List V}{ents:List Ent}{R:POut→List Ent→Prop}(h:zaL P G f args ents R):zaL P G f args ents fun o es=>R o es∧wfO o=true:=
 ⟨h.1,fun w H A vals hm hv=>Calls.mono (h.2 w H A vals hm hv) fun e w' ⟨o,es,H',A',h1,h2,h3,h4,h5⟩=>⟨o,es,H',A',⟨h1,by
  cases o with
  |ret v=>obtain⟨xv,_,hr⟩:=h5;exact zdC hr
  |panic v=>obtain⟨xv,_,hr⟩:=h5;exact zdC hr⟩,h2,h3,h4,h5⟩⟩
theorem wf_arg{n:Nat}{v:V}(h:wf v=true):argOk n v:=by cases v<;>first|exact h|(simp[wf]at h;done)
theorem zhm{e:Ent}(h:wfE e)(ρ:Nat→Nat):e.ren ρ=e:=by
 cases e with
 |blk T cs=>
  have:∀(l:List V),wfs l=true→l.map (V.ren ρ)=l:=fun l hl=>by
   have:=qa9 (f:=V.ren ρ) (g:=fun v=>v) fun v hv=>zhZ (zay.1 hl v hv) ρ;rw[this];simp
  simp only[Ent.ren,this cs h]
 |_=>exact h.elim
theorem zeZ{e:Ent}(h:wfE e)(p:Nat→Bool):e.on p=true:=by
 cases e with
 |blk T cs=>exact qa22.2 fun v hv=>wf_on (zay.1 h v hv) p
 |_=>exact h.elim
theorem za8{ids:List Nat}{i:Nat}(h:i∈ids):ids.findIdx (· == i)<ids.length∧nameOf ids (ids.findIdx (· == i))=i:=by
 have h1:ids.findIdx (· == i)<ids.length:=List.findIdx_lt_length_of_exists ⟨i,h,by simp⟩;refine⟨h1, ?_⟩;have h2:=List.findIdx_getElem (w:=h1);simp only[beq_iff_eq]at h2;simp only[nameOf,qa3,qa5 h1,Option.getD_some];exact h2
theorem zhF{ids:List Nat}:∀{l:List RS} {a:List V},(∀r∈l,r.ok)→RS.rens ids l=some a→a.map (renS (nameOf ids))=l.map RS.v∧a.all (onS fun k=>decide (k<ids.length))=true∧∀w∈a,wf w=true∨∃i o,w=.ptr i o∧i<ids.length
 |[],_,_,h=>by cases h;exact⟨rfl,rfl,by simp⟩
 |r::l,a,hk,h=>by
  simp only[RS.rens]at h;split at h<;>first|(cases h;done)|skip
  rename_i v hv;split at h<;>first|(cases h;done)|skip
  rename_i vs hvs;cases h;obtain⟨h1,h2,h3⟩:=zhF (fun r hr=>hk r (by simp[hr])) hvs;have hk0:=hk r (by simp);have key:renS (nameOf ids) v=r.v∧onS (fun k=>decide (k<ids.length)) v=true∧(wf v=true∨∃i o,v=.ptr i o∧i<ids.length):=by
   cases r with
   |d w=>
    cases hv;have hk0:wf v=true:=hk0;refine⟨?_, ?_,.inl hk0⟩<;>cases v<;>simp_all [wf,renS,onS,RS.v]
   |p i o=>
    simp only[RS.ren]at hv;split at hv<;>first|(cases hv;done)|skip
    rename_i hi;cases hv;obtain⟨h4,h5⟩:=za8 hi;exact⟨by simp only[renS,h5,RS.v],by simpa[onS]using h4,.inr ⟨_,_,rfl,h4⟩⟩
  refine⟨by simp[h1,key.1],by simp[h2,key.2.1],fun w hw=>?_⟩;rcases qa33.1 hw with rfl|hw
  ·exact key.2.2
  ·exact h3 w hw
def argK(k:Bool)(st:Nat→Ent)(v:V):V:=match k with|true=>res st v|false=>argV st v
theorem arg_ok{st:Nat→Ent}{y:Y}(hs:RelS st y){k:Bool}{ids:List Nat}{r:R}{u a:V}(hr:RelR y.s y.c r u)(h:y.arg k ids r=some a):argK k st u=a.ren (nameOf ids)∧a.on (fun k=>decide (k<ids.length))=true∧argOk ids.length a:=by
 have data:∀{v:V},y.dat r=some v→a=nrm k v→argK k st u=a.ren (nameOf ids)∧a.on (fun k=>decide (k<ids.length))=true∧argOk ids.length a:=by
  intro v hv e;obtain⟨h1,h2⟩:=zaB hs hr hv;have h3:wf (nrm k v)=true:=by cases k;exact wf_norm1 h2;exact h2
  subst e;exact⟨by rw[zhZ h3];cases k<;>simp only[argK,argV,h1,nrm],wf_on h3 _,wf_arg h3⟩
 have other:(match y.dat r with|some v=>some (nrm k v)|none=>none)=some a→argK k st u=a.ren (nameOf ids)∧a.on (fun k=>decide (k<ids.length))=true∧argOk ids.length a:=by
  intro h;split at h<;>first|(cases h;done)|skip
  rename_i v hv;cases h;exact data hv rfl
 cases r with
 |p i o=>
  simp only[Y.arg,RS.ren]at h;split at h<;>first|(cases h;done)|skip
  rename_i hi;cases h;obtain⟨h4,h5⟩:=za8 hi;rw[show u=_ from hr];exact⟨by cases k<;>simp only[argK,argV,res,norm1,norm0,V.ren,h5],by simpa[V.on]using h4,h4⟩
 |f g x z=>
  simp only[Y.arg]at h;split at h<;>first|(cases h;done)|skip
  rename_i a' b' ha hb;cases h;obtain⟨h1,h2,h3⟩:=zhF hr.2.1 ha;obtain⟨h4,h5,h6⟩:=zhF hr.2.2 hb;rw[hr.1];refine⟨by cases k<;>simp only[argK,argV,res,norm1,norm0,V.ren,h1,h4],by simp only[V.on,h2,h5,Bool.and_self],fun w hw=>?_⟩;rcases qa29.1 hw with hw|hw
  ·exact h3 w hw
  ·exact h6 w hw
 |_=>exact other h
theorem zhW{st:Nat→Ent}{y:Y}(hs:RelS st y){k:Bool}{ids:List Nat}:∀{l:List R} {us qs:List V},RelRs y.s y.c l us→y.args k ids l=some qs →
  us.map (argK k st)=qs.map (V.ren (nameOf ids))∧qs.all (V.on fun k=>decide (k<ids.length))=true∧∀a∈qs,argOk ids.length a
 |[],_,_,.nil,h=>by cases h;exact⟨rfl,rfl,by simp⟩
 |r::l,_,qs,.cons h1 h2,h=>by
  simp only[Y.args]at h;split at h<;>first|(cases h;done)|skip
  rename_i v hv;split at h<;>first|(cases h;done)|skip
  rename_i vs hvs;cases h;obtain⟨a1,a2,a3⟩:=arg_ok hs h1 hv;obtain⟨b1,b2,b3⟩:=zhW hs h2 hvs;refine⟨by simp[a1,b1],by simp[a2,b2],fun a ha=>?_⟩;rcases qa33.1 ha with rfl|ha
  ·exact a3
  ·exact b3 a ha
theorem zk2{k:Bool}{st:Nat→Ent}{us ws:List V}(h:us.map (argK k st)=ws):us.map (argV st)=ws∨us.map (res st)=ws:=by
 cases k
 ·exact .inl h
 ·exact .inr h
theorem ziO{l:List Nat}{i j:Nat}:j∈addN l i↔j∈l∨j=i:=by
 unfold addN;split
 ·rename_i h;exact⟨.inl,fun h1=>h1.elim id fun e=>e ▸ h⟩
 ·simp
theorem addN_nodup{l:List Nat}{i:Nat}(h:l.Nodup):(addN l i).Nodup:=by
 unfold addN;split
 ·exact h
 ·rename_i hi;rw[List.nodup_append];refine⟨h,by simp,fun a ha b hb e=>?_⟩;simp at hb;subst hb e;exact hi ha
theorem zk7{m:List Nat}:∀{l:List Nat} {j:Nat},j∈m.foldl addN l↔j∈l∨j∈m:=by
 induction m with
 |nil=>simp
 |cons i m ih=>
  intro l j;rw[List.foldl_cons,ih,ziO,qa33];constructor
  ·rintro((h|h)|h)<;>simp[h]
  ·rintro(h|h|h)<;>simp[h]
theorem zhX{m:List Nat}:∀{l:List Nat},l.Nodup→(m.foldl addN l).Nodup:=by
 induction m with
 |nil=>exact id
 |cons i m ih=>intro l h;exact ih (addN_nodup h)
def R.has(i:Nat):R→Prop
 |.p j _=>j=i
 |.f _ a b=>i∈RS.ids a++RS.ids b
 |_=>False
theorem zfr:∀{l:List R} {a:List Nat},(a.Nodup→(idsOf l a).Nodup)∧∀i,i∈idsOf l a→i∈a∨∃r∈l,r.has i
 |[],a=>⟨id,fun i h=>.inl h⟩
 |r::l,a=>by
  have rec1:∀{a':List Nat},idsOf (r::l) a=idsOf l a'→(a.Nodup→a'.Nodup)→(∀i,i∈a'→i∈a∨r.has i)→(a.Nodup→(idsOf (r::l) a).Nodup)∧∀i,i∈idsOf (r::l) a→i∈a∨∃r'∈r::l,r'.has i:=by
   intro a' e h1 h2;obtain⟨h3,h4⟩:=zfr (l:=l) (a:=a');rw[e];refine⟨fun h=>h3 (h1 h),fun i hi=>?_⟩;rcases h4 i hi with h|⟨r',hr',h⟩
   ·rcases h2 i h with h|h
    ·exact .inl h
    ·exact .inr ⟨r,by simp,h⟩
   ·exact .inr ⟨r',by simp[hr'],h⟩
  cases r with
  |p j o=>exact rec1 rfl addN_nodup fun i hi=>(ziO.1 hi).imp id Eq.symm
  |f g x z=>exact rec1 rfl zhX fun i hi=>(zk7.1 hi).imp id id
  |_=>exact rec1 rfl id fun i hi=>.inl hi
theorem ids_on{l:List RS}{i:Nat}:i∈RS.ids l→(l.map RS.v).all (onS fun j=>j != i)=false:=by
 induction l with
 |nil=>simp[RS.ids]
 |cons r l ih=>
  intro h;cases r with
  |d v=>
   simp only[RS.ids]at h;simp[ih h]
  |p j o=>
   simp only[RS.ids,qa33]at h;rcases h with rfl|h
   ·simp[RS.v,onS]
   ·simp[ih h]
theorem has_on{s:Nat→EN}{c i:Nat}{r:R}{u:V}(hr:RelR s c r u)(h:r.has i):u.on (fun j=>j != i)=false:=by
 cases r with
 |p j o=>rw[show u=_ from hr];have h:j=i:=h;subst h;simp[V.on]
 |f g a b=>
  rw[hr.1];simp only[V.on,Bool.and_eq_false_iff];exact(qa29.1 h).imp ids_on ids_on
 |_=>exact h.elim
theorem zeA{s:Nat→EN}{c:Nat}{r:R}:∀{l:List R} {us:List V},RelRs s c l us→r∈l→∃u∈us,RelR s c r u
 |_,_,.cons h1 h2,h=>by
  rcases qa33.1 h with rfl|h
  ·exact⟨_,by simp,h1⟩
  ·obtain⟨u,hu,hr⟩:=zeA h2 h;exact⟨u,by simp[hu],hr⟩
end
section
open Go Go.RowKit
section
variable{Z:Type}{st:Nat→Ent}{y:Y}{ids:List Nat}{L es:List Ent}
theorem lsV_some{v:V}{K:List V→Option Z}{r:Z}(h:lsV v K=some r):∃xs,v=.list xs∧K xs=some r:=by
 unfold lsV at h;split at h<;>first|(cases h;done)|skip
 exact⟨_,rfl,h⟩
def LsOk(st:Nat→Ent)(y:Y)(ids:List Nat)(L:List Ent):Prop:=
 ∀(j i T z k:Nat)(v:V),ids[j]?=some i→y.s i=EN.mq T z k v→∃xs:List V,v=V.list xs∧L[j]?=some (Ent.mrow T z xs)∧st i=Ent.mrow T z xs∧wfs xs=true
theorem zfm(hs:RelS st y):∀{ids:List Nat} {K:List Ent→Option Z} {r:Z},y.lsK ids K=some r→∃L,K L=some r∧LsOk st y ids L
 |[],K,r,h=>⟨[],h,fun j i T z k v hj=>by simp at hj⟩
 |i::l,K,r,h=>by
  simp only[Y.lsK]at h;have add:∀{e:Ent} {L:List Ent},LsOk st y l L→(∀T z k v,y.s i=.mq T z k v→∃xs,v=.list xs∧e=.mrow T z xs∧st i=.mrow T z xs∧wfs xs=true)→LsOk st y (i::l) (e::L):=by
   intro e L hL he j i' T z k v hj hv;cases j with
   |zero=>
    simp only[qa6,qa17]at hj;subst hj;obtain⟨xs,h1,h2,h3⟩:=he T z k v hv;exact⟨xs,h1,by simp[h2],h3⟩
   |succ j=>
    obtain⟨xs,h1,h2,h3⟩:=hL j i' T z k v (by simpa using hj) hv;exact⟨xs,h1,by simpa using h2,h3⟩
  split at h
  ·rename_i T z k v hv;obtain⟨xs,rfl,h1⟩:=lsV_some h;obtain⟨L,h2,h3⟩:=zfm hs h1;refine⟨_,h2,add h3 fun T' z' k' v' hv'=>?_⟩;rw[hv]at hv';cases hv';have h4:=hs i;rw[hv]at h4;obtain⟨_,xs',e,hw,h5⟩:=h4;cases e;exact⟨xs,rfl,rfl,h5,hw⟩
  ·rename_i hne;obtain⟨L,h2,h3⟩:=zfm hs h;exact⟨_,h2,add h3 fun T' z' k' v' hv'=>absurd hv' (hne _ _ _ _)⟩
theorem zhL{l:List Ent}{j:Nat}{e:Ent}(h:l[j]?=some e):nth l j=e:=by simp[nth,h]
theorem name_get{j i:Nat}(h:ids[j]?=some i):nameOf ids j=i:=by simp[nameOf,h]
theorem za5{j:Nat}(h:j<ids.length):ids[j]?=some (nameOf ids j):=by simp[nameOf,qa5 h]
def RowC(y:Y)(ids:List Nat)(L:List Ent)(v:V):Prop:=wf v=true∨(∃j T z xs i k,v=.mr j xs.length∧L[j]?=some (Ent.mrow T z xs)∧ids[j]?=some i∧y.s i=.mq T z k (.list xs))∨∃j o,v=.ptr j o
theorem cQ_ok(hs:RelS st y)(hL:LsOk st y ids L){r:R}{u v:V}(hr:RelR y.s y.c r u)(h:y.cQ ids L r=some v):
  v.ren (nameOf ids)=u∧v.on (fun k=>decide (k<ids.length))=true∧RowC y ids L v:=by
 cases r<;>simp only[Y.cQ]at h<;>first|(cases h;done)|skip
 ·cases h;obtain⟨rfl,hw⟩:=hr;exact⟨zhZ hw _,wf_on hw _,.inl hw⟩
 ·rename_i i o;simp only[RS.ren]at h;split at h<;>first|(cases h;done)|skip
  rename_i hi;cases h;obtain⟨h1,h2⟩:=za8 hi;rw[show u=_ from hr];exact⟨by simp only[V.ren,h2],by simpa[V.on]using h1,.inr (.inr ⟨_,_,rfl⟩)⟩
 ·cases h;obtain⟨rfl,hw⟩:=hr;exact⟨rfl,rfl,.inl hw⟩
 ·rename_i i k;split at h<;>first|(cases h;done)|skip
  rename_i T z k' w hq;split at h<;>first|(cases h;done)|skip
  rename_i hc;obtain⟨rfl,hi⟩:=hc;cases h;obtain⟨h1,h2⟩:=za8 hi;have h3:=za5 h1;rw[h2]at h3;obtain⟨xs,rfl,h4,h5,h6⟩:=hL _ _ _ _ _ _ h3 hq;rw[zhL h4];have h7:=hr.2.2 _ _ _ (.inl hq);subst h7;refine⟨by simp only[V.ren,elen,mrV,llen,Option.getD_some,h2],by simpa[V.on]using h1,.inr (.inl ⟨_,_,_,xs,_,_,rfl,h4,h3,hq⟩)⟩
theorem csQ_ok(hs:RelS st y)(hL:LsOk st y ids L):∀{l:List R} {us vs:List V},RelRs y.s y.c l us→y.csQ ids L l=some vs →
  vs.map (V.ren (nameOf ids))=us∧∀v∈vs,v.on (fun k=>decide (k<ids.length))=true∧RowC y ids L v
 |[],_,_,.nil,h=>by cases h;exact⟨rfl,by simp⟩
 |r::l,_,vs,.cons h1 h2,h=>by
  simp only[Y.csQ]at h;split at h<;>first|(cases h;done)|skip
  rename_i v hv;split at h<;>first|(cases h;done)|skip
  rename_i vs' hvs;cases h;obtain⟨a1,a2⟩:=cQ_ok hs hL h1 hv;obtain⟨b1,b2⟩:=csQ_ok hs hL h2 hvs;refine⟨by simp[a1,b1],fun w hw=>?_⟩;rcases qa33.1 hw with rfl|hw
  ·exact a2
  ·exact b2 w hw
def InQ(y:Y)(ids:List Nat):R→Prop
 |.m i _=>i∈ids∧∃T z k v,y.s i=.mq T z k v
 |.p i _=>i∈ids
 |_=>True
theorem csQ_q:∀{l:List R} {vs:List V},y.csQ ids L l=some vs→∀r∈l,InQ y ids r
 |[],_,_,r,hm=>by simp at hm
 |a::l,vs,h,r,hm=>by
  simp only[Y.csQ]at h;split at h<;>first|(cases h;done)|skip
  rename_i v hv;split at h<;>first|(cases h;done)|skip
  rename_i vs' hvs;rcases qa33.1 hm with rfl|hm
  ·cases r<;>first|trivial|skip
   ·simp only[Y.cQ,RS.ren]at hv;split at hv<;>first|(cases hv;done)|skip
    assumption
   ·simp only[Y.cQ]at hv;split at hv<;>first|(cases hv;done)|skip
    rename_i hq;split at hv<;>first|(cases hv;done)|skip
    rename_i hc;exact⟨hc.2,_,_,_,_,hq⟩
  ·exact csQ_q hvs r hm
theorem zgk:∀{l:List Nat} {j:Nat} {es:List Ent},y.ensQ ids L l j=some es→es.length=l.length∧∀m i,l[m]?=some i→∃e,es[m]?=some e∧y.enQ ids L i (j+m)=some e
 |[],j,es,h=>by cases h;exact⟨rfl,fun m i hm=>by simp at hm⟩
 |i::l,j,es,h=>by
  simp only[Y.ensQ]at h;split at h<;>first|(cases h;done)|skip
  rename_i e he;split at h<;>first|(cases h;done)|skip
  rename_i es' hes;cases h;obtain⟨h1,h2⟩:=zgk hes;refine⟨by simp[h1],fun m i' hm=>?_⟩;cases m with
  |zero=>
   simp only[qa6,qa17]at hm;subst hm;exact⟨e,by simp,he⟩
  |succ m=>
   obtain⟨e',h3,h4⟩:=h2 m i' (by simpa using hm);exact⟨e',by simpa using h3,by rw[show j+(m+1)=j+1+m by omega];exact h4⟩
theorem zkq(hs:RelS st y)(hL:LsOk st y ids L)(he:y.ensQ ids L ids 0=some es):es.length=ids.length∧(∀e∈es,wfX es e)∧(∀k,k<ids.length→st (nameOf ids k)=(entF es k).ren (nameOf ids)) ∧
  (∀k,k<ids.length→entF es k≠.gone)∧∀e∈es,e.on (fun k=>decide (k<ids.length))=true:=by
 obtain⟨h1,h2⟩:=zgk he;have key:∀k e,es[k]?=some e→st (nameOf ids k)=e.ren (nameOf ids)∧wfX es e∧e.on (fun k=>decide (k<ids.length))=true:=by
  intro k e hk;have hlt:k<ids.length:=by rw[←h1];exact(qa4.1 hk).1
  obtain⟨e',h3,h4⟩:=h2 k _ (za5 hlt);rw[hk]at h3;cases h3;rw[Nat.zero_add]at h4;have hst:=hs (nameOf ids k);unfold Y.enQ at h4;split at h4<;>first|(cases h4;done)|skip
  ·rename_i T cs hc;split at h4<;>first|(cases h4;done)|skip
   rename_i vs hvs;cases h4;rw[hc]at hst;obtain⟨us,h5,h6⟩:=hst;obtain⟨h7,h8⟩:=csQ_ok hs hL h6 hvs;refine⟨by rw[h5];simp only[Ent.ren,h7],fun v hv=>?_,qa22.2 fun v hv=>(h8 v hv).1⟩;rcases(h8 v hv).2 with hw|⟨j,T',z,xs,i,k',rfl,a1,a2,a3⟩|hp
   ·exact .inl hw
   ·refine .inr (.inl ⟨j,T',z,xs,rfl, ?_⟩);obtain⟨e',b1,b2⟩:=h2 j i a2;rw[Nat.zero_add]at b2;simp only[Y.enQ,a3,qa17]at b2;rw[b1,←b2,zhL a1]
   ·exact .inr (.inr hp)
  ·rename_i T z k' v hq;cases h4;obtain⟨xs,rfl,a1,a2,a3⟩:=hL k _ _ _ _ _ (za5 hlt) hq;rw[zhL a1];exact⟨a2,a3,rfl⟩
 have hF:∀k,k<ids.length→es[k]?=some (entF es k):=fun k hk=>by
  have:k<es.length:=by omega
  simp[entF,qa5 this]
 refine⟨h1,fun e he=>?_,fun k hk=>(key k _ (hF k hk)).1,fun k hk e=>?_,fun e he=>?_⟩
 ·obtain⟨k,hk⟩:=List.getElem?_of_mem he;exact(key k e hk).2.1
 ·have:=(key k _ (hF k hk)).2.1;rw[e]at this;exact this
 ·obtain⟨k,hk⟩:=List.getElem?_of_mem he;exact(key k e hk).2.2
theorem ckR_some{T z:Nat}{e:Ent}{K:List V→Option Z}{r:Z}(h:ckR T z e K=some r):∃xs,e=.mrow T z xs∧wfs xs=true∧K xs=some r:=by
 unfold ckR at h;split at h<;>first|(cases h;done)|skip
 split at h<;>first|(cases h;done)|skip
 rename_i hc;obtain⟨⟨rfl,rfl⟩,hw⟩:=hc;exact⟨_,rfl,hw,h⟩
theorem ckQ_some{T:Nat}{sh:List SH}{e:Ent}{A:Option Z}{r:Z}(h:ckQ T sh es e A=some r):(∃vs,e=.blk T vs∧okQ es sh vs=true)∧A=some r:=by
 unfold ckQ at h;split at h<;>first|(cases h;done)|skip
 split at h<;>first|(cases h;done)|skip
 rename_i hc;obtain⟨rfl,hw⟩:=hc;exact⟨⟨_,rfl,hw⟩,h⟩
theorem zki:∀{l:List Nat},nodB l=true→l.Nodup
 |[],_=>by simp
 |i::l,h=>by
  simp only[nodB,qa21,qa18]at h;exact List.nodup_cons.2 ⟨by simpa using h.1,zki h.2⟩
theorem zgq:∀{l:List Nat} {j:Nat} {y:Y} {K:Y→Option Z} {r:Z},l.Nodup→zhj es l j y K=some r→∃y',K y'=some r∧y'.e=y.e∧y.c≤y'.c∧(∀i,(i ∉ l∨∀T z k v,y.s i≠.mq T z k v)→y'.s i=y.s i) ∧
  ∀m i T z k v,l[m]?=some i→y.s i=.mq T z k v→∃xs k',nth es (j+m)=.mrow T z xs∧wfs xs=true∧y.c≤k'∧k'<y'.c∧y'.s i=.mq T z k' (.list xs)
 |[],j,y,K,r,_,h=>⟨y,h,rfl,qa37 _,fun _ _=>rfl,fun m i T z k v hm=>by simp at hm⟩
 |i::l,j,y,K,r,hn,h=>by
  obtain⟨hn1,hn2⟩:=List.nodup_cons.1 hn;simp only[zhj]at h;split at h
  ·rename_i T z k v hq;obtain⟨xs,h1,h2,h3⟩:=ckR_some h;obtain⟨y',g1,g2,g3,g4,g5⟩:=zgq hn2 h3;have hnew:∀i',i'≠i→(y.newM i T z (.list xs)).s i'=y.s i':=fun i' hi=>if_neg hi;have hsame:(y.newM i T z (.list xs)).s i=.mq T z y.c (.list xs):=if_pos rfl;have hc:(y.newM i T z (.list xs)).c=y.c+1:=rfl;rw[hc]at g3;refine⟨y',g1,g2,by omega,fun i' hi=>?_,fun m i' T' z' k' v' hm hv=>?_⟩
   ·have hne:i'≠i:=by
     rintro rfl;rcases hi with hi|hi
     ·simp at hi
     ·exact hi _ _ _ _ hq
    rw[g4 i' ?_,hnew i' hne];rcases hi with hi|hi
    ·exact .inl fun hm=>hi (by simp[hm])
    ·right;rw[hnew i' hne];exact hi
   ·cases m with
    |zero=>
     simp only[qa6,qa17]at hm;subst hm;rw[hq]at hv;cases hv;exact⟨xs,y.c,h1,h2,qa37 _,by omega,by rw[g4 i (.inl hn1),hsame]⟩
    |succ m=>
     simp only[List.getElem?_cons_succ]at hm;have hne:i'≠i:=fun e=>hn1 (e ▸ qa8 hm);obtain⟨xs',k2,a1,a2,a3,a4,a5⟩:=g5 m i' T' z' k' v' hm (by rw[hnew i' hne];exact hv);rw[hc]at a3;exact⟨xs',k2,by rw[show j+(m+1)=j+1+m by omega];exact a1,a2,by omega,a4,a5⟩
  ·rename_i hne;obtain⟨y',g1,g2,g3,g4,g5⟩:=zgq hn2 h;refine⟨y',g1,g2,g3,fun i' hi=>g4 i' ?_,fun m i' T' z' k' v' hm hv=>?_⟩
   ·rcases hi with hi|hi
    ·exact .inl fun hm=>hi (by simp[hm])
    ·exact .inr hi
   ·cases m with
    |zero=>
     simp only[qa6,qa17]at hm;subst hm;exact absurd hv (hne _ _ _ _)
    |succ m=>
     obtain⟨xs',k2,a1,a2⟩:=g5 m i' T' z' k' v' (by simpa using hm) hv;exact⟨xs',k2,by rw[show j+(m+1)=j+1+m by omega];exact a1,a2⟩
theorem newQ_ver{y1 y2:Y}{e:Ent}(h:∀i,y1.ver i=y2.ver i):∀(l:List R)(m:Nat),y1.newQ e l m=y2.newQ e l m
 |[],_=>rfl
 |r::l,m=>by cases r<;>simp only[Y.newQ,newQ_ver h l,h]
theorem zgr:∀{l:List Nat} {j:Nat} {y:Y} {K:Y→Option Z} {r:Z},l.Nodup→zhk es ids l j y K=some r→∃y',K y'=some r∧y'.e=y.e∧y'.c=y.c∧(∀i,y'.ver i=y.ver i)∧(∀i,(i ∉ l∨∀T cs,y.s i≠.blk T cs)→y'.s i=y.s i) ∧
  ∀m i T cs,l[m]?=some i→y.s i=.blk T cs→∃vs,nth es (j+m)=.blk T vs∧okQ es (shQ ids cs) vs=true∧y'.s i=.blk T (y.newQ (.blk T vs) cs 0)
 |[],j,y,K,r,_,h=>⟨y,h,rfl,rfl,fun _=>rfl,fun _ _=>rfl,fun m i T cs hm=>by simp at hm⟩
 |i::l,j,y,K,r,hn,h=>by
  obtain⟨hn1,hn2⟩:=List.nodup_cons.1 hn;simp only[zhk]at h;split at h
  ·rename_i T cs hq;obtain⟨⟨vs,h1,h2⟩,h3⟩:=ckQ_some h;rw[h1]at h3;obtain⟨y',g1,g2,g3,g6,g4,g5⟩:=zgr hn2 h3;have hnew:∀i',i'≠i→(y.set i (.blk T (y.newQ (.blk T vs) cs 0))).s i'=y.s i':=fun i' hi=>if_neg hi;have hsame:(y.set i (.blk T (y.newQ (.blk T vs) cs 0))).s i=.blk T (y.newQ (.blk T vs) cs 0):=if_pos rfl;have hver:∀i',(y.set i (.blk T (y.newQ (.blk T vs) cs 0))).ver i'=y.ver i':=fun i'=>by
    by_cases hi:i'=i
    ·subst hi;simp only[Y.ver,hsame,hq]
    ·simp only[Y.ver,hnew i' hi]
   refine⟨y',g1,g2,g3,fun i'=>(g6 i').trans (hver i'),fun i' hi=>?_,fun m i' T' cs' hm hv=>?_⟩
   ·have hne:i'≠i:=by
     rintro rfl;rcases hi with hi|hi
     ·simp at hi
     ·exact hi _ _ hq
    rw[g4 i' ?_,hnew i' hne];rcases hi with hi|hi
    ·exact .inl fun hm=>hi (by simp[hm])
    ·right;rw[hnew i' hne];exact hi
   ·cases m with
    |zero=>
     simp only[qa6,qa17]at hm;subst hm;rw[hq]at hv;cases hv;exact⟨vs,h1,h2,by rw[g4 i (.inl hn1),hsame]⟩
    |succ m=>
     simp only[List.getElem?_cons_succ]at hm;have hne:i'≠i:=fun e=>hn1 (e ▸ qa8 hm);obtain⟨vs',a1,a2,a3⟩:=g5 m i' T' cs' hm (by rw[hnew i' hne];exact hv);exact⟨vs',by rw[show j+(m+1)=j+1+m by omega];exact a1,a2,by rw[a3,newQ_ver hver]⟩
  ·rename_i hne;obtain⟨y',g1,g2,g3,g6,g4,g5⟩:=zgr hn2 h;refine⟨y',g1,g2,g3,g6,fun i' hi=>g4 i' ?_,fun m i' T' cs' hm hv=>?_⟩
   ·rcases hi with hi|hi
    ·exact .inl fun hm=>hi (by simp[hm])
    ·exact .inr hi
   ·cases m with
    |zero=>
     simp only[qa6,qa17]at hm;subst hm;exact absurd hv (hne _ _)
    |succ m=>
     obtain⟨vs',a1,a2⟩:=g5 m i' T' cs' (by simpa using hm) hv;exact⟨vs',by rw[show j+(m+1)=j+1+m by omega];exact a1,a2⟩
def NewQ(y:Y)(ids:List Nat)(es:List Ent):R→Prop
 |.m i _=>i∈ids∧∃T z xs k',nth es (ids.findIdx (· == i))=.mrow T z xs∧y.s i=.mq T z k' (.list xs)∧k'<y.c
 |.p i _=>i∈ids
 |_=>True
theorem zkk{T:Nat}{full:List V}:∀{cs:List R} {vs:List V} {m:Nat},(∀n v,vs[n]?=some v→full[m+n]?=some v)→okQ es (shQ ids cs) vs=true →
  (∀r∈cs,NewQ y ids es r)→RelRs y.s y.c (y.newQ (.blk T full) cs m) (vs.map (V.ren (nameOf ids)))
 |[],vs,m,_,h,_=>by
  cases vs with
  |nil=>exact .nil
  |cons v vs=>simp[shQ,okQ]at h
 |r::cs,vs,m,hf,h,hq=>by
  have step:∀{v:V} {l:List V},vs=v::l→okQ es (shQ ids cs) l=true→RelRs y.s y.c (y.newQ (.blk T full) cs (m+1)) (l.map (V.ren (nameOf ids))):=by
   intro v l e hl;subst e;refine zkk (fun n w hw=>?_) hl (fun r hm=>hq r (by simp[hm]));have:=hf (n+1) w (by simpa using hw);rwa[show m+(n+1)=m+1+n by omega]at this
  have dat:(∀i k,r≠.m i k)→(∀i k,r≠.p i k)→RelRs y.s y.c (y.newQ (.blk T full) (r::cs) m) (vs.map (V.ren (nameOf ids))):=by
   intro hr hr';have e1:y.newQ (.blk T full) (r::cs) m=.d (zdX (.blk T full) m)::y.newQ (.blk T full) cs (m+1):=by cases r<;>first|rfl|exact absurd rfl (hr _ _)|exact absurd rfl (hr' _ _)
   have e2:shQ ids (r::cs)=.d::shQ ids cs:=by cases r<;>first|rfl|exact absurd rfl (hr _ _)|exact absurd rfl (hr' _ _)
   rw[e2]at h;cases vs with
   |nil=>simp[okQ]at h
   |cons v vs=>
    simp only[okQ,qa21]at h;have h0:=hf 0 v (by simp);rw[e1,qa32,zhZ h.1];refine .cons ⟨?_, ?_⟩ (step rfl h.2)
    ·simp only[zdX,qa3];rw[show full[m]?=some v from h0];rfl
    ·simp only[zdX,qa3];rw[show full[m]?=some v from h0];exact h.1
  cases r with
  |m i k=>
   obtain⟨hi,T',z,xs,k',h1,h2,h3⟩:=hq (.m i k) (by simp);have e2:shQ ids (.m i k::cs)=.m (ids.findIdx (· == i))::shQ ids cs:=rfl;rw[e2]at h;cases vs with
   |nil=>simp[okQ]at h
   |cons v vs=>
    cases v<;>simp only[okQ]at h<;>first|(cases h;done)|skip
    rename_i i' n;simp only[qa21,beq_iff_eq]at h;obtain⟨rfl,rfl,h6⟩:=h;rw[h1];obtain⟨_,h5⟩:=za8 hi;refine .cons ?_ (step rfl h6);have hv:y.ver i=k':=by simp only[Y.ver,h2]
    rw[hv];refine⟨h3,⟨xs.length,by simp only[V.ren,h5,elen]⟩,fun T2 z2 w hw=>?_⟩;rw[h2]at hw;rcases hw with hw|hw<;>cases hw;simp only[V.ren,h5,elen,mrV,llen,Option.getD_some]
  |p i o=>
   have hi:i∈ids:=hq (.p i o) (by simp);have e2:shQ ids (.p i o::cs)=.p (ids.findIdx (· == i)) o::shQ ids cs:=rfl;rw[e2]at h;cases vs with
   |nil=>simp[okQ]at h
   |cons v vs=>
    cases v<;>simp only[okQ]at h<;>first|(cases h;done)|skip
    simp only[qa21,beq_iff_eq]at h;obtain⟨rfl,rfl,h6⟩:=h;obtain⟨_,h5⟩:=za8 hi;refine .cons ?_ (step rfl h6);show V.ren _ _=_;simp only[V.ren,h5]
  |_=>exact dat (by simp) (by simp)
theorem le_cases{s s':Nat→EN}{c c':Nat}(hc:c≤c')(h:∀i,s' i=s i∨(∃T z k v,s' i=.mq T z k v∧c≤k)∨∃T cs,s' i=.blk T cs):Le s c s' c':=by
 refine⟨hc,fun i T z k v hk hs=>?_,fun i T z k v hk hs=>?_,fun i T z k v hk hs=>?_⟩;all_goals
  rcases h i with h1|⟨T',z',k',v',h1,h2⟩|⟨T',cs,h1⟩
  ·rw[h1]at hs;first|exact hs|exact⟨_,hs,rfl⟩|exact⟨_,.inl hs,rfl⟩
  ·rw[h1]at hs;cases hs;try omega
  ·rw[h1]at hs;cases hs
theorem ziM{es0:List Ent}{K:Y→Option Z}{r:Z}(hs:RelS st y)(hn:ids.Nodup)(he0:y.ensQ ids L ids 0=some es0)(hlen:es.length=ids.length)(h:backQ es ids y K=some r):
  ∃y',K y'=some r∧y'.e=y.e∧Le y.s y.c y'.s y'.c∧RelS (updL st (lendU ids es)) y':=by
 unfold backQ at h;obtain⟨y1,h1,g2,g3,g4,g5⟩:=zgq hn h;obtain⟨y2,h2,f2,f3,f6,f4,f5⟩:=zgr hn h1;obtain⟨_,hget⟩:=zgk he0;have hle:Le y.s y.c y2.s y2.c:=by
  refine le_cases (by omega) fun i=>?_;by_cases hb:i∈ids∧∃T' cs,y1.s i=.blk T' cs
  ·obtain⟨hi,T',cs,hb⟩:=hb;obtain⟨m,hm,rfl⟩:=za4 hi;obtain⟨vs,_,_,e⟩:=f5 m _ _ _ (za5 hm) hb;exact .inr (.inr ⟨_,_,e⟩)
  ·have hv1:y2.s i=y1.s i:=f4 i (by
    by_cases hi:i∈ids
    ·exact .inr fun T' cs e=>hb ⟨hi,_,_,e⟩
    ·exact .inl hi)
   rw[hv1];by_cases hq:i∈ids∧∃T z k v,y.s i=.mq T z k v
   ·obtain⟨hi,T',z',k',v',hq⟩:=hq;obtain⟨m,hm,rfl⟩:=za4 hi;obtain⟨xs,k2,_,_,a3,_,a5⟩:=g5 m _ _ _ _ _ (za5 hm) hq;exact .inr (.inl ⟨_,_,_,_,a5,a3⟩)
   ·left;refine g4 i ?_;by_cases hi:i∈ids
    ·exact .inr fun T z k v e=>hq ⟨hi,_,_,_,_,e⟩
    ·exact .inl hi
 refine⟨y2,h2,f2.trans g2,hle,fun id=>?_⟩;obtain⟨hz1,hz2⟩:=zbe ids (es.map (Ent.ren (nameOf ids))) st hn (by simp[hlen]);by_cases hid:id∈ids
 ·obtain⟨k,hk,rfl⟩:=za4 hid;have hU:updL st (lendU ids es) (nameOf ids k)=(nth es k).ren (nameOf ids):=by
   have:=hz1 k hk;have hk2:k<es.length:=by omega
   simp only[lendU,nameOf]at this ⊢;rw[this];simp[nth,qa5 hk2]
  rw[hU];obtain⟨e0,a1,a2⟩:=hget k _ (za5 hk);rw[Nat.zero_add]at a2;unfold Y.enQ at a2;split at a2<;>first|(cases a2;done)|skip
  ·rename_i T cs hc;split at a2<;>first|(cases a2;done)|skip
   rename_i vs0 hvs0;have hc1:y1.s (nameOf ids k)=.blk T cs:=by rw[g4 _ (.inr fun T z k v e=>by rw[hc]at e;cases e)];exact hc
   obtain⟨vs,b1,b2,b3⟩:=f5 k _ _ _ (za5 hk) hc1;rw[Nat.zero_add]at b1;rw[b3,b1,←newQ_ver f6];refine⟨vs.map (V.ren (nameOf ids)),rfl,zkk (fun n v hv=>by simpa using hv) b2 fun r hm=>?_⟩;have hin:=csQ_q hvs0 r hm;cases r<;>first|exact trivial|exact hin|skip
   rename_i i k';obtain⟨c1,T2,z2,kk,v2,c2⟩:=hin;obtain⟨c3,c4⟩:=za8 c1;have c5:=za5 c3;rw[c4]at c5;obtain⟨xs,k2,d1,d2,d3,d4,d5⟩:=g5 _ _ _ _ _ _ c5 c2;rw[Nat.zero_add]at d1;exact⟨c1,T2,z2,xs,k2,d1,by rw[f4 i (.inr fun T cs e=>by rw[d5]at e;cases e)];exact d5,by omega⟩
  ·rename_i T z k' v hq;obtain⟨xs,k2,d1,d2,d3,d4,d5⟩:=g5 k _ _ _ _ _ (za5 hk) hq;rw[Nat.zero_add]at d1;rw[f4 _ (.inr fun T cs e=>by rw[d5]at e;cases e),d5,d1];exact⟨by omega,xs,rfl,d2,rfl⟩
 ·have hU:updL st (lendU ids es) id=st id:=hz2 id hid;rw[hU];have:=(hs id).le hle;rwa[←g4 id (.inl hid),←f4 id (.inl hid)]at this
def R.says(i:Nat):R→Prop
 |.m j _=>j=i
 |.p j _=>j=i
 |_=>False
theorem addN_pre(a:List Nat)(i:Nat):∃d,addN a i=a++d∧∀j∈d,j=i:=by
 unfold addN;split
 ·exact⟨[],by simp,by simp⟩
 ·exact⟨[i],rfl,by simp⟩
theorem zeP:∀(l:List R)(a:List Nat),∃d,cIds l a=a++d∧∀i∈d,∃r∈l,r.says i
 |[],a=>⟨[],by simp[cIds],by simp⟩
 |r::l,a=>by
  have other:(∃ d,cIds l a=a++d∧∀ i∈d,∃ r∈l,r.says i)→∃ d,cIds l a=a++d∧∀ i∈d,∃ r'∈r :: l,r'.says i:=fun ⟨d,h1,h2⟩=>⟨d,h1,fun i hi=>by
   obtain⟨r',h3,h4⟩:=h2 i hi;exact⟨r',by simp[h3],h4⟩⟩
  have one:∀j,r.says j→∃d,cIds l (addN a j)=a++d∧∀i∈d,∃r'∈r::l,r'.says i:=fun j hj=>by
   obtain⟨d0,e0,h0⟩:=addN_pre a j;obtain⟨d,h1,h2⟩:=zeP l (addN a j);refine⟨d0++d,by rw[h1,e0,qa19],fun i hi=>?_⟩;rcases qa29.1 hi with hi|hi
   ·have:=h0 i hi;subst this;exact⟨r,by simp,hj⟩
   ·obtain⟨r',h3,h4⟩:=h2 i hi;exact⟨r',by simp[h3],h4⟩
  cases r with
  |m j k=>exact one j rfl
  |p j o=>exact one j rfl
  |_=>exact other (zeP l a)
theorem zdH:∀(f k:Nat)(a:List Nat),(∃b,y.reach f k a=a++b)∧∀m i,a.length≤m→(y.reach f k a)[m]?=some i→∃j j' T cs,j<m∧(y.reach f k a)[j]?=some j'∧y.s j'=.blk T cs∧∃r∈cs,r.says i
 | 0,k,a=>⟨⟨[],by simp [Y.reach]⟩,fun m i hm h=>by
  simp only[Y.reach]at h;have:=(qa4.1 h).1;omega⟩
 |f+1,k,a=>by
  simp only[Y.reach];split
  ·rename_i i0 hi0;split
   ·rename_i T cs hc;obtain⟨d,e,hd⟩:=zeP cs a;obtain⟨⟨b,hb⟩,h2⟩:=zdH f (k+1) (cIds cs a);refine⟨⟨d++b,by rw[hb,e,qa19]⟩,fun m i hm hi=>?_⟩;by_cases hlt:m<(cIds cs a).length
    ·have hk:k<a.length:=(qa4.1 hi0).1;refine⟨k,i0,T,cs,by omega, ?_,hc, ?_⟩
     ·rw[hb,e,qa19,List.getElem?_append_left hk];exact hi0
     ·rw[hb,List.getElem?_append_left hlt,e,List.getElem?_append_right hm]at hi;exact hd i (qa8 hi)
    ·exact h2 m i (by omega) hi
   ·exact zdH f (k+1) a
  ·refine ⟨⟨[],by simp⟩,fun m i hm h=>?_⟩;have:=(qa4.1 h).1;omega
theorem says_on(hs:RelS st y){i j T:Nat}{cs:List R}(hc:y.s j=.blk T cs){r:R}(hr:r∈cs)(h:r.says i):(st j).on (fun a=>a != i)=false:=by
 have h1:=hs j;rw[hc]at h1;obtain⟨us,h2,h3⟩:=h1;obtain⟨u,hu,hu2⟩:=zeA h3 hr;rw[h2];simp only[Ent.on,List.all_eq_false];refine⟨u,hu, ?_⟩;cases r<;>first|exact h.elim|skip
 ·rw[show u=_ from hu2];have h:_=i:=h;simp[V.on,h]
 ·obtain⟨n,e⟩:=hu2.2.1;have h:_=i:=h;rw[e];simp[V.on,h]
end
end
section
open Go Go.RowKit
theorem zij{x:X}{y:Y}(h:Rel x y):∀(l:List O),RelRs y.s y.c (l.map y.er) (l.map (O.ev x.env))
 |[]=>.nil
 |o::l=>.cons (h.er o) (zij h l)
theorem zf4{s:Nat→EN}{c:Nat}:∀{l:List RS},(∀r∈l,r.ok)→RelRs s c (l.map RS.r) (l.map RS.v)
 |[],_=>.nil
 | r :: l,h=>.cons (by
   have:=h r (by simp);cases r with
   |d v=>exact⟨rfl,this⟩
   |p i o=>rfl) (zf4 fun r hr=>h r (by simp[hr]))
theorem zdh{s:Nat→EN}{c:Nat}:∀{l:List R} {us vs:List V},RelRs s c l us→plainC l=some vs→us=vs∧wfs vs=true
 |[],_,_,.nil,h=>by cases h;exact⟨rfl,rfl⟩
 |r::l,_,vs,.cons h1 h2,h=>by
  cases r<;>simp only[plainC]at h<;>first|(cases h;done)|skip
  all_goals
   split at h<;>first|(cases h;done)|skip
   rename_i vs' hvs;cases h;obtain⟨e,h3⟩:=zdh h2 hvs;obtain⟨e',h4⟩:=h1;exact⟨by rw[e,e'],by simp[wfs,wf,h3,h4]⟩
theorem ent_ok{st:Nat→Ent}{y:Y}(hs:RelS st y){i:Nat}{e:Ent}(h:y.ent i=some e):st i=e∧wfE e:=by
 unfold Y.ent at h;split at h<;>first|(cases h;done)|skip
 rename_i T cs hc;split at h<;>first|(cases h;done)|skip
 rename_i vs hvs;cases h;have h1:=hs i;rw[hc]at h1;obtain⟨us,h2,h3⟩:=h1;obtain⟨rfl,h4⟩:=zdh h3 hvs;exact⟨h2,h4⟩
theorem zb1{st:Nat→Ent}{y:Y}(hs:RelS st y):∀{ids:List Nat} {es:List Ent},y.entL ids=some es→es=ids.map st∧∀e∈es,wfE e
 |[],_,h=>by cases h;exact⟨rfl,by simp⟩
 |i::l,es,h=>by
  simp only[Y.entL]at h;split at h<;>first|(cases h;done)|skip
  rename_i e he;split at h<;>first|(cases h;done)|skip
  rename_i es' hes;cases h;obtain⟨h1,h2⟩:=ent_ok hs he;obtain⟨h3,h4⟩:=zb1 hs hes;refine⟨by rw[h3,qa32,h1],fun e' he'=>?_⟩;rcases qa33.1 he' with rfl|he'
  ·exact h2
  ·exact h4 e' he'
section
variable{Z:Type}{P:Program}{G:Nat→V}{c:Orc}{x:X}{y:Y}{r:Z}{d:Option Nat}{slot:Nat}{g:Option (Nat×Bool)}{av:List Nat}{K:Y→Option Z}{Kp:V→Y→Option Z}{Q:X→Prop}{KP:V→(Nat→Ent)→Prop}
theorem ziG{T n:Nat}{e:Ent}{A:Option Z}(h:ckE T n e A=some r):(∃cs,e=.blk T cs∧cs.length=n∧wfs cs=true)∧A=some r:=by
 unfold ckE at h;split at h<;>first|(cases h;done)|skip
 split at h<;>first|(cases h;done)|skip
 rename_i hc;obtain⟨rfl,rfl,hw⟩:=hc;exact⟨⟨_,rfl,rfl,hw⟩,h⟩
theorem zgp{es:List Ent}:∀{ids:List Nat} {j:Nat} {y:Y} {st:Nat→Ent} {K:Y→Option Z},ids.length+j=es.length→RelS st y→zhi es ids j y K=some r →
  (∀e∈es.drop j,wfE e)∧∃y',K y'=some r∧y'.e=y.e∧Le y.s y.c y'.s y'.c∧RelS (updL st (ids.zip (es.drop j))) y'
 |[],j,y,st,K,hl,hs,h=>⟨by simp at hl;simp[List.drop_of_length_le (Nat.le_of_eq hl.symm)],y,h,rfl,.refl _ _,by simpa[updL]using hs⟩
 |i::l,j,y,st,K,hl,hs,h=>by
  simp only[zhi]at h;obtain⟨⟨cs,h1,h2,hw⟩,h3⟩:=ziG h;simp only[qa20]at hl;have hj:j<es.length:=by omega
  have he:es[j]=.blk (y.s i).tn.1 cs:=by
   rw[←h1];simp[nth,qa5 hj]
  have hle:Le y.s y.c (updN y.s i (.blk (y.s i).tn.1 ((List.range (y.s i).tn.2).map fun k=>.d (zdX (nth es j) k)))) y.c:=zcz;have hrel:RelS (updE st i es[j]) (y.set i (.blk (y.s i).tn.1 ((List.range (y.s i).tn.2).map fun k=>.d (zdX (nth es j) k)))):=by
   intro k;show RelE _ _ (if k=i then _ else y.s k) (if k=i then _ else st k);split
   ·refine⟨cs,he, ?_⟩;have:((List.range (y.s i).tn.2).map fun k=>R.d (zdX (nth es j) k))=cs.map .d:=by
     rw[h1,←h2];refine List.ext_getElem (by simp) fun k h4 h5=>?_;simp only[List.length_map]at h5;simp[zdX,qa5 h5]
    rw[this];exact zdG hw
   ·exact(hs k).le hle
  obtain⟨h8,y',h4,h5,h6,h7⟩:=zgp (by omega) hrel h3;rw[List.drop_eq_getElem_cons hj];refine⟨fun e he'=>?_,y',h4,h5,hle.trans h6, ?_⟩
  ·rcases qa33.1 he' with rfl|he'
   ·rw[he];exact hw
   ·exact h8 e he'
  ·rw[List.zip_cons_cons,updL];exact h7
theorem zgh{ids:List Nat}{es:List Ent}(h:∀e∈es,wfE e):lendU ids es=ids.zip es:=by
 unfold lendU;have:=qa9 (f:=Ent.ren (nameOf ids)) (g:=fun e=>e) fun e he=>zhm (h e he) _;rw[this];simp
theorem zkA(hc:Sound P G c)(h:Rel x y)(hw:wantX x.env g=some true){k0 b:Bool}{f:O}{args:List O}(he:zfu c k0 b f args av y (fun v y=>K (y.put d (.d v))) Kp=some r)(hK:∀x' y',Rel x' y'→K y'=some r→Q x')
  (hP:∀v st y',RelS st y'→wf v=true→Kp v y'=some r→KP v st):OpOk P G Q KP d slot g av (.call b f args) x:=by
 unfold zfu at he;have hf:=h.er f;split at he<;>first|(cases he;done)|skip
 rename_i fid a z hfr;rw[hfr]at hf;obtain⟨hf1,hf2,hf3⟩:=hf;dsimp only at he;have hrs:RelRs y.s y.c (a.map RS.r++args.map y.er++z.map RS.r) (a.map RS.v++args.map (O.ev x.env)++z.map RS.v):=((zf4 hf2).append (zij h args)).append (zf4 hf3);obtain⟨hnd,hmem⟩:=zfr (l:=a.map RS.r++args.map y.er++z.map RS.r) (a:=[]);generalize a.map RS.r++args.map y.er++z.map RS.r=rs at *;generalize idsOf rs []=ids at *;show zaV P G ⟨d,.call b f args,slot,g,av⟩ Q KP x;unfold zaV;dsimp only;rw[hw];dsimp only;rw[hf1];have ment0:∀i∈ids,∃v∈a.map RS.v++args.map (O.ev x.env)++z.map RS.v,v.on (fun j=>j != i)=false:=by
  intro i hi;rcases hmem i hi with h6|⟨r',hr',hh⟩
  ·simp at h6
  ·obtain⟨u,hu,hru⟩:=zeA hrs hr';exact⟨u,hu,has_on hru hh⟩
 have core:∀{ids:List Nat} {es0:List Ent} {vs:List V} {K1 Kp1:V→List Ent→Option Z},CallX x.st (a.map RS.v++args.map (O.ev x.env)++z.map RS.v) ids es0 vs→(∀v∈vs,argOk es0.length v)→(∀e∈es0,wfX es0 e)→apt y av ids=true→(b=true→ids=[])→cal c fid vs es0 K1 Kp1=some r →
   (∀v es,wf v=true→es.length=ids.length→K1 v es=some r→Q (x.put d v (lendU ids es)))→(∀v es,wf v=true→es.length=ids.length→Kp1 v es=some r→KP v (updL x.st (lendU ids es))) →
   zhT P G b (av.map x.env) (.fn fid (a.map RS.v) (z.map RS.v)) (args.map (O.ev x.env)) x.st (fun v U=>Q (x.put d v U)) (fun v U=>KP v (updL x.st U)):=by
  intro ids es0 vs K1 Kp1 hcx h3 h5 hapt hb hcal hk1 hk2;have hlen:=hcx.lends.len;unfold cal at hcal;split at hcal<;>first|(cases hcal;done)|skip
  ·rename_i v es ho;refine⟨ids,es0,vs,_,hb,ziN h hapt,hcx,zg0 (hc _ _ _ _ _ h3 h5 ho), ?_⟩;rintro o' es' ⟨⟨rfl,rfl⟩,p2⟩ hf;exact hk1 v _ p2 (by rw[hf.len,hlen]) hcal
  ·rename_i v es ho;refine⟨ids,es0,vs,_,hb,ziN h hapt,hcx,zg0 (hc _ _ _ _ _ h3 h5 ho), ?_⟩;rintro o' es' ⟨⟨rfl,rfl⟩,p2⟩ hf;exact hk2 v _ p2 (by rw[hf.len,hlen]) hcal
 have back:∀{v:V} {y':Y} {st':Nat→Ent},wf v=true→K (y'.put d (.d v))=some r→y'.e=y.e→Le y.s y.c y'.s y'.c→RelS st' y'→Q ⟨putEnv x.env d v,st'⟩:=by
  intro v y' st' hv b1 b2 b3 b4;refine hK _ (y'.put d (.d v)) ⟨fun t=>?_,b4⟩ b1;cases d with
  |none=>
   show RelR _ _ (y'.e t) (x.env t);rw[b2];exact(h.e t).le b3
  |some d=>
   show RelR _ _ (updR y'.e d (.d v) t) (upd x.env d v t);unfold updR upd;split
   ·exact⟨rfl,hv⟩
   ·rw[b2];exact(h.e t).le b3
 split at he
 ·split at he<;>first|(cases he;done)|skip
  rename_i vs es0 hvs hes0;split at he<;>first|(cases he;done)|skip
  rename_i hcond;obtain⟨h1,h2,h3⟩:=zhW h.s hrs hvs;obtain⟨h4,h5⟩:=zb1 h.s hes0;have hlen:es0.length=ids.length:=by rw[h4];simp
  have hent:∀k,(hk:k<ids.length)→entF es0 k=x.st (nameOf ids k):=fun k hk=>by
   simp[entF,nameOf,h4,qa5 hk]
  have hwE:∀k,k<ids.length→wfE (entF es0 k):=fun k hk=>h5 _ (zcK (by rw[hlen];exact hk));have hcx:CallX x.st (a.map RS.v++args.map (O.ev x.env)++z.map RS.v) ids es0 vs:=
   ⟨⟨hnd (by simp),hlen,fun k hk=>by rw[zhm (hwE k hk)];exact(hent k hk).symm,fun k hk e=>by have:=hwE k hk;rw[e]at this;exact this,fun e he=>zeZ (h5 e he) _⟩,zk2 h1,h2,fun k hk=>.inl (ment0 _ (zdk hk))⟩
  have core:=fun{K1 Kp1:V→List Ent→Option Z}=>core (K1:=K1) (Kp1:=Kp1) hcx (by rw[hlen];exact h3) (fun e he=>wfX_of (h5 e he)) hcond.1 hcond.2;split at he
  ·have e0:es0=[]:=qa1 (by simpa using hlen);unfold cal0 at he;rw[←e0]at he;refine core he (fun v es hv hl hk=>?_) (fun v es hv hl hk=>?_)
   ·have e1:es=[]:=qa1 (by simpa using hl);subst e1;exact hK _ _ (h.put (r:=.d v) ⟨rfl,hv⟩) hk
   ·have e1:es=[]:=qa1 (by simpa using hl);subst e1;exact hP _ _ _ h.s hv hk
  ·rename_i i l;refine core he (fun v es hv hl hk=>?_) (fun v es hv hl hk=>?_)
   ·obtain ⟨b0,y',b1,b2,b3,b4⟩:=zgp (by simpa using hl.symm) h.s hk;rw[zgh (by simpa using b0)];exact back hv b1 b2 b3 b4
   ·obtain ⟨b0,y',b1,b2,b3,b4⟩:=zgp (by simpa using hl.symm) h.s hk;rw[zgh (by simpa using b0)];exact hP _ _ _ b4 hv b1
 ·obtain⟨⟨pre,hpre⟩,hreach⟩:=zdH (y:=y) 64 0 ids;generalize y.reach 64 0 ids=rw0 at *;obtain⟨L,he,hL⟩:=zfm h.s he;split at he<;>first|(cases he;done)|skip
  rename_i vs es0 hvs hes0;split at he<;>first|(cases he;done)|skip
  rename_i hcond;have hn:=zki hcond.2;obtain⟨h1,h2,h3⟩:=zhW h.s hrs hvs;obtain⟨h4,h5,h6,h7,h8⟩:=zkq h.s hL hes0;have hcx:CallX x.st (a.map RS.v++args.map (O.ev x.env)++z.map RS.v) rw0 es0 vs:=by
   refine⟨⟨hn,h4,h6,h7,h8⟩,zk2 h1,h2,fun k hk=>?_⟩;by_cases hk2:k<ids.length
   ·left;have:nameOf rw0 k=nameOf ids k:=by rw[hpre];simp[nameOf,List.getElem?_append_left hk2]
    rw[this];exact ment0 _ (zdk hk2)
   ·right;obtain⟨j,j',T,cs,c1,c2,c3,r',c4,c5⟩:=hreach k _ (by omega) (za5 hk);refine⟨j,c1, ?_⟩;rw[name_get c2];exact says_on h.s c3 c4 c5
  refine core hcx (by rw[h4];exact h3) h5 hcond.1.1 (fun hb=>by rw[hcond.1.2]at hb;cases hb) he (fun v es hv hl hk=>?_) (fun v es hv hl hk=>?_)
  ·obtain⟨y',b1,b2,b3,b4⟩:=ziM h.s hn hes0 hl hk;exact back hv b1 b2 b3 b4
  ·obtain⟨y',b1,b2,b3,b4⟩:=ziM h.s hn hes0 hl hk;exact hP _ _ _ b4 hv b1
theorem zhO(hc:Sound P G c){m:M}(h:Rel x y)(hw:wantX x.env g=some true)(he:evM P c slot m av y (fun rr y=>K (y.put d rr)) Kp=some r)(hK:∀x' y',Rel x' y'→K y'=some r→Q x')
  (hP:∀v st y',RelS st y'→wf v=true→Kp v y'=some r→KP v st):OpOk P G Q KP d slot g av m x:=by
 by_cases hm:∃b f xs,m=.call b f xs
 ·obtain⟨b,f,xs,rfl⟩:=hm;exact zkA hc h hw he hK hP
 ·exact evM_ok h hw he hK hP fun b f xs e=>hm ⟨b,f,xs,e⟩
theorem evS_ok(hc:Sound P G c){mo:MO}(h:Rel x y)(he:evS P c mo y K Kp=some r)(hK:∀x' y',Rel x' y'→K y'=some r→Q x')(hP:∀v st y',RelS st y'→wf v=true→Kp v y'=some r→KP v st):zaV P G mo Q KP x:=by
 obtain⟨d,m,slot,g,av⟩:=mo;unfold evS at he;dsimp only at he;have skip:∀{y':Y},Rel x y'→wantX x.env g=some false→K (y'.put d .un)=some r→zaV P G ⟨d,m,slot,g,av⟩ Q KP x:=by
  intro y' hy hw hk;unfold zaV;dsimp only;rw[hw];exact hK _ _ (hy.put (r:=.un) rfl) hk
 split at he
 ·exact zhO hc h rfl he hK hP
 ·rename_i t w;split at he
  ·rename_i ht;have h1:=h.e t;rw[ht]at h1;exact skip h (by simp only[wantX,show x.env t=_ from h1]) he
  ·rename_i v ht;have h1:=h.e t;rw[ht]at h1;cases w
   ·obtain⟨b,rfl,h2⟩:=zdp he;cases b
    ·exact zhO hc (h.bool (.inl ht)) (by simp only[wantX,h1.1];rfl) h2 hK hP
    ·exact skip (h.bool (.inl ht)) (by simp only[wantX,h1.1];rfl) h2
   ·obtain⟨b,rfl,h2⟩:=zdp he;cases b
    ·exact skip (h.bool (.inl ht)) (by simp only[wantX,h1.1];rfl) h2
    ·exact zhO hc (h.bool (.inl ht)) (by simp only[wantX,h1.1];rfl) h2 hK hP
  ·cases he
theorem zhc(hc:Sound P G c){eq:Z→Z→Bool}(hq:∀a b,eq a b=true→a=b):∀{t:RT} {x:X} {y:Y},Rel x y→evR P c eq t y K Kp=some r→(∀x' y',Rel x' y'→K y'=some r→Q x')→(∀v st y',RelS st y'→wf v=true→Kp v y'=some r→KP v st)→wpR P G KP Q t x
 |.done,x,y,h,he,hK,hP=>hK x y h he
 |.step mo t,x,y,h,he,hK,hP=>evS_ok hc h he (fun x' y' h' he'=>zhc hc hq h' he' hK hP) hP
 |.alt a b,x,y,h,he,hK,hP=>by
  simp only[evR,agr]at he;split at he<;>first|(cases he;done)|skip
  rename_i u v hu hv;split at he<;>first|(cases he;done)|skip
  rename_i huv;cases he;have:=hq _ _ huv;subst this;exact⟨zhc hc hq h hu hK hP,zhc hc hq h hv hK hP⟩
 |.bad,_,_,_,he,_,_=>by cases he
end
end
section
open Go Go.RowKit
def it:Nat→Lup
 |0,_,_,_=>none
 |n+1,Z,F,l=>match F l with
  |some (.next l')=>it n Z F l'
  |some (.out z)=>some z
  |none=>none
def LpOk(lp:Lup):Prop:=∀(Z:Type) (F:List V→Option (Stp Z)) (l:List V) (r:Z),lp Z F l=some r→∃n,it n Z F l=some r
theorem it_ok(n:Nat):LpOk (it n):=fun _ _ _ _ h=>⟨n,h⟩
open Classical in
def zi7(p:Nat→Prop):Nat:=if h:∃n,p n∧∀m,p m→n≤m then h.choose else 0
theorem zfo{p:Nat→Prop}{n:Nat}(h:p n):p (zi7 p)∧zi7 p≤n:=by
 have key:∀n,p n→∃k,p k∧∀m,p m→k≤m:=by
  intro n;induction n using Nat.strongRecOn with
  |_ n ih=>
   intro hn;by_cases hx:∃m,m<n∧p m
   ·obtain⟨m,h1,h2⟩:=hx;exact ih m h1 h2
   ·exact⟨n,hn,fun m hm=>Nat.le_of_not_lt fun hlt=>hx ⟨m,hlt,hm⟩⟩
 have hk:=key n h;have e:zi7 p=hk.choose:=by unfold zi7;rw[dif_pos hk]
 rw[e];exact⟨hk.choose_spec.1,hk.choose_spec.2 n h⟩
theorem zeL(a b:List V)(v:V):gt (a++v::b) a.length=v:=by simp[gt]
structure Rows(y:Y)(s1:Nat→EN):Prop where
 q:∀id T z k v,s1 id=.rq T z k v→k=0∧((y.s id=.gone∧v=.nils)∨∃T' z' k',y.s id=.rq T' z' k' v)
 m:∀id T z k v,s1 id=.mq T z k v→k=0∧∃T' z' k',y.s id=.mq T' z' k' v
 f:∀id T z k v,s1 id≠.fq T z k v
theorem zbw{st:Nat→Ent}{u v:V}(h:res st u=v)(hw:wf v=true):resF st u=v:=by
 cases u<;>first|exact h|skip
 simp only[res]at h;split at h
 ·rename_i hs;split at h
  ·rename_i hn;simp only[resF,hs,hn,qa39];exact h
  ·subst h;cases hw
 ·subst h;cases hw
theorem zcW:∀{a b:List RS},RS.sames a b=true→a=b
 |[],[],_=>rfl
 |[],_::_,h=>by cases h
 |_::_,[],h=>by cases h
 |x::a,w::b,h=>by
  simp only[RS.sames,qa21]at h;rw[zcW h.2];have h1:=h.1;cases x<;>cases w<;>simp_all [RS.same]
theorem zjL{a b:R}(h:a.same b=true):a=b:=by
 cases a<;>cases b<;>simp_all [R.same];exact⟨zcW h.1.2,zcW h.2⟩
theorem resF_one{st:Nat→Ent}{s:Nat→EN}{c:Nat}{r:R}{u:V}{r':R}(hr:RelR s c r u)(h:r.same r'=true):resF st u=u:=by
 cases r<;>first|(cases r'<;>cases h;done)|skip
 ·rw[show u=_ from hr];rfl
 ·rw[hr.1];rfl
 ·rw[show u=_ from hr];rfl
def frzV(st:Nat→Ent)(fz:Bool)(u:V):V:=match fz with|true=>resF st u|false=>u
section
variable{st:Nat→Ent}{y:Y}{s1:Nat→EN}{fz:Bool}
theorem isM_ok(hs:RelS st y){r:R}{u:V}(hr:RelR y.s y.c r u){id:Nat}(hq:y.isM id r=true):∃k T z xs,r=.m id k∧y.s id=.mq T z k (.list xs)∧st id=.mrow T z xs∧u=mrV id (.list xs):=by
 unfold Y.isM at hq;split at hq<;>first|(cases hq;done)|skip
 rename_i j k;simp only[qa21,beq_iff_eq]at hq;obtain⟨rfl,hq⟩:=hq;split at hq<;>first|(cases hq;done)|skip
 rename_i T z k' v hv;have:=beq_iff_eq.1 hq;subst this;have h1:=hr.2.2 _ _ _ (.inl hv);have h2:=hs j;rw[hv]at h2;obtain⟨_,xs,rfl,_,h3⟩:=h2;exact⟨_,_,_,xs,rfl,hv,h3,h1⟩
theorem pk_ok(hs:RelS st y)(hrow:Rows y s1){r:R}{u:V}(hr:RelR y.s y.c r u){k:Cls}{l l':List V}(h:y.pk fz r k l=some l'):
  ∃a,l'=a++l∧∀pre,RelR s1 1 (k.un (pre++l') pre.length).1 (frzV st fz u)∧(k.un (pre++l') pre.length).2=pre.length+a.length:=by
 cases k with
 |d=>
  have dd:∀{v:V},y.dat r=some v→frzV st fz u=v→l'=v::l→∃a,l'=a++l∧∀pre,RelR s1 1 (Cls.un .d (pre++l') pre.length).1 (frzV st fz u)∧(Cls.un .d (pre++l') pre.length).2=pre.length+a.length:=by
   intro v hv hu e;obtain⟨h1,h2⟩:=zaB hs hr hv;subst e;refine⟨[v],rfl,fun pre=>⟨?_,rfl⟩⟩;show RelR s1 1 (.d (gt (pre++v::l) pre.length)) _;rw[zeL,hu];exact⟨rfl,h2⟩
  simp only[Y.pk]at h;split at h<;>first|(cases h;done)|skip
  ·rename_i v;cases h;refine dd (v:=v) rfl ?_ rfl;cases fz
   ·exact hr.1
   ·have:=zaB hs hr (v:=v) rfl;exact zbw this.1 this.2
  ·rename_i w o;cases h;refine dd (v:=.ip w o) rfl ?_ rfl;cases fz
   ·exact hr.1
   ·have:=zaB hs hr (v:=.ip w o) rfl;exact zbw this.1 this.2
  all_goals
   split at h<;>first|(cases h;done)|skip
   rename_i v hv;cases h;have:=zaB hs hr hv;exact dd hv (zbw this.1 this.2) rfl
 |m id=>
  simp only[Y.pk]at h;split at h<;>first|(cases h;done)|skip
  rename_i hq;cases h;refine⟨[],rfl,fun pre=>⟨?_,rfl⟩⟩;show RelR s1 1 (.m id 0) (frzV st fz u);obtain⟨k,T,z,xs,rfl,hv,h2,rfl⟩:=isM_ok hs hr hq;have e:frzV st fz (mrV id (.list xs))=mrV id (.list xs):=by
   cases fz
   ·rfl
   ·simp only[frzV,mrV,resF,h2]
  rw[e];refine⟨Nat.one_pos,⟨_,rfl⟩,fun T' z' w hw=>?_⟩;rcases hw with hw|hw
  ·obtain⟨_,T2,z2,k2,h3⟩:=hrow.m _ _ _ _ _ hw;rw[hv]at h3;cases h3;rfl
  ·exact absurd hw (hrow.f _ _ _ _ _)
 |q id=>
  simp only[Y.pk]at h;split at h<;>first|(cases h;done)|skip
  rename_i hc;obtain⟨rfl,hq⟩:=hc;cases h;refine⟨[],rfl,fun pre=>⟨?_,rfl⟩⟩;show RelR s1 1 (.q id 0) u;unfold Y.isQ at hq;split at hq
  ·rename_i j k;simp only[qa21,beq_iff_eq]at hq;obtain⟨rfl,hq⟩:=hq;split at hq
   ·rename_i T z k' v hv;have:=beq_iff_eq.1 hq;subst this;have h1:=hr.2.2 _ _ _ hv;refine⟨Nat.one_pos,⟨v,h1⟩,fun T' z' w hw=>?_⟩;rcases(hrow.q _ _ _ _ _ hw).2 with⟨h2,_⟩|⟨T2,z2,k2,h2⟩
    ·rw[hv]at h2;cases h2
    ·rw[hv]at h2;cases h2;exact h1
   ·cases hq
  ·split at hq<;>first|(cases hq;done)|skip
   rename_i hg;have h1:u=.nils:=hr.1;refine⟨Nat.one_pos,⟨.nils,h1⟩,fun T' z' w hw=>?_⟩;rcases(hrow.q _ _ _ _ _ hw).2 with⟨_,h2⟩|⟨T2,z2,k2,h2⟩
   ·subst h2;exact h1
   ·rw[hg]at h2;cases h2
  ·cases hq
 |c r'=>
  simp only[Y.pk]at h;split at h<;>first|(cases h;done)|skip
  rename_i hc;cases h;refine⟨[],rfl,fun pre=>⟨?_,rfl⟩⟩;show RelR s1 1 r' (frzV st fz u);have e:frzV st fz u=u:=by cases fz;rfl;exact resF_one hr hc
  rw[e];have:=zjL hc;subst this;cases r<;>first|(cases hc;done)|exact hr
 |f a b=>
  simp only[Y.pk]at h;split at h<;>first|(cases h;done)|skip
  rename_i g a' b';split at h<;>first|(cases h;done)|skip
  rename_i hc;cases h;have e1:=zcW hc.1;have e2:=zcW hc.2;subst e1 e2;refine⟨[.fn g [] []],rfl,fun pre=>⟨?_,rfl⟩⟩;show RelR s1 1 (.f (fnG (gt (pre++.fn g [] []::l) pre.length)) a' b') (frzV st fz u);rw[zeL];have hu:u=.fn g (a'.map RS.v) (b'.map RS.v):=hr.1;have e:frzV st fz u=u:=by subst hu;cases fz<;>rfl
  rw[e];exact hr
theorem zj3(hs:RelS st y)(hrow:Rows y s1):∀{rs:List R} {us:List V},RelRs y.s y.c rs us→∀{ks:List Cls} {l l':List V},y.pkC fz rs ks l=some l' →
  ∃a,l'=a++l∧∀pre,RelRs s1 1 (unC (pre++l') ks pre.length).1 (us.map (frzV st fz))∧(unC (pre++l') ks pre.length).2=pre.length+a.length
 |[],_,.nil,ks,l,l',h=>by
  cases ks with
  |nil=>cases h;exact⟨[],rfl,fun pre=>⟨.nil,rfl⟩⟩
  |cons k ks=>cases h
 |r::rs,_,.cons (v:=u) (vs:=us) h1 h2,ks,l,l',h=>by
  cases ks with
  |nil=>cases h
  |cons k ks=>
   simp only[Y.pkC]at h;split at h<;>first|(cases h;done)|skip
   rename_i l1 hl1;obtain⟨a,rfl,ha⟩:=zj3 hs hrow h2 hl1;obtain⟨b,rfl,hb⟩:=pk_ok hs hrow h1 h;refine⟨b++a,by simp,fun pre=>?_⟩;obtain⟨hb1,hb2⟩:=hb pre;have ha':=ha (pre++b);simp only[qa19,qa13]at ha' hb1 hb2 ⊢;simp only[unC];rw[hb2];exact⟨.cons hb1 ha'.1,by rw[ha'.2];omega⟩
theorem zj2{x:X}(h0:Rel x y)(hrow:Rows y s1):∀{ts:List (Nat×Cls)} {l l':List V},y.pkT fz ts l=some l' →
  ∃a,l'=a++l∧∀pre,(∀t,RelR s1 1 (lkR t (unT (pre++l') ts pre.length).1) (look t (ts.map fun p=>(p.1,frzV x.st fz (x.env p.1)))))∧(unT (pre++l') ts pre.length).2=pre.length+a.length
 |[],l,l',h=>by cases h;exact⟨[],rfl,fun pre=>⟨fun t=>trivial,rfl⟩⟩
 |(t,k)::ts,l,l',h=>by
  simp only[Y.pkT]at h;split at h<;>first|(cases h;done)|skip
  rename_i l1 hl1;obtain⟨a,rfl,ha⟩:=zj2 h0 hrow hl1;obtain⟨b,rfl,hb⟩:=pk_ok h0.s hrow (h0.e t) h;refine⟨b++a,by simp,fun pre=>?_⟩;obtain⟨hb1,hb2⟩:=hb pre;have ha':=ha (pre++b);simp only[qa19,qa13]at ha' hb1 hb2 ⊢;simp only[unT];rw[hb2];refine⟨fun i=>?_,by rw[ha'.2];omega⟩;simp only[qa32,lkR,look];split
  ·exact hb1
  ·exact ha'.1 i
theorem zgZ{x:X}(h0:Rel x y)(hrow:Rows y s1):∀{es:List ECl} {l l':List V},y.pkE fz es l=some l' →
  ∃a,l'=a++l∧∀pre id,RelE s1 1 (lkN id (unE (pre++l') es pre.length)) (lookE id (es.map fun e=>(e.id,(x.frz fz).st e.id)))
 |[],l,l',h=>by cases h;exact⟨[],rfl,fun pre id=>rfl⟩
 |.blk id T ks::es,l,l',h=>by
  simp only[Y.pkE]at h;split at h<;>first|(cases h;done)|skip
  rename_i l1 hl1;obtain⟨a,rfl,ha⟩:=zgZ h0 hrow hl1;split at h<;>first|(cases h;done)|skip
  rename_i T' cs hc;split at h<;>first|(cases h;done)|skip
  rename_i hT;subst hT;have h1:=h0.s id;rw[hc]at h1;obtain⟨us,h2,h3⟩:=h1;obtain⟨b,rfl,hb⟩:=zj3 h0.s hrow h3 h;refine⟨b++a,by simp,fun pre i=>?_⟩;obtain⟨hb1,hb2⟩:=hb pre;have ha':=ha (pre++b) i;simp only[qa19,qa13]at ha' hb1 hb2 ⊢;simp only[unE,qa32,lkN,lookE,ECl.id];rw[hb2];split
  ·refine⟨_, ?_,hb1⟩;cases fz
   ·show x.st id=_;rw[h2];congr 1;exact(List.map_id us).symm
   ·show(x.st id).frz x.st=_;rw[h2];rfl
  ·exact ha'
 |.bv id T n::es,l,l',h=>by
  simp only[Y.pkE]at h;split at h<;>first|(cases h;done)|skip
  rename_i l1 hl1;obtain⟨a,rfl,ha⟩:=zgZ h0 hrow hl1;split at h<;>first|(cases h;done)|skip
  rename_i T' cs hc;split at h<;>first|(cases h;done)|skip
  rename_i hT;obtain⟨rfl,rfl⟩:=hT;have h1:=h0.s id;rw[hc]at h1;obtain⟨us,h2,h3⟩:=h1;split at h<;>first|(cases h;done)|skip
  rename_i vs hvs;cases h;have key:us.map (frzV x.st fz)=vs∧wfs vs=true:=by
   cases fz
   ·obtain⟨e1,e2⟩:=zdh h3 hvs;subst e1;exact⟨List.map_id us,e2⟩
   ·obtain⟨e1,e2⟩:=zbJ h0.s h3 hvs;refine⟨?_,e2⟩;subst e1;refine qa9 fun u hu=>?_;exact zbw rfl (zay.1 e2 _ (qa10 hu))
  refine⟨.agg vs::a,rfl,fun pre i=>?_⟩;have ha':=ha (pre++[.agg vs]) i;simp only[qa19,qa13,List.singleton_append,qa20,qa25]at ha' ⊢;simp only[unE,qa32,lkN,lookE,ECl.id];split
  ·rw[zeL];refine⟨vs, ?_, ?_⟩
   ·rw[←key.1];cases fz
    ·show x.st id=_;rw[h2];congr 1;exact(List.map_id us).symm
    ·show(x.st id).frz x.st=_;rw[h2];rfl
   ·have hsz:(V.agg vs).size=cs.length:=by
     rw[h3.length,←key.1];simp[V.size,V.cells]
    exact zcY hsz (by simpa[wf]using key.2)
  ·exact ha'
 |.rq id T z::es,l,l',h=>by
  simp only[Y.pkE]at h;split at h<;>first|(cases h;done)|skip
  rename_i l1 hl1;obtain⟨a,rfl,ha⟩:=zgZ h0 hrow hl1;have key:∀v,l'=v::(a++l)→RelE s1 1 (.rq T z 0 v) ((x.frz fz).st id)→∃b,l'=b++l∧∀pre i,RelE s1 1 (lkN i (unE (pre++l') (.rq id T z::es) pre.length)) (lookE i ((ECl.rq id T z::es).map fun e=>(e.id,(x.frz fz).st e.id))):=by
   intro v e hv;subst e;refine⟨v::a,rfl,fun pre i=>?_⟩;have ha':=ha (pre++[v]) i;simp only[qa19,qa13,List.singleton_append,qa20,qa25]at ha' ⊢;simp only[unE,qa32,lkN,lookE,ECl.id];split
   ·rw[zeL];exact hv
   ·exact ha'
  have h1:=h0.s id;split at h
  ·rename_i hg;rw[hg]at h1;cases h;refine key _ rfl ⟨Nat.one_pos,.inr ⟨rfl, ?_⟩⟩;cases fz
   ·exact h1
   ·show(x.st id).frz x.st=_;rw[show x.st id=_ from h1];rfl
  ·rename_i T' z' k v hg;rw[hg]at h1;split at h<;>first|(cases h;done)|skip
   rename_i hT;obtain⟨rfl,rfl⟩:=hT;cases h;refine key _ rfl ⟨Nat.one_pos, ?_⟩;rcases h1.2 with⟨xs,h4,h5,h6⟩|⟨h4,h6⟩
   ·refine .inl ⟨xs,h4,h5, ?_⟩;cases fz
    ·exact h6
    ·show(x.st id).frz x.st=_;rw[h6];rfl
   ·refine .inr ⟨h4, ?_⟩;cases fz
    ·exact h6
    ·show(x.st id).frz x.st=_;rw[h6];rfl
  ·cases h
 |.mq id T z::es,l,l',h=>by
  simp only[Y.pkE]at h;split at h<;>first|(cases h;done)|skip
  rename_i l1 hl1;obtain⟨a,rfl,ha⟩:=zgZ h0 hrow hl1;have h1:=h0.s id;split at h<;>first|(cases h;done)|skip
  rename_i T' z' k v hg;rw[hg]at h1;split at h<;>first|(cases h;done)|skip
  rename_i hT;obtain⟨rfl,rfl⟩:=hT;cases h;refine⟨v::a,rfl,fun pre i=>?_⟩;have ha':=ha (pre++[v]) i;simp only[qa19,qa13,List.singleton_append,qa20,qa25]at ha' ⊢;simp only[unE,qa32,lkN,lookE,ECl.id];split
  ·rw[zeL];obtain⟨_,xs,h4,h5,h6⟩:=h1;refine⟨Nat.one_pos,xs,h4,h5, ?_⟩;cases fz
   ·exact h6
   ·show(x.st id).frz x.st=_;rw[h6];rfl
  ·exact ha'
theorem rows0(y:Y):Rows y (fun _=>.gone):=⟨fun _ _ _ _ _ h=>(by cases h),fun _ _ _ _ _ h=>(by cases h),fun _ _ _ _ _ h=>(by cases h)⟩
theorem Rows.cons{y:Y}{s1:Nat→EN}(h:Rows y s1){i:Nat}{n:EN}(hq:∀T z k v,n=.rq T z k v→k=0∧((y.s i=.gone∧v=.nils)∨∃T' z' k',y.s i=.rq T' z' k' v))(hm:∀T z k v,n=.mq T z k v→k=0∧∃T' z' k',y.s i=.mq T' z' k' v)(hf:∀T z k v,n≠.fq T z k v):
  Rows y (fun id=>if id=i then n else s1 id):=by
 refine⟨fun id T z k v hv=>?_,fun id T z k v hv=>?_,fun id T z k v hv=>?_⟩;all_goals
  try dsimp only at hv
  split at hv
 ·subst id;exact hq _ _ _ _ hv
 ·exact h.q _ _ _ _ _ hv
 ·subst id;exact hm _ _ _ _ hv
 ·exact h.m _ _ _ _ _ hv
 ·exact hf _ _ _ _ hv
 ·exact h.f _ _ _ _ _ hv
theorem zdn{x:X}(h0:Rel x y):∀{es:List ECl} {l l':List V},y.pkE fz es l=some l'→(∃a,l'=a++l)∧∀pre,Rows y (fun id=>lkN id (unE (pre++l') es pre.length))
 |[],l,l',h=>by cases h;exact⟨⟨[],rfl⟩,fun pre=>rows0 y⟩
 |.blk i T ks::es,l,l',h=>by
  simp only[Y.pkE]at h;split at h<;>first|(cases h;done)|skip
  rename_i l1 hl1;obtain⟨⟨a,rfl⟩,ha⟩:=zdn h0 hl1;split at h<;>first|(cases h;done)|skip
  rename_i T' cs hc;split at h<;>first|(cases h;done)|skip
  rename_i hT;subst hT;have h1:=h0.s i;rw[hc]at h1;obtain⟨us,h2,h3⟩:=h1;obtain⟨b,rfl,hb⟩:=zj3 h0.s (rows0 y) h3 h;refine⟨⟨b++a,by simp⟩,fun pre=>?_⟩;have hb2:=(hb pre).2;have ha':=ha (pre++b);simp only[qa19,qa13]at ha' hb2 ⊢;simp only[unE,lkN];rw[hb2];exact ha'.cons (by simp) (by simp) (by simp)
 |.bv i T n::es,l,l',h=>by
  simp only[Y.pkE]at h;split at h<;>first|(cases h;done)|skip
  rename_i l1 hl1;obtain⟨⟨a,rfl⟩,ha⟩:=zdn h0 hl1;split at h<;>first|(cases h;done)|skip
  split at h<;>first|(cases h;done)|skip
  split at h<;>first|(cases h;done)|skip
  rename_i vs hvs;cases h;refine⟨⟨.agg vs::a,rfl⟩,fun pre=>?_⟩;have ha':=ha (pre++[.agg vs]);simp only[qa19,qa13,List.singleton_append,qa20,qa25]at ha' ⊢;simp only[unE,lkN];exact ha'.cons (by simp) (by simp) (by simp)
 |.rq i T z::es,l,l',h=>by
  simp only[Y.pkE]at h;split at h<;>first|(cases h;done)|skip
  rename_i l1 hl1;obtain⟨⟨a,rfl⟩,ha⟩:=zdn h0 hl1;have key:∀w,l'=w::(a++l)→((y.s i=.gone∧w=.nils)∨∃T' z' k',y.s i=.rq T' z' k' w)→(∃b,l'=b++l)∧∀pre,Rows y (fun id=>lkN id (unE (pre++l') (.rq i T z::es) pre.length)):=by
   intro w e hw;subst e;refine⟨⟨w::a,rfl⟩,fun pre=>?_⟩;have ha':=ha (pre++[w]);simp only[qa19,qa13,List.singleton_append,qa20,qa25]at ha' ⊢;simp only[unE,lkN];refine ha'.cons (fun T z k v e=>?_) (by simp) (by simp);rw[zeL]at e;cases e;exact⟨rfl,hw⟩
  split at h
  ·rename_i hg;cases h;exact key _ rfl (.inl ⟨hg,rfl⟩)
  ·rename_i T' z' k v hg;split at h<;>first|(cases h;done)|skip
   cases h;exact key _ rfl (.inr ⟨_,_,_,hg⟩)
  ·cases h
 |.mq i T z::es,l,l',h=>by
  simp only[Y.pkE]at h;split at h<;>first|(cases h;done)|skip
  rename_i l1 hl1;obtain⟨⟨a,rfl⟩,ha⟩:=zdn h0 hl1;split at h<;>first|(cases h;done)|skip
  rename_i T' z' k w hg;split at h<;>first|(cases h;done)|skip
  cases h;refine⟨⟨w::a,rfl⟩,fun pre=>?_⟩;have ha':=ha (pre++[w]);simp only[qa19,qa13,List.singleton_append,qa20,qa25]at ha' ⊢;simp only[unE,lkN];refine ha'.cons (by simp) (fun T z k v e=>?_) (by simp);rw[zeL]at e;cases e;exact⟨rfl,_,_,_,hg⟩
theorem zj5{x:X}(h0:Rel x y){A:LA}{l:List V}(h:y.pack A=some l):Rel (scrub (A.ts.map (·.1)) (A.es.map ECl.id) (x.frz A.fz)) (unpk A l):=by
 unfold Y.pack at h;split at h<;>first|(cases h;done)|skip
 rename_i l1 hl1;obtain⟨_,hrow⟩:=zdn h0 hl1;obtain⟨a,rfl, -⟩:=zj2 (s1:=fun _=>.gone) h0 (rows0 y) h;obtain⟨b,e,hb⟩:=zj2 h0 (hrow a) h;obtain⟨c,e',hc⟩:=zgZ h0 (hrow a) hl1;have hb0:=hb [];have e1:b=a:=List.append_cancel_right e.symm;subst e1;simp only[qa26,qa25,Nat.zero_add]at hb0;have hun:(unpk A (b++l1)).s=fun id=>lkN id (unE (b++l1) A.es b.length):=by
  unfold unpk;simp only[hb0.2]
 refine⟨fun t=>?_,fun id=>?_⟩
 ·have:=hb0.1 t;show RelR (unpk A (b++l1)).s 1 (lkR t (unT (b++l1) A.ts 0).1) (look t ((A.ts.map (·.1)).map fun t=>(t,(x.frz A.fz).env t)));rw[hun,List.map_map];have e2:((fun t=>(t,(x.frz A.fz).env t)) ∘ fun(p:Nat×Cls)=>p.1)=fun p=>(p.1,frzV x.st A.fz (x.env p.1)):=by
   funext p;cases A.fz<;>rfl
  rw[e2];exact this
 ·have:=hc b id;show RelE (unpk A (b++l1)).s 1 ((unpk A (b++l1)).s id) (lookE id ((A.es.map ECl.id).map fun id=>(id,(x.frz A.fz).st id)));rw[hun,List.map_map];exact this
end
end
section
open Go Go.RowKit
section
variable{x:X}{y:Y}{fz:Bool}{keep:List Nat}
theorem ziy{st:Nat→Ent}{p:Nat→Bool}{u:V}(h:u.on p=true):(frzV st fz u).on p=true:=by
 cases fz
 ·exact h
 ·show(resF st u).on p=true;cases u<;>first|exact h|skip
  ·simp only[resF,res];split
   ·split<;>rfl
   ·rfl
  ·simp only[resF,res];split<;>rfl
  ·simp only[resF];split
   ·split
    ·rfl
    ·exact h
   ·exact h
theorem zfp:∀{l:List RS},(∀r∈l,r.ok)→RS.inn keep l=true→(l.map RS.v).all (onS (keep.contains ·))=true
 |[],_,_=>rfl
 |.d v::l,h,hk=>by
  have h1:wf v=true:=h (.d v) (by simp);have h2:=zfp (l:=l) (fun r hr=>h r (by simp[hr])) hk;simp only[qa32,qa34,qa21];exact⟨by cases v<;>simp_all [wf,RS.v,onS],h2⟩
 |.p i o::l,h,hk=>by
  simp only[RS.inn,qa21]at hk;have h2:=zfp (l:=l) (fun r hr=>h r (by simp[hr])) hk.2;simp only[qa32,qa34,qa21];exact⟨hk.1,h2⟩
theorem pk_on(hs:RelS x.st y){r:R}{u:V}(hr:RelR y.s y.c r u){k:Cls}(hk:k.ok keep=true){l l':List V}(h:y.pk fz r k l=some l'):(frzV x.st fz u).on (keep.contains ·)=true:=by
 have dd:∀{v:V},y.dat r=some v→frzV x.st fz u=v→(frzV x.st fz u).on (keep.contains ·)=true:=fun hv e=>by
  rw[e];exact wf_on (zaB hs hr hv).2 _
 cases k with
 |d=>
  simp only[Y.pk]at h;split at h<;>first|(cases h;done)|skip
  ·rename_i v;refine dd (v:=v) rfl ?_;cases fz
   ·exact hr.1
   ·have:=zaB hs hr (v:=v) rfl;exact zbw this.1 this.2
  ·rename_i w o;refine dd (v:=.ip w o) rfl ?_;cases fz
   ·exact hr.1
   ·have:=zaB hs hr (v:=.ip w o) rfl;exact zbw this.1 this.2
  all_goals
   split at h<;>first|(cases h;done)|skip
   rename_i v hv;have:=zaB hs hr hv;exact dd hv (zbw this.1 this.2)
 |m id=>
  simp only[Y.pk]at h;split at h<;>first|(cases h;done)|skip
  rename_i hq;refine ziy ?_;obtain⟨k,T,z,xs,rfl,hv,h2,rfl⟩:=isM_ok hs hr hq;exact hk
 |q id=>
  simp only[Y.pk]at h;split at h<;>first|(cases h;done)|skip
  rename_i hc;obtain⟨rfl,hq⟩:=hc;refine ziy ?_;have hk:keep.contains id=true:=hk;have row:∀w,(rowV id w).on (keep.contains ·)=true:=fun w=>by cases w<;>first|exact hk|rfl
  unfold Y.isQ at hq;split at hq
  ·simp only[qa21,beq_iff_eq]at hq;obtain⟨rfl,_⟩:=hq;obtain⟨w,rfl⟩:=hr.2.1;exact row w
  ·rw[show u=.nils from hr.1];rfl
  ·cases hq
 |c r'=>
  simp only[Y.pk]at h;split at h<;>first|(cases h;done)|skip
  rename_i hc;have:=zjL hc;subst this;refine ziy ?_;cases r<;>first|(cases hc;done)|skip
  ·rw[show u=_ from hr];exact hk
  ·rw[hr.1];simp only[Cls.ok,qa21]at hk;simp only[V.on,qa21];exact⟨zfp hr.2.1 hk.1,zfp hr.2.2 hk.2⟩
  ·rw[show u=_ from hr];rfl
 |f a b=>
  simp only[Y.pk]at h;split at h<;>first|(cases h;done)|skip
  rename_i g a' b';split at h<;>first|(cases h;done)|skip
  rename_i hc;have e1:=zcW hc.1;have e2:=zcW hc.2;subst e1 e2;refine ziy ?_;rw[hr.1];simp only[Cls.ok,qa21]at hk;simp only[V.on,qa21];exact⟨zfp hr.2.1 hk.1,zfp hr.2.2 hk.2⟩
theorem pkC_on(hs:RelS x.st y):∀{rs:List R} {us:List V},RelRs y.s y.c rs us→∀{ks:List Cls} {l l':List V},ks.all (Cls.ok keep)=true→y.pkC fz rs ks l=some l'→∀u∈us,(frzV x.st fz u).on (keep.contains ·)=true
 |[],_,.nil,_,_,_,_,_=>by simp
 |r::rs,_,.cons (v:=u) (vs:=us) h1 h2,ks,l,l',hk,h=>by
  cases ks with
  |nil=>cases h
  |cons k ks=>
   simp only[Y.pkC]at h;split at h<;>first|(cases h;done)|skip
   rename_i l1 hl1;simp only[qa34,qa21]at hk;intro w hw;rcases qa33.1 hw with rfl|hw
   ·exact pk_on hs h1 hk.1 h
   ·exact pkC_on hs h2 hk.2 hl1 w hw
theorem pkT_on(h0:Rel x y):∀{ts:List (Nat×Cls)} {l l':List V},(ts.all fun p=>p.2.ok keep)=true→y.pkT fz ts l=some l'→∀p∈ts,(frzV x.st fz (x.env p.1)).on (keep.contains ·)=true
 |[],_,_,_,_=>by simp
 |(t,k)::ts,l,l',hk,h=>by
  simp only[Y.pkT]at h;split at h<;>first|(cases h;done)|skip
  rename_i l1 hl1;simp only[qa34,qa21]at hk;intro p hp;rcases qa33.1 hp with rfl|hp
  ·exact pk_on h0.s (h0.e t) hk.1 h
  ·exact pkT_on h0 hk.2 hl1 p hp
theorem zgY(h0:Rel x y):∀{es:List ECl} {l l':List V},es.all (ECl.ok keep)=true→y.pkE fz es l=some l'→∀e∈es,((x.frz fz).st e.id).on (keep.contains ·)=true
 |[],_,_,_,_=>by simp
 |.blk id T ks::es,l,l',hk,h=>by
  simp only[Y.pkE]at h;split at h<;>first|(cases h;done)|skip
  rename_i l1 hl1;split at h<;>first|(cases h;done)|skip
  rename_i T' cs hc;split at h<;>first|(cases h;done)|skip
  simp only[qa34,qa21]at hk;intro e he;rcases qa33.1 he with rfl|he
  ·have h1:=h0.s id;rw[hc]at h1;obtain⟨us,h2,h3⟩:=h1;have h4:=pkC_on h0.s h3 hk.1 h;have h5:(x.frz fz).st id=.blk T' (us.map (frzV x.st fz)):=by
    cases fz
    ·show x.st id=_;rw[h2];congr 1;exact(List.map_id us).symm
    ·show(x.st id).frz x.st=_;rw[h2];rfl
   show((x.frz fz).st id).on _=true;rw[h5];refine qa22.2 fun v hv=>?_;obtain⟨u,hu,rfl⟩:=qa35.1 hv;exact h4 u hu
  ·exact zgY h0 hk.2 hl1 e he
 |.bv id T n::es,l,l',hk,h=>by
  simp only[Y.pkE]at h;split at h<;>first|(cases h;done)|skip
  rename_i l1 hl1;split at h<;>first|(cases h;done)|skip
  rename_i T' cs hc;split at h<;>first|(cases h;done)|skip
  split at h<;>first|(cases h;done)|skip
  rename_i vs hvs;simp only[qa34,qa21]at hk;intro e he;rcases qa33.1 he with rfl|he
  ·have h1:=h0.s id;rw[hc]at h1;obtain⟨us,h2,h3⟩:=h1;have key:us.map (frzV x.st fz)=vs∧wfs vs=true:=by
    cases fz
    ·obtain⟨e1,e2⟩:=zdh h3 hvs;subst e1;exact⟨List.map_id us,e2⟩
    ·obtain⟨e1,e2⟩:=zbJ h0.s h3 hvs;refine⟨?_,e2⟩;subst e1;refine qa9 fun u hu=>?_;exact zbw rfl (zay.1 e2 _ (qa10 hu))
   have h5:(x.frz fz).st id=.blk T' vs:=by
    rw[←key.1];cases fz
    ·show x.st id=_;rw[h2];congr 1;exact(List.map_id us).symm
    ·show(x.st id).frz x.st=_;rw[h2];rfl
   show((x.frz fz).st id).on _=true;rw[h5];exact qa22.2 fun v hv=>wf_on (zay.1 key.2 v hv) _
  ·exact zgY h0 hk.2 hl1 e he
 |.rq id T z::es,l,l',hk,h=>by
  simp only[Y.pkE]at h;split at h<;>first|(cases h;done)|skip
  rename_i l1 hl1;simp only[qa34,qa21]at hk;intro e he;rcases qa33.1 he with rfl|he
  ·have h1:=h0.s id;have key:∀{n:Ent},x.st id=n→(∀T cs,n≠.blk T cs)→((x.frz fz).st id).on (keep.contains ·)=true:=by
    intro n hn hb;have:((x.frz fz).st id)=n:=by
     cases fz
     ·exact hn
     ·show(x.st id).frz x.st=_;rw[hn];cases n<;>first|rfl|exact absurd rfl (hb _ _)
    rw[this];cases n<;>first|rfl|exact absurd rfl (hb _ _)
   split at h
   ·rename_i hg;rw[hg]at h1;exact key h1 (by simp)
   ·rename_i hg;rw[hg]at h1;rcases h1.2 with⟨xs,_,_,h6⟩|⟨_,h6⟩
    ·exact key h6 (by simp)
    ·exact key h6 (by simp)
   ·cases h
  ·exact zgY h0 hk.2 hl1 e he
 |.mq id T z::es,l,l',hk,h=>by
  simp only[Y.pkE]at h;split at h<;>first|(cases h;done)|skip
  rename_i l1 hl1;simp only[qa34,qa21]at hk;intro e he;rcases qa33.1 he with rfl|he
  ·have h1:=h0.s id;split at h<;>first|(cases h;done)|skip
   rename_i hg;rw[hg]at h1;obtain⟨_,xs,_,_,h6⟩:=h1;show((x.frz fz).st id).on _=true;have:((x.frz fz).st id)=x.st id:=by
    cases fz
    ·rfl
    ·show(x.st id).frz x.st=_;rw[h6];rfl
   rw[this,h6];rfl
  ·exact zgY h0 hk.2 hl1 e he
theorem zfh(h0:Rel x y){A:LA}{n:Nat}{l:List V}(ha:A.ok n=true)(h:y.pack A=some l):zgb n (A.ts.map (·.1)) (A.es.map ECl.id) (x.frz A.fz):=by
 unfold Y.pack at h;split at h<;>first|(cases h;done)|skip
 rename_i l1 hl1;unfold LA.ok at ha;simp only[qa21]at ha;obtain⟨⟨h1,h2⟩,h3⟩:=ha;refine⟨h1,qa22.2 fun t ht=>?_,qa22.2 fun i hi=>?_⟩
 ·obtain⟨p,hp,rfl⟩:=qa35.1 ht;have:=pkT_on h0 h2 h p hp;cases hf:A.fz<;>rw[hf]at this<;>exact this
 ·obtain⟨e,he,rfl⟩:=qa35.1 hi;exact zgY h0 h3 hl1 e he
end
section
variable{P:Program}{G:Nat→V}{c:Orc}{lp:Lup}{n:Nat}{σ:List (Nat×Nat)}{A:List LA}{KP:V→(Nat→Ent)→Prop}
theorem zc0{Z:Type}{o:Option Z}{s:Stp Z}(h:om o=some s):∃z,s=.out z∧o=some z:=by
 unfold om at h;split at h<;>first|(cases h;done)|skip
 cases h;exact⟨_,rfl,rfl⟩
mutual
theorem zh3:∀{a b:V},veq a b=true→a=b
 |.bool _,b,h=>by cases b<;>simp_all [veq]
 |.int _ _,b,h=>by cases b<;>simp_all [veq]
 |.str _,b,h=>by cases b<;>simp_all [veq]
 |.list _,b,h=>by
  cases b<;>first|(simp[veq]at h;done)|skip
  simp only[veq]at h;rw[zcV h]
 |.agg _,b,h=>by
  cases b<;>first|(simp[veq]at h;done)|skip
  simp only[veq]at h;rw[zcV h]
 |.tup _,b,h=>by
  cases b<;>first|(simp[veq]at h;done)|skip
  simp only[veq]at h;rw[zcV h]
 |.nils,b,h=>by cases b<;>simp_all [veq]
 |.nilp,b,h=>by cases b<;>simp_all [veq]
 |.niface,b,h=>by cases b<;>simp_all [veq]
 |.undef,b,h=>by cases b<;>simp_all [veq]
 |.iface _ _,b,h=>by
  cases b<;>first|(simp[veq]at h;done)|skip
  simp only[veq,qa21,beq_iff_eq]at h;rw[h.1,zh3 h.2]
 |.ip _ _,b,h=>by
  cases b<;>first|(simp[veq]at h;done)|skip
  simp only[veq,qa21,beq_iff_eq]at h;rw[h.2,zh3 h.1]
 |.any,b,h=>by cases b<;>simp[veq]at h
 |.ptr _ _,b,h=>by cases b<;>simp_all [veq]
 |.mr _ _,b,h=>by cases b<;>simp_all [veq]
 |.rp _ _ _,b,h=>by cases b<;>simp[veq]at h
 |.ta _,b,h=>by cases b<;>simp[veq]at h
 |.row _ _,b,h=>by cases b<;>simp[veq]at h
 |.fn _ _ _,b,h=>by cases b<;>simp[veq]at h
theorem zcV:∀{a b:List V},veqs a b=true→a=b
 |[],b,h=>by cases b<;>simp_all [veqs]
 |x::a,b,h=>by
  cases b with
  |nil=>simp[veqs]at h
  |cons w b=>
   simp only[veqs,qa21]at h;rw[zh3 h.1,zcV h.2]
end
theorem zkB{Z:Type}{eq:Z→Z→Bool}(hq:∀a b,eq a b=true→a=b):∀a b,eqS eq a b=true→a=b:=by
 intro a b h;cases a<;>cases b<;>first|(cases h;done)|skip
 ·rw[zcV h]
 ·rw[hq _ _ h]
theorem zkj{Z:Type}{w:V}{A:Option Z}{r:Z}(h:nilV w A=some r):w=.nils∧A=some r:=by
 unfold nilV at h;split at h<;>first|(cases h;done)|exact⟨rfl,h⟩
theorem gho1_ok{Z:Type}{x:X}{y:Y}{j id:Nat}{K:Y→Option Z}{r:Z}(h:Rel x y)(he:gho1 P y j id K=some r):K y=some r∨∃x1 y1,(∀x',Gho n x1 x'→Gho n x x')∧Rel x1 y1∧K y1=some r:=by
 unfold gho1 at he;split at he
 ·rename_i T cs hc;split at he
  ·rename_i w hw;split at he<;>first|(cases he;done)|skip
   split at he<;>first|(cases he;done)|skip
   rename_i el z _ _ hg;split at he<;>first|(cases he;done)|skip
   rename_i hz;obtain⟨rfl,he⟩:=zkj he;right;have h1:=h.s id;rw[hc]at h1;obtain⟨us,h2,h3⟩:=h1;obtain⟨u,h4,h5⟩:=h3.get hw;obtain⟨rfl,_⟩:=h5;have hgr:x.st (zhD id j)=.gone:=by have:=h.s (zhD id j);rwa[hg]at this
   have hri:zhD id j≠id:=fun e=>by rw[e,hc]at hg;cases hg
   generalize hR:zhD id j=ρ at *;have hle1:Le y.s y.c (updN y.s ρ (.mq el z y.c (.list []))) (y.c+1):=zg8;have hle:Le y.s y.c (updN (updN y.s ρ (.mq el z y.c (.list []))) id (.blk T (cs.take j++.m ρ y.c::cs.drop (j+1)))) (y.c+1):=
    hle1.trans (zcz (y:=⟨y.e,updN y.s ρ (.mq el z y.c (.list [])),y.c+1⟩))
   have hs:∀i,i≠id→i≠ρ→(updN (updN y.s ρ (.mq el z y.c (.list []))) id (.blk T (cs.take j++.m ρ y.c::cs.drop (j+1)))) i=y.s i:=fun i a b=>by
    unfold updN;rw[if_neg a,if_neg b]
   have hsr:(updN (updN y.s ρ (.mq el z y.c (.list []))) id (.blk T (cs.take j++.m ρ y.c::cs.drop (j+1)))) ρ=.mq el z y.c (.list []):=by
    unfold updN;rw[if_neg hri,if_pos rfl]
   have hsi:(updN (updN y.s ρ (.mq el z y.c (.list []))) id (.blk T (cs.take j++.m ρ y.c::cs.drop (j+1)))) id=.blk T (cs.take j++.m ρ y.c::cs.drop (j+1)):=if_pos rfl;refine⟨_,_,fun x' g=>Gho.row id j ρ el z T us h2 h4 hgr hz g,⟨fun t=>(h.e t).le hle,fun i=>?_⟩,he⟩;show RelE _ _ (updN (updN y.s ρ (.mq el z y.c (.list []))) id (.blk T (cs.take j++.m ρ y.c::cs.drop (j+1))) i) (updE (updE x.st ρ (.mrow el z [])) id (.blk T (us.take j++.mr ρ 0::us.drop (j+1))) i);by_cases hi:i=id
   ·subst hi;rw[zai,hsi];refine⟨_,rfl,((h3.take j).le hle).append (.cons ⟨Nat.lt_succ_self _,⟨0,rfl⟩,fun T' z' v hv=>?_⟩ ((h3.drop (j+1)).le hle))⟩;try dsimp only at hv
    rw[hsr]at hv;rcases hv with hv|hv<;>cases hv;rfl
   ·rw[zab _ _ hi];by_cases hi2:i=ρ
    ·subst hi2;rw[zai,hsr];exact⟨Nat.lt_succ_self _,[],rfl,rfl,rfl⟩
    ·rw[zab _ _ hi2,hs i hi hi2];exact(h.s i).le hle
  ·exact .inl he
 ·exact .inl he
theorem frz1_ok{Z:Type}{x:X}{y:Y}{id:Nat}{K:Y→Option Z}{r:Z}(h:Rel x y)(he:frz1 n y id K=some r):K y=some r∨∃x1 y1,(∀x',Gho n x1 x'→Gho n x x')∧Rel x1 y1∧K y1=some r:=by
 unfold frz1 at he;split at he
 ·rename_i T z k v hq;split at he<;>first|(cases he;done)|skip
  rename_i hn;right;have h1:=h.s id;rw[hq]at h1;obtain⟨hk,xs,rfl,hw,h2⟩:=h1;have hle:Le y.s y.c (updN y.s id (.fq T z k (.list xs))) y.c:=le_frz hq;refine⟨_,_,fun x' g=>Gho.frz id T z xs h2 hn g,⟨fun t=>(h.e t).le hle,fun i=>?_⟩,he⟩;show RelE (updN y.s id (.fq T z k (.list xs))) y.c (updN y.s id (.fq T z k (.list xs)) i) (updE x.st id (.frow T z xs) i);by_cases hi:i=id
  ·subst hi;rw[zai];have:updN y.s i (.fq T z k (.list xs)) i=.fq T z k (.list xs):=if_pos rfl;rw[this];exact⟨hk,xs,rfl,hw,rfl⟩
  ·rw[zab _ _ hi];have:updN y.s id (.fq T z k (.list xs)) i=y.s i:=if_neg hi;rw[this];exact(h.s i).le hle
 ·exact .inl he
theorem zc1{Z:Type}{t:Nat}:∀{σ:List (Nat×Nat)} {x:X} {y:Y} {K:Y→Option Z} {r:Z},Rel x y→ghoY P n t σ y K=some r→∃x' y',Gho n x x'∧Rel x' y'∧K y'=some r
 |[],x,y,K,r,h,he=>⟨x,y,.refl x,h,he⟩
 |(a,id)::l,x,y,K,r,h,he=>by
  simp only[ghoY]at he;split at he
  ·split at he
   ·rcases frz1_ok h he with he|⟨x1,y1,h1,h2,h3⟩
    ·exact zc1 h he
    ·obtain⟨x',y',g1,g2,g3⟩:=zc1 h2 h3;exact⟨x',y',h1 x' g1,g2,g3⟩
   ·exact zc1 h he
  split at he
  ·rcases gho1_ok h he with he|⟨x1,y1,h1,h2,h3⟩
   ·exact zc1 h he
   ·obtain⟨x',y',g1,g2,g3⟩:=zc1 h2 h3;exact⟨x',y',h1 x' g1,g2,g3⟩
  ·exact zc1 h he
theorem ziC(hc:Sound P G c)(hl:LpOk lp):∀(code:C) {o:Nat} {Z:Type} {eq:Z→Z→Bool} {x:X} {y:Y} {K:PEx→Y→Option Z} {Kp:V→Y→Option Z} {r:Z} {Q:PEx→X→Prop} {KP:V→(Nat→Ent)→Prop},(∀a b,eq a b=true→a=b)→Rel x y →
  evC P c lp n σ A code o Z eq y K Kp=some r→(∀pe x' y',Rel x' y'→K pe y'=some r→Q pe x')→(∀v st y',RelS st y'→wf v=true→Kp v y'=some r→KP v st)→wpC P G n KP code Q x:=by
 intro code;induction code with
 |skip=>intro o Z eq x y K Kp r Q KP hq h he hK hP;exact hK _ _ _ h he
 |ret=>intro o Z eq x y K Kp r Q KP hq h he hK hP;exact hK _ _ _ h he
 |exit i=>intro o Z eq x y K Kp r Q KP hq h he hK hP;exact hK _ _ _ h he
 |reg t=>
  intro o Z eq x y K Kp r Q KP hq h he hK hP;simp only[evC]at he;obtain⟨x',y',h1,h2,h3⟩:=zc1 h he;exact⟨x',h1,zhc hc hq h2 h3 (hK .normal) hP⟩
 |scope b ih=>intro o Z eq x y K Kp r Q KP hq h he hK hP;exact ih hq h he hK hP
 |seq a b iha ihb=>
  intro o Z eq x y K Kp r Q KP hq h he hK hP;refine iha hq h he (fun pe x' y' h' he'=>?_) hP;cases pe with
  |normal=>exact ihb hq h' he' hK hP
  |exit i=>exact hK _ _ _ h' he'
  |ret=>exact hK _ _ _ h' he'
 |cond t a b iha ihb=>
  intro o Z eq x y K Kp r Q KP hq h he hK hP;obtain⟨v,y',h1,h2,h3⟩:=zkI h he;simp only[wpC,h1];cases v
  ·exact ihb hq h2 h3 hK hP
  ·exact iha hq h2 h3 hK hP
 |block id b ih=>
  intro o Z eq x y K Kp r Q KP hq h he hK hP;refine ih hq h he (fun pe x' y' h' he'=>?_) hP;cases pe with
  |normal=>exact hK _ _ _ h' he'
  |exit i=>
   simp only[zkQ];dsimp only at he';split at he'
   ·rename_i e;rw[if_pos e];exact hK _ _ _ h' he'
   ·rename_i e;rw[if_neg e];exact hK _ _ _ h' he'
  |ret=>exact hK _ _ _ h' he'
 |loop b ih=>
  intro o Z eq x y K Kp r Q KP hq h he hK hP;simp only[evC]at he;split at he<;>first|(cases he;done)|skip
  rename_i a ha;split at he<;>first|(cases he;done)|skip
  rename_i hok;split at he<;>first|(cases he;done)|skip
  rename_i l0 hl0;obtain⟨m0,hm0⟩:=hl _ _ _ _ he;generalize hF:(fun l=>evC P c lp n σ A b (o+1) (Stp Z) (eqS eq) (unpk a l) (fun e y=>match e with|.normal=>(match y.pack a with|some l=>some (Stp.next l)|none=>none)|.exit i=>om (K (.exit i) y)|.ret=>om (K .ret y)) (fun v y=>om (Kp v y)))=F at hm0;refine⟨a.fz,a.ts.map (·.1),a.es.map ECl.id,fun z=>∃m l,it m Z F l=some r∧Rel z (unpk a l),fun z=>zi7 fun m=>∃l,it m Z F l=some r∧Rel z (unpk a l),zfh h hok hl0,⟨m0,l0,hm0,zj5 h hl0⟩, ?_⟩;rintro z ⟨m1,l1,h1,h2⟩;obtain⟨⟨l,h3,h4⟩,_⟩:=zfo (p:=fun m=>∃l,it m Z F l=some r∧Rel z (unpk a l)) ⟨l1,h1,h2⟩;generalize hm:(zi7 fun m=>∃l,it m Z F l=some r∧Rel z (unpk a l))=m at h3 ⊢;cases m with
  |zero=>cases h3
  |succ m=>
   simp only[it]at h3;split at h3<;>first|(cases h3;done)|skip
   ·rename_i l' hl';rw[←hF]at hl';refine ih (zkB hq) h4 hl' (fun pe x' y' h' he'=>?_) (fun v st y' hs hv he'=>?_)
    ·cases pe with
     |normal=>
      dsimp only at he';split at he'<;>first|(cases he';done)|skip
      rename_i l2 hl2;cases he';have hr:=zj5 h' hl2;have hw:∃l,it m Z F l=some r∧Rel (scrub (a.ts.map (·.1)) (a.es.map ECl.id) (x'.frz a.fz)) (unpk a l):=⟨_,h3,hr⟩;refine⟨zfh h' hok hl2,⟨m,hw⟩, ?_⟩;dsimp only;rw[hm];exact(Nat.lt_succ_of_le (zfo (p:=fun m=>∃l,it m Z F l=some r∧Rel (scrub (a.ts.map (·.1)) (a.es.map ECl.id) (x'.frz a.fz)) (unpk a l)) hw).2)
     |exit i=>obtain⟨z',e,_⟩:=zc0 he';cases e
     |ret=>obtain⟨z',e,_⟩:=zc0 he';cases e
    ·obtain⟨z',e,_⟩:=zc0 he';cases e
   ·rename_i r' hl';cases h3;rw[←hF]at hl';refine ih (zkB hq) h4 hl' (fun pe x' y' h' he'=>?_) (fun v st y' hs hv he'=>?_)
    ·cases pe with
     |normal=>
      dsimp only at he';split at he'<;>first|(cases he';done)|skip
     |exit i=>obtain⟨z',e,h5⟩:=zc0 he';cases e;exact hK _ _ _ h' h5
     |ret=>obtain⟨z',e,h5⟩:=zc0 he';cases e;exact hK _ _ _ h' h5
    ·obtain⟨z',e,h5⟩:=zc0 he';cases e;exact hP _ _ _ hs hv h5
end
end
section
open Go Go.RowKit
theorem zgl:∀{a b:List Ent},eeqs a b=true→a=b
 |[],[],_=>rfl
 |[],_::_,h=>by cases h
 |_::_,[],h=>by cases h
 |x::a,w::b,h=>by
  simp only[eeqs,qa21]at h;rw[zgl h.2];have h1:=h.1;cases x<;>cases w<;>first|(cases h1;done)|skip
  all_goals simp only[eeq,qa21,beq_iff_eq]at h1
  ·rw[h1.1,zcV h1.2]
  ·rw[h1.1.1,h1.1.2,zcV h1.2]
theorem zke:∀(a b:Out),oeq a b=true→a=b:=by
 rintro⟨a,l⟩ ⟨b,m⟩ h;cases a<;>cases b<;>first|(cases h;done)|skip
 all_goals
  simp only[oeq,qa21]at h;rw[zh3 h.1,zgl h.2]
section
variable{P:Program}{G:Nat→V}{c:Orc}{lp:Lup}{A:List LA}
theorem zik{s:Nat→EN}{k n:Nat}{v:V}(h:argOk n v):RelR s k (argR v) v:=by
 have rs:∀(l:List V),(∀w∈l,wf w=true∨∃i o,w=.ptr i o∧i<n)→(l.map argS).map RS.v=l∧∀r∈(l.map argS),r.ok:=by
  intro l hl;constructor
  ·rw[List.map_map];refine(qa9 fun v _=>?_).trans (List.map_id l);cases v<;>rfl
  ·intro r hr;obtain⟨w,hw,rfl⟩:=qa35.1 hr;rcases hl w hw with h1|⟨i,o,rfl,_⟩
   ·cases w<;>first|exact h1|trivial
   ·trivial
 cases v<;>first|exact⟨rfl,h⟩|skip
 ·rfl
 ·rename_i f a b;have h:∀w∈a++b,wf w=true∨∃i o,w=.ptr i o∧i<n:=h;obtain⟨h1,h2⟩:=rs a fun w hw=>h w (by simp[hw]);obtain⟨h3,h4⟩:=rs b fun w hw=>h w (by simp[hw]);exact⟨by show V.fn f a b=V.fn f (List.map RS.v _) (List.map RS.v _);rw[h1,h3],h2,h4⟩
theorem zgW{args:List V}{ents:List Ent}(ha:∀v∈args,argOk ents.length v)(he:∀e∈ents,wfE e):Rel (zaK args ents) (strY (args.map argR) ents):=by
 refine⟨fun t=>?_,fun id=>?_⟩
 ·have h1:(zaK args ents).env t=args.getD t .any:=zdm args t;rw[h1];show RelR _ _ ((args.map argR).getD t .u) _;by_cases ht:t<args.length
  ·simp only[qa3,qa15,qa5 ht,Option.map_some,Option.getD_some];exact zik (ha _ (List.getElem_mem ht))
  ·simp only[qa3,qa15,List.getElem?_eq_none (Nat.le_of_not_lt ht),Option.map_none,Option.getD_none];trivial
 ·have h1:(zaK args ents).st id=ents.getD id .gone:=zcy ents id;rw[h1];show RelE _ _ (entN (ents.getD id .gone)) _;by_cases ht:id<ents.length
  ·simp only[qa3,qa5 ht,Option.getD_some];have h2:=he _ (List.getElem_mem ht);generalize ents[id]=e at h2;cases e with
   |blk T cs=>exact⟨cs,rfl,zdG h2⟩
   |_=>exact h2.elim
  ·simp only[qa3,List.getElem?_eq_none (Nat.le_of_not_lt ht),Option.getD_none];rfl
theorem cel_ok{L:List Ent}{v:V}(h:wfC L v):RelR (fun id=>(L.map entR).getD id .gone) 1 (celR v) v:=by
 rcases h with h|⟨j,T,z,xs,rfl,h⟩|⟨j,o,rfl⟩
 ·cases v<;>first|exact⟨rfl,h⟩|(simp[wf]at h;done)
 ·refine⟨Nat.one_pos,⟨_,rfl⟩,fun T' z' w hw=>?_⟩;simp only[qa3,qa15,h,Option.map_some,Option.getD_some,entR]at hw;rcases hw with hw|hw<;>cases hw;rfl
 ·rfl
theorem zkM{L:List Ent}:∀{cs:List V},(∀v∈cs,wfC L v)→RelRs (fun id=>(L.map entR).getD id .gone) 1 (cs.map celR) cs
 |[],_=>.nil
 |v::l,h=>.cons (cel_ok (h v (by simp))) (zkM fun w hw=>h w (by simp[hw]))
theorem zi1{args:List V}{ents:List Ent}(ha:∀v∈args,argOk ents.length v)(he:∀e∈ents,wfX ents e):Rel (zaK args ents) (strQ (args.map argR) (ents.map entR)):=by
 refine⟨fun t=>?_,fun id=>?_⟩
 ·have h1:(zaK args ents).env t=args.getD t .any:=zdm args t;rw[h1];show RelR _ _ ((args.map argR).getD t .u) _;by_cases ht:t<args.length
  ·simp only[qa3,qa15,qa5 ht,Option.map_some,Option.getD_some];exact zik (ha _ (List.getElem_mem ht))
  ·simp only[qa3,qa15,List.getElem?_eq_none (Nat.le_of_not_lt ht),Option.map_none,Option.getD_none];trivial
 ·have h1:(zaK args ents).st id=ents.getD id .gone:=zcy ents id;rw[h1];show RelE (fun id=>(ents.map entR).getD id .gone) 1 ((ents.map entR).getD id .gone) _;by_cases ht:id<ents.length
  ·have e0:(ents.map entR).getD id .gone=entR ents[id]:=by
    simp only[qa3,qa15,qa5 ht,Option.map_some,Option.getD_some]
   have e1:ents.getD id .gone=ents[id]:=by simp only[qa3,qa5 ht,Option.getD_some]
   have h2:=he _ (List.getElem_mem ht);rw[e0,e1];generalize ents[id]=e at h2;cases e with
   |blk T cs=>exact⟨cs,rfl,zkM h2⟩
   |mrow T z xs=>exact⟨Nat.one_pos,xs,rfl,h2,rfl⟩
   |_=>exact h2.elim
  ·simp only[qa3,qa15,List.getElem?_eq_none (Nat.le_of_not_lt ht),Option.map_none,Option.getD_none];rfl
theorem rv_ok{x:X}{y:Y}(h:Rel x y){r:RV}{v:V}(hv:y.rv r=some v):rvV x r=v∧wf v=true:=by
 cases r with
 |tmp t=>
  simp only[Y.rv]at hv;split at hv<;>first|(cases hv;done)|skip
  rename_i u hu;cases hv;obtain⟨h1,h2⟩:=zaB h.s (h.e t) hu;exact⟨by rw[rvV,h1],wf_norm1 h2⟩
 |cell t ag n=>
  simp only[Y.rv]at hv;have h0:=h.e t;split at hv<;>first|(cases hv;done)|skip
  ·rename_i id off ht;rw[ht]at h0;have h0:x.env t=.ptr id off:=h0;split at hv<;>first|(cases hv;done)|skip
   rename_i T cs hs;have h1:=h.s id;rw[hs]at h1;obtain⟨us,h2,h3⟩:=h1;split at hv
   ·split at hv<;>first|(cases hv;done)|skip
    rename_i hl;split at hv<;>first|(cases hv;done)|skip
    rename_i vs hvs;cases hv;obtain⟨h4,h5⟩:=zbJ h.s ((h3.drop off).take n) hvs;refine⟨?_,wf_norm1 (by simpa[wf]using h5)⟩;have hsem:semM 0 (.load true n (.t t)) x.env x.st=some (.agg vs,[]):=by
     simp only[semM,O.ev,h0,h2,h4];rw[if_pos ⟨by rw[←((h3.drop off).take n).length];exact hl,qa22.2 fun v hv=>zaU (zay.1 h5 v hv)⟩]
    simp only[rvV,hsem];rfl
   ·split at hv<;>first|(cases hv;done)|skip
    rename_i r hr;split at hv<;>first|(cases hv;done)|skip
    rename_i u hu;cases hv;obtain⟨w,h4,h5⟩:=h3.get hr;obtain⟨h6,h7⟩:=zaB h.s h5 hu;refine⟨?_,wf_norm1 h7⟩;have hsem:semM 0 (.load false n (.t t)) x.env x.st=some (w,[]):=by simp only[semM,O.ev,h0,h2,h4,one1]
    simp only[rvV,hsem,h6]
  ·rename_i w off ht;rw[ht]at h0;split at hv<;>first|(cases hv;done)|skip
   rename_i u hu;cases hv;have h7:=zks h0.2 hu;refine⟨?_,wf_norm1 h7⟩;simp only[rvV,zkt (slot:=0) (x:=x) (a:=.t t) h0.1 hu,wf_res x.st h7]
theorem rvs_ok{x:X}{y:Y}(h:Rel x y):∀{l:List RV} {vs:List V},y.rvs l=some vs→(l.map fun t=>rvV x t)=vs∧wfs vs=true
 |[],_,h=>by cases h;exact⟨rfl,rfl⟩
 |r::l,vs,hv=>by
  simp only[Y.rvs]at hv;split at hv<;>first|(cases hv;done)|skip
  rename_i v h1;split at hv<;>first|(cases hv;done)|skip
  rename_i vs' h2;cases hv;obtain⟨a1,a2⟩:=rv_ok h h1;obtain⟨b1,b2⟩:=rvs_ok h h2;exact⟨by rw[qa32,a1,b1],by simp[wfs,a2,b2]⟩
theorem zhK{x:X}{y:Y}(h:Rel x y){l:List RV}{v:V}(hv:y.outs l=some v):outV l x=v∧zg3 l x=true:=by
 unfold Y.outs at hv;split at hv
 ·rename_i r;obtain⟨h1,h2⟩:=rv_ok h hv;exact⟨h1,by simp only[zg3,h1];exact zaU h2⟩
 ·rename_i hne;split at hv<;>first|(cases hv;done)|skip
  rename_i vs hvs;cases hv;obtain⟨h1,h2⟩:=rvs_ok h hvs;constructor
  ·unfold outV;split
   ·exact absurd rfl (hne _)
   ·rw[h1]
  ·unfold zg3;split
   ·exact absurd rfl (hne _)
   ·rw[qa22];intro t ht;have:rvV x t∈vs:=by rw[←h1];exact qa35.2 ⟨t,ht,rfl⟩
    exact zaU (zay.1 h2 _ this)
theorem zaP{m j:Nat}(h:j<m):nameOf (List.range m) j=j:=by simp[nameOf,h]
theorem zgg{st:Nat→Ent}{y:Y}(h:RelS st y){n:Nat}{L es:List Ent}(hL:LsOk st y (List.range n) L)(he:y.ensQ (List.range n) L (List.range n) 0=some es):lentOf n st=es∧zbx n st:=by
 obtain⟨h1,h2,h3,h4,h5⟩:=zkq h hL he;simp only[List.length_range]at h1 h3 h5;have ren:∀e:Ent,e.on (fun k=>decide (k<n))=true→e.ren (nameOf (List.range n))=e:=by
  have key:∀v:V,v.on (fun k=>decide (k<n))=true→v.ren (nameOf (List.range n))=v:=by
   have kS:∀l:List V,l.all (onS fun k=>decide (k<n))=true→l.map (renS (nameOf (List.range n)))=l:=fun l hl=>by
    refine(qa9 fun v hv=>?_).trans (List.map_id l);have:=qa22.1 hl v hv;cases v<;>first|rfl|skip
    simp only[onS,qa16]at this;simp only[renS,zaP this,id]
   have kK:∀l:List V,l.all (onK fun k=>decide (k<n))=true→l.map (renK (nameOf (List.range n)))=l:=fun l hl=>by
    refine(qa9 fun v hv=>?_).trans (List.map_id l);have:=qa22.1 hl v hv;cases v<;>first|rfl|skip
    simp only[onK,qa16]at this;simp only[renK,zaP this,id]
   intro v hv;cases v<;>first|rfl|skip
   ·simp only[V.on,qa16]at hv;simp only[V.ren,zaP hv]
   ·simp only[V.on,qa16]at hv;simp only[V.ren,zaP hv]
   ·simp only[V.on,qa21]at hv;simp only[V.ren,kS _ hv.1,kS _ hv.2]
   ·simp only[V.on]at hv;simp only[V.ren,kK _ hv]
   ·simp only[V.on,qa16]at hv;simp only[V.ren,zaP hv]
   ·simp only[V.on,qa16]at hv;simp only[V.ren,zaP hv]
  intro e hv;cases e<;>first|rfl|skip
  rename_i T cs;simp only[Ent.on]at hv;simp only[Ent.ren];congr 1;exact(qa9 fun v hm=>key v (qa22.1 hv v hm)).trans (List.map_id cs)
 have e0:lentOf n st=es:=by
  refine List.ext_getElem? fun k=>?_;by_cases hk:k<n
  ·have h6:=h3 k hk;have h7:es[k]?=some (entF es k):=by simp[entF,qa5 (show k<es.length by omega)]
   rw[zaP hk,ren _ (h5 _ (zcK (by omega)))]at h6;rw[h7];simp[lentOf,hk,h6]
  ·rw[List.getElem?_eq_none (l:=es) (by omega),List.getElem?_eq_none (by simp[lentOf];omega)]
 refine⟨e0, ?_⟩;unfold zbx;rw[e0];exact qa22.2 h5
theorem zkp{x:X}{y:Y}(h:RelS x.st y){n:Nat}{es:List Ent}(he:y.entL (List.range n)=some es):lentOf n x.st=es∧zbx n x.st:=by
 obtain⟨h1,h2⟩:=zb1 h he;refine⟨h1.symm,qa22.2 fun e he=>?_⟩;exact zeZ (h2 e (by rw[h1];exact he)) _
theorem sg_le{n s:Nat}(hn:n≤s):∀{σ:List (Nat×Nat)},(σ.all fun p=>decide (n≤p.2))=true→∀k,s≤k→n≤sg σ k
 |[],_,k,hk=>qa36 hn hk
 |(a,b)::r,h,k,hk=>by
  simp only[qa34,qa21,qa16]at h;unfold sg;split
  ·exact h.1
  ·exact sg_le hn h.2 k hk
theorem evF_ok(hc:Sound P G c)(hl:LpOk lp){σ:List (Nat×Nat)}{s:Nat}{f:FuncId}{args:List V}{ents:List Ent}{o:POut}{es:List Ent}(ha:∀v∈args,argOk ents.length v)(he:∀e∈ents,wfX ents e)(h:evF P G c lp σ s A f (args.map argR) (ents.map entR)=some (o,es)):
  zaL P G f args ents fun o' es'=>o'=o∧es'=es:=by
 unfold evF at h;split at h<;>first|(cases h;done)|skip
 rename_i F hF;split at h<;>first|(cases h;done)|skip
 rename_i hlen;simp only[List.length_map]at hlen h;refine zj4 hF (sg_le hlen.1.1 hlen.1.2) hlen.2 (ziC hc hl F.code zke (zi1 ha he) h (fun pe x' y' hr hk=>?_) (fun v st y' hr hv hk=>?_))
 ·have fin:finK ents.length F.res .ret y'=some (o,es)→(POut.ret (outV F.res x')=o∧lentOf ents.length x'.st=es)∧zg3 F.res x'=true∧zbx ents.length x'.st:=by
   intro hk;simp only[finK]at hk;obtain⟨L,hk,hL⟩:=zfm hr.s hk;split at hk<;>first|(cases hk;done)|skip
   rename_i v es' h1 h2;cases hk;obtain⟨a1,a2⟩:=zhK hr h1;obtain⟨b1,b2⟩:=zgg hr.s hL h2;exact⟨⟨by rw[a1],b1⟩,a2,b2⟩
  cases pe with
  |normal=>exact fin hk
  |exit i=>cases hk
  |ret=>exact fin hk
 ·unfold finP at hk;obtain⟨L,hk,hL⟩:=zfm hr hk;split at hk<;>first|(cases hk;done)|skip
  rename_i es' h2;cases hk;obtain⟨b1,b2⟩:=zgg hr hL h2;exact⟨⟨rfl,b1⟩,b2⟩
end
end
section
open Go Go.RowKit
def Evt{Z:Type}(f:Nat→Option Z)(r:Z):Prop:=∃N,∀n,N≤n→f n=some r
def Tds{Z:Type}(f:Nat→Option Z)(o:Option Z):Prop:=∀r,o=some r→Evt f r
theorem Evt.and{Z Z':Type}{f:Nat→Option Z}{g:Nat→Option Z'}{r:Z}{s:Z'}(h:Evt f r)(h':Evt g s):∃N,∀n,N≤n→f n=some r∧g n=some s:=by
 obtain⟨N,h⟩:=h;obtain⟨M,h'⟩:=h';exact⟨max N M,fun n hn=>⟨h n (by omega),h' n (by omega)⟩⟩
theorem Evt.of{Z Z':Type}{f:Nat→Option Z}{g:Nat→Option Z'}{r:Z}{s:Z'}(h:Evt f r)(e:∀n,f n=some r→g n=some s):Evt g s:=by
 obtain⟨N,h⟩:=h;exact⟨N,fun n hn=>e n (h n hn)⟩
section
variable{Z:Type}{P:Program}{c:Nat→Orc}{c0:Orc}{lp:Nat→Lup}{lp0:Lup}{n0:Nat}{σ:List (Nat×Nat)}{A:List LA}
theorem zfJ{v:V}{f g:Nat→Option Z}{o p:Option Z}(hf:Tds f o)(hg:Tds g p):Tds (fun n=>cnd v (f n) (g n)) (cnd v o p):=by
 intro r h;obtain⟨b,rfl,h⟩:=zdp h;cases b
 ·exact(hg r h).of fun n e=>e
 ·exact(hf r h).of fun n e=>e
theorem tds_cndT{t:O}{y:Y}{f g:Nat→Y→Option Z}{o p:Y→Option Z}(hf:∀y,Tds (fun n=>f n y) (o y))(hg:∀y,Tds (fun n=>g n y) (p y)):Tds (fun n=>cndT t y (f n) (g n)) (cndT t y o p):=by
 unfold cndT;cases t with
 |t n=>
  dsimp only;split
  ·exact zfJ (hf _) (hg _)
  ·intro r h;cases h
 |c v=>exact zfJ (hf _) (hg _)
theorem zfL{v:V}{f:Nat→Option Z}{o:Option Z}(hf:Tds f o):Tds (fun n=>ck1 v (f n)) (ck1 v o):=fun r h=>by
 obtain⟨h1,h2⟩:=zcO h;exact(hf r h2).of fun n e=>by rw[ck1,if_pos h1,e]
theorem zfK{k:Nat}{v:V}{f:Nat→Option Z}{o:Option Z}(hf:Tds f o):Tds (fun n=>ckA k v (f n)) (ckA k v o):=fun r h=>by
 obtain⟨h1,h2⟩:=zcN h;exact(hf r h2).of fun n e=>by rw[ckA,if_pos h1,e]
theorem zjC{k:Nat}{v:V}{f:Nat→Option Z}{o:Option Z}(hf:Tds f o):Tds (fun n=>ckN k v (f n)) (ckN k v o):=by
 unfold ckN;split
 ·exact zfL hf
 ·exact zfK hf
theorem tds_ckE{T k:Nat}{e:Ent}{f:Nat→Option Z}{o:Option Z}(hf:Tds f o):Tds (fun n=>ckE T k e (f n)) (ckE T k e o):=fun r h=>by
 obtain⟨⟨cs,rfl,h1,h3⟩,h2⟩:=ziG h;exact(hf r h2).of fun n e=>by simp only[ckE,h1,h3,and_self,qa39,e]
theorem tds_bind{o:Option V}{f:Nat→V→Option Z}{p:V→Option Z}(hf:∀v,Tds (fun n=>f n v) (p v)):Tds (fun n=>o.bind (f n)) (o.bind p):=fun r h=>by
 obtain⟨v,rfl,h2⟩:=bind_some h;exact(hf v r h2).of fun n e=>e
theorem zaf{f:Nat→Option Z}:Tds f none:=fun _ h=>by cases h
theorem zhr{y:Y}:∀{ps:List (Nat×Nat×O)} {cs:List V} {f:Nat→List V→Option Z} {p:List V→Option Z},(∀v,Tds (fun n=>f n v) (p v))→Tds (fun n=>bldY y cs ps (f n)) (bldY y cs ps p)
 |[],cs,f,p,h=>h cs
 |(off,k,o)::r,cs,f,p,h=>by
  simp only[bldY];split
  ·split
   ·refine zfL ?_;split
    ·exact zhr h
    ·exact zaf
   ·refine zfK ?_;split
    ·exact zhr h
    ·exact zaf
  ·exact zaf
theorem zd1{y:Y}:∀{ps:List (Nat×Nat×O)} {cs:List RK} {f:Nat→List RK→Option Z} {p:List RK→Option Z},(∀v,Tds (fun n=>f n v) (p v))→Tds (fun n=>bldK y cs ps (f n)) (bldK y cs ps p)
 |[],cs,f,p,h=>h cs
 |(off,k,o)::r,cs,f,p,h=>by
  simp only[bldK];split
  ·split
   ·split
    ·exact zd1 h
    ·exact zaf
   ·exact zaf
  ·split
   ·refine zfL ?_;split
    ·exact zd1 h
    ·exact zaf
   ·refine zfK ?_;split
    ·exact zd1 h
    ·exact zaf
  ·exact zaf
theorem zjy{y:Y}{z:Nat}:∀{ps:List O} {cs:List V} {f:Nat→List V→Option Z} {p:List V→Option Z},(∀v,Tds (fun n=>f n v) (p v))→Tds (fun n=>sliY y z ps cs (f n)) (sliY y z ps cs p)
 |[],cs,f,p,h=>h cs
 |o::r,cs,f,p,h=>by
  simp only[sliY];split
  ·exact zjC (zjy h)
  ·exact zaf
theorem zfM{es:List Ent}:∀{ids:List Nat} {j:Nat} {y:Y} {f:Nat→Y→Option Z} {p:Y→Option Z},(∀y,Tds (fun n=>f n y) (p y))→Tds (fun n=>zhi es ids j y (f n)) (zhi es ids j y p)
 |[],j,y,f,p,h=>h y
 |i::l,j,y,f,p,h=>tds_ckE (zfM h)
theorem tds_lsV{v:V}{f:Nat→List V→Option Z}{p:List V→Option Z}(h:∀l,Tds (fun n=>f n l) (p l)):Tds (fun n=>lsV v (f n)) (lsV v p):=by
 unfold lsV;split
 ·exact h _
 ·exact zaf
theorem zho{y:Y}:∀{ids:List Nat} {f:Nat→List Ent→Option Z} {p:List Ent→Option Z},(∀l,Tds (fun n=>f n l) (p l))→Tds (fun n=>y.lsK ids (f n)) (y.lsK ids p)
 |[],f,p,h=>h []
 |i::l,f,p,h=>by
  simp only[Y.lsK];split
  ·exact tds_lsV fun xs=>zho fun L=>h _
  ·exact zho fun L=>h _
theorem zc8{es:List Ent}:∀{ids:List Nat} {j:Nat} {y:Y} {f:Nat→Y→Option Z} {p:Y→Option Z},(∀y,Tds (fun n=>f n y) (p y))→Tds (fun n=>zhj es ids j y (f n)) (zhj es ids j y p)
 |[],j,y,f,p,h=>h y
 |i::l,j,y,f,p,h=>by
  simp only[zhj];split
  ·unfold ckR;split
   ·split
    ·exact zc8 h
    ·exact zaf
   ·exact zaf
  ·exact zc8 h
theorem zc9{es:List Ent}{ids0:List Nat}:∀{ids:List Nat} {j:Nat} {y:Y} {f:Nat→Y→Option Z} {p:Y→Option Z},(∀y,Tds (fun n=>f n y) (p y))→Tds (fun n=>zhk es ids0 ids j y (f n)) (zhk es ids0 ids j y p)
 |[],j,y,f,p,h=>h y
 |i::l,j,y,f,p,h=>by
  simp only[zhk];split
  ·unfold ckQ;split
   ·split
    ·exact zc9 h
    ·exact zaf
   ·exact zaf
  ·exact zc9 h
theorem tds_ghoY{k t:Nat}:∀{σ:List (Nat×Nat)} {y:Y} {f:Nat→Y→Option Z} {p:Y→Option Z},(∀y,Tds (fun n=>f n y) (p y))→Tds (fun n=>ghoY P k t σ y (f n)) (ghoY P k t σ y p)
 |[],y,f,p,h=>h y
 |(a,id)::l,y,f,p,h=>by
  simp only[ghoY];split
  ·split
   ·unfold frz1
    repeat' (first|exact zaf|exact tds_ghoY h|split)
   ·exact tds_ghoY h
  split
  ·unfold gho1 nilV
   repeat' (first|exact zaf|exact tds_ghoY h|split)
  ·exact tds_ghoY h
theorem zhq(hc:∀g a e,Tds (fun n=>c n g a e) (c0 g a e)){g:FuncId}{args:List V}{ents:List Ent}{f fp:Nat→V→List Ent→Option Z}{p pp:V→List Ent→Option Z}(h:∀v e,Tds (fun n=>f n v e) (p v e))(hp:∀v e,Tds (fun n=>fp n v e) (pp v e)):
  Tds (fun n=>cal (c n) g args ents (f n) (fp n)) (cal c0 g args ents p pp):=by
 intro r hr;unfold cal at hr;split at hr<;>first|(cases hr;done)|skip
 ·rename_i v es ho;obtain⟨N,hN⟩:=(hc _ _ _ _ ho).and (h v es r hr);exact⟨N,fun n hn=>by simp only[cal,(hN n hn).1,(hN n hn).2]⟩
 ·rename_i v es ho;obtain⟨N,hN⟩:=(hc _ _ _ _ ho).and (hp v es r hr);exact⟨N,fun n hn=>by simp only[cal,(hN n hn).1,(hN n hn).2]⟩
variable{K:Nat→R→Y→Option Z}{Kp:Nat→V→Y→Option Z}{K0:R→Y→Option Z}{Kp0:V→Y→Option Z}
theorem tds_call(hc:∀g a e,Tds (fun n=>c n g a e) (c0 g a e)){k b:Bool}{f:O}{args:List O}{av:List Nat}{y:Y}{K:Nat→V→Y→Option Z}{K0:V→Y→Option Z}(hK:∀r y,Tds (fun n=>K n r y) (K0 r y))(hP:∀v y,Tds (fun n=>Kp n v y) (Kp0 v y)):
  Tds (fun n=>zfu (c n) k b f args av y (K n) (Kp n)) (zfu c0 k b f args av y K0 Kp0):=by
 unfold zfu;split
 ·dsimp only;split
  ·split
   ·split
    ·split
     ·exact zhq hc (fun v _=>hK v _) (fun v _=>hP v _)
     ·exact zhq hc (fun v _=>zfM (hK v)) (fun v _=>zfM (hP v))
    ·exact zaf
   ·exact zaf
  ·refine zho fun L=>?_;split
   ·split
    ·exact zhq hc (fun v _=>zc8 fun y=>zc9 (hK v)) (fun v _=>zc8 fun y=>zc9 (hP v))
    ·exact zaf
   ·exact zaf
 ·exact zaf
set_option maxHeartbeats 1000000 in
theorem zhp(hc:∀g a e,Tds (fun n=>c n g a e) (c0 g a e)){slot:Nat}{m:M}{av:List Nat}{y:Y}(hK:∀r y,Tds (fun n=>K n r y) (K0 r y))(hP:∀v y,Tds (fun n=>Kp n v y) (Kp0 v y)):
  Tds (fun n=>evM P (c n) slot m av y (K n) (Kp n)) (evM P c0 slot m av y K0 Kp0):=by
 cases m
 case call b f args=>exact tds_call hc (fun v y=>hK _ y) hP
 case pick o a b=>
  simp only[evM];exact tds_cndT (fun y=>hK (y.er a) y) (fun y=>hK (y.er b) y)
 all_goals
  simp only[evM]
  repeat' (first|exact hK _ _|exact hP _ _|exact zaf|refine tds_bind fun v=>?_|refine zhr fun v=>?_|refine zd1 fun v=>?_|refine zjy fun v=>?_|refine zfL ?_|refine zfK ?_|refine zjC ?_|split)
theorem tds_evS(hc:∀g a e,Tds (fun n=>c n g a e) (c0 g a e)){mo:MO}{y:Y}{K:Nat→Y→Option Z}{K0:Y→Option Z}(hK:∀y,Tds (fun n=>K n y) (K0 y))(hP:∀v y,Tds (fun n=>Kp n v y) (Kp0 v y)):
  Tds (fun n=>evS P (c n) mo y (K n) (Kp n)) (evS P c0 mo y K0 Kp0):=by
 unfold evS;split
 ·exact zhp hc (fun r y=>hK _) hP
 ·split
  ·exact hK _
  ·split
   ·exact zfJ (zhp hc (fun r y=>hK _) hP) (hK _)
   ·exact zfJ (hK _) (zhp hc (fun r y=>hK _) hP)
  ·exact zaf
theorem zen(hc:∀g a e,Tds (fun n=>c n g a e) (c0 g a e)){eq:Z→Z→Bool}:∀{t:RT} {y:Y} {K:Nat→Y→Option Z} {K0:Y→Option Z},(∀y,Tds (fun n=>K n y) (K0 y))→(∀v y,Tds (fun n=>Kp n v y) (Kp0 v y)) →
  Tds (fun n=>evR P (c n) eq t y (K n) (Kp n)) (evR P c0 eq t y K0 Kp0)
 |.done,y,K,K0,hK,hP=>hK y
 |.step mo t,y,K,K0,hK,hP=>tds_evS hc (fun y=>zen hc hK hP) hP
 |.alt a b,y,K,K0,hK,hP=>by
  intro r h;simp only[evR,agr]at h;split at h<;>first|(cases h;done)|skip
  rename_i u v hu hv;split at h<;>first|(cases h;done)|skip
  rename_i huv;cases h;obtain⟨N,hN⟩:=(zen hc hK hP _ hu).and (zen hc hK hP _ hv);exact⟨N,fun n hn=>by simp only[evR,agr,(hN n hn).1,(hN n hn).2,huv,qa39]⟩
 |.bad,_,_,_,_,_=>zaf
theorem zjz{f:Nat→Option Z}{o:Option Z}(hf:Tds f o):Tds (fun n=>om (f n)) (om o):=fun r h=>by
 obtain⟨z,rfl,h2⟩:=zc0 h;exact(hf z h2).of fun n e=>by simp only[e,om]
def LpT(lp:Nat→Lup)(lp0:Lup):Prop:=∀(Z:Type) (F:Nat→List V→Option (Stp Z)) (F0:List V→Option (Stp Z)),(∀l,Tds (fun n=>F n l) (F0 l))→∀l,Tds (fun n=>lp n Z (F n) l) (lp0 Z F0 l)
theorem zfI(hc:∀g a e,Tds (fun n=>c n g a e) (c0 g a e))(hl:LpT lp lp0):∀(code:C) {o:Nat} {Z:Type} {eq:Z→Z→Bool} {y:Y} {K:Nat→PEx→Y→Option Z} {K0:PEx→Y→Option Z} {Kp:Nat→V→Y→Option Z} {Kp0:V→Y→Option Z},(∀e y,Tds (fun n=>K n e y) (K0 e y))→(∀v y,Tds (fun n=>Kp n v y) (Kp0 v y)) →
  Tds (fun n=>evC P (c n) (lp n) n0 σ A code o Z eq y (K n) (Kp n)) (evC P c0 lp0 n0 σ A code o Z eq y K0 Kp0):=by
 intro code;induction code with
 |skip=>intro o Z eq y K K0 Kp Kp0 hK hP;exact hK _ _
 |ret=>intro o Z eq y K K0 Kp Kp0 hK hP;exact hK _ _
 |exit i=>intro o Z eq y K K0 Kp Kp0 hK hP;exact hK _ _
 |reg t=>intro o Z eq y K K0 Kp Kp0 hK hP;exact tds_ghoY fun y=>zen hc (hK _) hP
 |scope b ih=>intro o Z eq y K K0 Kp Kp0 hK hP;exact ih hK hP
 |seq a b iha ihb=>
  intro o Z eq y K K0 Kp Kp0 hK hP;refine iha (fun e y=>?_) hP;cases e with
  |normal=>exact ihb hK hP
  |exit i=>exact hK _ _
  |ret=>exact hK _ _
 |cond t a b iha ihb=>intro o Z eq y K K0 Kp Kp0 hK hP;exact tds_cndT (fun y=>iha hK hP) (fun y=>ihb hK hP)
 |block id b ih=>
  intro o Z eq y K K0 Kp Kp0 hK hP;refine ih (fun e y=>?_) hP;cases e with
  |normal=>exact hK _ _
  |exit i=>
   dsimp only;split
   ·exact hK _ _
   ·exact hK _ _
  |ret=>exact hK _ _
 |loop b ih=>
  intro o Z eq y K K0 Kp Kp0 hK hP;simp only[evC];split
  ·split
   ·split
    ·refine hl _ _ _ (fun l=>ih (fun e y=>?_) (fun v y=>zjz (hP v y))) _;cases e with
     |normal=>intro r h;exact⟨0,fun n _=>h⟩
     |exit i=>exact zjz (hK _ _)
     |ret=>exact zjz (hK _ _)
    ·exact zaf
   ·exact zaf
  ·exact zaf
theorem zjB(hc:∀g a e,Tds (fun n=>c n g a e) (c0 g a e))(hl:LpT lp lp0){G:Nat→V}{σ:List (Nat×Nat)}{s:Nat}{f:FuncId}{args:List R}{ents:List EN}:Tds (fun n=>evF P G (c n) (lp n) σ s A f args ents) (evF P G c0 lp0 σ s A f args ents):=by
 unfold evF;split
 ·split
  ·exact zfI hc hl _ (fun e y r h=>⟨0,fun _ _=>h⟩) (fun v y r h=>⟨0,fun _ _=>h⟩)
  ·exact zaf
 ·exact zaf
end
open Classical in
def lup:Lup:=fun Z F l=>if h:∃r,∃n,it n Z F l=some r then some h.choose else none
theorem it_mono{Z:Type}{F:List V→Option (Stp Z)}{r:Z}:∀{n m:Nat} {l:List V},n≤m→it n Z F l=some r→it m Z F l=some r
 |0,_,_,_,h=>by cases h
 |n+1,0,_,hle,_=>by omega
 |n+1,m+1,l,hle,h=>by
  simp only[it]at h ⊢;split at h<;>first|(cases h;done)|skip
  ·rename_i l' hl;exact it_mono (by omega) h
  ·exact h
theorem zis{Z:Type}{F:List V→Option (Stp Z)}{l:List V}{r:Z}:lup Z F l=some r↔∃n,it n Z F l=some r:=by
 unfold lup;constructor
 ·intro h;split at h<;>first|(cases h;done)|skip
  rename_i hx;cases h;exact hx.choose_spec
 ·rintro⟨n,h⟩;rw[dif_pos ⟨r,n,h⟩];obtain⟨m,hm⟩:=(Exists.choose_spec (⟨r,n,h⟩:∃r,∃n,it n Z F l=some r));have h1:=it_mono (Nat.le_max_left n m) h;have h2:=it_mono (Nat.le_max_right n m) hm;rw[h1]at h2;exact h2.symm
def stp{Z:Type}(L:List V→Option Z)(s:Option (Stp Z)):Option Z:=match s with
 |some (.next l)=>L l
 |some (.out z)=>some z
 |none=>none
theorem zko:LpT it lup:=by
 intro Z F F0 hF l r h;obtain⟨k,hk⟩:=zis.1 h;clear h;have key:∀(k:Nat)(l:List V),it k Z F0 l=some r→∃N,∀n,N≤n→∀j,k≤j→it j Z (F n) l=some r:=by
  intro k;induction k with
  |zero=>intro l h;cases h
  |succ k ih=>
   intro l h;simp only[it]at h;split at h<;>first|(cases h;done)|skip
   ·rename_i l' hl;obtain⟨N,hN⟩:=hF l _ hl;obtain⟨M,hM⟩:=ih l' h;refine⟨max N M,fun n hn j hj=>?_⟩;obtain⟨j,rfl⟩:∃i,j=i+1:=⟨j-1,by omega⟩;simp only[it,hN n (by omega)];exact hM n (by omega) j (by omega)
   ·rename_i z hl;cases h;obtain⟨N,hN⟩:=hF l _ hl;refine⟨N,fun n hn j hj=>?_⟩;obtain⟨j,rfl⟩:∃i,j=i+1:=⟨j-1,by omega⟩;simp only[it,hN n hn]
 obtain⟨N,hN⟩:=key k l hk;exact⟨max N k,fun n hn=>hN n (by omega) n (by omega)⟩
structure Pro where
 P:Program
 G:Nat→V
 A:FuncId→List Nat→List (Nat×Nat)×List LA
 D:FuncId→Bool
 B:Orc→Orc
 sound:∀c,Sound P G c→∀f,D f=true→∀args ents o es,(∀v∈args,argOk ents.length v)→(∀e∈ents,wfX ents e)→B c f args ents=some (o,es)→zaL P G f args ents (fun o' es'=>o'=o∧es'=es)
 tends:∀(c:Nat→Orc)(c0:Orc),(∀g a e,Tds (fun n=>c n g a e) (c0 g a e))→∀g a e,Tds (fun n=>B (c n) g a e) (B c0 g a e)
def Pro.step(p:Pro)(c:Orc)(lp:Lup):Orc:=fun f args ents=>match p.D f with
 |true=>p.B c f args ents
 |false=>evF p.P p.G c lp (p.A f (ents.map Ent.ty)).1 10 (p.A f (ents.map Ent.ty)).2 f (args.map argR) (ents.map entR)
def Pro.phi(p:Pro):Nat→Orc
 |0=>fun _ _ _=>none
 |n+1=>p.step (p.phi n) (it n)
theorem Pro.step_ok(p:Pro){c:Orc}{lp:Lup}(hc:Sound p.P p.G c)(hl:LpOk lp):Sound p.P p.G (p.step c lp):=by
 intro g args ents o es ha he h;unfold Pro.step at h;split at h
 ·rename_i hd;exact p.sound c hc g hd args ents o es ha he h
 ·exact evF_ok hc hl ha he h
theorem Pro.phi_ok(p:Pro):∀n,Sound p.P p.G (p.phi n)
 |0=>fun _ _ _ _ _ _ _ h=>by cases h
 |n+1=>p.step_ok (p.phi_ok n) (it_ok n)
open Classical in
def Pro.ev(p:Pro):Orc:=fun f a e=>if h:∃r,Evt (fun n=>p.phi n f a e) r then some h.choose else none
theorem Pro.ev_some(p:Pro){f:FuncId}{a:List V}{e:List Ent}{r:Out}:p.ev f a e=some r↔Evt (fun n=>p.phi n f a e) r:=by
 unfold Pro.ev;constructor
 ·intro h;split at h<;>first|(cases h;done)|skip
  rename_i hx;cases h;exact hx.choose_spec
 ·intro h;rw[dif_pos ⟨r,h⟩];obtain⟨N,hN⟩:=h.and (Exists.choose_spec (⟨r,h⟩:∃r,Evt (fun n=>p.phi n f a e) r));obtain⟨h1,h2⟩:=hN N (qa37 _);rw[h1]at h2;exact h2.symm
theorem Pro.ev_tds(p:Pro)(f:FuncId)(a:List V)(e:List Ent):Tds (fun n=>p.phi n f a e) (p.ev f a e):=fun _ h=>p.ev_some.1 h
theorem Pro.ev_step(p:Pro){f:FuncId}{a:List V}{e:List Ent}{r:Out}(h:p.step p.ev lup f a e=some r):p.ev f a e=some r:=by
 have key:Evt (fun n=>p.step (p.phi n) (it n) f a e) r:=by
  unfold Pro.step at h ⊢;cases hd:p.D f
  ·rw[hd]at h;exact zjB (fun g a e=>p.ev_tds g a e) zko _ h
  ·rw[hd]at h;exact p.tends _ _ (fun g a e=>p.ev_tds g a e) _ _ _ _ h
 obtain⟨N,hN⟩:=key;refine p.ev_some.2 ⟨N+1,fun n hn=>?_⟩;obtain⟨m,rfl⟩:∃m,n=m+1:=⟨n-1,by omega⟩;exact hN m (by omega)
theorem Pro.ev_ok(p:Pro):Sound p.P p.G p.ev:=by
 intro g args ents o es ha he h;obtain⟨N,hN⟩:=p.ev_some.1 h;exact p.phi_ok N g args ents o es ha he (hN N (qa37 _))
abbrev b0(op:BinOp)(x y:V):Option V:=binV op false false false x y
def agN(n:Nat)(v:V):V:=.agg (ziH n v)
def rtn(v:V)(es:List Ent):Option Out:=some (.ret v,es)
def pnk(v:V)(es:List Ent):Option Out:=some (.panic v,es)
def ag{Z:Type}(eq:Z→Z→Bool)(A:Option Z):Option Z:=agr eq A A
def cl0{Z:Type}(c:Orc)(g:FuncId)(args:List V)(Kp K:V→Option Z):Option Z:=cal0 c g args K Kp
theorem Pro.of (p:Pro) {f:FuncId} {a:List V} {e:List Ent} {es:List EN} {rs:List R} {σ:List (Nat×Nat)} {A:List LA} {r:Option Out} {z:Out} (hd:p.D f=false) (ha:a.map argR=rs) (hA:p.A f (e.map Ent.ty)=(σ,A)) (h:evF p.P p.G p.ev lup σ 10 A f rs es=r) (hr:r=some z) (he:e.map entR=es:=by rfl):p.ev f a e=some z:=by
 refine p.ev_step ?_;unfold Pro.step;rw[hd];dsimp only;rw[ha,hA,he,h,hr]
end
section
open Go Go.RowKit
section
variable{Z:Type}{A B:Option Z}
@[simp] theorem cnd_b (b:Bool):cnd (.bool b) A B=if b=true then A else B:=by cases b<;>rfl
@[simp] theorem bin_ii (op:BinOp) (b i s:Bool) (k:IntKind) (x y:Int):binV op b i s (.int k x) (.int k y)=zbd op k x y:=by simp[binV]
@[simp] theorem bin_ss (op:BinOp) (b i s:Bool) (x y:List UInt8):binV op b i s (.str x) (.str y)=strV op x y:=rfl
@[simp] theorem bin_bb (op:BinOp) (s x y:Bool):binV op true false s (.bool x) (.bool y)=(match op with|.eql=>some (.bool (x==y))|.neq=>some (.bool (!(x==y)))|_=>none):=by cases op<;>rfl
@[simp] theorem ar_add (k:IntKind) (x y:Int):zbd .add k x y=some (.int k (k.wrap (x+y))):=rfl
@[simp] theorem ar_sub (k:IntKind) (x y:Int):zbd .sub k x y=some (.int k (k.wrap (x-y))):=rfl
@[simp] theorem ar_mul (k:IntKind) (x y:Int):zbd .mul k x y=some (.int k (k.wrap (x*y))):=rfl
@[simp] theorem ar_eql (k:IntKind) (x y:Int):zbd .eql k x y=some (.bool (x==y)):=rfl
@[simp] theorem ar_neq (k:IntKind) (x y:Int):zbd .neq k x y=some (.bool (!(x==y))):=rfl
@[simp] theorem ar_lss (k:IntKind) (x y:Int):zbd .lss k x y=some (.bool (decide (x<y))):=rfl
@[simp] theorem ar_leq (k:IntKind) (x y:Int):zbd .leq k x y=some (.bool (decide (x≤y))):=rfl
@[simp] theorem ar_gtr (k:IntKind) (x y:Int):zbd .gtr k x y=some (.bool (decide (y<x))):=rfl
@[simp] theorem ar_geq (k:IntKind) (x y:Int):zbd .geq k x y=some (.bool (decide (y≤x))):=rfl
@[simp] theorem st_eql (x y:List UInt8):strV .eql x y=some (.bool (x==y)):=rfl
@[simp] theorem st_neq (x y:List UInt8):strV .neq x y=some (.bool (!(x==y))):=rfl
@[simp] theorem lenL_l (l:List V):lenL (.list l)=some (.int .i64 l.length):=rfl
@[simp] theorem lenS_s (l:List UInt8):lenS (.str l)=some (.int .i64 l.length):=rfl
@[simp] theorem ck1_i (k:IntKind) (x:Int):ck1 (.int k x) A=A:=rfl
@[simp] theorem ck1_s (x:List UInt8):ck1 (.str x) A=A:=rfl
@[simp] theorem ck1_b (x:Bool):ck1 (.bool x) A=A:=rfl
@[simp] theorem ck1_l (x:List V):ck1 (.list x) A=A:=rfl
@[simp] theorem nm_i (k:IntKind) (x:Int):norm1 (.int k x)=.int k x:=rfl
@[simp] theorem nm_s (x:List UInt8):norm1 (.str x)=.str x:=rfl
@[simp] theorem nm_b (x:Bool):norm1 (.bool x)=.bool x:=rfl
@[simp] theorem nm_l (x:List V):norm1 (.list x)=.list x:=rfl
@[simp] theorem nm_t (x:List V):norm1 (.tup x)=.tup x:=rfl
@[simp] theorem ext_t (l:List V) (i:Nat):extV (.tup l) i=l[i]?:=rfl
@[simp] theorem un_not (b:Bool):zhw .not (.bool b)=some (.bool (!b)):=rfl
@[simp] theorem mm_max (k:IntKind) (x y:Int):zgH .max (.int k x) (.int k y)=some (.int k (max x y)):=by
 simp only[zgH];congr 2;by_cases h:x<y<;>simp[h,Int.max_def]<;>omega
theorem el_map{α:Type}(z:Nat)(f:α→V)(l:List α)(k:IntKind)(i:Nat)(hz:∀x,(f x).size=z):elV z (.list (l.map f)) (.int k (i:Int))=(l[i]?).map f:=by
 unfold elV;simp only[norm0,Int.toNat_natCast,qa15];cases l[i]? with
 |none=>rfl
 |some x=>simp[hz]
@[simp] theorem gt_0 (a:V) (l:List V):gt (a::l) 0=a:=rfl
@[simp] theorem gt_s (a:V) (l:List V) (n:Nat):gt (a::l) (n+1)=gt l n:=rfl
@[simp] theorem ziJ (l:List V) (j:Nat):cell (.agg l) j=l.getD j .undef:=rfl
@[simp] theorem stp_om (L:List V→Option Z) (o:Option Z):stp L (om o)=o:=by cases o<;>rfl
@[simp] theorem stp_next (L:List V→Option Z) (l:List V):stp L (some (.next l))=L l:=rfl
@[simp] theorem stp_out (L:List V→Option Z) (z:Z):stp L (some (.out z))=some z:=rfl
@[simp] theorem stp_ite (L:List V→Option Z) (p:Prop) [Decidable p] (a b:Option (Stp Z)):stp L (if p then a else b)=if p then stp L a else stp L b:=by split<;>rfl
@[simp] theorem one_i (k:IntKind) (x:Int):V.one (.int k x)=true:=rfl
@[simp] theorem one_s (x:List UInt8):V.one (.str x)=true:=rfl
@[simp] theorem one_b (x:Bool):V.one (.bool x)=true:=rfl
@[simp] theorem one_l (x:List V):V.one (.list x)=true:=rfl
@[simp] theorem one_n:V.one .nils=true:=rfl
@[simp] theorem n0_i (k:IntKind) (x:Int):norm0 (.int k x)=.int k x:=rfl
@[simp] theorem n0_s (x:List UInt8):norm0 (.str x)=.str x:=rfl
@[simp] theorem n0_b (x:Bool):norm0 (.bool x)=.bool x:=rfl
@[simp] theorem n0_l (x:List V):norm0 (.list x)=.list x:=rfl
@[simp] theorem n0_n:norm0 .nils=.list []:=rfl
@[simp] theorem nm_a (x:List V):norm1 (.agg x)=.agg (x.map norm0):=rfl
@[simp] theorem agN_agg (n:Nat) (l:List V) (h:l.length=n):agN n (.agg l)=.agg l:=by
 unfold agN ziH;rw[zb4 (v:=.agg l) (by simpa[V.size,V.cells]using h)];rfl
theorem ckA_agg(n:Nat)(l:List V)(h:l.length=n)(h2:l.all V.one=true):ckA n (.agg l) A=A:=by
 unfold ckA;rw[if_pos ⟨rfl,by simpa[V.size,V.cells]using h,h2⟩]
theorem zkK{c:Orc}{g:FuncId}{args:List V}{v:V}{es:List Ent}(h:c g args []=some (.ret v,es))(Kp K:V→Option Z):cl0 c g args Kp K=K v:=by simp only[cl0,cal0,cal,h]
end
end
end Vm
namespace Go.Proofs.YtplflngjpajcmaaGreatDoor
section
open Go.RowKit
open Vm
def zc6:List LA:=[⟨false,[(0,.c (.p 0 0)),(1,.d),(10,.d),(11,.d),(12,.d)],[.bv 0 233 2]⟩]
def zcF:List LA:=[⟨false,[(0,.c (.p 0 0)),(1,.f [.p 0 0] []),(2,.d),(3,.d),(8,.c (.p 10 0)),(9,.c (.p 13 0))],[.bv 0 233 2,.bv 10 77 11,.bv 13 77 11]⟩]
def zcR:List LA:=[⟨false,[(0,.c (.p 0 0)),(3,.q 13)],[.bv 0 233 2,.rq 13 77 11]⟩]
def zcG:List LA:=[⟨false,[(0,.c (.p 0 0)),(2,.c (.p 10 0)),(3,.c (.p 12 0)),(4,.d)],[.bv 0 233 2,.bv 10 77 11,.blk 12 77 [.d,.d,.d,.d,.d,.d,.d,.d,.d,.d,.q 24],.rq 24 77 11]⟩]
def annTc(f:FuncId)(d:List (Nat×Nat)×List LA):List (Nat×Nat)×List LA:=if f=256 then([],zc6)else if f=230 then([],zcF)else if f=275 then([(77,74)],[])else if f=285 then([(21,13)],zcR)else if f=295 then([(43,24),(56,24)],zcG)else d
end
section
open Go.RowKit
open Vm
def zdr:List LA:=[⟨false,[(1,.c (.p 10 0)),(3,.d),(4,.d)],[.bv 10 77 11]⟩]
def zgs:List LA:=[⟨false,[(3,.d),(7,.d),(8,.d),(9,.d)],[]⟩]
def zcC:List LA:=[⟨false,[(0,.d),(3,.d),(4,.d)],[]⟩]
def zc4:List LA:=[⟨false,[(4,.d),(5,.d),(6,.d)],[]⟩]
def annTu(f:FuncId)(d:List (Nat×Nat)×List LA):List (Nat×Nat)×List LA:=if f=221 then([],zdr)else if f=203 then([],zgs)else if f=100 then([],zcC)else if f=40 then([],zc4)else d
end
end Go.Proofs.YtplflngjpajcmaaGreatDoor
namespace Vm
section
open Go Go.RowKit
def isDefer:Code→Bool
 |.region _ ops false=>ops.toList.any fun o=>match o.op with|.defer _=>true|_=>false
 |_=>false
def cutD:Code→Option (List Code×Code×Code)
 |.seq a b=>if isDefer a=true then some ([],a,b)else match cutD b with|some (l,d,r)=>some (a::l,d,r)|none=>none
 |_=>none
def seqs:List Code→Code→Code
 |[],d=>d
 |a::l,d=>.seq a (seqs l d)
theorem zkG:∀{code:Code} {l:List Code} {d r:Code},cutD code=some (l,d,r)→code=seqs l (.seq d r):=by
 intro code;induction code with
 |seq a b iha ihb=>
  intro l d r h;simp only[cutD]at h;split at h
  ·cases h;rfl
  ·split at h
   ·rename_i hb;cases h;rw[ihb hb];rfl
   ·cases h
 |_=>intro l d r h;simp only[cutD]at h;cases h
def defD:Code→Option (Nat×FuncId×Array Operand)
 |.region _ ops false=>match ops.toList with
  |[⟨some d1,.makeFunc (.func g) first cap,_,_,_,none⟩,⟨none,.defer ⟨.value (.tmp d),args,_⟩,_,_,_,none⟩]=>if d=d1∧first.toList.length=0∧args.toList.length=0 then some (d1,g,cap)else none
  |_=>none
 |_=>none
theorem zkX{α:Type}{a:Array α}(h:a.toList.length=0):a=#[]:=by simpa using h
theorem wp_defD{P:Program}{code:Code}{d1:Nat}{g:FuncId}{cap:Array Operand}{a:Act}{w:World}{Kw:Act→World→Prop}{Q:Exit→Act→World→Prop}(h:defD code=some (d1,g,cap))(hd:d1<a.tmps.size)
  (hK:Kw { a.put (some d1) (.func (.func g) #[] (cap.map a.eval))with defers:={ target:=.fn (.func g) (cap.map a.eval),args:=#[] } :: a.defers } w):code.wp P (Exit.then Kw Q) a w:=by
 unfold defD at h;split at h<;>first|(cases h;done)|skip
 rename_i id ops;split at h<;>first|(cases h;done)|skip
 rename_i e1 g' first cap' ty1 po1 af1 d args at1 ty2 po2 af2 hl;split at h<;>first|(cases h;done)|skip
 rename_i hc;obtain⟨rfl,hc1,hc2⟩:=hc;obtain⟨rfl⟩:=zkX hc1;obtain⟨rfl⟩:=zkX hc2;cases h;refine wp_region_list ?_;rw[hl];have hmf:∀(fn:Fn)(first cap:Array Value)(w:World),(Instr.makeFunc fn first cap).run P w=.ok (.func fn first cap) w:=fun _ _ _ _=>rfl;have hev:(a.put (some d1) (.func (.func g) #[] (cap.map a.eval))).eval (.tmp d1)=.func (.func g) #[] (cap.map a.eval):=by
  have:=zf9 a (some d1) (.func (.func g) #[] (cap.map a.eval)) d1;rw[if_pos ⟨rfl,hd⟩]at this;exact this
 simp only[wpList,Region.wanted,qa39];refine .inl ?_;unfold Oper.wp;rw[show(execOp a.eval { dst:=some d1,op:=Op.makeFunc (Fn.func g) #[] cap,type:=ty1,pos:=po1,after:=af1,guard:=none }).run P w=.ok (.value (.func (.func g) #[] (cap.map a.eval))) w by simp[execOp,hmf],Oper.upon_value];refine .inl ?_;rw [show (execOp (a.put (some d1) (.func (.func g) #[] (cap.map a.eval))).eval { dst:=none,op:=Op.defer { callee:=Callee.value (Operand.tmp d1),args:=#[],argTypes:=at1 },type:=ty2,pos:=po2,after:=af2,guard:=none }).run P w=.ok (.defer { target:=.fn (.func g) (cap.map a.eval),args:=#[] }) w by
  simp[execOp,resolve,Deferred.ofValue,hev],Oper.upon_defer]
 exact hK
def Pin(T:List (Nat×Value))(a:Act):Prop:=∀p∈T,a.tmps.getD p.1 Go.undef=p.2
def noDst(ts:List Nat)(o:Oper):Bool:=match o.dst with|some d=>!ts.contains d|none=>true
theorem Pin.put{T:List (Nat×Value)}{a:Act}(h:Pin T a){o:Oper}(hd:noDst (T.map (·.1)) o=true)(v:Value):Pin T (a.put o.dst v):=by
 intro p hp;rw[zf9,if_neg ?_]
 ·exact h p hp
 ·rintro⟨h1, -⟩;unfold noDst at hd;rw[h1]at hd;simp at hd;exact hd p.2 hp
theorem zeg{P:Program}{o:Oper}{a:Act}{K K':Act→World→Prop}{Q Q':Exit→Act→World→Prop}(hK:∀a w,K a w→K' a w)(hQ:∀e a w,Q e a w→Q' e a w){r:Result Next}(h:o.upon P a K Q r):o.upon P a K' Q' r:=by
 cases r with
 |ok n w'=>
  cases n with
  |value v=>exact hK _ _ h
  |skip=>exact hK _ _ h
  |defer d=>exact hK _ _ h
  |enter f args=>
   refine Calls.mono h ?_;rintro(_|_|_) w'' hr
   ·exact hK _ _ hr
   ·exact hQ _ _ _ hr
   ·obtain⟨a,w,hq⟩:=hr;exact⟨a,w,hQ _ _ _ hq⟩
  |row r args=>exact Rows.mono h fun _ _ hr=>hK _ _ hr
  |_=>exact h
 |halt s w'=>cases s with
  |panic v=>exact hQ _ _ _ h
  |_=>exact h
theorem zh5{P:Program}{o:Oper}{a:Act}{K:Act→World→Prop}{Q:Exit→Act→World→Prop}{T:List (Nat×Value)}(hd:noDst (T.map (·.1)) o=true)(hp:Pin T a)(hO:∀a w,¬Q .outgrown a w){r:Result Next}(h:o.upon P a K Q r):
  o.upon P a (fun a w=>K a w∧Pin T a) (fun e a w=>Q e a w∧Pin T a) r:=by
 cases r with
 |ok n w'=>
  cases n with
  |value v=>exact⟨h,hp.put hd v⟩
  |skip=>exact⟨h,hp.put hd _⟩
  |defer d=>exact⟨h,Pin.put (a:={ a with defers:=d::a.defers }) hp hd _⟩
  |enter f args=>
   refine Calls.mono h ?_;rintro(_|_|_) w'' hr
   ·exact⟨hr,hp.put hd _⟩
   ·exact⟨hr,hp⟩
   ·obtain⟨a,w,hq⟩:=hr;exact absurd hq (hO a w)
  |row r args=>exact Rows.mono h fun _ _ hr=>⟨hr,hp.put hd _⟩
  |_=>exact h
 |halt s w'=>cases s with
  |panic v=>exact⟨h,hp⟩
  |_=>exact h
theorem zfn{Q:Exit→Act→World→Prop}(hO:∀a w,¬Q .outgrown a w):¬LetsOut Q:=fun⟨a,w,h⟩=>hO a w h
theorem zdv{P:Program}{ops:Array Oper}{Q:Exit→Act→World→Prop}{T:List (Nat×Value)}(hO:∀a w,¬Q .outgrown a w):∀(l:List Oper)(a:Act)(w:World),(∀o∈l,noDst (T.map (·.1)) o=true)→Pin T a→wpList P ops Q l a w→wpList P ops (fun e a w=>Q e a w∧Pin T a) l a w
 |[],a,w,_,hp,h=>⟨h,hp⟩
 |o::l,a,w,hl,hp,h=>by
  unfold wpList at h ⊢;have hd:=hl o (by simp);split
  ·rename_i hw;rw[if_pos hw]at h;rcases h with h|⟨_,h⟩
   ·refine .inl (zeg ?_ (fun e a w h=>h) (zh5 hd hp hO h));rintro a' w' ⟨h1,h2⟩;exact zdv hO l a' w' (fun o ho=>hl o (by simp[ho])) h2 h1
   ·exact absurd h (zfn hO)
  ·rename_i hw;rw[if_neg hw]at h;exact zdv hO l _ w (fun o ho=>hl o (by simp[ho])) (hp.put hd _) h
theorem zc7{P:Program}{md:Region.Mode}{ops:Array Oper}{Q:Exit→Act→World→Prop}{T:List (Nat×Value)}(hO:∀a w,¬Q .outgrown a w)(hl:∀o∈ops.toList,noDst (T.map (·.1)) o=true):∀(fuel:Nat)(listed:Array Bool)(a:Act)(w:World),Pin T a→wpAny P md ops Q fuel listed a w→wpAny P md ops (fun e a w=>Q e a w∧Pin T a) fuel listed a w
 |0,listed,a,w,hp,h=>⟨h.1,h.2,hp⟩
 |fuel+1,listed,a,w,hp,h=>by
  refine⟨fun e=>⟨h.1 e,hp⟩,fun i hi=>?_⟩;have h1:=h.2 i hi;unfold wpOp at h1 ⊢;split at h1
  ·rename_i ho;exact zc7 hO hl fuel _ a w hp h1
  ·rename_i o ho;have hd:=hl o (by simpa using Array.mem_of_getElem? ho);split
   ·rename_i hw;rw[if_pos hw]at h1;rcases h1 with h1|⟨_,h1⟩
    ·refine .inl (zeg ?_ (fun e a w h=>h) (zh5 hd hp hO h1));rintro a' w' ⟨h2,h3⟩;exact zc7 hO hl fuel _ a' w' h3 h2
    ·exact absurd h1 (zfn hO)
   ·rename_i hw;rw[if_neg hw]at h1;exact zc7 hO hl fuel _ _ w (hp.put hd _) h1
def flat(ts:List Nat):Code→Bool
 |.skip=>true
 |.ret=>true
 |.region _ ops _=>ops.toList.all (noDst ts)
 |.seq a b=>flat ts a && flat ts b
 |.cond _ a b=>flat ts a && flat ts b
 |.scope b=>flat ts b
 |_=>false
section
variable{P:Program}{c:Ctx}{ops:Array Oper}{Kp:V→(Nat→Ent)→Prop}{T:List (Nat×Value)}
abbrev LQT(c:Ctx)(T:List (Nat×Value))(Kp:V→(Nat→Ent)→Prop)(Q:PEx→X→Prop):Exit→Act→World→Prop:=fun e a w=>LQ c Kp Q e a w∧Pin T a
theorem reg_okT(hp:zeX c.n0 Kp){σ:List (Nat×Nat)}{s id:Nat}(hs:∀k,s≤k→c.n0≤sg σ k){draw:Bool}{t:RT}(hc:zeM P c.N c.G σ s ops draw=some t){Q:PEx→X→Prop}{x:X}{a:Act}{w:World}{H:Nat→Value}{A:Nat→Nat→Prop}(hx:SimH c x a w H A)(h:wpR P c.G Kp (Q .normal) t x)
  (hl:∀o∈ops.toList,noDst (T.map (·.1)) o=true) (hpin:Pin T a):(Code.region id ops draw).wp P (LQT c T Kp Q) a w:=by
 have hO:∀a w,¬LQ c Kp Q .outgrown a w:=fun _ _ h=>h;unfold zeM at hc;split at hc
 ·rename_i ms hms;obtain⟨h1,h2⟩:=zbz _ _ _ _ hms;have hslot:∀(i:Nat)(mo:MO),ms[i]?=some mo→c.n0≤mo.slot:=fun i mo hm=>by
   have hi:i<ops.toList.length:=by rw[←h1];exact(qa4.1 hm).1
   rw[(h2 i _ mo (qa5 hi) hm).2];exact hs _ (Nat.le_add_right _ _)
  split at hc
  ·rename_i hd;split at hc
   ·rename_i hm;cases hc;subst hd;obtain⟨A',hx'⟩:=hx.drew;have hC:Comped P c ops ms:=⟨by simpa using h1,fun i o mo ho hm=>(h2 i o mo (by simpa using ho) hm).1,hslot⟩;exact wp_region_any hm (zc7 hO hl _ _ _ _ hpin (zdN hC _ _ x (zfB hC hp _ _ x h) a _ H A' hx'))
   ·cases hc
  ·rename_i hd;have hd':draw=false:=by simpa using hd
   subst hd';cases hc;exact wp_region_list (zdv hO _ _ _ hl hpin (zfA (mos:=ms) hslot ops.toList ms h1 (fun i o mo hi hm=>⟨(h2 i o mo hi hm).1,hslot i mo hm⟩) x a w H A hx h))
 ·cases hc
theorem LQT_then{Q:PEx→X→Prop}{K:X→Prop}{Kw:Act→World→Prop}(hK:∀x a w H A,SimH c x a w H A→Pin T a→K x→Kw a w):∀e a w,LQT c T Kp (thenP K Q) e a w→Exit.then Kw (LQT c T Kp Q) e a w
 |.normal,a,w,⟨⟨x,H,A,h,hk⟩,hp⟩=>hK x a w H A h hp hk
 |.exit _,_,_,h=>h
 |.goto _,_,_,h=>h
 |.ret,_,_,h=>h
 |.panic _,_,_,h=>h
 |.outgrown,_,_,h=>h
theorem code_okT(hp:zeX c.n0 Kp)(hE:∀id,c.E0 id≠.gone→id<c.n0){σ:List (Nat×Nat)}:∀{code:Code} {s s':Nat} {t:C},flat (T.map (·.1)) code=true→(∀k,s≤k→c.n0≤sg σ k)→compC P c.N c.G σ s code=some (t,s')→∀{Q:PEx→X→Prop} {x:X} {a:Act} {w:World} {H:Nat→Value} {A:Nat→Nat→Prop},SimH c x a w H A→Pin T a→wpC P c.G c.n0 Kp t Q x→code.wp P (LQT c T Kp Q) a w:=by
 intro code;induction code with
 |skip=>intro s s' t _ hs h Q x a w H A hx hpin hw;cases h;exact wp_skip ⟨⟨x,H,A,hx,hw⟩,hpin⟩
 |ret=>intro s s' t _ hs h Q x a w H A hx hpin hw;cases h;exact wp_ret ⟨⟨x,H,A,hx,hw⟩,hpin⟩
 |region id ops draw=>
  intro s s' t hf hs h Q x a w H A hx hpin hw;simp only[compC]at h;split at h
  ·rename_i ht;cases h;obtain⟨x',hg,hw⟩:=hw;obtain⟨H',A',hx'⟩:=SimH.gho hE hg hx;exact reg_okT hp hs ht hx' hw (qa22.1 hf) hpin
  ·cases h
 |seq p q ihp ihq=>
  intro s s' t hf hs h Q x a w H A hx hpin hw;simp only[flat,qa21]at hf;simp only[compC]at h;split at h
  ·rename_i h1;split at h
   ·rename_i h2;cases h;exact wp_seq (Code.wp_mono (LQT_then (fun x' a' w' H' A' hx' hp' hK=>ihq hf.2 (fun k hk=>hs k (qa36 (zcM h1) hk)) h2 hx' hp' hK)) (ihp hf.1 hs h1 hx hpin hw))
   ·cases h
  ·cases h
 |cond o p q ihp ihq=>
  intro s s' t hf hs h Q x a w H A hx hpin hw;simp only[flat,qa21]at hf;simp only[compC]at h;split at h
  ·rename_i o' ho;split at h
   ·rename_i h1;split at h
    ·rename_i h2;cases h;have h3:=zac hx ho;simp only[wpC]at hw;split at hw
     ·rename_i hb;rw[hb]at h3;have h4:=h3.data rfl;generalize hv:a.eval o=v at h4;cases h4;exact wp_cond_true hv (ihp hf.1 hs h1 hx hpin hw)
     ·rename_i hb;rw[hb]at h3;have h4:=h3.data rfl;generalize hv:a.eval o=v at h4;cases h4;exact wp_cond_false hv (ihq hf.2 (fun k hk=>hs k (qa36 (zcM h1) hk)) h2 hx hpin hw)
     ·exact hw.elim
    ·cases h
   ·cases h
  ·cases h
 |scope b ih=>
  intro s s' t hf hs h Q x a w H A hx hpin hw;simp only[flat]at hf;simp only[compC]at h;split at h
  ·rename_i h1;cases h;refine wp_scope_straight (Code.wp_mono ?_ (ih hf hs h1 hx hpin hw));rintro(_|i|_|_|_|_) a' w' hq<;>first|exact hq|exact hq.1.elim
  ·cases h
 |_=>intro s s' t hf;cases hf
end
end
section
open Go Go.RowKit
def cutR:Code→Option (Option Nat×List Oper×Array Oper×Code)
 |.seq (.region _ ops false) r=>match ops.toList with
  |⟨d,.call ⟨.builtin .recover,_,_⟩,_,_,_,none⟩::os=>some (d,os,ops,r)
  |_=>none
 |_=>none
def zbo(n:Nat):List V:=(List.range n).map fun i=>.ptr i 0
def nol:Lup:=fun _ _ _=>none
theorem zkh:LpOk nol:=fun _ _ _ _ h=>by cases h
def gW{Z:Type}(m:V)(A:Option Z):Option Z:=if wf m=true then A else none
def evG(P:Program)(G:Nat→V)(c:Orc)(g:FuncId)(es:List Ent)(mode:V):Option (List Ent):=match P.funcs[g]? with
 |some fn=>if fn.name == "runtime.NumGoroutine" then none else match fn.body with
  |some code=>match cutR code with
   |some (d,os,ops,r)=>match zeO P fn.ntmps G ops none [] 20 1 os,compC P fn.ntmps G [] 300 r,fn.results.toList with
    |some ms,some (t,_),[]=>if es.length≤20∧es.length≤fn.ntmps then gW mode<|
      evR P c eeqs (zhf ms) ((strY ((zbo es.length).map argR) es).put d (.d mode)) (fun y=>evC P c nol es.length [] [] t 0 (List Ent) eeqs y (fun e y=>match e with|.exit _=>none|_=>y.entL (List.range es.length)) fun _ _=>none) (fun _ _=>none)
     else none
    |_,_,_=>none
   |none=>none
  |none=>none
 |none=>none
section
variable{P:Program}{c:Ctx}{ops:Array Oper}{Kp:V→(Nat→Ent)→Prop}
theorem zgt{Q:PEx→X→Prop}{Q':Exit→Act→List Frame→World→Prop}{cs:List Frame}(hQ:∀e a w,LQ c Kp Q e a w→Q' e a cs w):∀(l:List Oper)(ms:List MO)(k:Nat),(∀j,l[j]?=ops[k+j]?)→ms.length=l.length→(∀(i:Nat)(o:Oper)(mo:MO),l[i]?=some o→ms[i]?=some mo→zcc P c.N c.G ops mo.slot mo.av o=some mo∧c.n0≤mo.slot) →
  ∀(x:X)(a:Act)(w:World)(H:Nat→Value)(A:Nat→Nat→Prop),SimH c x a w H A→wpR P c.G Kp (Q .normal) (zhf ms) x→wpOpsS P ops Q' (List.range' k l.length) a cs w
 |[],ms,k,_,hl,_,x,a,w,H,A,hx,h=>by
  cases ms with
  |nil=>exact hQ .normal _ _ ⟨x,H,A,hx,h⟩
  |cons _ _=>simp at hl
 |o::l,ms,k,hk,hl,he,x,a,w,H,A,hx,h=>by
  cases ms with
  |nil=>simp at hl
  |cons m ms=>
   obtain⟨h1,h2⟩:=he 0 o m rfl rfl;have h3:=step_ok hx h2 h1 h (Q:=Q) (Kw:=fun a w=>wpOpsS P ops Q' (List.range' (k+1) l.length) a cs w) (fun x' a' w' H' A' hx' hK=>zgt hQ l ms (k+1) (fun j=>by have:=hk (j+1);simpa[Nat.add_assoc,Nat.add_comm 1 j]using this) (by simpa using hl) (fun i o mo hi hm=>he (i+1) o mo (by simpa using hi) (by simpa using hm)) x' a' w' H' A' hx' hK);have h0:ops[k]?=some o:=by simpa using(hk 0).symm
   rw[qa20,List.range'_succ];simp only[wpOpsS,h0];split at h3
   ·rename_i hw;rw[if_pos hw];unfold Oper.wp at h3;split
    ·rename_i w' hr;rw[hr]at h3;exact h3.elim
    ·exact zeg (fun _ _ h=>h) hQ h3
   ·rename_i hw;rw[if_neg hw];exact h3
end
theorem zk1(n:Nat)(es:List Ent)(hn:n≤es.length)(he:∀e∈es,wfE e):Rel (zaK (zbo n) es) (strY ((zbo n).map argR) es):=by
 refine zgW (fun v hv=>?_) he;obtain⟨i,hi,rfl⟩:=qa35.1 hv;show i<es.length;have:=List.mem_range.1 hi;omega
inductive Mode:V→Value→FrameMode→FrameMode→Prop where
 |idle:Mode .niface .nilIface .returning .returning
 |stop (v:V) (xv:Value):Mode v xv (.panicking [{ v:=xv,recovered:=false }]) (.panicking [{ v:=xv,recovered:=true }])
theorem Mode.rec1{v:V}{xv:Value}{u u':FrameMode}(h:Mode v xv u u'){c₀:Frame}(hu:c₀.mode=u)(cs:List Frame)(F:Value→List Frame→Prop)(hF:F xv ({ c₀ with mode:=u' } :: cs)):(match recoverD (c₀::cs)with|some (v,cs')=>F v cs'|none=>F .nilIface (c₀::cs)):=by
 cases h with
 |idle=>
  have:recoverD (c₀::cs)=none:=by simp only[recoverD,hu]
  rw[this];cases c₀
  simp_all
 |stop=>
  have:recoverD (c₀::cs)=some (xv,{ c₀ with mode:=.panicking [{ v:=xv,recovered:=true }] } :: cs):=by simp only[recoverD,hu]
  rw[this];exact hF
theorem Mode.settle{v:V}{xv:Value}{u u':FrameMode}(h:Mode v xv u u'):u≠.run∧settle u'=.returning:=by
 cases h with
 |idle=>exact⟨by simp,rfl⟩
 |stop=>exact⟨by simp,rfl⟩
def GR(G:Nat→V)(w:World)(H:Nat→Value)(A:Nat→Nat→Prop)(es es2:List Ent)(u':FrameMode)(e:Ending)(v:FrameMode)(w':World):Prop:=
 e=.returned (.tuple #[])∧v=u'∧∃H' A',es2.length=es.length∧(∀e∈es2,wfE e)∧Mem ⟨w,A,es.length,H,entF es,G,0,[]⟩ (entF es2) w' H' A'
set_option maxHeartbeats 1000000 in
theorem evG_ok{P:Program}{G:Nat→V}{c:Orc}(hc:Sound P G c){g:FuncId}{es es2:List Ent}{mode:V}(h:evG P G c g es mode=some es2)(he:∀e∈es,wfE e):zcT P g=true∧∀(w:World)(H:Nat→Value)(A:Nat→Nat→Prop)(vals:Array Value)(u u':FrameMode)(xm:Value),
  Mem ⟨w,A,es.length,H,entF es,G,0,[]⟩ (entF es) w H A→zam w A (entF es) H (zbo es.length) vals.toList→RepV w A mode xm→Mode mode xm u u' →
  CallsD P g vals u w (GR G w H A es es2 u'):=by
 unfold evG at h;split at h<;>first|(cases h;done)|skip
 rename_i fn hf;split at h<;>first|(cases h;done)|skip
 rename_i hname;split at h<;>first|(cases h;done)|skip
 rename_i code hb;split at h<;>first|(cases h;done)|skip
 rename_i d os ops r hcut;split at h<;>first|(cases h;done)|skip
 rename_i ms t s' hms ht hres;split at h<;>first|(cases h;done)|skip
 rename_i hle;obtain⟨hle1,hle2⟩:=hle;unfold gW at h;split at h<;>first|(cases h;done)|skip
 rename_i hwm;refine⟨by simp only[zcT,hf,qa21,qa18];exact⟨by simpa using hname,by rw[hb];rfl⟩,fun w H A vals u u' xm m hv hm hmode=>?_⟩;refine callsD_of_wpS hf hb fun c₀ cs hu=>?_;unfold cutR at hcut;split at hcut<;>first|(cases hcut;done)|skip
 rename_i id ops' r';split at hcut<;>first|(cases hcut;done)|skip
 rename_i d' a1 a2 ty po af os' hops;cases hcut;have hlen:=zaE hv;have hal:(zbo es.length).length=es.length:=by simp[zbo]
 have hva:vals.size=es.length:=by rw[hal]at hlen;simpa using hlen.symm
 let cx:Ctx:=⟨w,A,es.length,H,entF es,G,fn.ntmps,[]⟩;have hE:∀id,cx.E0 id≠.gone→id<cx.n0:=fun id hg=>Nat.lt_of_not_le (fun hle=>hg (zbE hle));have hst:(zaK (zbo es.length) es).st=entF es:=funext fun id=>zcy es id;have hm0:Mem cx (zaK (zbo es.length) es).st w H A:=by rw[hst];exact m.forN fn.ntmps
 have hsim:SimH cx (zaK (zbo es.length) es) { tmps:=vals++Array.replicate (fn.ntmps-vals.size) Go.undef,defers:=[] } w H A:=by
  refine hm0.sim (by simp;show vals.size+(fn.ntmps-vals.size)=fn.ntmps;omega) rfl (fun t ht=>?_);rw[hst];have he:(zaK (zbo es.length) es).env t=(zbo es.length).getD t .any:=zdm _ t;rw[he];by_cases hta:t<(zbo es.length).length
  ·obtain⟨u,h3,h4⟩:=zbk hv t (zbo es.length)[t] (qa5 hta);have h5:(vals++Array.replicate (fn.ntmps-vals.size) Go.undef).getD t Go.undef=u:=by
    have h6:vals[t]?=some u:=by simpa using h3
    simp only[qa2];rw[Array.getElem?_append_left (by omega),h6];rfl
   simp only[];rw[h5];simpa[qa5 hta]using h4
  ·have:(zbo es.length).getD t .any=.any:=by simp [List.getElem?_eq_none (Nat.le_of_not_lt hta)]
   rw[this];trivial
 have hsim1:=hsim.putv d mode xm (hm.toT);have hrel:Rel ((zaK (zbo es.length) es).put d mode []) ((strY ((zbo es.length).map argR) es).put d (.d mode)):=(zk1 _ _ (qa37 _) he).put ⟨rfl,hwm⟩;have hR:=zhc hc (fun a b=>zgl) hrel h (Q:=fun x=>PEx.normal=PEx.normal∧∃y,Rel x y∧evC P c nol es.length [] [] t 0 (List Ent) eeqs y (fun e y=>match e with|.exit _=>none|_=>y.entL (List.range es.length)) (fun _ _=>none)=some es2) (KP:=fun _ _=>False) (fun x' y' hr hk=>⟨rfl,y',hr,hk⟩) (fun v st y' _ _ hk=>by cases hk);have hsz:ops.size=os.length+1:=by rw[←Array.length_toList,hops];rfl
 have h0:ops[0]?=some ⟨d,.call ⟨.builtin .recover,a1,a2⟩,ty,po,af,none⟩:=by rw[←Array.getElem?_toList,hops];rfl
 obtain⟨hm1,hm2⟩:=zbz _ _ _ _ hms;have hpk:zeX cx.n0 (fun _ _=>False):=fun _ _ _ _ h=>h;apply wpS_seq;apply wpS_region;rw[hsz,List.range_eq_range',List.range'_succ];have hrun:∀a:Act,(execOp a.eval { dst:=d,op:=.call ⟨.builtin .recover,a1,a2⟩,type:=ty,pos:=po,after:=af,guard:=none:Oper }).run P w=.ok .recover w:=fun a=>by
  simp[execOp,resolve,invoke];rfl
 simp only[wpOpsS,h0,Region.wanted,qa39,hrun];refine hmode.rec1 hu cs (fun v cs'=>wpOpsS P ops _ (List.range' (0+1) os.length) (Act.put _ d v) cs' w) ?_;refine zgt (c:=cx) (Kp:=fun _ _=>False) (Q:=fun e x=>e=.normal∧∃y,Rel x y∧evC P c nol es.length [] [] t 0 (List Ent) eeqs y (fun e y=>match e with|.exit _=>none|_=>y.entL (List.range es.length)) (fun _ _=>none)=some es2) ?_ os ms 1 (fun j=>?_) hm1 (fun i o mo hi hm=>⟨(hm2 i o mo hi hm).1, ?_⟩) _ _ w H A hsim1 hR
 ·rintro(_|i|_|_|ch|_) a' w' hq
  ·obtain⟨x,H1,A1,hx, -,y,hr,hk⟩:=hq;refine wpS_of_wp ?_;have hw:=ziC hc zkh t (fun a b=>zgl) hr hk (Q:=fun pe x=>pe≠.exit 0∧(∀i,pe≠.exit i)∧lentOf es.length x.st=es2∧zbx es.length x.st∧∀e∈es2,wfE e) (KP:=fun _ _=>False) (fun pe x' y' hr hk=>?_) (fun v st y' _ _ hk=>by cases hk)
   ·refine Code.wp_mono ?_ (zhS (c:=cx) hpk hE (fun k hk=>by simp only [sg];show es.length≤k;omega) ht hx hw);have fin:∀(x:X)(a':Act)(w':World)(H':Nat→Value)(A':Nat→Nat→Prop),SimH cx x a' w' H' A'→lentOf es.length x.st=es2→zbx es.length x.st→(∀e∈es2,wfE e)→bodyPostS P fn c₀ cs (GR G w H A es es2 u') .ret a' ({ c₀ with mode:=u' } :: cs) w':=by
     intro x a' w' H' A' hx h1 h2 h3;refine⟨hx.df,u',rfl,.tuple #[], ?_,rfl,rfl,H',A',by rw[←h1];simp[lentOf],h3, ?_⟩
     ·have hr0:fn.results=#[]:=by simpa using hres
      simp[results,hr0]
     ·have:=(hx.mem.drop hE h2).forN 0;rw[show lentOf cx.n0 x.st=es2 from h1]at this;exact this
    rintro(_|i|_|_|ch|_) a' w' hq
    ·obtain⟨x,H',A',hx, -, -,h1,h2,h3⟩:=hq;exact fin x a' w' H' A' hx h1 h2 h3
    ·obtain⟨x,H',A',hx, -,h0, -⟩:=hq;exact absurd rfl (h0 i)
    ·exact hq.elim
    ·obtain⟨x,H',A',hx, -, -,h1,h2,h3⟩:=hq;exact fin x a' w' H' A' hx h1 h2 h3
    ·obtain⟨x,H',A',v,xv, -, -, -,hq⟩:=hq;exact hq.elim
    ·exact hq.elim
   ·cases pe with
    |exit i=>cases hk
    |normal=>
     obtain⟨h1,h2⟩:=zkp hr.s hk;exact⟨by simp,by simp,h1,h2,(zb1 hr.s hk).2⟩
    |ret=>
     obtain⟨h1,h2⟩:=zkp hr.s hk;exact⟨by simp,by simp,h1,h2,(zb1 hr.s hk).2⟩
  ·obtain⟨x,H2,A2,hx,hq, -⟩:=hq;cases hq
  ·exact hq.elim
  ·obtain⟨x,H2,A2,hx,hq, -⟩:=hq;cases hq
  ·obtain⟨x,H2,A2,v,xv, -, -, -,hq⟩:=hq;exact hq.elim
  ·exact hq.elim
 ·rw[←Array.getElem?_toList,hops,Nat.add_comm 1 j,List.getElem?_cons_succ]
 ·rw[(hm2 i o mo hi hm).2];show es.length≤sg [] (20+i);simp only[sg];omega
end
section
open Go Go.RowKit
def compL(P:Program)(N:Nat)(G:Nat→V):Nat→List Code→Option (List C×Nat)
 |s,[]=>some ([],s)
 |s,c::l=>match compC P N G [] s c with
  |some (t,s1)=>(match compL P N G s1 l with|some (ts,s2)=>some (t::ts,s2)|none=>none)
  |none=>none
def evP(P:Program)(c:Orc)(KR:Y→Option Out):List C→Y→(Y→Option Out)→Option Out
 |[],y,K=>K y
 |t::l,y,K=>evC P c nol 0 [] [] t 0 Out oeq y (fun e y=>match e with|.normal=>evP P c KR l y K|.ret=>KR y|.exit _=>none) (fun v _=>some (.panic v,[]))
def capI(y:Y):List Operand→Option (List Nat)
 |[]=>some []
 |.tmp t::r=>(match y.e t with|.p i 0=>(match capI y r with|some l=>some (i::l)|none=>none)|_=>none)
 |_=>none
def reR(y:Y)(ids:List Nat):R→R
 |.d v=>.d v
 |.i x o=>.i x o
 |.q i k=>(match y.dat (.q i k)with|some v=>.d v|none=>.u)
 |.p i o=>if i∈ids then .p (ids.findIdx (· == i)) o else .u
 |.un=>.un
 |_=>.u
def resY(y:Y)(ids:List Nat)(es:List Ent)(d1:Nat):Y:=⟨fun t=>if t=d1 then .u else reR y ids (y.e t),fun id=>entN (es.getD id .gone),0⟩
def pinR(T:List (Nat×Nat))(t:Nat):R:=match T with
 |[]=>.u
 |(i,k)::r=>if t=i then .p k 0 else pinR r t
def pinY(T:List (Nat×Nat))(k:Nat)(y:Y):Y:=⟨pinR T,fun i=>if i<k then y.s i else .gone,y.c⟩
def isPin(y:Y)(p:Nat×Nat):Bool:=match y.e p.1 with|.p k 0=>k==p.2|_=>false
def cloD(P:Program)(G:Nat→V)(c:Orc)(g:FuncId)(m k:Nat)(res:List RV)(mode:V)(y:Y):Option Out:=match y.entL (List.range m)with
 |some es1=>(evG P G c g es1 mode).bind fun es2=>if es2.length=m then zhi es2 (List.range m) 0 y (fun y=>match y.outs res,y.entL (List.range k)with|some v,some _=>some (.ret v,[])|_,_=>none)else none
 |none=>none
def cloP(P:Program)(G:Nat→V)(c:Orc)(g:FuncId)(m k:Nat)(res:List RV)(T:List (Nat×Nat))(mode:V)(y:Y):Option Out:=match y.entL (List.range k)with
 |some _=>cloD P G c g m k res mode (pinY T k y)
 |none=>none
def evFD(P:Program)(G:Nat→V)(c:Orc)(ids:List Nat)(T:List (Nat×Nat))(f:FuncId)(args:List R):Option Out:=match P.funcs[f]? with
 |some fn=>if fn.name == "runtime.NumGoroutine" then none else match fn.body with
  |some code=>match cutD code with
   |some (l,dc,r)=>match defD dc,compL P fn.ntmps G 10 l,compC P fn.ntmps G [] 600 r,resT P fn.ntmps fn.results.toList with
    |some (d1,g,cap),some (cl,_),some (t,_),some res=>if(args.length≤fn.ntmps∧d1<fn.ntmps∧ids.length≤600∧(cap.toList.all fun o=>match o with|.tmp t=>decide (t<fn.ntmps)|_=>false)=true)∧(ids.Nodup∧flat (T.map (·.1)) r=true∧(T.all fun p=>decide (p.1<fn.ntmps∧p.2<ids.length))=true)then
      evP P c (finK 0 res .ret) cl (strY args []) fun y=>match capI y cap.toList,y.entL ids with
       |some m,some es=>if m=ids.take m.length∧T.all (isPin (resY y ids es d1))=true then
         evC P c nol ids.length [] [] t 0 Out oeq (resY y ids es d1) (fun e y=>match e with|.exit _=>none|_=>cloD P G c g m.length ids.length res .niface y) (fun v y=>cloP P G c g m.length ids.length res T v y)
        else none
       |_,_=>none
     else none
    |_,_,_,_=>none
   |none=>none
  |none=>none
 |none=>none
theorem zj0{P:Program}{c:Orc}{cx:Ctx}(hc:Sound P cx.G c)(hn:cx.n0=0)(hE:∀id,cx.E0 id≠.gone→id<cx.n0){KR K:Y→Option Out}{r:Out}{dc:Code}{Qw:Exit→Act→World→Prop}
  (hK:∀x y a w H A,Rel x y→SimH cx x a w H A→K y=some r→dc.wp P Qw a w)
  (hR:∀x y a w H A,Rel x y→SimH cx x a w H A→KR y=some r→Qw .ret a w)
  (hP:∀x a w H A v xv,SimH cx x a w H A→RepV w A v xv→r=(.panic v,[])→Qw (.panic [{ v:=xv,recovered:=false }]) a w):
  ∀(l:List Code)(s:Nat)(cl:List C)(s':Nat),compL P cx.N cx.G s l=some (cl,s')→∀x y a w H A,Rel x y→SimH cx x a w H A→evP P c KR cl y K=some r→(seqs l dc).wp P Qw a w
 |[],s,cl,s',hcl,x,y,a,w,H,A,hr,hs,h=>by
  cases hcl;exact hK x y a w H A hr hs h
 |p::l,s,cl,s',hcl,x,y,a,w,H,A,hr,hs,h=>by
  simp only[compL]at hcl;split at hcl<;>first|(cases hcl;done)|skip
  rename_i t s1 h1;split at hcl<;>first|(cases hcl;done)|skip
  rename_i ts s2 h2;cases hcl;simp only[evP]at h;have hw:=ziC hc zkh t zke hr h (n:=0) (Q:=fun pe x=>∃y,Rel x y∧(match pe with|.normal=>evP P c KR ts y K|.ret=>KR y|.exit _=>none)=some r) (KP:=fun v _=>r=(.panic v,[])) (fun pe x' y' hr hk=>⟨y',hr,hk⟩) (fun v st y' _ _ hk=>by cases hk;rfl);refine wp_seq (Code.wp_mono ?_ (zhS (c:=cx) (fun v _ _ _ h=>h) hE (fun k hk=>by rw[hn];exact Nat.zero_le _) h1 hs (by rw[hn];exact hw)));rintro(_|i|_|_|ch|_) a' w' hq
  ·obtain⟨x',H',A',hx,y',hr',hk⟩:=hq;exact zj0 hc hn hE hK hR hP l s1 ts s' h2 x' y' a' w' H' A' hr' hx hk
  ·obtain⟨x',H',A',hx,y',hr',hk⟩:=hq;cases hk
  ·exact hq.elim
  ·obtain⟨x',H',A',hx,y',hr',hk⟩:=hq;exact hR x' y' a' w' H' A' hr' hx hk
  ·obtain⟨x',H',A',v,xv,rfl,hrep,hx,hk⟩:=hq;exact hP x' a' w' H' A' v xv hx hrep hk
  ·exact hq.elim
def Fin0(w:World)(A:Nat→Nat→Prop)(G:Nat→V)(H:Nat→Value)(R:POut→Prop)(e:Ending)(w':World):Prop:=
 ∃o H' A',R o∧Mem ⟨w,A,0,H,entF [],G,0,[]⟩ (entF []) w' H' A'∧OutRep w' A' o e
theorem zg1{P:Program}{G:Nat→V}{f:FuncId}{fn:Func}{code:Code}{args:List V}{R:POut→Prop}(hf:P.funcs[f]?=some fn)(hname:(fn.name == "runtime.NumGoroutine")=false)(hb:fn.body=some code)(ha:args.length≤fn.ntmps)
  (h:∀(w:World)(H:Nat→Value)(A:Nat→Nat→Prop)(a:Act),SimH ⟨w,A,0,H,entF [],G,fn.ntmps,[]⟩ (zaK args []) a w H A→code.wp P (bodyPostD P fn (Fin0 w A G H R)) a w):zaL P G f args [] fun o es=>R o∧es=[]:=by
 refine⟨by simp only[zcT,hf,qa21,qa18];exact⟨by simpa using hname,by rw[hb];rfl⟩,fun w H A vals m hv=>?_⟩;have hlen:=zaE hv;have hva:vals.size=args.length:=by simpa using hlen.symm
 have hst:(zaK args []).st=entF []:=funext fun id=>zcy [] id;refine Calls.mono (calls_of_wp_defers (R:=Fin0 w A G H R) hf hb (h w H A _ ?_)) ?_
 ·have hm:Mem ⟨w,A,0,H,entF [],G,fn.ntmps,[]⟩ (zaK args []).st w H A:=by rw [hst];exact m.forN fn.ntmps
  refine hm.sim (by simp;show vals.size+(fn.ntmps-vals.size)=fn.ntmps;omega) rfl (fun t ht=>?_);rw[hst];have he:(zaK args []).env t=args.getD t .any:=zdm args t;rw[he];by_cases hta:t<args.length
  ·obtain⟨u,h3,h4⟩:=zbk hv t args[t] (qa5 hta);have h5:(vals++Array.replicate (fn.ntmps-vals.size) Go.undef).getD t Go.undef=u:=by
    have h6:vals[t]?=some u:=by simpa using h3
    simp only[qa2];rw[Array.getElem?_append_left (by omega),h6];rfl
   simp only[];rw[h5];simpa[qa5 hta]using h4
  ·have:args.getD t .any=.any:=by simp [List.getElem?_eq_none (Nat.le_of_not_lt hta)]
   rw[this];trivial
 ·rintro e w' ⟨o,H',A',h1,h2,h3⟩;exact⟨o,[],H',A',⟨h1,rfl⟩,rfl,fun e he=>by simp at he,h2,h3⟩
theorem ziw{st:Nat→Ent}{ids:List Nat}{es:List Ent}(hn:ids.Nodup)(he:es=ids.map st)(hw:∀e∈es,wfE e):Lends st ids es:=by
 have hlen:es.length=ids.length:=by rw[he];simp
 have hk:∀k,k<ids.length→entF es k=st (nameOf ids k)∧wfE (entF es k):=fun k hk=>by
  have h1:entF es k∈es:=zcK (by omega);refine⟨?_,hw _ h1⟩;simp[entF,nameOf,he,qa5 hk]
 refine⟨hn,hlen,fun k hk'=>?_,fun k hk'=>?_,fun e he'=>zeZ (hw e he') _⟩
 ·obtain⟨h1,h2⟩:=hk k hk';rw[zhm h2,h1]
 ·obtain⟨h1,h2⟩:=hk k hk';intro h0;rw[h0]at h2;exact h2
theorem zi3{m j:Nat}(h:j<m):nameOf (List.range m) j=j:=by simp[nameOf,h]
theorem zk0(m:Nat):(zbo m).map (V.ren (nameOf (List.range m)))=zbo m:=by
 unfold zbo;rw[List.map_map];refine qa9 fun i hi=>?_;show V.ptr (nameOf (List.range m) i) 0=_;rw[zi3 (List.mem_range.1 hi)]
theorem argsP_on(m:Nat):(zbo m).all (V.on fun k=>decide (k<m))=true:=by
 rw[qa22];intro v hv;obtain⟨i,hi,rfl⟩:=qa35.1 hv;simpa[V.on]using List.mem_range.1 hi
theorem inv_run{P:Program}{g:FuncId}(h:zcT P g=true)(vs:Array Value)(w:World):(invoke (.fn (.func g) vs) #[]).run P w=.ok (.enter g vs) w:=by
 simp[invoke,zdP h]
theorem leave_ok{P:Program}{c:Orc}{c3:Ctx}(hc:Sound P c3.G c)(hE3:∀id,c3.E0 id≠.gone→id<c3.n0){g:FuncId}{m:Nat}{res:List RV}{mode:V}{xm:Value}{u u':FrameMode}{fn:Func}(hres:resT P c3.N fn.results.toList=some res){vals:Array Value}{x:X}{y:Y}{a:Act}{w:World}{H:Nat→Value}{A:Nat→Nat→Prop}{o:Out}
  (hs:SimH c3 x a w H A) (hr:Rel x y) (hm:RepV w A mode xm) (hmode:Mode mode xm u u') (hv:zam w A x.st H (zbo m) vals.toList) (h:cloD P c3.G c g m c3.n0 res mode y=some o) {Rf:Ending→World→Prop}
  (hfin:∀x' w' H' A' v xv,SimH c3 x' a w' H' A'→(∀e∈lentOf c3.n0 x'.st,wfE e)→o=(.ret v,[])→RepV w' A' v xv→Rf (.returned xv) w'):
  Go.Leaves P fn a.tmps Rf [{ target:=.fn (.func g) vals,args:=#[] }] u w:=by
 unfold cloD at h;split at h<;>first|(cases h;done)|skip
 rename_i es1 he1;obtain⟨es2,hg,h⟩:=Option.bind_eq_some_iff.1 h;split at h<;>first|(cases h;done)|skip
 rename_i hl2;obtain⟨h1,h2⟩:=zb1 hr.s he1;have hl1:es1.length=m:=by rw[h1];simp
 have hlend:Lends x.st (List.range m) es1:=ziw List.nodup_range h1 h2;obtain⟨hent,hclo⟩:=evG_ok hc hg h2;obtain⟨hu,hset⟩:=hmode.settle;refine leaves_cons (f:=g) (args:=vals) hu (inv_run hent vals w) ?_;have hv2:zam w A (entF es1) (fun k=>H (nameOf (List.range m) k)) (zbo es1.length) vals.toList:=by
  rw[hl1];refine zam.unren hlend.cor (by rw[zk0];exact hv) ?_;have:=argsP_on m;simpa using this
 refine(hclo w _ A vals u u' xm (hs.start hlend) hv2 hm hmode).mono ?_;rintro e v w' ⟨rfl,rfl,H1,A1,h3,h4,hmem⟩;dsimp only;rw[hset];obtain⟨H',h6⟩:=hs.back hlend h3 (fun e he=>zeZ (h4 e he) _) hmem none .undef Go.undef .undef;rw[zgh h4]at h6;obtain⟨-,y',hk,h7,h8,h9⟩:=zgp (j:=0) (by simp[hl2]) hr.s h;simp only[List.drop_zero]at h9;have hr':Rel (x.put none .undef ((List.range m).zip es2)) y':=⟨fun t=>by rw[h7];exact(hr.e t).le h8,h9⟩;split at hk<;>first|(cases hk;done)|skip
 rename_i v es3 hv3 he3;cases hk;obtain⟨h10,h11⟩:=zhK hr' hv3;obtain⟨xv,hrun,hrep⟩:=zhE (P:=P) h6 hres h11;rw[h10]at hrep;refine⟨xv,hrun,hfin _ _ _ _ v xv h6 ?_ rfl hrep⟩;obtain⟨h12,h13⟩:=zb1 hr'.s he3;rw[h12]at h13;exact h13
end
section
open Go Go.RowKit
def conX:R→V
 |.d v=>v
 |.p i o=>.ptr i o
 |.i x o=>.ip x o
 |.un=>.undef
 |_=>.any
theorem find_idx{ids:List Nat}{i:Nat}(h:i∈ids):ids.findIdx (· == i)<ids.length∧nameOf ids (ids.findIdx (· == i))=i:=za8 h
theorem zkN{x:X}{y:Y}(hr:Rel x y){c:Ctx}{a:Act}{w:World}{H:Nat→Value}{A:Nat→Nat→Prop}(hs:SimH c x a w H A):∀{l:List Operand} {m:List Nat},capI y l=some m→(l.all fun o=>match o with|.tmp t=>decide (t<c.N)|_=>false)=true→zam w A x.st H (m.map fun i=>.ptr i 0) (l.map a.eval)
 |[],m,h,_=>by cases h;rfl
 |.tmp t::l,m,h,hl=>by
  simp only[qa34,qa21,qa16]at hl;simp only[capI]at h;split at h<;>first|(cases h;done)|skip
  rename_i i hi;split at h<;>first|(cases h;done)|skip
  rename_i m' hm;cases h;have h1:=hr.e t;rw[hi]at h1;have h2:=hs.env t hl.1;rw[show x.env t=.ptr i 0 from h1]at h2;exact⟨_,_,rfl,h2,zkN hr hs hm hl.2⟩
 |.const _::_,_,h,_=>by cases h
 |.global _::_,_,h,_=>by cases h
 |.func _::_,_,h,_=>by cases h
theorem zfg{w w':World}{A A':Nat→Nat→Prop}{st st':Nat→Ent}{H H':Nat→Value}:∀{is js:List Nat} {vs:List Value},is.length=js.length→(∀n,n<is.length→H' (js.getD n 0)=H (is.getD n 0)∧∃T cs,st' (js.getD n 0)=.blk T cs)→zam w A st H (is.map fun i=>.ptr i 0) vs→zam w' A' st' H' (js.map fun i=>.ptr i 0) vs
 |[],[],vs,_,_,h=>h
 |i::is,j::js,vs,hl,hk,h=>by
  obtain⟨u,us,rfl,h1,h2⟩:=h;refine⟨u,us,rfl, ?_,zfg (by simpa using hl) (fun n hn=>by have:=hk (n+1) (by simpa using hn);simpa using this) h2⟩;obtain⟨h3,h4⟩:=hk 0 (by simp);simp only[List.getD_cons_zero]at h3 h4;rcases h1 with⟨b,hb,_,he⟩|h1
  ·exact Or.inl ⟨b,h3.trans hb,h4,he⟩
  ·cases h1
 |[],_::_,_,hl,_,_=>by simp at hl
 |_::_,[],_,hl,_,_=>by simp at hl
theorem pinR_p{T:List (Nat×Nat)}{t k o:Nat}(h:pinR T t=.p k o):(t,k)∈T∧o=0:=by
 induction T with
 |nil=>cases h
 |cons p r ih=>
  obtain⟨i,j⟩:=p;simp only[pinR]at h;split at h
  ·rename_i e;cases h;subst e;exact⟨by simp,rfl⟩
  ·obtain⟨h1,h2⟩:=ih h;exact⟨by simp[h1],h2⟩
theorem pinR_or(T:List (Nat×Nat))(t:Nat):pinR T t=.u∨∃k,pinR T t=.p k 0:=by
 induction T with
 |nil=>exact .inl rfl
 |cons p r ih=>
  obtain⟨i,j⟩:=p;simp only[pinR];split
  ·exact .inr ⟨_,rfl⟩
  ·exact ih
set_option maxHeartbeats 2000000 in
theorem evFD_ok{P:Program}{G:Nat→V}{c:Orc}(hc:Sound P G c){ids:List Nat}{T:List (Nat×Nat)}{f:FuncId}{args:List V}{r:Out}(ha:∀v∈args,argOk 0 v)(h:evFD P G c ids T f (args.map argR)=some r):zaL P G f args [] fun o' es'=>(o',es')=r:=by
 unfold evFD at h;split at h<;>first|(cases h;done)|skip
 rename_i fn hf;split at h<;>first|(cases h;done)|skip
 rename_i hname;split at h<;>first|(cases h;done)|skip
 rename_i code hb;split at h<;>first|(cases h;done)|skip
 rename_i l dc rc hcut;split at h<;>first|(cases h;done)|skip
 rename_i d1 g cap cl s1 t s2 res hdef hcl ht hres;split at h<;>first|(cases h;done)|skip
 rename_i hcond;obtain⟨⟨hlen,hd1,hids,hcapl⟩,hnd,hflat,hT⟩:=hcond;simp only[List.length_map]at hlen;refine(zg1 (R:=fun o'=>(o',[])=r) hf (by simpa using hname) hb hlen fun w H A a hsim=>?_).mono (fun o es=>by rintro⟨h1,rfl⟩;exact h1);let cx:Ctx:=⟨w,A,0,H,entF [],G,fn.ntmps,[]⟩;have hE:∀id,cx.E0 id≠.gone→id<cx.n0:=fun id hg=>absurd rfl hg;have fin0:∀(x:X)(a:Act)(w':World)(H':Nat→Value)(A':Nat→Nat→Prop),SimH cx x a w' H' A'→Mem ⟨w,A,0,H,entF [],G,0,[]⟩ (entF []) w' H' A':=fun x a w' H' A' hx=>(hx.mem.drop hE (qa22.2 fun e he=>by simp[lentOf,cx]at he)).forD 0 [];rw[zkG hcut];refine zj0 (cx:=cx) hc rfl hE ?_ ?_ ?_ l 10 cl s1 hcl (zaK args []) (strY (args.map argR) []) a w H A (zgW ha (fun e he=>by simp at he)) hsim h
 ·-- behind the pieces
  intro x y a w2 H2 A2 hrel hsim hK;split at hK<;>first|(cases hK;done)|skip
  rename_i mi es hcap hes;split at hK<;>first|(cases hK;done)|skip
  rename_i hcc;obtain⟨hmi,hpins⟩:=hcc;obtain⟨he1,he2⟩:=zb1 hrel.s hes;have hk:es.length=ids.length:=by rw[he1];simp
  have hlend:Lends x.st ids es:=ziw hnd he1 he2;refine wp_seq (wp_defD hdef (by rw[hsim.tm];exact hd1) ?_);generalize hvals:cap.map a.eval=vals;generalize hD:({ target:=.fn (.func g) vals,args:=#[] }:Deferred)=d;have hsimD:=hsim.putv (some d1) .any (.func (.func g) #[] vals) trivial;have hlendD:Lends (x.put (some d1) .any []).st ids es:=hlend;have hm:=hsimD.start hlendD;have hdf:a.defers=[]:=hsim.df;let H3:Nat→Value:=fun k=>H2 (nameOf ids k);let c3:Ctx:=⟨w2,A2,es.length,H3,entF es,G,fn.ntmps,[d]⟩;have hE3:∀id,c3.E0 id≠.gone→id<c3.n0:=fun id hg=>Nat.lt_of_not_le (fun hle=>hg (zbE (l:=es) hle));let y3:Y:=resY y ids es d1;let x3:X:=⟨fun t=>conX (y3.e t),entF es⟩;let a3:Act:={ a.put (some d1) (.func (.func g) #[] vals)with defers:=d::a.defers };have hblk:∀k,k<ids.length→∃T cs,entF es k=.blk T cs:=fun k hk'=>by
   have h1:entF es k∈es:=zcK (by omega);have h2:=he2 _ h1;cases he:entF es k with
   |blk T cs=>exact⟨T,cs,rfl⟩
   |_=>rw[he]at h2;exact h2.elim
  have hrel3:Rel x3 y3:=by
   refine⟨fun t=>?_,fun id=>?_⟩
   ·show RelR _ _ (if t=d1 then R.u else reR y ids (y.e t)) (conX (if t=d1 then R.u else reR y ids (y.e t)));split
    ·trivial
    ·have h0:=hrel.e t;cases hy:y.e t with
     |d v=>rw[hy]at h0;exact⟨rfl,h0.2⟩
     |i v o=>rw[hy]at h0;exact⟨rfl,h0.2⟩
     |q i k=>
      rw[hy]at h0;simp only[reR];split
      ·rename_i v hv;exact⟨rfl,(zaB hrel.s h0 hv).2⟩
      ·trivial
     |p i o=>
      simp only[reR];split
      ·exact rfl
      ·trivial
     |un=>exact rfl
     |_=>trivial
   ·show RelE _ _ (entN (es.getD id .gone)) (entF es id);by_cases hid:id<es.length
    ·have h2:=he2 _ (List.getElem_mem hid);simp only[entF,qa3,qa5 hid,Option.getD_some];generalize es[id]=e at h2;cases e with
     |blk T cs=>exact⟨cs,rfl,zdG h2⟩
     |_=>exact h2.elim
    ·simp only[entF,qa3,List.getElem?_eq_none (Nat.le_of_not_lt hid),Option.getD_none];rfl
  have hsim3:SimH c3 x3 a3 w2 H3 A2:=by
   refine Mem.sim (hm.forD fn.ntmps [d]) hsimD.tm (by show d::a.defers=[d];rw[hdf]) fun t ht=>?_;have h0:=hrel.e t;have h1:=hsimD.env t ht;show RepT w2 A2 (entF es) H3 (conX (if t=d1 then R.u else reR y ids (y.e t))) _;split
   ·trivial
   ·rename_i htd;rw[show(x.put (some d1) .any []).env t=x.env t from upd_ne _ _ htd]at h1;cases hy:y.e t with
    |d v=>
     rw[hy]at h0;rw[h0.1]at h1;exact(h1.data (zaU h0.2)).toT
    |i v o=>
     rw[hy]at h0;rw[h0.1]at h1;exact(h1.data rfl).toT
    |q i k=>
     rw[hy]at h0;simp only[reR];split
     ·rename_i v hv;obtain⟨h2,h3⟩:=zaB hrel.s h0 hv;have h4:=repT_res h1;rw[show(x.put (some d1) .any []).st=x.st from rfl,h2]at h4;exact(h4.data (zaU h3)).toT
     ·trivial
    |p i o=>
     rw[hy]at h0;rw[show x.env t=.ptr i o from h0]at h1;simp only[reR];split
     ·rename_i hi;obtain⟨h2,h3⟩:=find_idx hi;rcases h1 with⟨b,hb,_,he⟩|h1
      ·exact Or.inl ⟨b,by show H2 (nameOf ids _)=_;rw[h3];exact hb,hblk _ h2,he⟩
      ·cases h1
     ·trivial
    |un=>
     rw[hy]at h0;rw[show x.env t=.undef from h0]at h1;exact(h1.data rfl).toT
    |_=>trivial
  have hcapv:=zkN hrel hsim hcap hcapl;rw[show cap.toList.map a.eval=vals.toList by rw[←hvals];simp]at hcapv;have hcapL:∀(st6:Nat→Ent)(H6:Nat→Value)(w6:World)(A6:Nat→Nat→Prop),(∀j,j<ids.length→H6 j=H3 j∧∃T cs,st6 j=.blk T cs)→zam w6 A6 st6 H6 (zbo mi.length) vals.toList:=by
   intro st6 H6 w6 A6 h6;have hml:mi.length≤ids.length:=by
    have:=congrArg List.length hmi;simp only[qa23]at this;omega
   refine zfg (is:=mi) (js:=List.range mi.length) (by simp) (fun n hn=>?_) hcapv;have e1:(List.range mi.length).getD n 0=n:=by simp[hn]
   rw[e1];obtain⟨h7,h8⟩:=h6 n (by omega);refine⟨?_,h8⟩;rw[h7];show H2 (nameOf ids n)=H2 (mi.getD n 0);congr 1;rw[hmi];simp only[nameOf,qa3,List.getElem?_take];rw[if_pos hn]
  have hT':∀p∈T,p.1<fn.ntmps∧p.2<ids.length:=fun p hp=>by
   have:=qa22.1 hT p hp;simpa using this
  let TV:List (Nat×Value):=T.map fun p=>(p.1,a3.tmps.getD p.1 Go.undef);have hTV:TV.map (·.1)=T.map (·.1):=by simp[TV]
  have hpin:Pin TV a3:=by
   intro p hp;obtain⟨q,hq,rfl⟩:=qa35.1 hp;rfl
  have hlast:∀(x':X)(a':Act)(w':World)(H':Nat→Value)(A':Nat→Nat→Prop)(v:V)(xv:Value),SimH c3 x' a' w' H' A'→(∀e∈lentOf c3.n0 x'.st,wfE e)→r=(.ret v,[])→RepV w' A' v xv→Fin0 w A G H (fun o'=>(o',[])=r) (.returned xv) w':=by
   intro x' a' w' H' A' v xv h8 hwf ho hrep;have hon:∀e∈lentOf c3.n0 x'.st,e.on (fun k=>decide (k<c3.n0))=true:=fun e he=>zeZ (hwf e he) _;have hm8:=(h8.mem.drop hE3 (qa22.2 hon)).forD 0 [];obtain⟨H9,h9⟩:=hsimD.back (es:=lentOf c3.n0 x'.st) hlendD (by simp[lentOf,c3]) (by simpa[c3]using hon) hm8 none .undef Go.undef .undef;exact⟨.ret v,H9,A',ho.symm,fin0 _ _ _ _ _ h9,xv,rfl,hrep⟩
  let QQ:PEx→X→Prop:=fun pe x'=>∃y',Rel x' y'∧(match pe with|.exit _=>none|_=>cloD P G c g mi.length ids.length res .niface y')=some r;let KK:V→(Nat→Ent)→Prop:=fun v st=>wf v=true∧∃st0 y',(∀i,i<ids.length→st i=st0 i)∧RelS st0 y'∧cloP P G c g mi.length ids.length res T v y'=some r;have hw0:wpC P G ids.length KK t QQ x3:=ziC hc zkh t zke hrel3 hK (fun pe x' y' hr hk=>⟨y',hr,hk⟩) (fun v st y' hr hv hk=>⟨hv,st,y',fun _ _=>rfl,hr,hk⟩);have hpk:zeX c3.n0 KK:=by
   rintro v st st' h1 ⟨h2,st0,y',h3,h4⟩;exact⟨h2,st0,y',fun i hi=>(h1 i (by show i<es.length;omega)).trans (h3 i hi),h4⟩
  have hw:wpC P c3.G c3.n0 KK t QQ x3:=by
   show wpC P G es.length KK t QQ x3;rw[hk];exact hw0
  refine Code.wp_mono ?_ (code_okT (c:=c3) (T:=TV) hpk hE3 (by rw[hTV];exact hflat) (fun k hk'=>by simp only[sg];show es.length≤k;omega) ht hsim3 hpin hw);have hH6:∀(x':X)(a':Act)(w':World)(H':Nat→Value)(A':Nat→Nat→Prop),SimH c3 x' a' w' H' A'→∀j,j<ids.length→H' j=H3 j∧∃T cs,x'.st j=.blk T cs:=fun x' a' w' H' A' hx j hj=>by
   obtain⟨T0,cs0,h0⟩:=hblk j hj;exact hx.out.blk j T0 cs0 h0
  have fin:∀(x':X)(a':Act)(w':World)(H':Nat→Value)(A':Nat→Nat→Prop)(y':Y)(mode:V)(xm:Value)(u u':FrameMode),SimH c3 x' a' w' H' A'→Rel x' y'→RepV w' A' mode xm→Mode mode xm u u'→cloD P G c g mi.length ids.length res mode y'=some r→Go.Leaves P fn a'.tmps (Fin0 w A G H (fun o'=>(o',[])=r)) a'.defers u w':=by
   intro x' a' w' H' A' y' mode xm u u' hx hr hrep hmode hclo;rw[hx.df];show Go.Leaves P fn a'.tmps _ [d] u w';rw[←hD];rw[←hk]at hclo;exact leave_ok (c3:=c3) hc hE3 hres hx hr hrep hmode (hcapL x'.st H' w' A' (hH6 _ _ _ _ _ hx)) hclo (fun x'' w'' H'' A'' v xv h1 h2 h3 h4=>hlast x'' a' w'' H'' A'' v xv h1 h2 h3 h4)
  rintro(_|i|_|_|ch|_) a' w' ⟨hq,hp⟩
  ·obtain⟨x',H',A',hx,y',hr,hclo⟩:=hq;exact fin x' a' w' H' A' y' _ _ _ _ hx hr .niface .idle hclo
  ·obtain⟨x',H',A',hx,y',hr,hclo⟩:=hq;cases hclo
  ·exact hq.elim
  ·obtain⟨x',H',A',hx,y',hr,hclo⟩:=hq;exact fin x' a' w' H' A' y' _ _ _ _ hx hr .niface .idle hclo
  ·obtain⟨x',H',A',v,xv,rfl,hrep,hx,hwv,st0,y',heq,hrs,hclo⟩:=hq;show Go.Leaves P fn a'.tmps _ a'.defers (.panicking _) w';unfold cloP at hclo;split at hclo<;>first|(cases hclo;done)|skip
   rename_i es9 hes9;obtain⟨h9,h10⟩:=zb1 hrs hes9;have hlo:lentOf c3.n0 x'.st=es9:=by
    rw[h9,←hk];exact qa9 fun i hi=>heq i (by have:i<es.length:=List.mem_range.1 hi;omega)
   have hml:=hx.mem.drop hE3 (qa22.2 fun e he=>zeZ (h10 e (hlo ▸ he)) _);let x9:X:=⟨fun t=>conX (pinR T t),entF (lentOf c3.n0 x'.st)⟩;have hst9:∀i,entF (lentOf c3.n0 x'.st) i=if i<ids.length then st0 i else .gone:=fun i=>by
    by_cases hi:i<ids.length
    ·rw[if_pos hi];have:entF (lentOf c3.n0 x'.st) i=x'.st i:=zaI (show i<es.length by omega);rw[this];exact heq i hi
    ·rw[if_neg hi];exact zbE (by simp[lentOf,c3];omega)
   have hsim9:SimH c3 x9 a' w' H' A':=by
    refine hml.sim hx.tm hx.df fun t ht=>?_;show RepT w' A' _ H' (conX (pinR T t)) _;rcases pinR_or T t with h11|⟨k,h11⟩
    ·rw[h11];trivial
    ·rw[h11];obtain⟨h12, -⟩:=pinR_p h11;obtain⟨h13,h14⟩:=hT' _ h12;have h15:=hp _ (qa35.2 ⟨_,h12,rfl⟩);dsimp only at h15;rw[h15];have h16:isPin y3 (t,k)=true:=qa22.1 hpins _ h12;have h17:y3.e t=.p k 0:=by
      unfold isPin at h16;dsimp only at h16;split at h16
      ·rename_i k' hk';rw[hk'];simp only[beq_iff_eq]at h16;rw[h16]
      ·cases h16
     have h18:=hsim3.env t h13;rw[show x3.env t=.ptr k 0 by show conX (y3.e t)=_;rw[h17];rfl]at h18;obtain⟨h19,T1,cs1,h20⟩:=hH6 x' a' w' H' A' hx k h14;rcases h18 with⟨b,hb,_,he⟩|h18
     ·refine Or.inl ⟨b,h19.trans hb,⟨T1,cs1, ?_⟩,he⟩;have:entF (lentOf c3.n0 x'.st) k=x'.st k:=zaI (show k<es.length by omega);exact this.trans h20
     ·cases h18
   have hrel9:Rel x9 (pinY T ids.length y'):=by
    refine⟨fun t=>?_,fun i=>?_⟩
    ·show RelR _ _ (pinR T t) (conX (pinR T t));rcases pinR_or T t with h11|⟨k,h11⟩
     ·rw[h11];trivial
     ·rw[h11];exact rfl
    ·show RelE _ _ (if i<ids.length then y'.s i else .gone) (entF (lentOf c3.n0 x'.st) i);rw[hst9];split
     ·refine(hrs i).le ⟨qa37 _,fun i T z k v _ h=>?_,fun i T z k v _ h=>?_,fun i T z k v _ h=>?_⟩;all_goals
       simp only[pinY]at h;split at h
       ·first|exact h|exact⟨_,h,rfl⟩|exact⟨_,.inl h,rfl⟩
       ·cases h
     ·rfl
   exact fin x9 a' w' H' A' _ _ _ _ _ hsim9 hrel9 hrep (.stop v xv) hclo
  ·exact hq.elim
 ·-- returned early
  intro x y a w' H' A' hrel hs hk;simp only[finK]at hk;obtain⟨L,hk,hL⟩:=zfm hrel.s hk;split at hk<;>first|(cases hk;done)|skip
  rename_i v es' h1 h2;cases hk;obtain⟨a1,a2⟩:=zhK hrel h1;obtain⟨b1,b2⟩:=zgg hrel.s hL h2;obtain⟨xv,h3,h4⟩:=zhE (P:=P) hs hres a2;show Go.Leaves P fn a.tmps _ a.defers .returning w';rw[hs.df];refine⟨xv,h3,.ret v,H',A', ?_,fin0 _ _ _ _ _ hs,xv,rfl,by rw[←a1];exact h4⟩;rw[←b1];rfl
 ·intro x a w' H' A' v xv hs hrep hr;show Go.Leaves P fn a.tmps _ a.defers (.panicking _) w';rw[hs.df];exact⟨.panic v,H',A',hr.symm,fin0 _ _ _ _ _ hs,xv,rfl,hrep⟩
end
section
open Go Go.RowKit
section
variable{P:Program}{G:Nat→V}{c:Nat→Orc}{c0:Orc}
theorem zhM:LpT (fun _=>nol) nol:=fun _ _ _ _ _ r h=>by cases h
theorem tds_const{Z:Type}(o:Option Z):Tds (fun _=>o) o:=fun _ h=>⟨0,fun _ _=>h⟩
theorem tds_evG(hc:∀g a e,Tds (fun n=>c n g a e) (c0 g a e)){g:FuncId}{es:List Ent}{mode:V}:Tds (fun n=>evG P G (c n) g es mode) (evG P G c0 g es mode):=by
 unfold evG gW
 repeat' (first|exact zaf|split)
 refine zen hc (fun y=>?_) (fun v y=>zaf);refine zfI (lp:=fun _=>nol) hc zhM _ (fun e y=>?_) (fun v y=>zaf);cases e<;>exact tds_const _
theorem tds_bd{Z Z':Type}{f:Nat→Option Z}{o:Option Z}{g:Nat→Z→Option Z'}{p:Z→Option Z'}(h:Tds f o)(h':∀z,Tds (fun n=>g n z) (p z)):Tds (fun n=>(f n).bind (g n)) (o.bind p):=by
 intro r hr;obtain⟨z,rfl,hz⟩:=Option.bind_eq_some_iff.1 hr;obtain⟨N,hN⟩:=(h z rfl).and (h' z r hz);exact⟨N,fun n hn=>by show(f n).bind (g n)=_;rw[(hN n hn).1];exact(hN n hn).2⟩
theorem zh7(hc:∀g a e,Tds (fun n=>c n g a e) (c0 g a e)){g:FuncId}{m k:Nat}{res:List RV}{mode:V}{y:Y}:Tds (fun n=>cloD P G (c n) g m k res mode y) (cloD P G c0 g m k res mode y):=by
 unfold cloD;split
 ·exact tds_bd (tds_evG hc) (fun es2=>tds_const _)
 ·exact zaf
theorem tds_cloP(hc:∀g a e,Tds (fun n=>c n g a e) (c0 g a e)){g:FuncId}{m k:Nat}{res:List RV}{T:List (Nat×Nat)}{mode:V}{y:Y}:Tds (fun n=>cloP P G (c n) g m k res T mode y) (cloP P G c0 g m k res T mode y):=by
 unfold cloP;split
 ·exact zh7 hc
 ·exact zaf
theorem zjA(hc:∀g a e,Tds (fun n=>c n g a e) (c0 g a e)){KR:Y→Option Out}:∀(l:List C) {y:Y} {K:Nat→Y→Option Out} {K0:Y→Option Out},(∀y,Tds (fun n=>K n y) (K0 y))→Tds (fun n=>evP P (c n) KR l y (K n)) (evP P c0 KR l y K0)
 |[],y,K,K0,hK=>hK y
 |t::l,y,K,K0,hK=>by
  simp only[evP];refine zfI (lp:=fun _=>nol) hc zhM _ (fun e y=>?_) (fun v y=>tds_const _);cases e with
  |normal=>exact zjA hc l hK
  |ret=>exact tds_const _
  |exit i=>exact zaf
theorem tds_evFD(hc:∀g a e,Tds (fun n=>c n g a e) (c0 g a e)){ids:List Nat}{T:List (Nat×Nat)}{f:FuncId}{args:List R}:Tds (fun n=>evFD P G (c n) ids T f args) (evFD P G c0 ids T f args):=by
 unfold evFD
 repeat' (first|exact zaf|(refine zjA hc _ (fun y=>?_))|split)
 refine zfI (lp:=fun _=>nol) hc zhM _ (fun e y=>?_) (fun v y=>tds_cloP hc);cases e with
 |exit i=>exact zaf
 |_=>exact zh7 hc
end
end
section
open Go Go.RowKit
section
variable{Z:Type}
def ckEs:List (Nat×Nat)→Nat→List Ent→Option Z→Option Z
 |[],_,_,A=>A
 |(T,n)::r,j,es,A=>ckE T n (nth es j) (ckEs r (j+1) es A)
@[simp] theorem ecell_b (T:Nat) (cs:List V) (j:Nat):zdX (.blk T cs) j=cs.getD j .undef:=rfl
@[simp] theorem nth_0 (a:Ent) (l:List Ent):nth (a::l) 0=a:=rfl
@[simp] theorem nth_s (a:Ent) (l:List Ent) (n:Nat):nth (a::l) (n+1)=nth l n:=rfl
@[simp] theorem ckEs_0 (j:Nat) (es:List Ent) (A:Option Z):ckEs [] j es A=A:=rfl
@[simp] theorem ckEs_s (T n:Nat) (r:List (Nat×Nat)) (j:Nat) (es:List Ent) (A:Option Z):ckEs ((T,n)::r) j es A=ckE T n (nth es j) (ckEs r (j+1) es A):=rfl
@[simp] theorem lsV_l (l:List V) (K:List V→Option Z):lsV (.list l) K=K l:=rfl
@[simp] theorem nilV_n (A:Option Z):nilV .nils A=A:=rfl
end
theorem Pro.phi_tds(p:Pro):∀(k:Nat)(f:FuncId)(a:List V)(e:List Ent),Tds (fun n=>p.phi n f a e) (p.phi k f a e)
 |0,_,_,_=>fun _ h=>by cases h
 |k+1,f,a,e=>by
  intro r h;have key:Evt (fun n=>p.step (p.phi n) (it n) f a e) r:=by
   have h:p.step (p.phi k) (it k) f a e=some r:=h;unfold Pro.step at h ⊢;cases hd:p.D f
   ·rw[hd]at h;exact zjB (c0:=p.phi k) (lp0:=it k) (fun g a e=>p.phi_tds k g a e) (fun Z F F0 hF l r h=>zko Z F F0 hF l r (zis.2 ⟨k,h⟩)) _ h
   ·rw[hd]at h;exact p.tends _ _ (fun g a e=>p.phi_tds k g a e) _ _ _ _ h
  obtain⟨N,hN⟩:=key;refine⟨N+1,fun n hn=>?_⟩;obtain⟨m,rfl⟩:∃m,n=m+1:=⟨n-1,by omega⟩;exact hN m (by omega)
theorem Pro.ev_phi(p:Pro)(k:Nat){f:FuncId}{a:List V}{e:List Ent}{r:Out}(h:p.phi k f a e=some r):p.ev f a e=some r:=p.ev_some.2 (p.phi_tds k f a e r h)
structure Nv(P:Program)(G:Nat→V) where
 f:FuncId
 B:Orc→List V→List Ent→Option Out
 sound:∀c,Sound P G c→∀args ents o es,(∀v∈args,argOk ents.length v)→(∀e∈ents,wfX ents e)→B c args ents=some (o,es)→zaL P G f args ents (fun o' es'=>o'=o∧es'=es)
 tends:∀(c:Nat→Orc)(c0:Orc),(∀g a e,Tds (fun n=>c n g a e) (c0 g a e))→∀a e,Tds (fun n=>B (c n) a e) (B c0 a e)
section
variable{P:Program}{G:Nat→V}
def nvD(L:List (Nv P G))(f:FuncId):Bool:=L.any fun n=>n.f==f
def nvB(L:List (Nv P G))(c:Orc)(f:FuncId)(a:List V)(e:List Ent):Option Out:=match L.find? fun n=>n.f==f with|some n=>n.B c a e|none=>none
def Pro.ofL(P:Program)(G:Nat→V)(A:FuncId→List Nat→List (Nat×Nat)×List LA)(L:List (Nv P G)):Pro where
 P:=P
 G:=G
 A:=A
 D:=nvD L
 B:=nvB L
 sound c hc f _ args ents o es ha he h:=by
  unfold nvB at h;split at h
  ·rename_i n hn;have hf:n.f=f:=by simpa using List.find?_some hn
   rw[←hf];exact n.sound c hc args ents o es ha he h
  ·cases h
 tends c c0 hc f a e:=by
  unfold nvB;split
  ·rename_i n _;exact n.tends c c0 hc a e
  ·exact zaf
def pureB(o:Option V):Option Out:=match o with|some v=>some (.ret v,[])|none=>none
def Nv.pure(f:FuncId)(ans:List V→Option V)(h:∀args v,ans args=some v→zaL P G f args [] fun o es=>o=.ret v∧es=[]):Nv P G where
 f:=f
 B _ a e:=match e with|[]=>pureB (ans a)|_=>none
 sound c _ args ents o es _ _ hb:=by
  split at hb<;>first|(cases hb;done)|skip
  unfold pureB at hb;split at hb<;>first|(cases hb;done)|skip
  rename_i v hv;cases hb;exact h args v hv
 tends c c0 _ a e:=fun _ hr=>⟨0,fun _ _=>hr⟩
def Nv.fd(f:FuncId)(ids:List Nat)(T:List (Nat×Nat)):Nv P G where
 f:=f
 B c a e:=match e with|[]=>evFD P G c ids T f (a.map argR)|_=>none
 sound c hc args ents o es ha _ hb:=by
  split at hb<;>first|(cases hb;done)|skip
  refine(evFD_ok hc ha hb).mono fun o' es' h=>?_;cases h;exact⟨rfl,rfl⟩
 tends c c0 hc a e:=by
  cases e with
  |nil=>exact tds_evFD hc
  |cons _ _=>exact zaf
end
end
end Vm
namespace Go.Proofs.YtplflngjpajcmaaGreatDoor
open Go.RowKit
open Vm
def tokM(t:Lx.TA):Vm.V:=.agg [.int .i64 t.1.kind,.str t.1.text,.int .i64 t.1.val.1,.int .i64 t.1.val.2.1,.str t.1.val.2.2,.int .i64 (t.2:Int)]
def Ret(P:Program)(G:Nat→Vm.V)(f:FuncId)(args:List Vm.V)(v:Vm.V):Prop:=zaL P G f args [] fun o es=>o=.ret v∧es=[]
theorem zca{P:Program}{G:Nat→Vm.V}{f:FuncId}{args:List Vm.V}{R:POut→Prop}(hen:zcT P f=true)(hd:args.all V.data=true)
  (h:∀(w:World)(A:Nat→Nat→Prop)(vals:Array Value),(∀b o,A b o→b<w.heap.size)→RepL w A args vals.toList→Calls P f vals w fun e w'=>Below w.heap.size w w'∧∃o,R o∧OutRep w' A o e):zaL P G f args [] fun o es=>R o∧es=[]:=by
 refine⟨hen,fun w H A vals m hv=>Calls.mono (h w A vals m.al (zdE hv hd)) fun e w' ⟨hb,o,hR,ho⟩=>?_⟩;exact⟨o,[],H,A,⟨hR,rfl⟩,rfl,fun e he=>by simp at he,m.below hb,ho⟩
theorem zh6{w:World}{A:Nat→Nat→Prop}:∀l:List Lx.TA,RepE w A 6 (l.map tokM) (l.flatMap zeo)
 |[]=>.nil 6
 |t::l=>by
  rw[qa32,List.flatMap_cons];refine .cons 6 _ _ _ _ rfl (.agg _ _ rfl ?_) (zh6 l);exact .cons _ _ _ _ (.int _ _) (.cons _ _ _ _ (.str _) (.cons _ _ _ _ (.int _ _) (.cons _ _ _ _ (.int _ _) (.cons _ _ _ _ (.str _) (.cons _ _ _ _ (.int _ _) .nil)))))
theorem own_rep{w:World}{A:Nat→Nat→Prop}{base T:Nat}{v:Value}{l:List Lx.TA}(h:w.ownsRow base T 6 v l.length (l.flatMap zeo))(hA:∀b o,A b o→b<base):RepV w A (.list (l.map tokM)) v:=by
 obtain⟨h0,h|⟨g,cap,cur,h1,h2,h3,h4,h5,h6,h7⟩⟩:=h
 ·obtain⟨rfl,hl⟩:=h;obtain rfl:l=[]:=qa1 hl;exact .nil _ _
 ·subst h1;cases l with
  |nil=>exact .nil _ _
  |cons t l=>
   have:=RepV.list (w:=w) (A:=A) ((t::l).map tokM) 6 g 0 cap ((t::l).flatMap zeo) (by simp) (zh6 _) ⟨?_,fun j u hu=>⟨?_,fun hAA=>by have:=hA _ _ hAA;omega⟩⟩ (by simpa using h4) h5
   ·simpa using this
   ·exact(Array.getElem?_eq_some_iff.1 h3).1
   ·rw[Nat.zero_add];rw[←h7,List.getElem?_take]at hu;split at hu
    ·simp only[World.cell?,h3];simpa using hu
    ·cases hu
def scanV(s:List UInt8):Vm.V:=.tup [.list ((Lx.scan s).1.map tokM),.int .i64 ((Lx.scan s).2.1:Int),.int .i64 (Lx.scan s).2.2]
theorem scan_out{w w':World}{A:Nat→Nat→Prop}{s:List UInt8}{e:Ending}(hA:∀b o,A b o→b<w.heap.size)(h:scanE w (Lx.scan s) e w'):Below w.heap.size w w'∧∃o,o=.ret (scanV s)∧OutRep w' A o e:=by
 obtain⟨v,rfl,h1,h2⟩:=h;exact⟨h2,_,rfl,_,rfl,.tup _ _ (.cons _ _ _ _ (own_rep h1 hA) (.cons _ _ _ _ (.int _ _) (.cons _ _ _ _ (.int _ _) .nil)))⟩
theorem n_Scan{G:Nat→Vm.V}{s:List UInt8}(hs:s.length≤1000000):zaL Tryz.prog G 16 [.str s] [] fun o es=>o=.ret (scanV s)∧es=[]:=by
 refine zca (by kernel_rfl) rfl fun w A vals hA hv=>?_;rw[zez hv];refine Calls.mono (scan_any (Lx.bs s) w (by rw[Lx.zao];omega)) fun e w' h=>?_;rw[Lx.zaH]at h;exact scan_out hA h
end Go.Proofs.YtplflngjpajcmaaGreatDoor
namespace Ox
open Lx
abbrev S:=List UInt8
def numN(m:Nat):S:=if m<10 then[UInt8.ofNat (48+m)]else numN (m / 10)++[UInt8.ofNat (48+m % 10)]
def num(n:Int):S:=if n<0 then 45::numN n.natAbs else numN n.natAbs
end Ox
end
