/- Part of the proof: see the last text. -/
import Derived.Test.YtlooegbcfkoloaaGreatDoorP6
set_option maxRecDepth 20000
set_option linter.unusedVariables false
set_option linter.unusedSimpArgs false
namespace Vm
open Go Go.RowKit
inductive O where
 | t (n:Nat)
 | c (v:V)
def O.ev (e:Nat→V):O→V | .t n=>e n | .c v=>v
def O.tmps:O→List Nat | .t n=>[n] | .c _=>[]
inductive M where
 | move (x:O)
 | pick (c a b:O)
 | alloc (T:TypeId) (cs:List V)
 | box (T:TypeId) (x:O)
 | build (cs:List V) (ps:List (Nat×Nat×O))
 | bslice (e z:Nat) (xs:List O)
 | load (ag:Bool) (n:Nat) (a:O)
 | store (n:Nat) (a x:O)
 | chk (x:O)
 | arith (op:BinOp) (b i s:Bool) (x y:O)
 | un (op:UnOp) (x:O)
 | conv (k:Option IntKind) (x:O)
 | iface (T:TypeId) (x:O)
 | fn (f:FuncId) (first cap:List O)
 | sls (x:O) (lo hi:Option O)
 | sll (z:Nat) (x:O) (lo hi:Option O)
 | faddr (o:Nat) (x:O)
 | field (o n:Nat) (ag:Bool) (x:O)
 | iaddr (z:Nat) (x i:O)
 | idx (x i:O)
 | ext (x:O) (i:Nat)
 | tas (z:Option V) (T:TypeId) (x:O)
 | lens (x:O)
 | lenl (x:O)
 | app (e z b:Nat) (s x:O)
 | mm (b:Builtin) (x y:O)
 | call (b:Bool) (f:O) (args:List O)
 | pan (x:O)
def fillM (cells:List V):List (Nat×Nat×V)→Option (List V)
 | []=>some cells
 | (off,size,x) :: rest=>if x.size=size∧off+size≤cells.length∧x.data=true∧(x.isAgg=true∨x.one=true) then fillM (cells.take off++x.cells++cells.drop (off+size)) rest else none
def stN (n:Nat):Nat:=match n with | 0=>1 | n=>n
def V.simple:V→Bool | .any | .row _ _ | .fn _ _ _ | .ta _=>false | _=>true
def fillK (cells:List V):List (Nat×Nat×V)→Option (List V)
 | []=>some cells
 | (off,size,x) :: rest=>if x.size=size∧off+size≤cells.length∧(x.data=true∨x.isRow=true)∧(x.isAgg=true∨x.one=true) then fillK (cells.take off++x.cells++cells.drop (off+size)) rest else none
def one1 (o:Option V):Option (V×Upds):=match o with | some v=>some (v,[]) | none=>none
def semM (slot:Nat) (m:M) (e:Nat→V) (st:Nat→Ent):Option (V×Upds) :=
 match m with
 | .move x=>some (x.ev e,[])
 | .pick c a b=>match c.ev e with
  | .bool t=>some (if t=true then a.ev e else b.ev e,[])
  | _=>none
 | .alloc T cs=>if (st slot).isGone=true then some (.ptr slot 0,[(slot,.blk T cs)]) else none
 | .box T x=>zko slot T (x.ev e) st
 | .build cs ps=>if slot < 1000 then (match fillM cs (ps.map fun p=>(p.1,p.2.1,res st (p.2.2.ev e))) with
  | some r=>some (.agg r,[])
  | none=>none) else match fillK cs (ps.map fun p=>(p.1,p.2.1,p.2.2.ev e)) with
  | some r=>some (.ta r,[])
  | none=>none
 | .bslice el z xs=>if (st slot).isGone=true∧(∀ p∈xs.map (fun (x:O)=>norm1 (res st (x.ev e))),p.data=true∧p.storable=true∧p.size=z)∧xs.length * z≤16777216 then some (.row slot xs.length,[(slot,.row el z (xs.map fun (x:O)=>norm1 (res st (x.ev e))))]) else none
 | .load true n a=>match a.ev e with
  | .ptr id off=>match st id with
   | .blk _ cs=>if ((cs.drop off).take n).length=n∧(((cs.drop off).take n).map (res st)).all V.data=true then some (.agg (((cs.drop off).take n).map (res st)),[]) else none
   | _=>none
  | .ip x off=>if off=0∧x.isAgg=true∧x.size=n then some (x,[]) else if off+n≤x.size then some (.agg ((x.cells.drop off).take n),[]) else none
  | _=>none
 | .load false _ a=>match a.ev e with
  | .ptr id off=>match st id with
   | .blk _ cs=>one1 cs[off]?
   | _=>none
  | .ip x off=>one1 x.cells[off]?
  | _=>none
 | .store n a x=>match a.ev e with
  | .ptr id off=>match st id with
   | .blk T cs=>if (x.ev e).size=stN n∧off+stN n≤cs.length∧(x.ev e).storable=true then some (.undef,[(id,.blk T (cs.take off++(x.ev e).cells++cs.drop (off+stN n)))]) else none
   | _=>none
  | _=>none
 | .chk x=>match x.ev e with
  | .ptr i o=>some (.ptr i o,[])
  | .ip y o=>some (.ip y o,[])
  | .fn f a b=>some (.fn f a b,[])
  | _=>none
 | .arith op b i s x y=>match x.ev e,y.ev e with
  | .int k a,.int k' c=>if k=k' then one1 (zej op k a c) else none
  | .str a,.str c=>one1 (strV op a c)
  | .bool a,.bool c=>if b=true∧i=false then (match op with | .eql=>some (.bool (a == c),[]) | .neq=>some (.bool (!(a == c)),[]) | _=>none) else none
  | .nils,.nils=>if s=true∧i=false then (match op with | .eql=>some (.bool true,[]) | .neq=>some (.bool false,[]) | _=>none) else none
  | .iface _ _,.niface=>if i=true∧b=false then (match op with | .eql=>some (.bool false,[]) | .neq=>some (.bool true,[]) | _=>none) else none
  | .niface,.niface=>if (i=true∧b=false)∧s=true then (match op with | .eql=>some (.bool true,[]) | .neq=>some (.bool false,[]) | _=>none) else none
  | .agg xs,.agg ys=>if b=true∧i=true then (match op,eqVal xs ys with | .eql,some r=>some (.bool r,[]) | .neq,some r=>some (.bool (!r),[]) | _,_=>none) else none
  | _,_=>none
 | .un op x=>one1 (zde op (x.ev e))
 | .conv (some k) x=>match x.ev e with | .int _ n=>some (.int k (k.wrap n),[]) | _=>none
 | .conv none x=>match x.ev e with | .str s=>some (.str s,[]) | _=>none
 | .iface T x=>if (norm1 (res st (x.ev e))).data=true then some (.iface T (norm1 (res st (x.ev e))),[]) else none
 | .fn f first cap=>if (∀ v∈first.map (O.ev e),v.simple=true)∧(∀ v∈cap.map (O.ev e),v.simple=true) then some (.fn f (first.map (O.ev e)) (cap.map (O.ev e)),[]) else none
 | .sls x lo hi=>match x.ev e with | .str s=>one1 (zgq s (lo.map (O.ev e)) (hi.map (O.ev e))) | _=>none
 | .sll z x lo hi=>match norm0 (res st (x.ev e)) with | .list xs=>one1 (zfx z xs (lo.map (O.ev e)) (hi.map (O.ev e))) | _=>none
 | .faddr o x=>match x.ev e with
  | .ptr id off=>some (.ptr id (off+o),[])
  | .ip y off=>some (.ip y (off+o),[])
  | _=>none
 | .field o n true x=>match x.ev e with | .agg cs=>if o+n≤cs.length then some (.agg ((cs.drop o).take n),[]) else none | _=>none
 | .field o _ false x=>match x.ev e with | .agg cs=>one1 cs[o]? | _=>none
 | .iaddr z x i=>match norm0 (res st (x.ev e)),i.ev e with
  | .list xs,.int _ n=>match xs[n.toNat]? with
   | some y=>if 0≤n∧y.size=z then some (.ip y 0,[]) else none
   | none=>none
  | _,_=>none
 | .idx x i=>match x.ev e,i.ev e with
  | .str s,.int _ n=>match s[n.toNat]? with
   | some c=>if 0≤n then some (.int .u8 (c.toNat:Int),[]) else none
   | none=>none
  | _,_=>none
 | .ext x i=>match x.ev e with | .tup vs=>one1 vs[i]? | _=>none
 | .tas z T x=>one1 (tasV z T (x.ev e))
 | .lens x=>match x.ev e with | .str s=>some (.int .i64 (s.length:Int),[]) | _=>none
 | .lenl x=>match norm0 (res st (x.ev e)) with | .list xs=>some (.int .i64 (xs.length:Int),[]) | _=>none
 | .app el z b s x=>match norm0 (res st (x.ev e)),s.ev e with
  | .list ys,.row id n=>match st id with
   | .row T z' xs=>if T=el∧z'=z∧n=xs.length∧(∀ y∈ys,y.size=z)∧(xs.length+ys.length) * (b+1)≤140737488355328 then some (.row id (xs.length+ys.length),[(id,.row T z' (xs++ys))]) else none
   | _=>none
  | .list ys,.nils=>if (st slot).isGone=true∧(∀ y∈ys,y.size=z)∧ys.length * (b+1)≤140737488355328 then some (.row slot ys.length,[(slot,.row el z ys)]) else none
  | _,_=>none
 | .mm b x y=>one1 (zjz b (x.ev e) (y.ev e))
 | .call _ _ _=>none
 | .pan _=>none
def compO (N:Nat) (G:Nat→V):Operand→Option O
 | .tmp t=>if t < N then some (.t t) else none
 | .const v=>some (.c (ofVal v))
 | .global g=>some (.c (G g))
 | .func f=>some (.c (.fn f [] []))
def zfH (N:Nat) (G:Nat→V):List Operand→Option (List O)
 | []=>some []
 | x :: r=>match compO N G x,zfH N G r with | some y,some s=>some (y :: s) | _,_=>none
def zji (N:Nat) (G:Nat→V):Option Operand→Option (Option O)
 | none=>some none
 | some x=>match compO N G x with | some y=>some (some y) | none=>none
def zf5 (N:Nat) (G:Nat→V) (pl:List (Nat×Nat)):List (Nat×Operand)→Option (List (Nat×Nat×O))
 | []=>some []
 | (i,x) :: r=>match pl[i]?,compO N G x,zf5 N G pl r with | some (o,s),some y,some q=>some ((o,s,y) :: q) | _,_,_=>none
def zbS (N:Nat) (G:Nat→V) (x:Operand) (f:O→Option M):Option M:=match compO N G x with | some y=>f y | none=>none
def plainT (P:Program) (t:TypeId):Bool:=match P.underlying t with | some .bool=>true | some (.int _)=>true | some .string=>true | some (.slice _)=>true | some (.struct _)=>true | _=>false
def zqP (P:Program) (c:Call):Bool:=match c.callee with | .value (.func _)=>c.argTypes.toList.all (plainT P) | _=>false
def compM (P:Program) (N:Nat) (G:Nat→V) (op:Op):Option M :=
 match op with
 | .move x=>zbS N G x fun x=>some (.move x)
 | .assign x=>zbS N G x fun x=>some (.move x)
 | .pick c a b=>zbS N G c fun c=>zbS N G a fun a=>zbS N G b fun b=>some (.pick c a b)
 | .alloc T=>match zmh P T with | some cs=>some (.alloc T cs) | none=>none
 | .box T x=>zbS N G x fun x=>some (.box T x)
 | .build T ps=>match zmh P T,zhV P T with
  | some cs,some pl=>match zf5 N G pl ps.toList with | some q=>some (.build cs q) | none=>none
  | _,_=>none
 | .buildSlice T len ps=>match rowT P T,zfH N G (ps.toList.map (·.2)) with
  | some (el,z,_),some xs=>if ps.toList.map (·.1)=List.range len then some (.bslice el z xs) else none
  | _,_=>none
 | .load T a=>match zes P T with | some (ag,n)=>zbS N G a fun a=>some (.load ag n a) | none=>none
 | .store T a x=>match zes P T with | some (ag,n+1)=>zbS N G a fun a=>zbS N G x fun x=>some (.store (if ag=true∧n=0 then 0 else n+1) a x) | _=>none
 | .nilCheck x=>zbS N G x fun x=>some (.chk x)
 | .binOp op T x y _=>zbS N G x fun x=>zbS N G y fun y=>some (.arith op (zpK P T || valT P T) (zgD P T || valT P T) ((eszT P T).isSome || zrU P T) x y)
 | .unOp op _ x=>zbS N G x fun x=>some (.un op x)
 | .convert s d x=>match P.underlying s,P.underlying d with
  | some _,some (.int k)=>zbS N G x fun x=>some (.conv (some k) x)
  | some _,some .string=>zbS N G x fun x=>some (.conv none x)
  | _,_=>none
 | .makeInterface T x=>if P.concrete T=true then zbS N G x fun x=>some (.iface T x) else none
 | .makeFunc (.func f) first cap=>match zfH N G first.toList,zfH N G cap.toList with
  | some a,some b=>some (.fn f a b)
  | _,_=>none
 | .slice T x lo hi none=>match zji N G lo,zji N G hi with
  | some lo,some hi=>if strT P T=true then zbS N G x fun x=>some (.sls x lo hi) else match eszT P T with | some z=>zbS N G x fun x=>some (.sll z x lo hi) | none=>none
  | _,_=>none
 | .fieldAddr s x f=>match zk1 P s f with | some (o,_+1,_)=>zbS N G x fun x=>some (.faddr o x) | _=>none
 | .field s x f=>match zk1 P s f with | some (o,n,ag)=>zbS N G x fun x=>some (.field o n ag x) | _=>none
 | .indexAddr T x i=>match eszT P T with | some z=>zbS N G x fun x=>zbS N G i fun i=>some (.iaddr z x i) | none=>none
 | .index T x i=>if strT P T=true then zbS N G x fun x=>zbS N G i fun i=>some (.idx x i) else none
 | .extract x i=>zbS N G x fun x=>some (.ext x i)
 | .typeAssert x _ T ok=>if concT P T=true then (match ok with | true=>(match zero1 P T with | some z=>zbS N G x fun x=>some (.tas (some z) T x) | none=>none) | false=>zbS N G x fun x=>some (.tas none T x)) else none
 | .panic x=>zbS N G x fun x=>some (.pan x)
 | .call c=>match c.callee with
  | .value f=>match zfH N G c.args.toList with | some xs=>zbS N G f fun f=>some (.call (zqP P c) f xs) | none=>none
  | .builtin b=>match b,c.args.toList,c.argTypes.toList with
   | .len,[x],[T]=>if strT P T=true then zbS N G x fun x=>some (.lens x) else if (eszT P T).isSome=true then zbS N G x fun x=>some (.lenl x) else none
   | .append,[s,x],[T,T']=>if T=T' then match rowT P T with | some (el,z,b)=>zbS N G s fun s=>zbS N G x fun x=>some (.app el z b s x) | none=>none else none
   | .min,[x,y],_=>zbS N G x fun x=>zbS N G y fun y=>some (.mm .min x y)
   | .max,[x,y],_=>zbS N G x fun x=>zbS N G y fun y=>some (.mm .max x y)
   | _,_,_=>none
  | _=>none
 | _=>none
theorem zab {N:Nat} {G:Nat→V} {x:Operand} {f:O→Option M} {m:M} (h:zbS N G x f=some m):∃ y,compO N G x=some y∧f y=some m:=by
 unfold zbS at h
 split at h
 ·exact ⟨_,by assumption,h⟩
 ·cases h
theorem zaf {c:Ctx} {x:X} {a:Act} {w:World} {H:Nat→Value} {A:Nat→Nat→Prop} (h:SimH c x a w H A) {o:Operand} {y:O} (ho:compO c.N c.G o=some y):RepT w A x.st H (y.ev x.env) (a.eval o):=by
 cases o with
 | tmp t =>
  simp only [compO] at ho
  split at ho
  ·rename_i ht
   cases ho
   exact h.env t ht
  ·cases ho
 | const v=>cases ho;exact repV_ofVal w A x.st H v
 | global g =>
  cases ho
  show RepT w A x.st H (c.G g) _
  rcases h.glo g with h1 | h1
  ·rw [h1];trivial
  ·exact h1.toT
 | func f=>cases ho;exact ⟨#[],#[],rfl,rfl,rfl⟩
theorem zer {c:Ctx} {x:X} {a:Act} {w:World} {H:Nat→Value} {A:Nat→Nat→Prop} (h:SimH c x a w H A):∀ {os:List Operand} {ys:List O},zfH c.N c.G os=some ys→zaY w A x.st H (ys.map (O.ev x.env)) (os.map a.eval)
 | [],_,ho=>by cases ho;rfl
 | o :: os,_,ho=>by
  simp only [zfH] at ho
  split at ho
  ·rename_i y s h1 h2
   cases ho
   exact ⟨_,_,rfl,zaf h h1,zer h h2⟩
  ·cases ho
theorem zfZ {c:Ctx} {x:X} {a:Act} {w:World} {H:Nat→Value} {A:Nat→Nat→Prop} (h:SimH c x a w H A) {o:Option Operand} {y:Option O} (ho:zji c.N c.G o=some y):RepO w A x.st H (y.map (O.ev x.env)) (o.map a.eval):=by
 cases o with
 | none=>cases ho;trivial
 | some o =>
  simp only [zji] at ho
  split at ho
  ·rename_i h1
   cases ho
   exact zaf h h1
  ·cases ho
theorem repT_norm0 {w:World} {A:Nat→Nat→Prop} {st:Nat→Ent} {H:Nat→Value} {x:V} {v:Value} (h:RepT w A st H x v):RepT w A st H (norm0 x) v:=by
 cases x<;>first | exact h | (exact (repV_norm0 (h.data rfl)).toT)
theorem zep {w:World} {A:Nat→Nat→Prop} {st:Nat→Ent} {H:Nat→Value} {x:V} {v:Value} (h:RepT w A st H x v):RepT w A st H (norm1 x) v:=by
 cases x<;>first | exact repT_norm0 h | (exact (repV_norm1 (h.data rfl)).toT)
end Vm
