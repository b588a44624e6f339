/- Part of the proof: see the last text. -/
import Derived.Test.YtplflngjpajcmaaGreatDoorP0
set_option maxRecDepth 20000
set_option linter.unusedVariables false
set_option linter.unusedSimpArgs false
noncomputable section
namespace Vm
section
open Go Go.RowKit
inductive V where
 |bool (b:Bool)
 |int (k:IntKind) (n:Int)
 |str (s:List UInt8)
 |list (xs:List V)
 |ip (x:V) (off:Nat)
 |ptr (id off:Nat)
 |row (id n:Nat)
 |nilp
 |fn (f:FuncId) (first cap:List V)
 |nils
 |niface
 |iface (t:TypeId) (v:V)
 |agg (cs:List V)
 |tup (vs:List V)
 |undef
 |any
 |ta (cs:List V)
 |mr (id n:Nat)
 |rp (id n off:Nat)
inductive Ent where
 |gone
 |blk (T:TypeId) (cs:List V)
 |row (T:TypeId) (z:Nat) (xs:List V)
 |mrow (T:TypeId) (z:Nat) (xs:List V)
 |frow (T:TypeId) (z:Nat) (xs:List V)
def V.isAgg:V→Bool|.agg _=>true|_=>false
def V.isRow:V→Bool|.row _ _=>true|_=>false
def V.isTa:V→Bool|.ta _=>true|_=>false
def V.cells:V→List V|.agg cs=>cs|.ta cs=>cs|v=>[v]
def V.size(v:V):Nat:=v.cells.length
def V.one:V→Bool|.agg _|.tup _|.undef|.any|.ta _=>false|_=>true
def V.storable:V→Bool|.agg cs=>cs.all V.one|.ta cs=>cs.all V.one|v=>v.one
def At(w:World)(A:Nat→Nat→Prop)(b off:Nat)(vs:List Value):Prop:=
 b<w.heap.size∧∀j u,vs[j]?=some u→w.cell? ⟨b,off+j,none⟩=some u∧¬A b (off+j)
mutual
inductive RepV(w:World)(A:Nat→Nat→Prop):V→Value→Prop
 |bool (b:Bool):RepV w A (.bool b) (.bool b)
 |int (k:IntKind) (n:Int):RepV w A (.int k n) (.int k n)
 |str (s:List UInt8):RepV w A (.str s) (.string (Lx.bs s))
 |nil (a:Option Addr) (c:Nat):RepV w A (.list []) (.slice a 0 c)
 |list (xs:List V) (z b off c:Nat) (vs:List Value):xs≠[]→RepE w A z xs vs→At w A b off vs→xs.length≤c→c≤maxLen→RepV w A (.list xs) (.slice (some ⟨b,off,none⟩) xs.length c)
 |ip (x:V) (off b o:Nat) (vs:List Value):RepC w A x vs→At w A b o vs→RepV w A (.ip x off) (.pointer (some ⟨b,o+off,none⟩))
 |nilp:RepV w A .nilp (.pointer none)
 |nils:RepV w A .nils (.slice none 0 0)
 |niface:RepV w A .niface .nilIface
 |iface (t:TypeId) (v:V) (x:Value):RepV w A v x→RepV w A (.iface t v) (.iface t x)
 |agg (cs:List V) (vs:List Value):RepL w A cs vs→RepV w A (.agg cs) (.agg vs.toArray)
 |tup (cs:List V) (vs:List Value):RepL w A cs vs→RepV w A (.tup cs) (.tuple vs.toArray)
 |undef:RepV w A .undef Go.undef
inductive RepL(w:World)(A:Nat→Nat→Prop):List V→List Value→Prop
 |nil:RepL w A [] []
 |cons (c:V) (cs:List V) (v:Value) (vs:List Value):RepV w A c v→RepL w A cs vs→RepL w A (c::cs) (v::vs)
inductive RepC(w:World)(A:Nat→Nat→Prop):V→List Value→Prop
 |agg (cs:List V) (vs:List Value):cs.all V.one=true→RepL w A cs vs→RepC w A (.agg cs) vs
 |one (x:V) (v:Value):x.one=true→RepV w A x v→RepC w A x [v]
inductive RepE(w:World)(A:Nat→Nat→Prop):Nat→List V→List Value→Prop
 |nil (z:Nat):RepE w A z [] []
 |cons (z:Nat) (x:V) (xs:List V) (us ws:List Value):us.length=z→RepC w A x us→RepE w A z xs ws→RepE w A z (x::xs) (us++ws)
end
structure Keeps(w:World)(A:Nat→Nat→Prop)(w':World)(A':Nat→Nat→Prop):Prop where
 size:w.heap.size≤w'.heap.size
 cell:∀b o,b<w.heap.size→¬A b o→w'.cell? ⟨b,o,none⟩=w.cell? ⟨b,o,none⟩
 shun:∀b o,b<w.heap.size→¬A b o→¬A' b o
theorem Keeps.refl(w:World)(A:Nat→Nat→Prop):Keeps w A w A:=⟨qa37 _,fun _ _ _ _=>rfl,fun _ _ _ h=>h⟩
theorem Keeps.trans{w w' w'':World}{A A' A'':Nat→Nat→Prop}(h:Keeps w A w' A')(h':Keeps w' A' w'' A''):Keeps w A w'' A'':=
 ⟨qa36 h.size h'.size,fun b o hb hA=>(h'.cell b o (qa14 hb h.size) (h.shun b o hb hA)).trans (h.cell b o hb hA),fun b o hb hA=>h'.shun b o (qa14 hb h.size) (h.shun b o hb hA)⟩
theorem At.keep{w w':World}{A A':Nat→Nat→Prop}(k:Keeps w A w' A'){b off:Nat}{vs:List Value}(h:At w A b off vs):At w' A' b off vs:=
 ⟨qa14 h.1 k.size,fun j u hu=>⟨(k.cell _ _ h.1 (h.2 j u hu).2).trans (h.2 j u hu).1,k.shun _ _ h.1 (h.2 j u hu).2⟩⟩
mutual
theorem RepV.keep{w w':World}{A A':Nat→Nat→Prop}(k:Keeps w A w' A'):∀{x:V} {v:Value},RepV w A x v→RepV w' A' x v
 |_,_,.bool b=>.bool b
 |_,_,.int a b=>.int a b
 |_,_,.str s=>.str s
 |_,_,.nil a c=>.nil a c
 |_,_,.list xs z b off c vs h1 h2 h3 h4 h5=>.list xs z b off c vs h1 (RepE.keep k h2) (h3.keep k) h4 h5
 |_,_,.ip x off b o vs h1 h2=>.ip x off b o vs (RepC.keep k h1) (h2.keep k)
 |_,_,.nilp=>.nilp
 |_,_,.nils=>.nils
 |_,_,.niface=>.niface
 |_,_,.iface t v x h=>.iface t v x (RepV.keep k h)
 |_,_,.agg cs vs h=>.agg cs vs (RepL.keep k h)
 |_,_,.tup cs vs h=>.tup cs vs (RepL.keep k h)
 |_,_,.undef=>.undef
theorem RepL.keep{w w':World}{A A':Nat→Nat→Prop}(k:Keeps w A w' A'):∀{x:List V} {v:List Value},RepL w A x v→RepL w' A' x v
 |_,_,.nil=>.nil
 |_,_,.cons c cs v vs h1 h2=>.cons c cs v vs (RepV.keep k h1) (RepL.keep k h2)
theorem RepC.keep{w w':World}{A A':Nat→Nat→Prop}(k:Keeps w A w' A'):∀{x:V} {v:List Value},RepC w A x v→RepC w' A' x v
 |_,_,.agg cs vs h0 h=>.agg cs vs h0 (RepL.keep k h)
 |_,_,.one x v h1 h2=>.one x v h1 (RepV.keep k h2)
theorem RepE.keep{w w':World}{A A':Nat→Nat→Prop}(k:Keeps w A w' A'):∀{z:Nat} {x:List V} {v:List Value},RepE w A z x v→RepE w' A' z x v
 |_,_,_,.nil z=>.nil z
 |_,_,_,.cons z x xs us ws h0 h1 h2=>.cons z x xs us ws h0 (RepC.keep k h1) (RepE.keep k h2)
end
theorem zar{w:World}{A:Nat→Nat→Prop}:∀{x:List V} {v:List Value},RepL w A x v→x.length=v.length
 |_,_,.nil=>rfl
 |_,_,.cons _ _ _ _ _ h=>by simp[zar h]
theorem zdf{w:World}{A:Nat→Nat→Prop}:∀{x:List V} {v:List Value},RepL w A x v→∀(i:Nat)(c:V),x[i]?=some c→∃u,v[i]?=some u∧RepV w A c u
 |_,_,.nil,_,_,h=>by simp at h
 |_,_,.cons _ _ _ _ h1 _,0,_,h=>by simp at h;subst h;exact⟨_,rfl,h1⟩
 |_,_,.cons _ _ _ _ _ h2,i+1,_,h=>by simpa using zdf h2 i _ (by simpa using h)
theorem zcr{w:World}{A:Nat→Nat→Prop}:∀{x:List V} {v:List Value} (n:Nat),RepL w A x v→RepL w A (x.take n) (v.take n)
 |_,_,0,_=>by simpa using RepL.nil
 |_,_,n+1,.nil=>by simpa using RepL.nil
 |_,_,n+1,.cons _ _ _ _ h1 h2=>by simpa using RepL.cons _ _ _ _ h1 (zcr n h2)
theorem zcs{w:World}{A:Nat→Nat→Prop}:∀{x:List V} {v:List Value} (n:Nat),RepL w A x v→RepL w A (x.drop n) (v.drop n)
 |_,_,0,h=>by simpa using h
 |_,_,n+1,.nil=>by simpa using RepL.nil
 |_,_,n+1,.cons _ _ _ _ _ h2=>by simpa using zcs n h2
theorem zbW{w:World}{A:Nat→Nat→Prop}:∀{x y:List V} {v u:List Value},RepL w A x v→RepL w A y u→RepL w A (x++y) (v++u)
 |_,_,_,_,.nil,h=>by simpa using h
 |_,_,_,_,.cons _ _ _ _ h1 h2,h=>by simpa using RepL.cons _ _ _ _ h1 (zbW h2 h)
theorem zkb{x:V}(h:x.one=true):x.isAgg=false:=by cases x<;>first|rfl|simp[V.one]at h
theorem zav{x:V}(h:x.one=true):x.cells=[x]:=by cases x<;>first|rfl|simp[V.one]at h
theorem zcI{w:World}{A:Nat→Nat→Prop}{x:V}{vs:List Value}(h:RepC w A x vs):RepL w A x.cells vs:=by
 cases h with
 |agg cs _ _ h=>exact h
 |one _ v h1 h2=>
  rw[zav h1];exact .cons _ _ _ _ h2 .nil
theorem zbV{w:World}{A:Nat→Nat→Prop}{x:V}{v:Value}(h:RepV w A x v)(ha:x.one=true):v.oneCell'=true:=by
 cases h<;>first|rfl|(simp[V.one]at ha;done)
theorem zjW{w:World}{A:Nat→Nat→Prop}{x:V}{v:Value}(h:RepV w A x v)(hs:x.storable=true):RepC w A x v.cells.toList:=by
 cases x with
 |agg cs=>
  cases h with
  |agg cs vs h=>simpa[Value.cells]using RepC.agg cs vs hs h
 |ta cs=>cases h
 |_=>
  have h2:=zbV h (by simpa[V.storable]using hs);have h3:v.cells=#[v]:=by cases v<;>first|rfl|simp[Value.oneCell']at h2
  rw[h3];exact .one _ _ (by simpa[V.storable]using hs) h
theorem zgR{w:World}{A:Nat→Nat→Prop}:∀{x:List V} {v:List Value},RepL w A x v→x.all V.one=true→∀u∈v,u.oneCell'=true
 |_,_,.nil,_,_,hu=>by simp at hu
 |_,_,.cons c cs v vs h1 h2,ho,u,hu=>by
  simp only[qa34,qa21]at ho;rcases qa33.1 hu with rfl|hu
  ·exact zbV h1 ho.1
  ·exact zgR h2 ho.2 _ hu
theorem zgV{w:World}{A:Nat→Nat→Prop}{x:V}{v:List Value}(h:RepC w A x v):∀u∈v,u.oneCell'=true:=by
 cases h with
 |agg cs _ h1 h2=>exact zgR h2 h1
 |one _ v h1 h2=>
  intro u hu;simp only[List.mem_singleton]at hu;subst hu;exact zbV h2 h1
theorem zdg{w:World}{A:Nat→Nat→Prop}:∀{z:Nat} {x:List V} {v:List Value},RepE w A z x v→∀u∈v,u.oneCell'=true
 |_,_,_,.nil z,_,hu=>by simp at hu
 |_,_,_,.cons z x xs us ws h0 h1 h2,u,hu=>by
  rcases qa29.1 hu with hu|hu
  ·exact zgV h1 u hu
  ·exact zdg h2 u hu
theorem zaz{w:World}{A:Nat→Nat→Prop}:∀{z:Nat} {x:List V} {v:List Value},RepE w A z x v→v.length=x.length*z
 |_,_,_,.nil z=>by simp
 |_,_,_,.cons z x xs us ws h0 _ h=>by simp[zaz h,h0,Nat.succ_mul,Nat.add_comm]
theorem zf0{w:World}{A:Nat→Nat→Prop}:∀{z:Nat} {x:List V} {v:List Value},RepE w A z x v→∀(i:Nat)(c:V),x[i]?=some c→∃us,RepC w A c us∧us.length=z∧∀j u,us[j]?=some u→v[i*z+j]?=some u
 |_,_,_,.nil z,_,_,h=>by simp at h
 |_,_,_,.cons z x xs us ws h0 h1 h2,0,_,h=>by
  simp at h;subst h;refine⟨us,h1,h0,fun j u hu=>?_⟩;have hj:j<us.length:=(qa4.1 hu).1;rw[Nat.zero_mul,Nat.zero_add,List.getElem?_append_left hj];exact hu
 |_,_,_,.cons z x xs us ws h0 h1 h2,i+1,_,h=>by
  obtain⟨us',h3,h4,h5⟩:=zf0 h2 i _ (by simpa using h);refine⟨us',h3,h4,fun j u hu=>?_⟩;rw[List.getElem?_append_right (by rw[h0,Nat.succ_mul];omega),h0,Nat.succ_mul,show i*z+z+j-z=i*z+j by omega];exact h5 j u hu
theorem zbX{w:World}{A:Nat→Nat→Prop}:∀{z:Nat} {x y:List V} {v u:List Value},RepE w A z x v→RepE w A z y u→RepE w A z (x++y) (v++u)
 |_,_,_,_,_,.nil z,h=>by simpa using h
 |_,_,_,_,_,.cons z x xs us ws h0 h1 h2,h=>by simpa using RepE.cons z x _ us _ h0 h1 (zbX h2 h)
theorem zgT{w:World}{A:Nat→Nat→Prop}:∀{z:Nat} {x:List V} {v:List Value} (n:Nat),RepE w A z x v→RepE w A z (x.take n) (v.take (n*z))
 |_,_,_,0,h=>by simpa using RepE.nil _
 |_,_,_,n+1,.nil z=>by simpa using RepE.nil _
 |_,_,_,n+1,.cons z x xs us ws h0 h1 h2=>by
  have h:=RepE.cons z x _ us _ h0 h1 (zgT n h2);rw[List.take_succ_cons,List.take_append,h0,Nat.succ_mul,List.take_of_length_le (l:=us) (by omega),show n*z+z-z=n*z by omega];exact h
theorem zgU{w:World}{A:Nat→Nat→Prop}:∀{z:Nat} {x:List V} {v:List Value} (n:Nat),RepE w A z x v→RepE w A z (x.drop n) (v.drop (n*z))
 |_,_,_,0,h=>by simpa using h
 |_,_,_,n+1,.nil z=>by simpa using RepE.nil _
 |_,_,_,n+1,.cons z x xs us ws h0 h1 h2=>by
  have h:=zgU n h2;rw[List.drop_succ_cons,List.drop_append,h0,Nat.succ_mul,List.drop_of_length_le (l:=us) (by omega),show n*z+z-z=n*z by omega,qa26];exact h
theorem zkV{w:World}{A:Nat→Nat→Prop}{b off:Nat}{vs:List Value}(h:At w A b off vs)(n:Nat):At w A b (off+n) (vs.drop n):=
 ⟨h.1,fun j u hu=>by
  have:=h.2 (n+j) u (by simpa using hu);rwa[←Nat.add_assoc]at this⟩
theorem zkU{w:World}{A:Nat→Nat→Prop}{b off:Nat}{vs:List Value}(h:At w A b off vs)(n:Nat):At w A b off (vs.take n):=
 ⟨h.1,fun j u hu=>h.2 j u (by
  rw[List.getElem?_take]at hu;split at hu
  ·exact hu
  ·cases hu)⟩
end
section
open Go Go.RowKit
structure X where
 env:Nat→V
 st:Nat→Ent
def upd(e:Nat→V)(d:Nat)(v:V):Nat→V:=fun i=>if i=d then v else e i
def updE(e:Nat→Ent)(d:Nat)(v:Ent):Nat→Ent:=fun i=>if i=d then v else e i
abbrev Upds:=List (Nat×Ent)
def updL(s:Nat→Ent):Upds→Nat→Ent
 |[]=>s
 |(i,e)::r=>updL (updE s i e) r
def putEnv(e:Nat→V)(dst:Option Tmp)(v:V):Nat→V:=match dst with|some d=>upd e d v|none=>e
def X.put(x:X)(dst:Option Tmp)(v:V)(U:Upds):X:=⟨putEnv x.env dst v,updL x.st U⟩
theorem upd_ne(e:Nat→V){d i:Nat}(v:V)(h:i≠d):upd e d v i=e i:=if_neg h
theorem zai(e:Nat→Ent)(d:Nat)(v:Ent):updE e d v d=v:=if_pos rfl
theorem zab(e:Nat→Ent){d i:Nat}(v:Ent)(h:i≠d):updE e d v i=e i:=if_neg h
def zgc:Value→V
 |.bool b=>.bool b
 |.int k n=>.int k n
 |.string s=>.str (Lx.ls s)
 |.pointer none=>.nilp
 |.slice none 0 0=>.nils
 |.nilIface=>.niface
 |_=>.any
def RepP(st:Nat→Ent)(H:Nat→Value):V→Value→Prop
 |.ptr id off,v=>∃b,H id=.pointer (some ⟨b,0,none⟩)∧(∃T cs,st id=.blk T cs)∧v=.pointer (some ⟨b,off,none⟩)
 |_,_=>False
def RepS(w:World)(A:Nat→Nat→Prop)(st:Nat→Ent)(H:Nat→Value)(x:V)(v:Value):Prop:=RepP st H x v∨RepV w A x v
def zaJ(w:World)(A:Nat→Nat→Prop)(st:Nat→Ent)(H:Nat→Value):List V→List Value→Prop
 |[],vs=>vs=[]
 |x::xs,vs=>∃u us,vs=u::us∧RepS w A st H x u∧zaJ w A st H xs us
def RepK(w:World)(A:Nat→Nat→Prop)(st:Nat→Ent)(H:Nat→Value):V→Value→Prop
 |.row id n,v=>∃T z xs,st id=.row T z xs∧n≤xs.length∧RepV w A (.list (xs.take n)) v∧(n=xs.length→v=H id)
 |x,v=>RepV w A x v
def zaC(w:World)(A:Nat→Nat→Prop)(st:Nat→Ent)(H:Nat→Value):List V→List Value→Prop
 |[],vs=>vs=[]
 |x::xs,vs=>∃u us,vs=u::us∧RepK w A st H x u∧zaC w A st H xs us
def RepT(w:World)(A:Nat→Nat→Prop)(st:Nat→Ent)(H:Nat→Value):V→Value→Prop
 |.row id n,v=>∃T z xs,st id=.row T z xs∧n≤xs.length∧RepV w A (.list (xs.take n)) v∧(n=xs.length→v=H id)
 |.fn f first cap,v=>∃fs cs,v=.func (.func f) fs cs∧zaJ w A st H first fs.toList∧zaJ w A st H cap cs.toList
 |.any,_=>True
 |.ta cs,v=>∃vs:List Value,v=.agg vs.toArray∧zaC w A st H cs vs
 |.mr id n,v=>(∃a c,v=.slice a n c∧(0<n→∃b,a=some ⟨b,0,none⟩))∧∃T z xs,n≤xs.length∧((st id=.mrow T z xs∧(n=xs.length→v=H id))∨(st id=.frow T z xs∧(n=xs.length→v=H id∧RepV w A (.list xs) v)))
 |.rp id n off,v=>(∃b,v=.pointer (some ⟨b,off,none⟩))∧∃T z xs,n≤xs.length∧(st id=.mrow T z xs∨st id=.frow T z xs)∧(n=xs.length→∃b m c,H id=.slice (some ⟨b,0,none⟩) m c∧v=.pointer (some ⟨b,off,none⟩))
 |x,v=>RepS w A st H x v
def zam(w:World)(A:Nat→Nat→Prop)(st:Nat→Ent)(H:Nat→Value):List V→List Value→Prop
 |[],vs=>vs=[]
 |x::xs,vs=>∃u us,vs=u::us∧RepT w A st H x u∧zam w A st H xs us
def RepEnt(w:World)(A:Nat→Nat→Prop)(st:Nat→Ent)(H:Nat→Value)(base:Nat):Ent→Value→Prop
 |.gone,_=>True
 |.blk T cs,v=>∃b C,v=.pointer (some ⟨b,0,none⟩)∧w.heap[b]?=some (.cells C T (0,0))∧zam w A st H cs C.toList∧∀off,A b off
 |.row T z xs,v=>0<z∧∃vs,w.ownsRow base T z v xs.length vs∧RepE w A z xs vs∧∀g,v.ownBlock=some g→(∀off,xs.length*z≤off→A g off)∧∀off,off<xs.length*z→¬A g off
 |.mrow T z xs,v=>0<z∧∃vs,w.ownsRow base T z v xs.length vs∧RepE w A z xs vs∧∀g,v.ownBlock=some g→∀off,A g off
 |.frow T z xs,v=>0<z∧∃vs,w.ownsRow base T z v xs.length vs∧RepE w A z xs vs∧∀g,v.ownBlock=some g→(∀off,xs.length*z≤off→A g off)∧∀off,off<xs.length*z→¬A g off
def blockOf:Value→Option Nat
 |.pointer (some a)=>some a.block
 |.slice (some a) _ _=>some a.block
 |_=>none
structure Ext(w0:World)(n0:Nat)(H0:Nat→Value)(w:World):Prop where
 os:w.os=w0.os
 tape:w.tape=w0.tape
 output:w.output=w0.output
 size:w0.heap.size≤w.heap.size
 block:∀b,b<w0.heap.size→(∀id,id<n0→blockOf (H0 id)≠some b)→w.heap[b]?=w0.heap[b]?
structure Ctx where
 w0:World
 A0:Nat→Nat→Prop
 n0:Nat
 H0:Nat→Value
 E0:Nat→Ent
 G:Nat→V
 N:Nat
 D:List Deferred
structure Foll(st:Nat→Ent)(H:Nat→Value)(st':Nat→Ent)(H':Nat→Value):Prop where
 blk:∀id T cs,st id=.blk T cs→H' id=H id∧∃T' cs',st' id=.blk T' cs'
 row:∀id T z xs,st id=.row T z xs→∃ys,st' id=.row T z (xs++ys)∧(ys=[]→H' id=H id)
 mrow:∀id T z xs,st id=.mrow T z xs→∃xs',st' id=.mrow T z xs'∧xs.length≤xs'.length∧(xs'.length=xs.length→H' id=H id)
 frow:∀id T z xs,st id=.frow T z xs→st' id=.frow T z xs∧H' id=H id
theorem Foll.refl(st:Nat→Ent)(H:Nat→Value):Foll st H st H:=⟨fun _ _ _ h=>⟨rfl,_,_,h⟩,fun _ _ _ _ h=>⟨[],by simpa using h,fun _=>rfl⟩,fun _ _ _ xs h=>⟨xs,h,qa37 _,fun _=>rfl⟩,fun _ _ _ _ h=>⟨h,rfl⟩⟩
theorem Foll.trans{st st' st'':Nat→Ent}{H H' H'':Nat→Value}(h:Foll st H st' H')(h':Foll st' H' st'' H''):Foll st H st'' H'':=by
 refine⟨fun id T cs hi=>?_,fun id T z xs hi=>?_,fun id T z xs hi=>?_,fun id T z xs hi=>?_⟩
 ·obtain⟨h1,T',cs',h2⟩:=h.blk id T cs hi;obtain⟨h3,h4⟩:=h'.blk id T' cs' h2;exact⟨h3.trans h1,h4⟩
 ·obtain⟨ys,h1,h2⟩:=h.row id T z xs hi;obtain⟨zs,h3,h4⟩:=h'.row id T z _ h1;refine⟨ys++zs,by simpa using h3,fun he=>?_⟩;obtain⟨rfl,rfl⟩:=List.append_eq_nil_iff.1 he;exact(h4 rfl).trans (h2 rfl)
 ·obtain⟨ys,h1,h2,h3⟩:=h.mrow id T z xs hi;obtain⟨zs,h4,h5,h6⟩:=h'.mrow id T z _ h1;exact⟨zs,h4,qa36 h2 h5,fun e=>(h6 (by omega)).trans (h3 (by omega))⟩
 ·obtain⟨h1,h2⟩:=h.frow id T z xs hi;obtain⟨h3,h4⟩:=h'.frow id T z xs h1;exact⟨h3,h4.trans h2⟩
structure SimH(c:Ctx)(x:X)(a:Act)(w:World)(H:Nat→Value)(A:Nat→Nat→Prop):Prop where
 tm:a.tmps.size=c.N
 df:a.defers=c.D
 env:∀t,t<c.N→RepT w A x.st H (x.env t) (a.tmps.getD t Go.undef)
 glo:∀g,c.G g=.any∨RepV w A (c.G g) (.pointer (some ⟨g,0,none⟩))
 kp:Keeps c.w0 c.A0 w A
 ent:∀id,RepEnt w A x.st H 0 (x.st id) (H id)
 dis:∀id id',id≠id'→x.st id≠.gone→x.st id'≠.gone→∀b,blockOf (H id)=some b→blockOf (H id')≠some b
 a00:∀b o,c.A0 b o→b<c.w0.heap.size
 a0:∀b o,c.A0 b o→(∀id,id<c.n0→blockOf (c.H0 id)≠some b)→A b o
 al:∀b o,A b o→b<w.heap.size
 out:Foll c.E0 c.H0 x.st H
 lent:∀id b,id<c.n0→x.st id≠.gone→blockOf (H id)=some b→b<c.w0.heap.size→blockOf (c.H0 id)=some b
 loc:∀id b,c.n0≤id→x.st id≠.gone→blockOf (H id)=some b→c.w0.heap.size≤b
 ext:Ext c.w0 c.n0 c.H0 w
theorem repV_ofVal(w:World)(A:Nat→Nat→Prop)(st:Nat→Ent)(H:Nat→Value)(v:Value):RepT w A st H (zgc v) v:=by
 unfold zgc;split
 ·exact Or.inr (.bool _)
 ·exact Or.inr (.int _ _)
 ·refine Or.inr ?_;have h:=RepV.str (w:=w) (A:=A) (Lx.ls ‹ByteArray›);rwa[Lx.zgn]at h
 ·exact Or.inr .nilp
 ·exact Or.inr .nils
 ·exact Or.inr .niface
 ·trivial
def evl(e:Nat→V):Operand→V
 |.tmp t=>e t
 |.const v=>zgc v
 |.global _=>.any
 |.func f=>.fn f [] []
def okOpd(N:Nat):Operand→Bool
 |.tmp t=>decide (t<N)
 |_=>true
theorem SimH.eval{c:Ctx}{x:X}{a:Act}{w:World}{H:Nat→Value}{A:Nat→Nat→Prop}(h:SimH c x a w H A)(o:Operand)(ho:okOpd c.N o=true):RepT w A x.st H (evl x.env o) (a.eval o):=by
 cases o with
 |tmp t=>exact h.env t (by simpa[okOpd]using ho)
 |const v=>exact repV_ofVal w A x.st H v
 |global g=>trivial
 |func f=>exact⟨#[],#[],rfl,rfl,rfl⟩
def V.data:V→Bool
 |.any|.ptr _ _|.row _ _|.fn _ _ _|.ta _|.mr _ _|.rp _ _ _=>false
 |_=>true
theorem RepT.data{w:World}{A:Nat→Nat→Prop}{st:Nat→Ent}{H:Nat→Value}{x:V}{v:Value}(h:RepT w A st H x v)(hd:x.data=true):RepV w A x v:=by
 cases x<;>first|(simp[V.data]at hd;done)|exact h.resolve_left (fun h=>h.elim)
theorem RepV.toT{w:World}{A:Nat→Nat→Prop}{st:Nat→Ent}{H:Nat→Value}{x:V}{v:Value}(h:RepV w A x v):RepT w A st H x v:=by
 cases x<;>first|exact Or.inr h|(cases h;done)|trivial
def resK(st:Nat→Ent):V→V
 |.row id n=>match st id with|.row _ _ xs=>if n≤xs.length then .list (xs.take n)else .any|_=>.any
 |v=>v
def res(st:Nat→Ent):V→V
 |.row id n=>match st id with|.row _ _ xs=>if n≤xs.length then .list (xs.take n)else .any|_=>.any
 |.ta cs=>if(cs.map (resK st)).all V.data=true then .agg (cs.map (resK st))else .any
 |.mr id n=>match st id with|.frow _ _ xs=>if n=xs.length then .list xs else .any|_=>.any
 |v=>v
theorem repK_res{w:World}{A:Nat→Nat→Prop}{st:Nat→Ent}{H:Nat→Value}{x:V}{v:Value}(h:RepK w A st H x v):RepV w A (resK st x) v:=by
 cases x<;>first|exact h|skip
 obtain⟨T,z,xs,h1,h2,h3,h4⟩:=h;simp only[resK,h1,if_pos h2];exact h3
theorem zgS{w:World}{A:Nat→Nat→Prop}{st:Nat→Ent}{H:Nat→Value}:∀{x:List V} {v:List Value},zaC w A st H x v→RepL w A (x.map (resK st)) v
 |[],_,h=>by rw[h];exact .nil
 |_::_,_,⟨u,us,h1,h2,h3⟩=>by subst h1;exact .cons _ _ _ _ (repK_res h2) (zgS h3)
theorem repT_res{w:World}{A:Nat→Nat→Prop}{st:Nat→Ent}{H:Nat→Value}{x:V}{v:Value}(h:RepT w A st H x v):RepT w A st H (res st x) v:=by
 cases x<;>first|exact h|skip
 ·obtain⟨T,z,xs,h1,h2,h3,h4⟩:=h;simp only[res,h1,if_pos h2];exact Or.inr h3
 ·obtain⟨vs,rfl,h⟩:=h;simp only[res];split
  ·exact Or.inr (.agg _ _ (zgS h))
  ·trivial
 ·obtain⟨_,T,z,xs,h1,h2⟩:=h;simp only[res];split
  ·rename_i xs' hs;split
   ·rename_i hn;rcases h2 with⟨h2,_⟩|⟨h2,h3⟩
    ·rw[h2]at hs;cases hs
    ·rw[h2]at hs;cases hs;exact Or.inr (h3 hn).2
   ·trivial
  ·trivial
theorem RepP.mono{st st':Nat→Ent}{H H':Nat→Value}{x:V}{v:Value}(h:RepP st H x v)(hk:∀id T cs,st id=.blk T cs→H' id=H id∧∃T' cs',st' id=.blk T' cs'):RepP st' H' x v:=by
 cases x<;>first|exact h.elim|skip
 obtain⟨b,h1,⟨T,cs,h2⟩,h3⟩:=h;obtain⟨h4,h5⟩:=hk _ _ _ h2;exact⟨b,h4.trans h1,h5,h3⟩
theorem RepS.mono{w w':World}{A A':Nat→Nat→Prop}{st st':Nat→Ent}{H H':Nat→Value}{x:V}{v:Value}(h:RepS w A st H x v)(k:Keeps w A w' A')(hk:∀id T cs,st id=.blk T cs→H' id=H id∧∃T' cs',st' id=.blk T' cs'):RepS w' A' st' H' x v:=
 h.imp (fun h=>h.mono hk) (fun h=>h.keep k)
theorem zaJ.mono{w w':World}{A A':Nat→Nat→Prop}{st st':Nat→Ent}{H H':Nat→Value}(k:Keeps w A w' A')(hk:∀id T cs,st id=.blk T cs→H' id=H id∧∃T' cs',st' id=.blk T' cs'):
  ∀{x:List V} {v:List Value},zaJ w A st H x v→zaJ w' A' st' H' x v
 |[],_,h=>h
 |_::_,_,⟨u,us,h1,h2,h3⟩=>⟨u,us,h1,h2.mono k hk,zaJ.mono k hk h3⟩
theorem RepK.mono{w w':World}{A A':Nat→Nat→Prop}{st st':Nat→Ent}{H H':Nat→Value}{x:V}{v:Value}(h:RepK w A st H x v)(k:Keeps w A w' A')(f:Foll st H st' H'):RepK w' A' st' H' x v:=by
 cases x<;>first|exact RepV.keep k h|skip
 obtain⟨T,z,xs,h1,h2,h3,h4⟩:=h;obtain⟨ys,h5,h6⟩:=f.row _ _ _ _ h1;refine⟨T,z,xs++ys,h5,by simp;omega, ?_,fun hn=>?_⟩
 ·rw[List.take_append_of_le_length h2];exact h3.keep k
 ·have:ys=[]:=qa1 (by simp at hn;omega);subst this;rw[h6 rfl];exact h4 (by simpa using hn)
theorem zaC.mono{w w':World}{A A':Nat→Nat→Prop}{st st':Nat→Ent}{H H':Nat→Value}(k:Keeps w A w' A')(f:Foll st H st' H'):
  ∀{x:List V} {v:List Value},zaC w A st H x v→zaC w' A' st' H' x v
 |[],_,h=>h
 |_::_,_,⟨u,us,h1,h2,h3⟩=>⟨u,us,h1,h2.mono k f,zaC.mono k f h3⟩
theorem RepT.mono{w w':World}{A A':Nat→Nat→Prop}{st st':Nat→Ent}{H H':Nat→Value}{x:V}{v:Value}(h:RepT w A st H x v)(k:Keeps w A w' A')(f:Foll st H st' H'):RepT w' A' st' H' x v:=by
 cases x<;>first|trivial|exact RepS.mono h k f.blk|skip
 ·obtain⟨T,z,xs,h1,h2,h3,h4⟩:=h;obtain⟨ys,h5,h6⟩:=f.row _ _ _ _ h1;refine⟨T,z,xs++ys,h5,by simp;omega, ?_,fun hn=>?_⟩
  ·rw[List.take_append_of_le_length h2];exact h3.keep k
  ·have:ys=[]:=qa1 (by simp at hn;omega);subst this;rw[h6 rfl];exact h4 (by simpa using hn)
 ·obtain⟨fs,cs,h1,h2,h3⟩:=h;exact⟨fs,cs,h1,h2.mono k f.blk,h3.mono k f.blk⟩
 ·obtain⟨vs,h1,h2⟩:=h;exact⟨vs,h1,h2.mono k f⟩
 ·obtain⟨h0,T,z,xs,h1,h2⟩:=h;rcases h2 with⟨h2,h3⟩|⟨h2,h3⟩
  ·obtain⟨xs',h4,h5,h6⟩:=f.mrow _ _ _ _ h2;exact⟨h0,T,z,xs',by omega,.inl ⟨h4,fun e=>(h3 (by omega)).trans (h6 (by omega)).symm⟩⟩
  ·obtain⟨h4,h5⟩:=f.frow _ _ _ _ h2;exact⟨h0,T,z,xs,h1,.inr ⟨h4,fun e=>⟨(h3 e).1.trans h5.symm,(h3 e).2.keep k⟩⟩⟩
 ·obtain⟨h0,T,z,xs,h1,h2,h3⟩:=h;rcases h2 with h2|h2
  ·obtain⟨xs',h4,h5,h6⟩:=f.mrow _ _ _ _ h2;exact⟨h0,T,z,xs',by omega,.inl h4,fun e=>by rw[h6 (by omega)];exact h3 (by omega)⟩
  ·obtain⟨h4,h5⟩:=f.frow _ _ _ _ h2;exact⟨h0,T,z,xs,h1,.inr h4,fun e=>by rw[h5];exact h3 e⟩
theorem zam.mono{w w':World}{A A':Nat→Nat→Prop}{st st':Nat→Ent}{H H':Nat→Value}(k:Keeps w A w' A')(f:Foll st H st' H'):
  ∀{x:List V} {v:List Value},zam w A st H x v→zam w' A' st' H' x v
 |[],_,h=>h
 |_::_,_,⟨u,us,h1,h2,h3⟩=>⟨u,us,h1,h2.mono k f,zam.mono k f h3⟩
theorem zaE{w:World}{A:Nat→Nat→Prop}{st:Nat→Ent}{H:Nat→Value}:∀{x:List V} {v:List Value},zam w A st H x v→x.length=v.length
 |[],_,h=>by rw[h];rfl
 |_::_,_,⟨u,us,h1,_,h3⟩=>by rw[h1];simp[zaE h3]
theorem zbk{w:World}{A:Nat→Nat→Prop}{st:Nat→Ent}{H:Nat→Value}:∀{x:List V} {v:List Value},zam w A st H x v→∀(i:Nat)(c:V),x[i]?=some c→∃u,v[i]?=some u∧RepT w A st H c u
 |[],_,_,_,_,h=>by simp at h
 |_::_,_,⟨u,us,h1,h2,h3⟩,0,_,h=>by simp at h;subst h;subst h1;exact⟨_,rfl,h2⟩
 |_::_,_,⟨u,us,h1,h2,h3⟩,i+1,_,h=>by subst h1;simpa using zbk h3 i _ (by simpa using h)
theorem zaF{w:World}{A:Nat→Nat→Prop}{st:Nat→Ent}{H:Nat→Value}:∀{x y:List V} {v u:List Value},zam w A st H x v→zam w A st H y u→zam w A st H (x++y) (v++u)
 |[],_,_,_,h,h2=>by rw[h];simpa using h2
 |_::_,_,_,_,⟨u,us,h1,h2,h3⟩,h4=>by subst h1;exact⟨_,_,rfl,h2,zaF h3 h4⟩
theorem zdD{w:World}{A:Nat→Nat→Prop}{st:Nat→Ent}{H:Nat→Value}:∀{x:List V} {v:List Value} (n:Nat),zam w A st H x v→zam w A st H (x.take n) (v.take n)
 |x,_,0,_=>by simp[zam]
 |[],_,n+1,h=>by rw[h];simp[zam]
 |_::_,_,n+1,⟨u,us,h1,h2,h3⟩=>by subst h1;exact⟨_,_,rfl,h2,zdD n h3⟩
theorem zdF{w:World}{A:Nat→Nat→Prop}{st:Nat→Ent}{H:Nat→Value}:∀{x:List V} {v:List Value} (n:Nat),zam w A st H x v→zam w A st H (x.drop n) (v.drop n)
 |x,_,0,h=>by simpa using h
 |[],_,n+1,h=>by rw[h];simp[zam]
 |_::_,_,n+1,⟨u,us,h1,h2,h3⟩=>by subst h1;simpa using zdF n h3
theorem zd5{w:World}{A:Nat→Nat→Prop}{st:Nat→Ent}{H:Nat→Value}:∀{x:List V} {v:List Value},RepL w A x v→zam w A st H x v
 |_,_,.nil=>rfl
 |_,_,.cons _ _ _ _ h1 h2=>⟨_,_,rfl,h1.toT,zd5 h2⟩
theorem zjP{w:World}{A:Nat→Nat→Prop}{st:Nat→Ent}{H:Nat→Value}:∀{x:List V} {v:List Value},zam w A st H x v→x.all V.data=true→RepL w A x v
 |[],_,h,_=>by rw[h];exact .nil
 |_::_,_,⟨u,us,h1,h2,h3⟩,hd=>by
  simp only[qa34,qa21]at hd;subst h1;exact .cons _ _ _ _ (h2.data hd.1) (zjP h3 hd.2)
theorem zey{w:World}{A:Nat→Nat→Prop}{st:Nat→Ent}{H:Nat→Value}:∀{x:List V} {v:List Value},zam w A st H x v→zam w A st H (x.map (res st)) v
 |[],_,h=>h
 |_::_,_,⟨u,us,h1,h2,h3⟩=>⟨u,us,h1,repT_res h2,zey h3⟩
def norm0:V→V|.nils=>.list []|v=>v
def norm1:V→V|.agg cs=>.agg (cs.map norm0)|v=>norm0 v
theorem repV_norm0{w:World}{A:Nat→Nat→Prop}{x:V}{v:Value}(h:RepV w A x v):RepV w A (norm0 x) v:=by
 cases x<;>first|exact h|(cases h;exact .nil _ _)
theorem zfb{w:World}{A:Nat→Nat→Prop}:∀{x:List V} {v:List Value},RepL w A x v→RepL w A (x.map norm0) v
 |_,_,.nil=>.nil
 |_,_,.cons _ _ _ _ h1 h2=>.cons _ _ _ _ (repV_norm0 h1) (zfb h2)
theorem repV_norm1{w:World}{A:Nat→Nat→Prop}{x:V}{v:Value}(h:RepV w A x v):RepV w A (norm1 x) v:=by
 cases x<;>first|exact repV_norm0 h|(cases h with|agg cs vs h=>exact .agg _ _ (zfb h))
end
section
open Go Go.RowKit
def updH(e:Nat→Value)(d:Nat)(v:Value):Nat→Value:=fun i=>if i=d then v else e i
theorem zf9(a:Act)(dst:Option Tmp)(v:Value)(t:Nat):(a.put dst v).tmps.getD t Go.undef=if dst=some t∧t<a.tmps.size then v else a.tmps.getD t Go.undef:=by
 cases dst with
 |none=>simp[Act.put]
 |some d=>
  simp only[Act.put,qa2,Array.getElem?_setIfInBounds,qa17];by_cases h:d=t
  ·subst h;by_cases h2:d<a.tmps.size
   ·simp[h2]
   ·simp[h2]
  ·simp[h]
theorem SimH.go{c:Ctx}{x:X}{a:Act}{w:World}{H:Nat→Value}{A:Nat→Nat→Prop}(h:SimH c x a w H A){w':World}{st':Nat→Ent}{H':Nat→Value}{A':Nat→Nat→Prop}
  (k:Keeps w A w' A') (f:Foll x.st H st' H')
  (ent:∀id,RepEnt w' A' st' H' 0 (st' id) (H' id))
  (dis:∀id id',id≠id'→st' id≠.gone→st' id'≠.gone→∀b,blockOf (H' id)=some b→blockOf (H' id')≠some b)
  (a0:∀b o,c.A0 b o→(∀id,id<c.n0→blockOf (c.H0 id)≠some b)→A' b o) (lent:∀id b,id<c.n0→st' id≠.gone→blockOf (H' id)=some b→b<c.w0.heap.size→blockOf (c.H0 id)=some b) (al:∀b o,A' b o→b<w'.heap.size)
  (loc:∀id b,c.n0≤id→st' id≠.gone→blockOf (H' id)=some b→c.w0.heap.size≤b)
  (ext:Ext c.w0 c.n0 c.H0 w') (dst:Option Tmp) (v:V) (xv:Value) (hv:RepT w' A' st' H' v xv):SimH c ⟨putEnv x.env dst v,st'⟩ (a.put dst xv) w' H' A' where
 tm:=by cases dst<;>simp[Act.put,h.tm]
 df:=by cases dst<;>simp[Act.put,h.df]
 env:=by
  intro t ht;rw[zf9,h.tm];cases dst with
  |none=>simpa[putEnv]using(h.env t ht).mono k f
  |some d=>
   by_cases hd:d=t
   ·subst hd;simpa[putEnv,upd,ht]using hv
   ·simpa[putEnv,upd,hd,Ne.symm hd]using(h.env t ht).mono k f
 glo:=fun g=>(h.glo g).imp id (fun h=>h.keep k)
 kp:=h.kp.trans k
 ent:=ent
 dis:=dis
 a00:=h.a00
 a0:=a0
 al:=al
 out:=h.out.trans f
 lent:=lent
 loc:=loc
 ext:=ext
theorem SimH.putv{c:Ctx}{x:X}{a:Act}{w:World}{H:Nat→Value}{A:Nat→Nat→Prop}(h:SimH c x a w H A)(dst:Option Tmp)(v:V)(xv:Value)(hv:RepT w A x.st H v xv):SimH c (x.put dst v []) (a.put dst xv) w H A:=
 h.go (Keeps.refl _ _) (Foll.refl _ _) h.ent h.dis h.a0 h.lent h.al h.loc h.ext dst v xv hv
theorem RepEnt.mono{w w':World}{A A':Nat→Nat→Prop}{st st':Nat→Ent}{H H':Nat→Value}{base:Nat}{e:Ent}{v:Value}(h:RepEnt w A st H base e v)(k:Keeps w A w' A')(f:Foll st H st' H')
  (hb:∀b,blockOf v=some b→w'.heap[b]?=w.heap[b]?∧∀o,A' b o↔A b o):RepEnt w' A' st' H' base e v:=by
 cases e with
 |gone=>trivial
 |blk T cs=>
  obtain⟨b,C,rfl,h2,h3,h4⟩:=h;obtain⟨h5,h6⟩:=hb b rfl;exact⟨b,C,rfl,h5.trans h2,h3.mono k f,fun o=>(h6 o).2 (h4 o)⟩
 |row T z xs=>
  obtain⟨h0,vs,⟨h1,h2⟩,h3,h4⟩:=h;refine⟨h0,vs,⟨h1, ?_⟩,h3.keep k, ?_⟩
  ·rcases h2 with h2|⟨g,cap,cur,rfl,h5,h6,h7⟩
   ·exact .inl h2
   ·exact .inr ⟨g,cap,cur,rfl,h5,(hb g rfl).1.trans h6,h7⟩
  ·intro g hg;have hbl:blockOf v=some g:=by
    cases v<;>simp[Value.ownBlock]at hg;rename_i aa _ _;cases aa<;>simp at hg;simp[blockOf,hg]
   obtain⟨h5,h6⟩:=hb g hbl;obtain⟨h7,h8⟩:=h4 g hg;exact⟨fun o ho=>(h6 o).2 (h7 o ho),fun o ho hA=>h8 o ho ((h6 o).1 hA)⟩
 |mrow T z xs=>
  obtain⟨h0,vs,⟨h1,h2⟩,h3,h4⟩:=h;refine⟨h0,vs,⟨h1, ?_⟩,h3.keep k, ?_⟩
  ·rcases h2 with h2|⟨g,cap,cur,rfl,h5,h6,h7⟩
   ·exact .inl h2
   ·exact .inr ⟨g,cap,cur,rfl,h5,(hb g rfl).1.trans h6,h7⟩
  ·intro g hg;have hbl:blockOf v=some g:=by
    cases v<;>simp[Value.ownBlock]at hg;rename_i aa _ _;cases aa<;>simp at hg;simp[blockOf,hg]
   obtain⟨h5,h6⟩:=hb g hbl;exact fun o=>(h6 o).2 (h4 g hg o)
 |frow T z xs=>
  obtain⟨h0,vs,⟨h1,h2⟩,h3,h4⟩:=h;refine⟨h0,vs,⟨h1, ?_⟩,h3.keep k, ?_⟩
  ·rcases h2 with h2|⟨g,cap,cur,rfl,h5,h6,h7⟩
   ·exact .inl h2
   ·exact .inr ⟨g,cap,cur,rfl,h5,(hb g rfl).1.trans h6,h7⟩
  ·intro g hg;have hbl:blockOf v=some g:=by
    cases v<;>simp[Value.ownBlock]at hg;rename_i aa _ _;cases aa<;>simp at hg;simp[blockOf,hg]
   obtain⟨h5,h6⟩:=hb g hbl;obtain⟨h7,h8⟩:=h4 g hg;exact⟨fun o ho=>(h6 o).2 (h7 o ho),fun o ho hA=>h8 o ho ((h6 o).1 hA)⟩
theorem zdR{w:World}{A:Nat→Nat→Prop}{st:Nat→Ent}{H:Nat→Value}{base:Nat}{e:Ent}{v:Value}(h:RepEnt w A st H base e v)(he:e≠.gone){b:Nat}(hb:blockOf v=some b):b<w.heap.size:=by
 cases e with
 |gone=>exact absurd rfl he
 |blk T cs=>
  obtain⟨b',C,rfl,h2,h3,h4⟩:=h;simp only[blockOf,qa17]at hb;subst hb;exact(Array.getElem?_eq_some_iff.1 h2).1
 |row T z xs=>
  obtain⟨h0,vs,⟨h1,h2⟩,h3,h4⟩:=h;rcases h2 with⟨rfl,_⟩|⟨g,cap,cur,rfl,h5,h6,h7⟩
  ·simp[blockOf]at hb
  ·simp only[blockOf,qa17]at hb;subst hb;exact(Array.getElem?_eq_some_iff.1 h6).1
 |mrow T z xs=>
  obtain⟨h0,vs,⟨h1,h2⟩,h3,h4⟩:=h;rcases h2 with⟨rfl,_⟩|⟨g,cap,cur,rfl,h5,h6,h7⟩
  ·simp[blockOf]at hb
  ·simp only[blockOf,qa17]at hb;subst hb;exact(Array.getElem?_eq_some_iff.1 h6).1
 |frow T z xs=>
  obtain⟨h0,vs,⟨h1,h2⟩,h3,h4⟩:=h;rcases h2 with⟨rfl,_⟩|⟨g,cap,cur,rfl,h5,h6,h7⟩
  ·simp[blockOf]at hb
  ·simp only[blockOf,qa17]at hb;subst hb;exact(Array.getElem?_eq_some_iff.1 h6).1
theorem SimH.new{c:Ctx}{x:X}{a:Act}{w:World}{H:Nat→Value}{A:Nat→Nat→Prop}(h:SimH c x a w H A)(C:Array Value)(T:TypeId)(id:Nat)(e:Ent)(hv:Value)(D:Nat→Prop)
  (hid:c.n0≤id) (hg:x.st id=.gone) (hbl:blockOf hv=some w.heap.size)
  (he:∀w' A' st' H',Keeps w A w' A'→Foll x.st H st' H'→w'.heap[w.heap.size]?=some (.cells C T (0,0))→w'.heap.size=w.heap.size+1→(∀o,A' w.heap.size o↔D o)→RepEnt w' A' st' H' 0 e hv)
  (dst:Option Tmp) (v:V) (xv:Value) (hx:∀w' A' st' H',Keeps w A w' A'→Foll x.st H st' H'→st' id=e→H' id=hv→w'.heap[w.heap.size]?=some (.cells C T (0,0))→w'.heap.size=w.heap.size+1→(∀o,A' w.heap.size o↔D o)→RepT w' A' st' H' v xv):
  ∃A',SimH c (x.put dst v [(id,e)]) (a.put dst xv) (w.alloc (.cells C T)) (updH H id hv) A':=by
 have hsz:(w.alloc (.cells C T)).heap.size=w.heap.size+1:=by simp
 have hnew:=heap_alloc_new w (.cells C T);have hk:Keeps w A (w.alloc (.cells C T)) (fun b o=>if b=w.heap.size then D o else A b o):=by
  refine⟨by rw[hsz];omega,fun b o hb _=>?_,fun b o hb h hA=>?_⟩
  ·exact World.cell?_of_block (a:=⟨b,o,none⟩) (Below.heap_alloc w _ b hb)
  ·rw [if_neg (by omega)] at hA;exact h hA
 have hf:Foll x.st H (updE x.st id e) (updH H id hv):=by
  refine⟨fun i T cs hi=>?_,fun i T z xs hi=>?_,fun i T z xs hi=>?_,fun i T z xs hi=>?_⟩
  ·have:i≠id:=fun e=>by subst e;rw [hg] at hi;cases hi
   exact⟨if_neg this,T,cs,by rw[zab _ _ this];exact hi⟩
  ·have:i≠id:=fun e=>by subst e;rw [hg] at hi;cases hi
   exact⟨[],by rw[zab _ _ this];simpa using hi,fun _=>if_neg this⟩
  ·have:i≠id:=fun e=>by subst e;rw [hg] at hi;cases hi
   exact⟨xs,by rw[zab _ _ this];exact hi,qa37 _,fun _=>if_neg this⟩
  ·have:i≠id:=fun e=>by subst e;rw [hg] at hi;cases hi
   exact⟨by rw[zab _ _ this];exact hi,if_neg this⟩
 have hD:∀o,(fun b o=>if b=w.heap.size then D o else A b o) w.heap.size o↔D o:=fun o=>by simp
 refine⟨_,h.go hk hf ?_ ?_ ?_ ?_ ?_ ?_ ?_ dst v xv (hx _ _ _ _ hk hf (zai _ _ _) (if_pos rfl) hnew hsz hD)⟩
 ·intro i;by_cases hi:i=id
  ·subst hi;rw[zai,show updH H i hv i=hv from if_pos rfl];exact he _ _ _ _ hk hf hnew hsz hD
  ·rw[zab _ _ hi,show updH H id hv i=H i from if_neg hi];by_cases hgo:x.st i=.gone
   ·rw[hgo];trivial
   ·refine(h.ent i).mono hk hf (fun b hb=>?_);have hlt:=zdR (h.ent i) hgo hb;exact⟨Below.heap_alloc w _ b hlt,fun o=>by show(if b=w.heap.size then D o else A b o)↔A b o;rw[if_neg (by omega)]⟩
 ·intro i j hij hi hj b hb;by_cases h1:i=id
  ·subst h1;rw[show updH H i hv i=hv from if_pos rfl,hbl]at hb;simp only[qa17]at hb;subst hb;rw[show updH H i hv j=H j from if_neg (Ne.symm hij)];rw[zab _ _ (Ne.symm hij)]at hj;intro hc;exact absurd (zdR (h.ent j) hj hc) (Nat.lt_irrefl _)
  ·rw[show updH H id hv i=H i from if_neg h1]at hb;rw[zab _ _ h1]at hi;by_cases h2:j=id
   ·subst h2;rw[show updH H j hv j=hv from if_pos rfl,hbl];intro hc;simp only[qa17]at hc;subst hc;exact absurd (zdR (h.ent i) hi hb) (Nat.lt_irrefl _)
   ·rw[show updH H id hv j=H j from if_neg h2];rw[zab _ _ h2]at hj;exact h.dis i j hij hi hj b hb
 ·intro b o hb hn;have h1:=h.a00 b o hb;have h2:=h.ext.size;rw[if_neg (by omega)];exact h.a0 b o hb hn
 ·intro i b hi hgo hb hl;have h1:i≠id:=by omega
  rw[show updH H id hv i=H i from if_neg h1]at hb;rw[zab _ _ h1]at hgo;exact h.lent i b hi hgo hb hl
 ·intro b o hb;rw[hsz];by_cases h1:b=w.heap.size
  ·omega
  ·rw[if_neg h1]at hb;have:=h.al b o hb;omega
 ·intro i b hi hgo hb;by_cases h1:i=id
  ·subst h1;rw[show updH H i hv i=hv from if_pos rfl,hbl]at hb;simp only[qa17]at hb;have:=h.ext.size;omega
  ·rw[show updH H id hv i=H i from if_neg h1]at hb;rw[zab _ _ h1]at hgo;exact h.loc i b hi hgo hb
 ·exact⟨h.ext.os,h.ext.tape,h.ext.output,by rw[hsz];have:=h.ext.size;omega,fun b hb hne=>(Below.heap_alloc w _ b (qa14 hb h.ext.size)).trans (h.ext.block b hb hne)⟩
theorem SimH.newBlk{c:Ctx}{x:X}{a:Act}{w:World}{H:Nat→Value}{A:Nat→Nat→Prop}(h:SimH c x a w H A)(C:Array Value)(T:TypeId)(id:Nat)(cs:List V)(hid:c.n0≤id)(hg:x.st id=.gone)(hc:zam w A x.st H cs C.toList)(dst:Option Tmp):
  ∃H' A',SimH c (x.put dst (.ptr id 0) [(id,.blk T cs)]) (a.put dst (.pointer (some ⟨w.heap.size,0,none⟩))) (w.alloc (.cells C T)) H' A':=by
 obtain⟨A',h'⟩:=h.new C T id (.blk T cs) (.pointer (some ⟨w.heap.size,0,none⟩)) (fun _=>True) hid hg rfl
  (fun w' A' st' H' k f hn _ hD=>⟨_,C,rfl,hn,hc.mono k f,fun o=>(hD o).2 trivial⟩) dst (.ptr id 0) (.pointer (some ⟨w.heap.size,0,none⟩))
  (fun w' A' st' H' k f hs hH hn _ hD=>Or.inl ⟨_,hH,⟨_,_,hs⟩,rfl⟩)
 exact⟨_,A',h'⟩
theorem SimH.newRow{c:Ctx}{x:X}{a:Act}{w:World}{H:Nat→Value}{A:Nat→Nat→Prop}(h:SimH c x a w H A)(C:Array Value)(T z:Nat)(id:Nat)(xs:List V)(hz:0<z)(hid:c.n0≤id)(hg:x.st id=.gone)(hc:RepE w A z xs C.toList)
  (hm:xs.length≤maxLen) (dst:Option Tmp):
  ∃H' A',SimH c (x.put dst (.row id xs.length) [(id,.row T z xs)]) (a.put dst (.slice (some ⟨w.heap.size,0,none⟩) xs.length xs.length)) (w.alloc (.cells C T)) H' A':=by
 have hl:=zaz hc;have hbase:0≤w.heap.size:=Nat.zero_le _;obtain⟨A',h'⟩:=h.new C T id (.row T z xs) (.slice (some ⟨w.heap.size,0,none⟩) xs.length xs.length) (fun o=>xs.length*z≤o) hid hg rfl
  (fun w' A' st' H' k f hn _ hD=>⟨hz,C.toList,⟨hl,.inr ⟨w.heap.size,xs.length,C,rfl,hbase,hn,qa37 _,hm,by simpa using hl,List.take_of_length_le (by omega)⟩⟩,hc.keep k,fun g hgg=>by
   simp only[Value.ownBlock,qa17]at hgg;subst hgg;exact⟨fun o ho=>(hD o).2 ho,fun o ho hA=>by have:=(hD o).1 hA;omega⟩⟩) dst (.row id xs.length) (.slice (some ⟨w.heap.size,0,none⟩) xs.length xs.length)
  (fun w' A' st' H' k f hs hH hn hsz hD=>⟨T,z,xs,hs,qa37 _,by
   rw[List.take_length];by_cases hx:xs=[]
   ·subst hx;exact .nil _ _
   ·exact .list xs z _ 0 _ C.toList hx (hc.keep k) ⟨by omega,fun j u hu=>⟨by
     have:w'.cell? ⟨w.heap.size,j,none⟩=C[j]?:=by simp[World.cell?,hn]
     rw[Nat.zero_add,this];simpa using hu,fun hA=>by
     have h1:=(hD _).1 hA;have h2:j<C.toList.length:=(qa4.1 hu).1;omega⟩⟩ (qa37 _) hm,fun _=>hH.symm⟩)
 exact⟨_,A',h'⟩
theorem SimH.setBlk{c:Ctx}{x:X}{a:Act}{w:World}{H:Nat→Value}{A:Nat→Nat→Prop}(h:SimH c x a w H A)(id T b:Nat)(cs cs':List V)(C C':Array Value)(hst:x.st id=.blk T cs)(hH:H id=.pointer (some ⟨b,0,none⟩))(hw:w.heap[b]?=some (.cells C T (0,0)))
  (hc:zam w A x.st H cs' C'.toList) (dst:Option Tmp) (v:V) (xv:Value) (hv:RepT w A x.st H v xv):SimH c (x.put dst v [(id,.blk T cs')]) (a.put dst xv) (w.setRow b C') H A:=by
 have hA:∀o,A b o:=by
  have h1:=h.ent id;rw[hst]at h1;obtain⟨b',C'',h2,_,_,h3⟩:=h1;rw[hH]at h2;simp only[Value.pointer.injEq,qa17,Addr.mk.injEq,and_true]at h2;subst h2;exact h3
 have hne:x.st id≠.gone:=by rw[hst];simp
 have hk:Keeps w A (w.setRow b C') A:=by
  refine⟨by simp,fun b' o hb hA'=>?_,fun _ _ _ h=>h⟩;exact World.cell?_of_block (a:=⟨b',o,none⟩) (setRow_other w b b' C' (fun e=>hA' (e ▸ hA o)))
 have hf:Foll x.st H (updE x.st id (.blk T cs')) H:=by
  refine⟨fun i T' cs'' hi=>⟨rfl, ?_⟩,fun i T' z xs hi=>⟨[], ?_,fun _=>rfl⟩,fun i T' z xs hi=>⟨xs, ?_,qa37 _,fun _=>rfl⟩,fun i T' z xs hi=>⟨?_,rfl⟩⟩
  ·by_cases h1:i=id
   ·subst h1;exact⟨_,_,zai _ _ _⟩
   ·exact⟨_,_,by rw[zab _ _ h1];exact hi⟩
  ·have h1:i≠id:=fun e=>by subst e;rw [hst] at hi;cases hi
   rw[zab _ _ h1];simpa using hi
  ·have h1:i≠id:=fun e=>by subst e;rw [hst] at hi;cases hi
   rw[zab _ _ h1];exact hi
  ·have h1:i≠id:=fun e=>by subst e;rw [hst] at hi;cases hi
   rw[zab _ _ h1];exact hi
 have hgone:∀i,updE x.st id (.blk T cs') i≠.gone→x.st i≠.gone:=fun i hi=>by
  by_cases h1:i=id
  ·subst h1;exact hne
  ·rwa[zab _ _ h1]at hi
 refine h.go hk hf ?_ (fun i j hij hi hj b' hb=>h.dis i j hij (hgone i hi) (hgone j hj) b' hb) h.a0 (fun i b' hi hg hb hl=>h.lent i b' hi (hgone i hg) hb hl) (fun b' o hb=>by simpa using h.al b' o hb) (fun i b' hi hg hb=>h.loc i b' hi (hgone i hg) hb) ?_ dst v xv (hv.mono hk hf)
 ·intro i;by_cases h1:i=id
  ·subst h1;rw[zai,hH];exact⟨b,C',rfl,setRow_heap w b C C' T _ hw,hc.mono hk hf,hA⟩
  ·rw[zab _ _ h1];by_cases hgo:x.st i=.gone
   ·rw[hgo];trivial
   ·refine(h.ent i).mono hk hf (fun b' hb=>⟨setRow_other w b b' C' ?_,fun _=>Iff.rfl⟩);intro e;subst e;exact h.dis i id h1 hgo hne _ hb (by rw[hH];rfl)
 ·refine ⟨h.ext.os,h.ext.tape,h.ext.output,by simpa using h.ext.size,fun b' hb hn=>?_⟩;rw[setRow_other w b b' C' ?_]
  ·exact h.ext.block b' hb hn
  ·intro e;subst e;by_cases hid:id<c.n0
   ·exact hn id hid (h.lent id _ hid hne (by rw[hH];rfl) hb)
   ·have:=h.loc id b' (by omega) hne (by rw [hH];rfl);omega
theorem zbD{P:Program}{w:World}(base:Nat)(t ty e:TypeId)(i:TypeInfo)(z:Value)(size bytes:Nat)(ht:P.underlying t=some (.slice e))(hi:P.info? e=some i)(hz:i.zero=some z)
  (hsize:i.size=size) (hby:i.bytes=bytes) (hzs:z.cells.size=size) (hsz:0<size) (v:Value) (n:Nat) (xs:List Value) (hown:w.ownsRow base e size v n xs)
  (a:Addr) (m c:Nat) (news:List Value) (hm:0<m) (hl:news.length=m*size) (hnews:∀j u,news[j]?=some u→w.cell? (a.add j)=some u) (h1:∀u∈news,u.oneCell'=true)
  (h63:n+m≤maxLen) (hbytes:(n+m)*bytes≤140737488355328) (hbase:base≤w.heap.size):
  ∃v' w',(Builtin.append_ #[t,t] ty #[v,.slice (some a) m c]).run P w=.ok v' w'∧w'.ownsRow base e size v' (n+m) (xs++news) ∧
   ((v'.ownBlock=v.ownBlock∧w.grownBy w' v.ownBlock∧w'.heap.size=w.heap.size)∨(v'.ownBlock=some w.heap.size∧w.grownBy w' none∧w.heap.size<w'.heap.size)):=by
 obtain⟨v',w',hr,h2,h3,_⟩:=run_append_own (P:=P) w base t ty e i z size bytes ht hi hz hsize hby hzs hsz v n xs hown a m c news hl hnews h1 h63 hbytes hbase;refine⟨v',w',hr,h2, ?_⟩;subst hsize;subst hby;have hbig:n+m≤9223372036854775807:=by simp only[maxLen]at h63;omega
 rcases hown.2 with⟨rfl,rfl⟩|⟨g,cap,cur,rfl,hbg,hg,hnc,hcm,hcs,htake⟩
 ·have h:=run_append_nil (P:=P) w t ty e i z ht hi hz a m c news hl hnews hm (by omega) (by rw [Nat.zero_add] at hbytes;omega);rw[h]at hr;cases hr;exact .inr ⟨rfl,⟨rfl,rfl,rfl,by simp,fun k hk _=>Below.heap_alloc w.drew _ k hk⟩,by simp⟩
 ·by_cases hroom:n+m≤cap
  ·have h:=run_append_room (P:=P) w t ty e i ht hi g n cap cur hg a m c news hl hnews h1 hroom (by rw [hl,hcs,← Nat.add_mul];exact Nat.mul_le_mul_right _ hroom);rw[h]at hr;cases hr;exact .inl ⟨rfl,h3,by simp⟩
  ·have h:=run_append_grow (P:=P) w t ty e i z ht hi hz ⟨g,0,none⟩ n cap xs hown.1 (hown.cells rfl) a m c news hl hnews (by omega) (by omega) (growslice_fits (by omega) hbytes);rw[h]at hr;cases hr;exact .inr ⟨rfl,⟨rfl,rfl,rfl,by simp,fun k hk _=>Below.heap_alloc w.drew _ k hk⟩,by simp⟩
theorem zhl(B j:Nat):(⟨B,0,none⟩:Addr).add j=⟨B,j,none⟩:=by
 unfold Addr.add;by_cases h:j=0<;>simp[h]
theorem zj6{v:Value}{g:Nat}:v.ownBlock=some g↔(∃a n c,v=.slice (some a) n c∧a.block=g):=by
 cases v<;>simp[Value.ownBlock];rename_i a n c;cases a<;>simp
theorem zau{v:Value}{g:Nat}(h:v.ownBlock=some g):blockOf v=some g:=by
 obtain⟨a,n,c,rfl,rfl⟩:=zj6.1 h;rfl
theorem SimH.push{c:Ctx}{x:X}{a:Act}{w:World}{H:Nat→Value}{A:Nat→Nat→Prop}(h:SimH c x a w H A)(id T z:Nat)(xs ys:List V)(hst:x.st id=.row T z xs∨(x.st id=.gone∧xs=[]∧0<z))(hid:x.st id=.gone→c.n0≤id)(vs us:List Value)(hys:RepE w A z ys us)(hyn:ys≠[])(v0 v':Value)(w':World)
  (hv0:(x.st id=.row T z xs∧v0=H id)∨(x.st id=.gone∧v0=.slice none 0 0)) (hvs:RepE w A z xs vs) (hown0:w.ownsRow 0 T z v0 xs.length vs)
  (hown:w'.ownsRow 0 T z v' (xs.length+ys.length) (vs++us))
  (htwo:(v'.ownBlock=v0.ownBlock∧w.grownBy w' v0.ownBlock∧w'.heap.size=w.heap.size)∨(v'.ownBlock=some w.heap.size∧w.grownBy w' none∧w.heap.size<w'.heap.size)) (dst:Option Tmp):
  ∃H' A',SimH c (x.put dst (.row id (xs.length+ys.length)) [(id,.row T z (xs++ys))]) (a.put dst v') w' H' A':=by
 have hz:0<z:=by
  rcases hst with hst|hst
  ·have:=h.ent id;rw[hst]at this;exact this.1
  ·exact hst.2.2
 have hnel:0<ys.length:=List.length_pos_iff.2 hyn;obtain⟨g',cap',cur',hv',hg0,hg1,hg2,hg3,hg4,hg5⟩:∃g cap cur,v'=.slice (some ⟨g,0,none⟩) (xs.length+ys.length) cap∧0≤g∧w'.heap[g]?=some (.cells cur T (0,0))∧xs.length+ys.length≤cap∧cap≤maxLen∧cur.size=cap*z∧cur.toList.take ((xs.length+ys.length)*z)=vs++us:=by
  rcases hown.2 with⟨_,h0⟩|h0
  ·omega
  ·exact h0
 have hob':v'.ownBlock=some g':=by rw[hv'];rfl
 have hlv:=zaz hvs;have hlu:=zaz hys;have hA0:∀g,v0.ownBlock=some g→(x.st id=.row T z xs∧v0=H id)∧(∀o,xs.length*z≤o→A g o)∧∀o,o<xs.length*z→¬A g o:=by
  intro g hg;rcases hv0 with⟨h1,h2⟩|⟨h1,h2⟩
  ·have h3:=h.ent id;rw[h1,←h2]at h3;exact⟨⟨h1,h2⟩,h3.2.choose_spec.2.2 g hg⟩
  ·rw[h2]at hg;simp[Value.ownBlock]at hg
 have hlt':g'<w'.heap.size:=(Array.getElem?_eq_some_iff.1 hg1).1;have hplace:(x.st id=.row T z xs∧blockOf (H id)=some g')∨c.w0.heap.size≤g':=by
  rcases htwo with⟨h1,_,_⟩|⟨h1,_,_⟩
  ·rw[hob']at h1;obtain⟨⟨h3,h4⟩,_⟩:=hA0 _ h1.symm;exact .inl ⟨h3,by rw[←h4];exact zau h1.symm⟩
  ·rw[hob']at h1;simp only[qa17]at h1;have:=h.ext.size;exact .inr (by omega)
 have hgb:(∀i,i<c.n0→blockOf (c.H0 i)≠some g')→c.w0.heap.size≤g':=by
  intro hn;rcases hplace with⟨h3,hb⟩|h3
  ·rcases Nat.lt_or_ge id c.n0 with hi|hi
   ·rcases Nat.lt_or_ge g' c.w0.heap.size with hl|hl
    ·exact absurd (h.lent id g' hi (by rw[h3];simp) hb hl) (hn id hi)
    ·exact hl
   ·exact h.loc id g' hi (by rw[h3];simp) hb
  ·exact h3
 have hold:∀o,¬A g' o→g'<w.heap.size→o<xs.length*z∧w'.cell? ⟨g',o,none⟩=w.cell? ⟨g',o,none⟩:=by
  intro o hA' hlt;rcases htwo with⟨h1,h2,h3⟩|⟨h1,h2,h3⟩
  ·rw[hob']at h1;obtain⟨_,h4,h5⟩:=hA0 g' h1.symm;have ho:o<xs.length*z:=Nat.lt_of_not_le (fun h6=>hA' (h4 o h6));refine⟨ho, ?_⟩;have hov:o<vs.length:=by omega
   have c1:=hown0.cells h1.symm o _ (qa5 hov);have c2:=hown.cells hob' o vs[o] (by rw[List.getElem?_append_left hov];exact qa5 hov);rw[zhl]at c1 c2;rw[c1,c2]
  ·rw[hob']at h1;simp only[qa17]at h1;omega
 have hother:∀b,b<w.heap.size→b≠g'→(∀g,v0.ownBlock=some g→b≠g∨v'.ownBlock≠v0.ownBlock)→w'.heap[b]?=w.heap[b]?:=by
  intro b hb hbg hv;rcases htwo with⟨h1,h2,h3⟩|⟨h1,h2,h3⟩
  ·refine h2.block b hb (fun e=>?_);rw[←h1,hob']at e;simp only[qa17]at e;exact hbg e
  ·exact h2.block b hb (by simp)
 have hother':∀ b,b < w.heap.size→b≠g'→w'.heap[b]?=w.heap[b]?:=fun b hb hbg=>hother b hb hbg (fun g hg=>by
  by_cases e:b=g
  ·refine .inr (fun e2=>?_);rw[hg,hob']at e2;simp only[qa17]at e2;exact hbg (e.trans e2.symm)
  ·exact .inl e)
 have hk:Keeps w A w' (fun b o=>if b=g' then(xs.length+ys.length)*z≤o else A b o):=by
  refine⟨by rcases htwo with h1|h1<;>omega,fun b o hb hA'=>?_,fun b o hb hA' h2=>?_⟩
  ·by_cases e:b=g'
   ·subst e;exact(hold o hA' hb).2
   ·exact World.cell?_of_block (a:=⟨b,o,none⟩) (hother' b hb e)
  ·by_cases e:b=g'
   ·subst e;rw[if_pos rfl,Nat.add_mul]at h2;have:=(hold o hA' hb).1;omega
   ·rw[if_neg e]at h2;exact hA' h2
 have hf:Foll x.st H (updE x.st id (.row T z (xs++ys))) (updH H id v'):=by
  have hne:∀i e,x.st i=e→e≠.gone→(∀T z xs,e≠.row T z xs)→i≠id:=fun i e hi h1 h2 e'=>by
   subst e';rcases hst with h3|h3
   ·exact h2 _ _ _ (hi.symm.trans h3)
   ·exact h1 (hi.symm.trans h3.1)
  refine⟨fun i T' cs hi=>?_,fun i T' z' xs' hi=>?_,fun i T' z' xs' hi=>?_,fun i T' z' xs' hi=>?_⟩
  ·have h1:=hne i _ hi (by simp) (by simp);exact⟨if_neg h1,_,_,by rw[zab _ _ h1];exact hi⟩
  ·by_cases h1:i=id
   ·subst h1;rcases hst with h2|h2
    ·rw[h2]at hi;cases hi;exact⟨ys,zai _ _ _,fun e=>absurd e hyn⟩
    ·rw[h2.1]at hi;cases hi
   ·exact⟨[],by rw[zab _ _ h1];simpa using hi,fun _=>if_neg h1⟩
  ·have h1:=hne i _ hi (by simp) (by simp);exact⟨xs',by rw[zab _ _ h1];exact hi,qa37 _,fun _=>if_neg h1⟩
  ·have h1:=hne i _ hi (by simp) (by simp);exact⟨by rw[zab _ _ h1];exact hi,if_neg h1⟩
 have hgone:∀i,i≠id→updE x.st id (.row T z (xs++ys)) i≠.gone→x.st i≠.gone:=fun i h1 hi=>by rwa[zab _ _ h1]at hi
 have hfar:∀i,i≠id→x.st i≠.gone→∀b,blockOf (H i)=some b→b<w.heap.size∧b≠g':=by
  intro i h1 hi b hb;have hlt:=zdR (h.ent i) hi hb;refine⟨hlt,fun e=>?_⟩;subst e;rcases htwo with⟨h2,_,_⟩|⟨h2,_,_⟩
  ·rw[hob']at h2;obtain⟨⟨h3,h4⟩,_⟩:=hA0 _ h2.symm;rw[h4]at h2;exact h.dis i id h1 hi (by rw[h3];simp) _ hb (zau h2.symm)
  ·rw[hob']at h2;simp only[qa17]at h2;omega
 have hbl':blockOf v'=some g':=zau hob';refine⟨_,_,h.go hk hf ?_ ?_ ?_ ?_ ?_ ?_ ?_ dst _ v' ?_⟩
 ·intro i;by_cases h1:i=id
  ·subst h1;rw[zai,show updH H i v' i=v' from if_pos rfl];refine⟨hz,vs++us,by rw[qa13];exact hown,zbX (hvs.keep hk) (hys.keep hk),fun g hg=>?_⟩;rw[hob']at hg;simp only[qa17]at hg;subst hg;rw[qa13];exact⟨fun o ho=>by simpa using ho,fun o ho hA'=>by simp at hA';omega⟩
  ·rw[zab _ _ h1,show updH H id v' i=H i from if_neg h1];by_cases hgo:x.st i=.gone
   ·rw[hgo];trivial
   ·refine(h.ent i).mono hk hf (fun b hb=>?_);obtain⟨h2,h3⟩:=hfar i h1 hgo b hb;exact⟨hother' b h2 h3,fun o=>by simp[h3]⟩
 ·intro i j hij hi hj b hb;by_cases h1:i=id
  ·subst h1;rw[show updH H i v' i=v' from if_pos rfl,hbl']at hb;simp only[qa17]at hb;subst hb;rw[show updH H i v' j=H j from if_neg (Ne.symm hij)];intro hc;exact(hfar j (Ne.symm hij) (hgone j (Ne.symm hij) hj) _ hc).2 rfl
  ·rw[show updH H id v' i=H i from if_neg h1]at hb;by_cases h2:j=id
   ·subst h2;rw[show updH H j v' j=v' from if_pos rfl,hbl'];intro hc;simp only[qa17]at hc;subst hc;exact(hfar i h1 (hgone i h1 hi) _ hb).2 rfl
   ·rw[show updH H id v' j=H j from if_neg h2];exact h.dis i j hij (hgone i h1 hi) (hgone j h2 hj) b hb
 ·intro b o hb hn;have h1:=h.a00 b o hb;rw[if_neg (fun e=>by subst e;have:=hgb hn;omega)];exact h.a0 b o hb hn
 ·intro i b hi hgo hb hl;by_cases h1:i=id
  ·subst h1;rw[show updH H i v' i=v' from if_pos rfl,hbl']at hb;simp only[qa17]at hb;subst hb;rcases hplace with⟨h3,hb⟩|h3
   ·exact h.lent i _ hi (by rw[h3];simp) hb hl
   ·omega
  ·rw[show updH H id v' i=H i from if_neg h1]at hb;exact h.lent i b hi (hgone i h1 hgo) hb hl
 ·intro b o hb;by_cases e:b=g'
  ·subst e;exact hlt'
  ·rw[if_neg e]at hb;exact qa14 (h.al b o hb) hk.size
 ·intro i b hi hgo hb;by_cases h1:i=id
  ·subst h1;rw[show updH H i v' i=v' from if_pos rfl,hbl']at hb;simp only[qa17]at hb;subst hb;rcases hplace with⟨h3,hb⟩|h3
   ·exact h.loc i _ hi (by rw[h3];simp) hb
   ·exact h3
  ·rw[show updH H id v' i=H i from if_neg h1]at hb;exact h.loc i b hi (hgone i h1 hgo) hb
 ·have hgb:w'.os=w.os∧w'.tape=w.tape∧w'.output=w.output:=by
   rcases htwo with⟨_,h2,_⟩|⟨_,h2,_⟩<;>exact⟨h2.os,h2.tape,h2.output⟩
  exact⟨hgb.1.trans h.ext.os,hgb.2.1.trans h.ext.tape,hgb.2.2.trans h.ext.output,qa36 h.ext.size hk.size,fun b hb hn=>(hother' b (qa14 hb h.ext.size) (fun e=>by subst e;have:=hgb hn;omega)).trans (h.ext.block b hb hn)⟩
 ·refine ⟨T,z,xs++ys,zai _ _ _,by simp, ?_,fun _=>(if_pos rfl).symm⟩;have hlen:(xs++ys).length=xs.length+ys.length:=qa13;have hrep:RepE w' (fun b o=>if b=g' then(xs.length+ys.length)*z≤o else A b o) z (xs++ys) (vs++us):=zbX (hvs.keep hk) (hys.keep hk);have hres:=RepV.list (w:=w') (xs++ys) z g' 0 cap' (vs++us) (by simp[hyn]) hrep ⟨hlt',fun j u hu=>⟨?_,fun hA'=>?_⟩⟩ (by rw[hlen];exact hg2) hg3
  ·rw [List.take_of_length_le (by omega),hv'];rw[hlen]at hres;exact hres
  ·have:=hown.cells hob' j u hu;rwa[zhl,←Nat.zero_add j]at this
  ·simp only[qa39,Nat.zero_add]at hA';have h2:j<(vs++us).length:=(qa4.1 hu).1;rw[qa13,hlv,hlu,←Nat.add_mul]at h2;omega
theorem SimH.pushM{c:Ctx}{x:X}{a:Act}{w:World}{H:Nat→Value}{A:Nat→Nat→Prop}(h:SimH c x a w H A)(id T z:Nat)(xs ys:List V)(hst:x.st id=.mrow T z xs)(vs us:List Value)(hys:RepE w A z ys us)(hyn:ys≠[])(v':Value)(w':World)
  (hvs:RepE w A z xs vs) (hown:w'.ownsRow 0 T z v' (xs.length+ys.length) (vs++us))
  (htwo:(v'.ownBlock=(H id).ownBlock∧w.grownBy w' (H id).ownBlock∧w'.heap.size=w.heap.size)∨(v'.ownBlock=some w.heap.size∧w.grownBy w' none∧w.heap.size<w'.heap.size)) (dst:Option Tmp):
  ∃H' A',SimH c (x.put dst (.mr id (xs.length+ys.length)) [(id,.mrow T z (xs++ys))]) (a.put dst v') w' H' A':=by
 have hent:=h.ent id;rw[hst]at hent;obtain⟨hz,_,_,_,hsh⟩:=hent;have hnel:0<ys.length:=List.length_pos_iff.2 hyn;obtain⟨g',cap',cur',hv',hg0,hg1,hg2,hg3,hg4,hg5⟩:∃g cap cur,v'=.slice (some ⟨g,0,none⟩) (xs.length+ys.length) cap∧0≤g∧w'.heap[g]?=some (.cells cur T (0,0))∧xs.length+ys.length≤cap∧cap≤maxLen∧cur.size=cap*z∧cur.toList.take ((xs.length+ys.length)*z)=vs++us:=by
  rcases hown.2 with⟨_,h0⟩|h0
  ·omega
  ·exact h0
 have hob':v'.ownBlock=some g':=by rw[hv'];rfl
 have hlt':g'<w'.heap.size:=(Array.getElem?_eq_some_iff.1 hg1).1;have hplace:blockOf (H id)=some g'∨c.w0.heap.size≤g':=by
  rcases htwo with⟨h1,_,_⟩|⟨h1,_,_⟩
  ·rw[hob']at h1;exact .inl (zau h1.symm)
  ·rw[hob']at h1;simp only[qa17]at h1;have:=h.ext.size;exact .inr (by omega)
 have hgb:(∀i,i<c.n0→blockOf (c.H0 i)≠some g')→c.w0.heap.size≤g':=by
  intro hn;rcases hplace with hb|h3
  ·rcases Nat.lt_or_ge id c.n0 with hi|hi
   ·rcases Nat.lt_or_ge g' c.w0.heap.size with hl|hl
    ·exact absurd (h.lent id g' hi (by rw[hst];simp) hb hl) (hn id hi)
    ·exact hl
   ·exact h.loc id g' hi (by rw[hst];simp) hb
  ·exact h3
 have hold:∀o,¬A g' o→g'<w.heap.size→False:=by
  intro o hA' hlt;rcases htwo with⟨h1,_,_⟩|⟨h1,_,_⟩
  ·rw[hob']at h1;exact hA' (hsh g' h1.symm o)
  ·rw[hob']at h1;simp only[qa17]at h1;omega
 have hother':∀b,b<w.heap.size→b≠g'→w'.heap[b]?=w.heap[b]?:=by
  intro b hb hbg;rcases htwo with⟨h1,h2,_⟩|⟨_,h2,_⟩
  ·refine h2.block b hb (fun e=>?_);rw[←h1,hob']at e;simp only[qa17]at e;exact hbg e
  ·exact h2.block b hb (by simp)
 have hk:Keeps w A w' (fun b o=>b=g'∨A b o):=by
  refine⟨by rcases htwo with h1|h1<;>omega,fun b o hb hA'=>?_,fun b o hb hA' h2=>?_⟩
  ·by_cases e:b=g'
   ·subst e;exact(hold o hA' hb).elim
   ·exact World.cell?_of_block (a:=⟨b,o,none⟩) (hother' b hb e)
  ·rcases h2 with e|h2
   ·subst e;exact hold o hA' hb
   ·exact hA' h2
 have hf:Foll x.st H (updE x.st id (.mrow T z (xs++ys))) (updH H id v'):=by
  have hne:∀i e,x.st i=e→(∀T z xs,e≠.mrow T z xs)→i≠id:=fun i e hi h2 e'=>by
   subst e';exact h2 _ _ _ (hi.symm.trans hst)
  refine⟨fun i T' cs hi=>?_,fun i T' z' xs' hi=>?_,fun i T' z' xs' hi=>?_,fun i T' z' xs' hi=>?_⟩
  ·have h1:=hne i _ hi (by simp);exact⟨if_neg h1,_,_,by rw[zab _ _ h1];exact hi⟩
  ·have h1:=hne i _ hi (by simp);exact⟨[],by rw[zab _ _ h1];simpa using hi,fun _=>if_neg h1⟩
  ·by_cases h1:i=id
   ·subst h1;rw[hst]at hi;cases hi;exact⟨xs++ys,zai _ _ _,by simp,fun e=>by simp at e;exact absurd e hyn⟩
   ·exact⟨xs',by rw[zab _ _ h1];exact hi,qa37 _,fun _=>if_neg h1⟩
  ·have h1:=hne i _ hi (by simp);exact⟨by rw[zab _ _ h1];exact hi,if_neg h1⟩
 have hgone:∀i,i≠id→updE x.st id (.mrow T z (xs++ys)) i≠.gone→x.st i≠.gone:=fun i h1 hi=>by rwa[zab _ _ h1]at hi
 have hfar:∀i,i≠id→x.st i≠.gone→∀b,blockOf (H i)=some b→b<w.heap.size∧b≠g':=by
  intro i h1 hi b hb;have hlt:=zdR (h.ent i) hi hb;refine⟨hlt,fun e=>?_⟩;subst e;rcases htwo with⟨h2,_,_⟩|⟨h2,_,_⟩
  ·rw[hob']at h2;exact h.dis i id h1 hi (by rw[hst];simp) _ hb (zau h2.symm)
  ·rw[hob']at h2;simp only[qa17]at h2;omega
 have hbl':blockOf v'=some g':=zau hob';refine⟨_,_,h.go hk hf ?_ ?_ ?_ ?_ ?_ ?_ ?_ dst _ v' ?_⟩
 ·intro i;by_cases h1:i=id
  ·subst h1;rw[zai,show updH H i v' i=v' from if_pos rfl];refine⟨hz,vs++us,by rw[qa13];exact hown,zbX (hvs.keep hk) (hys.keep hk),fun g hg o=>?_⟩;rw[hob']at hg;simp only[qa17]at hg;exact .inl hg.symm
  ·rw[zab _ _ h1,show updH H id v' i=H i from if_neg h1];by_cases hgo:x.st i=.gone
   ·rw[hgo];trivial
   ·refine(h.ent i).mono hk hf (fun b hb=>?_);obtain⟨h2,h3⟩:=hfar i h1 hgo b hb;exact⟨hother' b h2 h3,fun o=>by simp[h3]⟩
 ·intro i j hij hi hj b hb;by_cases h1:i=id
  ·subst h1;rw[show updH H i v' i=v' from if_pos rfl,hbl']at hb;simp only[qa17]at hb;subst hb;rw[show updH H i v' j=H j from if_neg (Ne.symm hij)];intro hc;exact(hfar j (Ne.symm hij) (hgone j (Ne.symm hij) hj) _ hc).2 rfl
  ·rw[show updH H id v' i=H i from if_neg h1]at hb;by_cases h2:j=id
   ·subst h2;rw[show updH H j v' j=v' from if_pos rfl,hbl'];intro hc;simp only[qa17]at hc;subst hc;exact(hfar i h1 (hgone i h1 hi) _ hb).2 rfl
   ·rw[show updH H id v' j=H j from if_neg h2];exact h.dis i j hij (hgone i h1 hi) (hgone j h2 hj) b hb
 ·intro b o hb hn;exact .inr (h.a0 b o hb hn)
 ·intro i b hi hgo hb hl;by_cases h1:i=id
  ·subst h1;rw[show updH H i v' i=v' from if_pos rfl,hbl']at hb;simp only[qa17]at hb;subst hb;rcases hplace with hb|h3
   ·exact h.lent i _ hi (by rw[hst];simp) hb hl
   ·omega
  ·rw[show updH H id v' i=H i from if_neg h1]at hb;exact h.lent i b hi (hgone i h1 hgo) hb hl
 ·intro b o hb;rcases hb with e|hb
  ·subst e;exact hlt'
  ·exact qa14 (h.al b o hb) hk.size
 ·intro i b hi hgo hb;by_cases h1:i=id
  ·subst h1;rw[show updH H i v' i=v' from if_pos rfl,hbl']at hb;simp only[qa17]at hb;subst hb;rcases hplace with hb|h3
   ·exact h.loc i _ hi (by rw[hst];simp) hb
   ·exact h3
  ·rw[show updH H id v' i=H i from if_neg h1]at hb;exact h.loc i b hi (hgone i h1 hgo) hb
 ·have hgb':w'.os=w.os∧w'.tape=w.tape∧w'.output=w.output:=by
   rcases htwo with⟨_,h2,_⟩|⟨_,h2,_⟩<;>exact⟨h2.os,h2.tape,h2.output⟩
  exact⟨hgb'.1.trans h.ext.os,hgb'.2.1.trans h.ext.tape,hgb'.2.2.trans h.ext.output,qa36 h.ext.size hk.size,fun b hb hn=>(hother' b (qa14 hb h.ext.size) (fun e=>by subst e;have:=hgb hn;omega)).trans (h.ext.block b hb hn)⟩
 ·exact⟨⟨_,_,hv',fun _=>⟨g',rfl⟩⟩,T,z,xs++ys,by simp,.inl ⟨zai _ _ _,fun _=>(if_pos rfl).symm⟩⟩
theorem SimH.setM{c:Ctx}{x:X}{a:Act}{w:World}{H:Nat→Value}{A:Nat→Nat→Prop}(h:SimH c x a w H A)(id T z b cap:Nat)(xs xs':List V)(C C':Array Value)(hst:x.st id=.mrow T z xs)(hH:H id=.slice (some ⟨b,0,none⟩) xs.length cap)(hw:w.heap[b]?=some (.cells C T (0,0)))
  (hlen:xs'.length=xs.length) (hE:RepE w A z xs' (C'.toList.take (xs.length*z))) (hsz:C'.size=cap*z) (hcap:xs.length≤cap) (hmax:cap≤maxLen) (dst:Option Tmp) (v:V) (xv:Value) (hv:RepT w A x.st H v xv):SimH c (x.put dst v [(id,.mrow T z xs')]) (a.put dst xv) (w.setRow b C') H A:=by
 have hent:=h.ent id;rw[hst]at hent;obtain⟨hz,_,_,_,hsh⟩:=hent;have hA:∀o,A b o:=hsh b (by rw[hH];rfl);have hne:x.st id≠.gone:=by rw[hst];simp
 have hbl:blockOf (H id)=some b:=by rw[hH];rfl
 have hk:Keeps w A (w.setRow b C') A:=by
  refine⟨by simp,fun b' o hb hA'=>?_,fun _ _ _ h=>h⟩;exact World.cell?_of_block (a:=⟨b',o,none⟩) (setRow_other w b b' C' (fun e=>hA' (e ▸ hA o)))
 have hf:Foll x.st H (updE x.st id (.mrow T z xs')) H:=by
  have hn:∀i e,x.st i=e→(∀T z xs,e≠.mrow T z xs)→i≠id:=fun i e hi h2 e'=>by
   subst e';exact h2 _ _ _ (hi.symm.trans hst)
  refine⟨fun i T' cs'' hi=>⟨rfl, ?_⟩,fun i T' z xs hi=>⟨[], ?_,fun _=>rfl⟩,fun i T' z' ys hi=>?_,fun i T' z xs hi=>⟨?_,rfl⟩⟩
  ·exact⟨_,_,by rw[zab _ _ (hn i _ hi (by simp))];exact hi⟩
  ·rw[zab _ _ (hn i _ hi (by simp))];simpa using hi
  ·by_cases h1:i=id
   ·subst h1;rw[hst]at hi;cases hi;exact⟨xs',zai _ _ _,by omega,fun _=>rfl⟩
   ·exact⟨ys,by rw[zab _ _ h1];exact hi,qa37 _,fun _=>rfl⟩
  ·rw[zab _ _ (hn i _ hi (by simp))];exact hi
 have hgone:∀i,updE x.st id (.mrow T z xs') i≠.gone→x.st i≠.gone:=fun i hi=>by
  by_cases h1:i=id
  ·subst h1;exact hne
  ·rwa[zab _ _ h1]at hi
 refine h.go hk hf ?_ (fun i j hij hi hj b' hb=>h.dis i j hij (hgone i hi) (hgone j hj) b' hb) h.a0 (fun i b' hi hg hb hl=>h.lent i b' hi (hgone i hg) hb hl) (fun b' o hb=>by simpa using h.al b' o hb) (fun i b' hi hg hb=>h.loc i b' hi (hgone i hg) hb) ?_ dst v xv (hv.mono hk hf)
 ·intro i;by_cases h1:i=id
  ·subst h1;rw[zai,hH];refine⟨hz,_,⟨?_,.inr ⟨b,cap,C',by rw[hlen],Nat.zero_le _,setRow_heap w b C C' T _ hw,by omega,hmax,hsz,by rw[hlen]⟩⟩,hE.keep hk,fun g hg o=>?_⟩
   ·have:=zaz hE;rw[this]
   ·simp only[Value.ownBlock,qa17]at hg;subst hg;exact hA o
  ·rw[zab _ _ h1];by_cases hgo:x.st i=.gone
   ·rw[hgo];trivial
   ·refine(h.ent i).mono hk hf (fun b' hb=>⟨setRow_other w b b' C' ?_,fun _=>Iff.rfl⟩);intro e;subst e;exact h.dis i id h1 hgo hne _ hb hbl
 ·refine ⟨h.ext.os,h.ext.tape,h.ext.output,by simpa using h.ext.size,fun b' hb hn=>?_⟩;rw[setRow_other w b b' C' ?_]
  ·exact h.ext.block b' hb hn
  ·intro e;subst e;by_cases hid:id<c.n0
   ·exact hn id hid (h.lent id _ hid hne hbl hb)
   ·have:=h.loc id b' (by omega) hne hbl;omega
end
section
open Go Go.RowKit
def za7(P:Program)(t:TypeId):Option (Bool×Nat):=
 match P.underlying t,P.info? t with
 |some d,some i=>some (match d with|.struct _=>true|.array _ _=>true|_=>false,i.size)
 |_,_=>none
def zdQ(P:Program)(s f:Nat):Option (Nat×Nat×Bool):=
 match P.underlying s with
 |some (.struct fs)=>match fs[f]? with
  |some fd=>match za7 P fd.type with
   |some (ag,n)=>some (fd.offset,n,ag)
   |none=>none
  |none=>none
 |_=>none
def eszT(P:Program)(t:TypeId):Option Nat:=match P.underlying t with|some (.slice e)=>(P.info? e).map (·.size)|_=>none
def strT(P:Program)(t:TypeId):Bool:=match P.underlying t with|some .string=>true|_=>false
theorem zfW{w:World}{A:Nat→Nat→Prop}{st:Nat→Ent}{H:Nat→Value}{x:V}{v:Value}(h:RepT w A st H x v)(ho:x.one=true):v.oneCell'=true:=by
 cases x<;>first|(simp[V.one]at ho;done)|skip
 case ptr id off=>
  rcases h with⟨b,_,_,rfl⟩|h
  ·rfl
  ·cases h
 case row id n=>
  obtain⟨_,_,_,_,_,h,_⟩:=h;exact zbV h rfl
 case fn f a b=>
  obtain⟨_,_,rfl,_⟩:=h;rfl
 case mr id n=>
  obtain⟨⟨_,_,rfl,_⟩,_⟩:=h;rfl
 case rp id n off=>
  obtain⟨⟨_,rfl⟩,_⟩:=h;rfl
 all_goals exact zbV (h.resolve_left (fun h=>h.elim)) rfl
theorem repK_T{w:World}{A:Nat→Nat→Prop}{st:Nat→Ent}{H:Nat→Value}{x:V}{v:Value}(h:RepK w A st H x v):RepT w A st H x v:=by
 cases x<;>first|exact h|exact RepV.toT h
theorem zjS{w:World}{A:Nat→Nat→Prop}{st:Nat→Ent}{H:Nat→Value}:∀{x:List V} {v:List Value},zaC w A st H x v→zam w A st H x v
 |[],_,h=>h
 |_::_,_,⟨u,us,h1,h2,h3⟩=>⟨u,us,h1,repK_T h2,zjS h3⟩
theorem ze8{w:World}{A:Nat→Nat→Prop}{st:Nat→Ent}{H:Nat→Value}{x:V}{v:Value}(h:RepT w A st H x v)(ho:x.isTa=true∨x.isAgg=true∨x.one=true):zam w A st H x.cells v.cells.toList:=by
 by_cases hta:x.isTa=true
 ·cases x<;>simp[V.isTa]at hta;obtain⟨vs,rfl,h1⟩:=h;simpa[V.cells,Value.cells]using zjS h1
 replace ho:=ho.resolve_left hta;by_cases ha:x.isAgg=true
 ·cases x<;>simp[V.isAgg]at ha;have h1:=h.data rfl;cases h1 with
  |agg cs vs h1=>simpa[V.cells,Value.cells]using zd5 h1
 ·have ho:=ho.resolve_left ha;have h1:=zfW h ho;have h2:v.cells=#[v]:=by cases v<;>first|rfl|simp[Value.oneCell']at h1
  have h3:x.cells=[x]:=by cases x<;>first|rfl|(simp[V.isTa]at hta;done)|simp[V.isAgg]at ha
  rw[h2,h3];exact⟨v,[],rfl,h,rfl⟩
theorem zgP{w:World}{A:Nat→Nat→Prop}{st:Nat→Ent}{H:Nat→Value}:∀{x:List V} {v:List Value},zam w A st H x v→x.all V.one=true→∀u∈v,u.oneCell'=true
 |[],_,h,_,_,hu=>by rw[h]at hu;simp at hu
 |_::_,_,⟨u,us,h1,h2,h3⟩,ho,u',hu=>by
  simp only[qa34,qa21]at ho;subst h1;rcases qa33.1 hu with rfl|hu
  ·exact zfW h2 ho.1
  ·exact zgP h3 ho.2 _ hu
theorem zcS{x:V}(h:x.storable=true):(x.isTa=true∨x.isAgg=true∨x.one=true)∧x.cells.all V.one=true:=by
 cases x<;>first|exact⟨.inl rfl,h⟩|exact⟨.inr (.inl rfl),h⟩|exact⟨.inr (.inr rfl),rfl⟩|cases h
def zdy(P:Program)(t:TypeId)(v:V)(st:Nat→Ent):Option V:=
 match za7 P t with
 |some (true,n)=>match v with
  |.ptr id off=>match st id with
   |.blk _ cs=>if((cs.drop off).take n).length=n∧(((cs.drop off).take n).map (res st)).all V.data=true then some (.agg (((cs.drop off).take n).map (res st)))else none
   |_=>none
  |.ip x off=>if off=0∧x.isAgg=true∧x.size=n then some x else if off+n≤x.size then some (.agg ((x.cells.drop off).take n))else none
  |_=>none
 |some (false,_)=>match v with
  |.ptr id off=>match st id with
   |.blk _ cs=>cs[off]?
   |_=>none
  |.ip x off=>x.cells[off]?
  |_=>none
 |none=>none
theorem zbh{P:Program}{t:TypeId}{ag:Bool}{n:Nat}(h:za7 P t=some (ag,n))(w:World):(isAgg t).run P w=.ok ag w∧(Go.sizeOf t).run P w=.ok n w:=by
 unfold za7 at h;cases hu:P.underlying t with
 |none=>simp[hu]at h
 |some d=>
  cases hi:P.info? t with
  |none=>simp[hu,hi]at h
  |some i=>
   simp only[hu,hi,qa17,Prod.mk.injEq]at h;obtain⟨h1,rfl⟩:=h;refine⟨?_,by simp[Go.sizeOf,typeInfo,hi]⟩;simp only[isAgg,Sem.run_bind,run_underlying hu,Result.andThen_ok];subst h1;cases d<;>rfl
theorem zaN{P:Program}{w:World}{t:TypeId}{n b o:Nat}(h:za7 P t=some (true,n))(us:List Value)(hl:us.length=n)(hc:∀j u,us[j]?=some u→w.cell? ⟨b,o+j,none⟩=some u):
  (Instr.loadAt t (.pointer (some ⟨b,o,none⟩))).run P w=.ok (.agg us.toArray) w:=by
 obtain⟨h1,h2⟩:=zbh h w;have h3:=run_loadCells_list (P:=P) w ⟨b,o,none⟩ us (fun j u hu=>by
  have:(⟨b,o,none⟩:Addr).add j=⟨b,o+j,none⟩:=by unfold Addr.add;by_cases h:j=0<;>simp[h]
  rw[this];exact hc j u hu)
 subst hl;simp[Instr.loadAt,Instr.sureAddr,loadVar,h1,h2,h3]
theorem zbB{P:Program}{w:World}{t:TypeId}{n:Nat}{ad:Addr}(h:za7 P t=some (false,n))(u:Value)(hc:w.cell? ad=some u):(Instr.loadAt t (.pointer (some ad))).run P w=.ok u w:=by
 obtain⟨h1,h2⟩:=zbh h w;simp[Instr.loadAt,Instr.sureAddr,loadVar,h1,load,Sem.run,hc]
theorem zkR{w:World}{b T:Nat}{C:Array Value}(hw:w.heap[b]?=some (.cells C T (0,0))){j:Nat}{u:Value}(hu:C.toList[j]?=some u):w.cell? ⟨b,j,none⟩=some u:=by
 simp[World.cell?,hw];simpa using hu
theorem zhI{c:Ctx}{x:X}{a:Act}{w:World}{H:Nat→Value}{A:Nat→Nat→Prop}(h:SimH c x a w H A){id off:Nat}{v:Value}(hv:RepT w A x.st H (.ptr id off) v){T:TypeId}{cs:List V}(hs:x.st id=.blk T cs):
  ∃b C,H id=.pointer (some ⟨b,0,none⟩)∧v=.pointer (some ⟨b,off,none⟩)∧w.heap[b]?=some (.cells C T (0,0))∧zam w A x.st H cs C.toList:=by
 rcases hv with⟨b,h1,h2,h3⟩|hv
 ·have h4:=h.ent id;rw[hs,h1]at h4;obtain⟨b',C,h5,h6,h7,_⟩:=h4;simp only[Value.pointer.injEq,qa17,Addr.mk.injEq,and_true]at h5;subst h5;exact⟨b,C,h1,h3,h6,h7⟩
 ·cases hv
theorem ze5{P:Program}{c:Ctx}{x:X}{a:Act}{w:World}{H:Nat→Value}{A:Nat→Nat→Prop}(h:SimH c x a w H A){t:TypeId}{y v:V}{yv:Value}(hy:RepT w A x.st H y yv)(hs:zdy P t y x.st=some v):
  ∃xv,(Instr.loadAt t yv).run P w=.ok xv w∧RepT w A x.st H v xv:=by
 unfold zdy at hs;split at hs
 ·rename_i n hsh;split at hs
  ·rename_i id off;split at hs
   ·rename_i T cs hst;split at hs
    ·rename_i hc;obtain⟨b,C,h1,rfl,h3,h4⟩:=zhI h hy hst;cases hs;have h5:=zdD n (zdF off h4);have hl:=zaE h5;refine⟨_,zaN hsh ((C.toList.drop off).take n) (by rw[←hl];exact hc.1) (fun j u hu=>?_),Or.inr (.agg _ _ (zjP (zey h5) hc.2))⟩;refine zkR h3 ?_;rw[List.getElem?_take]at hu;split at hu
     ·simpa using hu
     ·cases hu
    ·cases hs
   ·cases hs
  ·rename_i e off;have hy':RepV w A (.ip e off) yv:=hy.resolve_left (fun h=>h.elim);cases hy' with
   |ip _ _ b o vs hc hat=>
    split at hs
    ·rename_i h0;obtain⟨rfl,h1,h2⟩:=h0;cases hs;cases hc with
     |one _ v hna _=>rw[zkb hna]at h1;cases h1
     |agg cs _ _ hl=>
      refine⟨_,zaN hsh vs (by rw[←h2,V.size,V.cells,zar hl]) (fun j u hu=>(hat.2 j u hu).1),Or.inr (.agg _ _ hl)⟩
    ·split at hs
     ·rename_i h1;cases hs;have hl:=zcI hc;have hln:=zar hl;rw[V.size]at h1;refine⟨_,zaN hsh ((vs.drop off).take n) (by simp;omega) (fun j u hu=>?_),Or.inr (.agg _ _ (zcr n (zcs off hl)))⟩;have:=(zkU (zkV hat off) n).2 j u hu;exact this.1
     ·cases hs
  ·cases hs
 ·rename_i n hsh;split at hs
  ·rename_i id off;split at hs
   ·rename_i T cs hst;obtain⟨b,C,h1,rfl,h3,h4⟩:=zhI h hy hst;obtain⟨u,h5,h6⟩:=zbk h4 off v hs;exact⟨u,zbB hsh u (zkR h3 h5),h6⟩
   ·cases hs
  ·rename_i e off;have hy':RepV w A (.ip e off) yv:=hy.resolve_left (fun h=>h.elim);cases hy' with
   |ip _ _ b o vs hc hat=>
    obtain⟨u,h5,h6⟩:=zdf (zcI hc) off v hs;exact⟨u,zbB hsh u (hat.2 off u h5).1,h6.toT⟩
  ·cases hs
 ·cases hs
def zco(P:Program)(s:TypeId)(v:V)(f:Nat):Option V:=
 match zdQ P s f with
 |some (o,n+1,_)=>match v with
  |.ptr id off=>some (.ptr id (off+o))
  |.ip x off=>some (.ip x (off+o))
  |_=>none
 |_=>none
theorem zc2{P:Program}{s f o n:Nat}{ag:Bool}(h:zdQ P s f=some (o,n,ag)):∃fs fd,P.underlying s=some (.struct fs)∧fs[f]?=some fd∧fd.offset=o∧za7 P fd.type=some (ag,n):=by
 unfold zdQ at h;split at h
 ·rename_i fs hu;split at h
  ·rename_i fd hf;split at h
   ·rename_i ag' n' hs;simp only[qa17,Prod.mk.injEq]at h;obtain⟨h1,h2,h3⟩:=h;subst h2 h3;exact⟨fs,fd,hu,hf,h1,hs⟩
   ·cases h
  ·cases h
 ·cases h
theorem zb8(b o k:Nat):(⟨b,o,none⟩:Addr).add k=⟨b,o+k,none⟩:=by unfold Addr.add;by_cases h:k=0<;>simp[h]
theorem zbC{P:Program}{w:World}{s f o n b off:Nat}{ag:Bool}(h:zdQ P s f=some (o,n+1,ag)):(Instr.fieldAt s (.pointer (some ⟨b,off,none⟩)) f).run P w=.ok (.pointer (some ⟨b,off+o,none⟩)) w:=by
 obtain⟨fs,fd,hu,hf,rfl,hs⟩:=zc2 h;obtain⟨_,h2⟩:=zbh hs w;simp[Instr.fieldAt,run_underlying hu,hf,Instr.sureAddr,fieldPlace,h2,zb8]
theorem zes{P:Program}{w:World}{A:Nat→Nat→Prop}{st:Nat→Ent}{H:Nat→Value}{s f:Nat}{y v:V}{yv:Value}(hy:RepT w A st H y yv)(hs:zco P s y f=some v):
  ∃xv,(Instr.fieldAt s yv f).run P w=.ok xv w∧RepT w A st H v xv:=by
 unfold zco at hs;split at hs
 ·rename_i o n ag hf;split at hs
  ·rename_i id off;cases hs;rcases hy with⟨b,h1,h2,rfl⟩|hy
   ·exact⟨_,zbC hf,Or.inl ⟨b,h1,h2,rfl⟩⟩
   ·cases hy
  ·rename_i e off;cases hs;have hy':RepV w A (.ip e off) yv:=hy.resolve_left (fun h=>h.elim);cases hy' with
   |ip _ _ b o' vs hc hat=>
    refine⟨_,zbC hf,Or.inr ?_⟩;rw[Nat.add_assoc];exact .ip e (off+o) b o' vs hc hat
  ·cases hs
 ·cases hs
def zd4(P:Program)(s:TypeId)(v:V)(f:Nat):Option V:=
 match zdQ P s f,v with
 |some (o,n,true),.agg cs=>if o+n≤cs.length then some (.agg ((cs.drop o).take n))else none
 |some (o,_,false),.agg cs=>cs[o]?
 |_,_=>none
theorem zhA{P:Program}{w:World}{A:Nat→Nat→Prop}{st:Nat→Ent}{H:Nat→Value}{s f:Nat}{y v:V}{yv:Value}(hy:RepT w A st H y yv)(hs:zd4 P s y f=some v):
  ∃xv,(Instr.field s yv f).run P w=.ok xv w∧RepT w A st H v xv:=by
 unfold zd4 at hs;split at hs
 ·rename_i o n cs hf;obtain⟨fs,fd,hu,hff,rfl,hsh⟩:=zc2 hf;obtain⟨h1,h2⟩:=zbh hsh w;split at hs
  ·rename_i hle;cases hs;cases hy.data rfl with
   |agg _ vs hl=>
    have hln:=zar hl;refine⟨.agg ((vs.drop fd.offset).take n).toArray, ?_,Or.inr (.agg _ _ (zcr n (zcs _ hl)))⟩;simp[Instr.field,run_underlying hu,hff,asAgg,part,h1,h2]
  ·cases hs
 ·rename_i o n cs hf;obtain⟨fs,fd,hu,hff,rfl,hsh⟩:=zc2 hf;obtain⟨h1,h2⟩:=zbh hsh w;cases hy.data rfl with
  |agg _ vs hl=>
   obtain⟨u,h3,h4⟩:=zdf hl _ _ hs;exact⟨u,by simp[Instr.field,run_underlying hu,hff,asAgg,part,h1,h3],h4.toT⟩
 ·cases hs
def zbu(P:Program)(t:TypeId)(v i:V):Option V:=
 match eszT P t,v,i with
 |some z,.list xs,.int _ n=>match xs[n.toNat]? with
  |some x=>if 0≤n∧x.size=z then some (.ip x 0)else none
  |none=>none
 |_,_,_=>none
theorem zbL{P:Program}{t z:Nat}(h:eszT P t=some z):∃e i,P.underlying t=some (.slice e)∧P.info? e=some i∧i.size=z:=by
 unfold eszT at h;split at h
 ·rename_i e hu;cases hi:P.info? e with
  |none=>simp[hi]at h
  |some i=>simp[hi]at h;exact⟨e,i,hu,hi,h⟩
 ·cases h
theorem zcv{w:World}{A:Nat→Nat→Prop}{x:V}{vs:List Value}(h:RepC w A x vs):x.size=vs.length:=zar (zcI h)
theorem at_part{w:World}{A:Nat→Nat→Prop}{b off k:Nat}{vs us:List Value}(h:At w A b off vs)(hu:∀j u,us[j]?=some u→vs[k+j]?=some u):At w A b (off+k) us:=
 ⟨h.1,fun j u hj=>by
  have:=h.2 (k+j) u (hu j u hj);rwa[←Nat.add_assoc]at this⟩
theorem zer{P:Program}{w:World}{A:Nat→Nat→Prop}{st:Nat→Ent}{H:Nat→Value}{t:Nat}{y i v:V}{yv iv:Value}(hy:RepT w A st H y yv)(hi:RepT w A st H i iv)(hs:zbu P t y i=some v):
  ∃xv,(Instr.indexAt t yv iv).run P w=.ok xv w∧RepT w A st H v xv:=by
 unfold zbu at hs;split at hs
 ·rename_i z xs k n hz;split at hs
  ·rename_i e he;split at hs
   ·rename_i hn;obtain⟨hn,hsz⟩:=hn;cases hs;obtain⟨el,inf,hu,hinf,rfl⟩:=zbL hz;cases hi.data rfl;cases hy.data rfl with
    |nil a c=>simp at he
    |list _ z' b off c vs hne hE hat hle hm=>
     obtain⟨us,h1,h2,h3⟩:=zf0 hE _ _ he;have hlt:n.toNat<xs.length:=(qa4.1 he).1;have hz':inf.size=z':=by rw[←hsz,zcv h1,h2]
     refine⟨.pointer (some ⟨b,off+n.toNat*inf.size,none⟩), ?_,Or.inr ?_⟩
     ·have hr:0≤n∧n < (xs.length:Int):=⟨hn,by omega⟩;simp[Instr.indexAt,asIntOf,run_underlying hu,Go.sizeOf,typeInfo,hinf,hr,zb8]
     ·rw[hz'];exact .ip e 0 b (off+n.toNat*z') us h1 (at_part hat h3)
   ·cases hs
  ·cases hs
 ·cases hs
def zd3(P:Program)(t:TypeId)(v i:V):Option V:=
 match strT P t,v,i with
 |true,.str s,.int _ n=>match s[n.toNat]? with
  |some c=>if 0≤n then some (.int .u8 (c.toNat:Int))else none
  |none=>none
 |_,_,_=>none
theorem zep{P:Program}{t:Nat}(h:strT P t=true):P.underlying t=some .string:=by
 unfold strT at h;split at h
 ·assumption
 ·cases h
theorem zhy{P:Program}{w:World}{A:Nat→Nat→Prop}{st:Nat→Ent}{H:Nat→Value}{t:Nat}{y i v:V}{yv iv:Value}(hy:RepT w A st H y yv)(hi:RepT w A st H i iv)(hs:zd3 P t y i=some v):
  ∃xv,(Instr.index t yv iv).run P w=.ok xv w∧RepT w A st H v xv:=by
 unfold zd3 at hs;split at hs
 ·rename_i s k n ht;split at hs
  ·rename_i ch hc;split at hs
   ·rename_i hn;cases hs;cases hi.data rfl;cases hy.data rfl;refine⟨_, ?_,Or.inr (.int .u8 _)⟩;have hlt:n.toNat<s.length:=(qa4.1 hc).1;have h1:(Lx.bs s)[n.toNat]?=some ch:=by
     rw[getElem?_pos (Lx.bs s) n.toNat (by rw[Lx.zao];exact hlt)];obtain⟨_,h2⟩:=qa4.1 hc;rw[←h2];rfl
    simp[Instr.index,asIntOf,run_underlying (zep ht),hn,h1]
   ·cases hs
  ·cases hs
 ·cases hs
end
section
open Go Go.RowKit
def bnd(d:Nat):Option V→Option Nat
 |none=>some d
 |some (.int _ h)=>if 0≤h then some h.toNat else none
 |_=>none
def zcm(s:List UInt8)(lo hi:Option V):Option V:=
 match bnd 0 lo,bnd s.length hi with
 |some l,some h=>if l≤h∧h≤s.length then some (.str ((s.take h).drop l))else none
 |_,_=>none
def zcn(z:Nat)(xs:List V)(lo hi:Option V):Option V:=
 match bnd 0 lo,bnd xs.length hi with
 |some l,some h=>if l≤h∧h≤xs.length∧(∀x∈xs,x.size=z)then some (.list ((xs.take h).drop l))else none
 |_,_=>none
def semSl(P:Program)(t:TypeId)(v:V)(lo hi:Option V):Option V:=
 match v with
 |.str s=>if strT P t=true then zcm s lo hi else none
 |.list xs=>match eszT P t with|some z=>zcn z xs lo hi|none=>none
 |_=>none
def RepO(w:World)(A:Nat→Nat→Prop)(st:Nat→Ent)(H:Nat→Value):Option V→Option Value→Prop
 |none,none=>True
 |some x,some v=>RepT w A st H x v
 |_,_=>False
theorem bnd_cases{w:World}{A:Nat→Nat→Prop}{st:Nat→Ent}{H:Nat→Value}{d l:Nat}{o:Option V}{ov:Option Value}(h:bnd d o=some l)(hr:RepO w A st H o ov):
  (ov=none∧l=d)∨∃k n,ov=some (.int k n)∧0≤n∧l=n.toNat:=by
 unfold bnd at h;split at h
 ·cases ov with
  |none=>simp at h;exact .inl ⟨rfl,h.symm⟩
  |some v=>cases hr
 ·rename_i k n;split at h
  ·rename_i hn;simp at h;cases ov with
   |none=>cases hr
   |some v=>
    have hr':RepT w A st H (.int k n) v:=hr;cases hr'.data rfl;exact .inr ⟨_,_,rfl,hn,h.symm⟩
  ·cases h
 ·cases h
theorem zdB{P:Program}{w:World}{A:Nat→Nat→Prop}{st:Nat→Ent}{H:Nat→Value}{isS:Bool}{len cap l h:Nat}{lo hi:Option V}{lov hiv:Option Value}(hl:bnd 0 lo=some l)(hh:bnd len hi=some h)
  (rl:RepO w A st H lo lov) (rh:RepO w A st H hi hiv) (h1:l≤h) (h2:h≤len) (h3:len≤cap):(Instr.sliceBounds isS len cap lov hiv none).run P w=.ok (l,h,cap) w:=by
 rcases bnd_cases hl rl with⟨rfl,rfl⟩|⟨k,n,rfl,hn,rfl⟩<;>rcases bnd_cases hh rh with⟨rfl,rfl⟩|⟨k2,n2,rfl,hn2,rfl⟩
 ·simp[Instr.sliceBounds]
 ·have:n2≤(cap:Int):=by omega
  simp[Instr.sliceBounds,Instr.sliceBound,asIntOf,hn2,this]
 ·have:n≤(h:Int):=by omega
  simp[Instr.sliceBounds,Instr.sliceBound,asIntOf,hn,this]
 ·have e1:n2≤(cap:Int):=by omega
  have e2:n≤n2:=by omega
  have e3:n≤max n2 0:=by omega
  simp[Instr.sliceBounds,Instr.sliceBound,asIntOf,hn,hn2,e1,e2,e3]
theorem zic{P:Program}{w:World}{A:Nat→Nat→Prop}{st:Nat→Ent}{H:Nat→Value}{t:Nat}{y v:V}{yv:Value}{lo hi:Option V}{lov hiv:Option Value}(hy:RepT w A st H y yv)(rl:RepO w A st H lo lov)(rh:RepO w A st H hi hiv)
  (hs:semSl P t y lo hi=some v):∃xv,(Instr.sliceAt t yv lov hiv none).run P w=.ok xv w∧RepT w A st H v xv:=by
 unfold semSl at hs;split at hs
 ·rename_i s;split at hs
  ·rename_i ht;unfold zcm at hs;split at hs
   ·rename_i l h hl hh;split at hs
    ·rename_i hc;cases hs;cases hy.data rfl;have hb:=zdB (P:=P) (isS:=false) (cap:=s.length) hl hh rl rh hc.1 hc.2 (qa37 _);refine⟨.string (Lx.bs ((s.take h).drop l)), ?_,Or.inr (.str _)⟩;simp[Instr.sliceAt,Instr.slice,run_underlying (zep ht),Lx.zao,hb];rw[Lx.zax,Lx.zaH,List.drop_take]
    ·cases hs
   ·cases hs
  ·cases hs
 ·rename_i xs;split at hs
  ·rename_i z hz;unfold zcn at hs;split at hs
   ·rename_i l h hl hh;split at hs
    ·rename_i hc;cases hs;obtain⟨e,i,hu,hi,rfl⟩:=zbL hz;cases hy.data rfl with
     |nil a cp=>
      simp only[qa25,Nat.le_zero_eq]at hc;obtain⟨h1,rfl,_⟩:=hc;have h1:l=0:=by omega
      subst h1;have hb:=zdB (P:=P) (isS:=true) (cap:=cp) hl hh rl rh (qa37 _) (qa37 _) (Nat.zero_le _);refine⟨.slice (if cp=0 then a else a.map (·.add (0*i.size))) (0-0) (cp-0), ?_,Or.inr ?_⟩
      ·simp only[qa25]at hb;simp[Instr.sliceAt,Instr.slice,run_underlying hu,hb,Go.sizeOf,typeInfo,hi]
      ·exact .nil _ _
     |list _ z' b off cp vs hne hE hat hle hm=>
      have hb:=zdB (P:=P) (isS:=true) (cap:=cp) hl hh rl rh hc.1 hc.2.1 hle;have hz':i.size=z':=by
       cases xs with
       |nil=>exact absurd rfl hne
       |cons x r=>
        have h1:=hc.2.2 x (by simp);cases hE with
        |cons _ _ _ us ws h0 h2 h3=>rw[←h1,zcv h2,h0]
      refine⟨.slice (if cp=l then some ⟨b,off,none⟩else(some (⟨b,off,none⟩:Addr)).map (·.add (l*i.size))) (h-l) (cp-l), ?_,Or.inr ?_⟩
      ·simp[Instr.sliceAt,Instr.slice,run_underlying hu,hb,Go.sizeOf,typeInfo,hi]
      ·by_cases hlh:l=h
       ·subst hlh;rw[show(xs.take l).drop l=[]from List.drop_eq_nil_of_le (by simp;omega),Nat.sub_self];exact .nil _ _
       ·have hlen:((xs.take h).drop l).length=h - l:=by simp;omega
        rw[if_neg (by omega),←hlen,hz'];simp only[Option.map_some,zb8];refine .list _ z' b (off+l*z') (cp-l) ((vs.take (h*z')).drop (l*z')) ?_ (zgU l (zgT h hE)) (zkV (zkU hat _) _) (by rw[hlen];omega) (by omega);intro h0;rw[h0]at hlen;simp at hlen;omega
    ·cases hs
   ·cases hs
  ·cases hs
 ·cases hs
def zbd(op:BinOp)(k:IntKind)(a b:Int):Option V:=
 match op with
 |.add=>some (.int k (k.wrap (a+b)))
 |.sub=>some (.int k (k.wrap (a-b)))
 |.mul=>some (.int k (k.wrap (a*b)))
 |.quo=>if b=0 then none else some (.int k (k.wrap (a.tdiv b)))
 |.rem=>if b=0 then none else some (.int k (a.tmod b))
 |.eql=>some (.bool (a==b))
 |.neq=>some (.bool (!(a==b)))
 |.lss=>some (.bool (decide (a<b)))
 |.leq=>some (.bool (decide (a≤b)))
 |.gtr=>some (.bool (decide (a > b)))
 |.geq=>some (.bool (decide (a≥b)))
 |_=>none
def strV(op:BinOp)(a b:List UInt8):Option V:=
 match op with
 |.add=>if a.length+b.length≤4611686018427387904 then some (.str (a++b))else none
 |.eql=>some (.bool (a==b))
 |.neq=>some (.bool (!(a==b)))
 |.lss=>some (.bool (Op.bytesLess a b))
 |.leq=>some (.bool (Op.bytesLess a b || a==b))
 |.gtr=>some (.bool (!(Op.bytesLess a b || a==b)))
 |.geq=>some (.bool (!Op.bytesLess a b))
 |_=>none
def zhV(P:Program)(t:TypeId):Bool:=match P.underlying t with|some .bool=>true|_=>false
def zcA(P:Program)(t:TypeId):Bool:=match P.underlying t with|some (.interface _)=>true|_=>false
def valT(P:Program)(t:TypeId):Bool:=match P.underlying t with
 |some (.struct fs)=>match fs.toList with
  |[f,g,h]=>(match P.underlying f.type,P.underlying g.type,P.underlying h.type with|some (.int _),some (.int _),some .string=>true|_,_,_=>false) &&
   (f.name != "_" && (g.name != "_" && (h.name != "_" && (f.offset==0 && (g.offset==1 && (h.offset==2 && (!P.stoodInHeld t && !P.eqGuardType P.depth t)))))))
  |_=>false
 |_=>false
theorem zbv{P:Program}{w:World}{T:TypeId}{k:IntKind}{xs:Array Value}{n:Nat}{v:Value}(hu:P.underlying T=some (.int k))(hx:xs[n]?=some v):(part T xs n).run P w=.ok v w:=by
 simp[part,isAgg,run_underlying hu,hx]
theorem zdO{P:Program}{w:World}{T:TypeId}{xs:Array Value}{n:Nat}{v:Value}(hu:P.underlying T=some .string)(hx:xs[n]?=some v):(part T xs n).run P w=.ok v w:=by
 simp[part,isAgg,run_underlying hu,hx]
theorem val_eq{P:Program}{w:World}{t:TypeId}(h:valT P t=true)(a b a' b':Int)(s s':ByteArray):
  (Op.equalIn 10000 t (.agg #[.int .i64 a,.int .i64 b,.string s]) (.agg #[.int .i64 a',.int .i64 b',.string s'])).run P w=.ok (a==a' && (b==b' && s.toList==s'.toList)) w:=by
 unfold valT at h;split at h
 ·rename_i fs hfs;split at h
  ·rename_i f g k hl;simp only[qa21,bne_iff_ne,beq_iff_eq,qa18]at h;obtain⟨hT,n1,n2,n3,o1,o2,o3,hp,hg⟩:=h;split at hT
   ·rename_i k1 k2 u1 u2 u3;have hf:P.fieldsOf t=fs:=by simp[Program.fieldsOf,hfs]
    rw[show(10000:Nat)=9999+1 from rfl,run_equalIn_agg w 9999 t _ _ (by rw[hf];exact hfs) hp,hf,hl];simp only[Op.eqFields,n1,n2,n3,o1,o2,o3,ne_eq,not_false_eq_true,qa39,Sem.run_bind];rw[zbv (v:=.int .i64 a) u1 rfl,Result.andThen_ok,zbv (v:=.int .i64 a') u1 rfl,Result.andThen_ok,run_equalIn_int w 9998 _ .i64 _ a a' u1,Result.andThen_ok];cases h1:(a==a')
    ·simp
    ·simp only[Bool.not_true,qb0,Sem.run_bind,Bool.true_and];rw[zbv (v:=.int .i64 b) u2 rfl,Result.andThen_ok,zbv (v:=.int .i64 b') u2 rfl,Result.andThen_ok,run_equalIn_int w 9998 _ .i64 _ b b' u2,Result.andThen_ok];cases h2:(b==b')
     ·simp
     ·simp only[Bool.not_true,qb0,Sem.run_bind,Bool.true_and];rw[zdO (v:=.string s) u3 rfl,Result.andThen_ok,zdO (v:=.string s') u3 rfl,Result.andThen_ok,run_equalIn_string w 9998 _ s s' u3,Result.andThen_ok];cases h3:(s.toList==s'.toList)<;>simp
   ·cases hT
  ·cases h
 ·cases h
def eqVal:List V→List V→Option Bool
 |[.int .i64 a,.int .i64 b,.str s],[.int .i64 a',.int .i64 b',.str s']=>some (a==a' && (b==b' && s==s'))
 |_,_=>none
@[simp] theorem eqVal_mk (a b a' b':Int) (s s':List UInt8):eqVal [.int .i64 a,.int .i64 b,.str s] [.int .i64 a',.int .i64 b',.str s']=some (a==a' && (b==b' && s==s')):=rfl
theorem zjf{xs ys:List V}{r:Bool}(h:eqVal xs ys=some r):∃a b s a' b' s',xs=[.int .i64 a,.int .i64 b,.str s]∧ys=[.int .i64 a',.int .i64 b',.str s']∧r=(a==a' && (b==b' && s==s')):=by
 unfold eqVal at h;split at h
 ·cases h;exact⟨_,_,_,_,_,_,rfl,rfl,rfl⟩
 ·cases h
theorem ziS{P:Program}{t:TypeId}(h:valT P t=true):P.eqGuardType P.depth t=false:=by
 unfold valT at h;split at h
 ·split at h
  ·simp only[qa21,qa18]at h;exact h.2.2.2.2.2.2.2.2
  ·cases h
 ·cases h
theorem zjN{w:World}{A:Nat→Nat→Prop}{a b:Int}{s:List UInt8}{xv:Value}(h:RepV w A (.agg [.int .i64 a,.int .i64 b,.str s]) xv):xv=.agg #[.int .i64 a,.int .i64 b,.string (Lx.bs s)]:=by
 cases h with
 |agg _ vs h=>
  cases h with
  |cons _ _ v vs h1 h2=>
   cases h2 with
   |cons _ _ v vs h3 h4=>
    cases h4 with
    |cons _ _ v vs h5 h6=>
     cases h1;cases h3;cases h5;cases h6;rfl
def zjb(P:Program)(t:TypeId):Bool:=match P.underlying t with|some (.interface ms)=>ms.isEmpty|_=>false
theorem zfq{P:Program}{t:TypeId}(h:zjb P t=true):∃ms,P.underlying t=some (.interface ms)∧ms.isEmpty=true:=by
 unfold zjb at h;split at h
 ·exact⟨_,by assumption,h⟩
 ·cases h
theorem zcX{P:Program}{w:World}(d:Nat)(t:TypeId)(ms:Array (String×TypeId))(h:P.underlying t=some (.interface ms)):(Op.equalIn (d+1) t .nilIface .nilIface).run P w=.ok true w:=by
 simp[Op.equalIn,run_underlying h]
theorem zbI{P:Program}{w:World}(t:TypeId)(ms:Array (String×TypeId))(h:P.underlying t=some (.interface ms)):(Op.equal t .nilIface .nilIface).run P w=.ok true w:=zcX 9999 t ms h
theorem zdA{P:Program}{w:World}(d:Nat)(t:TypeId)(ms:Array (String×TypeId))(h:P.underlying t=some (.interface ms))(he:ms.isEmpty=true):(Op.eqGuardIn (d+1) t .nilIface .nilIface).run P w=.ok false w:=by
 simp[Op.eqGuardIn,run_underlying h,he]
theorem zew{P:Program}{w:World}(op:BinOp)(t:TypeId)(xo yo:Operand)(ms:Array (String×TypeId))(h:P.underlying t=some (.interface ms))(he:ms.isEmpty=true):(eqGuard op t xo yo .nilIface .nilIface).run P w=.ok () w:=by
 have h1:(Op.eqGuardIn Op.maxDepth t .nilIface .nilIface).run P w=.ok false w:=zdA 9999 t ms h he;unfold eqGuard;cases op<;>first|rfl|skip
 all_goals
  dsimp only;split
  ·rfl
  ·split
   ·rfl
   ·simp[h1]
def zig(P:Program)(op:BinOp)(t:TypeId)(x y:V):Option V:=
 match x,y with
 |.int k a,.int k' b=>if k=k' then zbd op k a b else none
 |.str a,.str b=>strV op a b
 |.bool a,.bool b=>if zhV P t=true then(match op with|.eql=>some (.bool (a==b))|.neq=>some (.bool (!(a==b)))|_=>none)else none
 |.nils,.nils=>if(eszT P t).isSome then(match op with|.eql=>some (.bool true)|.neq=>some (.bool false)|_=>none)else none
 |.iface _ _,.niface=>if zcA P t=true then(match op with|.eql=>some (.bool false)|.neq=>some (.bool true)|_=>none)else none
 |.niface,.niface=>if zjb P t=true then(match op with|.eql=>some (.bool true)|.neq=>some (.bool false)|_=>none)else none
 |.agg xs,.agg ys=>if valT P t=true then(match op,eqVal xs ys with|.eql,some r=>some (.bool r)|.neq,some r=>some (.bool (!r))|_,_=>none)else none
 |_,_=>none
theorem zkZ{P:Program}{w:World}{op:BinOp}{k:IntKind}{a b:Int}{v:V}{t:TypeId}(hs:zbd op k a b=some v):∃xv,(binOp op t (.int k a) (.int k b)).run P w=.ok xv w∧∀A,RepV w A v xv:=by
 unfold zbd at hs;split at hs
 ·cases hs;exact⟨_,by simp[binOp,Op.intArith],fun _=>.int _ _⟩
 ·cases hs;exact⟨_,by simp[binOp,Op.intArith],fun _=>.int _ _⟩
 ·cases hs;exact⟨_,by simp[binOp,Op.intArith],fun _=>.int _ _⟩
 ·split at hs
  ·cases hs
  ·rename_i h0;cases hs;exact⟨_,by simp[binOp,Op.intDiv,h0],fun _=>.int _ _⟩
 ·split at hs
  ·cases hs
  ·rename_i h0;cases hs;exact⟨_,by simp[binOp,Op.intDiv,h0],fun _=>.int _ _⟩
 ·cases hs;exact⟨.bool (a==b),by simp[binOp,Op.intCmp],fun _=>.bool _⟩
 ·cases hs;exact⟨.bool (a != b),by simp[binOp,Op.intCmp],fun _=>.bool _⟩
 ·cases hs;exact⟨_,by simp[binOp,Op.intCmp],fun _=>.bool _⟩
 ·cases hs;exact⟨_,by simp[binOp,Op.intCmp],fun _=>.bool _⟩
 ·cases hs;exact⟨_,by simp[binOp,Op.intCmp],fun _=>.bool _⟩
 ·cases hs;exact⟨_,by simp[binOp,Op.intCmp],fun _=>.bool _⟩
 ·cases hs
theorem strV_ok{P:Program}{w:World}{op:BinOp}{a b:List UInt8}{v:V}{t:TypeId}(hs:strV op a b=some v):∃xv,(binOp op t (.string (Lx.bs a)) (.string (Lx.bs b))).run P w=.ok xv w∧∀A,RepV w A v xv:=by
 unfold strV at hs;split at hs
 ·split at hs
  ·rename_i h0;cases hs;refine⟨.string (Lx.bs (a++b)), ?_,fun _=>.str _⟩;have h1:=run_string_add_sum (P:=P) (w:=w) (Lx.bs a) (Lx.bs b) (by rw[Lx.zao,Lx.zao];omega);rw[Lx.zeQ]at h1;simpa[binOp]using h1
  ·cases hs
 all_goals first
  |(cases hs;done)
  |(cases hs;exact⟨_,by simp[binOp,Op.stringOp,Lx.bs_toList],fun _=>.bool _⟩)
theorem zcq{P:Program}{w:World}(d:Nat)(t T:TypeId)(v:Value)(ms:Array (String×TypeId))(h:P.underlying t=some (.interface ms)):(Op.equalIn (d+1) t (.iface T v) .nilIface).run P w=.ok false w:=by
 simp[Op.equalIn,run_underlying h]
theorem zbi{P:Program}{w:World}(t T:TypeId)(v:Value)(ms:Array (String×TypeId))(h:P.underlying t=some (.interface ms)):(Op.equal t (.iface T v) .nilIface).run P w=.ok false w:=zcq 9999 t T v ms h
theorem zjI{P:Program}{w:World}{A:Nat→Nat→Prop}{st:Nat→Ent}{H:Nat→Value}{op:BinOp}{t:TypeId}{x y v:V}{xv yv:Value}{xo yo:Operand}(hx:RepT w A st H x xv)(hy:RepT w A st H y yv)(hs:zig P op t x y=some v):
  ∃zv,(do eqGuard op t xo yo xv yv;binOp op t xv yv:Sem Value).run P w=.ok zv w∧RepT w A st H v zv:=by
 have hg:∀(u v:Value),(∀a b,¬(u=.agg a∧v=.agg b))→(¬(u=.nilIface∧v=.nilIface))→(eqGuard op t xo yo u v).run P w=.ok () w:=by
  intro u v h1 h2;unfold eqGuard;cases op<;>first|rfl|(cases u<;>cases v<;>first|rfl|exact absurd ⟨rfl,rfl⟩ (h1 _ _)|exact absurd ⟨rfl,rfl⟩ h2)
 unfold zig at hs;split at hs
 ·rename_i k a k' b;cases hx.data rfl;cases hy.data rfl;split at hs
  ·rename_i hk;subst hk;obtain⟨zv,h1,h2⟩:=zkZ (P:=P) (w:=w) (t:=t) hs;exact⟨zv,by simp[hg,h1],(h2 A).toT⟩
  ·cases hs
 ·cases hx.data rfl;cases hy.data rfl;obtain⟨zv,h1,h2⟩:=strV_ok (P:=P) (w:=w) (t:=t) hs;exact⟨zv,by simp[hg,h1],(h2 A).toT⟩
 ·rename_i a b;cases hx.data rfl;cases hy.data rfl;split at hs
  ·rename_i hb;have hu:P.underlying t=some .bool:=by
    unfold zhV at hb;split at hb
    ·assumption
    ·cases hb
   have he:=run_equal_bool (P:=P) w t a b hu;split at hs<;>cases hs
   ·exact⟨.bool (a==b),by simp[hg,binOp,he],Or.inr (.bool _)⟩
   ·exact⟨.bool (!(a==b)),by simp[hg,binOp,he],Or.inr (.bool _)⟩
  ·cases hs
 ·cases hx.data rfl;cases hy.data rfl;split at hs
  ·rename_i hz;obtain⟨z,hz⟩:=Option.isSome_iff_exists.1 hz;obtain⟨e,i,hu,_,_⟩:=zbL hz;have he:=run_equal_slice_nil (P:=P) w t e none 0 0 hu;split at hs<;>cases hs
   ·exact⟨.bool true,by simp[hg,binOp,he],Or.inr (.bool _)⟩
   ·exact⟨.bool false,by simp[hg,binOp,he],Or.inr (.bool _)⟩
  ·cases hs
 ·cases hx.data rfl;cases hy.data rfl;split at hs
  ·rename_i hz;have hu:∃ms,P.underlying t=some (.interface ms):=by
    unfold zcA at hz;split at hz
    ·exact⟨_,by assumption⟩
    ·cases hz
   obtain⟨ms,hu⟩:=hu;split at hs<;>cases hs
   ·exact⟨.bool false,by simp[hg,binOp,zbi t _ _ ms hu],Or.inr (.bool _)⟩
   ·exact⟨.bool true,by simp[hg,binOp,zbi t _ _ ms hu],Or.inr (.bool _)⟩
  ·cases hs
 ·cases hx.data rfl;cases hy.data rfl;split at hs
  ·rename_i hz;obtain⟨ms,hu,he⟩:=zfq hz;have hgg:=fun op=>zew (P:=P) (w:=w) op t xo yo ms hu he;split at hs<;>cases hs
   ·exact⟨.bool true,by simp[hgg,binOp,zbI t ms hu],Or.inr (.bool _)⟩
   ·exact⟨.bool false,by simp[hgg,binOp,zbI t ms hu],Or.inr (.bool _)⟩
  ·cases hs
 ·rename_i xs ys;split at hs
  ·rename_i hv;obtain⟨r,hr⟩:∃r,eqVal xs ys=some r:=by
    cases hq:eqVal xs ys with
    |none=>rw[hq]at hs;cases op<;>cases hs
    |some r=>exact⟨r,rfl⟩
   rw[hr]at hs;obtain⟨a,b,s,a',b',s',rfl,rfl,hrr⟩:=zjf hr;obtain rfl:=zjN (hx.data rfl);obtain rfl:=zjN (hy.data rfl);have he:=val_eq (w:=w) hv a b a' b' (Lx.bs s) (Lx.bs s');rw[Lx.bs_toList,Lx.bs_toList,←hrr]at he;have hgg:∀op,(eqGuard op t xo yo (.agg #[.int .i64 a,.int .i64 b,.string (Lx.bs s)]) (.agg #[.int .i64 a',.int .i64 b',.string (Lx.bs s')])).run P w=.ok () w:=fun op=>run_eqGuard_agg w op t xo yo _ _ (ziS hv);cases op<;>first|(cases hs;done)|skip
   ·cases hs;exact⟨.bool r,by rw[Sem.run_bind,hgg,Result.andThen_ok,run_eql_struct,he];rfl,Or.inr (.bool _)⟩
   ·cases hs;exact⟨.bool (!r),by rw[Sem.run_bind,hgg,Result.andThen_ok,run_neq_struct,he];rfl,Or.inr (.bool _)⟩
  ·cases hs
 ·cases hs
def zhw(op:UnOp)(x:V):Option V:=
 match op,x with
 |.not,.bool b=>some (.bool (!b))
 |.neg,.int k n=>some (.int k (k.wrap (0-n)))
 |_,_=>none
theorem semUn_ok{P:Program}{w:World}{A:Nat→Nat→Prop}{st:Nat→Ent}{H:Nat→Value}{op:UnOp}{x v:V}{xv:Value}(hx:RepT w A st H x xv)(hs:zhw op x=some v):∃zv,(Op.unary op xv).run P w=.ok zv w∧RepT w A st H v zv:=by
 unfold zhw at hs;split at hs
 ·cases hs;cases hx.data rfl;exact⟨_,rfl,Or.inr (.bool _)⟩
 ·cases hs;cases hx.data rfl;exact⟨_,by simp[Op.unary,Op.intArith],Or.inr (.int _ _)⟩
 ·cases hs
def zfS(P:Program)(s d:TypeId)(x:V):Option V:=
 match P.underlying s,P.underlying d,x with
 |some _,some (.int k),.int _ n=>some (.int k (k.wrap n))
 |some _,some .string,.str s=>some (.str s)
 |_,_,_=>none
theorem ze7{P:Program}{w:World}{A:Nat→Nat→Prop}{st:Nat→Ent}{H:Nat→Value}{s d:TypeId}{x v:V}{xv:Value}(hx:RepT w A st H x xv)(hs:zfS P s d x=some v):∃zv,(convert s d xv).run P w=.ok zv w∧RepT w A st H v zv:=by
 unfold zfS at hs;split at hs
 ·rename_i u k k' n h1 h2;cases hs;cases hx.data rfl;exact⟨_,by simp[convert,run_underlying h1,run_underlying h2,Conv.intToInt],Or.inr (.int _ _)⟩
 ·rename_i u s' h1 h2;cases hs;cases hx.data rfl;exact⟨_,by simp[convert,run_underlying h1,run_underlying h2],Or.inr (.str _)⟩
 ·cases hs
def zfR(P:Program)(t:TypeId)(x:V):Option V:=if P.concrete t=true∧x.data=true then some (.iface t x)else none
theorem zhz{P:Program}{w:World}{A:Nat→Nat→Prop}{st:Nat→Ent}{H:Nat→Value}{t:TypeId}{x v:V}{xv:Value}(hx:RepT w A st H x xv)(hs:zfR P t x=some v):∃zv,(Instr.makeInterface t xv).run P w=.ok zv w∧RepT w A st H v zv:=by
 unfold zfR at hs;split at hs
 ·rename_i h;cases hs;exact⟨_,run_makeInterface w t xv h.1,Or.inr (.iface t x xv (hx.data h.2))⟩
 ·cases hs
def zif(x:V)(i:Nat):Option V:=match x with|.tup vs=>vs[i]?|_=>none
theorem zjG{P:Program}{w:World}{A:Nat→Nat→Prop}{st:Nat→Ent}{H:Nat→Value}{i:Nat}{x v:V}{xv:Value}(hx:RepT w A st H x xv)(hs:zif x i=some v):∃zv,(Instr.extract xv i).run P w=.ok zv w∧RepT w A st H v zv:=by
 unfold zif at hs;split at hs
 ·cases hx.data rfl with
  |tup cs vs h=>
   obtain⟨u,h1,h2⟩:=zdf h _ _ hs;exact⟨u,by simp[Instr.extract,h1],h2.toT⟩
 ·cases hs
def ze6(P:Program)(t:TypeId)(x:V):Option V:=
 match x with
 |.str s=>if strT P t=true then some (.int .i64 (s.length:Int))else none
 |.list xs=>if(eszT P t).isSome then some (.int .i64 (xs.length:Int))else none
 |.nils=>if(eszT P t).isSome then some (.int .i64 0)else none
 |_=>none
theorem zgI{P:Program}{w:World}{A:Nat→Nat→Prop}{st:Nat→Ent}{H:Nat→Value}{t ty:TypeId}{x v:V}{xv:Value}(hx:RepT w A st H x xv)(hs:ze6 P t x=some v):∃zv,(Builtin.len_ #[t] ty #[xv]).run P w=.ok zv w∧RepT w A st H v zv:=by
 have hz:(eszT P t).isSome=true→∃e,P.underlying t=some (.slice e):=fun h=>by
  obtain⟨z,h⟩:=Option.isSome_iff_exists.1 h;obtain⟨e,_,h,_⟩:=zbL h;exact⟨e,h⟩
 unfold ze6 at hs;split at hs
 ·split at hs
  ·rename_i ht;cases hs;cases hx.data rfl;exact⟨_,by simp[Builtin.len_,run_underlying (zep ht),goInt,Lx.zao],Or.inr (.int _ _)⟩
  ·cases hs
 ·split at hs
  ·rename_i ht;obtain⟨e,hu⟩:=hz ht;cases hs;cases hx.data rfl with
   |nil a c=>exact⟨_,by simp[Builtin.len_,run_underlying hu,goInt],Or.inr (.int _ _)⟩
   |list _ z b off c vs _ _ _ _ _=>exact⟨_,by simp[Builtin.len_,run_underlying hu,goInt],Or.inr (.int _ _)⟩
  ·cases hs
 ·split at hs
  ·rename_i ht;obtain⟨e,hu⟩:=hz ht;cases hs;cases hx.data rfl;exact⟨_,by simp[Builtin.len_,run_underlying hu,goInt],Or.inr (.int _ _)⟩
  ·cases hs
 ·cases hs
def zgH(b:Builtin)(x y:V):Option V:=
 match b,x,y with
 |.min,.int k a,.int _ c=>some (.int k (if c<a then c else a))
 |.max,.int k a,.int _ c=>some (.int k (if c > a then c else a))
 |_,_,_=>none
theorem zie{P:Program}{w:World}{A:Nat→Nat→Prop}{st:Nat→Ent}{H:Nat→Value}{b:Builtin}{ts:Array TypeId}{ty:TypeId}{cs:Array Bool}{x y v:V}{xv yv:Value}(hx:RepT w A st H x xv)(hy:RepT w A st H y yv)(hs:zgH b x y=some v):
  ∃zv,(builtin b ts ty cs #[xv,yv]).run P w=.ok (.value zv) w∧RepT w A st H v zv:=by
 unfold zgH at hs;split at hs
 ·cases hs;cases hx.data rfl;cases hy.data rfl;exact⟨_,by simp[builtin,Builtin.min_,Builtin.min2],Or.inr (.int _ _)⟩
 ·cases hs;cases hx.data rfl;cases hy.data rfl;exact⟨_,by simp[builtin,Builtin.max_,Builtin.max2],Or.inr (.int _ _)⟩
 ·cases hs
end
section
open Go Go.RowKit
def catL:List (Option (List V))→Option (List V)
 |[]=>some []
 |some x::r=>match catL r with|some y=>some (x++y)|none=>none
 |none::_=>none
def zdZ(P:Program):Nat→TypeId→Option (List V)
 |0,_=>none
 |d+1,t=>match P.underlying t with
  |some .bool=>some [.bool false]
  |some (.int k)=>some [.int k 0]
  |some .string=>some [.str []]
  |some (.slice _)=>some [.nils]
  |some (.pointer _)=>some [.nilp]
  |some (.interface _)=>some [.niface]
  |some (.struct fs)=>catL (fs.toList.map fun f=>zdZ P d f.type)
  |some (.array n e)=>catL (List.replicate n (zdZ P d e))
  |_=>none
def zin:V→Value→Bool
 |.bool b,.bool c=>b==c
 |.int k n,.int k' m=>decide (k=k') && decide (n=m)
 |.str [],.string s=>s.data.size==0
 |.nils,.slice none 0 0=>true
 |.nilp,.pointer none=>true
 |.niface,.nilIface=>true
 |_,_=>false
def zeF:List V→List Value→Bool
 |[],[]=>true
 |c::cs,v::vs=>zin c v && zeF cs vs
 |_,_=>false
def zfz(P:Program)(t:TypeId):Option (List V):=
 match zdZ P 12 t,P.info? t with
 |some cs,some i=>match i.zero with
  |some z=>if zeF cs z.cells.toList=true then some cs else none
  |none=>none
 |_,_=>none
theorem zfj{w:World}{A:Nat→Nat→Prop}{c:V}{v:Value}(h:zin c v=true):RepV w A c v∧c.one=true:=by
 unfold zin at h;split at h
 ·simp at h;subst h;exact⟨.bool _,rfl⟩
 ·simp at h;obtain⟨rfl,rfl⟩:=h;exact⟨.int _ _,rfl⟩
 ·rename_i s;refine⟨?_,rfl⟩;have h1:s=Lx.bs []:=Lx.ls_inj (by rw[Lx.zaH];exact qa1 (by simpa[Lx.ls]using h));rw[h1];exact .str []
 ·exact⟨.nils,rfl⟩
 ·exact⟨.nilp,rfl⟩
 ·exact⟨.niface,rfl⟩
 ·cases h
theorem zbZ{w:World}{A:Nat→Nat→Prop}:∀{cs:List V} {vs:List Value},zeF cs vs=true→RepL w A cs vs∧cs.all V.one=true
 |[],[],_=>⟨.nil,rfl⟩
 |[],_::_,h=>by cases h
 |_::_,[],h=>by cases h
 |c::cs,v::vs,h=>by
  simp only[zeF,qa21]at h;obtain⟨h1,h2⟩:=zfj (w:=w) (A:=A) h.1;obtain⟨h3,h4⟩:=zbZ (w:=w) (A:=A) h.2;exact⟨.cons _ _ _ _ h1 h3,by simp[h2,h4]⟩
theorem zdu{P:Program}{t:TypeId}{cs:List V}(h:zfz P t=some cs):∃i z,P.info? t=some i∧i.zero=some z∧(∀w A,RepL w A cs z.cells.toList)∧cs.all V.one=true:=by
 unfold zfz at h;split at h
 ·rename_i cs' i h1 h2;split at h
  ·rename_i z hz;split at h
   ·rename_i hk;cases h;exact⟨i,z,h2,hz,fun w A=>(zbZ hk).1,(zbZ (w:=default) (A:=fun _ _=>True) hk).2⟩
   ·cases h
  ·cases h
 ·cases h
def Ent.isGone:Ent→Bool|.gone=>true|_=>false
theorem isGone_spec{e:Ent}(h:e.isGone=true):e=.gone:=by cases e<;>first|rfl|cases h
def Leaves(P:Program)(c:Ctx)(x:X)(a:Act)(s:Sem Value)(w:World)(dst:Option Tmp)(v:V)(U:Upds):Prop:=
 ∃xv w' H' A',s.run P w=.ok xv w'∧SimH c (x.put dst v U) (a.put dst xv) w' H' A'
def zfU(P:Program)(slot:Nat)(t:TypeId)(st:Nat→Ent):Option (V×Upds):=
 match zfz P t with
 |some cs=>if(st slot).isGone=true then some (.ptr slot 0,[(slot,.blk t cs)])else none
 |none=>none
theorem zhC{P:Program}{c:Ctx}{x:X}{a:Act}{w:World}{H:Nat→Value}{A:Nat→Nat→Prop}(h:SimH c x a w H A){slot:Nat}(hid:c.n0≤slot){t:TypeId}{v:V}{U:Upds}(dst:Option Tmp)(hs:zfU P slot t x.st=some (v,U)):
  Leaves P c x a (Instr.alloc t true (.tuple #[])) w dst v U:=by
 unfold zfU at hs;split at hs
 ·rename_i cs hz;split at hs
  ·rename_i hg;cases hs;obtain⟨i,z,hi,hz,hr,_⟩:=zdu hz;obtain⟨H',A',h'⟩:=h.newBlk z.cells t slot cs hid (isGone_spec hg) (zd5 (hr w A)) dst;exact⟨_,_,H',A',by simp[Instr.alloc,zeroValue,typeInfo,hi,hz,newVar,newRow,newObj,Sem.run],h'⟩
  ·cases hs
 ·cases hs
def zet(slot:Nat)(t:TypeId)(x:V)(st:Nat→Ent):Option (V×Upds):=
 if(st slot).isGone=true∧(x.isTa=true∨x.isAgg=true∨x.one=true)then some (.ptr slot 0,[(slot,.blk t x.cells)])else none
theorem zjH{P:Program}{c:Ctx}{x:X}{a:Act}{w:World}{H:Nat→Value}{A:Nat→Nat→Prop}(h:SimH c x a w H A){slot:Nat}(hid:c.n0≤slot){t:TypeId}{y v:V}{yv:Value}{U:Upds}(hy:RepT w A x.st H y yv)(dst:Option Tmp)
  (hs:zet slot t y x.st=some (v,U)):Leaves P c x a (Instr.box t yv) w dst v U:=by
 unfold zet at hs;split at hs
 ·rename_i hg;cases hs;obtain⟨H',A',h'⟩:=h.newBlk yv.cells t slot y.cells hid (isGone_spec hg.1) (ze8 hy hg.2) dst;exact⟨_,_,H',A',by simp[Instr.box,newVar,newRow,newObj,Sem.run],h'⟩
 ·cases hs
def zd2(P:Program)(t:TypeId)(ad x:V)(st:Nat→Ent):Option Upds:=
 match za7 P t,ad with
 |some (_,n),.ptr id off=>match st id with
  |.blk T cs=>if x.size=n∧off+n≤cs.length∧x.storable=true then some [(id,.blk T (cs.take off++x.cells++cs.drop (off+n)))]else none
  |_=>none
 |_,_=>none
theorem zhx{P:Program}{c:Ctx}{x:X}{a:Act}{w:World}{H:Nat→Value}{A:Nat→Nat→Prop}(h:SimH c x a w H A){t:TypeId}{ad y:V}{av yv:Value}{U:Upds}(ha:RepT w A x.st H ad av)(hy:RepT w A x.st H y yv)(dst:Option Tmp)
  (hs:zd2 P t ad y x.st=some U):∃w' H' A',(Instr.storeAt t av yv).run P w=.ok () w'∧SimH c (x.put dst .undef U) (a.put dst Go.undef) w' H' A':=by
 unfold zd2 at hs;split at hs
 ·rename_i ag n id off hsh;split at hs
  ·rename_i T cs hst;split at hs
   ·rename_i hc;cases hs;obtain⟨b,C,h1,rfl,h3,h4⟩:=zhI h ha hst;obtain⟨hc1,hc2,hc3⟩:=hc;obtain⟨h5,h6⟩:=zcS hc3;have h7:=ze8 hy h5;have h8:=zaE h7;have h9:=zaE h4;have hsz:yv.cells.size=n:=by
     have:yv.cells.toList.length=n:=by rw[←h8];exact hc1
     simpa using this
    have hst':=run_storeCells_at P b off T yv.cells.toList 0 C w h3 (by simp;simp at h9;omega) (zgP h7 h6);obtain⟨_,hso⟩:=zbh hsh w;refine⟨w.setRow b (C.toList.take (off+0)++yv.cells.toList++C.toList.drop (off+0+yv.cells.toList.length)).toArray,H,A, ?_, ?_⟩
    ·simp only[Instr.storeAt,Instr.sureAddr,Sem.run_bind,Sem.run_pure,Result.andThen_ok,storeVar,hso,hsz,ne_eq,not_true_eq_false,if_false];exact hst'
    ·refine h.setBlk id T b cs _ C _ hst h1 h3 ?_ dst .undef Go.undef (Or.inr .undef);have:=zaF (zaF (zdD off h4) h7) (zdF (off+n) h4);have hl:yv.cells.toList.length=n:=by simpa using hsz
     simpa[hl]using this
   ·cases hs
  ·cases hs
 ·cases hs
def zcZ(P:Program)(t:TypeId):Option (List (Nat×Nat)):=
 match P.underlying t with
 |some (.struct fs)=>fs.toList.mapM (fun f=>(P.info? f.type).map fun i=>(f.offset,i.size))
 |_=>none
def zje(places:List (Nat×Nat))(cells:List V):List (Nat×V)→Option (List V)
 |[]=>some cells
 |(i,x)::rest=>match places[i]? with
  |none=>none
  |some (off,size)=>if x.size=size∧off+size≤cells.length∧x.data=true∧(x.isAgg=true∨x.one=true)then zje places (cells.take off++x.cells++cells.drop (off+size)) rest else none
def zfT(P:Program)(t:TypeId)(parts:List (Nat×V)):Option V:=
 match zfz P t,zcZ P t with
 |some cs,some pl=>match zje pl cs parts with|some r=>some (.agg r)|none=>none
 |_,_=>none
theorem zed:∀(us:List Value)(off i:Nat)(cells:Array Value),off+i+us.length≤cells.size→((us.zipIdx i).foldl (fun cs (p:Value×Nat)=>cs.setIfInBounds (off+p.2) p.1) cells).toList=cells.toList.take (off+i)++us++cells.toList.drop (off+i+us.length)
 |[],off,i,cells,_=>by simp
 |u::us,off,i,cells,h=>by
  simp only[qa20]at h;rw[List.zipIdx_cons,List.foldl_cons,zed us off (i+1) _ (by simp;omega)];have e:=list_seg_step cells.toList (off+i) u us (by simp;omega);simpa[Array.toList_setIfInBounds,Nat.add_assoc]using e
theorem zkw{w:World}{A:Nat→Nat→Prop}{pl:List (Nat×Nat)}:∀(parts:List (Nat×V)) (vparts:List (Nat×Value)) (cs r:List V) (vs:Array Value),RepL w A cs vs.toList→parts.map (·.1)=vparts.map (·.1) →
  (∀(k:Nat)(p:Nat×V)(q:Nat×Value),parts[k]?=some p→vparts[k]?=some q→p.2.data=true→RepV w A p.2 q.2)→zje pl cs parts=some r→∃rv,Instr.fill (pl.toArray[·]?) vs vparts=some rv∧RepL w A r rv.toList
 |[],[],cs,r,vs,h,_,_,hs=>by cases hs;exact⟨vs,rfl,h⟩
 |[],_::_,_,_,_,_,h,_,_=>by cases h
 |_::_,[],_,_,_,_,h,_,_=>by cases h
 |(i,x)::ps,(i',v)::qs,cs,r,vs,h,hm,hp,hs=>by
  simp only[qa32,List.cons.injEq]at hm;obtain⟨rfl,hm⟩:=hm;unfold zje at hs;split at hs
  ·cases hs
  ·rename_i off size hpl;split at hs
   ·rename_i hc;obtain⟨h1,h2,h3,h4⟩:=hc;have hx:=hp 0 (i,x) (i,v) rfl rfl h3;have hxc:RepL w A x.cells v.cells.toList:=by
     rcases h4 with h4|h4
     ·cases x<;>simp[V.isAgg]at h4;cases hx with
      |agg cs vs h=>simpa[V.cells,Value.cells]using h
     ·have h5:=zbV hx h4;have h6:v.cells=#[v]:=by cases v<;>first|rfl|simp[Value.oneCell']at h5
      rw[h6,zav h4];exact .cons _ _ _ _ hx .nil
    have hl:=zar hxc;have hlc:=zar h;have hsz:v.cells.size=size:=by rw[←h1,V.size,hl];simp
    have hfit:off+v.cells.size≤vs.size:=by rw[hsz];have:vs.toList.length=vs.size:=(by simp);omega
    have hf:=zed v.cells.toList off 0 vs (by simpa using hfit);obtain ⟨rv,h7,h8⟩:=zkw ps qs _ r (v.cells.zipIdx.foldl (fun cs (c,j)=>cs.setIfInBounds (off+j) c) vs) (by
     have e:(v.cells.zipIdx.foldl (fun cs (c,j)=>cs.setIfInBounds (off+j) c) vs)=((v.cells.toList.zipIdx 0).foldl (fun cs (p:Value×Nat)=>cs.setIfInBounds (off+p.2) p.1) vs):=by
      rw[←Array.foldl_toList,Array.toList_zipIdx]
     rw[e,hf];have:=zbW (zbW (zcr off h) hxc) (zcs (off+size) h);have hl2:v.cells.toList.length=size:=by simpa using hsz
     simpa[hl2]using this) hm (fun k p q hk hq=>hp (k+1) p q (by simpa using hk) (by simpa using hq)) hs
    refine⟨rv, ?_,h8⟩;have hpl':pl.toArray[i]?=some (off,size):=by simpa using hpl
    unfold Instr.fill;rw[hpl'];have hnf:¬vs.size<off+size:=by omega
    simpa[hsz,hnf]using h7
   ·cases hs
theorem zjR{w:World}{A:Nat→Nat→Prop}{st:Nat→Ent}{H:Nat→Value}{x:V}{v:Value}(h:RepV w A x v):RepK w A st H x v:=by
 cases x<;>first|exact h|cases h
theorem zfZ{w:World}{A:Nat→Nat→Prop}{st:Nat→Ent}{H:Nat→Value}:∀{x:List V} {v:List Value},RepL w A x v→zaC w A st H x v
 |_,_,.nil=>rfl
 |_,_,.cons _ _ _ _ h1 h2=>⟨_,_,rfl,zjR h1,zfZ h2⟩
theorem zct{w:World}{A:Nat→Nat→Prop}{st:Nat→Ent}{H:Nat→Value}:∀{x:List V} {v:List Value},zaC w A st H x v→x.length=v.length
 |[],_,h=>by rw[h];rfl
 |_::_,_,⟨u,us,h1,_,h3⟩=>by rw[h1];simp[zct h3]
theorem zcu{w:World}{A:Nat→Nat→Prop}{st:Nat→Ent}{H:Nat→Value}:∀{x y:List V} {v u:List Value},zaC w A st H x v→zaC w A st H y u→zaC w A st H (x++y) (v++u)
 |[],_,_,_,h,h2=>by rw[h];simpa using h2
 |_::_,_,_,_,⟨u,us,h1,h2,h3⟩,h4=>by subst h1;exact⟨_,_,rfl,h2,zcu h3 h4⟩
theorem zfc{w:World}{A:Nat→Nat→Prop}{st:Nat→Ent}{H:Nat→Value}:∀{x:List V} {v:List Value} (n:Nat),zaC w A st H x v→zaC w A st H (x.take n) (v.take n)
 |x,_,0,_=>by simp[zaC]
 |[],_,n+1,h=>by rw[h];simp[zaC]
 |_::_,_,n+1,⟨u,us,h1,h2,h3⟩=>by subst h1;exact⟨_,_,rfl,h2,zfc n h3⟩
theorem zfd{w:World}{A:Nat→Nat→Prop}{st:Nat→Ent}{H:Nat→Value}:∀{x:List V} {v:List Value} (n:Nat),zaC w A st H x v→zaC w A st H (x.drop n) (v.drop n)
 |x,_,0,h=>by simpa using h
 |[],_,n+1,h=>by rw[h];simp[zaC]
 |_::_,_,n+1,⟨u,us,h1,h2,h3⟩=>by subst h1;simpa using zfd n h3
def zft(places:List (Nat×Nat))(cells:List V):List (Nat×V)→Option (List V)
 |[]=>some cells
 |(i,x)::rest=>match places[i]? with
  |none=>none
  |some (off,size)=>if x.size=size∧off+size≤cells.length∧(x.data=true∨x.isRow=true)∧(x.isAgg=true∨x.one=true)then zft places (cells.take off++x.cells++cells.drop (off+size)) rest else none
theorem ziB{w:World}{A:Nat→Nat→Prop}{st:Nat→Ent}{H:Nat→Value}{pl:List (Nat×Nat)}:∀(parts:List (Nat×V)) (vparts:List (Nat×Value)) (cs r:List V) (vs:Array Value),zaC w A st H cs vs.toList→parts.map (·.1)=vparts.map (·.1) →
  (∀(k:Nat)(p:Nat×V)(q:Nat×Value),parts[k]?=some p→vparts[k]?=some q→RepT w A st H p.2 q.2)→zft pl cs parts=some r→∃rv,Instr.fill (pl.toArray[·]?) vs vparts=some rv∧zaC w A st H r rv.toList
 |[],[],cs,r,vs,h,_,_,hs=>by cases hs;exact⟨vs,rfl,h⟩
 |[],_::_,_,_,_,_,h,_,_=>by cases h
 |_::_,[],_,_,_,_,h,_,_=>by cases h
 |(i,x)::ps,(i',v)::qs,cs,r,vs,h,hm,hp,hs=>by
  simp only[qa32,List.cons.injEq]at hm;obtain⟨rfl,hm⟩:=hm;unfold zft at hs;split at hs
  ·cases hs
  ·rename_i off size hpl;split at hs
   ·rename_i hc;obtain⟨h1,h2,h3,h4⟩:=hc;have hx:=hp 0 (i,x) (i,v) rfl rfl;have hxc:zaC w A st H x.cells v.cells.toList:=by
     rcases h3 with h3|h3
     ·replace hx:=hx.data h3;rcases h4 with h4|h4
      ·cases x<;>simp[V.isAgg]at h4;cases hx with
       |agg cs vs h=>simpa[V.cells,Value.cells]using zfZ h
      ·have h5:=zbV hx h4;have h6:v.cells=#[v]:=by cases v<;>first|rfl|simp[Value.oneCell']at h5
       rw[h6,zav h4];exact⟨v,[],rfl,zjR hx,rfl⟩
     ·cases x<;>simp[V.isRow]at h3;have h5:=zfW hx rfl;have h6:v.cells=#[v]:=by cases v<;>first|rfl|simp[Value.oneCell']at h5
      rw[h6];exact⟨v,[],rfl,hx,rfl⟩
    have hl:=zct hxc;have hlc:=zct h;have hsz:v.cells.size=size:=by rw[←h1,V.size,hl];simp
    have hfit:off+v.cells.size≤vs.size:=by rw[hsz];have:vs.toList.length=vs.size:=(by simp);omega
    have hf:=zed v.cells.toList off 0 vs (by simpa using hfit);obtain ⟨rv,h7,h8⟩:=ziB ps qs _ r (v.cells.zipIdx.foldl (fun cs (c,j)=>cs.setIfInBounds (off+j) c) vs) (by
     have e:(v.cells.zipIdx.foldl (fun cs (c,j)=>cs.setIfInBounds (off+j) c) vs)=((v.cells.toList.zipIdx 0).foldl (fun cs (p:Value×Nat)=>cs.setIfInBounds (off+p.2) p.1) vs):=by
      rw[←Array.foldl_toList,Array.toList_zipIdx]
     rw[e,hf];have:=zcu (zcu (zfc off h) hxc) (zfd (off+size) h);have hl2:v.cells.toList.length=size:=by simpa using hsz
     simpa[hl2]using this) hm (fun k p q hk hq=>hp (k+1) p q (by simpa using hk) (by simpa using hq)) hs
    refine⟨rv, ?_,h8⟩;have hpl':pl.toArray[i]?=some (off,size):=by simpa using hpl
    unfold Instr.fill;rw[hpl'];have hnf:¬vs.size<off+size:=by omega
    simpa[hsz,hnf]using h7
   ·cases hs
theorem zgJ{P:Program}{w:World}{A:Nat→Nat→Prop}{st:Nat→Ent}{H:Nat→Value}{t:TypeId}{parts:List (Nat×V)}{vparts:Array (Nat×Value)}{cs r:List V}{pl:List (Nat×Nat)}(hz:zfz P t=some cs)(hpl:zcZ P t=some pl)
  (hm:parts.map (·.1)=vparts.toList.map (·.1)) (hp:∀(k:Nat)(p:Nat×V)(q:Nat×Value),parts[k]?=some p→vparts.toList[k]?=some q→RepT w A st H p.2 q.2) (hf:zft pl cs parts=some r):∃zv,(Instr.build t vparts).run P w=.ok zv w∧RepT w A st H (.ta r) zv:=by
 obtain⟨i,z,hi,hz,hr,_⟩:=zdu hz;obtain⟨rv,h1,h2⟩:=ziB parts vparts.toList cs r z.cells (zfZ (hr w A)) hm hp hf;refine⟨.agg rv,run_build w t vparts rv ?_,⟨rv.toList,by simp,h2⟩⟩;unfold zcZ at hpl;split at hpl
 ·rename_i fs hu;unfold Program.built;rw[hi,hu];simp only[hz,hpl];exact h1
 ·cases hpl
theorem zhB{P:Program}{w:World}{A:Nat→Nat→Prop}{st:Nat→Ent}{H:Nat→Value}{t:TypeId}{parts:List (Nat×V)}{vparts:Array (Nat×Value)}{v:V}(hm:parts.map (·.1)=vparts.toList.map (·.1))
  (hp:∀(k:Nat)(p:Nat×V)(q:Nat×Value),parts[k]?=some p→vparts.toList[k]?=some q→RepT w A st H p.2 q.2) (hs:zfT P t parts=some v):∃zv,(Instr.build t vparts).run P w=.ok zv w∧RepT w A st H v zv:=by
 unfold zfT at hs;split at hs
 ·rename_i cs pl hz hpl;split at hs
  ·rename_i r hf;cases hs;obtain⟨i,z,hi,hz,hr,_⟩:=zdu hz;obtain⟨rv,h1,h2⟩:=zkw parts vparts.toList cs r z.cells (hr w A) hm (fun k p q hk hq hd=>(hp k p q hk hq).data hd) hf;refine⟨.agg rv,run_build w t vparts rv ?_,Or.inr ?_⟩
   ·unfold zcZ at hpl;split at hpl
    ·rename_i fs hu;unfold Program.built;rw[hi,hu];simp only[hz,hpl];exact h1
    ·cases hpl
   ·have:=RepV.agg r rv.toList h2;simpa using this
  ·cases hs
 ·cases hs
def rowT(P:Program)(t:TypeId):Option (TypeId×Nat×Nat):=
 match P.underlying t with
 |some (.slice e)=>match P.info? e with
  |some i=>match i.zero with
   |some z=>if z.cells.size=i.size∧0<i.size then some (e,i.size,i.bytes)else none
   |none=>none
  |none=>none
 |_=>none
theorem zgM{P:Program}{t e z b:Nat}(h:rowT P t=some (e,z,b)):∃i zv,P.underlying t=some (.slice e)∧P.info? e=some i∧i.zero=some zv∧zv.cells.size=z∧i.size=z∧i.bytes=b∧0<z:=by
 unfold rowT at h;split at h
 ·rename_i e' hu;split at h
  ·rename_i i hi;split at h
   ·rename_i zv hz;split at h
    ·rename_i hc;simp only[qa17,Prod.mk.injEq]at h;obtain⟨rfl,rfl,rfl⟩:=h;exact⟨i,zv,hu,hi,hz,hc.1,rfl,rfl,hc.2⟩
    ·cases h
   ·cases h
  ·cases h
 ·cases h
def zbU(P:Program)(slot:Nat)(t:TypeId)(len:Nat)(parts:List (Nat×V))(st:Nat→Ent):Option (V×Upds):=
 match rowT P t with
 |some (e,z,_)=>if(st slot).isGone=true∧parts.map (·.1)=List.range len∧(∀p∈parts,p.2.data=true∧p.2.storable=true∧p.2.size=z)∧len*z≤16777216 then some (.row slot len,[(slot,.row e z (parts.map (·.2)))])else none
 |none=>none
theorem ziz{w:World}{A:Nat→Nat→Prop}{z:Nat}:∀(parts:List (Nat×V)) (vparts:List (Nat×Value)) (k:Nat) (cells:Array Value),parts.map (·.1)=List.range' k parts.length→parts.map (·.1)=vparts.map (·.1) →
  (∀(j:Nat)(p:Nat×V)(q:Nat×Value),parts[j]?=some p→vparts[j]?=some q→RepV w A p.2 q.2∧p.2.storable=true∧p.2.size=z)→cells.size=(k+parts.length)*z →
  ∃us,Instr.fill (fun i=>some (i*z,z)) cells vparts=some (cells.toList.take (k*z)++us).toArray∧RepE w A z (parts.map (·.2)) us
 |[],[],k,cells,_,_,_,hc=>⟨[],by simp only[Instr.fill,List.append_nil];rw[List.take_of_length_le (by simp[hc])],.nil z⟩
 |[],_::_,_,_,_,h,_,_=>by cases h
 |_::_,[],_,_,_,h,_,_=>by cases h
 |(i,x)::ps,(i',v)::qs,k,cells,hk,hm,hp,hc=>by
  simp only[qa32,List.cons.injEq]at hm;obtain⟨rfl,hm⟩:=hm;simp only[qa32,qa20,List.range'_succ,List.cons.injEq]at hk;obtain⟨rfl,hk⟩:=hk;obtain⟨hx,hst,hsz⟩:=hp 0 (i,x) (i,v) rfl rfl;replace hsz:x.size=z:=hsz;replace hx:RepV w A x v:=hx;replace hst:x.storable=true:=hst;have hC:=zjW hx hst;have hvs:v.cells.size=z:=by have:=zcv hC;simp at this;omega
  have hcs:cells.size=i*z+z+ps.length*z:=by rw[hc,qa20,Nat.add_mul,Nat.succ_mul];omega
  have hf:=zed v.cells.toList (i*z) 0 cells (by simp[hvs];omega);have e:(v.cells.zipIdx.foldl (fun cs (c,j)=>cs.setIfInBounds (i*z+j) c) cells)=((v.cells.toList.zipIdx 0).foldl (fun cs (p:Value×Nat)=>cs.setIfInBounds (i*z+p.2) p.1) cells):=by
   rw[←Array.foldl_toList,Array.toList_zipIdx]
  rw[←e]at hf;have hlen:v.cells.toList.length=z:=by simpa using hvs
  have hnew:(v.cells.zipIdx.foldl (fun cs (c,j)=>cs.setIfInBounds (i*z+j) c) cells).size=(i+1+ps.length)*z:=by
   rw[←Array.length_toList,hf];simp only[qa13,qa23,qa24,hlen,Array.length_toList,Nat.add_zero,hcs];have e2:(i+1+ps.length)*z=i*z+z+ps.length*z:=by rw[Nat.add_mul,Nat.add_mul,Nat.one_mul]
   rw[e2];omega
  obtain⟨us,h1,h2⟩:=ziz ps qs (i+1) _ hk hm (fun j p q hj hq=>hp (j+1) p q (by simpa using hj) (by simpa using hq)) hnew;refine⟨v.cells.toList++us, ?_,.cons z x _ _ us hlen hC h2⟩;have hnf:¬cells.size<i*z+z:=by omega
  have hfill:Instr.fill (fun i=>some (i*z,z)) cells ((i,v)::qs)=Instr.fill (fun i=>some (i*z,z)) (v.cells.zipIdx.foldl (fun cs (c,j)=>cs.setIfInBounds (i*z+j) c) cells) qs:=by
   conv=>lhs;unfold Instr.fill
   simp[hvs,hnf]
  rw[hfill,h1,hf];congr 2;simp only[Nat.add_zero,hlen];rw[←qa19,Nat.succ_mul];congr 1;rw[List.take_append_of_le_length (by simp[hlen];omega)];exact List.take_of_length_le (by simp[hlen];omega)
theorem zdW{P:Program}{c:Ctx}{x:X}{a:Act}{w:World}{H:Nat→Value}{A:Nat→Nat→Prop}(h:SimH c x a w H A){slot:Nat}(hid:c.n0≤slot){t:TypeId}{len:Nat}{v:V}{U:Upds}{parts:List (Nat×V)}{vparts:Array (Nat×Value)}
  (hm:parts.map (·.1)=vparts.toList.map (·.1)) (hp:∀(k:Nat)(p:Nat×V)(q:Nat×Value),parts[k]?=some p→vparts.toList[k]?=some q→RepT w A x.st H p.2 q.2) (dst:Option Tmp)
  (hs:zbU P slot t len parts x.st=some (v,U)):Leaves P c x a (Instr.buildSlice t len vparts) w dst v U:=by
 unfold zbU at hs;split at hs
 ·rename_i e z b hrow;split at hs
  ·rename_i hc;cases hs;obtain⟨hg,hr,hall,hsz⟩:=hc;obtain⟨i,zv,hu,hi,hz,hzs,his,_,hz0⟩:=zgM hrow;have hlen:parts.length=len:=by have:=congrArg List.length hr;simpa using this
   have hr':parts.map (·.1)=List.range' 0 parts.length:=by rw[hr,hlen,List.range_eq_range']
   obtain ⟨us,h1,h2⟩:=ziz (w:=w) (A:=A) (z:=z) parts vparts.toList 0 ((Array.range (len * z)).map (zv.cells[· % zv.cells.size]!)) hr' hm (fun j p q hj hq=>by
    obtain⟨d1,d2,d3⟩:=hall p (qa8 hj);exact⟨(hp j p q hj hq).data d1,d2,d3⟩) (by simp[hlen])
   simp only[Nat.zero_mul,List.take_zero,qa26]at h1;have hxl:(parts.map (·.2)).length=len:=by simpa using hlen
   obtain⟨H',A',h'⟩:=h.newRow us.toArray e z slot (parts.map (·.2)) hz0 hid (isGone_spec hg) (by simpa using h2) (by rw[hxl];have:len≤len*z:=Nat.le_mul_of_pos_right _ hz0;simp only[maxLen];omega) dst;rw[hxl]at h';refine⟨_,_,H',A', ?_,h'⟩;have hnot:¬len*z > 2 ^ 24:=by omega
   subst his;by_cases h0:len*i.size=0
   ·have h1':Instr.fill (fun k=>some (k*i.size,i.size)) #[] vparts.toList=some us.toArray:=by
     rw[h0,show Array.range 0=#[]from rfl]at h1;simpa using h1
    have hl0:len=0:=by
     rcases Nat.mul_eq_zero.1 h0 with h2|h2
     ·exact h2
     ·omega
    subst hl0;simp[Instr.buildSlice,run_underlying hu,Go.sizeOf,typeInfo,hi,h1',newRow,newObj,Sem.run,show Array.range 0=#[]from rfl]
   ·simp[Instr.buildSlice,run_underlying hu,Go.sizeOf,typeInfo,hi,hnot,h0,zeroValue,hz,h1,newRow,newObj,Sem.run]
  ·cases hs
 ·cases hs
def zdc(P:Program)(slot:Nat)(t:TypeId)(s y:V)(st:Nat→Ent):Option (V×Upds):=
 match rowT P t,y with
 |some (e,z,bytes),.list ys=>match s with
  |.row id n=>match st id with
   |.row T z' xs=>if T=e∧z'=z∧n=xs.length∧(∀y∈ys,y.size=z)∧(xs.length+ys.length)*(bytes+1)≤140737488355328 then some (.row id (xs.length+ys.length),[(id,.row T z' (xs++ys))])else none
   |_=>none
  |.nils=>if(st slot).isGone=true∧(∀y∈ys,y.size=z)∧ys.length*(bytes+1)≤140737488355328 then some (.row slot ys.length,[(slot,.row e z ys)])else none
  |.mr id n=>match st id with
   |.mrow T z' xs=>if T=e∧z'=z∧n=xs.length∧(∀y∈ys,y.size=z)∧(xs.length+ys.length)*(bytes+1)≤140737488355328 then some (.mr id (xs.length+ys.length),[(id,.mrow T z' (xs++ys))])else none
   |_=>none
  |_=>none
 |_,_=>none
theorem repV_list_inv{w:World}{A:Nat→Nat→Prop}{ys:List V}{v:Value}(h:RepV w A (.list ys) v):
  (ys=[]∧∃a c,v=.slice a 0 c)∨(ys≠[]∧∃z b off c vs,v=.slice (some ⟨b,off,none⟩) ys.length c∧RepE w A z ys vs∧At w A b off vs):=by
 cases h with
 |nil a c=>exact .inl ⟨rfl,a,c,rfl⟩
 |list _ z b off c vs h1 h2 h3 _ _=>exact .inr ⟨h1,z,b,off,c,vs,rfl,h2,h3⟩
theorem zjT{w:World}{A:Nat→Nat→Prop}{z z':Nat}{ys:List V}{vs:List Value}(h:RepE w A z ys vs)(hn:ys≠[])(hz:∀y∈ys,y.size=z'):z=z':=by
 cases h with
 |nil=>exact absurd rfl hn
 |cons _ x xs us ws h0 h1 h2=>rw[←hz x (by simp),zcv h1,h0]
theorem SimH.nilRow{c:Ctx}{x:X}{a:Act}{w:World}{H:Nat→Value}{A:Nat→Nat→Prop}(h:SimH c x a w H A)(T z id:Nat)(hz:0<z)(hid:c.n0≤id)(hg:x.st id=.gone)(dst:Option Tmp):
  ∃H' A',SimH c (x.put dst (.row id 0) [(id,.row T z [])]) (a.put dst (.slice none 0 0)) w H' A':=by
 have hf:Foll x.st H (updE x.st id (.row T z [])) (updH H id (.slice none 0 0)):=by
  refine⟨fun i T cs hi=>?_,fun i T z xs hi=>?_,fun i T z xs hi=>?_,fun i T z xs hi=>?_⟩
  ·have:i≠id:=fun e=>by subst e;rw [hg] at hi;cases hi
   exact⟨if_neg this,T,cs,by rw[zab _ _ this];exact hi⟩
  ·have:i≠id:=fun e=>by subst e;rw [hg] at hi;cases hi
   exact⟨[],by rw[zab _ _ this];simpa using hi,fun _=>if_neg this⟩
  ·have:i≠id:=fun e=>by subst e;rw [hg] at hi;cases hi
   exact⟨xs,by rw[zab _ _ this];exact hi,qa37 _,fun _=>if_neg this⟩
  ·have:i≠id:=fun e=>by subst e;rw [hg] at hi;cases hi
   exact⟨by rw[zab _ _ this];exact hi,if_neg this⟩
 refine⟨_,A,h.go (Keeps.refl _ _) hf ?_ ?_ h.a0 ?_ h.al ?_ h.ext dst (.row id 0) (.slice none 0 0) ⟨T,z,[],zai _ _ _,qa37 _,.nil _ _,fun _=>(if_pos rfl).symm⟩⟩
 ·intro i;by_cases hi:i=id
  ·subst hi;rw[zai,show updH H i (.slice none 0 0) i=.slice none 0 0 from if_pos rfl];exact⟨hz,[],⟨by simp,.inl ⟨rfl,rfl⟩⟩,.nil z,fun g hg=>by simp[Value.ownBlock]at hg⟩
  ·rw[zab _ _ hi,show updH H id (.slice none 0 0) i=H i from if_neg hi];by_cases hgo:x.st i=.gone
   ·rw[hgo];trivial
   ·exact(h.ent i).mono (Keeps.refl _ _) hf (fun b hb=>⟨rfl,fun _=>Iff.rfl⟩)
 ·intro i j hij hi hj b hb;by_cases h1:i=id
  ·subst h1;rw[show updH H i (.slice none 0 0) i=.slice none 0 0 from if_pos rfl]at hb;simp[blockOf]at hb
  ·rw[show updH H id (.slice none 0 0) i=H i from if_neg h1]at hb;rw[zab _ _ h1]at hi;by_cases h2:j=id
   ·subst h2;rw[show updH H j (.slice none 0 0) j=.slice none 0 0 from if_pos rfl];simp[blockOf]
   ·rw[show updH H id (.slice none 0 0) j=H j from if_neg h2];rw[zab _ _ h2]at hj;exact h.dis i j hij hi hj b hb
 ·intro i b hi hgo hb hl;have h1:i≠id:=by omega
  rw[show updH H id (.slice none 0 0) i=H i from if_neg h1]at hb;rw[zab _ _ h1]at hgo;exact h.lent i b hi hgo hb hl
 ·intro i b hi hgo hb;by_cases h1:i=id
  ·subst h1;rw[show updH H i (.slice none 0 0) i=.slice none 0 0 from if_pos rfl]at hb;simp[blockOf]at hb
  ·rw[show updH H id (.slice none 0 0) i=H i from if_neg h1]at hb;rw[zab _ _ h1]at hgo;exact h.loc i b hi hgo hb
theorem zgw{st:Nat→Ent}{id:Nat}{e:Ent}(h:st id=e):updE st id e=st:=by
 funext i;by_cases hi:i=id
 ·subst hi;rw[zai,h]
 ·rw[zab _ _ hi]
theorem zbj{P:Program}{w:World}(t ty e:TypeId)(i:TypeInfo)(ht:P.underlying t=some (.slice e))(hi:P.info? e=some i)(s:Option Addr)(n cap:Nat)(hn:n≤cap)(a:Option Addr)(c:Nat):
  (Builtin.append_ #[t,t] ty #[.slice s n cap,.slice a 0 c]).run P w=.ok (.slice s n cap) w:=by
 cases a<;>cases s<;>simp[Builtin.append_,run_underlying ht,Go.sizeOf,typeInfo,hi,Builtin.lenOf,hn,Builtin.firstCells,loadCells,loadCellsFrom,storeCells]
theorem zgK{P:Program}{c:Ctx}{x:X}{a:Act}{w:World}{H:Nat→Value}{A:Nat→Nat→Prop}(h:SimH c x a w H A){slot:Nat}(hid:c.n0≤slot){t ty:TypeId}{s y v:V}{sv yv:Value}{U:Upds}(hs:RepT w A x.st H s sv)(hy:RepT w A x.st H y yv)(dst:Option Tmp)
  (hsem:zdc P slot t s y x.st=some (v,U)):Leaves P c x a (Builtin.append_ #[t,t] ty #[sv,yv]) w dst v U:=by
 unfold zdc at hsem;split at hsem
 ·rename_i e z bytes ys hrow;obtain⟨i,zv,hu,hi,hz,hzs,his,hby,hz0⟩:=zgM hrow;have hyV:=hy.data rfl;have hbase:0≤w.heap.size:=Nat.zero_le _;split at hsem
  ·rename_i id n;split at hsem
   ·rename_i T z' xs hst;split at hsem
    ·rename_i hc;cases hsem;obtain⟨rfl,rfl,rfl,hall,hbound⟩:=hc;obtain⟨T',zz,xs',h1,h2,h3,h4⟩:=hs;rw[hst]at h1;cases h1;obtain rfl:=h4 rfl;have hent:=h.ent id;rw[hst]at hent;obtain⟨_,vs,hown,hE,hown2⟩:=hent;rcases repV_list_inv hyV with⟨rfl,ad,cp,rfl⟩|⟨hne,z2,b,off,cp,us,rfl,hE2,hat⟩
     ·obtain⟨sa,scap,hsv,hle⟩:∃sa scap,H id=.slice sa xs.length scap∧xs.length≤scap:=by
       rcases hown.2 with⟨h5,h6⟩|⟨g,cap,cur,h5,_,_,h6,_⟩
       ·exact⟨none,0,by rw[h5,h6],by omega⟩
       ·exact⟨_,cap,h5,h6⟩
      refine⟨H id,w,H,A,by rw[hsv];exact zbj t ty T i hu hi sa xs.length scap hle ad cp, ?_⟩;have hst2:x.put dst (.row id (xs.length+([]:List V).length)) [(id,.row T z' (xs++[]))]=x.put dst (.row id xs.length) []:=by
       simp only[X.put,updL,List.append_nil,qa25,Nat.add_zero,zgw hst]
      rw[hst2];exact h.putv dst _ _ ⟨_,_,xs,hst,qa37 _,by rw[List.take_length];rw[List.take_length]at h3;exact h3,fun _=>rfl⟩
     ·obtain rfl:=zjT hE2 hne hall;have hm:0<ys.length:=List.length_pos_iff.2 hne;have hmul:(xs.length+ys.length)*bytes≤(xs.length+ys.length)*(bytes+1):=Nat.mul_le_mul_left _ (Nat.le_succ _);have hmul2:(xs.length+ys.length)*1≤(xs.length+ys.length)*(bytes+1):=Nat.mul_le_mul_left _ (by omega);obtain⟨v',w',hr,ho',htwo⟩:=zbD (P:=P) 0 t ty T i zv z2 bytes hu hi hz his hby hzs hz0 (H id) xs.length vs hown ⟨b,off,none⟩ ys.length cp us hm (zaz hE2)
       (fun j u hj=>by rw[zb8];exact(hat.2 j u hj).1) (zdg hE2) (by simp only[maxLen];omega) (by omega) hbase
      obtain⟨H',A',h'⟩:=h.push id T z2 xs ys (.inl hst) (fun e=>by rw[hst]at e;cases e) vs us hE2 hne (H id) v' w' (.inl ⟨hst,rfl⟩) hE hown ho' htwo dst;exact⟨v',w',H',A',hr,h'⟩
    ·cases hsem
   ·cases hsem
  ·split at hsem
   ·rename_i hc;cases hsem;obtain⟨hg,hall,hbound⟩:=hc;cases hs.data rfl;rcases repV_list_inv hyV with⟨rfl,ad,cp,rfl⟩|⟨hne,z2,b,off,cp,us,rfl,hE2,hat⟩
    ·obtain⟨H',A',h'⟩:=h.nilRow e z slot hz0 hid (isGone_spec hg) dst;exact⟨_,w,H',A',zbj t ty e i hu hi none 0 0 (qa37 _) ad cp,h'⟩
    ·obtain rfl:=zjT hE2 hne hall;have hm:0<ys.length:=List.length_pos_iff.2 hne;have hmul:ys.length*bytes≤ys.length*(bytes+1):=Nat.mul_le_mul_left _ (Nat.le_succ _);have hmul2:ys.length*1≤ys.length*(bytes+1):=Nat.mul_le_mul_left _ (by omega);have hown:w.ownsRow 0 e z2 (.slice none 0 0) ([]:List V).length []:=⟨by simp,.inl ⟨rfl,rfl⟩⟩;obtain⟨v',w',hr,ho',htwo⟩:=zbD (P:=P) 0 t ty e i zv z2 bytes hu hi hz his hby hzs hz0 (.slice none 0 0) 0 [] hown ⟨b,off,none⟩ ys.length cp us hm (zaz hE2)
      (fun j u hj=>by rw[zb8];exact(hat.2 j u hj).1) (zdg hE2) (by simp only[maxLen];omega) (by rw[Nat.zero_add];omega) hbase
     obtain⟨H',A',h'⟩:=h.push slot e z2 [] ys (.inr ⟨isGone_spec hg,rfl,hz0⟩) (fun _=>hid) [] us hE2 hne (.slice none 0 0) v' w' (.inr ⟨isGone_spec hg,rfl⟩) (.nil _) hown ho' htwo dst;simp only[qa25,Nat.zero_add,qa26]at h';exact⟨v',w',H',A',hr,h'⟩
   ·cases hsem
  ·rename_i id n;split at hsem
   ·rename_i T z' xs hst;split at hsem
    ·rename_i hc;cases hsem;obtain⟨rfl,rfl,rfl,hall,hbound⟩:=hc;have hs0:=hs;obtain⟨_,T',zz,xs',_,h1⟩:=hs;rcases h1 with⟨h1,h4⟩|⟨h1,_⟩<;>rw[hst]at h1<;>cases h1;obtain rfl:=h4 rfl;have hent:=h.ent id;rw[hst]at hent;obtain⟨_,vs,hown,hE,hown2⟩:=hent;rcases repV_list_inv hyV with⟨rfl,ad,cp,rfl⟩|⟨hne,z2,b,off,cp,us,rfl,hE2,hat⟩
     ·obtain⟨sa,scap,hsv,hle⟩:∃sa scap,H id=.slice sa xs.length scap∧xs.length≤scap:=by
       rcases hown.2 with⟨h5,h6⟩|⟨g,cap,cur,h5,_,_,h6,_⟩
       ·exact⟨none,0,by rw[h5,h6],by omega⟩
       ·exact⟨_,cap,h5,h6⟩
      refine⟨H id,w,H,A,by rw[hsv];exact zbj t ty T i hu hi sa xs.length scap hle ad cp, ?_⟩;have hst2:x.put dst (.mr id (xs.length+([]:List V).length)) [(id,.mrow T z' (xs++[]))]=x.put dst (.mr id xs.length) []:=by
       simp only[X.put,updL,List.append_nil,qa25,Nat.add_zero,zgw hst]
      rw[hst2];exact h.putv dst _ _ hs0
     ·obtain rfl:=zjT hE2 hne hall;have hm:0<ys.length:=List.length_pos_iff.2 hne;have hmul:(xs.length+ys.length)*bytes≤(xs.length+ys.length)*(bytes+1):=Nat.mul_le_mul_left _ (Nat.le_succ _);have hmul2:(xs.length+ys.length)*1≤(xs.length+ys.length)*(bytes+1):=Nat.mul_le_mul_left _ (by omega);obtain⟨v',w',hr,ho',htwo⟩:=zbD (P:=P) 0 t ty T i zv z2 bytes hu hi hz his hby hzs hz0 (H id) xs.length vs hown ⟨b,off,none⟩ ys.length cp us hm (zaz hE2)
       (fun j u hj=>by rw[zb8];exact(hat.2 j u hj).1) (zdg hE2) (by simp only[maxLen];omega) (by omega) hbase
      obtain⟨H',A',h'⟩:=h.pushM id T z2 xs ys hst vs us hE2 hne v' w' hE ho' htwo dst;exact⟨v',w',H',A',hr,h'⟩
    ·cases hsem
   ·cases hsem
  ·cases hsem
 ·cases hsem
theorem zii{w:World}{A:Nat→Nat→Prop}{y:V}{us:List Value}:∀{z:Nat} {xs:List V} {vs:List Value} (i:Nat),RepE w A z xs vs→i<xs.length→us.length=z→RepC w A y us→RepE w A z (xs.set i y) (vs.take (i*z)++us++vs.drop (i*z+z))
 |_,_,_,i,.nil z,hi,_,_=>by simp at hi
 |_,_,_,0,.cons z x xs us' ws h0 h1 h2,hi,hl,hc=>by
  simp only[List.set_cons_zero,Nat.zero_mul,List.take_zero,qa26,Nat.zero_add];rw[List.drop_append,h0,Nat.sub_self,List.drop_zero,List.drop_of_length_le (Nat.le_of_eq h0),qa26];exact .cons z y xs us ws hl hc h2
 |_,_,_,i+1,.cons z x xs us' ws h0 h1 h2,hi,hl,hc=>by
  have ih:=zii i h2 (by simpa using hi) hl hc;have e1:(us'++ws).take ((i+1)*z)=us'++ws.take (i*z):=by
   rw[List.take_append,h0,Nat.succ_mul,Nat.add_sub_cancel,List.take_of_length_le (by omega)]
  have e2:(us'++ws).drop ((i+1)*z+z)=ws.drop (i*z+z):=by
   rw[List.drop_append,h0,Nat.succ_mul,List.drop_of_length_le (by omega),qa26];congr 1;omega
  rw[List.set_cons_succ,e1,e2];have:=RepE.cons z x _ us' _ h0 h1 ih;simpa[qa19]using this
theorem rp_mem{c:Ctx}{x:X}{a:Act}{w:World}{H:Nat→Value}{A:Nat→Nat→Prop}(h:SimH c x a w H A){id n off:Nat}{v:Value}(hv:RepT w A x.st H (.rp id n off) v){T z:Nat}{xs:List V}(hs:x.st id=.mrow T z xs)(hn:n=xs.length):
  ∃b cap C,H id=.slice (some ⟨b,0,none⟩) xs.length cap∧v=.pointer (some ⟨b,off,none⟩)∧w.heap[b]?=some (.cells C T (0,0))∧RepE w A z xs (C.toList.take (xs.length*z))∧C.size=cap*z∧xs.length≤cap∧cap≤maxLen:=by
 obtain⟨_,T',z',xs',_,h2,h3⟩:=hv;have e:T'=T∧z'=z∧xs'=xs:=by
  rcases h2 with h2|h2<;>rw[hs]at h2<;>cases h2;exact⟨rfl,rfl,rfl⟩
 obtain⟨rfl,rfl,rfl⟩:=e;obtain⟨b,m,c',h4,h5⟩:=h3 hn;have he:=h.ent id;rw[hs,h4]at he;obtain⟨_,vs,hown,hE,_⟩:=he;rcases hown.2 with⟨h6,_⟩|⟨g,cap,cur,h6,_,h7,h8,h9,h10,h11⟩
 ·cases h6
 ·simp only[Value.slice.injEq,qa17,Addr.mk.injEq,and_true]at h6;obtain⟨rfl,rfl,rfl⟩:=h6;exact⟨b,c',cur,h4,h5,h7,by rw[h11];exact hE,h10,h8,h9⟩
def loadM(ag:Bool)(st:Nat→Ent)(id m off n:Nat):Option V:=match st id with
 | .mrow _ z xs=>if m=xs.length then (match xs[off / z]? with
  |some e=>(match ag with|true=>if off % z+n≤e.size then some (.agg ((e.cells.drop (off % z)).take n))else none|false=>e.cells[off % z]?)
  |none=>none)else none
 |_=>none
theorem loadM_ok{P:Program}{c:Ctx}{x:X}{a:Act}{w:World}{H:Nat→Value}{A:Nat→Nat→Prop}(h:SimH c x a w H A){t n id m off:Nat}{ag:Bool}{v:V}{yv:Value}(hT:za7 P t=some (ag,n))(hy:RepT w A x.st H (.rp id m off) yv)(hs:loadM ag x.st id m off n=some v):
  ∃xv,(Instr.loadAt t yv).run P w=.ok xv w∧RepT w A x.st H v xv:=by
 unfold loadM at hs;split at hs
 ·rename_i T z xs hst;split at hs
  ·rename_i hm;split at hs
   ·rename_i e he;obtain⟨b,cap,C,h1,rfl,h3,h4,h5,h6,h7⟩:=rp_mem h hy hst hm;obtain⟨us,g1,g2,g3⟩:=zf0 h4 _ _ he;have hl:=zcI g1;have hln:=zar hl;have hoff:off / z*z+off % z=off:=by rw[Nat.mul_comm];exact Nat.div_add_mod _ _
    have hat:∀j u,us[off % z+j]?=some u→w.cell? ⟨b,off+j,none⟩=some u:=fun j u hu=>by
     refine zkR h3 ?_;have:=g3 _ _ hu;rw[←Nat.add_assoc,hoff,List.getElem?_take]at this;split at this
     ·exact this
     ·cases this
    cases ag
    ·obtain⟨u,k1,k2⟩:=zdf hl _ v hs;exact⟨u,zbB hT u (hat 0 u k1),k2.toT⟩
    ·dsimp only at hs;split at hs
     ·rename_i hsz;cases hs;refine⟨_,zaN hT ((us.drop (off % z)).take n) ?_ (fun j u hu=>?_),Or.inr (.agg _ _ (zcr n (zcs _ hl)))⟩
      ·have:e.size=us.length:=hln;simp only[qa23,qa24];omega
      ·refine hat j u ?_;rw[List.getElem?_take]at hu;split at hu
       ·simpa using hu
       ·cases hu
     ·cases hs
   ·cases hs
  ·cases hs
 ·cases hs
def storeM(st:Nat→Ent)(id m off k:Nat)(x:V):Option Upds:=match st id with
 |.mrow T z xs=>if(m=xs.length∧k=z∧off=off / z*z∧off / z<xs.length)∧x.size=k∧x.data=true∧x.storable=true then some [(id,.mrow T z (xs.set (off / z) x))]else none
 |_=>none
theorem zjE{P:Program}{c:Ctx}{x:X}{a:Act}{w:World}{H:Nat→Value}{A:Nat→Nat→Prop}(h:SimH c x a w H A){t n id m off:Nat}{ag:Bool}{y:V}{av yv:Value}{U:Upds}(hT:za7 P t=some (ag,n))(ha:RepT w A x.st H (.rp id m off) av)(hy:RepT w A x.st H y yv)(dst:Option Tmp)
  (hs:storeM x.st id m off n y=some U):∃w' H' A',(Instr.storeAt t av yv).run P w=.ok () w'∧SimH c (x.put dst .undef U) (a.put dst Go.undef) w' H' A':=by
 unfold storeM at hs;split at hs
 ·rename_i T z xs hst;split at hs
  ·rename_i hc;cases hs;obtain⟨⟨hm,rfl,hoff,hi⟩,h5,h6,h7⟩:=hc;obtain⟨b,cap,C,h1,rfl,h3,h4,hC,hcap,hmax⟩:=rp_mem h ha hst hm;have hC2:=zjW (hy.data h6) h7;have hsz:yv.cells.toList.length=n:=by rw[←zcv hC2,h5]
   have hsz':yv.cells.size=n:=by simpa using hsz
   generalize off / n=i at hoff hi ⊢;subst hoff;have hlt:i*n+n≤xs.length*n:=by rw[←Nat.succ_mul];exact Nat.mul_le_mul_right _ hi
   have hle:xs.length*n≤cap*n:=Nat.mul_le_mul_right _ hcap;have hst':=run_storeCells_at P b (i*n) T yv.cells.toList 0 C w h3 (by simp[hsz'];omega) (zgV hC2);obtain⟨_,hso⟩:=zbh hT w;have hCl:C.toList.length=cap*n:=by simpa using hC
   refine⟨w.setRow b (C.toList.take (i*n+0)++yv.cells.toList++C.toList.drop (i*n+0+yv.cells.toList.length)).toArray,H,A, ?_, ?_⟩
   ·simp only[Instr.storeAt,Instr.sureAddr,Sem.run_bind,Sem.run_pure,Result.andThen_ok,storeVar,hso,hsz',ne_eq,not_true_eq_false,if_false];exact hst'
   ·refine h.setM id T n b cap xs (xs.set i y) C _ hst h1 h3 (by simp) ?_ ?_ hcap hmax dst .undef Go.undef (Or.inr .undef)
    ·have:=zii i h4 hi hsz hC2;have e:(C.toList.take (i*n+0)++yv.cells.toList++C.toList.drop (i*n+0+yv.cells.toList.length)).toArray.toList.take (xs.length*n)=(C.toList.take (xs.length*n)).take (i*n)++yv.cells.toList++(C.toList.take (xs.length*n)).drop (i*n+n):=by
      simp only[Nat.add_zero,hsz];rw[List.take_append,List.take_of_length_le (by simp[hsz'];omega),List.take_take,Nat.min_eq_left (by omega)];congr 1;rw[List.drop_take];congr 1;simp only[qa13,qa23,hCl,hsz];omega
     rw[e];exact this
    ·simp only[List.size_toArray,qa13,qa23,qa24,hCl,hsz];omega
  ·cases hs
 ·cases hs
theorem lenM_ok{P:Program}{w:World}{A:Nat→Nat→Prop}{st:Nat→Ent}{H:Nat→Value}{t ty id n:Nat}{xv:Value}(ht:(eszT P t).isSome=true)(hx:RepT w A st H (.mr id n) xv):∃zv,(Builtin.len_ #[t] ty #[xv]).run P w=.ok zv w∧RepT w A st H (.int .i64 (n:Int)) zv:=by
 obtain⟨z,h⟩:=Option.isSome_iff_exists.1 ht;obtain⟨e,_,hu,_⟩:=zbL h;obtain⟨⟨a,c,rfl,_⟩,_⟩:=hx;exact⟨_,by simp[Builtin.len_,run_underlying hu,goInt],Or.inr (.int _ _)⟩
theorem iadM_ok{P:Program}{w:World}{A:Nat→Nat→Prop}{st:Nat→Ent}{H:Nat→Value}{t z id n:Nat}{k:IntKind}{i:Int}{xv iv:Value}(hz:eszT P t=some z)(hx:RepT w A st H (.mr id n) xv)(hi:RepT w A st H (.int k i) iv)(h0:0≤i)(h1:i.toNat<n):
  ∃zv,(Instr.indexAt t xv iv).run P w=.ok zv w∧RepT w A st H (.rp id n (i.toNat*z)) zv:=by
 obtain⟨el,inf,hu,hinf,rfl⟩:=zbL hz;obtain⟨⟨a,c,rfl,h2⟩,T,z',xs,h3,h4⟩:=hx;obtain⟨b,rfl⟩:=h2 (by omega);cases hi.data rfl;refine⟨.pointer (some ⟨b,0+i.toNat*inf.size,none⟩), ?_,⟨b,by rw[Nat.zero_add]⟩,T,z',xs,h3, ?_,fun hn=>?_⟩
 ·have hr:0≤i∧i < (n:Int):=⟨h0,by omega⟩;simp[Instr.indexAt,asIntOf,run_underlying hu,Go.sizeOf,typeInfo,hinf,hr,zb8]
 ·rcases h4 with⟨h4,_⟩|⟨h4,_⟩
  ·exact .inl h4
  ·exact .inr h4
 ·refine ⟨b,n,c, ?_,by rw [Nat.zero_add]⟩;rcases h4 with⟨_,h5⟩|⟨_,h5⟩
  ·exact(h5 hn).symm
  ·exact(h5 hn).1.symm
theorem fadM_ok{P:Program}{w:World}{A:Nat→Nat→Prop}{st:Nat→Ent}{H:Nat→Value}{s f o n id m off:Nat}{ag:Bool}{yv:Value}(hf:zdQ P s f=some (o,n+1,ag))(hy:RepT w A st H (.rp id m off) yv):
  ∃xv,(Instr.fieldAt s yv f).run P w=.ok xv w∧RepT w A st H (.rp id m (off+o)) xv:=by
 obtain⟨⟨b,rfl⟩,T,z,xs,h1,h2,h3⟩:=hy;refine⟨_,zbC hf,⟨b,rfl⟩,T,z,xs,h1,h2,fun hn=>?_⟩;obtain⟨b',m',c',h4,h5⟩:=h3 hn;simp only[Value.pointer.injEq,qa17,Addr.mk.injEq,and_true]at h5;subst h5;exact⟨b,m',c',h4,rfl⟩
def zero1(P:Program)(t:TypeId):Option V:=
 match zdZ P 12 t,P.info? t with
 |some cs,some i=>match i.zero with
  |some (.agg a)=>if zeF cs a.toList=true then some (.agg cs)else none
  |some z=>(match cs with|[c]=>if zin c z=true then some c else none|_=>none)
  |none=>none
 |_,_=>none
theorem ziQ{P:Program}{t:TypeId}{v:V}(h:zero1 P t=some v):∃i z,P.info? t=some i∧i.zero=some z∧∀w A,RepV w A v z:=by
 unfold zero1 at h;split at h<;>first|(cases h;done)|skip
 rename_i cs i _ hi;split at h<;>first|(cases h;done)|skip
 ·rename_i a ha;split at h<;>first|(cases h;done)|skip
  rename_i hk;cases h;refine⟨i,_,hi,ha,fun w A=>?_⟩;have:=RepV.agg cs a.toList (zbZ (w:=w) (A:=A) hk).1;simpa using this
 ·rename_i z _ ha;split at h<;>first|(cases h;done)|skip
  split at h<;>first|(cases h;done)|skip
  rename_i hk;cases h;exact⟨i,_,hi,ha,fun w A=>(zfj hk).1⟩
def concT(P:Program)(t:TypeId):Bool:=match P.underlying t with|some (.interface _)=>false|some _=>true|none=>false
def tasV(z:Option V)(T:TypeId)(v:V):Option V:=match v,z with
 |.iface T' u,some z=>some (if T'=T then .tup [u,.bool true]else .tup [z,.bool false])
 |.niface,some z=>some (.tup [z,.bool false])
 |.iface T' u,none=>if T'=T then some u else none
 |_,_=>none
theorem zhs {P:Program} {T S:TypeId} {ok:Bool} {xv:Value} {w:World} (hT:concT P T=true):(Instr.typeAssert xv S T ok).run P w=(match xv with
  |.nilIface=>(if ok=true then(do let z ←zeroValue T;pure (.tuple #[z,.bool false]):Sem Value)else runtimePanic (.typeAssertion (some S) none T "")).run P w
  |.iface t v=>(if t=T then(if ok=true then(pure (.tuple #[v,.bool true]):Sem Value)else pure v)else(if ok=true then(do let z ←zeroValue T;pure (.tuple #[z,.bool false]):Sem Value)else runtimePanic (.typeAssertion (some S) (some t) T ""))).run P w
  |_=>(Instr.typeAssert xv S T ok).run P w):=by
 unfold concT at hT;split at hT<;>first|(cases hT;done)|skip
 rename_i u hn hu;cases xv<;>try rfl
 all_goals
  unfold Instr.typeAssert;simp only[Sem.run_bind,run_underlying hu];cases ok<;>cases u<;>first|rfl|(exfalso;exact hn _ rfl)
theorem zde{P:Program}{t:TypeId}{i:TypeInfo}{z:Value}{w:World}(hi:P.info? t=some i)(hz:i.zero=some z):(zeroValue t).run P w=.ok z w:=by
 simp[zeroValue,typeInfo,hi,hz,Sem.run]
theorem zgG{P:Program}{w:World}{A:Nat→Nat→Prop}{st:Nat→Ent}{H:Nat→Value}{S T:TypeId}{ok:Bool}{z:Option V}{x v:V}{xv:Value}(hT:concT P T=true)(hz:match ok with|true=>∃u,zero1 P T=some u∧z=some u|false=>z=none)
  (hx:RepT w A st H x xv) (hs:tasV z T x=some v):∃zv,(Instr.typeAssert xv S T ok).run P w=.ok zv w∧RepT w A st H v zv:=by
 unfold tasV at hs;cases ok with
 |true=>
  obtain⟨u,hu,rfl⟩:=hz;obtain⟨i,zz,hi,hzz,hrep⟩:=ziQ hu;split at hs
  ·rename_i T' y z' e;cases e;cases hs;cases hx.data rfl with
   |iface _ _ xv h=>
    rw[zhs hT];dsimp only;split
    ·exact⟨_,rfl,Or.inr (.tup _ [_,_] (.cons _ _ _ _ h (.cons _ _ _ _ (.bool _) .nil)))⟩
    ·simp only[qa39,Sem.run_bind,zde hi hzz];exact⟨_,rfl,Or.inr (.tup _ [_,_] (.cons _ _ _ _ (hrep w A) (.cons _ _ _ _ (.bool _) .nil)))⟩
  ·rename_i z' e;cases e;cases hs;cases hx.data rfl;rw[zhs hT];simp only[qa39,Sem.run_bind,zde hi hzz];exact⟨_,rfl,Or.inr (.tup _ [_,_] (.cons _ _ _ _ (hrep w A) (.cons _ _ _ _ (.bool _) .nil)))⟩
  ·rename_i e;cases e
  ·cases hs
 |false=>
  subst hz;split at hs
  ·rename_i e;cases e
  ·rename_i e;cases e
  ·rename_i T' y _;split at hs<;>first|(cases hs;done)|skip
   rename_i hTT;cases hs;cases hx.data rfl with
   |iface _ _ xv h=>
    rw[zhs hT];dsimp only;rw[if_pos hTT];exact⟨_,rfl,h.toT⟩
  ·cases hs
end
section
open Go Go.RowKit
inductive O where
 |t (n:Nat)
 |c (v:V)
def O.ev(e:Nat→V):O→V|.t n=>e n|.c v=>v
def O.tmps:O→List Nat|.t n=>[n]|.c _=>[]
inductive M where
 |move (x:O)
 |pick (c a b:O)
 |alloc (T:TypeId) (cs:List V)
 |box (T:TypeId) (x:O)
 |build (cs:List V) (ps:List (Nat×Nat×O))
 |bslice (e z:Nat) (xs:List O)
 |load (ag:Bool) (n:Nat) (a:O)
 |store (n:Nat) (a x:O)
 |chk (x:O)
 |arith (op:BinOp) (b i s:Bool) (x y:O)
 |un (op:UnOp) (x:O)
 |conv(k:Option IntKind) (x:O)
 |iface (T:TypeId) (x:O)
 |fn (f:FuncId) (first cap:List O)
 |sls (x:O) (lo hi:Option O)
 |sll (z:Nat) (x:O) (lo hi:Option O)
 |faddr (o:Nat) (x:O)
 |field (o n:Nat) (ag:Bool) (x:O)
 |iaddr (z:Nat) (x i:O)
 |idx (x i:O)
 |ext (x:O) (i:Nat)
 |tas (z:Option V) (T:TypeId) (x:O)
 |lens (x:O)
 |lenl (x:O)
 |app (e z b:Nat) (s x:O)
 |mm (b:Builtin) (x y:O)
 |call (b:Bool) (f:O) (args:List O)
 |pan (x:O)
def fillM(cells:List V):List (Nat×Nat×V)→Option (List V)
 |[]=>some cells
 |(off,size,x)::rest=>if x.size=size∧off+size≤cells.length∧x.data=true∧(x.isAgg=true∨x.one=true)then fillM (cells.take off++x.cells++cells.drop (off+size)) rest else none
def stN(n:Nat):Nat:=match n with|0=>1|n=>n
def V.simple:V→Bool|.any|.row _ _|.fn _ _ _|.ta _|.mr _ _|.rp _ _ _=>false|_=>true
def fillK(cells:List V):List (Nat×Nat×V)→Option (List V)
 |[]=>some cells
 |(off,size,x)::rest=>if x.size=size∧off+size≤cells.length∧(x.data=true∨x.isRow=true)∧(x.isAgg=true∨x.one=true)then fillK (cells.take off++x.cells++cells.drop (off+size)) rest else none
def lenM(v r:V):Option (V×Upds):=match v with
 |.mr _ n=>some (.int .i64 (n:Int),[])
 |_=>match r with|.list xs=>some (.int .i64 (xs.length:Int),[])|_=>none
def iadD(z:Nat)(r i:V):Option (V×Upds):=match r,i with
 |.list xs,.int _ n=>match xs[n.toNat]? with
  |some y=>if 0≤n∧y.size=z then some (.ip y 0,[])else none
  |none=>none
 |_,_=>none
def iadM(z:Nat)(st:Nat→Ent)(v i r:V):Option (V×Upds):=match v with
 | .mr id n=>(match st id with
  |.mrow _ z' _=>(match i with|.int _ k=>if z'=z∧0≤k∧k.toNat<n then some (.rp id n (k.toNat*z),[])else none|_=>none)
  |_=>iadD z r i)
 |_=>iadD z r i
theorem zeb{z:Nat}{st:Nat→Ent}{v i r:V}(h:∀id n,v≠.mr id n):iadM z st v i r=iadD z r i:=by
 cases v<;>first|rfl|exact absurd rfl (h _ _)
theorem zgi{v r:V}(h:∀id n,v≠.mr id n):lenM v r=match r with|.list xs=>some (.int .i64 (xs.length:Int),[])|_=>none:=by
 cases v<;>first|rfl|exact absurd rfl (h _ _)
def zkd:Value→V
 |.agg a=>if(a.toList.map zgc).all V.data=true then .agg (a.toList.map zgc)else .any
 |v=>zgc v
theorem repV_ofValA(w:World)(A:Nat→Nat→Prop)(st:Nat→Ent)(H:Nat→Value)(v:Value):RepT w A st H (zkd v) v:=by
 have hl:∀l:List Value,(l.map zgc).all V.data=true→RepL w A (l.map zgc) l:=by
  intro l;induction l with
  |nil=>intro _;exact .nil
  |cons u l ih=>
   intro h;simp only[qa32,qa34,qa21]at h;exact .cons _ _ _ _ ((repV_ofVal w A st H u).data h.1) (ih h.2)
 unfold zkd;split
 ·rename_i a;split
  ·rename_i h;have:=RepV.agg _ _ (hl _ h);exact Or.inr (by simpa using this)
  ·trivial
 ·exact repV_ofVal w A st H v
def one1(o:Option V):Option (V×Upds):=match o with|some v=>some (v,[])|none=>none
def semM(slot:Nat)(m:M)(e:Nat→V)(st:Nat→Ent):Option (V×Upds):=
 match m with
 |.move x=>some (x.ev e,[])
 |.pick c a b=>match c.ev e with
  |.bool t=>some (if t=true then a.ev e else b.ev e,[])
  |_=>none
 |.alloc T cs=>if(st slot).isGone=true then some (.ptr slot 0,[(slot,.blk T cs)])else none
 |.box T x=>zet slot T (x.ev e) st
 | .build cs ps=>if slot < 1000 then (match fillM cs (ps.map fun p=>(p.1,p.2.1,res st (p.2.2.ev e))) with
  |some r=>some (.agg r,[])
  |none=>none)else match fillK cs (ps.map fun p=>(p.1,p.2.1,p.2.2.ev e))with
  |some r=>some (.ta r,[])
  |none=>none
 |.bslice el z xs=>if(st slot).isGone=true∧(∀p∈xs.map (fun(x:O)=>norm1 (res st (x.ev e))),p.data=true∧p.storable=true∧p.size=z)∧xs.length*z≤16777216 then some (.row slot xs.length,[(slot,.row el z (xs.map fun(x:O)=>norm1 (res st (x.ev e))))])else none
 |.load true n a=>match a.ev e with
  |.ptr id off=>match st id with
   |.blk _ cs=>if((cs.drop off).take n).length=n∧(((cs.drop off).take n).map (res st)).all V.data=true then some (.agg (((cs.drop off).take n).map (res st)),[])else none
   |_=>none
  |.ip x off=>if off=0∧x.isAgg=true∧x.size=n then some (x,[])else if off+n≤x.size then some (.agg ((x.cells.drop off).take n),[])else none
  |.rp id m off=>if 1000≤slot then one1 (loadM true st id m off n)else none
  |_=>none
 |.load false n a=>match a.ev e with
  |.ptr id off=>match st id with
   |.blk _ cs=>one1 cs[off]?
   |_=>none
  |.ip x off=>one1 x.cells[off]?
  |.rp id m off=>if 1000≤slot then one1 (loadM false st id m off n)else none
  |_=>none
 |.store n a x=>match a.ev e with
  |.ptr id off=>match st id with
   |.blk T cs=>if(x.ev e).size=stN n∧off+stN n≤cs.length∧(x.ev e).storable=true then some (.undef,[(id,.blk T (cs.take off++(x.ev e).cells++cs.drop (off+stN n)))])else none
   |_=>none
  |.rp id m off=>match storeM st id m off (stN n) (norm1 (res st (x.ev e)))with|some U=>some (.undef,U)|none=>none
  |_=>none
 |.chk x=>match x.ev e with
  |.ptr i o=>some (.ptr i o,[])
  |.ip y o=>some (.ip y o,[])
  |.fn f a b=>some (.fn f a b,[])
  |.rp i n o=>some (.rp i n o,[])
  |_=>none
 |.arith op b i s x y=>match x.ev e,y.ev e with
  |.int k a,.int k' c=>if k=k' then one1 (zbd op k a c)else none
  |.str a,.str c=>one1 (strV op a c)
  |.bool a,.bool c=>if b=true∧i=false then(match op with|.eql=>some (.bool (a==c),[])|.neq=>some (.bool (!(a==c)),[])|_=>none)else none
  |.nils,.nils=>if s=true∧i=false then(match op with|.eql=>some (.bool true,[])|.neq=>some (.bool false,[])|_=>none)else none
  |.iface _ _,.niface=>if i=true∧b=false then(match op with|.eql=>some (.bool false,[])|.neq=>some (.bool true,[])|_=>none)else none
  |.niface,.niface=>if(i=true∧b=false)∧s=true then(match op with|.eql=>some (.bool true,[])|.neq=>some (.bool false,[])|_=>none)else none
  |.agg xs,.agg ys=>if b=true∧i=true then(match op,eqVal xs ys with|.eql,some r=>some (.bool r,[])|.neq,some r=>some (.bool (!r),[])|_,_=>none)else none
  |_,_=>none
 |.un op x=>one1 (zhw op (x.ev e))
 |.conv (some k) x=>match x.ev e with|.int _ n=>some (.int k (k.wrap n),[])|_=>none
 |.conv none x=>match x.ev e with|.str s=>some (.str s,[])|_=>none
 |.iface T x=>if(norm1 (res st (x.ev e))).data=true then some (.iface T (norm1 (res st (x.ev e))),[])else none
 |.fn f first cap=>if(∀v∈first.map (O.ev e),v.simple=true)∧(∀v∈cap.map (O.ev e),v.simple=true)then some (.fn f (first.map (O.ev e)) (cap.map (O.ev e)),[])else none
 |.sls x lo hi=>match x.ev e with|.str s=>one1 (zcm s (lo.map (O.ev e)) (hi.map (O.ev e)))|_=>none
 |.sll z x lo hi=>match norm0 (res st (x.ev e))with|.list xs=>one1 (zcn z xs (lo.map (O.ev e)) (hi.map (O.ev e)))|_=>none
 |.faddr o x=>match x.ev e with
  |.ptr id off=>some (.ptr id (off+o),[])
  |.ip y off=>some (.ip y (off+o),[])
  |.rp id n off=>some (.rp id n (off+o),[])
  |_=>none
 |.field o n true x=>match x.ev e with|.agg cs=>if o+n≤cs.length then some (.agg ((cs.drop o).take n),[])else none|_=>none
 |.field o _ false x=>match x.ev e with|.agg cs=>one1 cs[o]?|_=>none
 |.iaddr z x i=>iadM z st (x.ev e) (i.ev e) (norm0 (res st (x.ev e)))
 |.idx x i=>match x.ev e,i.ev e with
  |.str s,.int _ n=>match s[n.toNat]? with
   |some c=>if 0≤n then some (.int .u8 (c.toNat:Int),[])else none
   |none=>none
  |_,_=>none
 |.ext x i=>match x.ev e with|.tup vs=>one1 vs[i]?|_=>none
 |.tas z T x=>one1 (tasV z T (x.ev e))
 |.lens x=>match x.ev e with|.str s=>some (.int .i64 (s.length:Int),[])|_=>none
 |.lenl x=>lenM (x.ev e) (norm0 (res st (x.ev e)))
 |.app el z b s x=>match norm0 (res st (x.ev e)),s.ev e with
  |.list ys,.row id n=>match st id with
   |.row T z' xs=>if T=el∧z'=z∧n=xs.length∧(∀y∈ys,y.size=z)∧(xs.length+ys.length)*(b+1)≤140737488355328 then some (.row id (xs.length+ys.length),[(id,.row T z' (xs++ys))])else none
   |_=>none
  |.list ys,.nils=>if(st slot).isGone=true∧(∀y∈ys,y.size=z)∧ys.length*(b+1)≤140737488355328 then some (.row slot ys.length,[(slot,.row el z ys)])else none
  |.list ys,.mr id n=>match st id with
   |.mrow T z' xs=>if T=el∧z'=z∧n=xs.length∧(∀y∈ys,y.size=z)∧(xs.length+ys.length)*(b+1)≤140737488355328 then some (.mr id (xs.length+ys.length),[(id,.mrow T z' (xs++ys))])else none
   |_=>none
  |_,_=>none
 |.mm b x y=>one1 (zgH b (x.ev e) (y.ev e))
 |.call _ _ _=>none
 |.pan _=>none
def compO(N:Nat)(G:Nat→V):Operand→Option O
 |.tmp t=>if t<N then some (.t t)else none
 |.const v=>some (.c (zgc v))
 |.global g=>some (.c (G g))
 |.func f=>some (.c (.fn f [] []))
def zdo(N:Nat)(G:Nat→V):List Operand→Option (List O)
 |[]=>some []
 |x::r=>match compO N G x,zdo N G r with|some y,some s=>some (y::s)|_,_=>none
def zcU(N:Nat)(G:Nat→V):Operand→Option O
 |.const v=>some (.c (zkd v))
 |o=>compO N G o
def zb2(N:Nat)(G:Nat→V):List Operand→Option (List O)
 |[]=>some []
 |x::r=>match zcU N G x,zb2 N G r with|some y,some s=>some (y::s)|_,_=>none
def zdM(N:Nat)(G:Nat→V):Option Operand→Option (Option O)
 |none=>some none
 |some x=>match compO N G x with|some y=>some (some y)|none=>none
def zcb(N:Nat)(G:Nat→V)(pl:List (Nat×Nat)):List (Nat×Operand)→Option (List (Nat×Nat×O))
 |[]=>some []
 |(i,x)::r=>match pl[i]?,compO N G x,zcb N G pl r with|some (o,s),some y,some q=>some ((o,s,y)::q)|_,_,_=>none
def zaA(N:Nat)(G:Nat→V)(x:Operand)(f:O→Option M):Option M:=match compO N G x with|some y=>f y|none=>none
def plainT(P:Program)(t:TypeId):Bool:=match P.underlying t with|some .bool=>true|some (.int _)=>true|some .string=>true|some (.slice _)=>true|some (.struct _)=>true|_=>false
def ziv(P:Program)(c:Call):Bool:=match c.callee with|.value (.func _)=>c.argTypes.toList.all (plainT P)|_=>false
def compM(P:Program)(N:Nat)(G:Nat→V)(op:Op):Option M:=
 match op with
 |.move x=>zaA N G x fun x=>some (.move x)
 |.assign x=>zaA N G x fun x=>some (.move x)
 |.pick c a b=>zaA N G c fun c=>zaA N G a fun a=>zaA N G b fun b=>some (.pick c a b)
 |.alloc T=>match zfz P T with|some cs=>some (.alloc T cs)|none=>none
 |.box T x=>zaA N G x fun x=>some (.box T x)
 |.build T ps=>match zfz P T,zcZ P T with
  |some cs,some pl=>match zcb N G pl ps.toList with|some q=>some (.build cs q)|none=>none
  |_,_=>none
 |.buildSlice T len ps=>match rowT P T,zb2 N G (ps.toList.map (·.2))with
  |some (el,z,_),some xs=>if ps.toList.map (·.1)=List.range len then some (.bslice el z xs)else none
  |_,_=>none
 |.load T a=>match za7 P T with|some (ag,n)=>zaA N G a fun a=>some (.load ag n a)|none=>none
 |.store T a x=>match za7 P T with|some (ag,n+1)=>zaA N G a fun a=>zaA N G x fun x=>some (.store (if ag=true∧n=0 then 0 else n+1) a x)|_=>none
 |.nilCheck x=>zaA N G x fun x=>some (.chk x)
 |.binOp op T x y _=>zaA N G x fun x=>zaA N G y fun y=>some (.arith op (zhV P T || valT P T) (zcA P T || valT P T) ((eszT P T).isSome || zjb P T) x y)
 |.unOp op _ x=>zaA N G x fun x=>some (.un op x)
 |.convert s d x=>match P.underlying s,P.underlying d with
  |some _,some (.int k)=>zaA N G x fun x=>some (.conv (some k) x)
  |some _,some .string=>zaA N G x fun x=>some (.conv none x)
  |_,_=>none
 |.makeInterface T x=>if P.concrete T=true then zaA N G x fun x=>some (.iface T x)else none
 |.makeFunc (.func f) first cap=>match zdo N G first.toList,zdo N G cap.toList with
  |some a,some b=>some (.fn f a b)
  |_,_=>none
 |.slice T x lo hi none=>match zdM N G lo,zdM N G hi with
  |some lo,some hi=>if strT P T=true then zaA N G x fun x=>some (.sls x lo hi)else match eszT P T with|some z=>zaA N G x fun x=>some (.sll z x lo hi)|none=>none
  |_,_=>none
 |.fieldAddr s x f=>match zdQ P s f with|some (o,_+1,_)=>zaA N G x fun x=>some (.faddr o x)|_=>none
 |.field s x f=>match zdQ P s f with|some (o,n,ag)=>zaA N G x fun x=>some (.field o n ag x)|_=>none
 |.indexAddr T x i=>match eszT P T with|some z=>zaA N G x fun x=>zaA N G i fun i=>some (.iaddr z x i)|none=>none
 |.index T x i=>if strT P T=true then zaA N G x fun x=>zaA N G i fun i=>some (.idx x i)else none
 |.extract x i=>zaA N G x fun x=>some (.ext x i)
 |.typeAssert x _ T ok=>if concT P T=true then(match ok with|true=>(match zero1 P T with|some z=>zaA N G x fun x=>some (.tas (some z) T x)|none=>none)|false=>zaA N G x fun x=>some (.tas none T x))else none
 |.panic x=>zaA N G x fun x=>some (.pan x)
 |.call c=>match c.callee with
  |.value f=>match zdo N G c.args.toList with|some xs=>zaA N G f fun f=>some (.call (ziv P c) f xs)|none=>none
  |.builtin b=>match b,c.args.toList,c.argTypes.toList with
   |.len,[x],[T]=>if strT P T=true then zaA N G x fun x=>some (.lens x)else if(eszT P T).isSome=true then zaA N G x fun x=>some (.lenl x)else none
   |.append,[s,x],[T,T']=>if T=T' then match rowT P T with|some (el,z,b)=>zaA N G s fun s=>zaA N G x fun x=>some (.app el z b s x)|none=>none else none
   |.min,[x,y],_=>zaA N G x fun x=>zaA N G y fun y=>some (.mm .min x y)
   |.max,[x,y],_=>zaA N G x fun x=>zaA N G y fun y=>some (.mm .max x y)
   |_,_,_=>none
  |_=>none
 |_=>none
theorem zaa{N:Nat}{G:Nat→V}{x:Operand}{f:O→Option M}{m:M}(h:zaA N G x f=some m):∃y,compO N G x=some y∧f y=some m:=by
 unfold zaA at h;split at h
 ·exact⟨_,by assumption,h⟩
 ·cases h
theorem zac{c:Ctx}{x:X}{a:Act}{w:World}{H:Nat→Value}{A:Nat→Nat→Prop}(h:SimH c x a w H A){o:Operand}{y:O}(ho:compO c.N c.G o=some y):RepT w A x.st H (y.ev x.env) (a.eval o):=by
 cases o with
 |tmp t=>
  simp only[compO]at ho;split at ho
  ·rename_i ht;cases ho;exact h.env t ht
  ·cases ho
 |const v=>cases ho;exact repV_ofVal w A x.st H v
 |global g=>
  cases ho;show RepT w A x.st H (c.G g) _;rcases h.glo g with h1|h1
  ·rw[h1];trivial
  ·exact h1.toT
 |func f=>cases ho;exact⟨#[],#[],rfl,rfl,rfl⟩
theorem zbM{c:Ctx}{x:X}{a:Act}{w:World}{H:Nat→Value}{A:Nat→Nat→Prop}(h:SimH c x a w H A):∀{os:List Operand} {ys:List O},zdo c.N c.G os=some ys→zam w A x.st H (ys.map (O.ev x.env)) (os.map a.eval)
 |[],_,ho=>by cases ho;rfl
 |o::os,_,ho=>by
  simp only[zdo]at ho;split at ho
  ·rename_i y s h1 h2;cases ho;exact⟨_,_,rfl,zac h h1,zbM h h2⟩
  ·cases ho
theorem zfw{c:Ctx}{x:X}{a:Act}{w:World}{H:Nat→Value}{A:Nat→Nat→Prop}(h:SimH c x a w H A){o:Operand}{y:O}(ho:zcU c.N c.G o=some y):RepT w A x.st H (y.ev x.env) (a.eval o):=by
 cases o with
 |const v=>cases ho;exact repV_ofValA w A x.st H v
 |_=>exact zac h ho
theorem zeN{c:Ctx}{x:X}{a:Act}{w:World}{H:Nat→Value}{A:Nat→Nat→Prop}(h:SimH c x a w H A):∀{os:List Operand} {ys:List O},zb2 c.N c.G os=some ys→zam w A x.st H (ys.map (O.ev x.env)) (os.map a.eval)
 |[],_,ho=>by cases ho;rfl
 |o::os,_,ho=>by
  simp only[zb2]at ho;split at ho
  ·rename_i y s h1 h2;cases ho;exact⟨_,_,rfl,zfw h h1,zeN h h2⟩
  ·cases ho
theorem zb3{c:Ctx}{x:X}{a:Act}{w:World}{H:Nat→Value}{A:Nat→Nat→Prop}(h:SimH c x a w H A){o:Option Operand}{y:Option O}(ho:zdM c.N c.G o=some y):RepO w A x.st H (y.map (O.ev x.env)) (o.map a.eval):=by
 cases o with
 |none=>cases ho;trivial
 |some o=>
  simp only[zdM]at ho;split at ho
  ·rename_i h1;cases ho;exact zac h h1
  ·cases ho
theorem repT_norm0{w:World}{A:Nat→Nat→Prop}{st:Nat→Ent}{H:Nat→Value}{x:V}{v:Value}(h:RepT w A st H x v):RepT w A st H (norm0 x) v:=by
 cases x<;>first|exact h|(exact(repV_norm0 (h.data rfl)).toT)
theorem za0{w:World}{A:Nat→Nat→Prop}{st:Nat→Ent}{H:Nat→Value}{x:V}{v:Value}(h:RepT w A st H x v):RepT w A st H (norm1 x) v:=by
 cases x<;>first|exact repT_norm0 h|(exact(repV_norm1 (h.data rfl)).toT)
end
section
open Go Go.RowKit
def Op1(P:Program)(c:Ctx)(x:X)(a:Act)(w:World)(o:Oper)(v:V)(U:Upds):Prop:=
 ∃r xv w' H' A',(execOp a.eval o).run P w=.ok r w'∧(r=.value xv∨(r=.skip∧xv=Go.undef))∧SimH c (x.put o.dst v U) (a.put o.dst xv) w' H' A'
section
variable{P:Program}{c:Ctx}{x:X}{a:Act}{w:World}{H:Nat→Value}{A:Nat→Nat→Prop}
theorem zaq(h:SimH c x a w H A){o:Oper}{v:V}{s:Sem Value}(he:execOp a.eval o=(do pure (.value (←s)):Sem Next))(hs:∃xv,s.run P w=.ok xv w∧RepT w A x.st H v xv):Op1 P c x a w o v []:=by
 obtain⟨xv,h1,h2⟩:=hs;exact⟨.value xv,xv,w,H,A,by rw[he];simp[h1],.inl rfl,h.putv o.dst v xv h2⟩
theorem zdJ{o:Oper}{v:V}{U:Upds}{s:Sem Value}(he:execOp a.eval o=(do pure (.value (←s)):Sem Next))(hs:Leaves P c x a s w o.dst v U):Op1 P c x a w o v U:=by
 obtain⟨xv,w',H',A',h1,h2⟩:=hs;exact⟨.value xv,xv,w',H',A',by rw[he];simp[h1],.inl rfl,h2⟩
theorem one1_some{o:Option V}{v:V}{U:Upds}(h:one1 o=some (v,U)):o=some v∧U=[]:=by
 unfold one1 at h;split at h
 ·cases h;exact⟨rfl,rfl⟩
 ·cases h
theorem zkx{pl:List (Nat×Nat)}{N:Nat}{G:Nat→V}{g:Operand→V}{e:O→V}(hg:∀o y,compO N G o=some y→g o=e y):∀(ps:List (Nat×Operand)) (q:List (Nat×Nat×O)) (cs r:List V),zcb N G pl ps=some q →
  fillM cs (q.map fun p=>(p.1,p.2.1,e p.2.2))=some r→zje pl cs (ps.map fun p=>(p.1,g p.2))=some r
 |[],q,cs,r,h1,h2=>by cases h1;exact h2
 |(i,o)::ps,q,cs,r,h1,h2=>by
  simp only[zcb]at h1;split at h1
  ·rename_i off sz y q' h3 h4 h5;cases h1;simp only[qa32,fillM]at h2;simp only[qa32,zje,h3];rw[hg _ _ h4];split at h2
   ·rename_i hc;rw[if_pos hc];exact zkx hg ps q' _ r h5 h2
   ·cases h2
  ·cases h1
theorem zfX{w:World}{A:Nat→Nat→Prop}{st:Nat→Ent}{H:Nat→Value}:∀{xs:List V} {vs:List Value},zam w A st H xs vs→(∀v∈xs,v.simple=true)→zaJ w A st H xs vs
 |[],_,h,_=>h
 |x::xs,_,⟨u,us,h1,h2,h3⟩,hs=>by
  refine⟨u,us,h1, ?_,zfX h3 (fun v hv=>hs v (by simp[hv]))⟩;have:=hs x (by simp);cases x<;>first|exact h2|(simp[V.simple]at this;done)
def gv(N:Nat)(G:Nat→V)(e:Nat→V)(o:Operand):V:=match compO N G o with|some y=>y.ev e|none=>.any
theorem zdL{N:Nat}{G:Nat→V}{pl:List (Nat×Nat)}:∀(ps:List (Nat×Operand)) (q:List (Nat×Nat×O)),zcb N G pl ps=some q→∀p∈ps,∃y,compO N G p.2=some y
 |[],_,_,p,hp=>by simp at hp
 |(i,o)::ps,q,h,p,hp=>by
  simp only[zcb]at h;split at h
  ·rename_i off sz y q' h3 h4 h5;rcases qa33.1 hp with rfl|hp
   ·exact⟨y,h4⟩
   ·exact zdL ps q' h5 p hp
  ·cases h
theorem build_ok(h:SimH c x a w H A){T:TypeId}{ps:Array (Nat×Operand)}{cs r:List V}{pl:List (Nat×Nat)}{q:List (Nat×Nat×O)}(hz:zfz P T=some cs)(hpl:zcZ P T=some pl)(hq:zcb c.N c.G pl ps.toList=some q)
  (hf:fillM cs (q.map fun p=>(p.1,p.2.1,res x.st (p.2.2.ev x.env)))=some r):∃zv,(Instr.build T (ps.map fun(i,y)=>(i,a.eval y))).run P w=.ok zv w∧RepT w A x.st H (.agg r) zv:=by
 have h1:=zkx (pl:=pl) (g:=fun o=>res x.st (gv c.N c.G x.env o)) (e:=fun y=>res x.st (y.ev x.env)) (fun o y ho=>by simp[gv,ho]) ps.toList q cs r hq hf;refine zhB (parts:=ps.toList.map fun p=>(p.1,res x.st (gv c.N c.G x.env p.2))) ?_ (fun k p qq hk hqq=>?_) ?_
 ·simp[Function.comp_def]
 ·simp only[qa15,Option.map_eq_some_iff,Array.toList_map]at hk hqq;obtain⟨p0,hp0,rfl⟩:=hk;obtain⟨q0,hq0,rfl⟩:=hqq;rw[hp0]at hq0;cases hq0;obtain⟨y,hy⟩:=zdL _ _ hq p0 (qa8 hp0);have:=repT_res (zac h hy);simpa[gv,hy]using this
 ·unfold zfT;rw[hz,hpl];simp only[h1]
theorem zky{pl:List (Nat×Nat)}{N:Nat}{G:Nat→V}{g:Operand→V}{e:O→V}(hg:∀o y,compO N G o=some y→g o=e y):∀(ps:List (Nat×Operand)) (q:List (Nat×Nat×O)) (cs r:List V),zcb N G pl ps=some q →
  fillK cs (q.map fun p=>(p.1,p.2.1,e p.2.2))=some r→zft pl cs (ps.map fun p=>(p.1,g p.2))=some r
 |[],q,cs,r,h1,h2=>by cases h1;exact h2
 |(i,o)::ps,q,cs,r,h1,h2=>by
  simp only[zcb]at h1;split at h1
  ·rename_i off sz y q' h3 h4 h5;cases h1;simp only[qa32,fillK]at h2;simp only[qa32,zft,h3];rw[hg _ _ h4];split at h2
   ·rename_i hc;rw[if_pos hc];exact zky hg ps q' _ r h5 h2
   ·cases h2
  ·cases h1
theorem zkO(h:SimH c x a w H A){T:TypeId}{ps:Array (Nat×Operand)}{cs r:List V}{pl:List (Nat×Nat)}{q:List (Nat×Nat×O)}(hz:zfz P T=some cs)(hpl:zcZ P T=some pl)(hq:zcb c.N c.G pl ps.toList=some q)
  (hf:fillK cs (q.map fun p=>(p.1,p.2.1,p.2.2.ev x.env))=some r):∃zv,(Instr.build T (ps.map fun(i,y)=>(i,a.eval y))).run P w=.ok zv w∧RepT w A x.st H (.ta r) zv:=by
 have h1:=zky (pl:=pl) (g:=fun o=>gv c.N c.G x.env o) (e:=fun y=>y.ev x.env) (fun o y ho=>by simp[gv,ho]) ps.toList q cs r hq hf;refine zgJ (parts:=ps.toList.map fun p=>(p.1,gv c.N c.G x.env p.2)) hz hpl ?_ (fun k p qq hk hqq=>?_) h1
 ·simp[Function.comp_def]
 ·simp only[qa15,Option.map_eq_some_iff,Array.toList_map]at hk hqq;obtain⟨p0,hp0,rfl⟩:=hk;obtain⟨q0,hq0,rfl⟩:=hqq;rw[hp0]at hq0;cases hq0;obtain⟨y,hy⟩:=zdL _ _ hq p0 (qa8 hp0);have:=zac h hy;simpa[gv,hy]using this
theorem zkP(h:SimH c x a w H A){slot T len el z b:Nat}(hid:c.n0≤slot){ps:Array (Nat×Operand)}{xs:List O}(hr:rowT P T=some (el,z,b))(hx:zb2 c.N c.G (ps.toList.map (·.2))=some xs)(hi:ps.toList.map (·.1)=List.range len)
  (hg:(x.st slot).isGone=true) (hall:∀p∈xs.map (fun(y:O)=>norm1 (res x.st (y.ev x.env))),p.data=true∧p.storable=true∧p.size=z) (hb:xs.length*z≤16777216) (dst:Option Tmp):
  Leaves P c x a (Instr.buildSlice T len (ps.map fun(i,y)=>(i,a.eval y))) w dst (.row slot xs.length) [(slot,.row el z (xs.map fun(y:O)=>norm1 (res x.st (y.ev x.env))))]:=by
 have hlx:∀{os:List Operand} {ys:List O},zb2 c.N c.G os=some ys→ys.length=os.length:=by
  intro os;induction os with
  |nil=>intro ys h;cases h;rfl
  |cons o os ih=>
   intro ys h;simp only[zb2]at h;split at h
   ·cases h;simp[ih (by assumption)]
   ·cases h
 have hxl:xs.length=len:=by
  have h1:=hlx hx;have h2:=congrArg List.length hi;simp at h1 h2;omega
 have hrep:=zeN h hx;have hlz:(List.range len).length=xs.length:=by simp[hxl]
 have hm:((List.range len).zip (xs.map fun(y:O)=>norm1 (res x.st (y.ev x.env)))).map (·.2)=xs.map fun(y:O)=>norm1 (res x.st (y.ev x.env)):=by
  rw[List.map_snd_zip];simp[hxl]
 have hm1:((List.range len).zip (xs.map fun(y:O)=>norm1 (res x.st (y.ev x.env)))).map (·.1)=List.range len:=by
  rw[List.map_fst_zip];simp[hxl]
 have key:=zdW (P:=P) h hid (t:=T) (len:=len) (v:=.row slot len) (U:=[(slot,.row el z (xs.map fun(y:O)=>norm1 (res x.st (y.ev x.env))))])
  (parts:=(List.range len).zip (xs.map fun (y:O)=>norm1 (res x.st (y.ev x.env)))) (vparts:=ps.map fun (i,y)=>(i,a.eval y)) (by rw [hm1,← hi];simp [Function.comp_def]) (fun k p q hk hq=>by
   obtain⟨_,hp2⟩:=List.getElem?_zip_eq_some.1 hk;simp only[qa15,Option.map_eq_some_iff]at hp2;obtain⟨y,hy,hy2⟩:=hp2;obtain⟨u,h3,h4⟩:=zbk hrep k (y.ev x.env) (by rw[qa15,hy];rfl);simp only[Array.toList_map,qa15,Option.map_eq_some_iff]at hq h3;obtain⟨q0,hq0,rfl⟩:=hq;obtain⟨u0,⟨q1,hq1,rfl⟩,rfl⟩:=h3;rw[hq0]at hq1;cases hq1;rw[←hy2];exact za0 (repT_res h4)) dst (by
   unfold zbU;rw[hr];simp only[];rw[if_pos,hm];refine⟨hg,hm1,fun p hp=>?_,by rw[←hxl];exact hb⟩;have:p.2∈xs.map (fun(y:O)=>norm1 (res x.st (y.ev x.env))):=by rw[←hm];exact qa10 hp
   exact hall _ this)
 rw[hxl];exact key
theorem ziu{ag:Bool}{n slot:Nat}{y:O}{v:V}{U:Upds}{T:TypeId}(hn:∀id m off,y.ev x.env≠.rp id m off)(hT:za7 P T=some (ag,n))(hs:semM slot (.load ag n y) x.env x.st=some (v,U)):zdy P T (y.ev x.env) x.st=some v∧U=[]:=by
 unfold zdy;rw[hT];cases ag
 ·simp only[semM]at hs;dsimp only;generalize y.ev x.env=yv at hs hn;cases yv<;>first|(cases hs;done)|exact absurd rfl (hn _ _ _)|skip
  ·exact one1_some hs
  ·rename_i id off;dsimp only at hs;dsimp only;generalize x.st id=en at hs;cases en<;>first|(cases hs;done)|exact one1_some hs
 ·simp only[semM]at hs;dsimp only;generalize y.ev x.env=yv at hs hn;cases yv<;>first|(cases hs;done)|exact absurd rfl (hn _ _ _)|skip
  ·dsimp only at hs;dsimp only;split at hs
   ·rename_i h2;rw[if_pos h2];cases hs;exact⟨rfl,rfl⟩
   ·rename_i h2;rw[if_neg h2];split at hs
    ·rename_i h3;rw[if_pos h3];cases hs;exact⟨rfl,rfl⟩
    ·cases hs
  ·rename_i id off;dsimp only at hs;dsimp only;generalize x.st id=en at hs;cases en<;>first|(cases hs;done)|skip
   dsimp only at hs;dsimp only;split at hs
   ·rename_i h2;rw[if_pos h2];cases hs;exact⟨rfl,rfl⟩
   ·cases hs
theorem zjD{ag:Bool}{n slot:Nat}{y z:O}{v:V}{U:Upds}{T:TypeId}{k:Nat}(hn:∀id m off,y.ev x.env≠.rp id m off)(hk:stN k=n)(hT:za7 P T=some (ag,n))(hs:semM slot (.store k y z) x.env x.st=some (v,U)):zd2 P T (y.ev x.env) (z.ev x.env) x.st=some U∧v=.undef:=by
 unfold zd2;simp only[semM]at hs;split at hs
 ·rename_i hy;split at hs
  ·rename_i h1;split at hs
   ·rename_i h2;cases hs;rw[hk]at h2 ⊢;simp only[hT,hy,h1,if_pos h2,and_self]
   ·cases hs
  ·cases hs
 ·rename_i hy;exact absurd hy (hn _ _ _)
 ·cases hs
theorem zji{T:TypeId}(h:zhV P T=true):zcA P T=false:=by
 unfold zhV at h;unfold zcA;split at h
 ·rename_i hu;rw[hu]
 ·cases h
theorem zkY{op:BinOp}{T:TypeId}{slot:Nat}{y z:O}{v:V}{U:Upds}(hs:semM slot (.arith op (zhV P T || valT P T) (zcA P T || valT P T) ((eszT P T).isSome || zjb P T) y z) x.env x.st=some (v,U)):zig P op T (y.ev x.env) (z.ev x.env)=some v∧U=[]:=by
 simp only[semM]at hs;unfold zig;split at hs
 ·rename_i h1 h2
  (try simp only[h1,h2])
  split at hs
  ·rename_i h3;rw[if_pos h3];exact one1_some hs
  ·cases hs
 ·rename_i h1 h2
  (try simp only[h1,h2])
  exact one1_some hs
 ·rename_i h1 h2
  (try simp only[h1,h2])
  split at hs
  ·rename_i h3;have h4:zhV P T=true:=by
    simp only[qa27,Bool.or_eq_false_iff]at h3;rcases h3.1 with h|h
    ·exact h
    ·rw[h3.2.2]at h;cases h
   rw[if_pos h4];split at hs<;>first|(cases hs;exact⟨rfl,rfl⟩)|cases hs
  ·cases hs
 ·rename_i h1 h2
  (try simp only[h1,h2])
  split at hs
  ·rename_i h3;have h4:(eszT P T).isSome=true:=by
    rcases Bool.or_eq_true_iff.1 h3.1 with h|h
    ·exact h
    ·obtain⟨ms,hu,_⟩:=zfq h;have:zcA P T=true:=by unfold zcA;rw[hu]
     rw[this]at h3;cases h3.2
   rw[if_pos h4];split at hs<;>first|(cases hs;exact⟨rfl,rfl⟩)|cases hs
  ·cases hs
 ·rename_i h1 h2
  (try simp only[h1,h2])
  split at hs
  ·rename_i h3;have h4:zcA P T=true:=by
    simp only[qa27,Bool.or_eq_false_iff]at h3;rcases h3.1 with h|h
    ·exact h
    ·rw[h3.2.2]at h;cases h
   rw[if_pos h4];split at hs<;>first|(cases hs;exact⟨rfl,rfl⟩)|cases hs
  ·cases hs
 ·rename_i h1 h2
  (try simp only[h1,h2])
  split at hs
  ·rename_i h3;have h4:zjb P T=true:=by
    rcases Bool.or_eq_true_iff.1 h3.2 with h|h
    ·have h5:zcA P T=true:=by
      have h6:=h3.1;simp only[qa27,Bool.or_eq_false_iff]at h6;rcases h6.1 with h'|h'
      ·exact h'
      ·rw[h6.2.2]at h';cases h'
     unfold eszT at h;unfold zcA at h5;split at h
     ·rename_i hu;rw[hu]at h5;cases h5
     ·cases h
    ·exact h
   rw[if_pos h4];split at hs<;>first|(cases hs;exact⟨rfl,rfl⟩)|cases hs
  ·cases hs
 ·rename_i h1 h2
  (try simp only[h1,h2])
  split at hs
  ·rename_i h3;have h4:valT P T=true:=by
    simp only[qa27]at h3;rcases h3.1 with h|h
    ·rcases h3.2 with h'|h'
     ·rw[zji h]at h';cases h'
     ·exact h'
    ·exact h
   rw[if_pos h4];split at hs<;>first|(cases hs;rename_i hq;rw[hq];exact⟨rfl,rfl⟩)|(cases hs;simp_all;done)|cases hs
  ·cases hs
 ·cases hs
theorem appT_eq{slot:Nat}{T el z b:Nat}{s y:O}{v:V}{U:Upds}(hr:rowT P T=some (el,z,b))(hs:semM slot (.app el z b s y) x.env x.st=some (v,U)):zdc P slot T (s.ev x.env) (norm0 (res x.st (y.ev x.env))) x.st=some (v,U):=by
 unfold zdc;simp only[semM]at hs;split at hs
 ·rename_i h1 h2;simp only[hr,h1,h2];split at hs
  ·rename_i h3;(try simp only[h3]);exact hs
  ·cases hs
 ·rename_i h1 h2;simp only[hr,h1,h2];exact hs
 ·rename_i h1 h2;simp only[hr,h1,h2];split at hs
  ·rename_i h3;(try simp only[h3]);exact hs
  ·cases hs
 ·cases hs
end
end
section
open Go Go.RowKit
section
variable{P:Program}{c:Ctx}{x:X}{a:Act}{w:World}{H:Nat→Value}{A:Nat→Nat→Prop}
theorem zaD{b:Builtin}{cl:Call}{ty:TypeId}(hb:cl.callee=.builtin b)(d:Option Tmp)(pos:String)(af:Array Edge)(gd:Option (Nat×Bool)):
  (execOp a.eval ⟨d,.call cl,ty,pos,af,gd⟩).run P w=(builtin b cl.argTypes ty (cl.args.map fun|.const _=>true|_=>false) (cl.args.map a.eval)).run P w:=by
 obtain⟨callee,args,tys⟩:=cl;cases hb;simp[execOp,resolve,invoke];rfl
theorem zka(h:SimH c x a w H A){slot:Nat}{o:Oper}{m:M}{v:V}{U:Upds}{y:Operand}(ho:o.op=.move y∨o.op=.assign y)(hm:compM P c.N c.G (.move y)=some m)(hs:semM slot m x.env x.st=some (v,U)):Op1 P c x a w o v U:=by
 obtain⟨z,hz,hm⟩:=zaa hm;cases hm;simp only[semM]at hs;cases hs;refine⟨.value (a.eval y),a.eval y,w,H,A, ?_,.inl rfl,h.putv _ _ _ (zac h hz)⟩;rcases ho with ho|ho<;>simp[execOp,ho]
set_option maxHeartbeats 4000000 in
theorem op_ok(h:SimH c x a w H A){slot:Nat}(hid:c.n0≤slot){o:Oper}{m:M}{v:V}{U:Upds}(hm:compM P c.N c.G o.op=some m)(hs:semM slot m x.env x.st=some (v,U)):Op1 P c x a w o v U:=by
 obtain⟨dst,op,type,pos,after,guard⟩:=o;cases op
 case move y=>exact zka h (.inl rfl) hm hs
 case assign y=>exact zka h (.inr rfl) hm hs
 case pick p q r=>
  obtain⟨p',hp,hm⟩:=zaa hm;obtain⟨q',hq,hm⟩:=zaa hm;obtain⟨r',hr,hm⟩:=zaa hm;cases hm;simp only[semM]at hs;have h1:=zac h hp;generalize p'.ev x.env=pv at hs h1;cases pv<;>first|(cases hs;done)|skip
  cases hs;rename_i t;have h2:=h1.data rfl;generalize hpv:a.eval p=pv' at h2;cases h2;refine⟨.value (if t=true then a.eval q else a.eval r),_,w,H,A,by simp[execOp,hpv,asBool],.inl rfl,h.putv _ _ _ ?_⟩;cases t
  ·exact zac h hr
  ·exact zac h hq
 case alloc T=>
  simp only[compM]at hm;split at hm
  ·rename_i cs hz;cases hm;refine zdJ (s:=Instr.alloc T true (.tuple #[])) rfl (zhC h hid dst ?_);simp only[semM]at hs;unfold zfU;rw[hz];exact hs
  ·cases hm
 case box T y=>
  obtain⟨z,hz,hm⟩:=zaa hm;cases hm;exact zdJ (s:=Instr.box T (a.eval y)) rfl (zjH h hid (zac h hz) dst hs)
 case build T ps=>
  simp only[compM]at hm;split at hm
  ·rename_i cs pl h1 h2;split at hm
   ·rename_i q hq;cases hm;simp only[semM]at hs;split at hs
    ·split at hs
     ·rename_i r hr;cases hs;exact zaq h (s:=Instr.build T (ps.map fun(i,y)=>(i,a.eval y))) rfl (build_ok h h1 h2 hq hr)
     ·cases hs
    ·split at hs
     ·rename_i r hr;cases hs;exact zaq h (s:=Instr.build T (ps.map fun(i,y)=>(i,a.eval y))) rfl (zkO h h1 h2 hq hr)
     ·cases hs
   ·cases hm
  ·cases hm
 case buildSlice T len ps=>
  simp only[compM]at hm;split at hm
  ·rename_i el z b xs h1 h2;split at hm
   ·rename_i hr;cases hm;simp only[semM]at hs;split at hs
    ·rename_i hc;cases hs;exact zdJ (s:=Instr.buildSlice T len (ps.map fun(i,y)=>(i,a.eval y))) rfl (zkP h hid h1 h2 hr hc.1 hc.2.1 hc.2.2 dst)
    ·cases hs
   ·cases hm
  ·cases hm
 case load T y=>
  simp only[compM]at hm;split at hm
  ·rename_i ag n hT;obtain⟨z,hz,hm⟩:=zaa hm;cases hm;by_cases hrp:∃id k off,z.ev x.env=.rp id k off
   ·obtain⟨id,k,off,hrp⟩:=hrp;have hr:=zac h hz;rw[hrp]at hr;have h1:loadM ag x.st id k off n=some v∧U=[]:=by
     cases ag<;>simp only[semM,hrp]at hs<;>(split at hs<;>first|exact one1_some hs|cases hs)
    obtain⟨h1,rfl⟩:=h1;exact zaq h (s:=Instr.loadAt T (a.eval y)) rfl (loadM_ok h hT hr h1)
   ·obtain⟨h1,rfl⟩:=ziu (fun id k off e=>hrp ⟨id,k,off,e⟩) hT hs;exact zaq h (s:=Instr.loadAt T (a.eval y)) rfl (ze5 h (zac h hz) h1)
  ·cases hm
 case store T y z=>
  simp only[compM]at hm;split at hm
  ·rename_i ag n hT;obtain⟨y',hy,hm⟩:=zaa hm;obtain⟨z',hz,hm⟩:=zaa hm;cases hm;by_cases hrp:∃id k off,y'.ev x.env=.rp id k off
   ·obtain⟨id,k,off,hrp⟩:=hrp;have hr:=zac h hy;rw[hrp]at hr;simp only[semM,hrp]at hs;split at hs<;>first|(cases hs;done)|skip
    rename_i U' hU;cases hs;have e:stN (if ag=true∧n=0 then 0 else n+1)=n+1:=by split<;>simp_all [stN]
    rw[e]at hU;obtain⟨w',H',A',h2,h3⟩:=zjE h hT hr (za0 (repT_res (zac h hz))) dst hU;exact⟨.skip,Go.undef,w',H',A',by simp[execOp,h2],.inr ⟨rfl,rfl⟩,h3⟩
   ·obtain ⟨h1,rfl⟩:=zjD (fun id k off e=>hrp ⟨id,k,off,e⟩) (by split<;>simp_all [stN]) hT hs;obtain⟨w',H',A',h2,h3⟩:=zhx h (zac h hy) (zac h hz) dst h1;exact⟨.skip,Go.undef,w',H',A',by simp[execOp,h2],.inr ⟨rfl,rfl⟩,h3⟩
  ·cases hm
 case nilCheck y=>
  obtain⟨z,hz,hm⟩:=zaa hm;cases hm;simp only[semM]at hs;have h1:=zac h hz;generalize hyv:a.eval y=yv at h1;generalize z.ev x.env=zv at hs h1;have h0:=h1;refine⟨.value yv,yv,w,H,A, ?_,.inl rfl, ?_⟩
  ·cases zv<;>first|(cases hs;done)|skip
   ·cases h1.data rfl;simp[execOp,hyv]
   ·rcases h1 with⟨b,_,_,rfl⟩|h1
    ·simp[execOp,hyv]
    ·cases h1
   ·obtain⟨fs,cs,rfl,_⟩:=h1;simp[execOp,hyv]
   ·obtain⟨⟨b,rfl⟩,_⟩:=h1;simp[execOp,hyv]
  ·cases zv<;>first|(cases hs;done)|(cases hs;exact h.putv _ _ _ h0)
 case binOp op T y z T'=>
  obtain⟨y',hy,hm⟩:=zaa hm;obtain⟨z',hz,hm⟩:=zaa hm;cases hm;obtain⟨h1,rfl⟩:=zkY hs;exact zaq h (s:=(do eqGuard op T y z (a.eval y) (a.eval z);binOp op T (a.eval y) (a.eval z):Sem Value)) rfl (zjI (zac h hy) (zac h hz) h1)
 case unOp op T y=>
  obtain⟨y',hy,hm⟩:=zaa hm;cases hm;obtain⟨h1,rfl⟩:=one1_some hs;exact zaq h (s:=Op.unary op (a.eval y)) rfl (semUn_ok (zac h hy) h1)
 case convert s d y=>
  simp only[compM]at hm;split at hm
  ·rename_i u k h1 h2;obtain⟨y',hy,hm⟩:=zaa hm;cases hm;simp only[semM]at hs;have h3:=zac h hy;generalize y'.ev x.env=yv at hs h3;cases yv<;>first|(cases hs;done)|skip
   cases hs;exact zaq h (s:=convert s d (a.eval y)) rfl (ze7 (P:=P) (s:=s) (d:=d) h3 (by unfold zfS;rw[h1,h2]))
  ·rename_i u h1 h2;obtain⟨y',hy,hm⟩:=zaa hm;cases hm;simp only[semM]at hs;have h3:=zac h hy;generalize y'.ev x.env=yv at hs h3;cases yv<;>first|(cases hs;done)|skip
   cases hs;exact zaq h (s:=convert s d (a.eval y)) rfl (ze7 (P:=P) (s:=s) (d:=d) h3 (by unfold zfS;rw[h1,h2]))
  ·cases hm
 case makeInterface T y=>
  simp only[compM]at hm;split at hm
  ·rename_i hT;obtain⟨y',hy,hm⟩:=zaa hm;cases hm;simp only[semM]at hs;split at hs
   ·rename_i hd;cases hs;exact zaq h (s:=Instr.makeInterface T (a.eval y)) rfl (zhz (P:=P) (t:=T) (za0 (repT_res (zac h hy))) (by unfold zfR;rw[if_pos ⟨hT,hd⟩]))
   ·cases hs
  ·cases hm
 case makeFunc f first cap=>
  cases f with
  |func f'=>
   simp only[compM]at hm;split at hm
   ·rename_i fs cs h1 h2;cases hm;simp only[semM]at hs;split at hs
    ·rename_i hc;cases hs;have h3:=zfX (zbM h h1) hc.1;have h4:=zfX (zbM h h2) hc.2;refine⟨.value (.func (.func f') (first.map a.eval) (cap.map a.eval)),_,w,H,A, ?_,.inl rfl,h.putv _ _ _ ⟨_,_,rfl,by simpa using h3,by simpa using h4⟩⟩;simp[execOp,Instr.makeFunc]
    ·cases hs
   ·cases hm
  |_=>simp only[compM]at hm;cases hm
 case slice T y lo hi mx=>
  cases mx with
  |some _=>simp only[compM]at hm;cases hm
  |none=>
   simp only[compM]at hm;split at hm
   ·rename_i lo' hi' hlo hhi;split at hm
    ·rename_i hT;obtain⟨y',hy,hm⟩:=zaa hm;cases hm;simp only[semM]at hs;have h3:=zac h hy;generalize y'.ev x.env=yv at hs h3;cases yv<;>first|(cases hs;done)|skip
     obtain⟨h1,rfl⟩:=one1_some hs;exact zaq h (s:=Instr.sliceAt T (a.eval y) (lo.map a.eval) (hi.map a.eval) none) rfl (zic (P:=P) (t:=T) h3 (zb3 h hlo) (zb3 h hhi) (by unfold semSl;simp only[if_pos hT];exact h1))
    ·split at hm
     ·rename_i z hz;obtain⟨y',hy,hm⟩:=zaa hm;cases hm;simp only[semM]at hs;have h3:=repT_norm0 (repT_res (zac h hy));generalize norm0 (res x.st (y'.ev x.env))=yv at hs h3;cases yv<;>first|(cases hs;done)|skip
      obtain⟨h1,rfl⟩:=one1_some hs;exact zaq h (s:=Instr.sliceAt T (a.eval y) (lo.map a.eval) (hi.map a.eval) none) rfl (zic (P:=P) (t:=T) h3 (zb3 h hlo) (zb3 h hhi) (by unfold semSl;simp only[hz];exact h1))
     ·cases hm
   ·cases hm
 case fieldAddr s y f=>
  simp only[compM]at hm;split at hm
  ·rename_i off n ag hf;obtain⟨y',hy,hm⟩:=zaa hm;cases hm;simp only[semM]at hs;have h3:=zac h hy;generalize y'.ev x.env=yv at hs h3;cases yv<;>first|(cases hs;done)|skip
   all_goals
    cases hs;first
     |exact zaq h (s:=Instr.fieldAt s (a.eval y) f) rfl (fadM_ok (P:=P) hf h3)
     |exact zaq h (s:=Instr.fieldAt s (a.eval y) f) rfl (zes (P:=P) (s:=s) (f:=f) h3 (by unfold zco;simp only[hf]))
  ·cases hm
 case field s y f=>
  simp only[compM]at hm;split at hm
  ·rename_i off n ag hf;obtain⟨y',hy,hm⟩:=zaa hm;cases hm;have h3:=zac h hy;have h4:zd4 P s (y'.ev x.env) f=some v∧U=[]:=by
    unfold zd4;rw[hf];cases ag
    ·simp only[semM]at hs;generalize y'.ev x.env=yv at hs;cases yv<;>first|(cases hs;done)|exact one1_some hs
    ·simp only[semM]at hs;generalize y'.ev x.env=yv at hs;cases yv<;>first|(cases hs;done)|skip
     dsimp only at hs;dsimp only;split at hs
     ·rename_i h5;rw[if_pos h5];cases hs;exact⟨rfl,rfl⟩
     ·cases hs
   obtain⟨h4,rfl⟩:=h4;exact zaq h (s:=Instr.field s (a.eval y) f) rfl (zhA (P:=P) (s:=s) (f:=f) h3 h4)
  ·cases hm
 case indexAddr T y i=>
  simp only[compM]at hm;split at hm
  ·rename_i z hz;obtain⟨y',hy,hm⟩:=zaa hm;obtain⟨i',hi,hm⟩:=zaa hm;cases hm;have h3:=repT_norm0 (repT_res (zac h hy));have h4:=zac h hi;have old:iadD z (norm0 (res x.st (y'.ev x.env))) (i'.ev x.env)=some (v,U)→Op1 P c x a w ⟨dst,.indexAddr T y i,type,pos,after,guard⟩ v U:=by
    intro hs;have h5:zbu P T (norm0 (res x.st (y'.ev x.env))) (i'.ev x.env)=some v∧U=[]:=by
     unfold zbu;rw[hz];unfold iadD at hs;generalize norm0 (res x.st (y'.ev x.env))=yv at hs;generalize i'.ev x.env=iv at hs;cases yv<;>first|(cases hs;done)|skip
     cases iv<;>first|(cases hs;done)|skip
     dsimp only at hs;dsimp only;split at hs
     ·rename_i e he
      (try simp only[he])
      split at hs
      ·rename_i h6;rw[if_pos h6];cases hs;exact⟨rfl,rfl⟩
      ·cases hs
     ·cases hs
    obtain⟨h5,rfl⟩:=h5;exact zaq h (s:=Instr.indexAt T (a.eval y) (a.eval i)) rfl (zer (P:=P) (t:=T) h3 h4 h5)
   simp only[semM]at hs;by_cases hmr:∃id n,y'.ev x.env=.mr id n
   ·obtain⟨id,n,hmr⟩:=hmr;have hr:=zac h hy;rw[hmr]at hr hs old;simp only[iadM]at hs;split at hs
    ·split at hs<;>first|(cases hs;done)|skip
     rename_i k i0 hiv;split at hs<;>first|(cases hs;done)|skip
     rename_i hc;obtain⟨rfl,hc1,hc2⟩:=hc;cases hs;rw[hiv]at h4;exact zaq h (s:=Instr.indexAt T (a.eval y) (a.eval i)) rfl (iadM_ok (P:=P) hz hr h4 hc1 hc2)
    ·exact old hs
   ·rw[zeb (fun id n e=>hmr ⟨id,n,e⟩)]at hs;exact old hs
  ·cases hm
 case index T y i=>
  simp only[compM]at hm;split at hm
  ·rename_i hT;obtain⟨y',hy,hm⟩:=zaa hm;obtain⟨i',hi,hm⟩:=zaa hm;cases hm;have h5:zd3 P T (y'.ev x.env) (i'.ev x.env)=some v∧U=[]:=by
    unfold zd3;rw[hT];simp only[semM]at hs;generalize y'.ev x.env=yv at hs;generalize i'.ev x.env=iv at hs;cases yv<;>first|(cases hs;done)|skip
    cases iv<;>first|(cases hs;done)|skip
    dsimp only at hs;dsimp only;split at hs
    ·rename_i e he
     (try simp only[he])
     split at hs
     ·rename_i h6;rw[if_pos h6];cases hs;exact⟨rfl,rfl⟩
     ·cases hs
    ·cases hs
   obtain⟨h5,rfl⟩:=h5;exact zaq h (s:=Instr.index T (a.eval y) (a.eval i)) rfl (zhy (P:=P) (t:=T) (zac h hy) (zac h hi) h5)
  ·cases hm
 case typeAssert y S T ok=>
  simp only[compM]at hm;split at hm<;>first|(cases hm;done)|skip
  rename_i hT;cases ok with
  |true=>
   dsimp only at hm;split at hm<;>first|(cases hm;done)|skip
   rename_i z hz;obtain⟨y',hy,hm⟩:=zaa hm;cases hm;obtain⟨h1,rfl⟩:=one1_some hs;exact zaq h (s:=Instr.typeAssert (a.eval y) S T true) rfl (zgG (ok:=true) hT ⟨z,hz,rfl⟩ (zac h hy) h1)
  |false=>
   dsimp only at hm;obtain⟨y',hy,hm⟩:=zaa hm;cases hm;obtain⟨h1,rfl⟩:=one1_some hs;exact zaq h (s:=Instr.typeAssert (a.eval y) S T false) rfl (zgG (ok:=false) hT rfl (zac h hy) h1)
 case extract y i=>
  obtain⟨y',hy,hm⟩:=zaa hm;cases hm;have h5:zif (y'.ev x.env) i=some v∧U=[]:=by
   simp only[semM]at hs;unfold zif;generalize y'.ev x.env=yv at hs;cases yv<;>first|(cases hs;done)|exact one1_some hs
  obtain⟨h5,rfl⟩:=h5;exact zaq h (s:=Instr.extract (a.eval y) i) rfl (zjG (P:=P) (zac h hy) h5)
 case call cl=>
  simp only[compM]at hm;split at hm
  ·split at hm
   ·obtain⟨y',hy,hm⟩:=zaa hm;cases hm;simp only[semM]at hs;cases hs
   ·cases hm
  ·rename_i b hb;split at hm
   ·rename_i y T hargs htys;split at hm
    ·rename_i hT;obtain⟨y',hy,hm⟩:=zaa hm;cases hm;have h3:=zac h hy;have h5:ze6 P T (y'.ev x.env)=some v∧U=[]:=by
      simp only[semM]at hs;unfold ze6;generalize y'.ev x.env=yv at hs;cases yv<;>first|(cases hs;done)|skip
      cases hs;simp only[if_pos hT,and_self]
     obtain⟨h5,rfl⟩:=h5;obtain⟨xv,h6,h7⟩:=zgI (P:=P) (ty:=type) h3 h5;have ha:cl.args=#[y]:=by rw[←hargs]
     have ht:cl.argTypes=#[T]:=by rw[←htys]
     exact⟨.value xv,xv,w,H,A,by rw[zaD hb];simp[ha,ht,builtin,h6],.inl rfl,h.putv _ _ _ h7⟩
    ·split at hm
     ·rename_i hT;obtain⟨y',hy,hm⟩:=zaa hm;cases hm;have h3:=repT_norm0 (repT_res (zac h hy));have hlen:U=[]∧∃xv,(Builtin.len_ #[T] type #[a.eval y]).run P w=.ok xv w∧RepT w A x.st H v xv:=by
       simp only[semM]at hs;by_cases hmr:∃id n,y'.ev x.env=.mr id n
       ·obtain⟨id,n,hmr⟩:=hmr;have hr:=zac h hy;rw[hmr]at hr hs;cases hs;exact⟨rfl,lenM_ok (P:=P) hT hr⟩
       ·rw[zgi (fun id n e=>hmr ⟨id,n,e⟩)]at hs;have h5:ze6 P T (norm0 (res x.st (y'.ev x.env)))=some v∧U=[]:=by
         unfold ze6;generalize norm0 (res x.st (y'.ev x.env))=yv at hs;cases yv<;>first|(cases hs;done)|skip
         cases hs;simp only[if_pos hT,and_self]
        exact⟨h5.2,zgI (P:=P) (ty:=type) h3 h5.1⟩
      obtain⟨rfl,xv,h6,h7⟩:=hlen;have ha:cl.args=#[y]:=by rw[←hargs]
      have ht:cl.argTypes=#[T]:=by rw[←htys]
      exact⟨.value xv,xv,w,H,A,by rw[zaD hb];simp[ha,ht,builtin,h6],.inl rfl,h.putv _ _ _ h7⟩
     ·cases hm
   ·rename_i s y T T' hargs htys;split at hm
    ·rename_i hTT;subst hTT;split at hm
     ·rename_i el z b hr;obtain⟨s',hs',hm⟩:=zaa hm;obtain⟨y',hy,hm⟩:=zaa hm;cases hm;have h5:=appT_eq (P:=P) hr hs;obtain⟨xv,w',H',A',h6,h7⟩:=zgK (P:=P) (ty:=type) h hid (zac h hs') (repT_norm0 (repT_res (zac h hy))) dst h5;have ha:cl.args=#[s,y]:=by rw[←hargs]
      have ht:cl.argTypes=#[T,T]:=by rw[←htys]
      exact⟨.value xv,xv,w',H',A',by rw[zaD hb];simp[ha,ht,builtin,h6],.inl rfl,h7⟩
     ·cases hm
    ·cases hm
   ·rename_i y z hargs;obtain⟨y',hy,hm⟩:=zaa hm;obtain⟨z',hz,hm⟩:=zaa hm;cases hm;obtain⟨h5,rfl⟩:=one1_some hs;have ha:cl.args=#[y,z]:=by rw[←hargs]
    obtain⟨xv,h6,h7⟩:=zie (P:=P) (ts:=cl.argTypes) (ty:=type) (cs:=cl.args.map fun|.const _=>true|_=>false) (zac h hy) (zac h hz) h5;refine⟨.value xv,xv,w,H,A, ?_,.inl rfl,h.putv _ _ _ h7⟩;rw[zaD hb,show cl.args.map a.eval=#[a.eval y,a.eval z]by rw[ha];simp];exact h6
   ·rename_i y z hargs;obtain⟨y',hy,hm⟩:=zaa hm;obtain⟨z',hz,hm⟩:=zaa hm;cases hm;obtain⟨h5,rfl⟩:=one1_some hs;have ha:cl.args=#[y,z]:=by rw[←hargs]
    obtain⟨xv,h6,h7⟩:=zie (P:=P) (ts:=cl.argTypes) (ty:=type) (cs:=cl.args.map fun|.const _=>true|_=>false) (zac h hy) (zac h hz) h5;refine⟨.value xv,xv,w,H,A, ?_,.inl rfl,h.putv _ _ _ h7⟩;rw[zaD hb,show cl.args.map a.eval=#[a.eval y,a.eval z]by rw[ha];simp];exact h6
   ·cases hm
  ·cases hm
 case panic y=>
  obtain⟨y',hy,hm⟩:=zaa hm;cases hm;simp only[semM]at hs;cases hs
 all_goals (simp only[compM]at hm;cases hm)
end
end
end Vm
end
