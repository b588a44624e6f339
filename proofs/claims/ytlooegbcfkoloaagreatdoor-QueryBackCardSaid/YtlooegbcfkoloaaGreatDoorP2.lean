/- Part of the proof: see the last text. -/
import Derived.Test.YtlooegbcfkoloaaGreatDoorP1
set_option maxRecDepth 20000
set_option linter.unusedVariables false
set_option linter.unusedSimpArgs false
namespace Vm
open Go Go.RowKit
structure X where
 env:Nat→V
 st:Nat→Ent
def upd (e:Nat→V) (d:Nat) (v:V):Nat→V:=fun i=>if i=d then v else e i
def updE (e:Nat→Ent) (d:Nat) (v:Ent):Nat→Ent:=fun i=>if i=d then v else e i
abbrev Upds:=List (Nat×Ent)
def updL (s:Nat→Ent):Upds→Nat→Ent
 | []=>s
 | (i,e) :: r=>updL (updE s i e) r
def putEnv (e:Nat→V) (dst:Option Tmp) (v:V):Nat→V:=match dst with | some d=>upd e d v | none=>e
def X.put (x:X) (dst:Option Tmp) (v:V) (U:Upds):X:=⟨putEnv x.env dst v,updL x.st U⟩
theorem upd_ne (e:Nat→V) {d i:Nat} (v:V) (h:i≠d):upd e d v i=e i:=if_neg h
theorem updE_same (e:Nat→Ent) (d:Nat) (v:Ent):updE e d v d=v:=if_pos rfl
theorem zau (e:Nat→Ent) {d i:Nat} (v:Ent) (h:i≠d):updE e d v i=e i:=if_neg h
def ofVal:Value→V
 | .bool b=>.bool b
 | .int k n=>.int k n
 | .string s=>.str (Lx.ls s)
 | .pointer none=>.nilp
 | .slice none 0 0=>.nils
 | .nilIface=>.niface
 | _=>.any
def RepP (st:Nat→Ent) (H:Nat→Value):V→Value→Prop
 | .ptr id off,v=>∃ b,H id=.pointer (some ⟨b,0,none⟩)∧(∃ T cs,st id=.blk T cs)∧v=.pointer (some ⟨b,off,none⟩)
 | _,_=>False
def RepS (w:World) (A:Nat→Nat→Prop) (st:Nat→Ent) (H:Nat→Value) (x:V) (v:Value):Prop:=RepP st H x v∨RepV w A x v
def zcR (w:World) (A:Nat→Nat→Prop) (st:Nat→Ent) (H:Nat→Value):List V→List Value→Prop
 | [],vs=>vs=[]
 | x :: xs,vs=>∃ u us,vs=u :: us∧RepS w A st H x u∧zcR w A st H xs us
def RepK (w:World) (A:Nat→Nat→Prop) (st:Nat→Ent) (H:Nat→Value):V→Value→Prop
 | .row id n,v=>∃ T z xs,st id=.row T z xs∧n≤xs.length∧RepV w A (.list (xs.take n)) v∧(n=xs.length→v=H id)
 | x,v=>RepV w A x v
def zco (w:World) (A:Nat→Nat→Prop) (st:Nat→Ent) (H:Nat→Value):List V→List Value→Prop
 | [],vs=>vs=[]
 | x :: xs,vs=>∃ u us,vs=u :: us∧RepK w A st H x u∧zco w A st H xs us
def RepT (w:World) (A:Nat→Nat→Prop) (st:Nat→Ent) (H:Nat→Value):V→Value→Prop
 | .row id n,v=>∃ T z xs,st id=.row T z xs∧n≤xs.length∧RepV w A (.list (xs.take n)) v∧(n=xs.length→v=H id)
 | .fn f first cap,v=>∃ fs cs,v=.func (.func f) fs cs∧zcR w A st H first fs.toList∧zcR w A st H cap cs.toList
 | .any,_=>True
 | .ta cs,v=>∃ vs:List Value,v=.agg vs.toArray∧zco w A st H cs vs
 | x,v=>RepS w A st H x v
def zaY (w:World) (A:Nat→Nat→Prop) (st:Nat→Ent) (H:Nat→Value):List V→List Value→Prop
 | [],vs=>vs=[]
 | x :: xs,vs=>∃ u us,vs=u :: us∧RepT w A st H x u∧zaY w A st H xs us
def RepEnt (w:World) (A:Nat→Nat→Prop) (st:Nat→Ent) (H:Nat→Value) (base:Nat):Ent→Value→Prop
 | .gone,_=>True
 | .blk T cs,v=>∃ b C,v=.pointer (some ⟨b,0,none⟩)∧w.heap[b]?=some (.cells C T (0,0))∧zaY w A st H cs C.toList∧∀ off,A b off
 | .row T z xs,v=>0 < z∧∃ vs,w.ownsRow base T z v xs.length vs∧RepE w A z xs vs∧∀ g,v.ownBlock=some g→(∀ off,xs.length * z≤off→A g off)∧∀ off,off < xs.length * z→¬ A g off
def blockOf:Value→Option Nat
 | .pointer (some a)=>some a.block
 | .slice (some a) _ _=>some a.block
 | _=>none
structure Ext (w0:World) (n0:Nat) (H0:Nat→Value) (w:World):Prop where
 os:w.os=w0.os
 tape:w.tape=w0.tape
 output:w.output=w0.output
 size:w0.heap.size≤w.heap.size
 block:∀ b,b < w0.heap.size→(∀ id,id < n0→blockOf (H0 id)≠some b)→w.heap[b]?=w0.heap[b]?
structure Ctx where
 w0:World
 A0:Nat→Nat→Prop
 n0:Nat
 H0:Nat→Value
 E0:Nat→Ent
 G:Nat→V
 N:Nat
 D:List Deferred
structure Foll (st:Nat→Ent) (H:Nat→Value) (st':Nat→Ent) (H':Nat→Value):Prop where
 blk:∀ id T cs,st id=.blk T cs→H' id=H id∧∃ T' cs',st' id=.blk T' cs'
 row:∀ id T z xs,st id=.row T z xs→∃ ys,st' id=.row T z (xs++ys)∧(ys=[]→H' id=H id)
theorem Foll.refl (st:Nat→Ent) (H:Nat→Value):Foll st H st H:=⟨fun _ _ _ h=>⟨rfl,_,_,h⟩,fun _ _ _ _ h=>⟨[],by simpa using h,fun _=>rfl⟩⟩
theorem Foll.trans {st st' st'':Nat→Ent} {H H' H'':Nat→Value} (h:Foll st H st' H') (h':Foll st' H' st'' H''):Foll st H st'' H'':=by
 refine ⟨fun id T cs hi=>?_,fun id T z xs hi=>?_⟩
 ·obtain ⟨h1,T',cs',h2⟩:=h.blk id T cs hi
  obtain ⟨h3,h4⟩:=h'.blk id T' cs' h2
  exact ⟨h3.trans h1,h4⟩
 ·obtain ⟨ys,h1,h2⟩:=h.row id T z xs hi
  obtain ⟨zs,h3,h4⟩:=h'.row id T z _ h1
  refine ⟨ys++zs,by simpa using h3,fun he=>?_⟩
  obtain ⟨rfl,rfl⟩:=List.append_eq_nil_iff.1 he
  exact (h4 rfl).trans (h2 rfl)
structure SimH (c:Ctx) (x:X) (a:Act) (w:World) (H:Nat→Value) (A:Nat→Nat→Prop):Prop where
 tm:a.tmps.size=c.N
 df:a.defers=c.D
 env:∀ t,t < c.N→RepT w A x.st H (x.env t) (a.tmps.getD t Go.undef)
 glo:∀ g,c.G g=.any∨RepV w A (c.G g) (.pointer (some ⟨g,0,none⟩))
 kp:Keeps c.w0 c.A0 w A
 ent:∀ id,RepEnt w A x.st H 0 (x.st id) (H id)
 dis:∀ id id',id≠id'→x.st id≠.gone→x.st id'≠.gone→∀ b,blockOf (H id)=some b→blockOf (H id')≠some b
 a00:∀ b o,c.A0 b o→b < c.w0.heap.size
 a0:∀ b o,c.A0 b o→(∀ id,id < c.n0→blockOf (c.H0 id)≠some b)→A b o
 al:∀ b o,A b o→b < w.heap.size
 out:Foll c.E0 c.H0 x.st H
 lent:∀ id b,id < c.n0→x.st id≠.gone→blockOf (H id)=some b→b < c.w0.heap.size→blockOf (c.H0 id)=some b
 loc:∀ id b,c.n0≤id→x.st id≠.gone→blockOf (H id)=some b→c.w0.heap.size≤b
 ext:Ext c.w0 c.n0 c.H0 w
theorem repV_ofVal (w:World) (A:Nat→Nat→Prop) (st:Nat→Ent) (H:Nat→Value) (v:Value):RepT w A st H (ofVal v) v:=by
 unfold ofVal
 split
 ·exact Or.inr (.bool _)
 ·exact Or.inr (.int _ _)
 ·refine Or.inr ?_
  have h:=RepV.str (w:=w) (A:=A) (Lx.ls ‹ByteArray›)
  rwa [Lx.znq] at h
 ·exact Or.inr .nilp
 ·exact Or.inr .nils
 ·exact Or.inr .niface
 ·trivial
def evl (e:Nat→V):Operand→V
 | .tmp t=>e t
 | .const v=>ofVal v
 | .global _=>.any
 | .func f=>.fn f [] []
def okOpd (N:Nat):Operand→Bool
 | .tmp t=>decide (t < N)
 | _=>true
theorem SimH.eval {c:Ctx} {x:X} {a:Act} {w:World} {H:Nat→Value} {A:Nat→Nat→Prop} (h:SimH c x a w H A) (o:Operand) (ho:okOpd c.N o=true):RepT w A x.st H (evl x.env o) (a.eval o):=by
 cases o with
 | tmp t=>exact h.env t (by simpa [okOpd] using ho)
 | const v=>exact repV_ofVal w A x.st H v
 | global g=>trivial
 | func f=>exact ⟨#[],#[],rfl,rfl,rfl⟩
def V.data:V→Bool
 | .any | .ptr _ _ | .row _ _ | .fn _ _ _ | .ta _=>false
 | _=>true
theorem RepT.data {w:World} {A:Nat→Nat→Prop} {st:Nat→Ent} {H:Nat→Value} {x:V} {v:Value} (h:RepT w A st H x v) (hd:x.data=true):RepV w A x v:=by
 cases x<;>first | (simp [V.data] at hd;done) | exact h.resolve_left (fun h=>h.elim)
theorem RepV.toT {w:World} {A:Nat→Nat→Prop} {st:Nat→Ent} {H:Nat→Value} {x:V} {v:Value} (h:RepV w A x v):RepT w A st H x v:=by
 cases x<;>first | exact Or.inr h | (cases h;done) | trivial
def resK (st:Nat→Ent):V→V
 | .row id n=>match st id with | .row _ _ xs=>if n≤xs.length then .list (xs.take n) else .any | _=>.any
 | v=>v
def res (st:Nat→Ent):V→V
 | .row id n=>match st id with | .row _ _ xs=>if n≤xs.length then .list (xs.take n) else .any | _=>.any
 | .ta cs=>if (cs.map (resK st)).all V.data=true then .agg (cs.map (resK st)) else .any
 | v=>v
theorem repK_res {w:World} {A:Nat→Nat→Prop} {st:Nat→Ent} {H:Nat→Value} {x:V} {v:Value} (h:RepK w A st H x v):RepV w A (resK st x) v:=by
 cases x<;>first | exact h | skip
 obtain ⟨T,z,xs,h1,h2,h3,h4⟩:=h
 simp only [resK,h1,if_pos h2]
 exact h3
theorem zn6 {w:World} {A:Nat→Nat→Prop} {st:Nat→Ent} {H:Nat→Value}:∀ {x:List V} {v:List Value},zco w A st H x v→RepL w A (x.map (resK st)) v
 | [],_,h=>by rw [h];exact .nil
 | _ :: _,_,⟨u,us,h1,h2,h3⟩=>by subst h1;exact .cons _ _ _ _ (repK_res h2) (zn6 h3)
theorem zcp {w:World} {A:Nat→Nat→Prop} {st:Nat→Ent} {H:Nat→Value} {x:V} {v:Value} (h:RepT w A st H x v):RepT w A st H (res st x) v:=by
 cases x<;>first | exact h | skip
 ·obtain ⟨T,z,xs,h1,h2,h3,h4⟩:=h
  simp only [res,h1,if_pos h2]
  exact Or.inr h3
 ·obtain ⟨vs,rfl,h⟩:=h
  simp only [res]
  split
  ·exact Or.inr (.agg _ _ (zn6 h))
  ·trivial
theorem RepP.mono {st st':Nat→Ent} {H H':Nat→Value} {x:V} {v:Value} (h:RepP st H x v) (hk:∀ id T cs,st id=.blk T cs→H' id=H id∧∃ T' cs',st' id=.blk T' cs'):RepP st' H' x v:=by
 cases x<;>first | exact h.elim | skip
 obtain ⟨b,h1,⟨T,cs,h2⟩,h3⟩:=h
 obtain ⟨h4,h5⟩:=hk _ _ _ h2
 exact ⟨b,h4.trans h1,h5,h3⟩
theorem RepS.mono {w w':World} {A A':Nat→Nat→Prop} {st st':Nat→Ent} {H H':Nat→Value} {x:V} {v:Value} (h:RepS w A st H x v) (k:Keeps w A w' A') (hk:∀ id T cs,st id=.blk T cs→H' id=H id∧∃ T' cs',st' id=.blk T' cs'):RepS w' A' st' H' x v :=
 h.imp (fun h=>h.mono hk) (fun h=>h.keep k)
theorem zcR.mono {w w':World} {A A':Nat→Nat→Prop} {st st':Nat→Ent} {H H':Nat→Value} (k:Keeps w A w' A') (hk:∀ id T cs,st id=.blk T cs→H' id=H id∧∃ T' cs',st' id=.blk T' cs') :
  ∀ {x:List V} {v:List Value},zcR w A st H x v→zcR w' A' st' H' x v
 | [],_,h=>h
 | _ :: _,_,⟨u,us,h1,h2,h3⟩=>⟨u,us,h1,h2.mono k hk,zcR.mono k hk h3⟩
theorem RepK.mono {w w':World} {A A':Nat→Nat→Prop} {st st':Nat→Ent} {H H':Nat→Value} {x:V} {v:Value} (h:RepK w A st H x v) (k:Keeps w A w' A') (f:Foll st H st' H'):RepK w' A' st' H' x v:=by
 cases x<;>first | exact RepV.keep k h | skip
 obtain ⟨T,z,xs,h1,h2,h3,h4⟩:=h
 obtain ⟨ys,h5,h6⟩:=f.row _ _ _ _ h1
 refine ⟨T,z,xs++ys,h5,by simp;omega, ?_,fun hn=>?_⟩
 ·rw [List.take_append_of_le_length h2];exact h3.keep k
 ·have:ys=[]:=List.eq_nil_of_length_eq_zero (by simp at hn;omega)
  subst this
  rw [h6 rfl]
  exact h4 (by simpa using hn)
theorem zco.mono {w w':World} {A A':Nat→Nat→Prop} {st st':Nat→Ent} {H H':Nat→Value} (k:Keeps w A w' A') (f:Foll st H st' H') :
  ∀ {x:List V} {v:List Value},zco w A st H x v→zco w' A' st' H' x v
 | [],_,h=>h
 | _ :: _,_,⟨u,us,h1,h2,h3⟩=>⟨u,us,h1,h2.mono k f,zco.mono k f h3⟩
theorem RepT.mono {w w':World} {A A':Nat→Nat→Prop} {st st':Nat→Ent} {H H':Nat→Value} {x:V} {v:Value} (h:RepT w A st H x v) (k:Keeps w A w' A') (f:Foll st H st' H'):RepT w' A' st' H' x v:=by
 cases x<;>first | trivial | exact RepS.mono h k f.blk | skip
 ·obtain ⟨T,z,xs,h1,h2,h3,h4⟩:=h
  obtain ⟨ys,h5,h6⟩:=f.row _ _ _ _ h1
  refine ⟨T,z,xs++ys,h5,by simp;omega, ?_,fun hn=>?_⟩
  ·rw [List.take_append_of_le_length h2];exact h3.keep k
  ·have:ys=[]:=List.eq_nil_of_length_eq_zero (by simp at hn;omega)
   subst this
   rw [h6 rfl]
   exact h4 (by simpa using hn)
 ·obtain ⟨fs,cs,h1,h2,h3⟩:=h
  exact ⟨fs,cs,h1,h2.mono k f.blk,h3.mono k f.blk⟩
 ·obtain ⟨vs,h1,h2⟩:=h
  exact ⟨vs,h1,h2.mono k f⟩
theorem zaY.mono {w w':World} {A A':Nat→Nat→Prop} {st st':Nat→Ent} {H H':Nat→Value} (k:Keeps w A w' A') (f:Foll st H st' H') :
  ∀ {x:List V} {v:List Value},zaY w A st H x v→zaY w' A' st' H' x v
 | [],_,h=>h
 | _ :: _,_,⟨u,us,h1,h2,h3⟩=>⟨u,us,h1,h2.mono k f,zaY.mono k f h3⟩
theorem zct {w:World} {A:Nat→Nat→Prop} {st:Nat→Ent} {H:Nat→Value}:∀ {x:List V} {v:List Value},zaY w A st H x v→x.length=v.length
 | [],_,h=>by rw [h];rfl
 | _ :: _,_,⟨u,us,h1,_,h3⟩=>by rw [h1];simp [zct h3]
theorem zfD {w:World} {A:Nat→Nat→Prop} {st:Nat→Ent} {H:Nat→Value}:∀ {x:List V} {v:List Value},zaY w A st H x v→∀ (i:Nat) (c:V),x[i]?=some c→∃ u,v[i]?=some u∧RepT w A st H c u
 | [],_,_,_,_,h=>by simp at h
 | _ :: _,_,⟨u,us,h1,h2,h3⟩,0,_,h=>by simp at h;subst h;subst h1;exact ⟨_,rfl,h2⟩
 | _ :: _,_,⟨u,us,h1,h2,h3⟩,i+1,_,h=>by subst h1;simpa using zfD h3 i _ (by simpa using h)
theorem zdV {w:World} {A:Nat→Nat→Prop} {st:Nat→Ent} {H:Nat→Value}:∀ {x y:List V} {v u:List Value},zaY w A st H x v→zaY w A st H y u→zaY w A st H (x++y) (v++u)
 | [],_,_,_,h,h2=>by rw [h];simpa using h2
 | _ :: _,_,_,_,⟨u,us,h1,h2,h3⟩,h4=>by subst h1;exact ⟨_,_,rfl,h2,zdV h3 h4⟩
theorem zi3 {w:World} {A:Nat→Nat→Prop} {st:Nat→Ent} {H:Nat→Value}:∀ {x:List V} {v:List Value} (n:Nat),zaY w A st H x v→zaY w A st H (x.take n) (v.take n)
 | x,_,0,_=>by simp [zaY]
 | [],_,n+1,h=>by rw [h];simp [zaY]
 | _ :: _,_,n+1,⟨u,us,h1,h2,h3⟩=>by subst h1;exact ⟨_,_,rfl,h2,zi3 n h3⟩
theorem zi4 {w:World} {A:Nat→Nat→Prop} {st:Nat→Ent} {H:Nat→Value}:∀ {x:List V} {v:List Value} (n:Nat),zaY w A st H x v→zaY w A st H (x.drop n) (v.drop n)
 | x,_,0,h=>by simpa using h
 | [],_,n+1,h=>by rw [h];simp [zaY]
 | _ :: _,_,n+1,⟨u,us,h1,h2,h3⟩=>by subst h1;simpa using zi4 n h3
theorem zjQ {w:World} {A:Nat→Nat→Prop} {st:Nat→Ent} {H:Nat→Value}:∀ {x:List V} {v:List Value},RepL w A x v→zaY w A st H x v
 | _,_,.nil=>rfl
 | _,_,.cons _ _ _ _ h1 h2=>⟨_,_,rfl,h1.toT,zjQ h2⟩
theorem zs2 {w:World} {A:Nat→Nat→Prop} {st:Nat→Ent} {H:Nat→Value}:∀ {x:List V} {v:List Value},zaY w A st H x v→x.all V.data=true→RepL w A x v
 | [],_,h,_=>by rw [h];exact .nil
 | _ :: _,_,⟨u,us,h1,h2,h3⟩,hd=>by
  simp only [List.all_cons,Bool.and_eq_true] at hd
  subst h1
  exact .cons _ _ _ _ (h2.data hd.1) (zs2 h3 hd.2)
theorem zkw {w:World} {A:Nat→Nat→Prop} {st:Nat→Ent} {H:Nat→Value}:∀ {x:List V} {v:List Value},zaY w A st H x v→zaY w A st H (x.map (res st)) v
 | [],_,h=>h
 | _ :: _,_,⟨u,us,h1,h2,h3⟩=>⟨u,us,h1,zcp h2,zkw h3⟩
def norm0:V→V | .nils=>.list [] | v=>v
def norm1:V→V | .agg cs=>.agg (cs.map norm0) | v=>norm0 v
theorem repV_norm0 {w:World} {A:Nat→Nat→Prop} {x:V} {v:Value} (h:RepV w A x v):RepV w A (norm0 x) v:=by
 cases x<;>first | exact h | (cases h;exact .nil _ _)
theorem zlK {w:World} {A:Nat→Nat→Prop}:∀ {x:List V} {v:List Value},RepL w A x v→RepL w A (x.map norm0) v
 | _,_,.nil=>.nil
 | _,_,.cons _ _ _ _ h1 h2=>.cons _ _ _ _ (repV_norm0 h1) (zlK h2)
theorem repV_norm1 {w:World} {A:Nat→Nat→Prop} {x:V} {v:Value} (h:RepV w A x v):RepV w A (norm1 x) v:=by
 cases x<;>first | exact repV_norm0 h | (cases h with | agg cs vs h=>exact .agg _ _ (zlK h))
end Vm
