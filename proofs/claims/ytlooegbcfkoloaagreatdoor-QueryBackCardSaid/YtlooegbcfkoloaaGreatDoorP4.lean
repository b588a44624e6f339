/- Part of the proof: see the last text. -/
import Derived.Test.YtlooegbcfkoloaaGreatDoorP3
set_option maxRecDepth 20000
set_option linter.unusedVariables false
set_option linter.unusedSimpArgs false
namespace Vm
open Go Go.RowKit
def zes (P:Program) (t:TypeId):Option (Bool×Nat) :=
 match P.underlying t,P.info? t with
 | some d,some i=>some (match d with | .struct _=>true | .array _ _=>true | _=>false,i.size)
 | _,_=>none
def zk1 (P:Program) (s f:Nat):Option (Nat×Nat×Bool) :=
 match P.underlying s with
 | some (.struct fs)=>match fs[f]? with
  | some fd=>match zes P fd.type with
   | some (ag,n)=>some (fd.offset,n,ag)
   | none=>none
  | none=>none
 | _=>none
def eszT (P:Program) (t:TypeId):Option Nat:=match P.underlying t with | some (.slice e)=>(P.info? e).map (·.size) | _=>none
def strT (P:Program) (t:TypeId):Bool:=match P.underlying t with | some .string=>true | _=>false
theorem zmM {w:World} {A:Nat→Nat→Prop} {st:Nat→Ent} {H:Nat→Value} {x:V} {v:Value} (h:RepT w A st H x v) (ho:x.one=true):v.oneCell'=true:=by
 cases x<;>first | (simp [V.one] at ho;done) | skip
 case ptr id off =>
  rcases h with ⟨b,_,_,rfl⟩ | h
  ·rfl
  ·cases h
 case row id n =>
  obtain ⟨_,_,_,_,_,h,_⟩:=h
  exact zfP h rfl
 case fn f a b =>
  obtain ⟨_,_,rfl,_⟩:=h
  rfl
 all_goals exact zfP (h.resolve_left (fun h=>h.elim)) rfl
theorem repK_T {w:World} {A:Nat→Nat→Prop} {st:Nat→Ent} {H:Nat→Value} {x:V} {v:Value} (h:RepK w A st H x v):RepT w A st H x v:=by
 cases x<;>first | exact h | exact RepV.toT h
theorem zs5 {w:World} {A:Nat→Nat→Prop} {st:Nat→Ent} {H:Nat→Value}:∀ {x:List V} {v:List Value},zco w A st H x v→zaY w A st H x v
 | [],_,h=>h
 | _ :: _,_,⟨u,us,h1,h2,h3⟩=>⟨u,us,h1,repK_T h2,zs5 h3⟩
theorem zlI {w:World} {A:Nat→Nat→Prop} {st:Nat→Ent} {H:Nat→Value} {x:V} {v:Value} (h:RepT w A st H x v) (ho:x.isTa=true∨x.isAgg=true∨x.one=true):zaY w A st H x.cells v.cells.toList:=by
 by_cases hta:x.isTa=true
 ·cases x<;>simp [V.isTa] at hta
  obtain ⟨vs,rfl,h1⟩:=h
  simpa [V.cells,Value.cells] using zs5 h1
 replace ho:=ho.resolve_left hta
 by_cases ha:x.isAgg=true
 ·cases x<;>simp [V.isAgg] at ha
  have h1:=h.data rfl
  cases h1 with
  | agg cs vs h1=>simpa [V.cells,Value.cells] using zjQ h1
 ·have ho:=ho.resolve_left ha
  have h1:=zmM h ho
  have h2:v.cells=#[v]:=by cases v<;>first | rfl | simp [Value.oneCell'] at h1
  have h3:x.cells=[x]:=by cases x<;>first | rfl | (simp [V.isTa] at hta;done) | simp [V.isAgg] at ha
  rw [h2,h3]
  exact ⟨v,[],rfl,h,rfl⟩
theorem zn4 {w:World} {A:Nat→Nat→Prop} {st:Nat→Ent} {H:Nat→Value}:∀ {x:List V} {v:List Value},zaY w A st H x v→x.all V.one=true→∀ u∈v,u.oneCell'=true
 | [],_,h,_,_,hu=>by rw [h] at hu;simp at hu
 | _ :: _,_,⟨u,us,h1,h2,h3⟩,ho,u',hu=>by
  simp only [List.all_cons,Bool.and_eq_true] at ho
  subst h1
  rcases List.mem_cons.1 hu with rfl | hu
  ·exact zmM h2 ho.1
  ·exact zn4 h3 ho.2 _ hu
theorem zhn {x:V} (h:x.storable=true):(x.isTa=true∨x.isAgg=true∨x.one=true)∧x.cells.all V.one=true:=by
 cases x<;>first | exact ⟨.inl rfl,h⟩ | exact ⟨.inr (.inl rfl),h⟩ | exact ⟨.inr (.inr rfl),rfl⟩ | cases h
def ziW (P:Program) (t:TypeId) (v:V) (st:Nat→Ent):Option V :=
 match zes P t with
 | some (true,n)=>match v with
  | .ptr id off=>match st id with
   | .blk _ cs=>if ((cs.drop off).take n).length=n∧(((cs.drop off).take n).map (res st)).all V.data=true then some (.agg (((cs.drop off).take n).map (res st))) else none
   | _=>none
  | .ip x off=>if off=0∧x.isAgg=true∧x.size=n then some x else if off+n≤x.size then some (.agg ((x.cells.drop off).take n)) else none
  | _=>none
 | some (false,_)=>match v with
  | .ptr id off=>match st id with
   | .blk _ cs=>cs[off]?
   | _=>none
  | .ip x off=>x.cells[off]?
  | _=>none
 | none=>none
theorem zfu {P:Program} {t:TypeId} {ag:Bool} {n:Nat} (h:zes P t=some (ag,n)) (w:World):(isAgg t).run P w=.ok ag w∧(Go.sizeOf t).run P w=.ok n w:=by
 unfold zes at h
 cases hu:P.underlying t with
 | none=>simp [hu] at h
 | some d =>
  cases hi:P.info? t with
  | none=>simp [hu,hi] at h
  | some i =>
   simp only [hu,hi,Option.some.injEq,Prod.mk.injEq] at h
   obtain ⟨h1,rfl⟩:=h
   refine ⟨?_,by simp [Go.sizeOf,typeInfo,hi]⟩
   simp only [isAgg,Sem.run_bind,run_underlying hu,Result.andThen_ok]
   subst h1
   cases d<;>rfl
theorem zd5 {P:Program} {w:World} {t:TypeId} {n b o:Nat} (h:zes P t=some (true,n)) (us:List Value) (hl:us.length=n) (hc:∀ j u,us[j]?=some u→w.cell? ⟨b,o+j,none⟩=some u) :
  (Instr.loadAt t (.pointer (some ⟨b,o,none⟩))).run P w=.ok (.agg us.toArray) w:=by
 obtain ⟨h1,h2⟩:=zfu h w
 have h3:=run_loadCells_list (P:=P) w ⟨b,o,none⟩ us (fun j u hu=>by
  have:(⟨b,o,none⟩:Addr).add j=⟨b,o+j,none⟩:=by unfold Addr.add;by_cases h:j=0<;>simp [h]
  rw [this];exact hc j u hu)
 subst hl
 simp [Instr.loadAt,Instr.sureAddr,loadVar,h1,h2,h3]
theorem zhq {P:Program} {w:World} {t:TypeId} {n:Nat} {ad:Addr} (h:zes P t=some (false,n)) (u:Value) (hc:w.cell? ad=some u):(Instr.loadAt t (.pointer (some ad))).run P w=.ok u w:=by
 obtain ⟨h1,h2⟩:=zfu h w
 simp [Instr.loadAt,Instr.sureAddr,loadVar,h1,load,Sem.run,hc]
theorem blk_at {w:World} {b T:Nat} {C:Array Value} (hw:w.heap[b]?=some (.cells C T (0,0))) {j:Nat} {u:Value} (hu:C.toList[j]?=some u):w.cell? ⟨b,j,none⟩=some u:=by
 simp [World.cell?,hw]
 simpa using hu
theorem zph {c:Ctx} {x:X} {a:Act} {w:World} {H:Nat→Value} {A:Nat→Nat→Prop} (h:SimH c x a w H A) {id off:Nat} {v:Value} (hv:RepT w A x.st H (.ptr id off) v) {T:TypeId} {cs:List V} (hs:x.st id=.blk T cs) :
  ∃ b C,H id=.pointer (some ⟨b,0,none⟩)∧v=.pointer (some ⟨b,off,none⟩)∧w.heap[b]?=some (.cells C T (0,0))∧zaY w A x.st H cs C.toList:=by
 rcases hv with ⟨b,h1,h2,h3⟩ | hv
 ·have h4:=h.ent id
  rw [hs,h1] at h4
  obtain ⟨b',C,h5,h6,h7,_⟩:=h4
  simp only [Value.pointer.injEq,Option.some.injEq,Addr.mk.injEq,and_true] at h5
  subst h5
  exact ⟨b,C,h1,h3,h6,h7⟩
 ·cases hv
theorem zlD {P:Program} {c:Ctx} {x:X} {a:Act} {w:World} {H:Nat→Value} {A:Nat→Nat→Prop} (h:SimH c x a w H A) {t:TypeId} {y v:V} {yv:Value} (hy:RepT w A x.st H y yv) (hs:ziW P t y x.st=some v) :
  ∃ xv,(Instr.loadAt t yv).run P w=.ok xv w∧RepT w A x.st H v xv:=by
 unfold ziW at hs
 split at hs
 ·rename_i n hsh
  split at hs
  ·rename_i id off
   split at hs
   ·rename_i T cs hst
    split at hs
    ·rename_i hc
     obtain ⟨b,C,h1,rfl,h3,h4⟩:=zph h hy hst
     cases hs
     have h5:=zi3 n (zi4 off h4)
     have hl:=zct h5
     refine ⟨_,zd5 hsh ((C.toList.drop off).take n) (by rw [← hl];exact hc.1) (fun j u hu=>?_),Or.inr (.agg _ _ (zs2 (zkw h5) hc.2))⟩
     refine blk_at h3 ?_
     rw [List.getElem?_take] at hu
     split at hu
     ·simpa using hu
     ·cases hu
    ·cases hs
   ·cases hs
  ·rename_i e off
   have hy':RepV w A (.ip e off) yv:=hy.resolve_left (fun h=>h.elim)
   cases hy' with
   | ip _ _ b o vs hc hat =>
    split at hs
    ·rename_i h0
     obtain ⟨rfl,h1,h2⟩:=h0
     cases hs
     cases hc with
     | one _ v hna _=>rw [one_agg hna] at h1;cases h1
     | agg cs _ _ hl =>
      refine ⟨_,zd5 hsh vs (by rw [← h2,V.size,V.cells,zcu hl]) (fun j u hu=>(hat.2 j u hu).1),Or.inr (.agg _ _ hl)⟩
    ·split at hs
     ·rename_i h1
      cases hs
      have hl:=zi5 hc
      have hln:=zcu hl
      rw [V.size] at h1
      refine ⟨_,zd5 hsh ((vs.drop off).take n) (by simp;omega) (fun j u hu=>?_),Or.inr (.agg _ _ (zim n (zin off hl)))⟩
      have:=(zu3 (zu4 hat off) n).2 j u hu
      exact this.1
     ·cases hs
  ·cases hs
 ·rename_i n hsh
  split at hs
  ·rename_i id off
   split at hs
   ·rename_i T cs hst
    obtain ⟨b,C,h1,rfl,h3,h4⟩:=zph h hy hst
    obtain ⟨u,h5,h6⟩:=zfD h4 off v hs
    exact ⟨u,zhq hsh u (blk_at h3 h5),h6⟩
   ·cases hs
  ·rename_i e off
   have hy':RepV w A (.ip e off) yv:=hy.resolve_left (fun h=>h.elim)
   cases hy' with
   | ip _ _ b o vs hc hat =>
    obtain ⟨u,h5,h6⟩:=zjR (zi5 hc) off v hs
    exact ⟨u,zhq hsh u (hat.2 off u h5).1,h6.toT⟩
  ·cases hs
 ·cases hs
def zgr (P:Program) (s:TypeId) (v:V) (f:Nat):Option V :=
 match zk1 P s f with
 | some (o,n+1,_)=>match v with
  | .ptr id off=>some (.ptr id (off+o))
  | .ip x off=>some (.ip x (off+o))
  | _=>none
 | _=>none
theorem zh0 {P:Program} {s f o n:Nat} {ag:Bool} (h:zk1 P s f=some (o,n,ag)):∃ fs fd,P.underlying s=some (.struct fs)∧fs[f]?=some fd∧fd.offset=o∧zes P fd.type=some (ag,n):=by
 unfold zk1 at h
 split at h
 ·rename_i fs hu
  split at h
  ·rename_i fd hf
   split at h
   ·rename_i ag' n' hs
    simp only [Option.some.injEq,Prod.mk.injEq] at h
    obtain ⟨h1,h2,h3⟩:=h
    subst h2 h3
    exact ⟨fs,fd,hu,hf,h1,hs⟩
   ·cases h
  ·cases h
 ·cases h
theorem ziJ (b o k:Nat):(⟨b,o,none⟩:Addr).add k=⟨b,o+k,none⟩:=by unfold Addr.add;by_cases h:k=0<;>simp [h]
theorem zhr {P:Program} {w:World} {s f o n b off:Nat} {ag:Bool} (h:zk1 P s f=some (o,n+1,ag)):(Instr.fieldAt s (.pointer (some ⟨b,off,none⟩)) f).run P w=.ok (.pointer (some ⟨b,off+o,none⟩)) w:=by
 obtain ⟨fs,fd,hu,hf,rfl,hs⟩:=zh0 h
 obtain ⟨_,h2⟩:=zfu hs w
 simp [Instr.fieldAt,run_underlying hu,hf,Instr.sureAddr,fieldPlace,h2,ziJ]
theorem zkn {P:Program} {w:World} {A:Nat→Nat→Prop} {st:Nat→Ent} {H:Nat→Value} {s f:Nat} {y v:V} {yv:Value} (hy:RepT w A st H y yv) (hs:zgr P s y f=some v) :
  ∃ xv,(Instr.fieldAt s yv f).run P w=.ok xv w∧RepT w A st H v xv:=by
 unfold zgr at hs
 split at hs
 ·rename_i o n ag hf
  split at hs
  ·rename_i id off
   cases hs
   rcases hy with ⟨b,h1,h2,rfl⟩ | hy
   ·exact ⟨_,zhr hf,Or.inl ⟨b,h1,h2,rfl⟩⟩
   ·cases hy
  ·rename_i e off
   cases hs
   have hy':RepV w A (.ip e off) yv:=hy.resolve_left (fun h=>h.elim)
   cases hy' with
   | ip _ _ b o' vs hc hat =>
    refine ⟨_,zhr hf,Or.inr ?_⟩
    rw [Nat.add_assoc]
    exact .ip e (off+o) b o' vs hc hat
  ·cases hs
 ·cases hs
def zjP (P:Program) (s:TypeId) (v:V) (f:Nat):Option V :=
 match zk1 P s f,v with
 | some (o,n,true),.agg cs=>if o+n≤cs.length then some (.agg ((cs.drop o).take n)) else none
 | some (o,_,false),.agg cs=>cs[o]?
 | _,_=>none
theorem zo4 {P:Program} {w:World} {A:Nat→Nat→Prop} {st:Nat→Ent} {H:Nat→Value} {s f:Nat} {y v:V} {yv:Value} (hy:RepT w A st H y yv) (hs:zjP P s y f=some v) :
  ∃ xv,(Instr.field s yv f).run P w=.ok xv w∧RepT w A st H v xv:=by
 unfold zjP at hs
 split at hs
 ·rename_i o n cs hf
  obtain ⟨fs,fd,hu,hff,rfl,hsh⟩:=zh0 hf
  obtain ⟨h1,h2⟩:=zfu hsh w
  split at hs
  ·rename_i hle
   cases hs
   cases hy.data rfl with
   | agg _ vs hl =>
    have hln:=zcu hl
    refine ⟨.agg ((vs.drop fd.offset).take n).toArray, ?_,Or.inr (.agg _ _ (zim n (zin _ hl)))⟩
    simp [Instr.field,run_underlying hu,hff,asAgg,part,h1,h2]
  ·cases hs
 ·rename_i o n cs hf
  obtain ⟨fs,fd,hu,hff,rfl,hsh⟩:=zh0 hf
  obtain ⟨h1,h2⟩:=zfu hsh w
  cases hy.data rfl with
  | agg _ vs hl =>
   obtain ⟨u,h3,h4⟩:=zjR hl _ _ hs
   exact ⟨u,by simp [Instr.field,run_underlying hu,hff,asAgg,part,h1,h3],h4.toT⟩
 ·cases hs
def zeZ (P:Program) (t:TypeId) (v i:V):Option V :=
 match eszT P t,v,i with
 | some z,.list xs,.int _ n=>match xs[n.toNat]? with
  | some x=>if 0≤n∧x.size=z then some (.ip x 0) else none
  | none=>none
 | _,_,_=>none
theorem ziA {P:Program} {t z:Nat} (h:eszT P t=some z):∃ e i,P.underlying t=some (.slice e)∧P.info? e=some i∧i.size=z:=by
 unfold eszT at h
 split at h
 ·rename_i e hu
  cases hi:P.info? e with
  | none=>simp [hi] at h
  | some i=>simp [hi] at h;exact ⟨e,i,hu,hi,h⟩
 ·cases h
theorem zio {w:World} {A:Nat→Nat→Prop} {x:V} {vs:List Value} (h:RepC w A x vs):x.size=vs.length:=zcu (zi5 h)
theorem at_part {w:World} {A:Nat→Nat→Prop} {b off k:Nat} {vs us:List Value} (h:At w A b off vs) (hu:∀ j u,us[j]?=some u→vs[k+j]?=some u):At w A b (off+k) us :=
 ⟨h.1,fun j u hj=>by
  have:=h.2 (k+j) u (hu j u hj)
  rwa [← Nat.add_assoc] at this⟩
theorem zkm {P:Program} {w:World} {A:Nat→Nat→Prop} {st:Nat→Ent} {H:Nat→Value} {t:Nat} {y i v:V} {yv iv:Value} (hy:RepT w A st H y yv) (hi:RepT w A st H i iv) (hs:zeZ P t y i=some v) :
  ∃ xv,(Instr.indexAt t yv iv).run P w=.ok xv w∧RepT w A st H v xv:=by
 unfold zeZ at hs
 split at hs
 ·rename_i z xs k n hz
  split at hs
  ·rename_i e he
   split at hs
   ·rename_i hn
    obtain ⟨hn,hsz⟩:=hn
    cases hs
    obtain ⟨el,inf,hu,hinf,rfl⟩:=ziA hz
    cases hi.data rfl
    cases hy.data rfl with
    | nil a c=>simp at he
    | list _ z' b off c vs hne hE hat hle hm =>
     obtain ⟨us,h1,h2,h3⟩:=zqi hE _ _ he
     have hlt:n.toNat < xs.length:=(List.getElem?_eq_some_iff.1 he).1
     have hz':inf.size=z':=by rw [← hsz,zio h1,h2]
     refine ⟨.pointer (some ⟨b,off+n.toNat * inf.size,none⟩), ?_,Or.inr ?_⟩
     ·have hr:0≤n∧n < (xs.length:Int):=⟨hn,by omega⟩
      simp [Instr.indexAt,asIntOf,run_underlying hu,Go.sizeOf,typeInfo,hinf,hr,ziJ]
     ·rw [hz']
      exact .ip e 0 b (off+n.toNat * z') us h1 (at_part hat h3)
   ·cases hs
  ·cases hs
 ·cases hs
def zjO (P:Program) (t:TypeId) (v i:V):Option V :=
 match strT P t,v,i with
 | true,.str s,.int _ n=>match s[n.toNat]? with
  | some c=>if 0≤n then some (.int .u8 (c.toNat:Int)) else none
  | none=>none
 | _,_,_=>none
theorem zkg {P:Program} {t:Nat} (h:strT P t=true):P.underlying t=some .string:=by
 unfold strT at h
 split at h
 ·assumption
 ·cases h
theorem zo2 {P:Program} {w:World} {A:Nat→Nat→Prop} {st:Nat→Ent} {H:Nat→Value} {t:Nat} {y i v:V} {yv iv:Value} (hy:RepT w A st H y yv) (hi:RepT w A st H i iv) (hs:zjO P t y i=some v) :
  ∃ xv,(Instr.index t yv iv).run P w=.ok xv w∧RepT w A st H v xv:=by
 unfold zjO at hs
 split at hs
 ·rename_i s k n ht
  split at hs
  ·rename_i ch hc
   split at hs
   ·rename_i hn
    cases hs
    cases hi.data rfl
    cases hy.data rfl
    refine ⟨_, ?_,Or.inr (.int .u8 _)⟩
    have hlt:n.toNat < s.length:=(List.getElem?_eq_some_iff.1 hc).1
    have h1:(Lx.bs s)[n.toNat]?=some ch:=by
     rw [getElem?_pos (Lx.bs s) n.toNat (by rw [Lx.zaN];exact hlt)]
     obtain ⟨_,h2⟩:=List.getElem?_eq_some_iff.1 hc
     rw [← h2]
     rfl
    simp [Instr.index,asIntOf,run_underlying (zkg ht),hn,h1]
   ·cases hs
  ·cases hs
 ·cases hs
end Vm
