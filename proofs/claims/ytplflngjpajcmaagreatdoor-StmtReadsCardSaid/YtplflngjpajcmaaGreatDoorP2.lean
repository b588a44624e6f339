/- Part of the proof: see the last text. -/
import Derived.Test.YtplflngjpajcmaaGreatDoorP1
set_option maxRecDepth 20000
set_option linter.unusedVariables false
set_option linter.unusedSimpArgs false
noncomputable section
namespace Vm
section
open Go Go.RowKit
def onS(p:Nat→Bool):V→Bool|.ptr id _=>p id|_=>true
def onK(p:Nat→Bool):V→Bool|.row id _=>p id|_=>true
def V.on(p:Nat→Bool):V→Bool
 |.ptr id _=>p id
 |.row id _=>p id
 |.fn _ a b=>a.all (onS p) && b.all (onS p)
 |.ta cs=>cs.all (onK p)
 |.mr id _=>p id
 |.rp id _ _=>p id
 |_=>true
def renS(ρ:Nat→Nat):V→V|.ptr id off=>.ptr (ρ id) off|v=>v
def renK(ρ:Nat→Nat):V→V|.row id n=>.row (ρ id) n|v=>v
def V.ren(ρ:Nat→Nat):V→V
 |.ptr id off=>.ptr (ρ id) off
 |.row id n=>.row (ρ id) n
 |.fn f a b=>.fn f (a.map (renS ρ)) (b.map (renS ρ))
 |.ta cs=>.ta (cs.map (renK ρ))
 |.mr id n=>.mr (ρ id) n
 |.rp id n off=>.rp (ρ id) n off
 |v=>v
def Ent.on(p:Nat→Bool):Ent→Bool|.blk _ cs=>cs.all (V.on p)|_=>true
def Ent.ren(ρ:Nat→Nat):Ent→Ent|.blk T cs=>.blk T (cs.map (V.ren ρ))|e=>e
theorem zjX{ρ:Nat→Nat}{e:Ent}{T:TypeId}{cs:List V}(h:e.ren ρ=.blk T cs):∃cs',e=.blk T cs'∧cs=cs'.map (V.ren ρ):=by
 cases e<;>simp[Ent.ren]at h;exact⟨_,by rw[h.1],h.2.symm⟩
theorem zf2{ρ:Nat→Nat}{e:Ent}{T z:Nat}{xs:List V}(h:e.ren ρ=.row T z xs):e=.row T z xs:=by
 cases e<;>simp[Ent.ren]at h;obtain⟨rfl,rfl,rfl⟩:=h;rfl
theorem zd6{ρ:Nat→Nat}{e:Ent}{T z:Nat}{xs:List V}(h:e.ren ρ=.mrow T z xs):e=.mrow T z xs:=by
 cases e<;>simp[Ent.ren]at h;obtain⟨rfl,rfl,rfl⟩:=h;rfl
theorem zd8{ρ:Nat→Nat}{e:Ent}{T z:Nat}{xs:List V}(h:e.ren ρ=.frow T z xs):e=.frow T z xs:=by
 cases e<;>simp[Ent.ren]at h;obtain⟨rfl,rfl,rfl⟩:=h;rfl
theorem zd7{ρ:Nat→Nat}{e:Ent}(h:e.ren ρ=.gone):e=.gone:=by cases e<;>simp[Ent.ren]at h;rfl
structure Cor(p:Nat→Bool)(ρ:Nat→Nat)(st:Nat→Ent)(H:Nat→Value)(st':Nat→Ent)(H':Nat→Value):Prop where
 val:∀id,p id=true→H' (ρ id)=H id
 ent:∀id,p id=true→st' (ρ id)=(st id).ren ρ
section
variable{w:World}{A:Nat→Nat→Prop}{st st':Nat→Ent}{H H':Nat→Value}{p:Nat→Bool}{ρ:Nat→Nat}
theorem RepP.ren{id off:Nat}{xv:Value}(c:Cor p ρ st H st' H')(h:RepP st H (.ptr id off) xv)(hp:p id=true):RepP st' H' (.ptr (ρ id) off) xv:=by
 obtain⟨b,h1,⟨T,cs,h2⟩,h3⟩:=h;exact⟨b,(c.val _ hp).trans h1,⟨T,cs.map (V.ren ρ),by rw[c.ent _ hp,h2];rfl⟩,h3⟩
theorem RepP.unren{id off:Nat}{xv:Value}(c:Cor p ρ st H st' H')(h:RepP st' H' (.ptr (ρ id) off) xv)(hp:p id=true):RepP st H (.ptr id off) xv:=by
 obtain⟨b,h1,⟨T,cs,h2⟩,h3⟩:=h;rw[c.ent _ hp]at h2;obtain⟨cs',h2,_⟩:=zjX h2;exact⟨b,(c.val _ hp).symm.trans h1,⟨T,cs',h2⟩,h3⟩
theorem RepS.ren{x:V}{xv:Value}(c:Cor p ρ st H st' H')(h:RepS w A st H x xv)(hp:onS p x=true):RepS w A st' H' (renS ρ x) xv:=by
 cases x<;>first|exact h.imp (fun h=>h.elim) id|skip
 rcases h with h|h
 ·exact .inl (RepP.ren c h hp)
 ·cases h
theorem RepS.unren{x:V}{xv:Value}(c:Cor p ρ st H st' H')(h:RepS w A st' H' (renS ρ x) xv)(hp:onS p x=true):RepS w A st H x xv:=by
 cases x<;>first|exact h.imp (fun h=>h.elim) id|skip
 rcases h with h|h
 ·exact .inl (RepP.unren c h hp)
 ·cases h
theorem zaJ.ren(c:Cor p ρ st H st' H'):∀{xs:List V} {vs:List Value},zaJ w A st H xs vs→xs.all (onS p)=true→zaJ w A st' H' (xs.map (renS ρ)) vs
 |[],_,h,_=>h
 |_::_,_,⟨u,us,h1,h2,h3⟩,hp=>by
  simp only[qa34,qa21]at hp;exact⟨u,us,h1,RepS.ren c h2 hp.1,zaJ.ren c h3 hp.2⟩
theorem zaJ.unren(c:Cor p ρ st H st' H'):∀{xs:List V} {vs:List Value},zaJ w A st' H' (xs.map (renS ρ)) vs→xs.all (onS p)=true→zaJ w A st H xs vs
 |[],_,h,_=>h
 |_::_,_,⟨u,us,h1,h2,h3⟩,hp=>by
  simp only[qa34,qa21]at hp;exact⟨u,us,h1,RepS.unren c h2 hp.1,zaJ.unren c h3 hp.2⟩
theorem RepK.ren{x:V}{xv:Value}(c:Cor p ρ st H st' H')(h:RepK w A st H x xv)(hp:onK p x=true):RepK w A st' H' (renK ρ x) xv:=by
 cases x<;>first|exact h|skip
 obtain⟨T,z,xs,h1,h2,h3,h4⟩:=h;exact⟨T,z,xs,by rw[c.ent _ hp,h1];rfl,h2,h3,fun hn=>(h4 hn).trans (c.val _ hp).symm⟩
theorem RepK.unren{x:V}{xv:Value}(c:Cor p ρ st H st' H')(h:RepK w A st' H' (renK ρ x) xv)(hp:onK p x=true):RepK w A st H x xv:=by
 cases x<;>first|exact h|skip
 obtain⟨T,z,xs,h1,h2,h3,h4⟩:=h;rw[c.ent _ hp]at h1;exact⟨T,z,xs,zf2 h1,h2,h3,fun hn=>(h4 hn).trans (c.val _ hp)⟩
theorem zaC.ren(c:Cor p ρ st H st' H'):∀{xs:List V} {vs:List Value},zaC w A st H xs vs→xs.all (onK p)=true→zaC w A st' H' (xs.map (renK ρ)) vs
 |[],_,h,_=>h
 |_::_,_,⟨u,us,h1,h2,h3⟩,hp=>by
  simp only[qa34,qa21]at hp;exact⟨u,us,h1,RepK.ren c h2 hp.1,zaC.ren c h3 hp.2⟩
theorem zaC.unren(c:Cor p ρ st H st' H'):∀{xs:List V} {vs:List Value},zaC w A st' H' (xs.map (renK ρ)) vs→xs.all (onK p)=true→zaC w A st H xs vs
 |[],_,h,_=>h
 |_::_,_,⟨u,us,h1,h2,h3⟩,hp=>by
  simp only[qa34,qa21]at hp;exact⟨u,us,h1,RepK.unren c h2 hp.1,zaC.unren c h3 hp.2⟩
theorem RepT.ren{x:V}{xv:Value}(c:Cor p ρ st H st' H')(h:RepT w A st H x xv)(hp:x.on p=true):RepT w A st' H' (x.ren ρ) xv:=by
 cases x<;>first|trivial|exact h.imp (fun h=>h.elim) id|skip
 ·rcases h with h|h
  ·exact .inl (RepP.ren c h hp)
  ·cases h
 ·obtain⟨T,z,xs,h1,h2,h3,h4⟩:=h;exact⟨T,z,xs,by rw[c.ent _ hp,h1];rfl,h2,h3,fun hn=>(h4 hn).trans (c.val _ hp).symm⟩
 ·obtain⟨fs,cs,h1,h2,h3⟩:=h;simp only[V.on,qa21]at hp;exact⟨fs,cs,h1,zaJ.ren c h2 hp.1,zaJ.ren c h3 hp.2⟩
 ·obtain⟨vs,h1,h2⟩:=h;exact⟨vs,h1,zaC.ren c h2 hp⟩
 ·obtain⟨h0,T,z,xs,h1,h2⟩:=h;refine⟨h0,T,z,xs,h1, ?_⟩;rw[c.ent _ hp,c.val _ hp];rcases h2 with⟨h2,h3⟩|⟨h2,h3⟩<;>rw[h2]
  ·exact .inl ⟨rfl,h3⟩
  ·exact .inr ⟨rfl,h3⟩
 ·obtain⟨h0,T,z,xs,h1,h2,h3⟩:=h;refine⟨h0,T,z,xs,h1, ?_, ?_⟩
  ·rw[c.ent _ hp];rcases h2 with h2|h2<;>rw[h2]
   ·exact .inl rfl
   ·exact .inr rfl
  ·rw[c.val _ hp];exact h3
theorem RepT.unren{x:V}{xv:Value}(c:Cor p ρ st H st' H')(h:RepT w A st' H' (x.ren ρ) xv)(hp:x.on p=true):RepT w A st H x xv:=by
 cases x<;>first|trivial|exact h.imp (fun h=>h.elim) id|skip
 ·rcases h with h|h
  ·exact .inl (RepP.unren c h hp)
  ·cases h
 ·obtain⟨T,z,xs,h1,h2,h3,h4⟩:=h;rw[c.ent _ hp]at h1;exact⟨T,z,xs,zf2 h1,h2,h3,fun hn=>(h4 hn).trans (c.val _ hp)⟩
 ·obtain⟨fs,cs,h1,h2,h3⟩:=h;simp only[V.on,qa21]at hp;exact⟨fs,cs,h1,zaJ.unren c h2 hp.1,zaJ.unren c h3 hp.2⟩
 ·obtain⟨vs,h1,h2⟩:=h;exact⟨vs,h1,zaC.unren c h2 hp⟩
 ·obtain⟨h0,T,z,xs,h1,h2⟩:=h;refine⟨h0,T,z,xs,h1, ?_⟩;rw[c.ent _ hp,c.val _ hp]at h2;rcases h2 with⟨h2,h3⟩|⟨h2,h3⟩
  ·exact .inl ⟨zd6 h2,h3⟩
  ·exact .inr ⟨zd8 h2,h3⟩
 ·obtain⟨h0,T,z,xs,h1,h2,h3⟩:=h;rw[c.ent _ hp]at h2;rw[c.val _ hp]at h3;exact⟨h0,T,z,xs,h1,h2.imp zd6 zd8,h3⟩
theorem zam.ren(c:Cor p ρ st H st' H'):∀{xs:List V} {vs:List Value},zam w A st H xs vs→xs.all (V.on p)=true→zam w A st' H' (xs.map (V.ren ρ)) vs
 |[],_,h,_=>h
 |_::_,_,⟨u,us,h1,h2,h3⟩,hp=>by
  simp only[qa34,qa21]at hp;exact⟨u,us,h1,RepT.ren c h2 hp.1,zam.ren c h3 hp.2⟩
theorem zam.unren(c:Cor p ρ st H st' H'):∀{xs:List V} {vs:List Value},zam w A st' H' (xs.map (V.ren ρ)) vs→xs.all (V.on p)=true→zam w A st H xs vs
 |[],_,h,_=>h
 |_::_,_,⟨u,us,h1,h2,h3⟩,hp=>by
  simp only[qa34,qa21]at hp;exact⟨u,us,h1,RepT.unren c h2 hp.1,zam.unren c h3 hp.2⟩
theorem RepEnt.ren{base:Nat}{e:Ent}{v:Value}(c:Cor p ρ st H st' H')(h:RepEnt w A st H base e v)(hp:e.on p=true):RepEnt w A st' H' base (e.ren ρ) v:=by
 cases e with
 |gone=>trivial
 |blk T cs=>obtain⟨b,C,h1,h2,h3,h4⟩:=h;exact⟨b,C,h1,h2,zam.ren c h3 hp,h4⟩
 |row T z xs=>exact h
 |mrow T z xs=>exact h
 |frow T z xs=>exact h
theorem RepEnt.unren{base:Nat}{e:Ent}{v:Value}(c:Cor p ρ st H st' H')(h:RepEnt w A st' H' base (e.ren ρ) v)(hp:e.on p=true):RepEnt w A st H base e v:=by
 cases e with
 |gone=>trivial
 |blk T cs=>obtain⟨b,C,h1,h2,h3,h4⟩:=h;exact⟨b,C,h1,h2,zam.unren c h3 hp,h4⟩
 |row T z xs=>exact h
 |mrow T z xs=>exact h
 |frow T z xs=>exact h
end
structure Mem(c:Ctx)(st:Nat→Ent)(w:World)(H:Nat→Value)(A:Nat→Nat→Prop):Prop where
 glo:∀g,c.G g=.any∨RepV w A (c.G g) (.pointer (some ⟨g,0,none⟩))
 kp:Keeps c.w0 c.A0 w A
 ent:∀id,RepEnt w A st H 0 (st id) (H id)
 dis:∀id id',id≠id'→st id≠.gone→st id'≠.gone→∀b,blockOf (H id)=some b→blockOf (H id')≠some b
 a00:∀b o,c.A0 b o→b<c.w0.heap.size
 a0:∀b o,c.A0 b o→(∀id,id<c.n0→blockOf (c.H0 id)≠some b)→A b o
 al:∀b o,A b o→b<w.heap.size
 out:Foll c.E0 c.H0 st H
 lent:∀id b,id<c.n0→st id≠.gone→blockOf (H id)=some b→b<c.w0.heap.size→blockOf (c.H0 id)=some b
 loc:∀id b,c.n0≤id→st id≠.gone→blockOf (H id)=some b→c.w0.heap.size≤b
 ext:Ext c.w0 c.n0 c.H0 w
theorem SimH.mem{c:Ctx}{x:X}{a:Act}{w:World}{H:Nat→Value}{A:Nat→Nat→Prop}(h:SimH c x a w H A):Mem c x.st w H A:=
 ⟨h.glo,h.kp,h.ent,h.dis,h.a00,h.a0,h.al,h.out,h.lent,h.loc,h.ext⟩
theorem Mem.sim{c:Ctx}{x:X}{a:Act}{w:World}{H:Nat→Value}{A:Nat→Nat→Prop}(h:Mem c x.st w H A)(tm:a.tmps.size=c.N)(df:a.defers=c.D)(env:∀t,t<c.N→RepT w A x.st H (x.env t) (a.tmps.getD t Go.undef)):SimH c x a w H A:=
 ⟨tm,df,env,h.glo,h.kp,h.ent,h.dis,h.a00,h.a0,h.al,h.out,h.lent,h.loc,h.ext⟩
theorem Mem.forD{c:Ctx}{st:Nat→Ent}{w:World}{H:Nat→Value}{A:Nat→Nat→Prop}(h:Mem c st w H A)(n:Nat)(D:List Deferred):Mem { c with N:=n,D:=D } st w H A:=
 ⟨h.glo,h.kp,h.ent,h.dis,h.a00,h.a0,h.al,h.out,h.lent,h.loc,h.ext⟩
theorem Mem.forN{c:Ctx}{st:Nat→Ent}{w:World}{H:Nat→Value}{A:Nat→Nat→Prop}(h:Mem c st w H A)(n:Nat):Mem { c with N:=n } st w H A:=
 ⟨h.glo,h.kp,h.ent,h.dis,h.a00,h.a0,h.al,h.out,h.lent,h.loc,h.ext⟩
def entF(l:List Ent):Nat→Ent:=fun i=>l.getD i .gone
inductive POut where
 |ret (v:V)
 |panic (v:V)
def OutRep(w:World)(A:Nat→Nat→Prop):POut→Ending→Prop
 |.ret v,e=>∃xv,e=.returned xv∧RepV w A v xv
 |.panic v,e=>∃xv,e=.panicked [{ v:=xv,recovered:=false }]∧RepV w A v xv
def zcT(P:Program)(f:FuncId):Bool:=match P.funcs[f]? with|some fn=>!(fn.name == "runtime.NumGoroutine") && fn.body.isSome|none=>false
theorem zdP{P:Program}{f:FuncId}(h:zcT P f=true)(args:Array Value)(w:World):(callFunc f args).run P w=.ok (.enter f args) w:=by
 unfold zcT at h;split at h
 ·rename_i fn hf;simp only[qa21,qa18]at h;have hb:fn.body≠none:=fun e=>by rw[e]at h;simp at h
  have hn:fn.name ≠ "runtime.NumGoroutine" := by simpa using h.1
  simp[callFunc,Sem.run,hf,hn,hb]
 ·cases h
def zaL(P:Program)(G:Nat→V)(f:FuncId)(args:List V)(ents:List Ent)(R:POut→List Ent→Prop):Prop:=
 zcT P f=true∧∀(w:World)(H:Nat→Value)(A:Nat→Nat→Prop)(vals:Array Value),Mem ⟨w,A,ents.length,H,entF ents,G,0,[]⟩ (entF ents) w H A→zam w A (entF ents) H args vals.toList →
  Calls P f vals w fun e w'=>∃o es H' A',R o es∧es.length=ents.length∧(∀e∈es,e.on (fun k=>decide (k<ents.length))=true)∧Mem ⟨w,A,ents.length,H,entF ents,G,0,[]⟩ (entF es) w' H' A'∧OutRep w' A' o e
theorem zaL.mono{P:Program}{G:Nat→V}{f:FuncId}{args:List V}{ents:List Ent}{R R':POut→List Ent→Prop}(h:zaL P G f args ents R)(hr:∀o es,R o es→R' o es):zaL P G f args ents R':=
 ⟨h.1,fun w H A vals hm hv=>Calls.mono (h.2 w H A vals hm hv) fun e w' ⟨o,es,H',A',h1,h2⟩=>⟨o,es,H',A',hr _ _ h1,h2⟩⟩
theorem zbe:∀(ids:List Nat)(es:List Ent)(s:Nat→Ent),ids.Nodup→es.length=ids.length →
  (∀k,k<ids.length→updL s (ids.zip es) (ids.getD k 0)=es.getD k .gone)∧∀id,id ∉ ids→updL s (ids.zip es) id=s id
 |[],_,_,_,_=>⟨fun k hk=>by simp at hk,fun _ _=>rfl⟩
 |i::ids,[],_,_,h=>by simp at h
 |i::ids,e::es,s,hn,hl=>by
  simp only[List.nodup_cons]at hn;obtain⟨h1,h2⟩:=zbe ids es (updE s i e) hn.2 (by simpa using hl);refine⟨fun k hk=>?_,fun id hid=>?_⟩
  ·cases k with
   |zero=>simpa[List.zip_cons_cons,updL,zai]using h2 i hn.1
   |succ k=>simpa[List.zip_cons_cons,updL]using h1 k (by simpa using hk)
  ·simp only[qa33,not_or]at hid;simpa[List.zip_cons_cons,updL,zab _ _ hid.1]using h2 id hid.2
def nameOf(ids:List Nat):Nat→Nat:=fun k=>ids.getD k 0
theorem zdk{ids:List Nat}{k:Nat}(h:k<ids.length):nameOf ids k∈ids:=by
 simp only[nameOf,qa3,qa5 h,Option.getD_some];exact List.getElem_mem h
theorem ziq{ids:List Nat}(hn:ids.Nodup){j k:Nat}(hj:j<ids.length)(hk:k<ids.length)(h:nameOf ids j=nameOf ids k):j=k:=by
 simp only[nameOf,qa3,qa5 hj,qa5 hk,Option.getD_some]at h;rcases Nat.lt_trichotomy j k with h1|h1|h1
 ·exact absurd h (List.pairwise_iff_getElem.1 hn j k hj hk h1)
 ·exact h1
 ·exact absurd h.symm (List.pairwise_iff_getElem.1 hn k j hk hj h1)
theorem za4{ids:List Nat}{id:Nat}(h:id∈ids):∃k,k<ids.length∧nameOf ids k=id:=by
 obtain⟨k,hk,rfl⟩:=List.mem_iff_getElem.1 h;exact⟨k,hk,by simp[nameOf,qa5 hk]⟩
structure Lends(st:Nat→Ent)(ids:List Nat)(ents:List Ent):Prop where
 nodup:ids.Nodup
 len:ents.length=ids.length
 ent:∀k,k<ids.length→st (nameOf ids k)=(entF ents k).ren (nameOf ids)
 live:∀k,k<ids.length→entF ents k≠.gone
 on:∀e∈ents,e.on (fun k=>decide (k<ids.length))=true
theorem zbE{l:List Ent}{k:Nat}(h:l.length≤k):entF l k=.gone:=by simp[entF,List.getElem?_eq_none h]
theorem zcK{l:List Ent}{k:Nat}(h:k<l.length):entF l k∈l:=by
 simp only[entF,qa3,qa5 h,Option.getD_some];exact List.getElem_mem h
section
variable{P:Program}{c:Ctx}{x:X}{a:Act}{w:World}{H:Nat→Value}{A:Nat→Nat→Prop}{ids:List Nat}{ents:List Ent}
theorem Lends.cor(hl:Lends x.st ids ents):Cor (fun k=>decide (k<ids.length)) (nameOf ids) (entF ents) (fun k=>H (nameOf ids k)) x.st H:=
 ⟨fun _ _=>rfl,fun k hk=>hl.ent k (by simpa using hk)⟩
theorem SimH.start(h:SimH c x a w H A)(hl:Lends x.st ids ents):Mem ⟨w,A,ents.length,fun k=>H (nameOf ids k),entF ents,c.G,0,[]⟩ (entF ents) w (fun k=>H (nameOf ids k)) A where
 glo:=h.glo
 kp:=Keeps.refl _ _
 ent:=fun k=>by
  by_cases hk:k<ents.length
  ·have h1:=h.ent (nameOf ids k);rw[hl.ent k (by rw[←hl.len];exact hk)]at h1;exact RepEnt.unren hl.cor h1 (hl.on _ (zcK hk))
  ·rw[zbE (Nat.le_of_not_lt hk)];trivial
 dis:=fun j k hjk hj hk b hb=>by
  have h1:j<ids.length:=Nat.lt_of_not_le (fun h1=>hj (zbE (by rw[hl.len];exact h1)));have h2:k<ids.length:=Nat.lt_of_not_le (fun h1=>hk (zbE (by rw[hl.len];exact h1)));refine h.dis _ _ (fun e=>hjk (ziq hl.nodup h1 h2 e)) ?_ ?_ b hb
  ·rw[hl.ent j h1];exact fun e=>hj (zd7 e)
  ·rw[hl.ent k h2];exact fun e=>hk (zd7 e)
 a00:=h.al
 a0:=fun b o hb _=>hb
 al:=h.al
 out:=Foll.refl _ _
 lent:=fun _ _ _ _ hb _=>hb
 loc:=fun k b hk hg _=>absurd (zbE hk) hg
 ext:=⟨rfl,rfl,rfl,qa37 _,fun _ _ _=>rfl⟩
def lendU(ids:List Nat)(es:List Ent):Upds:=ids.zip (es.map (Ent.ren (nameOf ids)))
open Classical in
theorem SimH.back(h:SimH c x a w H A)(hl:Lends x.st ids ents){es:List Ent}{w1:World}{H1:Nat→Value}{A1:Nat→Nat→Prop}(hes:es.length=ents.length)(hon:∀e∈es,e.on (fun k=>decide (k<ents.length))=true)
  (m:Mem ⟨w,A,ents.length,fun k=>H (nameOf ids k),entF ents,c.G,0,[]⟩ (entF es) w1 H1 A1) (dst:Option Tmp) (v:V) (xv:Value) (hv:RepV w1 A1 v xv):∃H',SimH c (x.put dst v (lendU ids es)) (a.put dst xv) w1 H' A1:=by
 have hlen:=hl.len;let inv:Nat→Nat:=fun id=>if h:id∈ids then(za4 h).choose else 0;have hinv:∀id,id∈ids→inv id<ids.length∧nameOf ids (inv id)=id:=fun id hid=>by
  have:=(za4 hid).choose_spec;simpa[inv,hid]using this
 have hinvn:∀k,k<ids.length→inv (nameOf ids k)=k:=fun k hk=>by
  obtain⟨h1,h2⟩:=hinv _ (zdk hk);exact ziq hl.nodup h1 hk h2
 let H':Nat→Value:=fun id=>if id∈ids then H1 (inv id)else H id;have hH1:∀id,id∈ids→H' id=H1 (inv id):=fun id hid=>if_pos hid;have hH2:∀id,id ∉ ids→H' id=H id:=fun id hid=>if_neg hid;obtain⟨hz1,hz2⟩:=zbe ids (es.map (Ent.ren (nameOf ids))) x.st hl.nodup (by simp[hes,hlen]);let st':=updL x.st (lendU ids es);have hs1:∀k,k<ids.length→st' (nameOf ids k)=(entF es k).ren (nameOf ids):=fun k hk=>by
  have:=hz1 k hk;show updL x.st (lendU ids es) (nameOf ids k)=_;have hk2:k<es.length:=by omega
  simp only[lendU,nameOf]at this ⊢;rw[this];simp[entF,qa5 hk2]
 have hs2:∀id,id ∉ ids→st' id=x.st id:=fun id hid=>hz2 id hid;have hne:∀k,k<ids.length→st' (nameOf ids k)≠.gone→entF es k≠.gone:=fun k hk hg e=>hg (by rw[hs1 k hk,e];rfl);have hxne:∀k,k<ids.length→x.st (nameOf ids k)≠.gone:=fun k hk e=>by
  rw[hl.ent k hk]at e;exact hl.live k hk (zd7 e)
 have k0:Keeps w A w1 A1:=m.kp;have hf:Foll x.st H st' H':=by
  refine⟨fun id T cs hi=>?_,fun id T z xs hi=>?_,fun id T z xs hi=>?_,fun id T z xs hi=>?_⟩
  ·by_cases hid:id∈ids
   ·obtain⟨h1,h2⟩:=hinv id hid;have hi':=hi;rw[←h2,hl.ent _ h1]at hi';obtain⟨cs',h3,_⟩:=zjX hi';obtain⟨h4,T',cs'',h5⟩:=m.out.blk _ _ _ h3;refine⟨by rw[hH1 id hid,h4];show H (nameOf ids (inv id))=_;rw[h2],T',cs''.map (V.ren (nameOf ids)), ?_⟩;have:=hs1 _ h1;rw[h2,h5]at this;exact this
   ·exact⟨hH2 id hid,T,cs,by rw[hs2 id hid];exact hi⟩
  ·by_cases hid:id∈ids
   ·obtain⟨h1,h2⟩:=hinv id hid;have hi':=hi;rw[←h2,hl.ent _ h1]at hi';have h3:=zf2 hi';obtain⟨ys,h4,h5⟩:=m.out.row _ _ _ _ h3;refine⟨ys, ?_,fun hy=>?_⟩
    ·have:=hs1 _ h1;rw[h2,h4]at this;exact this
    ·rw[hH1 id hid,h5 hy];show H (nameOf ids (inv id))=_;rw[h2]
   ·exact⟨[],by rw[hs2 id hid];simpa using hi,fun _=>hH2 id hid⟩
  ·by_cases hid:id∈ids
   ·obtain⟨h1,h2⟩:=hinv id hid;have hi':=hi;rw[←h2,hl.ent _ h1]at hi';obtain⟨ys,h4,h5,h6⟩:=m.out.mrow _ _ _ _ (zd6 hi');refine⟨ys, ?_,h5,fun hy=>?_⟩
    ·have:=hs1 _ h1;rw[h2,h4]at this;exact this
    ·rw[hH1 id hid,h6 hy];show H (nameOf ids (inv id))=_;rw[h2]
   ·exact⟨xs,by rw[hs2 id hid];exact hi,qa37 _,fun _=>hH2 id hid⟩
  ·by_cases hid:id∈ids
   ·obtain⟨h1,h2⟩:=hinv id hid;have hi':=hi;rw[←h2,hl.ent _ h1]at hi';obtain⟨h4,h5⟩:=m.out.frow _ _ _ _ (zd8 hi');refine⟨?_, ?_⟩
    ·have:=hs1 _ h1;rw[h2,h4]at this;exact this
    ·rw[hH1 id hid,h5];show H (nameOf ids (inv id))=_;rw[h2]
   ·exact⟨by rw[hs2 id hid];exact hi,hH2 id hid⟩
 have hcor:Cor (fun k=>decide (k<ents.length)) (nameOf ids) (entF es) H1 st' H':=
  ⟨fun k hk=>by
   have hk:k<ids.length:=by rw[←hlen];simpa using hk
   rw[hH1 _ (zdk hk),hinvn k hk],fun k hk=>hs1 k (by rw[←hlen];simpa using hk)⟩
 have hwhere:∀id,id∈ids→st' id≠.gone→∀b,blockOf (H' id)=some b→blockOf (H id)=some b∨w.heap.size≤b:=by
  intro id hid hg b hb;obtain⟨h1,h2⟩:=hinv id hid;rw[hH1 id hid]at hb;rcases Nat.lt_or_ge b w.heap.size with hlt|hge
  ·left;have:=m.lent (inv id) b (by show inv id<ents.length;rw[hlen];exact h1) (hne _ h1 (by rw[h2];exact hg)) hb hlt;change blockOf (H (nameOf ids (inv id)))=some b at this;rwa[h2]at this
  ·exact .inr hge
 have hfree:∀id,id ∉ ids→x.st id≠.gone→∀b,blockOf (H id)=some b→∀k,k<ents.length→blockOf (H (nameOf ids k))≠some b:=by
  intro id hid hg b hb k hk hc;rw[hlen]at hk;exact h.dis id (nameOf ids k) (fun e=>hid (e ▸ zdk hk)) hg (hxne k hk) b hb hc
 have hxlive:∀id,id∈ids→x.st id≠.gone:=fun id hid=>by
  obtain⟨h1,h2⟩:=hinv id hid;rw[←h2];exact hxne _ h1
 refine⟨H',h.go k0 hf ?_ ?_ ?_ ?_ m.al ?_ ?_ dst v xv hv.toT⟩
 ·intro id;by_cases hid:id∈ids
  ·obtain⟨h1,h2⟩:=hinv id hid;have h3:=m.ent (inv id);have h4:=RepEnt.ren hcor h3 (hon _ (zcK (by omega)));have h5:=hs1 _ h1;rw[h2]at h5;rw[h5,hH1 id hid];exact h4
  ·rw[hs2 id hid,hH2 id hid];by_cases hgo:x.st id=.gone
   ·rw[hgo];trivial
   ·refine(h.ent id).mono k0 hf (fun b hb=>?_);have hlt:=zdR (h.ent id) hgo hb;have hfr:=hfree id hid hgo b hb;exact⟨m.ext.block b hlt hfr,fun o=>⟨fun hA=>Classical.byContradiction (fun hn=>k0.shun b o hlt hn hA),fun hA=>m.a0 b o hA hfr⟩⟩
 ·intro i j hij hi hj b hb hb2;by_cases h1:i∈ids
  ·by_cases h2:j∈ids
   ·obtain⟨h3,h4⟩:=hinv i h1;obtain⟨h5,h6⟩:=hinv j h2;rw[hH1 i h1]at hb;rw[hH1 j h2]at hb2;exact m.dis (inv i) (inv j) (fun e=>hij (by rw[←h4,←h6,e])) (hne _ h3 (by rw[h4];exact hi)) (hne _ h5 (by rw[h6];exact hj)) b hb hb2
   ·rw[hH2 j h2]at hb2;have hj':x.st j≠.gone:=by rw[←hs2 j h2];exact hj
    rcases hwhere i h1 hi b hb with h3|h3
    ·exact h.dis i j hij (hxlive i h1) hj' b h3 hb2
    ·have:=zdR (h.ent j) hj' hb2;omega
  ·rw[hH2 i h1]at hb;have hi':x.st i≠.gone:=by rw[←hs2 i h1];exact hi
   by_cases h2:j∈ids
   ·rcases hwhere j h2 hj b hb2 with h3|h3
    ·exact h.dis i j hij hi' (hxlive j h2) b hb h3
    ·have:=zdR (h.ent i) hi' hb;omega
   ·rw[hH2 j h2]at hb2;exact h.dis i j hij hi' (by rw[←hs2 j h2];exact hj) b hb hb2
 ·intro b o hb hn;refine m.a0 b o (h.a0 b o hb hn) (fun k hk hc=>?_);have hk':k<ids.length:=by rw[←hlen];exact hk
  have hb0:=h.a00 b o hb;rcases Nat.lt_or_ge (nameOf ids k) c.n0 with h1|h1
  ·exact hn _ h1 (h.lent _ b h1 (hxne k hk') hc hb0)
  ·have:=h.loc _ b h1 (hxne k hk') hc;omega
 ·intro id b hid hg hb hlt;by_cases h1:id∈ids
  ·rcases hwhere id h1 hg b hb with h3|h3
   ·exact h.lent id b hid (hxlive id h1) h3 hlt
   ·have:=h.ext.size;omega
  ·rw[hH2 id h1]at hb;exact h.lent id b hid (by rw[←hs2 id h1];exact hg) hb hlt
 ·intro id b hid hg hb;by_cases h1:id∈ids
  ·rcases hwhere id h1 hg b hb with h3|h3
   ·exact h.loc id b hid (hxlive id h1) h3
   ·exact qa36 h.ext.size h3
  ·rw[hH2 id h1]at hb;exact h.loc id b hid (by rw[←hs2 id h1];exact hg) hb
 ·refine⟨m.ext.os.trans h.ext.os,m.ext.tape.trans h.ext.tape,m.ext.output.trans h.ext.output,qa36 h.ext.size m.ext.size,fun b hb hn=>?_⟩;refine(m.ext.block b (qa14 hb h.ext.size) (fun k hk hc=>?_)).trans (h.ext.block b hb hn);have hk':k<ids.length:=by rw[←hlen];exact hk
  rcases Nat.lt_or_ge (nameOf ids k) c.n0 with h1|h1
  ·exact hn _ h1 (h.lent _ b h1 (hxne k hk') hc hb)
  ·have:=h.loc _ b h1 (hxne k hk') hc;omega
structure Fol(ents es:List Ent):Prop where
 len:es.length=ents.length
 blk:∀k T cs,entF ents k=.blk T cs→∃T' cs',entF es k=.blk T' cs'
 row:∀k T z xs,entF ents k=.row T z xs→∃ys,entF es k=.row T z (xs++ys)
 mrow:∀k T z xs,entF ents k=.mrow T z xs→∃ys,entF es k=.mrow T z ys
 frow:∀k T z xs,entF ents k=.frow T z xs→entF es k=.frow T z xs
theorem call_ok(h:SimH c x a w H A)(hl:Lends x.st ids ents){f:FuncId}{args':List V}{R:POut→List Ent→Prop}(hc:zaL P c.G f args' ents R)(vals:Array Value)(hv:zam w A x.st H (args'.map (V.ren (nameOf ids))) vals.toList)
  (ha:args'.all (V.on fun k=>decide (k<ids.length))=true) (dst:Option Tmp):
  Calls P f vals w fun e w'=>∃o es,R o es∧Fol ents es∧∃H' A',match o with
   |.ret v=>∃xv,e=.returned xv∧SimH c (x.put dst v (lendU ids es)) (a.put dst xv) w' H' A'
   |.panic v=>∃xv,e=.panicked [{ v:=xv,recovered:=false }]∧RepV w' A' v xv∧SimH c (x.put none .undef (lendU ids es)) a w' H' A':=by
 refine Calls.mono (hc.2 w _ A vals (h.start hl) (zam.unren hl.cor hv ha)) ?_;rintro e w' ⟨o,es,H1,A1,h1,h2,h3,m,h4⟩;refine⟨o,es,h1,⟨h2,fun k T cs hk=>(m.out.blk k T cs hk).2,fun k T z xs hk=>(m.out.row k T z xs hk).imp fun _ h=>h.1,fun k T z xs hk=>(m.out.mrow k T z xs hk).imp fun _ h=>h.1,fun k T z xs hk=>(m.out.frow k T z xs hk).1⟩, ?_⟩;cases o with
 |ret v=>
  obtain⟨xv,rfl,h5⟩:=h4;obtain⟨H',h6⟩:=h.back hl h2 h3 m dst v xv h5;exact⟨H',A1,xv,rfl,h6⟩
 |panic v=>
  obtain⟨xv,rfl,h5⟩:=h4;obtain⟨H',h6⟩:=h.back hl h2 h3 m none .undef Go.undef .undef;exact⟨H',A1,xv,rfl,h5,h6⟩
end
end
section
open Go Go.RowKit
def M.opds:M→List O
 |.move x|.box _ x|.load _ _ x|.chk x|.un _ x|.conv _ x|.iface _ x|.faddr _ x|.field _ _ _ x|.ext x _|.tas _ _ x|.lens x|.lenl x|.pan x=>[x]
 |.alloc _ _=>[]
 |.pick a b c=>[a,b,c]
 |.build _ ps=>ps.map fun p=>p.2.2
 |.bslice _ _ xs=>xs
 |.store _ x y|.arith _ _ _ _ x y|.iaddr _ x y|.idx x y|.app _ _ _ x y|.mm _ x y=>[x,y]
 |.fn _ a b=>a++b
 |.sls x lo hi|.sll _ x lo hi=>x::(lo.toList++hi.toList)
 |.call _ f xs=>f::xs
theorem zkm{e e':Nat→V}{xs:List O}(h:∀y∈xs,y.ev e'=y.ev e):xs.map (O.ev e')=xs.map (O.ev e):=qa9 h
theorem zfQ{slot:Nat}{m:M}{e e':Nat→V}{st:Nat→Ent}(h:∀y∈m.opds,y.ev e'=y.ev e):semM slot m e' st=semM slot m e st:=by
 cases m<;>simp only[M.opds,qa33,qa29,List.not_mem_nil,or_false,forall_eq_or_imp,forall_eq]at h<;>try(simp only[semM,h];done)
 case load ag n x=>cases ag<;>simp only[semM,h]
 case conv k x=>cases k<;>simp only[semM,h]
 case field o n ag x=>cases ag<;>simp only[semM,h]
 case build cs ps=>
  have:(ps.map fun p=>(p.1,p.2.1,res st (p.2.2.ev e')))=ps.map fun p=>(p.1,p.2.1,res st (p.2.2.ev e)):=qa9 fun p hp=>by rw[h _ (qa10 hp)]
  have h2:(ps.map fun p=>(p.1,p.2.1,p.2.2.ev e'))=ps.map fun p=>(p.1,p.2.1,p.2.2.ev e):=qa9 fun p hp=>by rw[h _ (qa10 hp)]
  simp only[semM,this,h2]
 case bslice el z xs=>
  have:(xs.map fun(x:O)=>norm1 (res st (x.ev e')))=xs.map fun(x:O)=>norm1 (res st (x.ev e)):=qa9 fun p hp=>by rw[h _ hp]
  simp only[semM,this]
 case fn f a b=>
  simp only[semM,zkm (fun y hy=>h y (.inl hy)),zkm (fun y hy=>h y (.inr hy))]
 case sls x lo hi=>
  have h1:lo.map (O.ev e')=lo.map (O.ev e):=by cases lo<;>simp;exact h.2 _ (.inl (by simp))
  have h2:hi.map (O.ev e')=hi.map (O.ev e):=by cases hi<;>simp;exact h.2 _ (.inr (by simp))
  simp only[semM,h.1,h1,h2]
 case sll z x lo hi=>
  have h1:lo.map (O.ev e')=lo.map (O.ev e):=by cases lo<;>simp;exact h.2 _ (.inl (by simp))
  have h2:hi.map (O.ev e')=hi.map (O.ev e):=by cases hi<;>simp;exact h.2 _ (.inr (by simp))
  simp only[semM,h.1,h1,h2]
structure RowsLe(st st':Nat→Ent):Prop where
 row:∀id T z xs,st id=.row T z xs→∃ys,st' id=.row T z (xs++ys)
 mrow:∀id T z xs,st id=.mrow T z xs→∃ys,st' id=.mrow T z ys
 frow:∀id T z xs,st id=.frow T z xs→st' id=.frow T z xs
theorem RowsLe.refl(st:Nat→Ent):RowsLe st st:=⟨fun _ _ _ _ h=>⟨[],by simpa using h⟩,fun _ _ _ xs h=>⟨xs,h⟩,fun _ _ _ _ h=>h⟩
theorem resK_le{st st':Nat→Ent}(h:RowsLe st st')(v:V):resK st v=.any∨resK st' v=resK st v:=by
 cases v<;>first|exact .inr rfl|skip
 rename_i id n;simp only[resK];cases hs:st id with
 |gone=>exact .inl rfl
 |blk T cs=>exact .inl rfl
 |mrow T z xs=>exact .inl rfl
 |frow T z xs=>exact .inl rfl
 |row T z xs=>
  obtain⟨ys,h1⟩:=h.row _ _ _ _ hs;rw[h1];by_cases hn:n≤xs.length
  ·right;have:n≤(xs++ys).length:=by simp;omega
   simp only[if_pos hn,if_pos this];rw[List.take_append_of_le_length hn]
  ·left;simp only[if_neg hn]
theorem res_le{st st':Nat→Ent}(h:RowsLe st st')(v:V):res st v=.any∨res st' v=res st v:=by
 cases v<;>first|exact .inr rfl|skip
 case row id n=>exact resK_le h (.row id n)
 case mr id n=>
  simp only[res];cases hs:st id with
  |frow T z xs=>rw[h.frow _ _ _ _ hs];exact .inr rfl
  |_=>exact .inl rfl
 case ta cs=>
  simp only[res];by_cases hd:(cs.map (resK st)).all V.data=true
  ·right;have e:cs.map (resK st')=cs.map (resK st):=qa9 fun c hc=>by
    rcases resK_le h c with h1|h1
    ·rw[qa22]at hd;have:=hd _ (qa10 hc);rw[h1]at this;cases this
    ·exact h1
   rw[e]
  ·left;rw[if_neg hd]
def M.quiet:M→Bool
 |.load _ _ _|.store _ _ _|.app _ _ _ _ _|.call _ _ _|.pan _=>false
 |_=>true
theorem ziA{st st':Nat→Ent}{e:Nat→V}(h:RowsLe st st'):∀(ps:List (Nat×Nat×O)) (cs r:List V),fillM cs (ps.map fun p=>(p.1,p.2.1,res st (p.2.2.ev e)))=some r→fillM cs (ps.map fun p=>(p.1,p.2.1,res st' (p.2.2.ev e)))=some r
 |[],cs,r,hs=>hs
 |(off,size,y)::ps,cs,r,hs=>by
  simp only[qa32,fillM]at hs ⊢;rcases res_le h (y.ev e)with h1|h1
  ·rw[h1]at hs;rw[if_neg (by rintro⟨_,_,h2,_⟩;cases h2)]at hs;cases hs
  ·rw[h1];split at hs
   ·rename_i hc;rw[if_pos hc];exact ziA h ps _ r hs
   ·cases hs
theorem zkg:norm1 .any=.any:=rfl
theorem zdj:norm0 .any=.any:=rfl
theorem ziX{slot:Nat}{m:M}{e:Nat→V}{st st':Nat→Ent}{r:V×Upds}(hq:m.quiet=true)(h:RowsLe st st')(hg:(st slot).isGone=true→(st' slot).isGone=true)(hs:semM slot m e st=some r):semM slot m e st'=some r:=by
 cases m<;>first|(cases hq;done)|(simp only[semM]at hs ⊢;exact hs;done)|skip
 case conv k x=>cases k<;>(simp only[semM]at hs ⊢;exact hs)
 case field o n ag x=>cases ag<;>(simp only[semM]at hs ⊢;exact hs)
 case alloc T cs=>
  simp only[semM]at hs ⊢;split at hs
  ·rename_i h1;rw[if_pos (hg h1)];exact hs
  ·cases hs
 case box T x=>
  simp only[semM,zet]at hs ⊢;split at hs
  ·rename_i h1;rw[if_pos ⟨hg h1.1,h1.2⟩];exact hs
  ·cases hs
 case build cs ps=>
  simp only[semM]at hs ⊢;split at hs
  ·rename_i hlt;rw[if_pos hlt];split at hs
   ·rename_i r' h1;rw[ziA h _ _ _ h1];exact hs
   ·cases hs
  ·rename_i hlt;rw[if_neg hlt];exact hs
 case bslice el z xs=>
  simp only[semM]at hs ⊢;split at hs
  ·rename_i h1;have h2:(xs.map fun(x:O)=>norm1 (res st' (x.ev e)))=xs.map fun(x:O)=>norm1 (res st (x.ev e)):=qa9 fun p hp=>by
    rcases res_le h (p.ev e)with h3|h3
    ·have:=(h1.2.1 _ (qa10 hp)).1;rw[h3]at this;cases this
    ·rw[h3]
   rw[h2,if_pos ⟨hg h1.1,h1.2⟩];exact hs
  ·cases hs
 case iface T x=>
  simp only[semM]at hs ⊢;rcases res_le h (x.ev e)with h1|h1
  ·rw [h1,if_neg (by rw [zkg];simp [V.data])] at hs;cases hs
  ·rw[h1];exact hs
 case sll z x lo hi=>
  simp only[semM]at hs ⊢;rcases res_le h (x.ev e)with h1|h1
  ·rw[h1,zdj]at hs;cases hs
  ·rw[h1];exact hs
 case iaddr z x i=>
  simp only[semM]at hs ⊢;have old:iadD z (norm0 (res st (x.ev e))) (i.ev e)=some r→iadD z (norm0 (res st' (x.ev e))) (i.ev e)=some r:=fun hs=>by
   rcases res_le h (x.ev e)with h1|h1
   ·rw[h1,zdj]at hs;cases hs
   ·rw[h1];exact hs
  by_cases hmr:∃id n,x.ev e=.mr id n
  ·obtain⟨id,n,hmr⟩:=hmr;rw[hmr]at hs old ⊢;simp only[iadM]at hs ⊢;cases hst:st id with
   |mrow T z' xs=>
    obtain⟨ys,h1⟩:=h.mrow _ _ _ _ hst;rw[hst]at hs;rw[h1];exact hs
   |frow T z' xs=>
    rw[hst]at hs;rw[h.frow _ _ _ _ hst];exact old hs
   |_=>
    rw[hst]at hs;simp only[res,hst,zdj]at hs;cases hs
  ·rw[zeb (fun id n e=>hmr ⟨id,n,e⟩)]at hs ⊢;exact old hs
 case lenl x=>
  simp only[semM]at hs ⊢;by_cases hmr:∃id n,x.ev e=.mr id n
  ·obtain⟨id,n,hmr⟩:=hmr;rw[hmr]at hs ⊢;exact hs
  ·rw[zgi (fun id n e=>hmr ⟨id,n,e⟩)]at hs ⊢;rcases res_le h (x.ev e)with h1|h1
   ·rw[h1,zdj]at hs;cases hs
   ·rw[h1];exact hs
abbrev V.off(s:Nat)(v:V):Prop:=v.on (fun k=>k != s)=true
theorem zex{st:Nat→Ent}{s:Nat}{n:Ent}{v:V}(h:v.off s):res (updE st s n) v=res st v:=by
 have key:∀{u:V},onK (fun k=>k != s) u=true→resK (updE st s n) u=resK st u:=fun{u} hu=>by
  cases u<;>first|rfl|skip
  simp only[onK,bne_iff_ne,ne_eq]at hu;simp only[resK,zab _ _ hu]
 cases v<;>first|rfl|skip
 case row id k=>exact key (u:=.row id k) h
 case mr id k=>
  have h:(id != s)=true:=h;simp only[bne_iff_ne,ne_eq]at h;simp only[res,zab _ _ h]
 case ta cs=>
  have e:cs.map (resK (updE st s n))=cs.map (resK st):=qa9 fun c hc=>key (by
   simp only[V.off,V.on,qa22]at h;exact h c hc)
  simp only[res,e]
theorem zid{slot s:Nat}{m:M}{e:Nat→V}{st:Nat→Ent}{n:Ent}(hst:∀id T cs,st id=.blk T cs→∀v∈cs,v.off s)(hs:slot≠s)(h:∀y∈m.opds,(y.ev e).off s):semM slot m e (updE st s n)=semM slot m e st:=by
 have hp:∀{y:O} {id off:Nat},y∈m.opds→y.ev e=.ptr id off→updE st s n id=st id:=fun{y id off} hy he=>by
  have:=h y hy;rw[he]at this;simp only[V.off,V.on,bne_iff_ne,ne_eq]at this;exact zab _ _ this
 have hrow:∀{y:O} {id k:Nat},y∈m.opds→y.ev e=.row id k→updE st s n id=st id:=fun{y id off} hy he=>by
  have:=h y hy;rw[he]at this;simp only[V.off,V.on,bne_iff_ne,ne_eq]at this;exact zab _ _ this
 have hrp:∀{y:O} {id m' off:Nat},y∈m.opds→y.ev e=.rp id m' off→updE st s n id=st id:=fun{y id m' off} hy he=>by
  have:=h y hy;rw[he]at this;simp only[V.off,V.on,bne_iff_ne,ne_eq]at this;exact zab _ _ this
 have hmr:∀{y:O} {id k:Nat},y∈m.opds→y.ev e=.mr id k→updE st s n id=st id:=fun{y id off} hy he=>by
  have:=h y hy;rw[he]at this;simp only[V.off,V.on,bne_iff_ne,ne_eq]at this;exact zab _ _ this
 have hres:∀y∈m.opds,res (updE st s n) (y.ev e)=res st (y.ev e):=fun y hy=>zex (h y hy);have hsl:updE st s n slot=st slot:=zab _ _ hs;cases m<;>try(simp only[semM];done)
 case conv k x=>cases k<;>rfl
 case field o n ag x=>cases ag<;>rfl
 case alloc T cs=>simp only[semM,hsl]
 case box T x=>simp only[semM,zet,hsl]
 case build cs ps=>
  have:(ps.map fun p=>(p.1,p.2.1,res (updE st s n) (p.2.2.ev e)))=ps.map fun p=>(p.1,p.2.1,res st (p.2.2.ev e)):=qa9 fun p hp=>by rw[hres _ (qa10 hp)]
  simp only[semM,this]
 case bslice el z xs=>
  have:(xs.map fun(x:O)=>norm1 (res (updE st s n) (x.ev e)))=xs.map fun(x:O)=>norm1 (res st (x.ev e)):=qa9 fun p hp=>by rw[hres _ hp]
  simp only[semM,this,hsl]
 case load ag k x=>
  have h1:=fun(id off:Nat)(he:x.ev e=.ptr id off)=>hp (y:=x) (id:=id) (off:=off) (by simp[M.opds]) he;have h2:=fun(id m' off:Nat)(he:x.ev e=.rp id m' off)=>hrp (y:=x) (id:=id) (m':=m') (off:=off) (by simp[M.opds]) he;cases ag
  ·simp only[semM];split
   ·rename_i id off he;rw[h1 _ _ he]
   ·rfl
   ·rename_i id m' off he;simp only[loadM,h2 _ _ _ he]
   ·rfl
  ·simp only[semM];split
   ·rename_i id off he;rw[h1 _ _ he];cases hi:st id with
    |blk T cs=>
     have:((cs.drop off).take k).map (res (updE st s n))=((cs.drop off).take k).map (res st):=qa9 fun v hv=>zex (hst _ _ _ hi v (List.mem_of_mem_drop (List.mem_of_mem_take hv)));simp only[this]
    |_=>rfl
   ·rfl
   ·rename_i id m' off he;simp only[loadM,h2 _ _ _ he]
   ·rfl
 case store k x y=>
  have h1:=fun(id off:Nat)(he:x.ev e=.ptr id off)=>hp (y:=x) (id:=id) (off:=off) (by simp[M.opds]) he;have h2:=fun(id m' off:Nat)(he:x.ev e=.rp id m' off)=>hrp (y:=x) (id:=id) (m':=m') (off:=off) (by simp[M.opds]) he;simp only[semM];split
  ·rename_i id off he;rw[h1 _ _ he]
  ·rename_i id m' off he;simp only[storeM,h2 _ _ _ he,hres y (by simp[M.opds])]
  ·rfl
 case iface T x=>simp only[semM,hres x (by simp[M.opds])]
 case sll z x lo hi=>simp only[semM,hres x (by simp[M.opds])]
 case iaddr z x i=>
  have h2:=fun(id k:Nat)(he:x.ev e=.mr id k)=>hmr (y:=x) (id:=id) (k:=k) (by simp[M.opds]) he;simp only[semM,hres x (by simp[M.opds])];by_cases hx:∃id n,x.ev e=.mr id n
  ·obtain⟨id,n,hx⟩:=hx;rw[hx];simp only[iadM,h2 _ _ hx]
  ·rw[zeb (fun id n e=>hx ⟨id,n,e⟩),zeb (fun id n e=>hx ⟨id,n,e⟩)]
 case lenl x=>simp only[semM,hres x (by simp[M.opds])]
 case app el z b t x=>
  have h1:=fun(id off:Nat)(he:t.ev e=.row id off)=>hrow (y:=t) (id:=id) (k:=off) (by simp[M.opds]) he;simp only[semM,hres x (by simp[M.opds]),hsl];have h2:=fun(id k:Nat)(he:t.ev e=.mr id k)=>hmr (y:=t) (id:=id) (k:=k) (by simp[M.opds]) he;split
  ·rename_i he;rw[h1 _ _ he]
  ·rfl
  ·rename_i he;rw[h2 _ _ he]
  ·rfl
end
section
open Go Go.RowKit
def M.isLoad:M→Bool|.load _ _ _=>true|_=>false
def M.writes:M→Bool|.store _ _ _=>true|.call b _ _=>!b|_=>false
theorem semM_upd{slot:Nat}{m:M}{e:Nat→V}{st:Nat→Ent}{v:V}{U:Upds}(hs:semM slot m e st=some (v,U)):
  U=[]∨(∃n,U=[(slot,n)]∧st slot=.gone)∨(∃id T cs cs',U=[(id,.blk T cs')]∧st id=.blk T cs∧m.writes=true)∨(∃id T z xs ys,U=[(id,.row T z (xs++ys))]∧st id=.row T z xs∧m.quiet=false∧m.isLoad=false)∨∃id T z xs ys,U=[(id,.mrow T z ys)]∧st id=.mrow T z xs∧m.quiet=false∧m.isLoad=false:=by
 cases m
 case load ag n x=>
  cases ag<;>simp only[semM]at hs<;>(repeat' split at hs)<;>first|(cases hs;done)|exact .inl (one1_some hs).2|(cases hs;exact .inl rfl)
 case conv k x=>cases k<;>simp only[semM]at hs<;>(repeat' split at hs)<;>first|(cases hs;done)|(cases hs;exact .inl rfl)
 case field o n ag x=>cases ag<;>simp only[semM]at hs<;>(repeat' split at hs)<;>first|(cases hs;done)|exact .inl (one1_some hs).2|(cases hs;exact .inl rfl)
 case alloc T cs=>
  simp only[semM]at hs;split at hs
  ·rename_i h;cases hs;exact .inr (.inl ⟨_,rfl,isGone_spec h⟩)
  ·cases hs
 case box T x=>
  simp only[semM,zet]at hs;split at hs
  ·rename_i h;cases hs;exact .inr (.inl ⟨_,rfl,isGone_spec h.1⟩)
  ·cases hs
 case bslice el z xs=>
  simp only[semM]at hs;split at hs
  ·rename_i h;cases hs;exact .inr (.inl ⟨_,rfl,isGone_spec h.1⟩)
  ·cases hs
 case store n a x=>
  simp only[semM]at hs;split at hs
  ·split at hs
   ·rename_i h;split at hs
    ·cases hs;exact .inr (.inr (.inl ⟨_,_,_,_,rfl,h,rfl⟩))
    ·cases hs
   ·cases hs
  ·split at hs
   ·rename_i U' hU;cases hs;unfold storeM at hU;split at hU
    ·rename_i h;split at hU
     ·cases hU;exact .inr (.inr (.inr (.inr ⟨_,_,_,_,_,rfl,h,rfl,rfl⟩)))
     ·cases hU
    ·cases hU
   ·cases hs
  ·cases hs
 case app el z b s x=>
  simp only[semM]at hs;split at hs
  ·split at hs
   ·rename_i h;split at hs
    ·cases hs;exact .inr (.inr (.inr (.inl ⟨_,_,_,_,_,rfl,h,rfl,rfl⟩)))
    ·cases hs
   ·cases hs
  ·split at hs
   ·rename_i h;cases hs;exact .inr (.inl ⟨_,rfl,isGone_spec h.1⟩)
   ·cases hs
  ·split at hs
   ·rename_i h;split at hs
    ·cases hs;exact .inr (.inr (.inr (.inr ⟨_,_,_,_,_,rfl,h,rfl,rfl⟩)))
    ·cases hs
   ·cases hs
  ·cases hs
 case iaddr z x i=>
  simp only[semM]at hs;have old:∀{r:V},iadD z r (i.ev e)=some (v,U)→U=[]:=fun{r} hs=>by
   unfold iadD at hs
   repeat' split at hs
   all_goals first|(cases hs;done)|(cases hs;rfl)
  unfold iadM at hs;split at hs
  ·split at hs
   ·repeat' split at hs
    all_goals first|(cases hs;done)|(cases hs;exact .inl rfl)
   ·exact .inl (old hs)
  ·exact .inl (old hs)
 case lenl x=>
  simp only[semM,lenM]at hs
  repeat' split at hs
  all_goals first|(cases hs;done)|(cases hs;exact .inl rfl)
 all_goals (simp only[semM]at hs;(repeat' split at hs)<;>first|(cases hs;done)|exact .inl (one1_some hs).2|(cases hs;exact .inl rfl))
theorem zjg{P:Program}{N:Nat}{G:Nat→V}{op:Op}{m:M}(hm:compM P N G op=some m):∀y∈m.opds,∃o,compO N G o=some y∨zcU N G o=some y:=by
 have hosA:∀{os:List Operand} {ys:List O},zb2 N G os=some ys→∀y∈ys,∃o,compO N G o=some y∨zcU N G o=some y:=by
  intro os;induction os with
  |nil=>intro ys h y hy;cases h;simp at hy
  |cons o os ih=>
   intro ys h y hy;simp only[zb2]at h;split at h
   ·rename_i z s h1 h2;cases h;rcases qa33.1 hy with rfl|hy
    ·exact⟨o,.inr h1⟩
    ·exact ih h2 y hy
   ·cases h
 have hos:∀{os:List Operand} {ys:List O},zdo N G os=some ys→∀y∈ys,∃o,compO N G o=some y∨zcU N G o=some y:=by
  intro os;induction os with
  |nil=>intro ys h y hy;cases h;simp at hy
  |cons o os ih=>
   intro ys h y hy;simp only[zdo]at h;split at h
   ·rename_i z s h1 h2;cases h;rcases qa33.1 hy with rfl|hy
    ·exact⟨o,.inl h1⟩
    ·exact ih h2 y hy
   ·cases h
 have hps:∀{pl:List (Nat×Nat)} {ps:List (Nat×Operand)} {q:List (Nat×Nat×O)},zcb N G pl ps=some q→∀p∈q,∃o,compO N G o=some p.2.2∨zcU N G o=some p.2.2:=by
  intro pl ps;induction ps with
  |nil=>intro q h p hp;cases h;simp at hp
  |cons o os ih=>
   intro q h p hp;obtain⟨i,o⟩:=o;simp only[zcb]at h;split at h
   ·rename_i off sz z s h0 h1 h2;cases h;rcases qa33.1 hp with rfl|hp
    ·exact⟨o,.inl h1⟩
    ·exact ih h2 p hp
   ·cases h
 have hop:∀{o:Option Operand} {y:Option O},zdM N G o=some y→∀z∈y.toList,∃o,compO N G o=some z∨zcU N G o=some z:=by
  intro o y h z hz;cases o with
  |none=>cases h;simp at hz
  |some o=>
   simp only[zdM]at h;split at h
   ·rename_i h1;cases h;simp at hz;subst hz;exact⟨o,.inl h1⟩
   ·cases h
 have h1:∀{x:Operand} {k:O→M} ,(zaA N G x fun y=>some (k y))=some m→(∀y,(k y).opds=[y])→∀y∈m.opds,∃o,compO N G o=some y∨zcU N G o=some y:=by
  intro x k h hk y hy;obtain⟨z,hz,h⟩:=zaa h;cases h;rw[hk]at hy;simp at hy;subst hy;exact⟨x,.inl hz⟩
 have h2:∀{x x':Operand} {k:O→O→M} ,(zaA N G x fun y=>zaA N G x' fun z=>some (k y z))=some m→(∀y z,(k y z).opds=[y,z])→∀y∈m.opds,∃o,compO N G o=some y∨zcU N G o=some y:=by
  intro x x' k h hk y hy;obtain⟨z,hz,h⟩:=zaa h;obtain⟨z',hz',h⟩:=zaa h;cases h;rw[hk]at hy;simp at hy;rcases hy with rfl|rfl
  ·exact⟨x,.inl hz⟩
  ·exact⟨x',.inl hz'⟩
 cases op
 case move y=>exact h1 hm fun _=>rfl
 case assign y=>exact h1 hm fun _=>rfl
 case pick p q r=>
  obtain⟨p',hp,hm⟩:=zaa hm;obtain⟨q',hq,hm⟩:=zaa hm;obtain⟨r',hr,hm⟩:=zaa hm;cases hm;intro y hy;simp only[M.opds,qa33,List.not_mem_nil,or_false]at hy;rcases hy with rfl|rfl|rfl
  ·exact⟨_,.inl hp⟩
  ·exact⟨_,.inl hq⟩
  ·exact⟨_,.inl hr⟩
 case alloc T=>
  simp only[compM]at hm;split at hm
  ·cases hm;intro y hy;simp[M.opds]at hy
  ·cases hm
 case box T y=>exact h1 hm fun _=>rfl
 case build T ps=>
  simp only[compM]at hm;split at hm
  ·split at hm
   ·rename_i h;cases hm;intro y hy;simp only[M.opds,qa35]at hy;obtain⟨p,hp,rfl⟩:=hy;exact hps h p hp
   ·cases hm
  ·cases hm
 case buildSlice T len ps=>
  simp only[compM]at hm;split at hm
  ·rename_i h;split at hm
   ·cases hm;exact hosA h
   ·cases hm
  ·cases hm
 case load T y=>
  simp only[compM]at hm;split at hm
  ·exact h1 hm fun _=>rfl
  ·cases hm
 case store T y z=>
  simp only[compM]at hm;split at hm
  ·exact h2 hm fun _ _=>rfl
  ·cases hm
 case nilCheck y=>exact h1 hm fun _=>rfl
 case binOp op T y z T'=>exact h2 hm fun _ _=>rfl
 case unOp op T y=>exact h1 hm fun _=>rfl
 case convert s d y=>
  simp only[compM]at hm;split at hm
  ·exact h1 hm fun _=>rfl
  ·exact h1 hm fun _=>rfl
  ·cases hm
 case makeInterface T y=>
  simp only[compM]at hm;split at hm
  ·exact h1 hm fun _=>rfl
  ·cases hm
 case makeFunc f first cap=>
  cases f with
  |func f'=>
   simp only[compM]at hm;split at hm
   ·rename_i ha hb;cases hm;intro y hy;simp only[M.opds,qa29]at hy;rcases hy with hy|hy
    ·exact hos ha y hy
    ·exact hos hb y hy
   ·cases hm
  |_=>simp only[compM]at hm;cases hm
 case slice T y lo hi mx=>
  cases mx with
  |some _=>simp only[compM]at hm;cases hm
  |none=>
   simp only[compM]at hm;split at hm
   ·rename_i lo' hi' hlo hhi;have key:∀{k:O→M},(zaA N G y fun z=>some (k z))=some m→(∀z,(k z).opds=z::(lo'.toList++hi'.toList))→∀z∈m.opds,∃o,compO N G o=some z∨zcU N G o=some z:=by
     intro k h hk z hz;obtain⟨y',hy,h⟩:=zaa h;cases h;rw[hk]at hz;rcases qa33.1 hz with rfl|hz
     ·exact⟨_,.inl hy⟩
     ·rcases qa29.1 hz with hz|hz
      ·exact hop hlo z hz
      ·exact hop hhi z hz
    split at hm
    ·exact key hm fun _=>rfl
    ·split at hm
     ·exact key hm fun _=>rfl
     ·cases hm
   ·cases hm
 case fieldAddr s y f=>
  simp only[compM]at hm;split at hm
  ·exact h1 hm fun _=>rfl
  ·cases hm
 case field s y f=>
  simp only[compM]at hm;split at hm
  ·exact h1 hm fun _=>rfl
  ·cases hm
 case indexAddr T y i=>
  simp only[compM]at hm;split at hm
  ·exact h2 hm fun _ _=>rfl
  ·cases hm
 case index T y i=>
  simp only[compM]at hm;split at hm
  ·exact h2 hm fun _ _=>rfl
  ·cases hm
 case typeAssert y S T ok=>
  simp only[compM]at hm;split at hm<;>first|(cases hm;done)|skip
  cases ok with
  |true=>
   dsimp only at hm;split at hm<;>first|(cases hm;done)|skip
   exact h1 hm fun _=>rfl
  |false=>exact h1 hm fun _=>rfl
 case extract y i=>exact h1 hm fun _=>rfl
 case panic y=>exact h1 hm fun _=>rfl
 case call cl=>
  simp only[compM]at hm;split at hm
  ·split at hm
   ·rename_i hx;obtain⟨y',hy,hm⟩:=zaa hm;cases hm;intro z hz;simp only[M.opds,qa33]at hz;rcases hz with rfl|hz
    ·exact⟨_,.inl hy⟩
    ·exact hos hx z hz
   ·cases hm
  ·split at hm
   ·split at hm
    ·exact h1 hm fun _=>rfl
    ·split at hm
     ·exact h1 hm fun _=>rfl
     ·cases hm
   ·split at hm
    ·split at hm
     ·exact h2 hm fun _ _=>rfl
     ·cases hm
    ·cases hm
   ·exact h2 hm fun _ _=>rfl
   ·exact h2 hm fun _ _=>rfl
   ·cases hm
  ·cases hm
 all_goals (simp only[compM]at hm;cases hm)
end
section
open Go Go.RowKit
structure MO where
 dst:Option Nat
 m:M
 slot:Nat
 guard:Option (Nat×Bool)
 av:List Nat
def avoidV(vs:List V)(ids:List Nat):Bool:=vs.all fun v=>match v with|.ptr id _=>!ids.contains id|_=>true
def wantX(e:Nat→V):Option (Nat×Bool)→Option Bool
 |none=>some true
 |some (t,want)=>match e t with|.bool b=>some (b==want)|.undef=>some false|_=>none
def argV(st:Nat→Ent)(v:V):V:=norm1 (res st v)
structure CallX(st:Nat→Ent)(vs:List V)(ids:List Nat)(ents:List Ent)(args':List V):Prop where
 lends:Lends st ids ents
 eq:vs.map (argV st)=args'.map (V.ren (nameOf ids))∨vs.map (res st)=args'.map (V.ren (nameOf ids))
 on:args'.all (V.on fun k=>decide (k<ids.length))=true
 ment:∀k,k<ids.length→(∃v∈vs,v.on (fun j=>j != nameOf ids k)=false)∨∃j,j<k∧(st (nameOf ids j)).on (fun i=>i != nameOf ids k)=false
def zhT(P:Program)(G:Nat→V)(b:Bool)(av:List V)(fv:V)(args:List V)(st:Nat→Ent)(K:V→Upds→Prop)(Kp:V→Upds→Prop):Prop:=
 match fv with
 |.fn f first cap=>∃ids ents args' R,(b=true→ids=[])∧avoidV av ids=true∧CallX st (first++args++cap) ids ents args'∧zaL P G f args' ents R∧∀o es,R o es→Fol ents es→match o with
   |.ret v=>K v (lendU ids es)
   |.panic v=>Kp v (lendU ids es)
 |_=>False
def zaV(P:Program)(G:Nat→V)(mo:MO)(K:X→Prop)(Kp:V→(Nat→Ent)→Prop)(x:X):Prop:=
 match wantX x.env mo.guard with
 |none=>False
 |some false=>K (x.put mo.dst .undef [])
 |some true=>match mo.m with
  |.call b f args=>zhT P G b (mo.av.map x.env) (f.ev x.env) (args.map (O.ev x.env)) x.st (fun v U=>K (x.put mo.dst v U)) (fun v U=>Kp v (updL x.st U))
  |.pan y=>match norm1 (res x.st (y.ev x.env))with
   |.iface T v=>Kp (.iface T v) x.st
   |_=>False
  |.store n y z=>match semM mo.slot (.store n y z) x.env x.st with
   |some (v,U)=>avoidV (mo.av.map x.env) (U.map (·.1))=true∧K (x.put mo.dst v U)
   |none=>False
  |m=>match semM mo.slot m x.env x.st with
   |some (v,U)=>K (x.put mo.dst v U)
   |none=>False
inductive PEx where
 |normal
 |exit (id:Nat)
 |ret
def LQ(c:Ctx)(Kp:V→(Nat→Ent)→Prop)(Q:PEx→X→Prop):Exit→Act→World→Prop
 |.normal,a,w=>∃x H A,SimH c x a w H A∧Q .normal x
 |.exit id,a,w=>∃x H A,SimH c x a w H A∧Q (.exit id) x
 |.ret,a,w=>∃x H A,SimH c x a w H A∧Q .ret x
 |.panic ch,a,w=>∃x H A v xv,ch=[{ v:=xv,recovered:=false }]∧RepV w A v xv∧SimH c x a w H A∧Kp v x.st
 |_,_,_=>False
def zcc(P:Program)(N:Nat)(G:Nat→V)(ops:Array Oper)(slot:Nat)(av:List Nat)(o:Oper):Option MO:=
 match compM P N G o.op with
 |some m=>match o.guard with
  |none=>some ⟨o.dst,m,slot,none,av⟩
  |some (g,want)=>match(ops[g]?).bind (·.dst)with
   |some t=>if t<N then some ⟨o.dst,m,slot,some (t,want),av⟩else none
   |none=>none
 |none=>none
theorem zbn{P:Program}{N:Nat}{G:Nat→V}{ops:Array Oper}{slot:Nat}{av:List Nat}{o:Oper}{mo:MO}(h:zcc P N G ops slot av o=some mo):
  compM P N G o.op=some mo.m∧mo.dst=o.dst∧mo.slot=slot∧((o.guard=none∧mo.guard=none)∨∃g want t,o.guard=some (g,want)∧(ops[g]?).bind (·.dst)=some t∧t<N∧mo.guard=some (t,want)):=by
 unfold zcc at h;split at h
 ·rename_i m hm;split at h
  ·rename_i hg;cases h;exact⟨hm,rfl,rfl,.inl ⟨hg,rfl⟩⟩
  ·rename_i g want hg;split at h
   ·rename_i t ht;split at h
    ·rename_i hlt;cases h;exact⟨hm,rfl,rfl,.inr ⟨g,want,t,hg,ht,hlt,rfl⟩⟩
    ·cases h
   ·cases h
 ·cases h
theorem zkH{P:Program}{N:Nat}{G:Nat→V}{ops:Array Oper}{slot:Nat}{av:List Nat}{o:Oper}{mo:MO}(h:zcc P N G ops slot av o=some mo):mo.av=av:=by
 unfold zcc at h
 repeat' split at h
 all_goals first|(cases h;done)|(cases h;rfl)
section
variable{P:Program}{c:Ctx}{x:X}{a:Act}{w:World}{H:Nat→Value}{A:Nat→Nat→Prop}{ops:Array Oper}
theorem zjp(h:SimH c x a w H A){slot:Nat}{av:List Nat}{o:Oper}{mo:MO}(hc:zcc P c.N c.G ops slot av o=some mo){b:Bool}(hw:wantX x.env mo.guard=some b):Region.wanted o (yielded ops a.tmps)=b:=by
 obtain⟨_,_,_,h4⟩:=zbn hc;rcases h4 with⟨h4,h5⟩|⟨g,want,t,h4,h5,h6,h7⟩
 ·rw[h5]at hw;cases hw;simp[Region.wanted,h4]
 ·rw[h7]at hw;simp only[wantX]at hw;have hr:=h.env t h6;have hget:a.tmps[t]?=some (a.tmps.getD t Go.undef):=by
   have:t<a.tmps.size:=by rw[h.tm];exact h6
   simp[this]
  have hy:yielded ops a.tmps g=match a.tmps.getD t Go.undef with|.bool b=>some b|_=>none:=by
   unfold yielded;rw[h5];simp only[Option.bind_some,hget];split<;>first|(rename_i h;simp only[qa17]at h;rw[h])|skip
   rename_i h8;split
   ·rename_i b hb;exact absurd (congrArg some hb) (h8 b)
   ·rfl
  have hw':Region.wanted o (yielded ops a.tmps)=(yielded ops a.tmps g==some want):=by simp[Region.wanted,h4]
  rw[hw',hy];split at hw
  ·rename_i b' hb;rw[hb]at hr;cases hw;have:=hr.data rfl;generalize a.tmps.getD t Go.undef=u at this;cases this;cases b'<;>cases want<;>rfl
  ·rename_i hb;rw[hb]at hr;cases hw;have:=hr.data rfl;generalize a.tmps.getD t Go.undef=u at this;cases this;rfl
  ·cases hw
theorem zjO{st:Nat→Ent}{v:V}{xv:Value}(h:RepT w A st H v xv):RepT w A st H (argV st v) xv:=za0 (repT_res h)
theorem zaJ.toTL{st:Nat→Ent}:∀{xs:List V} {vs:List Value},zaJ w A st H xs vs→zam w A st H xs vs
 |[],_,h=>h
 |x::_,_,⟨u,us,h1,h2,h3⟩=>by
  refine⟨u,us,h1, ?_,zaJ.toTL h3⟩;cases x<;>first|exact h2|trivial|exact(h2.elim (fun h=>h.elim) (fun h=>nomatch h))
theorem zfa{st:Nat→Ent}:∀{xs:List V} {vs:List Value},zam w A st H xs vs→zam w A st H (xs.map (argV st)) vs
 |[],_,h=>h
 |_::_,_,⟨u,us,h1,h2,h3⟩=>⟨u,us,h1,zjO h2,zfa h3⟩
theorem zdx{mo:MO}{G:Nat→V}{K:X→Prop}{Kp:V→(Nat→Ent)→Prop}(h1:∀b f xs,mo.m≠.call b f xs)(h2:∀y,mo.m≠.pan y)(h3:∀n y z,mo.m≠.store n y z)(hw:wantX x.env mo.guard=some true):
  zaV P G mo K Kp x=match semM mo.slot mo.m x.env x.st with|some (v,U)=>K (x.put mo.dst v U)|none=>False:=by
 unfold zaV;rw[hw];dsimp only;split
 ·rename_i b f xs h;exact absurd h (h1 b f xs)
 ·rename_i y h;exact absurd h (h2 y)
 ·rename_i n y z h;exact absurd h (h3 n y z)
 ·rfl
theorem zhe{N:Nat}{G:Nat→V}{op:Op}{b:Bool}{f:O}{xs:List O}(hm:compM P N G op=some (.call b f xs)):∃cl fo,op=.call cl∧cl.callee=.value fo∧compO N G fo=some f∧zdo N G cl.args.toList=some xs:=by
  cases op
  case call cl=>
    simp only[compM]at hm;split at hm
    · rename_i fo hfo;split at hm
      · rename_i ys hys;obtain⟨z,hz,hm⟩:=zaa hm;simp only[qa17,M.call.injEq]at hm;obtain⟨_,rfl,rfl⟩:=hm;exact⟨cl,fo,rfl,hfo,hz,hys⟩
      · cases hm
    · exfalso
      repeat' split at hm
      all_goals first
        |(cases hm;done)
        | (obtain ⟨_,_,hm⟩:=zaa hm
           first
           |(cases hm;done)
           |(obtain⟨_,_,hm⟩:=zaa hm;cases hm))
    · cases hm
  case makeFunc f first cap=>
    exfalso;cases f<;>simp only[compM]at hm<;>(repeat' split at hm)<;>cases hm
  case slice T y lo hi mx=>
    exfalso;cases mx<;>simp only[compM]at hm<;>(repeat' split at hm)<;>first
      |(cases hm;done)
      |(obtain⟨_,_,hm⟩:=zaa hm;cases hm)
  all_goals
    exfalso;simp only[compM]at hm
    repeat' split at hm
    all_goals first
      |(cases hm;done)
      | (obtain ⟨_,_,hm⟩:=zaa hm
         first
         |(cases hm;done)
         | (obtain ⟨_,_,hm⟩:=zaa hm
            first
            |(cases hm;done)
            |(obtain⟨_,_,hm⟩:=zaa hm;cases hm)))
theorem comp_pan{N:Nat}{G:Nat→V}{op:Op}{y:O}(hm:compM P N G op=some (.pan y)):∃z,op=.panic z∧compO N G z=some y:=by
  cases op
  case panic z=>
    obtain⟨y',hy,hm⟩:=zaa hm;simp only[qa17,M.pan.injEq]at hm;subst hm;exact⟨z,rfl,hy⟩
  case call cl=>
    exfalso;simp only[compM]at hm
    repeat' split at hm
    all_goals first
      |(cases hm;done)
      | (obtain ⟨_,_,hm⟩:=zaa hm
         first
         |(cases hm;done)
         |(obtain⟨_,_,hm⟩:=zaa hm;cases hm))
  case makeFunc f first cap=>
    exfalso;cases f<;>simp only[compM]at hm<;>(repeat' split at hm)<;>cases hm
  case slice T y lo hi mx=>
    exfalso;cases mx<;>simp only[compM]at hm<;>(repeat' split at hm)<;>first
      |(cases hm;done)
      |(obtain⟨_,_,hm⟩:=zaa hm;cases hm)
  all_goals
    exfalso;simp only[compM]at hm
    repeat' split at hm
    all_goals first
      |(cases hm;done)
      | (obtain ⟨_,_,hm⟩:=zaa hm
         first
         |(cases hm;done)
         | (obtain ⟨_,_,hm⟩:=zaa hm
            first
            |(cases hm;done)
            |(obtain⟨_,_,hm⟩:=zaa hm;cases hm)))
theorem step_ok(h:SimH c x a w H A){slot:Nat}(hid:c.n0≤slot){av:List Nat}{o:Oper}{mo:MO}(hc:zcc P c.N c.G ops slot av o=some mo){K:X→Prop}{Kp:V→(Nat→Ent)→Prop}{Q:PEx→X→Prop}(hs:zaV P c.G mo K Kp x){Kw:Act→World→Prop}
  (hK:∀(x':X)(a':Act)(w':World)(H':Nat→Value)(A':Nat→Nat→Prop),SimH c x' a' w' H' A'→K x'→Kw a' w'):if Region.wanted o (yielded ops a.tmps)then o.wp P a w Kw (LQ c Kp Q)else Kw (a.put o.dst Go.undef) w:=by
 obtain⟨hm,hd,hsl,_⟩:=zbn hc;unfold zaV at hs;split at hs
 ·exact hs.elim
 ·rename_i hw;rw[zjp h hc hw];exact hK _ _ _ _ _ (h.putv o.dst .undef Go.undef (Or.inr .undef)) (by rw[←hd];exact hs)
 ·rename_i hw;rw[zjp h hc hw];rw[if_pos rfl];unfold Oper.wp;split at hs
  ·rename_i b f xs hf;rw[hf]at hm;obtain⟨cl,fo,hop,hcal,h1,h2⟩:=zhe hm;unfold zhT at hs;split at hs
   ·rename_i fid first cap hfv;obtain⟨ids,ents,args',R,_,_,hcx,hpc,hR⟩:=hs;have h3:=zac h h1;rw[hfv]at h3;obtain⟨fs,cs,h4,h5,h6⟩:=h3;have h7:=zbM h h2;have hrun:(execOp a.eval o).run P w=.ok (.enter fid (fs++cl.args.map a.eval++cs)) w:=by
     obtain⟨dst,op,type,pos,after,guard⟩:=o;obtain⟨callee,cargs,tys⟩:=cl;dsimp only at hop hcal;subst hop hcal;simp[execOp,resolve,Deferred.ofValue,h4,invoke,zdP hpc.1]
    rw[hrun,Oper.upon_enter];have hv:zam w A x.st H (args'.map (V.ren (nameOf ids))) (fs++cl.args.map a.eval++cs).toList:=by
     rcases hcx.eq with he|he<;>rw[←he]
     ·have:=zfa (zaF (zaF (zaJ.toTL h5) h7) (zaJ.toTL h6));simpa using this
     ·have:=zey (zaF (zaF (zaJ.toTL h5) h7) (zaJ.toTL h6));simpa using this
    refine Calls.mono (call_ok h hcx.lends hpc _ hv hcx.on o.dst) ?_;rintro e w' ⟨out,es,hRo,hfol,H',A',hout⟩;have hRK:=hR out es hRo hfol;cases out with
    |ret v=>
     obtain⟨xv,rfl,hsim⟩:=hout;exact hK _ _ _ _ _ hsim (by rw[←hd];exact hRK)
    |panic v=>
     obtain⟨xv,rfl,hrep,hsim⟩:=hout;exact⟨_,H',A',v,xv,rfl,hrep,hsim,hRK⟩
   ·exact hs.elim
  ·rename_i y hy;rw[hy]at hm;obtain⟨z,hop,hz⟩:=comp_pan hm;have h1:=za0 (repT_res (zac h hz));split at hs
   ·rename_i T v hv;rw[hv]at h1;have h2:=h1.data rfl;generalize hzv:a.eval z=zv at h2;have hrep:=h2;cases h2 with
    |iface _ _ u hu=>
     have hrun:(execOp a.eval o).run P w=.halt (.panic (.iface T u)) w:=by
      obtain⟨dst,op,type,pos,after,guard⟩:=o;dsimp only at hop;subst hop;simp[execOp,hzv,Instr.panic,goPanic,Sem.run]
     rw[hrun,Oper.upon_panic];exact⟨x,H,A,_,_,rfl,hrep,h,hs⟩
   ·exact hs.elim
  ·rename_i n y z hst;split at hs
   ·rename_i v U hsem;rw[hst]at hm;obtain⟨r,xv,w',H',A',hrun,hr,hsim⟩:=op_ok (slot:=mo.slot) h (by rw[hsl];exact hid) hm hsem;rw[hrun];rcases hr with rfl|⟨rfl,rfl⟩
    ·exact hK _ _ _ _ _ hsim (by rw[←hd];exact hs.2)
    ·exact hK _ _ _ _ _ hsim (by rw[←hd];exact hs.2)
   ·exact hs.elim
  ·split at hs
   ·rename_i v U hsem;obtain⟨r,xv,w',H',A',hrun,hr,hsim⟩:=op_ok (slot:=mo.slot) h (by rw[hsl];exact hid) hm hsem;rw[hrun];rcases hr with rfl|⟨rfl,rfl⟩
    ·exact hK _ _ _ _ _ hsim (by rw[←hd];exact hs)
    ·exact hK _ _ _ _ _ hsim (by rw[←hd];exact hs)
   ·exact hs.elim
end
end
section
open Go Go.RowKit
def M.tmps(m:M):List Nat:=m.opds.flatMap O.tmps
def MO.tmps(mo:MO):List Nat:=mo.m.tmps++((match mo.guard with|some (t,_)=>[t]|none=>[])++mo.av)
def M.addr:M→Option Nat|.load _ _ (.t t)=>some t|_=>none
def MO.held(i j:MO):Bool:=match i.m.addr with|some t=>j.av.contains t && i.dst != some t|none=>false
def zeR(i j:MO):Bool:=
 (match i.dst with|some d=>!(j.tmps.contains d) && j.dst != some d|none=>true) && (match j.dst with|some d=>!(i.tmps.contains d)|none=>true) && i.slot != j.slot && (i.m.quiet || (i.m.isLoad && (decide (i.slot<1000) && (!j.m.writes || i.held j))))
inductive RT where
 |done
 |step (mo:MO) (t:RT)
 |alt (a b:RT)
 |bad
def zkv(ops:Array Oper)(mos:List MO)(listed:Array Bool)(i:Nat):Bool:=match mos[i]? with
 |none=>false
 |some mi=>(mi.m.quiet || mi.m.isLoad) && (List.range ops.size).all fun j=>j==i || listed.getD j true || match ops[j]?,mos[j]? with
  |some oj,some mj=>oj.after.any (fun e=>Region.binds .any e && e.on==i) || zeR mi mj
  |_,_=>false
def altL:List RT→RT
 |[]=>.done
 |[a]=>a
 |a::b::l=>.alt a (altL (b::l))
def ze0(ops:Array Oper)(mos:List MO):Nat→Array Bool→RT
 |0,listed=>match Region.ready .any ops listed with|[]=>.done|_=>.bad
 |fuel+1,listed=>match Region.ready .any ops listed with
  |[]=>.done
  |r::rs=>match(r::rs).find? (zkv ops mos listed)with
   |some i=>match mos[i]? with|some mo=>.step mo (ze0 ops mos fuel (listed.setIfInBounds i true))|none=>.bad
   |none=>altL ((r::rs).map fun i=>match mos[i]? with|some mo=>.step mo (ze0 ops mos fuel (listed.setIfInBounds i true))|none=>.bad)
def wpR(P:Program)(G:Nat→V)(Kp:V→(Nat→Ent)→Prop)(Q:X→Prop):RT→X→Prop
 |.done,x=>Q x
 |.step mo t,x=>zaV P G mo (wpR P G Kp Q t) Kp x
 |.alt a b,x=>wpR P G Kp Q a x∧wpR P G Kp Q b x
 |.bad,_=>False
def Live(c:Ctx)(x:X):Prop:=∃a w H A,SimH c x a w H A
structure Comped(P:Program)(c:Ctx)(ops:Array Oper)(mos:List MO):Prop where
 len:mos.length=ops.size
 each:∀(i:Nat)(o:Oper)(mo:MO),ops[i]?=some o→mos[i]?=some mo→zcc P c.N c.G ops mo.slot mo.av o=some mo
 slot:∀(i:Nat)(mo:MO),mos[i]?=some mo→c.n0≤mo.slot
def zeX(n0:Nat)(Kp:V→(Nat→Ent)→Prop):Prop:=∀v st st',(∀k,k<n0→st' k=st k)→Kp v st→Kp v st'
theorem zjh{P:Program}{G:Nat→V}{b:Bool}{av:List V}{fv:V}{args:List V}{st:Nat→Ent}{K K' Kp Kp':V→Upds→Prop}(hK:∀v U,K v U→K' v U)(hKp:∀v U,Kp v U→Kp' v U)(h:zhT P G b av fv args st K Kp):zhT P G b av fv args st K' Kp':=by
 unfold zhT at h ⊢;split at h
 ·obtain⟨ids,ents,args',R,h0,h00,h1,h2,h3⟩:=h;refine⟨ids,ents,args',R,h0,h00,h1,h2,fun o es ho hf=>?_⟩;have:=h3 o es ho hf;cases o with
  |ret v=>exact hK _ _ this
  |panic v=>exact hKp _ _ this
 ·exact h.elim
theorem ze3{P:Program}{G:Nat→V}{mo:MO}{K K':X→Prop}{Kp:V→(Nat→Ent)→Prop}{x:X}(hK:∀x,K x→K' x)(h:zaV P G mo K Kp x):zaV P G mo K' Kp x:=by
 unfold zaV at h ⊢;split at h
 ·exact h.elim
 ·exact hK _ h
 ·split at h
  ·exact zjh (fun _ _=>hK _) (fun _ _ h=>h) h
  ·exact h
  ·split at h
   ·exact⟨h.1,hK _ h.2⟩
   ·exact h.elim
  ·split at h
   ·exact hK _ h
   ·exact h.elim
theorem zgu{i:Nat}{e:Ent}:∀(U:Upds)(s:Nat→Ent),(∀q∈U,q.1≠i)→updL (updE s i e) U=updE (updL s U) i e
 |[],_,_=>rfl
 |(j,n)::U,s,h=>by
  have h1:j≠i:=h (j,n) (by simp);have:updE (updE s i e) j n=updE (updE s j n) i e:=by
   funext k;by_cases hk:k=j
   ·subst hk;rw[zai,zab _ _ h1,zai]
   ·by_cases hk2:k=i
    ·subst hk2;rw[zab _ _ hk,zai,zai]
    ·rw[zab _ _ hk,zab _ _ hk2,zab _ _ hk2,zab _ _ hk]
  rw[updL,this,zgu U _ (fun q hq=>h q (by simp[hq]))];rfl
theorem zgv:∀(U Uj:Upds)(s:Nat→Ent),(∀p∈U,∀q∈Uj,q.1≠p.1)→updL (updL s Uj) U=updL (updL s U) Uj
 |[],_,_,_=>rfl
 |(i,e)::U,Uj,s,h=>by
  rw[updL,updL,←zgu Uj s (h (i,e) (by simp)),zgv U Uj _ (fun p hp=>h p (by simp[hp]))]
theorem zhH{e:Nat→V}{di dj:Option Tmp}{v u:V}(h:∀d,di=some d→dj≠some d):putEnv (putEnv e dj u) di v=putEnv (putEnv e di v) dj u:=by
 cases di with
 |none=>rfl
 |some d=>
  cases dj with
  |none=>rfl
  |some d'=>
   have hne:d'≠d:=fun e=>h d rfl (by rw[e]);funext k;simp only[putEnv,upd];by_cases h1:k=d
   ·have:k≠d':=fun e=>hne (e.symm.trans h1);simp[h1,Ne.symm hne]
   ·simp[h1]
theorem put_comm{x:X}{di dj:Option Tmp}{v u:V}{U Uj:Upds}(hd:∀d,di=some d→dj≠some d)(hU:∀p∈U,∀q∈Uj,q.1≠p.1):(x.put dj u Uj).put di v U=(x.put di v U).put dj u Uj:=by
 simp only[X.put,zhH hd,zgv U Uj x.st hU]
theorem zkz{e:Nat→V}{d:Option Tmp}{v:V}{y:O}(h:∀t,d=some t→t ∉ y.tmps):y.ev (putEnv e d v)=y.ev e:=by
 cases d with
 |none=>rfl
 |some t=>
  cases y with
  |c v=>rfl
  |t n=>
   have:n≠t:=fun e=>h t rfl (by simp[O.tmps,e]);simp[O.ev,putEnv,upd,this]
theorem zh0{e:Nat→V}{d:Option Tmp}{v:V}{g:Option (Nat×Bool)}(h:∀t,d=some t→∀w,g≠some (t,w)):wantX (putEnv e d v) g=wantX e g:=by
 cases d with
 |none=>rfl
 |some t=>
  cases g with
  |none=>rfl
  |some p=>
   obtain⟨n,w⟩:=p;have:n≠t:=fun e=>h t rfl w (by rw[e]);simp[wantX,putEnv,upd,this]
def Yld(mo:MO)(x:X)(v:V)(U:Upds):Prop:=
 (wantX x.env mo.guard=some true∧semM mo.slot mo.m x.env x.st=some (v,U))∨(wantX x.env mo.guard=some false∧v=.undef∧U=[])
theorem zbg{m:M}(h:m.quiet=true∨m.isLoad=true):(∀b f xs,m≠.call b f xs)∧(∀y,m≠.pan y)∧(∀n y z,m≠.store n y z):=by
 refine⟨fun b f xs e=>?_,fun y e=>?_,fun n y z e=>?_⟩<;>subst e<;>rcases h with h|h<;>cases h
theorem Yld.step{P:Program}{G:Nat→V}{mo:MO}{K:X→Prop}{Kp:V→(Nat→Ent)→Prop}{x:X}{v:V}{U:Upds}(hq:mo.m.quiet=true∨mo.m.isLoad=true)(hy:Yld mo x v U)(h:K (x.put mo.dst v U)):zaV P G mo K Kp x:=by
 rcases hy with⟨h1,h2⟩|⟨h1,rfl,rfl⟩
 ·rw[zdx (zbg hq).1 (zbg hq).2.1 (zbg hq).2.2 h1,h2];exact h
 ·unfold zaV;rw[h1];exact h
theorem Yld.of_step{P:Program}{G:Nat→V}{mo:MO}{K:X→Prop}{Kp:V→(Nat→Ent)→Prop}{x:X}(hq:mo.m.quiet=true∨mo.m.isLoad=true)(h:zaV P G mo K Kp x):∃v U,Yld mo x v U∧K (x.put mo.dst v U):=by
 cases hw:wantX x.env mo.guard with
 |none=>unfold zaV at h;rw[hw]at h;exact h.elim
 |some b=>
  cases b
  ·unfold zaV at h;rw[hw]at h;exact⟨.undef,[],.inr ⟨hw,rfl,rfl⟩,h⟩
  ·rw[zdx (zbg hq).1 (zbg hq).2.1 (zbg hq).2.2 hw]at h;split at h
   ·rename_i v U hs;exact⟨v,U,.inl ⟨hw,hs⟩,h⟩
   ·exact h.elim
theorem Yld.upds{mo:MO}{x:X}{v:V}{U:Upds}(hq:mo.m.quiet=true∨mo.m.isLoad=true)(hy:Yld mo x v U):U=[]∨∃n,U=[(mo.slot,n)]∧x.st mo.slot=.gone:=by
 rcases hy with⟨_,hs⟩|⟨_,_,h⟩
 ·rcases semM_upd hs with h|h|⟨_,_,_,_,_,_,h⟩|⟨_,_,_,_,_,_,_,h,h'⟩|⟨_,_,_,_,_,_,_,h,h'⟩
  ·exact .inl h
  ·exact .inr h
  ·exfalso;rcases hq with hq|hq<;>generalize mo.m=m at h hq<;>cases m<;>first|(cases h;done)|(cases hq;done)
  ·rcases hq with hq|hq
   ·rw[hq]at h;cases h
   ·rw[hq]at h';cases h'
  ·rcases hq with hq|hq
   ·rw[hq]at h;cases h
   ·rw[hq]at h';cases h'
 ·exact .inl h
theorem Yld.keep{mo:MO}{x x':X}{v:V}{U:Upds}(hy:Yld mo x v U)(henv:∀y∈mo.m.opds,y.ev x'.env=y.ev x.env)(hw:wantX x'.env mo.guard=wantX x.env mo.guard)(hr:RowsLe x.st x'.st)(hg:(x.st mo.slot).isGone=true→(x'.st mo.slot).isGone=true)
  (hq:mo.m.quiet=true∨(mo.m.isLoad=true∧mo.slot<1000∧∀ag n y,mo.m=.load ag n y→∀id off,y.ev x.env=.ptr id off→∀T cs,x.st id=.blk T cs→x'.st id=.blk T cs)):Yld mo x' v U:=by
 rcases hy with⟨h1,h2⟩|⟨h1,h2⟩
 ·refine .inl ⟨hw.trans h1, ?_⟩;rw[zfQ henv];rcases hq with hq|⟨hq,hsl,hb⟩
  ·exact ziX hq hr hg h2
  ·generalize hm:mo.m=m at hq h2 ⊢;cases m<;>first|(cases hq;done)|skip
   rename_i ag n y;have hb:=fun id off (he:y.ev x.env=.ptr id off)=>hb ag n y hm id off he;cases ag
   ·simp only[semM]at h2 ⊢;split at h2
    ·rename_i hadr;split at h2
     ·rename_i id off _ _ _ hst;rw[hb _ _ hadr _ _ hst];exact h2
     ·cases h2
    ·exact h2
    ·rw[if_neg (by omega)]at h2;cases h2
    ·cases h2
   ·simp only[semM]at h2 ⊢;split at h2
    ·rename_i hadr;split at h2
     ·rename_i id off _ T cs hst;rw[hb _ _ hadr _ _ hst];dsimp only;split at h2
      ·rename_i hc;have:((cs.drop off).take n).map (res x'.st)=((cs.drop off).take n).map (res x.st):=qa9 fun u hu=>by
        rcases res_le hr u with h3|h3
        ·have:=qa22.1 hc.2 _ (qa10 hu);rw[h3]at this;cases this
        ·exact h3
       rw[this,if_pos hc];exact h2
      ·cases h2
     ·cases h2
    ·exact h2
    ·rw[if_neg (by omega)]at h2;cases h2
    ·cases h2
 ·exact .inr ⟨hw.trans h1,h2⟩
section
variable{P:Program}{c:Ctx}{x:X}{a:Act}{w:World}{H:Nat→Value}{A:Nat→Nat→Prop}{ops:Array Oper}{mos:List MO}
theorem RepS.off{st:Nat→Ent}{s:Nat}(hg:st s=.gone){v:V}{xv:Value}(h:RepS w A st H v xv):v.off s:=by
 cases v<;>first|rfl|skip
 ·rcases h with⟨b,_,⟨T,cs,h2⟩,_⟩|h
  ·simp only[V.off,V.on,bne_iff_ne,ne_eq];intro e;rw[e,hg]at h2;cases h2
  ·cases h
 ·rcases h with h|h
  ·exact h.elim
  ·cases h
 ·rcases h with h|h
  ·exact h.elim
  ·cases h
 ·rcases h with h|h
  ·exact h.elim
  ·cases h
 ·rcases h with h|h
  ·exact h.elim
  ·cases h
 ·rcases h with h|h
  ·exact h.elim
  ·cases h
theorem zaJ.off{st:Nat→Ent}{s:Nat}(hg:st s=.gone):∀{xs:List V} {vs:List Value},zaJ w A st H xs vs→∀v∈xs,v.off s
 |[],_,_,v,hv=>by simp at hv
 |_::_,_,⟨u,us,h1,h2,h3⟩,v,hv=>by
  rcases qa33.1 hv with rfl|hv
  ·exact RepS.off hg h2
  ·exact zaJ.off hg h3 v hv
theorem zkc{s:Nat}{v:V}(h:v.off s):onS (fun k=>k != s) v=true:=by
 cases v<;>first|rfl|exact h
theorem zaC.off{st:Nat→Ent}{s:Nat}(hg:st s=.gone):∀{xs:List V} {vs:List Value},zaC w A st H xs vs→xs.all (onK fun k=>k != s)=true
 |[],_,_=>rfl
 |x::_,_,⟨u,us,h1,h2,h3⟩=>by
  simp only[qa34,zaC.off hg h3,Bool.and_true];cases x<;>first|rfl|skip
  obtain⟨T,z,xs,h4,_⟩:=h2;simp only[onK,bne_iff_ne,ne_eq];intro e;rw[e,hg]at h4;cases h4
theorem RepT.off{st:Nat→Ent}{s:Nat}(hg:st s=.gone){v:V}{xv:Value}(h:RepT w A st H v xv):v.off s:=by
 cases v<;>first|rfl|exact RepS.off hg h|skip
 ·obtain⟨T,z,xs,h1,_⟩:=h;simp only[V.off,V.on,bne_iff_ne,ne_eq];intro e;rw[e,hg]at h1;cases h1
 ·obtain⟨fs,cs,_,h2,h3⟩:=h;simp only[V.off,V.on,qa21,qa22];exact⟨fun v hv=>zkc (zaJ.off hg h2 v hv),fun v hv=>zkc (zaJ.off hg h3 v hv)⟩
 ·obtain⟨vs,_,h2⟩:=h;exact zaC.off hg h2
 ·obtain⟨_,T,z,xs,_,h1⟩:=h;simp only[V.off,V.on,bne_iff_ne,ne_eq];intro e;rw[e,hg]at h1;rcases h1 with⟨h1,_⟩|⟨h1,_⟩<;>cases h1
 ·obtain⟨_,T,z,xs,_,h1,_⟩:=h;simp only[V.off,V.on,bne_iff_ne,ne_eq];intro e;rw[e,hg]at h1;rcases h1 with h1|h1<;>cases h1
theorem zam.off{st:Nat→Ent}{s:Nat}(hg:st s=.gone):∀{xs:List V} {vs:List Value},zam w A st H xs vs→∀v∈xs,v.off s
 |[],_,_,v,hv=>by simp at hv
 |_::_,_,⟨u,us,h1,h2,h3⟩,v,hv=>by
  rcases qa33.1 hv with rfl|hv
  ·exact RepT.off hg h2
  ·exact zam.off hg h3 v hv
theorem SimH.cells_off(h:SimH c x a w H A){s:Nat}(hg:x.st s=.gone):∀id T cs,x.st id=.blk T cs→∀v∈cs,v.off s:=fun id T cs hi=>by
 have h1:=h.ent id;rw[hi]at h1;obtain⟨b,C,_,_,h3,_⟩:=h1;exact zam.off hg h3
theorem SimH.opd_off(h:SimH c x a w H A){s:Nat}(hg:x.st s=.gone){op:Op}{m:M}(hm:compM P c.N c.G op=some m):∀y∈m.opds,(y.ev x.env).off s:=fun y hy=>by
 obtain⟨o,ho|ho⟩:=zjg hm y hy
 ·exact RepT.off hg (zac h ho)
 ·exact RepT.off hg (zfw h ho)
theorem zjr{st:Nat→Ent}{slot:Nat}{m:M}{e:Nat→V}{v:V}{U:Upds}(hs:semM slot m e st=some (v,U)):
  RowsLe st (updL st U)∧(∀id,id≠slot→st id=.gone→updL st U id=.gone)∧(∀s,s≠slot→st s=.gone→∀q∈U,q.1≠s)∧(m.writes=false→∀id T cs,st id=.blk T cs→updL st U id=.blk T cs):=by
 have other:∀{i:Nat} {e:Ent},(∀id,id≠i→updL st [(i,e)] id=st id):=fun{i e} id hid=>by simp[updL,zab _ _ hid]
 have same:∀{i:Nat} {e:Ent},updL st [(i,e)] i=e:=fun{i e}=>by simp[updL,zai]
 have gen:∀{i:Nat} {e:Ent},(∀T z xs,st i=.row T z xs→∃ys,e=.row T z (xs++ys))→(∀T z xs,st i=.mrow T z xs→∃ys,e=.mrow T z ys)→(∀T z xs,st i=.frow T z xs→e=.frow T z xs)→RowsLe st (updL st [(i,e)]):=by
  intro i e h1 h2 h3;refine⟨fun id T z xs h=>?_,fun id T z xs h=>?_,fun id T z xs h=>?_⟩
  ·by_cases hi:id=i
   ·subst hi;rw[same];exact h1 _ _ _ h
   ·exact⟨[],by rw[other id hi];simpa using h⟩
  ·by_cases hi:id=i
   ·subst hi;rw[same];exact h2 _ _ _ h
   ·exact⟨xs,by rw[other id hi];exact h⟩
  ·by_cases hi:id=i
   ·subst hi;rw[same];exact h3 _ _ _ h
   ·rw[other id hi];exact h
 rcases semM_upd hs with rfl|⟨n,rfl,hg⟩|⟨i,T,cs,cs',rfl,hi,hw⟩|⟨i,T,z,xs,ys,rfl,hi,_⟩|⟨i,T,z,xs,ys,rfl,hi,_⟩
 ·exact⟨.refl _,fun _ _ h=>h,fun _ _ _ q hq=>by simp at hq,fun _ _ _ _ h=>h⟩
 ·refine ⟨gen (fun _ _ _ h=>by rw [hg] at h;cases h) (fun _ _ _ h=>by rw [hg] at h;cases h) (fun _ _ _ h=>by rw [hg] at h;cases h),fun id hid h=>?_,fun s hs _ q hq=>?_,fun _ id T cs h=>?_⟩
  ·rw[other id hid];exact h
  ·simp at hq;subst hq;exact Ne.symm hs
  ·have:id≠slot:=fun e=>by rw [e,hg] at h;cases h
   rw[other id this];exact h
 ·refine ⟨gen (fun _ _ _ h=>by rw [hi] at h;cases h) (fun _ _ _ h=>by rw [hi] at h;cases h) (fun _ _ _ h=>by rw [hi] at h;cases h),fun id hid h=>?_,fun s hs hg q hq=>?_,fun h=>by rw [hw] at h;cases h⟩
  ·have:id≠i:=fun e=>by rw [e,hi] at h;cases h
   rw[other id this];exact h
  ·simp at hq;subst hq;intro e;dsimp only at e;rw[e,hg]at hi;cases hi
 ·refine ⟨gen (fun _ _ _ h=>by rw [hi] at h;cases h;exact ⟨ys,rfl⟩) (fun _ _ _ h=>by rw [hi] at h;cases h) (fun _ _ _ h=>by rw [hi] at h;cases h),fun id hid h=>?_,fun s hs hg q hq=>?_,fun _ id T cs h=>?_⟩
  ·have:id≠i:=fun e=>by rw [e,hi] at h;cases h
   rw[other id this];exact h
  ·simp at hq;subst hq;intro e;dsimp only at e;rw[e,hg]at hi;cases hi
  ·have:id≠i:=fun e=>by rw [e,hi] at h;cases h
   rw[other id this];exact h
 ·refine ⟨gen (fun _ _ _ h=>by rw [hi] at h;cases h) (fun _ _ _ h=>by rw [hi] at h;cases h;exact ⟨ys,rfl⟩) (fun _ _ _ h=>by rw [hi] at h;cases h),fun id hid h=>?_,fun s hs hg q hq=>?_,fun _ id T cs h=>?_⟩
  ·have:id≠i:=fun e=>by rw [e,hi] at h;cases h
   rw[other id this];exact h
  ·simp at hq;subst hq;intro e;dsimp only at e;rw[e,hg]at hi;cases hi
  ·have:id≠i:=fun e=>by rw [e,hi] at h;cases h
   rw[other id this];exact h
theorem lend_st{st:Nat→Ent}{ids:List Nat}{ents es:List Ent}(hl:Lends st ids ents)(hf:Fol ents es):
  RowsLe st (updL st (lendU ids es))∧(∀id,st id=.gone→id ∉ ids)∧∀id,st id=.gone→updL st (lendU ids es) id=.gone:=by
 obtain⟨hz1,hz2⟩:=zbe ids (es.map (Ent.ren (nameOf ids))) st hl.nodup (by simp[hf.len,hl.len]);have hnot:∀id,st id=.gone→id ∉ ids:=fun id hg hid=>by
  obtain⟨k,hk,rfl⟩:=za4 hid;rw[hl.ent k hk]at hg;exact hl.live k hk (zd7 hg)
 have get:∀k,k<ids.length→updL st (lendU ids es) (nameOf ids k)=(entF es k).ren (nameOf ids):=fun k hk=>by
  have hk2:k<es.length:=by rw[hf.len,hl.len];exact hk
  have h2:=hz1 k hk;simp only[lendU,nameOf]at h2 ⊢;rw[h2];simp only[entF,qa3,qa15,qa5 hk2,Option.map_some,Option.getD_some]
 refine⟨⟨fun id T z xs h=>?_,fun id T z xs h=>?_,fun id T z xs h=>?_⟩,hnot,fun id hg=>(hz2 id (hnot id hg)).trans hg⟩
 ·by_cases hid:id∈ids
  ·obtain⟨k,hk,rfl⟩:=za4 hid;rw[hl.ent k hk]at h;obtain⟨ys,h1⟩:=hf.row _ _ _ _ (zf2 h);exact⟨ys,by rw[get k hk,h1];rfl⟩
  ·exact⟨[],by rw[show updL st (lendU ids es) id=st id from hz2 id hid];simpa using h⟩
 ·by_cases hid:id∈ids
  ·obtain⟨k,hk,rfl⟩:=za4 hid;rw[hl.ent k hk]at h;obtain⟨ys,h1⟩:=hf.mrow _ _ _ _ (zd6 h);exact⟨ys,by rw[get k hk,h1];rfl⟩
  ·exact⟨xs,by rw[show updL st (lendU ids es) id=st id from hz2 id hid];exact h⟩
 ·by_cases hid:id∈ids
  ·obtain⟨k,hk,rfl⟩:=za4 hid;rw[hl.ent k hk]at h;rw[get k hk,hf.frow _ _ _ _ (zd8 h)];rfl
  ·rw[show updL st (lendU ids es) id=st id from hz2 id hid];exact h
theorem zkr{ids:List Nat}{es:List Ent}:∀q∈lendU ids es,q.1∈ids:=fun q hq=>(List.of_mem_zip hq).1
theorem zjj{i j:MO}(h:zeR i j=true):(∀d,i.dst=some d→d ∉ j.tmps∧j.dst≠some d)∧(∀d,j.dst=some d→d ∉ i.tmps)∧i.slot≠j.slot∧(i.m.quiet=true∨(i.m.isLoad=true∧i.slot<1000∧(j.m.writes=false∨i.held j=true))):=by
 unfold zeR at h;simp only[qa21,qa27,qa18,bne_iff_ne,ne_eq,qa16]at h;obtain⟨⟨⟨h1,h2⟩,h3⟩,h4⟩:=h;refine⟨fun d hd=>?_,fun d hd=>?_,h3,h4⟩
 ·rw[hd]at h1;simp only[qa21,qa18,bne_iff_ne,ne_eq,List.contains_eq_mem,decide_eq_false_iff_not]at h1;exact h1
 ·rw[hd]at h2;simpa using h2
theorem zdi{mo:MO}{d:Nat}(h:d ∉ mo.tmps):(∀y∈mo.m.opds,d ∉ y.tmps)∧(∀w,mo.guard≠some (d,w))∧d ∉ mo.av:=by
 simp only[MO.tmps,M.tmps,qa29,List.mem_flatMap,not_or,not_exists,not_and]at h;refine⟨h.1,fun w hw=>?_,h.2.2⟩;have:=h.2.1;rw[hw]at this;simp at this
theorem zjF(h:SimH c x a w H A){mi mj:MO}{oj:Oper}(hcj:zcc P c.N c.G ops mj.slot mj.av oj=some mj)(hap:zeR mi mj=true)(hsl:c.n0≤mi.slot){Kp:V→(Nat→Ent)→Prop}(hp:zeX c.n0 Kp){v:V}{U:Upds}(hy:Yld mi x v U){K:X→Prop}
  (hs:zaV P c.G mj K Kp (x.put mi.dst v U)):zaV P c.G mj (fun x'=>Yld mi x' v U∧K (x'.put mi.dst v U)) Kp x:=by
 obtain⟨ha1,ha2,ha3,ha4⟩:=zjj hap;have hmj:=(zbn hcj).1;have hq:mi.m.quiet=true∨mi.m.isLoad=true:=ha4.imp id And.left;have hU:=hy.upds hq;have hwj:wantX (x.put mi.dst v U).env mj.guard=wantX x.env mj.guard:=zh0 (fun t ht w=>(zdi (ha1 t ht).1).2.1 w);have hevj:∀y∈mj.m.opds,y.ev (x.put mi.dst v U).env=y.ev x.env:=fun y hyy=>zkz (fun t ht=>(zdi (ha1 t ht).1).1 y hyy);have hwi:∀u,wantX (putEnv x.env mj.dst u) mi.guard=wantX x.env mi.guard:=fun u=>zh0 (fun t ht w=>(zdi (ha2 t ht)).2.1 w);have hevi:∀u,∀y∈mi.m.opds,y.ev (putEnv x.env mj.dst u)=y.ev x.env:=fun u y hyy=>zkz (fun t ht=>(zdi (ha2 t ht)).1 y hyy);have hdd:∀d,mi.dst=some d→mj.dst≠some d:=fun d hd=>(ha1 d hd).2;have fin:∀(u:V)(Uj:Upds),RowsLe x.st (updL x.st Uj)→(x.st mi.slot=.gone→updL x.st Uj mi.slot=.gone∧∀q∈Uj,q.1≠mi.slot)→(mi.m.isLoad=true→mi.m.quiet=false→∀ag n y,mi.m=.load ag n y→∀id off,y.ev x.env=.ptr id off→∀T cs,x.st id=.blk T cs→updL x.st Uj id=.blk T cs)→K ((x.put mi.dst v U).put mj.dst u Uj) →
   Yld mi (x.put mj.dst u Uj) v U∧K ((x.put mj.dst u Uj).put mi.dst v U):=by
  intro u Uj hr hg hb hK;refine⟨hy.keep (hevi u) (hwi u) hr (fun hgo=>by rw[show(x.put mj.dst u Uj).st=updL x.st Uj from rfl,(hg (isGone_spec hgo)).1];rfl) ?_, ?_⟩
  ·rcases ha4 with h1|⟨h1,h0,h2⟩
   ·exact .inl h1
   ·by_cases h3:mi.m.quiet=true
    ·exact .inl h3
    ·exact .inr ⟨h1,h0,hb h1 (by simpa using h3)⟩
  ·rw[put_comm hdd ?_]
   ·exact hK
   ·intro p hp q hq;rcases hU with rfl|⟨n,rfl,hgo⟩
    ·simp at hp
    ·simp at hp;subst hp;exact(hg hgo).2 q hq
 have hst:∀id,id≠mi.slot→(x.put mi.dst v U).st id=x.st id:=by
  intro id hid;rcases hU with rfl|⟨n,rfl,hgo⟩
  ·rfl
  ·simp[X.put,updL,zab _ _ hid]
 have hav0:∀ids,avoidV (mj.av.map x.env) ids=avoidV (mj.av.map (x.put mi.dst v U).env) ids:=by
  intro ids;congr 1;refine qa9 fun t ht=>?_;have:=zkz (e:=x.env) (d:=mi.dst) (v:=v) (y:=.t t) (fun d hd=>by
   have:=(zdi (ha1 d hd).1).2.2;simp only[O.tmps,List.mem_singleton];intro e;subst e;exact this ht)
  exact this.symm
 have hheld:mi.held mj=true→∀ag n y,mi.m=.load ag n y→∀id off,y.ev x.env=.ptr id off→∀ids,avoidV (mj.av.map (x.put mi.dst v U).env) ids=true→id ∉ ids:=by
  intro hh ag n y hmy id off hye ids hav;unfold MO.held at hh;rw[hmy]at hh;cases y with
  |c _=>cases hh
  |t t=>
   simp only[M.addr,qa21,List.contains_eq_mem,qa16,bne_iff_ne,ne_eq]at hh;rw[←hav0]at hav;have:=qa22.1 hav _ (qa10 hh.1);rw[show x.env t=.ptr id off from hye]at this;simpa using this
 unfold zaV at hs ⊢;rw[hwj]at hs;split at hs
 ·exact hs.elim
 ·rename_i hw;exact fin _ _ (.refl _) (fun hg=>⟨hg,fun q hq=>by simp at hq⟩) (fun _ _ _ _ _ _ _ _ _ _ _ hh=>hh) hs
 ·rename_i hw;split at hs
  ·rename_i b f xs hm;rw[hm]at hevj hmj;have hf:=hevj f (by simp[M.opds]);have hxs:xs.map (O.ev (x.put mi.dst v U).env)=xs.map (O.ev x.env):=zkm (fun y hyy=>hevj y (by simp[M.opds,hyy]));rw[hf,hxs]at hs;unfold zhT at hs ⊢;split at hs
   ·rename_i fid first cap hfv;obtain⟨ids,ents,args',R,hpu,hav,hcx,hpc,hR⟩:=hs;have hvs:x.st mi.slot=.gone→∀u∈first++xs.map (O.ev x.env)++cap,u.off mi.slot:=by
     intro hgo u hu;obtain⟨cl,fo,_,_,h1,h2⟩:=zhe hmj;simp only[qa29]at hu;have h3:=zac h h1;rw[hfv]at h3;obtain⟨fs,cs,_,h5,h6⟩:=h3;rcases hu with(hu|hu)|hu
     ·exact zaJ.off hgo h5 u hu
     ·exact zam.off hgo (zbM h h2) u hu
     ·exact zaJ.off hgo h6 u hu
    have hids:x.st mi.slot=.gone→∀k,k<ids.length→nameOf ids k≠mi.slot:=by
     intro hgo k;induction k using Nat.strongRecOn with
     |_ k ih=>
      intro hk e;rcases hcx.ment k hk with⟨u,hu,h1⟩|⟨j,hj,h1⟩
      ·have:=hvs hgo u hu;rw[e]at h1;rw[V.off,h1]at this;cases this
      ·have h2:=ih j hj (by omega);rw[hst _ h2,e]at h1;cases hse:x.st (nameOf ids j)with
       |gone=>rw[hse]at h1;cases h1
       |row T z xs=>rw[hse]at h1;cases h1
       |mrow T z xs=>rw[hse]at h1;cases h1
       |frow T z xs=>rw[hse]at h1;cases h1
       |blk T cs=>
        rw[hse]at h1;have h3:=h.cells_off hgo _ _ _ hse;have:Ent.on (fun i=>i != mi.slot) (.blk T cs)=true:=qa22.2 h3;rw[this]at h1;cases h1
    have hst':∀k,k<ids.length→(x.put mi.dst v U).st (nameOf ids k)=x.st (nameOf ids k):=by
     intro k hk;rcases hU with rfl|⟨n,rfl,hgo⟩
     ·rfl
     ·exact hst _ (hids hgo k hk)
    have hargs:(first++xs.map (O.ev x.env)++cap).map (argV (x.put mi.dst v U).st)=(first++xs.map (O.ev x.env)++cap).map (argV x.st):=by
     rcases hU with rfl|⟨n,rfl,hgo⟩
     ·rfl
     ·refine qa9 fun u hu=>?_;show norm1 (res (updE x.st mi.slot n) u)=_;rw[zex (hvs hgo u hu)];rfl
    have hargs2:(first++xs.map (O.ev x.env)++cap).map (res (x.put mi.dst v U).st)=(first++xs.map (O.ev x.env)++cap).map (res x.st):=by
     rcases hU with rfl|⟨n,rfl,hgo⟩
     ·rfl
     ·exact qa9 fun u hu=>zex (hvs hgo u hu)
    have hcx':CallX x.st (first++xs.map (O.ev x.env)++cap) ids ents args':=by
     refine⟨⟨hcx.lends.nodup,hcx.lends.len,fun k hk=>(hst' k hk).symm.trans (hcx.lends.ent k hk),hcx.lends.live,hcx.lends.on⟩,hcx.eq.imp hargs.symm.trans hargs2.symm.trans,hcx.on,fun k hk=>?_⟩;rcases hcx.ment k hk with h1|⟨j,hj,h1⟩
     ·exact .inl h1
     ·exact .inr ⟨j,hj,by rw[←hst' j (by omega)];exact h1⟩
    refine⟨ids,ents,args',R,hpu,by rw[←hav];exact hav0 ids,hcx',hpc,fun o es ho hfo=>?_⟩;have hK:=hR o es ho hfo;obtain⟨hr1,hr2,hr3⟩:=lend_st hcx'.lends hfo;cases o with
    |ret u=>
     refine fin u _ hr1 (fun hgo=>⟨hr3 _ hgo,fun q hq e=>hr2 _ hgo (e ▸ zkr q hq)⟩) (fun hl hnq=>?_) hK;rcases ha4 with h1|⟨_,_,h2⟩
     ·rw[hnq]at h1;cases h1
     ·rcases h2 with h2|h2
      ·rw[hm]at h2;have hb:b=true:=by simpa[M.writes]using h2
       have h0:=hpu hb;subst h0;exact fun _ _ _ _ _ _ _ _ _ h=>h
      ·intro ag n y hmy id off hye T cs hid;have hnid:id ∉ ids:=hheld h2 ag n y hmy id off hye ids hav;have hz:=(zbe ids (es.map (Ent.ren (nameOf ids))) x.st hcx.lends.nodup (by simp[hfo.len,hcx.lends.len])).2 id hnid;exact hz.trans hid
    |panic u=>
     refine hp _ _ _ (fun k hk=>?_) hK;have hks:k≠mi.slot:=by omega
     by_cases hki:k∈ids
     ·obtain⟨j,hj,rfl⟩:=za4 hki;obtain⟨hz1,_⟩:=zbe ids (es.map (Ent.ren (nameOf ids))) x.st hcx.lends.nodup (by simp[hfo.len,hcx.lends.len]);obtain⟨hz3,_⟩:=zbe ids (es.map (Ent.ren (nameOf ids))) (x.put mi.dst v U).st hcx.lends.nodup (by simp[hfo.len,hcx.lends.len]);exact(hz1 j hj).trans (hz3 j hj).symm
     ·obtain ⟨_,hz2⟩:=zbe ids (es.map (Ent.ren (nameOf ids))) x.st hcx.lends.nodup (by simp [hfo.len,hcx.lends.len]);obtain⟨_,hz4⟩:=zbe ids (es.map (Ent.ren (nameOf ids))) (x.put mi.dst v U).st hcx.lends.nodup (by simp[hfo.len,hcx.lends.len]);exact((hz2 k hki).trans (hst k hks).symm).trans (hz4 k hki).symm
   ·exact hs.elim
  ·rename_i y hm;rw[hm]at hevj hmj;have hyv:=hevj y (by simp[M.opds]);have hres:res (x.put mi.dst v U).st (y.ev x.env)=res x.st (y.ev x.env):=by
    rcases hU with rfl|⟨n,rfl,hgo⟩
    ·rfl
    ·exact zex (h.opd_off hgo hmj y (by simp[M.opds]))
   rw[hyv,hres]at hs;split at hs
   ·exact hp _ _ _ (fun k hk=>(hst k (by omega)).symm) hs
   ·exact hs.elim
  ·rename_i n y' z' hm;rw[hm]at hevj hmj;have hsem:semM mj.slot (.store n y' z') (x.put mi.dst v U).env (x.put mi.dst v U).st=semM mj.slot (.store n y' z') x.env x.st:=by
    rw[zfQ hevj];rcases hU with rfl|⟨n,rfl,hgo⟩
    ·rfl
    ·exact zid (h.cells_off hgo) (Ne.symm ha3) (h.opd_off hgo hmj)
   rw[hsem]at hs;split at hs
   ·rename_i u Uj hu;obtain⟨hr1,hr2,hr3,hr4⟩:=zjr hu;refine⟨by rw[←hs.1];exact hav0 _,fin u Uj hr1 (fun hgo=>⟨hr2 _ ha3 hgo,hr3 _ ha3 hgo⟩) (fun hl hnq=>?_) hs.2⟩;rcases ha4 with h1|⟨_,_,h2⟩
    ·rw[hnq]at h1;cases h1
    ·rcases h2 with h2|h2
     ·rw[hm]at h2;cases h2
     ·intro ag k y hmy id off hye T cs hid;have hnid:=hheld h2 ag k y hmy id off hye _ hs.1;rcases semM_upd hu with rfl|⟨e,rfl,hg⟩|⟨i,T',cs',cs'',rfl,hi,_⟩|⟨i,T',z,xs,ys,rfl,hi,_⟩|⟨i,T',z,xs,ys,rfl,hi,_⟩
      ·exact hid
      all_goals
       have hne:=hnid;simp only[qa32,List.map_nil,List.mem_singleton]at hne;simpa[updL,zab _ _ hne]using hid
   ·exact hs.elim
  ·rename_i hnc hnp hns;have hsem:semM mj.slot mj.m (x.put mi.dst v U).env (x.put mi.dst v U).st=semM mj.slot mj.m x.env x.st:=by
    rw[zfQ hevj];rcases hU with rfl|⟨n,rfl,hgo⟩
    ·rfl
    ·exact zid (h.cells_off hgo) (Ne.symm ha3) (h.opd_off hgo hmj)
   rw[hsem]at hs;split at hs
   ·rename_i u Uj hu;obtain⟨hr1,hr2,hr3,hr4⟩:=zjr hu;refine fin u Uj hr1 (fun hgo=>⟨hr2 _ ha3 hgo,hr3 _ ha3 hgo⟩) (fun hl hnq=>?_) hs;rcases ha4 with h1|⟨_,_,h2⟩
    ·rw[hnq]at h1;cases h1
    ·rcases h2 with h2|h2
     ·exact fun _ _ _ _ _ _ _=>hr4 h2 _
     ·exact fun ag n y _ id off _ T cs hid=>hr4 (by generalize mj.m=m at hnc hns;cases m<;>first|rfl|exact absurd rfl (hns _ _ _)|exact absurd rfl (hnc _ _ _)) id T cs hid
   ·exact hs.elim
end
end
section
open Go Go.RowKit
def anyP(P:Program)(c:Ctx)(ops:Array Oper)(mos:List MO)(Kp:V→(Nat→Ent)→Prop)(Q:X→Prop):Nat→Array Bool→X→Prop
 |0,listed,x=>Region.ready .any ops listed=[]∧Q x
 |fuel+1,listed,x=>Live c x→(Region.ready .any ops listed=[]→Q x)∧∀i∈Region.ready .any ops listed,∃mo,mos[i]?=some mo∧zaV P c.G mo (anyP P c ops mos Kp Q fuel (listed.setIfInBounds i true)) Kp x
section
variable{P:Program}{c:Ctx}{ops:Array Oper}{mos:List MO}{Kp:V→(Nat→Ent)→Prop}
theorem zdN(hc:Comped P c ops mos){Q:PEx→X→Prop}:∀(fuel:Nat)(listed:Array Bool)(x:X),anyP P c ops mos Kp (Q .normal) fuel listed x→∀(a:Act)(w:World)(H:Nat→Value)(A:Nat→Nat→Prop),SimH c x a w H A→wpAny P .any ops (LQ c Kp Q) fuel listed a w
 |0,_,x,h,a,w,H,A,hx=>⟨h.1,x,H,A,hx,h.2⟩
 |fuel+1,listed,x,h,a,w,H,A,hx=>by
  obtain⟨h0,h1⟩:=h ⟨a,w,H,A,hx⟩;refine⟨fun e=>⟨x,H,A,hx,h0 e⟩,fun i hi=>?_⟩;obtain⟨mo,hmo,hs⟩:=h1 i hi;obtain⟨_,o,ho,_⟩:=mem_ready.1 hi;have h2:=step_ok hx (hc.slot i mo hmo) (hc.each i o mo ho hmo) hs (Q:=Q) (Kw:=wpAny P .any ops (LQ c Kp Q) fuel (listed.setIfInBounds i true)) (fun x' a' w' H' A' hx' hK=>zdN hc fuel _ x' hK a' w' H' A' hx');unfold wpOp;rw[ho];dsimp only;split at h2
  ·rename_i hw;rw[if_pos hw];exact .inl h2
  ·rename_i hw;rw[if_neg hw];exact h2
theorem Yld.live(hc:Comped P c ops mos){i:Nat}{mi:MO}{oi:Oper}(hoi:ops[i]?=some oi)(hmi:mos[i]?=some mi){x:X}{v:V}{U:Upds}(hq:mi.m.quiet=true∨mi.m.isLoad=true)(hy:Yld mi x v U)(hl:Live c x):Live c (x.put mi.dst v U):=by
 obtain⟨a,w,H,A,hx⟩:=hl;have hcm:=(zbn (hc.each i oi mi hoi hmi));rcases hy with⟨_,h2⟩|⟨_,rfl,rfl⟩
 ·obtain⟨r,xv,w',H',A',_,_,h3⟩:=op_ok hx (hc.slot i mi hmi) hcm.1 h2;rw[←hcm.2.1]at h3;exact⟨_,w',H',A',h3⟩
 ·exact⟨_,w,H,A,hx.putv mi.dst .undef Go.undef (Or.inr .undef)⟩
theorem zjk(hc:Comped P c ops mos)(hp:zeX c.n0 Kp){Q:X→Prop}{i:Nat}{mi:MO}{oi:Oper}{v:V}{U:Upds}(hoi:ops[i]?=some oi)(hmi:mos[i]?=some mi)(hq:mi.m.quiet=true∨mi.m.isLoad=true):
  ∀(fuel:Nat)(listed:Array Bool)(x:X),(∀(j:Nat)(oj:Oper)(mj:MO),ops[j]?=some oj→mos[j]?=some mj→j≠i→listed.getD j true=false→(∀e∈oj.after,Region.binds .any e=true→e.on≠i)→zeR mi mj=true) →
   i∈Region.ready .any ops listed→Yld mi x v U→anyP P c ops mos Kp Q fuel (listed.setIfInBounds i true) (x.put mi.dst v U)→anyP P c ops mos Kp Q (fuel+1) listed x:=by
 intro fuel;induction fuel with
 |zero=>
  intro listed x _ hr hy H hl;refine⟨fun h=>(by rw[h]at hr;cases hr),fun j hj=>?_⟩;by_cases hji:j=i
  ·subst hji;exact⟨mi,hmi,hy.step hq H⟩
  ·have:=ready_mono hj hji;rw[H.1]at this;cases this
 |succ fuel ih=>
  intro listed x hfree hr hy H hl;refine⟨fun h=>(by rw[h]at hr;cases hr),fun j hj=>?_⟩;by_cases hji:j=i
  ·subst hji;exact⟨mi,hmi,hy.step hq H⟩
  ·obtain⟨mj,hmj,h1⟩:=(H (hy.live hc hoi hmi hq hl)).2 j (ready_mono hj hji);obtain⟨hjun,oj,hoj,hall⟩:=mem_ready.1 hj;have hnot:∀e∈oj.after,Region.binds .any e=true→e.on≠i:=fun e he hb heq=>by
    have h1:=hall e he hb;have h0:=(mem_ready.1 hr).1;rw[heq]at h1;rcases Nat.lt_or_ge i listed.size with h'|h'
    ·simp[h']at h0 h1;rw[h0]at h1;cases h1
    ·simp[Array.getElem?_eq_none h']at h1
   have hap:=hfree j oj mj hoj hmj hji hjun hnot;have hfree':∀(k:Nat)(ok:Oper)(mk:MO),ops[k]?=some ok→mos[k]?=some mk→k≠i→(listed.setIfInBounds j true).getD k true=false →
     (∀e∈ok.after,Region.binds .any e=true→e.on≠i)→zeR mi mk=true:=fun k ok mk hk hk2 hki hun hno=>by
    refine hfree k ok mk hk hk2 hki ?_ hno;by_cases hjk:j=k
    ·subst hjk;exact hjun
    ·rw[getD_set_ne true hjk]at hun;exact hun
   obtain⟨a,w,H0,A,hx⟩:=hl;have h2:=zjF hx (hc.each j oj mj hoj hmj) hap (hc.slot i mi hmi) hp hy h1;refine⟨mj,hmj,ze3 (fun x' h3=>ih (listed.setIfInBounds j true) x' hfree' (ready_mono hr (Ne.symm hji)) h3.1 ?_) h2⟩;rw[Array.setIfInBounds_comm _ _ hji];exact h3.2
theorem zjc(hc:Comped P c ops mos){listed:Array Bool}{i:Nat}{mi:MO}(hmi:mos[i]?=some mi)(h:zkv ops mos listed i=true)(j:Nat)(oj:Oper)(mj:MO)(hj:ops[j]?=some oj)(hmj:mos[j]?=some mj)(hne:j≠i)(hun:listed.getD j true=false)
  (hno:∀e∈oj.after,Region.binds .any e=true→e.on≠i):zeR mi mj=true:=by
 unfold zkv at h;simp only[hmi,qa21,qa22,List.mem_range]at h;have h1:=h.2 j (Array.getElem?_eq_some_iff.1 hj).1;simp only[hj,hmj,qa27,beq_iff_eq,hne,false_or,hun,qa12]at h1;rcases h1 with h1|h1
 ·obtain⟨e,he,hb⟩:=Array.any_eq_true'.1 h1;simp only[qa21,beq_iff_eq]at hb;exact absurd hb.2 (hno e he hb.1)
 ·exact h1
theorem zk6{G:Nat→V}{Q:X→Prop}:∀(l:List RT)(x:X),wpR P G Kp Q (altL l) x→∀t∈l,wpR P G Kp Q t x
 |[],_,_,t,ht=>by simp at ht
 |[a],x,h,t,ht=>by simp at ht;subst ht;exact h
 |a::b::l,x,h,t,ht=>by
  rcases qa33.1 ht with rfl|ht
  ·exact h.1
  ·exact zk6 (b::l) x h.2 t ht
theorem zjd{listed:Array Bool}{i:Nat}{mi:MO}(hmi:mos[i]?=some mi)(h:zkv ops mos listed i=true):mi.m.quiet=true∨mi.m.isLoad=true:=by
 unfold zkv at h;simp only[hmi,qa21,qa27]at h;exact h.1
theorem zfB(hc:Comped P c ops mos)(hp:zeX c.n0 Kp){Q:X→Prop}:
  ∀(fuel:Nat)(listed:Array Bool)(x:X),wpR P c.G Kp Q (ze0 ops mos fuel listed) x→anyP P c ops mos Kp Q fuel listed x
 |0,listed,x,h=>by
  unfold ze0 at h;split at h
  ·rename_i hr;exact⟨hr,h⟩
  ·exact h.elim
 |fuel+1,listed,x,h=>by
  unfold ze0 at h;split at h
  ·rename_i hr;exact fun _=>⟨fun _=>h,by rw[hr];simp⟩
  ·rename_i r rs hr;split at h
   ·rename_i i hi;have hmem:i∈Region.ready .any ops listed:=by rw[hr];exact List.mem_of_find?_eq_some hi
    have hfree:=List.find?_some hi;obtain⟨_,oi,hoi,_⟩:=mem_ready.1 hmem;split at h
    ·rename_i mo hmo;have hk:=zjd hmo hfree;obtain⟨v,U,hy,hK⟩:=Yld.of_step hk h;exact zjk hc hp hoi hmo hk fuel listed x (fun j oj mj h1 h2 h3 h4 h5=>zjc hc hmo hfree j oj mj h1 h2 h3 h4 h5) hmem hy (zfB hc hp fuel _ _ hK)
    ·exact h.elim
   ·refine fun _=>⟨fun e=>(by rw [hr] at e;cases e),fun i hi=>?_⟩;rw[hr]at hi;have:=zk6 _ x h _ (qa10 hi);split at this
    ·rename_i mo hmo;exact⟨mo,hmo,ze3 (fun x' hK=>zfB hc hp fuel _ x' hK) this⟩
    ·exact this.elim
def avOf(ops:Array Oper)(b:Array Nat)(j:Nat):List Nat:=
 ops.toList.zipIdx.filterMap fun p=>match p.1.op with
  |.load _ (.tmp t)=>if(b.getD j 0).testBit p.2 || (b.getD p.2 0).testBit j then none else if ops.any (fun o=>o.dst==some t)then none else some t
  |_=>none
def opTurns(P:Program):Op→Bool|.store _ _ _=>true|.call c=>!(ziv P c)|_=>false
def sg(σ:List (Nat×Nat))(k:Nat):Nat:=match σ with
 |[]=>k
 |(a,b)::r=>if k=a then b else sg r k
def zeO(P:Program)(N:Nat)(G:Nat→V)(ops:Array Oper)(b:Option (Array Nat))(σ:List (Nat×Nat)):Nat→Nat→List Oper→Option (List MO)
 |_,_,[]=>some []
 |s,j,o::r=>match zcc P N G ops (sg σ s) (match b with|some b=>if opTurns P o.op=true then avOf ops b j else[]|none=>[]) o,zeO P N G ops b σ (s+1) (j+1) r with|some m,some l=>some (m::l)|_,_=>none
theorem zbz{N:Nat}{G:Nat→V}{b:Option (Array Nat)}{σ:List (Nat×Nat)}:∀(l:List Oper)(s j:Nat)(ms:List MO),zeO P N G ops b σ s j l=some ms→ms.length=l.length∧∀(i:Nat)(o:Oper)(mo:MO),l[i]?=some o→ms[i]?=some mo→zcc P N G ops mo.slot mo.av o=some mo∧mo.slot=sg σ (s+i)
 |[],_,_,ms,h=>by cases h;exact⟨rfl,fun i o mo h=>by simp at h⟩
 |o::r,s,j,ms,h=>by
  simp only[zeO]at h;split at h
  ·rename_i m l h1 h2;cases h;obtain⟨h3,h4⟩:=zbz r (s+1) (j+1) l h2;refine⟨by simp[h3],fun i o' mo hi hm=>?_⟩;cases i with
   |zero=>
    simp at hi hm;subst hi hm;have hs:=(zbn h1).2.2.1;have ha:m.av=_:=zkH h1;rw[hs,ha];exact⟨h1,rfl⟩
   |succ i=>
    obtain⟨h5,h6⟩:=h4 i o' mo (by simpa using hi) (by simpa using hm);exact⟨h5,by rw[h6,show s+1+i=s+(i+1)by omega]⟩
  ·cases h
def zhf:List MO→RT
 |[]=>.done
 |m::l=>.step m (zhf l)
def zeM(P:Program)(N:Nat)(G:Nat→V)(σ:List (Nat×Nat))(s:Nat)(ops:Array Oper)(draw:Bool):Option RT:=
 match zeO P N G ops (if draw=true then some (Region.before ops)else none) σ s 0 ops.toList with
 |some ms=>if draw=true then(if P.follows .mixedOrders=true then some (ze0 ops ms ops.size (Array.replicate ops.size false))else none)else some (zhf ms)
 |none=>none
theorem zfA(hs:∀(i:Nat)(mo:MO),mos[i]?=some mo→c.n0≤mo.slot){Q:PEx→X→Prop}:∀(l:List Oper)(ms:List MO),ms.length=l.length→(∀(i:Nat)(o:Oper)(mo:MO),l[i]?=some o→ms[i]?=some mo→zcc P c.N c.G ops mo.slot mo.av o=some mo∧c.n0≤mo.slot) →
  ∀(x:X)(a:Act)(w:World)(H:Nat→Value)(A:Nat→Nat→Prop),SimH c x a w H A→wpR P c.G Kp (Q .normal) (zhf ms) x→wpList P ops (LQ c Kp Q) l a w
 |[],ms,hl,_,x,a,w,H,A,hx,h=>by
  cases ms with
  |nil=>exact⟨x,H,A,hx,h⟩
  |cons _ _=>simp at hl
 |o::l,ms,hl,he,x,a,w,H,A,hx,h=>by
  cases ms with
  |nil=>simp at hl
  |cons m ms=>
   obtain⟨h1,h2⟩:=he 0 o m rfl rfl;have h3:=step_ok hx h2 h1 h (Q:=Q) (Kw:=wpList P ops (LQ c Kp Q) l) (fun x' a' w' H' A' hx' hK=>zfA hs l ms (by simpa using hl) (fun i o mo hi hm=>he (i+1) o mo (by simpa using hi) (by simpa using hm)) x' a' w' H' A' hx' hK);unfold wpList;split at h3
   ·rename_i hw;rw[if_pos hw];exact .inl h3
   ·rename_i hw;rw[if_neg hw];exact h3
theorem SimH.drew{x:X}{a:Act}{w:World}{H:Nat→Value}{A:Nat→Nat→Prop}(h:SimH c x a w H A):∃A',SimH c x a { w with drawn:=w.drawn+1 } H A':=by
 have hk:Keeps w A { w with drawn:=w.drawn+1 } A:=⟨qa37 _,fun _ _ _ _=>rfl,fun _ _ _ h=>h⟩;refine⟨A,h.mem.rec (fun glo kp ent dis a00 a0 al out lent loc ext=>?_)⟩;refine⟨h.tm,h.df,fun t ht=>(h.env t ht).mono hk (Foll.refl _ _),fun g=>(glo g).imp id (fun h=>h.keep hk),kp.trans hk,fun id=>(ent id).mono hk (Foll.refl _ _) (fun b hb=>⟨rfl,fun _=>Iff.rfl⟩),dis,a00,a0,al,out,lent,loc,⟨ext.os,ext.tape,ext.output,ext.size,ext.block⟩⟩
theorem reg_ok(hp:zeX c.n0 Kp){σ:List (Nat×Nat)}{s id:Nat}(hs:∀k,s≤k→c.n0≤sg σ k){draw:Bool}{t:RT}(hc:zeM P c.N c.G σ s ops draw=some t){Q:PEx→X→Prop}{x:X}{a:Act}{w:World}{H:Nat→Value}{A:Nat→Nat→Prop}(hx:SimH c x a w H A)(h:wpR P c.G Kp (Q .normal) t x):
  (Code.region id ops draw).wp P (LQ c Kp Q) a w:=by
 unfold zeM at hc;split at hc
 ·rename_i ms hms;obtain⟨h1,h2⟩:=zbz _ _ _ _ hms;have hslot:∀(i:Nat)(mo:MO),ms[i]?=some mo→c.n0≤mo.slot:=fun i mo hm=>by
   have hi:i<ops.toList.length:=by rw[←h1];exact(qa4.1 hm).1
   rw[(h2 i _ mo (qa5 hi) hm).2];exact hs _ (Nat.le_add_right _ _)
  split at hc
  ·rename_i hd;split at hc
   ·rename_i hm;cases hc;subst hd;obtain⟨A',hx'⟩:=hx.drew;have hC:Comped P c ops ms:=⟨by simpa using h1,fun i o mo ho hm=>(h2 i o mo (by simpa using ho) hm).1,hslot⟩;exact wp_region_any hm (zdN hC _ _ x (zfB hC hp _ _ x h) a _ H A' hx')
   ·cases hc
  ·rename_i hd;have hd':draw=false:=by simpa using hd
   subst hd';cases hc;exact wp_region_list (zfA (mos:=ms) hslot ops.toList ms h1 (fun i o mo hi hm=>⟨(h2 i o mo hi hm).1,hslot i mo hm⟩) x a w H A hx h)
 ·cases hc
end
end
section
open Go Go.RowKit
inductive C where
 |skip
 |reg (t:RT)
 |seq (a b:C)
 |cond (o:O) (a b:C)
 |block (id:Nat) (b:C)
 |loop (b:C)
 |exit (id:Nat)
 |scope (b:C)
 |ret
def compC(P:Program)(N:Nat)(G:Nat→V)(σ:List (Nat×Nat)):Nat→Code→Option (C×Nat)
 |s,.skip=>some (.skip,s)
 |s,.label _=>some (.skip,s)
 |s,.region _ ops draw=>match zeM P N G σ s ops draw with|some t=>some (.reg t,s+ops.size)|none=>none
 |s,.seq a b=>match compC P N G σ s a with
  |some (a',s1)=>match compC P N G σ s1 b with|some (b',s2)=>some (.seq a' b',s2)|none=>none
  |none=>none
 |s,.cond o a b=>match compO N G o with
  |some o'=>match compC P N G σ s a with
   |some (a',s1)=>match compC P N G σ s1 b with|some (b',s2)=>some (.cond o' a' b',s2)|none=>none
   |none=>none
  |none=>none
 |s,.block id b=>match compC P N G σ s b with|some (b',s1)=>some (.block id b',s1)|none=>none
 |s,.loop b=>match compC P N G σ s b with|some (b',s1)=>some (.loop b',s1)|none=>none
 |s,.scope b=>match compC P N G σ s b with|some (b',s1)=>some (.scope b',s1)|none=>none
 |s,.exit id=>some (.exit id,s)
 |s,.ret=>some (.ret,s)
 |_,_=>none
def resF(st:Nat→Ent)(v:V):V:=match v with
 |.mr id n=>(match st id with|.frow _ _ xs=>if n=xs.length then .list xs else .mr id n|_=>.mr id n)
 |v=>res st v
theorem zgN{w:World}{A:Nat→Nat→Prop}{st:Nat→Ent}{H:Nat→Value}{x:V}{v:Value}(h:RepT w A st H x v):RepT w A st H (resF st x) v:=by
 cases x<;>first|exact repT_res h|skip
 have h2:=repT_res h;simp only[resF,res]at *;split
 ·rename_i hs;rw[hs]at h2;split
  ·rename_i hn;simp only[hn,qa39]at h2;exact h2
  ·exact h
 ·exact h
theorem ze9{w:World}{A:Nat→Nat→Prop}{st:Nat→Ent}{H:Nat→Value}:∀{x:List V} {v:List Value},zam w A st H x v→zam w A st H (x.map (resF st)) v
 |[],_,h=>h
 |_::_,_,⟨u,us,h1,h2,h3⟩=>⟨u,us,h1,zgN h2,ze9 h3⟩
def Ent.frz(st:Nat→Ent):Ent→Ent
 |.blk T cs=>.blk T (cs.map (resF st))
 |e=>e
def X.frz(x:X):Bool→X
 |false=>x
 |true=>⟨fun t=>resF x.st (x.env t),fun id=>(x.st id).frz x.st⟩
theorem foll_frz(st:Nat→Ent)(H:Nat→Value):Foll st H (fun id=>(st id).frz st) H:=
 ⟨fun id T cs h=>⟨rfl,T,cs.map (resF st),by simp only[h];rfl⟩,fun id T z xs h=>⟨[],by simp only[h];simp[Ent.frz],fun _=>rfl⟩,fun id T z xs h=>⟨xs,by simp only[h];rfl,qa37 _,fun _=>rfl⟩,fun id T z xs h=>⟨by simp only[h];rfl,rfl⟩⟩
theorem zec{st:Nat→Ent}{e:Ent}(h:e.frz st≠.gone):e≠.gone:=fun h0=>h (by rw[h0];rfl)
theorem SimH.frz{c:Ctx}{x:X}{a:Act}{w:World}{H:Nat→Value}{A:Nat→Nat→Prop}(h:SimH c x a w H A):∀fz,SimH c (x.frz fz) a w H A
 |false=>h
 |true=>by
  have hf:=foll_frz x.st H;refine⟨h.tm,h.df,fun t ht=>RepT.mono (zgN (h.env t ht)) (Keeps.refl _ _) hf,h.glo,h.kp,fun id=>?_,fun i j hij hi hj=>h.dis i j hij (zec hi) (zec hj),h.a00,h.a0,h.al,h.out.trans hf,fun id b hid hg=>h.lent id b hid (zec hg),fun id b hid hg=>h.loc id b hid (zec hg),h.ext⟩;have he:=h.ent id;show RepEnt w A (x.frz true).st H 0 ((x.st id).frz x.st) (H id);cases hx:x.st id with
  |gone=>trivial
  |blk T cs=>
   rw[hx]at he;obtain⟨b,C,h1,h2,h3,h4⟩:=he;exact⟨b,C,h1,h2,zam.mono (Keeps.refl _ _) hf (ze9 h3),h4⟩
  |row T z xs=>
   rw[hx]at he;exact he
  |mrow T z xs=>
   rw[hx]at he;exact he
  |frow T z xs=>
   rw[hx]at he;exact he
def look(t:Nat):List (Nat×V)→V
 |[]=>.any
 |(i,v)::r=>if t=i then v else look t r
def lookE(t:Nat):List (Nat×Ent)→Ent
 |[]=>.gone
 |(i,v)::r=>if t=i then v else lookE t r
def mkX(env:List (Nat×V))(st:List (Nat×Ent)):X:=⟨fun t=>look t env,fun id=>lookE id st⟩
def scrub(live keep:List Nat)(x:X):X:=mkX (live.map fun t=>(t,x.env t)) (keep.map fun id=>(id,x.st id))
def zgb(n0:Nat)(live keep:List Nat)(x:X):Prop:=
 (List.range n0).all (keep.contains ·)=true∧(live.all fun t=>(x.env t).on (keep.contains ·))=true∧(keep.all fun id=>(x.st id).on (keep.contains ·))=true
theorem look_map(live:List Nat)(e:Nat→V)(t:Nat):look t (live.map fun t=>(t,e t))=if t∈live then e t else .any:=by
 induction live with
 |nil=>simp[look]
 |cons i r ih=>
  simp only[qa32,look,qa33];by_cases h:t=i
  ·subst h;simp
  ·simp[h,ih]
theorem zeH(live:List Nat)(e:Nat→Ent)(t:Nat):lookE t (live.map fun t=>(t,e t))=if t∈live then e t else .gone:=by
 induction live with
 |nil=>simp[lookE]
 |cons i r ih=>
  simp only[qa32,lookE,qa33];by_cases h:t=i
  ·subst h;simp
  ·simp[h,ih]
theorem renS_id(v:V):renS (fun k=>k) v=v:=by cases v<;>rfl
theorem renK_id(v:V):renK (fun k=>k) v=v:=by cases v<;>rfl
theorem ren_id(v:V):v.ren (fun k=>k)=v:=by
 cases v<;>first|rfl|skip
 ·simp only[V.ren];congr 1<;>exact(qa9 (fun v _=>renS_id v)).trans (by simp)
 ·simp only[V.ren];congr 1;exact(qa9 (fun v _=>renK_id v)).trans (by simp)
theorem zf1(e:Ent):e.ren (fun k=>k)=e:=by
 cases e<;>first|rfl|skip
 simp only[Ent.ren];congr 1;exact(qa9 (fun v _=>ren_id v)).trans (by simp)
theorem SimH.scrub{c:Ctx}{x:X}{a:Act}{w:World}{H:Nat→Value}{A:Nat→Nat→Prop}(h:SimH c x a w H A)(hE:∀id,c.E0 id≠.gone→id<c.n0){live keep:List Nat}(ho:zgb c.n0 live keep x):SimH c (scrub live keep x) a w H A:=by
 obtain⟨h1,h2,h3⟩:=ho;have hst:∀id,id∈keep→(Vm.scrub live keep x).st id=x.st id:=fun id hid=>by
  show lookE id (keep.map fun t=>(t,x.st t))=_;rw[zeH,if_pos hid]
 have hst2:∀id,(Vm.scrub live keep x).st id≠.gone→id∈keep∧x.st id≠.gone:=fun id hg=>by
  have:(Vm.scrub live keep x).st id=if id∈keep then x.st id else .gone:=zeH _ _ _;rw[this]at hg;by_cases hid:id∈keep
  ·rw[if_pos hid]at hg;exact⟨hid,hg⟩
  ·rw[if_neg hid]at hg;exact absurd rfl hg
 have hcor:Cor (keep.contains ·) (fun k=>k) x.st H (Vm.scrub live keep x).st H:=⟨fun _ _=>rfl,fun id hid=>by rw[zf1];exact hst id (by simpa using hid)⟩;simp only[qa22]at h1 h2 h3;refine h.mem.rec (fun glo kp ent dis a00 a0 al out lent loc ext=>?_);refine⟨h.tm,h.df,fun t ht=>?_,glo,kp,fun id=>?_,fun i j hij hi hj=>dis i j hij (hst2 i hi).2 (hst2 j hj).2,a00,a0,al, ?_,fun id b hid hg=>lent id b hid (hst2 id hg).2,fun id b hid hg=>loc id b hid (hst2 id hg).2,ext⟩
 ·have he:(Vm.scrub live keep x).env t=if t∈live then x.env t else .any:=look_map _ _ _;rw[he];by_cases hl:t∈live
  ·rw[if_pos hl];have:=RepT.ren hcor (h.env t ht) (h2 t hl);rwa[ren_id]at this
  ·rw[if_neg hl];trivial
 ·by_cases hid:id∈keep
  ·have:=RepEnt.ren hcor (ent id) (h3 id hid);rw[zf1]at this;rw[hst id hid];exact this
  ·have:(Vm.scrub live keep x).st id=.gone:=by
    show lookE id (keep.map fun t=>(t,x.st t))=_;rw[zeH,if_neg hid]
   rw[this];trivial
 ·have hk:∀id,c.E0 id≠.gone→id∈keep:=fun id hg=>by
   have:=h1 id (by simpa using hE id hg);simpa using this
  refine⟨fun id T cs hi=>?_,fun id T z xs hi=>?_,fun id T z xs hi=>?_,fun id T z xs hi=>?_⟩
  ·rw [hst id (hk id (by rw [hi];simp))];exact out.blk id T cs hi
  ·rw [hst id (hk id (by rw [hi];simp))];exact out.row id T z xs hi
  ·rw [hst id (hk id (by rw [hi];simp))];exact out.mrow id T z xs hi
  ·rw [hst id (hk id (by rw [hi];simp))];exact out.frow id T z xs hi
inductive Gho(n0:Nat):X→X→Prop
 |refl (x:X):Gho n0 x x
 |row {x x':X} (id j r el z:Nat) (T:TypeId) (cs:List V):x.st id=.blk T cs→cs[j]?=some .nils→x.st r=.gone→0<z→Gho n0 ⟨x.env,updE (updE x.st r (.mrow el z [])) id (.blk T (cs.take j++.mr r 0::cs.drop (j+1)))⟩ x'→Gho n0 x x'
 |frz {x x':X} (id T z:Nat) (xs:List V):x.st id=.mrow T z xs→n0≤id→Gho n0 ⟨x.env,updE x.st id (.frow T z xs)⟩ x'→Gho n0 x x'
theorem zgO{w:World}{A:Nat→Nat→Prop}{st:Nat→Ent}{H:Nat→Value}{v:V}{u:Value}(hv:RepT w A st H v u):∀{x:List V} {vs:List Value} (j:Nat),zam w A st H x vs→vs[j]?=some u→zam w A st H (x.take j++v::x.drop (j+1)) vs
 |[],_,j,h,hj=>by rw[h]at hj;simp at hj
 |a::x,_,0,⟨t,ts,h1,h2,h3⟩,hj=>by
  subst h1;simp at hj;subst hj;exact⟨_,_,rfl,hv,h3⟩
 |a::x,_,j+1,⟨t,ts,h1,h2,h3⟩,hj=>by
  subst h1;exact⟨_,_,rfl,h2,zgO hv j h3 (by simpa using hj)⟩
theorem SimH.gho1{c:Ctx}{x:X}{a:Act}{w:World}{A:Nat→Nat→Prop}{H:Nat→Value}(h:SimH c x a w H A){id j r el z:Nat}{T:TypeId}{cs:List V}(h1:x.st id=.blk T cs)(h2:cs[j]?=some .nils)(h3:x.st r=.gone)(h4:0<z):
  SimH c ⟨x.env,updE (updE x.st r (.mrow el z [])) id (.blk T (cs.take j++.mr r 0::cs.drop (j+1)))⟩ a w (updH H r (.slice none 0 0)) A:=by
 have hri:r≠id:=fun e=>by rw[e,h1]at h3;cases h3
 have hH:∀i,i≠r→updH H r (.slice none 0 0) i=H i:=fun i hi=>if_neg hi;have hHr:updH H r (.slice none 0 0) r=.slice none 0 0:=if_pos rfl;have hs:∀i,i≠r→i≠id→updE (updE x.st r (.mrow el z [])) id (.blk T (cs.take j++.mr r 0::cs.drop (j+1))) i=x.st i:=fun i hi hi2=>by rw[zab _ _ hi2,zab _ _ hi]
 have hsr:updE (updE x.st r (.mrow el z [])) id (.blk T (cs.take j++.mr r 0::cs.drop (j+1))) r=.mrow el z []:=by rw[zab _ _ hri,zai]
 have hne:∀{i e},x.st i=e→e≠.gone→i≠r:=fun{i e} hi he e'=>by subst e';exact he (hi.symm.trans h3)
 have hni:∀{i e},x.st i=e→(∀T cs,e≠.blk T cs)→i≠id:=fun{i e} hi he e'=>by subst e';exact he _ _ (hi.symm.trans h1)
 have hf:Foll x.st H (updE (updE x.st r (.mrow el z [])) id (.blk T (cs.take j++.mr r 0::cs.drop (j+1)))) (updH H r (.slice none 0 0)):=by
  refine⟨fun i T' cs' hi=>?_,fun i T' z' xs hi=>?_,fun i T' z' xs hi=>?_,fun i T' z' xs hi=>?_⟩
  ·have hir:=hne hi (by simp);refine⟨hH i hir, ?_⟩;by_cases hii:i=id
   ·subst hii;exact⟨_,_,zai _ _ _⟩
   ·exact⟨T',cs',by rw[hs i hir hii];exact hi⟩
  ·have hir:=hne hi (by simp);exact⟨[],by rw[hs i hir (hni hi (by simp))];simpa using hi,fun _=>hH i hir⟩
  ·have hir:=hne hi (by simp);exact⟨xs,by rw[hs i hir (hni hi (by simp))];exact hi,qa37 _,fun _=>hH i hir⟩
  ·have hir:=hne hi (by simp);exact⟨by rw[hs i hir (hni hi (by simp))];exact hi,hH i hir⟩
 have hg:∀i,i≠r→updE (updE x.st r (.mrow el z [])) id (.blk T (cs.take j++.mr r 0::cs.drop (j+1))) i≠.gone→x.st i≠.gone:=fun i hi hn=>by
  by_cases hii:i=id
  ·subst hii;rw[h1];simp
  ·rwa[hs i hi hii]at hn
 have hb:∀{i b},blockOf (updH H r (.slice none 0 0) i)=some b→i≠r∧blockOf (H i)=some b:=fun{i b} hb=>by
  by_cases hir:i=r
  ·subst hir;simp[updH,blockOf]at hb
  ·rw[hH i hir]at hb;exact⟨hir,hb⟩
 refine h.go (Keeps.refl _ _) hf ?_ ?_ h.a0 ?_ h.al ?_ h.ext none .undef Go.undef (Or.inr .undef)
 ·intro i;by_cases hir:i=r
  ·subst hir;rw[hsr,hHr];refine⟨h4,[],⟨by simp,.inl ⟨rfl,rfl⟩⟩,.nil _,fun g hgg=>?_⟩;simp[Value.ownBlock]at hgg
  ·have he:=h.ent i;by_cases hii:i=id
   ·subst hii;rw[zai,hH i hir];rw[h1]at he;obtain⟨b,C,e1,e2,e3,e4⟩:=he;refine⟨b,C,e1,e2, ?_,e4⟩;obtain⟨u,e5,e6⟩:=zbk e3 j _ h2;have e7:u=.slice none 0 0:=by cases e6.data rfl;rfl
    subst e7;exact zgO (v:=.mr r 0) ⟨⟨none,0,rfl,fun h=>absurd h (Nat.lt_irrefl 0)⟩,el,z,[],qa37 _,.inl ⟨hsr,fun _=>hHr.symm⟩⟩ j (zam.mono (Keeps.refl _ _) hf e3) e5
   ·rw[hs i hir hii,hH i hir];exact he.mono (Keeps.refl _ _) hf (fun b _=>⟨rfl,fun _=>Iff.rfl⟩)
 ·intro i k hik hi hk b hbi hbk;obtain⟨q1,q2⟩:=hb hbi;obtain⟨q3,q4⟩:=hb hbk;exact h.dis i k hik (hg i q1 hi) (hg k q3 hk) b q2 q4
 ·intro i b hi hgi hbi hlt;obtain⟨q1,q2⟩:=hb hbi;exact h.lent i b hi (hg i q1 hgi) q2 hlt
 ·intro i b hi hgi hbi;obtain⟨q1,q2⟩:=hb hbi;exact h.loc i b hi (hg i q1 hgi) q2
theorem zih{w:World}{A A':Nat→Nat→Prop}{st:Nat→Ent}{H:Nat→Value}{id T z:Nat}{xs:List V}(hst:st id=.mrow T z xs)(k:Keeps w A w A')(hr:RepV w A' (.list xs) (H id)){x:V}{v:Value}(h:RepT w A st H x v):RepT w A' (updE st id (.frow T z xs)) H x v:=by
 have ne:∀{i e},st i=e→(∀T z xs,e≠.mrow T z xs)→updE st id (.frow T z xs) i=e:=fun{i e} hi he=>by
  have:i≠id:=fun e'=>by subst e';exact he _ _ _ (hi.symm.trans hst)
  rw[zab _ _ this];exact hi
 have hk:∀i T' cs,st i=.blk T' cs→H i=H i∧∃T'' cs',updE st id (.frow T z xs) i=.blk T'' cs':=fun i T' cs hi=>⟨rfl,_,_,ne hi (by simp)⟩;cases x<;>first|trivial|exact RepS.mono h k hk|skip
 ·obtain⟨T',z',ys,h1,h2,h3,h4⟩:=h;exact⟨T',z',ys,ne h1 (by simp),h2,h3.keep k,h4⟩
 ·obtain⟨fs,cs,h1,h2,h3⟩:=h;exact⟨fs,cs,h1,h2.mono k hk,h3.mono k hk⟩
 ·obtain⟨vs,h1,h2⟩:=h;have key:∀{l:List V} {u:List Value},zaC w A st H l u→zaC w A' (updE st id (.frow T z xs)) H l u:=by
   intro l;induction l with
   |nil=>intro u h;exact h
   |cons y l ih=>
    rintro u ⟨a,b,g1,g2,g3⟩;refine⟨a,b,g1, ?_,ih g3⟩;cases y<;>first|exact RepV.keep k g2|skip
    obtain⟨T',z',ys,e1,e2,e3,e4⟩:=g2;exact⟨T',z',ys,ne e1 (by simp),e2,e3.keep k,e4⟩
  exact⟨vs,h1,key h2⟩
 ·rename_i i n;obtain⟨h0,T',z',ys,h1,h2⟩:=h;refine⟨h0,T',z',ys,h1, ?_⟩;rcases h2 with⟨h2,h3⟩|⟨h2,h3⟩
  ·by_cases hi:i=id
   ·subst hi;rw[hst]at h2;cases h2;exact .inr ⟨zai _ _ _,fun e=>⟨h3 e,by rw[h3 e];exact hr⟩⟩
   ·exact .inl ⟨by rw[zab _ _ hi];exact h2,h3⟩
  ·exact .inr ⟨ne h2 (by simp),fun e=>⟨(h3 e).1,(h3 e).2.keep k⟩⟩
 ·rename_i i n off;obtain⟨h0,T',z',ys,h1,h2,h3⟩:=h;refine⟨h0,T',z',ys,h1, ?_,h3⟩;rcases h2 with h2|h2
  ·by_cases hi:i=id
   ·subst hi;rw[hst]at h2;cases h2;exact .inr (zai _ _ _)
   ·exact .inl (by rw[zab _ _ hi];exact h2)
  ·exact .inr (ne h2 (by simp))
theorem zgQ{w:World}{A A':Nat→Nat→Prop}{st:Nat→Ent}{H:Nat→Value}{id T z:Nat}{xs:List V}(hst:st id=.mrow T z xs)(k:Keeps w A w A')(hr:RepV w A' (.list xs) (H id)):∀{x:List V} {v:List Value},zam w A st H x v→zam w A' (updE st id (.frow T z xs)) H x v
 |[],_,h=>h
 |_::_,_,⟨u,us,h1,h2,h3⟩=>⟨u,us,h1,zih hst k hr h2,zgQ hst k hr h3⟩
theorem SimH.gho2{c:Ctx}{x:X}{a:Act}{w:World}{A:Nat→Nat→Prop}{H:Nat→Value}(hE:∀id,c.E0 id≠.gone→id<c.n0)(h:SimH c x a w H A){id T z:Nat}{xs:List V}(hst:x.st id=.mrow T z xs)(hid:c.n0≤id):
  ∃A',SimH c ⟨x.env,updE x.st id (.frow T z xs)⟩ a w H A':=by
 have hent:=h.ent id;rw[hst]at hent;obtain⟨hz,vs,hown,hRE,hsh⟩:=hent;have hlv:=zaz hRE;let A':Nat→Nat→Prop:=fun b o=>A b o∧¬((H id).ownBlock=some b∧o<xs.length*z);have hk:Keeps w A w A':=⟨qa37 _,fun _ _ _ _=>rfl,fun b o _ hA hA'=>hA hA'.1⟩;have hr:RepV w A' (.list xs) (H id):=by
  rcases hown.2 with⟨h1,h2⟩|⟨g,cap,cur,h1,_,h3,h4,h5,h6,h7⟩
  ·obtain rfl:xs=[]:=qa1 h2;rw[h1];exact .nil _ _
  ·by_cases hx:xs=[]
   ·subst hx;rw[h1];exact .nil _ _
   ·have hres:=RepV.list (w:=w) (A:=A') xs z g 0 cap vs hx (hRE.keep hk) ⟨(Array.getElem?_eq_some_iff.1 h3).1,fun j u hu=>⟨?_,fun hA'=>?_⟩⟩ h4 h5
    ·rw[h1];exact hres
    ·have:=hown.cells (by rw [h1];rfl) j u hu;rwa[zhl,←Nat.zero_add j]at this
    ·refine hA'.2 ⟨by rw [h1];rfl, ?_⟩;have h2:j<vs.length:=(qa4.1 hu).1;omega
 have hne:x.st id≠.gone:=by rw[hst];simp
 have hgo:∀i,updE x.st id (.frow T z xs) i≠.gone→x.st i≠.gone:=fun i hi=>by
  by_cases h1:i=id
  ·subst h1;exact hne
  ·rwa[zab _ _ h1]at hi
 have hloc:∀b,(H id).ownBlock=some b→c.w0.heap.size≤b:=fun b hb=>h.loc id b hid hne (zau hb);have ne:∀{i e},x.st i=e→(∀T z xs,e≠.mrow T z xs)→updE x.st id (.frow T z xs) i=e:=fun{i e} hi he=>by
  have:i≠id:=fun e'=>by subst e';exact he _ _ _ (hi.symm.trans hst)
  rw[zab _ _ this];exact hi
 refine⟨A',h.tm,h.df,fun t ht=>zih hst hk hr (h.env t ht),fun g=>(h.glo g).imp (fun h=>h) (fun h=>h.keep hk),⟨h.kp.size,h.kp.cell,fun b o hb hA hA'=>h.kp.shun b o hb hA hA'.1⟩,fun i=>?_,fun i j hij hi hj=>h.dis i j hij (hgo i hi) (hgo j hj),h.a00,fun b o hb hn=>⟨h.a0 b o hb hn,fun hc=>?_⟩,fun b o hA'=>h.al b o hA'.1, ?_,fun i b hi hg=>h.lent i b hi (hgo i hg),fun i b hi hg=>h.loc i b hi (hgo i hg),h.ext⟩
 ·show RepEnt w A' (updE x.st id (.frow T z xs)) H 0 (updE x.st id (.frow T z xs) i) (H i);by_cases h1:i=id
  ·subst h1;rw[zai];exact⟨hz,vs,hown,hRE.keep hk,fun g hg=>⟨fun o ho=>⟨hsh g hg o,fun hc=>by omega⟩,fun o ho hA'=>hA'.2 ⟨hg,ho⟩⟩⟩
  ·rw[zab _ _ h1];have he:=h.ent i;have hb:∀b,x.st i≠.gone→blockOf (H i)=some b→∀o,A' b o↔A b o:=fun b hgi hb o=>⟨fun h=>h.1,fun hA=>⟨hA,fun hc=>h.dis i id h1 hgi hne b hb (zau hc.1)⟩⟩;cases hx:x.st i with
   |gone=>trivial
   |blk T' cs=>
    rw[hx]at he;obtain⟨b,C,e1,e2,e3,e4⟩:=he;exact⟨b,C,e1,e2,zgQ hst hk hr e3,fun o=>(hb b (by rw[hx];simp) (by rw[e1];rfl) o).2 (e4 o)⟩
   |row T' z' ys=>
    rw[hx]at he;obtain⟨e1,us,e2,e3,e4⟩:=he;refine⟨e1,us,e2,e3.keep hk,fun g hg=>?_⟩;obtain⟨e5,e6⟩:=e4 g hg;exact⟨fun o ho=>(hb g (by rw[hx];simp) (zau hg) o).2 (e5 o ho),fun o ho hA'=>e6 o ho hA'.1⟩
   |mrow T' z' ys=>
    rw[hx]at he;obtain⟨e1,us,e2,e3,e4⟩:=he;exact⟨e1,us,e2,e3.keep hk,fun g hg o=>(hb g (by rw[hx];simp) (zau hg) o).2 (e4 g hg o)⟩
   |frow T' z' ys=>
    rw[hx]at he;obtain⟨e1,us,e2,e3,e4⟩:=he;refine⟨e1,us,e2,e3.keep hk,fun g hg=>?_⟩;obtain⟨e5,e6⟩:=e4 g hg;exact⟨fun o ho=>(hb g (by rw[hx];simp) (zau hg) o).2 (e5 o ho),fun o ho hA'=>e6 o ho hA'.1⟩
 ·have:=hloc b hc.1;have:=h.a00 b o hb;omega
 ·have hg0:∀i e,c.E0 i=e→e≠.gone→i≠id:=fun i e hi he e'=>by
   have:=hE i (by rw[hi];exact he);omega
  refine⟨fun i T' cs hi=>?_,fun i T' z' ys hi=>?_,fun i T' z' ys hi=>?_,fun i T' z' ys hi=>?_⟩
  ·show H i=_∧∃T'' cs',updE x.st id _ i=_;rw[zab _ _ (hg0 i _ hi (by simp))];exact h.out.blk i T' cs hi
  ·show ∃_,updE x.st id _ i=_∧_;rw[zab _ _ (hg0 i _ hi (by simp))];exact h.out.row i T' z' ys hi
  ·show ∃_,updE x.st id _ i=_∧_;rw[zab _ _ (hg0 i _ hi (by simp))];exact h.out.mrow i T' z' ys hi
  ·show updE x.st id _ i=_∧_;rw[zab _ _ (hg0 i _ hi (by simp))];exact h.out.frow i T' z' ys hi
theorem SimH.gho{c:Ctx}(hE:∀id,c.E0 id≠.gone→id<c.n0){x x':X}{a:Act}{w:World}(g:Gho c.n0 x x'):∀{H:Nat→Value} {A:Nat→Nat→Prop},SimH c x a w H A→∃H' A',SimH c x' a w H' A':=by
 induction g with
 |refl x=>intro H A h;exact⟨H,A,h⟩
 |row id j r el z T cs h1 h2 h3 h4 _ ih=>intro H A h;exact ih (h.gho1 h1 h2 h3 h4)
 |frz id T z xs h1 h2 _ ih=>
  intro H A h;obtain⟨A',h'⟩:=h.gho2 hE h1 h2;exact ih h'
def thenP(K:X→Prop)(Q:PEx→X→Prop):PEx→X→Prop
 |.normal,x=>K x
 |e,x=>Q e x
def zkQ(id:Nat)(Q:PEx→X→Prop):PEx→X→Prop
 |.exit i,x=>if i=id then Q .normal x else Q (.exit i) x
 |e,x=>Q e x
def wpC(P:Program)(G:Nat→V)(n0:Nat)(Kp:V→(Nat→Ent)→Prop):C→(PEx→X→Prop)→X→Prop
 |.skip,Q,x=>Q .normal x
 |.reg t,Q,x=>∃x',Gho n0 x x'∧wpR P G Kp (Q .normal) t x'
 |.seq a b,Q,x=>wpC P G n0 Kp a (thenP (wpC P G n0 Kp b Q) Q) x
 |.cond o a b,Q,x=>match o.ev x.env with
  |.bool true=>wpC P G n0 Kp a Q x
  |.bool false=>wpC P G n0 Kp b Q x
  |_=>False
 |.block id b,Q,x=>wpC P G n0 Kp b (zkQ id Q) x
 |.loop b,Q,x=>∃(fz:Bool)(live keep:List Nat)(I:X→Prop)(μ:X→Nat),zgb n0 live keep (x.frz fz)∧I (scrub live keep (x.frz fz))∧∀y,I y→wpC P G n0 Kp b (thenP (fun y'=>zgb n0 live keep (y'.frz fz)∧I (scrub live keep (y'.frz fz))∧μ (scrub live keep (y'.frz fz))<μ y) Q) y
 |.exit id,Q,x=>Q (.exit id) x
 |.scope b,Q,x=>wpC P G n0 Kp b Q x
 |.ret,Q,x=>Q .ret x
section
variable{P:Program}{c:Ctx}{Kp:V→(Nat→Ent)→Prop}
theorem zcM{σ:List (Nat×Nat)}:∀{code:Code} {s s':Nat} {t:C},compC P c.N c.G σ s code=some (t,s')→s≤s':=by
 intro code;induction code with
 |skip=>intro s s' t h;cases h;exact qa37 _
 |label l=>intro s s' t h;cases h;exact qa37 _
 |exit l=>intro s s' t h;cases h;exact qa37 _
 |ret=>intro s s' t h;cases h;exact qa37 _
 |region id ops draw=>
  intro s s' t h;simp only[compC]at h;split at h
  ·cases h;omega
  ·cases h
 |seq a b iha ihb=>
  intro s s' t h;simp only[compC]at h;split at h
  ·rename_i h1;split at h
   ·rename_i h2;cases h;exact qa36 (iha h1) (ihb h2)
   ·cases h
  ·cases h
 |cond o a b iha ihb=>
  intro s s' t h;simp only[compC]at h;split at h
  ·split at h
   ·rename_i h1;split at h
    ·rename_i h2;cases h;exact qa36 (iha h1) (ihb h2)
    ·cases h
   ·cases h
  ·cases h
 |block id b ih=>
  intro s s' t h;simp only[compC]at h;split at h
  ·rename_i h1;cases h;exact ih h1
  ·cases h
 |loop b ih=>
  intro s s' t h;simp only[compC]at h;split at h
  ·rename_i h1;cases h;exact ih h1
  ·cases h
 |scope b ih=>
  intro s s' t h;simp only[compC]at h;split at h
  ·rename_i h1;cases h;exact ih h1
  ·cases h
 |_=>intro s s' t h;simp only[compC]at h;cases h
theorem LQ_then{Q:PEx→X→Prop}{K:X→Prop}{Kw:Act→World→Prop}(hK:∀x a w H A,SimH c x a w H A→K x→Kw a w):∀e a w,LQ c Kp (thenP K Q) e a w→Exit.then Kw (LQ c Kp Q) e a w
 |.normal,a,w,⟨x,H,A,h,hk⟩=>hK x a w H A h hk
 |.exit _,_,_,h=>h
 |.goto _,_,_,h=>h
 |.ret,_,_,h=>h
 |.panic _,_,_,h=>h
 |.outgrown,_,_,h=>h
theorem zhS(hp:zeX c.n0 Kp)(hE:∀id,c.E0 id≠.gone→id<c.n0){σ:List (Nat×Nat)}:∀{code:Code} {s s':Nat} {t:C},(∀k,s≤k→c.n0≤sg σ k)→compC P c.N c.G σ s code=some (t,s')→∀{Q:PEx→X→Prop} {x:X} {a:Act} {w:World} {H:Nat→Value} {A:Nat→Nat→Prop},SimH c x a w H A→wpC P c.G c.n0 Kp t Q x→code.wp P (LQ c Kp Q) a w:=by
 intro code;induction code with
 |skip=>intro s s' t hs h Q x a w H A hx hw;cases h;exact wp_skip ⟨x,H,A,hx,hw⟩
 |label l=>intro s s' t hs h Q x a w H A hx hw;cases h;exact wp_label ⟨x,H,A,hx,hw⟩
 |exit l=>intro s s' t hs h Q x a w H A hx hw;cases h;exact wp_exit ⟨x,H,A,hx,hw⟩
 |ret=>intro s s' t hs h Q x a w H A hx hw;cases h;exact wp_ret ⟨x,H,A,hx,hw⟩
 |region id ops draw=>
  intro s s' t hs h Q x a w H A hx hw;simp only[compC]at h;split at h
  ·rename_i ht;cases h;obtain⟨x',hg,hw⟩:=hw;obtain⟨H',A',hx'⟩:=SimH.gho hE hg hx;exact reg_ok hp hs ht hx' hw
  ·cases h
 |seq p q ihp ihq=>
  intro s s' t hs h Q x a w H A hx hw;simp only[compC]at h;split at h
  ·rename_i h1;split at h
   ·rename_i h2;cases h;exact wp_seq (Code.wp_mono (LQ_then (fun x' a' w' H' A' hx' hK=>ihq (fun k hk=>hs k (qa36 (zcM h1) hk)) h2 hx' hK)) (ihp hs h1 hx hw))
   ·cases h
  ·cases h
 |cond o p q ihp ihq=>
  intro s s' t hs h Q x a w H A hx hw;simp only[compC]at h;split at h
  ·rename_i o' ho;split at h
   ·rename_i h1;split at h
    ·rename_i h2;cases h;have h3:=zac hx ho;simp only[wpC]at hw;split at hw
     ·rename_i hb;rw[hb]at h3;have h4:=h3.data rfl;generalize hv:a.eval o=v at h4;cases h4;exact wp_cond_true hv (ihp hs h1 hx hw)
     ·rename_i hb;rw[hb]at h3;have h4:=h3.data rfl;generalize hv:a.eval o=v at h4;cases h4;exact wp_cond_false hv (ihq (fun k hk=>hs k (qa36 (zcM h1) hk)) h2 hx hw)
     ·exact hw.elim
    ·cases h
   ·cases h
  ·cases h
 |block id b ih=>
  intro s s' t hs h Q x a w H A hx hw;simp only[compC]at h;split at h
  ·rename_i h1;cases h;refine wp_block (Code.wp_mono ?_ (ih hs h1 hx hw));rintro(_|i|_|_|_|_) a' w' hq
   ·exact hq
   ·obtain⟨x',H',A',hx',hk⟩:=hq;simp only[zkQ]at hk;simp only[Exit.inBlock];split at hk
    ·rename_i he;rw[if_pos he];exact⟨x',H',A',hx',hk⟩
    ·rename_i he;rw[if_neg he];exact⟨x',H',A',hx',hk⟩
   ·exact hq
   ·exact hq
   ·exact hq
   ·exact hq
  ·cases h
 |loop b ih=>
  intro s s' t hs h Q x a w H A hx hw;simp only[compC]at h;split at h
  ·rename_i h1;cases h;obtain⟨fz,live,keep,I,μ,ho,hI,hround⟩:=hw;intro bb k cs;have key:∀(n:Nat)(y:X)(a':Act)(w':World)(H':Nat→Value)(A':Nat→Nat→Prop),μ y=n→I y→SimH c y a' w' H' A' →
     ∃e a₂ w₂,LQ c Kp Q e a₂ w₂∧Arrives P (lone (bb.at a' (.code b::.inLoop b::k)) cs w') bb k cs e a₂ w₂:=by
    intro n;induction n using Nat.strongRecOn with
    |_ n ihn=>
     intro y a' w' H' A' hn hIy hy;have hb:=ih hs h1 hy (hround y hIy);obtain⟨e,a₁,w₁,hq,harr⟩:=hb bb (.inLoop b::k) cs;cases e with
     |normal=>
      obtain⟨y',H1,A1,hy',ho',hI',hlt⟩:=hq;obtain⟨e₂,a₂,w₂,hq₂,harr₂⟩:=ihn _ (hn ▸ hlt) _ a₁ w₁ H1 A1 rfl hI' ((hy'.frz fz).scrub hE ho');exact⟨e₂,a₂,w₂,hq₂,.of_steps (Steps.trans harr (.one step_inLoop)) harr₂⟩
     |exit id=>exact⟨.exit id,a₁,w₁,(hq:LQ c Kp Q (.exit id) a₁ w₁),.pass (x:=.inLoop b) rfl (fun _ _=>.inl (by simp)) harr⟩
     |goto l=>exact hq.elim
     |ret=>exact⟨.ret,a₁,w₁,(hq:LQ c Kp Q .ret a₁ w₁),.pass (x:=.inLoop b) rfl (fun _ _=>.inl (by simp)) harr⟩
     |panic ch=>exact⟨.panic ch,a₁,w₁,(hq:LQ c Kp Q (.panic ch) a₁ w₁),.pass (x:=.inLoop b) rfl (fun _ _=>.inl (by simp)) harr⟩
     |outgrown=>exact hq.elim
   obtain⟨e,a',w',hq,harr⟩:=key _ _ a w H A rfl hI ((hx.frz fz).scrub hE ho);exact⟨e,a',w',hq,.of_steps (.one step_loop) harr⟩
  ·cases h
 |scope b ih=>
  intro s s' t hs h Q x a w H A hx hw;simp only[compC]at h;split at h
  ·rename_i h1;cases h;refine wp_scope_straight (Code.wp_mono ?_ (ih hs h1 hx hw));rintro(_|i|_|_|_|_) a' w' hq<;>exact hq
  ·cases h
 |_=>intro s s' t hs h;simp only[compC]at h;cases h
end
inductive RV where
 |tmp (t:Nat)
 |cell (t:Nat) (ag:Bool) (n:Nat)
def resT(P:Program)(N:Nat):List ResultVar→Option (List RV)
 |[]=>some []
 |.tmp t::r=>if t<N then(match resT P N r with|some l=>some (.tmp t::l)|none=>none)else none
 |.cell t T::r=>if t<N then(match za7 P T,resT P N r with|some (ag,n),some l=>some (.cell t ag n::l)|_,_=>none)else none
def rvV(x:X):RV→V
 |.tmp t=>norm1 (res x.st (x.env t))
 |.cell t ag n=>match semM 0 (.load ag n (.t t)) x.env x.st with
  |some (v,_)=>norm1 (res x.st v)
  |none=>.any
structure FC where
 N:Nat
 code:C
 res:List RV
def compF(P:Program)(G:Nat→V)(σ:List (Nat×Nat))(s:Nat)(f:FuncId):Option FC:=match P.funcs[f]? with
 |some fn=>if fn.name == "runtime.NumGoroutine" then none else match fn.body with
  |some code=>match compC P fn.ntmps G σ s code,resT P fn.ntmps fn.results.toList with
   |some (t,_),some l=>some ⟨fn.ntmps,t,l⟩
   |_,_=>none
  |none=>none
 |none=>none
def outV(res:List RV)(x:X):V:=match res with
 |[t]=>rvV x t
 |l=>.tup (l.map fun t=>rvV x t)
def zg3(res:List RV)(x:X):Bool:=match res with
 |[t]=>(rvV x t).data
 |l=>l.all fun t=>(rvV x t).data
def lentOf(n0:Nat)(st:Nat→Ent):List Ent:=(List.range n0).map st
def zbx(n0:Nat)(st:Nat→Ent):Prop:=(lentOf n0 st).all (Ent.on fun k=>decide (k<n0))=true
def panK(n0:Nat)(R:POut→List Ent→Prop):V→(Nat→Ent)→Prop:=fun v st=>R (.panic v) (lentOf n0 st)∧zbx n0 st
def retK(n0:Nat)(res:List RV)(R:POut→List Ent→Prop):PEx→X→Prop
 |.exit _,_=>False
 |_,x=>R (.ret (outV res x)) (lentOf n0 x.st)∧zg3 res x=true∧zbx n0 x.st
def zaK(args:List V)(ents:List Ent):X:=mkX ((List.range args.length).zip args) ((List.range ents.length).zip ents)
theorem zdm(args:List V)(t:Nat):look t ((List.range args.length).zip args)=args.getD t .any:=by
 have key:∀(l:List V)(s:Nat),look t ((List.range' s l.length).zip l)=if s≤t then l.getD (t-s) .any else .any:=by
  intro l;induction l with
  |nil=>intro s;simp[look]
  |cons v l ih=>
   intro s;simp only[qa20,List.range'_succ,List.zip_cons_cons,look,ih];by_cases h1:t=s
   ·subst h1;simp
   ·rw[if_neg h1];by_cases h2:s≤t
    ·have h3:s+1≤t:=by omega
     rw[if_pos h2,if_pos h3];obtain⟨d,rfl⟩:∃d,t=s+1+d:=⟨t-(s+1),by omega⟩;rw[show s+1+d-s=d+1 by omega,show s+1+d-(s+1)=d by omega];simp
    ·rw[if_neg h2,if_neg (by omega)]
 have:=key args 0;rwa[←List.range_eq_range',if_pos (Nat.zero_le _),Nat.sub_zero]at this
theorem zcy(args:List Ent)(t:Nat):lookE t ((List.range args.length).zip args)=args.getD t .gone:=by
 have key:∀(l:List Ent)(s:Nat),lookE t ((List.range' s l.length).zip l)=if s≤t then l.getD (t-s) .gone else .gone:=by
  intro l;induction l with
  |nil=>intro s;simp[lookE]
  |cons v l ih=>
   intro s;simp only[qa20,List.range'_succ,List.zip_cons_cons,lookE,ih];by_cases h1:t=s
   ·subst h1;simp
   ·rw[if_neg h1];by_cases h2:s≤t
    ·have h3:s+1≤t:=by omega
     rw[if_pos h2,if_pos h3];obtain⟨d,rfl⟩:∃d,t=s+1+d:=⟨t-(s+1),by omega⟩;rw[show s+1+d-s=d+1 by omega,show s+1+d-(s+1)=d by omega];simp
    ·rw[if_neg h2,if_neg (by omega)]
 have:=key args 0;rwa[←List.range_eq_range',if_pos (Nat.zero_le _),Nat.sub_zero]at this
theorem panOk_K(n0:Nat)(R:POut→List Ent→Prop):zeX n0 (panK n0 R):=fun v st st' h hk=>by
 have:lentOf n0 st'=lentOf n0 st:=qa9 fun k hk=>h k (by simpa using hk);unfold panK zbx at *;rw[this];exact hk
theorem zaI{n0:Nat}{st:Nat→Ent}{k:Nat}(h:k<n0):entF (lentOf n0 st) k=st k:=by simp[entF,lentOf,h]
theorem Mem.drop{c:Ctx}{st:Nat→Ent}{w:World}{H:Nat→Value}{A:Nat→Nat→Prop}(m:Mem c st w H A)(hE:∀id,c.E0 id≠.gone→id<c.n0)(ho:zbx c.n0 st):Mem c (entF (lentOf c.n0 st)) w H A:=by
 have hl:(lentOf c.n0 st).length=c.n0:=by simp[lentOf]
 have hg:∀id,entF (lentOf c.n0 st) id≠.gone→id<c.n0∧st id≠.gone:=fun id h=>by
  rcases Nat.lt_or_ge id c.n0 with h1|h1
  ·exact⟨h1,by rwa[zaI h1]at h⟩
  ·exact absurd (zbE (by omega)) h
 have hcor:Cor (fun k=>decide (k<c.n0)) (fun k=>k) st H (entF (lentOf c.n0 st)) H:=⟨fun _ _=>rfl,fun k hk=>by rw[zf1];exact zaI (by simpa using hk)⟩;simp only[zbx,qa22]at ho;refine⟨m.glo,m.kp,fun id=>?_,fun i j hij hi hj=>m.dis i j hij (hg i hi).2 (hg j hj).2,m.a00,m.a0,m.al, ?_,fun id b hid hgo=>m.lent id b hid (hg id hgo).2,fun id b hid hgo=>m.loc id b hid (hg id hgo).2,m.ext⟩
 ·rcases Nat.lt_or_ge id c.n0 with h1|h1
  ·have:=RepEnt.ren hcor (m.ent id) (ho (st id) (by simp only [lentOf,qa35,List.mem_range];exact ⟨id,h1,rfl⟩));rw[zf1]at this;rw[zaI h1];exact this
  ·rw[zbE (by omega)];trivial
 ·refine⟨fun id T cs hi=>?_,fun id T z xs hi=>?_,fun id T z xs hi=>?_,fun id T z xs hi=>?_⟩
  ·rw [zaI (hE id (by rw [hi];simp))];exact m.out.blk id T cs hi
  ·rw [zaI (hE id (by rw [hi];simp))];exact m.out.row id T z xs hi
  ·rw [zaI (hE id (by rw [hi];simp))];exact m.out.mrow id T z xs hi
  ·rw [zaI (hE id (by rw [hi];simp))];exact m.out.frow id T z xs hi
theorem run_cell{P:Program}{c:Ctx}{x:X}{a:Act}{w:World}{H:Nat→Value}{A:Nat→Nat→Prop}(h:SimH c x a w H A){t T n:Nat}{ag:Bool}(ht:t<c.N)(hT:za7 P T=some (ag,n))(hd:(rvV x (.cell t ag n)).data=true):
    ∃xv,(do loadVar T (←asAddr (a.tmps.getD t Go.undef)):Sem Value).run P w=.ok xv w∧RepV w A (rvV x (.cell t ag n)) xv:=by
  unfold rvV at hd ⊢;dsimp only at hd ⊢;split at hd
  · rename_i v U hs;have hn:∀id m off,(O.t t).ev x.env≠.rp id m off:=fun id m off e=>by cases ag<;>simp[semM,e]at hs
    have h1:=(ziu (P:=P) hn hT hs).1;have hr:=h.env t ht;have h1':zdy P T (x.env t) x.st=some v:=h1;obtain⟨xv,h2,h3⟩:=ze5 h hr h1';refine⟨xv, ?_,(za0 (repT_res h3)).data hd⟩;rw[←h2];have hptr:∃ad,a.tmps.getD t Go.undef=.pointer (some ad):=by
      generalize a.tmps.getD t Go.undef=tv at hr;unfold zdy at h1';rw[hT]at h1';generalize x.env t=xt at hr h1';cases ag<;>(dsimp only at h1';cases xt<;>first|(cases h1';done)|skip);all_goals first
        | (rcases hr with ⟨b,_,_,rfl⟩ | hr
           · exact⟨_,rfl⟩
           · cases hr;exact⟨_,rfl⟩)
        | (rcases hr with ⟨b,_,_,rfl⟩ | hr
           · exact⟨_,rfl⟩
           · cases hr)
        | (rcases hr with hr | hr
           · exact hr.elim
           · cases hr;exact⟨_,rfl⟩)
    obtain⟨ad,had⟩:=hptr;rw[had];simp[asAddr,Instr.loadAt,Instr.sureAddr]
  · cases hd
theorem zhE{P:Program}{c:Ctx}{x:X}{a:Act}{w:World}{H:Nat→Value}{A:Nat→Nat→Prop}(h:SimH c x a w H A){fn:Func}{l:List RV}(hr:resT P c.N fn.results.toList=some l)(ho:zg3 l x=true):
  ∃xv,(results fn a.tmps).run P w=.ok xv w∧RepV w A (outV l x) xv:=by
 have key:∀(g:ResultVar→Sem Value) (hg1:∀t,g (.tmp t)=pure (a.tmps.getD t Go.undef)) (hg2:∀t T,g (.cell t T)=(do loadVar T (←asAddr (a.tmps.getD t Go.undef)))) (rs:List ResultVar) (l:List RV),resT P c.N rs=some l→(∀t∈l,(rvV x t).data=true) →
   ∃vs,(rs.mapM g).run P w=.ok vs w∧RepL w A (l.map (rvV x)) vs:=by
  intro g hg1 hg2 rs;induction rs with
  |nil=>intro l h _;cases h;exact⟨[],by simp,.nil⟩
  |cons r rs ih=>
   intro l hl hd;cases r with
   |tmp t=>
    simp only[resT]at hl;split at hl
    ·rename_i hlt;split at hl
     ·rename_i l' hl';cases hl;obtain⟨vs,h1,h2⟩:=ih l' hl' (fun u hu=>hd u (by simp[hu]));refine⟨a.tmps.getD t Go.undef::vs, ?_,.cons _ _ _ _ ((za0 (repT_res (h.env t hlt))).data (hd (.tmp t) (by simp))) h2⟩;rw[List.mapM_cons,hg1];simp[h1]
     ·cases hl
    ·cases hl
   |cell t T=>
    simp only[resT]at hl;split at hl
    ·rename_i hlt;split at hl
     ·rename_i ag n l' hT hl';cases hl;obtain⟨vs,h1,h2⟩:=ih l' hl' (fun u hu=>hd u (by simp[hu]));obtain⟨xv,h3,h4⟩:=run_cell (P:=P) h hlt hT (hd (.cell t ag n) (by simp));refine⟨xv::vs, ?_,.cons _ _ _ _ h4 h2⟩;rw[List.mapM_cons,hg2,Sem.run_bind,h3];simp[h1]
     ·cases hl
    ·cases hl
 have hall:∀t∈l,(rvV x t).data=true:=by
  unfold zg3 at ho;split at ho
  ·intro t ht;simp at ht;subst ht;exact ho
  ·simpa[qa22]using ho
 have hfr:fn.results=fn.results.toList.toArray:=by simp
 have hrun:∃vs,(results fn a.tmps).run P w=.ok (if h:vs.toArray.size=1 then vs.toArray[0]else .tuple vs.toArray) w∧RepL w A (l.map (rvV x)) vs:=by
  unfold results;rw[hfr];simp only[Sem.run_bind,List.mapM_toArray,Sem.run_map];obtain⟨vs,h1,h2⟩:=key (fun|.tmp t=>pure (a.tmps.getD t Go.undef)|.cell ad t=>do loadVar t (←asAddr (a.tmps.getD ad Go.undef))) (fun _=>rfl) (fun _ _=>rfl) _ l hr hall;refine⟨vs, ?_,h2⟩;erw[h1];simp
 obtain⟨vs,h1,h2⟩:=hrun;rw[h1];refine⟨_,rfl, ?_⟩;have hl:=zar h2
 match l,h2,hl with
 |[t],.cons _ _ v _ h3 .nil,_=>exact h3
 |[],.nil,_=>exact .tup _ _ .nil
 |t::u::r,h2,hl=>
  rw[dif_neg (by simp at hl ⊢;omega)];exact .tup _ _ h2
theorem zj4{P:Program}{G:Nat→V}{σ:List (Nat×Nat)}{s:Nat}{f:FuncId}{F:FC}(hc:compF P G σ s f=some F){args:List V}{ents:List Ent}(hs:∀k,s≤k→ents.length≤sg σ k)(ha:args.length≤F.N){R:POut→List Ent→Prop}
  (h:wpC P G ents.length (panK ents.length R) F.code (retK ents.length F.res R) (zaK args ents)):zaL P G f args ents R:=by
 unfold compF at hc;split at hc
 ·rename_i fn hf;split at hc
  ·cases hc
  ·rename_i hname;split at hc
   ·rename_i code hb;split at hc
    ·rename_i t s' l h1 h2;cases hc;refine⟨by simp only[zcT,hf,qa21,qa18];exact⟨by simpa using hname,by rw[hb];rfl⟩,fun w H A vals m hv=>?_⟩;refine calls_of_wp hf hb ?_;let c:Ctx:=⟨w,A,ents.length,H,entF ents,G,fn.ntmps,[]⟩;have hE:∀id,c.E0 id≠.gone→id<c.n0:=fun id hg=>Nat.lt_of_not_le (fun hle=>hg (zbE hle));have hlen:=zaE hv;have hst:(zaK args ents).st=entF ents:=funext fun id=>zcy ents id;have hm:Mem c (zaK args ents).st w H A:=by rw[hst];exact m.forN fn.ntmps
     have hva:vals.size=args.length:=by simpa using hlen.symm
     have hsim:SimH c (zaK args ents) { tmps:=vals++Array.replicate (fn.ntmps-vals.size) Go.undef,defers:=[] } w H A:=by
      refine hm.sim (by simp;show vals.size+(fn.ntmps-vals.size)=fn.ntmps;dsimp only at ha;omega) rfl (fun t ht=>?_);rw[hst];have he:(zaK args ents).env t=args.getD t .any:=zdm args t;rw[he];by_cases hta:t<args.length
      ·obtain⟨u,h3,h4⟩:=zbk hv t args[t] (qa5 hta);have h5:(vals++Array.replicate (fn.ntmps-vals.size) Go.undef).getD t Go.undef=u:=by
        have h6:vals[t]?=some u:=by simpa using h3
        simp only[qa2];rw[Array.getElem?_append_left (by omega),h6];rfl
       simp only[];rw[h5];simpa[qa5 hta]using h4
      ·have:args.getD t .any=.any:=by simp [List.getElem?_eq_none (Nat.le_of_not_lt hta)]
       rw[this];trivial
     refine Code.wp_mono ?_ (zhS (c:=c) (panOk_K ents.length R) hE hs h1 hsim h);have fin:∀(x:X)(a':Act)(w':World)(H':Nat→Value)(A':Nat→Nat→Prop),SimH c x a' w' H' A'→R (.ret (outV l x)) (lentOf ents.length x.st)∧zg3 l x=true∧zbx ents.length x.st →
       a'.defers=[]∧∃v,(results fn a'.tmps).run P w'=.ok v w'∧∃o es H' A',R o es∧es.length=ents.length∧(∀e∈es,e.on (fun k=>decide (k<ents.length))=true)∧Mem ⟨w,A,ents.length,H,entF ents,G,0,[]⟩ (entF es) w' H' A'∧OutRep w' A' o (.returned v):=by
      intro x a' w' H' A' hx hq;obtain⟨xv,h3,h4⟩:=zhE (P:=P) hx h2 hq.2.1;exact⟨hx.df,xv,h3,_,_,H',A',hq.1,by simp[lentOf],by simpa[zbx,qa22]using hq.2.2,(hx.mem.drop hE hq.2.2).forN 0,xv,rfl,h4⟩
     rintro(_|i|_|_|ch|_) a' w' hq
     ·obtain⟨x,H',A',hx,hq⟩:=hq;exact fin x a' w' H' A' hx hq
     ·obtain⟨x,H',A',hx,hq⟩:=hq;exact hq.elim
     ·exact hq.elim
     ·obtain⟨x,H',A',hx,hq⟩:=hq;exact fin x a' w' H' A' hx hq
     ·obtain⟨x,H',A',v,xv,rfl,hrep,hx,hq⟩:=hq;exact⟨hx.df,_,_,H',A',hq.1,by simp[lentOf],by simpa[zbx,qa22]using hq.2,(hx.mem.drop hE hq.2).forN 0,xv,rfl,hrep⟩
     ·exact hq.elim
    ·cases hc
   ·cases hc
 ·cases hc
end
section
open Go Go.RowKit
def zE:List V:=[.int .i64 0,.str [],.int .i64 0,.int .i64 0,.str [],.str [],.str [],.int .i64 0,.bool false,.bool false,.nils]
def zs(d:Nat)(m:M)(s:Nat)(t:RT):RT:=.step ⟨some d,m,s,none,[]⟩ t
def za(o:BinOp)(a b:O):M:=.arith o false false false a b
def zl(a:O):M:=.load false 1 a
def zc(f:Nat)(l:List O):M:=.call true (.c (.fn f [] [])) l
end
end Vm

end
