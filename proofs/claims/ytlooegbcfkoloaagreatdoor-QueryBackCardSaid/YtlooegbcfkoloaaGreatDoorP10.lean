/- Part of the proof: see the last text. -/
import Derived.Test.YtlooegbcfkoloaaGreatDoorP9
set_option maxRecDepth 20000
set_option linter.unusedVariables false
set_option linter.unusedSimpArgs false
namespace Vm
open Go Go.RowKit
def onS (p:Nat→Bool):V→Bool | .ptr id _=>p id | _=>true
def onK (p:Nat→Bool):V→Bool | .row id _=>p id | _=>true
def V.on (p:Nat→Bool):V→Bool
 | .ptr id _=>p id
 | .row id _=>p id
 | .fn _ a b=>a.all (onS p) && b.all (onS p)
 | .ta cs=>cs.all (onK p)
 | _=>true
def renS (ρ:Nat→Nat):V→V | .ptr id off=>.ptr (ρ id) off | v=>v
def renK (ρ:Nat→Nat):V→V | .row id n=>.row (ρ id) n | v=>v
def V.ren (ρ:Nat→Nat):V→V
 | .ptr id off=>.ptr (ρ id) off
 | .row id n=>.row (ρ id) n
 | .fn f a b=>.fn f (a.map (renS ρ)) (b.map (renS ρ))
 | .ta cs=>.ta (cs.map (renK ρ))
 | v=>v
def Ent.on (p:Nat→Bool):Ent→Bool | .blk _ cs=>cs.all (V.on p) | _=>true
def Ent.ren (ρ:Nat→Nat):Ent→Ent | .blk T cs=>.blk T (cs.map (V.ren ρ)) | e=>e
theorem zs9 {ρ:Nat→Nat} {e:Ent} {T:TypeId} {cs:List V} (h:e.ren ρ=.blk T cs):∃ cs',e=.blk T cs'∧cs=cs'.map (V.ren ρ):=by
 cases e<;>simp [Ent.ren] at h
 exact ⟨_,by rw [h.1],h.2.symm⟩
theorem zmR {ρ:Nat→Nat} {e:Ent} {T z:Nat} {xs:List V} (h:e.ren ρ=.row T z xs):e=.row T z xs:=by
 cases e<;>simp [Ent.ren] at h
 obtain ⟨rfl,rfl,rfl⟩:=h
 rfl
theorem zjS {ρ:Nat→Nat} {e:Ent} (h:e.ren ρ=.gone):e=.gone:=by cases e<;>simp [Ent.ren] at h;rfl
structure Cor (p:Nat→Bool) (ρ:Nat→Nat) (st:Nat→Ent) (H:Nat→Value) (st':Nat→Ent) (H':Nat→Value):Prop where
 val:∀ id,p id=true→H' (ρ id)=H id
 ent:∀ id,p id=true→st' (ρ id)=(st id).ren ρ
section
variable {w:World} {A:Nat→Nat→Prop} {st st':Nat→Ent} {H H':Nat→Value} {p:Nat→Bool} {ρ:Nat→Nat}
theorem RepP.ren {id off:Nat} {xv:Value} (c:Cor p ρ st H st' H') (h:RepP st H (.ptr id off) xv) (hp:p id=true):RepP st' H' (.ptr (ρ id) off) xv:=by
 obtain ⟨b,h1,⟨T,cs,h2⟩,h3⟩:=h
 exact ⟨b,(c.val _ hp).trans h1,⟨T,cs.map (V.ren ρ),by rw [c.ent _ hp,h2];rfl⟩,h3⟩
theorem RepP.unren {id off:Nat} {xv:Value} (c:Cor p ρ st H st' H') (h:RepP st' H' (.ptr (ρ id) off) xv) (hp:p id=true):RepP st H (.ptr id off) xv:=by
 obtain ⟨b,h1,⟨T,cs,h2⟩,h3⟩:=h
 rw [c.ent _ hp] at h2
 obtain ⟨cs',h2,_⟩:=zs9 h2
 exact ⟨b,(c.val _ hp).symm.trans h1,⟨T,cs',h2⟩,h3⟩
theorem RepS.ren {x:V} {xv:Value} (c:Cor p ρ st H st' H') (h:RepS w A st H x xv) (hp:onS p x=true):RepS w A st' H' (renS ρ x) xv:=by
 cases x<;>first | exact h.imp (fun h=>h.elim) id | skip
 rcases h with h | h
 ·exact .inl (RepP.ren c h hp)
 ·cases h
theorem RepS.unren {x:V} {xv:Value} (c:Cor p ρ st H st' H') (h:RepS w A st' H' (renS ρ x) xv) (hp:onS p x=true):RepS w A st H x xv:=by
 cases x<;>first | exact h.imp (fun h=>h.elim) id | skip
 rcases h with h | h
 ·exact .inl (RepP.unren c h hp)
 ·cases h
theorem zcR.ren (c:Cor p ρ st H st' H'):∀ {xs:List V} {vs:List Value},zcR w A st H xs vs→xs.all (onS p)=true→zcR w A st' H' (xs.map (renS ρ)) vs
 | [],_,h,_=>h
 | _ :: _,_,⟨u,us,h1,h2,h3⟩,hp=>by
  simp only [List.all_cons,Bool.and_eq_true] at hp
  exact ⟨u,us,h1,RepS.ren c h2 hp.1,zcR.ren c h3 hp.2⟩
theorem zcR.unren (c:Cor p ρ st H st' H'):∀ {xs:List V} {vs:List Value},zcR w A st' H' (xs.map (renS ρ)) vs→xs.all (onS p)=true→zcR w A st H xs vs
 | [],_,h,_=>h
 | _ :: _,_,⟨u,us,h1,h2,h3⟩,hp=>by
  simp only [List.all_cons,Bool.and_eq_true] at hp
  exact ⟨u,us,h1,RepS.unren c h2 hp.1,zcR.unren c h3 hp.2⟩
theorem RepK.ren {x:V} {xv:Value} (c:Cor p ρ st H st' H') (h:RepK w A st H x xv) (hp:onK p x=true):RepK w A st' H' (renK ρ x) xv:=by
 cases x<;>first | exact h | skip
 obtain ⟨T,z,xs,h1,h2,h3,h4⟩:=h
 exact ⟨T,z,xs,by rw [c.ent _ hp,h1];rfl,h2,h3,fun hn=>(h4 hn).trans (c.val _ hp).symm⟩
theorem RepK.unren {x:V} {xv:Value} (c:Cor p ρ st H st' H') (h:RepK w A st' H' (renK ρ x) xv) (hp:onK p x=true):RepK w A st H x xv:=by
 cases x<;>first | exact h | skip
 obtain ⟨T,z,xs,h1,h2,h3,h4⟩:=h
 rw [c.ent _ hp] at h1
 exact ⟨T,z,xs,zmR h1,h2,h3,fun hn=>(h4 hn).trans (c.val _ hp)⟩
theorem zco.ren (c:Cor p ρ st H st' H'):∀ {xs:List V} {vs:List Value},zco w A st H xs vs→xs.all (onK p)=true→zco w A st' H' (xs.map (renK ρ)) vs
 | [],_,h,_=>h
 | _ :: _,_,⟨u,us,h1,h2,h3⟩,hp=>by
  simp only [List.all_cons,Bool.and_eq_true] at hp
  exact ⟨u,us,h1,RepK.ren c h2 hp.1,zco.ren c h3 hp.2⟩
theorem zco.unren (c:Cor p ρ st H st' H'):∀ {xs:List V} {vs:List Value},zco w A st' H' (xs.map (renK ρ)) vs→xs.all (onK p)=true→zco w A st H xs vs
 | [],_,h,_=>h
 | _ :: _,_,⟨u,us,h1,h2,h3⟩,hp=>by
  simp only [List.all_cons,Bool.and_eq_true] at hp
  exact ⟨u,us,h1,RepK.unren c h2 hp.1,zco.unren c h3 hp.2⟩
theorem RepT.ren {x:V} {xv:Value} (c:Cor p ρ st H st' H') (h:RepT w A st H x xv) (hp:x.on p=true):RepT w A st' H' (x.ren ρ) xv:=by
 cases x<;>first | trivial | exact h.imp (fun h=>h.elim) id | skip
 ·rcases h with h | h
  ·exact .inl (RepP.ren c h hp)
  ·cases h
 ·obtain ⟨T,z,xs,h1,h2,h3,h4⟩:=h
  exact ⟨T,z,xs,by rw [c.ent _ hp,h1];rfl,h2,h3,fun hn=>(h4 hn).trans (c.val _ hp).symm⟩
 ·obtain ⟨fs,cs,h1,h2,h3⟩:=h
  simp only [V.on,Bool.and_eq_true] at hp
  exact ⟨fs,cs,h1,zcR.ren c h2 hp.1,zcR.ren c h3 hp.2⟩
 ·obtain ⟨vs,h1,h2⟩:=h
  exact ⟨vs,h1,zco.ren c h2 hp⟩
theorem RepT.unren {x:V} {xv:Value} (c:Cor p ρ st H st' H') (h:RepT w A st' H' (x.ren ρ) xv) (hp:x.on p=true):RepT w A st H x xv:=by
 cases x<;>first | trivial | exact h.imp (fun h=>h.elim) id | skip
 ·rcases h with h | h
  ·exact .inl (RepP.unren c h hp)
  ·cases h
 ·obtain ⟨T,z,xs,h1,h2,h3,h4⟩:=h
  rw [c.ent _ hp] at h1
  exact ⟨T,z,xs,zmR h1,h2,h3,fun hn=>(h4 hn).trans (c.val _ hp)⟩
 ·obtain ⟨fs,cs,h1,h2,h3⟩:=h
  simp only [V.on,Bool.and_eq_true] at hp
  exact ⟨fs,cs,h1,zcR.unren c h2 hp.1,zcR.unren c h3 hp.2⟩
 ·obtain ⟨vs,h1,h2⟩:=h
  exact ⟨vs,h1,zco.unren c h2 hp⟩
theorem zaY.ren (c:Cor p ρ st H st' H'):∀ {xs:List V} {vs:List Value},zaY w A st H xs vs→xs.all (V.on p)=true→zaY w A st' H' (xs.map (V.ren ρ)) vs
 | [],_,h,_=>h
 | _ :: _,_,⟨u,us,h1,h2,h3⟩,hp=>by
  simp only [List.all_cons,Bool.and_eq_true] at hp
  exact ⟨u,us,h1,RepT.ren c h2 hp.1,zaY.ren c h3 hp.2⟩
theorem zaY.unren (c:Cor p ρ st H st' H'):∀ {xs:List V} {vs:List Value},zaY w A st' H' (xs.map (V.ren ρ)) vs→xs.all (V.on p)=true→zaY w A st H xs vs
 | [],_,h,_=>h
 | _ :: _,_,⟨u,us,h1,h2,h3⟩,hp=>by
  simp only [List.all_cons,Bool.and_eq_true] at hp
  exact ⟨u,us,h1,RepT.unren c h2 hp.1,zaY.unren c h3 hp.2⟩
theorem RepEnt.ren {base:Nat} {e:Ent} {v:Value} (c:Cor p ρ st H st' H') (h:RepEnt w A st H base e v) (hp:e.on p=true):RepEnt w A st' H' base (e.ren ρ) v:=by
 cases e with
 | gone=>trivial
 | blk T cs=>obtain ⟨b,C,h1,h2,h3,h4⟩:=h;exact ⟨b,C,h1,h2,zaY.ren c h3 hp,h4⟩
 | row T z xs=>exact h
theorem RepEnt.unren {base:Nat} {e:Ent} {v:Value} (c:Cor p ρ st H st' H') (h:RepEnt w A st' H' base (e.ren ρ) v) (hp:e.on p=true):RepEnt w A st H base e v:=by
 cases e with
 | gone=>trivial
 | blk T cs=>obtain ⟨b,C,h1,h2,h3,h4⟩:=h;exact ⟨b,C,h1,h2,zaY.unren c h3 hp,h4⟩
 | row T z xs=>exact h
end
structure Mem (c:Ctx) (st:Nat→Ent) (w:World) (H:Nat→Value) (A:Nat→Nat→Prop):Prop where
 glo:∀ g,c.G g=.any∨RepV w A (c.G g) (.pointer (some ⟨g,0,none⟩))
 kp:Keeps c.w0 c.A0 w A
 ent:∀ id,RepEnt w A st H 0 (st id) (H id)
 dis:∀ id id',id≠id'→st id≠.gone→st id'≠.gone→∀ b,blockOf (H id)=some b→blockOf (H id')≠some b
 a00:∀ b o,c.A0 b o→b < c.w0.heap.size
 a0:∀ b o,c.A0 b o→(∀ id,id < c.n0→blockOf (c.H0 id)≠some b)→A b o
 al:∀ b o,A b o→b < w.heap.size
 out:Foll c.E0 c.H0 st H
 lent:∀ id b,id < c.n0→st id≠.gone→blockOf (H id)=some b→b < c.w0.heap.size→blockOf (c.H0 id)=some b
 loc:∀ id b,c.n0≤id→st id≠.gone→blockOf (H id)=some b→c.w0.heap.size≤b
 ext:Ext c.w0 c.n0 c.H0 w
theorem SimH.mem {c:Ctx} {x:X} {a:Act} {w:World} {H:Nat→Value} {A:Nat→Nat→Prop} (h:SimH c x a w H A):Mem c x.st w H A :=
 ⟨h.glo,h.kp,h.ent,h.dis,h.a00,h.a0,h.al,h.out,h.lent,h.loc,h.ext⟩
theorem Mem.sim {c:Ctx} {x:X} {a:Act} {w:World} {H:Nat→Value} {A:Nat→Nat→Prop} (h:Mem c x.st w H A) (tm:a.tmps.size=c.N) (df:a.defers=c.D) (env:∀ t,t < c.N→RepT w A x.st H (x.env t) (a.tmps.getD t Go.undef)):SimH c x a w H A :=
 ⟨tm,df,env,h.glo,h.kp,h.ent,h.dis,h.a00,h.a0,h.al,h.out,h.lent,h.loc,h.ext⟩
theorem Mem.forD {c:Ctx} {st:Nat→Ent} {w:World} {H:Nat→Value} {A:Nat→Nat→Prop} (h:Mem c st w H A) (n:Nat) (D:List Deferred):Mem { c with N:=n,D:=D } st w H A :=
 ⟨h.glo,h.kp,h.ent,h.dis,h.a00,h.a0,h.al,h.out,h.lent,h.loc,h.ext⟩
theorem Mem.forN {c:Ctx} {st:Nat→Ent} {w:World} {H:Nat→Value} {A:Nat→Nat→Prop} (h:Mem c st w H A) (n:Nat):Mem { c with N:=n } st w H A :=
 ⟨h.glo,h.kp,h.ent,h.dis,h.a00,h.a0,h.al,h.out,h.lent,h.loc,h.ext⟩
def entF (l:List Ent):Nat→Ent:=fun i=>l.getD i .gone
inductive POut where
 | ret (v:V)
 | panic (v:V)
def OutRep (w:World) (A:Nat→Nat→Prop):POut→Ending→Prop
 | .ret v,e=>∃ xv,e=.returned xv∧RepV w A v xv
 | .panic v,e=>∃ xv,e=.panicked [{ v:=xv,recovered:=false }]∧RepV w A v xv
def zgF (P:Program) (f:FuncId):Bool:=match P.funcs[f]? with | some fn=>!(fn.name == "runtime.NumGoroutine") && fn.body.isSome | none=>false
theorem zjs {P:Program} {f:FuncId} (h:zgF P f=true) (args:Array Value) (w:World):(callFunc f args).run P w=.ok (.enter f args) w:=by
 unfold zgF at h
 split at h
 ·rename_i fn hf
  simp only [Bool.and_eq_true,Bool.not_eq_true'] at h
  have hb:fn.body≠none:=fun e=>by rw [e] at h;simp at h
  have hn:fn.name ≠ "runtime.NumGoroutine" := by simpa using h.1
  simp [callFunc,Sem.run,hf,hn,hb]
 ·cases h
def zcI (P:Program) (G:Nat→V) (f:FuncId) (args:List V) (ents:List Ent) (R:POut→List Ent→Prop):Prop :=
 zgF P f=true∧∀ (w:World) (H:Nat→Value) (A:Nat→Nat→Prop) (vals:Array Value),Mem ⟨w,A,ents.length,H,entF ents,G,0,[]⟩ (entF ents) w H A→zaY w A (entF ents) H args vals.toList →
  Calls P f vals w fun e w'=>∃ o es H' A',R o es∧es.length=ents.length∧(∀ e∈es,e.on (fun k=>decide (k < ents.length))=true)∧Mem ⟨w,A,ents.length,H,entF ents,G,0,[]⟩ (entF es) w' H' A'∧OutRep w' A' o e
theorem zcI.mono {P:Program} {G:Nat→V} {f:FuncId} {args:List V} {ents:List Ent} {R R':POut→List Ent→Prop} (h:zcI P G f args ents R) (hr:∀ o es,R o es→R' o es):zcI P G f args ents R' :=
 ⟨h.1,fun w H A vals hm hv=>Calls.mono (h.2 w H A vals hm hv) fun e w' ⟨o,es,H',A',h1,h2⟩=>⟨o,es,H',A',hr _ _ h1,h2⟩⟩
theorem zeW:∀ (ids:List Nat) (es:List Ent) (s:Nat→Ent),ids.Nodup→es.length=ids.length →
  (∀ k,k < ids.length→updL s (ids.zip es) (ids.getD k 0)=es.getD k .gone)∧∀ id,id ∉ ids→updL s (ids.zip es) id=s id
 | [],_,_,_,_=>⟨fun k hk=>by simp at hk,fun _ _=>rfl⟩
 | i :: ids,[],_,_,h=>by simp at h
 | i :: ids,e :: es,s,hn,hl=>by
  simp only [List.nodup_cons] at hn
  obtain ⟨h1,h2⟩:=zeW ids es (updE s i e) hn.2 (by simpa using hl)
  refine ⟨fun k hk=>?_,fun id hid=>?_⟩
  ·cases k with
   | zero=>simpa [List.zip_cons_cons,updL,updE_same] using h2 i hn.1
   | succ k=>simpa [List.zip_cons_cons,updL] using h1 k (by simpa using hk)
  ·simp only [List.mem_cons,not_or] at hid
   simpa [List.zip_cons_cons,updL,zau _ _ hid.1] using h2 id hid.2
def nameOf (ids:List Nat):Nat→Nat:=fun k=>ids.getD k 0
theorem name_mem {ids:List Nat} {k:Nat} (h:k < ids.length):nameOf ids k∈ids:=by
 simp only [nameOf,List.getD_eq_getElem?_getD,List.getElem?_eq_getElem h,Option.getD_some]
 exact List.getElem_mem h
theorem zqE {ids:List Nat} (hn:ids.Nodup) {j k:Nat} (hj:j < ids.length) (hk:k < ids.length) (h:nameOf ids j=nameOf ids k):j=k:=by
 simp only [nameOf,List.getD_eq_getElem?_getD,List.getElem?_eq_getElem hj,List.getElem?_eq_getElem hk,Option.getD_some] at h
 rcases Nat.lt_trichotomy j k with h1 | h1 | h1
 ·exact absurd h (List.pairwise_iff_getElem.1 hn j k hj hk h1)
 ·exact h1
 ·exact absurd h.symm (List.pairwise_iff_getElem.1 hn k j hk hj h1)
theorem zit {ids:List Nat} {id:Nat} (h:id∈ids):∃ k,k < ids.length∧nameOf ids k=id:=by
 obtain ⟨k,hk,rfl⟩:=List.mem_iff_getElem.1 h
 exact ⟨k,hk,by simp [nameOf,List.getElem?_eq_getElem hk]⟩
structure Lends (st:Nat→Ent) (ids:List Nat) (ents:List Ent):Prop where
 nodup:ids.Nodup
 len:ents.length=ids.length
 ent:∀ k,k < ids.length→st (nameOf ids k)=(entF ents k).ren (nameOf ids)
 live:∀ k,k < ids.length→entF ents k≠.gone
 on:∀ e∈ents,e.on (fun k=>decide (k < ids.length))=true
theorem zfs {l:List Ent} {k:Nat} (h:l.length≤k):entF l k=.gone:=by simp [entF,List.getElem?_eq_none h]
theorem ziB {l:List Ent} {k:Nat} (h:k < l.length):entF l k∈l:=by
 simp only [entF,List.getD_eq_getElem?_getD,List.getElem?_eq_getElem h,Option.getD_some]
 exact List.getElem_mem h
section
variable {P:Program} {c:Ctx} {x:X} {a:Act} {w:World} {H:Nat→Value} {A:Nat→Nat→Prop} {ids:List Nat} {ents:List Ent}
theorem Lends.cor (hl:Lends x.st ids ents):Cor (fun k=>decide (k < ids.length)) (nameOf ids) (entF ents) (fun k=>H (nameOf ids k)) x.st H :=
 ⟨fun _ _=>rfl,fun k hk=>hl.ent k (by simpa using hk)⟩
theorem SimH.start (h:SimH c x a w H A) (hl:Lends x.st ids ents):Mem ⟨w,A,ents.length,fun k=>H (nameOf ids k),entF ents,c.G,0,[]⟩ (entF ents) w (fun k=>H (nameOf ids k)) A where
 glo:=h.glo
 kp:=Keeps.refl _ _
 ent:=fun k=>by
  by_cases hk:k < ents.length
  ·have h1:=h.ent (nameOf ids k)
   rw [hl.ent k (by rw [← hl.len];exact hk)] at h1
   exact RepEnt.unren hl.cor h1 (hl.on _ (ziB hk))
  ·rw [zfs (Nat.le_of_not_lt hk)];trivial
 dis:=fun j k hjk hj hk b hb=>by
  have h1:j < ids.length:=Nat.lt_of_not_le (fun h1=>hj (zfs (by rw [hl.len];exact h1)))
  have h2:k < ids.length:=Nat.lt_of_not_le (fun h1=>hk (zfs (by rw [hl.len];exact h1)))
  refine h.dis _ _ (fun e=>hjk (zqE hl.nodup h1 h2 e)) ?_ ?_ b hb
  ·rw [hl.ent j h1];exact fun e=>hj (zjS e)
  ·rw [hl.ent k h2];exact fun e=>hk (zjS e)
 a00:=h.al
 a0:=fun b o hb _=>hb
 al:=h.al
 out:=Foll.refl _ _
 lent:=fun _ _ _ _ hb _=>hb
 loc:=fun k b hk hg _=>absurd (zfs hk) hg
 ext:=⟨rfl,rfl,rfl,Nat.le_refl _,fun _ _ _=>rfl⟩
def lendU (ids:List Nat) (es:List Ent):Upds:=ids.zip (es.map (Ent.ren (nameOf ids)))
open Classical in
theorem SimH.back (h:SimH c x a w H A) (hl:Lends x.st ids ents) {es:List Ent} {w1:World} {H1:Nat→Value} {A1:Nat→Nat→Prop} (hes:es.length=ents.length) (hon:∀ e∈es,e.on (fun k=>decide (k < ents.length))=true)
  (m:Mem ⟨w,A,ents.length,fun k=>H (nameOf ids k),entF ents,c.G,0,[]⟩ (entF es) w1 H1 A1) (dst:Option Tmp) (v:V) (xv:Value) (hv:RepV w1 A1 v xv):∃ H',SimH c (x.put dst v (lendU ids es)) (a.put dst xv) w1 H' A1:=by
 have hlen:=hl.len
 let inv:Nat→Nat:=fun id=>if h:id∈ids then (zit h).choose else 0
 have hinv:∀ id,id∈ids→inv id < ids.length∧nameOf ids (inv id)=id:=fun id hid=>by
  have:=(zit hid).choose_spec
  simpa [inv,hid] using this
 have hinvn:∀ k,k < ids.length→inv (nameOf ids k)=k:=fun k hk=>by
  obtain ⟨h1,h2⟩:=hinv _ (name_mem hk)
  exact zqE hl.nodup h1 hk h2
 let H':Nat→Value:=fun id=>if id∈ids then H1 (inv id) else H id
 have hH1:∀ id,id∈ids→H' id=H1 (inv id):=fun id hid=>if_pos hid
 have hH2:∀ id,id ∉ ids→H' id=H id:=fun id hid=>if_neg hid
 obtain ⟨hz1,hz2⟩:=zeW ids (es.map (Ent.ren (nameOf ids))) x.st hl.nodup (by simp [hes,hlen])
 let st':=updL x.st (lendU ids es)
 have hs1:∀ k,k < ids.length→st' (nameOf ids k)=(entF es k).ren (nameOf ids):=fun k hk=>by
  have:=hz1 k hk
  show updL x.st (lendU ids es) (nameOf ids k)=_
  have hk2:k < es.length:=by omega
  simp only [lendU,nameOf] at this ⊢
  rw [this]
  simp [entF,List.getElem?_eq_getElem hk2]
 have hs2:∀ id,id ∉ ids→st' id=x.st id:=fun id hid=>hz2 id hid
 have hne:∀ k,k < ids.length→st' (nameOf ids k)≠.gone→entF es k≠.gone:=fun k hk hg e=>hg (by rw [hs1 k hk,e];rfl)
 have hxne:∀ k,k < ids.length→x.st (nameOf ids k)≠.gone:=fun k hk e=>by
  rw [hl.ent k hk] at e
  exact hl.live k hk (zjS e)
 have k0:Keeps w A w1 A1:=m.kp
 have hf:Foll x.st H st' H':=by
  refine ⟨fun id T cs hi=>?_,fun id T z xs hi=>?_⟩
  ·by_cases hid:id∈ids
   ·obtain ⟨h1,h2⟩:=hinv id hid
    have hi':=hi
    rw [← h2,hl.ent _ h1] at hi'
    obtain ⟨cs',h3,_⟩:=zs9 hi'
    obtain ⟨h4,T',cs'',h5⟩:=m.out.blk _ _ _ h3
    refine ⟨by rw [hH1 id hid,h4];show H (nameOf ids (inv id))=_;rw [h2],T',cs''.map (V.ren (nameOf ids)), ?_⟩
    have:=hs1 _ h1
    rw [h2,h5] at this
    exact this
   ·exact ⟨hH2 id hid,T,cs,by rw [hs2 id hid];exact hi⟩
  ·by_cases hid:id∈ids
   ·obtain ⟨h1,h2⟩:=hinv id hid
    have hi':=hi
    rw [← h2,hl.ent _ h1] at hi'
    have h3:=zmR hi'
    obtain ⟨ys,h4,h5⟩:=m.out.row _ _ _ _ h3
    refine ⟨ys, ?_,fun hy=>?_⟩
    ·have:=hs1 _ h1
     rw [h2,h4] at this
     exact this
    ·rw [hH1 id hid,h5 hy]
     show H (nameOf ids (inv id))=_
     rw [h2]
   ·exact ⟨[],by rw [hs2 id hid];simpa using hi,fun _=>hH2 id hid⟩
 have hcor:Cor (fun k=>decide (k < ents.length)) (nameOf ids) (entF es) H1 st' H' :=
  ⟨fun k hk=>by
   have hk:k < ids.length:=by rw [← hlen];simpa using hk
   rw [hH1 _ (name_mem hk),hinvn k hk],fun k hk=>hs1 k (by rw [← hlen];simpa using hk)⟩
 have hwhere:∀ id,id∈ids→st' id≠.gone→∀ b,blockOf (H' id)=some b→blockOf (H id)=some b∨w.heap.size≤b:=by
  intro id hid hg b hb
  obtain ⟨h1,h2⟩:=hinv id hid
  rw [hH1 id hid] at hb
  rcases Nat.lt_or_ge b w.heap.size with hlt | hge
  ·left
   have:=m.lent (inv id) b (by show inv id < ents.length;rw [hlen];exact h1) (hne _ h1 (by rw [h2];exact hg)) hb hlt
   change blockOf (H (nameOf ids (inv id)))=some b at this
   rwa [h2] at this
  ·exact .inr hge
 have hfree:∀ id,id ∉ ids→x.st id≠.gone→∀ b,blockOf (H id)=some b→∀ k,k < ents.length→blockOf (H (nameOf ids k))≠some b:=by
  intro id hid hg b hb k hk hc
  rw [hlen] at hk
  exact h.dis id (nameOf ids k) (fun e=>hid (e ▸ name_mem hk)) hg (hxne k hk) b hb hc
 have hxlive:∀ id,id∈ids→x.st id≠.gone:=fun id hid=>by
  obtain ⟨h1,h2⟩:=hinv id hid
  rw [← h2];exact hxne _ h1
 refine ⟨H',h.go k0 hf ?_ ?_ ?_ ?_ m.al ?_ ?_ dst v xv hv.toT⟩
 ·intro id
  by_cases hid:id∈ids
  ·obtain ⟨h1,h2⟩:=hinv id hid
   have h3:=m.ent (inv id)
   have h4:=RepEnt.ren hcor h3 (hon _ (ziB (by omega)))
   have h5:=hs1 _ h1
   rw [h2] at h5
   rw [h5,hH1 id hid]
   exact h4
  ·rw [hs2 id hid,hH2 id hid]
   by_cases hgo:x.st id=.gone
   ·rw [hgo];trivial
   ·refine (h.ent id).mono k0 hf (fun b hb=>?_)
    have hlt:=zk2 (h.ent id) hgo hb
    have hfr:=hfree id hid hgo b hb
    exact ⟨m.ext.block b hlt hfr,fun o=>⟨fun hA=>Classical.byContradiction (fun hn=>k0.shun b o hlt hn hA),fun hA=>m.a0 b o hA hfr⟩⟩
 ·intro i j hij hi hj b hb hb2
  by_cases h1:i∈ids
  ·by_cases h2:j∈ids
   ·obtain ⟨h3,h4⟩:=hinv i h1
    obtain ⟨h5,h6⟩:=hinv j h2
    rw [hH1 i h1] at hb
    rw [hH1 j h2] at hb2
    exact m.dis (inv i) (inv j) (fun e=>hij (by rw [← h4,← h6,e])) (hne _ h3 (by rw [h4];exact hi)) (hne _ h5 (by rw [h6];exact hj)) b hb hb2
   ·rw [hH2 j h2] at hb2
    have hj':x.st j≠.gone:=by rw [← hs2 j h2];exact hj
    rcases hwhere i h1 hi b hb with h3 | h3
    ·exact h.dis i j hij (hxlive i h1) hj' b h3 hb2
    ·have:=zk2 (h.ent j) hj' hb2
     omega
  ·rw [hH2 i h1] at hb
   have hi':x.st i≠.gone:=by rw [← hs2 i h1];exact hi
   by_cases h2:j∈ids
   ·rcases hwhere j h2 hj b hb2 with h3 | h3
    ·exact h.dis i j hij hi' (hxlive j h2) b hb h3
    ·have:=zk2 (h.ent i) hi' hb
     omega
   ·rw [hH2 j h2] at hb2
    exact h.dis i j hij hi' (by rw [← hs2 j h2];exact hj) b hb hb2
 ·intro b o hb hn
  refine m.a0 b o (h.a0 b o hb hn) (fun k hk hc=>?_)
  have hk':k < ids.length:=by rw [← hlen];exact hk
  have hb0:=h.a00 b o hb
  rcases Nat.lt_or_ge (nameOf ids k) c.n0 with h1 | h1
  ·exact hn _ h1 (h.lent _ b h1 (hxne k hk') hc hb0)
  ·have:=h.loc _ b h1 (hxne k hk') hc
   omega
 ·intro id b hid hg hb hlt
  by_cases h1:id∈ids
  ·rcases hwhere id h1 hg b hb with h3 | h3
   ·exact h.lent id b hid (hxlive id h1) h3 hlt
   ·have:=h.ext.size
    omega
  ·rw [hH2 id h1] at hb
   exact h.lent id b hid (by rw [← hs2 id h1];exact hg) hb hlt
 ·intro id b hid hg hb
  by_cases h1:id∈ids
  ·rcases hwhere id h1 hg b hb with h3 | h3
   ·exact h.loc id b hid (hxlive id h1) h3
   ·exact Nat.le_trans h.ext.size h3
  ·rw [hH2 id h1] at hb
   exact h.loc id b hid (by rw [← hs2 id h1];exact hg) hb
 ·refine ⟨m.ext.os.trans h.ext.os,m.ext.tape.trans h.ext.tape,m.ext.output.trans h.ext.output,Nat.le_trans h.ext.size m.ext.size,fun b hb hn=>?_⟩
  refine (m.ext.block b (Nat.lt_of_lt_of_le hb h.ext.size) (fun k hk hc=>?_)).trans (h.ext.block b hb hn)
  have hk':k < ids.length:=by rw [← hlen];exact hk
  rcases Nat.lt_or_ge (nameOf ids k) c.n0 with h1 | h1
  ·exact hn _ h1 (h.lent _ b h1 (hxne k hk') hc hb)
  ·have:=h.loc _ b h1 (hxne k hk') hc
   omega
structure Fol (ents es:List Ent):Prop where
 len:es.length=ents.length
 blk:∀ k T cs,entF ents k=.blk T cs→∃ T' cs',entF es k=.blk T' cs'
 row:∀ k T z xs,entF ents k=.row T z xs→∃ ys,entF es k=.row T z (xs++ys)
theorem call_ok (h:SimH c x a w H A) (hl:Lends x.st ids ents) {f:FuncId} {args':List V} {R:POut→List Ent→Prop} (hc:zcI P c.G f args' ents R) (vals:Array Value) (hv:zaY w A x.st H (args'.map (V.ren (nameOf ids))) vals.toList)
  (ha:args'.all (V.on fun k=>decide (k < ids.length))=true) (dst:Option Tmp) :
  Calls P f vals w fun e w'=>∃ o es,R o es∧Fol ents es∧∃ H' A',match o with
   | .ret v=>∃ xv,e=.returned xv∧SimH c (x.put dst v (lendU ids es)) (a.put dst xv) w' H' A'
   | .panic v=>∃ xv,e=.panicked [{ v:=xv,recovered:=false }]∧RepV w' A' v xv∧SimH c (x.put none .undef (lendU ids es)) a w' H' A':=by
 refine Calls.mono (hc.2 w _ A vals (h.start hl) (zaY.unren hl.cor hv ha)) ?_
 rintro e w' ⟨o,es,H1,A1,h1,h2,h3,m,h4⟩
 refine ⟨o,es,h1,⟨h2,fun k T cs hk=>(m.out.blk k T cs hk).2,fun k T z xs hk=>(m.out.row k T z xs hk).imp fun _ h=>h.1⟩, ?_⟩
 cases o with
 | ret v =>
  obtain ⟨xv,rfl,h5⟩:=h4
  obtain ⟨H',h6⟩:=h.back hl h2 h3 m dst v xv h5
  exact ⟨H',A1,xv,rfl,h6⟩
 | panic v =>
  obtain ⟨xv,rfl,h5⟩:=h4
  obtain ⟨H',h6⟩:=h.back hl h2 h3 m none .undef Go.undef .undef
  exact ⟨H',A1,xv,rfl,h5,h6⟩
end
end Vm
