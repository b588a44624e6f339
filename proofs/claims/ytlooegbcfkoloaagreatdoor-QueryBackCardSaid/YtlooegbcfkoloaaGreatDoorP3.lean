/- Part of the proof: see the last text. -/
import Derived.Test.YtlooegbcfkoloaaGreatDoorP2
set_option maxRecDepth 20000
set_option linter.unusedVariables false
set_option linter.unusedSimpArgs false
namespace Vm
open Go Go.RowKit
def updH (e:Nat→Value) (d:Nat) (v:Value):Nat→Value:=fun i=>if i=d then v else e i
theorem zm0 (a:Act) (dst:Option Tmp) (v:Value) (t:Nat):(a.put dst v).tmps.getD t Go.undef=if dst=some t∧t < a.tmps.size then v else a.tmps.getD t Go.undef:=by
 cases dst with
 | none=>simp [Act.put]
 | some d =>
  simp only [Act.put,Array.getD_eq_getD_getElem?,Array.getElem?_setIfInBounds,Option.some.injEq]
  by_cases h:d=t
  ·subst h
   by_cases h2:d < a.tmps.size
   ·simp [h2]
   ·simp [h2]
  ·simp [h]
theorem SimH.go {c:Ctx} {x:X} {a:Act} {w:World} {H:Nat→Value} {A:Nat→Nat→Prop} (h:SimH c x a w H A) {w':World} {st':Nat→Ent} {H':Nat→Value} {A':Nat→Nat→Prop}
  (k:Keeps w A w' A') (f:Foll x.st H st' H')
  (ent:∀ id,RepEnt w' A' st' H' 0 (st' id) (H' id))
  (dis:∀ id id',id≠id'→st' id≠.gone→st' id'≠.gone→∀ b,blockOf (H' id)=some b→blockOf (H' id')≠some b)
  (a0:∀ b o,c.A0 b o→(∀ id,id < c.n0→blockOf (c.H0 id)≠some b)→A' b o) (lent:∀ id b,id < c.n0→st' id≠.gone→blockOf (H' id)=some b→b < c.w0.heap.size→blockOf (c.H0 id)=some b) (al:∀ b o,A' b o→b < w'.heap.size)
  (loc:∀ id b,c.n0≤id→st' id≠.gone→blockOf (H' id)=some b→c.w0.heap.size≤b)
  (ext:Ext c.w0 c.n0 c.H0 w') (dst:Option Tmp) (v:V) (xv:Value) (hv:RepT w' A' st' H' v xv):SimH c ⟨putEnv x.env dst v,st'⟩ (a.put dst xv) w' H' A' where
 tm:=by cases dst<;>simp [Act.put,h.tm]
 df:=by cases dst<;>simp [Act.put,h.df]
 env:=by
  intro t ht
  rw [zm0,h.tm]
  cases dst with
  | none=>simpa [putEnv] using (h.env t ht).mono k f
  | some d =>
   by_cases hd:d=t
   ·subst hd
    simpa [putEnv,upd,ht] using hv
   ·simpa [putEnv,upd,hd,Ne.symm hd] using (h.env t ht).mono k f
 glo:=fun g=>(h.glo g).imp id (fun h=>h.keep k)
 kp:=h.kp.trans k
 ent:=ent
 dis:=dis
 a00:=h.a00
 a0:=a0
 al:=al
 out:=h.out.trans f
 lent:=lent
 loc:=loc
 ext:=ext
theorem SimH.putv {c:Ctx} {x:X} {a:Act} {w:World} {H:Nat→Value} {A:Nat→Nat→Prop} (h:SimH c x a w H A) (dst:Option Tmp) (v:V) (xv:Value) (hv:RepT w A x.st H v xv):SimH c (x.put dst v []) (a.put dst xv) w H A :=
 h.go (Keeps.refl _ _) (Foll.refl _ _) h.ent h.dis h.a0 h.lent h.al h.loc h.ext dst v xv hv
theorem RepEnt.mono {w w':World} {A A':Nat→Nat→Prop} {st st':Nat→Ent} {H H':Nat→Value} {base:Nat} {e:Ent} {v:Value} (h:RepEnt w A st H base e v) (k:Keeps w A w' A') (f:Foll st H st' H')
  (hb:∀ b,blockOf v=some b→w'.heap[b]?=w.heap[b]?∧∀ o,A' b o↔A b o):RepEnt w' A' st' H' base e v:=by
 cases e with
 | gone=>trivial
 | blk T cs =>
  obtain ⟨b,C,rfl,h2,h3,h4⟩:=h
  obtain ⟨h5,h6⟩:=hb b rfl
  exact ⟨b,C,rfl,h5.trans h2,h3.mono k f,fun o=>(h6 o).2 (h4 o)⟩
 | row T z xs =>
  obtain ⟨h0,vs,⟨h1,h2⟩,h3,h4⟩:=h
  refine ⟨h0,vs,⟨h1, ?_⟩,h3.keep k, ?_⟩
  ·rcases h2 with h2 | ⟨g,cap,cur,rfl,h5,h6,h7⟩
   ·exact .inl h2
   ·exact .inr ⟨g,cap,cur,rfl,h5,(hb g rfl).1.trans h6,h7⟩
  ·intro g hg
   have hbl:blockOf v=some g:=by
    cases v<;>simp [Value.ownBlock] at hg
    rename_i aa _ _
    cases aa<;>simp at hg
    simp [blockOf,hg]
   obtain ⟨h5,h6⟩:=hb g hbl
   obtain ⟨h7,h8⟩:=h4 g hg
   exact ⟨fun o ho=>(h6 o).2 (h7 o ho),fun o ho hA=>h8 o ho ((h6 o).1 hA)⟩
theorem zk2 {w:World} {A:Nat→Nat→Prop} {st:Nat→Ent} {H:Nat→Value} {base:Nat} {e:Ent} {v:Value} (h:RepEnt w A st H base e v) (he:e≠.gone) {b:Nat} (hb:blockOf v=some b):b < w.heap.size:=by
 cases e with
 | gone=>exact absurd rfl he
 | blk T cs =>
  obtain ⟨b',C,rfl,h2,h3,h4⟩:=h
  simp only [blockOf,Option.some.injEq] at hb
  subst hb
  exact (Array.getElem?_eq_some_iff.1 h2).1
 | row T z xs =>
  obtain ⟨h0,vs,⟨h1,h2⟩,h3,h4⟩:=h
  rcases h2 with ⟨rfl,_⟩ | ⟨g,cap,cur,rfl,h5,h6,h7⟩
  ·simp [blockOf] at hb
  ·simp only [blockOf,Option.some.injEq] at hb
   subst hb
   exact (Array.getElem?_eq_some_iff.1 h6).1
theorem SimH.new {c:Ctx} {x:X} {a:Act} {w:World} {H:Nat→Value} {A:Nat→Nat→Prop} (h:SimH c x a w H A) (C:Array Value) (T:TypeId) (id:Nat) (e:Ent) (hv:Value) (D:Nat→Prop)
  (hid:c.n0≤id) (hg:x.st id=.gone) (hbl:blockOf hv=some w.heap.size)
  (he:∀ w' A' st' H',Keeps w A w' A'→Foll x.st H st' H'→w'.heap[w.heap.size]?=some (.cells C T (0,0))→w'.heap.size=w.heap.size+1→(∀ o,A' w.heap.size o↔D o)→RepEnt w' A' st' H' 0 e hv)
  (dst:Option Tmp) (v:V) (xv:Value) (hx:∀ w' A' st' H',Keeps w A w' A'→Foll x.st H st' H'→st' id=e→H' id=hv→w'.heap[w.heap.size]?=some (.cells C T (0,0))→w'.heap.size=w.heap.size+1→(∀ o,A' w.heap.size o↔D o)→RepT w' A' st' H' v xv) :
  ∃ A',SimH c (x.put dst v [(id,e)]) (a.put dst xv) (w.alloc (.cells C T)) (updH H id hv) A':=by
 have hsz:(w.alloc (.cells C T)).heap.size=w.heap.size+1:=by simp
 have hnew:=heap_alloc_new w (.cells C T)
 have hk:Keeps w A (w.alloc (.cells C T)) (fun b o=>if b=w.heap.size then D o else A b o):=by
  refine ⟨by rw [hsz];omega,fun b o hb _=>?_,fun b o hb h hA=>?_⟩
  ·exact World.cell?_of_block (a:=⟨b,o,none⟩) (Below.heap_alloc w _ b hb)
  ·rw [if_neg (by omega)] at hA
   exact h hA
 have hf:Foll x.st H (updE x.st id e) (updH H id hv):=by
  refine ⟨fun i T cs hi=>?_,fun i T z xs hi=>?_⟩
  ·have:i≠id:=fun e=>by subst e;rw [hg] at hi;cases hi
   exact ⟨if_neg this,T,cs,by rw [zau _ _ this];exact hi⟩
  ·have:i≠id:=fun e=>by subst e;rw [hg] at hi;cases hi
   exact ⟨[],by rw [zau _ _ this];simpa using hi,fun _=>if_neg this⟩
 have hD:∀ o,(fun b o=>if b=w.heap.size then D o else A b o) w.heap.size o↔D o:=fun o=>by simp
 refine ⟨_,h.go hk hf ?_ ?_ ?_ ?_ ?_ ?_ ?_ dst v xv (hx _ _ _ _ hk hf (updE_same _ _ _) (if_pos rfl) hnew hsz hD)⟩
 ·intro i
  by_cases hi:i=id
  ·subst hi
   rw [updE_same,show updH H i hv i=hv from if_pos rfl]
   exact he _ _ _ _ hk hf hnew hsz hD
  ·rw [zau _ _ hi,show updH H id hv i=H i from if_neg hi]
   by_cases hgo:x.st i=.gone
   ·rw [hgo];trivial
   ·refine (h.ent i).mono hk hf (fun b hb=>?_)
    have hlt:=zk2 (h.ent i) hgo hb
    exact ⟨Below.heap_alloc w _ b hlt,fun o=>by show (if b=w.heap.size then D o else A b o)↔A b o;rw [if_neg (by omega)]⟩
 ·intro i j hij hi hj b hb
  by_cases h1:i=id
  ·subst h1
   rw [show updH H i hv i=hv from if_pos rfl,hbl] at hb
   simp only [Option.some.injEq] at hb
   subst hb
   rw [show updH H i hv j=H j from if_neg (Ne.symm hij)]
   rw [zau _ _ (Ne.symm hij)] at hj
   intro hc
   exact absurd (zk2 (h.ent j) hj hc) (Nat.lt_irrefl _)
  ·rw [show updH H id hv i=H i from if_neg h1] at hb
   rw [zau _ _ h1] at hi
   by_cases h2:j=id
   ·subst h2
    rw [show updH H j hv j=hv from if_pos rfl,hbl]
    intro hc
    simp only [Option.some.injEq] at hc
    subst hc
    exact absurd (zk2 (h.ent i) hi hb) (Nat.lt_irrefl _)
   ·rw [show updH H id hv j=H j from if_neg h2]
    rw [zau _ _ h2] at hj
    exact h.dis i j hij hi hj b hb
 ·intro b o hb hn
  have h1:=h.a00 b o hb
  have h2:=h.ext.size
  rw [if_neg (by omega)]
  exact h.a0 b o hb hn
 ·intro i b hi hgo hb hl
  have h1:i≠id:=by omega
  rw [show updH H id hv i=H i from if_neg h1] at hb
  rw [zau _ _ h1] at hgo
  exact h.lent i b hi hgo hb hl
 ·intro b o hb
  rw [hsz]
  by_cases h1:b=w.heap.size
  ·omega
  ·rw [if_neg h1] at hb
   have:=h.al b o hb
   omega
 ·intro i b hi hgo hb
  by_cases h1:i=id
  ·subst h1
   rw [show updH H i hv i=hv from if_pos rfl,hbl] at hb
   simp only [Option.some.injEq] at hb
   have:=h.ext.size
   omega
  ·rw [show updH H id hv i=H i from if_neg h1] at hb
   rw [zau _ _ h1] at hgo
   exact h.loc i b hi hgo hb
 ·exact ⟨h.ext.os,h.ext.tape,h.ext.output,by rw [hsz];have:=h.ext.size;omega,fun b hb hne=>(Below.heap_alloc w _ b (Nat.lt_of_lt_of_le hb h.ext.size)).trans (h.ext.block b hb hne)⟩
theorem SimH.newBlk {c:Ctx} {x:X} {a:Act} {w:World} {H:Nat→Value} {A:Nat→Nat→Prop} (h:SimH c x a w H A) (C:Array Value) (T:TypeId) (id:Nat) (cs:List V) (hid:c.n0≤id) (hg:x.st id=.gone) (hc:zaY w A x.st H cs C.toList) (dst:Option Tmp) :
  ∃ H' A',SimH c (x.put dst (.ptr id 0) [(id,.blk T cs)]) (a.put dst (.pointer (some ⟨w.heap.size,0,none⟩))) (w.alloc (.cells C T)) H' A':=by
 obtain ⟨A',h'⟩:=h.new C T id (.blk T cs) (.pointer (some ⟨w.heap.size,0,none⟩)) (fun _=>True) hid hg rfl
  (fun w' A' st' H' k f hn _ hD=>⟨_,C,rfl,hn,hc.mono k f,fun o=>(hD o).2 trivial⟩) dst (.ptr id 0) (.pointer (some ⟨w.heap.size,0,none⟩))
  (fun w' A' st' H' k f hs hH hn _ hD=>Or.inl ⟨_,hH,⟨_,_,hs⟩,rfl⟩)
 exact ⟨_,A',h'⟩
theorem SimH.newRow {c:Ctx} {x:X} {a:Act} {w:World} {H:Nat→Value} {A:Nat→Nat→Prop} (h:SimH c x a w H A) (C:Array Value) (T z:Nat) (id:Nat) (xs:List V) (hz:0 < z) (hid:c.n0≤id) (hg:x.st id=.gone) (hc:RepE w A z xs C.toList)
  (hm:xs.length≤maxLen) (dst:Option Tmp) :
  ∃ H' A',SimH c (x.put dst (.row id xs.length) [(id,.row T z xs)]) (a.put dst (.slice (some ⟨w.heap.size,0,none⟩) xs.length xs.length)) (w.alloc (.cells C T)) H' A':=by
 have hl:=zdH hc
 have hbase:0≤w.heap.size:=Nat.zero_le _
 obtain ⟨A',h'⟩:=h.new C T id (.row T z xs) (.slice (some ⟨w.heap.size,0,none⟩) xs.length xs.length) (fun o=>xs.length * z≤o) hid hg rfl
  (fun w' A' st' H' k f hn _ hD=>⟨hz,C.toList,⟨hl,.inr ⟨w.heap.size,xs.length,C,rfl,hbase,hn,Nat.le_refl _,hm,by simpa using hl,List.take_of_length_le (by omega)⟩⟩,hc.keep k,fun g hgg=>by
   simp only [Value.ownBlock,Option.some.injEq] at hgg
   subst hgg
   exact ⟨fun o ho=>(hD o).2 ho,fun o ho hA=>by have:=(hD o).1 hA;omega⟩⟩) dst (.row id xs.length) (.slice (some ⟨w.heap.size,0,none⟩) xs.length xs.length)
  (fun w' A' st' H' k f hs hH hn hsz hD=>⟨T,z,xs,hs,Nat.le_refl _,by
   rw [List.take_length]
   by_cases hx:xs=[]
   ·subst hx;exact .nil _ _
   ·exact .list xs z _ 0 _ C.toList hx (hc.keep k) ⟨by omega,fun j u hu=>⟨by
     have:w'.cell? ⟨w.heap.size,j,none⟩=C[j]?:=by simp [World.cell?,hn]
     rw [Nat.zero_add,this];simpa using hu,fun hA=>by
     have h1:=(hD _).1 hA
     have h2:j < C.toList.length:=(List.getElem?_eq_some_iff.1 hu).1
     omega⟩⟩ (Nat.le_refl _) hm,fun _=>hH.symm⟩)
 exact ⟨_,A',h'⟩
theorem SimH.setBlk {c:Ctx} {x:X} {a:Act} {w:World} {H:Nat→Value} {A:Nat→Nat→Prop} (h:SimH c x a w H A) (id T b:Nat) (cs cs':List V) (C C':Array Value) (hst:x.st id=.blk T cs) (hH:H id=.pointer (some ⟨b,0,none⟩)) (hw:w.heap[b]?=some (.cells C T (0,0)))
  (hc:zaY w A x.st H cs' C'.toList) (dst:Option Tmp) (v:V) (xv:Value) (hv:RepT w A x.st H v xv):SimH c (x.put dst v [(id,.blk T cs')]) (a.put dst xv) (w.setRow b C') H A:=by
 have hA:∀ o,A b o:=by
  have h1:=h.ent id
  rw [hst] at h1
  obtain ⟨b',C'',h2,_,_,h3⟩:=h1
  rw [hH] at h2
  simp only [Value.pointer.injEq,Option.some.injEq,Addr.mk.injEq,and_true] at h2
  subst h2
  exact h3
 have hne:x.st id≠.gone:=by rw [hst];simp
 have hk:Keeps w A (w.setRow b C') A:=by
  refine ⟨by simp,fun b' o hb hA'=>?_,fun _ _ _ h=>h⟩
  exact World.cell?_of_block (a:=⟨b',o,none⟩) (setRow_other w b b' C' (fun e=>hA' (e ▸ hA o)))
 have hf:Foll x.st H (updE x.st id (.blk T cs')) H:=by
  refine ⟨fun i T' cs'' hi=>⟨rfl, ?_⟩,fun i T' z xs hi=>⟨[], ?_,fun _=>rfl⟩⟩
  ·by_cases h1:i=id
   ·subst h1;exact ⟨_,_,updE_same _ _ _⟩
   ·exact ⟨_,_,by rw [zau _ _ h1];exact hi⟩
  ·have h1:i≠id:=fun e=>by subst e;rw [hst] at hi;cases hi
   rw [zau _ _ h1];simpa using hi
 have hgone:∀ i,updE x.st id (.blk T cs') i≠.gone→x.st i≠.gone:=fun i hi=>by
  by_cases h1:i=id
  ·subst h1;exact hne
  ·rwa [zau _ _ h1] at hi
 refine h.go hk hf ?_ (fun i j hij hi hj b' hb=>h.dis i j hij (hgone i hi) (hgone j hj) b' hb) h.a0 (fun i b' hi hg hb hl=>h.lent i b' hi (hgone i hg) hb hl) (fun b' o hb=>by simpa using h.al b' o hb) (fun i b' hi hg hb=>h.loc i b' hi (hgone i hg) hb) ?_ dst v xv (hv.mono hk hf)
 ·intro i
  by_cases h1:i=id
  ·subst h1
   rw [updE_same,hH]
   exact ⟨b,C',rfl,setRow_heap w b C C' T _ hw,hc.mono hk hf,hA⟩
  ·rw [zau _ _ h1]
   by_cases hgo:x.st i=.gone
   ·rw [hgo];trivial
   ·refine (h.ent i).mono hk hf (fun b' hb=>⟨setRow_other w b b' C' ?_,fun _=>Iff.rfl⟩)
    intro e
    subst e
    exact h.dis i id h1 hgo hne _ hb (by rw [hH];rfl)
 ·refine ⟨h.ext.os,h.ext.tape,h.ext.output,by simpa using h.ext.size,fun b' hb hn=>?_⟩
  rw [setRow_other w b b' C' ?_]
  ·exact h.ext.block b' hb hn
  ·intro e
   subst e
   by_cases hid:id < c.n0
   ·exact hn id hid (h.lent id _ hid hne (by rw [hH];rfl) hb)
   ·have:=h.loc id b' (by omega) hne (by rw [hH];rfl)
    omega
theorem zhs {P:Program} {w:World} (base:Nat) (t ty e:TypeId) (i:TypeInfo) (z:Value) (size bytes:Nat) (ht:P.underlying t=some (.slice e)) (hi:P.info? e=some i) (hz:i.zero=some z)
  (hsize:i.size=size) (hby:i.bytes=bytes) (hzs:z.cells.size=size) (hsz:0 < size) (v:Value) (n:Nat) (xs:List Value) (hown:w.ownsRow base e size v n xs)
  (a:Addr) (m c:Nat) (news:List Value) (hm:0 < m) (hl:news.length=m * size) (hnews:∀ j u,news[j]?=some u→w.cell? (a.add j)=some u) (h1:∀ u∈news,u.oneCell'=true)
  (h63:n+m≤maxLen) (hbytes:(n+m) * bytes≤140737488355328) (hbase:base≤w.heap.size) :
  ∃ v' w',(Builtin.append_ #[t,t] ty #[v,.slice (some a) m c]).run P w=.ok v' w'∧w'.ownsRow base e size v' (n+m) (xs++news) ∧
   ((v'.ownBlock=v.ownBlock∧w.grownBy w' v.ownBlock∧w'.heap.size=w.heap.size)∨(v'.ownBlock=some w.heap.size∧w.grownBy w' none∧w.heap.size < w'.heap.size)):=by
 obtain ⟨v',w',hr,h2,h3,_⟩:=run_append_own (P:=P) w base t ty e i z size bytes ht hi hz hsize hby hzs hsz v n xs hown a m c news hl hnews h1 h63 hbytes hbase
 refine ⟨v',w',hr,h2, ?_⟩
 subst hsize
 subst hby
 have hbig:n+m≤9223372036854775807:=by simp only [maxLen] at h63;omega
 rcases hown.2 with ⟨rfl,rfl⟩ | ⟨g,cap,cur,rfl,hbg,hg,hnc,hcm,hcs,htake⟩
 ·have h:=run_append_nil (P:=P) w t ty e i z ht hi hz a m c news hl hnews hm (by omega) (by rw [Nat.zero_add] at hbytes;omega)
  rw [h] at hr
  cases hr
  exact .inr ⟨rfl,⟨rfl,rfl,rfl,by simp,fun k hk _=>Below.heap_alloc w.drew _ k hk⟩,by simp⟩
 ·by_cases hroom:n+m≤cap
  ·have h:=run_append_room (P:=P) w t ty e i ht hi g n cap cur hg a m c news hl hnews h1 hroom (by rw [hl,hcs,← Nat.add_mul];exact Nat.mul_le_mul_right _ hroom)
   rw [h] at hr
   cases hr
   exact .inl ⟨rfl,h3,by simp⟩
  ·have h:=run_append_grow (P:=P) w t ty e i z ht hi hz ⟨g,0,none⟩ n cap xs hown.1 (hown.cells rfl) a m c news hl hnews (by omega) (by omega) (growslice_fits (by omega) hbytes)
   rw [h] at hr
   cases hr
   exact .inr ⟨rfl,⟨rfl,rfl,rfl,by simp,fun k hk _=>Below.heap_alloc w.drew _ k hk⟩,by simp⟩
theorem zrg (B j:Nat):(⟨B,0,none⟩:Addr).add j=⟨B,j,none⟩:=by
 unfold Addr.add
 by_cases h:j=0<;>simp [h]
theorem ztp {v:Value} {g:Nat}:v.ownBlock=some g↔(∃ a n c,v=.slice (some a) n c∧a.block=g):=by
 cases v<;>simp [Value.ownBlock]
 rename_i a n c
 cases a<;>simp
theorem zhW {v:Value} {g:Nat} (h:v.ownBlock=some g):blockOf v=some g:=by
 obtain ⟨a,n,c,rfl,rfl⟩:=ztp.1 h
 rfl
theorem SimH.push {c:Ctx} {x:X} {a:Act} {w:World} {H:Nat→Value} {A:Nat→Nat→Prop} (h:SimH c x a w H A) (id T z:Nat) (xs ys:List V) (hst:x.st id=.row T z xs∨(x.st id=.gone∧xs=[]∧0 < z)) (hid:x.st id=.gone→c.n0≤id) (vs us:List Value) (hys:RepE w A z ys us) (hyn:ys≠[]) (v0 v':Value) (w':World)
  (hv0:(x.st id=.row T z xs∧v0=H id)∨(x.st id=.gone∧v0=.slice none 0 0)) (hvs:RepE w A z xs vs) (hown0:w.ownsRow 0 T z v0 xs.length vs)
  (hown:w'.ownsRow 0 T z v' (xs.length+ys.length) (vs++us))
  (htwo:(v'.ownBlock=v0.ownBlock∧w.grownBy w' v0.ownBlock∧w'.heap.size=w.heap.size)∨(v'.ownBlock=some w.heap.size∧w.grownBy w' none∧w.heap.size < w'.heap.size)) (dst:Option Tmp) :
  ∃ H' A',SimH c (x.put dst (.row id (xs.length+ys.length)) [(id,.row T z (xs++ys))]) (a.put dst v') w' H' A':=by
 have hz:0 < z:=by
  rcases hst with hst | hst
  ·have:=h.ent id;rw [hst] at this;exact this.1
  ·exact hst.2.2
 have hnel:0 < ys.length:=List.length_pos_iff.2 hyn
 obtain ⟨g',cap',cur',hv',hg0,hg1,hg2,hg3,hg4,hg5⟩:∃ g cap cur,v'=.slice (some ⟨g,0,none⟩) (xs.length+ys.length) cap∧0≤g∧w'.heap[g]?=some (.cells cur T (0,0))∧xs.length+ys.length≤cap∧cap≤maxLen∧cur.size=cap * z∧cur.toList.take ((xs.length+ys.length) * z)=vs++us:=by
  rcases hown.2 with ⟨_,h0⟩ | h0
  ·omega
  ·exact h0
 have hob':v'.ownBlock=some g':=by rw [hv'];rfl
 have hlv:=zdH hvs
 have hlu:=zdH hys
 have hA0:∀ g,v0.ownBlock=some g→(x.st id=.row T z xs∧v0=H id)∧(∀ o,xs.length * z≤o→A g o)∧∀ o,o < xs.length * z→¬ A g o:=by
  intro g hg
  rcases hv0 with ⟨h1,h2⟩ | ⟨h1,h2⟩
  ·have h3:=h.ent id
   rw [h1,← h2] at h3
   exact ⟨⟨h1,h2⟩,h3.2.choose_spec.2.2 g hg⟩
  ·rw [h2] at hg;simp [Value.ownBlock] at hg
 have hlt':g' < w'.heap.size:=(Array.getElem?_eq_some_iff.1 hg1).1
 have hplace:(x.st id=.row T z xs∧blockOf (H id)=some g')∨c.w0.heap.size≤g':=by
  rcases htwo with ⟨h1,_,_⟩ | ⟨h1,_,_⟩
  ·rw [hob'] at h1
   obtain ⟨⟨h3,h4⟩,_⟩:=hA0 _ h1.symm
   exact .inl ⟨h3,by rw [← h4];exact zhW h1.symm⟩
  ·rw [hob'] at h1
   simp only [Option.some.injEq] at h1
   have:=h.ext.size
   exact .inr (by omega)
 have hgb:(∀ i,i < c.n0→blockOf (c.H0 i)≠some g')→c.w0.heap.size≤g':=by
  intro hn
  rcases hplace with ⟨h3,hb⟩ | h3
  ·rcases Nat.lt_or_ge id c.n0 with hi | hi
   ·rcases Nat.lt_or_ge g' c.w0.heap.size with hl | hl
    ·exact absurd (h.lent id g' hi (by rw [h3];simp) hb hl) (hn id hi)
    ·exact hl
   ·exact h.loc id g' hi (by rw [h3];simp) hb
  ·exact h3
 have hold:∀ o,¬ A g' o→g' < w.heap.size→o < xs.length * z∧w'.cell? ⟨g',o,none⟩=w.cell? ⟨g',o,none⟩:=by
  intro o hA' hlt
  rcases htwo with ⟨h1,h2,h3⟩ | ⟨h1,h2,h3⟩
  ·rw [hob'] at h1
   obtain ⟨_,h4,h5⟩:=hA0 g' h1.symm
   have ho:o < xs.length * z:=Nat.lt_of_not_le (fun h6=>hA' (h4 o h6))
   refine ⟨ho, ?_⟩
   have hov:o < vs.length:=by omega
   have c1:=hown0.cells h1.symm o _ (List.getElem?_eq_getElem hov)
   have c2:=hown.cells hob' o vs[o] (by rw [List.getElem?_append_left hov];exact List.getElem?_eq_getElem hov)
   rw [zrg] at c1 c2
   rw [c1,c2]
  ·rw [hob'] at h1
   simp only [Option.some.injEq] at h1
   omega
 have hother:∀ b,b < w.heap.size→b≠g'→(∀ g,v0.ownBlock=some g→b≠g∨v'.ownBlock≠v0.ownBlock)→w'.heap[b]?=w.heap[b]?:=by
  intro b hb hbg hv
  rcases htwo with ⟨h1,h2,h3⟩ | ⟨h1,h2,h3⟩
  ·refine h2.block b hb (fun e=>?_)
   rw [← h1,hob'] at e
   simp only [Option.some.injEq] at e
   exact hbg e
  ·exact h2.block b hb (by simp)
 have hother':∀ b,b < w.heap.size→b≠g'→w'.heap[b]?=w.heap[b]?:=fun b hb hbg=>hother b hb hbg (fun g hg=>by
  by_cases e:b=g
  ·refine .inr (fun e2=>?_)
   rw [hg,hob'] at e2
   simp only [Option.some.injEq] at e2
   exact hbg (e.trans e2.symm)
  ·exact .inl e)
 have hk:Keeps w A w' (fun b o=>if b=g' then (xs.length+ys.length) * z≤o else A b o):=by
  refine ⟨by rcases htwo with h1 | h1<;>omega,fun b o hb hA'=>?_,fun b o hb hA' h2=>?_⟩
  ·by_cases e:b=g'
   ·subst e;exact (hold o hA' hb).2
   ·exact World.cell?_of_block (a:=⟨b,o,none⟩) (hother' b hb e)
  ·by_cases e:b=g'
   ·subst e
    rw [if_pos rfl,Nat.add_mul] at h2
    have:=(hold o hA' hb).1
    omega
   ·rw [if_neg e] at h2;exact hA' h2
 have hf:Foll x.st H (updE x.st id (.row T z (xs++ys))) (updH H id v'):=by
  refine ⟨fun i T' cs hi=>?_,fun i T' z' xs' hi=>?_⟩
  ·have h1:i≠id:=fun e=>by
    subst e
    rcases hst with h2 | h2
    ·rw [h2] at hi;cases hi
    ·rw [h2.1] at hi;cases hi
   exact ⟨if_neg h1,_,_,by rw [zau _ _ h1];exact hi⟩
  ·by_cases h1:i=id
   ·subst h1
    rcases hst with h2 | h2
    ·rw [h2] at hi
     cases hi
     exact ⟨ys,updE_same _ _ _,fun e=>absurd e hyn⟩
    ·rw [h2.1] at hi;cases hi
   ·exact ⟨[],by rw [zau _ _ h1];simpa using hi,fun _=>if_neg h1⟩
 have hgone:∀ i,i≠id→updE x.st id (.row T z (xs++ys)) i≠.gone→x.st i≠.gone:=fun i h1 hi=>by rwa [zau _ _ h1] at hi
 have hfar:∀ i,i≠id→x.st i≠.gone→∀ b,blockOf (H i)=some b→b < w.heap.size∧b≠g':=by
  intro i h1 hi b hb
  have hlt:=zk2 (h.ent i) hi hb
  refine ⟨hlt,fun e=>?_⟩
  subst e
  rcases htwo with ⟨h2,_,_⟩ | ⟨h2,_,_⟩
  ·rw [hob'] at h2
   obtain ⟨⟨h3,h4⟩,_⟩:=hA0 _ h2.symm
   rw [h4] at h2
   exact h.dis i id h1 hi (by rw [h3];simp) _ hb (zhW h2.symm)
  ·rw [hob'] at h2
   simp only [Option.some.injEq] at h2
   omega
 have hbl':blockOf v'=some g':=zhW hob'
 refine ⟨_,_,h.go hk hf ?_ ?_ ?_ ?_ ?_ ?_ ?_ dst _ v' ?_⟩
 ·intro i
  by_cases h1:i=id
  ·subst h1
   rw [updE_same,show updH H i v' i=v' from if_pos rfl]
   refine ⟨hz,vs++us,by rw [List.length_append];exact hown,zhT (hvs.keep hk) (hys.keep hk),fun g hg=>?_⟩
   rw [hob'] at hg
   simp only [Option.some.injEq] at hg
   subst hg
   rw [List.length_append]
   exact ⟨fun o ho=>by simpa using ho,fun o ho hA'=>by simp at hA';omega⟩
  ·rw [zau _ _ h1,show updH H id v' i=H i from if_neg h1]
   by_cases hgo:x.st i=.gone
   ·rw [hgo];trivial
   ·refine (h.ent i).mono hk hf (fun b hb=>?_)
    obtain ⟨h2,h3⟩:=hfar i h1 hgo b hb
    exact ⟨hother' b h2 h3,fun o=>by simp [h3]⟩
 ·intro i j hij hi hj b hb
  by_cases h1:i=id
  ·subst h1
   rw [show updH H i v' i=v' from if_pos rfl,hbl'] at hb
   simp only [Option.some.injEq] at hb
   subst hb
   rw [show updH H i v' j=H j from if_neg (Ne.symm hij)]
   intro hc
   exact (hfar j (Ne.symm hij) (hgone j (Ne.symm hij) hj) _ hc).2 rfl
  ·rw [show updH H id v' i=H i from if_neg h1] at hb
   by_cases h2:j=id
   ·subst h2
    rw [show updH H j v' j=v' from if_pos rfl,hbl']
    intro hc
    simp only [Option.some.injEq] at hc
    subst hc
    exact (hfar i h1 (hgone i h1 hi) _ hb).2 rfl
   ·rw [show updH H id v' j=H j from if_neg h2]
    exact h.dis i j hij (hgone i h1 hi) (hgone j h2 hj) b hb
 ·intro b o hb hn
  have h1:=h.a00 b o hb
  rw [if_neg (fun e=>by subst e;have:=hgb hn;omega)]
  exact h.a0 b o hb hn
 ·intro i b hi hgo hb hl
  by_cases h1:i=id
  ·subst h1
   rw [show updH H i v' i=v' from if_pos rfl,hbl'] at hb
   simp only [Option.some.injEq] at hb
   subst hb
   rcases hplace with ⟨h3,hb⟩ | h3
   ·exact h.lent i _ hi (by rw [h3];simp) hb hl
   ·omega
  ·rw [show updH H id v' i=H i from if_neg h1] at hb
   exact h.lent i b hi (hgone i h1 hgo) hb hl
 ·intro b o hb
  by_cases e:b=g'
  ·subst e;exact hlt'
  ·rw [if_neg e] at hb
   exact Nat.lt_of_lt_of_le (h.al b o hb) hk.size
 ·intro i b hi hgo hb
  by_cases h1:i=id
  ·subst h1
   rw [show updH H i v' i=v' from if_pos rfl,hbl'] at hb
   simp only [Option.some.injEq] at hb
   subst hb
   rcases hplace with ⟨h3,hb⟩ | h3
   ·exact h.loc i _ hi (by rw [h3];simp) hb
   ·exact h3
  ·rw [show updH H id v' i=H i from if_neg h1] at hb
   exact h.loc i b hi (hgone i h1 hgo) hb
 ·have hgb:w'.os=w.os∧w'.tape=w.tape∧w'.output=w.output:=by
   rcases htwo with ⟨_,h2,_⟩ | ⟨_,h2,_⟩<;>exact ⟨h2.os,h2.tape,h2.output⟩
  exact ⟨hgb.1.trans h.ext.os,hgb.2.1.trans h.ext.tape,hgb.2.2.trans h.ext.output,Nat.le_trans h.ext.size hk.size,fun b hb hn=>(hother' b (Nat.lt_of_lt_of_le hb h.ext.size) (fun e=>by subst e;have:=hgb hn;omega)).trans (h.ext.block b hb hn)⟩
 ·refine ⟨T,z,xs++ys,updE_same _ _ _,by simp, ?_,fun _=>(if_pos rfl).symm⟩
  have hlen:(xs++ys).length=xs.length+ys.length:=List.length_append
  have hrep:RepE w' (fun b o=>if b=g' then (xs.length+ys.length) * z≤o else A b o) z (xs++ys) (vs++us):=zhT (hvs.keep hk) (hys.keep hk)
  have hres:=RepV.list (w:=w') (xs++ys) z g' 0 cap' (vs++us) (by simp [hyn]) hrep ⟨hlt',fun j u hu=>⟨?_,fun hA'=>?_⟩⟩ (by rw [hlen];exact hg2) hg3
  ·rw [List.take_of_length_le (by omega),hv']
   rw [hlen] at hres
   exact hres
  ·have:=hown.cells hob' j u hu
   rwa [zrg,← Nat.zero_add j] at this
  ·simp only [if_true,Nat.zero_add] at hA'
   have h2:j < (vs++us).length:=(List.getElem?_eq_some_iff.1 hu).1
   rw [List.length_append,hlv,hlu,← Nat.add_mul] at h2
   omega
end Vm
