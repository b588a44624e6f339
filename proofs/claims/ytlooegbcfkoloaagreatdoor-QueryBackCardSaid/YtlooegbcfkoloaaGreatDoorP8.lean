/- Part of the proof: see the last text. -/
import Derived.Test.YtlooegbcfkoloaaGreatDoorP7
set_option maxRecDepth 20000
set_option linter.unusedVariables false
set_option linter.unusedSimpArgs false
namespace Vm
open Go Go.RowKit
def Op1 (P:Program) (c:Ctx) (x:X) (a:Act) (w:World) (o:Oper) (v:V) (U:Upds):Prop :=
 ∃ r xv w' H' A',(execOp a.eval o).run P w=.ok r w'∧(r=.value xv∨(r=.skip∧xv=Go.undef))∧SimH c (x.put o.dst v U) (a.put o.dst xv) w' H' A'
section
variable {P:Program} {c:Ctx} {x:X} {a:Act} {w:World} {H:Nat→Value} {A:Nat→Nat→Prop}
theorem zbO (h:SimH c x a w H A) {o:Oper} {v:V} {s:Sem Value} (he:execOp a.eval o=(do pure (.value (← s)):Sem Next)) (hs:∃ xv,s.run P w=.ok xv w∧RepT w A x.st H v xv):Op1 P c x a w o v []:=by
 obtain ⟨xv,h1,h2⟩:=hs
 exact ⟨.value xv,xv,w,H,A,by rw [he];simp [h1],.inl rfl,h.putv o.dst v xv h2⟩
theorem zi9 {o:Oper} {v:V} {U:Upds} {s:Sem Value} (he:execOp a.eval o=(do pure (.value (← s)):Sem Next)) (hs:Leaves P c x a s w o.dst v U):Op1 P c x a w o v U:=by
 obtain ⟨xv,w',H',A',h1,h2⟩:=hs
 exact ⟨.value xv,xv,w',H',A',by rw [he];simp [h1],.inl rfl,h2⟩
theorem one1_some {o:Option V} {v:V} {U:Upds} (h:one1 o=some (v,U)):o=some v∧U=[]:=by
 unfold one1 at h
 split at h
 ·cases h;exact ⟨rfl,rfl⟩
 ·cases h
theorem zuo {pl:List (Nat×Nat)} {N:Nat} {G:Nat→V} {g:Operand→V} {e:O→V} (hg:∀ o y,compO N G o=some y→g o=e y):∀ (ps:List (Nat×Operand)) (q:List (Nat×Nat×O)) (cs r:List V),zf5 N G pl ps=some q →
  fillM cs (q.map fun p=>(p.1,p.2.1,e p.2.2))=some r→zr0 pl cs (ps.map fun p=>(p.1,g p.2))=some r
 | [],q,cs,r,h1,h2=>by cases h1;exact h2
 | (i,o) :: ps,q,cs,r,h1,h2=>by
  simp only [zf5] at h1
  split at h1
  ·rename_i off sz y q' h3 h4 h5
   cases h1
   simp only [List.map_cons,fillM] at h2
   simp only [List.map_cons,zr0,h3]
   rw [hg _ _ h4]
   split at h2
   ·rename_i hc
    rw [if_pos hc]
    exact zuo hg ps q' _ r h5 h2
   ·cases h2
  ·cases h1
theorem zmN {w:World} {A:Nat→Nat→Prop} {st:Nat→Ent} {H:Nat→Value}:∀ {xs:List V} {vs:List Value},zaY w A st H xs vs→(∀ v∈xs,v.simple=true)→zcR w A st H xs vs
 | [],_,h,_=>h
 | x :: xs,_,⟨u,us,h1,h2,h3⟩,hs=>by
  refine ⟨u,us,h1, ?_,zmN h3 (fun v hv=>hs v (by simp [hv]))⟩
  have:=hs x (by simp)
  cases x<;>first | exact h2 | (simp [V.simple] at this;done)
def gv (N:Nat) (G:Nat→V) (e:Nat→V) (o:Operand):V:=match compO N G o with | some y=>y.ev e | none=>.any
theorem zjh {N:Nat} {G:Nat→V} {pl:List (Nat×Nat)}:∀ (ps:List (Nat×Operand)) (q:List (Nat×Nat×O)),zf5 N G pl ps=some q→∀ p∈ps,∃ y,compO N G p.2=some y
 | [],_,_,p,hp=>by simp at hp
 | (i,o) :: ps,q,h,p,hp=>by
  simp only [zf5] at h
  split at h
  ·rename_i off sz y q' h3 h4 h5
   rcases List.mem_cons.1 hp with rfl | hp
   ·exact ⟨y,h4⟩
   ·exact zjh ps q' h5 p hp
  ·cases h
theorem build_ok (h:SimH c x a w H A) {T:TypeId} {ps:Array (Nat×Operand)} {cs r:List V} {pl:List (Nat×Nat)} {q:List (Nat×Nat×O)} (hz:zmh P T=some cs) (hpl:zhV P T=some pl) (hq:zf5 c.N c.G pl ps.toList=some q)
  (hf:fillM cs (q.map fun p=>(p.1,p.2.1,res x.st (p.2.2.ev x.env)))=some r):∃ zv,(Instr.build T (ps.map fun (i,y)=>(i,a.eval y))).run P w=.ok zv w∧RepT w A x.st H (.agg r) zv:=by
 have h1:=zuo (pl:=pl) (g:=fun o=>res x.st (gv c.N c.G x.env o)) (e:=fun y=>res x.st (y.ev x.env)) (fun o y ho=>by simp [gv,ho]) ps.toList q cs r hq hf
 refine zo5 (parts:=ps.toList.map fun p=>(p.1,res x.st (gv c.N c.G x.env p.2))) ?_ (fun k p qq hk hqq=>?_) ?_
 ·simp [Function.comp_def]
 ·simp only [List.getElem?_map,Option.map_eq_some_iff,Array.toList_map] at hk hqq
  obtain ⟨p0,hp0,rfl⟩:=hk
  obtain ⟨q0,hq0,rfl⟩:=hqq
  rw [hp0] at hq0
  cases hq0
  obtain ⟨y,hy⟩:=zjh _ _ hq p0 (List.mem_of_getElem? hp0)
  have:=zcp (zaf h hy)
  simpa [gv,hy] using this
 ·unfold zmF
  rw [hz,hpl]
  simp only [h1]
theorem zup {pl:List (Nat×Nat)} {N:Nat} {G:Nat→V} {g:Operand→V} {e:O→V} (hg:∀ o y,compO N G o=some y→g o=e y):∀ (ps:List (Nat×Operand)) (q:List (Nat×Nat×O)) (cs r:List V),zf5 N G pl ps=some q →
  fillK cs (q.map fun p=>(p.1,p.2.1,e p.2.2))=some r→zl6 pl cs (ps.map fun p=>(p.1,g p.2))=some r
 | [],q,cs,r,h1,h2=>by cases h1;exact h2
 | (i,o) :: ps,q,cs,r,h1,h2=>by
  simp only [zf5] at h1
  split at h1
  ·rename_i off sz y q' h3 h4 h5
   cases h1
   simp only [List.map_cons,fillK] at h2
   simp only [List.map_cons,zl6,h3]
   rw [hg _ _ h4]
   split at h2
   ·rename_i hc
    rw [if_pos hc]
    exact zup hg ps q' _ r h5 h2
   ·cases h2
  ·cases h1
theorem zuW (h:SimH c x a w H A) {T:TypeId} {ps:Array (Nat×Operand)} {cs r:List V} {pl:List (Nat×Nat)} {q:List (Nat×Nat×O)} (hz:zmh P T=some cs) (hpl:zhV P T=some pl) (hq:zf5 c.N c.G pl ps.toList=some q)
  (hf:fillK cs (q.map fun p=>(p.1,p.2.1,p.2.2.ev x.env))=some r):∃ zv,(Instr.build T (ps.map fun (i,y)=>(i,a.eval y))).run P w=.ok zv w∧RepT w A x.st H (.ta r) zv:=by
 have h1:=zup (pl:=pl) (g:=fun o=>gv c.N c.G x.env o) (e:=fun y=>y.ev x.env) (fun o y ho=>by simp [gv,ho]) ps.toList q cs r hq hf
 refine znP (parts:=ps.toList.map fun p=>(p.1,gv c.N c.G x.env p.2)) hz hpl ?_ (fun k p qq hk hqq=>?_) h1
 ·simp [Function.comp_def]
 ·simp only [List.getElem?_map,Option.map_eq_some_iff,Array.toList_map] at hk hqq
  obtain ⟨p0,hp0,rfl⟩:=hk
  obtain ⟨q0,hq0,rfl⟩:=hqq
  rw [hp0] at hq0
  cases hq0
  obtain ⟨y,hy⟩:=zjh _ _ hq p0 (List.mem_of_getElem? hp0)
  have:=zaf h hy
  simpa [gv,hy] using this
theorem zuX (h:SimH c x a w H A) {slot T len el z b:Nat} (hid:c.n0≤slot) {ps:Array (Nat×Operand)} {xs:List O} (hr:rowT P T=some (el,z,b)) (hx:zfH c.N c.G (ps.toList.map (·.2))=some xs) (hi:ps.toList.map (·.1)=List.range len)
  (hg:(x.st slot).isGone=true) (hall:∀ p∈xs.map (fun (y:O)=>norm1 (res x.st (y.ev x.env))),p.data=true∧p.storable=true∧p.size=z) (hb:xs.length * z≤16777216) (dst:Option Tmp) :
  Leaves P c x a (Instr.buildSlice T len (ps.map fun (i,y)=>(i,a.eval y))) w dst (.row slot xs.length) [(slot,.row el z (xs.map fun (y:O)=>norm1 (res x.st (y.ev x.env))))]:=by
 have hlx:∀ {os:List Operand} {ys:List O},zfH c.N c.G os=some ys→ys.length=os.length:=by
  intro os
  induction os with
  | nil=>intro ys h;cases h;rfl
  | cons o os ih =>
   intro ys h
   simp only [zfH] at h
   split at h
   ·cases h;simp [ih (by assumption)]
   ·cases h
 have hxl:xs.length=len:=by
  have h1:=hlx hx
  have h2:=congrArg List.length hi
  simp at h1 h2
  omega
 have hrep:=zer h hx
 have hlz:(List.range len).length=xs.length:=by simp [hxl]
 have hm:((List.range len).zip (xs.map fun (y:O)=>norm1 (res x.st (y.ev x.env)))).map (·.2)=xs.map fun (y:O)=>norm1 (res x.st (y.ev x.env)):=by
  rw [List.map_snd_zip];simp [hxl]
 have hm1:((List.range len).zip (xs.map fun (y:O)=>norm1 (res x.st (y.ev x.env)))).map (·.1)=List.range len:=by
  rw [List.map_fst_zip];simp [hxl]
 have key:=zjA (P:=P) h hid (t:=T) (len:=len) (v:=.row slot len) (U:=[(slot,.row el z (xs.map fun (y:O)=>norm1 (res x.st (y.ev x.env))))])
  (parts:=(List.range len).zip (xs.map fun (y:O)=>norm1 (res x.st (y.ev x.env)))) (vparts:=ps.map fun (i,y)=>(i,a.eval y)) (by rw [hm1,← hi];simp [Function.comp_def]) (fun k p q hk hq=>by
   obtain ⟨_,hp2⟩:=List.getElem?_zip_eq_some.1 hk
   simp only [List.getElem?_map,Option.map_eq_some_iff] at hp2
   obtain ⟨y,hy,hy2⟩:=hp2
   obtain ⟨u,h3,h4⟩:=zfD hrep k (y.ev x.env) (by rw [List.getElem?_map,hy];rfl)
   simp only [Array.toList_map,List.getElem?_map,Option.map_eq_some_iff] at hq h3
   obtain ⟨q0,hq0,rfl⟩:=hq
   obtain ⟨u0,⟨q1,hq1,rfl⟩,rfl⟩:=h3
   rw [hq0] at hq1
   cases hq1
   rw [← hy2]
   exact zep (zcp h4)) dst (by
   unfold zfO
   rw [hr]
   simp only []
   rw [if_pos,hm]
   refine ⟨hg,hm1,fun p hp=>?_,by rw [← hxl];exact hb⟩
   have:p.2∈xs.map (fun (y:O)=>norm1 (res x.st (y.ev x.env))):=by rw [← hm];exact List.mem_map_of_mem hp
   exact hall _ this)
 rw [hxl]
 exact key
theorem zqO {ag:Bool} {n slot:Nat} {y:O} {v:V} {U:Upds} {T:TypeId} (hT:zes P T=some (ag,n)) (hs:semM slot (.load ag n y) x.env x.st=some (v,U)):ziW P T (y.ev x.env) x.st=some v∧U=[]:=by
 unfold ziW
 rw [hT]
 cases ag
 ·simp only [semM] at hs
  dsimp only
  generalize y.ev x.env=yv at hs
  cases yv<;>first | (cases hs;done) | skip
  ·exact one1_some hs
  ·rename_i id off
   dsimp only at hs
   dsimp only
   generalize x.st id=en at hs
   cases en<;>first | (cases hs;done) | exact one1_some hs
 ·simp only [semM] at hs
  dsimp only
  generalize y.ev x.env=yv at hs
  cases yv<;>first | (cases hs;done) | skip
  ·dsimp only at hs
   dsimp only
   split at hs
   ·rename_i h2;rw [if_pos h2];cases hs;exact ⟨rfl,rfl⟩
   ·rename_i h2
    rw [if_neg h2]
    split at hs
    ·rename_i h3;rw [if_pos h3];cases hs;exact ⟨rfl,rfl⟩
    ·cases hs
  ·rename_i id off
   dsimp only at hs
   dsimp only
   generalize x.st id=en at hs
   cases en<;>first | (cases hs;done) | skip
   dsimp only at hs
   dsimp only
   split at hs
   ·rename_i h2;rw [if_pos h2];cases hs;exact ⟨rfl,rfl⟩
   ·cases hs
theorem zsH {ag:Bool} {n slot:Nat} {y z:O} {v:V} {U:Upds} {T:TypeId} {k:Nat} (hk:stN k=n) (hT:zes P T=some (ag,n)) (hs:semM slot (.store k y z) x.env x.st=some (v,U)):zjN P T (y.ev x.env) (z.ev x.env) x.st=some U∧v=.undef:=by
 unfold zjN
 simp only [semM] at hs
 split at hs
 ·rename_i hy
  split at hs
  ·rename_i h1
   split at hs
   ·rename_i h2
    cases hs
    rw [hk] at h2 ⊢
    simp only [hT,hy,h1,if_pos h2,and_self]
   ·cases hs
  ·cases hs
 ·cases hs
theorem zr9 {T:TypeId} (h:zpK P T=true):zgD P T=false:=by
 unfold zpK at h
 unfold zgD
 split at h
 ·rename_i hu;rw [hu]
 ·cases h
theorem zu7 {op:BinOp} {T:TypeId} {slot:Nat} {y z:O} {v:V} {U:Upds} (hs:semM slot (.arith op (zpK P T || valT P T) (zgD P T || valT P T) ((eszT P T).isSome || zrU P T) y z) x.env x.st=some (v,U)):zqd P op T (y.ev x.env) (z.ev x.env)=some v∧U=[]:=by
 simp only [semM] at hs
 unfold zqd
 split at hs
 ·rename_i h1 h2
  simp only [h1,h2]
  split at hs
  ·rename_i h3;rw [if_pos h3];exact one1_some hs
  ·cases hs
 ·rename_i h1 h2
  simp only [h1,h2]
  exact one1_some hs
 ·rename_i h1 h2
  simp only [h1,h2]
  split at hs
  ·rename_i h3
   have h4:zpK P T=true:=by
    simp only [Bool.or_eq_true,Bool.or_eq_false_iff] at h3
    rcases h3.1 with h | h
    ·exact h
    ·rw [h3.2.2] at h;cases h
   rw [if_pos h4]
   split at hs<;>first | (cases hs;exact ⟨rfl,rfl⟩) | cases hs
  ·cases hs
 ·rename_i h1 h2
  simp only [h1,h2]
  split at hs
  ·rename_i h3
   have h4:(eszT P T).isSome=true:=by
    rcases Bool.or_eq_true_iff.1 h3.1 with h | h
    ·exact h
    ·obtain ⟨ms,hu,_⟩:=zl2 h
     have:zgD P T=true:=by unfold zgD;rw [hu]
     rw [this] at h3
     cases h3.2
   rw [if_pos h4]
   split at hs<;>first | (cases hs;exact ⟨rfl,rfl⟩) | cases hs
  ·cases hs
 ·rename_i h1 h2
  simp only [h1,h2]
  split at hs
  ·rename_i h3
   have h4:zgD P T=true:=by
    simp only [Bool.or_eq_true,Bool.or_eq_false_iff] at h3
    rcases h3.1 with h | h
    ·exact h
    ·rw [h3.2.2] at h;cases h
   rw [if_pos h4]
   split at hs<;>first | (cases hs;exact ⟨rfl,rfl⟩) | cases hs
  ·cases hs
 ·rename_i h1 h2
  simp only [h1,h2]
  split at hs
  ·rename_i h3
   have h4:zrU P T=true:=by
    rcases Bool.or_eq_true_iff.1 h3.2 with h | h
    ·have h5:zgD P T=true:=by
      have h6:=h3.1
      simp only [Bool.or_eq_true,Bool.or_eq_false_iff] at h6
      rcases h6.1 with h' | h'
      ·exact h'
      ·rw [h6.2.2] at h';cases h'
     unfold eszT at h
     unfold zgD at h5
     split at h
     ·rename_i hu;rw [hu] at h5;cases h5
     ·cases h
    ·exact h
   rw [if_pos h4]
   split at hs<;>first | (cases hs;exact ⟨rfl,rfl⟩) | cases hs
  ·cases hs
 ·rename_i h1 h2
  simp only [h1,h2]
  split at hs
  ·rename_i h3
   have h4:valT P T=true:=by
    simp only [Bool.or_eq_true] at h3
    rcases h3.1 with h | h
    ·rcases h3.2 with h' | h'
     ·rw [zr9 h] at h';cases h'
     ·exact h'
    ·exact h
   rw [if_pos h4]
   split at hs<;>first | (cases hs;rename_i hq;rw [hq];exact ⟨rfl,rfl⟩) | (cases hs;simp_all;done) | cases hs
  ·cases hs
 ·cases hs
theorem appT_eq {slot:Nat} {T el z b:Nat} {s y:O} {v:V} {U:Upds} (hr:rowT P T=some (el,z,b)) (hs:semM slot (.app el z b s y) x.env x.st=some (v,U)):zie P slot T (s.ev x.env) (norm0 (res x.st (y.ev x.env))) x.st=some (v,U):=by
 unfold zie
 simp only [semM] at hs
 split at hs
 ·rename_i h1 h2
  simp only [hr,h1,h2]
  split at hs
  ·rename_i h3;simp only [h3];exact hs
  ·cases hs
 ·rename_i h1 h2
  simp only [hr,h1,h2]
  exact hs
 ·cases hs
end
end Vm
