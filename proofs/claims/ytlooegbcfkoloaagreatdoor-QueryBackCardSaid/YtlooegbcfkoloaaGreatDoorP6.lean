/- Part of the proof: see the last text. -/
import Derived.Test.YtlooegbcfkoloaaGreatDoorP5
set_option maxRecDepth 20000
set_option linter.unusedVariables false
set_option linter.unusedSimpArgs false
namespace Vm
open Go Go.RowKit
def catL:List (Option (List V))→Option (List V)
 | []=>some []
 | some x :: r=>match catL r with | some y=>some (x++y) | none=>none
 | none :: _=>none
def zjI (P:Program):Nat→TypeId→Option (List V)
 | 0,_=>none
 | d+1,t=>match P.underlying t with
  | some .bool=>some [.bool false]
  | some (.int k)=>some [.int k 0]
  | some .string=>some [.str []]
  | some (.slice _)=>some [.nils]
  | some (.pointer _)=>some [.nilp]
  | some (.interface _)=>some [.niface]
  | some (.struct fs)=>catL (fs.toList.map fun f=>zjI P d f.type)
  | some (.array n e)=>catL (List.replicate n (zjI P d e))
  | _=>none
def zqt:V→Value→Bool
 | .bool b,.bool c=>b == c
 | .int k n,.int k' m=>decide (k=k') && decide (n=m)
 | .str [],.string s=>s.data.size == 0
 | .nils,.slice none 0 0=>true
 | .nilp,.pointer none=>true
 | .niface,.nilIface=>true
 | _,_=>false
def zkF:List V→List Value→Bool
 | [],[]=>true
 | c :: cs,v :: vs=>zqt c v && zkF cs vs
 | _,_=>false
def zmh (P:Program) (t:TypeId):Option (List V) :=
 match zjI P 12 t,P.info? t with
 | some cs,some i=>match i.zero with
  | some z=>if zkF cs z.cells.toList=true then some cs else none
  | none=>none
 | _,_=>none
theorem zlU {w:World} {A:Nat→Nat→Prop} {c:V} {v:Value} (h:zqt c v=true):RepV w A c v∧c.one=true:=by
 unfold zqt at h
 split at h
 ·simp at h;subst h;exact ⟨.bool _,rfl⟩
 ·simp at h;obtain ⟨rfl,rfl⟩:=h;exact ⟨.int _ _,rfl⟩
 ·rename_i s
  refine ⟨?_,rfl⟩
  have h1:s=Lx.bs []:=Lx.ls_inj (by rw [Lx.zcn];exact List.eq_nil_of_length_eq_zero (by simpa [Lx.ls] using h))
  rw [h1];exact .str []
 ·exact ⟨.nils,rfl⟩
 ·exact ⟨.nilp,rfl⟩
 ·exact ⟨.niface,rfl⟩
 ·cases h
theorem zfR {w:World} {A:Nat→Nat→Prop}:∀ {cs:List V} {vs:List Value},zkF cs vs=true→RepL w A cs vs∧cs.all V.one=true
 | [],[],_=>⟨.nil,rfl⟩
 | [],_ :: _,h=>by cases h
 | _ :: _,[],h=>by cases h
 | c :: cs,v :: vs,h=>by
  simp only [zkF,Bool.and_eq_true] at h
  obtain ⟨h1,h2⟩:=zlU (w:=w) (A:=A) h.1
  obtain ⟨h3,h4⟩:=zfR (w:=w) (A:=A) h.2
  exact ⟨.cons _ _ _ _ h1 h3,by simp [h2,h4]⟩
theorem ziK {P:Program} {t:TypeId} {cs:List V} (h:zmh P t=some cs):∃ i z,P.info? t=some i∧i.zero=some z∧(∀ w A,RepL w A cs z.cells.toList)∧cs.all V.one=true:=by
 unfold zmh at h
 split at h
 ·rename_i cs' i h1 h2
  split at h
  ·rename_i z hz
   split at h
   ·rename_i hk
    cases h
    exact ⟨i,z,h2,hz,fun w A=>(zfR hk).1,(zfR (w:=default) (A:=fun _ _=>True) hk).2⟩
   ·cases h
  ·cases h
 ·cases h
def Ent.isGone:Ent→Bool | .gone=>true | _=>false
theorem isGone_spec {e:Ent} (h:e.isGone=true):e=.gone:=by cases e<;>first | rfl | cases h
def Leaves (P:Program) (c:Ctx) (x:X) (a:Act) (s:Sem Value) (w:World) (dst:Option Tmp) (v:V) (U:Upds):Prop :=
 ∃ xv w' H' A',s.run P w=.ok xv w'∧SimH c (x.put dst v U) (a.put dst xv) w' H' A'
def zmG (P:Program) (slot:Nat) (t:TypeId) (st:Nat→Ent):Option (V×Upds) :=
 match zmh P t with
 | some cs=>if (st slot).isGone=true then some (.ptr slot 0,[(slot,.blk t cs)]) else none
 | none=>none
theorem zo6 {P:Program} {c:Ctx} {x:X} {a:Act} {w:World} {H:Nat→Value} {A:Nat→Nat→Prop} (h:SimH c x a w H A) {slot:Nat} (hid:c.n0≤slot) {t:TypeId} {v:V} {U:Upds} (dst:Option Tmp) (hs:zmG P slot t x.st=some (v,U)) :
  Leaves P c x a (Instr.alloc t true (.tuple #[])) w dst v U:=by
 unfold zmG at hs
 split at hs
 ·rename_i cs hz
  split at hs
  ·rename_i hg
   cases hs
   obtain ⟨i,z,hi,hz,hr,_⟩:=ziK hz
   obtain ⟨H',A',h'⟩:=h.newBlk z.cells t slot cs hid (isGone_spec hg) (zjQ (hr w A)) dst
   exact ⟨_,_,H',A',by simp [Instr.alloc,zeroValue,typeInfo,hi,hz,newVar,newRow,newObj,Sem.run],h'⟩
  ·cases hs
 ·cases hs
def zko (slot:Nat) (t:TypeId) (x:V) (st:Nat→Ent):Option (V×Upds) :=
 if (st slot).isGone=true∧(x.isTa=true∨x.isAgg=true∨x.one=true) then some (.ptr slot 0,[(slot,.blk t x.cells)]) else none
theorem zsP {P:Program} {c:Ctx} {x:X} {a:Act} {w:World} {H:Nat→Value} {A:Nat→Nat→Prop} (h:SimH c x a w H A) {slot:Nat} (hid:c.n0≤slot) {t:TypeId} {y v:V} {yv:Value} {U:Upds} (hy:RepT w A x.st H y yv) (dst:Option Tmp)
  (hs:zko slot t y x.st=some (v,U)):Leaves P c x a (Instr.box t yv) w dst v U:=by
 unfold zko at hs
 split at hs
 ·rename_i hg
  cases hs
  obtain ⟨H',A',h'⟩:=h.newBlk yv.cells t slot y.cells hid (isGone_spec hg.1) (zlI hy hg.2) dst
  exact ⟨_,_,H',A',by simp [Instr.box,newVar,newRow,newObj,Sem.run],h'⟩
 ·cases hs
def zjN (P:Program) (t:TypeId) (ad x:V) (st:Nat→Ent):Option Upds :=
 match zes P t,ad with
 | some (_,n),.ptr id off=>match st id with
  | .blk T cs=>if x.size=n∧off+n≤cs.length∧x.storable=true then some [(id,.blk T (cs.take off++x.cells++cs.drop (off+n)))] else none
  | _=>none
 | _,_=>none
theorem zo1 {P:Program} {c:Ctx} {x:X} {a:Act} {w:World} {H:Nat→Value} {A:Nat→Nat→Prop} (h:SimH c x a w H A) {t:TypeId} {ad y:V} {av yv:Value} {U:Upds} (ha:RepT w A x.st H ad av) (hy:RepT w A x.st H y yv) (dst:Option Tmp)
  (hs:zjN P t ad y x.st=some U):∃ w' H' A',(Instr.storeAt t av yv).run P w=.ok () w'∧SimH c (x.put dst .undef U) (a.put dst Go.undef) w' H' A':=by
 unfold zjN at hs
 split at hs
 ·rename_i ag n id off hsh
  split at hs
  ·rename_i T cs hst
   split at hs
   ·rename_i hc
    cases hs
    obtain ⟨b,C,h1,rfl,h3,h4⟩:=zph h ha hst
    obtain ⟨hc1,hc2,hc3⟩:=hc
    obtain ⟨h5,h6⟩:=zhn hc3
    have h7:=zlI hy h5
    have h8:=zct h7
    have h9:=zct h4
    have hsz:yv.cells.size=n:=by
     have:yv.cells.toList.length=n:=by rw [← h8];exact hc1
     simpa using this
    have hst':=run_storeCells_at P b off T yv.cells.toList 0 C w h3 (by simp;simp at h9;omega) (zn4 h7 h6)
    obtain ⟨_,hso⟩:=zfu hsh w
    refine ⟨w.setRow b (C.toList.take (off+0)++yv.cells.toList++C.toList.drop (off+0+yv.cells.toList.length)).toArray,H,A, ?_, ?_⟩
    ·simp only [Instr.storeAt,Instr.sureAddr,Sem.run_bind,Sem.run_pure,Result.andThen_ok,storeVar,hso,hsz,ne_eq,not_true_eq_false,if_false]
     exact hst'
    ·refine h.setBlk id T b cs _ C _ hst h1 h3 ?_ dst .undef Go.undef (Or.inr .undef)
     have:=zdV (zdV (zi3 off h4) h7) (zi4 (off+n) h4)
     have hl:yv.cells.toList.length=n:=by simpa using hsz
     simpa [hl] using this
   ·cases hs
  ·cases hs
 ·cases hs
def zhV (P:Program) (t:TypeId):Option (List (Nat×Nat)) :=
 match P.underlying t with
 | some (.struct fs)=>fs.toList.mapM (fun f=>(P.info? f.type).map fun i=>(f.offset,i.size))
 | _=>none
def zr0 (places:List (Nat×Nat)) (cells:List V):List (Nat×V)→Option (List V)
 | []=>some cells
 | (i,x) :: rest=>match places[i]? with
  | none=>none
  | some (off,size)=>if x.size=size∧off+size≤cells.length∧x.data=true∧(x.isAgg=true∨x.one=true) then zr0 places (cells.take off++x.cells++cells.drop (off+size)) rest else none
def zmF (P:Program) (t:TypeId) (parts:List (Nat×V)):Option V :=
 match zmh P t,zhV P t with
 | some cs,some pl=>match zr0 pl cs parts with | some r=>some (.agg r) | none=>none
 | _,_=>none
theorem zj0:∀ (us:List Value) (off i:Nat) (cells:Array Value),off+i+us.length≤cells.size→((us.zipIdx i).foldl (fun cs (p:Value×Nat)=>cs.setIfInBounds (off+p.2) p.1) cells).toList=cells.toList.take (off+i)++us++cells.toList.drop (off+i+us.length)
 | [],off,i,cells,_=>by simp
 | u :: us,off,i,cells,h=>by
  simp only [List.length_cons] at h
  rw [List.zipIdx_cons,List.foldl_cons,zj0 us off (i+1) _ (by simp;omega)]
  have e:=list_seg_step cells.toList (off+i) u us (by simp;omega)
  simpa [Array.toList_setIfInBounds,Nat.add_assoc] using e
theorem zun {w:World} {A:Nat→Nat→Prop} {pl:List (Nat×Nat)}:∀ (parts:List (Nat×V)) (vparts:List (Nat×Value)) (cs r:List V) (vs:Array Value),RepL w A cs vs.toList→parts.map (·.1)=vparts.map (·.1) →
  (∀ (k:Nat) (p:Nat×V) (q:Nat×Value),parts[k]?=some p→vparts[k]?=some q→p.2.data=true→RepV w A p.2 q.2)→zr0 pl cs parts=some r→∃ rv,Instr.fill (pl.toArray[·]?) vs vparts=some rv∧RepL w A r rv.toList
 | [],[],cs,r,vs,h,_,_,hs=>by cases hs;exact ⟨vs,rfl,h⟩
 | [],_ :: _,_,_,_,_,h,_,_=>by cases h
 | _ :: _,[],_,_,_,_,h,_,_=>by cases h
 | (i,x) :: ps,(i',v) :: qs,cs,r,vs,h,hm,hp,hs=>by
  simp only [List.map_cons,List.cons.injEq] at hm
  obtain ⟨rfl,hm⟩:=hm
  unfold zr0 at hs
  split at hs
  ·cases hs
  ·rename_i off size hpl
   split at hs
   ·rename_i hc
    obtain ⟨h1,h2,h3,h4⟩:=hc
    have hx:=hp 0 (i,x) (i,v) rfl rfl h3
    have hxc:RepL w A x.cells v.cells.toList:=by
     rcases h4 with h4 | h4
     ·cases x<;>simp [V.isAgg] at h4
      cases hx with
      | agg cs vs h=>simpa [V.cells,Value.cells] using h
     ·have h5:=zfP hx h4
      have h6:v.cells=#[v]:=by cases v<;>first | rfl | simp [Value.oneCell'] at h5
      rw [h6,zcb h4]
      exact .cons _ _ _ _ hx .nil
    have hl:=zcu hxc
    have hlc:=zcu h
    have hsz:v.cells.size=size:=by rw [← h1,V.size,hl];simp
    have hfit:off+v.cells.size≤vs.size:=by rw [hsz];have:vs.toList.length=vs.size:=(by simp);omega
    have hf:=zj0 v.cells.toList off 0 vs (by simpa using hfit)
    obtain ⟨rv,h7,h8⟩:=zun ps qs _ r (v.cells.zipIdx.foldl (fun cs (c,j)=>cs.setIfInBounds (off+j) c) vs) (by
     have e:(v.cells.zipIdx.foldl (fun cs (c,j)=>cs.setIfInBounds (off+j) c) vs)=((v.cells.toList.zipIdx 0).foldl (fun cs (p:Value×Nat)=>cs.setIfInBounds (off+p.2) p.1) vs):=by
      rw [← Array.foldl_toList,Array.toList_zipIdx]
     rw [e,hf]
     have:=zhS (zhS (zim off h) hxc) (zin (off+size) h)
     have hl2:v.cells.toList.length=size:=by simpa using hsz
     simpa [hl2] using this) hm (fun k p q hk hq=>hp (k+1) p q (by simpa using hk) (by simpa using hq)) hs
    refine ⟨rv, ?_,h8⟩
    have hpl':pl.toArray[i]?=some (off,size):=by simpa using hpl
    unfold Instr.fill
    rw [hpl']
    have hnf:¬ vs.size < off+size:=by omega
    simpa [hsz,hnf] using h7
   ·cases hs
theorem zs4 {w:World} {A:Nat→Nat→Prop} {st:Nat→Ent} {H:Nat→Value} {x:V} {v:Value} (h:RepV w A x v):RepK w A st H x v:=by
 cases x<;>first | exact h | cases h
theorem zmP {w:World} {A:Nat→Nat→Prop} {st:Nat→Ent} {H:Nat→Value}:∀ {x:List V} {v:List Value},RepL w A x v→zco w A st H x v
 | _,_,.nil=>rfl
 | _,_,.cons _ _ _ _ h1 h2=>⟨_,_,rfl,zs4 h1,zmP h2⟩
theorem zgx {w:World} {A:Nat→Nat→Prop} {st:Nat→Ent} {H:Nat→Value}:∀ {x:List V} {v:List Value},zco w A st H x v→x.length=v.length
 | [],_,h=>by rw [h];rfl
 | _ :: _,_,⟨u,us,h1,_,h3⟩=>by rw [h1];simp [zgx h3]
theorem zgy {w:World} {A:Nat→Nat→Prop} {st:Nat→Ent} {H:Nat→Value}:∀ {x y:List V} {v u:List Value},zco w A st H x v→zco w A st H y u→zco w A st H (x++y) (v++u)
 | [],_,_,_,h,h2=>by rw [h];simpa using h2
 | _ :: _,_,_,_,⟨u,us,h1,h2,h3⟩,h4=>by subst h1;exact ⟨_,_,rfl,h2,zgy h3 h4⟩
theorem zlL {w:World} {A:Nat→Nat→Prop} {st:Nat→Ent} {H:Nat→Value}:∀ {x:List V} {v:List Value} (n:Nat),zco w A st H x v→zco w A st H (x.take n) (v.take n)
 | x,_,0,_=>by simp [zco]
 | [],_,n+1,h=>by rw [h];simp [zco]
 | _ :: _,_,n+1,⟨u,us,h1,h2,h3⟩=>by subst h1;exact ⟨_,_,rfl,h2,zlL n h3⟩
theorem zlM {w:World} {A:Nat→Nat→Prop} {st:Nat→Ent} {H:Nat→Value}:∀ {x:List V} {v:List Value} (n:Nat),zco w A st H x v→zco w A st H (x.drop n) (v.drop n)
 | x,_,0,h=>by simpa using h
 | [],_,n+1,h=>by rw [h];simp [zco]
 | _ :: _,_,n+1,⟨u,us,h1,h2,h3⟩=>by subst h1;simpa using zlM n h3
def zl6 (places:List (Nat×Nat)) (cells:List V):List (Nat×V)→Option (List V)
 | []=>some cells
 | (i,x) :: rest=>match places[i]? with
  | none=>none
  | some (off,size)=>if x.size=size∧off+size≤cells.length∧(x.data=true∨x.isRow=true)∧(x.isAgg=true∨x.one=true) then zl6 places (cells.take off++x.cells++cells.drop (off+size)) rest else none
theorem zqX {w:World} {A:Nat→Nat→Prop} {st:Nat→Ent} {H:Nat→Value} {pl:List (Nat×Nat)}:∀ (parts:List (Nat×V)) (vparts:List (Nat×Value)) (cs r:List V) (vs:Array Value),zco w A st H cs vs.toList→parts.map (·.1)=vparts.map (·.1) →
  (∀ (k:Nat) (p:Nat×V) (q:Nat×Value),parts[k]?=some p→vparts[k]?=some q→RepT w A st H p.2 q.2)→zl6 pl cs parts=some r→∃ rv,Instr.fill (pl.toArray[·]?) vs vparts=some rv∧zco w A st H r rv.toList
 | [],[],cs,r,vs,h,_,_,hs=>by cases hs;exact ⟨vs,rfl,h⟩
 | [],_ :: _,_,_,_,_,h,_,_=>by cases h
 | _ :: _,[],_,_,_,_,h,_,_=>by cases h
 | (i,x) :: ps,(i',v) :: qs,cs,r,vs,h,hm,hp,hs=>by
  simp only [List.map_cons,List.cons.injEq] at hm
  obtain ⟨rfl,hm⟩:=hm
  unfold zl6 at hs
  split at hs
  ·cases hs
  ·rename_i off size hpl
   split at hs
   ·rename_i hc
    obtain ⟨h1,h2,h3,h4⟩:=hc
    have hx:=hp 0 (i,x) (i,v) rfl rfl
    have hxc:zco w A st H x.cells v.cells.toList:=by
     rcases h3 with h3 | h3
     ·replace hx:=hx.data h3
      rcases h4 with h4 | h4
      ·cases x<;>simp [V.isAgg] at h4
       cases hx with
       | agg cs vs h=>simpa [V.cells,Value.cells] using zmP h
      ·have h5:=zfP hx h4
       have h6:v.cells=#[v]:=by cases v<;>first | rfl | simp [Value.oneCell'] at h5
       rw [h6,zcb h4]
       exact ⟨v,[],rfl,zs4 hx,rfl⟩
     ·cases x<;>simp [V.isRow] at h3
      have h5:=zmM hx rfl
      have h6:v.cells=#[v]:=by cases v<;>first | rfl | simp [Value.oneCell'] at h5
      rw [h6]
      exact ⟨v,[],rfl,hx,rfl⟩
    have hl:=zgx hxc
    have hlc:=zgx h
    have hsz:v.cells.size=size:=by rw [← h1,V.size,hl];simp
    have hfit:off+v.cells.size≤vs.size:=by rw [hsz];have:vs.toList.length=vs.size:=(by simp);omega
    have hf:=zj0 v.cells.toList off 0 vs (by simpa using hfit)
    obtain ⟨rv,h7,h8⟩:=zqX ps qs _ r (v.cells.zipIdx.foldl (fun cs (c,j)=>cs.setIfInBounds (off+j) c) vs) (by
     have e:(v.cells.zipIdx.foldl (fun cs (c,j)=>cs.setIfInBounds (off+j) c) vs)=((v.cells.toList.zipIdx 0).foldl (fun cs (p:Value×Nat)=>cs.setIfInBounds (off+p.2) p.1) vs):=by
      rw [← Array.foldl_toList,Array.toList_zipIdx]
     rw [e,hf]
     have:=zgy (zgy (zlL off h) hxc) (zlM (off+size) h)
     have hl2:v.cells.toList.length=size:=by simpa using hsz
     simpa [hl2] using this) hm (fun k p q hk hq=>hp (k+1) p q (by simpa using hk) (by simpa using hq)) hs
    refine ⟨rv, ?_,h8⟩
    have hpl':pl.toArray[i]?=some (off,size):=by simpa using hpl
    unfold Instr.fill
    rw [hpl']
    have hnf:¬ vs.size < off+size:=by omega
    simpa [hsz,hnf] using h7
   ·cases hs
theorem znP {P:Program} {w:World} {A:Nat→Nat→Prop} {st:Nat→Ent} {H:Nat→Value} {t:TypeId} {parts:List (Nat×V)} {vparts:Array (Nat×Value)} {cs r:List V} {pl:List (Nat×Nat)} (hz:zmh P t=some cs) (hpl:zhV P t=some pl)
  (hm:parts.map (·.1)=vparts.toList.map (·.1)) (hp:∀ (k:Nat) (p:Nat×V) (q:Nat×Value),parts[k]?=some p→vparts.toList[k]?=some q→RepT w A st H p.2 q.2) (hf:zl6 pl cs parts=some r):∃ zv,(Instr.build t vparts).run P w=.ok zv w∧RepT w A st H (.ta r) zv:=by
 obtain ⟨i,z,hi,hz,hr,_⟩:=ziK hz
 obtain ⟨rv,h1,h2⟩:=zqX parts vparts.toList cs r z.cells (zmP (hr w A)) hm hp hf
 refine ⟨.agg rv,run_build w t vparts rv ?_,⟨rv.toList,by simp,h2⟩⟩
 unfold zhV at hpl
 split at hpl
 ·rename_i fs hu
  unfold Program.built
  rw [hi,hu]
  simp only [hz,hpl]
  exact h1
 ·cases hpl
theorem zo5 {P:Program} {w:World} {A:Nat→Nat→Prop} {st:Nat→Ent} {H:Nat→Value} {t:TypeId} {parts:List (Nat×V)} {vparts:Array (Nat×Value)} {v:V} (hm:parts.map (·.1)=vparts.toList.map (·.1))
  (hp:∀ (k:Nat) (p:Nat×V) (q:Nat×Value),parts[k]?=some p→vparts.toList[k]?=some q→RepT w A st H p.2 q.2) (hs:zmF P t parts=some v):∃ zv,(Instr.build t vparts).run P w=.ok zv w∧RepT w A st H v zv:=by
 unfold zmF at hs
 split at hs
 ·rename_i cs pl hz hpl
  split at hs
  ·rename_i r hf
   cases hs
   obtain ⟨i,z,hi,hz,hr,_⟩:=ziK hz
   obtain ⟨rv,h1,h2⟩:=zun parts vparts.toList cs r z.cells (hr w A) hm (fun k p q hk hq hd=>(hp k p q hk hq).data hd) hf
   refine ⟨.agg rv,run_build w t vparts rv ?_,Or.inr ?_⟩
   ·unfold zhV at hpl
    split at hpl
    ·rename_i fs hu
     unfold Program.built
     rw [hi,hu]
     simp only [hz,hpl]
     exact h1
    ·cases hpl
   ·have:=RepV.agg r rv.toList h2
    simpa using this
  ·cases hs
 ·cases hs
def rowT (P:Program) (t:TypeId):Option (TypeId×Nat×Nat) :=
 match P.underlying t with
 | some (.slice e)=>match P.info? e with
  | some i=>match i.zero with
   | some z=>if z.cells.size=i.size∧0 < i.size then some (e,i.size,i.bytes) else none
   | none=>none
  | none=>none
 | _=>none
theorem zn2 {P:Program} {t e z b:Nat} (h:rowT P t=some (e,z,b)):∃ i zv,P.underlying t=some (.slice e)∧P.info? e=some i∧i.zero=some zv∧zv.cells.size=z∧i.size=z∧i.bytes=b∧0 < z:=by
 unfold rowT at h
 split at h
 ·rename_i e' hu
  split at h
  ·rename_i i hi
   split at h
   ·rename_i zv hz
    split at h
    ·rename_i hc
     simp only [Option.some.injEq,Prod.mk.injEq] at h
     obtain ⟨rfl,rfl,rfl⟩:=h
     exact ⟨i,zv,hu,hi,hz,hc.1,rfl,rfl,hc.2⟩
    ·cases h
   ·cases h
  ·cases h
 ·cases h
def zfO (P:Program) (slot:Nat) (t:TypeId) (len:Nat) (parts:List (Nat×V)) (st:Nat→Ent):Option (V×Upds) :=
 match rowT P t with
 | some (e,z,_)=>if (st slot).isGone=true∧parts.map (·.1)=List.range len∧(∀ p∈parts,p.2.data=true∧p.2.storable=true∧p.2.size=z)∧len * z≤16777216 then some (.row slot len,[(slot,.row e z (parts.map (·.2)))]) else none
 | none=>none
theorem zqV {w:World} {A:Nat→Nat→Prop} {z:Nat}:∀ (parts:List (Nat×V)) (vparts:List (Nat×Value)) (k:Nat) (cells:Array Value),parts.map (·.1)=List.range' k parts.length→parts.map (·.1)=vparts.map (·.1) →
  (∀ (j:Nat) (p:Nat×V) (q:Nat×Value),parts[j]?=some p→vparts[j]?=some q→RepV w A p.2 q.2∧p.2.storable=true∧p.2.size=z)→cells.size=(k+parts.length) * z →
  ∃ us,Instr.fill (fun i=>some (i * z,z)) cells vparts=some (cells.toList.take (k * z)++us).toArray∧RepE w A z (parts.map (·.2)) us
 | [],[],k,cells,_,_,_,hc=>⟨[],by simp only [Instr.fill,List.append_nil];rw [List.take_of_length_le (by simp [hc])],.nil z⟩
 | [],_ :: _,_,_,_,h,_,_=>by cases h
 | _ :: _,[],_,_,_,h,_,_=>by cases h
 | (i,x) :: ps,(i',v) :: qs,k,cells,hk,hm,hp,hc=>by
  simp only [List.map_cons,List.cons.injEq] at hm
  obtain ⟨rfl,hm⟩:=hm
  simp only [List.map_cons,List.length_cons,List.range'_succ,List.cons.injEq] at hk
  obtain ⟨rfl,hk⟩:=hk
  obtain ⟨hx,hst,hsz⟩:=hp 0 (i,x) (i,v) rfl rfl
  replace hsz:x.size=z:=hsz
  replace hx:RepV w A x v:=hx
  replace hst:x.storable=true:=hst
  have hC:=repC_of hx hst
  have hvs:v.cells.size=z:=by have:=zio hC;simp at this;omega
  have hcs:cells.size=i * z+z+ps.length * z:=by rw [hc,List.length_cons,Nat.add_mul,Nat.succ_mul];omega
  have hf:=zj0 v.cells.toList (i * z) 0 cells (by simp [hvs];omega)
  have e:(v.cells.zipIdx.foldl (fun cs (c,j)=>cs.setIfInBounds (i * z+j) c) cells)=((v.cells.toList.zipIdx 0).foldl (fun cs (p:Value×Nat)=>cs.setIfInBounds (i * z+p.2) p.1) cells):=by
   rw [← Array.foldl_toList,Array.toList_zipIdx]
  rw [← e] at hf
  have hlen:v.cells.toList.length=z:=by simpa using hvs
  have hnew:(v.cells.zipIdx.foldl (fun cs (c,j)=>cs.setIfInBounds (i * z+j) c) cells).size=(i+1+ps.length) * z:=by
   rw [← Array.length_toList,hf]
   simp only [List.length_append,List.length_take,List.length_drop,hlen,Array.length_toList,Nat.add_zero,hcs]
   have e2:(i+1+ps.length) * z=i * z+z+ps.length * z:=by rw [Nat.add_mul,Nat.add_mul,Nat.one_mul]
   rw [e2]
   omega
  obtain ⟨us,h1,h2⟩:=zqV ps qs (i+1) _ hk hm (fun j p q hj hq=>hp (j+1) p q (by simpa using hj) (by simpa using hq)) hnew
  refine ⟨v.cells.toList++us, ?_,.cons z x _ _ us hlen hC h2⟩
  have hnf:¬ cells.size < i * z+z:=by omega
  have hfill:Instr.fill (fun i=>some (i * z,z)) cells ((i,v) :: qs)=Instr.fill (fun i=>some (i * z,z)) (v.cells.zipIdx.foldl (fun cs (c,j)=>cs.setIfInBounds (i * z+j) c) cells) qs:=by
   conv=>lhs;unfold Instr.fill
   simp [hvs,hnf]
  rw [hfill,h1,hf]
  congr 2
  simp only [Nat.add_zero,hlen]
  rw [← List.append_assoc,Nat.succ_mul]
  congr 1
  rw [List.take_append_of_le_length (by simp [hlen];omega)]
  exact List.take_of_length_le (by simp [hlen];omega)
theorem zjA {P:Program} {c:Ctx} {x:X} {a:Act} {w:World} {H:Nat→Value} {A:Nat→Nat→Prop} (h:SimH c x a w H A) {slot:Nat} (hid:c.n0≤slot) {t:TypeId} {len:Nat} {v:V} {U:Upds} {parts:List (Nat×V)} {vparts:Array (Nat×Value)}
  (hm:parts.map (·.1)=vparts.toList.map (·.1)) (hp:∀ (k:Nat) (p:Nat×V) (q:Nat×Value),parts[k]?=some p→vparts.toList[k]?=some q→RepT w A x.st H p.2 q.2) (dst:Option Tmp)
  (hs:zfO P slot t len parts x.st=some (v,U)):Leaves P c x a (Instr.buildSlice t len vparts) w dst v U:=by
 unfold zfO at hs
 split at hs
 ·rename_i e z b hrow
  split at hs
  ·rename_i hc
   cases hs
   obtain ⟨hg,hr,hall,hsz⟩:=hc
   obtain ⟨i,zv,hu,hi,hz,hzs,his,_,hz0⟩:=zn2 hrow
   have hlen:parts.length=len:=by have:=congrArg List.length hr;simpa using this
   have hr':parts.map (·.1)=List.range' 0 parts.length:=by rw [hr,hlen,List.range_eq_range']
   obtain ⟨us,h1,h2⟩:=zqV (w:=w) (A:=A) (z:=z) parts vparts.toList 0 ((Array.range (len * z)).map (zv.cells[· % zv.cells.size]!)) hr' hm (fun j p q hj hq=>by
    obtain ⟨d1,d2,d3⟩:=hall p (List.mem_of_getElem? hj)
    exact ⟨(hp j p q hj hq).data d1,d2,d3⟩) (by simp [hlen])
   simp only [Nat.zero_mul,List.take_zero,List.nil_append] at h1
   have hxl:(parts.map (·.2)).length=len:=by simpa using hlen
   obtain ⟨H',A',h'⟩:=h.newRow us.toArray e z slot (parts.map (·.2)) hz0 hid (isGone_spec hg) (by simpa using h2) (by rw [hxl];have:len≤len * z:=Nat.le_mul_of_pos_right _ hz0;simp only [maxLen];omega) dst
   rw [hxl] at h'
   refine ⟨_,_,H',A', ?_,h'⟩
   have hnot:¬ len * z > 2 ^ 24:=by omega
   subst his
   by_cases h0:len * i.size=0
   ·have h1':Instr.fill (fun k=>some (k * i.size,i.size)) #[] vparts.toList=some us.toArray:=by
     rw [h0,show Array.range 0=#[] from rfl] at h1
     simpa using h1
    have hl0:len=0:=by
     rcases Nat.mul_eq_zero.1 h0 with h2 | h2
     ·exact h2
     ·omega
    subst hl0
    simp [Instr.buildSlice,run_underlying hu,Go.sizeOf,typeInfo,hi,h1',newRow,newObj,Sem.run,show Array.range 0=#[] from rfl]
   ·simp [Instr.buildSlice,run_underlying hu,Go.sizeOf,typeInfo,hi,hnot,h0,zeroValue,hz,h1,newRow,newObj,Sem.run]
  ·cases hs
 ·cases hs
def zie (P:Program) (slot:Nat) (t:TypeId) (s y:V) (st:Nat→Ent):Option (V×Upds) :=
 match rowT P t,y with
 | some (e,z,bytes),.list ys=>match s with
  | .row id n=>match st id with
   | .row T z' xs=>if T=e∧z'=z∧n=xs.length∧(∀ y∈ys,y.size=z)∧(xs.length+ys.length) * (bytes+1)≤140737488355328 then some (.row id (xs.length+ys.length),[(id,.row T z' (xs++ys))]) else none
   | _=>none
  | .nils=>if (st slot).isGone=true∧(∀ y∈ys,y.size=z)∧ys.length * (bytes+1)≤140737488355328 then some (.row slot ys.length,[(slot,.row e z ys)]) else none
  | _=>none
 | _,_=>none
theorem repV_list_inv {w:World} {A:Nat→Nat→Prop} {ys:List V} {v:Value} (h:RepV w A (.list ys) v) :
  (ys=[]∧∃ a c,v=.slice a 0 c)∨(ys≠[]∧∃ z b off c vs,v=.slice (some ⟨b,off,none⟩) ys.length c∧RepE w A z ys vs∧At w A b off vs):=by
 cases h with
 | nil a c=>exact .inl ⟨rfl,a,c,rfl⟩
 | list _ z b off c vs h1 h2 h3 _ _=>exact .inr ⟨h1,z,b,off,c,vs,rfl,h2,h3⟩
theorem repE_z {w:World} {A:Nat→Nat→Prop} {z z':Nat} {ys:List V} {vs:List Value} (h:RepE w A z ys vs) (hn:ys≠[]) (hz:∀ y∈ys,y.size=z'):z=z':=by
 cases h with
 | nil=>exact absurd rfl hn
 | cons _ x xs us ws h0 h1 h2=>rw [← hz x (by simp),zio h1,h0]
theorem SimH.nilRow {c:Ctx} {x:X} {a:Act} {w:World} {H:Nat→Value} {A:Nat→Nat→Prop} (h:SimH c x a w H A) (T z id:Nat) (hz:0 < z) (hid:c.n0≤id) (hg:x.st id=.gone) (dst:Option Tmp) :
  ∃ H' A',SimH c (x.put dst (.row id 0) [(id,.row T z [])]) (a.put dst (.slice none 0 0)) w H' A':=by
 have hf:Foll x.st H (updE x.st id (.row T z [])) (updH H id (.slice none 0 0)):=by
  refine ⟨fun i T cs hi=>?_,fun i T z xs hi=>?_⟩
  ·have:i≠id:=fun e=>by subst e;rw [hg] at hi;cases hi
   exact ⟨if_neg this,T,cs,by rw [zau _ _ this];exact hi⟩
  ·have:i≠id:=fun e=>by subst e;rw [hg] at hi;cases hi
   exact ⟨[],by rw [zau _ _ this];simpa using hi,fun _=>if_neg this⟩
 refine ⟨_,A,h.go (Keeps.refl _ _) hf ?_ ?_ h.a0 ?_ h.al ?_ h.ext dst (.row id 0) (.slice none 0 0) ⟨T,z,[],updE_same _ _ _,Nat.le_refl _,.nil _ _,fun _=>(if_pos rfl).symm⟩⟩
 ·intro i
  by_cases hi:i=id
  ·subst hi
   rw [updE_same,show updH H i (.slice none 0 0) i=.slice none 0 0 from if_pos rfl]
   exact ⟨hz,[],⟨by simp,.inl ⟨rfl,rfl⟩⟩,.nil z,fun g hg=>by simp [Value.ownBlock] at hg⟩
  ·rw [zau _ _ hi,show updH H id (.slice none 0 0) i=H i from if_neg hi]
   by_cases hgo:x.st i=.gone
   ·rw [hgo];trivial
   ·exact (h.ent i).mono (Keeps.refl _ _) hf (fun b hb=>⟨rfl,fun _=>Iff.rfl⟩)
 ·intro i j hij hi hj b hb
  by_cases h1:i=id
  ·subst h1
   rw [show updH H i (.slice none 0 0) i=.slice none 0 0 from if_pos rfl] at hb
   simp [blockOf] at hb
  ·rw [show updH H id (.slice none 0 0) i=H i from if_neg h1] at hb
   rw [zau _ _ h1] at hi
   by_cases h2:j=id
   ·subst h2
    rw [show updH H j (.slice none 0 0) j=.slice none 0 0 from if_pos rfl]
    simp [blockOf]
   ·rw [show updH H id (.slice none 0 0) j=H j from if_neg h2]
    rw [zau _ _ h2] at hj
    exact h.dis i j hij hi hj b hb
 ·intro i b hi hgo hb hl
  have h1:i≠id:=by omega
  rw [show updH H id (.slice none 0 0) i=H i from if_neg h1] at hb
  rw [zau _ _ h1] at hgo
  exact h.lent i b hi hgo hb hl
 ·intro i b hi hgo hb
  by_cases h1:i=id
  ·subst h1
   rw [show updH H i (.slice none 0 0) i=.slice none 0 0 from if_pos rfl] at hb
   simp [blockOf] at hb
  ·rw [show updH H id (.slice none 0 0) i=H i from if_neg h1] at hb
   rw [zau _ _ h1] at hgo
   exact h.loc i b hi hgo hb
theorem zso {st:Nat→Ent} {id:Nat} {e:Ent} (h:st id=e):updE st id e=st:=by
 funext i
 by_cases hi:i=id
 ·subst hi;rw [updE_same,h]
 ·rw [zau _ _ hi]
theorem zgw {P:Program} {w:World} (t ty e:TypeId) (i:TypeInfo) (ht:P.underlying t=some (.slice e)) (hi:P.info? e=some i) (s:Option Addr) (n cap:Nat) (hn:n≤cap) (a:Option Addr) (c:Nat) :
  (Builtin.append_ #[t,t] ty #[.slice s n cap,.slice a 0 c]).run P w=.ok (.slice s n cap) w:=by
 cases a<;>cases s<;>simp [Builtin.append_,run_underlying ht,Go.sizeOf,typeInfo,hi,Builtin.lenOf,hn,Builtin.firstCells,loadCells,loadCellsFrom,storeCells]
theorem znQ {P:Program} {c:Ctx} {x:X} {a:Act} {w:World} {H:Nat→Value} {A:Nat→Nat→Prop} (h:SimH c x a w H A) {slot:Nat} (hid:c.n0≤slot) {t ty:TypeId} {s y v:V} {sv yv:Value} {U:Upds} (hs:RepT w A x.st H s sv) (hy:RepT w A x.st H y yv) (dst:Option Tmp)
  (hsem:zie P slot t s y x.st=some (v,U)):Leaves P c x a (Builtin.append_ #[t,t] ty #[sv,yv]) w dst v U:=by
 unfold zie at hsem
 split at hsem
 ·rename_i e z bytes ys hrow
  obtain ⟨i,zv,hu,hi,hz,hzs,his,hby,hz0⟩:=zn2 hrow
  have hyV:=hy.data rfl
  have hbase:0≤w.heap.size:=Nat.zero_le _
  split at hsem
  ·rename_i id n
   split at hsem
   ·rename_i T z' xs hst
    split at hsem
    ·rename_i hc
     cases hsem
     obtain ⟨rfl,rfl,rfl,hall,hbound⟩:=hc
     obtain ⟨T',zz,xs',h1,h2,h3,h4⟩:=hs
     rw [hst] at h1
     cases h1
     obtain rfl:=h4 rfl
     have hent:=h.ent id
     rw [hst] at hent
     obtain ⟨_,vs,hown,hE,hown2⟩:=hent
     rcases repV_list_inv hyV with ⟨rfl,ad,cp,rfl⟩ | ⟨hne,z2,b,off,cp,us,rfl,hE2,hat⟩
     ·obtain ⟨sa,scap,hsv,hle⟩:∃ sa scap,H id=.slice sa xs.length scap∧xs.length≤scap:=by
       rcases hown.2 with ⟨h5,h6⟩ | ⟨g,cap,cur,h5,_,_,h6,_⟩
       ·exact ⟨none,0,by rw [h5,h6],by omega⟩
       ·exact ⟨_,cap,h5,h6⟩
      refine ⟨H id,w,H,A,by rw [hsv];exact zgw t ty T i hu hi sa xs.length scap hle ad cp, ?_⟩
      have hst2:x.put dst (.row id (xs.length+([]:List V).length)) [(id,.row T z' (xs++[]))]=x.put dst (.row id xs.length) []:=by
       simp only [X.put,updL,List.append_nil,List.length_nil,Nat.add_zero,zso hst]
      rw [hst2]
      exact h.putv dst _ _ ⟨_,_,xs,hst,Nat.le_refl _,by rw [List.take_length];rw [List.take_length] at h3;exact h3,fun _=>rfl⟩
     ·obtain rfl:=repE_z hE2 hne hall
      have hm:0 < ys.length:=List.length_pos_iff.2 hne
      have hmul:(xs.length+ys.length) * bytes≤(xs.length+ys.length) * (bytes+1):=Nat.mul_le_mul_left _ (Nat.le_succ _)
      have hmul2:(xs.length+ys.length) * 1≤(xs.length+ys.length) * (bytes+1):=Nat.mul_le_mul_left _ (by omega)
      obtain ⟨v',w',hr,ho',htwo⟩:=zhs (P:=P) 0 t ty T i zv z2 bytes hu hi hz his hby hzs hz0 (H id) xs.length vs hown ⟨b,off,none⟩ ys.length cp us hm (zdH hE2)
       (fun j u hj=>by rw [ziJ];exact (hat.2 j u hj).1) (zky hE2) (by simp only [maxLen];omega) (by omega) hbase
      obtain ⟨H',A',h'⟩:=h.push id T z2 xs ys (.inl hst) (fun e=>by rw [hst] at e;cases e) vs us hE2 hne (H id) v' w' (.inl ⟨hst,rfl⟩) hE hown ho' htwo dst
      exact ⟨v',w',H',A',hr,h'⟩
    ·cases hsem
   ·cases hsem
  ·split at hsem
   ·rename_i hc
    cases hsem
    obtain ⟨hg,hall,hbound⟩:=hc
    cases hs.data rfl
    rcases repV_list_inv hyV with ⟨rfl,ad,cp,rfl⟩ | ⟨hne,z2,b,off,cp,us,rfl,hE2,hat⟩
    ·obtain ⟨H',A',h'⟩:=h.nilRow e z slot hz0 hid (isGone_spec hg) dst
     exact ⟨_,w,H',A',zgw t ty e i hu hi none 0 0 (Nat.le_refl _) ad cp,h'⟩
    ·obtain rfl:=repE_z hE2 hne hall
     have hm:0 < ys.length:=List.length_pos_iff.2 hne
     have hmul:ys.length * bytes≤ys.length * (bytes+1):=Nat.mul_le_mul_left _ (Nat.le_succ _)
     have hmul2:ys.length * 1≤ys.length * (bytes+1):=Nat.mul_le_mul_left _ (by omega)
     have hown:w.ownsRow 0 e z2 (.slice none 0 0) ([]:List V).length []:=⟨by simp,.inl ⟨rfl,rfl⟩⟩
     obtain ⟨v',w',hr,ho',htwo⟩:=zhs (P:=P) 0 t ty e i zv z2 bytes hu hi hz his hby hzs hz0 (.slice none 0 0) 0 [] hown ⟨b,off,none⟩ ys.length cp us hm (zdH hE2)
      (fun j u hj=>by rw [ziJ];exact (hat.2 j u hj).1) (zky hE2) (by simp only [maxLen];omega) (by rw [Nat.zero_add];omega) hbase
     obtain ⟨H',A',h'⟩:=h.push slot e z2 [] ys (.inr ⟨isGone_spec hg,rfl,hz0⟩) (fun _=>hid) [] us hE2 hne (.slice none 0 0) v' w' (.inr ⟨isGone_spec hg,rfl⟩) (.nil _) hown ho' htwo dst
     simp only [List.length_nil,Nat.zero_add,List.nil_append] at h'
     exact ⟨v',w',H',A',hr,h'⟩
   ·cases hsem
  ·cases hsem
 ·cases hsem
def zero1 (P:Program) (t:TypeId):Option V :=
 match zjI P 12 t,P.info? t with
 | some cs,some i=>match i.zero with
  | some (.agg a)=>if zkF cs a.toList=true then some (.agg cs) else none
  | some z=>(match cs with | [c]=>if zqt c z=true then some c else none | _=>none)
  | none=>none
 | _,_=>none
theorem zrl {P:Program} {t:TypeId} {v:V} (h:zero1 P t=some v):∃ i z,P.info? t=some i∧i.zero=some z∧∀ w A,RepV w A v z:=by
 unfold zero1 at h
 split at h<;>first | (cases h;done) | skip
 rename_i cs i _ hi
 split at h<;>first | (cases h;done) | skip
 ·rename_i a ha
  split at h<;>first | (cases h;done) | skip
  rename_i hk
  cases h
  refine ⟨i,_,hi,ha,fun w A=>?_⟩
  have:=RepV.agg cs a.toList (zfR (w:=w) (A:=A) hk).1
  simpa using this
 ·rename_i z _ ha
  split at h<;>first | (cases h;done) | skip
  split at h<;>first | (cases h;done) | skip
  rename_i hk
  cases h
  exact ⟨i,_,hi,ha,fun w A=>(zlU hk).1⟩
def concT (P:Program) (t:TypeId):Bool:=match P.underlying t with | some (.interface _)=>false | some _=>true | none=>false
def tasV (z:Option V) (T:TypeId) (v:V):Option V:=match v,z with
 | .iface T' u,some z=>some (if T'=T then .tup [u,.bool true] else .tup [z,.bool false])
 | .niface,some z=>some (.tup [z,.bool false])
 | .iface T' u,none=>if T'=T then some u else none
 | _,_=>none
theorem zoU {P:Program} {T S:TypeId} {ok:Bool} {xv:Value} {w:World} (hT:concT P T=true):(Instr.typeAssert xv S T ok).run P w=(match xv with
  | .nilIface=>(if ok=true then (do let z ← zeroValue T;pure (.tuple #[z,.bool false]):Sem Value) else runtimePanic (.typeAssertion (some S) none T "")).run P w
  | .iface t v=>(if t=T then (if ok=true then (pure (.tuple #[v,.bool true]):Sem Value) else pure v) else (if ok=true then (do let z ← zeroValue T;pure (.tuple #[z,.bool false]):Sem Value) else runtimePanic (.typeAssertion (some S) (some t) T ""))).run P w
  | _=>(Instr.typeAssert xv S T ok).run P w):=by
 unfold concT at hT
 split at hT<;>first | (cases hT;done) | skip
 rename_i u hn hu
 cases xv<;>try rfl
 all_goals
  unfold Instr.typeAssert
  simp only [Sem.run_bind,run_underlying hu]
  cases ok<;>cases u<;>first | rfl | (exfalso;exact hn _ rfl)
theorem zil {P:Program} {t:TypeId} {i:TypeInfo} {z:Value} {w:World} (hi:P.info? t=some i) (hz:i.zero=some z):(zeroValue t).run P w=.ok z w:=by
 simp [zeroValue,typeInfo,hi,hz,Sem.run]
theorem znN {P:Program} {w:World} {A:Nat→Nat→Prop} {st:Nat→Ent} {H:Nat→Value} {S T:TypeId} {ok:Bool} {z:Option V} {x v:V} {xv:Value} (hT:concT P T=true) (hz:match ok with | true=>∃ u,zero1 P T=some u∧z=some u | false=>z=none)
  (hx:RepT w A st H x xv) (hs:tasV z T x=some v):∃ zv,(Instr.typeAssert xv S T ok).run P w=.ok zv w∧RepT w A st H v zv:=by
 unfold tasV at hs
 cases ok with
 | true =>
  obtain ⟨u,hu,rfl⟩:=hz
  obtain ⟨i,zz,hi,hzz,hrep⟩:=zrl hu
  split at hs
  ·rename_i T' y z' e
   cases e
   cases hs
   cases hx.data rfl with
   | iface _ _ xv h =>
    rw [zoU hT]
    dsimp only
    split
    ·exact ⟨_,rfl,Or.inr (.tup _ [_,_] (.cons _ _ _ _ h (.cons _ _ _ _ (.bool _) .nil)))⟩
    ·simp only [if_true,Sem.run_bind,zil hi hzz]
     exact ⟨_,rfl,Or.inr (.tup _ [_,_] (.cons _ _ _ _ (hrep w A) (.cons _ _ _ _ (.bool _) .nil)))⟩
  ·rename_i z' e
   cases e
   cases hs
   cases hx.data rfl
   rw [zoU hT]
   simp only [if_true,Sem.run_bind,zil hi hzz]
   exact ⟨_,rfl,Or.inr (.tup _ [_,_] (.cons _ _ _ _ (hrep w A) (.cons _ _ _ _ (.bool _) .nil)))⟩
  ·rename_i e
   cases e
  ·cases hs
 | false =>
  subst hz
  split at hs
  ·rename_i e;cases e
  ·rename_i e;cases e
  ·rename_i T' y _
   split at hs<;>first | (cases hs;done) | skip
   rename_i hTT
   cases hs
   cases hx.data rfl with
   | iface _ _ xv h =>
    rw [zoU hT]
    dsimp only
    rw [if_pos hTT]
    exact ⟨_,rfl,h.toT⟩
  ·cases hs
end Vm
