/- Part of the proof: see the last text. -/
import Derived.Test.YtlooegbcfkoloaaGreatDoorP15
set_option maxRecDepth 20000
set_option linter.unusedVariables false
set_option linter.unusedSimpArgs false
namespace Vm
open Go Go.RowKit
inductive C where
 | skip
 | reg (t:RT)
 | seq (a b:C)
 | cond (o:O) (a b:C)
 | block (id:Nat) (b:C)
 | loop (b:C)
 | exit (id:Nat)
 | scope (b:C)
 | ret
def compC (P:Program) (N:Nat) (G:Nat→V) (σ:List (Nat×Nat)):Nat→Code→Option (C×Nat)
 | s,.skip=>some (.skip,s)
 | s,.label _=>some (.skip,s)
 | s,.region _ ops draw=>match zk7 P N G σ s ops draw with | some t=>some (.reg t,s+ops.size) | none=>none
 | s,.seq a b=>match compC P N G σ s a with
  | some (a',s1)=>match compC P N G σ s1 b with | some (b',s2)=>some (.seq a' b',s2) | none=>none
  | none=>none
 | s,.cond o a b=>match compO N G o with
  | some o'=>match compC P N G σ s a with
   | some (a',s1)=>match compC P N G σ s1 b with | some (b',s2)=>some (.cond o' a' b',s2) | none=>none
   | none=>none
  | none=>none
 | s,.block id b=>match compC P N G σ s b with | some (b',s1)=>some (.block id b',s1) | none=>none
 | s,.loop b=>match compC P N G σ s b with | some (b',s1)=>some (.loop b',s1) | none=>none
 | s,.scope b=>match compC P N G σ s b with | some (b',s1)=>some (.scope b',s1) | none=>none
 | s,.exit id=>some (.exit id,s)
 | s,.ret=>some (.ret,s)
 | _,_=>none
def Ent.frz (st:Nat→Ent):Ent→Ent
 | .blk T cs=>.blk T (cs.map (res st))
 | e=>e
def X.frz (x:X):Bool→X
 | false=>x
 | true=>⟨fun t=>res x.st (x.env t),fun id=>(x.st id).frz x.st⟩
theorem foll_frz (st:Nat→Ent) (H:Nat→Value):Foll st H (fun id=>(st id).frz st) H :=
 ⟨fun id T cs h=>⟨rfl,T,cs.map (res st),by simp only [h];rfl⟩,fun id T z xs h=>⟨[],by simp only [h];simp [Ent.frz],fun _=>rfl⟩⟩
theorem zjZ {st:Nat→Ent} {e:Ent} (h:e.frz st≠.gone):e≠.gone:=fun h0=>h (by rw [h0];rfl)
theorem SimH.frz {c:Ctx} {x:X} {a:Act} {w:World} {H:Nat→Value} {A:Nat→Nat→Prop} (h:SimH c x a w H A):∀ fz,SimH c (x.frz fz) a w H A
 | false=>h
 | true=>by
  have hf:=foll_frz x.st H
  refine ⟨h.tm,h.df,fun t ht=>RepT.mono (zcp (h.env t ht)) (Keeps.refl _ _) hf,h.glo,h.kp,fun id=>?_,fun i j hij hi hj=>h.dis i j hij (zjZ hi) (zjZ hj),h.a00,h.a0,h.al,h.out.trans hf,fun id b hid hg=>h.lent id b hid (zjZ hg),fun id b hid hg=>h.loc id b hid (zjZ hg),h.ext⟩
  have he:=h.ent id
  show RepEnt w A (x.frz true).st H 0 ((x.st id).frz x.st) (H id)
  cases hx:x.st id with
  | gone=>trivial
  | blk T cs =>
   rw [hx] at he
   obtain ⟨b,C,h1,h2,h3,h4⟩:=he
   exact ⟨b,C,h1,h2,zaY.mono (Keeps.refl _ _) hf (zkw h3),h4⟩
  | row T z xs =>
   rw [hx] at he
   exact he
def look (t:Nat):List (Nat×V)→V
 | []=>.any
 | (i,v) :: r=>if t=i then v else look t r
def lookE (t:Nat):List (Nat×Ent)→Ent
 | []=>.gone
 | (i,v) :: r=>if t=i then v else lookE t r
def mkX (env:List (Nat×V)) (st:List (Nat×Ent)):X:=⟨fun t=>look t env,fun id=>lookE id st⟩
def scrub (live keep:List Nat) (x:X):X:=mkX (live.map fun t=>(t,x.env t)) (keep.map fun id=>(id,x.st id))
def zm5 (n0:Nat) (live keep:List Nat) (x:X):Prop :=
 (List.range n0).all (keep.contains ·)=true∧(live.all fun t=>(x.env t).on (keep.contains ·))=true∧(keep.all fun id=>(x.st id).on (keep.contains ·))=true
theorem look_map (live:List Nat) (e:Nat→V) (t:Nat):look t (live.map fun t=>(t,e t))=if t∈live then e t else .any:=by
 induction live with
 | nil=>simp [look]
 | cons i r ih =>
  simp only [List.map_cons,look,List.mem_cons]
  by_cases h:t=i
  ·subst h;simp
  ·simp [h,ih]
theorem zkR (live:List Nat) (e:Nat→Ent) (t:Nat):lookE t (live.map fun t=>(t,e t))=if t∈live then e t else .gone:=by
 induction live with
 | nil=>simp [lookE]
 | cons i r ih =>
  simp only [List.map_cons,lookE,List.mem_cons]
  by_cases h:t=i
  ·subst h;simp
  ·simp [h,ih]
theorem renS_id (v:V):renS (fun k=>k) v=v:=by cases v<;>rfl
theorem renK_id (v:V):renK (fun k=>k) v=v:=by cases v<;>rfl
theorem ren_id (v:V):v.ren (fun k=>k)=v:=by
 cases v<;>first | rfl | skip
 ·simp only [V.ren]
  congr 1<;>exact (List.map_congr_left (fun v _=>renS_id v)).trans (by simp)
 ·simp only [V.ren]
  congr 1
  exact (List.map_congr_left (fun v _=>renK_id v)).trans (by simp)
theorem zmQ (e:Ent):e.ren (fun k=>k)=e:=by
 cases e<;>first | rfl | skip
 simp only [Ent.ren]
 congr 1
 exact (List.map_congr_left (fun v _=>ren_id v)).trans (by simp)
theorem SimH.scrub {c:Ctx} {x:X} {a:Act} {w:World} {H:Nat→Value} {A:Nat→Nat→Prop} (h:SimH c x a w H A) (hE:∀ id,c.E0 id≠.gone→id < c.n0) {live keep:List Nat} (ho:zm5 c.n0 live keep x):SimH c (scrub live keep x) a w H A:=by
 obtain ⟨h1,h2,h3⟩:=ho
 have hst:∀ id,id∈keep→(Vm.scrub live keep x).st id=x.st id:=fun id hid=>by
  show lookE id (keep.map fun t=>(t,x.st t))=_
  rw [zkR,if_pos hid]
 have hst2:∀ id,(Vm.scrub live keep x).st id≠.gone→id∈keep∧x.st id≠.gone:=fun id hg=>by
  have:(Vm.scrub live keep x).st id=if id∈keep then x.st id else .gone:=zkR _ _ _
  rw [this] at hg
  by_cases hid:id∈keep
  ·rw [if_pos hid] at hg;exact ⟨hid,hg⟩
  ·rw [if_neg hid] at hg;exact absurd rfl hg
 have hcor:Cor (keep.contains ·) (fun k=>k) x.st H (Vm.scrub live keep x).st H:=⟨fun _ _=>rfl,fun id hid=>by rw [zmQ];exact hst id (by simpa using hid)⟩
 simp only [List.all_eq_true] at h1 h2 h3
 refine h.mem.rec (fun glo kp ent dis a00 a0 al out lent loc ext=>?_)
 refine ⟨h.tm,h.df,fun t ht=>?_,glo,kp,fun id=>?_,fun i j hij hi hj=>dis i j hij (hst2 i hi).2 (hst2 j hj).2,a00,a0,al, ?_,fun id b hid hg=>lent id b hid (hst2 id hg).2,fun id b hid hg=>loc id b hid (hst2 id hg).2,ext⟩
 ·have he:(Vm.scrub live keep x).env t=if t∈live then x.env t else .any:=look_map _ _ _
  rw [he]
  by_cases hl:t∈live
  ·rw [if_pos hl]
   have:=RepT.ren hcor (h.env t ht) (h2 t hl)
   rwa [ren_id] at this
  ·rw [if_neg hl];trivial
 ·by_cases hid:id∈keep
  ·have:=RepEnt.ren hcor (ent id) (h3 id hid)
   rw [zmQ] at this
   rw [hst id hid]
   exact this
  ·have:(Vm.scrub live keep x).st id=.gone:=by
    show lookE id (keep.map fun t=>(t,x.st t))=_
    rw [zkR,if_neg hid]
   rw [this]
   trivial
 ·have hk:∀ id,c.E0 id≠.gone→id∈keep:=fun id hg=>by
   have:=h1 id (by simpa using hE id hg)
   simpa using this
  refine ⟨fun id T cs hi=>?_,fun id T z xs hi=>?_⟩
  ·rw [hst id (hk id (by rw [hi];simp))]
   exact out.blk id T cs hi
  ·rw [hst id (hk id (by rw [hi];simp))]
   exact out.row id T z xs hi
def thenP (K:X→Prop) (Q:PEx→X→Prop):PEx→X→Prop
 | .normal,x=>K x
 | e,x=>Q e x
def zuY (id:Nat) (Q:PEx→X→Prop):PEx→X→Prop
 | .exit i,x=>if i=id then Q .normal x else Q (.exit i) x
 | e,x=>Q e x
def wpC (P:Program) (G:Nat→V) (n0:Nat) (Kp:V→(Nat→Ent)→Prop):C→(PEx→X→Prop)→X→Prop
 | .skip,Q,x=>Q .normal x
 | .reg t,Q,x=>wpR P G Kp (Q .normal) t x
 | .seq a b,Q,x=>wpC P G n0 Kp a (thenP (wpC P G n0 Kp b Q) Q) x
 | .cond o a b,Q,x=>match o.ev x.env with
  | .bool true=>wpC P G n0 Kp a Q x
  | .bool false=>wpC P G n0 Kp b Q x
  | _=>False
 | .block id b,Q,x=>wpC P G n0 Kp b (zuY id Q) x
 | .loop b,Q,x=>∃ (fz:Bool) (live keep:List Nat) (I:X→Prop) (μ:X→Nat),zm5 n0 live keep (x.frz fz)∧I (scrub live keep (x.frz fz))∧∀ y,I y→wpC P G n0 Kp b (thenP (fun y'=>zm5 n0 live keep (y'.frz fz)∧I (scrub live keep (y'.frz fz))∧μ (scrub live keep (y'.frz fz)) < μ y) Q) y
 | .exit id,Q,x=>Q (.exit id) x
 | .scope b,Q,x=>wpC P G n0 Kp b Q x
 | .ret,Q,x=>Q .ret x
section
variable {P:Program} {c:Ctx} {Kp:V→(Nat→Ent)→Prop}
theorem zg2 {σ:List (Nat×Nat)}:∀ {code:Code} {s s':Nat} {t:C},compC P c.N c.G σ s code=some (t,s')→s≤s':=by
 intro code
 induction code with
 | skip=>intro s s' t h;cases h;exact Nat.le_refl _
 | label l=>intro s s' t h;cases h;exact Nat.le_refl _
 | exit l=>intro s s' t h;cases h;exact Nat.le_refl _
 | ret=>intro s s' t h;cases h;exact Nat.le_refl _
 | region id ops draw =>
  intro s s' t h
  simp only [compC] at h
  split at h
  ·cases h;omega
  ·cases h
 | seq a b iha ihb =>
  intro s s' t h
  simp only [compC] at h
  split at h
  ·rename_i h1
   split at h
   ·rename_i h2
    cases h
    exact Nat.le_trans (iha h1) (ihb h2)
   ·cases h
  ·cases h
 | cond o a b iha ihb =>
  intro s s' t h
  simp only [compC] at h
  split at h
  ·split at h
   ·rename_i h1
    split at h
    ·rename_i h2
     cases h
     exact Nat.le_trans (iha h1) (ihb h2)
    ·cases h
   ·cases h
  ·cases h
 | block id b ih =>
  intro s s' t h
  simp only [compC] at h
  split at h
  ·rename_i h1;cases h;exact ih h1
  ·cases h
 | loop b ih =>
  intro s s' t h
  simp only [compC] at h
  split at h
  ·rename_i h1;cases h;exact ih h1
  ·cases h
 | scope b ih =>
  intro s s' t h
  simp only [compC] at h
  split at h
  ·rename_i h1;cases h;exact ih h1
  ·cases h
 | _=>intro s s' t h;simp only [compC] at h;cases h
theorem LQ_then {Q:PEx→X→Prop} {K:X→Prop} {Kw:Act→World→Prop} (hK:∀ x a w H A,SimH c x a w H A→K x→Kw a w):∀ e a w,LQ c Kp (thenP K Q) e a w→Exit.then Kw (LQ c Kp Q) e a w
 | .normal,a,w,⟨x,H,A,h,hk⟩=>hK x a w H A h hk
 | .exit _,_,_,h=>h
 | .goto _,_,_,h=>h
 | .ret,_,_,h=>h
 | .panic _,_,_,h=>h
 | .outgrown,_,_,h=>h
theorem zpF (hp:zlm c.n0 Kp) (hE:∀ id,c.E0 id≠.gone→id < c.n0) {σ:List (Nat×Nat)}:∀ {code:Code} {s s':Nat} {t:C},(∀ k,s≤k→c.n0≤sg σ k)→compC P c.N c.G σ s code=some (t,s')→∀ {Q:PEx→X→Prop} {x:X} {a:Act} {w:World} {H:Nat→Value} {A:Nat→Nat→Prop},SimH c x a w H A→wpC P c.G c.n0 Kp t Q x→code.wp P (LQ c Kp Q) a w:=by
 intro code
 induction code with
 | skip=>intro s s' t hs h Q x a w H A hx hw;cases h;exact wp_skip ⟨x,H,A,hx,hw⟩
 | label l=>intro s s' t hs h Q x a w H A hx hw;cases h;exact wp_label ⟨x,H,A,hx,hw⟩
 | exit l=>intro s s' t hs h Q x a w H A hx hw;cases h;exact wp_exit ⟨x,H,A,hx,hw⟩
 | ret=>intro s s' t hs h Q x a w H A hx hw;cases h;exact wp_ret ⟨x,H,A,hx,hw⟩
 | region id ops draw =>
  intro s s' t hs h Q x a w H A hx hw
  simp only [compC] at h
  split at h
  ·rename_i ht;cases h;exact reg_ok hp hs ht hx hw
  ·cases h
 | seq p q ihp ihq =>
  intro s s' t hs h Q x a w H A hx hw
  simp only [compC] at h
  split at h
  ·rename_i h1
   split at h
   ·rename_i h2
    cases h
    exact wp_seq (Code.wp_mono (LQ_then (fun x' a' w' H' A' hx' hK=>ihq (fun k hk=>hs k (Nat.le_trans (zg2 h1) hk)) h2 hx' hK)) (ihp hs h1 hx hw))
   ·cases h
  ·cases h
 | cond o p q ihp ihq =>
  intro s s' t hs h Q x a w H A hx hw
  simp only [compC] at h
  split at h
  ·rename_i o' ho
   split at h
   ·rename_i h1
    split at h
    ·rename_i h2
     cases h
     have h3:=zaf hx ho
     simp only [wpC] at hw
     split at hw
     ·rename_i hb
      rw [hb] at h3
      have h4:=h3.data rfl
      generalize hv:a.eval o=v at h4
      cases h4
      exact wp_cond_true hv (ihp hs h1 hx hw)
     ·rename_i hb
      rw [hb] at h3
      have h4:=h3.data rfl
      generalize hv:a.eval o=v at h4
      cases h4
      exact wp_cond_false hv (ihq (fun k hk=>hs k (Nat.le_trans (zg2 h1) hk)) h2 hx hw)
     ·exact hw.elim
    ·cases h
   ·cases h
  ·cases h
 | block id b ih =>
  intro s s' t hs h Q x a w H A hx hw
  simp only [compC] at h
  split at h
  ·rename_i h1
   cases h
   refine wp_block (Code.wp_mono ?_ (ih hs h1 hx hw))
   rintro (_ | i | _ | _ | _ | _) a' w' hq
   ·exact hq
   ·obtain ⟨x',H',A',hx',hk⟩:=hq
    simp only [zuY] at hk
    simp only [Exit.inBlock]
    split at hk
    ·rename_i he;rw [if_pos he];exact ⟨x',H',A',hx',hk⟩
    ·rename_i he;rw [if_neg he];exact ⟨x',H',A',hx',hk⟩
   ·exact hq
   ·exact hq
   ·exact hq
   ·exact hq
  ·cases h
 | loop b ih =>
  intro s s' t hs h Q x a w H A hx hw
  simp only [compC] at h
  split at h
  ·rename_i h1
   cases h
   obtain ⟨fz,live,keep,I,μ,ho,hI,hround⟩:=hw
   intro bb k cs
   have key:∀ (n:Nat) (y:X) (a':Act) (w':World) (H':Nat→Value) (A':Nat→Nat→Prop),μ y=n→I y→SimH c y a' w' H' A' →
     ∃ e a₂ w₂,LQ c Kp Q e a₂ w₂∧Arrives P (lone (bb.at a' (.code b :: .inLoop b :: k)) cs w') bb k cs e a₂ w₂:=by
    intro n
    induction n using Nat.strongRecOn with
    | _ n ihn =>
     intro y a' w' H' A' hn hIy hy
     have hb:=ih hs h1 hy (hround y hIy)
     obtain ⟨e,a₁,w₁,hq,harr⟩:=hb bb (.inLoop b :: k) cs
     cases e with
     | normal =>
      obtain ⟨y',H1,A1,hy',ho',hI',hlt⟩:=hq
      obtain ⟨e₂,a₂,w₂,hq₂,harr₂⟩:=ihn _ (hn ▸ hlt) _ a₁ w₁ H1 A1 rfl hI' ((hy'.frz fz).scrub hE ho')
      exact ⟨e₂,a₂,w₂,hq₂,.of_steps (Steps.trans harr (.one step_inLoop)) harr₂⟩
     | exit id=>exact ⟨.exit id,a₁,w₁,(hq:LQ c Kp Q (.exit id) a₁ w₁),.pass (x:=.inLoop b) rfl (fun _ _=>.inl (by simp)) harr⟩
     | goto l=>exact hq.elim
     | ret=>exact ⟨.ret,a₁,w₁,(hq:LQ c Kp Q .ret a₁ w₁),.pass (x:=.inLoop b) rfl (fun _ _=>.inl (by simp)) harr⟩
     | panic ch=>exact ⟨.panic ch,a₁,w₁,(hq:LQ c Kp Q (.panic ch) a₁ w₁),.pass (x:=.inLoop b) rfl (fun _ _=>.inl (by simp)) harr⟩
     | outgrown=>exact hq.elim
   obtain ⟨e,a',w',hq,harr⟩:=key _ _ a w H A rfl hI ((hx.frz fz).scrub hE ho)
   exact ⟨e,a',w',hq,.of_steps (.one step_loop) harr⟩
  ·cases h
 | scope b ih =>
  intro s s' t hs h Q x a w H A hx hw
  simp only [compC] at h
  split at h
  ·rename_i h1
   cases h
   refine wp_scope_straight (Code.wp_mono ?_ (ih hs h1 hx hw))
   rintro (_ | i | _ | _ | _ | _) a' w' hq<;>exact hq
  ·cases h
 | _=>intro s s' t hs h;simp only [compC] at h;cases h
end
inductive RV where
 | tmp (t:Nat)
 | cell (t:Nat) (ag:Bool) (n:Nat)
def resT (P:Program) (N:Nat):List ResultVar→Option (List RV)
 | []=>some []
 | .tmp t :: r=>if t < N then (match resT P N r with | some l=>some (.tmp t :: l) | none=>none) else none
 | .cell t T :: r=>if t < N then (match zes P T,resT P N r with | some (ag,n),some l=>some (.cell t ag n :: l) | _,_=>none) else none
def rvV (x:X):RV→V
 | .tmp t=>norm1 (res x.st (x.env t))
 | .cell t ag n=>match semM 0 (.load ag n (.t t)) x.env x.st with
  | some (v,_)=>norm1 (res x.st v)
  | none=>.any
structure FC where
 N:Nat
 code:C
 res:List RV
def compF (P:Program) (G:Nat→V) (σ:List (Nat×Nat)) (s:Nat) (f:FuncId):Option FC:=match P.funcs[f]? with
 | some fn=>if fn.name == "runtime.NumGoroutine" then none else match fn.body with
  | some code=>match compC P fn.ntmps G σ s code,resT P fn.ntmps fn.results.toList with
   | some (t,_),some l=>some ⟨fn.ntmps,t,l⟩
   | _,_=>none
  | none=>none
 | none=>none
def outV (res:List RV) (x:X):V:=match res with
 | [t]=>rvV x t
 | l=>.tup (l.map fun t=>rvV x t)
def zoh (res:List RV) (x:X):Bool:=match res with
 | [t]=>(rvV x t).data
 | l=>l.all fun t=>(rvV x t).data
def lentOf (n0:Nat) (st:Nat→Ent):List Ent:=(List.range n0).map st
def zf4 (n0:Nat) (st:Nat→Ent):Prop:=(lentOf n0 st).all (Ent.on fun k=>decide (k < n0))=true
def panK (n0:Nat) (R:POut→List Ent→Prop):V→(Nat→Ent)→Prop:=fun v st=>R (.panic v) (lentOf n0 st)∧zf4 n0 st
def retK (n0:Nat) (res:List RV) (R:POut→List Ent→Prop):PEx→X→Prop
 | .exit _,_=>False
 | _,x=>R (.ret (outV res x)) (lentOf n0 x.st)∧zoh res x=true∧zf4 n0 x.st
def zdh (args:List V) (ents:List Ent):X:=mkX ((List.range args.length).zip args) ((List.range ents.length).zip ents)
theorem zjW (args:List V) (t:Nat):look t ((List.range args.length).zip args)=args.getD t .any:=by
 have key:∀ (l:List V) (s:Nat),look t ((List.range' s l.length).zip l)=if s≤t then l.getD (t - s) .any else .any:=by
  intro l
  induction l with
  | nil=>intro s;simp [look]
  | cons v l ih =>
   intro s
   simp only [List.length_cons,List.range'_succ,List.zip_cons_cons,look,ih]
   by_cases h1:t=s
   ·subst h1;simp
   ·rw [if_neg h1]
    by_cases h2:s≤t
    ·have h3:s+1≤t:=by omega
     rw [if_pos h2,if_pos h3]
     obtain ⟨d,rfl⟩:∃ d,t=s+1+d:=⟨t - (s+1),by omega⟩
     rw [show s+1+d - s=d+1 by omega,show s+1+d - (s+1)=d by omega]
     simp
    ·rw [if_neg h2,if_neg (by omega)]
 have:=key args 0
 rwa [← List.range_eq_range',if_pos (Nat.zero_le _),Nat.sub_zero] at this
theorem ziw (args:List Ent) (t:Nat):lookE t ((List.range args.length).zip args)=args.getD t .gone:=by
 have key:∀ (l:List Ent) (s:Nat),lookE t ((List.range' s l.length).zip l)=if s≤t then l.getD (t - s) .gone else .gone:=by
  intro l
  induction l with
  | nil=>intro s;simp [lookE]
  | cons v l ih =>
   intro s
   simp only [List.length_cons,List.range'_succ,List.zip_cons_cons,lookE,ih]
   by_cases h1:t=s
   ·subst h1;simp
   ·rw [if_neg h1]
    by_cases h2:s≤t
    ·have h3:s+1≤t:=by omega
     rw [if_pos h2,if_pos h3]
     obtain ⟨d,rfl⟩:∃ d,t=s+1+d:=⟨t - (s+1),by omega⟩
     rw [show s+1+d - s=d+1 by omega,show s+1+d - (s+1)=d by omega]
     simp
    ·rw [if_neg h2,if_neg (by omega)]
 have:=key args 0
 rwa [← List.range_eq_range',if_pos (Nat.zero_le _),Nat.sub_zero] at this
theorem panOk_K (n0:Nat) (R:POut→List Ent→Prop):zlm n0 (panK n0 R):=fun v st st' h hk=>by
 have:lentOf n0 st'=lentOf n0 st:=List.map_congr_left fun k hk=>h k (by simpa using hk)
 unfold panK zf4 at *
 rw [this]
 exact hk
theorem zdK {n0:Nat} {st:Nat→Ent} {k:Nat} (h:k < n0):entF (lentOf n0 st) k=st k:=by simp [entF,lentOf,h]
theorem Mem.drop {c:Ctx} {st:Nat→Ent} {w:World} {H:Nat→Value} {A:Nat→Nat→Prop} (m:Mem c st w H A) (hE:∀ id,c.E0 id≠.gone→id < c.n0) (ho:zf4 c.n0 st):Mem c (entF (lentOf c.n0 st)) w H A:=by
 have hl:(lentOf c.n0 st).length=c.n0:=by simp [lentOf]
 have hg:∀ id,entF (lentOf c.n0 st) id≠.gone→id < c.n0∧st id≠.gone:=fun id h=>by
  rcases Nat.lt_or_ge id c.n0 with h1 | h1
  ·exact ⟨h1,by rwa [zdK h1] at h⟩
  ·exact absurd (zfs (by omega)) h
 have hcor:Cor (fun k=>decide (k < c.n0)) (fun k=>k) st H (entF (lentOf c.n0 st)) H:=⟨fun _ _=>rfl,fun k hk=>by rw [zmQ];exact zdK (by simpa using hk)⟩
 simp only [zf4,List.all_eq_true] at ho
 refine ⟨m.glo,m.kp,fun id=>?_,fun i j hij hi hj=>m.dis i j hij (hg i hi).2 (hg j hj).2,m.a00,m.a0,m.al, ?_,fun id b hid hgo=>m.lent id b hid (hg id hgo).2,fun id b hid hgo=>m.loc id b hid (hg id hgo).2,m.ext⟩
 ·rcases Nat.lt_or_ge id c.n0 with h1 | h1
  ·have:=RepEnt.ren hcor (m.ent id) (ho (st id) (by simp only [lentOf,List.mem_map,List.mem_range];exact ⟨id,h1,rfl⟩))
   rw [zmQ] at this
   rw [zdK h1]
   exact this
  ·rw [zfs (by omega)];trivial
 ·refine ⟨fun id T cs hi=>?_,fun id T z xs hi=>?_⟩
  ·rw [zdK (hE id (by rw [hi];simp))]
   exact m.out.blk id T cs hi
  ·rw [zdK (hE id (by rw [hi];simp))]
   exact m.out.row id T z xs hi
theorem run_cell {P:Program} {c:Ctx} {x:X} {a:Act} {w:World} {H:Nat→Value} {A:Nat→Nat→Prop} (h:SimH c x a w H A) {t T n:Nat} {ag:Bool} (ht:t < c.N) (hT:zes P T=some (ag,n)) (hd:(rvV x (.cell t ag n)).data=true) :
    ∃ xv,(do loadVar T (← asAddr (a.tmps.getD t Go.undef)):Sem Value).run P w=.ok xv w∧RepV w A (rvV x (.cell t ag n)) xv:=by
  unfold rvV at hd ⊢
  dsimp only at hd ⊢
  split at hd
  · rename_i v U hs
    have h1:=(zqO (P:=P) hT hs).1
    have hr:=h.env t ht
    have h1':ziW P T (x.env t) x.st=some v:=h1
    obtain ⟨xv,h2,h3⟩:=zlD h hr h1'
    refine ⟨xv, ?_,(zep (zcp h3)).data hd⟩
    rw [← h2]
    have hptr:∃ ad,a.tmps.getD t Go.undef=.pointer (some ad):=by
      generalize a.tmps.getD t Go.undef=tv at hr
      unfold ziW at h1'
      rw [hT] at h1'
      generalize x.env t=xt at hr h1'
      cases ag<;>(dsimp only at h1';cases xt<;>first | (cases h1';done) | skip)
      all_goals first
        | (rcases hr with ⟨b,_,_,rfl⟩ | hr
           · exact ⟨_,rfl⟩
           · cases hr
             exact ⟨_,rfl⟩)
        | (rcases hr with ⟨b,_,_,rfl⟩ | hr
           · exact ⟨_,rfl⟩
           · cases hr)
        | (rcases hr with hr | hr
           · exact hr.elim
           · cases hr
             exact ⟨_,rfl⟩)
    obtain ⟨ad,had⟩:=hptr
    rw [had]
    simp [asAddr,Instr.loadAt,Instr.sureAddr]
  · cases hd
theorem zpc {P:Program} {c:Ctx} {x:X} {a:Act} {w:World} {H:Nat→Value} {A:Nat→Nat→Prop} (h:SimH c x a w H A) {fn:Func} {l:List RV} (hr:resT P c.N fn.results.toList=some l) (ho:zoh l x=true) :
  ∃ xv,(results fn a.tmps).run P w=.ok xv w∧RepV w A (outV l x) xv:=by
 have key:∀ (g:ResultVar→Sem Value) (hg1:∀ t,g (.tmp t)=pure (a.tmps.getD t Go.undef)) (hg2:∀ t T,g (.cell t T)=(do loadVar T (← asAddr (a.tmps.getD t Go.undef)))) (rs:List ResultVar) (l:List RV),resT P c.N rs=some l→(∀ t∈l,(rvV x t).data=true) →
   ∃ vs,(rs.mapM g).run P w=.ok vs w∧RepL w A (l.map (rvV x)) vs:=by
  intro g hg1 hg2 rs
  induction rs with
  | nil=>intro l h _;cases h;exact ⟨[],by simp,.nil⟩
  | cons r rs ih =>
   intro l hl hd
   cases r with
   | tmp t =>
    simp only [resT] at hl
    split at hl
    ·rename_i hlt
     split at hl
     ·rename_i l' hl'
      cases hl
      obtain ⟨vs,h1,h2⟩:=ih l' hl' (fun u hu=>hd u (by simp [hu]))
      refine ⟨a.tmps.getD t Go.undef :: vs, ?_,.cons _ _ _ _ ((zep (zcp (h.env t hlt))).data (hd (.tmp t) (by simp))) h2⟩
      rw [List.mapM_cons,hg1]
      simp [h1]
     ·cases hl
    ·cases hl
   | cell t T =>
    simp only [resT] at hl
    split at hl
    ·rename_i hlt
     split at hl
     ·rename_i ag n l' hT hl'
      cases hl
      obtain ⟨vs,h1,h2⟩:=ih l' hl' (fun u hu=>hd u (by simp [hu]))
      obtain ⟨xv,h3,h4⟩:=run_cell (P:=P) h hlt hT (hd (.cell t ag n) (by simp))
      refine ⟨xv :: vs, ?_,.cons _ _ _ _ h4 h2⟩
      rw [List.mapM_cons,hg2,Sem.run_bind,h3]
      simp [h1]
     ·cases hl
    ·cases hl
 have hall:∀ t∈l,(rvV x t).data=true:=by
  unfold zoh at ho
  split at ho
  ·intro t ht;simp at ht;subst ht;exact ho
  ·simpa [List.all_eq_true] using ho
 have hfr:fn.results=fn.results.toList.toArray:=by simp
 have hrun:∃ vs,(results fn a.tmps).run P w=.ok (if h:vs.toArray.size=1 then vs.toArray[0] else .tuple vs.toArray) w∧RepL w A (l.map (rvV x)) vs:=by
  unfold results
  rw [hfr]
  simp only [Sem.run_bind,List.mapM_toArray,Sem.run_map]
  obtain ⟨vs,h1,h2⟩:=key (fun | .tmp t=>pure (a.tmps.getD t Go.undef) | .cell ad t=>do loadVar t (← asAddr (a.tmps.getD ad Go.undef))) (fun _=>rfl) (fun _ _=>rfl) _ l hr hall
  refine ⟨vs, ?_,h2⟩
  erw [h1]
  simp
 obtain ⟨vs,h1,h2⟩:=hrun
 rw [h1]
 refine ⟨_,rfl, ?_⟩
 have hl:=zcu h2
 match l,h2,hl with
 | [t],.cons _ _ v _ h3 .nil,_=>exact h3
 | [],.nil,_=>exact .tup _ _ .nil
 | t :: u :: r,h2,hl =>
  rw [dif_neg (by simp at hl ⊢;omega)]
  exact .tup _ _ h2
theorem ztl {P:Program} {G:Nat→V} {σ:List (Nat×Nat)} {s:Nat} {f:FuncId} {F:FC} (hc:compF P G σ s f=some F) {args:List V} {ents:List Ent} (hs:∀ k,s≤k→ents.length≤sg σ k) (ha:args.length≤F.N) {R:POut→List Ent→Prop}
  (h:wpC P G ents.length (panK ents.length R) F.code (retK ents.length F.res R) (zdh args ents)):zcI P G f args ents R:=by
 unfold compF at hc
 split at hc
 ·rename_i fn hf
  split at hc
  ·cases hc
  ·rename_i hname
   split at hc
   ·rename_i code hb
    split at hc
    ·rename_i t s' l h1 h2
     cases hc
     refine ⟨by simp only [zgF,hf,Bool.and_eq_true,Bool.not_eq_true'];exact ⟨by simpa using hname,by rw [hb];rfl⟩,fun w H A vals m hv=>?_⟩
     refine calls_of_wp hf hb ?_
     let c:Ctx:=⟨w,A,ents.length,H,entF ents,G,fn.ntmps,[]⟩
     have hE:∀ id,c.E0 id≠.gone→id < c.n0:=fun id hg=>Nat.lt_of_not_le (fun hle=>hg (zfs hle))
     have hlen:=zct hv
     have hst:(zdh args ents).st=entF ents:=funext fun id=>ziw ents id
     have hm:Mem c (zdh args ents).st w H A:=by rw [hst];exact m.forN fn.ntmps
     have hva:vals.size=args.length:=by simpa using hlen.symm
     have hsim:SimH c (zdh args ents) { tmps:=vals++Array.replicate (fn.ntmps - vals.size) Go.undef,defers:=[] } w H A:=by
      refine hm.sim (by simp;show vals.size+(fn.ntmps - vals.size)=fn.ntmps;dsimp only at ha;omega) rfl (fun t ht=>?_)
      rw [hst]
      have he:(zdh args ents).env t=args.getD t .any:=zjW args t
      rw [he]
      by_cases hta:t < args.length
      ·obtain ⟨u,h3,h4⟩:=zfD hv t args[t] (List.getElem?_eq_getElem hta)
       have h5:(vals++Array.replicate (fn.ntmps - vals.size) Go.undef).getD t Go.undef=u:=by
        have h6:vals[t]?=some u:=by simpa using h3
        simp only [Array.getD_eq_getD_getElem?]
        rw [Array.getElem?_append_left (by omega),h6]
        rfl
       simp only []
       rw [h5]
       simpa [List.getElem?_eq_getElem hta] using h4
      ·have:args.getD t .any=.any:=by simp [List.getElem?_eq_none (Nat.le_of_not_lt hta)]
       rw [this];trivial
     refine Code.wp_mono ?_ (zpF (c:=c) (panOk_K ents.length R) hE hs h1 hsim h)
     have fin:∀ (x:X) (a':Act) (w':World) (H':Nat→Value) (A':Nat→Nat→Prop),SimH c x a' w' H' A'→R (.ret (outV l x)) (lentOf ents.length x.st)∧zoh l x=true∧zf4 ents.length x.st →
       a'.defers=[]∧∃ v,(results fn a'.tmps).run P w'=.ok v w'∧∃ o es H' A',R o es∧es.length=ents.length∧(∀ e∈es,e.on (fun k=>decide (k < ents.length))=true)∧Mem ⟨w,A,ents.length,H,entF ents,G,0,[]⟩ (entF es) w' H' A'∧OutRep w' A' o (.returned v):=by
      intro x a' w' H' A' hx hq
      obtain ⟨xv,h3,h4⟩:=zpc (P:=P) hx h2 hq.2.1
      exact ⟨hx.df,xv,h3,_,_,H',A',hq.1,by simp [lentOf],by simpa [zf4,List.all_eq_true] using hq.2.2,(hx.mem.drop hE hq.2.2).forN 0,xv,rfl,h4⟩
     rintro (_ | i | _ | _ | ch | _) a' w' hq
     ·obtain ⟨x,H',A',hx,hq⟩:=hq
      exact fin x a' w' H' A' hx hq
     ·obtain ⟨x,H',A',hx,hq⟩:=hq
      exact hq.elim
     ·exact hq.elim
     ·obtain ⟨x,H',A',hx,hq⟩:=hq
      exact fin x a' w' H' A' hx hq
     ·obtain ⟨x,H',A',v,xv,rfl,hrep,hx,hq⟩:=hq
      exact ⟨hx.df,_,_,H',A',hq.1,by simp [lentOf],by simpa [zf4,List.all_eq_true] using hq.2,(hx.mem.drop hE hq.2).forN 0,xv,rfl,hrep⟩
     ·exact hq.elim
    ·cases hc
   ·cases hc
 ·cases hc
end Vm
namespace Vm
open Go Go.RowKit
def zE:List V:=[.int .i64 0,.str [],.int .i64 0,.int .i64 0,.str [],.str [],.str [],.int .i64 0,.bool false,.bool false,.nils]
def zs (d:Nat) (m:M) (s:Nat) (t:RT):RT:=.step ⟨some d,m,s,none,[]⟩ t
def za (o:BinOp) (a b:O):M:=.arith o false false false a b
def zl (a:O):M:=.load false 1 a
def zc (f:Nat) (l:List O):M:=.call true (.c (.fn f [] [])) l
end Vm

