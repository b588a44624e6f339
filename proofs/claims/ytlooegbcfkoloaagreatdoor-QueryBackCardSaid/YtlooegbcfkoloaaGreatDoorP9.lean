/- Part of the proof: see the last text. -/
import Derived.Test.YtlooegbcfkoloaaGreatDoorP8
set_option maxRecDepth 20000
set_option linter.unusedVariables false
set_option linter.unusedSimpArgs false
namespace Vm
open Go Go.RowKit
section
variable {P:Program} {c:Ctx} {x:X} {a:Act} {w:World} {H:Nat→Value} {A:Nat→Nat→Prop}
theorem zck {b:Builtin} {cl:Call} {ty:TypeId} (hb:cl.callee=.builtin b) (d:Option Tmp) (pos:String) (af:Array Edge) (gd:Option (Nat×Bool)) :
  (execOp a.eval ⟨d,.call cl,ty,pos,af,gd⟩).run P w=(builtin b cl.argTypes ty (cl.args.map fun | .const _=>true | _=>false) (cl.args.map a.eval)).run P w:=by
 obtain ⟨callee,args,tys⟩:=cl
 cases hb
 simp [execOp,resolve,invoke]
 rfl
theorem ztr (h:SimH c x a w H A) {slot:Nat} {o:Oper} {m:M} {v:V} {U:Upds} {y:Operand} (ho:o.op=.move y∨o.op=.assign y) (hm:compM P c.N c.G (.move y)=some m) (hs:semM slot m x.env x.st=some (v,U)):Op1 P c x a w o v U:=by
 obtain ⟨z,hz,hm⟩:=zab hm
 cases hm
 simp only [semM] at hs
 cases hs
 refine ⟨.value (a.eval y),a.eval y,w,H,A, ?_,.inl rfl,h.putv _ _ _ (zaf h hz)⟩
 rcases ho with ho | ho<;>simp [execOp,ho]
set_option maxHeartbeats 4000000 in
theorem op_ok (h:SimH c x a w H A) {slot:Nat} (hid:c.n0≤slot) {o:Oper} {m:M} {v:V} {U:Upds} (hm:compM P c.N c.G o.op=some m) (hs:semM slot m x.env x.st=some (v,U)):Op1 P c x a w o v U:=by
 obtain ⟨dst,op,type,pos,after,guard⟩:=o
 cases op
 case move y=>exact ztr h (.inl rfl) hm hs
 case assign y=>exact ztr h (.inr rfl) hm hs
 case pick p q r =>
  obtain ⟨p',hp,hm⟩:=zab hm
  obtain ⟨q',hq,hm⟩:=zab hm
  obtain ⟨r',hr,hm⟩:=zab hm
  cases hm
  simp only [semM] at hs
  have h1:=zaf h hp
  generalize p'.ev x.env=pv at hs h1
  cases pv<;>first | (cases hs;done) | skip
  cases hs
  rename_i t
  have h2:=h1.data rfl
  generalize hpv:a.eval p=pv' at h2
  cases h2
  refine ⟨.value (if t=true then a.eval q else a.eval r),_,w,H,A,by simp [execOp,hpv,asBool],.inl rfl,h.putv _ _ _ ?_⟩
  cases t
  ·exact zaf h hr
  ·exact zaf h hq
 case alloc T =>
  simp only [compM] at hm
  split at hm
  ·rename_i cs hz
   cases hm
   refine zi9 (s:=Instr.alloc T true (.tuple #[])) rfl (zo6 h hid dst ?_)
   simp only [semM] at hs
   unfold zmG
   rw [hz]
   exact hs
  ·cases hm
 case box T y =>
  obtain ⟨z,hz,hm⟩:=zab hm
  cases hm
  exact zi9 (s:=Instr.box T (a.eval y)) rfl (zsP h hid (zaf h hz) dst hs)
 case build T ps =>
  simp only [compM] at hm
  split at hm
  ·rename_i cs pl h1 h2
   split at hm
   ·rename_i q hq
    cases hm
    simp only [semM] at hs
    split at hs
    ·split at hs
     ·rename_i r hr
      cases hs
      exact zbO h (s:=Instr.build T (ps.map fun (i,y)=>(i,a.eval y))) rfl (build_ok h h1 h2 hq hr)
     ·cases hs
    ·split at hs
     ·rename_i r hr
      cases hs
      exact zbO h (s:=Instr.build T (ps.map fun (i,y)=>(i,a.eval y))) rfl (zuW h h1 h2 hq hr)
     ·cases hs
   ·cases hm
  ·cases hm
 case buildSlice T len ps =>
  simp only [compM] at hm
  split at hm
  ·rename_i el z b xs h1 h2
   split at hm
   ·rename_i hr
    cases hm
    simp only [semM] at hs
    split at hs
    ·rename_i hc
     cases hs
     exact zi9 (s:=Instr.buildSlice T len (ps.map fun (i,y)=>(i,a.eval y))) rfl (zuX h hid h1 h2 hr hc.1 hc.2.1 hc.2.2 dst)
    ·cases hs
   ·cases hm
  ·cases hm
 case load T y =>
  simp only [compM] at hm
  split at hm
  ·rename_i ag n hT
   obtain ⟨z,hz,hm⟩:=zab hm
   cases hm
   obtain ⟨h1,rfl⟩:=zqO hT hs
   exact zbO h (s:=Instr.loadAt T (a.eval y)) rfl (zlD h (zaf h hz) h1)
  ·cases hm
 case store T y z =>
  simp only [compM] at hm
  split at hm
  ·rename_i ag n hT
   obtain ⟨y',hy,hm⟩:=zab hm
   obtain ⟨z',hz,hm⟩:=zab hm
   cases hm
   obtain ⟨h1,rfl⟩:=zsH (by split<;>simp_all [stN]) hT hs
   obtain ⟨w',H',A',h2,h3⟩:=zo1 h (zaf h hy) (zaf h hz) dst h1
   exact ⟨.skip,Go.undef,w',H',A',by simp [execOp,h2],.inr ⟨rfl,rfl⟩,h3⟩
  ·cases hm
 case nilCheck y =>
  obtain ⟨z,hz,hm⟩:=zab hm
  cases hm
  simp only [semM] at hs
  have h1:=zaf h hz
  generalize hyv:a.eval y=yv at h1
  generalize z.ev x.env=zv at hs h1
  have h0:=h1
  refine ⟨.value yv,yv,w,H,A, ?_,.inl rfl, ?_⟩
  ·cases zv<;>first | (cases hs;done) | skip
   ·cases h1.data rfl
    simp [execOp,hyv]
   ·rcases h1 with ⟨b,_,_,rfl⟩ | h1
    ·simp [execOp,hyv]
    ·cases h1
   ·obtain ⟨fs,cs,rfl,_⟩:=h1
    simp [execOp,hyv]
  ·cases zv<;>first | (cases hs;done) | (cases hs;exact h.putv _ _ _ h0)
 case binOp op T y z T' =>
  obtain ⟨y',hy,hm⟩:=zab hm
  obtain ⟨z',hz,hm⟩:=zab hm
  cases hm
  obtain ⟨h1,rfl⟩:=zu7 hs
  exact zbO h (s:=(do eqGuard op T y z (a.eval y) (a.eval z);binOp op T (a.eval y) (a.eval z):Sem Value)) rfl (zsQ (zaf h hy) (zaf h hz) h1)
 case unOp op T y =>
  obtain ⟨y',hy,hm⟩:=zab hm
  cases hm
  obtain ⟨h1,rfl⟩:=one1_some hs
  exact zbO h (s:=Op.unary op (a.eval y)) rfl (semUn_ok (zaf h hy) h1)
 case convert s d y =>
  simp only [compM] at hm
  split at hm
  ·rename_i u k h1 h2
   obtain ⟨y',hy,hm⟩:=zab hm
   cases hm
   simp only [semM] at hs
   have h3:=zaf h hy
   generalize y'.ev x.env=yv at hs h3
   cases yv<;>first | (cases hs;done) | skip
   cases hs
   exact zbO h (s:=convert s d (a.eval y)) rfl (zlF (P:=P) (s:=s) (d:=d) h3 (by unfold zmE;rw [h1,h2]))
  ·rename_i u h1 h2
   obtain ⟨y',hy,hm⟩:=zab hm
   cases hm
   simp only [semM] at hs
   have h3:=zaf h hy
   generalize y'.ev x.env=yv at hs h3
   cases yv<;>first | (cases hs;done) | skip
   cases hs
   exact zbO h (s:=convert s d (a.eval y)) rfl (zlF (P:=P) (s:=s) (d:=d) h3 (by unfold zmE;rw [h1,h2]))
  ·cases hm
 case makeInterface T y =>
  simp only [compM] at hm
  split at hm
  ·rename_i hT
   obtain ⟨y',hy,hm⟩:=zab hm
   cases hm
   simp only [semM] at hs
   split at hs
   ·rename_i hd
    cases hs
    exact zbO h (s:=Instr.makeInterface T (a.eval y)) rfl (zo3 (P:=P) (t:=T) (zep (zcp (zaf h hy))) (by unfold zmD;rw [if_pos ⟨hT,hd⟩]))
   ·cases hs
  ·cases hm
 case makeFunc f first cap =>
  cases f with
  | func f' =>
   simp only [compM] at hm
   split at hm
   ·rename_i fs cs h1 h2
    cases hm
    simp only [semM] at hs
    split at hs
    ·rename_i hc
     cases hs
     have h3:=zmN (zer h h1) hc.1
     have h4:=zmN (zer h h2) hc.2
     refine ⟨.value (.func (.func f') (first.map a.eval) (cap.map a.eval)),_,w,H,A, ?_,.inl rfl,h.putv _ _ _ ⟨_,_,rfl,by simpa using h3,by simpa using h4⟩⟩
     simp [execOp,Instr.makeFunc]
    ·cases hs
   ·cases hm
  | _=>simp only [compM] at hm;cases hm
 case slice T y lo hi mx =>
  cases mx with
  | some _=>simp only [compM] at hm;cases hm
  | none =>
   simp only [compM] at hm
   split at hm
   ·rename_i lo' hi' hlo hhi
    split at hm
    ·rename_i hT
     obtain ⟨y',hy,hm⟩:=zab hm
     cases hm
     simp only [semM] at hs
     have h3:=zaf h hy
     generalize y'.ev x.env=yv at hs h3
     cases yv<;>first | (cases hs;done) | skip
     obtain ⟨h1,rfl⟩:=one1_some hs
     exact zbO h (s:=Instr.sliceAt T (a.eval y) (lo.map a.eval) (hi.map a.eval) none) rfl (zp9 (P:=P) (t:=T) h3 (zfZ h hlo) (zfZ h hhi) (by unfold semSl;simp only [if_pos hT];exact h1))
    ·split at hm
     ·rename_i z hz
      obtain ⟨y',hy,hm⟩:=zab hm
      cases hm
      simp only [semM] at hs
      have h3:=repT_norm0 (zcp (zaf h hy))
      generalize norm0 (res x.st (y'.ev x.env))=yv at hs h3
      cases yv<;>first | (cases hs;done) | skip
      obtain ⟨h1,rfl⟩:=one1_some hs
      exact zbO h (s:=Instr.sliceAt T (a.eval y) (lo.map a.eval) (hi.map a.eval) none) rfl (zp9 (P:=P) (t:=T) h3 (zfZ h hlo) (zfZ h hhi) (by unfold semSl;simp only [hz];exact h1))
     ·cases hm
   ·cases hm
 case fieldAddr s y f =>
  simp only [compM] at hm
  split at hm
  ·rename_i off n ag hf
   obtain ⟨y',hy,hm⟩:=zab hm
   cases hm
   simp only [semM] at hs
   have h3:=zaf h hy
   generalize y'.ev x.env=yv at hs h3
   cases yv<;>first | (cases hs;done) | skip
   all_goals
    cases hs
    exact zbO h (s:=Instr.fieldAt s (a.eval y) f) rfl (zkn (P:=P) (s:=s) (f:=f) h3 (by unfold zgr;simp only [hf]))
  ·cases hm
 case field s y f =>
  simp only [compM] at hm
  split at hm
  ·rename_i off n ag hf
   obtain ⟨y',hy,hm⟩:=zab hm
   cases hm
   have h3:=zaf h hy
   have h4:zjP P s (y'.ev x.env) f=some v∧U=[]:=by
    unfold zjP
    rw [hf]
    cases ag
    ·simp only [semM] at hs
     generalize y'.ev x.env=yv at hs
     cases yv<;>first | (cases hs;done) | exact one1_some hs
    ·simp only [semM] at hs
     generalize y'.ev x.env=yv at hs
     cases yv<;>first | (cases hs;done) | skip
     dsimp only at hs
     dsimp only
     split at hs
     ·rename_i h5;rw [if_pos h5];cases hs;exact ⟨rfl,rfl⟩
     ·cases hs
   obtain ⟨h4,rfl⟩:=h4
   exact zbO h (s:=Instr.field s (a.eval y) f) rfl (zo4 (P:=P) (s:=s) (f:=f) h3 h4)
  ·cases hm
 case indexAddr T y i =>
  simp only [compM] at hm
  split at hm
  ·rename_i z hz
   obtain ⟨y',hy,hm⟩:=zab hm
   obtain ⟨i',hi,hm⟩:=zab hm
   cases hm
   have h3:=repT_norm0 (zcp (zaf h hy))
   have h4:=zaf h hi
   have h5:zeZ P T (norm0 (res x.st (y'.ev x.env))) (i'.ev x.env)=some v∧U=[]:=by
    unfold zeZ
    rw [hz]
    simp only [semM] at hs
    generalize norm0 (res x.st (y'.ev x.env))=yv at hs
    generalize i'.ev x.env=iv at hs
    cases yv<;>first | (cases hs;done) | skip
    cases iv<;>first | (cases hs;done) | skip
    dsimp only at hs
    dsimp only
    split at hs
    ·rename_i e he
     simp only [he]
     split at hs
     ·rename_i h6;rw [if_pos h6];cases hs;exact ⟨rfl,rfl⟩
     ·cases hs
    ·cases hs
   obtain ⟨h5,rfl⟩:=h5
   exact zbO h (s:=Instr.indexAt T (a.eval y) (a.eval i)) rfl (zkm (P:=P) (t:=T) h3 h4 h5)
  ·cases hm
 case index T y i =>
  simp only [compM] at hm
  split at hm
  ·rename_i hT
   obtain ⟨y',hy,hm⟩:=zab hm
   obtain ⟨i',hi,hm⟩:=zab hm
   cases hm
   have h5:zjO P T (y'.ev x.env) (i'.ev x.env)=some v∧U=[]:=by
    unfold zjO
    rw [hT]
    simp only [semM] at hs
    generalize y'.ev x.env=yv at hs
    generalize i'.ev x.env=iv at hs
    cases yv<;>first | (cases hs;done) | skip
    cases iv<;>first | (cases hs;done) | skip
    dsimp only at hs
    dsimp only
    split at hs
    ·rename_i e he
     simp only [he]
     split at hs
     ·rename_i h6;rw [if_pos h6];cases hs;exact ⟨rfl,rfl⟩
     ·cases hs
    ·cases hs
   obtain ⟨h5,rfl⟩:=h5
   exact zbO h (s:=Instr.index T (a.eval y) (a.eval i)) rfl (zo2 (P:=P) (t:=T) (zaf h hy) (zaf h hi) h5)
  ·cases hm
 case typeAssert y S T ok =>
  simp only [compM] at hm
  split at hm<;>first | (cases hm;done) | skip
  rename_i hT
  cases ok with
  | true =>
   dsimp only at hm
   split at hm<;>first | (cases hm;done) | skip
   rename_i z hz
   obtain ⟨y',hy,hm⟩:=zab hm
   cases hm
   obtain ⟨h1,rfl⟩:=one1_some hs
   exact zbO h (s:=Instr.typeAssert (a.eval y) S T true) rfl (znN (ok:=true) hT ⟨z,hz,rfl⟩ (zaf h hy) h1)
  | false =>
   dsimp only at hm
   obtain ⟨y',hy,hm⟩:=zab hm
   cases hm
   obtain ⟨h1,rfl⟩:=one1_some hs
   exact zbO h (s:=Instr.typeAssert (a.eval y) S T false) rfl (znN (ok:=false) hT rfl (zaf h hy) h1)
 case extract y i =>
  obtain ⟨y',hy,hm⟩:=zab hm
  cases hm
  have h5:zqc (y'.ev x.env) i=some v∧U=[]:=by
   simp only [semM] at hs
   unfold zqc
   generalize y'.ev x.env=yv at hs
   cases yv<;>first | (cases hs;done) | exact one1_some hs
  obtain ⟨h5,rfl⟩:=h5
  exact zbO h (s:=Instr.extract (a.eval y) i) rfl (zsO (P:=P) (zaf h hy) h5)
 case call cl =>
  simp only [compM] at hm
  split at hm
  ·split at hm
   ·obtain ⟨y',hy,hm⟩:=zab hm
    cases hm
    simp only [semM] at hs
    cases hs
   ·cases hm
  ·rename_i b hb
   split at hm
   ·rename_i y T hargs htys
    split at hm
    ·rename_i hT
     obtain ⟨y',hy,hm⟩:=zab hm
     cases hm
     have h3:=zaf h hy
     have h5:zlE P T (y'.ev x.env)=some v∧U=[]:=by
      simp only [semM] at hs
      unfold zlE
      generalize y'.ev x.env=yv at hs
      cases yv<;>first | (cases hs;done) | skip
      cases hs
      simp only [if_pos hT,and_self]
     obtain ⟨h5,rfl⟩:=h5
     obtain ⟨xv,h6,h7⟩:=znO (P:=P) (ty:=type) h3 h5
     have ha:cl.args=#[y]:=by rw [← hargs]
     have ht:cl.argTypes=#[T]:=by rw [← htys]
     exact ⟨.value xv,xv,w,H,A,by rw [zck hb];simp [ha,ht,builtin,h6],.inl rfl,h.putv _ _ _ h7⟩
    ·split at hm
     ·rename_i hT
      obtain ⟨y',hy,hm⟩:=zab hm
      cases hm
      have h3:=repT_norm0 (zcp (zaf h hy))
      have h5:zlE P T (norm0 (res x.st (y'.ev x.env)))=some v∧U=[]:=by
       simp only [semM] at hs
       unfold zlE
       generalize norm0 (res x.st (y'.ev x.env))=yv at hs
       cases yv<;>first | (cases hs;done) | skip
       cases hs
       simp only [if_pos hT,and_self]
      obtain ⟨h5,rfl⟩:=h5
      obtain ⟨xv,h6,h7⟩:=znO (P:=P) (ty:=type) h3 h5
      have ha:cl.args=#[y]:=by rw [← hargs]
      have ht:cl.argTypes=#[T]:=by rw [← htys]
      exact ⟨.value xv,xv,w,H,A,by rw [zck hb];simp [ha,ht,builtin,h6],.inl rfl,h.putv _ _ _ h7⟩
     ·cases hm
   ·rename_i s y T T' hargs htys
    split at hm
    ·rename_i hTT
     subst hTT
     split at hm
     ·rename_i el z b hr
      obtain ⟨s',hs',hm⟩:=zab hm
      obtain ⟨y',hy,hm⟩:=zab hm
      cases hm
      have h5:=appT_eq (P:=P) hr hs
      obtain ⟨xv,w',H',A',h6,h7⟩:=znQ (P:=P) (ty:=type) h hid (zaf h hs') (repT_norm0 (zcp (zaf h hy))) dst h5
      have ha:cl.args=#[s,y]:=by rw [← hargs]
      have ht:cl.argTypes=#[T,T]:=by rw [← htys]
      exact ⟨.value xv,xv,w',H',A',by rw [zck hb];simp [ha,ht,builtin,h6],.inl rfl,h7⟩
     ·cases hm
    ·cases hm
   ·rename_i y z hargs
    obtain ⟨y',hy,hm⟩:=zab hm
    obtain ⟨z',hz,hm⟩:=zab hm
    cases hm
    obtain ⟨h5,rfl⟩:=one1_some hs
    have ha:cl.args=#[y,z]:=by rw [← hargs]
    obtain ⟨xv,h6,h7⟩:=zqb (P:=P) (ts:=cl.argTypes) (ty:=type) (cs:=cl.args.map fun | .const _=>true | _=>false) (zaf h hy) (zaf h hz) h5
    refine ⟨.value xv,xv,w,H,A, ?_,.inl rfl,h.putv _ _ _ h7⟩
    rw [zck hb,show cl.args.map a.eval=#[a.eval y,a.eval z] by rw [ha];simp]
    exact h6
   ·rename_i y z hargs
    obtain ⟨y',hy,hm⟩:=zab hm
    obtain ⟨z',hz,hm⟩:=zab hm
    cases hm
    obtain ⟨h5,rfl⟩:=one1_some hs
    have ha:cl.args=#[y,z]:=by rw [← hargs]
    obtain ⟨xv,h6,h7⟩:=zqb (P:=P) (ts:=cl.argTypes) (ty:=type) (cs:=cl.args.map fun | .const _=>true | _=>false) (zaf h hy) (zaf h hz) h5
    refine ⟨.value xv,xv,w,H,A, ?_,.inl rfl,h.putv _ _ _ h7⟩
    rw [zck hb,show cl.args.map a.eval=#[a.eval y,a.eval z] by rw [ha];simp]
    exact h6
   ·cases hm
  ·cases hm
 case panic y =>
  obtain ⟨y',hy,hm⟩:=zab hm
  cases hm
  simp only [semM] at hs
  cases hs
 all_goals (simp only [compM] at hm;cases hm)
end
end Vm
