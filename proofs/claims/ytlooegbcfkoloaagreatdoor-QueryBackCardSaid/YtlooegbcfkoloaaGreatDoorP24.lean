/- Part of the proof: see the last text. -/
import Derived.Test.YtlooegbcfkoloaaGreatDoorP21
import Derived.Test.YtlooegbcfkoloaaGreatDoorP23
set_option maxRecDepth 20000
set_option linter.unusedVariables false
set_option linter.unusedSimpArgs false
namespace Ex
open Lx
def Glu (t:T) (r:S):Prop:=tok (t.text++r)=(0,t,t.text.length)∧skipN false (t.text++r)=0
def okP:List Pc→Prop
 | []=>True
 | none :: l=>okP l
 | some t :: l=>Glu t (flat l)∧okP l
theorem zkH:∀ l,okP l→Lexed ((flat l).drop (skipN false (flat l))) (toks l)
 | [],_=>.nil
 | none :: l,h=>by
  have h1:=zkH l h
  have e:skipN false (flat (none :: l))=skipN false (flat l)+1:=by
   rw [flat_cons]
   show skipN false (32 :: flat l)=_
   rw [skipN,if_pos (by decide)];omega
  rw [e,flat_cons]
  exact h1
 | some t :: l,h=>by
  have h1:=zkH l h.2
  rw [flat_cons]
  dsimp only
  rw [h.1.2,List.drop_zero]
  refine .cons h.1.1 h.1.2 ?_
  rw [List.drop_left]
  exact h1
def Sep (s:S):Prop:=∀ c,s.head?=some c→c=32∨c=41∨c=44
def SepN (s:S):Prop:=∀ c,s.head?=some c→c=32∨c=41∨c=44∨c=40∨c=46
theorem Sep.n {s:S} (h:Sep s):SepN s:=fun c hc=>by rcases h c hc with h | h | h<;>simp [h]
theorem zbN (l:List Pc):Sep (flat (bk :: l)):=fun c hc=>by
 rw [flat_cons] at hc
 simp only [bk,List.cons_append,List.head?_cons,Option.some.injEq] at hc
 exact .inl hc.symm
theorem zgQ (l:List Pc):Sep (flat (mk mShut :: l)):=fun c hc=>by
 rw [flat_cons] at hc
 simp only [mk,mShut,List.cons_append,List.head?_cons,Option.some.injEq] at hc
 exact .inr (.inl hc.symm)
theorem zkl (l:List Pc):Sep (flat (mk mComma :: l)):=fun c hc=>by
 rw [flat_cons] at hc
 simp only [mk,mComma,List.cons_append,List.head?_cons,Option.some.injEq] at hc
 exact .inr (.inr hc.symm)
theorem zid (l:List Pc):SepN (flat (mk mOpen :: l)):=fun c hc=>by
 rw [flat_cons] at hc
 simp only [mk,mOpen,List.cons_append,List.head?_cons,Option.some.injEq] at hc
 exact .inr (.inr (.inr (.inl hc.symm)))
theorem zsN (l:List Pc):SepN (flat (mk mDot :: l)):=fun c hc=>by
 rw [flat_cons] at hc
 simp only [mk,mDot,List.cons_append,List.head?_cons,Option.some.injEq] at hc
 exact .inr (.inr (.inr (.inr hc.symm)))
theorem zmB {s:S} (h:SepN s):(∀ c,s.head?=some c→nam c=false)∧(∀ c,s.head?=some c→c≠39)∧s.head?.any let_=false:=by
 refine ⟨fun c hc=>?_,fun c hc=>?_, ?_⟩
 ·rcases h c hc with rfl | rfl | rfl | rfl | rfl<;>decide
 ·rcases h c hc with rfl | rfl | rfl | rfl | rfl<;>decide
 ·cases hs:s.head? with
  | none=>rfl
  | some c =>
   rcases h c hs with rfl | rfl | rfl | rfl | rfl<;>decide
theorem ziu {p:UInt8→Bool}:∀ (l r:S),l.all p=true→(∀ c,r.head?=some c→p c=false)→many p (l++r)=l.length
 | [],[],_,_=>rfl
 | [],c :: r,_,h=>by rw [List.nil_append,many,if_neg (by rw [h c rfl];decide)];rfl
 | c :: l,r,hl,h=>by
  rw [List.all_cons,Bool.and_eq_true] at hl
  rw [List.cons_append,many,if_pos hl.1,ziu l r hl.2 h,List.length_cons];omega
theorem zgj {c:UInt8} {r:S} (h1:bl c=false) (h2:c≠45∨r.head?≠some 45):skipN false (c :: r)=0:=by
 rw [skipN,h1]
 rw [if_neg (by decide),if_neg]
 simp only [Bool.and_eq_true,beq_iff_eq]
 rintro ⟨h3,h4⟩
 rcases h2 with h2 | h2
 ·exact h2 h3
 ·exact h2 h4
theorem zt9 {l:S} {k:Int} (h0:∃ c r,l=c :: r∧let_ c=true) (ha:l.all nam=true) {r:S} (hr:SepN r) (hk:zjH (l++r) l.length=(0,⟨k,l,v0⟩,l.length)):Glu ⟨k,l,v0⟩ r:=by
 obtain ⟨c,m,rfl,hc⟩:=h0
 obtain ⟨h1,h2,h3⟩:=zmB hr
 have hb:zcP (c :: m++r)=false:=by
  cases m with
  | nil =>
   rw [List.cons_append,zhY,List.nil_append]
   cases hh:r.head? with
   | none=>simp
   | some d=>have:=h2 d hh;simp [this]
  | cons b m =>
   rw [List.cons_append,zhY]
   simp only [List.all_cons,Bool.and_eq_true] at ha
   have hb:b≠39:=by intro hb;subst hb;exact absurd ha.2.1 (by decide)
   simp [hb]
 constructor
 ·show tok (c :: m++r)=_
  rw [List.cons_append] at hb ⊢
  rw [tok]
  simp only [hc,if_true,hb]
  rw [if_neg (by decide),← List.cons_append,ziu _ _ ha h1]
  exact hk
 ·obtain ⟨b1,b2,b3⟩:=ztZ hc
  exact zgj b1 (.inl (by simpa using b2))
theorem glu_name {n:S} (h:nmE n=true) {r:S} (hr:SepN r):Glu ⟨1,n,v0⟩ r:=by
 unfold nmE zlW at h
 simp only [Bool.and_eq_true,decide_eq_true_eq,Bool.not_eq_true'] at h
 obtain ⟨⟨⟨h1,h2⟩,h3⟩,hw⟩:=h
 obtain ⟨ha,hb⟩:=zpo n 0 h3
 refine zt9 ?_ ha hr ?_
 ·cases n with
  | nil=>simp at h1
  | cons c m=>exact ⟨c,m,rfl,hb rfl c rfl⟩
 ·unfold zjH
  rw [List.take_left,hw,if_neg (by decide),if_neg (by omega)]
  rfl
def zoO (w:S):Bool:=isW w && fold w == w && w.all nam && w.head?.any let_
theorem glu_word {w:S} (h:zoO w=true) {r:S} (hr:SepN r):Glu ⟨2,w,v0⟩ r:=by
 unfold zoO at h
 simp only [Bool.and_eq_true,beq_iff_eq] at h
 obtain ⟨⟨⟨h1,h2⟩,h3⟩,h4⟩:=h
 refine zt9 ?_ h3 hr ?_
 ·cases w with
  | nil=>cases h4
  | cons c m=>exact ⟨c,m,rfl,h4⟩
 ·unfold zjH
  rw [List.take_left,h1,if_pos rfl,h2]
  rfl
theorem numN_dig:∀ m,(Ox.numN m).all dig=true:=fun m=>by
 fun_induction Ox.numN m with
 | case1 m h =>
  have:(UInt8.ofNat (48+m)).toNat=48+m:=by simp [UInt8.toNat_ofNat];omega
  simp [dig,this]
  omega
 | case2 m h ih =>
  have:(UInt8.ofNat (48+m % 10)).toNat=48+m % 10:=by simp [UInt8.toNat_ofNat];omega
  rw [List.all_append,ih]
  simp [dig,this]
  omega
theorem ztx {n:Int} (h:0≤n):(Ox.num n).all dig=true:=by
 unfold Ox.num
 rw [if_neg (by omega)]
 exact numN_dig _
theorem zk4 {c:UInt8} (h:dig c=true):let_ c=false∧bl c=false∧c≠45∧c≠39:=by
 unfold dig at h
 simp only [Bool.and_eq_true,decide_eq_true_eq] at h
 refine ⟨?_,zu0 (by omega) (by omega) (by omega) (by omega), ?_, ?_⟩
 ·unfold let_
  rw [← Bool.not_eq_true]
  simp only [Bool.or_eq_true,Bool.and_eq_true,decide_eq_true_eq]
  omega
 ·rintro rfl;simp at h
 ·rintro rfl;simp at h
theorem zub {n:Int} (h0:0≤n) (h1:n≤9223372036854775807) {r:S} (hr:SepN r):Glu ⟨3,Ox.num n,(1,n,[])⟩ r:=by
 have hd:=ztx h0
 obtain ⟨e1,e2,e3⟩:=zmB hr
 have hrd:=Ox.read_num (n:=n) (by omega) h1
 cases hn:Ox.num n with
 | nil=>exact absurd hn (Ox.zoj n)
 | cons c m =>
  rw [hn] at hd hrd
  have hc:dig c=true:=by rw [List.all_cons,Bool.and_eq_true] at hd;exact hd.1
  obtain ⟨b1,b2,b3,b4⟩:=zk4 hc
  have hm:many dig (c :: m++r)=(c :: m).length:=ziu _ _ hd fun d hd=>by
   have:=e1 d hd
   unfold nam at this
   rw [Bool.or_eq_false_iff] at this
   exact this.2
  constructor
  ·show tok (c :: m++r)=_
   rw [List.cons_append] at hm ⊢
   rw [tok]
   simp only [b1,hc,if_true]
   rw [if_neg (by decide),hm,← List.cons_append]
   unfold numT
   rw [List.drop_left,e3,if_neg (by decide),List.take_left,hrd,if_pos rfl]
  ·exact zgj b2 (.inl b3)
theorem zlR:∀ (s r:S),(∀ c,r.head?=some c→c≠39)→qEnd (za8 s++(39 :: r))=some ((za8 s).length+1)
 | [],[],_=>rfl
 | [],d :: r,h=>by
  have:=h d rfl
  show qEnd (39 :: d :: r)=_
  rw [qEnd]
  simp [this,za8]
 | c :: s,r,h=>by
  have ih:=zlR s r h
  rw [za8]
  split
  ·show qEnd (39 :: 39 :: (za8 s++(39 :: r)))=_
   rw [qEnd]
   simp [ih]
  ·rename_i hc
   show qEnd (c :: (za8 s++(39 :: r)))=_
   cases hx:za8 s++(39 :: r) with
   | nil=>simp at hx
   | cons d x =>
    rw [qEnd]
    rw [hx] at ih
    simp [hc,ih]
theorem zjo:∀ s:S,single (za8 s)=some s
 | []=>rfl
 | c :: s=>by
  have ih:=zjo s
  rw [za8]
  split
  ·rename_i hc
   subst hc
   rw [single]
   simp [ih]
  ·rename_i hc
   cases hx:za8 s with
   | nil =>
    rw [hx] at ih
    simp only [single,Option.some.injEq] at ih
    subst ih
    simp [single,hc]
   | cons d x =>
    rw [single,← hx,ih]
    simp [hc]
theorem zou (q:S):za2 (39 :: (q++[39]))=(q,true):=by
 unfold za2
 have hl:(39 :: (q++[39])).length=q.length+2:=by simp
 have hd:(39 :: (q++[39])).drop ((39 :: (q++[39])).length - 1)=[39]:=by
  rw [hl,show q.length+2 - 1=q.length+1 by omega,List.drop_succ_cons,List.drop_left]
 rw [hd,hl]
 simp
theorem glu_text {s:S} (hs:s.length≤4096) {r:S} (hr:SepN r):Glu ⟨3,39 :: (za8 s++[39]),(2,0,s)⟩ r:=by
 obtain ⟨e1,e2,e3⟩:=zmB hr
 have hq:=zlR s r e2
 constructor
 ·show tok (39 :: (za8 s++[39])++r)=_
  have he:39 :: (za8 s++[39])++r=39 :: (za8 s++(39 :: r)):=by simp
  rw [he,tok]
  rw [if_neg (by decide),if_neg (by decide),if_pos (by decide),hq]
  show valT _ ((za8 s).length+1+1)=_
  unfold valT
  have ht:(39 :: (za8 s++(39 :: r))).take ((za8 s).length+1+1)=39 :: (za8 s++[39]):=by
   rw [← he,List.take_left' (by simp)]
  rw [ht]
  have hu:zaC (39 :: (za8 s++[39]))=((2,0,s),0):=by
   unfold zaC
   rw [zou]
   have hf:(fold (39 :: (za8 s++[39])) == [110,117,108,108])=false:=by
    rw [beq_eq_false_iff_ne]
    intro h
    have:=congrArg List.head? h
    simp [fold,lo] at this
   rw [hf]
   simp only [Bool.false_eq_true,if_false,if_true]
   rw [zjo]
   unfold mkV
   simp only
   rw [if_neg (by omega)]
  rw [hu]
  simp
 ·exact zgj (by decide) (.inl (by decide))
theorem zqT:∀ k:Fin 16,nib (Ox.hexD k.val)=some k.val∧noq (Ox.hexD k.val)=true:=by decide
theorem zro (s:S):zcr (Ox.hex s)=some s∧(Ox.hex s).all noq=true:=by
 induction s with
 | nil=>exact ⟨rfl,rfl⟩
 | cons c r ih =>
  rw [Ox.hex]
  have hc:c.toNat < 256:=c.toNat_lt
  have h1:=zqT ⟨c.toNat / 16,by omega⟩
  have h2:=zqT ⟨c.toNat % 16,by omega⟩
  simp only at h1 h2
  constructor
  ·rw [zcr,h1.1,h2.1,ih.1]
   simp only
   rw [show 16 * (c.toNat / 16)+c.toNat % 16=c.toNat by omega,Option.map_some,UInt8.ofNat_toNat]
  ·rw [List.all_cons,List.all_cons,h1.2,h2.2,ih.2]
   rfl
theorem glu_blob {s:S} (hs:s.length≤4096) (r:S):Glu ⟨3,[120,39]++Ox.hex s++[39],(3,0,s)⟩ r:=by
 obtain ⟨hu,hn⟩:=zro s
 have he:[120,39]++Ox.hex s++[39]++r=120 :: 39 :: (Ox.hex s++(39 :: r)):=by simp
 constructor
 ·show tok ([120,39]++Ox.hex s++[39]++r)=_
  rw [he,tok]
  have hb:zcP (120 :: 39 :: (Ox.hex s++(39 :: r)))=true:=by rw [zhY];rfl
  rw [if_pos (by decide),hb,if_pos rfl]
  have hm:many noq (Ox.hex s++(39 :: r))=(Ox.hex s).length:=ziu _ _ hn fun c hc=>by
   simp only [List.head?_cons,Option.some.injEq] at hc
   subst hc;rfl
  have hbe:bEnd ((120 :: 39 :: (Ox.hex s++(39 :: r))).drop 2)=some ((Ox.hex s).length+1):=by
   show bEnd (Ox.hex s++(39 :: r))=_
   unfold bEnd
   rw [hm,if_pos (by simp)]
  rw [hbe]
  show valT _ ((Ox.hex s).length+1+2)=_
  unfold valT
  have ht:(120 :: 39 :: (Ox.hex s++(39 :: r))).take ((Ox.hex s).length+1+2)=[120,39]++Ox.hex s++[39]:=by
   rw [← he,List.take_left' (by simp)]
  rw [ht]
  have hq:zaC ([120,39]++Ox.hex s++[39])=((3,0,s),0):=by
   have e2:[120,39]++Ox.hex s++[39]=120 :: 39 :: (Ox.hex s++[39]):=by simp
   rw [e2]
   unfold zaC
   have hf:(fold (120 :: 39 :: (Ox.hex s++[39])) == [110,117,108,108])=false:=by
    rw [beq_eq_false_iff_ne]
    intro h
    have:=congrArg List.head? h
    simp [fold,lo] at this
   have hi:za2 (120 :: 39 :: (Ox.hex s++[39]))=([],false):=by
    unfold za2
    rw [if_neg]
    simp
   rw [hf,hi]
   simp only [Bool.false_eq_true,if_false,List.tail_cons,zou,if_true,hu]
   rw [if_pos (by rfl)]
   unfold mkV
   simp only
   rw [if_neg (by omega)]
  rw [hq]
  simp
 ·rw [he]
  exact zgj (by decide) (.inl (by decide))
def marksA:List S:=[mOpen,mShut,mComma,mDot,zbG,mPlus,mMinus]
theorem glu_mark {m:S} (h:m∈marksA) {r:S} (hr:m=mMinus→r.head?≠some 45):Glu ⟨4,m,v0⟩ r:=by
 have key:∀ c:UInt8,zon.contains c=true→c≠124→c≠60→c≠62→let_ c=false→dig c=false→(c == 39)=false→bl c=false→(c=45→r.head?≠some 45)→Glu ⟨4,[c],v0⟩ r:=by
  intro c h1 h2 h3 h4 h5 h6 h7 h8 h9
  have hm:zbB (c :: r)=1:=by
   unfold zbB
   have:zeC.contains ((c :: r).take 2)=false:=by
    rw [← Bool.not_eq_true,List.contains_iff_mem]
    intro h
    simp only [zeC,List.mem_cons,List.not_mem_nil,or_false] at h
    rcases h with h | h | h | h<;>(have:=congrArg List.head? h;simp at this;first | exact h2 this | exact h3 this | exact h4 this)
   rw [this,if_neg (by decide)]
   simp only
   rw [if_pos h1]
  constructor
  ·show tok (c :: r)=_
   rw [tok,h5,if_neg (by decide),h6,if_neg (by decide),h7,if_neg (by decide)]
   unfold zoo
   rw [hm,if_neg (by decide)]
   rfl
  ·exact zgj h8 ((Decidable.em (c=45)).elim (fun hc=>.inr (h9 hc)) .inl)
 simp only [marksA,List.mem_cons,List.not_mem_nil,or_false,mOpen,mShut,mComma,mDot,zbG,mPlus,mMinus] at h
 rcases h with rfl | rfl | rfl | rfl | rfl | rfl | rfl<;>exact key _ (by decide) (by decide) (by decide) (by decide) (by decide) (by decide) (by decide) (by decide) (fun hc=>by first | exact hr rfl | (exact absurd hc (by decide)))
def ztF:List S:=[[124,124],[47],[37],[61],[60,62],[60],[60,61],[62],[62,61]]
theorem zua {m:S} (h:m∈ztF) (r:S):Glu ⟨4,m,v0⟩ (32 :: r):=by
 simp only [ztF,List.mem_cons,List.not_mem_nil,or_false] at h
 rcases h with rfl | rfl | rfl | rfl | rfl | rfl | rfl | rfl | rfl<;>exact ⟨by rfl,by rfl⟩
end Ex
namespace Ex
open Lx
def NoM (s:S):Prop:=s.head?≠some 45
theorem noM_let {c:UInt8} {r:S} (h:let_ c=true):NoM (c :: r):=fun hc=>by
 simp only [List.head?_cons,Option.some.injEq] at hc
 subst hc
 exact absurd h (by decide)
theorem nmE_head {n:S} (h:nmE n=true):∃ c r,n=c :: r∧let_ c=true:=by
 unfold nmE zlW at h
 simp only [Bool.and_eq_true,decide_eq_true_eq,Bool.not_eq_true'] at h
 obtain ⟨⟨⟨h1,h2⟩,h3⟩,hw⟩:=h
 obtain ⟨ha,hb⟩:=zpo n 0 h3
 cases n with
 | nil=>simp at h1
 | cons c m=>exact ⟨c,m,rfl,hb rfl c rfl⟩
theorem zna {n r:S} (h:nmE n=true):NoM (n++r):=by
 obtain ⟨c,m,rfl,hc⟩:=nmE_head h
 exact noM_let hc
theorem zm6 {t:T} {l:List Pc} (h:Glu t (flat l)) (hl:okP l):okP (some t :: l):=⟨h,hl⟩
theorem ok_nm {n:S} {l:List Pc} (h:nmE n=true) (hs:SepN (flat l)) (hl:okP l):okP (nmP n :: l):=⟨glu_name h hs,hl⟩
theorem zfn {w:S} {l:List Pc} (h:zoO w=true) (hs:SepN (flat l)) (hl:okP l):okP (wd w :: l):=⟨glu_word h hs,hl⟩
theorem ok_mk {m:S} {l:List Pc} (h:m∈marksA) (hs:m=mMinus→NoM (flat l)) (hl:okP l):okP (mk m :: l):=⟨glu_mark h hs,hl⟩
theorem ok_mkB {m:S} {l:List Pc} (h:m∈ztF) (hl:okP l):okP (mk m :: bk :: l):=⟨by rw [flat_cons];exact zua h _,hl⟩
theorem ok_bk {l:List Pc} (hl:okP l):okP (bk :: l):=hl
theorem zgA {l:List Pc} (hl:okP l):okP (mk mOpen :: l):=ok_mk (by decide) (fun h=>by cases h) hl
theorem ok_shut {l:List Pc} (hl:okP l):okP (mk mShut :: l):=ok_mk (by decide) (fun h=>by cases h) hl
theorem zm4 {l:List Pc} (hl:okP l):okP (mk mComma :: l):=ok_mk (by decide) (fun h=>by cases h) hl
def OkE (l:List Pc):Prop:=∀ r,okP r→Sep (flat r)→okP (l++r)
def dOf (e:E):D:=(e.kind,e.val.1,pcs e)
theorem pcs_eq (e:E):pcs e=pp e (e.args.map dOf):=by
 cases e with
 | mk k o v t n s g d a=>rw [pcs,zqp];rfl
theorem zht {e:E} (h:OkE (pcs e)):OkE (innP (dOf e)):=fun r hr hs=>by
 unfold innP
 split
 ·simp only [List.cons_append,List.append_assoc,List.nil_append]
  exact zgA (h _ (ok_shut hr) (zgQ _))
 ·exact h r hr hs
theorem ok_innU {e:E} (h:OkE (pcs e)):OkE (zdJ (dOf e)):=fun r hr hs=>by
 unfold zdJ
 split
 ·simp only [List.cons_append,List.append_assoc,List.nil_append]
  exact zgA (h _ (ok_shut hr) (zgQ _))
 ·exact h r hr hs
theorem kid0 (a:E) (l:List E):kidP ((a :: l).map dOf) 0=dOf a:=rfl
theorem zpk {b:Bool} {w:S} (hw:zoO w=true) {l:List Pc} (hl:okP l):okP (notP b w++l)∧Sep (flat (notP b w++l)):=by
 unfold notP
 cases b
 ·exact ⟨ok_bk (zfn hw (zbN _).n (ok_bk hl)),zbN _⟩
 ·exact ⟨ok_bk (zfn (by decide) (zbN _).n (ok_bk (zfn hw (zbN _).n (ok_bk hl)))),zbN _⟩
theorem zkE:∀ (l:List E),(∀ x∈l,OkE (pcs x))→∀ r,okP r→Sep (flat r)→okP (commasP (l.map dOf)++r)
 | [],_,r,hr,_=>hr
 | [a],h,r,hr,hs=>h a (by simp) r hr hs
 | a :: b :: l,h,r,hr,hs=>by
  have ih:=zkE (b :: l) (fun x hx=>h x (List.mem_cons_of_mem _ hx)) r hr hs
  simp only [List.map_cons,commasP,List.append_assoc,List.cons_append,List.nil_append] at ih ⊢
  exact h a (by simp) _ (zm4 (ok_bk ih)) (zkl _)
theorem zm3:∀ (l:List E),(∀ x∈l,OkE (pcs x))→∀ r,okP r→okP (whensQ (l.map dOf)++r)
 | [],_,r,hr=>hr
 | [a],h,r,hr=>by
  simp only [List.map_cons,List.map_nil,whensQ,List.append_assoc,List.cons_append,List.nil_append]
  exact zfn (by decide) (zbN _).n (ok_bk (h a (by simp) _ (ok_bk hr) (zbN _)))
 | a :: b :: l,h,r,hr=>by
  have ih:=zm3 l (fun x hx=>h x (List.mem_cons_of_mem _ (List.mem_cons_of_mem _ hx))) r hr
  simp only [List.map_cons,whensQ,List.append_assoc,List.cons_append,List.nil_append]
  exact zfn (by decide) (zbN _).n (ok_bk (h a (by simp) _ (ok_bk (zfn (by decide) (zbN _).n (ok_bk (h b (by simp) _ (ok_bk ih) (zbN _))))) (zbN _)))
theorem ok_case {d:Bool} {l:List E} (hl:2≤l.length) (h:∀ x∈l,OkE (pcs x)) {r:List Pc} (hr:okP r) (hs:Sep (flat r)):okP (zjl d (l.map dOf)++r):=by
 unfold zjl
 match l,hl,h with
 | a :: b :: l,_,h =>
  have hw:=zfn (w:=wEnd) (l:=r) (by decide) hs.n hr
  cases d
  ·simp only [Bool.false_eq_true,if_false,List.append_assoc,List.cons_append,List.nil_append]
   exact zfn (by decide) (zbN _).n (ok_bk (zm3 (a :: b :: l) h _ hw))
  ·simp only [if_true,kid0,List.append_assoc,List.cons_append,List.nil_append]
   refine zfn (by decide) (zbN _).n (ok_bk (h a (by simp) _ (ok_bk ?_) (zbN _)))
   exact zm3 (b :: l) (fun x hx=>h x (List.mem_cons_of_mem _ hx)) _ hw
theorem ok_val {v:V} (h:mayV v=true) (h2:v.1=1→v.2.1≠lowI∧v.2.1≤9223372036854775807∧-9223372036854775808≤v.2.1):OkE (zgi v):=fun r hr hs=>by
 obtain ⟨k,n,s⟩:=v
 unfold mayV at h
 unfold zgi
 dsimp only at h h2 ⊢
 by_cases hk:k=0
 ·rw [if_pos hk]
  exact zfn (by decide) hs.n hr
 rw [if_neg hk] at h
 rw [if_neg hk]
 by_cases hk1:k=1
 ·rw [if_pos hk1] at h
  obtain ⟨g1,g2,g3⟩:=h2 hk1
  simp only [lowI] at g1
  have hs0:s=[]:=by simpa using h
  by_cases hn:n < 0
  ·rw [if_pos ⟨hk1,hn⟩]
   refine ok_mk (by decide) (fun _=>?_) (zm6 (zub (by omega) (by omega) hs.n) hr)
   show NoM (flat (some _ :: r))
   rw [flat_cons]
   dsimp only
   have hd:=ztx (n:=-n) (by omega)
   cases hx:Ox.num (-n) with
   | nil=>exact absurd hx (Ox.zoj _)
   | cons c m =>
    rw [hx,List.all_cons,Bool.and_eq_true] at hd
    intro hc
    simp only [List.cons_append,List.head?_cons,Option.some.injEq] at hc
    exact (zk4 hd.1).2.2.1 hc
  ·rw [if_neg (fun h=>hn h.2)]
   have hv:valP (k,n,s)=Ox.num n:=by
    unfold valP
    dsimp only
    rw [if_neg hk,if_pos hk1]
   rw [hv,hk1,hs0]
   exact zm6 (zub (by omega) g2 hs.n) hr
 rw [if_neg hk1] at h
 rw [if_neg (fun h=>hk1 h.1)]
 split at h
 ·rename_i hk23
  simp only [Bool.and_eq_true,decide_eq_true_eq] at h
  obtain ⟨hn,hl⟩:=h
  subst hn
  rcases hk23 with rfl | rfl
  ·exact zm6 (glu_text hl hs.n) hr
  ·exact zm6 (glu_blob hl _) hr
 ·cases h
theorem ok_op {op:S} (h:op∈bins) {l:List Pc} (hl:okP l):okP (opP op :: bk :: l):=by
 simp only [bins,List.mem_cons,List.not_mem_nil,or_false] at h
 have hA:∀ m,m∈marksA→okP (mk m :: bk :: l):=fun m hm=>ok_mk hm (fun _=>by rw [flat_cons];intro hc;simp [bk] at hc) (ok_bk hl)
 rcases h with rfl | rfl | rfl | rfl | rfl | rfl | rfl | rfl | rfl | rfl | rfl | rfl | rfl | rfl
 all_goals first
  | exact ok_mkB (by decide) hl
  | exact hA _ (by decide)
  | exact zfn (by decide) (zbN _).n (ok_bk hl)
theorem zpN {op:S} (h:aggs.contains op=true):nmE op=true:=by
 rw [List.contains_iff_mem] at h
 simp only [aggs,List.mem_cons,List.not_mem_nil,or_false] at h
 rcases h with rfl | rfl | rfl | rfl | rfl | rfl<;>decide
theorem types_nm {op:S} (h:zhA.contains op=true):nmE op=true:=by
 rw [List.contains_iff_mem] at h
 simp only [zhA,List.mem_cons,List.not_mem_nil,or_false] at h
 rcases h with rfl | rfl | rfl<;>decide
theorem innU_noM {e:E} (h:Rt e) (r:List Pc):NoM (flat (zdJ (dOf e)++r)):=by
 unfold zdJ
 split
 ·rw [List.cons_append,flat_cons]
  intro hc
  simp [mk,mOpen] at hc
 ·rename_i hj
  simp only [dOf,Bool.or_eq_true,Bool.and_eq_true,decide_eq_true_eq,not_or,not_and,zcl] at hj
  show NoM (flat (pcs e++r))
  rw [pcs_eq]
  cases h with
  | val v h1 h2 =>
   have h3:v.1≠1:=fun h=>hj.2 rfl (decide_eq_true h)
   show NoM (flat (zgi v++r))
   obtain ⟨k,n,s⟩:=v
   unfold mayV at h1
   unfold zgi
   dsimp only at h1 h3 ⊢
   by_cases hk:k=0
   ·rw [if_pos hk]
    rw [List.cons_append,flat_cons]
    intro hc
    simp [wd,zmn] at hc
   rw [if_neg hk] at h1
   rw [if_neg hk,if_neg (fun h=>h3 h.1)]
   rw [if_neg h3] at h1
   split at h1
   ·rename_i hk23
    rw [List.cons_append,flat_cons]
    rcases hk23 with rfl | rfl<;>(intro hc;simp [valP] at hc)
   ·cases h1
  | col t n h1 h2 =>
   show NoM (flat ((if t=[] then [nmP n] else [nmP t,mk mDot,nmP n])++r))
   split
   ·rw [List.cons_append,flat_cons];exact zna h1
   ·rename_i ht
    rw [List.cons_append,flat_cons];exact zna (h2.resolve_left ht)
  | un op a=>exact absurd hj.1 (by simp [eUn,E.kind])
  | bin op a b=>exact absurd hj.1 (by simp [eBin,E.kind])
  | is g a b=>exact absurd hj.1 (by simp [eIs,E.kind])
  | in_ g a l=>exact absurd hj.1 (by simp [eIn,E.kind])
  | btw g a b c=>exact absurd hj.1 (by simp [eBtw,E.kind])
  | like g a b=>exact absurd hj.1 (by simp [zeT,E.kind])
  | case d l =>
   show NoM (flat (zjl d _++r))
   unfold zjl
   simp only [List.append_assoc,List.cons_append,List.nil_append]
   rw [flat_cons]
   intro hc
   simp [wd,wCase] at hc
  | fn op l h1 =>
   have:pp (eFn op l) ((eFn op l).args.map dOf)=[nmP op,mk mOpen]++commasP (l.map dOf)++[mk mShut]:=rfl
   rw [this]
   simp only [List.append_assoc,List.cons_append,List.nil_append]
   rw [flat_cons]
   exact zna h1
  | agg op d a h1 =>
   have:pp (eAgg op d [a]) ((eAgg op d [a]).args.map dOf)=if d then [nmP op,mk mOpen,wd zae,bk]++commasP ([a].map dOf)++[mk mShut] else [nmP op,mk mOpen]++commasP ([a].map dOf)++[mk mShut]:=rfl
   rw [this]
   split
   all_goals
    simp only [List.append_assoc,List.cons_append,List.nil_append]
    rw [flat_cons]
    exact zna (zpN h1)
  | star =>
   show NoM (flat (nmP wCount :: _))
   rw [flat_cons]
   intro hc
   simp [nmP,wCount] at hc
  | cast op a =>
   show NoM (flat (wd wCast :: _))
   rw [flat_cons]
   intro hc
   simp [wd,wCast] at hc
theorem Rt.n {e:E} (h:Rt e):RtN e:=by
 have h0:N64 (eVal v0):=⟨by decide,by decide⟩
 induction h with
 | val v h1 h2 h3=>exact .mk h3 (fun x hx=>by simp [eVal,E.args] at hx)
 | col t n=>exact .mk h0 (fun x hx=>by simp [eCol,E.args] at hx)
 | un op a _ _ ih=>exact .mk h0 (fun x hx=>by simp [eUn,E.args] at hx;subst hx;exact ih)
 | bin op a b _ _ _ ih1 ih2=>exact .mk h0 (fun x hx=>by simp [eBin,E.args] at hx;rcases hx with rfl | rfl<;>assumption)
 | is g a b _ _ ih1 ih2=>exact .mk h0 (fun x hx=>by simp [eIs,E.args] at hx;rcases hx with rfl | rfl<;>assumption)
 | in_ g a l _ _ _ ih1 ih2=>exact .mk h0 (fun x hx=>by
   simp [eIn,E.args] at hx
   rcases hx with rfl | hx
   ·exact ih1
   ·exact ih2 x hx)
 | btw g a b c _ _ _ ih1 ih2 ih3=>exact .mk h0 (fun x hx=>by simp [eBtw,E.args] at hx;rcases hx with rfl | rfl | rfl<;>assumption)
 | like g a b _ _ ih1 ih2=>exact .mk h0 (fun x hx=>by simp [zeT,E.args] at hx;rcases hx with rfl | rfl<;>assumption)
 | case d l _ _ _ ih=>exact .mk h0 ih
 | fn op l _ _ _ _ ih=>exact .mk h0 ih
 | agg op d a _ _ ih=>exact .mk h0 (fun x hx=>by simp [eAgg,E.args] at hx;subst hx;exact ih)
 | star=>exact .mk h0 (fun x hx=>by simp [eAgg,E.args] at hx)
 | cast op a _ _ ih=>exact .mk h0 (fun x hx=>by simp [zhl,E.args] at hx;subst hx;exact ih)
theorem rt_ok {e:E} (h:Rt e):RtN e→OkE (pcs e):=by
 induction h with
 | val v h1 h2 =>
  intro hn
  exact ok_val h1 fun h=>⟨h2 h,hn.n.1,hn.n.2⟩
 | col t n h1 h2 =>
  intro hn r hr hs
  rw [pcs_eq]
  show okP ((if t=[] then [nmP n] else [nmP t,mk mDot,nmP n])++r)
  split
  ·exact ok_nm h1 hs.n hr
  ·rename_i ht
   exact ok_nm (h2.resolve_left ht) (zsN _) (ok_mk (by decide) (fun h=>by cases h) (ok_nm h1 hs.n hr))
 | un op a h1 h2 ih =>
  intro hn r hr hs
  have ih:=ok_innU (ih (hn.a a (by simp [eUn,E.args]))) r hr hs
  rw [pcs_eq]
  show okP ((if op=wNot then [wd wNot,bk]++zdJ (dOf a) else [mk op]++zdJ (dOf a))++r)
  split
  ·exact zfn (by decide) (zbN _).n (ok_bk ih)
  ·rename_i ho
   simp only [uns,List.mem_cons,List.not_mem_nil,or_false] at h1
   simp only [List.append_assoc,List.cons_append,List.nil_append]
   rcases h1 with rfl | rfl | rfl
   ·exact ok_mk (by decide) (fun _=>innU_noM h2 r) ih
   ·exact ok_mk (by decide) (fun h=>by cases h) ih
   ·exact absurd rfl ho
 | bin op a b h1 _ _ ih1 ih2 =>
  intro hn r hr hs
  have i1:=zht (ih1 (hn.a a (by simp [eBin,E.args])))
  have i2:=zht (ih2 (hn.a b (by simp [eBin,E.args]))) r hr hs
  rw [pcs_eq]
  show okP ((innP (dOf a)++[bk,opP op,bk]++innP (dOf b))++r)
  simp only [List.append_assoc,List.cons_append,List.nil_append]
  exact i1 _ (ok_bk (ok_op h1 i2)) (zbN _)
 | is g a b _ _ ih1 ih2 =>
  intro hn r hr hs
  have i1:=zht (ih1 (hn.a a (by simp [eIs,E.args])))
  have i2:=zht (ih2 (hn.a b (by simp [eIs,E.args]))) r hr hs
  rw [pcs_eq]
  show okP ((innP (dOf a)++[bk,wd wIs,bk]++(if g then [wd wNot,bk] else [])++innP (dOf b))++r)
  cases g
  ·simp only [List.append_assoc,List.cons_append,List.nil_append]
   exact i1 _ (ok_bk (zfn (by decide) (zbN _).n (ok_bk i2))) (zbN _)
  ·simp only [if_true,List.append_assoc,List.cons_append,List.nil_append]
   exact i1 _ (ok_bk (zfn (by decide) (zbN _).n (ok_bk (zfn (by decide) (zbN _).n (ok_bk i2))))) (zbN _)
 | in_ g a l _ _ _ ih1 ih2 =>
  intro hn r hr hs
  have i1:=zht (ih1 (hn.a a (by simp [eIn,E.args])))
  have i2:=zkE l (fun x hx=>ih2 x hx (hn.a x (by simp [eIn,E.args,hx]))) _ (ok_shut hr) (zgQ _)
  rw [pcs_eq]
  show okP ((innP (dOf a)++notP g wIn++[mk mOpen]++commasP (l.map dOf)++[mk mShut])++r)
  simp only [List.append_assoc,List.cons_append,List.nil_append]
  have i3:=zpk (b:=g) (w:=wIn) (by decide) (zgA i2)
  exact i1 _ i3.1 i3.2
 | btw g a b c _ _ _ ih1 ih2 ih3 =>
  intro hn r hr hs
  have i1:=zht (ih1 (hn.a a (by simp [eBtw,E.args])))
  have i2:=zht (ih2 (hn.a b (by simp [eBtw,E.args])))
  have i3:=zht (ih3 (hn.a c (by simp [eBtw,E.args]))) r hr hs
  rw [pcs_eq]
  show okP ((innP (dOf a)++notP g zaO++innP (dOf b)++[bk,wd wAnd,bk]++innP (dOf c))++r)
  simp only [List.append_assoc,List.cons_append,List.nil_append]
  have i4:=zpk (b:=g) (w:=zaO) (by decide) (i2 _ (ok_bk (zfn (w:=wAnd) (by decide) (zbN _).n (ok_bk i3))) (zbN _))
  exact i1 _ i4.1 i4.2
 | like g a b _ _ ih1 ih2 =>
  intro hn r hr hs
  have i1:=zht (ih1 (hn.a a (by simp [zeT,E.args])))
  have i2:=zht (ih2 (hn.a b (by simp [zeT,E.args]))) r hr hs
  rw [pcs_eq]
  show okP ((innP (dOf a)++notP g zdQ++innP (dOf b))++r)
  simp only [List.append_assoc,List.cons_append,List.nil_append]
  have i4:=zpk (b:=g) (w:=zdQ) (by decide) i2
  exact i1 _ i4.1 i4.2
 | case d l h1 _ _ ih =>
  intro hn r hr hs
  rw [pcs_eq]
  show okP (zjl d (l.map dOf)++r)
  exact ok_case h1 (fun x hx=>ih x hx (hn.a x hx)) hr hs
 | fn op l h1 _ _ _ ih =>
  intro hn r hr hs
  rw [pcs_eq]
  have:pp (eFn op l) ((eFn op l).args.map dOf)=[nmP op,mk mOpen]++commasP (l.map dOf)++[mk mShut]:=rfl
  rw [this]
  simp only [List.append_assoc,List.cons_append,List.nil_append]
  exact ok_nm h1 (zid _) (zgA (zkE l (fun x hx=>ih x hx (hn.a x hx)) _ (ok_shut hr) (zgQ _)))
 | agg op d a h1 _ ih =>
  intro hn r hr hs
  rw [pcs_eq]
  have:pp (eAgg op d [a]) ((eAgg op d [a]).args.map dOf)=if d then [nmP op,mk mOpen,wd zae,bk]++pcs a++[mk mShut] else [nmP op,mk mOpen]++pcs a++[mk mShut]:=rfl
  rw [this]
  have i1:=ih (hn.a a (by simp [eAgg,E.args])) _ (ok_shut hr) (zgQ _)
  split
  ·simp only [List.append_assoc,List.cons_append,List.nil_append]
   exact ok_nm (zpN h1) (zid _) (zgA (zfn (by decide) (zbN _).n (ok_bk i1)))
  ·simp only [List.append_assoc,List.cons_append,List.nil_append]
   exact ok_nm (zpN h1) (zid _) (zgA i1)
 | star =>
  intro hn r hr hs
  rw [pcs_eq]
  exact ok_nm (n:=wCount) (by decide) (zid _) (zgA (ok_mk (by decide) (fun h=>by cases h) (ok_shut hr)))
 | cast op a h1 _ ih =>
  intro hn r hr hs
  rw [pcs_eq]
  show okP (([wd wCast,mk mOpen]++pcs a++[bk,wd wAs,bk,nmP op,mk mShut])++r)
  simp only [List.append_assoc,List.cons_append,List.nil_append]
  refine zfn (by decide) (zid _) (zgA (ih (hn.a a (by simp [zhl,E.args])) _ ?_ (zbN _)))
  exact ok_bk (zfn (by decide) (zbN _).n (ok_bk (ok_nm (types_nm h1) (zgQ _).n (ok_shut hr))))
end Ex
namespace Ex
open Lx
def Ev (L:List T) (K:K) (p:Nat) (r:R):Prop:=∃ N,∀ n,N≤n→run L n K p=some r
def Sp (L:List T):Nat→List Pc→Nat→Prop
 | p,[],q=>q=p
 | p,none :: r,q=>Sp L p r q
 | p,some t :: r,q=>L[p]?=some t∧Sp L (p+1) r q
theorem zaU {L:List T} {a b:List Pc}:∀ {p q:Nat},Sp L p (a++b) q→∃ m,Sp L p a m∧Sp L m b q:=by
 induction a with
 | nil=>exact fun {p q} h=>⟨p,rfl,h⟩
 | cons x a ih =>
  cases x with
  | none=>exact fun {p q} h=>ih (p:=p) (q:=q) h
  | some t=>exact fun {p q} h=>let ⟨m,h1,h2⟩:=ih (p:=p+1) (q:=q) h.2;⟨m,⟨h.1,h1⟩,h2⟩
theorem zsL {L:List T} {a b:List Pc}:∀ {p m q:Nat},Sp L p a m→Sp L m b q→Sp L p (a++b) q:=by
 induction a with
 | nil=>exact fun {p m q} h h2=>by have h:m=p:=h;subst h;exact h2
 | cons x a ih =>
  cases x with
  | none=>exact fun {p m q} h h2=>ih (p:=p) (m:=m) (q:=q) h h2
  | some t=>exact fun {p m q} h h2=>⟨h.1,ih (p:=p+1) (m:=m) (q:=q) h.2 h2⟩
theorem sp_of {L:List T}:∀ (a:List Pc) (p:Nat) (post:List T),L.drop p=toks a++post→Sp L p a (p+(toks a).length)
 | [],_,_,_=>rfl
 | none :: a,p,post,h=>sp_of a p post h
 | some t :: a,p,post,h=>by
  have h1:L.drop p=t :: (toks a++post):=h
  have h2:L[p]?=some t:=by
   have:=congrArg (fun l=>l[0]?) h1
   simpa using this
  have h3:L.drop (p+1)=toks a++post:=by
   have:=congrArg (List.drop 1) h1
   simpa [List.drop_drop] using this
  have h4:=sp_of a (p+1) post h3
  refine ⟨h2, ?_⟩
  have e:(toks (some t :: a)).length=(toks a).length+1:=rfl
  rw [e,show p+((toks a).length+1)=p+1+(toks a).length by omega]
  exact h4
def forbA:List (Nat×Int×S):=[(8,4,mDot),(8,4,mOpen),(6,4,[124,124]),(5,4,zbG),(5,4,[47]),(5,4,[37]),(4,4,mPlus),(4,4,mMinus),
 (3,4,[61]),(3,4,[60,62]),(3,4,[60]),(3,4,[60,61]),(3,4,[62]),(3,4,[62,61]),(3,2,wIs),(3,2,wNot),(3,2,wIn),(3,2,zaO),(3,2,zdQ),(1,2,wAnd),(0,2,wOr)]
def stB (k:Nat) (t:T):Bool:=forbA.all fun a=>decide (a.1 < k) || !(decide (t.kind=a.2.1) && t.text == a.2.2)
def St (L:List T) (k q:Nat):Prop:=∀ t,L[q]?=some t→stB k t=true
theorem St.mono {L:List T} {j k q:Nat} (h:St L j q) (hk:j≤k):St L k q:=fun t ht=>by
 have h1:=h t ht
 unfold stB at *
 rw [List.all_eq_true] at *
 intro a ha
 have:=h1 a ha
 simp only [Bool.or_eq_true,decide_eq_true_eq] at this ⊢
 exact this.imp (fun h=>by omega) id
theorem St.no {L:List T} {k q j:Nat} {kd:Int} {s:S} (h:St L k q) (hm:(j,kd,s)∈forbA) (hk:k≤j):isT L q kd s=false:=by
 unfold isT
 split
 ·rename_i t ht
  have h1:=h t ht
  unfold stB at h1
  rw [List.all_eq_true] at h1
  have:=h1 _ hm
  simp only [Bool.or_eq_true,decide_eq_true_eq,Bool.not_eq_true'] at this
  exact this.resolve_left (by omega)
 ·rfl
theorem St.of {L:List T} {k q:Nat} {t:T} (ht:L[q]?=some t) (h:stB k t=true):St L k q:=fun u hu=>by
 rw [ht] at hu;cases hu;exact h
theorem zaz {L:List T} {q:Nat} {t:T} (ht:L[q]?=some t) (k:Int) (s:S):isT L q k s=(decide (t.kind=k) && t.text == s):=by
 unfold isT;rw [ht]
theorem isT_yes {L:List T} {q:Nat} {k:Int} {s:S} (ht:L[q]?=some ⟨k,s,v0⟩):isT L q k s=true:=by
 rw [zaz ht];simp
theorem zc8 {L:List T} {q:Nat} {kd:Int}:∀ {l:List S},(∀ s∈l,isT L q kd s=false)→oneOf L q kd l=none
 | [],_=>rfl
 | s :: r,h=>by
  rw [oneOf,h s (by simp),if_neg (by decide)]
  exact zc8 fun x hx=>h x (List.mem_cons_of_mem _ hx)
theorem zgz {L:List T} {q:Nat} {kd:Int} {op:S} (ht:L[q]?=some ⟨kd,op,v0⟩):∀ {l:List S},op∈l→oneOf L q kd l=some op
 | s :: r,h=>by
  rw [oneOf,zaz ht]
  by_cases hs:op=s
  ·subst hs;simp
  ·simp only [decide_true,Bool.true_and]
   rw [if_neg (by simpa using hs)]
   rcases List.mem_cons.1 h with h | h
   ·exact absurd h hs
   ·exact zgz ht h
theorem St.ops {L:List T} {k q:Nat} (h:St L k q) (hk:k=0∨k=1∨k=4∨k=5∨k=6):oneOf L q (ops k).2 (ops k).1=none:=by
 refine zc8 fun s hs=>?_
 rcases hk with rfl | rfl | rfl | rfl | rfl
 all_goals
  simp only [Ex.ops,List.mem_cons,List.not_mem_nil,or_false] at hs
  first
   | (rcases hs with rfl | rfl | rfl<;>exact h.no (by decide) (Nat.le_refl _))
   | (rcases hs with rfl | rfl<;>exact h.no (by decide) (Nat.le_refl _))
   | (subst hs;exact h.no (by decide) (Nat.le_refl _))
theorem St.cmps {L:List T} {q:Nat} (h:St L 3 q):oneOf L q 4 cmps=none:=by
 refine zc8 fun s hs=>?_
 simp only [Ex.cmps,List.mem_cons,List.not_mem_nil,or_false] at hs
 rcases hs with rfl | rfl | rfl | rfl | rfl | rfl<;>exact h.no (by decide) (Nat.le_refl _)
theorem zbT {e:E} {q:Nat} {f:E→Nat→Option R}:then1 (some (.ok [e] q)) f=f e q:=rfl
theorem zb6 {N n:Nat} (h:N+1≤n):∃ m,n=m+1∧N≤m:=⟨n - 1,by omega,by omega⟩
theorem zuw {L:List T} {k p q:Nat} {e:E} (hk:k=0∨k=1∨k=4∨k=5∨k=6) (h:Ev L (.lev (k+1)) p (.ok [e] q)) (hs:St L k q):Ev L (.lev k) p (.ok [e] q):=by
 obtain ⟨N,h⟩:=h
 refine ⟨N+2,fun n hn=>?_⟩
 obtain ⟨m,rfl,hm⟩:=zb6 hn
 obtain ⟨m,rfl,hm⟩:=zb6 hm
 rw [zfk _ _ _ _ (by omega),h _ (by omega)]
 show run L (m+1) (.chain k e) q=_
 simp only [run]
 rw [hs.ops hk]
 rfl
theorem ev_bin {L:List T} {k p q r:Nat} {a b:E} {op:S} (hk:k=0∨k=1∨k=4∨k=5∨k=6) (h1:Ev L (.lev (k+1)) p (.ok [a] q)) (hop:op∈(ops k).1) (ht:L[q]?=some ⟨(ops k).2,op,v0⟩)
  (h2:Ev L (.lev (k+1)) (q+1) (.ok [b] r)) (hs:St L k r):Ev L (.lev k) p (.ok [eBin op a b] r):=by
 obtain ⟨N1,h1⟩:=h1
 obtain ⟨N2,h2⟩:=h2
 refine ⟨N1+N2+3,fun n hn=>?_⟩
 obtain ⟨m,rfl⟩:∃ m,n=m+3:=⟨n - 3,by omega⟩
 rw [zfk _ _ _ _ (by omega),h1 _ (by omega)]
 show run L (m+1+1) (.chain k a) q=_
 rw [run]
 rw [zgz ht hop]
 dsimp only
 rw [h2 _ (by omega)]
 show run L (m+1) (.chain k (eBin op a b)) r=_
 rw [run,hs.ops hk]
 rfl
theorem ev_not0 {L:List T} {p q:Nat} {e:E} (h:Ev L (.lev 3) p (.ok [e] q)) (hs:isT L p 2 wNot=false):Ev L (.lev 2) p (.ok [e] q):=by
 obtain ⟨N,h⟩:=h
 refine ⟨N+1,fun n hn=>?_⟩
 obtain ⟨m,rfl,hm⟩:=zb6 hn
 rw [run,hs,if_neg (by decide)]
 exact h _ (by omega)
theorem ev_cmp0 {L:List T} {p q:Nat} {e:E} (h:Ev L (.lev 4) p (.ok [e] q)) (hs:St L 3 q):Ev L (.lev 3) p (.ok [e] q):=by
 obtain ⟨N,h⟩:=h
 refine ⟨N+1,fun n hn=>?_⟩
 obtain ⟨m,rfl,hm⟩:=zb6 hn
 rw [run,h _ (by omega)]
 have g1:isT L q 2 wIs=false:=hs.no (j:=3) (by decide) (Nat.le_refl _)
 have g2:isT L q 2 wNot=false:=hs.no (j:=3) (by decide) (Nat.le_refl _)
 have g3:isT L q 2 wIn=false:=hs.no (j:=3) (by decide) (Nat.le_refl _)
 have g4:isT L q 2 zaO=false:=hs.no (j:=3) (by decide) (Nat.le_refl _)
 have g5:isT L q 2 zdQ=false:=hs.no (j:=3) (by decide) (Nat.le_refl _)
 simp only [then1,hs.cmps,g1,g2,Bool.false_and,Bool.false_eq_true,if_false,g3,g4,g5]
 rfl
theorem zni {L:List T} {p q:Nat} {e:E}:∀ (d i:Nat),i+d≤7→Ev L (.lev (i+d)) p (.ok [e] q)→St L i q→(i≤2→3≤i+d→isT L p 2 wNot=false)→Ev L (.lev i) p (.ok [e] q)
 | 0,i,_,h,_,_=>h
 | d+1,i,hd,h,hs,hn=>by
  have h1:Ev L (.lev (i+1)) p (.ok [e] q):=zni d (i+1) (by omega) (by rw [show i+1+d=i+(d+1) by omega];exact h) (hs.mono (by omega)) fun h1 h2=>hn (by omega) (by omega)
  have hi:(i=0∨i=1∨i=4∨i=5∨i=6)∨i=2∨i=3:=by omega
  rcases hi with hi | rfl | rfl
  ·exact zuw hi h1 hs
  ·exact ev_not0 h1 (hn (by omega) (by omega))
  ·exact ev_cmp0 h1 hs
theorem zqZ {L:List T} {p:Nat} {r:R} (h:Ev L (.lev 8) p r) (h1:isT L p 4 mMinus=false) (h2:isT L p 4 mPlus=false):Ev L (.lev 7) p r:=by
 obtain ⟨N,h⟩:=h
 refine ⟨N+1,fun n hn=>?_⟩
 obtain ⟨m,rfl,hm⟩:=zb6 hn
 rw [run,zc8 (fun s hs=>by simp only [List.mem_cons,List.not_mem_nil,or_false] at hs;rcases hs with rfl | rfl<;>assumption)]
 exact h _ (by omega)
theorem zq0 {L:List T} {p q:Nat} {e:E} (h1:L[p]?=some ⟨4,mOpen,v0⟩) (h2:L[q]?=some ⟨4,mShut,v0⟩) (h:Ev L (.lev 0) (p+1) (.ok [e] q)):Ev L (.lev 7) p (.ok [e] (q+1)):=by
 refine zqZ ?_ (by rw [zaz h1];decide) (by rw [zaz h1];decide)
 obtain ⟨N,h⟩:=h
 refine ⟨N+1,fun n hn=>?_⟩
 obtain ⟨m,rfl,hm⟩:=zb6 hn
 rw [zfB,h1]
 dsimp only
 rw [if_neg (by decide),if_neg (by decide),zaz h1,zaz h1,zaz h1,zaz h1,if_neg (by decide),if_neg (by decide),if_neg (by decide),if_pos (by decide),h _ (by omega)]
 show need L 4 mShut q _=_
 unfold need
 rw [isT_yes h2,if_pos rfl]
 rfl
theorem zaK {L:List T} {p q:Nat} {t:T} {r:List Pc} (h:Sp L p (some t :: r) q):L[p]?=some t∧Sp L (p+1) r q:=h
theorem zkh {L:List T} {q:Nat} (h:L[q]?=some ⟨4,mShut,v0⟩) (k:Nat):St L k q:=(St.of (k:=0) h (by decide)).mono (Nat.zero_le _)
theorem zbQ {L:List T} {q:Nat} {k:Int} {s:S} {f:Nat→Option R} (h:L[q]?=some ⟨k,s,v0⟩):need L k s q f=f (q+1):=by
 unfold need
 rw [isT_yes h,if_pos rfl]
theorem zpz {L:List T}:∀ (l:List E) (acc:List E) (p q:Nat),l≠[]→(∀ x∈l,∀ p q,Sp L p (pcs x) q→St L 0 q→Ev L (.lev 0) p (.ok [x] q))→Sp L p (commasP (l.map dOf)) q→L[q]?=some ⟨4,mShut,v0⟩→Ev L (.list acc) p (.ok (acc++l) (q+1))
 | [],_,_,_,h,_,_,_=>absurd rfl h
 | [a],acc,p,q,_,h,hp,hq=>by
  obtain ⟨N,h⟩:=h a (by simp) p q hp (zkh hq 0)
  refine ⟨N+1,fun n hn=>?_⟩
  obtain ⟨m,rfl,hm⟩:=zb6 hn
  rw [run,h _ (by omega)]
  show (if isT L q 4 mComma then _ else _)=_
  rw [zaz hq,if_neg (by decide),zbQ hq]
 | a :: b :: l,acc,p,q,_,h,hp,hq=>by
  simp only [List.map_cons,commasP,List.append_assoc] at hp
  obtain ⟨m1,h1,h2⟩:=zaU hp
  have h2:L[m1]?=some ⟨4,mComma,v0⟩∧Sp L (m1+1) (commasP ((b :: l).map dOf)) q:=h2
  obtain ⟨N1,g1⟩:=h a (by simp) p m1 h1 ((St.of (k:=0) h2.1 (by decide)).mono (Nat.zero_le _))
  obtain ⟨N2,g2⟩:=zpz (b :: l) (acc++[a]) (m1+1) q (by simp) (fun x hx=>h x (List.mem_cons_of_mem _ hx)) h2.2 hq
  refine ⟨N1+N2+1,fun n hn=>?_⟩
  obtain ⟨m,rfl,hm⟩:=zb6 hn
  rw [run,g1 _ (by omega)]
  show (if isT L m1 4 mComma then _ else _)=_
  rw [isT_yes h2.1,if_pos rfl,g2 _ (by omega)]
  simp
theorem zqY {L:List T} {d:Bool}:∀ (l:List E) (acc:List E) (p q:Nat),2≤l.length→(∀ x∈l,∀ p q,Sp L p (pcs x) q→St L 0 q→Ev L (.lev 0) p (.ok [x] q))→Sp L p (whensQ (l.map dOf)) q→L[q]?=some ⟨2,wEnd,v0⟩→Ev L (.whens d acc) p (.ok [eCase d (acc++l)] (q+1))
 | [],_,_,_,h,_,_,_=>absurd h (by simp)
 | [a],_,_,_,h,_,_,_=>absurd h (by simp)
 | a :: b :: l,acc,p,q,_,h,hp,hq=>by
  simp only [List.map_cons,whensQ,List.append_assoc,List.cons_append,List.nil_append] at hp
  obtain ⟨hw,hp⟩:=zaK hp
  have hp:Sp L (p+1) (pcs a++(wd wThen :: (pcs b++whensQ (l.map dOf)))) q:=by
   obtain ⟨m,x1,x2⟩:=zaU (a:=pcs a) hp
   have x2:L[m]?=some ⟨2,wThen,v0⟩∧Sp L (m+1) (pcs b++(bk :: whensQ (l.map dOf))) q:=x2
   obtain ⟨m2,y1,y2⟩:=zaU x2.2
   have y2:Sp L m2 (whensQ (l.map dOf)) q:=y2
   exact zsL x1 ⟨x2.1,zsL y1 y2⟩
  obtain ⟨m1,a1,hp⟩:=zaU hp
  obtain ⟨ht,hp⟩:=zaK hp
  obtain ⟨m2,b1,hp⟩:=zaU hp
  obtain ⟨N1,g1⟩:=h a (by simp) _ _ a1 ((St.of (k:=0) ht (by decide)).mono (Nat.zero_le _))
  match l,h,hp with
  | [],h,hp =>
   have hp:q=m2:=hp
   subst hp
   obtain ⟨N2,g2⟩:=h b (by simp) _ _ b1 ((St.of (k:=0) hq (by decide)).mono (Nat.zero_le _))
   refine ⟨N1+N2+1,fun n hn=>?_⟩
   obtain ⟨m,rfl,hm⟩:=zb6 hn
   rw [zez,zbQ hw]
   unfold whenK
   rw [g1 _ (by omega),zbT,zbQ ht,g2 _ (by omega),zbT]
   show (if isT L q 2 zdg then _ else _)=_
   rw [zaz hq,if_neg (by decide)]
   unfold znJ
   rw [zaz hq,if_neg (by decide),zbQ hq]
   rfl
  | [c],h,hp =>
   have hp:L[m2]?=some ⟨2,ziO,v0⟩∧Sp L (m2+1) (pcs c++[bk]) q:=hp
   obtain ⟨m3,c1,hq3⟩:=zaU hp.2
   have hq3:q=m3:=hq3
   subst hq3
   obtain ⟨N2,g2⟩:=h b (by simp) _ _ b1 ((St.of (k:=0) hp.1 (by decide)).mono (Nat.zero_le _))
   obtain ⟨N3,g3⟩:=h c (by simp) _ _ c1 ((St.of (k:=0) hq (by decide)).mono (Nat.zero_le _))
   refine ⟨N1+N2+N3+1,fun n hn=>?_⟩
   obtain ⟨m,rfl,hm⟩:=zb6 hn
   rw [zez,zbQ hw]
   unfold whenK
   rw [g1 _ (by omega),zbT,zbQ ht,g2 _ (by omega),zbT]
   show (if isT L m2 2 zdg then _ else _)=_
   rw [zaz hp.1,if_neg (by decide)]
   unfold znJ
   rw [isT_yes hp.1,if_pos rfl,g3 _ (by omega)]
   show need L 2 wEnd q _=_
   rw [zbQ hq]
   simp [one]
  | c :: e :: l,h,hp =>
   have hw2:L[m2]?=some ⟨2,zdg,v0⟩:=by
    simp only [List.map_cons,whensQ,List.append_assoc,List.cons_append,List.nil_append] at hp
    exact hp.1
   obtain ⟨N2,g2⟩:=h b (by simp) _ _ b1 ((St.of (k:=0) hw2 (by decide)).mono (Nat.zero_le _))
   obtain ⟨N3,g3⟩:=zqY (d:=d) (c :: e :: l) (acc++[a,b]) m2 q (by simp) (fun x hx=>h x (List.mem_cons_of_mem _ (List.mem_cons_of_mem _ hx))) hp hq
   refine ⟨N1+N2+N3+1,fun n hn=>?_⟩
   obtain ⟨m,rfl,hm⟩:=zb6 hn
   rw [zez,zbQ hw]
   unfold whenK
   rw [g1 _ (by omega),zbT,zbQ ht,g2 _ (by omega),zbT]
   show (if isT L m2 2 zdg then _ else _)=_
   rw [isT_yes hw2,if_pos rfl,g3 _ (by omega)]
   simp
end Ex
namespace Ex
open Lx
def lvOp (op:S):Nat:=if op=wOr then 0 else if op=wAnd then 1 else if op=mPlus∨op=mMinus then 4 else if op=zbG∨op=[47]∨op=[37] then 5 else if op=[124,124] then 6 else 3
def lv (e:E):Nat:=if e.kind=3 then (if e.op=wNot then 2 else 7) else if e.kind=4 then lvOp e.op else if 5≤e.kind∧e.kind≤8 then 3 else 7
def B (e:E):Prop:=∀ L p q,Sp L p (pcs e) q→St L (lv e) q→Ev L (.lev (lv e)) p (.ok [e] q)
def F (e:E):Prop:=∀ L p q,Sp L p (pcs e) q→3≤lv e→isT L p 2 wNot=false
theorem zsm {v:V} {L:List T} {p q:Nat} {r:List Pc} (h:Sp L p (zgi v++r) q):isT L p 2 wNot=false:=by
 unfold zgi at h
 split at h
 ·rw [zaz h.1];decide
 ·split at h
  ·rw [zaz h.1];decide
  ·rw [zaz h.1];rfl
theorem zhZ {e:E} (h:Rt e) (hj:zcl e.kind=false) {L:List T} {p q:Nat} {r:List Pc} (hp:Sp L p (pcs e++r) q):isT L p 2 wNot=false:=by
 rw [pcs_eq] at hp
 cases h with
 | val v h1 h2=>exact zsm (v:=v) hp
 | col t n h1 h2 =>
  replace hp:Sp L p ((if t=[] then [nmP n] else [nmP t,mk mDot,nmP n])++r) q:=hp
  split at hp
  ·rw [zaz hp.1];rfl
  ·rw [zaz hp.1];rfl
 | un op a=>exact absurd hj (by simp [eUn,E.kind,zcl])
 | bin op a b=>exact absurd hj (by simp [eBin,E.kind,zcl])
 | is g a b=>exact absurd hj (by simp [eIs,E.kind,zcl])
 | in_ g a l=>exact absurd hj (by simp [eIn,E.kind,zcl])
 | btw g a b c=>exact absurd hj (by simp [eBtw,E.kind,zcl])
 | like g a b=>exact absurd hj (by simp [zeT,E.kind,zcl])
 | case d l=>rw [zaz (t:=⟨2,wCase,v0⟩) hp.1];decide
 | fn op l h1 =>
  replace hp:Sp L p (([nmP op,mk mOpen]++commasP (l.map dOf)++[mk mShut])++r) q:=hp
  rw [zaz (t:=⟨1,op,v0⟩) hp.1];rfl
 | agg op d a h1 =>
  replace hp:Sp L p ((if d then [nmP op,mk mOpen,wd zae,bk]++pcs a++[mk mShut] else [nmP op,mk mOpen]++pcs a++[mk mShut])++r) q:=hp
  split at hp
  ·rw [zaz (t:=⟨1,op,v0⟩) hp.1];rfl
  ·rw [zaz (t:=⟨1,op,v0⟩) hp.1];rfl
 | star=>rw [zaz (t:=⟨1,wCount,v0⟩) hp.1];rfl
 | cast op a=>rw [zaz (t:=⟨2,wCast,v0⟩) hp.1];decide
theorem zeF {e:E} (h:Rt e) {L:List T} {p q:Nat} {r:List Pc} (hp:Sp L p (innP (dOf e)++r) q):isT L p 2 wNot=false:=by
 unfold innP at hp
 split at hp
 ·rw [zaz (t:=⟨4,mOpen,v0⟩) hp.1];rfl
 ·rename_i hj
  exact zhZ h (by simpa [dOf] using hj) hp
theorem zrZ {e:E} (h:Rt e) {L:List T} {p q:Nat} {r:List Pc} (hp:Sp L p (zdJ (dOf e)++r) q):isT L p 2 wNot=false:=by
 unfold zdJ at hp
 split at hp
 ·rw [zaz (t:=⟨4,mOpen,v0⟩) hp.1];rfl
 ·rename_i hj
  simp only [dOf,Bool.or_eq_true,not_or] at hj
  exact zhZ h (by simpa using hj.1) hp
theorem rt_first {e:E} (h:Rt e):F e:=by
 intro L p q hp hl
 by_cases hj:zcl e.kind=false
 ·exact zhZ h hj (r:=[]) (by rw [List.append_nil];exact hp)
 rw [pcs_eq] at hp
 cases h with
 | val v h1 h2=>exact absurd rfl hj
 | col t n h1 h2=>exact absurd rfl hj
 | un op a =>
  by_cases ho:op=wNot
  ·exact absurd hl (by simp [lv,eUn,E.kind,E.op,ho])
  ·replace hp:Sp L p (if op=wNot then [wd wNot,bk]++zdJ (dOf a) else [mk op]++zdJ (dOf a)) q:=hp
   rw [if_neg ho] at hp
   rw [zaz (t:=⟨4,op,v0⟩) hp.1];rfl
 | bin op a b h1 h2 h3 =>
  replace hp:Sp L p (innP (dOf a)++[bk,opP op,bk]++innP (dOf b)) q:=hp
  rw [List.append_assoc] at hp
  exact zeF h2 hp
 | is g a b h2 h3 =>
  replace hp:Sp L p (innP (dOf a)++[bk,wd wIs,bk]++(if g then [wd wNot,bk] else [])++innP (dOf b)) q:=hp
  simp only [List.append_assoc] at hp
  exact zeF h2 hp
 | in_ g a l h1 h2 =>
  replace hp:Sp L p (innP (dOf a)++notP g wIn++[mk mOpen]++commasP (l.map dOf)++[mk mShut]) q:=hp
  simp only [List.append_assoc] at hp
  exact zeF h2 hp
 | btw g a b c h2 =>
  replace hp:Sp L p (innP (dOf a)++notP g zaO++innP (dOf b)++[bk,wd wAnd,bk]++innP (dOf c)) q:=hp
  simp only [List.append_assoc] at hp
  exact zeF h2 hp
 | like g a b h2 =>
  replace hp:Sp L p (innP (dOf a)++notP g zdQ++innP (dOf b)) q:=hp
  simp only [List.append_assoc] at hp
  exact zeF h2 hp
 | case d l=>exact absurd rfl hj
 | fn op l h1=>exact absurd rfl hj
 | agg op d a h1=>exact absurd rfl hj
 | star=>exact absurd rfl hj
 | cast op a=>exact absurd rfl hj
theorem lvOp_le (op:S):lvOp op≤7:=by
 unfold lvOp
 repeat' split
 all_goals omega
theorem lv_le (e:E):lv e≤7:=by
 unfold lv
 split
 ·split<;>omega
 split
 ·exact lvOp_le _
 split<;>omega
theorem full {e:E} (h:Rt e) (hb:B e) {L:List T} {p q:Nat} (hp:Sp L p (pcs e) q) (hs:St L 0 q):Ev L (.lev 0) p (.ok [e] q) :=
 zni (lv e) 0 (by have:=lv_le e;omega) (by rw [Nat.zero_add];exact hb L p q hp (hs.mono (Nat.zero_le _))) hs fun _ h3=>rt_first h L p q hp (by omega)
theorem zqL {e:E} (hj:zcl e.kind=false):lv e=7:=by
 unfold zcl at hj
 simp only [Bool.and_eq_false_iff,decide_eq_false_iff_not] at hj
 unfold lv
 rw [if_neg (by omega),if_neg (by omega),if_neg (by omega)]
theorem opd7 {e:E} (h:Rt e) (hb:B e) {L:List T} {p q:Nat} (hp:Sp L p (innP (dOf e)) q) (hs:St L 7 q):Ev L (.lev 7) p (.ok [e] q):=by
 unfold innP at hp
 split at hp
 ·obtain ⟨h1,h2⟩:=zaK hp
  obtain ⟨m,h3,h4⟩:=zaU h2
  replace h4:=zaK h4
  obtain ⟨h4,h5⟩:=h4
  replace h5:q=m+1:=h5
  subst h5
  exact zq0 h1 h4 (full h hb h3 (zkh h4 0))
 ·rename_i hj
  have hj:zcl e.kind=false:=by simpa [dOf] using hj
  have:=hb L p q hp
  rw [zqL hj] at this
  exact this hs
theorem opdU7 {e:E} (h:Rt e) (hb:B e) {L:List T} {p q:Nat} (hp:Sp L p (zdJ (dOf e)) q) (hs:St L 7 q):Ev L (.lev 7) p (.ok [e] q):=by
 unfold zdJ at hp
 split at hp
 ·obtain ⟨h1,h2⟩:=zaK hp
  obtain ⟨m,h3,h4⟩:=zaU h2
  replace h4:=zaK h4
  obtain ⟨h4,h5⟩:=h4
  replace h5:q=m+1:=h5
  subst h5
  exact zq0 h1 h4 (full h hb h3 (zkh h4 0))
 ·rename_i hj
  simp only [dOf,Bool.or_eq_true,not_or] at hj
  have hj:zcl e.kind=false:=by simpa using hj.1
  have:=hb L p q hp
  rw [zqL hj] at this
  exact this hs
theorem opd {e:E} (h:Rt e) (hb:B e) {L:List T} {p q i:Nat} (hi:i≤7) (hp:Sp L p (innP (dOf e)) q) (hs:St L i q):Ev L (.lev i) p (.ok [e] q) :=
 zni (7 - i) i (by omega) (by rw [show i+(7 - i)=7 by omega];exact opd7 h hb hp (hs.mono hi)) hs fun _ _=>zeF h (r:=[]) (by rw [List.append_nil];exact hp)
theorem opdU {e:E} (h:Rt e) (hb:B e) {L:List T} {p q i:Nat} (hi:i≤7) (hp:Sp L p (zdJ (dOf e)) q) (hs:St L i q):Ev L (.lev i) p (.ok [e] q) :=
 zni (7 - i) i (by omega) (by rw [show i+(7 - i)=7 by omega];exact opdU7 h hb hp (hs.mono hi)) hs fun _ _=>zrZ h (r:=[]) (by rw [List.append_nil];exact hp)
theorem ev7 {L:List T} {p:Nat} {r:R} {t:T} (ht:L[p]?=some t) (h4:t.kind≠4) (h:∃ N,∀ n,N≤n→(if t.kind=3 then one (eVal t.val) (p+1)
    else if t.kind=1 then zhu L n t.text (p+1)
    else if isT L p 2 zmn then one (eVal v0) (p+1)
    else if isT L p 2 wCase then zgI L n (p+1)
    else if isT L p 2 wCast then zll L n (p+1)
    else if isT L p 4 mOpen then then1 (run L n (.lev 0) (p+1)) fun e q=>need L 4 mShut q fun r=>one e r
    else some (.stop p))=some r):Ev L (.lev 7) p r:=by
 refine zqZ ?_ (by rw [zaz ht];simp [h4]) (by rw [zaz ht];simp [h4])
 obtain ⟨N,h⟩:=h
 refine ⟨N+1,fun n hn=>?_⟩
 obtain ⟨m,rfl,hm⟩:=zb6 hn
 rw [zfB,ht]
 exact h m hm
theorem b_val (v:V) (h1:mayV v=true):B (eVal v):=by
 intro L p q hp hs
 replace hp:Sp L p (zgi v) q:=hp
 have hl:lv (eVal v)=7:=rfl
 rw [hl] at hs ⊢
 obtain ⟨k,n,s⟩:=v
 unfold mayV at h1
 unfold zgi at hp
 dsimp only at h1 hp
 by_cases hk:k=0
 ·subst hk
  rw [if_pos rfl] at hp h1
  simp only [Bool.and_eq_true,decide_eq_true_eq,beq_iff_eq] at h1
  obtain ⟨rfl,rfl⟩:=h1
  obtain ⟨ht,hq⟩:=zaK hp
  replace hq:q=p+1:=hq
  subst hq
  refine ev7 ht (by decide) ⟨0,fun n _=>?_⟩
  rw [if_neg (by decide),if_neg (by decide),isT_yes ht,if_pos rfl]
  rfl
 rw [if_neg hk] at h1 hp
 by_cases hn:k=1∧n < 0
 ·rw [if_pos hn] at hp
  rw [if_pos hn.1] at h1
  obtain ⟨rfl,hn⟩:=hn
  have hs0:s=[]:=by simpa using h1
  subst hs0
  replace hp:=zaK hp
  obtain ⟨ht,hp⟩:=hp
  obtain ⟨hu,hq⟩:=zaK hp
  replace hq:q=p+1+1:=hq
  subst hq
  refine ⟨1,fun n hn=>?_⟩
  obtain ⟨m,rfl,hm⟩:=zb6 (N:=0) hn
  rw [run,zgz ht (by decide)]
  dsimp only
  rw [hu]
  dsimp only
  rw [if_pos (by rfl)]
  simp [one]
 rw [if_neg hn] at hp
 obtain ⟨ht,hq⟩:=zaK hp
 replace hq:q=p+1:=hq
 subst hq
 refine ev7 ht (by dsimp only;decide) ⟨0,fun n _=>?_⟩
 rw [if_pos rfl]
 rfl
theorem b_col (t n:S):B (eCol t n):=by
 intro L p q hp hs
 replace hp:Sp L p (if t=[] then [nmP n] else [nmP t,mk mDot,nmP n]) q:=hp
 have hl:lv (eCol t n)=7:=rfl
 rw [hl] at hs ⊢
 split at hp
 ·rename_i ht0
  obtain ⟨ht,hq⟩:=zaK hp
  replace hq:q=p+1:=hq
  subst hq ht0
  refine ev7 ht (by dsimp only;decide) ⟨0,fun n _=>?_⟩
  rw [if_neg (by dsimp only;decide),if_pos rfl]
  unfold zhu
  rw [hs.no (j:=8) (by decide) (by decide),if_neg (by decide),hs.no (j:=8) (by decide) (by decide),if_neg (by decide)]
  rfl
 ·replace hp:=zaK hp
  obtain ⟨ht,hp⟩:=hp
  replace hp:=zaK hp
  obtain ⟨hd,hp⟩:=hp
  obtain ⟨hu,hq⟩:=zaK hp
  replace hq:q=p+1+1+1:=hq
  subst hq
  refine ev7 ht (by dsimp only;decide) ⟨0,fun n _=>?_⟩
  rw [if_neg (by dsimp only;decide),if_pos rfl]
  unfold zhu
  rw [isT_yes hd,if_pos rfl,hu]
  dsimp only
  rw [if_pos rfl]
  rfl
def badF (t:T):Bool:=(decide (t.kind=4) && (t.text == mShut || t.text == zbG)) || (decide (t.kind=2) && (t.text == zdg || t.text == zae))
theorem valPs_first {v:V} {L:List T} {p q:Nat} {r:List Pc} (h:Sp L p (zgi v++r) q):∃ t,L[p]?=some t∧badF t=false:=by
 unfold zgi at h
 split at h
 ·exact ⟨_,h.1,by decide⟩
 ·split at h
  ·exact ⟨_,h.1,by decide⟩
  ·exact ⟨_,h.1,by rfl⟩
theorem rt_begin {e:E} (h:Rt e):∀ {L:List T} {p q:Nat} {r:List Pc},Sp L p (pcs e++r) q→∃ t,L[p]?=some t∧badF t=false:=by
 have inn:∀ {a:E},(∀ {L:List T} {p q:Nat} {r:List Pc},Sp L p (pcs a++r) q→∃ t,L[p]?=some t∧badF t=false)→∀ {L:List T} {p q:Nat} {r:List Pc},Sp L p (innP (dOf a)++r) q→∃ t,L[p]?=some t∧badF t=false:=by
  intro a ih L p q r hp
  unfold innP at hp
  split at hp
  ·exact ⟨⟨4,mOpen,v0⟩,hp.1,by decide⟩
  ·exact ih hp
 induction h with
 | val v h1 h2=>intro L p q r hp;exact valPs_first (v:=v) hp
 | col t n h1 h2 =>
  intro L p q r hp
  rw [pcs_eq] at hp
  replace hp:Sp L p ((if t=[] then [nmP n] else [nmP t,mk mDot,nmP n])++r) q:=hp
  split at hp
  ·exact ⟨_,hp.1,by rfl⟩
  ·exact ⟨_,hp.1,by rfl⟩
 | un op a h1 =>
  intro L p q r hp
  rw [pcs_eq] at hp
  replace hp:Sp L p ((if op=wNot then [wd wNot,bk]++zdJ (dOf a) else [mk op]++zdJ (dOf a))++r) q:=hp
  split at hp
  ·exact ⟨_,hp.1,by decide⟩
  ·refine ⟨_,hp.1, ?_⟩
   simp only [uns,List.mem_cons,List.not_mem_nil,or_false] at h1
   rcases h1 with rfl | rfl | rfl<;>decide
 | bin op a b h1 h2 h3 ih =>
  intro L p q r hp
  rw [pcs_eq] at hp
  replace hp:Sp L p ((innP (dOf a)++[bk,opP op,bk]++innP (dOf b))++r) q:=hp
  simp only [List.append_assoc] at hp
  exact inn ih hp
 | is g a b h2 h3 ih =>
  intro L p q r hp
  rw [pcs_eq] at hp
  replace hp:Sp L p ((innP (dOf a)++[bk,wd wIs,bk]++(if g then [wd wNot,bk] else [])++innP (dOf b))++r) q:=hp
  simp only [List.append_assoc] at hp
  exact inn ih hp
 | in_ g a l h1 h2 h3 ih =>
  intro L p q r hp
  rw [pcs_eq] at hp
  replace hp:Sp L p ((innP (dOf a)++notP g wIn++[mk mOpen]++commasP (l.map dOf)++[mk mShut])++r) q:=hp
  simp only [List.append_assoc] at hp
  exact inn ih hp
 | btw g a b c h2 h3 h4 ih =>
  intro L p q r hp
  rw [pcs_eq] at hp
  replace hp:Sp L p ((innP (dOf a)++notP g zaO++innP (dOf b)++[bk,wd wAnd,bk]++innP (dOf c))++r) q:=hp
  simp only [List.append_assoc] at hp
  exact inn ih hp
 | like g a b h2 h3 ih =>
  intro L p q r hp
  rw [pcs_eq] at hp
  replace hp:Sp L p ((innP (dOf a)++notP g zdQ++innP (dOf b))++r) q:=hp
  simp only [List.append_assoc] at hp
  exact inn ih hp
 | case d l=>intro L p q r hp;rw [pcs_eq] at hp;exact ⟨⟨2,wCase,v0⟩,hp.1,by decide⟩
 | fn op l h1 =>
  intro L p q r hp
  rw [pcs_eq] at hp
  replace hp:Sp L p (([nmP op,mk mOpen]++commasP (l.map dOf)++[mk mShut])++r) q:=hp
  exact ⟨⟨1,op,v0⟩,hp.1,by rfl⟩
 | agg op d a h1 =>
  intro L p q r hp
  rw [pcs_eq] at hp
  replace hp:Sp L p ((if d then [nmP op,mk mOpen,wd zae,bk]++pcs a++[mk mShut] else [nmP op,mk mOpen]++pcs a++[mk mShut])++r) q:=hp
  split at hp
  ·exact ⟨⟨1,op,v0⟩,hp.1,by rfl⟩
  ·exact ⟨⟨1,op,v0⟩,hp.1,by rfl⟩
 | star=>intro L p q r hp;rw [pcs_eq] at hp;exact ⟨⟨1,wCount,v0⟩,hp.1,by rfl⟩
 | cast op a=>intro L p q r hp;rw [pcs_eq] at hp;exact ⟨⟨2,wCast,v0⟩,hp.1,by decide⟩
theorem zg6 {e:E} (h:Rt e) {L:List T} {p q:Nat} {r:List Pc} (hp:Sp L p (pcs e++r) q):isT L p 4 mShut=false∧isT L p 4 zbG=false∧isT L p 2 zdg=false∧isT L p 2 zae=false:=by
 obtain ⟨t,ht,hb⟩:=rt_begin h hp
 unfold badF at hb
 simp only [Bool.or_eq_false_iff,Bool.and_eq_false_iff] at hb
 rw [zaz ht,zaz ht,zaz ht,zaz ht]
 simp only [Bool.and_eq_false_iff]
 exact ⟨hb.1.imp id (·.1),hb.1.imp id (·.2),hb.2.imp id (·.1),hb.2.imp id (·.2)⟩
theorem zrT {e:E} (h:Rt e) {L:List T} {p q:Nat} (hp:Sp L p (zdJ (dOf e)) q) {u:T} (hu:L[p]?=some u) (h3:u.kind=3):u.val.1≠1:=by
 unfold zdJ at hp
 split at hp
 ·have:=hp.1
  rw [hu] at this
  cases this
  cases h3
 ·rename_i hj
  simp only [dOf,Bool.or_eq_true,Bool.and_eq_true,decide_eq_true_eq,not_or,not_and] at hj
  replace hp:Sp L p (pcs e) q:=hp
  have first:∀ t,L[p]?=some t→t.kind≠3→u.val.1≠1:=fun t ht hk=>by
   rw [hu] at ht;cases ht;exact absurd h3 hk
  rw [pcs_eq] at hp
  cases h with
  | val v h1 h2 =>
   have hv:v.1≠1:=fun h=>hj.2 rfl (decide_eq_true h)
   replace hp:Sp L p (zgi v) q:=hp
   unfold zgi at hp
   split at hp
   ·exact first _ hp.1 (by decide)
   ·rw [if_neg (fun h=>hv h.1)] at hp
    have:=hp.1
    rw [hu] at this
    cases this
    exact hv
  | col t n h1 h2 =>
   replace hp:Sp L p (if t=[] then [nmP n] else [nmP t,mk mDot,nmP n]) q:=hp
   split at hp
   ·exact first _ hp.1 (by dsimp only;decide)
   ·exact first _ hp.1 (by dsimp only;decide)
  | un op a=>exact absurd hj.1 (by simp [eUn,E.kind,zcl])
  | bin op a b=>exact absurd hj.1 (by simp [eBin,E.kind,zcl])
  | is g a b=>exact absurd hj.1 (by simp [eIs,E.kind,zcl])
  | in_ g a l=>exact absurd hj.1 (by simp [eIn,E.kind,zcl])
  | btw g a b c=>exact absurd hj.1 (by simp [eBtw,E.kind,zcl])
  | like g a b=>exact absurd hj.1 (by simp [zeT,E.kind,zcl])
  | case d l=>exact first ⟨2,wCase,v0⟩ hp.1 (by decide)
  | fn op l h1 =>
   replace hp:Sp L p ([nmP op,mk mOpen]++commasP (l.map dOf)++[mk mShut]) q:=hp
   exact first ⟨1,op,v0⟩ hp.1 (by dsimp only;decide)
  | agg op d a h1 =>
   replace hp:Sp L p (if d then [nmP op,mk mOpen,wd zae,bk]++pcs a++[mk mShut] else [nmP op,mk mOpen]++pcs a++[mk mShut]) q:=hp
   split at hp
   ·exact first ⟨1,op,v0⟩ hp.1 (by dsimp only;decide)
   ·exact first ⟨1,op,v0⟩ hp.1 (by dsimp only;decide)
  | star=>exact first ⟨1,wCount,v0⟩ hp.1 (by decide)
  | cast op a=>exact first ⟨2,wCast,v0⟩ hp.1 (by decide)
theorem b_un (op:S) (a:E) (ho:op∈uns) (h:Rt a) (hb:B a):B (eUn op a):=by
 intro L p q hp hs
 replace hp:Sp L p (if op=wNot then [wd wNot,bk]++zdJ (dOf a) else [mk op]++zdJ (dOf a)) q:=hp
 by_cases hn:op=wNot
 ·subst hn
  rw [if_pos rfl] at hp
  have hl:lv (eUn wNot a)=2:=by simp [lv,eUn,E.kind,E.op]
  rw [hl] at hs ⊢
  replace hp:=zaK hp
  obtain ⟨ht,hp⟩:=hp
  obtain ⟨N,h1⟩:=opdU h hb (i:=2) (by decide) hp hs
  refine ⟨N+1,fun n hn=>?_⟩
  obtain ⟨m,rfl,hm⟩:=zb6 hn
  rw [run,isT_yes ht,if_pos rfl,h1 _ hm]
  rfl
 ·rw [if_neg hn] at hp
  have hl:lv (eUn op a)=7:=by simp [lv,eUn,E.kind,E.op,hn]
  rw [hl] at hs ⊢
  replace hp:=zaK hp
  obtain ⟨ht,hp⟩:=hp
  have hop:op∈[mMinus,mPlus]:=by
   simp only [uns,List.mem_cons,List.not_mem_nil,or_false] at ho ⊢
   rcases ho with h | h | h
   ·exact .inl h
   ·exact .inr h
   ·exact absurd h hn
  obtain ⟨N,h1⟩:=opdU h hb (i:=7) (by decide) hp hs
  refine ⟨N+1,fun n hn=>?_⟩
  obtain ⟨m,rfl,hm⟩:=zb6 hn
  rw [run,zgz ht hop]
  dsimp only
  have hg:then1 (run L m (.lev 7) (p+1)) (fun e q=>one (eUn op e) q)=some (.ok [eUn op a] q):=by
   rw [h1 _ hm];rfl
  split
  ·rename_i u hu
   rw [if_neg,hg]
   simp only [Bool.and_eq_true,decide_eq_true_eq,not_and]
   intro h2 h3
   exact zrT h hp hu h2.2 h3
  ·exact hg
theorem ops_lv {op:S} (h:op∈bins):(∃ k,lvOp op=k∧(k=0∨k=1∨k=4∨k=5∨k=6)∧op∈(ops k).1∧opP op=some ⟨(ops k).2,op,v0⟩∧stB (k+1) ⟨(ops k).2,op,v0⟩=true)∨(lvOp op=3∧op∈cmps∧opP op=some ⟨4,op,v0⟩∧stB 4 ⟨4,op,v0⟩=true):=by
 simp only [bins,List.mem_cons,List.not_mem_nil,or_false] at h
 rcases h with rfl | rfl | rfl | rfl | rfl | rfl | rfl | rfl | rfl | rfl | rfl | rfl | rfl | rfl
 ·exact .inl ⟨6,by decide,by decide,by decide,by rfl,by decide⟩
 ·exact .inl ⟨5,by decide,by decide,by decide,by rfl,by decide⟩
 ·exact .inl ⟨5,by decide,by decide,by decide,by rfl,by decide⟩
 ·exact .inl ⟨5,by decide,by decide,by decide,by rfl,by decide⟩
 ·exact .inl ⟨4,by decide,by decide,by decide,by rfl,by decide⟩
 ·exact .inl ⟨4,by decide,by decide,by decide,by rfl,by decide⟩
 ·exact .inr ⟨by decide,by decide,by rfl,by decide⟩
 ·exact .inr ⟨by decide,by decide,by rfl,by decide⟩
 ·exact .inr ⟨by decide,by decide,by rfl,by decide⟩
 ·exact .inr ⟨by decide,by decide,by rfl,by decide⟩
 ·exact .inr ⟨by decide,by decide,by rfl,by decide⟩
 ·exact .inr ⟨by decide,by decide,by rfl,by decide⟩
 ·exact .inl ⟨1,by decide,by decide,by decide,by rfl,by decide⟩
 ·exact .inl ⟨0,by decide,by decide,by decide,by rfl,by decide⟩
theorem b_bin (op:S) (a b:E) (ho:op∈bins) (h1:Rt a) (b1:B a) (h2:Rt b) (b2:B b):B (eBin op a b):=by
 intro L p q hp hs
 replace hp:Sp L p (innP (dOf a)++[bk,opP op,bk]++innP (dOf b)) q:=hp
 simp only [List.append_assoc,List.cons_append,List.nil_append] at hp
 replace hp:=zaU hp
 obtain ⟨m,hp,hp2⟩:=hp
 have hl:lv (eBin op a b)=lvOp op:=rfl
 rw [hl] at hs ⊢
 rcases ops_lv ho with ⟨k,hk,hk2,hop,hP,hst⟩ | ⟨hk,hop,hP,hst⟩
 ·rw [hk] at hs ⊢
  rw [hP] at hp2
  replace hp2:=zaK (p:=m) hp2
  obtain ⟨ht,hp2⟩:=hp2
  replace hp2:Sp L (m+1) (innP (dOf b)) q:=hp2
  exact ev_bin hk2 (opd h1 b1 (by omega) hp (St.of ht hst)) hop ht (opd h2 b2 (by omega) hp2 (hs.mono (by omega))) hs
 ·rw [hk] at hs ⊢
  rw [hP] at hp2
  replace hp2:=zaK (p:=m) hp2
  obtain ⟨ht,hp2⟩:=hp2
  replace hp2:Sp L (m+1) (innP (dOf b)) q:=hp2
  obtain ⟨N1,g1⟩:=opd h1 b1 (i:=4) (by omega) hp (St.of ht hst)
  obtain ⟨N2,g2⟩:=opd h2 b2 (i:=4) (by omega) hp2 (hs.mono (by omega))
  refine ⟨N1+N2+1,fun n hn=>?_⟩
  obtain ⟨x,rfl,hx⟩:=zb6 hn
  rw [run,g1 _ (by omega),zbT,zgz ht hop]
  dsimp only
  rw [g2 _ (by omega)]
  rfl
theorem b_is (g:Bool) (a b:E) (h1:Rt a) (b1:B a) (h2:Rt b) (b2:B b):B (eIs g a b):=by
 intro L p q hp hs
 replace hp:Sp L p (innP (dOf a)++[bk,wd wIs,bk]++(if g then [wd wNot,bk] else [])++innP (dOf b)) q:=hp
 simp only [List.append_assoc,List.cons_append,List.nil_append] at hp
 replace hp:=zaU hp
 obtain ⟨m,hp,hp2⟩:=hp
 have hl:lv (eIs g a b)=3:=rfl
 rw [hl] at hs ⊢
 replace hp2:=zaK (p:=m) hp2
 obtain ⟨ht,hp2⟩:=hp2
 obtain ⟨N1,g1⟩:=opd h1 b1 (i:=4) (by omega) hp (St.of ht (by decide))
 have ho:oneOf L m 4 cmps=none:=zc8 fun s _=>by rw [zaz ht];rfl
 cases g
 ·replace hp2:Sp L (m+1) (innP (dOf b)) q:=hp2
  obtain ⟨N2,g2⟩:=opd h2 b2 (i:=4) (by omega) hp2 (hs.mono (by omega))
  have hn:=zeF h2 (r:=[]) (by rw [List.append_nil];exact hp2)
  refine ⟨N1+N2+1,fun n hnn=>?_⟩
  obtain ⟨x,rfl,hx⟩:=zb6 hnn
  rw [run,g1 _ (by omega),zbT,ho]
  dsimp only
  rw [isT_yes ht,if_pos rfl,hn,if_neg (by decide),g2 _ (by omega)]
  rfl
 ·replace hp2:Sp L (m+1) (wd wNot :: innP (dOf b)) q:=hp2
  replace hp2:=zaK hp2
  obtain ⟨hn,hp2⟩:=hp2
  obtain ⟨N2,g2⟩:=opd h2 b2 (i:=4) (by omega) hp2 (hs.mono (by omega))
  refine ⟨N1+N2+1,fun n hnn=>?_⟩
  obtain ⟨x,rfl,hx⟩:=zb6 hnn
  rw [run,g1 _ (by omega),zbT,ho]
  dsimp only
  rw [isT_yes ht,if_pos rfl,isT_yes hn,if_pos rfl,g2 _ (by omega)]
  rfl
theorem sp_not {L:List T} {g:Bool} {w:S} {p q:Nat} {r:List Pc} (h:Sp L p (notP g w++r) q):if g then L[p]?=some ⟨2,wNot,v0⟩∧L[p+1]?=some ⟨2,w,v0⟩∧Sp L (p+1+1) r q else L[p]?=some ⟨2,w,v0⟩∧Sp L (p+1) r q:=by
 unfold notP at h
 cases g
 ·exact ⟨h.1,h.2⟩
 ·exact ⟨h.1,h.2.1,h.2.2⟩
theorem zuv {L:List T} {g:Bool} {w:S} {p q m:Nat} {a:E} {r:List Pc} {x:R} (hw:w=wIn∨w=zaO∨w=zdQ) (h1:Rt a) (b1:B a) (hp:Sp L p (innP (dOf a)) m) (h:Sp L m (notP g w++r) q)
  (hx:∃ N,∀ n,N≤n→(
      if isT L (if g then m+1 else m) 2 wIn then need L 4 mOpen ((if g then m+1 else m)+1) fun q3=>zg7 (run L n (.list []) q3) fun l r=>one (eIn g (a :: l)) r
      else if isT L (if g then m+1 else m) 2 zaO then then1 (run L n (.lev 4) ((if g then m+1 else m)+1)) fun b r=>need L 2 wAnd r fun r2=>then1 (run L n (.lev 4) r2) fun c r3=>one (eBtw g a b c) r3
      else if isT L (if g then m+1 else m) 2 zdQ then then1 (run L n (.lev 4) ((if g then m+1 else m)+1)) fun b r=>one (zeT g a b) r
      else one a (if g then m+1 else m))=some x):Ev L (.lev 3) p x:=by
 have h:=sp_not h
 obtain ⟨N,hx⟩:=hx
 cases g
 ·rw [if_neg (by decide)] at h
  obtain ⟨ht, -⟩:=h
  obtain ⟨N1,g1⟩:=opd h1 b1 (i:=4) (by omega) hp (St.of ht (by rcases hw with rfl | rfl | rfl<;>decide))
  have ho:oneOf L m 4 cmps=none:=zc8 fun s _=>by rw [zaz ht];rfl
  have n1:isT L m 2 wIs=false:=by rw [zaz ht];rcases hw with rfl | rfl | rfl<;>decide
  have n2:isT L m 2 wNot=false:=by rw [zaz ht];rcases hw with rfl | rfl | rfl<;>decide
  refine ⟨N1+N+1,fun n hn=>?_⟩
  obtain ⟨x,rfl,hxx⟩:=zb6 hn
  have:=hx x (by omega)
  rw [run,g1 _ (by omega),zbT,ho]
  dsimp only
  rw [n1,if_neg (by decide),n2,Bool.false_and]
  exact this
 ·rw [if_pos rfl] at h
  obtain ⟨ht,hu, -⟩:=h
  obtain ⟨N1,g1⟩:=opd h1 b1 (i:=4) (by omega) hp (St.of ht (by decide))
  have ho:oneOf L m 4 cmps=none:=zc8 fun s _=>by rw [zaz ht];rfl
  have n1:isT L m 2 wIs=false:=by rw [zaz ht];decide
  have n2:(isT L (m+1) 2 wIn || isT L (m+1) 2 zaO || isT L (m+1) 2 zdQ)=true:=by
   rcases hw with rfl | rfl | rfl<;>simp [isT_yes hu]
  refine ⟨N1+N+1,fun n hn=>?_⟩
  obtain ⟨x,rfl,hxx⟩:=zb6 hn
  have:=hx x (by omega)
  rw [run,g1 _ (by omega),zbT,ho]
  dsimp only
  rw [n1,if_neg (by decide),isT_yes ht,n2,Bool.true_and]
  exact this
theorem ztA {L:List T} {g:Bool} {w:S} {m q:Nat} {r:List Pc} (h:Sp L m (notP g w++r) q):L[if g then m+1 else m]?=some ⟨2,w,v0⟩∧Sp L ((if g then m+1 else m)+1) r q:=by
 have h:=sp_not h
 cases g
 ·exact h
 ·exact h.2
theorem b_in (g:Bool) (a:E) (l:List E) (hl0:l≠[]) (h1:Rt a) (b1:B a) (h2:∀ x∈l,Rt x) (b2:∀ x∈l,B x):B (eIn g (a :: l)):=by
 intro L p q hp hs
 rw [pcs_eq] at hp
 replace hp:Sp L p (innP (dOf a)++notP g wIn++[mk mOpen]++commasP (l.map dOf)++[mk mShut]) q:=hp
 simp only [List.append_assoc,List.cons_append,List.nil_append] at hp
 replace hp:=zaU hp
 obtain ⟨m,hp,hp2⟩:=hp
 have hl:lv (eIn g (a :: l))=3:=rfl
 rw [hl] at hs ⊢
 obtain ⟨ht,hp3⟩:=ztA hp2
 refine zuv (.inl rfl) h1 b1 hp hp2 ?_
 generalize (if g=true then m+1 else m)=m2 at ht hp3 ⊢
 replace hp3:=zaK hp3
 obtain ⟨ho,hp3⟩:=hp3
 replace hp3:=zaU hp3
 obtain ⟨m3,hp3,hp4⟩:=hp3
 obtain ⟨hc,hq⟩:=zaK hp4
 replace hq:q=m3+1:=hq
 subst hq
 obtain ⟨N,g1⟩:=zpz l [] _ _ hl0 (fun x hx p q hp hs=>full (h2 x hx) (b2 x hx) hp hs) hp3 hc
 refine ⟨N,fun n hn=>?_⟩
 rw [isT_yes ht,if_pos rfl,zbQ ho,g1 _ hn]
 rfl
theorem b_btw (g:Bool) (a b c:E) (h1:Rt a) (b1:B a) (h2:Rt b) (b2:B b) (h3:Rt c) (b3:B c):B (eBtw g a b c):=by
 intro L p q hp hs
 replace hp:Sp L p (innP (dOf a)++notP g zaO++innP (dOf b)++[bk,wd wAnd,bk]++innP (dOf c)) q:=hp
 simp only [List.append_assoc,List.cons_append,List.nil_append] at hp
 replace hp:=zaU hp
 obtain ⟨m,hp,hp2⟩:=hp
 have hl:lv (eBtw g a b c)=3:=rfl
 rw [hl] at hs ⊢
 obtain ⟨ht,hp3⟩:=ztA hp2
 refine zuv (.inr (.inl rfl)) h1 b1 hp hp2 ?_
 generalize (if g=true then m+1 else m)=m2 at ht hp3 ⊢
 replace hp3:=zaU hp3
 obtain ⟨m3,hp3,hp4⟩:=hp3
 replace hp4:=zaK (p:=m3) hp4
 obtain ⟨ha,hp4⟩:=hp4
 replace hp4:Sp L (m3+1) (innP (dOf c)) q:=hp4
 obtain ⟨N1,g1⟩:=opd h2 b2 (i:=4) (by omega) hp3 (St.of ha (by decide))
 obtain ⟨N2,g2⟩:=opd h3 b3 (i:=4) (by omega) hp4 (hs.mono (by omega))
 refine ⟨N1+N2,fun n hn=>?_⟩
 rw [zaz ht,if_neg (by decide),isT_yes ht,if_pos rfl,g1 _ (by omega),zbT,zbQ ha,g2 _ (by omega)]
 rfl
theorem b_like (g:Bool) (a b:E) (h1:Rt a) (b1:B a) (h2:Rt b) (b2:B b):B (zeT g a b):=by
 intro L p q hp hs
 replace hp:Sp L p (innP (dOf a)++notP g zdQ++innP (dOf b)) q:=hp
 simp only [List.append_assoc,List.cons_append,List.nil_append] at hp
 replace hp:=zaU hp
 obtain ⟨m,hp,hp2⟩:=hp
 have hl:lv (zeT g a b)=3:=rfl
 rw [hl] at hs ⊢
 obtain ⟨ht,hp3⟩:=ztA hp2
 refine zuv (.inr (.inr rfl)) h1 b1 hp hp2 ?_
 generalize (if g=true then m+1 else m)=m2 at ht hp3 ⊢
 obtain ⟨N1,g1⟩:=opd h2 b2 (i:=4) (by omega) hp3 (hs.mono (by omega))
 refine ⟨N1,fun n hn=>?_⟩
 rw [zaz ht,if_neg (by decide),zaz ht,if_neg (by decide),isT_yes ht,if_pos rfl,g1 _ (by omega)]
 rfl
theorem b_case (d:Bool) (l:List E) (hl:2≤l.length) (hd:d=true→3≤l.length) (h:∀ x∈l,Rt x) (b:∀ x∈l,B x):B (eCase d l):=by
 intro L p q hp hs
 rw [pcs_eq] at hp
 replace hp:Sp L p (zjl d (l.map dOf)) q:=hp
 have hlv:lv (eCase d l)=7:=rfl
 rw [hlv] at hs ⊢
 unfold zjl at hp
 simp only [List.append_assoc,List.cons_append,List.nil_append] at hp
 replace hp:=zaK hp
 obtain ⟨ht,hp⟩:=hp
 have hf:∀ x∈l,∀ p q,Sp L p (pcs x) q→St L 0 q→Ev L (.lev 0) p (.ok [x] q):=fun x hx p q hp hs=>full (h x hx) (b x hx) hp hs
 have key:∀ (l2:List E) (acc:List E) (p2:Nat),2≤l2.length→(∀ x∈l2,x∈l)→Sp L p2 (whensQ (l2.map dOf)++[wd wEnd]) q→Ev L (.whens d acc) p2 (.ok [eCase d (acc++l2)] q):=fun l2 acc p2 h2 h3 h4=>by
  obtain ⟨m,h5,h6⟩:=zaU h4
  obtain ⟨he,hq⟩:=zaK h6
  replace hq:q=m+1:=hq
  subst hq
  exact zqY l2 acc p2 m h2 (fun x hx=>hf x (h3 x hx)) h5 he
 cases d
 ·replace hp:Sp L (p+1) (whensQ (l.map dOf)++[wd wEnd]) q:=hp
  obtain ⟨N,g⟩:=key l [] _ hl (fun _ h=>h) hp
  have hw:L[p+1]?=some ⟨2,zdg,v0⟩:=by
   match l,hl with
   | x :: y :: l,_ =>
    simp only [List.map_cons,whensQ,List.append_assoc,List.cons_append,List.nil_append] at hp
    exact (zaK hp).1
  refine ev7 ht (by decide) ⟨N,fun n hn=>?_⟩
  rw [if_neg (by decide),if_neg (by decide),zaz ht,if_neg (by decide),isT_yes ht,if_pos rfl]
  unfold zgI
  rw [isT_yes hw,if_pos rfl,g _ hn]
  rfl
 ·have hd:=hd rfl
  match l,hd,hf,key,hp with
  | x :: l,hd,hf,key,hp =>
   rw [if_pos rfl] at hp
   replace hp:Sp L (p+1) ((pcs x++(bk :: whensQ (l.map dOf)))++[wd wEnd]) q:=hp
   rw [List.append_assoc] at hp
   replace hp:=zaU hp
   obtain ⟨m,hp,hp2⟩:=hp
   replace hp2:Sp L m (whensQ (l.map dOf)++[wd wEnd]) q:=hp2
   have hd2:2≤l.length:=by simpa using hd
   obtain ⟨N2,g2⟩:=key l [x] m hd2 (fun y hy=>List.mem_cons_of_mem _ hy) hp2
   have hw:L[m]?=some ⟨2,zdg,v0⟩:=by
    match l,hd2 with
    | y :: z :: l,_ =>
     simp only [List.map_cons,whensQ,List.append_assoc,List.cons_append,List.nil_append] at hp2
     exact (zaK hp2).1
   obtain ⟨N1,g1⟩:=hf x (by simp) _ _ hp ((St.of (k:=0) hw (by decide)))
   have hnw:isT L (p+1) 2 zdg=false:=(zg6 (h x (by simp)) (r:=[]) (by rw [List.append_nil];exact hp)).2.2.1
   refine ev7 ht (by decide) ⟨N1+N2,fun n hn=>?_⟩
   rw [if_neg (by decide),if_neg (by decide),zaz ht,if_neg (by decide),isT_yes ht,if_pos rfl]
   unfold zgI
   rw [hnw,if_neg (by decide),g1 _ (by omega),zbT,g2 _ (by omega)]
   rfl
theorem zno {L:List T} {p:Nat} {op:S} {r:R} (ht:L[p]?=some ⟨1,op,v0⟩) (ho:L[p+1]?=some ⟨4,mOpen,v0⟩) (hf:fold op=op) (h:∃ N,∀ n,N≤n→callK L n op (p+1+1)=some r):Ev L (.lev 7) p r:=by
 obtain ⟨N,h⟩:=h
 refine ev7 ht (by dsimp only;decide) ⟨N,fun n hn=>?_⟩
 rw [if_neg (by dsimp only;decide),if_pos rfl]
 unfold zhu
 rw [zaz ho,if_neg (by decide),isT_yes ho,if_pos rfl]
 dsimp only
 rw [hf,h _ hn]
theorem zoG {L:List T} {l:List E} {p q:Nat} (h:∀ x∈l,Rt x) (h0:l≠[]) (hp:Sp L p (commasP (l.map dOf)++[mk mShut]) q):isT L p 4 mShut=false:=by
 match l,h0 with
 | a :: r,_ =>
  have:∃ r2,commasP ((a :: r).map dOf)++[mk mShut]=pcs a++r2:=by
   cases r with
   | nil=>exact ⟨_,rfl⟩
   | cons b r=>exact ⟨_,by simp only [List.map_cons,commasP,List.append_assoc];rfl⟩
  obtain ⟨r2,e⟩:=this
  rw [e] at hp
  exact (zg6 (h a (by simp)) hp).1
theorem b_fn (op:S) (l:List E) (hf:fold op=op) (hg:aggs.contains op=false) (h:∀ x∈l,Rt x) (b:∀ x∈l,B x):B (eFn op l):=by
 intro L p q hp hs
 rw [pcs_eq] at hp
 replace hp:Sp L p ([nmP op,mk mOpen]++commasP (l.map dOf)++[mk mShut]) q:=hp
 have hlv:lv (eFn op l)=7:=rfl
 rw [hlv] at hs ⊢
 simp only [List.append_assoc,List.cons_append,List.nil_append] at hp
 replace hp:=zaK hp
 obtain ⟨ht,hp⟩:=hp
 replace hp:=zaK hp
 obtain ⟨ho,hp⟩:=hp
 refine zno ht ho hf ?_
 unfold callK
 rw [hg]
 simp only [Bool.false_eq_true,if_false]
 by_cases h0:l=[]
 ·subst h0
  obtain ⟨hc,hq⟩:=zaK (p:=p+1+1) hp
  replace hq:q=p+1+1+1:=hq
  subst hq
  refine ⟨0,fun n _=>?_⟩
  rw [isT_yes hc,if_pos rfl]
  rfl
 ·have hns:=zoG h h0 hp
  replace hp:=zaU hp
  obtain ⟨m,hp,hp2⟩:=hp
  obtain ⟨hc,hq⟩:=zaK hp2
  replace hq:q=m+1:=hq
  subst hq
  obtain ⟨N,g⟩:=zpz l [] _ _ h0 (fun x hx p q hp hs=>full (h x hx) (b x hx) hp hs) hp hc
  refine ⟨N,fun n hn=>?_⟩
  rw [hns,if_neg (by decide),g _ hn]
  rfl
theorem zrf {op:S} (h:aggs.contains op=true):fold op=op:=by
 rw [List.contains_iff_mem] at h
 simp only [aggs,List.mem_cons,List.not_mem_nil,or_false] at h
 rcases h with rfl | rfl | rfl | rfl | rfl | rfl<;>decide
theorem zrp {op:S} (h:zhA.contains op=true):fold op=op:=by
 rw [List.contains_iff_mem] at h
 simp only [zhA,List.mem_cons,List.not_mem_nil,or_false] at h
 rcases h with rfl | rfl | rfl<;>decide
theorem b_agg (op:S) (d:Bool) (a:E) (hg:aggs.contains op=true) (h:Rt a) (b:B a):B (eAgg op d [a]):=by
 intro L p q hp hs
 replace hp:Sp L p (if d then [nmP op,mk mOpen,wd zae,bk]++pcs a++[mk mShut] else [nmP op,mk mOpen]++pcs a++[mk mShut]) q:=hp
 have hlv:lv (eAgg op d [a])=7:=rfl
 rw [hlv] at hs ⊢
 cases d
 ·simp only [Bool.false_eq_true,if_false,List.append_assoc,List.cons_append,List.nil_append] at hp
  replace hp:=zaK hp
  obtain ⟨ht,hp⟩:=hp
  replace hp:=zaK hp
  obtain ⟨ho,hp⟩:=hp
  refine zno ht ho (zrf hg) ?_
  obtain ⟨-,n1, -,n2⟩:=zg6 h hp
  replace hp:=zaU hp
  obtain ⟨m,hp,hp2⟩:=hp
  obtain ⟨hc,hq⟩:=zaK hp2
  replace hq:q=m+1:=hq
  subst hq
  obtain ⟨N,g⟩:=full h b hp (zkh hc 0)
  refine ⟨N,fun n hn=>?_⟩
  unfold callK
  rw [hg,if_pos rfl,n1,Bool.and_false,if_neg (by decide)]
  dsimp only
  rw [n2,if_neg (by decide),g _ hn,zbT,zbQ hc]
  rfl
 ·simp only [if_true,List.append_assoc,List.cons_append,List.nil_append] at hp
  replace hp:=zaK hp
  obtain ⟨ht,hp⟩:=hp
  replace hp:=zaK hp
  obtain ⟨ho,hp⟩:=hp
  replace hp:=zaK hp
  obtain ⟨hd,hp⟩:=hp
  replace hp:Sp L (p+1+1+1) (pcs a++[mk mShut]) q:=hp
  refine zno ht ho (zrf hg) ?_
  replace hp:=zaU hp
  obtain ⟨m,hp,hp2⟩:=hp
  obtain ⟨hc,hq⟩:=zaK hp2
  replace hq:q=m+1:=hq
  subst hq
  obtain ⟨N,g⟩:=full h b hp (zkh hc 0)
  have n1:isT L (p+1+1) 4 zbG=false:=by rw [zaz hd];rfl
  refine ⟨N,fun n hn=>?_⟩
  unfold callK
  rw [hg,if_pos rfl,n1,Bool.and_false,if_neg (by decide)]
  dsimp only
  rw [isT_yes hd,if_pos rfl,g _ hn,zbT,zbQ hc]
  rfl
theorem b_star:B (eAgg wCount false []):=by
 intro L p q hp hs
 replace hp:Sp L p [nmP wCount,mk mOpen,mk zbG,mk mShut] q:=hp
 have hlv:lv (eAgg wCount false [])=7:=rfl
 rw [hlv] at hs ⊢
 replace hp:=zaK hp
 obtain ⟨ht,hp⟩:=hp
 replace hp:=zaK hp
 obtain ⟨ho,hp⟩:=hp
 replace hp:=zaK hp
 obtain ⟨hm,hp⟩:=hp
 obtain ⟨hc,hq⟩:=zaK hp
 replace hq:q=p+1+1+1+1:=hq
 subst hq
 refine zno ht ho (by decide) ⟨0,fun n _=>?_⟩
 unfold callK
 rw [if_pos (by decide),isT_yes hm,if_pos (by decide),zbQ hc]
 rfl
theorem b_cast (op:S) (a:E) (hg:zhA.contains op=true) (h:Rt a) (b:B a):B (zhl op a):=by
 intro L p q hp hs
 replace hp:Sp L p ([wd wCast,mk mOpen]++pcs a++[bk,wd wAs,bk,nmP op,mk mShut]) q:=hp
 have hlv:lv (zhl op a)=7:=rfl
 rw [hlv] at hs ⊢
 simp only [List.append_assoc,List.cons_append,List.nil_append] at hp
 replace hp:=zaK hp
 obtain ⟨ht,hp⟩:=hp
 replace hp:=zaK hp
 obtain ⟨ho,hp⟩:=hp
 replace hp:=zaU hp
 obtain ⟨m,hp,hp2⟩:=hp
 replace hp2:=zaK (p:=m) hp2
 obtain ⟨ha,hp2⟩:=hp2
 replace hp2:=zaK (p:=m+1) hp2
 obtain ⟨hn,hp2⟩:=hp2
 obtain ⟨hc,hq⟩:=zaK hp2
 replace hq:q=m+1+1+1:=hq
 subst hq
 obtain ⟨N,g⟩:=full h b hp (St.of (k:=0) ha (by decide))
 refine ev7 ht (by decide) ⟨N,fun n hn2=>?_⟩
 rw [if_neg (by decide),if_neg (by decide),zaz ht,if_neg (by decide),zaz ht,if_neg (by decide),isT_yes ht,if_pos rfl]
 unfold zll
 rw [zbQ ho,g _ hn2,zbT,zbQ ha,hn]
 dsimp only
 rw [zrp hg,hg,if_pos (by rfl),zbQ hc]
 rfl
theorem rt_b {e:E} (h:Rt e):B e:=by
 induction h with
 | val v h1 h2=>exact b_val v h1
 | col t n h1 h2=>exact b_col t n
 | un op a h1 h2 ih=>exact b_un op a h1 h2 ih
 | bin op a b h1 h2 h3 ih1 ih2=>exact b_bin op a b h1 h2 ih1 h3 ih2
 | is g a b h1 h2 ih1 ih2=>exact b_is g a b h1 ih1 h2 ih2
 | in_ g a l h0 h1 h2 ih1 ih2=>exact b_in g a l h0 h1 ih1 h2 ih2
 | btw g a b c h1 h2 h3 ih1 ih2 ih3=>exact b_btw g a b c h1 ih1 h2 ih2 h3 ih3
 | like g a b h1 h2 ih1 ih2=>exact b_like g a b h1 ih1 h2 ih2
 | case d l h1 h2 h3 ih=>exact b_case d l h1 h2 h3 ih
 | fn op l h1 h2 h3 h4 ih=>exact b_fn op l h2 h3 h4 ih
 | agg op d a h1 h2 ih=>exact b_agg op d a h1 h2 ih
 | star=>exact b_star
 | cast op a h1 h2 ih=>exact b_cast op a h1 h2 ih
end Ex
namespace Ex
open Lx
def zln (L:List T):Prop:=∀ t∈L,(t.kind=1→nmE t.text=true)∧(t.kind=3→(mayV t.val=true∧(t.val.1=1→0≤t.val.2.1∧t.val.2.1≤9223372036854775807))∧t.val.2.1≤9223372036854775807∧-9223372036854775807≤t.val.2.1)
def AllR (r:Option R):Prop:=∀ l q,r=some (.ok l q)→∀ x∈l,Rt x
theorem zcc {r:Option R} {f:E→Nat→Option R} (h:AllR r) (hf:∀ e q,Rt e→AllR (f e q)):AllR (then1 r f):=fun l q hr=>by
 rcases then1_some hr with ⟨e,q1,h1,h2⟩ | ⟨q1,h1,h2⟩
 ·exact hf e q1 (h _ _ h1 e (by simp)) l q h2
 ·cases h2
theorem zsw {r:Option R} {f:List E→Nat→Option R} (h:AllR r) (hf:∀ e q,(∀ x∈e,Rt x)→r=some (.ok e q)→AllR (f e q)):AllR (zg7 r f):=fun l q hr=>by
 rcases thenL_some hr with ⟨e,q1,h1,h2⟩ | ⟨q1,h1,h2⟩
 ·exact hf e q1 (h _ _ h1) h1 l q h2
 ·cases h2
theorem zfF {L:List T} {k:Int} {s:S} {p:Nat} {f:Nat→Option R} (hf:AllR (f (p+1))):AllR (need L k s p f):=fun l q hr=>by
 rcases need_some hr with ⟨h1,h2⟩ | ⟨h1,h2⟩
 ·exact hf l q h2
 ·cases h2
theorem zeB {e:E} {p:Nat} (h:Rt e):AllR (one e p):=fun l q hr=>by
 cases hr
 intro x hx
 simp only [List.mem_cons,List.not_mem_nil,or_false] at hx
 exact hx ▸ h
theorem zlA {p:Nat}:AllR (some (.stop p)):=fun l q hr=>by cases hr
theorem zqB:AllR none:=fun l q hr=>by cases hr
theorem zqq (k:Nat) {op:S} (h:op∈(ops k).1):op∈bins:=by
 unfold ops at h
 split at h<;>(simp only [List.mem_cons,List.not_mem_nil,or_false] at h;(repeat' (rcases h with h | h))<;>decide)
theorem zuS {op:S} (h:op∈cmps):op∈bins:=by
 simp only [cmps,List.mem_cons,List.not_mem_nil,or_false] at h
 rcases h with rfl | rfl | rfl | rfl | rfl | rfl<;>decide
theorem zqC {s:S} (h:nmE s=true):nmE (fold s)=true:=by
 unfold nmE zlW at *
 rw [zix,isW_fold]
 have:(fold s).length=s.length:=by simp [fold]
 rw [this]
 exact h
theorem zks (L:List T):∀ (n p q:Nat) (acc l:List E),run L n (.list acc) p=some (.ok l q)→l≠[]
 | 0,_,_,_,_,h=>by cases h
 | n+1,p,q,acc,l,h=>by
  rw [run] at h
  rcases then1_some h with ⟨e,q1,h1,h2⟩ | ⟨q1,h1,h2⟩
  ·split at h2
   ·exact zks L n _ _ _ _ h2
   ·rcases need_some h2 with ⟨h3,h4⟩ | ⟨h3,h4⟩
    ·cases h4;simp
    ·cases h4
  ·cases h2
def Acc (d:Bool) (acc:List E):Prop:=(∀ x∈acc,Rt x)∧(d=true→1≤acc.length)
theorem zn0 (L:List T) (hL:zln L):∀ n,(∀ k p,AllR (run L n (.lev k) p))∧(∀ k e p,Rt e→AllR (run L n (.chain k e) p)) ∧
  (∀ acc p,(∀ x∈acc,Rt x)→AllR (run L n (.list acc) p))∧(∀ d acc p,Acc d acc→AllR (run L n (.whens d acc) p))
 | 0=>⟨fun _ _=>zqB,fun _ _ _ _=>zqB,fun _ _ _=>zqB,fun _ _ _ _=>zqB⟩
 | n+1=>by
  obtain ⟨hl,hc,hs,hw⟩:=zn0 L hL n
  refine ⟨fun k p=>?_,fun k e p he=>?_,fun acc p ha=>?_,fun d acc p ha=>?_⟩
  ·by_cases hk:k≠2∧k≠3∧k≠7∧k≠8
   ·rw [zfk L n k p hk]
    exact zcc (hl _ _) fun e q he=>hc _ _ _ he
   ·have hk':k=2∨k=3∨k=7∨k=8:=by omega
    rcases hk' with rfl | rfl | rfl | rfl
    ·simp only [run]
     split
     ·exact zcc (hl _ _) fun e q he=>zeB (.un _ _ (by simp [uns]) he)
     ·exact hl _ _
    ·simp only [run]
     refine zcc (hl _ _) fun a q ha=>?_
     split
     ·rename_i op ho
      exact zcc (hl _ _) fun b r hb=>zeB (.bin _ _ _ (zuS (zbP ho).2.2) ha hb)
     ·split
      ·exact zcc (hl _ _) fun b r hb=>zeB (.is _ _ _ ha hb)
      ·generalize (if (isT L q 2 wNot && (isT L (q+1) 2 wIn || isT L (q+1) 2 zaO || isT L (q+1) 2 zdQ))=true then q+1 else q)=q2
       generalize (isT L q 2 wNot && (isT L (q+1) 2 wIn || isT L (q+1) 2 zaO || isT L (q+1) 2 zdQ))=nt
       split
       ·refine zfF (zsw (hs _ _ (by simp)) fun l r hl' hr=>zeB (.in_ _ _ _ ?_ ha hl'))
        exact zks _ _ _ _ _ _ hr
       ·split
        ·refine zcc (hl _ _) fun b r hb=>zfF ?_
         exact zcc (hl _ _) fun c r hc=>zeB (.btw _ _ _ _ ha hb hc)
        ·split
         ·exact zcc (hl _ _) fun b r hb=>zeB (.like _ _ _ ha hb)
         ·exact zeB ha
    ·simp only [run]
     split
     ·exact hl _ _
     ·rename_i op ho
      have hop:=(zbP ho).2.2
      have hu:∀ e,Rt e→Rt (eUn op e):=fun e he=>.un _ _ (by simp only [List.mem_cons,List.not_mem_nil,or_false] at hop;rcases hop with rfl | rfl<;>decide) he
      split
      ·rename_i t ht
       split
       ·rename_i hv
        simp only [Bool.and_eq_true,decide_eq_true_eq] at hv
        obtain ⟨hg,hr1,hr2⟩:=(hL t (List.mem_of_getElem? ht)).2 hv.1.2
        refine zeB (.val _ ?_ ?_ ⟨by dsimp only;omega,by dsimp only;omega⟩)
        ·have h1:=hg.1
         unfold mayV at h1 ⊢
         simp only [hv.2] at h1 ⊢
         exact h1
        ·have h1:=hg.2 hv.2
         intro _
         simp only [lowI]
         omega
       ·exact zcc (hl _ _) fun e q he=>zeB (hu e he)
      ·exact zcc (hl _ _) fun e q he=>zeB (hu e he)
    ·rw [zfB]
     split
     ·exact zlA
     ·rename_i t ht
      have hg:=hL t (List.mem_of_getElem? ht)
      split
      ·rename_i h3
       obtain ⟨h3,hr1,hr2⟩:=hg.2 h3
       exact zeB (.val _ h3.1 (fun h=>by have:=h3.2 h;simp only [lowI];omega) ⟨hr1,by omega⟩)
      split
      ·rename_i h1
       have h1:=hg.1 h1
       unfold zhu
       split
       ·split
        ·rename_i u hu
         split
         ·rename_i h2
          exact zeB (.col _ _ ((hL u (List.mem_of_getElem? hu)).1 h2) (.inr h1))
         ·exact zlA
        ·exact zlA
       split
       ·unfold callK
        split
        ·rename_i hag
         split
         ·rename_i hc
          simp only [Bool.and_eq_true,beq_iff_eq] at hc
          rw [hc.1]
          exact zfF (zeB .star)
         ·exact zcc (hl _ _) fun e q he=>zfF (zeB (.agg _ _ _ hag he))
        ·rename_i hag
         have hag:aggs.contains (fold t.text)=false:=by simpa using hag
         split
         ·exact zeB (.fn _ _ (zqC h1) (zix _) hag (by simp))
         ·exact zsw (hs _ _ (by simp)) fun l q hl' _=>zeB (.fn _ _ (zqC h1) (zix _) hag hl')
       ·exact zeB (.col _ _ h1 (.inl rfl))
      split
      ·exact zeB (.val _ (by decide) (fun h=>by cases h) ⟨by decide,by decide⟩)
      split
      ·unfold zgI
       split
       ·exact hw _ _ _ ⟨by simp,by simp⟩
       ·exact zcc (hl _ _) fun e q he=>hw _ _ _ ⟨by simpa using he,by simp⟩
      split
      ·unfold zll
       refine zfF (zcc (hl _ _) fun e r he=>zfF ?_)
       split
       ·split
        ·rename_i hty
         simp only [Bool.and_eq_true] at hty
         exact zfF (zeB (.cast _ _ hty.2 he))
        ·exact zlA
       ·exact zlA
      split
      ·exact zcc (hl _ _) fun e q he=>zfF (zeB he)
      ·exact zlA
  ·simp only [run]
   split
   ·exact zeB he
   ·rename_i op ho
    exact zcc (hl _ _) fun b q hb=>hc _ _ _ (.bin _ _ _ (zqq _ (zbP ho).2.2) he hb)
  ·simp only [run]
   refine zcc (hl _ _) fun e q he=>?_
   have h2:∀ x∈acc++[e],Rt x:=fun x hx=>by
    rcases List.mem_append.1 hx with hx | hx
    ·exact ha x hx
    ·simp only [List.mem_cons,List.not_mem_nil,or_false] at hx;exact hx ▸ he
   split
   ·exact hs _ _ h2
   ·refine zfF fun l q hr=>?_
    cases hr
    exact h2
  ·rw [zez]
   refine zfF ?_
   unfold whenK
   refine zcc (hl _ _) fun a q hra=>zfF (zcc (hl _ _) fun b r hrb=>?_)
   have h2:∀ x∈acc++[a,b],Rt x:=fun x hx=>by
    rcases List.mem_append.1 hx with hx | hx
    ·exact ha.1 x hx
    ·simp only [List.mem_cons,List.not_mem_nil,or_false] at hx
     rcases hx with rfl | rfl
     ·exact hra
     ·exact hrb
   have hlen:2≤(acc++[a,b]).length:=by simp
   have hd:d=true→3≤(acc++[a,b]).length:=fun h=>by have:=ha.2 h;simp;omega
   split
   ·exact hw _ _ _ ⟨h2,fun _=>by omega⟩
   ·unfold znJ
    split
    ·refine zcc (hl _ _) fun c r2 hcc=>zfF (zeB (.case _ _ ?_ ?_ ?_))
     ·simp
     ·intro h;have:=hd h;(simp at this ⊢)<;>omega
     ·intro x hx
      rcases List.mem_append.1 hx with hx | hx
      ·exact h2 x hx
      ·simp only [List.mem_cons,List.not_mem_nil,or_false] at hx;exact hx ▸ hcc
    ·exact zfF (zeB (.case _ _ hlen hd h2))
end Ex
namespace Ex
open Lx
theorem zok:∀ (k m:Nat),m < 10 ^ (k+1)→(Ox.numN m).length≤k+1
 | 0,m,h=>by
  rw [Ox.numN,if_pos (by omega)];simp
 | k+1,m,h=>by
  rw [Ox.numN]
  split
  ·simp
  ·have:=zok k (m / 10) (by rw [Nat.pow_succ] at h;omega)
   simp only [List.length_append,List.length_cons,List.length_nil]
   omega
theorem ztw {n:Int} (h1:-9223372036854775808≤n) (h2:n≤9223372036854775807):(Ox.num n).length≤20:=by
 have h:(10:Nat) ^ (18+1)=10000000000000000000:=rfl
 have:=zok 18 n.natAbs (by rw [h];omega)
 unfold Ox.num
 split
 ·rw [List.length_cons];omega
 ·omega
theorem zoc:∀ s:S,(za8 s).length≤2 * s.length
 | []=>Nat.le_refl _
 | c :: r=>by
  have:=zoc r
  rw [za8]
  split<;>(simp only [List.length_cons];omega)
def G (e:E):Nat:=(print e).length+14
def Tk (e:E):Nat:=(toks (pcs e)).length+2
def GL (l:List E):Nat:=(l.map G).sum
def TL (l:List E):Nat:=(l.map Tk).sum
theorem znw (a:E) (l:List E):GL (a :: l)=G a+GL l:=by simp [GL]
theorem znv (a:E) (l:List E):TL (a :: l)=Tk a+TL l:=by simp [TL]
theorem zvk (a b:List E):GL (a++b)=GL a+GL b:=by simp [GL]
theorem zvj (a b:List E):TL (a++b)=TL a+TL b:=by simp [TL]
theorem zrk:GL []=0:=rfl
theorem zri:TL []=0:=rfl
def cOf (e:E):C:=(e.kind,e.val.1,print e)
theorem zm1 (e:E):print e=pr e (e.args.map cOf):=print_eq e
theorem zfq (e:E):(inn (cOf e)).length+12≤G e:=by
 unfold inn G cOf
 split<;>simp
theorem innU_len (e:E):(innU (cOf e)).length+12≤G e:=by
 unfold innU G cOf
 split<;>simp
theorem zdN (e:E):(toks (innP (dOf e))).length≤Tk e:=by
 unfold innP Tk dOf
 split<;>simp [toks,mk]
theorem zt7 (e:E):(toks (zdJ (dOf e))).length≤Tk e:=by
 unfold zdJ Tk dOf
 split<;>simp [toks,mk]
theorem zjk:∀ l:List E,(commas (l.map cOf)).length≤GL l
 | []=>Nat.zero_le _
 | [a]=>by
  simp only [List.map_cons,List.map_nil,commas,GL,G,cOf,List.sum_cons,List.sum_nil]
  omega
 | a :: b :: l=>by
  have:=zjk (b :: l)
  rw [znw]
  simp only [List.map_cons,commas,List.length_append,List.length_cons,List.length_nil] at this ⊢
  simp only [G,cOf] at this ⊢
  omega
theorem zh2:∀ l:List E,(toks (commasP (l.map dOf))).length≤TL l
 | []=>Nat.zero_le _
 | [a]=>by
  simp only [List.map_cons,List.map_nil,commasP,TL,Tk,dOf,List.sum_cons,List.sum_nil]
  omega
 | a :: b :: l=>by
  have:=zh2 (b :: l)
  rw [znv]
  simp only [List.map_cons,commasP,toks_app,List.length_append] at this ⊢
  simp only [Tk,dOf] at this ⊢
  have e:(toks [mk mComma,bk]).length=1:=rfl
  omega
theorem zj4:∀ l:List E,(zdP (l.map cOf)).length≤GL l
 | []=>Nat.zero_le _
 | [a]=>by
  simp only [List.map_cons,List.map_nil,zdP,GL,G,cOf,List.sum_cons,List.sum_nil,List.length_append,List.length_cons,List.length_nil,ziO]
  omega
 | a :: b :: l=>by
  have:=zj4 l
  rw [znw,znw]
  simp only [List.map_cons,zdP,List.length_append,List.length_cons,List.length_nil,zdg,wThen] at this ⊢
  simp only [G,cOf] at this ⊢
  omega
theorem ziN:∀ l:List E,(toks (whensQ (l.map dOf))).length≤TL l
 | []=>Nat.zero_le _
 | [a]=>by
  simp only [List.map_cons,List.map_nil,whensQ,TL,Tk,dOf,List.sum_cons,List.sum_nil,toks_app,List.length_append]
  have e:(toks [wd ziO,bk]).length=1:=rfl
  have e2:(toks [bk]).length=0:=rfl
  omega
 | a :: b :: l=>by
  have:=ziN l
  rw [znv,znv]
  simp only [List.map_cons,whensQ,toks_app,List.length_append] at this ⊢
  simp only [Tk,dOf] at this ⊢
  have e:(toks [wd zdg,bk]).length=1:=rfl
  have e2:(toks [bk]).length=0:=rfl
  have e3:(toks [bk,wd wThen,bk]).length=1:=rfl
  omega
theorem case_len (d:Bool) (l:List E):(zjm d (l.map cOf)).length≤GL l+9:=by
 unfold zjm
 have h2:=zj4 l
 cases d
 ·simp only [Bool.false_eq_true,if_false,List.length_append,List.length_cons,List.length_nil,wCase,wEnd]
  omega
 ·cases l with
  | nil=>simp [kid,wCase,wEnd,zdP,GL]
  | cons a l =>
   have:=zj4 l
   rw [znw]
   simp only [if_true,List.length_append,List.length_cons,List.length_nil,wCase,wEnd]
   have e:(kid ((a :: l).map cOf) 0).2.2=print a:=rfl
   have e2:((a :: l).map cOf).drop 1=l.map cOf:=rfl
   rw [e,e2]
   simp only [G]
   omega
theorem zuU (d:Bool) (l:List E):(toks (zjl d (l.map dOf))).length≤TL l+2:=by
 unfold zjl
 have h2:=ziN l
 have e0:(toks [wd wCase,bk]).length=1:=rfl
 have e1:(toks [wd wEnd]).length=1:=rfl
 cases d
 ·simp only [Bool.false_eq_true,if_false,toks_app,List.length_append]
  omega
 ·cases l with
  | nil=>simp [kidP,whensQ,TL,toks,wd,bk]
  | cons a l =>
   have:=ziN l
   rw [znv]
   simp only [if_true,toks_app,List.length_append]
   have e:(kidP ((a :: l).map dOf) 0).2.2=pcs a:=rfl
   have e2:((a :: l).map dOf).drop 1=l.map dOf:=rfl
   have e3:(toks [bk]).length=0:=rfl
   rw [e,e2]
   simp only [Tk]
   omega
theorem zm8 (b:Bool) {w:S}:(notW b w).length≤w.length+6:=by
 unfold notW
 cases b<;>simp<;>omega
theorem zm9 (b:Bool) {w:S}:(toks (notP b w)).length=if b then 2 else 1:=by
 unfold notP
 cases b<;>rfl
theorem g_val {v:V} (h1:-9223372036854775808≤v.2.1) (h2:v.2.1≤9223372036854775807):G (eVal v)≤34+2 * v.2.2.length:=by
 have e:print (eVal v)=valP v:=rfl
 unfold G
 rw [e]
 unfold valP
 have hq:=zoc v.2.2
 have hn:=ztw h1 h2
 have hh:=Ox.zrV v.2.2
 split
 ·simp [zmn];omega
 split
 ·omega
 split
 ·simp only [List.length_append,List.length_cons,List.length_nil];omega
 split
 ·simp only [List.length_append,List.length_cons,List.length_nil];omega
 ·simp only [List.length_nil];omega
theorem t_val (v:V):Tk (eVal v)≤(if v.1=1∧v.2.1 < 0 then 4 else 3):=by
 have e:pcs (eVal v)=zgi v:=rfl
 unfold Tk
 rw [e]
 unfold zgi
 split
 ·split<;>simp [toks,wd]
 split
 ·simp [toks,mk]
 ·simp [toks]
theorem g_col (t n:S):G (eCol t n)≤t.length+n.length+15:=by
 have e:print (eCol t n)=if t=[] then n else t++[46]++n:=rfl
 unfold G
 rw [e]
 split<;>simp<;>omega
theorem t_col (t n:S):Tk (eCol t n)≤if t=[] then 3 else 5:=by
 have e:pcs (eCol t n)=if t=[] then [nmP n] else [nmP t,mk mDot,nmP n]:=rfl
 unfold Tk
 rw [e]
 split<;>simp [toks,mk,nmP]
theorem g_un (op:S) (a:E):G (eUn op a)≤G a+op.length+3:=by
 have e:print (eUn op a)=if op=wNot then wNot++[32]++innU (cOf a) else op++innU (cOf a):=rfl
 have:=innU_len a
 unfold G at *
 rw [e]
 split
 ·rename_i h;subst h;simp only [List.length_append,List.length_cons,List.length_nil];omega
 ·simp only [List.length_append];omega
theorem t_un (op:S) (a:E):Tk (eUn op a)≤Tk a+3:=by
 have e:pcs (eUn op a)=if op=wNot then [wd wNot,bk]++zdJ (dOf a) else [mk op]++zdJ (dOf a):=rfl
 have:=zt7 a
 unfold Tk at *
 rw [e]
 have e0:(toks [wd wNot,bk]).length=1:=rfl
 have e1:(toks [mk op]).length=1:=rfl
 split<;>(simp only [toks_app,List.length_append];omega)
theorem opP_len (s:S):(toks [bk,opP s,bk]).length=1:=by
 unfold opP
 split<;>rfl
theorem g_bin (op:S) (a b:E):G (eBin op a b)≤G a+G b+op.length:=by
 have e:print (eBin op a b)=inn (cOf a)++[32]++op++[32]++inn (cOf b):=rfl
 have h1:=zfq a
 have h2:=zfq b
 unfold G at *
 rw [e]
 simp only [List.length_append,List.length_cons,List.length_nil];omega
theorem t_bin (op:S) (a b:E):Tk (eBin op a b)≤Tk a+Tk b+3:=by
 have e:pcs (eBin op a b)=innP (dOf a)++[bk,opP op,bk]++innP (dOf b):=rfl
 have h1:=zdN a
 have h2:=zdN b
 have h3:=opP_len op
 unfold Tk at *
 rw [e]
 simp only [toks_app,List.length_append]
 omega
theorem g_is (g:Bool) (a b:E):G (eIs g a b)≤G a+G b:=by
 have e:print (eIs g a b)=inn (cOf a)++[32]++wIs++[32]++(if g then wNot++[32] else [])++inn (cOf b):=rfl
 have h1:=zfq a
 have h2:=zfq b
 unfold G at *
 rw [e]
 cases g<;>simp [wIs,wNot]<;>omega
theorem t_is (g:Bool) (a b:E):Tk (eIs g a b)≤Tk a+Tk b+(if g then 4 else 3):=by
 have e:pcs (eIs g a b)=innP (dOf a)++[bk,wd wIs,bk]++(if g then [wd wNot,bk] else [])++innP (dOf b):=rfl
 have h1:=zdN a
 have h2:=zdN b
 have e1:(toks [bk,wd wIs,bk]).length=1:=rfl
 have e2:(toks [wd wNot,bk]).length=1:=rfl
 have e3:(toks []).length=0:=rfl
 unfold Tk at *
 rw [e]
 cases g<;>simp only [toks_app,List.length_append,if_true,Bool.false_eq_true,if_false]<;>omega
theorem g_in (g:Bool) (a:E) (l:List E):G (eIn g (a :: l))≤G a+GL l+12:=by
 have e:print (eIn g (a :: l))=inn (cOf a)++notW g wIn++[40]++commas (l.map cOf)++[41]:=zm1 _
 have h1:=zfq a
 have h2:=zjk l
 have h3:=zm8 g (w:=wIn)
 have h4:wIn.length=2:=rfl
 unfold G at *
 rw [e]
 simp only [List.length_append,List.length_cons,List.length_nil];omega
theorem t_in (g:Bool) (a:E) (l:List E):Tk (eIn g (a :: l))≤Tk a+TL l+(if g then 6 else 5):=by
 have e:pcs (eIn g (a :: l))=innP (dOf a)++notP g wIn++[mk mOpen]++commasP (l.map dOf)++[mk mShut]:=pcs_eq _
 have h1:=zdN a
 have h2:=zh2 l
 have h3:=zm9 g (w:=wIn)
 have e1:(toks [mk mOpen]).length=1:=rfl
 have e2:(toks [mk mShut]).length=1:=rfl
 unfold Tk at *
 rw [e]
 simp only [toks_app,List.length_append]
 cases g<;>simp only [if_true,Bool.false_eq_true,if_false] at h3 ⊢<;>omega
theorem g_btw (g:Bool) (a b c:E):G (eBtw g a b c)≤G a+G b+G c:=by
 have e:print (eBtw g a b c)=inn (cOf a)++notW g zaO++inn (cOf b)++[32]++wAnd++[32]++inn (cOf c):=rfl
 have h1:=zfq a
 have h2:=zfq b
 have h5:=zfq c
 have h3:=zm8 g (w:=zaO)
 have h4:zaO.length=7:=rfl
 have h6:wAnd.length=3:=rfl
 unfold G at *
 rw [e]
 simp only [List.length_append,List.length_cons,List.length_nil];omega
theorem t_btw (g:Bool) (a b c:E):Tk (eBtw g a b c)≤Tk a+Tk b+Tk c+(if g then 5 else 4):=by
 have e:pcs (eBtw g a b c)=innP (dOf a)++notP g zaO++innP (dOf b)++[bk,wd wAnd,bk]++innP (dOf c):=rfl
 have h1:=zdN a
 have h2:=zdN b
 have h4:=zdN c
 have h3:=zm9 g (w:=zaO)
 have e1:(toks [bk,wd wAnd,bk]).length=1:=rfl
 unfold Tk at *
 rw [e]
 simp only [toks_app,List.length_append]
 cases g<;>simp only [if_true,Bool.false_eq_true,if_false] at h3 ⊢<;>omega
theorem g_like (g:Bool) (a b:E):G (zeT g a b)≤G a+G b:=by
 have e:print (zeT g a b)=inn (cOf a)++notW g zdQ++inn (cOf b):=rfl
 have h1:=zfq a
 have h2:=zfq b
 have h3:=zm8 g (w:=zdQ)
 have h4:zdQ.length=4:=rfl
 unfold G at *
 rw [e]
 simp only [List.length_append];omega
theorem t_like (g:Bool) (a b:E):Tk (zeT g a b)≤Tk a+Tk b+(if g then 4 else 3):=by
 have e:pcs (zeT g a b)=innP (dOf a)++notP g zdQ++innP (dOf b):=rfl
 have h1:=zdN a
 have h2:=zdN b
 have h3:=zm9 g (w:=zdQ)
 unfold Tk at *
 rw [e]
 simp only [toks_app,List.length_append]
 cases g<;>simp only [if_true,Bool.false_eq_true,if_false] at h3 ⊢<;>omega
theorem g_case (d:Bool) (l:List E):G (eCase d l)≤GL l+23:=by
 have e:print (eCase d l)=zjm d (l.map cOf):=zm1 _
 have:=case_len d l
 unfold G
 rw [e]
 omega
theorem t_case (d:Bool) (l:List E):Tk (eCase d l)≤TL l+4:=by
 have e:pcs (eCase d l)=zjl d (l.map dOf):=pcs_eq _
 have:=zuU d l
 unfold Tk
 rw [e]
 omega
theorem g_fn (op:S) (l:List E):G (eFn op l)≤op.length+GL l+16:=by
 have e:print (eFn op l)=op++[40]++commas (l.map cOf)++[41]:=zm1 _
 have:=zjk l
 unfold G
 rw [e]
 simp only [List.length_append,List.length_cons,List.length_nil];omega
theorem t_fn (op:S) (l:List E):Tk (eFn op l)≤TL l+5:=by
 have e:pcs (eFn op l)=[nmP op,mk mOpen]++commasP (l.map dOf)++[mk mShut]:=pcs_eq _
 have:=zh2 l
 have e1:(toks [nmP op,mk mOpen]).length=2:=rfl
 have e2:(toks [mk mShut]).length=1:=rfl
 unfold Tk
 rw [e]
 simp only [toks_app,List.length_append];omega
theorem g_agg (op:S) (d:Bool) (a:E):G (eAgg op d [a])≤op.length+G a+11:=by
 have e:print (eAgg op d [a])=if d then op++[40]++zae++[32]++print a++[41] else op++[40]++print a++[41]:=rfl
 unfold G
 rw [e]
 have h:zae.length=8:=rfl
 split<;>(simp only [List.length_append,List.length_cons,List.length_nil];omega)
theorem t_agg (op:S) (d:Bool) (a:E):Tk (eAgg op d [a])≤Tk a+(if d then 4 else 3):=by
 have e:pcs (eAgg op d [a])=if d then [nmP op,mk mOpen,wd zae,bk]++pcs a++[mk mShut] else [nmP op,mk mOpen]++pcs a++[mk mShut]:=rfl
 have e1:(toks [nmP op,mk mOpen]).length=2:=rfl
 have e3:(toks [nmP op,mk mOpen,wd zae,bk]).length=3:=rfl
 have e2:(toks [mk mShut]).length=1:=rfl
 unfold Tk
 rw [e]
 split<;>(simp only [toks_app,List.length_append];omega)
theorem g_star:G (eAgg wCount false [])=22:=rfl
theorem t_star:Tk (eAgg wCount false [])=6:=rfl
theorem g_cast (op:S) (a:E):G (zhl op a)≤op.length+G a+10:=by
 have e:print (zhl op a)=wCast++[40]++print a++[32]++wAs++[32]++op++[41]:=rfl
 unfold G
 rw [e]
 have h:wCast.length=4:=rfl
 have h2:wAs.length=2:=rfl
 simp only [List.length_append,List.length_cons,List.length_nil];omega
theorem t_cast (op:S) (a:E):Tk (zhl op a)≤Tk a+5:=by
 have e:pcs (zhl op a)=[wd wCast,mk mOpen]++pcs a++[bk,wd wAs,bk,nmP op,mk mShut]:=rfl
 have e1:(toks [wd wCast,mk mOpen]).length=2:=rfl
 have e2:(toks [bk,wd wAs,bk,nmP op,mk mShut]).length=3:=rfl
 unfold Tk
 rw [e]
 simp only [toks_app,List.length_append];omega
inductive Sm:E→Prop
 | mk {e:E}:N64 e→e.op.length+e.table.length+e.name.length≤400→e.val.2.2.length≤100→(∀ x∈e.args,Sm x)→Sm e
theorem Sm.a {e:E} (h:Sm e):∀ x∈e.args,Sm x:=by cases h;assumption
theorem Sm.n {e:E} (h:Sm e):N64 e:=by cases h;assumption
theorem Sm.l {e:E} (h:Sm e):e.op.length+e.table.length+e.name.length≤400:=by cases h;assumption
theorem Sm.v {e:E} (h:Sm e):e.val.2.2.length≤100:=by cases h;assumption
theorem zcW (e:E):count e=counts e.args+1:=by cases e;rw [count];rfl
end Ex
namespace Ex
open Lx
def wt (t:T):Nat:=40+5 * t.text.length
def cw (L:List T) (p:Nat):Nat:=((L.take p).map wt).sum
theorem cw_succ {L:List T} {p:Nat} {t:T} (h:L[p]?=some t):cw L (p+1)=cw L p+wt t:=by
 obtain ⟨h1,h2⟩:=List.getElem?_eq_some_iff.1 h
 unfold cw
 rw [List.take_succ_eq_append_getElem h1,List.map_append,List.sum_append,h2]
 simp
theorem zju {L:List T} {p:Nat} {t:T} (h:L[p]?=some t):cw L p+40+5 * t.text.length=cw L (p+1):=by
 rw [cw_succ h];unfold wt;omega
theorem cw_isT {L:List T} {p:Nat} {k:Int} {s:S} (h:isT L p k s=true):cw L p+40+5 * s.length=cw L (p+1):=by
 unfold isT at h
 split at h
 ·rename_i t ht
  simp only [Bool.and_eq_true,beq_iff_eq] at h
  rw [← h.2]
  exact zju ht
 ·cases h
def ValT (L:List T):Prop:=∀ t∈L,t.kind=3→t.val.2.2.length≤2 * t.text.length∧-9223372036854775807≤t.val.2.1∧t.val.2.1≤9223372036854775807∧(t.val.1=1→0≤t.val.2.1)
structure Wg (L:List T) (e:E) (p q:Nat):Prop where
 g:G e+cw L p≤cw L q
 t:Tk e+3 * p≤3 * q
 c:count e+p≤q
structure WgL (L:List T) (l:List E) (p q:Nat):Prop where
 g:GL l+cw L p≤cw L q
 t:TL l+3 * p≤3 * q
 c:counts l+p≤q
theorem zg1:∀ a b:List E,counts (a++b)=counts a+counts b
 | [],b=>by simp [counts]
 | x :: a,b=>by simp only [List.cons_append,counts,zg1 a b];omega
def W1 (L:List T) (p:Nat) (r:Option R):Prop:=∀ l q,r=some (.ok l q)→p≤q∧∃ e,l=[e]∧Wg L e p q
def WC (L:List T) (e0:E) (p:Nat) (r:Option R):Prop:=∀ l q,r=some (.ok l q)→p≤q∧∃ e,l=[e]∧G e+cw L p≤G e0+cw L q∧Tk e+3 * p≤Tk e0+3 * q∧count e+p≤count e0+q
def WL (L:List T) (acc:List E) (p:Nat) (r:Option R):Prop:=∀ l q,r=some (.ok l q)→p < q∧GL l+cw L p+40≤GL acc+cw L q∧TL l+3 * p+3≤TL acc+3 * q∧counts l+p+1≤counts acc+q
def WW (L:List T) (acc:List E) (p:Nat) (r:Option R):Prop:=∀ l q,r=some (.ok l q)→p≤q∧∃ e,l=[e]∧G e+cw L p≤GL acc+cw L q∧Tk e+3 * p≤TL acc+1+3 * q∧count e+p≤counts acc+q
theorem zb5 {L:List T} {p':Nat} {r:Option R} {f:E→Nat→Option R} {P:List E→Nat→Prop} (h:W1 L p' r) (hf:∀ e q,p'≤q→Wg L e p' q→∀ l q',f e q=some (.ok l q')→P l q'):∀ l q',then1 r f=some (.ok l q')→P l q':=fun l q' hr=>by
 rcases then1_some hr with ⟨e,q1,h1,h2⟩ | ⟨q1,h1,h2⟩
 ·obtain ⟨h3,e',h4,h5⟩:=h _ _ h1
  cases h4
  exact hf _ _ h3 h5 _ _ h2
 ·cases h2
theorem zeU {L:List T} {k:Int} {s:S} {p:Nat} {f:Nat→Option R} {P:List E→Nat→Prop} (hf:cw L p+40+5 * s.length=cw L (p+1)→∀ l q',f (p+1)=some (.ok l q')→P l q'):∀ l q',need L k s p f=some (.ok l q')→P l q':=fun l q' hr=>by
 rcases need_some hr with ⟨h1,h2⟩ | ⟨h1,h2⟩
 ·exact hf (cw_isT h1) _ _ h2
 ·cases h2
theorem zlq {p:Nat} {P:List E→Nat→Prop}:∀ l q',(some (.stop p):Option R)=some (.ok l q')→P l q':=fun l q' hr=>by cases hr
theorem zfe {L:List T} {e:E} {p q:Nat} (h:p≤q) (hw:Wg L e p q):W1 L p (one e q):=fun l q' hr=>by
 cases hr
 exact ⟨h,e,rfl,hw⟩
theorem zoQ {L:List T} {p:Nat} {k:Int} {s:S} {l:List S} (h:oneOf L p k l=some s):cw L p+40+5 * s.length=cw L (p+1):=cw_isT (zbP h).2.1
theorem zq2 (op:S) (a:E):count (eUn op a)=count a+1:=by rw [zcW];show counts [a]+1=_;simp [counts]
theorem zoB (op:S) (a b:E):count (eBin op a b)=count a+count b+1:=by rw [zcW];show counts [a,b]+1=_;simp [counts]
theorem zq3 (g:Bool) (a b:E):count (eIs g a b)=count a+count b+1:=by rw [zcW];show counts [a,b]+1=_;simp [counts]
theorem count_in (g:Bool) (a:E) (l:List E):count (eIn g (a :: l))=count a+counts l+1:=by rw [zcW];show counts (a :: l)+1=_;simp [counts]
theorem zuM (g:Bool) (a b c:E):count (eBtw g a b c)=count a+count b+count c+1:=by rw [zcW];show counts [a,b,c]+1=_;simp [counts];omega
theorem zr3 (g:Bool) (a b:E):count (zeT g a b)=count a+count b+1:=by rw [zcW];show counts [a,b]+1=_;simp [counts]
theorem zmc (d:Bool) (l:List E):count (eCase d l)=counts l+1:=zcW _
theorem zq4 (op:S) (l:List E):count (eFn op l)=counts l+1:=zcW _
theorem zoC (op:S) (d:Bool) (l:List E):count (eAgg op d l)=counts l+1:=zcW _
theorem zr4 (op:S) (a:E):count (zhl op a)=count a+1:=by rw [zcW];show counts [a]+1=_;simp [counts]
theorem zk5 (v:V):count (eVal v)=1:=by rw [zcW];rfl
theorem zoA (t n:S):count (eCol t n)=1:=by rw [zcW];rfl
theorem zjG (a:E):GL [a]=G a∧TL [a]=Tk a∧counts [a]=count a:=by simp [GL,TL,counts]
theorem two_l (a b:E):GL [a,b]=G a+G b∧TL [a,b]=Tk a+Tk b∧counts [a,b]=count a+count b:=by simp [GL,TL,counts]
theorem ops_op {k:Nat} {op:S} (h:op∈(ops k).1):op.length≤3:=by
 have:=zqq k h
 simp only [bins,List.mem_cons,List.not_mem_nil,or_false] at this
 rcases this with rfl | rfl | rfl | rfl | rfl | rfl | rfl | rfl | rfl | rfl | rfl | rfl | rfl | rfl<;>decide
theorem cmps_op {op:S} (h:op∈cmps):op.length≤3:=by
 simp only [cmps,List.mem_cons,List.not_mem_nil,or_false] at h
 rcases h with rfl | rfl | rfl | rfl | rfl | rfl<;>decide
theorem ze7 {L:List T} {p:Nat} {k:Int} {s:S} (h:isT L p k s=true):cw L p+40≤cw L (p+1):=by have:=cw_isT h;omega
theorem ziY (L:List T) (hV:ValT L):∀ n,(∀ k p,W1 L p (run L n (.lev k) p))∧(∀ k e p,WC L e p (run L n (.chain k e) p)) ∧
  (∀ acc p,WL L acc p (run L n (.list acc) p))∧(∀ d acc p,WW L acc p (run L n (.whens d acc) p))
 | 0=>by
  refine ⟨fun k p=>?_,fun k e p=>?_,fun acc p=>?_,fun d acc p=>?_⟩<;>(intro l q h;cases h)
 | n+1=>by
  obtain ⟨hl,hc,hs,hw⟩:=ziY L hV n
  refine ⟨fun k p=>?_,fun k e p=>?_,fun acc p=>?_,fun d acc p=>?_⟩
  ·by_cases hk:k≠2∧k≠3∧k≠7∧k≠8
   ·rw [zfk L n k p hk]
    refine zb5 (hl _ _) fun e q hq he l q' hr=>?_
    obtain ⟨h1,e',h2,h3,h4,h5⟩:=hc _ _ _ _ _ hr
    obtain ⟨g,t,c⟩:=he
    exact ⟨by omega,e',h2,⟨by omega,by omega,by omega⟩⟩
   ·have hk':k=2∨k=3∨k=7∨k=8:=by omega
    rcases hk' with rfl | rfl | rfl | rfl
    ·simp only [run]
     split
     ·rename_i ht
      have h0:=ze7 ht
      refine zb5 (hl _ _) fun e q hq he=>?_
      obtain ⟨g,t,c⟩:=he
      have g1:=g_un wNot e
      have t1:=t_un wNot e
      have c1:=zq2 wNot e
      have e3:wNot.length=3:=rfl
      exact zfe (by omega) ⟨by omega,by omega,by omega⟩
     ·exact hl _ _
    ·simp only [run]
     refine zb5 (hl _ _) fun a q hq ha=>?_
     obtain ⟨ga,ta,ca⟩:=ha
     split
     ·rename_i op ho
      have h0:=zoQ ho
      have hop:=cmps_op (zbP ho).2.2
      refine zb5 (hl _ _) fun b r hr hb=>?_
      obtain ⟨gb,tb,cb⟩:=hb
      have g1:=g_bin op a b
      have t1:=t_bin op a b
      have c1:=zoB op a b
      exact zfe (by omega) ⟨by omega,by omega,by omega⟩
     ·split
      ·rename_i ht
       have h0:=ze7 ht
       split
       ·rename_i hn
        have h1:=ze7 hn
        refine zb5 (hl _ _) fun b r hr hb=>?_
        obtain ⟨gb,tb,cb⟩:=hb
        have g1:=g_is true a b
        have t1:=t_is true a b
        have c1:=zq3 true a b
        rw [if_pos rfl] at t1
        rw [show q+2=q+1+1 by omega] at *
        simp only [hn]
        exact zfe (by omega) ⟨by omega,by omega,by omega⟩
       ·rename_i hn
        refine zb5 (hl _ _) fun b r hr hb=>?_
        replace hr:q+1≤r:=hr
        replace hb:Wg L b (q+1) r:=hb
        obtain ⟨gb,tb,cb⟩:=hb
        have hn:isT L (q+1) 2 wNot=false:=by simpa using hn
        have g1:=g_is false a b
        have t1:=t_is false a b
        have c1:=zq3 false a b
        rw [if_neg (by decide)] at t1
        simp only [hn]
        exact zfe (by omega) ⟨by omega,by omega,by omega⟩
      ·have hq2:∃ nt q2,(isT L q 2 wNot && (isT L (q+1) 2 wIn || isT L (q+1) 2 zaO || isT L (q+1) 2 zdQ))=nt∧(if nt=true then q+1 else q)=q2∧q≤q2∧cw L q≤cw L q2∧(if nt then q2=q+1∧cw L q+40≤cw L q2 else q2=q):=by
        cases hnt:(isT L q 2 wNot && (isT L (q+1) 2 wIn || isT L (q+1) 2 zaO || isT L (q+1) 2 zdQ)) with
        | false=>exact ⟨false,q,rfl,rfl,Nat.le_refl _,Nat.le_refl _,rfl⟩
        | true =>
         simp only [Bool.and_eq_true] at hnt
         have:=ze7 hnt.1
         exact ⟨true,q+1,rfl,rfl,by omega,by omega,rfl,by omega⟩
       obtain ⟨nt,q2,hnt,hq2,h3,h4,h5⟩:=hq2
       rw [hnt,hq2]
       split
       ·rename_i ht
        have h0:=ze7 ht
        refine zeU fun h6 l q' hr=>?_
        rcases thenL_some hr with ⟨l2,q3,h7,h8⟩ | ⟨q3,h7,h8⟩
        ·obtain ⟨h9,gl,tl,cl⟩:=hs _ _ _ _ h7
         rw [zrk] at gl
         rw [zri] at tl
         rw [show counts []=0 from rfl] at cl
         have g1:=g_in nt a l2
         have t1:=t_in nt a l2
         have c1:=count_in nt a l2
         refine zfe (L:=L) (p:=p) ?_ ⟨?_, ?_, ?_⟩ _ _ h8
         ·omega
         ·omega
         ·cases nt<;>simp only [if_true,Bool.false_eq_true,if_false] at t1 h5<;>omega
         ·omega
        ·cases h8
       ·split
        ·rename_i ht
         have h0:=ze7 ht
         refine zb5 (hl _ _) fun b r hr hb=>?_
         obtain ⟨gb,tb,cb⟩:=hb
         refine zeU fun h6=>?_
         refine zb5 (hl _ _) fun c r2 hr2 hcc=>?_
         obtain ⟨gc,tc,cc⟩:=hcc
         have g1:=g_btw nt a b c
         have t1:=t_btw nt a b c
         have c1:=zuM nt a b c
         refine zfe (by omega) ⟨by omega, ?_,by omega⟩
         cases nt<;>simp only [if_true,Bool.false_eq_true,if_false] at t1 h5<;>omega
        ·split
         ·rename_i ht
          have h0:=ze7 ht
          refine zb5 (hl _ _) fun b r hr hb=>?_
          obtain ⟨gb,tb,cb⟩:=hb
          have g1:=g_like nt a b
          have t1:=t_like nt a b
          have c1:=zr3 nt a b
          refine zfe (by omega) ⟨by omega, ?_,by omega⟩
          cases nt<;>simp only [if_true,Bool.false_eq_true,if_false] at t1 h5<;>omega
         ·exact zfe (by omega) ⟨by omega,by omega,by omega⟩
    ·simp only [run]
     split
     ·exact hl _ _
     ·rename_i op ho
      have h0:=zoQ ho
      have hop:op.length≤3:=by
       have:=(zbP ho).2.2
       simp only [List.mem_cons,List.not_mem_nil,or_false] at this
       rcases this with rfl | rfl<;>decide
      have hu:W1 L p (then1 (run L n (.lev 7) (p+1)) fun e q=>one (eUn op e) q):=by
       refine zb5 (hl _ _) fun e q hq he=>?_
       obtain ⟨g,t,c⟩:=he
       have g1:=g_un op e
       have t1:=t_un op e
       have c1:=zq2 op e
       exact zfe (by omega) ⟨by omega,by omega,by omega⟩
      split
      ·rename_i t ht
       split
       ·rename_i hv
        simp only [Bool.and_eq_true,decide_eq_true_eq] at hv
        obtain ⟨v1,v2,v3,v4⟩:=hV t (List.mem_of_getElem? ht) hv.1.2
        have h1:=zju ht
        have g1:=g_val (v:=(t.val.1, -t.val.2.1,t.val.2.2)) (by simp only;omega) (by simp only;omega)
        have t1:=t_val (t.val.1, -t.val.2.1,t.val.2.2)
        have c1:=zk5 (t.val.1, -t.val.2.1,t.val.2.2)
        have t2:Tk (eVal (t.val.1, -t.val.2.1,t.val.2.2))≤4:=by split at t1<;>omega
        dsimp only at g1
        rw [show p+2=p+1+1 by omega]
        exact zfe (by omega) ⟨by omega,by omega,by omega⟩
       ·exact hu
      ·exact hu
    ·rw [zfB]
     split
     ·exact zlq
     ·rename_i t ht
      have h0:=zju ht
      split
      ·rename_i h3
       obtain ⟨v1,v2,v3,v4⟩:=hV t (List.mem_of_getElem? ht) h3
       have g1:=g_val (v:=t.val) (by omega) (by omega)
       have t1:=t_val t.val
       have c1:=zk5 t.val
       have t2:Tk (eVal t.val)≤3:=by
        split at t1
        ·rename_i h;have:=v4 h.1;omega
        ·exact t1
       exact zfe (by omega) ⟨by omega,by omega,by omega⟩
      split
      ·unfold zhu
       split
       ·rename_i hd
        have h1:=ze7 hd
        split
        ·rename_i u hu
         split
         ·have h2:=zju hu
          have g1:=g_col t.text u.text
          have t1:=t_col t.text u.text
          have c1:=zoA t.text u.text
          have t2:Tk (eCol t.text u.text)≤5:=by split at t1<;>omega
          rw [show p+1+2=p+1+1+1 by omega]
          exact zfe (by omega) ⟨by omega,by omega,by omega⟩
         ·exact zlq
        ·exact zlq
       split
       ·rename_i ho
        have h1:=ze7 ho
        have hfl:(fold t.text).length=t.text.length:=by simp [fold]
        unfold callK
        split
        ·split
         ·rename_i hcs
          simp only [Bool.and_eq_true,beq_iff_eq] at hcs
          have h2:=ze7 hcs.2
          rw [hcs.1]
          refine zeU fun h6=>?_
          have g1:=g_star
          have t1:=t_star
          have c1:count (eAgg wCount false [])=1:=rfl
          exact zfe (by omega) ⟨by omega,by omega,by omega⟩
         ·dsimp only
          split
          ·rename_i hd
           have h2:=ze7 hd
           refine zb5 (hl _ _) fun e q hq he=>zeU fun h6=>?_
           replace hq:p+1+1+1≤q:=hq
           replace he:Wg L e (p+1+1+1) q:=he
           obtain ⟨g,t2,c⟩:=he
           have g1:=g_agg (fold t.text) (isT L (p+1+1) 2 zae) e
           have t1:=t_agg (fold t.text) (isT L (p+1+1) 2 zae) e
           have c1:=zoC (fold t.text) (isT L (p+1+1) 2 zae) [e]
           rw [(zjG e).2.2] at c1
           have t3:Tk (eAgg (fold t.text) (isT L (p+1+1) 2 zae) [e])≤Tk e+4:=by split at t1<;>omega
           exact zfe (by omega) ⟨by omega,by omega,by omega⟩
          ·refine zb5 (hl _ _) fun e q hq he=>zeU fun h6=>?_
           replace hq:p+1+1≤q:=hq
           replace he:Wg L e (p+1+1) q:=he
           obtain ⟨g,t2,c⟩:=he
           have g1:=g_agg (fold t.text) (isT L (p+1+1) 2 zae) e
           have t1:=t_agg (fold t.text) (isT L (p+1+1) 2 zae) e
           have c1:=zoC (fold t.text) (isT L (p+1+1) 2 zae) [e]
           rw [(zjG e).2.2] at c1
           have t3:Tk (eAgg (fold t.text) (isT L (p+1+1) 2 zae) [e])≤Tk e+4:=by split at t1<;>omega
           exact zfe (by omega) ⟨by omega,by omega,by omega⟩
        ·split
         ·rename_i hsh
          have h2:=ze7 hsh
          have g1:=g_fn (fold t.text) []
          have t1:=t_fn (fold t.text) []
          have c1:=zq4 (fold t.text) []
          rw [zrk] at g1
          rw [zri] at t1
          rw [show counts []=0 from rfl] at c1
          exact zfe (by omega) ⟨by omega,by omega,by omega⟩
         ·intro l q' hr
          rcases thenL_some hr with ⟨l2,q3,h7,h8⟩ | ⟨q3,h7,h8⟩
          ·obtain ⟨h9,gl,tl,cl⟩:=hs _ _ _ _ h7
           rw [zrk] at gl
           rw [zri] at tl
           rw [show counts []=0 from rfl] at cl
           have g1:=g_fn (fold t.text) l2
           have t1:=t_fn (fold t.text) l2
           have c1:=zq4 (fold t.text) l2
           exact zfe (L:=L) (p:=p) (by omega) ⟨by omega,by omega,by omega⟩ _ _ h8
          ·cases h8
       ·have g1:=g_col [] t.text
        have t1:=t_col [] t.text
        have c1:=zoA [] t.text
        rw [if_pos rfl] at t1
        rw [List.length_nil] at g1
        exact zfe (by omega) ⟨by omega,by omega,by omega⟩
      split
      ·have g1:G (eVal v0)=18:=rfl
       have t1:Tk (eVal v0)=3:=rfl
       have c1:=zk5 v0
       exact zfe (by omega) ⟨by omega,by omega,by omega⟩
      split
      ·unfold zgI
       split
       ·intro l q' hr
        obtain ⟨h1,e,h2,g,t2,c⟩:=hw _ _ _ _ _ hr
        rw [zrk] at g
        rw [zri] at t2
        rw [show counts []=0 from rfl] at c
        exact ⟨by omega,e,h2,⟨by omega,by omega,by omega⟩⟩
       ·refine zb5 (hl _ _) fun e q hq he l q' hr=>?_
        obtain ⟨g0,t0,c0⟩:=he
        obtain ⟨h1,e',h2,g,t2,c⟩:=hw _ _ _ _ _ hr
        rw [(zjG e).1] at g
        rw [(zjG e).2.1] at t2
        rw [(zjG e).2.2] at c
        exact ⟨by omega,e',h2,⟨by omega,by omega,by omega⟩⟩
      split
      ·unfold zll
       refine zeU fun h6=>zb5 (hl _ _) fun e r hr he=>zeU fun h7=>?_
       obtain ⟨g0,t0,c0⟩:=he
       split
       ·rename_i u hu
        have h8:=zju hu
        split
        ·refine zeU fun h9=>?_
         have hfl:(fold u.text).length=u.text.length:=by simp [fold]
         have g1:=g_cast (fold u.text) e
         have t1:=t_cast (fold u.text) e
         have c1:=zr4 (fold u.text) e
         exact zfe (by omega) ⟨by omega,by omega,by omega⟩
        ·exact zlq
       ·exact zlq
      split
      ·refine zb5 (hl _ _) fun e q hq he=>zeU fun h6=>?_
       obtain ⟨g0,t0,c0⟩:=he
       exact zfe (by omega) ⟨by omega,by omega,by omega⟩
      ·exact zlq
  ·simp only [run]
   split
   ·intro l q hr
    cases hr
    exact ⟨Nat.le_refl _,e,rfl,by omega,by omega,by omega⟩
   ·rename_i op ho
    have h0:=zoQ ho
    have hop:=ops_op (zbP ho).2.2
    refine zb5 (hl _ _) fun b q hq hb l q' hr=>?_
    obtain ⟨gb,tb,cb⟩:=hb
    obtain ⟨h1,e',h2,g,t,c⟩:=hc _ _ _ _ _ hr
    have g1:=g_bin op e b
    have t1:=t_bin op e b
    have c1:=zoB op e b
    exact ⟨by omega,e',h2,by omega,by omega,by omega⟩
  ·simp only [run]
   refine zb5 (hl _ _) fun e q hq he=>?_
   obtain ⟨g0,t0,c0⟩:=he
   have e1:=zvk acc [e]
   have e2:=zvj acc [e]
   have e3:=zg1 acc [e]
   rw [(zjG e).1] at e1
   rw [(zjG e).2.1] at e2
   rw [(zjG e).2.2] at e3
   split
   ·rename_i hcm
    have h0:=ze7 hcm
    intro l q' hr
    obtain ⟨h1,g,t,c⟩:=hs _ _ _ _ hr
    exact ⟨by omega,by omega,by omega,by omega⟩
   ·refine zeU fun h6 l q' hr=>?_
    cases hr
    exact ⟨by omega,by omega,by omega,by omega⟩
  ·rw [zez]
   refine zeU fun h5=>?_
   unfold whenK
   refine zb5 (hl _ _) fun a q hq ha=>zeU fun h6=>?_
   refine zb5 (hl _ _) fun b r hr hb=>?_
   obtain ⟨ga,ta,ca⟩:=ha
   obtain ⟨gb,tb,cb⟩:=hb
   have e1:=zvk acc [a,b]
   have e2:=zvj acc [a,b]
   have e3:=zg1 acc [a,b]
   rw [(two_l a b).1] at e1
   rw [(two_l a b).2.1] at e2
   rw [(two_l a b).2.2] at e3
   split
   ·intro l q' hr
    obtain ⟨h1,e',h2,g,t,c⟩:=hw _ _ _ _ _ hr
    exact ⟨by omega,e',h2,by omega,by omega,by omega⟩
   ·unfold znJ
    split
    ·rename_i hel
     have h0:=ze7 hel
     refine zb5 (hl _ _) fun c r2 hr2 hcc=>zeU fun h7 l q' hr=>?_
     obtain ⟨gc,tc,cc⟩:=hcc
     have f1:=zvk (acc++[a,b]) [c]
     have f2:=zvj (acc++[a,b]) [c]
     have f3:=zg1 (acc++[a,b]) [c]
     rw [(zjG c).1] at f1
     rw [(zjG c).2.1] at f2
     rw [(zjG c).2.2] at f3
     have g1:=g_case d (acc++[a,b]++[c])
     have t1:=t_case d (acc++[a,b]++[c])
     have c1:=zmc d (acc++[a,b]++[c])
     cases hr
     exact ⟨by omega,_,rfl,by omega,by omega,by omega⟩
    ·refine zeU fun h7 l q' hr=>?_
     have g1:=g_case d (acc++[a,b])
     have t1:=t_case d (acc++[a,b])
     have c1:=zmc d (acc++[a,b])
     cases hr
     exact ⟨by omega,_,rfl,by omega,by omega,by omega⟩
end Ex
namespace Ex
open Lx
structure Good1 (t:T):Prop where
 name:t.kind=1→nmE t.text=true
 may:t.kind=3→mayV t.val=true
 nat:t.kind=3→t.val.1=1→0≤t.val.2.1
 lo:-9223372036854775807≤t.val.2.1
 hi:t.val.2.1≤9223372036854775807
 len:t.val.2.2.length≤2 * t.text.length
 int:t.val.1=1→t.val.2.2=[]
theorem znB:∀ (l r:S),zcr l=some r→r.length≤l.length
 | [],r,h=>by cases h;simp
 | [_],r,h=>by cases h
 | a :: b :: l,r,h=>by
  rw [zcr] at h
  split at h
  ·cases hx:zcr l with
   | none=>rw [hx] at h;cases h
   | some x =>
    rw [hx] at h
    have:=znB l x hx
    cases h
    simp only [List.length_cons]
    omega
  ·cases h
theorem zqF {k:Int} {o:Option S} {n:Nat} (hk:k=2∨k=3) (ho:∀ r,o=some r→r.length≤n) (h:(mkV k o).2=0):mayV (mkV k o).1=true∧(mkV k o).1.1=k∧(mkV k o).1.2.1=0∧(mkV k o).1.2.2.length≤n:=by
 unfold mkV at *
 cases o with
 | none=>simp at h
 | some r =>
  dsimp only at h ⊢
  split at h
  ·simp at h
  ·rename_i hl
   rw [if_neg hl]
   refine ⟨?_,rfl,rfl,ho r rfl⟩
   unfold mayV
   rcases hk with rfl | rfl
   ·simp;omega
   ·simp;omega
theorem unq_good {l:S} (h:(zaC l).2=0) (hh:l.head?≠some 45) :
  mayV (zaC l).1=true∧((zaC l).1.1=1→0≤(zaC l).1.2.1∧(zaC l).1.2.2=[])∧0≤(zaC l).1.2.1∧(zaC l).1.2.1≤9223372036854775807∧(zaC l).1.2.2.length≤2 * l.length:=by
 unfold zaC at *
 by_cases h1:(fold l == [110,117,108,108])=true
 ·simp only [h1,if_true] at h ⊢
  exact ⟨rfl,fun h=>by simp at h,by decide,by decide,by simp⟩
 simp only [h1,if_false,Bool.false_eq_true] at h ⊢
 by_cases h2:(za2 l).2=true
 ·simp only [h2,if_true] at h ⊢
  have hi:=zgC l
  obtain ⟨g1,g2,g3,g4⟩:=zqF (n:=l.length) (.inl rfl) (fun r hr=>Nat.le_trans (zsM _ r hr) hi) h
  exact ⟨g1,fun h=>(by rw [g2] at h;cases h),by rw [g3];decide,by rw [g3];decide,by omega⟩
 simp only [h2,if_false,Bool.false_eq_true] at h ⊢
 by_cases h3:(!l.isEmpty && fold (l.take 1) == [120])=true
 ·rw [if_pos h3] at h ⊢
  have hi:=zgC l.tail
  have ht:l.tail.length≤l.length:=by simp
  obtain ⟨g1,g2,g3,g4⟩:=zqF (n:=l.length) (.inr rfl) (fun r hr=>by
   split at hr
   ·exact Nat.le_trans (znB _ r hr) (by omega)
   ·cases hr) h
  exact ⟨g1,fun h=>(by rw [g2] at h;cases h),by rw [g3];decide,by rw [g3];decide,by omega⟩
 rw [if_neg h3] at h ⊢
 by_cases h4:(read l).2≠0
 ·rw [if_pos h4] at h
  exact absurd h h4
 rw [if_neg h4] at h ⊢
 have hn:(l.head? == some 45)=false:=by simpa using hh
 have hr:(read l).2=0:=Decidable.not_not.1 h4
 have:0≤(read l).1∧(read l).1≤9223372036854775807:=by
  unfold Lx.read at *
  simp only [hn,Bool.false_and,Bool.or_false,Bool.false_eq_true,if_false] at hr ⊢
  split
  ·decide
  ·split
   ·decide
   ·rename_i hm
    unfold most at hm
    simp only
    omega
 refine ⟨?_,fun _=>⟨this.1,rfl⟩,this.1,this.2,by simp⟩
 simp [mayV]
theorem nam_lo {k:Nat} {c:UInt8} (h:nam c=true) (hk:k=0→let_ c=true):nmAt k (lo c)=true:=by
 unfold nam let_ dig at h
 unfold let_ at hk
 simp only [Bool.or_eq_true,Bool.and_eq_true,decide_eq_true_eq] at h hk
 have hc:c.toNat < 256:=c.toNat_lt
 unfold nmAt nmh dig
 simp only [Bool.or_eq_true,Bool.and_eq_true,decide_eq_true_eq]
 unfold lo
 by_cases h1:65≤c.toNat∧c.toNat≤90
 ·have h2:(decide (65≤c.toNat) && decide (c.toNat≤90))=true:=by simpa using h1
  rw [if_pos h2]
  have h3:(UInt8.ofNat (c.toNat+32)).toNat=c.toNat+32:=by simp [UInt8.toNat_ofNat];omega
  rw [h3]
  omega
 ·have h2:¬ (decide (65≤c.toNat) && decide (c.toNat≤90))=true:=by simpa using h1
  rw [if_neg h2]
  omega
theorem nmR_of:∀ (l:S) (k:Nat),l.all nam=true→(k=0→∀ c,l.head?=some c→let_ c=true)→nmR k (fold l)=true
 | [],_,_,_=>rfl
 | c :: l,k,h,hk=>by
  rw [List.all_cons,Bool.and_eq_true] at h
  have h1:=nmR_of l (k+1) h.2 (fun h=>by omega)
  show (nmAt k (lo c) && nmR (k+1) (fold l))=true
  rw [h1,nam_lo h.1 (fun h=>hk h c rfl)]
  rfl
theorem tok_good {R:S} {t:T} {n:Nat} (h:tok R=(0,t,n)):Good1 t:=by
 match R,h with
 | [],h=>cases h
 | c :: r,h =>
  have hval:∀ m,(c :: r).head?≠some 45→valT (c :: r) m=(0,t,n)→Good1 t:=fun m h45 hv=>by
   unfold valT at hv
   split at hv
   ·rename_i hu
    have hh:((c :: r).take m).head?≠some 45:=by
     cases m with
     | zero=>simp
     | succ m=>simpa using h45
    obtain ⟨g1,g2,g3,g4,g5⟩:=unq_good hu hh
    cases hv
    exact ⟨fun h=>by simp at h,fun _=>g1,fun _ h=>(g2 h).1,by dsimp only;omega,g4,g5,fun h=>(g2 h).2⟩
   ·rename_i h2;simp only [bad,Prod.mk.injEq] at hv;exact absurd hv.1 h2
  rw [tok] at h
  by_cases hl:let_ c=true
  ·rw [if_pos hl] at h
   have h45:(c :: r).head?≠some 45:=by
    have:=(ztZ hl).2.1
    simp at this ⊢
    exact this
   by_cases hb:zcP (c :: r)=true
   ·rw [if_pos hb] at h
    cases e:bEnd ((c :: r).drop 2) with
    | none=>rw [e] at h;cases h
    | some q=>rw [e] at h;exact hval _ h45 h
   ·rw [if_neg hb] at h
    have ht:=zkM (p:=nam) (c :: r)
    have hm1:1≤many nam (c :: r):=by
     rw [many,if_pos (by unfold nam;rw [hl];rfl)];omega
    have hml:=zdr nam (c :: r)
    unfold zjH at h
    split at h
    ·cases h
     exact ⟨fun h=>by simp at h,fun h=>by simp at h,fun h=>by simp at h,by simp,by simp,by simp,fun h=>by simp at h⟩
    ·rename_i hw
     split at h
     ·cases h
     ·rename_i h32
      cases h
      refine ⟨fun _=>?_,fun h=>by simp at h,fun h=>by simp at h,by simp,by simp,by simp,fun h=>by simp at h⟩
      have hw':isW ((c :: r).take (many nam (c :: r)))=false:=by simpa using hw
      dsimp only
      unfold nmE zlW
      rw [hw',nmR_of _ 0 ht (fun _ d hd=>by
       obtain ⟨m,hm⟩:∃ m,many nam (c :: r)=m+1:=⟨_ - 1,(Nat.sub_add_cancel hm1).symm⟩
       rw [hm] at hd
       simp at hd
       rw [← hd];exact hl)]
      have hlen:((c :: r).take (many nam (c :: r))).length=many nam (c :: r):=by rw [List.length_take];omega
      rw [hlen]
      simp
      omega
  ·rw [if_neg hl] at h
   by_cases hd:dig c=true
   ·rw [if_pos hd] at h
    unfold numT at h
    split at h
    ·cases h
    ·split at h
     ·rename_i hr
      cases h
      have hdg:=zkM (p:=dig) (c :: r)
      have h45:(((c :: r).take (many dig (c :: r))).head? == some 45)=false:=by
       cases hm:many dig (c :: r) with
       | zero=>simp
       | succ m =>
        simp
        exact (zk4 hd).2.2.1
      have:0≤(read ((c :: r).take (many dig (c :: r)))).1∧(read ((c :: r).take (many dig (c :: r)))).1≤9223372036854775807:=by
       unfold Lx.read at *
       simp only [h45,Bool.false_and,Bool.or_false,Bool.false_eq_true,if_false] at hr ⊢
       split
       ·decide
       ·split
        ·decide
        ·rename_i hm
         unfold most at hm
         simp only
         omega
      exact ⟨fun h=>by simp at h,fun _=>by simp [mayV],fun _ _=>this.1,by dsimp only;omega,this.2,by simp,fun _=>rfl⟩
     ·rename_i h2;simp only [bad,Prod.mk.injEq] at h;exact absurd h.1 h2
   ·rw [if_neg hd] at h
    by_cases hq:(c == 39)=true
    ·rw [if_pos hq] at h
     have h45:(c :: r).head?≠some 45:=by
      simp at hq ⊢
      rw [hq];decide
     cases e:qEnd r with
     | none=>rw [e] at h;cases h
     | some q=>rw [e] at h;exact hval _ h45 h
    ·rw [if_neg hq] at h
     unfold zoo at h
     split at h
     ·cases h
     ·cases h
      exact ⟨fun h=>by simp at h,fun h=>by simp at h,fun h=>by simp at h,by simp,by simp,by simp,fun h=>by simp at h⟩
theorem zuz:Good1 endT:=⟨fun h=>(by cases h),fun h=>(by cases h),fun h=>(by cases h),by decide,by decide,by decide,fun h=>(by cases h)⟩
theorem zrO {R:S} {ts:List T} (h:Lexed R ts):∀ t∈ts,Good1 t:=by
 induction h with
 | nil=>intro t ht;cases ht
 | cons h1 _ _ ih =>
  intro t ht
  rcases List.mem_cons.1 ht with rfl | ht
  ·exact tok_good h1
  ·exact ih t ht
theorem ztX {R:S} {ts:List T} (h:Lexed R ts):(ts.map fun t=>t.text.length).sum≤R.length:=by
 induction h with
 | nil=>simp
 | cons h1 h2 h3 ih =>
  have:=zst h1
  simp only [List.length_drop] at ih
  simp only [List.map_cons,List.sum_cons]
  omega
def zlk (l:List TA) (n i:Nat):Nat:=match l[i]? with | some t=>t.2 | none=>n
inductive OfR (s:S):E→Nat→Int→Prop
 | bad (l:List TA) (a:Nat) (no:Int):scan s=(l,a,no)→no≠0→OfR s e0 a no
 | stop (l:List TA) (a m q:Nat):scan s=(l,a,0)→run (l.map (·.1)) m (.lev 0) 0=some (.stop q)→OfR s e0 (zlk l s.length q) 20
 | deep (l:List TA) (a m q:Nat) (e:E):scan s=(l,a,0)→run (l.map (·.1)) m (.lev 0) 0=some (.ok [e] q)→24 < deep e→OfR s e0 (zlk l s.length 0) 12
 | rest (l:List TA) (a m q:Nat) (e:E) (t:TA):scan s=(l,a,0)→run (l.map (·.1)) m (.lev 0) 0=some (.ok [e] q)→deep e≤24→l[q]?=some t→t.1.kind≠0→OfR s e0 t.2 20
 | ok (l:List TA) (a m q:Nat) (e:E):scan s=(l,a,0)→run (l.map (·.1)) m (.lev 0) 0=some (.ok [e] q)→deep e≤24→(∀ t,l[q]?=some t→t.1.kind=0)→OfR s e s.length 0
theorem zif {s:S} {l:List TA} {a:Nat} (h:scan s=(l,a,0)):zln (l.map (·.1))∧ValT (l.map (·.1))∧(∀ t∈l.map (·.1),Good1 t)∧l.length≤s.length+1∧((l.map (·.1)).map fun t=>t.text.length).sum≤s.length∧l.length≤4097:=by
 obtain ⟨ext,g1,rfl,g3,g4,g5⟩:=zlG h
 have hg:∀ t∈(ext++[(endT,s.length)]).map (·.1),Good1 t:=fun t ht=>by
  rw [List.map_append,List.mem_append] at ht
  rcases ht with ht | ht
  ·exact zrO g1 t ht
  ·simp only [List.map_cons,List.map_nil,List.mem_cons,List.not_mem_nil,or_false] at ht
   subst ht
   exact zuz
 have hl:=ztY g1
 have hs:=ztX g1
 simp only [List.length_map,List.length_drop] at hl hs
 refine ⟨fun t ht=>?_,fun t ht hk=>?_,hg,by simp;omega, ?_,by simp;omega⟩
 ·have:=hg t ht
  exact ⟨this.name,fun hk=>⟨⟨this.may hk,fun h1=>⟨this.nat hk h1,this.hi⟩⟩,this.hi,this.lo⟩⟩
 ·have:=hg t ht
  exact ⟨this.len,this.lo,this.hi,this.nat hk⟩
 ·rw [List.map_append,List.map_append,List.sum_append]
  have e:((List.map (·.1) [(endT,s.length)]).map fun t=>t.text.length).sum=0:=rfl
  rw [e]
  omega
theorem cw_le (L:List T) (p:Nat):cw L p≤40 * L.length+5 * (L.map fun t=>t.text.length).sum:=by
 have key:∀ l:List T,(l.map wt).sum=40 * l.length+5 * (l.map fun t=>t.text.length).sum:=fun l=>by
  induction l with
  | nil=>rfl
  | cons t l ih=>simp only [List.map_cons,List.sum_cons,List.length_cons,ih,wt];omega
 have h1:cw L p≤(L.map wt).sum:=by
  unfold cw
  conv=>rhs;rw [← List.take_append_drop p L,List.map_append,List.sum_append]
  omega
 rw [key] at h1
 exact h1
end Ex
namespace Ex
open Lx
theorem zk9:∀ l:List C,commas l=Go.Lib.join (l.map (·.2.2)) [44,32]
 | []=>rfl
 | [c]=>by rw [commas];simp [Go.Lib.join,List.intercalate]
 | c :: d :: r=>by
  rw [commas,zk9 (d :: r),List.map_cons,Go.Lib.join_cons,List.map_cons,Go.Lib.join_cons]
  ·simp [Go.Lib.joinTail]
  ·intro h;cases h
def zd9:List C→List S
 | []=>[]
 | [c]=>[ziO,c.2.2]
 | c :: d :: r=>zdg :: c.2.2 :: wThen :: d.2.2 :: zd9 r
theorem ziM:∀ l:List C,Go.Lib.joinTail [32] (zd9 l)++[32]=32 :: zdP l
 | []=>rfl
 | [c]=>by rw [zd9,zdP];simp [Go.Lib.joinTail]
 | c :: d :: r=>by
  have h:=ziM r
  rw [zd9,zdP]
  simp only [Go.Lib.joinTail,List.map_cons,List.flatten_cons,List.append_assoc] at h ⊢
  rw [h]
  simp
theorem zuT (d:Bool) (l:List C):zjm d l=Go.Lib.join (wCase :: ((if d then (kid l 0).2.2 :: zd9 (l.drop 1) else zd9 l)++[wEnd])) [32]:=by
 rw [Go.Lib.join_cons,zjm]
 have hT:∀ (a b:List S),Go.Lib.joinTail [32] (a++b)=Go.Lib.joinTail [32] a++Go.Lib.joinTail [32] b:=fun a b=>by simp [Go.Lib.joinTail]
 have h1:Go.Lib.joinTail [32] [wEnd]=32 :: wEnd:=by simp [Go.Lib.joinTail]
 rw [hT,h1]
 cases d
 ·have:=ziM l
  simp only [Bool.false_eq_true,if_false]
  rw [show (32 :: wEnd:S)=[32]++wEnd from rfl,← List.append_assoc (Go.Lib.joinTail _ _),this]
  simp
 ·have:=ziM (l.drop 1)
  simp only [if_true]
  have h2:Go.Lib.joinTail [32] ((kid l 0).2.2 :: zd9 (l.drop 1))=32 :: ((kid l 0).2.2++Go.Lib.joinTail [32] (zd9 (l.drop 1))):=by simp [Go.Lib.joinTail]
  have h3:∀ z:S,Go.Lib.joinTail [32] (zd9 (l.drop 1))++32 :: z=32 :: (zdP (l.drop 1)++z):=fun z=>by
   have:=congrArg (·++z) this
   simpa using this
  rw [h2]
  simp only [List.cons_append,List.append_assoc,h3,List.nil_append]
end Ex
namespace Ex
open Lx
mutual
def same:E→E→Bool
 | .mk k o v t n s g d a,.mk k' o' v' t' n' s' g' d' a'=>k == k' && (o == o' && (v == v' && (fold t == fold t' && (fold n == fold n' && (s == s' && (g == g' && (d == d' && (a.length == a'.length && sames a a'))))))))
termination_by structural x=>x
def sames:List E→List E→Bool
 | [],_=>true
 | e :: r,l=>match l with | []=>true | f :: q=>same e f && sames r q
termination_by structural x=>x
end
mutual
def equal:E→E→Bool
 | .mk k o v t n s g d a,.mk k' o' v' t' n' s' g' d' a'=>same (.mk k o v t n s g d a) (.mk k' o' v' t' n' s' g' d' a') && (t == t' && (n == n' && equals a a'))
termination_by structural x=>x
def equals:List E→List E→Bool
 | [],_=>true
 | e :: r,l=>match l with | []=>true | f :: q=>equal e f && equals r q
termination_by structural x=>x
end
inductive Sh:E→Prop
 | mk {e:E}:e.table.length≤1000000→e.name.length≤1000000→(∀ x∈e.args,Sh x)→Sh e
theorem Sh.t {e:E} (h:Sh e):e.table.length≤1000000:=by cases h;assumption
theorem Sh.n {e:E} (h:Sh e):e.name.length≤1000000:=by cases h;assumption
theorem Sh.a {e:E} (h:Sh e):∀ x∈e.args,Sh x:=by cases h;assumption
end Ex
