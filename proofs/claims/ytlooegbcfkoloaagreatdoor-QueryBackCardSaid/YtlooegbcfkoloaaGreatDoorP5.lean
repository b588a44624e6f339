/- Part of the proof: see the last text. -/
import Derived.Test.YtlooegbcfkoloaaGreatDoorP0
import Derived.Test.YtlooegbcfkoloaaGreatDoorP4
set_option maxRecDepth 20000
set_option linter.unusedVariables false
set_option linter.unusedSimpArgs false
namespace Vm
open Go Go.RowKit
def bnd (d:Nat):Option V→Option Nat
 | none=>some d
 | some (.int _ h)=>if 0≤h then some h.toNat else none
 | _=>none
def zgq (s:List UInt8) (lo hi:Option V):Option V :=
 match bnd 0 lo,bnd s.length hi with
 | some l,some h=>if l≤h∧h≤s.length then some (.str ((s.take h).drop l)) else none
 | _,_=>none
def zfx (z:Nat) (xs:List V) (lo hi:Option V):Option V :=
 match bnd 0 lo,bnd xs.length hi with
 | some l,some h=>if l≤h∧h≤xs.length∧(∀ x∈xs,x.size=z) then some (.list ((xs.take h).drop l)) else none
 | _,_=>none
def semSl (P:Program) (t:TypeId) (v:V) (lo hi:Option V):Option V :=
 match v with
 | .str s=>if strT P t=true then zgq s lo hi else none
 | .list xs=>match eszT P t with | some z=>zfx z xs lo hi | none=>none
 | _=>none
def RepO (w:World) (A:Nat→Nat→Prop) (st:Nat→Ent) (H:Nat→Value):Option V→Option Value→Prop
 | none,none=>True
 | some x,some v=>RepT w A st H x v
 | _,_=>False
theorem bnd_cases {w:World} {A:Nat→Nat→Prop} {st:Nat→Ent} {H:Nat→Value} {d l:Nat} {o:Option V} {ov:Option Value} (h:bnd d o=some l) (hr:RepO w A st H o ov) :
  (ov=none∧l=d)∨∃ k n,ov=some (.int k n)∧0≤n∧l=n.toNat:=by
 unfold bnd at h
 split at h
 ·cases ov with
  | none=>simp at h;exact .inl ⟨rfl,h.symm⟩
  | some v=>cases hr
 ·rename_i k n
  split at h
  ·rename_i hn
   simp at h
   cases ov with
   | none=>cases hr
   | some v =>
    have hr':RepT w A st H (.int k n) v:=hr
    cases hr'.data rfl
    exact .inr ⟨_,_,rfl,hn,h.symm⟩
  ·cases h
 ·cases h
theorem zi1 {P:Program} {w:World} {A:Nat→Nat→Prop} {st:Nat→Ent} {H:Nat→Value} {isS:Bool} {len cap l h:Nat} {lo hi:Option V} {lov hiv:Option Value} (hl:bnd 0 lo=some l) (hh:bnd len hi=some h)
  (rl:RepO w A st H lo lov) (rh:RepO w A st H hi hiv) (h1:l≤h) (h2:h≤len) (h3:len≤cap):(Instr.sliceBounds isS len cap lov hiv none).run P w=.ok (l,h,cap) w:=by
 rcases bnd_cases hl rl with ⟨rfl,rfl⟩ | ⟨k,n,rfl,hn,rfl⟩<;>rcases bnd_cases hh rh with ⟨rfl,rfl⟩ | ⟨k2,n2,rfl,hn2,rfl⟩
 ·simp [Instr.sliceBounds]
 ·have:n2≤(cap:Int):=by omega
  simp [Instr.sliceBounds,Instr.sliceBound,asIntOf,hn2,this]
 ·have:n≤(h:Int):=by omega
  simp [Instr.sliceBounds,Instr.sliceBound,asIntOf,hn,this]
 ·have e1:n2≤(cap:Int):=by omega
  have e2:n≤n2:=by omega
  have e3:n≤max n2 0:=by omega
  simp [Instr.sliceBounds,Instr.sliceBound,asIntOf,hn,hn2,e1,e2,e3]
theorem zp9 {P:Program} {w:World} {A:Nat→Nat→Prop} {st:Nat→Ent} {H:Nat→Value} {t:Nat} {y v:V} {yv:Value} {lo hi:Option V} {lov hiv:Option Value} (hy:RepT w A st H y yv) (rl:RepO w A st H lo lov) (rh:RepO w A st H hi hiv)
  (hs:semSl P t y lo hi=some v):∃ xv,(Instr.sliceAt t yv lov hiv none).run P w=.ok xv w∧RepT w A st H v xv:=by
 unfold semSl at hs
 split at hs
 ·rename_i s
  split at hs
  ·rename_i ht
   unfold zgq at hs
   split at hs
   ·rename_i l h hl hh
    split at hs
    ·rename_i hc
     cases hs
     cases hy.data rfl
     have hb:=zi1 (P:=P) (isS:=false) (cap:=s.length) hl hh rl rh hc.1 hc.2 (Nat.le_refl _)
     refine ⟨.string (Lx.bs ((s.take h).drop l)), ?_,Or.inr (.str _)⟩
     simp [Instr.sliceAt,Instr.slice,run_underlying (zkg ht),Lx.zaN,hb]
     rw [Lx.zbJ,Lx.zcn,List.drop_take]
    ·cases hs
   ·cases hs
  ·cases hs
 ·rename_i xs
  split at hs
  ·rename_i z hz
   unfold zfx at hs
   split at hs
   ·rename_i l h hl hh
    split at hs
    ·rename_i hc
     cases hs
     obtain ⟨e,i,hu,hi,rfl⟩:=ziA hz
     cases hy.data rfl with
     | nil a cp =>
      simp only [List.length_nil,Nat.le_zero_eq] at hc
      obtain ⟨h1,rfl,_⟩:=hc
      have h1:l=0:=by omega
      subst h1
      have hb:=zi1 (P:=P) (isS:=true) (cap:=cp) hl hh rl rh (Nat.le_refl _) (Nat.le_refl _) (Nat.zero_le _)
      refine ⟨.slice (if cp=0 then a else a.map (·.add (0 * i.size))) (0 - 0) (cp - 0), ?_,Or.inr ?_⟩
      ·simp only [List.length_nil] at hb
       simp [Instr.sliceAt,Instr.slice,run_underlying hu,hb,Go.sizeOf,typeInfo,hi]
      ·exact .nil _ _
     | list _ z' b off cp vs hne hE hat hle hm =>
      have hb:=zi1 (P:=P) (isS:=true) (cap:=cp) hl hh rl rh hc.1 hc.2.1 hle
      have hz':i.size=z':=by
       cases xs with
       | nil=>exact absurd rfl hne
       | cons x r =>
        have h1:=hc.2.2 x (by simp)
        cases hE with
        | cons _ _ _ us ws h0 h2 h3=>rw [← h1,zio h2,h0]
      refine ⟨.slice (if cp=l then some ⟨b,off,none⟩ else (some (⟨b,off,none⟩:Addr)).map (·.add (l * i.size))) (h - l) (cp - l), ?_,Or.inr ?_⟩
      ·simp [Instr.sliceAt,Instr.slice,run_underlying hu,hb,Go.sizeOf,typeInfo,hi]
      ·by_cases hlh:l=h
       ·subst hlh
        rw [show (xs.take l).drop l=[] from List.drop_eq_nil_of_le (by simp;omega),Nat.sub_self]
        exact .nil _ _
       ·have hlen:((xs.take h).drop l).length=h - l:=by simp;omega
        rw [if_neg (by omega),← hlen,hz']
        simp only [Option.map_some,ziJ]
        refine .list _ z' b (off+l * z') (cp - l) ((vs.take (h * z')).drop (l * z')) ?_ (zn8 l (zn7 h hE)) (zu4 (zu3 hat _) _) (by rw [hlen];omega) (by omega)
        intro h0
        rw [h0] at hlen
        simp at hlen
        omega
    ·cases hs
   ·cases hs
  ·cases hs
 ·cases hs
def zej (op:BinOp) (k:IntKind) (a b:Int):Option V :=
 match op with
 | .add=>some (.int k (k.wrap (a+b)))
 | .sub=>some (.int k (k.wrap (a - b)))
 | .mul=>some (.int k (k.wrap (a * b)))
 | .quo=>if b=0 then none else some (.int k (k.wrap (a.tdiv b)))
 | .rem=>if b=0 then none else some (.int k (a.tmod b))
 | .eql=>some (.bool (a == b))
 | .neq=>some (.bool (!(a == b)))
 | .lss=>some (.bool (decide (a < b)))
 | .leq=>some (.bool (decide (a≤b)))
 | .gtr=>some (.bool (decide (a > b)))
 | .geq=>some (.bool (decide (a≥b)))
 | _=>none
def strV (op:BinOp) (a b:List UInt8):Option V :=
 match op with
 | .add=>if a.length+b.length≤4611686018427387904 then some (.str (a++b)) else none
 | .eql=>some (.bool (a == b))
 | .neq=>some (.bool (!(a == b)))
 | .lss=>some (.bool (Op.bytesLess a b))
 | .leq=>some (.bool (Op.bytesLess a b || a == b))
 | .gtr=>some (.bool (!(Op.bytesLess a b || a == b)))
 | .geq=>some (.bool (!Op.bytesLess a b))
 | _=>none
def zpK (P:Program) (t:TypeId):Bool:=match P.underlying t with | some .bool=>true | _=>false
def zgD (P:Program) (t:TypeId):Bool:=match P.underlying t with | some (.interface _)=>true | _=>false
def valT (P:Program) (t:TypeId):Bool:=match P.underlying t with
 | some (.struct fs)=>match fs.toList with
  | [f,g,h]=>(match P.underlying f.type,P.underlying g.type,P.underlying h.type with | some (.int _),some (.int _),some .string=>true | _,_,_=>false) &&
   (f.name != "_" && (g.name != "_" && (h.name != "_" && (f.offset == 0 && (g.offset == 1 && (h.offset == 2 && (!P.stoodInHeld t && !P.eqGuardType P.depth t)))))))
  | _=>false
 | _=>false
theorem ze5 {P:Program} {w:World} {T:TypeId} {k:IntKind} {xs:Array Value} {n:Nat} {v:Value} (hu:P.underlying T=some (.int k)) (hx:xs[n]?=some v):(part T xs n).run P w=.ok v w:=by
 simp [part,isAgg,run_underlying hu,hx]
theorem zjr {P:Program} {w:World} {T:TypeId} {xs:Array Value} {n:Nat} {v:Value} (hu:P.underlying T=some .string) (hx:xs[n]?=some v):(part T xs n).run P w=.ok v w:=by
 simp [part,isAgg,run_underlying hu,hx]
theorem val_eq {P:Program} {w:World} {t:TypeId} (h:valT P t=true) (a b a' b':Int) (s s':ByteArray) :
  (Op.equalIn 10000 t (.agg #[.int .i64 a,.int .i64 b,.string s]) (.agg #[.int .i64 a',.int .i64 b',.string s'])).run P w=.ok (a == a' && (b == b' && s.toList == s'.toList)) w:=by
 unfold valT at h
 split at h
 ·rename_i fs hfs
  split at h
  ·rename_i f g k hl
   simp only [Bool.and_eq_true,bne_iff_ne,beq_iff_eq,Bool.not_eq_true'] at h
   obtain ⟨hT,n1,n2,n3,o1,o2,o3,hp,hg⟩:=h
   split at hT
   ·rename_i k1 k2 u1 u2 u3
    have hf:P.fieldsOf t=fs:=by simp [Program.fieldsOf,hfs]
    rw [show (10000:Nat)=9999+1 from rfl,run_equalIn_agg w 9999 t _ _ (by rw [hf];exact hfs) hp,hf,hl]
    simp only [Op.eqFields,n1,n2,n3,o1,o2,o3,ne_eq,not_false_eq_true,if_true,Sem.run_bind]
    rw [ze5 (v:=.int .i64 a) u1 rfl,Result.andThen_ok,ze5 (v:=.int .i64 a') u1 rfl,Result.andThen_ok,run_equalIn_int w 9998 _ .i64 _ a a' u1,Result.andThen_ok]
    cases h1:(a == a')
    ·simp
    ·simp only [Bool.not_true,Bool.false_eq_true,if_false,Sem.run_bind,Bool.true_and]
     rw [ze5 (v:=.int .i64 b) u2 rfl,Result.andThen_ok,ze5 (v:=.int .i64 b') u2 rfl,Result.andThen_ok,run_equalIn_int w 9998 _ .i64 _ b b' u2,Result.andThen_ok]
     cases h2:(b == b')
     ·simp
     ·simp only [Bool.not_true,Bool.false_eq_true,if_false,Sem.run_bind,Bool.true_and]
      rw [zjr (v:=.string s) u3 rfl,Result.andThen_ok,zjr (v:=.string s') u3 rfl,Result.andThen_ok,run_equalIn_string w 9998 _ s s' u3,Result.andThen_ok]
      cases h3:(s.toList == s'.toList)<;>simp
   ·cases hT
  ·cases h
 ·cases h
def eqVal:List V→List V→Option Bool
 | [.int .i64 a,.int .i64 b,.str s],[.int .i64 a',.int .i64 b',.str s']=>some (a == a' && (b == b' && s == s'))
 | _,_=>none
@[simp] theorem eqVal_mk (a b a' b':Int) (s s':List UInt8):eqVal [.int .i64 a,.int .i64 b,.str s] [.int .i64 a',.int .i64 b',.str s']=some (a == a' && (b == b' && s == s')):=rfl
theorem zr1 {xs ys:List V} {r:Bool} (h:eqVal xs ys=some r):∃ a b s a' b' s',xs=[.int .i64 a,.int .i64 b,.str s]∧ys=[.int .i64 a',.int .i64 b',.str s']∧r=(a == a' && (b == b' && s == s')):=by
 unfold eqVal at h
 split at h
 ·cases h;exact ⟨_,_,_,_,_,_,rfl,rfl,rfl⟩
 ·cases h
theorem zrn {P:Program} {t:TypeId} (h:valT P t=true):P.eqGuardType P.depth t=false:=by
 unfold valT at h
 split at h
 ·split at h
  ·simp only [Bool.and_eq_true,Bool.not_eq_true'] at h
   exact h.2.2.2.2.2.2.2.2
  ·cases h
 ·cases h
theorem zs0 {w:World} {A:Nat→Nat→Prop} {a b:Int} {s:List UInt8} {xv:Value} (h:RepV w A (.agg [.int .i64 a,.int .i64 b,.str s]) xv):xv=.agg #[.int .i64 a,.int .i64 b,.string (Lx.bs s)]:=by
 cases h with
 | agg _ vs h =>
  cases h with
  | cons _ _ v vs h1 h2 =>
   cases h2 with
   | cons _ _ v vs h3 h4 =>
    cases h4 with
    | cons _ _ v vs h5 h6 =>
     cases h1
     cases h3
     cases h5
     cases h6
     rfl
def zrU (P:Program) (t:TypeId):Bool:=match P.underlying t with | some (.interface ms)=>ms.isEmpty | _=>false
theorem zl2 {P:Program} {t:TypeId} (h:zrU P t=true):∃ ms,P.underlying t=some (.interface ms)∧ms.isEmpty=true:=by
 unfold zrU at h
 split at h
 ·exact ⟨_,by assumption,h⟩
 ·cases h
theorem zhR {P:Program} {w:World} (d:Nat) (t:TypeId) (ms:Array (String×TypeId)) (h:P.underlying t=some (.interface ms)):(Op.equalIn (d+1) t .nilIface .nilIface).run P w=.ok true w:=by
 simp [Op.equalIn,run_underlying h]
theorem zfC {P:Program} {w:World} (t:TypeId) (ms:Array (String×TypeId)) (h:P.underlying t=some (.interface ms)):(Op.equal t .nilIface .nilIface).run P w=.ok true w:=zhR 9999 t ms h
theorem zi0 {P:Program} {w:World} (d:Nat) (t:TypeId) (ms:Array (String×TypeId)) (h:P.underlying t=some (.interface ms)) (he:ms.isEmpty=true):(Op.eqGuardIn (d+1) t .nilIface .nilIface).run P w=.ok false w:=by
 simp [Op.eqGuardIn,run_underlying h,he]
theorem zkt {P:Program} {w:World} (op:BinOp) (t:TypeId) (xo yo:Operand) (ms:Array (String×TypeId)) (h:P.underlying t=some (.interface ms)) (he:ms.isEmpty=true):(eqGuard op t xo yo .nilIface .nilIface).run P w=.ok () w:=by
 have h1:(Op.eqGuardIn Op.maxDepth t .nilIface .nilIface).run P w=.ok false w:=zi0 9999 t ms h he
 unfold eqGuard
 cases op<;>first | rfl | skip
 all_goals
  dsimp only
  split
  ·rfl
  ·split
   ·rfl
   ·simp [h1]
def zqd (P:Program) (op:BinOp) (t:TypeId) (x y:V):Option V :=
 match x,y with
 | .int k a,.int k' b=>if k=k' then zej op k a b else none
 | .str a,.str b=>strV op a b
 | .bool a,.bool b=>if zpK P t=true then (match op with | .eql=>some (.bool (a == b)) | .neq=>some (.bool (!(a == b))) | _=>none) else none
 | .nils,.nils=>if (eszT P t).isSome then (match op with | .eql=>some (.bool true) | .neq=>some (.bool false) | _=>none) else none
 | .iface _ _,.niface=>if zgD P t=true then (match op with | .eql=>some (.bool false) | .neq=>some (.bool true) | _=>none) else none
 | .niface,.niface=>if zrU P t=true then (match op with | .eql=>some (.bool true) | .neq=>some (.bool false) | _=>none) else none
 | .agg xs,.agg ys=>if valT P t=true then (match op,eqVal xs ys with | .eql,some r=>some (.bool r) | .neq,some r=>some (.bool (!r)) | _,_=>none) else none
 | _,_=>none
theorem zu8 {P:Program} {w:World} {op:BinOp} {k:IntKind} {a b:Int} {v:V} {t:TypeId} (hs:zej op k a b=some v):∃ xv,(binOp op t (.int k a) (.int k b)).run P w=.ok xv w∧∀ A,RepV w A v xv:=by
 unfold zej at hs
 split at hs
 ·cases hs;exact ⟨_,by simp [binOp,Op.intArith],fun _=>.int _ _⟩
 ·cases hs;exact ⟨_,by simp [binOp,Op.intArith],fun _=>.int _ _⟩
 ·cases hs;exact ⟨_,by simp [binOp,Op.intArith],fun _=>.int _ _⟩
 ·split at hs
  ·cases hs
  ·rename_i h0;cases hs;exact ⟨_,by simp [binOp,Op.intDiv,h0],fun _=>.int _ _⟩
 ·split at hs
  ·cases hs
  ·rename_i h0;cases hs;exact ⟨_,by simp [binOp,Op.intDiv,h0],fun _=>.int _ _⟩
 ·cases hs;exact ⟨.bool (a == b),by simp [binOp,Op.intCmp],fun _=>.bool _⟩
 ·cases hs;exact ⟨.bool (a != b),by simp [binOp,Op.intCmp],fun _=>.bool _⟩
 ·cases hs;exact ⟨_,by simp [binOp,Op.intCmp],fun _=>.bool _⟩
 ·cases hs;exact ⟨_,by simp [binOp,Op.intCmp],fun _=>.bool _⟩
 ·cases hs;exact ⟨_,by simp [binOp,Op.intCmp],fun _=>.bool _⟩
 ·cases hs;exact ⟨_,by simp [binOp,Op.intCmp],fun _=>.bool _⟩
 ·cases hs
theorem strV_ok {P:Program} {w:World} {op:BinOp} {a b:List UInt8} {v:V} {t:TypeId} (hs:strV op a b=some v):∃ xv,(binOp op t (.string (Lx.bs a)) (.string (Lx.bs b))).run P w=.ok xv w∧∀ A,RepV w A v xv:=by
 unfold strV at hs
 split at hs
 ·split at hs
  ·rename_i h0
   cases hs
   refine ⟨.string (Lx.bs (a++b)), ?_,fun _=>.str _⟩
   have h1:=run_string_add_sum (P:=P) (w:=w) (Lx.bs a) (Lx.bs b) (by rw [Lx.zaN,Lx.zaN];omega)
   rw [Lx.zlb] at h1
   simpa [binOp] using h1
  ·cases hs
 all_goals first
  | (cases hs;done)
  | (cases hs;exact ⟨_,by simp [binOp,Op.stringOp,Lx.bs_toList],fun _=>.bool _⟩)
theorem zgv {P:Program} {w:World} (d:Nat) (t T:TypeId) (v:Value) (ms:Array (String×TypeId)) (h:P.underlying t=some (.interface ms)):(Op.equalIn (d+1) t (.iface T v) .nilIface).run P w=.ok false w:=by
 simp [Op.equalIn,run_underlying h]
theorem zeA {P:Program} {w:World} (t T:TypeId) (v:Value) (ms:Array (String×TypeId)) (h:P.underlying t=some (.interface ms)):(Op.equal t (.iface T v) .nilIface).run P w=.ok false w:=zgv 9999 t T v ms h
theorem zsQ {P:Program} {w:World} {A:Nat→Nat→Prop} {st:Nat→Ent} {H:Nat→Value} {op:BinOp} {t:TypeId} {x y v:V} {xv yv:Value} {xo yo:Operand} (hx:RepT w A st H x xv) (hy:RepT w A st H y yv) (hs:zqd P op t x y=some v) :
  ∃ zv,(do eqGuard op t xo yo xv yv;binOp op t xv yv:Sem Value).run P w=.ok zv w∧RepT w A st H v zv:=by
 have hg:∀ (u v:Value),(∀ a b,¬ (u=.agg a∧v=.agg b))→(¬ (u=.nilIface∧v=.nilIface))→(eqGuard op t xo yo u v).run P w=.ok () w:=by
  intro u v h1 h2
  unfold eqGuard
  cases op<;>first | rfl | (cases u<;>cases v<;>first | rfl | exact absurd ⟨rfl,rfl⟩ (h1 _ _) | exact absurd ⟨rfl,rfl⟩ h2)
 unfold zqd at hs
 split at hs
 ·rename_i k a k' b
  cases hx.data rfl
  cases hy.data rfl
  split at hs
  ·rename_i hk
   subst hk
   obtain ⟨zv,h1,h2⟩:=zu8 (P:=P) (w:=w) (t:=t) hs
   exact ⟨zv,by simp [hg,h1],(h2 A).toT⟩
  ·cases hs
 ·cases hx.data rfl
  cases hy.data rfl
  obtain ⟨zv,h1,h2⟩:=strV_ok (P:=P) (w:=w) (t:=t) hs
  exact ⟨zv,by simp [hg,h1],(h2 A).toT⟩
 ·rename_i a b
  cases hx.data rfl
  cases hy.data rfl
  split at hs
  ·rename_i hb
   have hu:P.underlying t=some .bool:=by
    unfold zpK at hb
    split at hb
    ·assumption
    ·cases hb
   have he:=run_equal_bool (P:=P) w t a b hu
   split at hs<;>cases hs
   ·exact ⟨.bool (a == b),by simp [hg,binOp,he],Or.inr (.bool _)⟩
   ·exact ⟨.bool (!(a == b)),by simp [hg,binOp,he],Or.inr (.bool _)⟩
  ·cases hs
 ·cases hx.data rfl
  cases hy.data rfl
  split at hs
  ·rename_i hz
   obtain ⟨z,hz⟩:=Option.isSome_iff_exists.1 hz
   obtain ⟨e,i,hu,_,_⟩:=ziA hz
   have he:=run_equal_slice_nil (P:=P) w t e none 0 0 hu
   split at hs<;>cases hs
   ·exact ⟨.bool true,by simp [hg,binOp,he],Or.inr (.bool _)⟩
   ·exact ⟨.bool false,by simp [hg,binOp,he],Or.inr (.bool _)⟩
  ·cases hs
 ·cases hx.data rfl
  cases hy.data rfl
  split at hs
  ·rename_i hz
   have hu:∃ ms,P.underlying t=some (.interface ms):=by
    unfold zgD at hz
    split at hz
    ·exact ⟨_,by assumption⟩
    ·cases hz
   obtain ⟨ms,hu⟩:=hu
   split at hs<;>cases hs
   ·exact ⟨.bool false,by simp [hg,binOp,zeA t _ _ ms hu],Or.inr (.bool _)⟩
   ·exact ⟨.bool true,by simp [hg,binOp,zeA t _ _ ms hu],Or.inr (.bool _)⟩
  ·cases hs
 ·cases hx.data rfl
  cases hy.data rfl
  split at hs
  ·rename_i hz
   obtain ⟨ms,hu,he⟩:=zl2 hz
   have hgg:=fun op=>zkt (P:=P) (w:=w) op t xo yo ms hu he
   split at hs<;>cases hs
   ·exact ⟨.bool true,by simp [hgg,binOp,zfC t ms hu],Or.inr (.bool _)⟩
   ·exact ⟨.bool false,by simp [hgg,binOp,zfC t ms hu],Or.inr (.bool _)⟩
  ·cases hs
 ·rename_i xs ys
  split at hs
  ·rename_i hv
   obtain ⟨r,hr⟩:∃ r,eqVal xs ys=some r:=by
    cases hq:eqVal xs ys with
    | none=>rw [hq] at hs;cases op<;>cases hs
    | some r=>exact ⟨r,rfl⟩
   rw [hr] at hs
   obtain ⟨a,b,s,a',b',s',rfl,rfl,hrr⟩:=zr1 hr
   obtain rfl:=zs0 (hx.data rfl)
   obtain rfl:=zs0 (hy.data rfl)
   have he:=val_eq (w:=w) hv a b a' b' (Lx.bs s) (Lx.bs s')
   rw [Lx.bs_toList,Lx.bs_toList,← hrr] at he
   have hgg:∀ op,(eqGuard op t xo yo (.agg #[.int .i64 a,.int .i64 b,.string (Lx.bs s)]) (.agg #[.int .i64 a',.int .i64 b',.string (Lx.bs s')])).run P w=.ok () w:=fun op=>run_eqGuard_agg w op t xo yo _ _ (zrn hv)
   cases op<;>first | (cases hs;done) | skip
   ·cases hs
    exact ⟨.bool r,by rw [Sem.run_bind,hgg,Result.andThen_ok,run_eql_struct,he];rfl,Or.inr (.bool _)⟩
   ·cases hs
    exact ⟨.bool (!r),by rw [Sem.run_bind,hgg,Result.andThen_ok,run_neq_struct,he];rfl,Or.inr (.bool _)⟩
  ·cases hs
 ·cases hs
def zde (op:UnOp) (x:V):Option V :=
 match op,x with
 | .not,.bool b=>some (.bool (!b))
 | .neg,.int k n=>some (.int k (k.wrap (0 - n)))
 | _,_=>none
theorem semUn_ok {P:Program} {w:World} {A:Nat→Nat→Prop} {st:Nat→Ent} {H:Nat→Value} {op:UnOp} {x v:V} {xv:Value} (hx:RepT w A st H x xv) (hs:zde op x=some v):∃ zv,(Op.unary op xv).run P w=.ok zv w∧RepT w A st H v zv:=by
 unfold zde at hs
 split at hs
 ·cases hs;cases hx.data rfl;exact ⟨_,rfl,Or.inr (.bool _)⟩
 ·cases hs;cases hx.data rfl;exact ⟨_,by simp [Op.unary,Op.intArith],Or.inr (.int _ _)⟩
 ·cases hs
def zmE (P:Program) (s d:TypeId) (x:V):Option V :=
 match P.underlying s,P.underlying d,x with
 | some _,some (.int k),.int _ n=>some (.int k (k.wrap n))
 | some _,some .string,.str s=>some (.str s)
 | _,_,_=>none
theorem zlF {P:Program} {w:World} {A:Nat→Nat→Prop} {st:Nat→Ent} {H:Nat→Value} {s d:TypeId} {x v:V} {xv:Value} (hx:RepT w A st H x xv) (hs:zmE P s d x=some v):∃ zv,(convert s d xv).run P w=.ok zv w∧RepT w A st H v zv:=by
 unfold zmE at hs
 split at hs
 ·rename_i u k k' n h1 h2
  cases hs
  cases hx.data rfl
  exact ⟨_,by simp [convert,run_underlying h1,run_underlying h2,Conv.intToInt],Or.inr (.int _ _)⟩
 ·rename_i u s' h1 h2
  cases hs
  cases hx.data rfl
  exact ⟨_,by simp [convert,run_underlying h1,run_underlying h2],Or.inr (.str _)⟩
 ·cases hs
def zmD (P:Program) (t:TypeId) (x:V):Option V:=if P.concrete t=true∧x.data=true then some (.iface t x) else none
theorem zo3 {P:Program} {w:World} {A:Nat→Nat→Prop} {st:Nat→Ent} {H:Nat→Value} {t:TypeId} {x v:V} {xv:Value} (hx:RepT w A st H x xv) (hs:zmD P t x=some v):∃ zv,(Instr.makeInterface t xv).run P w=.ok zv w∧RepT w A st H v zv:=by
 unfold zmD at hs
 split at hs
 ·rename_i h
  cases hs
  exact ⟨_,run_makeInterface w t xv h.1,Or.inr (.iface t x xv (hx.data h.2))⟩
 ·cases hs
def zqc (x:V) (i:Nat):Option V:=match x with | .tup vs=>vs[i]? | _=>none
theorem zsO {P:Program} {w:World} {A:Nat→Nat→Prop} {st:Nat→Ent} {H:Nat→Value} {i:Nat} {x v:V} {xv:Value} (hx:RepT w A st H x xv) (hs:zqc x i=some v):∃ zv,(Instr.extract xv i).run P w=.ok zv w∧RepT w A st H v zv:=by
 unfold zqc at hs
 split at hs
 ·cases hx.data rfl with
  | tup cs vs h =>
   obtain ⟨u,h1,h2⟩:=zjR h _ _ hs
   exact ⟨u,by simp [Instr.extract,h1],h2.toT⟩
 ·cases hs
def zlE (P:Program) (t:TypeId) (x:V):Option V :=
 match x with
 | .str s=>if strT P t=true then some (.int .i64 (s.length:Int)) else none
 | .list xs=>if (eszT P t).isSome then some (.int .i64 (xs.length:Int)) else none
 | .nils=>if (eszT P t).isSome then some (.int .i64 0) else none
 | _=>none
theorem znO {P:Program} {w:World} {A:Nat→Nat→Prop} {st:Nat→Ent} {H:Nat→Value} {t ty:TypeId} {x v:V} {xv:Value} (hx:RepT w A st H x xv) (hs:zlE P t x=some v):∃ zv,(Builtin.len_ #[t] ty #[xv]).run P w=.ok zv w∧RepT w A st H v zv:=by
 have hz:(eszT P t).isSome=true→∃ e,P.underlying t=some (.slice e):=fun h=>by
  obtain ⟨z,h⟩:=Option.isSome_iff_exists.1 h
  obtain ⟨e,_,h,_⟩:=ziA h
  exact ⟨e,h⟩
 unfold zlE at hs
 split at hs
 ·split at hs
  ·rename_i ht
   cases hs;cases hx.data rfl
   exact ⟨_,by simp [Builtin.len_,run_underlying (zkg ht),goInt,Lx.zaN],Or.inr (.int _ _)⟩
  ·cases hs
 ·split at hs
  ·rename_i ht
   obtain ⟨e,hu⟩:=hz ht
   cases hs
   cases hx.data rfl with
   | nil a c=>exact ⟨_,by simp [Builtin.len_,run_underlying hu,goInt],Or.inr (.int _ _)⟩
   | list _ z b off c vs _ _ _ _ _=>exact ⟨_,by simp [Builtin.len_,run_underlying hu,goInt],Or.inr (.int _ _)⟩
  ·cases hs
 ·split at hs
  ·rename_i ht
   obtain ⟨e,hu⟩:=hz ht
   cases hs
   cases hx.data rfl
   exact ⟨_,by simp [Builtin.len_,run_underlying hu,goInt],Or.inr (.int _ _)⟩
  ·cases hs
 ·cases hs
def zjz (b:Builtin) (x y:V):Option V :=
 match b,x,y with
 | .min,.int k a,.int _ c=>some (.int k (if c < a then c else a))
 | .max,.int k a,.int _ c=>some (.int k (if c > a then c else a))
 | _,_,_=>none
theorem zqb {P:Program} {w:World} {A:Nat→Nat→Prop} {st:Nat→Ent} {H:Nat→Value} {b:Builtin} {ts:Array TypeId} {ty:TypeId} {cs:Array Bool} {x y v:V} {xv yv:Value} (hx:RepT w A st H x xv) (hy:RepT w A st H y yv) (hs:zjz b x y=some v) :
  ∃ zv,(builtin b ts ty cs #[xv,yv]).run P w=.ok (.value zv) w∧RepT w A st H v zv:=by
 unfold zjz at hs
 split at hs
 ·cases hs;cases hx.data rfl;cases hy.data rfl
  exact ⟨_,by simp [builtin,Builtin.min_,Builtin.min2],Or.inr (.int _ _)⟩
 ·cases hs;cases hx.data rfl;cases hy.data rfl
  exact ⟨_,by simp [builtin,Builtin.max_,Builtin.max2],Or.inr (.int _ _)⟩
 ·cases hs
end Vm
