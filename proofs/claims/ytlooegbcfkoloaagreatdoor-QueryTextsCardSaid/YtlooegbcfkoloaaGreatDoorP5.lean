/- Part of the proof: see the last text. -/
import Derived.Test.YtlooegbcfkoloaaGreatDoorP0
set_option maxRecDepth 20000
set_option linter.unusedVariables false
set_option linter.unusedSimpArgs false
noncomputable section
namespace Go.Proofs.YtlooegbcfkoloaaGreatDoor
section
open Go.RowKit
theorem zb4(c:UInt8)(w:World):
  Calls Tryz.prog 72 #[.int .u8 c.toNat] w fun e w'=>e=.returned (.bool (Lx.dig c))∧w=w':=by
 go_enter Tryz.func72,Tryz.ntmps72;go_wp2;all_goals (go_ret;refine⟨zsA ?_,rfl⟩;rw[Bool.eq_iff_iff];simp[Lx.dig];omega)
theorem zdw(c:UInt8)(w:World):
  Calls Tryz.prog 74 #[.int .u8 c.toNat] w fun e w'=>e=.returned (.bool (Lx.let_ c))∧w=w':=by
 go_enter Tryz.func74,Tryz.ntmps74;go_wp2;all_goals (go_ret;refine⟨zsA ?_,rfl⟩;rw[Bool.eq_iff_iff];simp[Lx.let_];omega)
theorem zuO(s:ByteArray)(k0:Nat)(w:World)(hs:s.size≤9223372036854775000)(hk:k0≤s.size):
    Calls Tryz.prog 30 #[.string s,.int .i64 k0] w fun e w'=>e=.returned (.int .i64 ((k0+Lx.skipN false (Lx.suf s k0):Nat):Int))∧w=w':=by
  generalize hR:k0+Lx.skipN false (Lx.suf s k0)=R;have HR:=qa58 hR;clear hR;go_enter Tryz.func30,Tryz.ntmps30;go_wp2;go_loop [1] (fun i=>∃k:Nat,k≤s.size∧i=.int .i64 k∧Hid (k+Lx.skipN false (Lx.suf s k)=R)) (fun i=>s.size-(intOf i).toNat)
  case atStart=>exact⟨k0,hk,rfl,HR⟩
  case round=>
    obtain⟨k,hk,rfl,HK⟩:=hrel;by_cases hlt:k<s.size
    · go_wp2;all_goals (try simp only[bne_iff_ne,bne_eq_false_iff_eq,beq_iff_eq,qa19,ne_eq]at *)
      all_goals first
        | (go_round
           case rel=>exact⟨k+1,by omega,by go_num,qa58 (by rw[←HK.out,Lx.zpO hlt (by omega)])⟩
           case measure=>simp[intOf];omega)
        | (go_ret
           exact⟨zow (by rw[←HK.out,Lx.zoc hlt (by omega) (by omega) (by omega) (by omega) (by intro h1 h2;omega)]),rfl⟩)
        |skip
      have HK1:Hid (k+Lx.skipN true (Lx.suf s k)=R):=qa58 (by rw[←HK.out,Lx.zuN (by omega) (by omega) (by omega)]);go_loop [1] (fun i=>∃j:Nat,k≤j∧j≤s.size∧i=.int .i64 j∧Hid (j+Lx.skipN true (Lx.suf s j)=R)) (fun i=>s.size-(intOf i).toNat)
      case atStart=>exact⟨k,by omega,by omega,rfl,HK1⟩
      case round=>
        obtain⟨j,hkj,hj,rfl,HJ⟩:=hrel;by_cases hltj:j<s.size
        · go_wp2;all_goals (try simp only[bne_iff_ne,bne_eq_false_iff_eq,beq_iff_eq,qa19,ne_eq]at *)
          · go_round
            case rel=>exact⟨j+1,by omega,by omega,by go_num,qa58 (by rw[←HJ.out,Lx.zxv hltj (by omega)])⟩
            case measure=>simp[intOf];omega
          · have hne:k≠j:=by
              intro e;subst e;omega
            go_round
            case rel=>exact⟨j,by omega,rfl,qa58 (by rw[←HJ.out,Lx.zuM hltj (by omega)])⟩
            case measure=>simp[intOf];omega
        · go_wp2;go_round
          case rel=>exact⟨j,by omega,rfl,qa58 (by rw[←HJ.out,Lx.zkb (by omega),Lx.zkb (by omega)])⟩
          case measure=>simp[intOf];omega
    · go_wp2;go_ret;exact⟨zow (by rw[←HK.out,Lx.zkb (by omega)]),rfl⟩
end
section
open Go.RowKit
attribute [local simp] Lx.zaD Lx.zeh
theorem ztS(s:ByteArray)(k0:Nat)(w:World)(hs:s.size≤1000000000)(hk:k0≤s.size):
  Calls Tryz.prog 73 #[.string s,.int .i64 k0,.bool true] w fun e w'=>e=.returned (.int .i64 ((k0+Lx.many Lx.dig (Lx.suf s k0):Nat):Int))∧w=w':=by
 generalize hR:k0+Lx.many Lx.dig (Lx.suf s k0)=R;have HR:=qa58 hR;clear hR;go_enter Tryz.func73,Tryz.ntmps73;go_wp2;go_loop [1] (fun i=>∃k:Nat,k≤s.size∧i=.int .i64 k∧Hid (k+Lx.many Lx.dig (Lx.suf s k)=R)) (fun i=>s.size-(intOf i).toNat)
 case atStart=>exact⟨k0,hk,rfl,HR⟩
 case round=>
  obtain⟨k,hk,rfl,HK⟩:=hrel;by_cases hlt:k<s.size
  ·cases hp:Lx.dig s[k]
   ·have HP:=qa58 hp;clear hp;go_wp2_with fail;refine(zb4 _ _).mono ?_;rintro e w' ⟨rfl,rfl⟩;rw[HP.out];go_wp2;go_ret;exact⟨zow (by rw[←HK.out,Lx.zoQ hlt HP.out]),rfl⟩
   ·have HP:=qa58 hp;clear hp;go_wp2_with fail;refine(zb4 _ _).mono ?_;rintro e w' ⟨rfl,rfl⟩;rw[HP.out];go_wp2;go_round
    case rel=>exact⟨k+1,by omega,by go_num,qa58 (by rw[←HK.out,Lx.zry hlt HP.out])⟩
    case measure=>simp[intOf];omega
  ·go_wp2;go_ret;exact⟨zow (by rw[←HK.out,Lx.zrz (by omega)]),rfl⟩
theorem ztR(s:ByteArray)(k0:Nat)(w:World)(hs:s.size≤1000000000)(hk:k0≤s.size):
  Calls Tryz.prog 73 #[.string s,.int .i64 k0,.bool false] w fun e w'=>e=.returned (.int .i64 ((k0+Lx.many Lx.nam (Lx.suf s k0):Nat):Int))∧w=w':=by
 generalize hR:k0+Lx.many Lx.nam (Lx.suf s k0)=R;have HR:=qa58 hR;clear hR;go_enter Tryz.func73,Tryz.ntmps73;go_wp2;go_loop [1] (fun i=>∃k:Nat,k≤s.size∧i=.int .i64 k∧Hid (k+Lx.many Lx.nam (Lx.suf s k)=R)) (fun i=>s.size-(intOf i).toNat)
 case atStart=>exact⟨k0,hk,rfl,HR⟩
 case round=>
  obtain⟨k,hk,rfl,HK⟩:=hrel;by_cases hlt:k<s.size
  ·cases hp:Lx.dig s[k]
   ·have HP:=qa58 hp;clear hp;go_wp2_with fail;refine(zb4 _ _).mono ?_;rintro e w' ⟨rfl,rfl⟩;rw[HP.out];go_wp2_with fail;refine(zdw _ _).mono ?_;rintro e w' ⟨rfl,rfl⟩;cases hq:Lx.let_ s[k]
    ·have HN:=qa58 (show Lx.nam s[k]=false from by rw [Lx.nam,hq,HP.out];rfl);clear hq;go_wp2;go_ret;exact⟨zow (by rw[←HK.out,Lx.zoQ hlt HN.out]),rfl⟩
    ·have HN:=qa58 (show Lx.nam s[k]=true from by rw [Lx.nam,hq];rfl);clear hq;go_wp2;go_round
     case rel=>exact⟨k+1,by omega,by go_num,qa58 (by rw[←HK.out,Lx.zry hlt HN.out])⟩
     case measure=>simp[intOf];omega
   ·have HN:=qa58 (show Lx.nam s[k]=true from by rw [Lx.nam,hp,Bool.or_true]);have HP:=qa58 hp;clear hp;go_wp2_with fail;refine(zb4 _ _).mono ?_;rintro e w' ⟨rfl,rfl⟩;rw[HP.out];go_wp2;go_round
    case rel=>exact⟨k+1,by omega,by go_num,qa58 (by rw[←HK.out,Lx.zry hlt HN.out])⟩
    case measure=>simp[intOf];omega
  ·go_wp2;go_ret;exact⟨zow (by rw[←HK.out,Lx.zrz (by omega)]),rfl⟩
def zp7(o:Option Nat):Ending:=.returned (.int .i64 (match o with|some n=>(n:Int)|none=>-1))
theorem zm4(s:ByteArray)(k0:Nat)(w:World)(hs:s.size≤1000000000)(hk0:k0<s.size):
  Calls Tryz.prog 71 #[.string s,.int .i64 k0,.bool true] w fun e w'=>e=zp7 (Lx.shift (Lx.qEnd (Lx.suf s (k0+1))) (k0+1))∧w=w':=by
 generalize hR:Lx.shift (Lx.qEnd (Lx.suf s (k0+1))) (k0+1)=R;have HR:=qa58 hR;clear hR;go_enter Tryz.func71,Tryz.ntmps71;go_wp2;go_loop [7] (fun i=>∃k:Nat,k≤s.size∧i=.int .i64 k∧Hid (Lx.shift (Lx.qEnd (Lx.suf s k)) k=R)) (fun i=>s.size-(intOf i).toNat)
 case atStart=>exact⟨k0+1,by omega,by go_num,HR⟩
 case round=>
  obtain⟨k,hk,rfl,HK⟩:=hrel;by_cases hlt:k<s.size
  ·by_cases h39:s[k].toNat=39
   ·have d1:((s[k].toNat:Int) != 39)=false:=by simp;omega
    by_cases hlt2:k+1<s.size
    ·have d2:decide ((k:Int)+1 < (s.size:Int))=true:=qa49 (by omega);by_cases h392:s[k+1].toNat=39
     ·have d3:((s[k+1].toNat:Int) == 39)=true:=by simp;omega
      have HK':=qa58 (Eq.trans (Lx.q_pair hlt2 h39 h392).symm HK.out);have H39:=qa58 h39;have H392:=qa58 h392;clear h39 h392;go_wp2;go_round
      case rel=>exact⟨k+2,by omega,by go_num,HK'⟩
      case measure=>simp[intOf];omega
     ·have d3:((s[k+1].toNat:Int) == 39)=false:=by simp;omega
      have hf:=Lx.zu4 hlt h39 (fun _=>h392);rw[HK.out]at hf;subst hf;have H39:=qa58 h39;clear h39 h392;go_wp2;go_ret;exact⟨rfl,rfl⟩
    ·have d2:decide ((k:Int)+1 < (s.size:Int))=false:=qa45 (by omega);have hf:=Lx.zu4 hlt h39 (fun h=>absurd h hlt2);rw[HK.out]at hf;subst hf;have H39:=qa58 h39;clear h39;go_wp2;go_ret;exact⟨rfl,rfl⟩
   ·have d1:((s[k].toNat:Int) != 39)=true:=by simp;omega
    have HK':=qa58 (Eq.trans (Lx.q_go hlt h39).symm HK.out);clear h39;go_wp2;go_round
    case rel=>exact⟨k+1,by omega,by go_num,HK'⟩
    case measure=>simp[intOf];omega
  ·have hf:R=none:=by rw [← HK.out,Lx.q_end (by omega)]
   subst hf;go_wp2;go_ret;exact⟨rfl,rfl⟩
theorem zlL(s:ByteArray)(k0:Nat)(w:World)(hs:s.size≤1000000000)(hk0:k0<s.size):
  Calls Tryz.prog 71 #[.string s,.int .i64 k0,.bool false] w fun e w'=>e=zp7 (Lx.shift (Lx.bEnd (Lx.suf s (k0+1))) (k0+1))∧w=w':=by
 generalize hR:Lx.shift (Lx.bEnd (Lx.suf s (k0+1))) (k0+1)=R;have HR:=qa58 hR;clear hR;go_enter Tryz.func71,Tryz.ntmps71;go_wp2;go_loop [7] (fun i=>∃k:Nat,k≤s.size∧i=.int .i64 k∧Hid (Lx.shift (Lx.bEnd (Lx.suf s k)) k=R)) (fun i=>s.size-(intOf i).toNat)
 case atStart=>exact⟨k0+1,by omega,by go_num,HR⟩
 case round=>
  obtain⟨k,hk,rfl,HK⟩:=hrel;by_cases hlt:k<s.size
  ·by_cases h39:s[k].toNat=39
   ·have d1:((s[k].toNat:Int) != 39)=false:=by simp;omega
    have hf:=Lx.b_stop hlt h39;rw[HK.out]at hf;subst hf;have H39:=qa58 h39;clear h39;go_wp2;go_ret;exact⟨rfl,rfl⟩
   ·have d1:((s[k].toNat:Int) != 39)=true:=by simp;omega
    have HK':=qa58 (Eq.trans (Lx.b_go hlt h39).symm HK.out);clear h39;go_wp2;go_round
    case rel=>exact⟨k+1,by omega,by go_num,HK'⟩
    case measure=>simp[intOf];omega
  ·have hf:R=none:=by rw [← HK.out,Lx.b_end (by omega)]
   subst hf;go_wp2;go_ret;exact⟨rfl,rfl⟩
def zqd:Array Value:=(Lx.marksL.map fun m=>Value.string (Lx.bs m)).toArray
theorem zyu:∀k:Fin 17,∃m,Lx.marksL[k.val]?=some m∧m.length≤2:=by
 intro k;have h:∀m∈Lx.marksL,m.length≤2:=by decide
 have hk:k.val<Lx.marksL.length:=k.isLt;exact⟨_,qa11 hk,h _ (qa36 hk)⟩
theorem zyv{k:Nat}{m:List UInt8}(h:Lx.marksL[k]?=some m):zqd[k]?=some (.string (Lx.bs m)):=by
 unfold zqd;rw[List.getElem?_toArray,qa24,h];rfl
def pre(l m:List UInt8):Bool:=l.take m.length==m
set_option maxHeartbeats 1000000 in
theorem zvn(s:ByteArray)(k0:Nat)(w:World)(hs:s.size≤1000000000)(hk0:k0<s.size):
  Calls Tryz.prog 78 #[.string s,.int .i64 k0] w fun e w'=>e=.returned (.string (Lx.bs (Lx.zwu (Lx.suf s k0))))∧Below w.heap.size w w':=by
 generalize hR:Lx.zwu (Lx.suf s k0)=R;have HR:Hid (((Lx.marksL.drop 0).find? (pre (Lx.suf s k0))).getD []=R):=qa58 hR;clear hR;have hw0:(w.alloc (.cells zqd 9)).heap[w.heap.size]?=some (.cells zqd 9 (0,0)):=heap_alloc_new w _;have hb0:Below w.heap.size w (w.alloc (.cells zqd 9)):=by exact zw
 go_enter Tryz.func78,Tryz.ntmps78;go_wp2;go_loopw [6] (fun i wr=>∃k:Nat,k≤17∧i=.int .i64 k∧wr.heap[w.heap.size]?=some (.cells zqd 9 (0,0))∧Below w.heap.size w wr∧Hid (((Lx.marksL.drop k).find? (pre (Lx.suf s k0))).getD []=R)) (fun i _=>17-(intOf i).toNat)
 case atStart=>exact⟨0,by omega,rfl,hw0,hb0,HR⟩
 case round=>
  obtain⟨k,hk,rfl,hh,hb,HK⟩:=hrel;clear hw0 hb0;by_cases hlt:k<17
  ·obtain⟨m,hm,hml⟩:=zyu ⟨k,hlt⟩;have hm:Lx.marksL[k]?=some m:=hm;have hc:=zdA hh (zyv hm);have HH:=qa58 hh;have HM:=qa58 hm;clear hh hm;have e0:((k0:Int)+(m.length:Int)).toNat=k0+m.length:=by omega
   have i0:(0:Int)≤(k:Int):=by omega
   have i1:(k:Int)<17:=by omega
   have i2:((k:Int)).toNat=k:=by omega
   by_cases hfit:m.length≤s.size-k0
   ·have d1:decide ((m.length:Int)≤(s.size:Int) - (k0:Int))=true:=qa49 (by omega);have g0:(k0:Int)≤(k0:Int)+(m.length:Int):=by omega
    have g1:(k0:Int)+(m.length:Int)≤(s.size:Int):=by omega
    have hq:((s.extract k0 (k0+m.length)).toList==(Lx.bs m).toList)=pre (Lx.suf s k0) m:=by
     rw[Lx.bs_toList,Lx.zaX,Lx.zcN,qa14];rfl
    cases hp:pre (Lx.suf s k0) m with
    |true=>
     rw[hp]at hq;have hf:=Lx.find_hit HM.out hp;have hf2:m=R:=by rw[←HK.out,hf];rfl
     subst hf2;clear hf hp;go_wp2;go_quiet (fail);go_wp2;go_ret;exact⟨rfl,by exact zw⟩
    |false=>
     rw[hp]at hq;have hf:=Lx.ztc HM.out hp;have HK':Hid (((Lx.marksL.drop (k+1)).find? (pre (Lx.suf s k0))).getD []=R):=by unfold Hid;rw[←hf];exact HK.out
     clear hf hp;go_wp2;go_quiet (fail);go_wp2;go_roundw
     case rel=>exact⟨k+1,by omega,by go_num,HH.out,by exact zw,HK'⟩
     case measure=>simp[intOf];omega
   ·have d1:decide ((m.length:Int)≤(s.size:Int) - (k0:Int))=false:=qa45 (by omega);have hp:pre (Lx.suf s k0) m=false:=by
     rw[←Bool.not_eq_true];intro h;unfold pre at h;have h2:=congrArg List.length (eq_of_beq h);rw[qa38,Lx.zaj]at h2;omega
    have hf:=Lx.ztc HM.out hp;have HK':Hid (((Lx.marksL.drop (k+1)).find? (pre (Lx.suf s k0))).getD []=R):=by unfold Hid;rw[←hf];exact HK.out
    clear hf hp;go_wp2;go_quiet (fail);go_wp2;go_roundw
    case rel=>exact⟨k+1,by omega,by go_num,HH.out,by exact zw,HK'⟩
    case measure=>simp[intOf];omega
  ·obtain rfl:k=17:=by omega
   have hf:R=[]:=by rw[←HK.out];rfl
   subst hf;go_wp2;go_ret;exact⟨rfl,hb⟩
end
section
open Go.RowKit
attribute [local simp] Lx.zaD Lx.zeh
theorem znM(wr:World)(c:UInt8):(convert 123 9 (.slice (some ⟨wr.heap.size,0,none⟩) 1 1)).run Tryz.prog (wr.alloc (.cells #[.int .u8 (c.toNat:Int)] 5))=.ok (.string (Lx.bs [c])) (wr.alloc (.cells #[.int .u8 (c.toNat:Int)] 5)):=
 zrV (l:=[c]) Tryz.underlying123 Tryz.underlying5 Tryz.underlying9 (heap_alloc_new wr _) (fun j hj=>by
  have:j=0:=by simp at hj;omega
  subst this;rfl)
theorem zcz(s:ByteArray)(w:World)(hs:s.size≤1000000000):
  Calls Tryz.prog 77 #[.string s] w fun e w'=>e=.returned (.string (Lx.bs (Lx.fold (Lx.ls s))))∧Below w.heap.size w w':=by
 go_enter Tryz.func77,Tryz.ntmps77;go_wp2;go_loopw [3,4] (fun v i wr=>∃(k:Nat)(acc:List UInt8),k≤s.size∧acc.length=k∧i=.int .i64 k∧v=.string (Lx.bs acc)∧Hid (acc=Lx.fold ((Lx.ls s).take k))∧Below w.heap.size w wr) (fun _ i _=>s.size-(intOf i).toNat)
 case atStart=>exact⟨0,[],by omega,rfl,rfl,rfl,qa58 rfl,by exact zw⟩
 case round=>
  obtain⟨k,acc,hk,hal,rfl,rfl,HA,hb⟩:=hrel;have hal1:acc.length≤k:=by omega
  have HL:=qa58 hal;clear hal;by_cases hlt:k<s.size
  ·have HA':=qa58 (show acc++[Lx.lo s[k]]=Lx.fold ((Lx.ls s).take (k+1)) from by rw [Lx.zzl hlt,HA.out]);by_cases hu:65≤s[k].toNat∧s[k].toNat≤90
   ·obtain⟨hu1,hu2⟩:=hu;have hconv:=znM wr (Lx.lo s[k]);rw[Lx.lo_up hu1 hu2]at hconv;have d1:decide ((65:Int)≤(s[k].toNat:Int))=true:=by simp;omega
    have d2:decide ((s[k].toNat:Int)≤90)=true:=by simp;omega
    go_wp2;go_roundw
    case rel=>exact⟨k+1,acc++[Lx.lo s[k]],by omega,by simp[HL.out],by go_num,rfl,HA',by exact zw⟩
    case measure=>simp[intOf];omega
   ·have hu3:Lx.lo s[k]=s[k]:=Lx.lo_id (by omega);rw[hu3]at HA';have hconv:=znM wr s[k];clear hu3;by_cases hg:s[k].toNat<65
    ·have d1:decide ((65:Int)≤(s[k].toNat:Int))=false:=by simp;omega
     clear hu;go_wp2;go_roundw
     case rel=>exact⟨k+1,acc++[s[k]],by omega,by simp[HL.out],by go_num,rfl,HA',by exact zw⟩
     case measure=>simp[intOf];omega
    ·have d1:decide ((65:Int)≤(s[k].toNat:Int))=true:=by simp;omega
     have d2:decide ((s[k].toNat:Int)≤90)=false:=by simp;omega
     clear hu hg;go_wp2;go_roundw
     case rel=>exact⟨k+1,acc++[s[k]],by omega,by simp[HL.out],by go_num,rfl,HA',by exact zw⟩
     case measure=>simp[intOf];omega
  ·obtain rfl:k=s.size:=by omega
   have HA':=qa58 (show acc=Lx.fold (Lx.ls s)from by rw[HA.out,Lx.zfs]);go_wp2;go_ret;exact⟨by rw[HA'.out];rfl,hb⟩
end
section
open Go.RowKit
attribute [local simp] Lx.zaD
def znZ:Array Value:=(Lx.wordsL.map fun m=>Value.string (Lx.bs m)).toArray
set_option maxRecDepth 100000 in
theorem zw3(w:World):Calls Tryz.prog 112 #[] w fun e w'=>e=.returned (.slice (some ⟨w.heap.size,0,none⟩) 49 49)∧w'=w.alloc (.cells znZ 9):=by
 go_enter Tryz.func112,Tryz.ntmps112;go_wp2;go_ret;exact⟨rfl,rfl⟩
theorem zw4{k:Nat}{m:List UInt8}(h:Lx.wordsL[k]?=some m):znZ[k]?=some (.string (Lx.bs m)):=by
 unfold znZ;rw[List.getElem?_toArray,qa24,h];rfl
set_option maxHeartbeats 1000000 in
theorem zom(s:ByteArray)(w:World)(hs:s.size≤1000000000):
  Calls Tryz.prog 76 #[.string s] w fun e w'=>e=.returned (.bool (Lx.isW (Lx.ls s)))∧Below w.heap.size w w':=by
 generalize hR:Lx.isW (Lx.ls s)=R;have HR:Hid ((Lx.wordsL.drop 0).contains (Lx.fold (Lx.ls s))=R):=qa58 hR;clear hR;have hw0:(w.alloc (.cells znZ 9)).heap[w.heap.size]?=some (.cells znZ 9 (0,0)):=heap_alloc_new w _;have hb0:Below w.heap.size w (w.alloc (.cells znZ 9)):=by exact zw
 go_enter Tryz.func76,Tryz.ntmps76;go_wp2_with fail;refine(zw3 w).mono ?_;rintro e w' ⟨rfl,rfl⟩;go_wp2;go_loopw [4] (fun i wr=>∃k:Nat,k≤49∧i=.int .i64 k∧wr.heap[w.heap.size]?=some (.cells znZ 9 (0,0))∧Below w.heap.size w wr∧Hid ((Lx.wordsL.drop k).contains (Lx.fold (Lx.ls s))=R)) (fun i _=>49-(intOf i).toNat)
 case atStart=>exact⟨0,by omega,rfl,hw0,hb0,HR⟩
 case round=>
  obtain⟨k,hk,rfl,hh,hb,HK⟩:=hrel;clear hw0 hb0;by_cases hlt:k<49
  ·obtain ⟨m,hm⟩:∃ m,Lx.wordsL[k]?=some m:=⟨_,qa11 (by exact hlt)⟩;have hc:=zdA hh (zw4 hm);have HH:=qa58 hh;have HM:=qa58 hm;clear hh hm;have i0:(0:Int)≤(k:Int):=by omega
   have i1:(k:Int)<49:=by omega
   have hsz:=zfH HH.out;have hq:((Lx.bs (Lx.fold (Lx.ls s))).toList==(Lx.bs m).toList)=(Lx.fold (Lx.ls s)==m):=by rw[Lx.bs_toList,Lx.bs_toList]
   have hdrop:Lx.wordsL.drop k=m::Lx.wordsL.drop (k+1):=by
    obtain⟨h1,h2⟩:=qa9.1 HM.out;rw[qa10 h1,h2]
   have HD:=qa58 hdrop;clear hdrop;cases hp:(Lx.fold (Lx.ls s)==m)with
   |true=>
    rw[hp]at hq;have hf:R=true:=by rw[←HK.out,HD.out,List.contains_cons,hp,Bool.true_or]
    subst hf;clear hp;go_wp2;go_region_held3 (fun w'=>w'.cell? ⟨w.heap.size,k,none⟩=some (.string (Lx.bs m))) (go_keep)
     ((go_at_call 77;refine(zcz s _ hs).mono ?_;rintro e w1 ⟨rfl,hb1⟩;have hcw:w1.cell? ⟨w.heap.size,k,none⟩=some (.string (Lx.bs m)):=(hb1.cell (p:=⟨w.heap.size,k,none⟩) hsz).trans hc))
    go_wp2;go_ret;exact⟨rfl,zac (w:=w) (Below.drew hb) hb1⟩
   |false=>
    rw[hp]at hq;have HK':=qa58 (show(Lx.wordsL.drop (k+1)).contains (Lx.fold (Lx.ls s))=R from by rw[←HK.out,HD.out,List.contains_cons,hp,Bool.false_or]);clear hp;go_wp2;go_region_held3 (fun w'=>w'.cell? ⟨w.heap.size,k,none⟩=some (.string (Lx.bs m))) (go_keep)
     ((go_at_call 77;refine(zcz s _ hs).mono ?_;rintro e w1 ⟨rfl,hb1⟩;have hcw:w1.cell? ⟨w.heap.size,k,none⟩=some (.string (Lx.bs m)):=(hb1.cell (p:=⟨w.heap.size,k,none⟩) hsz).trans hc))
    go_wp2;go_roundw
    case rel=>exact⟨k+1,by omega,by go_num,zal (zrR HH.out) hb1,zac (w:=w) (Below.drew hb) hb1,HK'⟩
    case measure=>simp[intOf];omega
  ·obtain rfl:k=49:=by omega
   have hf:R=false:=by rw[←HK.out];rfl
   subst hf;go_wp2;go_ret;exact⟨rfl,hb⟩
end
section
open Go.RowKit
attribute [local simp] Lx.zaD Lx.zeh
theorem hexs_at {k:Nat} (hk:k < 16):((⟨#[48,49,50,51,52,53,54,55,56,57,97,98,99,100,101,102]⟩:ByteArray)[k]'(by exact hk))=Lx.hexs.getD k 0:=by
 rw[qa8,qa11 (by exact hk)];rfl
theorem zp5(c:UInt8)(w:World):
  Calls Tryz.prog 150 #[.int .u8 c.toNat] w fun e w'=>e=.returned (.int .i64 (match Lx.rnib c with|some x=>(x:Int)|none=>-1))∧w=w':=by
 generalize hR:(match Lx.rnib c with|some x=>(x:Int)|none=>-1)=R;have HR:=qa58 hR;clear hR;go_enter Tryz.func150,Tryz.ntmps150;go_wp2;go_loop [3] (fun i=>∃k:Nat,k≤16∧i=.int .i64 k∧Hid (∀j,j<k→Lx.rnib c≠some j)) (fun i=>16-(intOf i).toNat)
 case atStart=>exact⟨0,by omega,rfl,qa58 (fun j h=>by omega)⟩
 case round=>
  obtain⟨k,hk,rfl,HK⟩:=hrel;by_cases hlt:k<16
  ·have hx:=hexs_at hlt;have hiff:=Lx.rnib_iff hlt c;have HX:=qa58 hx;have HI:=qa58 hiff;clear hx hiff;go_wp2
   ·have h:((⟨#[48,49,50,51,52,53,54,55,56,57,97,98,99,100,101,102]⟩:ByteArray)[k]'(by exact hlt)).toNat=c.toNat:=by
     have:((((⟨#[48,49,50,51,52,53,54,55,56,57,97,98,99,100,101,102]⟩:ByteArray)[k]'(by exact hlt)).toNat:Int)==(c.toNat:Int))=true:=by assumption
     have:=eq_of_beq this;omega
    rw[HX.out]at h;have hn:=HI.out.1 h;go_ret;refine⟨?_,rfl⟩;rw[←HR.out,hn];rfl
   ·have h:((⟨#[48,49,50,51,52,53,54,55,56,57,97,98,99,100,101,102]⟩:ByteArray)[k]'(by exact hlt)).toNat≠c.toNat:=by
     have:((((⟨#[48,49,50,51,52,53,54,55,56,57,97,98,99,100,101,102]⟩:ByteArray)[k]'(by exact hlt)).toNat:Int)==(c.toNat:Int))=false:=by assumption
     have:=ne_of_beq_false this;omega
    rw[HX.out]at h;go_round
    case rel=>
     refine⟨k+1,by omega,by go_num,qa58 (fun j hj e=>?_)⟩;by_cases hjk:j=k
     ·subst hjk;exact h (HI.out.2 e)
     ·exact HK.out j (by omega) e
    case measure=>simp[intOf];omega
  ·obtain rfl:k=16:=by omega
   go_wp2;go_ret;refine⟨?_,rfl⟩;cases hn:Lx.rnib c with
   |none=>rw[←HR.out,hn];rfl
   |some x=>exact absurd hn (HK.out x (Lx.ztT hn))
theorem znH(c:UInt8)(w:World)(x:Nat)(h:Lx.rnib c=some x):
  Calls Tryz.prog 150 #[.int .u8 c.toNat] w fun e w'=>e=.returned (.int .i64 (x:Int))∧w=w':=
 (zp5 c w).mono fun e w' ⟨h1,h3⟩=>⟨by rw[h1,h],h3⟩
theorem zrj(c:UInt8)(w:World)(h:Lx.rnib c=none):
  Calls Tryz.prog 150 #[.int .u8 c.toNat] w fun e w'=>e=.returned (.int .i64 (-1))∧w=w':=
 (zp5 c w).mono fun e w' ⟨h1,h3⟩=>⟨by rw[h1,h],h3⟩
theorem u8_nib{x y:Nat}(hx:x<16)(hy:y<16):((UInt8.ofNat (16*x+y)).toNat:Int)=16*(x:Int)+(y:Int):=by simp;omega
theorem zwm(s:ByteArray)(w:World)(hs:s.size≤1000000000):
  Calls Tryz.prog 134 #[.string s] w fun e w'=>e=optE (Lx.zfl (Lx.ls s))∧Below w.heap.size w w':=by
 generalize hR:Lx.zfl (Lx.ls s)=R;have HR:=qa58 hR;clear hR;by_cases hodd:s.size % 2=1
 ·have hf:R=none:=by rw [← HR.out,Lx.zwk (Lx.ls s) (by rw [Lx.zax];exact hodd)]
  subst hf;have d0:((s.size:Int) % 2 != 0)=true:=by simp;omega
  clear hodd;go_enter Tryz.func134,Tryz.ntmps134;go_wp2;go_ret2;exact⟨rfl,by exact zw⟩
 have d0:((s.size:Int) % 2 != 0)=false:=by simp;omega
 go_enter Tryz.func134,Tryz.ntmps134;go_wp2;go_loopw [4,5] (fun v i wr=>∃(k:Nat)(acc:List UInt8),k≤s.size∧(s.size-k) % 2=0∧acc.length≤k∧i=.int .i64 k∧v=.string (Lx.bs acc)∧Below w.heap.size w wr∧Hid (Lx.onto acc (Lx.zfl (Lx.suf s k))=R)) (fun _ i _=>s.size-(intOf i).toNat)
 case atStart=>exact⟨0,[],by omega,by omega,by simp,rfl,rfl,by exact zw,qa58 (by rw[Lx.znJ,Lx.zgZ];exact HR.out)⟩
 case round=>
  obtain⟨k,acc,hk,hpar,hak,rfl,rfl,hb,HK⟩:=hrel;by_cases hlt:k<s.size
  ·have hlt2:k+1 < s.size:=by omega
   cases hx:Lx.rnib s[k]with
   |none=>
    have hf:=Lx.zpZ hlt2 (.inl hx) acc;rw[HK.out]at hf;subst hf;have HX:=qa58 hx;clear hx;cases hy:Lx.rnib s[k+1]with
    |none=>
     have HY:=qa58 hy;clear hy;go_wp2_with fail;refine(zrj _ _ HX.out).mono ?_;rintro e w' ⟨rfl,rfl⟩;go_wp2_with fail;refine(zrj _ _ HY.out).mono ?_;rintro e w' ⟨rfl,rfl⟩;go_wp2;go_ret2;exact⟨rfl,hb⟩
    |some y=>
     have HY:=qa58 hy;clear hy;go_wp2_with fail;refine(zrj _ _ HX.out).mono ?_;rintro e w' ⟨rfl,rfl⟩;go_wp2_with fail;refine(znH _ _ _ HY.out).mono ?_;rintro e w' ⟨rfl,rfl⟩;go_wp2;go_ret2;exact⟨rfl,hb⟩
   |some x=>
    have HX:=qa58 hx;have hx16:=Lx.ztT hx;clear hx;cases hy:Lx.rnib s[k+1]with
    |none=>
     have hf:=Lx.zpZ hlt2 (.inr hy) acc;rw[HK.out]at hf;subst hf;have HY:=qa58 hy;clear hy;go_wp2_with fail;refine(znH _ _ _ HX.out).mono ?_;rintro e w' ⟨rfl,rfl⟩;go_wp2_with fail;refine(zrj _ _ HY.out).mono ?_;rintro e w' ⟨rfl,rfl⟩;go_wp2;go_ret2;exact⟨rfl,hb⟩
    |some y=>
     have HK':=qa58 (Eq.trans (Lx.zxE hlt2 HX.out hy acc).symm HK.out);have hy16:=Lx.ztT hy;have HY:=qa58 hy;clear hy;have hconv:=znM wr (UInt8.ofNat (16*x+y));rw[u8_nib hx16 hy16]at hconv;go_wp2_with fail;refine(znH _ _ _ HX.out).mono ?_;rintro e w' ⟨rfl,rfl⟩;go_wp2_with fail;refine(znH _ _ _ HY.out).mono ?_;rintro e w' ⟨rfl,rfl⟩;have d3:decide ((x:Int)<0)=false:=qa45 (by omega);have d4:decide ((y:Int)<0)=false:=qa45 (by omega);go_wp2;go_roundw
     case rel=>exact⟨k+2,acc++[UInt8.ofNat (16*x+y)],by omega,by omega,by simp;omega,by go_num,by simp,by exact zw,HK'⟩
     case measure=>simp[intOf];omega
  ·obtain rfl:k=s.size:=by omega
   have hf:R=some acc:=by rw[←HK.out,Lx.zwl (qa57 _)]
   subst hf;go_wp2;go_ret2;exact⟨rfl,hb⟩
end
section
open Go.RowKit
attribute [local simp] Lx.zaD Lx.zeh
theorem bare_no(s:ByteArray)(w:World)(hs:s.size≤1000000000)(h:(Lx.zbv (Lx.ls s)).2=false):
  Calls Tryz.prog 133 #[.string s] w fun e w'=>e=optE (Lx.bare (Lx.ls s))∧w=w':=by
 have hR:Lx.bare (Lx.ls s)=none:=by rw[Lx.bare,if_neg (by rw[h];decide)]
 rw[hR];by_cases h2:s.size<2
 ·have d1:decide ((s.size:Int) < 2)=true:=qa49 (by omega);go_enter Tryz.func133,Tryz.ntmps133;go_wp2;go_ret2;exact⟨rfl,rfl⟩
 ·have d1:decide ((s.size:Int) < 2)=false:=qa45 (by omega);have h0:0<s.size:=by omega
  have e1:((s.size:Int)-1).toNat=s.size-1:=by omega
  have hb:s.size-1<s.size:=by omega
  by_cases h3:s[0].toNat=39
  ·have d2:((s[0].toNat:Int) != 39)=false:=by simp;omega
   have h4:(s[s.size-1]'hb).toNat≠39:=by
    intro h4;rw[Lx.zoZ (by omega) h3 h4]at h;cases h
   have d3:(((s[s.size-1]'hb).toNat:Int) != 39)=true:=by simp;omega
   clear h h3 h4 hR;go_enter Tryz.func133,Tryz.ntmps133;go_wp2;go_ret2;exact⟨rfl,rfl⟩
  ·have d2:((s[0].toNat:Int) != 39)=true:=by simp;omega
   clear h h3 hR;go_enter Tryz.func133,Tryz.ntmps133;go_wp2;go_ret2;exact⟨rfl,rfl⟩
theorem bare_yes(s:ByteArray)(w:World)(hs:s.size≤1000000000)(h0:2≤s.size)(h1:s[0].toNat=39)(h2:s[s.size-1].toNat=39):
  Calls Tryz.prog 133 #[.string s] w fun e w'=>e=optE (Lx.bare (Lx.ls s))∧w=w':=by
 have hR:Lx.bare (Lx.ls s)=Lx.single (Lx.ls (s.extract 1 (s.size-1))):=by rw[Lx.bare,Lx.zoZ h0 h1 h2,if_pos rfl]
 rw[hR];have d1:decide ((s.size:Int)<2)=false:=qa45 (by omega);have h0':0<s.size:=by omega
 have d2:((s[0].toNat:Int) != 39)=false:=by simp;omega
 have e1:((s.size:Int)-1).toNat=s.size-1:=by omega
 have d3:((s[s.size-1].toNat:Int) != 39)=false:=by simp;omega
 have hds:(s.extract 1 (s.size-1)).size≤1000000000:=by rw[Lx.zbd _ _ _ (by omega)];omega
 have HDS:=qa58 hds;clear hR h1 h2 hds;obtain⟨d,hd⟩:∃d,d=s.extract 1 (s.size-1):=⟨_,rfl⟩;rw[←hd]at HDS ⊢;have HD:=qa58 hd;clear hd;generalize hR:Lx.single (Lx.ls d)=R;have HR:=qa58 hR;clear hR;go_enter Tryz.func133,Tryz.ntmps133;go_wp2;rw[←HD.out];have hds:=HDS.out;go_loop [5,6] (fun v i=>∃(k:Nat)(acc:List UInt8),k≤d.size∧acc.length≤k∧i=.int .i64 k∧v=.string (Lx.bs acc)∧Hid (Lx.onto acc (Lx.single (Lx.suf d k))=R)) (fun _ i=>d.size-(intOf i).toNat)
 case atStart=>exact⟨0,[],by omega,by simp,rfl,rfl,qa58 (by rw[Lx.znJ,Lx.zgZ];exact HR.out)⟩
 case round=>
  obtain⟨k,acc,hk,hak,rfl,rfl,HK⟩:=hrel;by_cases hlt:k<d.size
  ·by_cases h39:d[k].toNat=39
   ·have g1:((d[k].toNat:Int) == 39)=true:=by simp;omega
    by_cases hlt2:k+1<d.size
    ·have g2:((k:Int)+1 == (d.size:Int))=false:=by simp;omega
     by_cases h392:d[k+1].toNat=39
     ·have g3:((d[k+1].toNat:Int) != 39)=false:=by simp;omega
      have HK':=qa58 (Eq.trans (Lx.zod hlt2 h39 h392 acc).symm HK.out);have hone:=Lx.one_at hlt2;have H392:=qa58 h392;have H39:=qa58 h39;clear h39 h392;go_wp2;go_round
      case rel=>exact⟨k+2,acc++[d[k+1]],by omega,by simp;omega,by go_num,rfl,HK'⟩
      case measure=>simp[intOf];omega
     ·have g3:((d[k+1].toNat:Int) != 39)=true:=by simp;omega
      have hf:=Lx.zkc hlt h39 (fun _=>h392) acc;rw[HK.out]at hf;subst hf;have H39:=qa58 h39;clear h39 h392;go_wp2;go_ret2;exact⟨rfl,rfl⟩
    ·have g2:((k:Int)+1 == (d.size:Int))=true:=by simp;omega
     have hf:=Lx.zkc hlt h39 (fun h=>absurd h hlt2) acc;rw[HK.out]at hf;subst hf;have H39:=qa58 h39;clear h39;go_wp2;go_ret2;exact⟨rfl,rfl⟩
   ·have g1:((d[k].toNat:Int) == 39)=false:=by simp;omega
    have HK':=qa58 (Eq.trans (Lx.zmY hlt h39 acc).symm HK.out);have hone:=Lx.one_at hlt;go_wp2;go_round
    case rel=>exact⟨k+1,acc++[d[k]],by omega,by simp;omega,by go_num,rfl,HK'⟩
    case measure=>simp[intOf];omega
  ·obtain rfl:k=d.size:=by omega
   have hf:R=some acc:=by rw[←HK.out,Lx.zpP (qa57 _)]
   subst hf;go_wp2;go_ret2;exact⟨rfl,rfl⟩
end
section
open Go.RowKit
attribute [local simp] Lx.zaD Lx.zeh
theorem zcQ(s:ByteArray)(w:World)(hs:s.size≤1000000000):
  Calls Tryz.prog 111 #[.string s] w fun e w'=>e=.returned (.bool (Lx.zbD (Lx.ls s)))∧w=w':=by
 generalize hR:Lx.zbD (Lx.ls s)=R;have HR:=qa58 hR;clear hR;go_enter Tryz.func111,Tryz.ntmps111;go_wp2;go_loop [3] (fun i=>∃k:Nat,k≤s.size∧i=.int .i64 k∧Hid (∀j (h:j<s.size),j<k→Lx.dig s[j]=true)) (fun i=>s.size-(intOf i).toNat)
 case atStart=>exact⟨0,by omega,rfl,qa58 (fun j _ h=>by omega)⟩
 case round=>
  obtain⟨k,hk,rfl,HK⟩:=hrel;by_cases hlt:k<s.size
  ·by_cases hd:48≤s[k].toNat∧s[k].toNat≤57
   ·obtain⟨hd1,hd2⟩:=hd;have d1:decide ((s[k].toNat:Int)<48)=false:=by simp;omega
    have d2:decide (57<(s[k].toNat:Int))=false:=by simp;omega
    go_wp2;go_round
    case rel=>
     refine⟨k+1,by omega,by go_num,qa58 (fun j h hj=>?_)⟩;by_cases e:j=k
     ·subst e;exact Lx.zhx.2 ⟨hd1,hd2⟩
     ·exact HK.out j h (by omega)
    case measure=>simp[intOf];omega
   ·have hf:R=false:=by rw [← HR.out];exact Lx.zkV hlt (Lx.zj3.2 (by omega))
    subst hf;go_wp2;all_goals first
     |(go_ret;exact⟨rfl,rfl⟩)
     |(exfalso;omega)
  ·obtain rfl:k=s.size:=by omega
   have HK2:Hid (∀j (h:j<s.size),Lx.dig s[j]=true):=fun j h=>HK.out j h h;by_cases h1:s.size=1
   ·have hf:R=true:=by rw [← HR.out];exact Lx.zl2 HK2.out (.inl h1)
    subst hf;have d1:((s.size:Int)==1)=true:=by simp;omega
    have H1:=qa58 h1;clear h1;go_wp2;go_ret;exact⟨rfl,rfl⟩
   ·have d1:((s.size:Int) == 1)=false:=by simp;omega
    by_cases h2:1<s.size
    ·have d2:decide (1 < (s.size:Int))=true:=by simp;omega
     have h0:0<s.size:=by omega
     by_cases h3:s[0].toNat=48
     ·have hf:R=false:=by rw [← HR.out];exact Lx.zte h2 h3
      subst hf;have d3:((s[0].toNat:Int) != 48)=false:=by simp;omega
      have H3:=qa58 h3;clear h3;go_wp2;go_ret;exact⟨rfl,rfl⟩
     ·have hf:R=true:=by rw [← HR.out];exact Lx.zl2 HK2.out (.inr ⟨h2,h3⟩)
      subst hf;have d3:((s[0].toNat:Int) != 48)=true:=by simp;omega
      clear h3;go_wp2;go_ret;exact⟨rfl,rfl⟩
    ·have hf:R=false:=by rw [← HR.out,Lx.zkR (by omega)];rfl
     subst hf;have d2:decide (1<(s.size:Int))=false:=by simp;omega
     go_wp2;go_ret;exact⟨rfl,rfl⟩
theorem zxH(s:ByteArray)(w:World)(hs:s.size≤1000000000)(h:Lx.zbD (Lx.cutp (Lx.ls s)).1=false):
  Calls Tryz.prog 75 #[.string s] w fun e w'=>e=.returned (.tuple #[.int .i64 (Lx.read (Lx.ls s)).1,.int .i64 (Lx.read (Lx.ls s)).2])∧w=w':=by
 have hR:Lx.read (Lx.ls s)=(0,8):=by rw[Lx.zfg,Lx.zjy,h];rfl
 rw[hR];by_cases h0:0<s.size
 ·by_cases h1:s[0].toNat=45
  ·rw[Lx.zje h0 h1]at h;have H:=qa58 h;have d1:decide (0<(s.size:Int))=true:=by simp;omega
   have d2:((s[0].toNat:Int)==45)=true:=by simp;omega
   have H1:=qa58 h1;clear h hR h1;go_enter Tryz.func75,Tryz.ntmps75;go_wp2_with fail;refine(zcQ _ w (by rw[Lx.zbd _ _ _ (qa57 _)];omega)).mono ?_;rintro e w' ⟨rfl,rfl⟩;rw[H.out];go_wp2;go_ret2;exact⟨rfl,rfl⟩
  ·rw[Lx.zjf (.inr ⟨h0,h1⟩)]at h;have H:=qa58 h;have d1:decide (0<(s.size:Int))=true:=by simp;omega
   have d2:((s[0].toNat:Int)==45)=false:=by simp;omega
   clear h hR h1;go_enter Tryz.func75,Tryz.ntmps75;go_wp2_with fail;refine(zcQ _ w hs).mono ?_;rintro e w' ⟨rfl,rfl⟩;rw[H.out];go_wp2;go_ret2;exact⟨rfl,rfl⟩
 ·rw [Lx.zjf (.inl (by omega))] at h;have H:=qa58 h;have d1:decide (0<(s.size:Int))=false:=qa45 (by omega);clear h hR;go_enter Tryz.func75,Tryz.ntmps75;go_wp2_with fail;refine(zcQ _ w hs).mono ?_;rintro e w' ⟨rfl,rfl⟩;rw[H.out];go_wp2;go_ret2;exact⟨rfl,rfl⟩
theorem zot(s:ByteArray)(w:World)(hs:s.size≤1000000000)(d:ByteArray)(h0:0<s.size)(h1:s[0].toNat=45)(hd:d=s.extract 1 s.size)(hok:Lx.zbD (Lx.ls d)=true)(hz:Lx.ls d≠[48])(hf:9223372036854775808<Lx.dec (Lx.ls d))(hl:19<d.size):
  Calls Tryz.prog 75 #[.string s] w fun e w'=>e=.returned (.tuple #[.int .i64 (Lx.read (Lx.ls s)).1,.int .i64 (Lx.read (Lx.ls s)).2])∧w=w':=by
 have hcut:Lx.cutp (Lx.ls s)=(Lx.ls d,true):=by rw[hd];exact Lx.zje h0 h1
 have hds:d.size≤1000000000:=by rw[hd];rw[Lx.zbd _ _ _ (qa57 _)];omega
 rw[Lx.zfg,hcut];generalize hR:Lx.zjy (Lx.ls d) true=R;have HR:=qa58 hR;have HO:=qa58 hok;have HD:=qa58 hd;have d1:decide (0<(s.size:Int))=true:=by simp;omega
 have d2:((s[0].toNat:Int)==45)=true:=by simp;omega
 have HZ:=qa58 hz;have d3:(d.toList==[48])=false:=by rw[Lx.zaX];simpa using hz
 have HF:=qa58 hf;have d4:decide (19<(d.size:Int))=true:=qa49 (by omega);clear hR hcut hd hok h1 hz hf;go_enter Tryz.func75,Tryz.ntmps75;go_wp2_with fail;rw[←HD.out];refine(zcQ _ w hds).mono ?_;rintro e w' ⟨rfl,rfl⟩;rw[HO.out];have hf:R=(0,9):=by
  rw[←HR.out];exact Lx.zg4 (neg:=true) (k:=d.size) HO.out (.inr HZ.out) (qa57 _) (by rw[Lx.zfs];simpa[Lx.zgC]using HF.out)
 subst hf;go_wp2;go_ret2;exact⟨rfl,rfl⟩
theorem zos(s:ByteArray)(w:World)(hs:s.size≤1000000000)(d:ByteArray)(h0:0<s.size)(h1:s[0].toNat=45)(hd:d=s.extract 1 s.size)(hok:Lx.zbD (Lx.ls d)=true)(hz:Lx.ls d≠[48])(hf:9223372036854775808<Lx.dec (Lx.ls d))(hl:d.size=19):
  Calls Tryz.prog 75 #[.string s] w fun e w'=>e=.returned (.tuple #[.int .i64 (Lx.read (Lx.ls s)).1,.int .i64 (Lx.read (Lx.ls s)).2])∧w=w':=by
 have hcut:Lx.cutp (Lx.ls s)=(Lx.ls d,true):=by rw[hd];exact Lx.zje h0 h1
 have hds:d.size≤1000000000:=by rw[hd];rw[Lx.zbd _ _ _ (qa57 _)];omega
 rw[Lx.zfg,hcut];generalize hR:Lx.zjy (Lx.ls d) true=R;have HR:=qa58 hR;have HO:=qa58 hok;have HD:=qa58 hd;have d1:decide (0<(s.size:Int))=true:=by simp;omega
 have d2:((s[0].toNat:Int)==45)=true:=by simp;omega
 have HZ:=qa58 hz;have d3:(d.toList==[48])=false:=by rw[Lx.zaX];simpa using hz
 have HF:=qa58 hf;have d4:decide (19<(d.size:Int))=false:=qa45 (by omega);have d5:((d.size:Int)==19)=true:=by rw[hl];rfl
 have hov:=Lx.znI (m:=[57,50,50,51,51,55,50,48,51,54,56,53,52,55,55,53,56,48,56]) hok rfl (by decide) hl;have hle:d.size≤19:=by omega
 have hov2:(!(Op.bytesLess d.toList [57,50,50,51,51,55,50,48,51,54,56,53,52,55,55,53,56,48,56] || d.toList==[57,50,50,51,51,55,50,48,51,54,56,53,52,55,55,53,56,48,56]))=true:=by
  rw[Lx.zaX,hov];first|exact qa49 hf|exact qa45 (Nat.not_lt.2 hf)
 clear hov;obtain⟨x,hx⟩:∃x,x=Op.bytesLess d.toList [57,50,50,51,51,55,50,48,51,54,56,53,52,55,55,53,56,48,56]:=⟨_,rfl⟩;obtain⟨y,hy⟩:∃y,y=(d.toList==[57,50,50,51,51,55,50,48,51,54,56,53,52,55,55,53,56,48,56]):=⟨_,rfl⟩;rw[←hx,←hy]at hov2;have q1:=hx.symm;have q2:=hy.symm;clear hx hy;clear hR hcut hd hok h1 hz hf hl;cases x<;>cases y<;>simp only[Bool.or_true,Bool.or_false,Bool.not_true,qa50,qa20,Bool.true_eq_false,reduceCtorEq]at hov2;all_goals
  go_enter Tryz.func75,Tryz.ntmps75;go_wp2_with fail;rw[←HD.out];refine(zcQ _ w hds).mono ?_;rintro e w' ⟨rfl,rfl⟩;rw[HO.out];have hf:R=(0,9):=by
   rw[←HR.out];exact Lx.zg4 (neg:=true) (k:=d.size) HO.out (.inr HZ.out) (qa57 _) (by rw[Lx.zfs];simpa[Lx.zgC]using HF.out)
  subst hf;go_wp2;go_ret2;exact⟨rfl,rfl⟩
theorem zou(s:ByteArray)(w:World)(hs:s.size≤1000000000)(d:ByteArray)(h0:0<s.size)(h1:s[0].toNat=45)(hd:d=s.extract 1 s.size)(hok:Lx.zbD (Lx.ls d)=true)(hz:Lx.ls d≠[48])(hf:Lx.dec (Lx.ls d)≤9223372036854775808)(hl:d.size=19):
  Calls Tryz.prog 75 #[.string s] w fun e w'=>e=.returned (.tuple #[.int .i64 (Lx.read (Lx.ls s)).1,.int .i64 (Lx.read (Lx.ls s)).2])∧w=w':=by
 have hcut:Lx.cutp (Lx.ls s)=(Lx.ls d,true):=by rw[hd];exact Lx.zje h0 h1
 have hds:d.size≤1000000000:=by rw[hd];rw[Lx.zbd _ _ _ (qa57 _)];omega
 rw[Lx.zfg,hcut];generalize hR:Lx.zjy (Lx.ls d) true=R;have HR:=qa58 hR;have HO:=qa58 hok;have HD:=qa58 hd;have d1:decide (0<(s.size:Int))=true:=by simp;omega
 have d2:((s[0].toNat:Int)==45)=true:=by simp;omega
 have HZ:=qa58 hz;have d3:(d.toList==[48])=false:=by rw[Lx.zaX];simpa using hz
 have HF:=qa58 hf;have d4:decide (19<(d.size:Int))=false:=qa45 (by omega);have d5:((d.size:Int)==19)=true:=by rw[hl];rfl
 have hov:=Lx.znI (m:=[57,50,50,51,51,55,50,48,51,54,56,53,52,55,55,53,56,48,56]) hok rfl (by decide) hl;have hle:d.size≤19:=by omega
 have hov2:(!(Op.bytesLess d.toList [57,50,50,51,51,55,50,48,51,54,56,53,52,55,55,53,56,48,56] || d.toList==[57,50,50,51,51,55,50,48,51,54,56,53,52,55,55,53,56,48,56]))=false:=by
  rw[Lx.zaX,hov];first|exact qa49 hf|exact qa45 (Nat.not_lt.2 hf)
 clear hov;obtain⟨x,hx⟩:∃x,x=Op.bytesLess d.toList [57,50,50,51,51,55,50,48,51,54,56,53,52,55,55,53,56,48,56]:=⟨_,rfl⟩;obtain⟨y,hy⟩:∃y,y=(d.toList==[57,50,50,51,51,55,50,48,51,54,56,53,52,55,55,53,56,48,56]):=⟨_,rfl⟩;rw[←hx,←hy]at hov2;have q1:=hx.symm;have q2:=hy.symm;clear hx hy;clear hR hcut hd hok h1 hz hf hl;cases x<;>cases y<;>simp only[Bool.or_true,Bool.or_false,Bool.not_true,qa50,qa20,Bool.true_eq_false,reduceCtorEq]at hov2;all_goals
  go_enter Tryz.func75,Tryz.ntmps75;go_wp2_with fail;rw[←HD.out];refine(zcQ _ w hds).mono ?_;rintro e w' ⟨rfl,rfl⟩;rw[HO.out];go_wp2;go_loop [7,8] (fun n i=>∃k:Nat,∃m:Nat,k≤d.size∧i=.int .i64 k∧n=.int .i64 (-(m:Int))∧m≤9223372036854775808∧Hid (m=Lx.dec ((Lx.ls d).take k))) (fun _ i=>d.size-(intOf i).toNat)
  case atStart=>exact⟨0,0,by omega,rfl,rfl,by omega,qa58 rfl⟩
  case round=>
   obtain⟨k,m,hk,rfl,rfl,hm,HM⟩:=hrel;by_cases hlt:k<d.size
   ·obtain⟨c1,c2⟩:=Lx.zg8 HO.out hlt;have hst:=Lx.znW hlt;rw[←HM.out]at hst;have hst2:10*m+(d[k].toNat-48)≤9223372036854775808:=qa56 hst HF.out;clear hst;go_wp2;go_round
    case rel=>exact⟨k+1,10*m+(d[k].toNat-48),by omega,by go_num,by congr 1;omega,by omega,qa58 (by rw[Lx.zc7 hlt,HM.out])⟩
    case measure=>simp[intOf];omega
   ·obtain rfl:k=d.size:=by omega
    have hm2:m=Lx.dec (Lx.ls d):=by rw[HM.out,Lx.zfs]
    have hf:=Lx.zg5 (neg:=true) HO.out (.inr HZ.out) (by simpa[Lx.zgC]using HF.out);have HE:=qa58 hf;have HM2:=qa58 hm2;clear hf hm2;go_wp2;go_ret2;refine⟨?_,rfl⟩;rw[←HR.out,HE.out,←HM2.out];simp only[qa7];refine zpr (zoY ?_) rfl;simp
theorem znt(s:ByteArray)(w:World)(hs:s.size≤1000000000)(d:ByteArray)(h0:0<s.size)(h1:s[0].toNat=45)(hd:d=s.extract 1 s.size)(hok:Lx.zbD (Lx.ls d)=true)(hz:Lx.ls d≠[48])(hf:Lx.dec (Lx.ls d)≤9223372036854775808)(hl:d.size<19):
  Calls Tryz.prog 75 #[.string s] w fun e w'=>e=.returned (.tuple #[.int .i64 (Lx.read (Lx.ls s)).1,.int .i64 (Lx.read (Lx.ls s)).2])∧w=w':=by
 have hcut:Lx.cutp (Lx.ls s)=(Lx.ls d,true):=by rw[hd];exact Lx.zje h0 h1
 have hds:d.size≤1000000000:=by rw[hd];rw[Lx.zbd _ _ _ (qa57 _)];omega
 rw[Lx.zfg,hcut];generalize hR:Lx.zjy (Lx.ls d) true=R;have HR:=qa58 hR;have HO:=qa58 hok;have HD:=qa58 hd;have d1:decide (0<(s.size:Int))=true:=by simp;omega
 have d2:((s[0].toNat:Int)==45)=true:=by simp;omega
 have HZ:=qa58 hz;have d3:(d.toList==[48])=false:=by rw[Lx.zaX];simpa using hz
 have HF:=qa58 hf;have d4:decide (19<(d.size:Int))=false:=qa45 (by omega);have d5:((d.size:Int)==19)=false:=by simp;omega
 clear hR hcut hd hok h1 hz hf;go_enter Tryz.func75,Tryz.ntmps75;go_wp2_with fail;rw[←HD.out];refine(zcQ _ w hds).mono ?_;rintro e w' ⟨rfl,rfl⟩;rw[HO.out];go_wp2;go_loop [7,8] (fun n i=>∃k:Nat,∃m:Nat,k≤d.size∧i=.int .i64 k∧n=.int .i64 (-(m:Int))∧m≤9223372036854775808∧Hid (m=Lx.dec ((Lx.ls d).take k))) (fun _ i=>d.size-(intOf i).toNat)
 case atStart=>exact⟨0,0,by omega,rfl,rfl,by omega,qa58 rfl⟩
 case round=>
  obtain⟨k,m,hk,rfl,rfl,hm,HM⟩:=hrel;by_cases hlt:k<d.size
  ·obtain⟨c1,c2⟩:=Lx.zg8 HO.out hlt;have hst:=Lx.znW hlt;rw[←HM.out]at hst;have hst2:10*m+(d[k].toNat-48)≤9223372036854775808:=qa56 hst HF.out;clear hst;go_wp2;go_round
   case rel=>exact⟨k+1,10*m+(d[k].toNat-48),by omega,by go_num,by congr 1;omega,by omega,qa58 (by rw[Lx.zc7 hlt,HM.out])⟩
   case measure=>simp[intOf];omega
  ·obtain rfl:k=d.size:=by omega
   have hm2:m=Lx.dec (Lx.ls d):=by rw[HM.out,Lx.zfs]
   have hf:=Lx.zg5 (neg:=true) HO.out (.inr HZ.out) (by simpa[Lx.zgC]using HF.out);have HE:=qa58 hf;have HM2:=qa58 hm2;clear hf hm2;go_wp2;go_ret2;refine⟨?_,rfl⟩;rw[←HR.out,HE.out,←HM2.out];simp only[qa7];refine zpr (zoY ?_) rfl;simp
theorem zoq(s:ByteArray)(w:World)(hs:s.size≤1000000000)(h0:0<s.size)(h1:s[0].toNat≠45)(hok:Lx.zbD (Lx.ls s)=true)(hf:9223372036854775807<Lx.dec (Lx.ls s))(hl:19 <  s.size):
  Calls Tryz.prog 75 #[.string s] w fun e w'=>e=.returned (.tuple #[.int .i64 (Lx.read (Lx.ls s)).1,.int .i64 (Lx.read (Lx.ls s)).2])∧w=w':=by
 have hcut:Lx.cutp (Lx.ls s)=(Lx.ls s,false):=by exact Lx.zjf (.inr ⟨h0,h1⟩)
 have hds:=hs;rw[Lx.zfg,hcut];generalize hR:Lx.zjy (Lx.ls s) false=R;have HR:=qa58 hR;have HO:=qa58 hok;have d1:decide (0<(s.size:Int))=true:=by simp;omega
 have d2:((s[0].toNat:Int)==45)=false:=by simp;omega
 have HF:=qa58 hf;have d4:decide (19<(s.size:Int))=true:=qa49 (by omega);clear hR hcut hok h1 hf;go_enter Tryz.func75,Tryz.ntmps75;go_wp2_with fail;refine(zcQ _ w hds).mono ?_;rintro e w' ⟨rfl,rfl⟩;rw[HO.out];have hf:R=(0,9):=by
  rw[←HR.out];exact Lx.zg4 (neg:=false) (k :=  s.size) HO.out (.inl rfl) (qa57 _) (by rw[Lx.zfs];simpa[Lx.zgC]using HF.out)
 subst hf;go_wp2;go_ret2;exact⟨rfl,rfl⟩
theorem zop(s:ByteArray)(w:World)(hs:s.size≤1000000000)(h0:0<s.size)(h1:s[0].toNat≠45)(hok:Lx.zbD (Lx.ls s)=true)(hf:9223372036854775807<Lx.dec (Lx.ls s))(hl :  s.size=19):
  Calls Tryz.prog 75 #[.string s] w fun e w'=>e=.returned (.tuple #[.int .i64 (Lx.read (Lx.ls s)).1,.int .i64 (Lx.read (Lx.ls s)).2])∧w=w':=by
 have hcut:Lx.cutp (Lx.ls s)=(Lx.ls s,false):=by exact Lx.zjf (.inr ⟨h0,h1⟩)
 have hds:=hs;rw[Lx.zfg,hcut];generalize hR:Lx.zjy (Lx.ls s) false=R;have HR:=qa58 hR;have HO:=qa58 hok;have d1:decide (0<(s.size:Int))=true:=by simp;omega
 have d2:((s[0].toNat:Int)==45)=false:=by simp;omega
 have HF:=qa58 hf;have d4:decide (19<(s.size:Int))=false:=qa45 (by omega);have d5:((s.size:Int)==19)=true:=by rw[hl];rfl
 have hov:=Lx.znI (m:=[57,50,50,51,51,55,50,48,51,54,56,53,52,55,55,53,56,48,55]) hok rfl (by decide) hl;have hle :  s.size≤19:=by omega
 have hov2:(!(Op.bytesLess s.toList [57,50,50,51,51,55,50,48,51,54,56,53,52,55,55,53,56,48,55] || s.toList==[57,50,50,51,51,55,50,48,51,54,56,53,52,55,55,53,56,48,55]))=true:=by
  rw[Lx.zaX,hov];first|exact qa49 hf|exact qa45 (Nat.not_lt.2 hf)
 clear hov;obtain⟨x,hx⟩:∃x,x=Op.bytesLess s.toList [57,50,50,51,51,55,50,48,51,54,56,53,52,55,55,53,56,48,55]:=⟨_,rfl⟩;obtain⟨y,hy⟩:∃y,y=(s.toList==[57,50,50,51,51,55,50,48,51,54,56,53,52,55,55,53,56,48,55]):=⟨_,rfl⟩;rw[←hx,←hy]at hov2;have q1:=hx.symm;have q2:=hy.symm;clear hx hy;clear hR hcut hok h1 hf hl;cases x<;>cases y<;>simp only[Bool.or_true,Bool.or_false,Bool.not_true,qa50,qa20,Bool.true_eq_false,reduceCtorEq]at hov2;all_goals
  go_enter Tryz.func75,Tryz.ntmps75;go_wp2_with fail;refine(zcQ _ w hds).mono ?_;rintro e w' ⟨rfl,rfl⟩;rw[HO.out];have hf:R=(0,9):=by
   rw[←HR.out];exact Lx.zg4 (neg:=false) (k :=  s.size) HO.out (.inl rfl) (qa57 _) (by rw[Lx.zfs];simpa[Lx.zgC]using HF.out)
  subst hf;go_wp2;go_ret2;exact⟨rfl,rfl⟩
theorem zor(s:ByteArray)(w:World)(hs:s.size≤1000000000)(h0:0<s.size)(h1:s[0].toNat≠45)(hok:Lx.zbD (Lx.ls s)=true)(hf:Lx.dec (Lx.ls s)≤9223372036854775807)(hl :  s.size=19):
  Calls Tryz.prog 75 #[.string s] w fun e w'=>e=.returned (.tuple #[.int .i64 (Lx.read (Lx.ls s)).1,.int .i64 (Lx.read (Lx.ls s)).2])∧w=w':=by
 have hcut:Lx.cutp (Lx.ls s)=(Lx.ls s,false):=by exact Lx.zjf (.inr ⟨h0,h1⟩)
 have hds:=hs;rw[Lx.zfg,hcut];generalize hR:Lx.zjy (Lx.ls s) false=R;have HR:=qa58 hR;have HO:=qa58 hok;have d1:decide (0<(s.size:Int))=true:=by simp;omega
 have d2:((s[0].toNat:Int)==45)=false:=by simp;omega
 have HF:=qa58 hf;have d4:decide (19<(s.size:Int))=false:=qa45 (by omega);have d5:((s.size:Int)==19)=true:=by rw[hl];rfl
 have hov:=Lx.znI (m:=[57,50,50,51,51,55,50,48,51,54,56,53,52,55,55,53,56,48,55]) hok rfl (by decide) hl;have hle :  s.size≤19:=by omega
 have hov2:(!(Op.bytesLess s.toList [57,50,50,51,51,55,50,48,51,54,56,53,52,55,55,53,56,48,55] || s.toList==[57,50,50,51,51,55,50,48,51,54,56,53,52,55,55,53,56,48,55]))=false:=by
  rw[Lx.zaX,hov];first|exact qa49 hf|exact qa45 (Nat.not_lt.2 hf)
 clear hov;obtain⟨x,hx⟩:∃x,x=Op.bytesLess s.toList [57,50,50,51,51,55,50,48,51,54,56,53,52,55,55,53,56,48,55]:=⟨_,rfl⟩;obtain⟨y,hy⟩:∃y,y=(s.toList==[57,50,50,51,51,55,50,48,51,54,56,53,52,55,55,53,56,48,55]):=⟨_,rfl⟩;rw[←hx,←hy]at hov2;have q1:=hx.symm;have q2:=hy.symm;clear hx hy;clear hR hcut hok h1 hf hl;cases x<;>cases y<;>simp only[Bool.or_true,Bool.or_false,Bool.not_true,qa50,qa20,Bool.true_eq_false,reduceCtorEq]at hov2;all_goals
  go_enter Tryz.func75,Tryz.ntmps75;go_wp2_with fail;refine(zcQ _ w hds).mono ?_;rintro e w' ⟨rfl,rfl⟩;rw[HO.out];go_wp2;go_loop [7,8] (fun n i=>∃k:Nat,∃m:Nat,k ≤  s.size∧i=.int .i64 k∧n=.int .i64 (-(m:Int))∧m≤9223372036854775807∧Hid (m=Lx.dec ((Lx.ls s).take k))) (fun _ i =>  s.size-(intOf i).toNat)
  case atStart=>exact⟨0,0,by omega,rfl,rfl,by omega,qa58 rfl⟩
  case round=>
   obtain⟨k,m,hk,rfl,rfl,hm,HM⟩:=hrel;by_cases hlt:k <  s.size
   ·obtain⟨c1,c2⟩:=Lx.zg8 HO.out hlt;have hst:=Lx.znW hlt;rw[←HM.out]at hst;have hst2:10*m+(s[k].toNat-48)≤9223372036854775807:=qa56 hst HF.out;clear hst;go_wp2;go_round
    case rel=>exact⟨k+1,10*m+(s[k].toNat-48),by omega,by go_num,by congr 1;omega,by omega,qa58 (by rw[Lx.zc7 hlt,HM.out])⟩
    case measure=>simp[intOf];omega
   ·obtain rfl:k =  s.size:=by omega
    have hm2:m=Lx.dec (Lx.ls s):=by rw[HM.out,Lx.zfs]
    have hf:=Lx.zg5 (neg:=false) HO.out (.inl rfl) (by simpa[Lx.zgC]using HF.out);have HE:=qa58 hf;have HM2:=qa58 hm2;clear hf hm2;go_wp2;go_ret2;refine⟨?_,rfl⟩;rw[←HR.out,HE.out,←HM2.out];simp only[qa7];refine zpr (zoY ?_) rfl;simp
theorem zns(s:ByteArray)(w:World)(hs:s.size≤1000000000)(h0:0<s.size)(h1:s[0].toNat≠45)(hok:Lx.zbD (Lx.ls s)=true)(hf:Lx.dec (Lx.ls s)≤9223372036854775807)(hl :  s.size<19):
  Calls Tryz.prog 75 #[.string s] w fun e w'=>e=.returned (.tuple #[.int .i64 (Lx.read (Lx.ls s)).1,.int .i64 (Lx.read (Lx.ls s)).2])∧w=w':=by
 have hcut:Lx.cutp (Lx.ls s)=(Lx.ls s,false):=by exact Lx.zjf (.inr ⟨h0,h1⟩)
 have hds:=hs;rw[Lx.zfg,hcut];generalize hR:Lx.zjy (Lx.ls s) false=R;have HR:=qa58 hR;have HO:=qa58 hok;have d1:decide (0<(s.size:Int))=true:=by simp;omega
 have d2:((s[0].toNat:Int)==45)=false:=by simp;omega
 have HF:=qa58 hf;have d4:decide (19<(s.size:Int))=false:=qa45 (by omega);have d5:((s.size:Int)==19)=false:=by simp;omega
 clear hR hcut hok h1 hf;go_enter Tryz.func75,Tryz.ntmps75;go_wp2_with fail;refine(zcQ _ w hds).mono ?_;rintro e w' ⟨rfl,rfl⟩;rw[HO.out];go_wp2;go_loop [7,8] (fun n i=>∃k:Nat,∃m:Nat,k ≤  s.size∧i=.int .i64 k∧n=.int .i64 (-(m:Int))∧m≤9223372036854775807∧Hid (m=Lx.dec ((Lx.ls s).take k))) (fun _ i =>  s.size-(intOf i).toNat)
 case atStart=>exact⟨0,0,by omega,rfl,rfl,by omega,qa58 rfl⟩
 case round=>
  obtain⟨k,m,hk,rfl,rfl,hm,HM⟩:=hrel;by_cases hlt:k <  s.size
  ·obtain⟨c1,c2⟩:=Lx.zg8 HO.out hlt;have hst:=Lx.znW hlt;rw[←HM.out]at hst;have hst2:10*m+(s[k].toNat-48)≤9223372036854775807:=qa56 hst HF.out;clear hst;go_wp2;go_round
   case rel=>exact⟨k+1,10*m+(s[k].toNat-48),by omega,by go_num,by congr 1;omega,by omega,qa58 (by rw[Lx.zc7 hlt,HM.out])⟩
   case measure=>simp[intOf];omega
  ·obtain rfl:k =  s.size:=by omega
   have hm2:m=Lx.dec (Lx.ls s):=by rw[HM.out,Lx.zfs]
   have hf:=Lx.zg5 (neg:=false) HO.out (.inl rfl) (by simpa[Lx.zgC]using HF.out);have HE:=qa58 hf;have HM2:=qa58 hm2;clear hf hm2;go_wp2;go_ret2;refine⟨?_,rfl⟩;rw[←HR.out,HE.out,←HM2.out];simp only[qa7];refine zpr (zoY ?_) rfl;simp
theorem zwn(s:ByteArray)(w:World)(hs:s.size≤1000000000)(h0:0<s.size)(h1:s[0].toNat=45)(hz:Lx.ls (s.extract 1 s.size)=[48]):
  Calls Tryz.prog 75 #[.string s] w fun e w'=>e=.returned (.tuple #[.int .i64 (Lx.read (Lx.ls s)).1,.int .i64 (Lx.read (Lx.ls s)).2])∧w=w':=by
 have hR:Lx.read (Lx.ls s)=(0,8):=by rw[Lx.zfg,Lx.zje h0 h1,hz];rfl
 rw[hR];have d1:decide (0<(s.size:Int))=true:=by simp;omega
 have d2:((s[0].toNat:Int)==45)=true:=by simp;omega
 have d3:((s.extract 1 s.size).toList==[48])=true:=by rw[Lx.zaX,hz];rfl
 have HO:Hid (Lx.zbD (Lx.ls (s.extract 1 s.size))=true):=by unfold Hid;rw[hz];rfl
 clear hR hz h1;go_enter Tryz.func75,Tryz.ntmps75;go_wp2_with fail;refine(zcQ _ w (by rw[Lx.zbd _ _ _ (qa57 _)];omega)).mono ?_;rintro e w' ⟨rfl,rfl⟩;rw[HO.out];go_wp2;go_ret2;exact⟨rfl,rfl⟩
theorem zee(s:ByteArray)(w:World)(hs:s.size≤1000000000):
  Calls Tryz.prog 75 #[.string s] w fun e w'=>e=.returned (.tuple #[.int .i64 (Lx.read (Lx.ls s)).1,.int .i64 (Lx.read (Lx.ls s)).2])∧w=w':=by
 cases hok:Lx.zbD (Lx.cutp (Lx.ls s)).1 with
 |false=>exact zxH s w hs hok
 |true=>
  by_cases h0:0<s.size
  ·by_cases h1:s[0].toNat=45
   ·rw[Lx.zje h0 h1]at hok;have hok:Lx.zbD (Lx.ls (s.extract 1 s.size))=true:=hok;by_cases hz:Lx.ls (s.extract 1 s.size)=[48]
    ·exact zwn s w hs h0 h1 hz
    ·by_cases hf:Lx.dec (Lx.ls (s.extract 1 s.size))≤9223372036854775808
     ·rcases Nat.lt_trichotomy (s.extract 1 s.size).size 19 with hl|hl|hl
      ·exact znt s w hs _ h0 h1 rfl hok hz hf hl
      ·exact zou s w hs _ h0 h1 rfl hok hz hf hl
      ·have:=Lx.zs2 hok hl;omega
     ·rcases Nat.lt_trichotomy (s.extract 1 s.size).size 19 with hl|hl|hl
      ·have:=Lx.zpQ hok hl;omega
      ·exact zos s w hs _ h0 h1 rfl hok hz (Nat.lt_of_not_le hf) hl
      ·exact zot s w hs _ h0 h1 rfl hok hz (Nat.lt_of_not_le hf) hl
   ·rw[Lx.zjf (.inr ⟨h0,h1⟩)]at hok;have hok:Lx.zbD (Lx.ls s)=true:=hok;by_cases hf:Lx.dec (Lx.ls s)≤9223372036854775807
    ·rcases Nat.lt_trichotomy s.size 19 with hl|hl|hl
     ·exact zns s w hs h0 h1 hok hf hl
     ·exact zor s w hs h0 h1 hok hf hl
     ·have:=Lx.zs2 hok hl;omega
    ·rcases Nat.lt_trichotomy s.size 19 with hl|hl|hl
     ·have:=Lx.zpQ hok hl;omega
     ·exact zop s w hs h0 h1 hok (Nat.lt_of_not_le hf) hl
     ·exact zoq s w hs h0 h1 hok (Nat.lt_of_not_le hf) hl
  ·rw [Lx.zjf (.inl (by omega)),Lx.zkR (by omega)] at hok;cases hok
end
section
open Go.RowKit
attribute [local simp] Lx.zaD Lx.zeh
set_option maxHeartbeats 800000 in
theorem zxD(s:ByteArray)(w:World)(hs:s.size≤1000000000)(h:Lx.fold (Lx.ls s)=[110,117,108,108]):
  Calls Tryz.prog 110 #[.string s] w fun e w'=>e=valE (Lx.zaq (Lx.ls s))∧Below w.heap.size w w':=by
 have hR:Lx.zaq (Lx.ls s)=((0,0,[]),0):=by rw[Lx.zaq,h];rfl
 rw[hR];obtain⟨F,hF⟩:∃F,F=Lx.bs (Lx.fold (Lx.ls s)):=⟨_,rfl⟩;have HF:=qa58 hF;have hFs:F.size=s.size:=by rw[hF,Lx.zej]
 have HFS:=qa58 hFs;have hFl:F.size≤1000000000:=by omega
 have hq:(F.toList==[110,117,108,108])=true:=by rw[hF,Lx.bs_toList,h];rfl
 clear h hR hF hFs;go_enter Tryz.func110,Tryz.ntmps110;go_wp2_with fail;refine(zcz s _ hs).mono ?_;rintro e w1 ⟨rfl,hb1⟩;rw[←HF.out];have hB1:=zac (w:=w) zw hb1;obtain⟨hc1,hf1⟩:=zcb hb1;have K1:=zal (heap_alloc_new w _) hb1;have hz:=zfH K1;obtain⟨c,f⟩:=zab K1;have c0:=c 0 _ rfl;have c1:=c 1 _ rfl;have c2:=c 2 _ rfl;have f0:=f 0;have f1:=f 1;have f2:=f 2;have a0:∀o,(w1.alloc o).cell? ⟨w.heap.size,0,none⟩=some (.int .i64 0):=fun o=>(zab (zah K1 o)).1 0 _ rfl;have a1:∀o,(w1.alloc o).cell? ⟨w.heap.size,1,none⟩=some (.int .i64 0):=fun o=>(zab (zah K1 o)).1 1 _ rfl;have a2:∀o,(w1.alloc o).cell? ⟨w.heap.size,2,none⟩=some (.string ⟨#[]⟩):=fun o=>(zab (zah K1 o)).1 2 _ rfl;have g:∀o k,(w1.alloc o).frozen? ⟨w.heap.size,k,none⟩=false:=fun o k=>(zab (zah K1 o)).2 k;clear c f hc1 hf1;go_wp2;exact bodyPost_ret (v:=.tuple #[.agg #[.int .i64 0,.int .i64 0,.string ⟨#[]⟩],.int .i64 0]) (by simp[results,Tryz.results110,go_sem,qa15,hz,c0,c1,c2]) rfl ⟨rfl,by exact zw⟩
set_option maxHeartbeats 1600000 in
theorem zwj(s:ByteArray)(w:World)(hs:s.size≤1000000000)(h:Lx.fold (Lx.ls s)≠[110,117,108,108])(h0:0<s.size)(h1:s[0].toNat=39):
  Calls Tryz.prog 110 #[.string s] w fun e w'=>e=valE (Lx.zaq (Lx.ls s))∧Below w.heap.size w w':=by
 rw[Lx.zxa h h0 h1];obtain⟨r,hr⟩:∃r,r=Lx.bare (Lx.ls s):=⟨_,rfl⟩;rw[←hr];have HR:=qa58 hr;obtain⟨F,hF⟩:∃F,F=Lx.bs (Lx.fold (Lx.ls s)):=⟨_,rfl⟩;have HF:=qa58 hF;have hFs:F.size=s.size:=by rw[hF,Lx.zej]
 have HFS:=qa58 hFs;have hFl:F.size≤1000000000:=by omega
 have hq:(F.toList==[110,117,108,108])=false:=by rw[hF,Lx.bs_toList];simpa using h
 have d1:decide (0<(s.size:Int))=true:=qa49 (by omega);have d2:((s[0].toNat:Int)==39)=true:=by simp;omega
 have hbare:∀w,Calls Tryz.prog 133 #[.string s] w fun e w'=>e=optE (Lx.bare (Lx.ls s))∧w=w':=by
  intro w;cases hi:(Lx.zbv (Lx.ls s)).2 with
  |false=>exact bare_no s w hs hi
  |true=>
   by_cases h2:2≤s.size
   ·by_cases h3:s[s.size-1].toNat=39
    ·exact bare_yes s w hs h2 h1 h3
    ·rw[Lx.zg7 (.inr ⟨h0,.inr h3⟩)]at hi;cases hi
   ·rw[Lx.zg7 (.inl (by omega))]at hi;cases hi
 have HB:=qa58 hbare;clear hbare h hF hFs hr h1;go_enter Tryz.func110,Tryz.ntmps110;go_wp2_with fail;refine(zcz s _ hs).mono ?_;rintro e w1 ⟨rfl,hb1⟩;rw[←HF.out];have hB1:=zac (w:=w) zw hb1;obtain⟨hc1,hf1⟩:=zcb hb1;have K1:=zal (heap_alloc_new w _) hb1;have hz:=zfH K1;obtain⟨c,f⟩:=zab K1;have c0:=c 0 _ rfl;have c1:=c 1 _ rfl;have c2:=c 2 _ rfl;have f0:=f 0;have f1:=f 1;have f2:=f 2;have a0:∀o,(w1.alloc o).cell? ⟨w.heap.size,0,none⟩=some (.int .i64 0):=fun o=>(zab (zah K1 o)).1 0 _ rfl;have a1:∀o,(w1.alloc o).cell? ⟨w.heap.size,1,none⟩=some (.int .i64 0):=fun o=>(zab (zah K1 o)).1 1 _ rfl;have a2:∀o,(w1.alloc o).cell? ⟨w.heap.size,2,none⟩=some (.string ⟨#[]⟩):=fun o=>(zab (zah K1 o)).1 2 _ rfl;have g:∀o k,(w1.alloc o).frozen? ⟨w.heap.size,k,none⟩=false:=fun o k=>(zab (zah K1 o)).2 k;clear c f hc1 hf1;go_wp2_with fail;refine(HB.out _).mono ?_;rintro e w' ⟨rfl,rfl⟩;rw[←HR.out];unfold optE;cases r with
 |none=>
  go_wp2;exact bodyPost_ret (v:=.tuple #[.agg #[.int .i64 0,.int .i64 0,.string ⟨#[]⟩],.int .i64 8]) (by simp[results,Tryz.results110,go_sem,qa15,hz,c0,c1,c2]) rfl ⟨rfl,by exact zw⟩
 |some t=>
  by_cases hl:4096<t.length
  ·have d5:decide (4096 < (t.length:Int))=true:=qa49 (by omega);have HL:=qa58 hl;clear hl;go_wp2;exact bodyPost_ret (v:=.tuple #[.agg #[.int .i64 0,.int .i64 0,.string ⟨#[]⟩],.int .i64 3]) (by simp[results,Tryz.results110,go_sem,qa15,hz,c0,c1,c2]) rfl ⟨by rw[Lx.mkV];simp only[HL.out,qa60];rfl,by exact zw⟩
  ·have d5:decide (4096 < (t.length:Int))=false:=qa45 (by omega);have HL:=qa58 hl;clear hl;go_wp2;exact bodyPost_ret (v:=.tuple #[.agg #[.int .i64 2,.int .i64 0,.string (Lx.bs t)],.int .i64 0]) (by simp[results,Tryz.results110,go_sem,qa15,hz,c0,c1,c2]) rfl ⟨by rw[Lx.mkV];simp only[HL.out,qa59];rfl,by exact zw⟩
set_option maxHeartbeats 1600000 in
theorem runq_x(s:ByteArray)(w:World)(hs:s.size≤1000000000)(h:Lx.fold (Lx.ls s)≠[110,117,108,108])(h0:2<s.size)(h1:s[0].toNat≠39)(h2:(Lx.lo s[0]).toNat=120)(h3:s[1].toNat=39)(h4:s[s.size-1].toNat=39):
  Calls Tryz.prog 110 #[.string s] w fun e w'=>e=valE (Lx.zaq (Lx.ls s))∧Below w.heap.size w w':=by
 rw[Lx.unq_x h h0 h1 h2 h3 h4];have p0:0<s.size:=by omega
 obtain⟨F,hF⟩:∃F,F=Lx.bs (Lx.fold (Lx.ls s)):=⟨_,rfl⟩;have HF:=qa58 hF;have hFs:F.size=s.size:=by rw[hF,Lx.zej]
 have HFS:=qa58 hFs;have hFl:F.size≤1000000000:=by omega
 have hq:(F.toList==[110,117,108,108])=false:=by rw[hF,Lx.bs_toList];simpa using h
 have d1:decide (0<(s.size:Int))=true:=qa49 (by omega);have d2:((s[0].toNat:Int)==39)=false:=by simp;omega
 have l0:2<F.size:=by omega
 have d3:decide (2<(F.size:Int))=true:=qa49 (by omega);have q0:0<F.size:=by omega
 have q1:1<F.size:=by omega
 have q2:F.size-1<F.size:=by omega
 have e1:((F.size:Int)-1).toNat=F.size-1:=by omega
 have d4:(((F[0]'q0).toNat:Int)==120)=true:=by
  have:F[0]'q0=Lx.lo s[0]:=by subst hF;exact Lx.ze7 _
  rw[this,h2];rfl
 have d5:(((F[1]'q1).toNat:Int)==39)=true:=by
  have:F[1]'q1=Lx.lo s[1]:=by subst hF;exact Lx.ze7 _
  rw[this,(Lx.zyP _).2 h3];rfl
 have d6:(((F[F.size-1]'q2).toNat:Int)==39)=true:=by
  have:F[F.size - 1]'q2=Lx.lo (s[s.size - 1]'(by omega)):=by
   have h5:=Lx.ze7 (s:=s) (k:=s.size-1) (by omega);subst hF;rw[←h5];congr 1;rw[hFs]
  rw[this,(Lx.zyP _).2 h4];rfl
 rw[show Lx.bs (Lx.fold (Lx.ls s))=F from hF.symm,show s.size-1=F.size-1 from by omega];have hsl:(F.extract 2 (F.size-1)).size≤1000000000:=by rw[Lx.zbd _ _ _ (by omega)];omega
 have HSL:=qa58 hsl;obtain⟨r,hr⟩:∃r,r=Lx.zfl (Lx.ls (F.extract 2 (F.size-1))):=⟨_,rfl⟩;rw[←hr];have HR:=qa58 hr;clear h hF hFs hr h1 h2 h3 h4 hsl;go_enter Tryz.func110,Tryz.ntmps110;go_wp2_with fail;refine(zcz s _ hs).mono ?_;rintro e w1 ⟨rfl,hb1⟩;rw[←HF.out];have hB1:=zac (w:=w) zw hb1;obtain⟨hc1,hf1⟩:=zcb hb1;have K1:=zal (heap_alloc_new w _) hb1;have hz:=zfH K1;obtain⟨c,f⟩:=zab K1;have c0:=c 0 _ rfl;have c1:=c 1 _ rfl;have c2:=c 2 _ rfl;have f0:=f 0;have f1:=f 1;have f2:=f 2;have a0:∀o,(w1.alloc o).cell? ⟨w.heap.size,0,none⟩=some (.int .i64 0):=fun o=>(zab (zah K1 o)).1 0 _ rfl;have a1:∀o,(w1.alloc o).cell? ⟨w.heap.size,1,none⟩=some (.int .i64 0):=fun o=>(zab (zah K1 o)).1 1 _ rfl;have a2:∀o,(w1.alloc o).cell? ⟨w.heap.size,2,none⟩=some (.string ⟨#[]⟩):=fun o=>(zab (zah K1 o)).1 2 _ rfl;have g:∀o k,(w1.alloc o).frozen? ⟨w.heap.size,k,none⟩=false:=fun o k=>(zab (zah K1 o)).2 k;clear c f hc1 hf1;go_wp2_with fail;refine(zwm _ _ HSL.out).mono ?_;rintro e w3 ⟨rfl,hb3⟩;rw[←HR.out];unfold optE;have hB3:=zac (w:=w) zw hb3;obtain⟨hc3,hf3⟩:=zcb hb3;have K3:=zal (zah K1 _) hb3;have K4:=zal (heap_alloc_new w1 _) hb3;obtain⟨c,f⟩:=zab K3;have b0:=c 0 _ rfl;have b1:=c 1 _ rfl;have b2:=c 2 _ rfl;obtain⟨c',f'⟩:=zab K4;have v0:=c' 0 _ rfl;have v1:=c' 1 _ rfl;have v2:=c' 2 _ rfl;have hzn:w.heap.size≠w1.heap.size:=by omega
 have hzn':w1.heap.size≠w.heap.size:=by omega
 clear c c' hc3 hf3 a0 a1 a2 g;cases r with
 |none=>
  go_wp2;exact bodyPost_ret (v:=.tuple #[.agg #[.int .i64 0,.int .i64 0,.string ⟨#[]⟩],.int .i64 8]) (by simp[results,Tryz.results110,go_sem,qa15,hz,b0,b1,b2,hzn,hzn']) rfl ⟨rfl,by exact zw⟩
 |some t=>
  by_cases hl:4096<t.length
  ·have d5:decide (4096 < (t.length:Int))=true:=qa49 (by omega);have HL:=qa58 hl;clear hl;go_wp2;exact bodyPost_ret (v:=.tuple #[.agg #[.int .i64 0,.int .i64 0,.string ⟨#[]⟩],.int .i64 3]) (by simp[results,Tryz.results110,go_sem,qa15,hz,b0,b1,b2,hzn,hzn']) rfl ⟨by rw[Lx.mkV];simp only[HL.out,qa60];rfl,by exact zw⟩
  ·have d5:decide (4096 < (t.length:Int))=false:=qa45 (by omega);have HL:=qa58 hl;clear hl;go_wp2;exact bodyPost_ret (v:=.tuple #[.agg #[.int .i64 3,.int .i64 0,.string (Lx.bs t)],.int .i64 0]) (by simp[results,Tryz.results110,go_sem,qa15,hz,b0,b1,b2,hzn,hzn']) rfl ⟨by rw[Lx.mkV];simp only[HL.out,qa59];rfl,by exact zw⟩
set_option maxHeartbeats 1600000 in
theorem runq_n0(s:ByteArray)(w:World)(hs:s.size≤1000000000)(h:Lx.fold (Lx.ls s)≠[110,117,108,108])(h0:¬0<s.size)(hR:Lx.zaq (Lx.ls s)=if(Lx.read (Lx.ls s)).2≠0 then((0,0,[]),(Lx.read (Lx.ls s)).2)else((1,(Lx.read (Lx.ls s)).1,[]),0)):
  Calls Tryz.prog 110 #[.string s] w fun e w'=>e=valE (Lx.zaq (Lx.ls s))∧Below w.heap.size w w':=by
 rw[hR];obtain⟨r,hr⟩:∃r,r=Lx.read (Lx.ls s):=⟨_,rfl⟩;rw[←hr];have HR:=qa58 hr;obtain⟨F,hF⟩:∃F,F=Lx.bs (Lx.fold (Lx.ls s)):=⟨_,rfl⟩;have HF:=qa58 hF;have hFs:F.size=s.size:=by rw[hF,Lx.zej]
 have HFS:=qa58 hFs;have hFl:F.size≤1000000000:=by omega
 have hq:(F.toList==[110,117,108,108])=false:=by rw[hF,Lx.bs_toList];simpa using h
 have d1:decide (0<(s.size:Int))=false:=qa45 (by omega);have d3:decide (2<(F.size:Int))=false:=qa45 (by omega);clear h hF hFs hr hR;by_cases he:r.2=0
 ·have d9:(r.2 != 0)=false:=by simp [he]
  have HE:=qa58 he;rw[if_neg (by simp[he])];clear he;go_enter Tryz.func110,Tryz.ntmps110;go_wp2_with fail;refine(zcz s _ hs).mono ?_;rintro e w1 ⟨rfl,hb1⟩;rw[←HF.out];have hB1:=zac (w:=w) zw hb1;obtain⟨hc1,hf1⟩:=zcb hb1;have K1:=zal (heap_alloc_new w _) hb1;have hz:=zfH K1;obtain⟨c,f⟩:=zab K1;have c0:=c 0 _ rfl;have c1:=c 1 _ rfl;have c2:=c 2 _ rfl;have f0:=f 0;have f1:=f 1;have f2:=f 2;have a0:∀o,(w1.alloc o).cell? ⟨w.heap.size,0,none⟩=some (.int .i64 0):=fun o=>(zab (zah K1 o)).1 0 _ rfl;have a1:∀o,(w1.alloc o).cell? ⟨w.heap.size,1,none⟩=some (.int .i64 0):=fun o=>(zab (zah K1 o)).1 1 _ rfl;have a2:∀o,(w1.alloc o).cell? ⟨w.heap.size,2,none⟩=some (.string ⟨#[]⟩):=fun o=>(zab (zah K1 o)).1 2 _ rfl;have g:∀o k,(w1.alloc o).frozen? ⟨w.heap.size,k,none⟩=false:=fun o k=>(zab (zah K1 o)).2 k;clear c f hc1 hf1;go_wp2_with fail;refine(zee s _ hs).mono ?_;rintro e w' ⟨rfl,rfl⟩;rw[←HR.out];go_wp2;exact bodyPost_ret (v:=.tuple #[.agg #[.int .i64 1,.int .i64 r.1,.string ⟨#[]⟩],.int .i64 0]) (by simp[results,Tryz.results110,go_sem,qa15,hz,c0,c1,c2]) rfl ⟨rfl,by exact zw⟩
 ·have d9:(r.2 != 0)=true:=by simp [he]
  have HE:=qa58 he;rw[if_pos he];clear he;go_enter Tryz.func110,Tryz.ntmps110;go_wp2_with fail;refine(zcz s _ hs).mono ?_;rintro e w1 ⟨rfl,hb1⟩;rw[←HF.out];have hB1:=zac (w:=w) zw hb1;obtain⟨hc1,hf1⟩:=zcb hb1;have K1:=zal (heap_alloc_new w _) hb1;have hz:=zfH K1;obtain⟨c,f⟩:=zab K1;have c0:=c 0 _ rfl;have c1:=c 1 _ rfl;have c2:=c 2 _ rfl;have f0:=f 0;have f1:=f 1;have f2:=f 2;have a0:∀o,(w1.alloc o).cell? ⟨w.heap.size,0,none⟩=some (.int .i64 0):=fun o=>(zab (zah K1 o)).1 0 _ rfl;have a1:∀o,(w1.alloc o).cell? ⟨w.heap.size,1,none⟩=some (.int .i64 0):=fun o=>(zab (zah K1 o)).1 1 _ rfl;have a2:∀o,(w1.alloc o).cell? ⟨w.heap.size,2,none⟩=some (.string ⟨#[]⟩):=fun o=>(zab (zah K1 o)).1 2 _ rfl;have g:∀o k,(w1.alloc o).frozen? ⟨w.heap.size,k,none⟩=false:=fun o k=>(zab (zah K1 o)).2 k;clear c f hc1 hf1;go_wp2_with fail;refine(zee s _ hs).mono ?_;rintro e w' ⟨rfl,rfl⟩;rw[←HR.out];go_wp2;exact bodyPost_ret (v:=.tuple #[.agg #[.int .i64 0,.int .i64 0,.string ⟨#[]⟩],.int .i64 r.2]) (by simp[results,Tryz.results110,go_sem,qa15,hz,c0,c1,c2]) rfl ⟨rfl,by exact zw⟩
set_option maxHeartbeats 1600000 in
theorem runq_n1(s:ByteArray)(w:World)(hs:s.size≤1000000000)(h:Lx.fold (Lx.ls s)≠[110,117,108,108])(h0:0<s.size)(h1:s[0].toNat≠39)(h2:¬2<s.size)(hR:Lx.zaq (Lx.ls s)=if(Lx.read (Lx.ls s)).2≠0 then((0,0,[]),(Lx.read (Lx.ls s)).2)else((1,(Lx.read (Lx.ls s)).1,[]),0)):
  Calls Tryz.prog 110 #[.string s] w fun e w'=>e=valE (Lx.zaq (Lx.ls s))∧Below w.heap.size w w':=by
 rw[hR];obtain⟨r,hr⟩:∃r,r=Lx.read (Lx.ls s):=⟨_,rfl⟩;rw[←hr];have HR:=qa58 hr;obtain⟨F,hF⟩:∃F,F=Lx.bs (Lx.fold (Lx.ls s)):=⟨_,rfl⟩;have HF:=qa58 hF;have hFs:F.size=s.size:=by rw[hF,Lx.zej]
 have HFS:=qa58 hFs;have hFl:F.size≤1000000000:=by omega
 have hq:(F.toList==[110,117,108,108])=false:=by rw[hF,Lx.bs_toList];simpa using h
 have d1:decide (0<(s.size:Int))=true:=qa49 (by omega);have d2:((s[0].toNat:Int)==39)=false:=by simp;omega
 have d3:decide (2<(F.size:Int))=false:=qa45 (by omega);clear h hF hFs hr hR h1;by_cases he:r.2=0
 ·have d9:(r.2 != 0)=false:=by simp [he]
  have HE:=qa58 he;rw[if_neg (by simp[he])];clear he;go_enter Tryz.func110,Tryz.ntmps110;go_wp2_with fail;refine(zcz s _ hs).mono ?_;rintro e w1 ⟨rfl,hb1⟩;rw[←HF.out];have hB1:=zac (w:=w) zw hb1;obtain⟨hc1,hf1⟩:=zcb hb1;have K1:=zal (heap_alloc_new w _) hb1;have hz:=zfH K1;obtain⟨c,f⟩:=zab K1;have c0:=c 0 _ rfl;have c1:=c 1 _ rfl;have c2:=c 2 _ rfl;have f0:=f 0;have f1:=f 1;have f2:=f 2;have a0:∀o,(w1.alloc o).cell? ⟨w.heap.size,0,none⟩=some (.int .i64 0):=fun o=>(zab (zah K1 o)).1 0 _ rfl;have a1:∀o,(w1.alloc o).cell? ⟨w.heap.size,1,none⟩=some (.int .i64 0):=fun o=>(zab (zah K1 o)).1 1 _ rfl;have a2:∀o,(w1.alloc o).cell? ⟨w.heap.size,2,none⟩=some (.string ⟨#[]⟩):=fun o=>(zab (zah K1 o)).1 2 _ rfl;have g:∀o k,(w1.alloc o).frozen? ⟨w.heap.size,k,none⟩=false:=fun o k=>(zab (zah K1 o)).2 k;clear c f hc1 hf1;go_wp2_with fail;refine(zee s _ hs).mono ?_;rintro e w' ⟨rfl,rfl⟩;rw[←HR.out];go_wp2;exact bodyPost_ret (v:=.tuple #[.agg #[.int .i64 1,.int .i64 r.1,.string ⟨#[]⟩],.int .i64 0]) (by simp[results,Tryz.results110,go_sem,qa15,hz,c0,c1,c2]) rfl ⟨rfl,by exact zw⟩
 ·have d9:(r.2 != 0)=true:=by simp [he]
  have HE:=qa58 he;rw[if_pos he];clear he;go_enter Tryz.func110,Tryz.ntmps110;go_wp2_with fail;refine(zcz s _ hs).mono ?_;rintro e w1 ⟨rfl,hb1⟩;rw[←HF.out];have hB1:=zac (w:=w) zw hb1;obtain⟨hc1,hf1⟩:=zcb hb1;have K1:=zal (heap_alloc_new w _) hb1;have hz:=zfH K1;obtain⟨c,f⟩:=zab K1;have c0:=c 0 _ rfl;have c1:=c 1 _ rfl;have c2:=c 2 _ rfl;have f0:=f 0;have f1:=f 1;have f2:=f 2;have a0:∀o,(w1.alloc o).cell? ⟨w.heap.size,0,none⟩=some (.int .i64 0):=fun o=>(zab (zah K1 o)).1 0 _ rfl;have a1:∀o,(w1.alloc o).cell? ⟨w.heap.size,1,none⟩=some (.int .i64 0):=fun o=>(zab (zah K1 o)).1 1 _ rfl;have a2:∀o,(w1.alloc o).cell? ⟨w.heap.size,2,none⟩=some (.string ⟨#[]⟩):=fun o=>(zab (zah K1 o)).1 2 _ rfl;have g:∀o k,(w1.alloc o).frozen? ⟨w.heap.size,k,none⟩=false:=fun o k=>(zab (zah K1 o)).2 k;clear c f hc1 hf1;go_wp2_with fail;refine(zee s _ hs).mono ?_;rintro e w' ⟨rfl,rfl⟩;rw[←HR.out];go_wp2;exact bodyPost_ret (v:=.tuple #[.agg #[.int .i64 0,.int .i64 0,.string ⟨#[]⟩],.int .i64 r.2]) (by simp[results,Tryz.results110,go_sem,qa15,hz,c0,c1,c2]) rfl ⟨rfl,by exact zw⟩
set_option maxHeartbeats 1600000 in
theorem runq_n2(s:ByteArray)(w:World)(hs:s.size≤1000000000)(h:Lx.fold (Lx.ls s)≠[110,117,108,108])(h0:0<s.size)(h1:s[0].toNat≠39)(h2:2<s.size)(h3:(Lx.lo s[0]).toNat≠120)(hR:Lx.zaq (Lx.ls s)=if(Lx.read (Lx.ls s)).2≠0 then((0,0,[]),(Lx.read (Lx.ls s)).2)else((1,(Lx.read (Lx.ls s)).1,[]),0)):
  Calls Tryz.prog 110 #[.string s] w fun e w'=>e=valE (Lx.zaq (Lx.ls s))∧Below w.heap.size w w':=by
 rw[hR];obtain⟨r,hr⟩:∃r,r=Lx.read (Lx.ls s):=⟨_,rfl⟩;rw[←hr];have HR:=qa58 hr;obtain⟨F,hF⟩:∃F,F=Lx.bs (Lx.fold (Lx.ls s)):=⟨_,rfl⟩;have HF:=qa58 hF;have hFs:F.size=s.size:=by rw[hF,Lx.zej]
 have HFS:=qa58 hFs;have hFl:F.size≤1000000000:=by omega
 have hq:(F.toList==[110,117,108,108])=false:=by rw[hF,Lx.bs_toList];simpa using h
 have d1:decide (0<(s.size:Int))=true:=qa49 (by omega);have d2:((s[0].toNat:Int)==39)=false:=by simp;omega
 have d3:decide (2<(F.size:Int))=true:=qa49 (by omega);have q0:0<F.size:=by omega
 have q1:1<F.size:=by omega
 have q2:F.size-1<F.size:=by omega
 have e1:((F.size:Int)-1).toNat=F.size-1:=by omega
 have z0:F[0]'q0=Lx.lo s[0]:=by subst hF;exact Lx.ze7 _
 have z1:F[1]'q1=Lx.lo s[1]:=by subst hF;exact Lx.ze7 _
 have z2:F[F.size - 1]'q2=Lx.lo (s[s.size - 1]'(by omega)):=by
  have h5:=Lx.ze7 (s:=s) (k:=s.size-1) (by omega);subst hF;rw[←h5];congr 1;rw[hFs]
 have d4:(((F[0]'q0).toNat:Int)==120)=false:=by rw[z0];simp;omega
 clear h hF hFs hr hR h1 h3 z0 z1 z2;by_cases he:r.2=0
 ·have d9:(r.2 != 0)=false:=by simp [he]
  have HE:=qa58 he;rw[if_neg (by simp[he])];clear he;go_enter Tryz.func110,Tryz.ntmps110;go_wp2_with fail;refine(zcz s _ hs).mono ?_;rintro e w1 ⟨rfl,hb1⟩;rw[←HF.out];have hB1:=zac (w:=w) zw hb1;obtain⟨hc1,hf1⟩:=zcb hb1;have K1:=zal (heap_alloc_new w _) hb1;have hz:=zfH K1;obtain⟨c,f⟩:=zab K1;have c0:=c 0 _ rfl;have c1:=c 1 _ rfl;have c2:=c 2 _ rfl;have f0:=f 0;have f1:=f 1;have f2:=f 2;have a0:∀o,(w1.alloc o).cell? ⟨w.heap.size,0,none⟩=some (.int .i64 0):=fun o=>(zab (zah K1 o)).1 0 _ rfl;have a1:∀o,(w1.alloc o).cell? ⟨w.heap.size,1,none⟩=some (.int .i64 0):=fun o=>(zab (zah K1 o)).1 1 _ rfl;have a2:∀o,(w1.alloc o).cell? ⟨w.heap.size,2,none⟩=some (.string ⟨#[]⟩):=fun o=>(zab (zah K1 o)).1 2 _ rfl;have g:∀o k,(w1.alloc o).frozen? ⟨w.heap.size,k,none⟩=false:=fun o k=>(zab (zah K1 o)).2 k;clear c f hc1 hf1;go_wp2_with fail;refine(zee s _ hs).mono ?_;rintro e w' ⟨rfl,rfl⟩;rw[←HR.out];go_wp2;exact bodyPost_ret (v:=.tuple #[.agg #[.int .i64 1,.int .i64 r.1,.string ⟨#[]⟩],.int .i64 0]) (by simp[results,Tryz.results110,go_sem,qa15,hz,c0,c1,c2]) rfl ⟨rfl,by exact zw⟩
 ·have d9:(r.2 != 0)=true:=by simp [he]
  have HE:=qa58 he;rw[if_pos he];clear he;go_enter Tryz.func110,Tryz.ntmps110;go_wp2_with fail;refine(zcz s _ hs).mono ?_;rintro e w1 ⟨rfl,hb1⟩;rw[←HF.out];have hB1:=zac (w:=w) zw hb1;obtain⟨hc1,hf1⟩:=zcb hb1;have K1:=zal (heap_alloc_new w _) hb1;have hz:=zfH K1;obtain⟨c,f⟩:=zab K1;have c0:=c 0 _ rfl;have c1:=c 1 _ rfl;have c2:=c 2 _ rfl;have f0:=f 0;have f1:=f 1;have f2:=f 2;have a0:∀o,(w1.alloc o).cell? ⟨w.heap.size,0,none⟩=some (.int .i64 0):=fun o=>(zab (zah K1 o)).1 0 _ rfl;have a1:∀o,(w1.alloc o).cell? ⟨w.heap.size,1,none⟩=some (.int .i64 0):=fun o=>(zab (zah K1 o)).1 1 _ rfl;have a2:∀o,(w1.alloc o).cell? ⟨w.heap.size,2,none⟩=some (.string ⟨#[]⟩):=fun o=>(zab (zah K1 o)).1 2 _ rfl;have g:∀o k,(w1.alloc o).frozen? ⟨w.heap.size,k,none⟩=false:=fun o k=>(zab (zah K1 o)).2 k;clear c f hc1 hf1;go_wp2_with fail;refine(zee s _ hs).mono ?_;rintro e w' ⟨rfl,rfl⟩;rw[←HR.out];go_wp2;exact bodyPost_ret (v:=.tuple #[.agg #[.int .i64 0,.int .i64 0,.string ⟨#[]⟩],.int .i64 r.2]) (by simp[results,Tryz.results110,go_sem,qa15,hz,c0,c1,c2]) rfl ⟨rfl,by exact zw⟩
set_option maxHeartbeats 1600000 in
theorem runq_n3(s:ByteArray)(w:World)(hs:s.size≤1000000000)(h:Lx.fold (Lx.ls s)≠[110,117,108,108])(h0:0<s.size)(h1:s[0].toNat≠39)(h2:2<s.size)(h3:(Lx.lo s[0]).toNat=120)(h4:s[1].toNat≠39)(hR:Lx.zaq (Lx.ls s)=if(Lx.read (Lx.ls s)).2≠0 then((0,0,[]),(Lx.read (Lx.ls s)).2)else((1,(Lx.read (Lx.ls s)).1,[]),0)):
  Calls Tryz.prog 110 #[.string s] w fun e w'=>e=valE (Lx.zaq (Lx.ls s))∧Below w.heap.size w w':=by
 rw[hR];obtain⟨r,hr⟩:∃r,r=Lx.read (Lx.ls s):=⟨_,rfl⟩;rw[←hr];have HR:=qa58 hr;obtain⟨F,hF⟩:∃F,F=Lx.bs (Lx.fold (Lx.ls s)):=⟨_,rfl⟩;have HF:=qa58 hF;have hFs:F.size=s.size:=by rw[hF,Lx.zej]
 have HFS:=qa58 hFs;have hFl:F.size≤1000000000:=by omega
 have hq:(F.toList==[110,117,108,108])=false:=by rw[hF,Lx.bs_toList];simpa using h
 have d1:decide (0<(s.size:Int))=true:=qa49 (by omega);have d2:((s[0].toNat:Int)==39)=false:=by simp;omega
 have d3:decide (2<(F.size:Int))=true:=qa49 (by omega);have q0:0<F.size:=by omega
 have q1:1<F.size:=by omega
 have q2:F.size-1<F.size:=by omega
 have e1:((F.size:Int)-1).toNat=F.size-1:=by omega
 have z0:F[0]'q0=Lx.lo s[0]:=by subst hF;exact Lx.ze7 _
 have z1:F[1]'q1=Lx.lo s[1]:=by subst hF;exact Lx.ze7 _
 have z2:F[F.size - 1]'q2=Lx.lo (s[s.size - 1]'(by omega)):=by
  have h5:=Lx.ze7 (s:=s) (k:=s.size-1) (by omega);subst hF;rw[←h5];congr 1;rw[hFs]
 have d4:(((F[0]'q0).toNat:Int)==120)=true:=by rw[z0];simp;omega
 have d5:(((F[1]'q1).toNat:Int)==39)=false:=by
  have h5:=(not_congr (Lx.zyP s[1])).2 h4;rw[z1];simp;omega
 clear h hF hFs hr hR h1 h3 h4 z0 z1 z2;by_cases he:r.2=0
 ·have d9:(r.2 != 0)=false:=by simp [he]
  have HE:=qa58 he;rw[if_neg (by simp[he])];clear he;go_enter Tryz.func110,Tryz.ntmps110;go_wp2_with fail;refine(zcz s _ hs).mono ?_;rintro e w1 ⟨rfl,hb1⟩;rw[←HF.out];have hB1:=zac (w:=w) zw hb1;obtain⟨hc1,hf1⟩:=zcb hb1;have K1:=zal (heap_alloc_new w _) hb1;have hz:=zfH K1;obtain⟨c,f⟩:=zab K1;have c0:=c 0 _ rfl;have c1:=c 1 _ rfl;have c2:=c 2 _ rfl;have f0:=f 0;have f1:=f 1;have f2:=f 2;have a0:∀o,(w1.alloc o).cell? ⟨w.heap.size,0,none⟩=some (.int .i64 0):=fun o=>(zab (zah K1 o)).1 0 _ rfl;have a1:∀o,(w1.alloc o).cell? ⟨w.heap.size,1,none⟩=some (.int .i64 0):=fun o=>(zab (zah K1 o)).1 1 _ rfl;have a2:∀o,(w1.alloc o).cell? ⟨w.heap.size,2,none⟩=some (.string ⟨#[]⟩):=fun o=>(zab (zah K1 o)).1 2 _ rfl;have g:∀o k,(w1.alloc o).frozen? ⟨w.heap.size,k,none⟩=false:=fun o k=>(zab (zah K1 o)).2 k;clear c f hc1 hf1;go_wp2_with fail;refine(zee s _ hs).mono ?_;rintro e w' ⟨rfl,rfl⟩;rw[←HR.out];go_wp2;exact bodyPost_ret (v:=.tuple #[.agg #[.int .i64 1,.int .i64 r.1,.string ⟨#[]⟩],.int .i64 0]) (by simp[results,Tryz.results110,go_sem,qa15,hz,c0,c1,c2]) rfl ⟨rfl,by exact zw⟩
 ·have d9:(r.2 != 0)=true:=by simp [he]
  have HE:=qa58 he;rw[if_pos he];clear he;go_enter Tryz.func110,Tryz.ntmps110;go_wp2_with fail;refine(zcz s _ hs).mono ?_;rintro e w1 ⟨rfl,hb1⟩;rw[←HF.out];have hB1:=zac (w:=w) zw hb1;obtain⟨hc1,hf1⟩:=zcb hb1;have K1:=zal (heap_alloc_new w _) hb1;have hz:=zfH K1;obtain⟨c,f⟩:=zab K1;have c0:=c 0 _ rfl;have c1:=c 1 _ rfl;have c2:=c 2 _ rfl;have f0:=f 0;have f1:=f 1;have f2:=f 2;have a0:∀o,(w1.alloc o).cell? ⟨w.heap.size,0,none⟩=some (.int .i64 0):=fun o=>(zab (zah K1 o)).1 0 _ rfl;have a1:∀o,(w1.alloc o).cell? ⟨w.heap.size,1,none⟩=some (.int .i64 0):=fun o=>(zab (zah K1 o)).1 1 _ rfl;have a2:∀o,(w1.alloc o).cell? ⟨w.heap.size,2,none⟩=some (.string ⟨#[]⟩):=fun o=>(zab (zah K1 o)).1 2 _ rfl;have g:∀o k,(w1.alloc o).frozen? ⟨w.heap.size,k,none⟩=false:=fun o k=>(zab (zah K1 o)).2 k;clear c f hc1 hf1;go_wp2_with fail;refine(zee s _ hs).mono ?_;rintro e w' ⟨rfl,rfl⟩;rw[←HR.out];go_wp2;exact bodyPost_ret (v:=.tuple #[.agg #[.int .i64 0,.int .i64 0,.string ⟨#[]⟩],.int .i64 r.2]) (by simp[results,Tryz.results110,go_sem,qa15,hz,c0,c1,c2]) rfl ⟨rfl,by exact zw⟩
set_option maxHeartbeats 1600000 in
theorem runq_n4(s:ByteArray)(w:World)(hs:s.size≤1000000000)(h:Lx.fold (Lx.ls s)≠[110,117,108,108])(h0:0<s.size)(h1:s[0].toNat≠39)(h2:2<s.size)(h3:(Lx.lo s[0]).toNat=120)(h4:s[1].toNat=39)(h5:s[s.size-1].toNat≠39)(hR:Lx.zaq (Lx.ls s)=if(Lx.read (Lx.ls s)).2≠0 then((0,0,[]),(Lx.read (Lx.ls s)).2)else((1,(Lx.read (Lx.ls s)).1,[]),0)):
  Calls Tryz.prog 110 #[.string s] w fun e w'=>e=valE (Lx.zaq (Lx.ls s))∧Below w.heap.size w w':=by
 rw[hR];obtain⟨r,hr⟩:∃r,r=Lx.read (Lx.ls s):=⟨_,rfl⟩;rw[←hr];have HR:=qa58 hr;obtain⟨F,hF⟩:∃F,F=Lx.bs (Lx.fold (Lx.ls s)):=⟨_,rfl⟩;have HF:=qa58 hF;have hFs:F.size=s.size:=by rw[hF,Lx.zej]
 have HFS:=qa58 hFs;have hFl:F.size≤1000000000:=by omega
 have hq:(F.toList==[110,117,108,108])=false:=by rw[hF,Lx.bs_toList];simpa using h
 have d1:decide (0<(s.size:Int))=true:=qa49 (by omega);have d2:((s[0].toNat:Int)==39)=false:=by simp;omega
 have d3:decide (2<(F.size:Int))=true:=qa49 (by omega);have q0:0<F.size:=by omega
 have q1:1<F.size:=by omega
 have q2:F.size-1<F.size:=by omega
 have e1:((F.size:Int)-1).toNat=F.size-1:=by omega
 have z0:F[0]'q0=Lx.lo s[0]:=by subst hF;exact Lx.ze7 _
 have z1:F[1]'q1=Lx.lo s[1]:=by subst hF;exact Lx.ze7 _
 have z2:F[F.size - 1]'q2=Lx.lo (s[s.size - 1]'(by omega)):=by
  have h5:=Lx.ze7 (s:=s) (k:=s.size-1) (by omega);subst hF;rw[←h5];congr 1;rw[hFs]
 have d4:(((F[0]'q0).toNat:Int)==120)=true:=by rw[z0];simp;omega
 have d5:(((F[1]'q1).toNat:Int)==39)=true:=by
  have h5:=(Lx.zyP s[1]).2 h4;rw[z1];simp;omega
 have d6:(((F[F.size-1]'q2).toNat:Int)==39)=false:=by
  have h6:=(not_congr (Lx.zyP (s[s.size-1]'(by omega)))).2 h5;rw[z2];simp;omega
 clear h hF hFs hr hR h1 h3 h4 h5 z0 z1 z2;by_cases he:r.2=0
 ·have d9:(r.2 != 0)=false:=by simp [he]
  have HE:=qa58 he;rw[if_neg (by simp[he])];clear he;go_enter Tryz.func110,Tryz.ntmps110;go_wp2_with fail;refine(zcz s _ hs).mono ?_;rintro e w1 ⟨rfl,hb1⟩;rw[←HF.out];have hB1:=zac (w:=w) zw hb1;obtain⟨hc1,hf1⟩:=zcb hb1;have K1:=zal (heap_alloc_new w _) hb1;have hz:=zfH K1;obtain⟨c,f⟩:=zab K1;have c0:=c 0 _ rfl;have c1:=c 1 _ rfl;have c2:=c 2 _ rfl;have f0:=f 0;have f1:=f 1;have f2:=f 2;have a0:∀o,(w1.alloc o).cell? ⟨w.heap.size,0,none⟩=some (.int .i64 0):=fun o=>(zab (zah K1 o)).1 0 _ rfl;have a1:∀o,(w1.alloc o).cell? ⟨w.heap.size,1,none⟩=some (.int .i64 0):=fun o=>(zab (zah K1 o)).1 1 _ rfl;have a2:∀o,(w1.alloc o).cell? ⟨w.heap.size,2,none⟩=some (.string ⟨#[]⟩):=fun o=>(zab (zah K1 o)).1 2 _ rfl;have g:∀o k,(w1.alloc o).frozen? ⟨w.heap.size,k,none⟩=false:=fun o k=>(zab (zah K1 o)).2 k;clear c f hc1 hf1;go_wp2_with fail;refine(zee s _ hs).mono ?_;rintro e w' ⟨rfl,rfl⟩;rw[←HR.out];go_wp2;exact bodyPost_ret (v:=.tuple #[.agg #[.int .i64 1,.int .i64 r.1,.string ⟨#[]⟩],.int .i64 0]) (by simp[results,Tryz.results110,go_sem,qa15,hz,c0,c1,c2]) rfl ⟨rfl,by exact zw⟩
 ·have d9:(r.2 != 0)=true:=by simp [he]
  have HE:=qa58 he;rw[if_pos he];clear he;go_enter Tryz.func110,Tryz.ntmps110;go_wp2_with fail;refine(zcz s _ hs).mono ?_;rintro e w1 ⟨rfl,hb1⟩;rw[←HF.out];have hB1:=zac (w:=w) zw hb1;obtain⟨hc1,hf1⟩:=zcb hb1;have K1:=zal (heap_alloc_new w _) hb1;have hz:=zfH K1;obtain⟨c,f⟩:=zab K1;have c0:=c 0 _ rfl;have c1:=c 1 _ rfl;have c2:=c 2 _ rfl;have f0:=f 0;have f1:=f 1;have f2:=f 2;have a0:∀o,(w1.alloc o).cell? ⟨w.heap.size,0,none⟩=some (.int .i64 0):=fun o=>(zab (zah K1 o)).1 0 _ rfl;have a1:∀o,(w1.alloc o).cell? ⟨w.heap.size,1,none⟩=some (.int .i64 0):=fun o=>(zab (zah K1 o)).1 1 _ rfl;have a2:∀o,(w1.alloc o).cell? ⟨w.heap.size,2,none⟩=some (.string ⟨#[]⟩):=fun o=>(zab (zah K1 o)).1 2 _ rfl;have g:∀o k,(w1.alloc o).frozen? ⟨w.heap.size,k,none⟩=false:=fun o k=>(zab (zah K1 o)).2 k;clear c f hc1 hf1;go_wp2_with fail;refine(zee s _ hs).mono ?_;rintro e w' ⟨rfl,rfl⟩;rw[←HR.out];go_wp2;exact bodyPost_ret (v:=.tuple #[.agg #[.int .i64 0,.int .i64 0,.string ⟨#[]⟩],.int .i64 r.2]) (by simp[results,Tryz.results110,go_sem,qa15,hz,c0,c1,c2]) rfl ⟨rfl,by exact zw⟩
theorem zsw(s:ByteArray)(w:World)(hs:s.size≤1000000000):
  Calls Tryz.prog 110 #[.string s] w fun e w'=>e=valE (Lx.zaq (Lx.ls s))∧Below w.heap.size w w':=by
 by_cases h:Lx.fold (Lx.ls s)=[110,117,108,108]
 ·exact zxD s w hs h
 ·by_cases h0:0<s.size
  ·by_cases h1:s[0].toNat=39
   ·exact zwj s w hs h h0 h1
   ·by_cases h2:2<s.size
    ·by_cases h3:(Lx.lo s[0]).toNat=120
     ·by_cases h4:s[1].toNat=39
      ·by_cases h5:s[s.size-1].toNat=39
       ·exact runq_x s w hs h h2 h1 h3 h4 h5
       ·exact runq_n4 s w hs h h0 h1 h2 h3 h4 h5 (Lx.zlz h (.inr ⟨h0,h1⟩) (fun⟨_,_,_,b⟩=>h5 b))
      ·exact runq_n3 s w hs h h0 h1 h2 h3 h4 (Lx.zlz h (.inr ⟨h0,h1⟩) (fun⟨_,_,b,_⟩=>h4 b))
     ·exact runq_n2 s w hs h h0 h1 h2 h3 (Lx.zlz h (.inr ⟨h0,h1⟩) (fun⟨_,b,_,_⟩=>h3 b))
    ·exact runq_n1 s w hs h h0 h1 h2 (Lx.zlz h (.inr ⟨h0,h1⟩) (fun⟨b,_⟩=>h2 b))
  ·exact runq_n0 s w hs h h0 (Lx.zlz h (.inl (by omega)) (fun⟨b,_⟩=>h0 (by omega)))
end
section
open Go.RowKit
attribute [local simp] Lx.zaD
def OneE(r:Lx.TR)(k:Nat)(e:Ending):Prop:=
 ∃(t:Lx.T)(j:Int),e=.returned (.tuple #[.agg #[.int .i64 t.kind,.string (Lx.bs t.text),.int .i64 t.val.1,.int .i64 t.val.2.1,.string (Lx.bs t.val.2.2),.int .i64 j],.int .i64 r.1])∧(r.1=0→t=r.2.1∧j=(k:Int))
theorem zlv{r:Lx.TR}{k:Nat}{e:Ending}(h:r.1=0)(he:e=.returned (.tuple #[.agg #[.int .i64 r.2.1.kind,.string (Lx.bs r.2.1.text),.int .i64 r.2.1.val.1,.int .i64 r.2.1.val.2.1,.string (Lx.bs r.2.1.val.2.2),.int .i64 (k:Int)],.int .i64 0])):OneE r k e:=
 ⟨r.2.1,k,by rw[he,h],fun _=>⟨rfl,rfl⟩⟩
theorem zj8{r:Lx.TR}{k:Nat}{e:Ending}(h:r.1≠0)(he:e=.returned (.tuple #[.agg #[.int .i64 0,.string ⟨#[]⟩,.int .i64 0,.int .i64 0,.string ⟨#[]⟩,.int .i64 0],.int .i64 r.1])):OneE r k e:=
 ⟨⟨0,[],(0,0,[])⟩,0,he,fun h'=>absurd h' h⟩
theorem zpX(s:ByteArray)(k:Nat)(w:World):
  Calls Tryz.prog 70 #[.string s,.int .i64 k,.int .i64 (-1)] w fun e w'=>e=.returned (.tuple #[.agg #[.int .i64 0,.string ⟨#[]⟩,.int .i64 0,.int .i64 0,.string ⟨#[]⟩,.int .i64 0],.int .i64 8])∧Below w.heap.size w w':=by
 go_enter Tryz.func70,Tryz.ntmps70;go_wp2;refine za7 (B:=w.heap.size) Tryz.results70 Tryz.underlying56 (by kernel_rfl) rfl (heap_alloc_new w _) rfl ⟨rfl,by exact zw⟩
set_option maxHeartbeats 1000000 in
theorem zpY(s:ByteArray)(k n:Nat)(x:Int)(w:World)(hs:s.size≤1000000000)(hn:k+n≤s.size)(hx:x=((k+n:Nat):Int)):
  Calls Tryz.prog 70 #[.string s,.int .i64 k,.int .i64 x] w fun e w'=>(e=.returned (.tuple #[.agg #[.int .i64 3,.string (Lx.bs ((Lx.suf s k).take n)),.int .i64 (Lx.zaq ((Lx.suf s k).take n)).1.1,.int .i64 (Lx.zaq ((Lx.suf s k).take n)).1.2.1,.string (Lx.bs (Lx.zaq ((Lx.suf s k).take n)).1.2.2),.int .i64 (k:Int)],.int .i64 (Lx.zaq ((Lx.suf s k).take n)).2]))∧Below w.heap.size w w':=by
 subst hx;have hsl:s.extract k (k+n)=Lx.bs ((Lx.suf s k).take n):=by rw[Lx.zbp,qa14];rfl
 have hll:(Lx.bs ((Lx.suf s k).take n)).size≤1000000000:=by rw[Lx.zaD,qa38,Lx.zaj];omega
 obtain⟨t,ht⟩:∃t,t=(Lx.suf s k).take n:=⟨_,rfl⟩;rw[←ht]at hsl hll ⊢;obtain⟨v,hv⟩:∃v,v=Lx.zaq t:=⟨_,rfl⟩;rw[←hv];have HV:=qa58 hv;have HS:=qa58 hsl;have HL:=qa58 hll;clear hv hsl hll ht;obtain⟨m,hm⟩:∃m,m=k+n:=⟨_,rfl⟩;rw[←hm]at hn HS ⊢;have hm1:k≤m:=by omega
 clear hm;have d1:decide ((m:Int)<0)=false:=qa45 (by omega);go_enter Tryz.func70,Tryz.ntmps70;go_wp2_with fail;rw[HS.out];refine(zsw _ _ HL.out).mono ?_;rintro e w1 ⟨rfl,hb1⟩;rw[Lx.zcn,←HV.out];unfold valE;have hB1:=zac (w:=w) zw hb1;obtain⟨hc1,hf1⟩:=zcb hb1;have K1:=zal (heap_alloc_new w _) hb1;go_wp2;have K2:=zah K1 (.cells #[.int .i64 v.1.1,.int .i64 v.1.2.1,.string (Lx.bs v.1.2.2)] 44);have K3:=heap_alloc_new w1 (.cells #[.int .i64 v.1.1,.int .i64 v.1.2.1,.string (Lx.bs v.1.2.2)] 44);have hb2:Below w.heap.size w (w1.alloc (.cells #[.int .i64 v.1.1,.int .i64 v.1.2.1,.string (Lx.bs v.1.2.2)] 44)):=by exact zw
 have hs0:=HS.out;obtain⟨B2,hB2⟩:∃B,B=w1.heap.size:=⟨_,rfl⟩;have hlt:=zfH K1;rw[←hB2]at K3 hlt ⊢;generalize hw2:w1.alloc (.cells #[.int .i64 v.1.1,.int .i64 v.1.2.1,.string (Lx.bs v.1.2.2)] 44)=w2 at K2 K3 hb2 ⊢;have K1:=K2;have K1':=K2;obtain⟨c,f⟩:=zab K1;have c0:=c 0 _ rfl;have c1:=c 1 _ rfl;have c2:=c 2 _ rfl;have c3:=c 3 _ rfl;have c4:=c 4 _ rfl;have c5:=c 5 _ rfl;have f0:=f 0;have f1:=f 1;have f2:=f 2;have f3:=f 3;have f4:=f 4;have f5:=f 5;clear c f;obtain⟨c',f'⟩:=zab K3;have v0:=c' 0 _ rfl;have v1:=c' 1 _ rfl;have v2:=c' 2 _ rfl;clear c' f' hc1 hf1 hB2 hw2 K1 K2 K3 hb1 hB1;go_region;go_wp2;refine za7 (B:=w.heap.size) Tryz.results70 Tryz.underlying56 (by kernel_rfl) rfl (zrR (zc9 K1' _ _ _ _ _ _)) rfl ⟨?_,by exact zw⟩;rfl
set_option maxHeartbeats 1000000 in
theorem zsS(s:ByteArray)(k:Nat)(w:World)(hs:s.size≤1000000000)(hk:k<s.size)(hc:s[k].toNat=39)(hq:Lx.qEnd (Lx.suf s (k+1))=none):
  Calls Tryz.prog 31 #[.string s,.int .i64 k] w fun e w'=>OneE (Lx.tok (Lx.suf s k)) k e∧Below w.heap.size w w':=by
 have e39:s[k]=39:=Lx.u8_of (n:=39) (by omega) hc;have hT:Lx.tok (Lx.suf s k)=Lx.bad 8:=by
  have hl:Lx.let_ s[k]=false:=by rw[e39];rfl
  have hdg:Lx.dig s[k]=false:=by rw[e39];rfl
  rw[Lx.zaf hk,Lx.tok];simp only[hl,hdg,qb0];rw[if_pos (by rw[e39];rfl),hq];rfl
 rw[hT];have hsh:Lx.shift (Lx.qEnd (Lx.suf s (k+1))) (k+1)=none:=by rw[hq];rfl
 have d1:((s[k].toNat:Int)==39)=true:=by rw[hc];rfl
 have HQ:=qa58 hsh;clear hT e39 hc hq hsh;go_enter Tryz.func31,Tryz.ntmps31;go_wp2_with fail;refine(zm4 s k _ hs hk).mono ?_;rintro e w' ⟨rfl,rfl⟩;rw[HQ.out];unfold zp7;go_wp2_with fail;refine(zpX s k _).mono ?_;rintro e w1 ⟨rfl,hb1⟩;have hB1:=zac (w:=w) zw hb1;obtain⟨hc1,hf1⟩:=zcb hb1;have K0:=zal (heap_alloc_new w _) hb1;have K1:=K0;have K1':=K1;obtain⟨c,f⟩:=zab K1;have c0:=c 0 _ rfl;have c1:=c 1 _ rfl;have c2:=c 2 _ rfl;have c3:=c 3 _ rfl;have c4:=c 4 _ rfl;have c5:=c 5 _ rfl;have f0:=f 0;have f1:=f 1;have f2:=f 2;have f3:=f 3;have f4:=f 4;have f5:=f 5;clear c f;clear K1;clear hc1 hf1;go_wp2;refine za7 (B:=w.heap.size) Tryz.results31 Tryz.underlying56 (by kernel_rfl) rfl (zc9 K1' _ _ _ _ _ _) rfl ⟨?_,by exact zw⟩;exact zj8 (by decide) rfl
set_option maxHeartbeats 1000000 in
theorem zsR(s:ByteArray)(k:Nat)(w:World)(hs:s.size≤1000000000)(hk:k<s.size)(hc:s[k].toNat=39)(n:Nat)(hq:(Lx.qEnd (Lx.suf s (k+1))).map (·+1)=some n)(hn:k+n≤s.size):
  Calls Tryz.prog 31 #[.string s,.int .i64 k] w fun e w'=>OneE (Lx.tok (Lx.suf s k)) k e∧Below w.heap.size w w':=by
 have e39:s[k]=39:=Lx.u8_of (n:=39) (by omega) hc;have hT:Lx.tok (Lx.suf s k)=Lx.valT (Lx.suf s k) n:=by
  have hl:Lx.let_ s[k]=false:=by rw[e39];rfl
  have hdg:Lx.dig s[k]=false:=by rw[e39];rfl
  rw[Lx.zaf hk,Lx.tok];simp only[hl,hdg,qb0];rw[if_pos (by rw[e39];rfl),hq];rfl
 rw[hT];obtain⟨r,hr⟩:∃r,r=Lx.valT (Lx.suf s k) n:=⟨_,rfl⟩;rw[←hr];have HR:=qa58 hr;obtain⟨v,hv⟩:∃v,v=Lx.zaq ((Lx.suf s k).take n):=⟨_,rfl⟩;have HV:=qa58 hv;clear hr hv;have hsh:Lx.shift (Lx.qEnd (Lx.suf s (k+1))) (k+1)=some (k+n):=by
  cases h:Lx.qEnd (Lx.suf s (k+1))with
  |none=>rw[h]at hq;cases hq
  |some q=>rw[h]at hq;simp at hq;simp[Lx.shift];omega
 have d1:((s[k].toNat:Int)==39)=true:=by rw[hc];rfl
 have HQ:=qa58 hsh;clear hT e39 hc hq hsh;go_enter Tryz.func31,Tryz.ntmps31;go_wp2_with fail;refine(zm4 s k _ hs hk).mono ?_;rintro e w' ⟨rfl,rfl⟩;rw[HQ.out];unfold zp7;go_wp2_with fail;refine(zpY s k n _ _ hs (by omega) (by omega)).mono ?_;rintro e w1 ⟨rfl,hb1⟩;rw[←HV.out];have hB1:=zac (w:=w) zw hb1;obtain⟨hc1,hf1⟩:=zcb hb1;have K0:=zal (heap_alloc_new w _) hb1;have K1:=K0;have K1':=K1;obtain⟨c,f⟩:=zab K1;have c0:=c 0 _ rfl;have c1:=c 1 _ rfl;have c2:=c 2 _ rfl;have c3:=c 3 _ rfl;have c4:=c 4 _ rfl;have c5:=c 5 _ rfl;have f0:=f 0;have f1:=f 1;have f2:=f 2;have f3:=f 3;have f4:=f 4;have f5:=f 5;clear c f;clear K1;clear hc1 hf1;go_wp2;refine za7 (B:=w.heap.size) Tryz.results31 Tryz.underlying56 (by kernel_rfl) rfl (zc9 K1' _ _ _ _ _ _) rfl ⟨?_,by exact zw⟩;by_cases he:v.2=0
 ·refine zlv (by rw [HR.out];simp [Lx.valT,← HV.out,he]) ?_;rw[HR.out];simp[Lx.valT,←HV.out,he]
 ·have e1:r.1=v.2:=by rw [HR.out];simp [Lx.valT,← HV.out,he,Lx.bad]
  refine⟨⟨3,(Lx.suf s k).take n,v.1⟩,(k:Int), ?_,fun h=>absurd (e1.symm.trans h) he⟩;rw[e1];rfl
set_option maxHeartbeats 1000000 in
theorem zrt(s:ByteArray)(k:Nat)(w:World)(hs:s.size≤1000000000)(hk:k<s.size)(hx:s[k].toNat=120∨s[k].toNat=88)(hl2:k+1<s.size)(h39:s[k+1].toNat=39)(hq:Lx.bEnd (Lx.suf s (k+2))=none):
  Calls Tryz.prog 31 #[.string s,.int .i64 k] w fun e w'=>OneE (Lx.tok (Lx.suf s k)) k e∧Below w.heap.size w w':=by
 have hl:Lx.let_ s[k]=true:=by simp[Lx.let_];omega
 have hT:Lx.tok (Lx.suf s k)=Lx.bad 8:=by
  have hd:(Lx.suf s k).drop 2=Lx.suf s (k+2):=by rw[Lx.zdg,Lx.zdg,qa51]
  have hb':=Lx.zkj hl2 hx h39;rw[Lx.zaf hk]at hb' hd ⊢;rw[Lx.tok];simp only[hl,qa60,hb',hd,hq];rfl
 rw[hT];have hsh:Lx.shift (Lx.bEnd (Lx.suf s (k+1+1))) (k+1+1)=none:=by rw[show k+1+1=k+2 from rfl,hq];rfl
 have d0:((s[k].toNat:Int)==39)=false:=by simp;omega
 have d3:((s[k+1].toNat:Int)==39)=true:=by rw[h39];rfl
 have d2:decide ((k:Int)+1<(s.size:Int))=true:=qa49 (by omega);have HQ:=qa58 hsh;have dd:((s[k].toNat:Int)==120)=true∨((s[k].toNat:Int)==120)=false∧((s[k].toNat:Int)==88)=true:=by
  rcases hx with h|h
  ·left;rw[h];rfl
  ·right;rw[h];exact⟨rfl,rfl⟩
 clear hT h39 hq hsh hl hx;rcases dd with d1|⟨d1,d1'⟩;all_goals
  go_enter Tryz.func31,Tryz.ntmps31;go_wp2_with fail;refine(zlL s (k+1) _ hs (by omega)).mono ?_;rintro e w' ⟨rfl,rfl⟩;rw[HQ.out];unfold zp7;go_wp2_with fail;refine(zpX s k _).mono ?_;rintro e w1 ⟨rfl,hb1⟩;have hB1:=zac (w:=w) zw hb1;obtain⟨hc1,hf1⟩:=zcb hb1;have K0:=zal (heap_alloc_new w _) hb1;have K1:=K0;have K1':=K1;obtain⟨c,f⟩:=zab K1;have c0:=c 0 _ rfl;have c1:=c 1 _ rfl;have c2:=c 2 _ rfl;have c3:=c 3 _ rfl;have c4:=c 4 _ rfl;have c5:=c 5 _ rfl;have f0:=f 0;have f1:=f 1;have f2:=f 2;have f3:=f 3;have f4:=f 4;have f5:=f 5;clear c f;clear K1;clear hc1 hf1;go_wp2;refine za7 (B:=w.heap.size) Tryz.results31 Tryz.underlying56 (by kernel_rfl) rfl (zc9 K1' _ _ _ _ _ _) rfl ⟨?_,by exact zw⟩;exact zj8 (by decide) rfl
set_option maxHeartbeats 1000000 in
theorem zrs(s:ByteArray)(k:Nat)(w:World)(hs:s.size≤1000000000)(hk:k<s.size)(hx:s[k].toNat=120∨s[k].toNat=88)(hl2:k+1<s.size)(h39:s[k+1].toNat=39)(n:Nat)(hq:(Lx.bEnd (Lx.suf s (k+2))).map (·+2)=some n)(hn:k+n≤s.size):
  Calls Tryz.prog 31 #[.string s,.int .i64 k] w fun e w'=>OneE (Lx.tok (Lx.suf s k)) k e∧Below w.heap.size w w':=by
 have hl:Lx.let_ s[k]=true:=by simp[Lx.let_];omega
 have hT:Lx.tok (Lx.suf s k)=Lx.valT (Lx.suf s k) n:=by
  have hd:(Lx.suf s k).drop 2=Lx.suf s (k+2):=by rw[Lx.zdg,Lx.zdg,qa51]
  have hb':=Lx.zkj hl2 hx h39;rw[Lx.zaf hk]at hb' hd ⊢;rw[Lx.tok];simp only[hl,qa60,hb',hd,hq];rfl
 rw[hT];obtain⟨r,hr⟩:∃r,r=Lx.valT (Lx.suf s k) n:=⟨_,rfl⟩;rw[←hr];have HR:=qa58 hr;obtain⟨v,hv⟩:∃v,v=Lx.zaq ((Lx.suf s k).take n):=⟨_,rfl⟩;have HV:=qa58 hv;clear hr hv;have hsh:Lx.shift (Lx.bEnd (Lx.suf s (k+1+1))) (k+1+1)=some (k+n):=by
  rw[show k+1+1=k+2 from rfl];cases h:Lx.bEnd (Lx.suf s (k+2))with
  |none=>rw[h]at hq;cases hq
  |some q=>rw[h]at hq;simp at hq;simp[Lx.shift];omega
 have d0:((s[k].toNat:Int)==39)=false:=by simp;omega
 have d3:((s[k+1].toNat:Int)==39)=true:=by rw[h39];rfl
 have d2:decide ((k:Int)+1<(s.size:Int))=true:=qa49 (by omega);have HQ:=qa58 hsh;have dd:((s[k].toNat:Int)==120)=true∨((s[k].toNat:Int)==120)=false∧((s[k].toNat:Int)==88)=true:=by
  rcases hx with h|h
  ·left;rw[h];rfl
  ·right;rw[h];exact⟨rfl,rfl⟩
 clear hT h39 hq hsh hl hx;rcases dd with d1|⟨d1,d1'⟩;all_goals
  go_enter Tryz.func31,Tryz.ntmps31;go_wp2_with fail;refine(zlL s (k+1) _ hs (by omega)).mono ?_;rintro e w' ⟨rfl,rfl⟩;rw[HQ.out];unfold zp7;go_wp2_with fail;refine(zpY s k n _ _ hs (by omega) (by omega)).mono ?_;rintro e w1 ⟨rfl,hb1⟩;rw[←HV.out];have hB1:=zac (w:=w) zw hb1;obtain⟨hc1,hf1⟩:=zcb hb1;have K0:=zal (heap_alloc_new w _) hb1;have K1:=K0;have K1':=K1;obtain⟨c,f⟩:=zab K1;have c0:=c 0 _ rfl;have c1:=c 1 _ rfl;have c2:=c 2 _ rfl;have c3:=c 3 _ rfl;have c4:=c 4 _ rfl;have c5:=c 5 _ rfl;have f0:=f 0;have f1:=f 1;have f2:=f 2;have f3:=f 3;have f4:=f 4;have f5:=f 5;clear c f;clear K1;clear hc1 hf1;go_wp2;refine za7 (B:=w.heap.size) Tryz.results31 Tryz.underlying56 (by kernel_rfl) rfl (zc9 K1' _ _ _ _ _ _) rfl ⟨?_,by exact zw⟩;by_cases he:v.2=0
  ·refine zlv (by rw [HR.out];simp [Lx.valT,← HV.out,he]) ?_;rw[HR.out];simp[Lx.valT,←HV.out,he]
  ·have e1:r.1=v.2:=by rw [HR.out];simp [Lx.valT,← HV.out,he,Lx.bad]
   refine⟨⟨3,(Lx.suf s k).take n,v.1⟩,(k:Int), ?_,fun h=>absurd (e1.symm.trans h) he⟩;rw[e1];rfl
end
section
open Go.RowKit
attribute [local simp] Lx.zaD
set_option maxHeartbeats 1000000 in
theorem zpx(s:ByteArray)(k:Nat)(w:World)(hs:s.size≤1000000000)(hk:k<s.size)(hdg:Lx.dig s[k]=true)(n:Nat)(hn0:n=Lx.many Lx.dig (Lx.suf s k))(he:k+n<s.size)(hle:Lx.let_ s[k+n]=true):
  Calls Tryz.prog 31 #[.string s,.int .i64 k] w fun e w'=>OneE (Lx.tok (Lx.suf s k)) k e∧Below w.heap.size w w':=by
 have hdi:=Lx.zhx.1 hdg;have hl:Lx.let_ s[k]=false:=by simp[Lx.let_];omega
 have hT:Lx.tok (Lx.suf s k)=Lx.numT (Lx.suf s k) n:=by
  rw[hn0,Lx.zaf hk,Lx.tok];simp only[hl,hdg,qa20,qa60,qa59]
 have hd:(Lx.suf s k).drop n=Lx.suf s (k+n):=by rw[Lx.zdg,Lx.zdg,qa51]
 have hh:(Lx.suf s (k+n)).head?.any Lx.let_=true:=by rw[Lx.zaf he];exact hle
 rw[hT,Lx.numT,hd,hh];rw[if_pos rfl];have hml:=Lx.zdC Lx.dig (Lx.suf s k);rw[Lx.zaj,←hn0]at hml;obtain⟨m,hm⟩:∃m,m=k+n:=⟨_,rfl⟩;have HM:Hid (m=k+Lx.many Lx.dig (Lx.suf s k)):=by unfold Hid;rw[hm,hn0]
 have HM2:=qa58 hm;have hm1:k≤m:=by omega
 have hm2:m≤s.size:=by omega
 have hlt:m<s.size:=by omega
 have hle':Lx.let_ s[m]=true:=by subst hm;exact hle
 have HLE:=qa58 hle';have d1:decide ((m:Int)<(s.size:Int))=true:=qa49 (by omega);have x0:((s[k].toNat:Int)==39)=false:=by simp;omega
 have x1:((s[k].toNat:Int)==120)=false:=by simp;omega
 have x2:((s[k].toNat:Int)==88)=false:=by simp;omega
 have HDIG:=qa58 hdg;clear hl hdg hdi hT hd hh hm hn0 hml he hle hle';go_enter Tryz.func31,Tryz.ntmps31;go_wp2_with fail;refine(zb4 _ _).mono ?_;rintro e w' ⟨rfl,rfl⟩;rw[HDIG.out];go_wp2_with fail;refine(ztS s k _ hs (by omega)).mono ?_;rintro e w' ⟨rfl,rfl⟩;rw[←HM.out];go_wp2_with fail;refine(zdw _ _).mono ?_;rintro e w' ⟨rfl,rfl⟩;rw[HLE.out];go_wp2;refine za7 (B:=w.heap.size) Tryz.results31 Tryz.underlying56 (by kernel_rfl) rfl (heap_alloc_new w _) rfl ⟨?_,by exact zw⟩;exact zj8 (by decide) rfl
set_option maxHeartbeats 1000000 in
theorem zws(s:ByteArray)(k:Nat)(w:World)(hs:s.size≤1000000000)(hk:k<s.size)(hdg:Lx.dig s[k]=true)(n:Nat)(hn0:n=Lx.many Lx.dig (Lx.suf s k))(he:k+n<s.size)(hle:Lx.let_ s[k+n]=false):
  Calls Tryz.prog 31 #[.string s,.int .i64 k] w fun e w'=>OneE (Lx.tok (Lx.suf s k)) k e∧Below w.heap.size w w':=by
 have hdi:=Lx.zhx.1 hdg;have hl:Lx.let_ s[k]=false:=by simp[Lx.let_];omega
 have hT:Lx.tok (Lx.suf s k)=Lx.numT (Lx.suf s k) n:=by
  rw[hn0,Lx.zaf hk,Lx.tok];simp only[hl,hdg,qa20,qa60,qa59]
 have hd:(Lx.suf s k).drop n=Lx.suf s (k+n):=by rw[Lx.zdg,Lx.zdg,qa51]
 have hh:(Lx.suf s (k+n)).head?.any Lx.let_=false:=by rw[Lx.zaf he];exact hle
 rw[hT,Lx.numT,hd,hh];rw[if_neg (by decide)];have hml:=Lx.zdC Lx.dig (Lx.suf s k);rw[Lx.zaj,←hn0]at hml;obtain⟨m,hm⟩:∃m,m=k+n:=⟨_,rfl⟩;have HM:Hid (m=k+Lx.many Lx.dig (Lx.suf s k)):=by unfold Hid;rw[hm,hn0]
 have HM2:=qa58 hm;have hm1:k≤m:=by omega
 have hm2:m≤s.size:=by omega
 have hlt:m<s.size:=by omega
 have hle':Lx.let_ s[m]=false:=by subst hm;exact hle
 have HLE:=qa58 hle';have d1:decide ((m:Int)<(s.size:Int))=true:=qa49 (by omega);have hsl:s.extract k m=Lx.bs ((Lx.suf s k).take n):=by rw[Lx.zbp,hm,qa14];rfl
 have hst:(Lx.bs ((Lx.suf s k).take n)).size≤1000000000:=by rw[Lx.zaD,qa38,Lx.zaj];omega
 obtain⟨t,ht⟩:∃t,t=(Lx.suf s k).take n:=⟨_,rfl⟩;rw[←ht]at hsl hst ⊢;have HS:=qa58 hsl;have HST:=qa58 hst;obtain⟨v,hv⟩:∃v,v=Lx.read t:=⟨_,rfl⟩;rw[←hv];have HV:=qa58 hv;obtain⟨r,hr⟩:∃r:Lx.TR,r=if v.2=0 then(0,⟨3,t,(1,v.1,[])⟩,n)else Lx.bad v.2:=⟨_,rfl⟩;rw[←hr];have HR:=qa58 hr;clear hsl hst hv ht hr;have x0:((s[k].toNat:Int)==39)=false:=by simp;omega
 have x1:((s[k].toNat:Int)==120)=false:=by simp;omega
 have x2:((s[k].toNat:Int)==88)=false:=by simp;omega
 have HDIG:=qa58 hdg;clear hl hdg hdi hT hd hh hm hn0 hml he hle hle';go_enter Tryz.func31,Tryz.ntmps31;go_wp2_with fail;refine(zb4 _ _).mono ?_;rintro e w' ⟨rfl,rfl⟩;rw[HDIG.out];go_wp2_with fail;refine(ztS s k _ hs (by omega)).mono ?_;rintro e w' ⟨rfl,rfl⟩;rw[←HM.out];go_wp2_with fail;refine(zdw _ _).mono ?_;rintro e w' ⟨rfl,rfl⟩;rw[HLE.out];go_wp2_with fail;rw[HS.out];refine(zee _ _ HST.out).mono ?_;rintro e w' ⟨rfl,rfl⟩;rw[Lx.zcn,←HV.out];have hs1:=HS.out;go_wp2;refine za7 (B:=w.heap.size) Tryz.results31 Tryz.underlying56 (by kernel_rfl) rfl (heap_alloc_new w _) rfl ⟨?_,by exact zw⟩;by_cases he:v.2=0
 ·refine zlv (by rw [HR.out,if_pos he]) ?_;rw[HR.out,if_pos he];show Ending.returned (.tuple #[_,.int .i64 v.2])=_;rw[he];rfl
 ·have e1:r.1=v.2:=by rw [HR.out,if_neg he];rfl
  refine⟨⟨3,t,(1,v.1,[])⟩,(k:Int), ?_,fun h=>absurd (e1.symm.trans h) he⟩;rw[e1];rfl
set_option maxHeartbeats 1000000 in
theorem zpw(s:ByteArray)(k:Nat)(w:World)(hs:s.size≤1000000000)(hk:k<s.size)(hdg:Lx.dig s[k]=true)(n:Nat)(hn0:n=Lx.many Lx.dig (Lx.suf s k))(he:k+n=s.size):
  Calls Tryz.prog 31 #[.string s,.int .i64 k] w fun e w'=>OneE (Lx.tok (Lx.suf s k)) k e∧Below w.heap.size w w':=by
 have hdi:=Lx.zhx.1 hdg;have hl:Lx.let_ s[k]=false:=by simp[Lx.let_];omega
 have hT:Lx.tok (Lx.suf s k)=Lx.numT (Lx.suf s k) n:=by
  rw[hn0,Lx.zaf hk,Lx.tok];simp only[hl,hdg,qa20,qa60,qa59]
 have hd:(Lx.suf s k).drop n=Lx.suf s (k+n):=by rw[Lx.zdg,Lx.zdg,qa51]
 have hh:(Lx.suf s (k+n)).head?.any Lx.let_=false:=by rw[Lx.zev (by omega)];rfl
 rw[hT,Lx.numT,hd,hh];rw[if_neg (by decide)];have hml:=Lx.zdC Lx.dig (Lx.suf s k);rw[Lx.zaj,←hn0]at hml;obtain⟨m,hm⟩:∃m,m=k+n:=⟨_,rfl⟩;have HM:Hid (m=k+Lx.many Lx.dig (Lx.suf s k)):=by unfold Hid;rw[hm,hn0]
 have HM2:=qa58 hm;have hm1:k≤m:=by omega
 have hm2:m≤s.size:=by omega
 have d1:decide ((m:Int)<(s.size:Int))=false:=qa45 (by omega);have d1n:decide (m<s.size)=false:=qa45 (by omega);have hsl:s.extract k m=Lx.bs ((Lx.suf s k).take n):=by rw[Lx.zbp,hm,qa14];rfl
 have hst:(Lx.bs ((Lx.suf s k).take n)).size≤1000000000:=by rw[Lx.zaD,qa38,Lx.zaj];omega
 obtain⟨t,ht⟩:∃t,t=(Lx.suf s k).take n:=⟨_,rfl⟩;rw[←ht]at hsl hst ⊢;have HS:=qa58 hsl;have HST:=qa58 hst;obtain⟨v,hv⟩:∃v,v=Lx.read t:=⟨_,rfl⟩;rw[←hv];have HV:=qa58 hv;obtain⟨r,hr⟩:∃r:Lx.TR,r=if v.2=0 then(0,⟨3,t,(1,v.1,[])⟩,n)else Lx.bad v.2:=⟨_,rfl⟩;rw[←hr];have HR:=qa58 hr;clear hsl hst hv ht hr;have x0:((s[k].toNat:Int)==39)=false:=by simp;omega
 have x1:((s[k].toNat:Int)==120)=false:=by simp;omega
 have x2:((s[k].toNat:Int)==88)=false:=by simp;omega
 have HDIG:=qa58 hdg;clear hl hdg hdi hT hd hh hm hn0 hml he;go_enter Tryz.func31,Tryz.ntmps31;go_wp2_with fail;refine(zb4 _ _).mono ?_;rintro e w' ⟨rfl,rfl⟩;rw[HDIG.out];go_wp2_with fail;refine(ztS s k _ hs (by omega)).mono ?_;rintro e w' ⟨rfl,rfl⟩;rw[←HM.out];go_wp2_with fail;rw[HS.out];refine(zee _ _ HST.out).mono ?_;rintro e w' ⟨rfl,rfl⟩;rw[Lx.zcn,←HV.out];have hs1:=HS.out;go_wp2;refine za7 (B:=w.heap.size) Tryz.results31 Tryz.underlying56 (by kernel_rfl) rfl (heap_alloc_new w _) rfl ⟨?_,by exact zw⟩;by_cases he:v.2=0
 ·refine zlv (by rw [HR.out,if_pos he]) ?_;rw[HR.out,if_pos he];show Ending.returned (.tuple #[_,.int .i64 v.2])=_;rw[he];rfl
 ·have e1:r.1=v.2:=by rw [HR.out,if_neg he];rfl
  refine⟨⟨3,t,(1,v.1,[])⟩,(k:Int), ?_,fun h=>absurd (e1.symm.trans h) he⟩;rw[e1];rfl
theorem zmU{s:ByteArray}{k:Nat}(hk:k<s.size)(hb:Lx.zeS (Lx.suf s k)=false):
  (((s[k].toNat:Int)==120)=false∧((s[k].toNat:Int)==88)=false)∨(((s[k].toNat:Int)==120)=true∧decide ((k:Int)+1<(s.size:Int))=false) ∨
  (((s[k].toNat:Int)==120)=true∧decide ((k:Int)+1<(s.size:Int))=true∧∃h:k+1<s.size,((s[k+1].toNat:Int)==39)=false) ∨
  (((s[k].toNat:Int)==120)=false∧((s[k].toNat:Int)==88)=true∧decide ((k:Int)+1<(s.size:Int))=false) ∨
  (((s[k].toNat:Int)==120)=false∧((s[k].toNat:Int)==88)=true∧decide ((k:Int)+1<(s.size:Int))=true∧∃h:k+1<s.size,((s[k+1].toNat:Int)==39)=false):=by
 by_cases h1:s[k].toNat=120∨s[k].toNat=88
 ·by_cases h2:k+1<s.size
  ·have h3:s[k+1].toNat≠39:=fun h=>by rw [Lx.zkj h2 h1 h] at hb;cases hb
   have f3:((s[k+1].toNat:Int)==39)=false:=by simp;omega
   have f2:decide ((k:Int)+1<(s.size:Int))=true:=qa49 (by omega);rcases h1 with h1|h1
   ·exact .inr (.inr (.inl ⟨by rw[h1];rfl,f2,h2,f3⟩))
   ·exact .inr (.inr (.inr (.inr ⟨by rw[h1];rfl,by rw[h1];rfl,f2,h2,f3⟩)))
  ·have f2:decide ((k:Int)+1 < (s.size:Int))=false:=qa45 (by omega);rcases h1 with h1|h1
   ·exact .inr (.inl ⟨by rw[h1];rfl,f2⟩)
   ·exact .inr (.inr (.inr (.inl ⟨by rw[h1];rfl,by rw[h1];rfl,f2⟩)))
 ·exact .inl ⟨by simp;omega,by simp;omega⟩
set_option maxHeartbeats 2000000 in
theorem zro(s:ByteArray)(k:Nat)(w:World)(hs:s.size≤1000000000)(hk:k<s.size)(hl:Lx.let_ s[k]=true)(hb:Lx.zeS (Lx.suf s k)=false)(hw:Lx.isW ((Lx.suf s k).take (Lx.many Lx.nam (Lx.suf s k)))=true):
  Calls Tryz.prog 31 #[.string s,.int .i64 k] w fun e w'=>OneE (Lx.tok (Lx.suf s k)) k e∧Below w.heap.size w w':=by
 have hT:Lx.tok (Lx.suf s k)=Lx.zlp (Lx.suf s k) (Lx.many Lx.nam (Lx.suf s k)):=by
  have hb':=hb;rw[Lx.zaf hk]at hb' ⊢;rw[Lx.tok];simp only[hl,qa60,hb',qb0]
 rw[hT,Lx.zlp];have hli:(65≤s[k].toNat∧s[k].toNat≤90)∨(97≤s[k].toNat∧s[k].toNat≤122)∨s[k].toNat=95:=by
  unfold Lx.let_ at hl;simp at hl;omega
 have dd:=zmU hk hb;have x0:((s[k].toNat:Int)==39)=false:=by simp;omega
 have hdg:Lx.dig s[k]=false:=Lx.zj3.2 (by omega);have HDIG:=qa58 hdg;clear hli hdg;have hml:=Lx.zdC Lx.nam (Lx.suf s k);rw[Lx.zaj]at hml;obtain⟨n,hn0⟩:∃n,n=Lx.many Lx.nam (Lx.suf s k):=⟨_,rfl⟩;rw[←hn0]at hw hml ⊢;obtain⟨m,hm⟩:∃m,m=k+n:=⟨_,rfl⟩;have HM:Hid (m=k+Lx.many Lx.nam (Lx.suf s k)):=by unfold Hid;rw[hm,hn0]
 have hm1:k≤m:=by omega
 have hm2:m≤s.size:=by omega
 have hsl:s.extract k m=Lx.bs ((Lx.suf s k).take n):=by rw[Lx.zbp,hm,qa14];rfl
 have htl:((Lx.suf s k).take n).length=n:=by rw[qa38,Lx.zaj];omega
 obtain⟨t,ht⟩:∃t,t=(Lx.suf s k).take n:=⟨_,rfl⟩;rw[←ht]at hsl htl hw ⊢;have hst:(Lx.bs t).size≤1000000000:=by rw[Lx.zaD,htl];omega
 have HS:=qa58 hsl;have HST:=qa58 hst;have HW:=qa58 hw;have HLET:=qa58 hl;rw[if_pos hw];clear hl hb hT hn0 hm hsl htl hst hw ht hml;rcases dd with⟨g1,g2⟩|⟨g1,g2⟩|⟨g1,g2,h1,g3⟩|⟨g1,g2,g3⟩|⟨g1,g2,g3,h1,g4⟩;all_goals
  go_enter Tryz.func31,Tryz.ntmps31;go_wp2_with fail;refine(zb4 _ _).mono ?_;rintro e w' ⟨rfl,rfl⟩;rw[HDIG.out];go_wp2_with fail;refine(zdw _ _).mono ?_;rintro e w' ⟨rfl,rfl⟩;rw[HLET.out];go_wp2_with fail;refine(ztR s k _ hs (by omega)).mono ?_;rintro e w' ⟨rfl,rfl⟩;rw[←HM.out];go_wp2_with fail;rw[HS.out];refine(zom _ _ HST.out).mono ?_;rintro e w1 ⟨rfl,hb1⟩;rw[Lx.zcn,HW.out];have hB1:=zac (w:=w) zw hb1;obtain⟨hc1,hf1⟩:=zcb hb1;have K0:=zal (heap_alloc_new w _) hb1;go_wp2_with fail;refine(zcz _ _ HST.out).mono ?_;rintro e w2 ⟨rfl,hb2⟩;rw[Lx.zcn];have hB2:=zac (w:=w) zw hb2;obtain⟨hc2,hf2⟩:=zcb hb2;have K0:=zal K0 hb2;clear hc2 hf2;have K1:=K0;have K1':=K1;obtain⟨c,f⟩:=zab K1;have c0:=c 0 _ rfl;have c1:=c 1 _ rfl;have c2:=c 2 _ rfl;have c3:=c 3 _ rfl;have c4:=c 4 _ rfl;have c5:=c 5 _ rfl;have f0:=f 0;have f1:=f 1;have f2:=f 2;have f3:=f 3;have f4:=f 4;have f5:=f 5;clear c f;clear K1;clear hc1 hf1;go_wp2;refine za7 (B:=w.heap.size) Tryz.results31 Tryz.underlying56 (by kernel_rfl) rfl (zc9 K1' _ _ _ _ _ _) rfl ⟨?_,by exact zw⟩;exact zlv rfl rfl
set_option maxHeartbeats 2000000 in
theorem zrp(s:ByteArray)(k:Nat)(w:World)(hs:s.size≤1000000000)(hk:k<s.size)(hl:Lx.let_ s[k]=true)(hb:Lx.zeS (Lx.suf s k)=false)(hw:Lx.isW ((Lx.suf s k).take (Lx.many Lx.nam (Lx.suf s k)))=false)(hn:32<Lx.many Lx.nam (Lx.suf s k)):
  Calls Tryz.prog 31 #[.string s,.int .i64 k] w fun e w'=>OneE (Lx.tok (Lx.suf s k)) k e∧Below w.heap.size w w':=by
 have hT:Lx.tok (Lx.suf s k)=Lx.zlp (Lx.suf s k) (Lx.many Lx.nam (Lx.suf s k)):=by
  have hb':=hb;rw[Lx.zaf hk]at hb' ⊢;rw[Lx.tok];simp only[hl,qa60,hb',qb0]
 rw[hT,Lx.zlp];have hli:(65≤s[k].toNat∧s[k].toNat≤90)∨(97≤s[k].toNat∧s[k].toNat≤122)∨s[k].toNat=95:=by
  unfold Lx.let_ at hl;simp at hl;omega
 have dd:=zmU hk hb;have x0:((s[k].toNat:Int)==39)=false:=by simp;omega
 have hdg:Lx.dig s[k]=false:=Lx.zj3.2 (by omega);have HDIG:=qa58 hdg;clear hli hdg;have hml:=Lx.zdC Lx.nam (Lx.suf s k);rw[Lx.zaj]at hml;obtain⟨n,hn0⟩:∃n,n=Lx.many Lx.nam (Lx.suf s k):=⟨_,rfl⟩;rw[←hn0]at hw hml ⊢;rw[←hn0]at hn;obtain⟨m,hm⟩:∃m,m=k+n:=⟨_,rfl⟩;have HM:Hid (m=k+Lx.many Lx.nam (Lx.suf s k)):=by unfold Hid;rw[hm,hn0]
 have hm1:k≤m:=by omega
 have hm2:m≤s.size:=by omega
 have hsl:s.extract k m=Lx.bs ((Lx.suf s k).take n):=by rw[Lx.zbp,hm,qa14];rfl
 have htl:((Lx.suf s k).take n).length=n:=by rw[qa38,Lx.zaj];omega
 obtain⟨t,ht⟩:∃t,t=(Lx.suf s k).take n:=⟨_,rfl⟩;rw[←ht]at hsl htl hw ⊢;have hst:(Lx.bs t).size≤1000000000:=by rw[Lx.zaD,htl];omega
 have HS:=qa58 hsl;have HST:=qa58 hst;have HW:=qa58 hw;have HLET:=qa58 hl;rw[if_neg (by rw[hw];decide),if_pos hn];have d1:decide (32<(t.length:Int))=true:=qa49 (by omega);clear hl hb hT hn0 hm hsl htl hst hw ht hml hn;rcases dd with⟨g1,g2⟩|⟨g1,g2⟩|⟨g1,g2,h1,g3⟩|⟨g1,g2,g3⟩|⟨g1,g2,g3,h1,g4⟩;all_goals
  go_enter Tryz.func31,Tryz.ntmps31;go_wp2_with fail;refine(zb4 _ _).mono ?_;rintro e w' ⟨rfl,rfl⟩;rw[HDIG.out];go_wp2_with fail;refine(zdw _ _).mono ?_;rintro e w' ⟨rfl,rfl⟩;rw[HLET.out];go_wp2_with fail;refine(ztR s k _ hs (by omega)).mono ?_;rintro e w' ⟨rfl,rfl⟩;rw[←HM.out];go_wp2_with fail;rw[HS.out];refine(zom _ _ HST.out).mono ?_;rintro e w1 ⟨rfl,hb1⟩;rw[Lx.zcn,HW.out];have hB1:=zac (w:=w) zw hb1;obtain⟨hc1,hf1⟩:=zcb hb1;have K0:=zal (heap_alloc_new w _) hb1;have K1:=K0;have K1':=K1;obtain⟨c,f⟩:=zab K1;have c0:=c 0 _ rfl;have c1:=c 1 _ rfl;have c2:=c 2 _ rfl;have c3:=c 3 _ rfl;have c4:=c 4 _ rfl;have c5:=c 5 _ rfl;have f0:=f 0;have f1:=f 1;have f2:=f 2;have f3:=f 3;have f4:=f 4;have f5:=f 5;clear c f;clear K1;clear hc1 hf1;go_wp2;refine za7 (B:=w.heap.size) Tryz.results31 Tryz.underlying56 (by kernel_rfl) rfl (zc9 K1' _ _ _ _ _ _) rfl ⟨?_,by exact zw⟩;exact zj8 (by decide) rfl
set_option maxHeartbeats 2000000 in
theorem zpy(s:ByteArray)(k:Nat)(w:World)(hs:s.size≤1000000000)(hk:k<s.size)(hl:Lx.let_ s[k]=true)(hb:Lx.zeS (Lx.suf s k)=false)(hw:Lx.isW ((Lx.suf s k).take (Lx.many Lx.nam (Lx.suf s k)))=false)(hn:¬32<Lx.many Lx.nam (Lx.suf s k)):
  Calls Tryz.prog 31 #[.string s,.int .i64 k] w fun e w'=>OneE (Lx.tok (Lx.suf s k)) k e∧Below w.heap.size w w':=by
 have hT:Lx.tok (Lx.suf s k)=Lx.zlp (Lx.suf s k) (Lx.many Lx.nam (Lx.suf s k)):=by
  have hb':=hb;rw[Lx.zaf hk]at hb' ⊢;rw[Lx.tok];simp only[hl,qa60,hb',qb0]
 rw[hT,Lx.zlp];have hli:(65≤s[k].toNat∧s[k].toNat≤90)∨(97≤s[k].toNat∧s[k].toNat≤122)∨s[k].toNat=95:=by
  unfold Lx.let_ at hl;simp at hl;omega
 have dd:=zmU hk hb;have x0:((s[k].toNat:Int)==39)=false:=by simp;omega
 have hdg:Lx.dig s[k]=false:=Lx.zj3.2 (by omega);have HDIG:=qa58 hdg;clear hli hdg;have hml:=Lx.zdC Lx.nam (Lx.suf s k);rw[Lx.zaj]at hml;obtain⟨n,hn0⟩:∃n,n=Lx.many Lx.nam (Lx.suf s k):=⟨_,rfl⟩;rw[←hn0]at hw hml ⊢;rw[←hn0]at hn;obtain⟨m,hm⟩:∃m,m=k+n:=⟨_,rfl⟩;have HM:Hid (m=k+Lx.many Lx.nam (Lx.suf s k)):=by unfold Hid;rw[hm,hn0]
 have hm1:k≤m:=by omega
 have hm2:m≤s.size:=by omega
 have hsl:s.extract k m=Lx.bs ((Lx.suf s k).take n):=by rw[Lx.zbp,hm,qa14];rfl
 have htl:((Lx.suf s k).take n).length=n:=by rw[qa38,Lx.zaj];omega
 obtain⟨t,ht⟩:∃t,t=(Lx.suf s k).take n:=⟨_,rfl⟩;rw[←ht]at hsl htl hw ⊢;have hst:(Lx.bs t).size≤1000000000:=by rw[Lx.zaD,htl];omega
 have HS:=qa58 hsl;have HST:=qa58 hst;have HW:=qa58 hw;have HLET:=qa58 hl;rw[if_neg (by rw[hw];decide),if_neg hn];have d1:decide (32<(t.length:Int))=false:=qa45 (by omega);clear hl hb hT hn0 hm hsl htl hst hw ht hml hn;rcases dd with⟨g1,g2⟩|⟨g1,g2⟩|⟨g1,g2,h1,g3⟩|⟨g1,g2,g3⟩|⟨g1,g2,g3,h1,g4⟩;all_goals
  go_enter Tryz.func31,Tryz.ntmps31;go_wp2_with fail;refine(zb4 _ _).mono ?_;rintro e w' ⟨rfl,rfl⟩;rw[HDIG.out];go_wp2_with fail;refine(zdw _ _).mono ?_;rintro e w' ⟨rfl,rfl⟩;rw[HLET.out];go_wp2_with fail;refine(ztR s k _ hs (by omega)).mono ?_;rintro e w' ⟨rfl,rfl⟩;rw[←HM.out];go_wp2_with fail;rw[HS.out];refine(zom _ _ HST.out).mono ?_;rintro e w1 ⟨rfl,hb1⟩;rw[Lx.zcn,HW.out];have hB1:=zac (w:=w) zw hb1;obtain⟨hc1,hf1⟩:=zcb hb1;have K0:=zal (heap_alloc_new w _) hb1;have K1:=K0;have K1':=K1;obtain⟨c,f⟩:=zab K1;have c0:=c 0 _ rfl;have c1:=c 1 _ rfl;have c2:=c 2 _ rfl;have c3:=c 3 _ rfl;have c4:=c 4 _ rfl;have c5:=c 5 _ rfl;have f0:=f 0;have f1:=f 1;have f2:=f 2;have f3:=f 3;have f4:=f 4;have f5:=f 5;clear c f;clear K1;clear hc1 hf1;go_wp2;refine za7 (B:=w.heap.size) Tryz.results31 Tryz.underlying56 (by kernel_rfl) rfl (zc9 K1' _ _ _ _ _ _) rfl ⟨?_,by exact zw⟩;exact zlv rfl rfl
set_option maxHeartbeats 1000000 in
theorem zrr(s:ByteArray)(k:Nat)(w:World)(hs:s.size≤1000000000)(hk:k<s.size)(hl:Lx.let_ s[k]=false)(hdg:Lx.dig s[k]=false)(hc:s[k].toNat≠39)(hz:Lx.zcm (Lx.suf s k)=0):
  Calls Tryz.prog 31 #[.string s,.int .i64 k] w fun e w'=>OneE (Lx.tok (Lx.suf s k)) k e∧Below w.heap.size w w':=by
 have hT:Lx.tok (Lx.suf s k)=Lx.zoO (Lx.suf s k):=by
  have hq:(s[k]==39)=false:=by simp[Lx.zgE,hc]
  rw[Lx.zaf hk,Lx.tok];simp only[hl,hdg,hq,qb0]
 rw[hT,Lx.zoO];have hms:=Lx.zvo (Lx.suf s k);have hli:¬(65≤s[k].toNat∧s[k].toNat≤90)∧¬(97≤s[k].toNat∧s[k].toNat≤122):=by
  rw[←Bool.not_eq_true]at hl;unfold Lx.let_ at hl;simp only[qa42,qa32,qa25]at hl;omega
 rw[if_pos hz];rw[hz]at hms;obtain⟨M,hM⟩:∃M,M=Lx.zwu (Lx.suf s k):=⟨_,rfl⟩;have hM0:(Lx.bs M).toList.isEmpty=true:=by rw[Lx.bs_toList,hM,hms];rfl
 have HMM:=qa58 hM;have x0:((s[k].toNat:Int)==39)=false:=by simp;omega
 have x1:((s[k].toNat:Int)==120)=false:=by simp;omega
 have x2:((s[k].toNat:Int)==88)=false:=by simp;omega
 have HLET:=qa58 hl;have HDIG:=qa58 hdg;clear hl hdg hT hc hz hli hms hM;go_enter Tryz.func31,Tryz.ntmps31;go_wp2_with fail;refine(zb4 _ _).mono ?_;rintro e w' ⟨rfl,rfl⟩;rw[HDIG.out];go_wp2_with fail;refine(zdw _ _).mono ?_;rintro e w' ⟨rfl,rfl⟩;rw[HLET.out];go_wp2_with fail;refine(zvn s k _ hs hk).mono ?_;rintro e w1 ⟨rfl,hb1⟩;rw[←HMM.out];have hB1:=zac (w:=w) zw hb1;obtain⟨hc1,hf1⟩:=zcb hb1;have K0:=zal (heap_alloc_new w _) hb1;have K1:=K0;have K1':=K1;obtain⟨c,f⟩:=zab K1;have c0:=c 0 _ rfl;have c1:=c 1 _ rfl;have c2:=c 2 _ rfl;have c3:=c 3 _ rfl;have c4:=c 4 _ rfl;have c5:=c 5 _ rfl;have f0:=f 0;have f1:=f 1;have f2:=f 2;have f3:=f 3;have f4:=f 4;have f5:=f 5;clear c f;clear K1;clear hc1 hf1;go_wp2;refine za7 (B:=w.heap.size) Tryz.results31 Tryz.underlying56 (by kernel_rfl) rfl (zc9 K1' _ _ _ _ _ _) rfl ⟨?_,by exact zw⟩;exact zj8 (by decide) rfl
set_option maxHeartbeats 1000000 in
theorem zrq(s:ByteArray)(k:Nat)(w:World)(hs:s.size≤1000000000)(hk:k<s.size)(hl:Lx.let_ s[k]=false)(hdg:Lx.dig s[k]=false)(hc:s[k].toNat≠39)(hz:Lx.zcm (Lx.suf s k)≠0):
  Calls Tryz.prog 31 #[.string s,.int .i64 k] w fun e w'=>OneE (Lx.tok (Lx.suf s k)) k e∧Below w.heap.size w w':=by
 have hT:Lx.tok (Lx.suf s k)=Lx.zoO (Lx.suf s k):=by
  have hq:(s[k]==39)=false:=by simp[Lx.zgE,hc]
  rw[Lx.zaf hk,Lx.tok];simp only[hl,hdg,hq,qb0]
 rw[hT,Lx.zoO];have hms:=Lx.zvo (Lx.suf s k);have hli:¬(65≤s[k].toNat∧s[k].toNat≤90)∧¬(97≤s[k].toNat∧s[k].toNat≤122):=by
  rw[←Bool.not_eq_true]at hl;unfold Lx.let_ at hl;simp only[qa42,qa32,qa25]at hl;omega
 rw[if_neg hz];obtain⟨M,hM⟩:∃M,M=Lx.zwu (Lx.suf s k):=⟨_,rfl⟩;have hM0:(Lx.bs M).toList.isEmpty=false:=by
  rw[Lx.bs_toList,hM,hms];have hle:=Lx.zvp (Lx.suf s k);cases h:(Lx.suf s k).take (Lx.zcm (Lx.suf s k))with
  |nil=>have h2:=congrArg List.length h;rw[qa38,qa40]at h2;omega
  |cons a b=>rfl
 rw[←hms,←hM];have HMM:=qa58 hM;have x0:((s[k].toNat:Int)==39)=false:=by simp;omega
 have x1:((s[k].toNat:Int)==120)=false:=by simp;omega
 have x2:((s[k].toNat:Int)==88)=false:=by simp;omega
 have HLET:=qa58 hl;have HDIG:=qa58 hdg;clear hl hdg hT hc hz hli hms hM;go_enter Tryz.func31,Tryz.ntmps31;go_wp2_with fail;refine(zb4 _ _).mono ?_;rintro e w' ⟨rfl,rfl⟩;rw[HDIG.out];go_wp2_with fail;refine(zdw _ _).mono ?_;rintro e w' ⟨rfl,rfl⟩;rw[HLET.out];go_wp2_with fail;refine(zvn s k _ hs hk).mono ?_;rintro e w1 ⟨rfl,hb1⟩;rw[←HMM.out];have hB1:=zac (w:=w) zw hb1;obtain⟨hc1,hf1⟩:=zcb hb1;have K0:=zal (heap_alloc_new w _) hb1;have K1:=K0;have K1':=K1;obtain⟨c,f⟩:=zab K1;have c0:=c 0 _ rfl;have c1:=c 1 _ rfl;have c2:=c 2 _ rfl;have c3:=c 3 _ rfl;have c4:=c 4 _ rfl;have c5:=c 5 _ rfl;have f0:=f 0;have f1:=f 1;have f2:=f 2;have f3:=f 3;have f4:=f 4;have f5:=f 5;clear c f;clear K1;clear hc1 hf1;go_wp2;refine za7 (B:=w.heap.size) Tryz.results31 Tryz.underlying56 (by kernel_rfl) rfl (zc9 K1' _ _ _ _ _ _) rfl ⟨?_,by exact zw⟩;exact zlv rfl rfl
theorem zyj(s:ByteArray)(k:Nat)(w:World)(hs:s.size≤1000000000)(hk:k<s.size):
  Calls Tryz.prog 31 #[.string s,.int .i64 k] w fun e w'=>OneE (Lx.tok (Lx.suf s k)) k e∧Below w.heap.size w w':=by
 by_cases hc:s[k].toNat=39
 ·cases hq:Lx.qEnd (Lx.suf s (k+1))with
  |none=>exact zsS s k w hs hk hc hq
  |some q=>
   have hql:=Lx.zt1 _ q hq;rw[Lx.zaj]at hql;exact zsR s k w hs hk hc (q+1) (by rw[hq];rfl) (by omega)
 ·by_cases hl:Lx.let_ s[k]=true
  ·cases hb:Lx.zeS (Lx.suf s k)with
   |true=>
    have h2:k+1<s.size∧(s[k].toNat=120∨s[k].toNat=88):=by
     by_cases h3:k+1<s.size
     ·refine⟨h3, ?_⟩;by_cases h4:s[k].toNat=120∨s[k].toNat=88
      ·exact h4
      ·rw[Lx.ziY hk (.inl (by omega))]at hb;cases hb
     ·rw[Lx.ziY hk (.inr (fun h=>absurd h h3))]at hb;cases hb
    obtain⟨h2,h4⟩:=h2;have h39:s[k+1].toNat=39:=by
     by_cases h5:s[k+1].toNat=39
     ·exact h5
     ·rw[Lx.ziY hk (.inr (fun _=>h5))]at hb;cases hb
    cases hq:Lx.bEnd (Lx.suf s (k+2))with
    |none=>exact zrt s k w hs hk h4 h2 h39 hq
    |some q=>
     have hql:q≤s.size-(k+2):=by
      unfold Lx.bEnd at hq;rw[Lx.zaj]at hq;split at hq
      ·simp at hq;omega
      ·cases hq
     exact zrs s k w hs hk h4 h2 h39 (q+2) (by rw[hq];rfl) (by omega)
   |false=>
    by_cases hw:Lx.isW ((Lx.suf s k).take (Lx.many Lx.nam (Lx.suf s k)))=true
    ·exact zro s k w hs hk hl hb hw
    ·have hw:Lx.isW ((Lx.suf s k).take (Lx.many Lx.nam (Lx.suf s k)))=false:=by simpa using hw
     by_cases hn:32<Lx.many Lx.nam (Lx.suf s k)
     ·exact zrp s k w hs hk hl hb hw hn
     ·exact zpy s k w hs hk hl hb hw hn
  ·have hl:Lx.let_ s[k]=false:=by simpa using hl
   by_cases hdg:Lx.dig s[k]=true
   ·have hml:=Lx.zdC Lx.dig (Lx.suf s k);rw[Lx.zaj]at hml;by_cases he:k+Lx.many Lx.dig (Lx.suf s k)<s.size
    ·by_cases hle:Lx.let_ s[k+Lx.many Lx.dig (Lx.suf s k)]=true
     ·exact zpx s k w hs hk hdg _ rfl he hle
     ·exact zws s k w hs hk hdg _ rfl he (by simpa using hle)
    ·exact zpw s k w hs hk hdg _ rfl (by omega)
   ·have hdg:Lx.dig s[k]=false:=by simpa using hdg
    by_cases hz:Lx.zcm (Lx.suf s k)=0
    ·exact zrr s k w hs hk hl hdg hc hz
    ·exact zrq s k w hs hk hl hdg hc hz
end
section
open Go.RowKit
attribute [local simp] Lx.zaD
theorem wpList_app3{P:Program}{ops:Array Oper}{rest:List Oper}{o:Oper}{a:Act}{Q:Exit→Act→World→Prop}(hgd:o.guard=none)(s x:Operand)(t e:TypeId)
  (ho:o.op=.call { callee:=.builtin .append,args:=#[s,x],argTypes:=#[t,t] })
  (ht:P.underlying t=some (.slice e)) {z:Value} {size bytes:Nat} (hinfo:(P.info? e).map (fun i=>(i.zero,i.size,i.bytes))=some (some z,size,bytes))
  (hzs:z.cells.size=size) (hsz:0<size) (W:World) (C:Array Value) (hC:C.size=size) (h1:∀u∈C.toList,u.oneCell'=true)
  (base:Nat) (v:Value) (n:Nat) (xs:List Value) (hs:a.eval s=v) (hown:W.ownsRow base e size v n xs) (g:Nat) (hx:a.eval x=.slice (some ⟨g,0,none⟩) 1 1) (hg:g=W.heap.size)
  (hn:n+1≤maxLen) (hbytes:(n+1)*bytes≤140737488355328) (hbase:base≤W.heap.size) (B:Nat) (hB:B≤base)
  (h:∀v' w',w'.ownsRow base e size v' (n+1) (xs++C.toList)→Below B W w'→(∀b,b<W.heap.size→v.ownBlock≠some b→w'.heap[b]?=W.heap[b]?)→wpList P ops Q rest (a.put o.dst v') w'):
  wpList P ops Q (o::rest) a (W.alloc (.cells C e)):=by
 obtain⟨i,hi,hz,h2,h3⟩:=zmL hinfo;refine wpList_append_own _ hgd s x t ho base e i z size bytes ht hi hz h2 h3 hzs hsz v n xs hs (hown.alloc _) ⟨W.heap.size,0,none⟩ 1 1 C.toList (by rw[hx,hg]) (by simp[hC]) ?_ h1 hn hbytes (by simp;omega) ?_
 ·intro j u hu;rw[zfN,zrN];simpa using hu
 ·intro v' w' hown' hgr _;refine h v' w' hown' (((Below.refl B W).alloc (by omega) _).trans (zoI (hown.alloc _) hgr hB (by simp;omega))) (fun b hb hne=>?_);exact(hgr.block b (by simp;omega) (fun e=>hne e.symm)).trans (Below.heap_alloc W _ b hb)
theorem skip_at(s:ByteArray)(k0:Nat)(x:Int)(w:World)(hs:s.size≤9223372036854775000)(hk:k0≤s.size)(hx:x=(k0:Int)):
  Calls Tryz.prog 30 #[.string s,.int .i64 x] w fun e w'=>e=.returned (.int .i64 ((k0+Lx.skipN false (Lx.suf s k0):Nat):Int))∧w=w':=by
 subst hx;exact zuO s k0 w hs hk
set_option maxHeartbeats 2000000 in
theorem zxG(s:ByteArray)(w:World)(hs:s.size≤1000000000):
  Calls Tryz.prog 13 #[.string s] w fun e w'=>scanE w (Lx.scan (Lx.ls s)) e w':=by
 by_cases hlong:65536<s.size
 ·have hR:Lx.scan (Lx.ls s)=([],0,3):=by rw [Lx.scan,Lx.zax,if_pos hlong]
  rw[hR];have d1:decide (65536<(s.size:Int))=true:=qa49 (by omega);go_enter Tryz.func13,Tryz.ntmps13;go_wp2;go_ret3;exact ziM (Below.refl _ _)
 ·have hR:Lx.scan (Lx.ls s)=Lx.zhS (Lx.ls s) (s.size+1) [] (Lx.skipN false (Lx.ls s)):=by rw [Lx.scan,Lx.zax,if_neg hlong]
  rw[hR];generalize hR2:Lx.zhS (Lx.ls s) (s.size+1) [] (Lx.skipN false (Lx.ls s))=R;have HR:=qa58 hR2;have d1:decide (65536<(s.size:Int))=false:=qa45 (by omega);clear hR hR2;have hsk:=Lx.zhW false (Lx.ls s);rw[Lx.zax]at hsk;obtain⟨k0,hk0⟩:∃k0,k0=Lx.skipN false (Lx.ls s):=⟨_,rfl⟩;rw[←hk0]at HR hsk;have HK0:=qa58 hk0;clear hk0;go_enter Tryz.func13,Tryz.ntmps13;go_wp2_with fail;refine(zuO s 0 _ (by omega) (by omega)).mono ?_;rintro e w' ⟨rfl,rfl⟩;rw[Lx.zgZ,←HK0.out,Nat.zero_add];go_wp2;go_loopw [5,6] (fun v i wr=>∃(acc:List Lx.TA)(k f:Nat),i=.int .i64 k∧k≤s.size∧s.size-k<f∧acc.length≤k∧wr.ownsRow w.heap.size 56 6 v acc.length (acc.flatMap zkJ)∧Below w.heap.size w wr∧Hid (Lx.zhS (Lx.ls s) f acc k=R)) (fun _ i _=>s.size-(intOf i).toNat)
  case atStart=>exact⟨[],k0,s.size+1,rfl,hsk,by omega,by simp,World.ownsRow_nil _ _ _ _,Below.refl _ _,HR⟩
  case round=>
   obtain⟨acc,k,f,rfl,hk,hf,hal,hown,hb,HK⟩:=hrel;obtain⟨f,rfl⟩:∃f',f=f'+1:=⟨f-1,by omega⟩;obtain⟨va,vc,hv⟩:=zvc hown;subst hv;by_cases hend:k=s.size
   ·subst hend;have hfin:=Lx.zsm (l:=Lx.ls s) (f:=f) (acc:=acc) (a:=s.size) (Lx.zax s).symm;rw[HK.out]at hfin;have HFIN:=qa58 hfin;clear hfin;go_wp2_with (at_builtin;refine wpList_app1 rfl (.tmp 43) (.tmp 47) 51 56 rfl Tryz.underlying51 zj9 rfl (by decide) _ _ rfl (by intro u hu;simp at hu;rcases hu with rfl|rfl|rfl|rfl|rfl|rfl<;>rfl) w.heap.size _ _ _ rfl hown rfl (by simp only[maxLen];omega) (by omega) hb.size w.heap.size (qa57 _) ?_;intro v1 w1 hown1 hb1);go_ret3;refine⟨_,by rw[HFIN.out];rfl, ?_,hb.trans hb1⟩;rw[HFIN.out];simpa[zkJ,Lx.zax,Lx.bs_nil]using hown1
   ·have hlt:k < s.size:=by omega
    have hne:k≠(Lx.ls s).length:=by rw[Lx.zax];exact hend
    by_cases hfull:acc.length=4096
    ·have d3:((acc.length:Int) == 4096)=true:=by rw [hfull];rfl
     have hfin:=Lx.zpV (f:=f) hne hfull;rw[HK.out]at hfin;have HFIN:=qa58 hfin;clear hfin hfull hne hend;go_wp2;go_ret3;rw[HFIN.out];exact ziM hb
    ·have d3:((acc.length:Int) == 4096)=false:=by simp;omega
     obtain⟨r,hr⟩:∃r,r=Lx.tok (Lx.suf s k):=⟨_,rfl⟩;have hr':Lx.tok ((Lx.ls s).drop k)=r:=hr.symm;by_cases he:r.1=0
     ·have hfin:=Lx.zuY (f:=f) hne hfull (by rw [hr'];exact he);rw[hr',HK.out]at hfin;have htl:=Lx.zqM (l:=Lx.suf s k) (by rw[←hr];exact he);rw[←hr,Lx.zaj]at htl;obtain⟨q1,q2,q3⟩:=htl;have hsk2:=Lx.zhW false (Lx.suf s (k+r.2.2));rw[Lx.zaj]at hsk2;have HFIN:=qa58 hfin;have HR2:=qa58 hr;have HE:=qa58 he;have Q3:=qa58 q3;have hq3a:r.2.1.text.length≤r.2.2:=by omega
      clear hfin hr hr' he hfull hne hend q3;go_wp2_with fail;refine(zyj s k _ hs hlt).mono ?_;rintro e w1 ⟨⟨tt,jj,he1,hx⟩,hb1⟩;rw[←HR2.out]at he1 hx;obtain⟨rfl,rfl⟩:=hx HE.out;rw[HE.out]at he1;subst he1;clear hx;have hB1:=zac (w:=w) hb hb1;have hown1:=zvb hown hb1;have htb:(Value.slice va acc.length vc).ownBlock≠some w1.heap.size:=fun e=>by have:=(hown1.lt _ e).2;omega
      go_wp2_with (at_builtin;refine wpList_app3 rfl (.tmp 32) (.tmp 34) 51 56 rfl Tryz.underlying51 zj9 rfl (by decide) _ _ rfl (by intro u hu;simp at hu;rcases hu with rfl|rfl|rfl|rfl|rfl|rfl<;>rfl) w.heap.size _ _ _ rfl (hown1.alloc _) _ rfl (by simp) (by simp only[maxLen];omega) (by omega) (by have:=hB1.size;simp;omega) w.heap.size (qa57 _) ?_;intro v2 w2 hown2 hb2 hkeep;have hKt:=(hkeep w1.heap.size (by simp) htb).trans (heap_alloc_new w1 _);have ct:=zdA (k:=1) hKt rfl;clear hkeep hKt);go_wp2_with fail;refine(skip_at s (k+r.2.2) _ _ (by omega) (by omega) (by have:=Q3.out;omega)).mono ?_;rintro e w' ⟨rfl,rfl⟩;go_wp2;go_roundw
      case rel=>
       refine⟨acc++[(r.2.1,k)],k+r.2.2+Lx.skipN false (Lx.suf s (k+r.2.2)),f,by congr 1,by omega,by omega,by simp;omega, ?_,(by exact zw:Below w.heap.size w _).trans hb2,qa58 HFIN.out.symm⟩;simpa[zkJ]using hown2
      case measure=>simp[intOf];omega
     ·have hfin:=Lx.zsn (f:=f) hne hfull (by rw [hr'];exact he);rw[hr',HK.out]at hfin;have HFIN:=qa58 hfin;have HR2:=qa58 hr;have d4:(r.1 != 0)=true:=by simp[he]
      clear hfin hr hr' he hfull hne hend;go_wp2_with fail;refine(zyj s k _ hs hlt).mono ?_;rintro e w1 ⟨⟨tt,jj,he1,hx⟩,hb1⟩;rw[←HR2.out]at he1;subst he1;clear hx;have hB1:=zac (w:=w) hb hb1;go_wp2;go_ret3;rw[HFIN.out];exact ziM zw
end
end Go.Proofs.YtlooegbcfkoloaaGreatDoor
end
