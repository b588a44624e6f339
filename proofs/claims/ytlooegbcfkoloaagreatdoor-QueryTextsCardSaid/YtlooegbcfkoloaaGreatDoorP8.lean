/- Part of the proof: see the last text. -/
import Derived.Test.YtlooegbcfkoloaaGreatDoorP0
import Derived.Test.YtlooegbcfkoloaaGreatDoorP5
import Derived.Test.YtlooegbcfkoloaaGreatDoorP6
set_option maxRecDepth 20000
set_option linter.unusedVariables false
set_option linter.unusedSimpArgs false
noncomputable section
namespace Go.Proofs.YtlooegbcfkoloaaGreatDoor
section
open Go.RowKit
attribute [local simp] Lx.zaD
namespace Num
def res(f:Bool)(r:Nat)(acc:Ox.S):Ox.S:=if f || decide (0<r)then Ox.numN r++acc else acc
theorem res_step{f:Bool}{r:Nat}{acc:Ox.S}(h:f=true∨0<r):res false (r / 10) (UInt8.ofNat (48+r % 10)::acc)=res f r acc:=by
 have h1:(f || decide (0<r))=true:=by rcases h with h|h<;>simp[h]
 unfold res;rw[h1,if_pos rfl,Bool.false_or];by_cases h2:r<10
 ·have h3:r / 10=0:=by omega
  have h4:r % 10=r:=by omega
  rw[Ox.numN.eq_def r,if_pos h2,h3,h4];rfl
 ·have h3:decide (0 < r / 10)=true:=qa49 (by omega);rw[if_pos h3,Ox.numN.eq_def r,if_neg h2,qa28];rfl
def Cells(g:Nat)(at_:Nat)(acc:Ox.S)(wr:World):Prop:=
 ∃D:Array Value,wr.heap[g]?=some (.cells D 171)∧D.size=20∧acc.length+at_=20∧∀j (h:j<acc.length),D[at_+j]?=some (.int .u8 (acc[j].toNat:Int))
theorem Cells.at_{g k:Nat}{acc:Ox.S}{wr:World}(h:Cells g (k+1) acc wr):(∃v,wr.cell? ⟨g,k,none⟩=some v)∧wr.frozen? ⟨g,k,none⟩=false:=by
 obtain⟨D,h1,h2,h3,h4⟩:=h;have hk:k<D.size:=by omega
 exact⟨⟨D[k],zdA h1 (Array.getElem?_eq_getElem hk)⟩,(zab h1).2 k⟩
theorem Cells.set_{g k:Nat}{acc:Ox.S}{wr:World}{d:UInt8}{v:Int}(h:Cells g (k+1) acc wr)(hv:v=(d.toNat:Int)):Cells g k (d::acc) (wr.setCell ⟨g,k,none⟩ (.int .u8 v)):=by
 obtain⟨D,h1,h2,h3,h4⟩:=h;refine⟨_,zid h1,by simp[h2],by simp;omega,fun j hj=>?_⟩;cases j with
 |zero=>
  rw[Nat.add_zero,Array.getElem?_setIfInBounds_self_of_lt (by omega),hv];rfl
 |succ j=>
  rw[Array.getElem?_setIfInBounds_ne (by omega)];have:=h4 j (by simpa using hj);rw[show k+(j+1)=k+1+j by omega,this];rfl
theorem Cells.back{g at_ cap:Nat}{acc:Ox.S}{wr:World}(h:Cells g at_ acc wr):
  (convert 123 9 (.slice (some ⟨g,at_,none⟩) acc.length cap)).run Tryz.prog wr=.ok (.string (Lx.bs acc)) wr:=by
 obtain⟨D,h1,h2,h3,h4⟩:=h;refine run_convert_bytes_back wr 123 9 5 ⟨g,at_,none⟩ cap acc Tryz.underlying123 Tryz.underlying5 Tryz.underlying9 (fun j hj=>?_);rw[show(⟨g,at_,none⟩:Addr).add j=⟨g,at_+j,none⟩from by simp[Addr.add]];exact zdA h1 (h4 j hj)
theorem dig_nat(r:Nat):(48+((r % 10:Nat):Int))=((UInt8.ofNat (48+r % 10)).toNat:Int):=by
 simp;omega
theorem start(w:World):Cells w.heap.size 20 [] (w.alloc (.cells (Array.replicate 20 (.int .u8 0)) 171)):=
 ⟨_,heap_alloc_new w _,by simp,rfl,fun j hj=>absurd hj (by simp)⟩
end Num
def zet:Value→Nat
 |.bool true=>1
 |_=>0
def NRel(B g lo:Nat)(T:Ox.S)(rest at_ first:Value)(w wr:World):Prop:=
 ∃(r k:Nat)(f:Bool)(acc:Ox.S),rest=.int .u64 r∧at_=.int .i64 k∧first=.bool f∧Num.Cells g k acc wr∧Below B w wr∧lo≤k∧k≤20∧r<10 ^ (k-lo)∧(f=true→k=20)∧acc.length+k=20∧Hid (Num.res f r acc=T)
theorem zu6{r k lo:Nat}(h:r<10 ^ (k-lo))(h0:0<r)(hk:lo≤k):lo<k:=by
 rw[←Nat.not_le];intro h2;have:k-lo=0:=by omega
 rw[this]at h;omega
theorem zx5{r k lo:Nat}(h:r<10 ^ (k+1-lo))(hk:lo≤k):r / 10<10 ^ (k-lo):=by
 rw[show k+1-lo=(k-lo)+1 by omega,Nat.pow_succ]at h;omega
theorem zsU{wr:World}{g k:Nat}{acc:Ox.S}(hk:acc.length+k=20)(h0:acc≠[]):
  (Instr.sliceAt 171 (.pointer (some ⟨g,0,none⟩)) (some (.int .i64 (k:Int))) none none).run Tryz.prog wr=.ok (.slice (some ⟨g,k,none⟩) acc.length acc.length) wr:=by
 have hl:=List.length_pos_iff.2 h0;have e1:Tryz.prog.arrayLen 171=20:=by kernel_rfl
 have e2:(sizeOf (Tryz.prog.elem 171)).run Tryz.prog wr=.ok 1 wr:=by kernel_rfl
 rw[run_sliceAt_array_l (P:=Tryz.prog) wr 171 ⟨g,0,none⟩ (by kernel_rfl) .i64 (k:Int) (by omega) (by rw[e1];omega),e2,e1];show Result.ok (slicedAt ⟨g,0,none⟩ (k:Int).toNat 20 20 1) wr=_;unfold slicedAt;rw[if_neg (by simp;omega)];congr 2
 ·simp[Addr.add];try omega
 ·simp;omega
 ·simp;omega
theorem res_ne{acc:Ox.S}{T:Ox.S}(h:Num.res false 0 acc=T):acc=T:=h
theorem zyn(m:Nat):Ox.numN m≠[]:=by
 rw[Ox.numN];split<;>simp
set_option maxHeartbeats 1000000 in
theorem tnum_pos(n:Int)(w:World)(h0:0≤n)(hm:n≤9223372036854775807):
  Calls Tryz.prog 119 #[.int .i64 n] w fun e w'=>e=.returned (.string (Lx.bs (Ox.num n)))∧Below w.heap.size w w':=by
 obtain⟨T,hT⟩:∃T,T=Ox.num n:=⟨_,rfl⟩;rw[←hT];obtain⟨Q,hQ⟩:∃Q,Q=Ox.numN n.natAbs:=⟨_,rfl⟩;have hTQ:T=Q:=by rw[hT,hQ,Ox.num,if_neg (by omega)]
 have hQ0:Q≠[]:=by rw[hQ];exact zyn _
 have hw:n=(n.natAbs:Int):=by omega
 have hT2:Num.res true n.natAbs []=Q:=by rw[hQ,Num.res];simp
 have HT:=qa58 hT2;have HTQ:=qa58 hTQ;have HQ0:=qa58 hQ0;have HW:=qa58 hw;have hst:=Num.start w;have hlt:n.natAbs<10 ^ (20-0):=by have:(10:Nat) ^ (20-0)=100000000000000000000:=rfl;omega
 have HLT:=qa58 hlt;have d0:decide (n<0)=false:=qa45 (by omega);clear hT hT2 hw hlt hTQ hQ hQ0;go_enter Tryz.func119,Tryz.ntmps119;go_wp2;go_loopw [3,5,6] (fun r k f wr=>NRel w.heap.size w.heap.size 0 Q r k f w wr) (fun r k f _=>(intOf r).toNat+zet f)
 case atStart=>exact⟨n.natAbs,20,true,[],congrArg _ HW.out,rfl,rfl,hst,by exact zw,by omega,by omega,HLT.out,fun _=>rfl,rfl,HT⟩
 case round=>
  obtain⟨r,k,f,acc,rfl,rfl,rfl,hc,hb,hlo,hk,hr,hf,hak,HR⟩:=hrel;have hr20:r<100000000000000000000:=qa23 hr (by have:=Nat.pow_le_pow_right (n:=10) (by omega) (show k-0≤20 by omega);simpa using this);by_cases hgo:f=true∨0<r
  ·obtain⟨k,rfl⟩:∃j,k=j+1:=by
    rcases hgo with h|h
    ·have:=hf h;exact⟨19,by omega⟩
    ·have:=zu6 hr h hlo;exact⟨k-1,by omega⟩
   have hlo2:0≤k:=by
    rcases hgo with h|h
    ·have:=hf h;omega
    ·have:=zu6 hr h hlo;omega
   obtain⟨⟨u,hu⟩,hfz⟩:=hc.at_;have HD:=qa58 (Num.dig_nat r);have HK':=qa58 ((Num.res_step hgo).trans HR.out);have HP:=qa58 (zx5 hr hlo2);have hc':=hc.set_ (v:=48+(r:Int) % 10) (d:=UInt8.ofNat (48+r % 10)) (by rw[←HD.out];omega);have hb':Below w.heap.size w (wr.setCell ⟨w.heap.size,k,none⟩ (.int .u8 (48+(r:Int) % 10))):=hb.setCell (qa57 _) _;cases f with
   |true=>
    clear hr hf hgo;go_wp2;go_roundw
    case rel=>exact⟨r / 10,k,false,_,by simp,rfl,rfl,hc',hb',by omega,by omega,HP.out,by simp,by simp;omega,HK'⟩
    case measure=>simp[intOf,zet];omega
   |false=>
    have hr0:0<r:=by rcases hgo with h|h;cases h;exact h
    have dr:decide (0<r)=true:=qa49 hr0;clear hr hf hgo;go_wp2;go_roundw
    case rel=>exact⟨r / 10,k,false,_,by simp,rfl,rfl,hc',hb',by omega,by omega,HP.out,by simp,by simp;omega,HK'⟩
    case measure=>simp[intOf,zet];omega
  ·have hf0:f=false:=by cases f with
    |false=>rfl
    |true=>exact absurd (.inl rfl) hgo
   have hr0:r=0:=by
    have:¬0<r:=fun h=>hgo (.inr h);omega
   subst hf0 hr0;have hQ2:=res_ne HR.out;subst hQ2;have hacc:=HQ0.out;have hsl:=zsU (wr:=wr) (g:=w.heap.size) hak hacc;have hback:=hc.back (cap:=acc.length);clear hr hf hgo hacc;go_wp2;go_ret;exact⟨by rw[HTQ.out];rfl,hb⟩
set_option maxHeartbeats 1000000 in
theorem tnum_neg(n:Int)(w:World)(h0:n<0)(hm:-9223372036854775808≤n):
  Calls Tryz.prog 119 #[.int .i64 n] w fun e w'=>e=.returned (.string (Lx.bs (Ox.num n)))∧Below w.heap.size w w':=by
 obtain⟨T,hT⟩:∃T,T=Ox.num n:=⟨_,rfl⟩;rw[←hT];obtain⟨Q,hQ⟩:∃Q,Q=Ox.numN n.natAbs:=⟨_,rfl⟩;have hTQ:T=45::Q:=by rw[hT,hQ,Ox.num,if_pos h0]
 have hQ0:Q≠[]:=by rw[hQ];exact zyn _
 have hw:IntKind.u64.wrap (-IntKind.u64.wrap n)=(n.natAbs:Int):=by unfold IntKind.wrap;simp[IntKind.bits,IntKind.signed];omega
 have hT2:Num.res true n.natAbs []=Q:=by rw[hQ,Num.res];simp
 have HT:=qa58 hT2;have HTQ:=qa58 hTQ;have HQ0:=qa58 hQ0;have HW:=qa58 hw;have hst:=Num.start w;have hlt:n.natAbs<10 ^ (20-1):=by have:(10:Nat) ^ (20-1)=10000000000000000000:=rfl;omega
 have HLT:=qa58 hlt;have d0:decide (n<0)=true:=qa49 (by omega);clear hT hT2 hw hlt hTQ hQ hQ0;go_enter Tryz.func119,Tryz.ntmps119;go_wp2;go_loopw [3,5,6] (fun r k f wr=>NRel w.heap.size w.heap.size 1 Q r k f w wr) (fun r k f _=>(intOf r).toNat+zet f)
 case atStart=>exact⟨n.natAbs,20,true,[],congrArg _ HW.out,rfl,rfl,hst,by exact zw,by omega,by omega,HLT.out,fun _=>rfl,rfl,HT⟩
 case round=>
  obtain⟨r,k,f,acc,rfl,rfl,rfl,hc,hb,hlo,hk,hr,hf,hak,HR⟩:=hrel;have hr20:r<100000000000000000000:=qa23 hr (by have:=Nat.pow_le_pow_right (n:=10) (by omega) (show k-1≤20 by omega);simpa using this);by_cases hgo:f=true∨0<r
  ·obtain⟨k,rfl⟩:∃j,k=j+1:=by
    rcases hgo with h|h
    ·have:=hf h;exact⟨19,by omega⟩
    ·have:=zu6 hr h hlo;exact⟨k-1,by omega⟩
   have hlo2:1≤k:=by
    rcases hgo with h|h
    ·have:=hf h;omega
    ·have:=zu6 hr h hlo;omega
   obtain⟨⟨u,hu⟩,hfz⟩:=hc.at_;have HD:=qa58 (Num.dig_nat r);have HK':=qa58 ((Num.res_step hgo).trans HR.out);have HP:=qa58 (zx5 hr hlo2);have hc':=hc.set_ (v:=48+(r:Int) % 10) (d:=UInt8.ofNat (48+r % 10)) (by rw[←HD.out];omega);have hb':Below w.heap.size w (wr.setCell ⟨w.heap.size,k,none⟩ (.int .u8 (48+(r:Int) % 10))):=hb.setCell (qa57 _) _;cases f with
   |true=>
    clear hr hf hgo;go_wp2;go_roundw
    case rel=>exact⟨r / 10,k,false,_,by simp,rfl,rfl,hc',hb',by omega,by omega,HP.out,by simp,by simp;omega,HK'⟩
    case measure=>simp[intOf,zet];omega
   |false=>
    have hr0:0<r:=by rcases hgo with h|h;cases h;exact h
    have dr:decide (0<r)=true:=qa49 hr0;clear hr hf hgo;go_wp2;go_roundw
    case rel=>exact⟨r / 10,k,false,_,by simp,rfl,rfl,hc',hb',by omega,by omega,HP.out,by simp,by simp;omega,HK'⟩
    case measure=>simp[intOf,zet];omega
  ·have hf0:f=false:=by cases f with
    |false=>rfl
    |true=>exact absurd (.inl rfl) hgo
   have hr0:r=0:=by
    have:¬0<r:=fun h=>hgo (.inr h);omega
   subst hf0 hr0;have hQ2:=res_ne HR.out;subst hQ2;have hacc:=HQ0.out;obtain⟨k,rfl⟩:∃j,k=j+1:=⟨k-1,by omega⟩;obtain⟨⟨u,hu⟩,hfz⟩:=hc.at_;have hc':=hc.set_ (v:=45) (d:=45) rfl;obtain⟨L,hL⟩:∃L,L=(45:UInt8)::acc:=⟨_,rfl⟩;rw[←hL]at hc';have hLl:L.length+k=20:=by rw[hL];simp;omega
   have hLne:L≠[]:=by rw[hL];simp
   have HL:=qa58 hL;have hb':Below w.heap.size w (wr.setCell ⟨w.heap.size,k,none⟩ (.int .u8 45)):=hb.setCell (qa57 _) _;have hsl:=zsU (wr:=wr.setCell ⟨w.heap.size,k,none⟩ (.int .u8 45)) (g:=w.heap.size) (acc:=L) (k:=k) hLl hLne;have hback:=hc'.back (cap:=L.length);clear hr hf hgo hacc hL hLl hLne;go_wp2;go_ret;exact⟨by rw[HTQ.out,←HL.out];rfl,hb'⟩
theorem tnum_any(n:Int)(w:World)(h0:-9223372036854775808≤n)(hm:n≤9223372036854775807):
  Calls Tryz.prog 119 #[.int .i64 n] w fun e w'=>e=.returned (.string (Lx.bs (Ox.num n)))∧Below w.heap.size w w':=by
 by_cases h:0≤n
 ·exact tnum_pos n w h hm
 ·exact tnum_neg n w (by omega) h0
end
section
open Go.RowKit
attribute [local simp] Lx.zaD
theorem zug:∀l:Ox.S,(Ox.hex l).length=2*l.length
 |[]=>rfl
 |c::r=>by rw[Ox.hex];simp[zug r];omega
theorem hex_go{s:ByteArray}{k:Nat}(h:k<s.size):Ox.hex (Lx.suf s k)=Ox.hexD (s[k].toNat / 16)::Ox.hexD (s[k].toNat % 16)::Ox.hex (Lx.suf s (k+1)):=by rw[Lx.zaf h,Ox.hex]
theorem zze{s:ByteArray}{k:Nat}(h:s.size≤k):Ox.hex (Lx.suf s k)=[]:=by rw[Lx.zev h];rfl
theorem hex_lit:∀x:Fin 16,(⟨#[48,49,50,51,52,53,54,55,56,57,97,98,99,100,101,102]⟩:ByteArray)[x.val]'x.isLt=Ox.hexD x.val:=by decide +kernel
theorem thex_any(s:ByteArray)(w:World)(hs:s.size≤1000000000):
  Calls Tryz.prog 121 #[.string s] w fun e w'=>e=.returned (.string (Lx.bs (Ox.hex (Lx.ls s))))∧Below w.heap.size w w':=by
 generalize hR:Ox.hex (Lx.ls s)=R;have HR:=qa58 hR;clear hR;obtain⟨i0,hi,hz0,hz1,hz2⟩:=zmL zfW;obtain⟨H,hH⟩:∃H:ByteArray,H=⟨#[48,49,50,51,52,53,54,55,56,57,97,98,99,100,101,102]⟩:=⟨_,rfl⟩;have hHs:H.size=16:=by rw[hH];rfl
 have hHd:∀x (h:x<H.size),H[x]=Ox.hexD x:=by subst hH;intro x h;exact hex_lit ⟨x,h⟩
 have HHD:=qa58 hHd;have hH2:16≤H.size:=by omega
 clear hHd hHs;go_enter Tryz.func121,Tryz.ntmps121;rw[←hH];clear hH;go_wp2_with (refine wpList_make_own _ rfl _ _ 123 rfl w.heap.size 5 i0 _ 1 Tryz.underlying123 hi hz0 hz1 _ _ _ (2*s.size) rfl rfl (by simp) (by rw[hz2];omega) (by simp only[maxLen];omega) (qa57 _) ?_;intro w1 hown hg);have hb1:Below w.heap.size w w1:=(Below.refl _ _).grown hg (qa57 _) (by simp);go_loopw [3,11] (fun v i wr=>∃(k:Nat)(acc:List UInt8),k≤s.size∧acc.length≤2*k∧i=.int .i64 k∧wr.ownsRow w.heap.size 5 1 v acc.length (u8s acc)∧Below w.heap.size w wr∧Hid (acc++Ox.hex (Lx.suf s k)=R)) (fun _ i _=>s.size-(intOf i).toNat)
 case atStart=>exact⟨0,[],by omega,by simp,rfl,hown,hb1,qa58 HR.out⟩
 case round=>
  obtain⟨k,acc,hk,hak,rfl,hown,hb,HK⟩:=hrel;clear hb1;by_cases hlt:k<s.size
  ·have hc:=s[k].toNat_lt;obtain⟨x,hx⟩:∃x,x=s[k].toNat / 16:=⟨_,rfl⟩;obtain⟨y,hy⟩:∃y,y=s[k].toNat % 16:=⟨_,rfl⟩;have hx16:x<16:=by omega
   have hy16:y<16:=by omega
   have hsh:Op.shift .shr .u8 (s[k].toNat:Int) .u64 4=pure (.int .u8 (x:Int)):=by
    rw[shift_shr_u8 _ _ _ (by omega) (by omega)];have e:(2:Int) ^ (4:Int).toNat=16:=rfl;rw[e,hx];rfl
   have hand:bits .and .u8 (s[k].toNat:Int) 15=(y:Int):=by rw[u8_and15 _ (by omega) (by omega)];omega
   have HK':Hid (acc++[Ox.hexD x,Ox.hexD y]++Ox.hex (Lx.suf s (k+1))=R):=by unfold Hid;rw[←HK.out,hex_go hlt,hx,hy];simp
   have hxH:x<H.size:=by omega
   have hyH:y<H.size:=by omega
   clear hx hy;go_wp2;have hnews:[Value.int .u8 (H[x].toNat:Int),.int .u8 (H[y].toNat:Int)]=u8s [Ox.hexD x,Ox.hexD y]:=by rw[HHD.out x hxH,HHD.out y hyH];rfl
   have HNW:=qa58 hnews;clear hnews;go_region_law (refine zxt rfl (.tmp 14) (.tmp 25) 123 5 rfl Tryz.underlying123 zfW rfl (by decide) wr.drew #[.int .u8 (H[x].toNat:Int),.int .u8 (H[y].toNat:Int)] 2 rfl (by intro u hu;simp at hu;rcases hu with rfl|rfl<;>rfl) w.heap.size _ _ _ (by rfl) hown (by rfl) (by simp only[maxLen];omega) (by omega) (by have:=hb.size;simp;omega) w.heap.size (qa57 _) ?_;intro v1 w2 hown1 hb2);all_goals
    go_wp2;go_roundw
    case rel=>
     have h2:u8s (acc++[Ox.hexD x,Ox.hexD y])=u8s acc++[Value.int .u8 (H[x].toNat:Int),.int .u8 (H[y].toNat:Int)]:=by
      rw[HNW.out];simp[u8s]
     exact⟨k+1,acc++[Ox.hexD x,Ox.hexD y],by omega,by simp;omega,by go_num,by rw[h2];simpa using hown1,hb.drew.trans hb2,HK'⟩
    case measure=>simp[intOf];omega
  ·obtain rfl:k=s.size:=by omega
   have hf:R=acc:=by rw[←HK.out,zze (qa57 _),qa48]
   subst hf;have hback:=zrT (P:=Tryz.prog) Tryz.underlying123 Tryz.underlying5 Tryz.underlying9 hown;go_wp2;go_ret;exact⟨rfl,hb⟩
end
section
open Go.RowKit
attribute [local simp] Lx.zaD
theorem zzf(H:ByteArray)(h:∀x (h:x<H.size),H[x]=Ox.hexD x){x:Nat}(hx:x<H.size):H.extract x (x+1)=Lx.bs [Ox.hexD x]:=by
 apply Lx.zyO;rw[Lx.zcn,Lx.zcN,qa14,←Lx.zdg,Lx.zaf hx,h x hx];rfl
set_option maxHeartbeats 1000000 in
theorem rhex_any(s:ByteArray)(w:World)(hs:s.size≤1000000000):
  Calls Tryz.prog 96 #[.string s] w fun e w'=>e=.returned (.string (Lx.bs (Ox.hex (Lx.ls s))))∧Below w.heap.size w w':=by
 generalize hR:Ox.hex (Lx.ls s)=R;have HR:=qa58 hR;clear hR;obtain⟨H,hH⟩:∃H:ByteArray,H=⟨#[48,49,50,51,52,53,54,55,56,57,97,98,99,100,101,102]⟩:=⟨_,rfl⟩;have hHs:H.size=16:=by rw[hH];rfl
 have hHd:∀x (h:x<H.size),H[x]=Ox.hexD x:=by subst hH;intro x h;exact hex_lit ⟨x,h⟩
 have HHD:=qa58 hHd;have hH2:16≤H.size:=by omega
 clear hHd hHs;go_enter Tryz.func96,Tryz.ntmps96;rw[←hH];clear hH;go_wp2;go_loopw [3,4] (fun v i wr=>∃(k:Nat)(acc:List UInt8),k≤s.size∧acc.length≤2*k∧i=.int .i64 k∧v=.string (Lx.bs acc)∧Below w.heap.size w wr∧Hid (acc++Ox.hex (Lx.suf s k)=R)) (fun _ i _=>s.size-(intOf i).toNat)
 case atStart=>exact⟨0,[],by omega,by simp,rfl,rfl,by exact zw,qa58 HR.out⟩
 case round=>
  obtain⟨k,acc,hk,hak,rfl,rfl,hb,HK⟩:=hrel;by_cases hlt:k<s.size
  ·have hc:=s[k].toNat_lt;obtain⟨x,hx⟩:∃x,x=s[k].toNat / 16:=⟨_,rfl⟩;obtain⟨y,hy⟩:∃y,y=s[k].toNat % 16:=⟨_,rfl⟩;have hx16:x<16:=by omega
   have hy16:y<16:=by omega
   have hq:Int.tdiv (s[k].toNat:Int) 16=(x:Int):=by rw[hx];rfl
   have hm:Int.tmod (s[k].toNat:Int) 16=(y:Int):=by rw[hy];rfl
   have hq2:(s[k].toNat:Int) / 16=(x:Int):=by omega
   have hm2:(s[k].toNat:Int) % 16=(y:Int):=by omega
   have hxH:x<H.size:=by omega
   have hyH:y<H.size:=by omega
   have HX:=qa58 (zzf H HHD.out hxH);have HY:=qa58 (zzf H HHD.out hyH);have HK':Hid (acc++[Ox.hexD x,Ox.hexD y]++Ox.hex (Lx.suf s (k+1))=R):=by unfold Hid;rw[←HK.out,hex_go hlt,hx,hy];simp
   clear hx hy;go_wp2;go_quiet (fail);go_wp2;go_roundw
   case rel=>exact⟨k+1,acc++[Ox.hexD x,Ox.hexD y],by omega,by simp;omega,by go_num,by rw[HX.out,HY.out,Lx.zeh,Lx.zeh];simp,by exact zw,HK'⟩
   case measure=>simp[intOf];omega
  ·obtain rfl:k=s.size:=by omega
   have hf:R=acc:=by rw[←HK.out,zze (qa57 _),qa48]
   subst hf;go_wp2;go_ret;exact⟨rfl,hb⟩
theorem zif{wr:World}{d:UInt8}{z:Int}(hz:z=(d.toNat:Int)):(convert 123 9 (.slice (some ⟨wr.heap.size,0,none⟩) 1 1)).run Tryz.prog (wr.alloc (.cells #[.int .u8 z] 5))=.ok (.string (Lx.bs [d])) (wr.alloc (.cells #[.int .u8 z] 5)):=by
 rw[hz];exact znM wr d
theorem zvX{wr w1:World}{d:UInt8}{z:Int}(hz:z=(d.toNat:Int))(hb:Below (wr.alloc (.cells #[.int .u8 z] 5)).heap.size (wr.alloc (.cells #[.int .u8 z] 5)) w1):
  (convert 123 9 (.slice (some ⟨wr.heap.size,0,none⟩) 1 1)).run Tryz.prog w1=.ok (.string (Lx.bs [d])) w1:=by
 have h1:w1.heap[wr.heap.size]?=some (.cells #[.int .u8 z] 5):=zal (heap_alloc_new wr _) hb;exact zrV (l:=[d]) Tryz.underlying123 Tryz.underlying5 Tryz.underlying9 h1 (fun j hj=>by
  have:j=0:=by simp at hj;omega
  subst this;rw[hz];rfl)
theorem zvh:∀(k m:Nat),m<10 ^ (k+1)→(Ox.numN m).length≤k+1
 |0,m,h=>by rw[Ox.numN,if_pos (by simpa using h)];simp
 |k+1,m,h=>by
  rw[Ox.numN.eq_def];split
  ·simp
  ·have:=zvh k (m / 10) (by rw [Nat.pow_succ] at h;omega);simp;omega
theorem zyo{m:Nat}(h:m≤9223372036854775808):(Ox.numN m).length≤20:=zvh 19 m (by have:(10:Nat) ^ (19+1)=100000000000000000000:=rfl;omega)
set_option maxRecDepth 100000 in
set_option maxHeartbeats 1000000 in
theorem rnum_pos:∀(m:Nat)(x:Int)(w:World),x=(m:Int)→m≤9223372036854775807 →
  Calls Tryz.prog 95 #[.int .i64 x] w fun e w'=>e=.returned (.string (Lx.bs (Ox.numN m)))∧Below w.heap.size w w':=by
 intro m;induction m using Nat.strongRecOn with
 |_ m ih=>
  intro x w hx hm;subst hx;have IH:=qa58 ih;clear ih;have d0:decide ((m:Int)<0)=false:=qa45 (by omega);by_cases h10:m<10
  ·have d1:decide ((m:Int) < 10)=true:=qa49 (by omega);obtain⟨d,hd⟩:∃d,d=UInt8.ofNat (48+m):=⟨_,rfl⟩;have hr:Ox.numN m=[d]:=by rw[Ox.numN,if_pos h10,hd]
   have hc:=fun wr=>zif (wr:=wr) (d:=d) (z:=48+(m:Int)) (by rw[hd];simp;omega);rw[hr];clear hr hd;go_enter Tryz.func95,Tryz.ntmps95;go_wp2;go_ret;exact⟨rfl,by exact zw⟩
  ·have d1:decide ((m:Int) < 10)=false:=qa45 (by omega);have hr:Ox.numN m=Ox.numN (m / 10)++[UInt8.ofNat (48+m % 10)]:=by rw[Ox.numN.eq_def,if_neg h10]
   rw[hr];clear hr;obtain⟨q,hq⟩:∃q,q=m / 10:=⟨_,rfl⟩;obtain⟨y,hy⟩:∃y,y=m % 10:=⟨_,rfl⟩;have hq2:(m:Int) / 10=(q:Int):=by omega
   have hy2:(m:Int) % 10=(y:Int):=by omega
   have hq3:Int.tdiv (m:Int) 10=(q:Int):=by rw[hq];rfl
   have hy3:Int.tmod (m:Int) 10=(y:Int):=by rw[hy];rfl
   have hqm:q<m:=by omega
   have hy10:y<10:=by omega
   rw[←hq,←hy];obtain⟨d,hd⟩:∃d,d=UInt8.ofNat (48+y):=⟨_,rfl⟩;have HZ:=qa58 (show 48+(y:Int)=(d.toNat:Int)by rw[hd];simp;omega);rw[←hd];have hc:=fun wr=>zif (wr:=wr) (d:=d) (z:=48+(y:Int)) HZ.out;have hcd:(convert 123 9 (.slice (some ⟨w.heap.size,0,none⟩) 1 1)).run Tryz.prog (w.alloc (.cells #[.int .u8 (48+(y:Int))] 5)).drew=.ok (.string (Lx.bs [d])) (w.alloc (.cells #[.int .u8 (48+(y:Int))] 5)).drew:=zif (wr:=w.drew) HZ.out;have hql:=zyo (m:=q) (by omega);have hw1:IntKind.i64.wrap (q:Int)=(q:Int):=by unfold IntKind.wrap;simp[IntKind.bits,IntKind.signed];omega
   have hw2:IntKind.i64.wrap (48+(y:Int))=48+(y:Int):=by unfold IntKind.wrap;simp[IntKind.bits,IntKind.signed];omega
   have hw3:IntKind.u8.wrap (48+(y:Int))=48+(y:Int):=by unfold IntKind.wrap;simp[IntKind.bits,IntKind.signed];omega
   clear hq hy hd;go_enter Tryz.func95,Tryz.ntmps95;go_wp2;go_region_with (go_at_call 95;refine(IH.out q hqm _ _ (by first|with_reducible rfl|exact hq3|exact hq2|omega) (by omega)).mono ?_;rintro e w1 ⟨rfl,hb1⟩;try(have hc9:(convert 123 9 (.slice (some ⟨w.heap.size,0,none⟩) 1 1)).run Tryz.prog w1=.ok (.string (Lx.bs [d])) w1:=zvX (wr:=w.drew) HZ.out hb1));all_goals
    go_wp2;go_ret;refine⟨by rw[←Lx.zeh];rfl, ?_⟩;first
     |exact zl5 (zac (w:=w) ((Below.refl _ _).drew) hb1) _
     |exact zac (w:=w) (zl5 ((Below.refl _ _).drew) _) hb1
theorem tmod_neg(m:Nat):Int.tmod (-(m:Int)) 10=-((m % 10:Nat):Int):=by rw[Int.neg_tmod];rfl
theorem tdiv_neg(m:Nat):Int.tdiv (-(m:Int)) 10=-((m / 10:Nat):Int):=by rw[Int.neg_tdiv];rfl
set_option maxRecDepth 100000 in
set_option maxHeartbeats 1000000 in
theorem rnum_neg:∀(m:Nat)(x:Int)(w:World),x=-(m:Int)→0<m→m≤9223372036854775808 →
  Calls Tryz.prog 95 #[.int .i64 x] w fun e w'=>e=.returned (.string (Lx.bs (45::Ox.numN m)))∧Below w.heap.size w w':=by
 intro m;induction m using Nat.strongRecOn with
 |_ m ih=>
  intro x w hx h0 hm;subst hx;have IH:=qa58 ih;clear ih;have d0:decide (-(m:Int)<0)=true:=qa49 (by omega);by_cases h10:m<10
  ·have d1:decide (-10 < -(m:Int))=true:=qa49 (by omega);obtain⟨d,hd⟩:∃d,d=UInt8.ofNat (48+m):=⟨_,rfl⟩;have hr:Ox.numN m=[d]:=by rw[Ox.numN,if_pos h10,hd]
   have hz:48+(m:Int)=(d.toNat:Int):=by rw[hd];simp;omega
   have hc:=fun wr=>zif (wr:=wr) (d:=d) (z:=48+(m:Int)) hz;have hc2:=fun wr=>zif (wr:=wr) (d:=d) (z:=48 - -(m:Int)) (by omega);rw[hr];clear hr hd hz;go_enter Tryz.func95,Tryz.ntmps95;go_wp2;go_ret;exact⟨rfl,by exact zw⟩
  ·have d1:decide (-10 < -(m:Int))=false:=qa45 (by omega);have hr:Ox.numN m=Ox.numN (m / 10)++[UInt8.ofNat (48+m % 10)]:=by rw[Ox.numN.eq_def,if_neg h10]
   rw[hr];clear hr;have hq3:=tdiv_neg m;have hy3:=tmod_neg m;obtain⟨q,hq⟩:∃q,q=m / 10:=⟨_,rfl⟩;obtain⟨y,hy⟩:∃y,y=m % 10:=⟨_,rfl⟩;have hqm:q<m:=by omega
   have hq0:0<q:=by omega
   have hy10:y<10:=by omega
   rw[←hq]at hq3;rw[←hy]at hy3;rw[←hq,←hy];obtain⟨d,hd⟩:∃d,d=UInt8.ofNat (48+y):=⟨_,rfl⟩;have hz:48+(y:Int)=(d.toNat:Int):=by rw[hd];simp;omega
   have HZ:=qa58 hz;have HZ2:=qa58 (show 48 - -(y:Int)=(d.toNat:Int)by omega);rw[←hd];have hc:=fun wr=>zif (wr:=wr) (d:=d) (z:=48+(y:Int)) HZ.out;have hc2:=fun wr=>zif (wr:=wr) (d:=d) (z:=48 - -(y:Int)) HZ2.out;have hcd:(convert 123 9 (.slice (some ⟨w.heap.size,0,none⟩) 1 1)).run Tryz.prog (w.alloc (.cells #[.int .u8 (48+(y:Int))] 5)).drew=.ok (.string (Lx.bs [d])) (w.alloc (.cells #[.int .u8 (48+(y:Int))] 5)).drew:=zif (wr:=w.drew) HZ.out;have hql:=zyo (m:=q) (by omega);have hw1:IntKind.i64.wrap (-(q:Int))=-(q:Int):=by unfold IntKind.wrap;simp[IntKind.bits,IntKind.signed];omega
   have hw2:IntKind.i64.wrap (48 - -(y:Int))=48+(y:Int):=by unfold IntKind.wrap;simp[IntKind.bits,IntKind.signed];omega
   have hw4:IntKind.i64.wrap (48+(y:Int))=48+(y:Int):=by unfold IntKind.wrap;simp[IntKind.bits,IntKind.signed];omega
   have hw3:IntKind.u8.wrap (48+(y:Int))=48+(y:Int):=by unfold IntKind.wrap;simp[IntKind.bits,IntKind.signed];omega
   have hw5:IntKind.i64.wrap (-(y:Int))=-(y:Int):=by unfold IntKind.wrap;simp[IntKind.bits,IntKind.signed];omega
   clear hq hy hd hz;go_enter Tryz.func95,Tryz.ntmps95;go_wp2;go_region_with (go_at_call 95;refine(IH.out q hqm _ _ (by first|with_reducible rfl|exact hq3|omega) hq0 (by omega)).mono ?_;rintro e w1 ⟨rfl,hb1⟩;try(have hc9:(convert 123 9 (.slice (some ⟨w.heap.size,0,none⟩) 1 1)).run Tryz.prog w1=.ok (.string (Lx.bs [d])) w1:=zvX (wr:=w.drew) HZ.out hb1));all_goals
    go_wp2;go_ret;refine⟨by rw[←qa35,←Lx.zeh];rfl, ?_⟩;first
     |exact zl5 (zac (w:=w) ((Below.refl _ _).drew) hb1) _
     |exact zac (w:=w) (zl5 ((Below.refl _ _).drew) _) hb1
theorem rnum_any(n:Int)(w:World)(h0:-9223372036854775808≤n)(hm:n≤9223372036854775807):
  Calls Tryz.prog 95 #[.int .i64 n] w fun e w'=>e=.returned (.string (Lx.bs (Ox.num n)))∧Below w.heap.size w w':=by
 by_cases h:0≤n
 ·rw [Ox.num,if_neg (by omega)];exact rnum_pos n.natAbs n w (by omega) (by omega)
 ·rw [Ox.num,if_pos (by omega)];exact rnum_neg n.natAbs n w (by omega) (by omega) (by omega)
end
end Go.Proofs.YtlooegbcfkoloaaGreatDoor
end
