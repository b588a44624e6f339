/- Part of the proof: see the last text. -/
import Derived.Test.YtplflngjpajcmaaGreatDoorP0
import Derived.Test.YtplflngjpajcmaaGreatDoorP6
set_option maxRecDepth 20000
set_option linter.unusedVariables false
set_option linter.unusedSimpArgs false
noncomputable section
namespace Go.Proofs.YtplflngjpajcmaaGreatDoor
open Go.RowKit
attribute [local simp] Lx.zao
namespace Num
def res(f:Bool)(r:Nat)(acc:Ox.S):Ox.S:=if f || decide (0<r)then Ox.numN r++acc else acc
theorem res_step{f:Bool}{r:Nat}{acc:Ox.S}(h:f=true∨0<r):res false (r / 10) (UInt8.ofNat (48+r % 10)::acc)=res f r acc:=by
 have h1:(f || decide (0<r))=true:=by rcases h with h|h<;>simp[h]
 unfold res;rw[h1,if_pos rfl,Bool.false_or];by_cases h2:r<10
 ·have h3:r / 10=0:=by omega
  have h4:r % 10=r:=by omega
  rw[Ox.numN.eq_def r,if_pos h2,h3,h4];rfl
 ·have h3:decide (0 < r / 10)=true:=qa30 (by omega);rw[if_pos h3,Ox.numN.eq_def r,if_neg h2,qa19];rfl
def Cells(g:Nat)(at_:Nat)(acc:Ox.S)(wr:World):Prop:=
 ∃D:Array Value,wr.heap[g]?=some (.cells D 213)∧D.size=20∧acc.length+at_=20∧∀j (h:j<acc.length),D[at_+j]?=some (.int .u8 (acc[j].toNat:Int))
theorem Cells.at_{g k:Nat}{acc:Ox.S}{wr:World}(h:Cells g (k+1) acc wr):(∃v,wr.cell? ⟨g,k,none⟩=some v)∧wr.frozen? ⟨g,k,none⟩=false:=by
 obtain⟨D,h1,h2,h3,h4⟩:=h;have hk:k<D.size:=by omega
 exact⟨⟨D[k],zaT h1 (Array.getElem?_eq_getElem hk)⟩,(zan h1).2 k⟩
theorem Cells.set_{g k:Nat}{acc:Ox.S}{wr:World}{d:UInt8}{v:Int}(h:Cells g (k+1) acc wr)(hv:v=(d.toNat:Int)):Cells g k (d::acc) (wr.setCell ⟨g,k,none⟩ (.int .u8 v)):=by
 obtain⟨D,h1,h2,h3,h4⟩:=h;refine⟨_,zby h1,by simp[h2],by simp;omega,fun j hj=>?_⟩;cases j with
 |zero=>
  rw[Nat.add_zero,Array.getElem?_setIfInBounds_self_of_lt (by omega),hv];rfl
 |succ j=>
  rw[Array.getElem?_setIfInBounds_ne (by omega)];have:=h4 j (by simpa using hj);rw[show k+(j+1)=k+1+j by omega,this];rfl
theorem Cells.back{g at_ cap:Nat}{acc:Ox.S}{wr:World}(h:Cells g at_ acc wr):
  (convert 185 9 (.slice (some ⟨g,at_,none⟩) acc.length cap)).run Tryz.prog wr=.ok (.string (Lx.bs acc)) wr:=by
 obtain⟨D,h1,h2,h3,h4⟩:=h;refine run_convert_bytes_back wr 185 9 5 ⟨g,at_,none⟩ cap acc Tryz.underlying185 Tryz.underlying5 Tryz.underlying9 (fun j hj=>?_);rw[show(⟨g,at_,none⟩:Addr).add j=⟨g,at_+j,none⟩from by simp[Addr.add]];exact zaT h1 (h4 j hj)
theorem dig_nat(r:Nat):(48+((r % 10:Nat):Int))=((UInt8.ofNat (48+r % 10)).toNat:Int):=by
 simp;omega
theorem start(w:World):Cells w.heap.size 20 [] (w.alloc (.cells (Array.replicate 20 (.int .u8 0)) 213)):=
 ⟨_,heap_alloc_new w _,by simp,rfl,fun j hj=>absurd hj (by simp)⟩
end Num
def zeE:Value→Nat
 |.bool true=>1
 |_=>0
def NRel(B g lo:Nat)(T:Ox.S)(rest at_ first:Value)(w wr:World):Prop:=
 ∃(r k:Nat)(f:Bool)(acc:Ox.S),rest=.int .u64 r∧at_=.int .i64 k∧first=.bool f∧Num.Cells g k acc wr∧Below B w wr∧lo≤k∧k≤20∧r<10 ^ (k-lo)∧(f=true→k=20)∧acc.length+k=20∧Hid (Num.res f r acc=T)
theorem zil{r k lo:Nat}(h:r<10 ^ (k-lo))(h0:0<r)(hk:lo≤k):lo<k:=by
 rw[←Nat.not_le];intro h2;have:k-lo=0:=by omega
 rw[this]at h;omega
theorem zj1{r k lo:Nat}(h:r<10 ^ (k+1-lo))(hk:lo≤k):r / 10<10 ^ (k-lo):=by
 rw[show k+1-lo=(k-lo)+1 by omega,Nat.pow_succ]at h;omega
theorem zg4{wr:World}{g k:Nat}{acc:Ox.S}(hk:acc.length+k=20)(h0:acc≠[]):
  (Instr.sliceAt 213 (.pointer (some ⟨g,0,none⟩)) (some (.int .i64 (k:Int))) none none).run Tryz.prog wr=.ok (.slice (some ⟨g,k,none⟩) acc.length acc.length) wr:=by
 have hl:=List.length_pos_iff.2 h0;have e1:Tryz.prog.arrayLen 213=20:=by kernel_rfl
 have e2:(sizeOf (Tryz.prog.elem 213)).run Tryz.prog wr=.ok 1 wr:=by kernel_rfl
 rw[run_sliceAt_array_l (P:=Tryz.prog) wr 213 ⟨g,0,none⟩ (by kernel_rfl) .i64 (k:Int) (by omega) (by rw[e1];omega),e2,e1];show Result.ok (slicedAt ⟨g,0,none⟩ (k:Int).toNat 20 20 1) wr=_;unfold slicedAt;rw[if_neg (by simp;omega)];congr 2
 ·simp[Addr.add];try omega
 ·simp;omega
 ·simp;omega
theorem res_ne{acc:Ox.S}{T:Ox.S}(h:Num.res false 0 acc=T):acc=T:=h
theorem zkf(m:Nat):Ox.numN m≠[]:=by
 rw[Ox.numN];split<;>simp
set_option maxHeartbeats 1000000 in
theorem tnum_pos(n:Int)(w:World)(h0:0≤n)(hm:n≤9223372036854775807):
  Calls Tryz.prog 151 #[.int .i64 n] w fun e w'=>e=.returned (.string (Lx.bs (Ox.num n)))∧Below w.heap.size w w':=by
 obtain⟨T,hT⟩:∃T,T=Ox.num n:=⟨_,rfl⟩;rw[←hT];obtain⟨Q,hQ⟩:∃Q,Q=Ox.numN n.natAbs:=⟨_,rfl⟩;have hTQ:T=Q:=by rw[hT,hQ,Ox.num,if_neg (by omega)]
 have hQ0:Q≠[]:=by rw[hQ];exact zkf _
 have hw:n=(n.natAbs:Int):=by omega
 have hT2:Num.res true n.natAbs []=Q:=by rw[hQ,Num.res];simp
 have HT:=qa38 hT2;have HTQ:=qa38 hTQ;have HQ0:=qa38 hQ0;have HW:=qa38 hw;have hst:=Num.start w;have hlt:n.natAbs<10 ^ (20-0):=by have:(10:Nat) ^ (20-0)=100000000000000000000:=rfl;omega
 have HLT:=qa38 hlt;have d0:decide (n<0)=false:=qa28 (by omega);clear hT hT2 hw hlt hTQ hQ hQ0;go_enter Tryz.func151,Tryz.ntmps151;go_wp2;go_loopw [3,5,6] (fun r k f wr=>NRel w.heap.size w.heap.size 0 Q r k f w wr) (fun r k f _=>(intOf r).toNat+zeE f)
 case atStart=>exact⟨n.natAbs,20,true,[],congrArg _ HW.out,rfl,rfl,hst,by exact zw,by omega,by omega,HLT.out,fun _=>rfl,rfl,HT⟩
 case round=>
  obtain⟨r,k,f,acc,rfl,rfl,rfl,hc,hb,hlo,hk,hr,hf,hak,HR⟩:=hrel;have hr20:r<100000000000000000000:=qa14 hr (by have:=Nat.pow_le_pow_right (n:=10) (by omega) (show k-0≤20 by omega);simpa using this);by_cases hgo:f=true∨0<r
  ·obtain⟨k,rfl⟩:∃j,k=j+1:=by
    rcases hgo with h|h
    ·have:=hf h;exact⟨19,by omega⟩
    ·have:=zil hr h hlo;exact⟨k-1,by omega⟩
   have hlo2:0≤k:=by
    rcases hgo with h|h
    ·have:=hf h;omega
    ·have:=zil hr h hlo;omega
   obtain⟨⟨u,hu⟩,hfz⟩:=hc.at_;have HD:=qa38 (Num.dig_nat r);have HK':=qa38 ((Num.res_step hgo).trans HR.out);have HP:=qa38 (zj1 hr hlo2);have hc':=hc.set_ (v:=48+(r:Int) % 10) (d:=UInt8.ofNat (48+r % 10)) (by rw[←HD.out];omega);have hb':Below w.heap.size w (wr.setCell ⟨w.heap.size,k,none⟩ (.int .u8 (48+(r:Int) % 10))):=hb.setCell (qa37 _) _;cases f with
   |true=>
    clear hr hf hgo;go_wp2;go_roundw
    case rel=>exact⟨r / 10,k,false,_,by simp,rfl,rfl,hc',hb',by omega,by omega,HP.out,by simp,by simp;omega,HK'⟩
    case measure=>simp[intOf,zeE];omega
   |false=>
    have hr0:0<r:=by rcases hgo with h|h;cases h;exact h
    have dr:decide (0<r)=true:=qa30 hr0;clear hr hf hgo;go_wp2;go_roundw
    case rel=>exact⟨r / 10,k,false,_,by simp,rfl,rfl,hc',hb',by omega,by omega,HP.out,by simp,by simp;omega,HK'⟩
    case measure=>simp[intOf,zeE];omega
  ·have hf0:f=false:=by cases f with
    |false=>rfl
    |true=>exact absurd (.inl rfl) hgo
   have hr0:r=0:=by
    have:¬0<r:=fun h=>hgo (.inr h);omega
   subst hf0 hr0;have hQ2:=res_ne HR.out;subst hQ2;have hacc:=HQ0.out;have hsl:=zg4 (wr:=wr) (g:=w.heap.size) hak hacc;have hback:=hc.back (cap:=acc.length);clear hr hf hgo hacc;go_wp2;go_ret;exact⟨by rw[HTQ.out];rfl,hb⟩
set_option maxHeartbeats 1000000 in
theorem tnum_neg(n:Int)(w:World)(h0:n<0)(hm:-9223372036854775808≤n):
  Calls Tryz.prog 151 #[.int .i64 n] w fun e w'=>e=.returned (.string (Lx.bs (Ox.num n)))∧Below w.heap.size w w':=by
 obtain⟨T,hT⟩:∃T,T=Ox.num n:=⟨_,rfl⟩;rw[←hT];obtain⟨Q,hQ⟩:∃Q,Q=Ox.numN n.natAbs:=⟨_,rfl⟩;have hTQ:T=45::Q:=by rw[hT,hQ,Ox.num,if_pos h0]
 have hQ0:Q≠[]:=by rw[hQ];exact zkf _
 have hw:IntKind.u64.wrap (-IntKind.u64.wrap n)=(n.natAbs:Int):=by unfold IntKind.wrap;simp[IntKind.bits,IntKind.signed];omega
 have hT2:Num.res true n.natAbs []=Q:=by rw[hQ,Num.res];simp
 have HT:=qa38 hT2;have HTQ:=qa38 hTQ;have HQ0:=qa38 hQ0;have HW:=qa38 hw;have hst:=Num.start w;have hlt:n.natAbs<10 ^ (20-1):=by have:(10:Nat) ^ (20-1)=10000000000000000000:=rfl;omega
 have HLT:=qa38 hlt;have d0:decide (n<0)=true:=qa30 (by omega);clear hT hT2 hw hlt hTQ hQ hQ0;go_enter Tryz.func151,Tryz.ntmps151;go_wp2;go_loopw [3,5,6] (fun r k f wr=>NRel w.heap.size w.heap.size 1 Q r k f w wr) (fun r k f _=>(intOf r).toNat+zeE f)
 case atStart=>exact⟨n.natAbs,20,true,[],congrArg _ HW.out,rfl,rfl,hst,by exact zw,by omega,by omega,HLT.out,fun _=>rfl,rfl,HT⟩
 case round=>
  obtain⟨r,k,f,acc,rfl,rfl,rfl,hc,hb,hlo,hk,hr,hf,hak,HR⟩:=hrel;have hr20:r<100000000000000000000:=qa14 hr (by have:=Nat.pow_le_pow_right (n:=10) (by omega) (show k-1≤20 by omega);simpa using this);by_cases hgo:f=true∨0<r
  ·obtain⟨k,rfl⟩:∃j,k=j+1:=by
    rcases hgo with h|h
    ·have:=hf h;exact⟨19,by omega⟩
    ·have:=zil hr h hlo;exact⟨k-1,by omega⟩
   have hlo2:1≤k:=by
    rcases hgo with h|h
    ·have:=hf h;omega
    ·have:=zil hr h hlo;omega
   obtain⟨⟨u,hu⟩,hfz⟩:=hc.at_;have HD:=qa38 (Num.dig_nat r);have HK':=qa38 ((Num.res_step hgo).trans HR.out);have HP:=qa38 (zj1 hr hlo2);have hc':=hc.set_ (v:=48+(r:Int) % 10) (d:=UInt8.ofNat (48+r % 10)) (by rw[←HD.out];omega);have hb':Below w.heap.size w (wr.setCell ⟨w.heap.size,k,none⟩ (.int .u8 (48+(r:Int) % 10))):=hb.setCell (qa37 _) _;cases f with
   |true=>
    clear hr hf hgo;go_wp2;go_roundw
    case rel=>exact⟨r / 10,k,false,_,by simp,rfl,rfl,hc',hb',by omega,by omega,HP.out,by simp,by simp;omega,HK'⟩
    case measure=>simp[intOf,zeE];omega
   |false=>
    have hr0:0<r:=by rcases hgo with h|h;cases h;exact h
    have dr:decide (0<r)=true:=qa30 hr0;clear hr hf hgo;go_wp2;go_roundw
    case rel=>exact⟨r / 10,k,false,_,by simp,rfl,rfl,hc',hb',by omega,by omega,HP.out,by simp,by simp;omega,HK'⟩
    case measure=>simp[intOf,zeE];omega
  ·have hf0:f=false:=by cases f with
    |false=>rfl
    |true=>exact absurd (.inl rfl) hgo
   have hr0:r=0:=by
    have:¬0<r:=fun h=>hgo (.inr h);omega
   subst hf0 hr0;have hQ2:=res_ne HR.out;subst hQ2;have hacc:=HQ0.out;obtain⟨k,rfl⟩:∃j,k=j+1:=⟨k-1,by omega⟩;obtain⟨⟨u,hu⟩,hfz⟩:=hc.at_;have hc':=hc.set_ (v:=45) (d:=45) rfl;obtain⟨L,hL⟩:∃L,L=(45:UInt8)::acc:=⟨_,rfl⟩;rw[←hL]at hc';have hLl:L.length+k=20:=by rw[hL];simp;omega
   have hLne:L≠[]:=by rw[hL];simp
   have HL:=qa38 hL;have hb':Below w.heap.size w (wr.setCell ⟨w.heap.size,k,none⟩ (.int .u8 45)):=hb.setCell (qa37 _) _;have hsl:=zg4 (wr:=wr.setCell ⟨w.heap.size,k,none⟩ (.int .u8 45)) (g:=w.heap.size) (acc:=L) (k:=k) hLl hLne;have hback:=hc'.back (cap:=L.length);clear hr hf hgo hacc hL hLl hLne;go_wp2;go_ret;exact⟨by rw[HTQ.out,←HL.out];rfl,hb'⟩
theorem tnum_any(n:Int)(w:World)(h0:-9223372036854775808≤n)(hm:n≤9223372036854775807):
  Calls Tryz.prog 151 #[.int .i64 n] w fun e w'=>e=.returned (.string (Lx.bs (Ox.num n)))∧Below w.heap.size w w':=by
 by_cases h:0≤n
 ·exact tnum_pos n w h hm
 ·exact tnum_neg n w (by omega) h0
end Go.Proofs.YtplflngjpajcmaaGreatDoor
end
