/- Part of the proof: see the last text. -/
import Derived.Test.YtplflngjpajcmaaGreatDoorPB
set_option maxRecDepth 20000
set_option linter.unusedVariables false
set_option linter.unusedSimpArgs false
noncomputable section
namespace Lx
def suf(s:ByteArray)(k:Nat):List UInt8:=s.data.toList.drop k
theorem zad{s:ByteArray}{k:Nat}(h:k<s.size):suf s k=s[k]::suf s (k+1):=by
 unfold suf;rw[List.drop_eq_getElem_cons (by simpa using h)];rfl
theorem zba{s:ByteArray}{k:Nat}(h:s.size≤k):suf s k=[]:=by
 unfold suf;exact List.drop_eq_nil_of_le (by simpa using h)
theorem zag(s:ByteArray)(k:Nat):(suf s k).length=s.size-k:=by
 unfold suf;rw[qa24];rfl
def bl(c:UInt8):Bool:=c==32 || c==9 || c==10 || c==13
def skipN:Bool→List UInt8→Nat
 |_,[]=>0
 |true,c::r=>1+skipN (c != 10) r
 |false,c::r=>if bl c then 1+skipN false r else if c==45 && r.head? == some 45 then 1+skipN true r else 0
theorem zia(b:Bool)(l:List UInt8):skipN b l≤l.length:=by
 induction l generalizing b with
 |nil=>cases b<;>simp[skipN]
 |cons c r ih=>
  cases b
  ·unfold skipN;have h1:=ih false;have h2:=ih true;split
   ·simp only[qa20];omega
   ·split
    ·simp only[qa20];omega
    ·simp only[qa20];omega
  ·unfold skipN;have h1:=ih (c != 10);simp only[qa20];omega
theorem u8_of{c:UInt8}{n:Nat}(hn:n<256)(h:c.toNat=n):c=UInt8.ofNat n:=by
 apply UInt8.toNat_inj.1;rw[h];simp;omega
theorem bl_of{c:UInt8}(h:c.toNat=32∨c.toNat=9∨c.toNat=10∨c.toNat=13):bl c=true:=by
 rcases h with h|h|h|h<;>(rw[u8_of (by omega) h];rfl)
theorem zcB(c d:UInt8):(c==d)=decide (c.toNat=d.toNat):=by
 rw[Bool.eq_iff_iff];simp[UInt8.toNat_inj]
theorem bl_not{c:UInt8}(h:c.toNat≠32)(h2:c.toNat≠9)(h3:c.toNat≠10)(h4:c.toNat≠13):bl c=false:=by
 simp[bl,zcB,h,h2,h3,h4]
theorem ziT{s:ByteArray}{k:Nat}(h:k<s.size)
  (hb:s[k].toNat=32∨s[k].toNat=9∨s[k].toNat=10∨s[k].toNat=13):
  k+skipN false (suf s k)=k+1+skipN false (suf s (k+1)):=by
 rw[zad h];simp[skipN,bl_of hb];omega
theorem skip_com{s:ByteArray}{k:Nat}(h:k+1<s.size)(h1:s[k].toNat=45)(h2:s[k+1].toNat=45):
  k+skipN false (suf s k)=k+skipN true (suf s k):=by
 have hs2:=zad (k:=k+1) h;rw[zad (k:=k) (by omega)];have e1:s[k]=45:=u8_of (n:=45) (by omega) h1;have e2:s[k+1]=45:=u8_of (n:=45) (by omega) h2;simp[skipN,bl,e1,hs2,e2]
theorem zgE{s:ByteArray}{k:Nat}(h:k<s.size)(h1:s[k].toNat≠32)(h2:s[k].toNat≠9)(h3:s[k].toNat≠10)(h4:s[k].toNat≠13)
  (h5:s[k].toNat=45→∀h:k+1<s.size,s[k+1].toNat≠45):k+skipN false (suf s k)=k:=by
 rw[zad h];have hb:=bl_not h1 h2 h3 h4;have:(s[k]==45 && (suf s (k+1)).head? == some 45)=false:=by
  by_cases e:s[k].toNat=45
  ·by_cases h':k+1<s.size
   ·have:=h5 e h';rw[zad h'];simp[←UInt8.toNat_inj,this]
   ·rw[zba (by omega)];simp
  ·simp[zcB,e]
 simp[skipN,hb,this]
theorem zfP{b:Bool}{s:ByteArray}{k:Nat}(h:s.size≤k):k+skipN b (suf s k)=k:=by
 rw[zba h];cases b<;>simp[skipN]
theorem skip_in{s:ByteArray}{k:Nat}(h:k<s.size)(h1:s[k].toNat≠10):
  k+skipN true (suf s k)=k+1+skipN true (suf s (k+1)):=by
 rw[zad h];have:(s[k] != 10)=true:=by simp[←UInt8.toNat_inj,h1]
 simp[skipN,this];omega
theorem skip_out{s:ByteArray}{k:Nat}(h:k<s.size)(h1:s[k].toNat=10):
  k+skipN true (suf s k)=k+skipN false (suf s k):=by
 rw[zad h];have:s[k]=10:=u8_of (n:=10) (by omega) h1;simp[skipN,this,bl]
def dig(c:UInt8):Bool:=decide (48≤c.toNat) && decide (c.toNat≤57)
def let_(c:UInt8):Bool:=decide (65≤c.toNat) && decide (c.toNat≤90) || decide (97≤c.toNat) && decide (c.toNat≤122) || decide (c.toNat=95)
def nam(c:UInt8):Bool:=let_ c || dig c
def many(p:UInt8→Bool):List UInt8→Nat
 |[]=>0
 |c::r=>if p c then 1+many p r else 0
theorem za1(p:UInt8→Bool)(l:List UInt8):many p l≤l.length:=by
 induction l with
 |nil=>simp[many]
 |cons c r ih=>
  unfold many;split
  ·simp only[qa20];omega
  ·omega
theorem many_go{p:UInt8→Bool}{s:ByteArray}{k:Nat}(h:k<s.size)(hp:p s[k]=true):k+many p (suf s k)=k+1+many p (suf s (k+1)):=by
 rw[zad h];simp[many,hp];omega
theorem zkn{p:UInt8→Bool}{s:ByteArray}{k:Nat}(h:k<s.size)(hp:p s[k]=false):k+many p (suf s k)=k:=by
 rw[zad h];simp[many,hp]
theorem many_end{p:UInt8→Bool}{s:ByteArray}{k:Nat}(h:s.size≤k):k+many p (suf s k)=k:=by
 rw[zba h];simp[many]
def bs(l:List UInt8):ByteArray:=⟨l.toArray⟩
def ls(s:ByteArray):List UInt8:=s.data.toList
theorem zgn(s:ByteArray):bs (ls s)=s:=by cases s;rfl
theorem zaH(l:List UInt8):ls (bs l)=l:=by simp[ls,bs]
theorem zaj(s:ByteArray):(ls s).length=s.size:=rfl
theorem zao(l:List UInt8):(bs l).size=l.length:=by simp[bs,ByteArray.size]
def lo(c:UInt8):UInt8:=if decide (65≤c.toNat) && decide (c.toNat≤90)then UInt8.ofNat (c.toNat+32)else c
def fold(l:List UInt8):List UInt8:=l.map lo
theorem zbm(l:List UInt8):(fold l).length=l.length:=by simp[fold]
theorem bs_toList(l:List UInt8):(bs l).toList=l:=by
 rw[show(bs l).toList=(bs l).data.toList from Go.ByteArray.toList_eq _];exact zaH l
theorem zas(s:ByteArray):s.toList=ls s:=Go.ByteArray.toList_eq s
theorem ls_inj{s t:ByteArray}(h:ls s=ls t):s=t:=by rw[←zgn s,h,zgn]
theorem zaG(s:ByteArray)(a b:Nat):ls (s.extract a b)=((ls s).drop a).take (b-a):=Go.Lib.extract_data s a b
theorem zax(s:ByteArray)(a b:Nat):s.extract a b=bs (((ls s).drop a).take (b-a)):=by rw[←zaG,zgn]
theorem zb0(s:ByteArray)(a:Nat):s.extract a s.size=bs ((ls s).drop a):=by
 rw[zax,List.take_of_length_le];rw[qa24,zaj];exact qa37 _
theorem za9(s:ByteArray)(a b:Nat)(h:b≤s.size):(s.extract a b).size=b-a:=by
 rw[←zaj,zaG,qa23,qa24,zaj];omega
theorem za6(s:ByteArray)(k:Nat):suf s k=(ls s).drop k:=rfl
theorem zda(s:ByteArray):suf s 0=ls s:=rfl
theorem zfl{s:ByteArray}(h:s.size=0):ls s=[]:=qa1 (by rw[zaj];exact h)
theorem zcx{s:ByteArray}(h:0<s.size):ls s=s[0]::suf s 1:=by rw[←zda,zad h]
theorem zeG{s:ByteArray}{k:Nat}(h:k<s.size):(ls s)[k]?=some s[k]:=by
 rw[qa5 (by rw[zaj];exact h)];rfl
def zaW(l:List UInt8):Bool:=!l.isEmpty && !(decide (1<l.length) && l.head? == some 48) && l.all dig
def dec(l:List UInt8):Nat:=l.foldl (fun n c=>10*n+(c.toNat-48)) 0
def most:Nat:=9223372036854775807
def read(l:List UInt8):Int×Int:=
 let neg:=l.head? == some 45;let d:=if neg then l.tail else l
 if !zaW d || (neg && d==[48])then(0,8)
 else if neg then(if most+1<dec d then(0,9)else(-(dec d:Int),0))
 else(if most<dec d then(0,9)else((dec d:Int),0))
def zat(l:List UInt8):List UInt8×Bool:=
 if decide (2≤l.length) && l.take 1==[39] && l.drop (l.length-1)==[39]then((l.drop 1).take (l.length-2),true)else([],false)
def zaS:List UInt8→Option (List UInt8)
 |[]=>some []
 |[c]=>if c==39 then none else some [c]
 |c::d::r=>if c==39 then(if d==39 then(zaS r).map (39 :: ·)else none)else(zaS (d::r)).map (c :: ·)
def nib(c:UInt8):Option Nat:=
 if decide (48≤c.toNat) && decide (c.toNat≤57)then some (c.toNat-48)
 else if decide (97≤c.toNat) && decide (c.toNat≤102)then some (c.toNat-87)
 else if decide (65≤c.toNat) && decide (c.toNat≤70)then some (c.toNat-55)
 else none
def zaX:List UInt8→Option (List UInt8)
 |[]=>some []
 |[_]=>none
 |a::b::r=>match nib a,nib b with
  |some x,some y=>(zaX r).map (UInt8.ofNat (16*x+y) :: ·)
  |_,_=>none
def mkV(kind:Int)(r:Option (List UInt8)):(Int×Int×List UInt8)×Int:=
 match r with
 |none=>((0,0,[]),8)
 |some t=>if 4096<t.length then((0,0,[]),3)else((kind,0,t),0)
def zap(l:List UInt8):(Int×Int×List UInt8)×Int:=
 if fold l==[110,117,108,108]then((0,0,[]),0)
 else if(zat l).2 then mkV 2 (zaS (zat l).1)
 else if !l.isEmpty && fold (l.take 1)==[120]then mkV 3 (if(zat l.tail).2 then zaX (zat l.tail).1 else none)
 else if(read l).2≠0 then((0,0,[]),(read l).2)else((1,(read l).1,[]),0)
theorem nib_lt{c:UInt8}{n:Nat}(h:nib c=some n):n<16:=by
 unfold nib at h;split at h
 ·rename_i h1;simp at h1 h;omega
 ·split at h
  ·rename_i h1;simp at h1 h;omega
  ·split at h
   ·rename_i h1;simp at h1 h;omega
   ·cases h
def cutp(l:List UInt8):List UInt8×Bool:=if l.take 1==[45]then(l.tail,true)else(l,false)
theorem read_cut(l:List UInt8):read l=if !zaW (cutp l).1 || ((cutp l).2 && (cutp l).1==[48])then(0,8)
  else if(cutp l).2 then(if most+1<dec (cutp l).1 then(0,9)else(-(dec (cutp l).1:Int),0))
  else(if most<dec (cutp l).1 then(0,9)else((dec (cutp l).1:Int),0)):=by
 have h:(l.head? == some 45)=(l.take 1==[45]):=by
  cases l with
  |nil=>rfl
  |cons a l=>simp
 unfold read cutp;rw[h];cases l.take 1==[45]<;>rfl
theorem zh8(s:ByteArray):(s.extract 0 1).toList=(ls s).take 1:=by rw[zas,zaG];rfl
theorem zkC(s:ByteArray):(s.extract (s.size-1) s.size).toList=(ls s).drop (s.size-1):=by rw[zas,zb0,zaH]
theorem bs_nil:bs []=⟨#[]⟩:=rfl
theorem mid(s:ByteArray):s.extract 1 (s.size-1)=bs (((ls s).drop 1).take (s.size-2)):=by rw[zax];rfl
theorem zja{s:ByteArray}(h:2≤s.size)(h1:(ls s).take 1=[39])(h2:(ls s).drop (s.size-1)=[39]):
  zat (ls s)=(((ls s).drop 1).take (s.size-2),true):=by
 unfold zat;rw[zaj,h1,h2];simp[h]
theorem zeJ{s:ByteArray}(h:s.size<2∨(ls s).take 1≠[39]∨(ls s).drop (s.size-1)≠[39]):zat (ls s)=([],false):=by
 unfold zat;rw[zaj,if_neg];simp only[qa21,qa16,beq_iff_eq];rintro⟨⟨a,b⟩,c⟩;rcases h with h|h|h
 ·omega
 ·exact h b
 ·exact h c
theorem zkE{s:ByteArray}(h:0<s.size)(h2:s.size=1∨s[0].toNat≠48):zaW (ls s)=(suf s 0).all dig:=by
 rw[zda];unfold zaW;rw[zaj];have h3:(ls s).isEmpty=false:=by rw[zcx h];rfl
 have h4:(decide (1<s.size) && (ls s).head? == some 48)=false:=by
  rcases h2 with h2|h2
  ·simp[h2]
  ·rw[zcx h];have:s[0]≠48:=fun e=>h2 (by rw[e];rfl);simp[this]
 rw[h3,h4];rfl
theorem zkD{s:ByteArray}(h:1<s.size)(h2:s[0].toNat=48):zaW (ls s)=false:=by
 have h2':s[0]=48:=u8_of (n:=48) (by omega) h2;have h4:(decide (1<s.size) && (ls s).head? == some 48)=true:=by
  rw[zcx (by omega),h2'];simp[h]
 unfold zaW;rw[zaj,h4];simp
theorem all_go{s:ByteArray}{k:Nat}{p:UInt8→Bool}(h:k<s.size)(hp:p s[k]=true):(suf s k).all p=(suf s (k+1)).all p:=by
 rw[zad h];simp[hp]
theorem all_stop{s:ByteArray}{k:Nat}{p:UInt8→Bool}(h:k<s.size)(hp:p s[k]=false):(suf s k).all p=false:=by
 rw[zad h];simp[hp]
theorem all_end{s:ByteArray}{k:Nat}{p:UInt8→Bool}(h:s.size≤k):(suf s k).all p=true:=by
 rw[zba h];rfl
theorem zhQ{c:UInt8}:dig c=true↔48≤c.toNat∧c.toNat≤57:=by simp[dig]
theorem dig_not{c:UInt8}:dig c=false↔c.toNat<48∨57<c.toNat:=by
 rw[←Bool.not_eq_true,zhQ];omega
theorem ziE(l:List UInt8)(c:UInt8):dec (l++[c])=10*dec l+(c.toNat-48):=by simp[dec]
theorem dec_more(l m:List UInt8):dec l≤dec (l++m):=by
 induction m generalizing l with
 |nil=>simp
 |cons c m ih=>
  have:=ih (l++[c]);rw[ziE]at this;rw[qa19]at this;simp only[List.singleton_append]at this;omega
theorem zhR(l:List UInt8)(k:Nat):dec (l.take k)≤dec l:=by
 have:=dec_more (l.take k) (l.drop k);rwa[List.take_append_drop]at this
theorem zbf{s:ByteArray}{k:Nat}(h:k<s.size):dec ((ls s).take (k+1))=10*dec ((ls s).take k)+(s[k].toNat-48):=by
 rw[List.take_add_one,zeG h];exact ziE _ _
theorem zfv{s:ByteArray}(h:zaW (ls s)=true){k:Nat}(hk:k<s.size):48≤s[k].toNat∧s[k].toNat≤57:=by
 unfold zaW at h;simp only[qa21,qa22]at h;exact zhQ.1 (h.2 _ (qa8 (zeG hk)))
def zgX(d:List UInt8)(neg:Bool):Int×Int:=
 if !zaW d || (neg && d==[48])then(0,8)
 else if neg then(if most+1<dec d then(0,9)else(-(dec d:Int),0))
 else(if most<dec d then(0,9)else((dec d:Int),0))
theorem zf8(l:List UInt8):read l=zgX (cutp l).1 (cutp l).2:=read_cut l
theorem zfe{d:ByteArray}{k:Nat}{neg:Bool}(hok:zaW (ls d)=true)(hz:neg=false∨ls d≠[48])(hk:k≤d.size)(h:(if neg then most+1 else most)<dec ((ls d).take k)):
  zgX (ls d) neg=(0,9):=by
 have h2:=zhR (ls d) k;unfold zgX;rw[hok];cases neg
 ·simp at h ⊢;omega
 ·have:(ls d == [48])=false:=by rcases hz with hz | hz<;>simp_all
  rw[this];simp at h ⊢;omega
theorem zff{d:ByteArray}{neg:Bool}(hok:zaW (ls d)=true)(hz:neg=false∨ls d≠[48])(h:dec (ls d)≤(if neg then most+1 else most)):
  zgX (ls d) neg=(if neg then -(dec (ls d):Int)else(dec (ls d):Int),0):=by
 unfold zgX;rw[hok];cases neg
 ·simp at h ⊢;omega
 ·have:(ls d == [48])=false:=by rcases hz with hz | hz<;>simp_all
  rw[this];simp at h ⊢;omega
theorem zge:most=9223372036854775807:=rfl
theorem zh9(d:ByteArray):(ls d).take d.size=ls d:=List.take_of_length_le (Nat.le_of_eq (zaj d))
theorem zkF(l:List UInt8):(cutp l).1.length≤l.length:=by
 unfold cutp;split
 ·simp
 ·simp
def onto(acc:List UInt8)(r:Option (List UInt8)):Option (List UInt8):=r.map (acc++·)
theorem zim(r:Option (List UInt8)):onto [] r=r:=by cases r<;>rfl
theorem zga(acc:List UInt8)(c:UInt8)(r:Option (List UInt8)):onto acc (r.map (c :: ·))=onto (acc++[c]) r:=by
 cases r<;>simp[onto]
theorem zgF{s:ByteArray}{k:Nat}(h:k<s.size)(h1:s[k].toNat≠39)(acc:List UInt8):
  onto acc (zaS (suf s k))=onto (acc++[s[k]]) (zaS (suf s (k+1))):=by
 have h2:(s[k]==39)=false:=by simp[zcB,h1]
 rw[zad h,←zga];cases e:suf s (k+1)with
 |nil=>simp[zaS,h2]
 |cons d r=>simp[zaS,h2]
theorem zhu{s:ByteArray}{k:Nat}(h:k+1<s.size)(h1:s[k].toNat=39)(h2:s[k+1].toNat=39)(acc:List UInt8):
  onto acc (zaS (suf s k))=onto (acc++[s[k+1]]) (zaS (suf s (k+2))):=by
 have e1:s[k]=39:=u8_of (n:=39) (by omega) h1;have e2:s[k+1]=39:=u8_of (n:=39) (by omega) h2;rw[zad (k:=k) (by omega),zad (k:=k+1) h,←zga,e1,e2,zaS];rfl
theorem ze4{s:ByteArray}{k:Nat}(h:k<s.size)(h1:s[k].toNat=39)(h2:∀h:k+1<s.size,s[k+1].toNat≠39)(acc:List UInt8):
  onto acc (zaS (suf s k))=none:=by
 have e1:s[k]=39:=u8_of (n:=39) (by omega) h1;rw[zad h,e1];by_cases h3:k+1<s.size
 ·have h4:(s[k+1] == 39)=false:=by have:=h2 h3;simp [zcB,this]
  rw[zad h3,zaS,h4];rfl
 ·rw[zba (by omega),zaS];rfl
theorem ziU{s:ByteArray}{k:Nat}(h:s.size≤k)(acc:List UInt8):onto acc (zaS (suf s k))=some acc:=by
 rw[zba h,zaS];simp[onto]
theorem zjv{s:ByteArray}{k:Nat}(h:s.size≤k)(acc:List UInt8):onto acc (zaX (suf s k))=some acc:=by
 rw[zba h,zaX];simp[onto]
theorem unhex_go{s:ByteArray}{k x y:Nat}(h:k+1<s.size)(hx:nib s[k]=some x)(hy:nib s[k+1]=some y)(acc:List UInt8):
  onto acc (zaX (suf s k))=onto (acc++[UInt8.ofNat (16*x+y)]) (zaX (suf s (k+2))):=by
 rw[zad (k:=k) (by omega),zad (k:=k+1) h,←zga,zaX,hx,hy]
theorem zgy{s:ByteArray}{k:Nat}(h:k+1<s.size)(hn:nib s[k]=none∨nib s[k+1]=none)(acc:List UInt8):
  onto acc (zaX (suf s k))=none:=by
 rw[zad (k:=k) (by omega),zad (k:=k+1) h,zaX];rcases hn with hn|hn
 ·rw[hn];cases nib s[k+1]<;>rfl
 ·rw[hn];cases nib s[k]<;>rfl
theorem zju(l:List UInt8)(h:l.length % 2=1):zaX l=none:=by
 fun_induction zaX l with
 |case1=>simp at h
 |case2=>rfl
 |case3 a b r x y hx hy ih=>simp at h;rw[ih (by omega)];rfl
 |case4=>rfl
theorem zeK(l:List UInt8):(zat l).1.length≤l.length:=by
 unfold zat;split
 ·simp only[qa23,qa24];omega
 ·simp
end Lx
namespace Go.Proofs.YtplflngjpajcmaaGreatDoor
open Go.RowKit
theorem zjM{a b:Nat}(h:a=b):Ending.returned (.int .i64 (a:Int))=.returned (.int .i64 (b:Int)):=by rw[h]
theorem ziZ{a b:Bool}(h:a=b):Ending.returned (.bool a)=.returned (.bool b):=by rw[h]
theorem zaT{w:World}{B:Nat}{C:Array Value}{T:TypeId}{fr:Nat×Nat}{k:Nat}{v:Value}(h:w.heap[B]?=some (.cells C T fr))(hv:C[k]?=some v):
  w.cell? ⟨B,k,none⟩=some v:=by
 simp[World.cell?,h,hv]
theorem zhb{w:World}{B:Nat}{C:Array Value}{T:TypeId}{fr:Nat×Nat}{k:Nat}(h:w.heap[B]?=some (.cells C T fr))(hv:k<fr.1):
  w.frozen? ⟨B,k,none⟩=false:=by
 simp[World.frozen?,h];omega
theorem zby{w:World}{B:Nat}{C:Array Value}{T:TypeId}{fr:Nat×Nat}{k:Nat}{v:Value}(h:w.heap[B]?=some (.cells C T fr)):
  (w.setCell ⟨B,k,none⟩ v).heap[B]?=some (.cells (C.setIfInBounds k v) T fr):=by
 simp[World.setCell,Array.getElem?_modify,h]
theorem zhU{s:ByteArray}{cap j:Nat}(h:j<s.size):(bytesRow s cap)[j]?=some (.int .u8 (s[j].toNat:Int)):=by
 unfold bytesRow;rw[Array.getElem?_append_left (by simpa using h)];rw[Array.getElem?_map,Array.getElem?_eq_getElem (by simpa using h)];rfl
theorem zgm(s:ByteArray)(cap:Nat):s.size≤(bytesRow s cap).size:=by
 unfold bytesRow;simp only[Array.size_append,Array.size_map];exact Nat.le_add_right _ _
theorem zb9(B k:Nat):(⟨B,0,none⟩:Addr).add k=⟨B,k,none⟩:=by
 unfold Addr.add;by_cases h:k=0<;>simp[h]
theorem zkT{P:Program}{wr:World}{B n cap T:Nat}{D:Array Value}{fr:Nat×Nat}{l:List UInt8}(h36:P.underlying n=some (.slice T))(h5:P.underlying T=some (.int .u8)){m:Nat}(h9:P.underlying m=some .string)
  {T':Nat} (h:wr.heap[B]?=some (.cells D T' fr)) (hD:∀j (hj:j<l.length),D[j]?=some (.int .u8 (l[j].toNat:Int))):
  (convert n m (.slice (some ⟨B,0,none⟩) l.length cap)).run P wr=.ok (.string (Lx.bs l)) wr:=
 run_convert_bytes_back wr n m T ⟨B,0,none⟩ cap l h36 h5 h9 (fun j hj=>by
  rw[zb9];exact zaT h (hD j hj))
theorem zhN{P:Program}{e:TypeId}{z:Value}{size bytes:Nat}(h:(P.info? e).map (fun i=>(i.zero,i.size,i.bytes))=some (some z,size,bytes)):
  ∃i,P.info? e=some i∧i.zero=some z∧i.size=size∧i.bytes=bytes:=by
 cases hi:P.info? e with
 |none=>simp[hi]at h
 |some i=>simp[hi]at h;exact⟨i,rfl,h.1,h.2.1,h.2.2⟩
theorem cell_new(W:World)(C:Array Value)(e:TypeId)(j:Nat):(W.alloc (.cells C e)).cell? ⟨W.heap.size,j,none⟩=C[j]?:=by
 have h:=heap_alloc_new W (.cells C e);unfold World.cell?;rw[h];rfl
theorem zj7{w w':World}{base B:Nat}{e:TypeId}{size:Nat}{v:Value}{n:Nat}{xs:List Value}(h:w.ownsRow base e size v n xs)(hg:w.grownBy w' v.ownBlock)(hB:B≤base)(hw:base≤w.heap.size):Below B w w':=
 (Below.refl B w).grown hg (by omega) (fun k hk=>by have:=(h.lt k hk).1;omega)
theorem wpList_app1{P:Program}{ops:Array Oper}{rest:List Oper}{o:Oper}{a:Act}{Q:Exit→Act→World→Prop}(hgd:o.guard=none)(s x:Operand)(t e:TypeId)
  (ho:o.op=.call { callee:=.builtin .append,args:=#[s,x],argTypes:=#[t,t] })
  (ht:P.underlying t=some (.slice e)) {z:Value} {size bytes:Nat} (hinfo:(P.info? e).map (fun i=>(i.zero,i.size,i.bytes))=some (some z,size,bytes))
  (hzs:z.cells.size=size) (hsz:0<size) (W:World) (C:Array Value) (hC:C.size=size) (h1:∀u∈C.toList,u.oneCell'=true)
  (base:Nat) (v:Value) (n:Nat) (xs:List Value) (hs:a.eval s=v) (hown:W.ownsRow base e size v n xs) (hx:a.eval x=.slice (some ⟨W.heap.size,0,none⟩) 1 1)
  (hn:n+1≤maxLen) (hbytes:(n+1)*bytes≤140737488355328) (hbase:base≤W.heap.size) (B:Nat) (hB:B≤base)
  (h:∀v' w',w'.ownsRow base e size v' (n+1) (xs++C.toList)→Below B W w'→wpList P ops Q rest (a.put o.dst v') w'):
  wpList P ops Q (o::rest) a (W.alloc (.cells C e)):=by
 obtain⟨i,hi,hz,h2,h3⟩:=zhN hinfo;refine wpList_append_own _ hgd s x t ho base e i z size bytes ht hi hz h2 h3 hzs hsz v n xs hs (hown.alloc _) ⟨W.heap.size,0,none⟩ 1 1 C.toList hx (by simp[hC]) ?_ h1 hn hbytes (by simp;omega) ?_
 ·intro j u hu;rw[zb9,cell_new];simpa using hu
 ·intro v' w' hown' hg _;exact h v' w' hown' (((Below.refl B W).alloc (by omega) _).trans (zj7 (hown.alloc _) hg hB (by simp;omega)))
theorem ziL{P:Program}{W:World}{base n m e:TypeId}{len:Nat}{v:Value}{l:List UInt8}(hn:P.underlying n=some (.slice e))(he:P.underlying e=some (.int .u8))(hm:P.underlying m=some .string)
  (hown:W.ownsRow base e 1 v len (l.map fun c=>.int .u8 (c.toNat:Int))):(convert n m v).run P W=.ok (.string (Lx.bs l)) W:=by
 obtain⟨h1,h2⟩:=hown;rcases h2 with⟨rfl,rfl⟩|⟨g,cap,cur,rfl,hb,hh,hc,hm',hs,ht⟩
 ·have hl:l=[]:=qa1 (by simpa using h1);subst hl;rw[run_convert_bytes_nil W n e hn he 0 0]
  ·rfl
  ·exact hm
 ·have hl:l.length=len:=by simpa using h1
  subst hl;refine zkT hn he hm hh (fun j hj=>?_);have h3:(cur.toList.take (l.length*1))[j]?=(l.map fun c=>Value.int .u8 (c.toNat:Int))[j]?:=by rw[ht]
  rw[List.getElem?_take_of_lt (by omega),qa15,qa5 hj]at h3;simpa using h3
theorem zc3{B:Nat}{a w:World}(h:Below B a w)(n:Nat):Below B a (w.drewN n):=h.trans ⟨rfl,rfl,rfl,qa37 _,fun _ _=>rfl⟩
theorem zg2{w:World}{base:Nat}{e:TypeId}{size:Nat}{v:Value}{n:Nat}{xs:List Value}(h:w.ownsRow base e size v n xs)(k:Nat):(w.drewN k).ownsRow base e size v n xs:=h
theorem zaQ{W w1:World}(hb:Below W.heap.size W w1):(∀b o,b<W.heap.size→w1.cell? ⟨b,o,none⟩=W.cell? ⟨b,o,none⟩)∧(∀b o,b<W.heap.size→w1.frozen? ⟨b,o,none⟩=W.frozen? ⟨b,o,none⟩):=
 ⟨fun b o h=>hb.cell (p:=⟨b,o,none⟩) h,fun b o h=>hb.frozen (p:=⟨b,o,none⟩) h⟩
theorem zae{w W w1:World}(h:Below w.heap.size w W)(hb:Below W.heap.size W w1):Below w.heap.size w w1:=h.trans (hb.mono h.size)
theorem ziK{w:World}{B:Nat}{o:Obj}(h:w.heap[B]?=some o):B<w.heap.size:=(Array.getElem?_eq_some_iff.1 h).1
theorem zak{W w1:World}{B:Nat}{o:Obj}(K:W.heap[B]?=some o)(hb:Below W.heap.size W w1):w1.heap[B]?=some o:=(hb.block B (ziK K)).trans K
theorem zhh{W:World}{B:Nat}{o:Obj}(K:W.heap[B]?=some o)(o':Obj):(W.alloc o').heap[B]?=some o:=(Below.heap_alloc W o' B (ziK K)).trans K
theorem blk_drew{W:World}{B:Nat}{o:Obj}(K:W.heap[B]?=some o):W.drew.heap[B]?=some o:=K
theorem zan{w:World}{B T:Nat}{C:Array Value}(K:w.heap[B]?=some (.cells C T (0,0))):(∀k v,C[k]?=some v→w.cell? ⟨B,k,none⟩=some v)∧(∀k,w.frozen? ⟨B,k,none⟩=false):=
 ⟨fun k v h=>zaT K h,fun k=>by simp[World.frozen?,K]⟩
theorem below_al{w W:World}(h:Below w.heap.size w W)(o:Obj):Below w.heap.size w (W.alloc o):=h.alloc h.size o
theorem zhl(B j:Nat):(⟨B,0,none⟩:Addr).add j=⟨B,j,none⟩:=zb9 B j
theorem zev{P:Program}{w:World}{T B T':Nat}{fs:Array Field}{C:Array Value}{fr:Nat×Nat}(hT:P.underlying T=some (.struct fs))(hi:(P.info? T).map (fun i=>i.size)=some C.size)
  (K:w.heap[B]?=some (.cells C T' fr)):(loadVar T ⟨B,0,none⟩).run P w=.ok (.agg C) w:=by
 obtain⟨i,hi1,hi2⟩:∃i,P.info? T=some i∧i.size=C.size:=by
  cases h:P.info? T with
  |none=>simp[h]at hi
  |some i=>simp[h]at hi;exact⟨i,rfl,hi⟩
 have hl:=run_loadCells_list (P:=P) w ⟨B,0,none⟩ C.toList (fun j v hj=>by
  rw[zhl];exact zaT K (by simpa using hj))
 simp only[Array.length_toList,Array.toArray_toList]at hl;simp[loadVar,isAgg,run_underlying hT,sizeOf,typeInfo,hi1,hi2,hl]
theorem zah{P:Program}{fn:Func}{R:Ending→World→Prop}{a:Act}{w:World}{p x y T B T':Nat}{fs:Array Field}{C:Array Value}{fr:Nat×Nat}
  (hr:fn.results=#[.cell p T,.tmp x,.tmp y]) (hT:P.underlying T=some (.struct fs)) (hi:(P.info? T).map (fun i=>i.size)=some C.size) (hp:a.tmps.getD p undef=.pointer (some ⟨B,0,none⟩))
  (K:w.heap[B]?=some (.cells C T' fr)) (hd:a.defers=[]) (hR:R (.returned (.tuple #[.agg C,a.tmps.getD x undef,a.tmps.getD y undef])) w):bodyPost P fn R .ret a w:=by
 refine⟨hd,_, ?_,hR⟩;simp only[results,hr];have h:=zev hT hi K;simp only[qa2]at hp ⊢;simp[hp,asAddr,h]
theorem zaZ{w:World}{B T:Nat}{y0 y1 y2 y3 y4 y5:Value}{fr:Nat×Nat}(K:w.heap[B]?=some (.cells #[y0,y1,y2,y3,y4,y5] T fr))(x0 x1 x2 x3 x4 x5:Value):
  ((((((w.setCell ⟨B,0,none⟩ x0).setCell ⟨B,1,none⟩ x1).setCell ⟨B,2,none⟩ x2).setCell ⟨B,3,none⟩ x3).setCell ⟨B,4,none⟩ x4).setCell ⟨B,5,none⟩ x5).heap[B]?=some (.cells #[x0,x1,x2,x3,x4,x5] T fr):=
 zby (zby (zby (zby (zby (zby K)))))
theorem own_form{w:World}{base:Nat}{e:TypeId}{size:Nat}{v:Value}{n:Nat}{xs:List Value}(h:w.ownsRow base e size v n xs):∃a c,v=.slice a n c:=by
 rcases h.2 with⟨rfl,rfl⟩|⟨g,cap,cur,rfl,_⟩
 ·exact⟨_,_,rfl⟩
 ·exact⟨_,_,rfl⟩
theorem own_next{W w1:World}{base:Nat}{e:TypeId}{size:Nat}{v:Value}{n:Nat}{xs:List Value}(h:W.ownsRow base e size v n xs)(hb:Below W.heap.size W w1):w1.ownsRow base e size v n xs:=
 h.kept (row:=none) ⟨hb.os,hb.tape,hb.output,hb.size,fun k hk _=>hb.block k hk⟩ (by
  cases hv:v.ownBlock with
  |none=>exact .inl rfl
  |some b=>exact .inr (by simp))
end Go.Proofs.YtplflngjpajcmaaGreatDoor
namespace Lx
theorem zeQ(l m:List UInt8):bs l++bs m=bs (l++m):=Go.ByteArray.mk_append_mk l m
end Lx
namespace Go.Proofs.YtplflngjpajcmaaGreatDoor
open Go.RowKit
theorem digit_any(c:UInt8)(w:World):
  Calls Tryz.prog 109 #[.int .u8 c.toNat] w fun e w'=>e=.returned (.bool (Lx.dig c))∧w=w':=by
 go_enter Tryz.func109,Tryz.ntmps109;go_wp2;all_goals (go_ret;refine⟨ziZ ?_,rfl⟩;rw[Bool.eq_iff_iff];simp[Lx.dig];omega)
theorem zal(c:UInt8)(w:World):
  Calls Tryz.prog 104 #[.int .u8 c.toNat] w fun e w'=>e=.returned (.bool (Lx.let_ c))∧w=w':=by
 go_enter Tryz.func104,Tryz.ntmps104;go_wp2;all_goals (go_ret;refine⟨ziZ ?_,rfl⟩;rw[Bool.eq_iff_iff];simp[Lx.let_];omega)
theorem nam_any(c:UInt8)(w:World):
  Calls Tryz.prog 108 #[.int .u8 c.toNat] w fun e w'=>e=.returned (.bool (Lx.nam c))∧w=w':=by
 go_enter Tryz.func108,Tryz.ntmps108;go_wp2_with (first
  |(go_at_call 104;refine(zal _ _).mono ?_;rintro e w' ⟨rfl,rfl⟩)
  |(go_at_call 109;refine(digit_any _ _).mono ?_;rintro e w' ⟨rfl,rfl⟩))
 all_goals (go_ret;refine⟨ziZ ?_,rfl⟩;simp[Lx.nam, *])
theorem zck(f:Nat)(p:UInt8→Bool)(hc:∀(args:Array Value)(w:World),(callFunc f args).run Tryz.prog w=.ok (.enter f args) w)
  (hf:∀(c:UInt8)(w:World),Calls Tryz.prog f #[.int .u8 c.toNat] w fun e w'=>e=.returned (.bool (p c))∧w=w')
  (s:ByteArray) (k0:Nat) (w:World) (hs:s.size≤9223372036854775000) (hk:k0≤s.size):
  Calls Tryz.prog 107 #[.string s,.int .i64 k0,.func (.func f) #[] #[]] w fun e w'=>e=.returned (.int .i64 ((k0+Lx.many p (Lx.suf s k0):Nat):Int))∧w=w':=by
 generalize hR:k0+Lx.many p (Lx.suf s k0)=R;have HR:=qa38 hR;clear hR;have HF:=qa38 hf;clear hf;go_enter Tryz.func107,Tryz.ntmps107;go_wp2;go_loop [1] (fun i=>∃k:Nat,k≤s.size∧i=.int .i64 k∧Hid (k+Lx.many p (Lx.suf s k)=R)) (fun i=>s.size-(intOf i).toNat)
 case atStart=>exact⟨k0,hk,rfl,HR⟩
 case round=>
  obtain⟨k,hk,rfl,HK⟩:=hrel;by_cases hlt:k<s.size
  ·go_wp2_with fail;refine(HF.out _ _).mono ?_;rintro e w' ⟨rfl,rfl⟩;cases hp:p s[k]
   ·have HP:=qa38 hp;clear hp;go_wp2;go_ret;exact⟨zjM (by rw[←HK.out,Lx.zkn hlt HP.out]),rfl⟩
   ·have HP:=qa38 hp;clear hp;go_wp2;go_round
    case rel=>exact⟨k+1,by omega,by go_num,qa38 (by rw[←HK.out,Lx.many_go hlt HP.out])⟩
    case measure=>simp[intOf];omega
  ·go_wp2;go_ret;exact⟨zjM (by rw[←HK.out,Lx.many_end (by omega)]),rfl⟩
theorem zcj(s:ByteArray)(k0:Nat)(w:World)(hs:s.size≤9223372036854775000)(hk:k0≤s.size):
  Calls Tryz.prog 107 #[.string s,.int .i64 k0,.func (.func 109) #[] #[]] w fun e w'=>e=.returned (.int .i64 ((k0+Lx.many Lx.dig (Lx.suf s k0):Nat):Int))∧w=w':=
 zck 109 _ (by intro args w;go_simp) digit_any s k0 w hs hk
end Go.Proofs.YtplflngjpajcmaaGreatDoor
namespace Lx
def wordsL:List (List UInt8):=[[97,108,108],
 [97,110,100],
 [97,115],
 [97,115,99],
 [98,101,116,119,101,101,110],
 [98,121],
 [99,97,115,101],
 [99,97,115,116],
 [99,111,108,108,97,116,101],
 [99,114,101,97,116,101],
 [99,114,111,115,115],
 [100,101,108,101,116,101],
 [100,101,115,99],
 [100,105,115,116,105,110,99,116],
 [100,114,111,112],
 [101,108,115,101],
 [101,110,100],
 [101,120,99,101,112,116],
 [101,120,105,115,116,115],
 [102,114,111,109],
 [103,114,111,117,112],
 [104,97,118,105,110,103],
 [105,102],
 [105,110],
 [105,110,100,101,120],
 [105,110,110,101,114],
 [105,110,115,101,114,116],
 [105,110,116,101,114,115,101,99,116],
 [105,110,116,111],
 [105,115],
 [106,111,105,110],
 [108,101,102,116],
 [108,105,107,101],
 [108,105,109,105,116],
 [110,111,116],
 [110,117,108,108],
 [111,102,102,115,101,116],
 [111,110],
 [111,114],
 [111,114,100,101,114],
 [115,101,108,101,99,116],
 [115,101,116],
 [116,97,98,108,101],
 [116,104,101,110],
 [117,110,105,111,110],
 [117,112,100,97,116,101],
 [118,97,108,117,101,115],
 [119,104,101,110],
 [119,104,101,114,101]]
def isW(l:List UInt8):Bool:=wordsL.contains (fold l)
def qEnd:List UInt8→Option Nat
 |[]=>none
 |[c]=>if c==39 then some 1 else none
 |c::d::r=>if c==39 then(if d==39 then(qEnd r).map (·+2)else some 1)else(qEnd (d::r)).map (·+1)
def noq(c:UInt8):Bool:=c != 39
def bEnd(l:List UInt8):Option Nat:=if many noq l<l.length then some (many noq l+1)else none
def zbK:List (List UInt8):=[[124,124],[60,62],[60,61],[62,61]]
def zir:List UInt8:=[61,60,62,43,45,42,47,37,40,41,44,46,59]
def zaw(l:List UInt8):Nat:=
 if zbK.contains (l.take 2)then 2 else match l with|c::_=>if zir.contains c then 1 else 0|[]=>0
abbrev Val:=Int×Int×List UInt8
structure T where
 kind:Int
 text:List UInt8
 val:Val
abbrev TR:=Int×T×Nat
def bad(e:Int):TR:=(e,⟨0,[],(0,0,[])⟩,0)
def valT(l:List UInt8)(n:Nat):TR:=
 if(zap (l.take n)).2=0 then(0,⟨3,l.take n,(zap (l.take n)).1⟩,n)else bad (zap (l.take n)).2
def zbc(l:List UInt8):Bool:=(l.head? == some 120 || l.head? == some 88) && l.tail.head? == some 39
def optV(l:List UInt8)(o:Option Nat):TR:=match o with|some n=>valT l n|none=>bad 8
def zg5(l:List UInt8)(n:Nat):TR:=
 if isW (l.take n)then(0,⟨2,fold (l.take n),(0,0,[])⟩,n)else if 32<n then bad 3 else(0,⟨1,l.take n,(0,0,[])⟩,n)
def numT(l:List UInt8)(n:Nat):TR:=
 if(l.drop n).head?.any let_ then bad 8
 else if(read (l.take n)).2=0 then(0,⟨3,l.take n,(1,(read (l.take n)).1,[])⟩,n)else bad (read (l.take n)).2
def zi4(l:List UInt8):TR:=if zaw l=0 then bad 8 else(0,⟨4,l.take (zaw l),(0,0,[])⟩,zaw l)
def tok(l:List UInt8):TR:=
 match l with
 |[]=>bad 8
 |c::r=>
  if let_ c then
   if zbc l then optV l ((bEnd (l.drop 2)).map (·+2))else zg5 l (many nam l)
  else if dig c then numT l (many dig l)
  else if c==39 then optV l ((qEnd r).map (·+1))
  else zi4 l
abbrev TA:=T×Nat
abbrev SR:=List TA×Nat×Int
def zdd(l:List UInt8):Nat→List TA→Nat→SR
 |0,acc,at_=>(acc,at_,0)
 |f+1,acc,at_=>
  if at_=l.length then(acc++[(⟨0,[],(0,0,[])⟩,l.length)],0,0)
  else if acc.length=4096 then([],at_,3)
  else if(tok (l.drop at_)).1=0 then
   zdd l f (acc++[((tok (l.drop at_)).2.1,at_)]) (at_+(tok (l.drop at_)).2.2+skipN false (l.drop (at_+(tok (l.drop at_)).2.2)))
  else([],at_,(tok (l.drop at_)).1)
def scan(l:List UInt8):SR:=if 65536<l.length then([],0,3)else zdd l (l.length+1) [] (skipN false l)
theorem zjZ(l:List UInt8):∀n,qEnd l=some n→1≤n∧n≤l.length:=by
 fun_induction qEnd l with
 |case1=>intro n h;cases h
 |case2=>intro n h;cases h;simp
 |case3=>intro n h;cases h
 |case4 c d r h1 h2 ih=>
  intro n h;cases e:qEnd r with
  |none=>simp[e]at h
  |some q=>simp[e]at h;have:=ih q e;simp;omega
 |case5=>intro n h;cases h;simp
 |case6 c d r h1 ih=>
  intro n h;cases e:qEnd (d::r)with
  |none=>simp[e]at h
  |some q=>simp[e]at h;have:=ih q e;simp at this ⊢;omega
theorem zh4{l:List UInt8}{n:Nat}(h:(valT l n).1=0)(hn:1≤n)(hl:n≤l.length):(valT l n).2.2=n∧(valT l n).2.1.text.length=n:=by
 unfold valT at *;split
 ·simp;omega
 ·rename_i h2;rw[if_neg h2]at h;exact absurd h h2
theorem zjw{l:List UInt8}(h:(tok l).1=0):1≤(tok l).2.2∧(tok l).2.2≤l.length∧(tok l).2.1.text.length=(tok l).2.2:=by
 cases l with
 |nil=>cases h
 |cons c r=>
  unfold tok at *;by_cases h1:let_ c
  ·simp only[h1,qa39]at h ⊢;by_cases h2:zbc (c::r)
   ·simp only[h2,qa39]at h ⊢;have hl2:2≤(c::r).length:=by
     unfold zbc at h2;simp only[qa21,List.tail_cons]at h2;cases r with
     |nil=>simp at h2
     |cons d r=>simp
    cases e:(bEnd ((c::r).drop 2)).map (·+2)with
    |none=>rw[e]at h;cases h
    |some n=>
     rw[e]at h;have hn:3≤n∧n≤(c::r).length:=by
      unfold bEnd at e;split at e
      ·rename_i h3;simp at e h3 hl2 ⊢;omega
      ·cases e
     have:=zh4 h (by omega) hn.2;simp only[optV];omega
   ·simp only[h2,qb0]at h ⊢;have hm:1≤many nam (c::r):=by
     unfold many;simp[nam,h1]
    have hm2:=za1 nam (c::r);unfold zg5 at *;split
    ·simp only[zbm,qa23];omega
    ·split
     ·rename_i h3 h4;rw[if_neg h3,if_pos h4]at h;cases h
     ·simp only[qa23];omega
  ·simp only[h1,qb0]at h ⊢;by_cases h2:dig c
   ·simp only[h2,qa39]at h ⊢;have hm:1≤many dig (c::r):=by
     unfold many;simp[h2]
    have hm2:=za1 dig (c::r);unfold numT at *;split
    ·rename_i h3;rw[if_pos h3]at h;cases h
    ·split
     ·simp only[qa23];omega
     ·rename_i h3 h4;rw[if_neg h3,if_neg h4]at h;exact absurd h h4
   ·simp only[h2,qb0]at h ⊢;by_cases h3:(c==39)=true
    ·simp only[h3,qa39]at h ⊢;cases e:(qEnd r).map (·+1)with
     |none=>rw[e]at h;cases h
     |some n=>
      rw[e]at h;have hn:1≤n∧n≤(c::r).length:=by
       cases e2:qEnd r with
       |none=>simp[e2]at e
       |some m=>have:=zjZ r m e2;simp[e2]at e;simp;omega
      have:=zh4 h (by omega) hn.2;simp only[optV];omega
    ·simp only[h3,qb0]at h ⊢;have hm:zaw (c::r)≤(c::r).length:=by
      unfold zaw;split
      ·rename_i h4;cases r with
       |nil=>simp[zbK]at h4
       |cons d r=>simp
      ·simp only;split<;>simp
     unfold zi4 at *;split
     ·rename_i h4;rw[if_pos h4]at h;cases h
     ·simp only[qa23];omega
def zbT(o:Option Nat)(k:Nat):Option Nat:=o.map (·+k)
theorem zeq(o:Option Nat)(j k:Nat):zbT (o.map (·+j)) k=zbT o (k+j):=by
 cases o with
 |none=>rfl
 |some n=>simp[zbT];omega
theorem q_go{s:ByteArray}{k:Nat}(h:k<s.size)(h1:s[k].toNat≠39):zbT (qEnd (suf s k)) k=zbT (qEnd (suf s (k+1))) (k+1):=by
 have h2:(s[k]==39)=false:=by simp[zcB,h1]
 rw[zad h,←zeq];cases e:suf s (k+1)with
 |nil=>simp[qEnd,h2]
 |cons d r=>simp[qEnd,h2]
theorem q_pair{s:ByteArray}{k:Nat}(h:k+1<s.size)(h1:s[k].toNat=39)(h2:s[k+1].toNat=39):zbT (qEnd (suf s k)) k=zbT (qEnd (suf s (k+2))) (k+2):=by
 have e1:s[k]=39:=u8_of (n:=39) (by omega) h1;have e2:s[k+1]=39:=u8_of (n:=39) (by omega) h2;rw[zad (k:=k) (by omega),zad (k:=k+1) h,←zeq,e1,e2];simp[qEnd]
theorem q_stop{s:ByteArray}{k:Nat}(h:k<s.size)(h1:s[k].toNat=39)(h2:∀h:k+1<s.size,s[k+1].toNat≠39):zbT (qEnd (suf s k)) k=some (k+1):=by
 have e1:s[k]=39:=u8_of (n:=39) (by omega) h1;rw[zad h,e1];by_cases h3:k+1<s.size
 ·have h4:(s[k+1] == 39)=false:=by have:=h2 h3;simp [zcB,this]
  rw[zad h3];simp[qEnd,h4,zbT];omega
 ·rw[zba (by omega)];simp[qEnd,zbT];omega
theorem q_end{s:ByteArray}{k:Nat}(h:s.size≤k):zbT (qEnd (suf s k)) k=none:=by
 rw[zba h];rfl
theorem zi9{s:ByteArray}{k:Nat}(h:k+1<s.size)(h1:s[k].toNat=120∨s[k].toNat=88)(h2:s[k+1].toNat=39):zbc (suf s k)=true:=by
 rw[zad (k:=k) (by omega),zad (k:=k+1) h];unfold zbc;have e2:s[k+1]=39:=u8_of (n:=39) (by omega) h2;rcases h1 with h1|h1
 ·have e1:s[k]=120:=u8_of (n:=120) (by omega) h1;simp[e1,e2]
 ·have e1:s[k]=88:=u8_of (n:=88) (by omega) h1;simp[e1,e2]
theorem zeI{s:ByteArray}{k:Nat}(h:k<s.size)(h1:(s[k].toNat≠120∧s[k].toNat≠88)∨(∀h:k+1<s.size,s[k+1].toNat≠39)):zbc (suf s k)=false:=by
 rw[zad h];unfold zbc;rcases h1 with⟨h1,h2⟩|h1
 ·simp[←UInt8.toNat_inj,h1,h2]
 ·by_cases h3:k+1<s.size
  ·rw[zad h3];have:=h1 h3;simp[←UInt8.toNat_inj,this]
  ·rw[zba (by omega)];simp
theorem take2{s:ByteArray}{k:Nat}(h:k+2≤s.size):(s.extract k (k+2)).toList=(suf s k).take 2:=by
 rw[zas,zaG,za6];congr 1;omega
theorem markN_2{s:ByteArray}{k:Nat}(h:zbK.contains ((suf s k).take 2)=true):zaw (suf s k)=2:=by
 unfold zaw;rw[if_pos h]
theorem zkl{s:ByteArray}{k:Nat}(hk:k<s.size)(h:zbK.contains ((suf s k).take 2)=false):zaw (suf s k)=if zir.contains s[k]then 1 else 0:=by
 unfold zaw;rw[if_neg (by rw[h];decide)];rw[zad hk]
theorem short2{s:ByteArray}{k:Nat}(h:s.size<k+2):zbK.contains ((suf s k).take 2)=false:=by
 rw[←Bool.not_eq_true];intro h2;have hl:((suf s k).take 2).length<2:=by rw[qa23,zag];omega
 simp only[zbK,List.contains_eq_mem,qa33,List.not_mem_nil,or_false,qa16]at h2;rcases h2 with h2|h2|h2|h2<;>rw[h2]at hl<;>simp at hl
theorem zhd(c:UInt8):zir.contains c=(c.toNat==61 || c.toNat==60 || c.toNat==62 || c.toNat==43 || c.toNat==45 || c.toNat==42 || c.toNat==47 || c.toNat==37 || c.toNat==40 || c.toNat==41 || c.toNat==44 || c.toNat==46 || c.toNat==59):=by
 rw[Bool.eq_iff_iff];simp only[zir,List.contains_eq_mem,qa33,List.not_mem_nil,or_false,qa16,qa27,beq_iff_eq,←UInt8.toNat_inj];constructor
 ·intro h;rcases h with h|h|h|h|h|h|h|h|h|h|h|h|h<;>rw[h]<;>decide
 ·rintro((((((((((((h|h)|h)|h)|h)|h)|h)|h)|h)|h)|h)|h)|h)<;>rw[h]<;>decide
theorem markN_le(l:List UInt8):zaw l≤l.length:=by
 unfold zaw;split
 ·rename_i h4;cases l with
  |nil=>simp[zbK]at h4
  |cons c r=>
   cases r with
   |nil=>simp[zbK]at h4
   |cons d r=>simp
 ·cases l with
  |nil=>simp
  |cons c r=>simp only;split<;>simp
theorem zjJ{l:List UInt8}{f a:Nat}{acc:List TA}(h:a=l.length):zdd l (f+1) acc a=(acc++[(⟨0,[],(0,0,[])⟩,l.length)],0,0):=by rw[zdd,if_pos h]
theorem ziY{l:List UInt8}{f a:Nat}{acc:List TA}(h:a≠l.length)(h2:acc.length=4096):zdd l (f+1) acc a=([],a,3):=by rw[zdd,if_neg h,if_pos h2]
theorem zjK{l:List UInt8}{f a:Nat}{acc:List TA}(h:a≠l.length)(h2:acc.length≠4096)(h3:(tok (l.drop a)).1≠0):zdd l (f+1) acc a=([],a,(tok (l.drop a)).1):=by
 rw[zdd,if_neg h,if_neg h2,if_neg h3]
theorem scanL_go{l:List UInt8}{f a:Nat}{acc:List TA}(h:a≠l.length)(h2:acc.length≠4096)(h3:(tok (l.drop a)).1=0):
  zdd l (f+1) acc a=zdd l f (acc++[((tok (l.drop a)).2.1,a)]) (a+(tok (l.drop a)).2.2+skipN false (l.drop (a+(tok (l.drop a)).2.2))):=by
 rw[zdd,if_neg h,if_neg h2,if_pos h3]
end Lx
namespace Go.Proofs.YtplflngjpajcmaaGreatDoor
section
open Go.RowKit
def zaR(s:ByteArray)(B n:Nat)(k:Nat)(wr:World):Prop:=
 ∃D:Array Value,wr.heap[B]?=some (.cells D 5 (n,n+1))∧s.size≤n∧D.size=n ∧
  ∀j (h:j<s.size),D[j]?=some (.int .u8 ((if j<k then Lx.lo s[j]else s[j]).toNat:Int))
theorem zaR.at_{s:ByteArray}{B n k:Nat}{wr:World}(h:zaR s B n k wr)(hk:k<s.size):
  wr.cell? ⟨B,k,none⟩=some (.int .u8 (s[k].toNat:Int))∧wr.frozen? ⟨B,k,none⟩=false:=by
 obtain⟨D,h1,h2,h3,h4⟩:=h;exact⟨zaT h1 (by rw[h4 k hk];simp),zhb h1 (by simp;omega)⟩
theorem zaR.keep{s:ByteArray}{B n k:Nat}{wr:World}(h:zaR s B n k wr)(hk:k<s.size)(hn:Lx.lo s[k]=s[k]):zaR s B n (k+1) wr:=by
 obtain⟨D,h1,h2,h3,h4⟩:=h;refine⟨D,h1,h2,h3,fun j hj=>?_⟩;rw[h4 j hj];by_cases e:j=k
 ·subst e;simp[hn]
 ·have:j < k↔j < k+1:=by omega
  simp only[this]
theorem zaR.set_{s:ByteArray}{B n k:Nat}{wr:World}(h:zaR s B n k wr)(hk:k<s.size){v:Int}(hn:v=((Lx.lo s[k]).toNat:Int)):
  zaR s B n (k+1) (wr.setCell ⟨B,k,none⟩ (.int .u8 v)):=by
 obtain⟨D,h1,h2,h3,h4⟩:=h;refine⟨_,zby h1,h2,by simp[h3],fun j hj=>?_⟩;by_cases e:j=k
 ·subst e;rw[Array.getElem?_setIfInBounds_self_of_lt (by omega)];simp[hn]
 ·rw [Array.getElem?_setIfInBounds_ne (by omega),h4 j hj];have:j<k↔j<k+1:=by omega
  simp only[this]
theorem zaR.drew{s:ByteArray}{B n k:Nat}{wr:World}(h:zaR s B n k wr):zaR s B n k wr.drew:=h
theorem zaR.back{s:ByteArray}{B n:Nat}{wr:World}{cap:Nat}(h:zaR s B n s.size wr):
  (convert 185 9 (.slice (some ⟨B,0,none⟩) s.size cap)).run Tryz.prog wr=.ok (.string (Lx.bs (Lx.fold (Lx.ls s)))) wr:=by
 obtain⟨D,h1,h2,h3,h4⟩:=h;have:=zkT (cap:=cap) (l:=Lx.fold (Lx.ls s)) Tryz.underlying185 Tryz.underlying5 Tryz.underlying9 h1 (fun j hj=>by
  have hj':j<s.size:=by rw[Lx.zbm]at hj;exact hj
  rw[h4 j hj',if_pos hj'];simp only[Lx.fold,List.getElem_map];rfl)
 rw[Lx.zbm]at this;exact this
theorem lo_yes{c:UInt8}(h:65≤c.toNat)(h2:c.toNat≤90):((Lx.lo c).toNat:Int)=(c.toNat:Int)+97-65:=by
 simp[Lx.lo,h,h2];omega
theorem lo_no{c:UInt8}(h:c.toNat<65∨90<c.toNat):Lx.lo c=c:=by
 simp[Lx.lo];omega
set_option maxHeartbeats 400000 in
theorem zaO(s:ByteArray)(w:World)(hs:s.size≤9223372036854775000):
  Calls Tryz.prog 111 #[.string s] w fun e w'=>e=.returned (.string (Lx.bs (Lx.fold (Lx.ls s))))∧Below w.heap.size w w':=by
 obtain⟨cap,hcap⟩:∃cap,cap=grownCap w s.size 0 5:=⟨_,rfl⟩;have hconv:=run_bytes_of_string (P:=Tryz.prog) w 9 185 5 s Tryz.underlying9 Tryz.underlying185 Tryz.underlying5;rw[←hcap]at hconv;generalize hC:bytesRow s cap=C at hconv;have h0:zaR s w.heap.size C.size 0 (w.alloc (.cells C 5 (C.size,C.size+1))).drew:=by
  subst hC;exact⟨_,heap_alloc_new w _,zgm _ _,rfl,fun j hj=>by rw[zhU hj];simp⟩
 have b0:Below w.heap.size w (w.alloc (.cells C 5 (C.size,C.size+1))).drew:=((Below.refl _ _).alloc (qa37 _) _).drew;clear hC hcap;obtain⟨B,hB⟩:∃B,B=w.heap.size:=⟨_,rfl⟩;go_enter Tryz.func111,Tryz.ntmps111;go_wp2;go_loopw [10] (fun i wr=>∃k:Nat,k≤s.size∧i=.int .i64 k∧zaR s w.heap.size C.size k wr∧Below w.heap.size w wr) (fun i _=>s.size-(intOf i).toNat)
 case atStart=>exact⟨0,Nat.zero_le _,rfl,h0,b0⟩
 case round=>
  obtain⟨k,hk,rfl,hF,hb⟩:=hrel;by_cases hlt:k<s.size
  ·obtain⟨hc,hz⟩:=hF.at_ hlt;go_wp2
   ·go_roundw
    case rel=>exact⟨k+1,by omega,by go_num,hF.set_ hlt (by rw[lo_yes (by omega) (by omega)]),hb.setCell (qa37 _) _⟩
    case measure=>simp[intOf];omega
   ·go_roundw
    case rel=>exact⟨k+1,by omega,by go_num,hF.keep hlt (lo_no (by omega)),hb⟩
    case measure=>simp[intOf];omega
   ·go_roundw
    case rel=>exact⟨k+1,by omega,by go_num,hF.keep hlt (lo_no (by omega)),hb⟩
    case measure=>simp[intOf];omega
  ·obtain rfl:k=s.size:=by omega
   have hback:=hF.back (cap:=cap);go_wp2;go_ret;exact⟨rfl,hb⟩
end
section
open Go.RowKit
theorem ze2(c:Int)(w:World):
  Calls Tryz.prog 200 #[.int .i32 c] w fun e w'=>e=.returned (.bool (decide (48≤c) && decide (c≤57)))∧w=w':=by
 go_enter Tryz.func200,Tryz.ntmps200;go_wp2;all_goals (go_ret;refine⟨ziZ ?_,rfl⟩;rw[Bool.eq_iff_iff];simp;omega)
theorem tdigit_yes(c:Int)(w:World)(h:48≤c)(h2:c≤57):
  Calls Tryz.prog 200 #[.int .i32 c] w fun e w'=>e=.returned (.bool true)∧w=w':=
 (ze2 c w).mono fun e w' ⟨h1,h3⟩=>⟨by rw[h1];simp[h,h2],h3⟩
theorem tdigit_no(c:Int)(w:World)(h:c<48∨57<c):
  Calls Tryz.prog 200 #[.int .i32 c] w fun e w'=>e=.returned (.bool false)∧w=w':=
 (ze2 c w).mono fun e w' ⟨h1,h3⟩=>⟨by rw[h1];refine ziZ ?_;rw[←Bool.not_eq_true];simp;omega,h3⟩
def ziP(c:UInt8)(e:Ending):Prop:=e=.returned (.tuple #[.int .u8 ((Lx.nib c).getD 0:Nat),.bool (Lx.nib c).isSome])
theorem zi0{a b c d:Value}(h:a=c)(h2:b=d):Ending.returned (.tuple #[a,b])=.returned (.tuple #[c,d]):=by rw[h,h2]
theorem zku{k:IntKind}{a b:Int}(h:a=b):Value.int k a=.int k b:=by rw[h]
theorem zfk(c:UInt8)(w:World):
  Calls Tryz.prog 228 #[.int .u8 c.toNat] w fun e w'=>ziP c e∧w=w':=by
 go_enter Tryz.func228,Tryz.ntmps228;go_wp2;all_goals go_ret2
 all_goals (refine⟨?_,rfl⟩;unfold ziP;simp only[qa2];refine zi0 (zku ?_) (congrArg Value.bool ?_)<;>(unfold Lx.nib;simp;(repeat' split)<;>(first|omega|(simp;done)|(simp;omega))))
theorem made_no(k:Int)(s:ByteArray)(w:World):
  Calls Tryz.prog 197 #[.int .i64 k,.string s,.bool false] w fun e w'=>e=.returned (.tuple #[.agg #[.int .i64 0,.int .i64 0,.string ⟨#[]⟩],.int .i64 8])∧Below w.heap.size w w':=by
 go_enter Tryz.func197,Tryz.ntmps197;go_wp2;exact bodyPost_ret (v:=.tuple #[.agg #[.int .i64 0,.int .i64 0,.string ⟨#[]⟩],.int .i64 8]) (by simp[results,Tryz.results197,go_sem]) rfl ⟨rfl,by exact zw⟩
def valE(v:(Int×Int×List UInt8)×Int):Ending:=.returned (.tuple #[.agg #[.int .i64 v.1.1,.int .i64 v.1.2.1,.string (Lx.bs v.1.2.2)],.int .i64 v.2])
theorem zgf(k:Int)(s:ByteArray)(w:World)(r:Option (List UInt8))(h:∀t,r=some t→t=Lx.ls s):
  Calls Tryz.prog 197 #[.int .i64 k,.string s,.bool r.isSome] w fun e w'=>e=valE (Lx.mkV k r)∧Below w.heap.size w w':=by
 cases r with
 |none=>exact made_no k s w
 |some t=>
  obtain rfl:=h t rfl;by_cases hb:4096<s.size
  ·have hR:Lx.mkV k (some (Lx.ls s))=((0,0,[]),3):=by simp [Lx.mkV,Lx.zaj,hb]
   rw[hR];go_enter Tryz.func197,Tryz.ntmps197;go_wp2;exact bodyPost_ret (v:=.tuple #[.agg #[.int .i64 0,.int .i64 0,.string ⟨#[]⟩],.int .i64 3]) (by simp[results,Tryz.results197,go_sem]) rfl ⟨rfl,by exact zw⟩
  ·have hR:Lx.mkV k (some (Lx.ls s))=((k,0,Lx.ls s),0):=by simp [Lx.mkV,Lx.zaj,hb]
   rw[hR];go_enter Tryz.func197,Tryz.ntmps197;go_wp2;exact bodyPost_ret (v:=.tuple #[.agg #[.int .i64 k,.int .i64 0,.string s],.int .i64 0]) (by simp[results,Tryz.results197,go_sem]) rfl ⟨by simp[valE,Lx.zgn],by exact zw⟩
theorem za2(s:ByteArray)(w:World)(hs:s.size≤9223372036854775000):
  Calls Tryz.prog 195 #[.string s] w fun e w'=>e=.returned (.tuple #[.string (Lx.bs (Lx.zat (Lx.ls s)).1),.bool (Lx.zat (Lx.ls s)).2])∧w=w':=by
 generalize hR:Lx.zat (Lx.ls s)=R;have HR:=qa38 hR;clear hR;go_enter Tryz.func195,Tryz.ntmps195;go_wp2;all_goals go_ret2
 all_goals (refine⟨?_,rfl⟩)
 all_goals (have hR:=HR.out)
 all_goals (simp only[Lx.zh8,Lx.zkC,qa18,Bool.not_eq_false',qa11,beq_iff_eq]at *)
 ·rw[Lx.zeJ (.inl (by omega))]at hR;subst hR;rfl
 ·rw[Lx.zeJ (.inr (.inl (by assumption)))]at hR;subst hR;rfl
 ·rw[Lx.zeJ (.inr (.inr (by assumption)))]at hR;subst hR;rfl
 ·rw[Lx.zja (by omega) (by assumption) (by assumption)]at hR;subst hR;exact zi0 (congrArg Value.string (Lx.mid s)) rfl
theorem zee(s:ByteArray)(w:World)(hs:s.size≤9223372036854775000):
  Calls Tryz.prog 162 #[.string s,.string ⟨#[45]⟩] w fun e w'=>e=.returned (.tuple #[.string (Lx.bs (Lx.cutp (Lx.ls s)).1),.bool (Lx.cutp (Lx.ls s)).2])∧w=w':=by
 generalize hR:Lx.cutp (Lx.ls s)=R;have HR:=qa38 hR;clear hR;go_enter Tryz.func162,Tryz.ntmps162;go_wp2;all_goals go_ret2
 all_goals (refine⟨?_,rfl⟩)
 all_goals (have hR:=HR.out)
 all_goals (simp only[Lx.zh8,qa18,Bool.not_eq_false',qa11,beq_iff_eq]at *)
 ·rw[Lx.cutp,if_neg (by simpa using ‹_›)]at hR;subst hR;rw[Lx.zgn];rfl
 ·rw[Lx.cutp,if_pos (by simpa using ‹_›)]at hR;subst hR;exact zi0 (congrArg Value.string (by rw[Lx.zb0,List.drop_one])) rfl
 ·rw[Lx.cutp,Lx.zfl (by omega),if_neg (by simp)]at hR;subst hR;exact zi0 (congrArg Value.string (Lx.ls_inj (by rw[Lx.zfl (by omega)];rfl))) rfl
theorem za3(w:World)(s:ByteArray)(p:Nat):Below w.heap.size w (w.iter s p):=(Below.refl _ _).alloc (qa37 _) _
theorem zhP(s:ByteArray)(w:World)(hs:s.size≤9223372036854775000)(h0:0<s.size)(h1:s.size=1∨s[0].toNat≠48):
  Calls Tryz.prog 163 #[.string s] w fun e w'=>e=.returned (.bool (Lx.zaW (Lx.ls s)))∧Below w.heap.size w w':=by
 rw[Lx.zkE h0 h1];generalize hR:(Lx.suf s 0).all Lx.dig=R;have HR:=qa38 hR;clear hR;have he:s.toList.isEmpty=false:=by rw[Lx.zas,Lx.zcx h0];rfl
 rcases h1 with h1|h1
 case' inl=>have g:decide ((1:Int)<(s.size:Int))=false:=by simp;omega
 case' inr=>have g:((s[0].toNat:Int)==48)=false:=by simp;omega
 case' inl=>clear h1
 case' inr=>clear h1
 all_goals
  go_enter Tryz.func163,Tryz.ntmps163;go_wp2
 all_goals
  go_loopw [4] (fun _ wr=>∃k:Nat,k≤s.size∧wr=w.iter s k∧Hid ((Lx.suf s k).all Lx.dig=R)) (fun _ wr=>s.size-wr.iterPos w.heap.size)
  case atStart=>exact⟨0,by omega,rfl,HR⟩
  case round=>
   obtain⟨k,hk,rfl,HK⟩:=hrel;have hb:=za3 w s k;by_cases hlt:k<s.size
   ·by_cases hd:48≤s[k].toNat∧s[k].toNat≤57
    ·obtain⟨hd1,hd2⟩:=hd;have hn:=fun ty=>run_next_ascii (P:=Tryz.prog) w s k ty hlt (by omega);go_wp2_with (go_at_call 200;refine(tdigit_yes _ _ (by omega) (by omega)).mono ?_;rintro e w' ⟨rfl,rfl⟩);go_roundw
     case rel=>exact⟨k+1,by omega,rfl,qa38 (by rw[←HK.out,Lx.all_go hlt (Lx.zhQ.2 ⟨hd1,hd2⟩)])⟩
     case measure=>simp;omega
    ·have hf:R=false:=by rw [← HK.out,Lx.all_stop hlt (Lx.dig_not.2 (by omega))]
     subst hf;by_cases ha:s[k].toNat<128
     ·have hn:=fun ty=>run_next_ascii (P:=Tryz.prog) w s k ty hlt ha;go_wp2_with (go_at_call 200;refine(tdigit_no _ _ (by omega)).mono ?_;rintro e w' ⟨rfl,rfl⟩);go_ret;exact⟨rfl,za3 _ _ _⟩
     ·have hn:=fun ty=>run_next_any (P:=Tryz.prog) w s k ty hlt;have hh:=(decode_high s k hlt (by omega)).1;go_wp2_with (go_at_call 200;refine(tdigit_no _ _ (by omega)).mono ?_;rintro e w' ⟨rfl,rfl⟩);go_ret;exact⟨rfl,za3 _ _ _⟩
   ·have hn:=fun ty=>run_next_end (P:=Tryz.prog) w s k ty hlt;have hf:R=true:=by rw[←HK.out,Lx.all_end (by omega)]
    subst hf;go_wp2;go_ret;exact⟨rfl,hb⟩
theorem zcL(s:ByteArray)(w:World)(hs:s.size≤9223372036854775000):
  Calls Tryz.prog 163 #[.string s] w fun e w'=>e=.returned (.bool (Lx.zaW (Lx.ls s)))∧Below w.heap.size w w':=by
 by_cases h0:0<s.size
 ·by_cases h1:s.size=1∨s[0].toNat≠48
  ·exact zhP s w hs h0 h1
  ·rw [Lx.zkD (by omega) (by omega)];have he:s.toList.isEmpty=false:=by rw[Lx.zas,Lx.zcx h0];rfl
   have g1:decide ((1:Int)<(s.size:Int))=true:=by simp;omega
   have g:((s[0].toNat:Int)==48)=true:=by simp;omega
   clear h1;go_enter Tryz.func163,Tryz.ntmps163;go_wp2;go_ret;exact⟨rfl,by exact zw⟩
 ·have hl:Lx.ls s=[]:=Lx.zfl (by omega);have he:s.toList.isEmpty=true:=by rw[Lx.zas,hl];rfl
  rw[show Lx.zaW (Lx.ls s)=false from by rw[hl];rfl];clear hl;go_enter Tryz.func163,Tryz.ntmps163;go_wp2;go_ret;exact⟨rfl,by exact zw⟩
theorem read_bad(s:ByteArray)(w:World)(hs:s.size≤9223372036854775000)(h:Lx.zaW (Lx.cutp (Lx.ls s)).1=false):
  Calls Tryz.prog 112 #[.string s] w fun e w'=>e=.returned (.tuple #[.int .i64 (Lx.read (Lx.ls s)).1,.int .i64 (Lx.read (Lx.ls s)).2])∧Below w.heap.size w w':=by
 have hR:Lx.read (Lx.ls s)=(0,8):=by rw[Lx.zf8,Lx.zgX,h];rfl
 rw[hR];have H:=qa38 h;clear h hR;go_enter Tryz.func112,Tryz.ntmps112;go_wp2_with fail;refine(zee s w hs).mono ?_;rintro e w' ⟨rfl,rfl⟩;go_wp2_with fail;refine(zcL _ w ?_).mono ?_
 ·rw[Lx.zao];exact qa36 (Lx.zkF _) hs
 rintro e w1 ⟨rfl,hb⟩;rw[Lx.zaH,H.out];go_wp2;go_ret2;exact⟨rfl,hb⟩
theorem zhY(m:Nat)(h:m≤9223372036854775808):wrap64 (IntKind.u64.wrap (-(m:Int)))=if True then -(m:Int)else(m:Int):=by
 rw[if_pos trivial];unfold wrap64 IntKind.wrap;simp[IntKind.bits,IntKind.signed];omega
theorem zjY(s:ByteArray)(w:World)(hs:s.size≤9223372036854775000)(h:Lx.cutp (Lx.ls s)=([48],true)):
  Calls Tryz.prog 112 #[.string s] w fun e w'=>e=.returned (.tuple #[.int .i64 (Lx.read (Lx.ls s)).1,.int .i64 (Lx.read (Lx.ls s)).2])∧Below w.heap.size w w':=by
 have hR:Lx.read (Lx.ls s)=(0,8):=by rw[Lx.zf8,h];rfl
 rw[hR];have H:=qa38 h;have hq:((Lx.bs [48]).toList==[48])=true:=by rw[Lx.bs_toList];rfl
 have hd:Lx.zaW [48]=true:=rfl;have HD:=qa38 hd;clear h hR hd;go_enter Tryz.func112,Tryz.ntmps112;go_wp2_with fail;refine(zee s w hs).mono ?_;rintro e w' ⟨rfl,rfl⟩;rw[H.out];go_wp2_with fail;refine(zcL _ w ?_).mono ?_
 ·rw[Lx.zao];decide
 rintro e w1 ⟨rfl,hb⟩;rw[Lx.zaH,HD.out];go_wp2;go_ret2;exact⟨rfl,hb⟩
theorem zf6(s:ByteArray)(w:World)(hs:s.size≤9223372036854775000)(d:ByteArray)(hds:d.size≤9223372036854775000)(h:Lx.cutp (Lx.ls s)=(Lx.ls d,false))(hok:Lx.zaW (Lx.ls d)=true):
  Calls Tryz.prog 112 #[.string s] w fun e w'=>e=.returned (.tuple #[.int .i64 (Lx.read (Lx.ls s)).1,.int .i64 (Lx.read (Lx.ls s)).2])∧Below w.heap.size w w':=by
 rw[Lx.zf8,h];generalize hR:Lx.zgX (Lx.ls d) false=R;have HR:=qa38 hR;have H:=qa38 h;have HO:=qa38 hok;clear hR h hok;go_enter Tryz.func112,Tryz.ntmps112;go_wp2_with fail;refine(zee s w hs).mono ?_;rintro e w' ⟨rfl,rfl⟩;rw[H.out];simp only[Lx.zgn];go_wp2_with fail;refine(zcL d w hds).mono ?_;rintro e w1 ⟨rfl,hb⟩;rw[HO.out];go_wp2;go_loopw [7] (fun n wr=>∃k:Nat,∃m:Nat,k≤d.size∧wr=w1.iter d k∧n=.int .u64 m∧m≤9223372036854775807∧Hid (m=Lx.dec ((Lx.ls d).take k))) (fun _ wr=>d.size-wr.iterPos w1.heap.size)
 case atStart=>exact⟨0,0,by omega,rfl,rfl,by omega,qa38 rfl⟩
 case round=>
  obtain⟨k,m,hk,rfl,rfl,hm,HM⟩:=hrel;by_cases hlt:k<d.size
  ·obtain⟨c1,c2⟩:=Lx.zfv HO.out hlt;have hn:=fun ty=>run_next_ascii (P:=Tryz.prog) w1 d k ty hlt (by omega);go_wp2
   ·have hf:=Lx.zfe (k:=k+1) HO.out (.inl rfl) (by omega) (by rw [Lx.zbf hlt,← HM.out,Lx.zge];simp only [reduceIte,qa39,if_false,qa12];omega);go_ret2;exact⟨by rw[←HR.out,hf];rfl,hb.trans (Below.mono (za3 _ _ _) hb.size)⟩
   ·go_roundw
    case rel=>exact⟨k+1,10*m+(d[k].toNat-48),by omega,rfl,by congr 1;omega,by omega,qa38 (by rw[Lx.zbf hlt,HM.out])⟩
    case measure=>simp;omega
  ·have hn:=fun ty=>run_next_end (P:=Tryz.prog) w1 d k ty hlt;obtain rfl:k=d.size:=by omega
   have hm2:m=Lx.dec (Lx.ls d):=by rw[HM.out,Lx.zh9]
   have hf:=Lx.zff HO.out (.inl rfl) (by rw[←hm2,Lx.zge];simp only[reduceIte,qa39,if_false,qa12];omega);have HF:=qa38 hf;have HM2:=qa38 hm2;clear hf hm2;go_wp2;go_ret2;refine⟨?_,hb.trans (Below.mono (za3 _ _ _) hb.size)⟩;rw[←HR.out,HF.out,←HM2.out];simp only[qa2];refine zi0 (zku ?_) rfl;first|rfl|exact zhY m hm
theorem zf7(s:ByteArray)(w:World)(hs:s.size≤9223372036854775000)(d:ByteArray)(hds:d.size≤9223372036854775000)(h:Lx.cutp (Lx.ls s)=(Lx.ls d,true))(hok:Lx.zaW (Lx.ls d)=true)(hz:Lx.ls d≠[48]):
  Calls Tryz.prog 112 #[.string s] w fun e w'=>e=.returned (.tuple #[.int .i64 (Lx.read (Lx.ls s)).1,.int .i64 (Lx.read (Lx.ls s)).2])∧Below w.heap.size w w':=by
 rw[Lx.zf8,h];generalize hR:Lx.zgX (Lx.ls d) true=R;have HR:=qa38 hR;have H:=qa38 h;have HO:=qa38 hok;have HZ:=qa38 hz;have hz':(d.toList==[48])=false:=by rw[Lx.zas];simpa using hz
 clear hz;clear hR h hok;go_enter Tryz.func112,Tryz.ntmps112;go_wp2_with fail;refine(zee s w hs).mono ?_;rintro e w' ⟨rfl,rfl⟩;rw[H.out];simp only[Lx.zgn];go_wp2_with fail;refine(zcL d w hds).mono ?_;rintro e w1 ⟨rfl,hb⟩;rw[HO.out];go_wp2;go_loopw [7] (fun n wr=>∃k:Nat,∃m:Nat,k≤d.size∧wr=w1.iter d k∧n=.int .u64 m∧m≤9223372036854775808∧Hid (m=Lx.dec ((Lx.ls d).take k))) (fun _ wr=>d.size-wr.iterPos w1.heap.size)
 case atStart=>exact⟨0,0,by omega,rfl,rfl,by omega,qa38 rfl⟩
 case round=>
  obtain⟨k,m,hk,rfl,rfl,hm,HM⟩:=hrel;by_cases hlt:k<d.size
  ·obtain⟨c1,c2⟩:=Lx.zfv HO.out hlt;have hn:=fun ty=>run_next_ascii (P:=Tryz.prog) w1 d k ty hlt (by omega);go_wp2
   ·have hf:=Lx.zfe (neg:=true) (k:=k+1) HO.out (.inr HZ.out) (by omega) (by rw [Lx.zbf hlt,← HM.out,Lx.zge];simp only [reduceIte,qa39,if_false,qa12];omega);go_ret2;exact⟨by rw[←HR.out,hf];rfl,hb.trans (Below.mono (za3 _ _ _) hb.size)⟩
   ·go_roundw
    case rel=>exact⟨k+1,10*m+(d[k].toNat-48),by omega,rfl,by congr 1;omega,by omega,qa38 (by rw[Lx.zbf hlt,HM.out])⟩
    case measure=>simp;omega
  ·have hn:=fun ty=>run_next_end (P:=Tryz.prog) w1 d k ty hlt;obtain rfl:k=d.size:=by omega
   have hm2:m=Lx.dec (Lx.ls d):=by rw[HM.out,Lx.zh9]
   have hf:=Lx.zff (neg:=true) HO.out (.inr HZ.out) (by rw[←hm2,Lx.zge];simp only[reduceIte,qa39,if_false,qa12];omega);have HF:=qa38 hf;have HM2:=qa38 hm2;clear hf hm2;go_wp2;go_ret2;refine⟨?_,hb.trans (Below.mono (za3 _ _ _) hb.size)⟩;rw[←HR.out,HF.out,←HM2.out];simp only[qa2];refine zi0 (zku ?_) rfl;first|rfl|exact zhY m hm
theorem zcJ(s:ByteArray)(w:World)(hs:s.size≤9223372036854775000):
  Calls Tryz.prog 112 #[.string s] w fun e w'=>e=.returned (.tuple #[.int .i64 (Lx.read (Lx.ls s)).1,.int .i64 (Lx.read (Lx.ls s)).2])∧Below w.heap.size w w':=by
 obtain⟨d,b,hc⟩:∃d b,Lx.cutp (Lx.ls s)=(d,b):=⟨_,_,rfl⟩;have hl:=Lx.zkF (Lx.ls s);rw[hc,Lx.zaj]at hl;have hc':Lx.cutp (Lx.ls s)=(Lx.ls (Lx.bs d),b):=by rw[Lx.zaH];exact hc
 have hds:(Lx.bs d).size≤9223372036854775000:=by rw[Lx.zao];exact qa36 hl hs
 cases hok:Lx.zaW d with
 |false=>exact read_bad s w hs (by rw[hc];exact hok)
 |true=>
  cases b with
  |false=>exact zf6 s w hs (Lx.bs d) hds hc' (by rw[Lx.zaH];exact hok)
  |true=>
   by_cases hz:d=[48]
   ·subst hz;exact zjY s w hs hc
   ·exact zf7 s w hs (Lx.bs d) hds hc' (by rw[Lx.zaH];exact hok) (by rw[Lx.zaH];exact hz)
end
section
open Go.RowKit
def endE(o:Option Nat):Ending:=.returned (.tuple #[.int .i64 ((o.getD 0:Nat):Int),.bool o.isSome])
theorem zdI(s:ByteArray)(k0:Nat)(w:World)(hs:s.size≤1000000000)(hk0:k0<s.size):
  Calls Tryz.prog 113 #[.string s,.int .i64 k0] w fun e w'=>e=endE (Lx.zbT (Lx.qEnd (Lx.suf s (k0+1))) (k0+1))∧w=w':=by
 generalize hR:Lx.zbT (Lx.qEnd (Lx.suf s (k0+1))) (k0+1)=R;have HR:=qa38 hR;clear hR;go_enter Tryz.func113,Tryz.ntmps113;go_wp2;go_loop [6] (fun i=>∃k:Nat,k≤s.size∧i=.int .i64 k∧Hid (Lx.zbT (Lx.qEnd (Lx.suf s k)) k=R)) (fun i=>s.size-(intOf i).toNat)
 case atStart=>exact⟨k0+1,by omega,by go_num,HR⟩
 case round=>
  obtain⟨k,hk,rfl,HK⟩:=hrel;by_cases hlt:k<s.size
  ·by_cases h39:s[k].toNat=39
   ·have d1:((s[k].toNat:Int) != 39)=false:=by simp;omega
    by_cases hlt2:k+1<s.size
    ·have d2:((k:Int)+1 == (s.size:Int))=false:=by simp;omega
     by_cases h392:s[k+1].toNat=39
     ·have d3:((s[k+1].toNat:Int) != 39)=false:=by simp;omega
      have HK':=qa38 (Eq.trans (Lx.q_pair hlt2 h39 h392).symm HK.out);have H39:=qa38 h39;have H392:=qa38 h392;clear h39 h392;go_wp2;go_round
      case rel=>exact⟨k+2,by omega,by go_num,HK'⟩
      case measure=>simp[intOf];omega
     ·have d3:((s[k+1].toNat:Int) != 39)=true:=by simp;omega
      have hf:=Lx.q_stop hlt h39 (fun _=>h392);rw[HK.out]at hf;subst hf;have H39:=qa38 h39;clear h39 h392;go_wp2;go_ret2;exact⟨rfl,rfl⟩
    ·have d2:((k:Int)+1 == (s.size:Int))=true:=by simp;omega
     have hf:=Lx.q_stop hlt h39 (fun h=>absurd h hlt2);rw[HK.out]at hf;subst hf;have H39:=qa38 h39;clear h39;go_wp2;go_ret2;exact⟨rfl,rfl⟩
   ·have d1:((s[k].toNat:Int) != 39)=true:=by simp;omega
    have HK':=qa38 (Eq.trans (Lx.q_go hlt h39).symm HK.out);clear h39;go_wp2;go_round
    case rel=>exact⟨k+1,by omega,by go_num,HK'⟩
    case measure=>simp[intOf];omega
  ·have hf:R=none:=by rw [← HK.out,Lx.q_end (by omega)]
   subst hf;go_wp2;go_ret2;exact⟨rfl,rfl⟩
theorem noq_any(c:UInt8)(w:World):
  Calls Tryz.prog 160 #[.int .u8 c.toNat] w fun e w'=>e=.returned (.bool (Lx.noq c))∧w=w':=by
 go_enter Tryz.func160,Tryz.ntmps160;go_wp2;go_ret;refine⟨ziZ ?_,rfl⟩;rw[Bool.eq_iff_iff];simp[Lx.noq,←UInt8.toNat_inj];omega
theorem zcP(s:ByteArray)(k:Nat)(w:World)(hs:s.size≤1000000000)(hk:k<s.size):
  Calls Tryz.prog 105 #[.string s,.int .i64 k] w fun e w'=>e=endE (if Lx.zbc (Lx.suf s k)then some (k+2+Lx.many Lx.noq (Lx.suf s (k+2))+1)else none)∧w=w':=by
 by_cases hx:s[k].toNat=120∨s[k].toNat=88
 ·have dd:((s[k].toNat:Int) != 120)=false∨((s[k].toNat:Int) != 120)=true∧((s[k].toNat:Int) != 88)=false:=by
   rcases hx with h|h
   ·left;simp;omega
   ·right;simp;omega
  by_cases hl:k+1<s.size
  ·have d2:decide ((s.size:Int)≤(k:Int)+1)=false:=qa28 (by omega);by_cases h39:s[k+1].toNat=39
   ·have d3:((s[k+1].toNat:Int) != 39)=false:=by simp;omega
    rw[Lx.zi9 hl hx h39,if_pos rfl];have hm:=Lx.za1 Lx.noq (Lx.suf s (k+2));rw[Lx.zag]at hm;obtain⟨m,hm2⟩:∃m,m=Lx.many Lx.noq (Lx.suf s (k+2)):=⟨_,rfl⟩;rw[←hm2]at hm ⊢;have HM:=qa38 hm2;clear h39 hx hm2;rcases dd with d1|⟨d1,d1'⟩;all_goals
     go_enter Tryz.func105,Tryz.ntmps105;go_wp2_with fail;refine(zck 160 Lx.noq (by intro args w;go_simp) noq_any s (k+2) w (by omega) (by omega)).mono ?_;rintro e w' ⟨rfl,rfl⟩;rw[←HM.out];go_wp2;go_ret2;exact⟨rfl,rfl⟩
   ·have d3:((s[k+1].toNat:Int) != 39)=true:=by simp;omega
    rw[Lx.zeI (by omega) (.inr (fun _=>h39)),if_neg (by decide)];clear h39 hx;rcases dd with d1|⟨d1,d1'⟩;all_goals
     go_enter Tryz.func105,Tryz.ntmps105;go_wp2;go_ret2;exact⟨rfl,rfl⟩
  ·have d2:decide ((s.size:Int)≤(k:Int)+1)=true:=qa30 (by omega);rw[Lx.zeI (by omega) (.inr (fun h=>absurd h hl)),if_neg (by decide)];clear hx;rcases dd with d1|⟨d1,d1'⟩;all_goals
    go_enter Tryz.func105,Tryz.ntmps105;go_wp2;go_ret2;exact⟨rfl,rfl⟩
 ·have d1:((s[k].toNat:Int) != 120)=true:=by simp;omega
  have d1':((s[k].toNat:Int) != 88)=true:=by simp;omega
  rw[Lx.zeI hk (.inl (by omega)),if_neg (by decide)];clear hx;go_enter Tryz.func105,Tryz.ntmps105;go_wp2;go_ret2;exact⟨rfl,rfl⟩
def zhv(k n:Nat):Ending:=.returned (.tuple #[.int .i64 ((if n=0 then 0 else k+n:Nat):Int),.bool (!(n==0))])
theorem sign_two(s:ByteArray)(k:Nat)(w:World)(hs:s.size≤1000000000)(hk:k<s.size)(h2:k+2≤s.size)(hm:Lx.zbK.contains ((Lx.suf s k).take 2)=true):
  Calls Tryz.prog 114 #[.string s,.int .i64 k] w fun e w'=>e=zhv k (Lx.zaw (Lx.suf s k))∧w=w':=by
 rw[Lx.markN_2 hm];rw[←Lx.take2 h2]at hm;simp only[Lx.zbK,List.contains_eq_mem,qa33,List.not_mem_nil,or_false,qa16]at hm;rcases hm with hm|hm|hm|hm
 ·have q0:((s.extract k (k+2)).toList == [124,124])=true:=by rw [hm];rfl
  clear hm;go_enter Tryz.func114,Tryz.ntmps114;go_wp2;go_ret2;exact⟨rfl,rfl⟩
 ·have q0:((s.extract k (k+2)).toList == [124,124])=false:=by rw [hm];rfl
  have q1:((s.extract k (k+2)).toList==[60,62])=true:=by rw[hm];rfl
  clear hm;go_enter Tryz.func114,Tryz.ntmps114;go_wp2;go_ret2;exact⟨rfl,rfl⟩
 ·have q0:((s.extract k (k+2)).toList == [124,124])=false:=by rw [hm];rfl
  have q1:((s.extract k (k+2)).toList==[60,62])=false:=by rw[hm];rfl
  have q2:((s.extract k (k+2)).toList==[60,61])=true:=by rw[hm];rfl
  clear hm;go_enter Tryz.func114,Tryz.ntmps114;go_wp2;go_ret2;exact⟨rfl,rfl⟩
 ·have q0:((s.extract k (k+2)).toList == [124,124])=false:=by rw [hm];rfl
  have q1:((s.extract k (k+2)).toList==[60,62])=false:=by rw[hm];rfl
  have q2:((s.extract k (k+2)).toList==[60,61])=false:=by rw[hm];rfl
  have q3:((s.extract k (k+2)).toList==[62,61])=true:=by rw[hm];rfl
  clear hm;go_enter Tryz.func114,Tryz.ntmps114;go_wp2;go_ret2;exact⟨rfl,rfl⟩
set_option maxHeartbeats 2000000 in
theorem sign_one(s:ByteArray)(k:Nat)(w:World)(hs:s.size≤1000000000)(hk:k<s.size)(h2:k+2≤s.size)(hm:Lx.zbK.contains ((Lx.suf s k).take 2)=false):
  Calls Tryz.prog 114 #[.string s,.int .i64 k] w fun e w'=>e=zhv k (Lx.zaw (Lx.suf s k))∧w=w':=by
 have hM:=Lx.zkl hk hm;rw[Lx.zhd]at hM;rw[←Lx.take2 h2]at hm;simp only[Lx.zbK,List.contains_eq_mem,qa33,List.not_mem_nil,or_false,decide_eq_false_iff_not,not_or]at hm;obtain⟨n0,n1,n2,n3⟩:=hm;have q0:((s.extract k (k+2)).toList==[124,124])=false:=qa11.2 n0;have q1:((s.extract k (k+2)).toList==[60,62])=false:=qa11.2 n1;have q2:((s.extract k (k+2)).toList==[60,61])=false:=qa11.2 n2;have q3:((s.extract k (k+2)).toList==[62,61])=false:=qa11.2 n3;clear n0 n1 n2 n3;by_cases c0:s[k].toNat=61
 ·have hM1:Lx.zaw (Lx.suf s k)=1:=by rw [hM,c0];rfl
  rw[hM1];have e0:((s[k].toNat:Int)==61)=true:=by rw[c0];rfl
  clear hM hM1 c0;go_enter Tryz.func114,Tryz.ntmps114;go_wp2;go_ret2;exact⟨rfl,rfl⟩
 by_cases c1:s[k].toNat=60
 ·have hM1:Lx.zaw (Lx.suf s k)=1:=by rw [hM,c1];rfl
  rw[hM1];have e0:((s[k].toNat:Int)==61)=false:=by rw[c1];rfl
  have e1:((s[k].toNat:Int)==60)=true:=by rw[c1];rfl
  clear hM hM1 c0 c1;go_enter Tryz.func114,Tryz.ntmps114;go_wp2;go_ret2;exact⟨rfl,rfl⟩
 by_cases c2:s[k].toNat=62
 ·have hM1:Lx.zaw (Lx.suf s k)=1:=by rw [hM,c2];rfl
  rw[hM1];have e0:((s[k].toNat:Int)==61)=false:=by rw[c2];rfl
  have e1:((s[k].toNat:Int)==60)=false:=by rw[c2];rfl
  have e2:((s[k].toNat:Int)==62)=true:=by rw[c2];rfl
  clear hM hM1 c0 c1 c2;go_enter Tryz.func114,Tryz.ntmps114;go_wp2;go_ret2;exact⟨rfl,rfl⟩
 by_cases c3:s[k].toNat=43
 ·have hM1:Lx.zaw (Lx.suf s k)=1:=by rw [hM,c3];rfl
  rw[hM1];have e0:((s[k].toNat:Int)==61)=false:=by rw[c3];rfl
  have e1:((s[k].toNat:Int)==60)=false:=by rw[c3];rfl
  have e2:((s[k].toNat:Int)==62)=false:=by rw[c3];rfl
  have e3:((s[k].toNat:Int)==43)=true:=by rw[c3];rfl
  clear hM hM1 c0 c1 c2 c3;go_enter Tryz.func114,Tryz.ntmps114;go_wp2;go_ret2;exact⟨rfl,rfl⟩
 by_cases c4:s[k].toNat=45
 ·have hM1:Lx.zaw (Lx.suf s k)=1:=by rw [hM,c4];rfl
  rw[hM1];have e0:((s[k].toNat:Int)==61)=false:=by rw[c4];rfl
  have e1:((s[k].toNat:Int)==60)=false:=by rw[c4];rfl
  have e2:((s[k].toNat:Int)==62)=false:=by rw[c4];rfl
  have e3:((s[k].toNat:Int)==43)=false:=by rw[c4];rfl
  have e4:((s[k].toNat:Int)==45)=true:=by rw[c4];rfl
  clear hM hM1 c0 c1 c2 c3 c4;go_enter Tryz.func114,Tryz.ntmps114;go_wp2;go_ret2;exact⟨rfl,rfl⟩
 by_cases c5:s[k].toNat=42
 ·have hM1:Lx.zaw (Lx.suf s k)=1:=by rw [hM,c5];rfl
  rw[hM1];have e0:((s[k].toNat:Int)==61)=false:=by rw[c5];rfl
  have e1:((s[k].toNat:Int)==60)=false:=by rw[c5];rfl
  have e2:((s[k].toNat:Int)==62)=false:=by rw[c5];rfl
  have e3:((s[k].toNat:Int)==43)=false:=by rw[c5];rfl
  have e4:((s[k].toNat:Int)==45)=false:=by rw[c5];rfl
  have e5:((s[k].toNat:Int)==42)=true:=by rw[c5];rfl
  clear hM hM1 c0 c1 c2 c3 c4 c5;go_enter Tryz.func114,Tryz.ntmps114;go_wp2;go_ret2;exact⟨rfl,rfl⟩
 by_cases c6:s[k].toNat=47
 ·have hM1:Lx.zaw (Lx.suf s k)=1:=by rw [hM,c6];rfl
  rw[hM1];have e0:((s[k].toNat:Int)==61)=false:=by rw[c6];rfl
  have e1:((s[k].toNat:Int)==60)=false:=by rw[c6];rfl
  have e2:((s[k].toNat:Int)==62)=false:=by rw[c6];rfl
  have e3:((s[k].toNat:Int)==43)=false:=by rw[c6];rfl
  have e4:((s[k].toNat:Int)==45)=false:=by rw[c6];rfl
  have e5:((s[k].toNat:Int)==42)=false:=by rw[c6];rfl
  have e6:((s[k].toNat:Int)==47)=true:=by rw[c6];rfl
  clear hM hM1 c0 c1 c2 c3 c4 c5 c6;go_enter Tryz.func114,Tryz.ntmps114;go_wp2;go_ret2;exact⟨rfl,rfl⟩
 by_cases c7:s[k].toNat=37
 ·have hM1:Lx.zaw (Lx.suf s k)=1:=by rw [hM,c7];rfl
  rw[hM1];have e0:((s[k].toNat:Int)==61)=false:=by rw[c7];rfl
  have e1:((s[k].toNat:Int)==60)=false:=by rw[c7];rfl
  have e2:((s[k].toNat:Int)==62)=false:=by rw[c7];rfl
  have e3:((s[k].toNat:Int)==43)=false:=by rw[c7];rfl
  have e4:((s[k].toNat:Int)==45)=false:=by rw[c7];rfl
  have e5:((s[k].toNat:Int)==42)=false:=by rw[c7];rfl
  have e6:((s[k].toNat:Int)==47)=false:=by rw[c7];rfl
  have e7:((s[k].toNat:Int)==37)=true:=by rw[c7];rfl
  clear hM hM1 c0 c1 c2 c3 c4 c5 c6 c7;go_enter Tryz.func114,Tryz.ntmps114;go_wp2;go_ret2;exact⟨rfl,rfl⟩
 by_cases c8:s[k].toNat=40
 ·have hM1:Lx.zaw (Lx.suf s k)=1:=by rw [hM,c8];rfl
  rw[hM1];have e0:((s[k].toNat:Int)==61)=false:=by rw[c8];rfl
  have e1:((s[k].toNat:Int)==60)=false:=by rw[c8];rfl
  have e2:((s[k].toNat:Int)==62)=false:=by rw[c8];rfl
  have e3:((s[k].toNat:Int)==43)=false:=by rw[c8];rfl
  have e4:((s[k].toNat:Int)==45)=false:=by rw[c8];rfl
  have e5:((s[k].toNat:Int)==42)=false:=by rw[c8];rfl
  have e6:((s[k].toNat:Int)==47)=false:=by rw[c8];rfl
  have e7:((s[k].toNat:Int)==37)=false:=by rw[c8];rfl
  have e8:((s[k].toNat:Int)==40)=true:=by rw[c8];rfl
  clear hM hM1 c0 c1 c2 c3 c4 c5 c6 c7 c8;go_enter Tryz.func114,Tryz.ntmps114;go_wp2;go_ret2;exact⟨rfl,rfl⟩
 by_cases c9:s[k].toNat=41
 ·have hM1:Lx.zaw (Lx.suf s k)=1:=by rw [hM,c9];rfl
  rw[hM1];have e0:((s[k].toNat:Int)==61)=false:=by rw[c9];rfl
  have e1:((s[k].toNat:Int)==60)=false:=by rw[c9];rfl
  have e2:((s[k].toNat:Int)==62)=false:=by rw[c9];rfl
  have e3:((s[k].toNat:Int)==43)=false:=by rw[c9];rfl
  have e4:((s[k].toNat:Int)==45)=false:=by rw[c9];rfl
  have e5:((s[k].toNat:Int)==42)=false:=by rw[c9];rfl
  have e6:((s[k].toNat:Int)==47)=false:=by rw[c9];rfl
  have e7:((s[k].toNat:Int)==37)=false:=by rw[c9];rfl
  have e8:((s[k].toNat:Int)==40)=false:=by rw[c9];rfl
  have e9:((s[k].toNat:Int)==41)=true:=by rw[c9];rfl
  clear hM hM1 c0 c1 c2 c3 c4 c5 c6 c7 c8 c9;go_enter Tryz.func114,Tryz.ntmps114;go_wp2;go_ret2;exact⟨rfl,rfl⟩
 by_cases c10:s[k].toNat=44
 ·have hM1:Lx.zaw (Lx.suf s k)=1:=by rw [hM,c10];rfl
  rw[hM1];have e0:((s[k].toNat:Int)==61)=false:=by rw[c10];rfl
  have e1:((s[k].toNat:Int)==60)=false:=by rw[c10];rfl
  have e2:((s[k].toNat:Int)==62)=false:=by rw[c10];rfl
  have e3:((s[k].toNat:Int)==43)=false:=by rw[c10];rfl
  have e4:((s[k].toNat:Int)==45)=false:=by rw[c10];rfl
  have e5:((s[k].toNat:Int)==42)=false:=by rw[c10];rfl
  have e6:((s[k].toNat:Int)==47)=false:=by rw[c10];rfl
  have e7:((s[k].toNat:Int)==37)=false:=by rw[c10];rfl
  have e8:((s[k].toNat:Int)==40)=false:=by rw[c10];rfl
  have e9:((s[k].toNat:Int)==41)=false:=by rw[c10];rfl
  have e10:((s[k].toNat:Int)==44)=true:=by rw[c10];rfl
  clear hM hM1 c0 c1 c2 c3 c4 c5 c6 c7 c8 c9 c10;go_enter Tryz.func114,Tryz.ntmps114;go_wp2;go_ret2;exact⟨rfl,rfl⟩
 by_cases c11:s[k].toNat=46
 ·have hM1:Lx.zaw (Lx.suf s k)=1:=by rw [hM,c11];rfl
  rw[hM1];have e0:((s[k].toNat:Int)==61)=false:=by rw[c11];rfl
  have e1:((s[k].toNat:Int)==60)=false:=by rw[c11];rfl
  have e2:((s[k].toNat:Int)==62)=false:=by rw[c11];rfl
  have e3:((s[k].toNat:Int)==43)=false:=by rw[c11];rfl
  have e4:((s[k].toNat:Int)==45)=false:=by rw[c11];rfl
  have e5:((s[k].toNat:Int)==42)=false:=by rw[c11];rfl
  have e6:((s[k].toNat:Int)==47)=false:=by rw[c11];rfl
  have e7:((s[k].toNat:Int)==37)=false:=by rw[c11];rfl
  have e8:((s[k].toNat:Int)==40)=false:=by rw[c11];rfl
  have e9:((s[k].toNat:Int)==41)=false:=by rw[c11];rfl
  have e10:((s[k].toNat:Int)==44)=false:=by rw[c11];rfl
  have e11:((s[k].toNat:Int)==46)=true:=by rw[c11];rfl
  clear hM hM1 c0 c1 c2 c3 c4 c5 c6 c7 c8 c9 c10 c11;go_enter Tryz.func114,Tryz.ntmps114;go_wp2;go_ret2;exact⟨rfl,rfl⟩
 by_cases c12:s[k].toNat=59
 ·have hM1:Lx.zaw (Lx.suf s k)=1:=by rw [hM,c12];rfl
  rw[hM1];have e0:((s[k].toNat:Int)==61)=false:=by rw[c12];rfl
  have e1:((s[k].toNat:Int)==60)=false:=by rw[c12];rfl
  have e2:((s[k].toNat:Int)==62)=false:=by rw[c12];rfl
  have e3:((s[k].toNat:Int)==43)=false:=by rw[c12];rfl
  have e4:((s[k].toNat:Int)==45)=false:=by rw[c12];rfl
  have e5:((s[k].toNat:Int)==42)=false:=by rw[c12];rfl
  have e6:((s[k].toNat:Int)==47)=false:=by rw[c12];rfl
  have e7:((s[k].toNat:Int)==37)=false:=by rw[c12];rfl
  have e8:((s[k].toNat:Int)==40)=false:=by rw[c12];rfl
  have e9:((s[k].toNat:Int)==41)=false:=by rw[c12];rfl
  have e10:((s[k].toNat:Int)==44)=false:=by rw[c12];rfl
  have e11:((s[k].toNat:Int)==46)=false:=by rw[c12];rfl
  have e12:((s[k].toNat:Int)==59)=true:=by rw[c12];rfl
  clear hM hM1 c0 c1 c2 c3 c4 c5 c6 c7 c8 c9 c10 c11 c12;go_enter Tryz.func114,Tryz.ntmps114;go_wp2;go_ret2;exact⟨rfl,rfl⟩
 have hM0:Lx.zaw (Lx.suf s k)=0:=by rw[hM];simp[c0,c1,c2,c3,c4,c5,c6,c7,c8,c9,c10,c11,c12]
 rw[hM0];have e0:((s[k].toNat:Int)==61)=false:=by simp;omega
 have e1:((s[k].toNat:Int)==60)=false:=by simp;omega
 have e2:((s[k].toNat:Int)==62)=false:=by simp;omega
 have e3:((s[k].toNat:Int)==43)=false:=by simp;omega
 have e4:((s[k].toNat:Int)==45)=false:=by simp;omega
 have e5:((s[k].toNat:Int)==42)=false:=by simp;omega
 have e6:((s[k].toNat:Int)==47)=false:=by simp;omega
 have e7:((s[k].toNat:Int)==37)=false:=by simp;omega
 have e8:((s[k].toNat:Int)==40)=false:=by simp;omega
 have e9:((s[k].toNat:Int)==41)=false:=by simp;omega
 have e10:((s[k].toNat:Int)==44)=false:=by simp;omega
 have e11:((s[k].toNat:Int)==46)=false:=by simp;omega
 have e12:((s[k].toNat:Int)==59)=false:=by simp;omega
 clear hM hM0 c0 c1 c2 c3 c4 c5 c6 c7 c8 c9 c10 c11 c12;go_enter Tryz.func114,Tryz.ntmps114;go_wp2;go_ret2;exact⟨rfl,rfl⟩
set_option maxHeartbeats 2000000 in
theorem ziW(s:ByteArray)(k:Nat)(w:World)(hs:s.size≤1000000000)(hk:k<s.size)(h2:s.size<k+2):
  Calls Tryz.prog 114 #[.string s,.int .i64 k] w fun e w'=>e=zhv k (Lx.zaw (Lx.suf s k))∧w=w':=by
 have hm:=Lx.short2 h2;have hM:=Lx.zkl hk hm;rw[Lx.zhd]at hM;clear hm;by_cases c0:s[k].toNat=61
 ·have hM1:Lx.zaw (Lx.suf s k)=1:=by rw [hM,c0];rfl
  rw[hM1];have e0:((s[k].toNat:Int)==61)=true:=by rw[c0];rfl
  clear hM hM1 c0;go_enter Tryz.func114,Tryz.ntmps114;go_wp2;go_ret2;exact⟨rfl,rfl⟩
 by_cases c1:s[k].toNat=60
 ·have hM1:Lx.zaw (Lx.suf s k)=1:=by rw [hM,c1];rfl
  rw[hM1];have e0:((s[k].toNat:Int)==61)=false:=by rw[c1];rfl
  have e1:((s[k].toNat:Int)==60)=true:=by rw[c1];rfl
  clear hM hM1 c0 c1;go_enter Tryz.func114,Tryz.ntmps114;go_wp2;go_ret2;exact⟨rfl,rfl⟩
 by_cases c2:s[k].toNat=62
 ·have hM1:Lx.zaw (Lx.suf s k)=1:=by rw [hM,c2];rfl
  rw[hM1];have e0:((s[k].toNat:Int)==61)=false:=by rw[c2];rfl
  have e1:((s[k].toNat:Int)==60)=false:=by rw[c2];rfl
  have e2:((s[k].toNat:Int)==62)=true:=by rw[c2];rfl
  clear hM hM1 c0 c1 c2;go_enter Tryz.func114,Tryz.ntmps114;go_wp2;go_ret2;exact⟨rfl,rfl⟩
 by_cases c3:s[k].toNat=43
 ·have hM1:Lx.zaw (Lx.suf s k)=1:=by rw [hM,c3];rfl
  rw[hM1];have e0:((s[k].toNat:Int)==61)=false:=by rw[c3];rfl
  have e1:((s[k].toNat:Int)==60)=false:=by rw[c3];rfl
  have e2:((s[k].toNat:Int)==62)=false:=by rw[c3];rfl
  have e3:((s[k].toNat:Int)==43)=true:=by rw[c3];rfl
  clear hM hM1 c0 c1 c2 c3;go_enter Tryz.func114,Tryz.ntmps114;go_wp2;go_ret2;exact⟨rfl,rfl⟩
 by_cases c4:s[k].toNat=45
 ·have hM1:Lx.zaw (Lx.suf s k)=1:=by rw [hM,c4];rfl
  rw[hM1];have e0:((s[k].toNat:Int)==61)=false:=by rw[c4];rfl
  have e1:((s[k].toNat:Int)==60)=false:=by rw[c4];rfl
  have e2:((s[k].toNat:Int)==62)=false:=by rw[c4];rfl
  have e3:((s[k].toNat:Int)==43)=false:=by rw[c4];rfl
  have e4:((s[k].toNat:Int)==45)=true:=by rw[c4];rfl
  clear hM hM1 c0 c1 c2 c3 c4;go_enter Tryz.func114,Tryz.ntmps114;go_wp2;go_ret2;exact⟨rfl,rfl⟩
 by_cases c5:s[k].toNat=42
 ·have hM1:Lx.zaw (Lx.suf s k)=1:=by rw [hM,c5];rfl
  rw[hM1];have e0:((s[k].toNat:Int)==61)=false:=by rw[c5];rfl
  have e1:((s[k].toNat:Int)==60)=false:=by rw[c5];rfl
  have e2:((s[k].toNat:Int)==62)=false:=by rw[c5];rfl
  have e3:((s[k].toNat:Int)==43)=false:=by rw[c5];rfl
  have e4:((s[k].toNat:Int)==45)=false:=by rw[c5];rfl
  have e5:((s[k].toNat:Int)==42)=true:=by rw[c5];rfl
  clear hM hM1 c0 c1 c2 c3 c4 c5;go_enter Tryz.func114,Tryz.ntmps114;go_wp2;go_ret2;exact⟨rfl,rfl⟩
 by_cases c6:s[k].toNat=47
 ·have hM1:Lx.zaw (Lx.suf s k)=1:=by rw [hM,c6];rfl
  rw[hM1];have e0:((s[k].toNat:Int)==61)=false:=by rw[c6];rfl
  have e1:((s[k].toNat:Int)==60)=false:=by rw[c6];rfl
  have e2:((s[k].toNat:Int)==62)=false:=by rw[c6];rfl
  have e3:((s[k].toNat:Int)==43)=false:=by rw[c6];rfl
  have e4:((s[k].toNat:Int)==45)=false:=by rw[c6];rfl
  have e5:((s[k].toNat:Int)==42)=false:=by rw[c6];rfl
  have e6:((s[k].toNat:Int)==47)=true:=by rw[c6];rfl
  clear hM hM1 c0 c1 c2 c3 c4 c5 c6;go_enter Tryz.func114,Tryz.ntmps114;go_wp2;go_ret2;exact⟨rfl,rfl⟩
 by_cases c7:s[k].toNat=37
 ·have hM1:Lx.zaw (Lx.suf s k)=1:=by rw [hM,c7];rfl
  rw[hM1];have e0:((s[k].toNat:Int)==61)=false:=by rw[c7];rfl
  have e1:((s[k].toNat:Int)==60)=false:=by rw[c7];rfl
  have e2:((s[k].toNat:Int)==62)=false:=by rw[c7];rfl
  have e3:((s[k].toNat:Int)==43)=false:=by rw[c7];rfl
  have e4:((s[k].toNat:Int)==45)=false:=by rw[c7];rfl
  have e5:((s[k].toNat:Int)==42)=false:=by rw[c7];rfl
  have e6:((s[k].toNat:Int)==47)=false:=by rw[c7];rfl
  have e7:((s[k].toNat:Int)==37)=true:=by rw[c7];rfl
  clear hM hM1 c0 c1 c2 c3 c4 c5 c6 c7;go_enter Tryz.func114,Tryz.ntmps114;go_wp2;go_ret2;exact⟨rfl,rfl⟩
 by_cases c8:s[k].toNat=40
 ·have hM1:Lx.zaw (Lx.suf s k)=1:=by rw [hM,c8];rfl
  rw[hM1];have e0:((s[k].toNat:Int)==61)=false:=by rw[c8];rfl
  have e1:((s[k].toNat:Int)==60)=false:=by rw[c8];rfl
  have e2:((s[k].toNat:Int)==62)=false:=by rw[c8];rfl
  have e3:((s[k].toNat:Int)==43)=false:=by rw[c8];rfl
  have e4:((s[k].toNat:Int)==45)=false:=by rw[c8];rfl
  have e5:((s[k].toNat:Int)==42)=false:=by rw[c8];rfl
  have e6:((s[k].toNat:Int)==47)=false:=by rw[c8];rfl
  have e7:((s[k].toNat:Int)==37)=false:=by rw[c8];rfl
  have e8:((s[k].toNat:Int)==40)=true:=by rw[c8];rfl
  clear hM hM1 c0 c1 c2 c3 c4 c5 c6 c7 c8;go_enter Tryz.func114,Tryz.ntmps114;go_wp2;go_ret2;exact⟨rfl,rfl⟩
 by_cases c9:s[k].toNat=41
 ·have hM1:Lx.zaw (Lx.suf s k)=1:=by rw [hM,c9];rfl
  rw[hM1];have e0:((s[k].toNat:Int)==61)=false:=by rw[c9];rfl
  have e1:((s[k].toNat:Int)==60)=false:=by rw[c9];rfl
  have e2:((s[k].toNat:Int)==62)=false:=by rw[c9];rfl
  have e3:((s[k].toNat:Int)==43)=false:=by rw[c9];rfl
  have e4:((s[k].toNat:Int)==45)=false:=by rw[c9];rfl
  have e5:((s[k].toNat:Int)==42)=false:=by rw[c9];rfl
  have e6:((s[k].toNat:Int)==47)=false:=by rw[c9];rfl
  have e7:((s[k].toNat:Int)==37)=false:=by rw[c9];rfl
  have e8:((s[k].toNat:Int)==40)=false:=by rw[c9];rfl
  have e9:((s[k].toNat:Int)==41)=true:=by rw[c9];rfl
  clear hM hM1 c0 c1 c2 c3 c4 c5 c6 c7 c8 c9;go_enter Tryz.func114,Tryz.ntmps114;go_wp2;go_ret2;exact⟨rfl,rfl⟩
 by_cases c10:s[k].toNat=44
 ·have hM1:Lx.zaw (Lx.suf s k)=1:=by rw [hM,c10];rfl
  rw[hM1];have e0:((s[k].toNat:Int)==61)=false:=by rw[c10];rfl
  have e1:((s[k].toNat:Int)==60)=false:=by rw[c10];rfl
  have e2:((s[k].toNat:Int)==62)=false:=by rw[c10];rfl
  have e3:((s[k].toNat:Int)==43)=false:=by rw[c10];rfl
  have e4:((s[k].toNat:Int)==45)=false:=by rw[c10];rfl
  have e5:((s[k].toNat:Int)==42)=false:=by rw[c10];rfl
  have e6:((s[k].toNat:Int)==47)=false:=by rw[c10];rfl
  have e7:((s[k].toNat:Int)==37)=false:=by rw[c10];rfl
  have e8:((s[k].toNat:Int)==40)=false:=by rw[c10];rfl
  have e9:((s[k].toNat:Int)==41)=false:=by rw[c10];rfl
  have e10:((s[k].toNat:Int)==44)=true:=by rw[c10];rfl
  clear hM hM1 c0 c1 c2 c3 c4 c5 c6 c7 c8 c9 c10;go_enter Tryz.func114,Tryz.ntmps114;go_wp2;go_ret2;exact⟨rfl,rfl⟩
 by_cases c11:s[k].toNat=46
 ·have hM1:Lx.zaw (Lx.suf s k)=1:=by rw [hM,c11];rfl
  rw[hM1];have e0:((s[k].toNat:Int)==61)=false:=by rw[c11];rfl
  have e1:((s[k].toNat:Int)==60)=false:=by rw[c11];rfl
  have e2:((s[k].toNat:Int)==62)=false:=by rw[c11];rfl
  have e3:((s[k].toNat:Int)==43)=false:=by rw[c11];rfl
  have e4:((s[k].toNat:Int)==45)=false:=by rw[c11];rfl
  have e5:((s[k].toNat:Int)==42)=false:=by rw[c11];rfl
  have e6:((s[k].toNat:Int)==47)=false:=by rw[c11];rfl
  have e7:((s[k].toNat:Int)==37)=false:=by rw[c11];rfl
  have e8:((s[k].toNat:Int)==40)=false:=by rw[c11];rfl
  have e9:((s[k].toNat:Int)==41)=false:=by rw[c11];rfl
  have e10:((s[k].toNat:Int)==44)=false:=by rw[c11];rfl
  have e11:((s[k].toNat:Int)==46)=true:=by rw[c11];rfl
  clear hM hM1 c0 c1 c2 c3 c4 c5 c6 c7 c8 c9 c10 c11;go_enter Tryz.func114,Tryz.ntmps114;go_wp2;go_ret2;exact⟨rfl,rfl⟩
 by_cases c12:s[k].toNat=59
 ·have hM1:Lx.zaw (Lx.suf s k)=1:=by rw [hM,c12];rfl
  rw[hM1];have e0:((s[k].toNat:Int)==61)=false:=by rw[c12];rfl
  have e1:((s[k].toNat:Int)==60)=false:=by rw[c12];rfl
  have e2:((s[k].toNat:Int)==62)=false:=by rw[c12];rfl
  have e3:((s[k].toNat:Int)==43)=false:=by rw[c12];rfl
  have e4:((s[k].toNat:Int)==45)=false:=by rw[c12];rfl
  have e5:((s[k].toNat:Int)==42)=false:=by rw[c12];rfl
  have e6:((s[k].toNat:Int)==47)=false:=by rw[c12];rfl
  have e7:((s[k].toNat:Int)==37)=false:=by rw[c12];rfl
  have e8:((s[k].toNat:Int)==40)=false:=by rw[c12];rfl
  have e9:((s[k].toNat:Int)==41)=false:=by rw[c12];rfl
  have e10:((s[k].toNat:Int)==44)=false:=by rw[c12];rfl
  have e11:((s[k].toNat:Int)==46)=false:=by rw[c12];rfl
  have e12:((s[k].toNat:Int)==59)=true:=by rw[c12];rfl
  clear hM hM1 c0 c1 c2 c3 c4 c5 c6 c7 c8 c9 c10 c11 c12;go_enter Tryz.func114,Tryz.ntmps114;go_wp2;go_ret2;exact⟨rfl,rfl⟩
 have hM0:Lx.zaw (Lx.suf s k)=0:=by rw[hM];simp[c0,c1,c2,c3,c4,c5,c6,c7,c8,c9,c10,c11,c12]
 rw[hM0];have e0:((s[k].toNat:Int)==61)=false:=by simp;omega
 have e1:((s[k].toNat:Int)==60)=false:=by simp;omega
 have e2:((s[k].toNat:Int)==62)=false:=by simp;omega
 have e3:((s[k].toNat:Int)==43)=false:=by simp;omega
 have e4:((s[k].toNat:Int)==45)=false:=by simp;omega
 have e5:((s[k].toNat:Int)==42)=false:=by simp;omega
 have e6:((s[k].toNat:Int)==47)=false:=by simp;omega
 have e7:((s[k].toNat:Int)==37)=false:=by simp;omega
 have e8:((s[k].toNat:Int)==40)=false:=by simp;omega
 have e9:((s[k].toNat:Int)==41)=false:=by simp;omega
 have e10:((s[k].toNat:Int)==44)=false:=by simp;omega
 have e11:((s[k].toNat:Int)==46)=false:=by simp;omega
 have e12:((s[k].toNat:Int)==59)=false:=by simp;omega
 clear hM hM0 c0 c1 c2 c3 c4 c5 c6 c7 c8 c9 c10 c11 c12;go_enter Tryz.func114,Tryz.ntmps114;go_wp2;go_ret2;exact⟨rfl,rfl⟩
theorem zib(s:ByteArray)(k:Nat)(w:World)(hs:s.size≤1000000000)(hk:k<s.size):
  Calls Tryz.prog 114 #[.string s,.int .i64 k] w fun e w'=>e=zhv k (Lx.zaw (Lx.suf s k))∧w=w':=by
 by_cases h2:k+2≤s.size
 ·cases hm:Lx.zbK.contains ((Lx.suf s k).take 2)with
  |true=>exact sign_two s k w hs hk h2 hm
  |false=>exact sign_one s k w hs hk h2 hm
 ·exact ziW s k w hs hk (by omega)
end
end Go.Proofs.YtplflngjpajcmaaGreatDoor
namespace Lx
def lowL(l:List UInt8):Bool:=l.all fun c=>decide (97≤c.toNat) && decide (c.toNat≤122)
def hasW(f:List UInt8):List UInt8→Bool
 |[]=>false
 |c::r=>(32::f++[32]).isPrefixOf (c::r) || hasW f r
def flatW(ws:List (List UInt8)):List UInt8:=ws.flatMap (·++[32])
theorem zeD:∀(f w r:List UInt8),(32 ∉ f)→(32 ∉ w)→(f++[32]).isPrefixOf (w++32::r)=(f==w)
 |[],[],r,_,_=>by simp
 |[],b::w,r,_,hw=>by
  have:(32:UInt8)≠b:=fun e=>hw (by rw[e];simp);simp[List.isPrefixOf,this]
 |a::f,[],r,hf,_=>by
  have:a≠(32:UInt8):=fun e=>hf (by rw[e];simp);simp[List.isPrefixOf,this]
 |a::f,b::w,r,hf,hw=>by
  have h1:=zeD f w r (fun h=>hf (List.mem_cons_of_mem _ h)) (fun h=>hw (List.mem_cons_of_mem _ h));simp only[List.cons_append,List.isPrefixOf,List.cons_beq_cons]at h1 ⊢;rw[h1]
theorem zha(f:List UInt8):∀(w r:List UInt8),(32 ∉ w)→hasW f (w++r)=hasW f r
 |[],r,_=>rfl
 |b::w,r,hw=>by
  have h0:(32:UInt8)≠b:=fun e=>hw (by rw[e];simp);have h1:=zha f w r (fun h=>hw (List.mem_cons_of_mem _ h));simp only[List.cons_append,hasW];rw[h1];have:(32==b)=false:=by simpa using h0
  simp[List.isPrefixOf,this]
theorem zfs(f:List UInt8)(hf:32 ∉ f):∀ws:List (List UInt8),(∀w∈ws,32 ∉ w)→hasW f (32::flatW ws)=ws.contains f
 |[],_=>by cases f<;>simp[hasW,flatW,List.isPrefixOf]
 |w::ws,h=>by
  have ih:=zfs f hf ws (fun x hx=>h x (List.mem_cons_of_mem _ hx));have hw:=h w List.mem_cons_self;have e:flatW (w::ws)=w++(32::flatW ws):=by simp[flatW]
  rw[e,hasW,zha f w _ hw,ih,List.contains_cons];congr 1;have:=zeD f w (flatW ws) hf hw;simp only[List.cons_append,List.isPrefixOf,beq_self_eq_true,Bool.true_and]at this ⊢;exact this
def zeY:List UInt8:=32::flatW wordsL
theorem zfC:zeY.length=270:=by decide +kernel
theorem ziR:∀w∈wordsL,(32:UInt8) ∉ w:=by decide
theorem zjm:∀w∈wordsL,lowL w=true∧w≠[]:=by decide
theorem low_no32{f:List UInt8}(h:lowL f=true):32 ∉ f:=by
 intro h2;unfold lowL at h;rw[qa22]at h;have:=h _ h2;simp at this
theorem isW_of{l:List UInt8}(h:lowL (fold l)=true):hasW (fold l) zeY=isW l:=zfs _ (low_no32 h) _ ziR
theorem isW_low{l:List UInt8}(h:lowL (fold l)=false):isW l=false:=by
 rw[←Bool.not_eq_true];intro h2;unfold isW at h2;rw[List.contains_eq_mem,qa16]at h2;rw[(zjm _ h2).1]at h;cases h
theorem isW_nil{l:List UInt8}(h:l=[]):isW l=false:=by subst h;decide
def atW(W f:List UInt8)(k:Nat):Bool:=W[k]? == some 32 && ((W.drop (k+1)).take f.length==f && W[k+1+f.length]? == some 32)
theorem zhJ(f:List UInt8):∀r:List UInt8,(f++[32]).isPrefixOf r=(r.take f.length==f && r[f.length]? == some 32):=by
 induction f with
 |nil=>
  intro r;cases r with
  |nil=>simp[List.isPrefixOf]
  |cons b r=>
   simp only[qa26,List.isPrefixOf,Bool.and_true,qa25,List.take_zero,beq_self_eq_true,Bool.true_and,qa6];rw[Bool.eq_iff_iff];simp only[beq_iff_eq,qa17];exact eq_comm
 |cons a f ih=>
  intro r;cases r with
  |nil=>simp[List.isPrefixOf]
  |cons b r=>
   simp only[List.cons_append,List.isPrefixOf,ih,qa20,List.take_succ_cons,List.getElem?_cons_succ,List.cons_beq_cons];rw[←Bool.and_assoc];congr 2;rw[Bool.eq_iff_iff];simp only[beq_iff_eq,qa17];exact eq_comm
theorem hasW_at(W f:List UInt8){k:Nat}(h:k<W.length):hasW f (W.drop k)=(atW W f k || hasW f (W.drop (k+1))):=by
 rw[List.drop_eq_getElem_cons h,hasW];congr 1;unfold atW;have h2:=zhJ f (W.drop (k+1));simp only[List.cons_append,List.isPrefixOf,h2,List.getElem?_drop,qa5 h];congr 1;rw[Bool.eq_iff_iff];simp only[beq_iff_eq,qa17];exact eq_comm
theorem zix(f:List UInt8):∀r:List UInt8,r.length<f.length+2→hasW f r=false
 |[],_=>rfl
 |c::r,h=>by
  rw[hasW,zix f r (by simp at h;omega),Bool.or_false,←Bool.not_eq_true];intro h2;have h3:=(List.isPrefixOf_iff_prefix.1 h2).length_le;simp at h3 h;omega
theorem atW_yes{W F:ByteArray}{q:Nat}(h:q+F.size+2≤W.size)(h1:W[q].toNat=32)(h2:(W.extract (q+1) (q+1+F.size)).toList=F.toList)(h3:W[q+1+F.size].toNat=32):atW (ls W) (ls F) q=true:=by
 rw[zas,zas,zaG,qa7]at h2;unfold atW;rw[zeG (by omega),zaj,h2,zeG (by omega),u8_of (n:=32) (by omega) h1,u8_of (n:=32) (by omega) h3];simp
theorem zkW{W F:ByteArray}{q:Nat}(h:q+F.size+2≤W.size)(h1:W[q].toNat≠32∨(W.extract (q+1) (q+1+F.size)).toList≠F.toList∨W[q+1+F.size].toNat≠32):atW (ls W) (ls F) q=false:=by
 rw[zas,zas,zaG,qa7]at h1;rw[←Bool.not_eq_true];intro h2;unfold atW at h2;rw[zeG (by omega),zaj,zeG (by omega)]at h2;simp only[qa21,beq_iff_eq,qa17]at h2;obtain⟨a,b,c⟩:=h2;rcases h1 with h1|h1|h1
 ·exact h1 (by rw[a];rfl)
 ·exact h1 b
 ·exact h1 (by rw[c];rfl)
theorem zit{F:ByteArray}:lowL (ls F)=true↔∀j (h:j<F.size),97≤F[j].toNat∧F[j].toNat≤122:=by
 unfold lowL;rw[qa22];constructor
 ·intro h j hj;have:=h _ (qa8 (zeG hj));simpa using this
 ·intro h c hc;obtain⟨i,hi,rfl⟩:=List.getElem_of_mem hc;have h2:i<F.size:=by rw[zaj]at hi;exact hi
  have:=h i h2;show(decide (97≤F[i].toNat) && decide (F[i].toNat≤122))=true;simpa using this
end Lx
namespace Go.Proofs.YtplflngjpajcmaaGreatDoor
section
open Go.RowKit
attribute [local simp] Lx.zao Lx.zeQ
theorem zjn:(⟨((([32,97,108,108,32,97,110,100,32,97,115,32,97,115,99,32,98,101,116,119,101,101,110,32,98,121,32,99,97,115,101,32,99].append [97,115,116,32,99,111,108,108,97,116,101,32,99,114,101,97,116,101,32,99,114,111,115,115,32,100,101,108,101,116,101,32,100,101]).append ([115,99,32,100,105,115,116,105,110,99,116,32,100,114,111,112,32,101,108,115,101,32,101,110,100,32,101,120,99,101,112,116,32,101].append [120,105,115,116,115,32,102,114,111,109,32,103,114,111,117,112,32,104,97,118,105,110,103,32,105,102,32,105,110,32,105,110,100,101])).append (([120,32,105,110,110,101,114,32,105,110,115,101,114,116,32,105,110,116,101,114,115,101,99,116,32,105,110,116,111,32,105,115,32].append [106,111,105,110,32,108,101,102,116,32,108,105,107,101,32,108,105,109,105,116,32,110,111,116,32,110,117,108,108,32,111,102,102,115]).append ([101,116,32,111,110,32,111,114,32,111,114,100,101,114,32,115,101,108,101,99,116,32,115,101,116,32,116,97,98,108,101,32,116,104].append [101,110,32,117,110,105,111,110,32,117,112,100,97,116,101,32,118,97,108,117,101,115,32,119,104,101,110,32,119,104,101,114,101,32]))).toArray⟩:ByteArray)=Lx.bs Lx.zeY:=by
 have h:(((([32,97,108,108,32,97,110,100,32,97,115,32,97,115,99,32,98,101,116,119,101,101,110,32,98,121,32,99,97,115,101,32,99].append [97,115,116,32,99,111,108,108,97,116,101,32,99,114,101,97,116,101,32,99,114,111,115,115,32,100,101,108,101,116,101,32,100,101]).append ([115,99,32,100,105,115,116,105,110,99,116,32,100,114,111,112,32,101,108,115,101,32,101,110,100,32,101,120,99,101,112,116,32,101].append [120,105,115,116,115,32,102,114,111,109,32,103,114,111,117,112,32,104,97,118,105,110,103,32,105,102,32,105,110,32,105,110,100,101])).append (([120,32,105,110,110,101,114,32,105,110,115,101,114,116,32,105,110,116,101,114,115,101,99,116,32,105,110,116,111,32,105,115,32].append [106,111,105,110,32,108,101,102,116,32,108,105,107,101,32,108,105,109,105,116,32,110,111,116,32,110,117,108,108,32,111,102,102,115]).append ([101,116,32,111,110,32,111,114,32,111,114,100,101,114,32,115,101,108,101,99,116,32,115,101,116,32,116,97,98,108,101,32,116,104].append [101,110,32,117,110,105,111,110,32,117,112,100,97,116,101,32,118,97,108,117,101,115,32,119,104,101,110,32,119,104,101,114,101,32]))):List UInt8)=Lx.zeY:=by decide +kernel
 rw[h];rfl
set_option maxRecDepth 100000 in
set_option maxHeartbeats 1000000 in
theorem zd0(s:ByteArray)(w:World)(hs:s.size≤1000000000):
  Calls Tryz.prog 110 #[.string s] w fun e w'=>e=.returned (.bool (Lx.isW (Lx.ls s)))∧Below w.heap.size w w':=by
 obtain⟨F,hF⟩:∃F,F=Lx.bs (Lx.fold (Lx.ls s)):=⟨_,rfl⟩;have HF:=qa38 hF;have hFl:F.size≤1000000000:=by rw[hF,Lx.zao,Lx.zbm];exact hs
 clear hF;generalize hR:Lx.isW (Lx.ls s)=R;have HR:=qa38 hR;clear hR;obtain⟨W,hW⟩:∃W,W=Lx.bs Lx.zeY:=⟨_,rfl⟩;have hlit:=zjn;rw[←hW]at hlit;have HL:=qa38 hlit;have hWs:W.size=270:=by rw[hW,Lx.zao,Lx.zfC]
 have HW:=qa38 hW;have hW1:W.size≤270:=by omega
 have hW2:270≤W.size:=by omega
 clear hW hWs hlit;go_enter Tryz.func110,Tryz.ntmps110;rw[HL.out];go_wp2_with fail;refine(zaO s _ (by omega)).mono ?_;rintro e w1 ⟨rfl,hb1⟩;rw[←HF.out];go_wp2;go_loop [9] (fun i=>∃k:Nat,k≤F.size∧i=.int .i64 k∧Hid (∀j (h:j<F.size),j<k→97≤F[j].toNat∧F[j].toNat≤122)) (fun i=>F.size-(intOf i).toNat)
 case atStart=>exact⟨0,by omega,rfl,qa38 (fun j _ h=>by omega)⟩
 case round=>
  obtain⟨k,hk,rfl,HK⟩:=hrel;by_cases hlt:k<F.size
  ·by_cases hl:97≤F[k].toNat∧F[k].toNat≤122
   ·obtain⟨l1,l2⟩:=hl;have d1:decide ((F[k].toNat:Int)<97)=false:=qa28 (by omega);have d2:decide (122<(F[k].toNat:Int))=false:=qa28 (by omega);go_wp2;go_round
    case rel=>
     refine⟨k+1,by omega,by go_num,qa38 (fun j h hj=>?_)⟩;by_cases e:j=k
     ·subst e;exact⟨l1,l2⟩
     ·exact HK.out j h (by omega)
    case measure=>simp[intOf];omega
   ·have hf:R=false:=by
     rw[←HR.out];apply Lx.isW_low;rw[←Lx.zaH (Lx.fold (Lx.ls s)),←HF.out,←Bool.not_eq_true,Lx.zit];exact fun h=>hl (h k hlt)
    subst hf;go_wp2;all_goals first
     |(go_ret;exact⟨rfl,hb1⟩)
     |(exfalso;omega)
  ·have HK2:Hid (∀ j (h:j < F.size),97≤F[j].toNat∧F[j].toNat≤122):=fun j h=>HK.out j h (by omega);go_wp2;have hlow:Lx.isW (Lx.ls s)=Lx.hasW (Lx.ls F) (Lx.ls W):=by
    have h1:Lx.ls F=Lx.fold (Lx.ls s):=by rw[HF.out,Lx.zaH]
    have h2:Lx.ls W=Lx.zeY:=by rw[HW.out,Lx.zaH]
    rw[h1,h2,Lx.isW_of];rw[←h1];exact Lx.zit.2 HK2.out
   have HLOW:=qa38 hlow;clear hlow;go_loop [4] (fun i=>∃k:Nat,k≤270∧i=.int .i64 k∧Hid (Lx.hasW (Lx.ls F) ((Lx.ls W).drop k)=R)) (fun i=>270-(intOf i).toNat)
   case atStart=>exact⟨0,by omega,rfl,qa38 (by rw[List.drop_zero,←HLOW.out];exact HR.out)⟩
   case round=>
    obtain⟨q,hq,rfl,HQ⟩:=hrel;by_cases hne:F.toList.isEmpty=true
    ·have hf:R=false:=by
      rw[←HR.out];apply Lx.isW_nil;have h1:Lx.ls F=[]:=by rw[←Lx.zas];simpa using hne
      rw[HF.out,Lx.zaH]at h1;exact qa1 (by rw[←Lx.zbm,h1];rfl)
     subst hf;by_cases hin:q+F.size+2≤270
     ·go_wp2;all_goals first
       |(go_ret;exact⟨rfl,hb1⟩)
       |(exfalso;omega)
     ·go_wp2;all_goals first
       |(go_ret;exact⟨rfl,hb1⟩)
       |(exfalso;omega)
    ·have d2:F.toList.isEmpty=false:=by simpa using hne
     clear hne;by_cases hin:q+F.size+2≤270
     ·have hstep:Lx.hasW (Lx.ls F) ((Lx.ls W).drop q)=(Lx.atW (Lx.ls W) (Lx.ls F) q || Lx.hasW (Lx.ls F) ((Lx.ls W).drop (q+1))):=Lx.hasW_at _ _ (by rw [Lx.zaj];omega);have HS:=qa38 hstep;clear hstep;go_wp2;all_goals (try simp only[bne_iff_ne,bne_eq_false_iff_eq,beq_iff_eq,qa11,ne_eq,qa18,Bool.not_eq_false',Bool.not_eq_true,Bool.not_eq_false]at *)
      ·have h:=Lx.atW_yes (W:=W) (F:=F) (q:=q) (by omega) (by omega) (by assumption) (by omega);have hf:R=true:=by rw[←HQ.out,HS.out,h,Bool.true_or]
       go_ret;exact⟨by rw[hf];rfl,hb1⟩
      ·have h:=Lx.zkW (W:=W) (F:=F) (q:=q) (by omega) (.inr (.inr (by omega)));go_round
       case rel=>exact⟨q+1,by omega,by go_num,qa38 (by rw[←HQ.out,HS.out,h,Bool.false_or])⟩
       case measure=>simp[intOf];omega
      ·have h:=Lx.zkW (W:=W) (F:=F) (q:=q) (by omega) (.inr (.inl (by assumption)));go_round
       case rel=>exact⟨q+1,by omega,by go_num,qa38 (by rw[←HQ.out,HS.out,h,Bool.false_or])⟩
       case measure=>simp[intOf];omega
      ·have h:=Lx.zkW (W:=W) (F:=F) (q:=q) (by omega) (.inl (by omega));go_round
       case rel=>exact⟨q+1,by omega,by go_num,qa38 (by rw[←HQ.out,HS.out,h,Bool.false_or])⟩
       case measure=>simp[intOf];omega
      ·exfalso;omega
     ·have hf:R=false:=by rw [← HQ.out];exact Lx.zix _ _ (by rw [qa24,Lx.zaj,Lx.zaj];omega)
      subst hf;go_wp2;all_goals first
       |(go_ret;exact⟨rfl,hb1⟩)
       |(exfalso;omega)
end
section
open Go.RowKit
theorem zbH:(Tryz.prog.info? 5).map (fun i=>(i.zero,i.size,i.bytes))=some (some (.int .u8 0),1,1):=by kernel_rfl
def optE(r:Option (List UInt8)):Ending:=.returned (.tuple #[.string (Lx.bs (r.getD [])),.bool r.isSome])
def u8s(l:List UInt8):List Value:=l.map fun c=>.int .u8 (c.toNat:Int)
theorem zfE(l:List UInt8)(c:UInt8):u8s (l++[c])=u8s l++[.int .u8 (c.toNat:Int)]:=by simp[u8s]
theorem ziV(s:ByteArray)(w:World)(hs:s.size≤1000000000):
  Calls Tryz.prog 196 #[.string s] w fun e w'=>e=optE (Lx.zaS (Lx.ls s))∧Below w.heap.size w w':=by
 generalize hR:Lx.zaS (Lx.ls s)=R;have HR:=qa38 hR;clear hR;obtain⟨i0,hi,hz0,hz1,hz2⟩:=zhN zbH;go_enter Tryz.func196,Tryz.ntmps196;go_wp2_with (refine wpList_make_own _ rfl _ _ 185 rfl w.heap.size 5 i0 _ 1 Tryz.underlying185 hi hz0 hz1 _ _ _ s.size rfl rfl rfl (by rw[hz2];omega) (by simp only[maxLen];omega) (qa37 _) ?_;intro w1 hown hg);have hb1:Below w.heap.size w w1:=(Below.refl _ _).grown hg (qa37 _) (by simp);go_loopw [4,5] (fun v i wr=>∃(k:Nat)(acc:List UInt8),k≤s.size∧acc.length≤k∧i=.int .i64 k∧wr.ownsRow w.heap.size 5 1 v acc.length (u8s acc)∧Below w.heap.size w wr∧Hid (Lx.onto acc (Lx.zaS (Lx.suf s k))=R)) (fun _ i _=>s.size-(intOf i).toNat)
 case atStart=>exact⟨0,[],by omega,by simp,rfl,hown,hb1,qa38 (by rw[Lx.zim,Lx.zda];exact HR.out)⟩
 case round=>
  obtain⟨k,acc,hk,hak,rfl,hown,hb,HK⟩:=hrel;clear hb1;have q39:(({ data:=#[39] }:ByteArray)[0]'(by decide)).toNat=39:=rfl;by_cases hlt:k<s.size
  ·by_cases h39:s[k].toNat=39
   ·have d1:((s[k].toNat:Int) == 39)=true:=by simp;omega
    by_cases hlt2:k+1<s.size
    ·have d2:((k:Int)+1 == (s.size:Int))=false:=by simp;omega
     have hi1:(0:Int)≤(k:Int)+1:=by omega
     have hi2:(k:Int)+1<(s.size:Int):=by omega
     have hi3:((k:Int)+1).toNat=k+1:=by omega
     by_cases h392:s[k+1].toNat=39
     ·have d3:((s[k+1].toNat:Int) == 39)=true:=by simp;omega
      have d4:((s[k+1].toNat:Int) != 39)=false:=by simp;omega
      have HK':=qa38 (Eq.trans (Lx.zhu hlt2 h39 h392 acc).symm HK.out);have H392:=qa38 h392;have H39:=qa38 h39;clear h39 h392;go_wp2;go_quiet (fail);go_wp2;go_quiet (fail);go_wp2_with (at_builtin;refine wpList_app1 rfl (.tmp 33) (.tmp 37) 185 5 rfl Tryz.underlying185 zbH rfl (by decide) _ _ rfl (by intro u hu;simp at hu;subst hu;rfl) w.heap.size _ _ _ rfl (zg2 hown _) rfl (by simp only[maxLen];omega) (by omega) hb.size w.heap.size (qa37 _) ?_;intro v1 w1 hown1 hb1);go_roundw
      case rel=>exact⟨k+2,acc++[s[k+1]],by omega,by simp;omega,by go_num,by simpa[zfE]using hown1,(zc3 hb _).trans hb1,HK'⟩
      case measure=>simp[intOf];omega
     ·have d3:((s[k+1].toNat:Int) == 39)=false:=by simp;omega
      have d4:((s[k+1].toNat:Int) != 39)=true:=by simp;omega
      have hf:=Lx.ze4 hlt h39 (fun _=>h392) acc;rw[HK.out]at hf;subst hf;have H39:=qa38 h39;clear h39 h392;go_wp2;go_quiet (fail);go_wp2;go_quiet (fail);go_wp2;go_ret2;exact⟨rfl,by exact zw⟩
    ·have d2:((k:Int)+1 == (s.size:Int))=true:=by simp;omega
     have hf:=Lx.ze4 hlt h39 (fun h=>absurd h hlt2) acc;rw[HK.out]at hf;subst hf;have H39:=qa38 h39;clear h39;go_wp2;go_quiet (fail);go_wp2;go_quiet (fail);go_wp2;go_ret2;exact⟨rfl,by exact zw⟩
   ·have d1:((s[k].toNat:Int) == 39)=false:=by simp;omega
    have HK':=qa38 (Eq.trans (Lx.zgF hlt h39 acc).symm HK.out);go_wp2;go_quiet (fail);go_wp2_with (at_builtin;refine wpList_app1 rfl (.tmp 33) (.tmp 37) 185 5 rfl Tryz.underlying185 zbH rfl (by decide) _ _ rfl (by intro u hu;simp at hu;subst hu;rfl) w.heap.size _ _ _ rfl (zg2 hown _) rfl (by simp only[maxLen];omega) (by omega) hb.size w.heap.size (qa37 _) ?_;intro v1 w1 hown1 hb1);go_roundw
    case rel=>exact⟨k+1,acc++[s[k]],by omega,by simp;omega,by go_num,by simpa[zfE]using hown1,(zc3 hb _).trans hb1,HK'⟩
    case measure=>simp[intOf];omega
  ·obtain rfl:k=s.size:=by omega
   have hf:R=some acc:=by rw[←HK.out,Lx.ziU (qa37 _)]
   subst hf;have hback:=ziL (P:=Tryz.prog) Tryz.underlying185 Tryz.underlying5 Tryz.underlying9 hown;go_wp2;go_ret2;exact⟨rfl,hb⟩
end
section
open Go.RowKit
theorem zgd(c:UInt8)(w:World)(x:Nat)(h:Lx.nib c=some x):
  Calls Tryz.prog 228 #[.int .u8 c.toNat] w fun e w'=>e=.returned (.tuple #[.int .u8 (x:Int),.bool true])∧w=w':=
 (zfk c w).mono fun e w' ⟨h1,h3⟩=>⟨by unfold ziP at h1;rw[h1,h];rfl,h3⟩
theorem zio(c:UInt8)(w:World)(h:Lx.nib c=none):
  Calls Tryz.prog 228 #[.int .u8 c.toNat] w fun e w'=>e=.returned (.tuple #[.int .u8 0,.bool false])∧w=w':=
 (zfk c w).mono fun e w' ⟨h1,h3⟩=>⟨by unfold ziP at h1;rw[h1,h];rfl,h3⟩
theorem or_fin:∀x:Fin 16,∀y:Fin 16,bits BinOp.or IntKind.u8 ((x.val:Int)*16) (y.val:Int)=((UInt8.ofNat (16*x.val+y.val)).toNat:Int):=by decide +kernel
theorem or_nib{x y:Nat}(hx:x<16)(hy:y<16):bits BinOp.or IntKind.u8 ((x:Int)*16) (y:Int)=((UInt8.ofNat (16*x+y)).toNat:Int):=or_fin ⟨x,hx⟩ ⟨y,hy⟩
theorem zgz(s:ByteArray)(w:World)(hs:s.size≤1000000000):
  Calls Tryz.prog 198 #[.string s] w fun e w'=>e=optE (Lx.zaX (Lx.ls s))∧Below w.heap.size w w':=by
 generalize hR:Lx.zaX (Lx.ls s)=R;have HR:=qa38 hR;clear hR;obtain⟨i0,hi,hz0,hz1,hz2⟩:=zhN zbH;by_cases hodd:s.size % 2=1
 ·have hf:R=none:=by rw [← HR.out,Lx.zju (Lx.ls s) (by rw [Lx.zaj];exact hodd)]
  subst hf;have d0:((s.size:Int) % 2 != 0)=true:=by simp;omega
  clear hodd;go_enter Tryz.func198,Tryz.ntmps198;go_wp2;go_ret2;exact⟨rfl,by exact zw⟩
 have d0:((s.size:Int) % 2 != 0)=false:=by simp;omega
 go_enter Tryz.func198,Tryz.ntmps198;go_wp2_with (refine wpList_make_own _ rfl _ _ 185 rfl w.heap.size 5 i0 _ 1 Tryz.underlying185 hi hz0 hz1 _ _ _ (s.size / 2) rfl rfl (by omega) (by rw[hz2];omega) (by simp only[maxLen];omega) (qa37 _) ?_;intro w1 hown hg);have hb1:Below w.heap.size w w1:=(Below.refl _ _).grown hg (qa37 _) (by simp);go_loopw [4,5] (fun v i wr=>∃(k:Nat)(acc:List UInt8),k≤s.size∧(s.size-k) % 2=0∧acc.length≤k∧i=.int .i64 k∧wr.ownsRow w.heap.size 5 1 v acc.length (u8s acc)∧Below w.heap.size w wr∧Hid (Lx.onto acc (Lx.zaX (Lx.suf s k))=R)) (fun _ i _=>s.size-(intOf i).toNat)
 case atStart=>exact⟨0,[],by omega,by omega,by simp,rfl,hown,hb1,qa38 (by rw[Lx.zim,Lx.zda];exact HR.out)⟩
 case round=>
  obtain⟨k,acc,hk,hpar,hak,rfl,hown,hb,HK⟩:=hrel;clear hb1;by_cases hlt:k<s.size
  ·have hlt2:k+1 < s.size:=by omega
   cases hx:Lx.nib s[k]with
   |none=>
    have hf:=Lx.zgy hlt2 (.inl hx) acc;rw[HK.out]at hf;subst hf;have HX:=qa38 hx;clear hx;cases hy:Lx.nib s[k+1]with
    |none=>
     have HY:=qa38 hy;clear hy;go_wp2_with fail;refine(zio _ _ HX.out).mono ?_;rintro e w' ⟨rfl,rfl⟩;go_wp2_with fail;refine(zio _ _ HY.out).mono ?_;rintro e w' ⟨rfl,rfl⟩;go_wp2;go_ret2;exact⟨rfl,hb⟩
    |some y=>
     have HY:=qa38 hy;clear hy;go_wp2_with fail;refine(zio _ _ HX.out).mono ?_;rintro e w' ⟨rfl,rfl⟩;go_wp2_with fail;refine(zgd _ _ _ HY.out).mono ?_;rintro e w' ⟨rfl,rfl⟩;go_wp2;go_ret2;exact⟨rfl,hb⟩
   |some x=>
    have HX:=qa38 hx;clear hx;cases hy:Lx.nib s[k+1]with
    |none=>
     have hf:=Lx.zgy hlt2 (.inr hy) acc;rw[HK.out]at hf;subst hf;have HY:=qa38 hy;clear hy;go_wp2_with fail;refine(zgd _ _ _ HX.out).mono ?_;rintro e w' ⟨rfl,rfl⟩;go_wp2_with fail;refine(zio _ _ HY.out).mono ?_;rintro e w' ⟨rfl,rfl⟩;go_wp2;go_ret2;exact⟨rfl,hb⟩
    |some y=>
     have HK':=qa38 (Eq.trans (Lx.unhex_go hlt2 HX.out hy acc).symm HK.out);have hx16:=Lx.nib_lt HX.out;have hy16:=Lx.nib_lt hy;have HY:=qa38 hy;clear hy;go_wp2_with fail;refine(zgd _ _ _ HX.out).mono ?_;rintro e w' ⟨rfl,rfl⟩;go_wp2_with fail;refine(zgd _ _ _ HY.out).mono ?_;rintro e w' ⟨rfl,rfl⟩;have hor:=or_nib hx16 hy16;go_wp2_with (at_builtin;refine wpList_app1 rfl (.tmp 45) (.tmp 50) 185 5 rfl Tryz.underlying185 zbH rfl (by decide) _ _ rfl (by intro u hu;simp at hu;subst hu;rfl) w.heap.size _ _ _ rfl hown rfl (by simp only[maxLen];omega) (by omega) hb.size w.heap.size (qa37 _) ?_;intro v1 w1 hown1 hb1);go_roundw
     case rel=>exact⟨k+2,acc++[UInt8.ofNat (16*x+y)],by omega,by omega,by simp;omega,by go_num,by simpa[zfE]using hown1,hb.trans hb1,HK'⟩
     case measure=>simp[intOf];omega
  ·obtain rfl:k=s.size:=by omega
   have hf:R=some acc:=by rw[←HK.out,Lx.zjv (qa37 _)]
   subst hf;have hback:=ziL (P:=Tryz.prog) Tryz.underlying185 Tryz.underlying5 Tryz.underlying9 hown;go_wp2;go_ret2;exact⟨rfl,hb⟩
end
section
open Go.RowKit
theorem unq_null(s:ByteArray)(w:World)(hs:s.size≤1000000000)(h:Lx.fold (Lx.ls s)=[110,117,108,108]):
  Calls Tryz.prog 161 #[.string s] w fun e w'=>e=valE (Lx.zap (Lx.ls s))∧Below w.heap.size w w':=by
 have hR:Lx.zap (Lx.ls s)=((0,0,[]),0):=by rw[Lx.zap,h];rfl
 rw[hR];have hq:((Lx.bs (Lx.fold (Lx.ls s))).toList==[110,117,108,108])=true:=by rw[Lx.bs_toList,h];rfl
 clear h hR;go_enter Tryz.func161,Tryz.ntmps161;go_wp2_with fail;refine(zaO s _ (by omega)).mono ?_;rintro e w1 ⟨rfl,hb1⟩;have hB1:=zae (w:=w) zw hb1;obtain⟨hc1,hf1⟩:=zaQ hb1;go_wp2;exact bodyPost_ret (v:=.tuple #[.agg #[.int .i64 0,.int .i64 0,.string ⟨#[]⟩],.int .i64 0]) (by simp[results,Tryz.results161,go_sem,hc1]) rfl ⟨rfl,by exact zw⟩
theorem unq_text(s:ByteArray)(w:World)(hs:s.size≤1000000000)(h:Lx.fold (Lx.ls s)≠[110,117,108,108])(h2:(Lx.zat (Lx.ls s)).2=true):
  Calls Tryz.prog 161 #[.string s] w fun e w'=>e=valE (Lx.zap (Lx.ls s))∧Below w.heap.size w w':=by
 have hR:Lx.zap (Lx.ls s)=Lx.mkV 2 (Lx.zaS (Lx.zat (Lx.ls s)).1):=by rw[Lx.zap,if_neg (by simpa using h),if_pos h2]
 rw[hR];have hq:((Lx.bs (Lx.fold (Lx.ls s))).toList==[110,117,108,108])=false:=by rw[Lx.bs_toList];simpa using h
 have H2:=qa38 h2;clear h hR h2;have hl:(Lx.bs (Lx.zat (Lx.ls s)).1).size≤1000000000:=by rw[Lx.zao];exact qa36 (Lx.zeK _) hs
 obtain⟨r,hr⟩:∃r,r=Lx.zaS (Lx.zat (Lx.ls s)).1:=⟨_,rfl⟩;have HR:=qa38 hr;obtain⟨v,hv⟩:∃v,v=Lx.mkV 2 r:=⟨_,rfl⟩;have HV:=qa38 hv;rw[←hr,←hv];clear hr hv;go_enter Tryz.func161,Tryz.ntmps161;go_wp2_with fail;refine(zaO s _ (by omega)).mono ?_;rintro e w1 ⟨rfl,hb1⟩;have hB1:=zae (w:=w) zw hb1;obtain⟨hc1,hf1⟩:=zaQ hb1;go_wp2_with fail;refine(za2 s _ (by omega)).mono ?_;rintro e w' ⟨rfl,rfl⟩;rw[H2.out];go_wp2_with fail;refine(ziV _ _ hl).mono ?_;rintro e w2 ⟨rfl,hb2⟩;rw[Lx.zaH,←HR.out];unfold optE;have hB2:=zae (w:=w) zw hb2;obtain⟨hc2,hf2⟩:=zaQ hb2;go_wp2_with fail;refine(zgf 2 _ _ r (fun t ht=>by rw[Lx.zaH,ht];rfl)).mono ?_;rintro e w3 ⟨rfl,hb3⟩;rw[←HV.out];have hret:valE v=.returned (.tuple #[.agg #[.int .i64 v.1.1,.int .i64 v.1.2.1,.string (Lx.bs v.1.2.2)],.int .i64 v.2]):=rfl;rw[hret];have HRET:=qa38 hret;clear hret;have hB3:=zae (w:=w) zw hb3;obtain⟨hc3,hf3⟩:=zaQ hb3;have K1:=zak (heap_alloc_new w _) hb1;have K3:=zak (zak K1 hb2) hb3;obtain⟨c,f⟩:=zan K3;have c0:=c 0 _ rfl;have c1:=c 1 _ rfl;have c2:=c 2 _ rfl;have f0:=f 0;have f1:=f 1;have f2:=f 2;clear c f hc1 hc2 hc3 hf1 hf2 hf3;go_wp2;exact bodyPost_ret (v:=.tuple #[.agg #[.int .i64 v.1.1,.int .i64 v.1.2.1,.string (Lx.bs v.1.2.2)],.int .i64 v.2]) (by simp[results,Tryz.results161,go_sem,c0,c1,c2]) rfl ⟨rfl,by exact zw⟩
set_option maxHeartbeats 1600000 in
theorem zgx(s:ByteArray)(w:World)(hs:s.size≤1000000000)(h:Lx.fold (Lx.ls s)≠[110,117,108,108])(h2:(Lx.zat (Lx.ls s)).2=false)
  (h3:0<s.size) (h4:Lx.fold ((Lx.ls s).take 1)=[120]) (hb:(Lx.zat (Lx.ls s).tail).2=true):
  Calls Tryz.prog 161 #[.string s] w fun e w'=>e=valE (Lx.zap (Lx.ls s))∧Below w.heap.size w w':=by
 have hne:(Lx.ls s).isEmpty=false:=by rw[Lx.zcx h3];rfl
 have hR:Lx.zap (Lx.ls s)=Lx.mkV 3 (if(Lx.zat (Lx.ls s).tail).2 then Lx.zaX (Lx.zat (Lx.ls s).tail).1 else none):=by
  rw[Lx.zap,if_neg (by simpa using h),if_neg (by simp[h2]),if_pos (by rw[hne,h4];rfl)]
 rw[hR];have hq:((Lx.bs (Lx.fold (Lx.ls s))).toList==[110,117,108,108])=false:=by rw[Lx.bs_toList];simpa using h
 have hq2:s.toList.isEmpty=false:=by rw[Lx.zas];exact hne
 have hq3:((Lx.bs (Lx.fold (Lx.ls (s.extract 0 1)))).toList==[120])=true:=by rw[Lx.bs_toList,Lx.zaG,List.drop_zero];simpa using h4
 have e1:Lx.ls (s.extract 1 s.size)=(Lx.ls s).tail:=by rw[Lx.zb0,Lx.zaH,List.drop_one]
 have z1:(s.extract 1 s.size).size=s.size-1:=Lx.za9 s 1 s.size (qa37 _);have z0:(s.extract 0 1).size=1:=Lx.za9 s 0 1 h3;have hl:(Lx.bs (Lx.zat (Lx.ls s).tail).1).size≤1000000000:=by
  rw[Lx.zao];refine qa36 (Lx.zeK _) ?_;rw[List.length_tail,Lx.zaj];omega
 have H2:=qa38 h2;have E1:=qa38 e1;have Z1:=qa38 z1;have Z0:=qa38 z0;have HL:=qa38 hl;clear h hR h2 hne h4 e1 z1 z0 hl;obtain⟨r,hr⟩:∃r,r=Lx.zaX (Lx.zat (Lx.ls s).tail).1:=⟨_,rfl⟩;have HR:=qa38 hr;rw[←hr];clear hr;rw[hb];have HB:=qa38 hb;clear hb;rw[if_pos rfl];obtain⟨v,hv⟩:∃v,v=Lx.mkV 3 r:=⟨_,rfl⟩;rw[←hv];have HV:=qa38 hv;clear hv;go_enter Tryz.func161,Tryz.ntmps161;go_wp2_with fail;refine(zaO s _ (by omega)).mono ?_;rintro e w1 ⟨rfl,hb1⟩;have hB1:=zae (w:=w) zw hb1;obtain⟨hc1,hf1⟩:=zaQ hb1;go_wp2_with fail;refine(za2 s _ (by omega)).mono ?_;rintro e w' ⟨rfl,rfl⟩;rw[H2.out];go_wp2_with fail;refine(zaO _ _ (by rw[Z0.out];omega)).mono ?_;rintro e w2 ⟨rfl,hb2⟩;have hB2:=zae (w:=w) zw hb2;obtain⟨hc2,hf2⟩:=zaQ hb2;go_wp2_with fail;refine(za2 _ _ (by rw[Z1.out];omega)).mono ?_;rintro e w' ⟨rfl,rfl⟩;rw[E1.out,HB.out];go_wp2_with fail;refine(zgz _ _ HL.out).mono ?_;rintro e w3 ⟨rfl,hb3⟩;rw[Lx.zaH,←HR.out];unfold optE;have hB3:=zae (w:=w) zw hb3;obtain⟨hc3,hf3⟩:=zaQ hb3;go_wp2_with fail;refine(zgf 3 _ _ r (fun t ht=>by rw[Lx.zaH,ht];rfl)).mono ?_;rintro e w4 ⟨rfl,hb4⟩;rw[←HV.out];unfold valE;have hB4:=zae (w:=w) zw hb4;obtain⟨hc4,hf4⟩:=zaQ hb4;have K1:=zak (heap_alloc_new w _) hb1;have K3:=zak (zak (zak K1 hb2) hb3) hb4;obtain⟨c,f⟩:=zan K3;have c0:=c 0 _ rfl;have c1:=c 1 _ rfl;have c2:=c 2 _ rfl;have f0:=f 0;have f1:=f 1;have f2:=f 2;clear c f hc1 hc2 hc3 hf1 hf2 hf3 hc4 hf4;go_wp2;exact bodyPost_ret (v:=.tuple #[.agg #[.int .i64 v.1.1,.int .i64 v.1.2.1,.string (Lx.bs v.1.2.2)],.int .i64 v.2]) (by simp[results,Tryz.results161,go_sem,c0,c1,c2]) rfl ⟨rfl,by exact zw⟩
set_option maxHeartbeats 1600000 in
theorem zfD(s:ByteArray)(w:World)(hs:s.size≤1000000000)(h:Lx.fold (Lx.ls s)≠[110,117,108,108])(h2:(Lx.zat (Lx.ls s)).2=false)
  (h3:0<s.size) (h4:Lx.fold ((Lx.ls s).take 1)=[120]) (hb:(Lx.zat (Lx.ls s).tail).2=false):
  Calls Tryz.prog 161 #[.string s] w fun e w'=>e=valE (Lx.zap (Lx.ls s))∧Below w.heap.size w w':=by
 have hne:(Lx.ls s).isEmpty=false:=by rw[Lx.zcx h3];rfl
 have hR:Lx.zap (Lx.ls s)=Lx.mkV 3 (if(Lx.zat (Lx.ls s).tail).2 then Lx.zaX (Lx.zat (Lx.ls s).tail).1 else none):=by
  rw[Lx.zap,if_neg (by simpa using h),if_neg (by simp[h2]),if_pos (by rw[hne,h4];rfl)]
 rw[hR];have hq:((Lx.bs (Lx.fold (Lx.ls s))).toList==[110,117,108,108])=false:=by rw[Lx.bs_toList];simpa using h
 have hq2:s.toList.isEmpty=false:=by rw[Lx.zas];exact hne
 have hq3:((Lx.bs (Lx.fold (Lx.ls (s.extract 0 1)))).toList==[120])=true:=by rw[Lx.bs_toList,Lx.zaG,List.drop_zero];simpa using h4
 have e1:Lx.ls (s.extract 1 s.size)=(Lx.ls s).tail:=by rw[Lx.zb0,Lx.zaH,List.drop_one]
 have z1:(s.extract 1 s.size).size=s.size-1:=Lx.za9 s 1 s.size (qa37 _);have z0:(s.extract 0 1).size=1:=Lx.za9 s 0 1 h3;have hl:(Lx.bs (Lx.zat (Lx.ls s).tail).1).size≤1000000000:=by
  rw[Lx.zao];refine qa36 (Lx.zeK _) ?_;rw[List.length_tail,Lx.zaj];omega
 have H2:=qa38 h2;have E1:=qa38 e1;have Z1:=qa38 z1;have Z0:=qa38 z0;have HL:=qa38 hl;clear h hR h2 hne h4 e1 z1 z0 hl;obtain⟨r,hr⟩:∃r,r=Lx.zaX (Lx.zat (Lx.ls s).tail).1:=⟨_,rfl⟩;have HR:=qa38 hr;rw[←hr];clear hr;rw[hb];have HB:=qa38 hb;clear hb;rw[if_neg (by decide)];obtain⟨v,hv⟩:∃v,v=Lx.mkV 3 none:=⟨_,rfl⟩;rw[←hv];have HV:=qa38 hv;clear hv;go_enter Tryz.func161,Tryz.ntmps161;go_wp2_with fail;refine(zaO s _ (by omega)).mono ?_;rintro e w1 ⟨rfl,hb1⟩;have hB1:=zae (w:=w) zw hb1;obtain⟨hc1,hf1⟩:=zaQ hb1;go_wp2_with fail;refine(za2 s _ (by omega)).mono ?_;rintro e w' ⟨rfl,rfl⟩;rw[H2.out];go_wp2_with fail;refine(zaO _ _ (by rw[Z0.out];omega)).mono ?_;rintro e w2 ⟨rfl,hb2⟩;have hB2:=zae (w:=w) zw hb2;obtain⟨hc2,hf2⟩:=zaQ hb2;go_wp2_with fail;refine(za2 _ _ (by rw[Z1.out];omega)).mono ?_;rintro e w' ⟨rfl,rfl⟩;rw[E1.out,HB.out];go_wp2_with fail;refine(zgz _ _ HL.out).mono ?_;rintro e w3 ⟨rfl,hb3⟩;rw[Lx.zaH,←HR.out];unfold optE;have hB3:=zae (w:=w) zw hb3;obtain⟨hc3,hf3⟩:=zaQ hb3;go_wp2_with fail;refine(zgf 3 _ _ none (fun t ht=>by cases ht)).mono ?_;rintro e w4 ⟨rfl,hb4⟩;rw[←HV.out];unfold valE;have hB4:=zae (w:=w) zw hb4;obtain⟨hc4,hf4⟩:=zaQ hb4;have K1:=zak (heap_alloc_new w _) hb1;have K3:=zak (zak (zak K1 hb2) hb3) hb4;obtain⟨c,f⟩:=zan K3;have c0:=c 0 _ rfl;have c1:=c 1 _ rfl;have c2:=c 2 _ rfl;have f0:=f 0;have f1:=f 1;have f2:=f 2;clear c f hc1 hc2 hc3 hf1 hf2 hf3 hc4 hf4;go_wp2;exact bodyPost_ret (v:=.tuple #[.agg #[.int .i64 v.1.1,.int .i64 v.1.2.1,.string (Lx.bs v.1.2.2)],.int .i64 v.2]) (by simp[results,Tryz.results161,go_sem,c0,c1,c2]) rfl ⟨rfl,by exact zw⟩
set_option maxHeartbeats 1600000 in
theorem zjs(s:ByteArray)(w:World)(hs:s.size≤1000000000)(h:Lx.fold (Lx.ls s)≠[110,117,108,108])(h2:(Lx.zat (Lx.ls s)).2=false)
  (h0:0<s.size) (h3:¬(0<s.size∧Lx.fold ((Lx.ls s).take 1)=[120])):
  Calls Tryz.prog 161 #[.string s] w fun e w'=>e=valE (Lx.zap (Lx.ls s))∧Below w.heap.size w w':=by
 obtain⟨r,hr⟩:∃r,r=Lx.read (Lx.ls s):=⟨_,rfl⟩;have hR:Lx.zap (Lx.ls s)=if r.2≠0 then((0,0,[]),r.2)else((1,r.1,[]),0):=by
  rw[Lx.zap,if_neg (by simpa using h),if_neg (by simp[h2]),if_neg,hr];by_cases h0:0<s.size
  ·have:Lx.fold ((Lx.ls s).take 1)≠[120]:=fun e=>h3 ⟨h0,e⟩;simpa using fun _=>this
  ·rw[Lx.zfl (by omega)];simp
 rw[hR];obtain⟨v,hv⟩:∃v:(Int×Int×List UInt8)×Int,v=if r.2≠0 then((0,0,[]),r.2)else((1,r.1,[]),0):=⟨_,rfl⟩;rw[←hv];have HV:=qa38 hv;clear hv;have hq:((Lx.bs (Lx.fold (Lx.ls s))).toList==[110,117,108,108])=false:=by rw[Lx.bs_toList];simpa using h
 have H2:=qa38 h2;have HR:=qa38 hr;clear hr hR h2;have hq2:s.toList.isEmpty=false:=by rw[Lx.zas,Lx.zcx h0];rfl
 have hq3:((Lx.bs (Lx.fold (Lx.ls (s.extract 0 1)))).toList==[120])=false:=by
  rw[Lx.bs_toList,Lx.zaG,List.drop_zero];simpa using fun e=>h3 ⟨h0,e⟩
 have z0:(s.extract 0 1).size=1:=Lx.za9 s 0 1 h0;have Z0:=qa38 z0;clear z0;clear h h3;go_enter Tryz.func161,Tryz.ntmps161;go_wp2_with fail;refine(zaO s _ (by omega)).mono ?_;rintro e w1 ⟨rfl,hb1⟩;have hB1:=zae (w:=w) zw hb1;obtain⟨hc1,hf1⟩:=zaQ hb1;have K1:=zak (heap_alloc_new w _) hb1;go_wp2_with fail;refine(za2 s _ (by omega)).mono ?_;rintro e w' ⟨rfl,rfl⟩;rw[H2.out];go_wp2_with fail;refine(zaO _ _ (by rw[Z0.out];omega)).mono ?_;rintro e w2 ⟨rfl,hb2⟩;have hB2:=zae (w:=w) zw hb2;obtain⟨hc2,hf2⟩:=zaQ hb2;have K1:=zak K1 hb2;go_wp2_with fail;refine(zcJ s _ (by omega)).mono ?_;rintro e w3 ⟨rfl,hb3⟩;rw[←HR.out];have hB3:=zae (w:=w) zw hb3;obtain⟨hc3,hf3⟩:=zaQ hb3;have K3:=zak K1 hb3;obtain⟨c,f⟩:=zan K3;have c0:=c 0 _ rfl;have c1:=c 1 _ rfl;have c2:=c 2 _ rfl;have f0:=f 0;have f1:=f 1;have f2:=f 2;clear c f hc1 hc3 hf1 hf3;by_cases he:r.2=0
 ·have d1:(r.2 != 0)=false:=by simp [he]
  have HE:=qa38 he;clear he;go_wp2;exact bodyPost_ret (v:=.tuple #[.agg #[.int .i64 1,.int .i64 r.1,.string ⟨#[]⟩],.int .i64 0]) (by simp[results,Tryz.results161,go_sem,c0,c1,c2]) rfl ⟨by rw[HV.out,if_neg (by simp[HE.out])];rfl,by exact zw⟩
 ·have d1:(r.2 != 0)=true:=by simp [he]
  have HE:=qa38 he;clear he;go_wp2;exact bodyPost_ret (v:=.tuple #[.agg #[.int .i64 0,.int .i64 0,.string ⟨#[]⟩],.int .i64 r.2]) (by simp[results,Tryz.results161,go_sem,c0,c1,c2]) rfl ⟨by rw[HV.out,if_pos HE.out];rfl,by exact zw⟩
set_option maxHeartbeats 1600000 in
theorem zjt(s:ByteArray)(w:World)(hs:s.size≤1000000000)(h:Lx.fold (Lx.ls s)≠[110,117,108,108])(h2:(Lx.zat (Lx.ls s)).2=false)
  (h0:¬0<s.size) (h3:¬(0<s.size∧Lx.fold ((Lx.ls s).take 1)=[120])):
  Calls Tryz.prog 161 #[.string s] w fun e w'=>e=valE (Lx.zap (Lx.ls s))∧Below w.heap.size w w':=by
 obtain⟨r,hr⟩:∃r,r=Lx.read (Lx.ls s):=⟨_,rfl⟩;have hR:Lx.zap (Lx.ls s)=if r.2≠0 then((0,0,[]),r.2)else((1,r.1,[]),0):=by
  rw[Lx.zap,if_neg (by simpa using h),if_neg (by simp[h2]),if_neg,hr];by_cases h0:0<s.size
  ·have:Lx.fold ((Lx.ls s).take 1)≠[120]:=fun e=>h3 ⟨h0,e⟩;simpa using fun _=>this
  ·rw[Lx.zfl (by omega)];simp
 rw[hR];obtain⟨v,hv⟩:∃v:(Int×Int×List UInt8)×Int,v=if r.2≠0 then((0,0,[]),r.2)else((1,r.1,[]),0):=⟨_,rfl⟩;rw[←hv];have HV:=qa38 hv;clear hv;have hq:((Lx.bs (Lx.fold (Lx.ls s))).toList==[110,117,108,108])=false:=by rw[Lx.bs_toList];simpa using h
 have H2:=qa38 h2;have HR:=qa38 hr;clear hr hR h2;have hq2:s.toList.isEmpty=true:=by rw[Lx.zas,Lx.zfl (by omega)];rfl
 clear h h3;go_enter Tryz.func161,Tryz.ntmps161;go_wp2_with fail;refine(zaO s _ (by omega)).mono ?_;rintro e w1 ⟨rfl,hb1⟩;have hB1:=zae (w:=w) zw hb1;obtain⟨hc1,hf1⟩:=zaQ hb1;have K1:=zak (heap_alloc_new w _) hb1;go_wp2_with fail;refine(za2 s _ (by omega)).mono ?_;rintro e w' ⟨rfl,rfl⟩;rw[H2.out];go_wp2_with fail;refine(zcJ s _ (by omega)).mono ?_;rintro e w3 ⟨rfl,hb3⟩;rw[←HR.out];have hB3:=zae (w:=w) zw hb3;obtain⟨hc3,hf3⟩:=zaQ hb3;have K3:=zak K1 hb3;obtain⟨c,f⟩:=zan K3;have c0:=c 0 _ rfl;have c1:=c 1 _ rfl;have c2:=c 2 _ rfl;have f0:=f 0;have f1:=f 1;have f2:=f 2;clear c f hc1 hc3 hf1 hf3;by_cases he:r.2=0
 ·have d1:(r.2 != 0)=false:=by simp [he]
  have HE:=qa38 he;clear he;go_wp2;exact bodyPost_ret (v:=.tuple #[.agg #[.int .i64 1,.int .i64 r.1,.string ⟨#[]⟩],.int .i64 0]) (by simp[results,Tryz.results161,go_sem,c0,c1,c2]) rfl ⟨by rw[HV.out,if_neg (by simp[HE.out])];rfl,by exact zw⟩
 ·have d1:(r.2 != 0)=true:=by simp [he]
  have HE:=qa38 he;clear he;go_wp2;exact bodyPost_ret (v:=.tuple #[.agg #[.int .i64 0,.int .i64 0,.string ⟨#[]⟩],.int .i64 r.2]) (by simp[results,Tryz.results161,go_sem,c0,c1,c2]) rfl ⟨by rw[HV.out,if_pos HE.out];rfl,by exact zw⟩
theorem zeh(s:ByteArray)(w:World)(hs:s.size≤1000000000):
  Calls Tryz.prog 161 #[.string s] w fun e w'=>e=valE (Lx.zap (Lx.ls s))∧Below w.heap.size w w':=by
 by_cases h:Lx.fold (Lx.ls s)=[110,117,108,108]
 ·exact unq_null s w hs h
 ·cases h2:(Lx.zat (Lx.ls s)).2 with
  |true=>exact unq_text s w hs h h2
  |false=>
   by_cases h3:0<s.size∧Lx.fold ((Lx.ls s).take 1)=[120]
   ·cases hb:(Lx.zat (Lx.ls s).tail).2 with
    |true=>exact zgx s w hs h h2 h3.1 h3.2 hb
    |false=>exact zfD s w hs h h2 h3.1 h3.2 hb
   ·by_cases h0:0<s.size
    ·exact zjs s w hs h h2 h0 h3
    ·exact zjt s w hs h h2 h0 h3
end
section
open Go.RowKit
attribute [local simp] Lx.zao
def tokV(t:Lx.T)(k:Int):Value:=.agg #[.int .i64 t.kind,.string (Lx.bs t.text),.int .i64 t.val.1,.int .i64 t.val.2.1,.string (Lx.bs t.val.2.2),.int .i64 k]
def zjx:Value:=.agg #[.int .i64 0,.string ⟨#[]⟩,.int .i64 0,.int .i64 0,.string ⟨#[]⟩,.int .i64 0]
def tokE(r:Lx.TR)(k:Nat):Ending:=.returned (.tuple #[if r.1=0 then tokV r.2.1 k else zjx,.int .i64 ((if r.1=0 then k+r.2.2 else 0:Nat):Int),.int .i64 r.1])
set_option maxHeartbeats 1000000 in
theorem zi6(s:ByteArray)(k n:Nat)(w:World)(hs:s.size≤1000000000)(hn:k+n≤s.size):
  Calls Tryz.prog 106 #[.string s,.int .i64 k,.int .i64 ((k+n:Nat):Int)] w fun e w'=>e=tokE (Lx.valT (Lx.suf s k) n) k∧Below w.heap.size w w':=by
 have hsl:s.extract k (k+n)=Lx.bs ((Lx.suf s k).take n):=by rw[Lx.zax,qa7];rfl
 have hll:(Lx.bs ((Lx.suf s k).take n)).size≤1000000000:=by rw[Lx.zao,qa23,Lx.zag];omega
 have hT:Lx.valT (Lx.suf s k) n=if(Lx.zap ((Lx.suf s k).take n)).2=0 then(0,⟨3,(Lx.suf s k).take n,(Lx.zap ((Lx.suf s k).take n)).1⟩,n)else Lx.bad (Lx.zap ((Lx.suf s k).take n)).2:=rfl;rw[hT];obtain⟨t,ht⟩:∃t,t=(Lx.suf s k).take n:=⟨_,rfl⟩;rw[←ht]at hsl hll ⊢;obtain⟨v,hv⟩:∃v,v=Lx.zap t:=⟨_,rfl⟩;rw[←hv];have HV:=qa38 hv;have HS:=qa38 hsl;have HL:=qa38 hll;clear hv hsl hll ht hT;have i1:((k+n:Nat):Int).toNat=k+n:=by omega
 obtain⟨m,hm⟩:∃m,m=k+n:=⟨_,rfl⟩;rw[←hm]at i1 hn HS ⊢;have hm1:k≤m:=by omega
 have HM:=qa38 hm;clear hm i1;by_cases he:v.2=0
 ·have d1:(v.2 != 0)=false:=by simp [he]
  have HE:=qa38 he;rw[if_pos he];clear he;go_enter Tryz.func106,Tryz.ntmps106;go_wp2_with fail;rw[HS.out];refine(zeh _ _ HL.out).mono ?_;rintro e w1 ⟨rfl,hb1⟩;rw[Lx.zaH,←HV.out];unfold valE;have hB1:=zae (w:=w) zw hb1;obtain⟨hc1,hf1⟩:=zaQ hb1;have K1:=zak (heap_alloc_new w _) hb1;go_wp2;have K2:=zhh K1 (.cells #[.int .i64 v.1.1,.int .i64 v.1.2.1,.string (Lx.bs v.1.2.2)] 46);have K3:=heap_alloc_new w1 (.cells #[.int .i64 v.1.1,.int .i64 v.1.2.1,.string (Lx.bs v.1.2.2)] 46);have hb2:Below w.heap.size w (w1.alloc (.cells #[.int .i64 v.1.1,.int .i64 v.1.2.1,.string (Lx.bs v.1.2.2)] 46)):=by exact zw
  have hs0:=HS.out;obtain⟨B2,hB2⟩:∃B,B=w1.heap.size:=⟨_,rfl⟩;have hlt:=ziK K1;rw[←hB2]at K3 hlt ⊢;generalize hw2:w1.alloc (.cells #[.int .i64 v.1.1,.int .i64 v.1.2.1,.string (Lx.bs v.1.2.2)] 46)=w2 at K2 K3 hb2 ⊢;have K1:=K2;have K1':=K2;obtain⟨c,f⟩:=zan K1;have c0:=c 0 _ rfl;have c1:=c 1 _ rfl;have c2:=c 2 _ rfl;have c3:=c 3 _ rfl;have c4:=c 4 _ rfl;have c5:=c 5 _ rfl;have f0:=f 0;have f1:=f 1;have f2:=f 2;have f3:=f 3;have f4:=f 4;have f5:=f 5;clear c f;obtain⟨c',f'⟩:=zan K3;have v0:=c' 0 _ rfl;have v1:=c' 1 _ rfl;have v2:=c' 2 _ rfl;clear c' f' hc1 hf1 hB2 hw2 K1 K2 K3 hb1 hB1;go_region;go_wp2;refine zah (B:=w.heap.size) Tryz.results106 Tryz.underlying59 (by kernel_rfl) rfl (blk_drew (zaZ K1' _ _ _ _ _ _)) rfl ⟨?_,by exact zw⟩;simp[tokE,tokV,HM.out]
 ·have d1:(v.2 != 0)=true:=by simp [he]
  have HE:=qa38 he;rw[if_neg he];clear he;go_enter Tryz.func106,Tryz.ntmps106;go_wp2_with fail;rw[HS.out];refine(zeh _ _ HL.out).mono ?_;rintro e w1 ⟨rfl,hb1⟩;rw[Lx.zaH,←HV.out];unfold valE;have hB1:=zae (w:=w) zw hb1;obtain⟨hc1,hf1⟩:=zaQ hb1;have K1:=zak (heap_alloc_new w _) hb1;go_upto_region 3 with fail;have K2:=zhh K1 (.cells #[.int .i64 v.1.1,.int .i64 v.1.2.1,.string (Lx.bs v.1.2.2)] 46);have K3:=heap_alloc_new w1 (.cells #[.int .i64 v.1.1,.int .i64 v.1.2.1,.string (Lx.bs v.1.2.2)] 46);have hb2:Below w.heap.size w (w1.alloc (.cells #[.int .i64 v.1.1,.int .i64 v.1.2.1,.string (Lx.bs v.1.2.2)] 46)):=by exact zw
  have hs0:=HS.out;obtain⟨B2,hB2⟩:∃B,B=w1.heap.size:=⟨_,rfl⟩;have hlt:=ziK K1;rw[←hB2]at K3 hlt ⊢;generalize hw2:w1.alloc (.cells #[.int .i64 v.1.1,.int .i64 v.1.2.1,.string (Lx.bs v.1.2.2)] 46)=w2 at K2 K3 hb2 ⊢;have K1:=K2;have K1':=K2;obtain⟨c,f⟩:=zan K1;have c0:=c 0 _ rfl;have c1:=c 1 _ rfl;have c2:=c 2 _ rfl;have c3:=c 3 _ rfl;have c4:=c 4 _ rfl;have c5:=c 5 _ rfl;have f0:=f 0;have f1:=f 1;have f2:=f 2;have f3:=f 3;have f4:=f 4;have f5:=f 5;clear c f;obtain⟨c',f'⟩:=zan K3;have v0:=c' 0 _ rfl;have v1:=c' 1 _ rfl;have v2:=c' 2 _ rfl;clear c' f' hc1 hf1 hB2 hw2 K1 K2 K3 hb1 hB1;go_wp2;refine zah (B:=w.heap.size) Tryz.results106 Tryz.underlying59 (by kernel_rfl) rfl (zaZ K1' _ _ _ _ _ _) rfl ⟨?_,by exact zw⟩;simp[tokE,zjx,Lx.bad,HE.out]
end
section
open Go.RowKit
attribute [local simp] Lx.zao
theorem zbA{r:Lx.TR}{k:Nat}(h:r.1=0):tokE r k=.returned (.tuple #[.agg #[.int .i64 r.2.1.kind,.string (Lx.bs r.2.1.text),.int .i64 r.2.1.val.1,.int .i64 r.2.1.val.2.1,.string (Lx.bs r.2.1.val.2.2),.int .i64 k],.int .i64 ((k+r.2.2:Nat):Int),.int .i64 0]):=by
 simp[tokE,tokV,h]
theorem zaM{r:Lx.TR}{k:Nat}(h:r.1≠0):tokE r k=.returned (.tuple #[.agg #[.int .i64 0,.string ⟨#[]⟩,.int .i64 0,.int .i64 0,.string ⟨#[]⟩,.int .i64 0],.int .i64 0,.int .i64 r.1]):=by
 simp[tokE,zjx,h]
theorem zdl(s:ByteArray)(k n:Nat)(x:Int)(w:World)(hs:s.size≤1000000000)(hn:k+n≤s.size)(hx:x=((k+n:Nat):Int)):
  Calls Tryz.prog 106 #[.string s,.int .i64 k,.int .i64 x] w fun e w'=>e=tokE (Lx.valT (Lx.suf s k) n) k∧Below w.heap.size w w':=by
 subst hx;exact zi6 s k n w hs hn
set_option maxHeartbeats 1000000 in
theorem zem(s:ByteArray)(k:Nat)(w:World)(hs:s.size≤1000000000)(hk:k<s.size)(hl:Lx.let_ s[k]=true)(hb:Lx.zbc (Lx.suf s k)=true)(hm:s.size≤k+2+Lx.many Lx.noq (Lx.suf s (k+2))):
  Calls Tryz.prog 50 #[.string s,.int .i64 k] w fun e w'=>e=tokE (Lx.tok (Lx.suf s k)) k∧Below w.heap.size w w':=by
 have hT:Lx.tok (Lx.suf s k)=Lx.bad 8:=by
  have hd:(Lx.suf s k).drop 2=Lx.suf s (k+2):=by rw[Lx.za6,Lx.za6,qa31]
  have hb':=hb;rw[Lx.zad hk]at hb' hd ⊢;rw[Lx.tok];simp only[hl,qa39,hb',hd];rw[Lx.bEnd,Lx.zag];rw[if_neg (by omega)];rfl
 rw[hT];have HLET:=qa38 hl;have HB:=qa38 hb;obtain⟨m,hm2⟩:∃m,m=Lx.many Lx.noq (Lx.suf s (k+2)):=⟨_,rfl⟩;rw[←hm2]at hm;have HM:=qa38 hm2;have d1:decide ((s.size:Int)<(((k+2+m+1:Nat)):Int))=true:=qa30 (by omega);have hmx:=Lx.za1 Lx.noq (Lx.suf s (k+2));rw[←hm2,Lx.zag]at hmx;clear hl hb hT hm2;go_enter Tryz.func50,Tryz.ntmps50;go_wp2_with fail;refine(zal _ _).mono ?_;rintro e w' ⟨rfl,rfl⟩;rw[HLET.out];go_wp2_with fail;refine(zcP s k _ hs hk).mono ?_;rintro e w' ⟨rfl,rfl⟩;rw[HB.out,if_pos rfl,←HM.out];unfold endE;go_wp2;refine zah (B:=w.heap.size) Tryz.results50 Tryz.underlying59 (by kernel_rfl) rfl (heap_alloc_new w _) rfl ⟨?_,by exact zw⟩;rw[zaM (by decide)];rfl
set_option maxHeartbeats 1000000 in
theorem zfH(s:ByteArray)(k:Nat)(w:World)(hs:s.size≤1000000000)(hk:k<s.size)(hl:Lx.let_ s[k]=true)(hb:Lx.zbc (Lx.suf s k)=true)(n:Nat)(hm:n=2+Lx.many Lx.noq (Lx.suf s (k+2))+1)(hn:k+n≤s.size)(he:(Lx.valT (Lx.suf s k) n).1=0):
  Calls Tryz.prog 50 #[.string s,.int .i64 k] w fun e w'=>e=tokE (Lx.tok (Lx.suf s k)) k∧Below w.heap.size w w':=by
 have hT:Lx.tok (Lx.suf s k)=Lx.valT (Lx.suf s k) n:=by
  have hd:(Lx.suf s k).drop 2=Lx.suf s (k+2):=by rw[Lx.za6,Lx.za6,qa31]
  have hb':=hb;rw[Lx.zad hk]at hb' hd ⊢;rw[Lx.tok];simp only[hl,qa39,hb',hd];rw[Lx.bEnd,Lx.zag];rw[if_pos (by omega),Option.map_some,Lx.optV];congr 1;omega
 rw[hT];obtain⟨r,hr⟩:∃r,r=Lx.valT (Lx.suf s k) n:=⟨_,rfl⟩;rw[←hr];have HR:=qa38 hr;rw[←hr]at he;have HE:=qa38 he;clear hr he;have HLET:=qa38 hl;have HB:=qa38 hb;obtain⟨m,hm2⟩:∃m,m=Lx.many Lx.noq (Lx.suf s (k+2)):=⟨_,rfl⟩;rw[←hm2]at hm;have HM:=qa38 hm2;have hm3:n≤2+m+1:=by omega
 have hm4:2+m+1≤n:=by omega
 clear hl hb hT hm2 hm;go_enter Tryz.func50,Tryz.ntmps50;go_wp2_with fail;refine(zal _ _).mono ?_;rintro e w' ⟨rfl,rfl⟩;rw[HLET.out];go_wp2_with fail;refine(zcP s k _ hs hk).mono ?_;rintro e w' ⟨rfl,rfl⟩;rw[HB.out,if_pos rfl,←HM.out];unfold endE;go_wp2_with fail;refine(zdl s k n _ _ hs (by omega) (by omega)).mono ?_;rintro e w1 ⟨he,hb1⟩;rw[←HR.out,zbA HE.out]at he;subst he;have hB1:=zae (w:=w) zw hb1;obtain⟨hc1,hf1⟩:=zaQ hb1;have K0:=zak (heap_alloc_new w _) hb1;have K1:=K0;have K1':=K1;obtain⟨c,f⟩:=zan K1;have c0:=c 0 _ rfl;have c1:=c 1 _ rfl;have c2:=c 2 _ rfl;have c3:=c 3 _ rfl;have c4:=c 4 _ rfl;have c5:=c 5 _ rfl;have f0:=f 0;have f1:=f 1;have f2:=f 2;have f3:=f 3;have f4:=f 4;have f5:=f 5;clear c f;clear K1;clear hc1 hf1;go_wp2;refine zah (B:=w.heap.size) Tryz.results50 Tryz.underlying59 (by kernel_rfl) rfl (zaZ K1' _ _ _ _ _ _) rfl ⟨?_,by exact zw⟩;rw[zbA HE.out];rfl
set_option maxHeartbeats 1000000 in
theorem zeV(s:ByteArray)(k:Nat)(w:World)(hs:s.size≤1000000000)(hk:k<s.size)(hl:Lx.let_ s[k]=true)(hb:Lx.zbc (Lx.suf s k)=true)(n:Nat)(hm:n=2+Lx.many Lx.noq (Lx.suf s (k+2))+1)(hn:k+n≤s.size)(he:(Lx.valT (Lx.suf s k) n).1≠0):
  Calls Tryz.prog 50 #[.string s,.int .i64 k] w fun e w'=>e=tokE (Lx.tok (Lx.suf s k)) k∧Below w.heap.size w w':=by
 have hT:Lx.tok (Lx.suf s k)=Lx.valT (Lx.suf s k) n:=by
  have hd:(Lx.suf s k).drop 2=Lx.suf s (k+2):=by rw[Lx.za6,Lx.za6,qa31]
  have hb':=hb;rw[Lx.zad hk]at hb' hd ⊢;rw[Lx.tok];simp only[hl,qa39,hb',hd];rw[Lx.bEnd,Lx.zag];rw[if_pos (by omega),Option.map_some,Lx.optV];congr 1;omega
 rw[hT];obtain⟨r,hr⟩:∃r,r=Lx.valT (Lx.suf s k) n:=⟨_,rfl⟩;rw[←hr];have HR:=qa38 hr;rw[←hr]at he;have HE:=qa38 he;clear hr he;have HLET:=qa38 hl;have HB:=qa38 hb;obtain⟨m,hm2⟩:∃m,m=Lx.many Lx.noq (Lx.suf s (k+2)):=⟨_,rfl⟩;rw[←hm2]at hm;have HM:=qa38 hm2;have hm3:n≤2+m+1:=by omega
 have hm4:2+m+1≤n:=by omega
 clear hl hb hT hm2 hm;go_enter Tryz.func50,Tryz.ntmps50;go_wp2_with fail;refine(zal _ _).mono ?_;rintro e w' ⟨rfl,rfl⟩;rw[HLET.out];go_wp2_with fail;refine(zcP s k _ hs hk).mono ?_;rintro e w' ⟨rfl,rfl⟩;rw[HB.out,if_pos rfl,←HM.out];unfold endE;go_wp2_with fail;refine(zdl s k n _ _ hs (by omega) (by omega)).mono ?_;rintro e w1 ⟨he,hb1⟩;rw[←HR.out,zaM HE.out]at he;subst he;have hB1:=zae (w:=w) zw hb1;obtain⟨hc1,hf1⟩:=zaQ hb1;have K0:=zak (heap_alloc_new w _) hb1;have K1:=K0;have K1':=K1;obtain⟨c,f⟩:=zan K1;have c0:=c 0 _ rfl;have c1:=c 1 _ rfl;have c2:=c 2 _ rfl;have c3:=c 3 _ rfl;have c4:=c 4 _ rfl;have c5:=c 5 _ rfl;have f0:=f 0;have f1:=f 1;have f2:=f 2;have f3:=f 3;have f4:=f 4;have f5:=f 5;clear c f;clear K1;clear hc1 hf1;go_wp2;refine zah (B:=w.heap.size) Tryz.results50 Tryz.underlying59 (by kernel_rfl) rfl (zaZ K1' _ _ _ _ _ _) rfl ⟨?_,by exact zw⟩;rw[zaM HE.out];rfl
set_option maxHeartbeats 1000000 in
theorem zei(s:ByteArray)(k:Nat)(w:World)(hs:s.size≤1000000000)(hk:k<s.size)(hl:Lx.let_ s[k]=true)(hb:Lx.zbc (Lx.suf s k)=false)(hw:Lx.isW ((Lx.suf s k).take (Lx.many Lx.nam (Lx.suf s k)))=true):
  Calls Tryz.prog 50 #[.string s,.int .i64 k] w fun e w'=>e=tokE (Lx.tok (Lx.suf s k)) k∧Below w.heap.size w w':=by
 have hT:Lx.tok (Lx.suf s k)=Lx.zg5 (Lx.suf s k) (Lx.many Lx.nam (Lx.suf s k)):=by
  have hb':=hb;rw[Lx.zad hk]at hb' ⊢;rw[Lx.tok];simp only[hl,qa39,hb',qb0]
 rw[hT,Lx.zg5];have hml:=Lx.za1 Lx.nam (Lx.suf s k);rw[Lx.zag]at hml;obtain⟨n,hn0⟩:∃n,n=Lx.many Lx.nam (Lx.suf s k):=⟨_,rfl⟩;rw[←hn0]at hw hml ⊢;obtain⟨m,hm⟩:∃m,m=k+n:=⟨_,rfl⟩;have HM:Hid (m=k+Lx.many Lx.nam (Lx.suf s k)):=by unfold Hid;rw[hm,hn0]
 have HM2:=qa38 hm;have hm1:k≤m:=by omega
 have hm2:m≤s.size:=by omega
 have hsl:s.extract k m=Lx.bs ((Lx.suf s k).take n):=by rw[Lx.zax,hm,qa7];rfl
 have htl:((Lx.suf s k).take n).length=n:=by rw[qa23,Lx.zag];omega
 obtain⟨t,ht⟩:∃t,t=(Lx.suf s k).take n:=⟨_,rfl⟩;rw[←ht]at hsl htl hw ⊢;have hst:(Lx.bs t).size≤1000000000:=by rw[Lx.zao,htl];omega
 have HS:=qa38 hsl;have HST:=qa38 hst;have HW:=qa38 hw;have HLET:=qa38 hl;have HB:=qa38 hb;rw[if_pos hw];clear hl hb hT hn0 hm hsl htl hst hw ht hml;go_enter Tryz.func50,Tryz.ntmps50;go_wp2_with fail;refine(zal _ _).mono ?_;rintro e w' ⟨rfl,rfl⟩;rw[HLET.out];go_wp2_with fail;refine(zcP s k _ hs hk).mono ?_;rintro e w' ⟨rfl,rfl⟩;rw[HB.out,if_neg (by decide)];unfold endE;go_wp2_with fail;refine(zck 108 Lx.nam (by intro args w;go_simp) nam_any s k _ (by omega) (by omega)).mono ?_;rintro e w' ⟨rfl,rfl⟩;rw[←HM.out];go_wp2_with fail;rw[HS.out];refine(zd0 _ _ HST.out).mono ?_;rintro e w1 ⟨rfl,hb1⟩;rw[Lx.zaH,HW.out];have hB1:=zae (w:=w) zw hb1;obtain⟨hc1,hf1⟩:=zaQ hb1;have K0:=zak (heap_alloc_new w _) hb1;go_wp2_with fail;refine(zaO _ _ (by have:=HST.out;omega)).mono ?_;rintro e w2 ⟨rfl,hb2⟩;rw[Lx.zaH];have hB2:=zae (w:=w) zw hb2;obtain⟨hc2,hf2⟩:=zaQ hb2;have K0:=zak K0 hb2;clear hc2 hf2;have K1:=K0;have K1':=K1;obtain⟨c,f⟩:=zan K1;have c0:=c 0 _ rfl;have c1:=c 1 _ rfl;have c2:=c 2 _ rfl;have c3:=c 3 _ rfl;have c4:=c 4 _ rfl;have c5:=c 5 _ rfl;have f0:=f 0;have f1:=f 1;have f2:=f 2;have f3:=f 3;have f4:=f 4;have f5:=f 5;clear c f;clear K1;clear hc1 hf1;go_wp2;refine zah (B:=w.heap.size) Tryz.results50 Tryz.underlying59 (by kernel_rfl) rfl (zaZ K1' _ _ _ _ _ _) rfl ⟨?_,by exact zw⟩;rw[zbA rfl,HM2.out];rfl
set_option maxHeartbeats 1000000 in
theorem zej(s:ByteArray)(k:Nat)(w:World)(hs:s.size≤1000000000)(hk:k<s.size)(hl:Lx.let_ s[k]=true)(hb:Lx.zbc (Lx.suf s k)=false)(hw:Lx.isW ((Lx.suf s k).take (Lx.many Lx.nam (Lx.suf s k)))=false)(hn:32<Lx.many Lx.nam (Lx.suf s k)):
  Calls Tryz.prog 50 #[.string s,.int .i64 k] w fun e w'=>e=tokE (Lx.tok (Lx.suf s k)) k∧Below w.heap.size w w':=by
 have hT:Lx.tok (Lx.suf s k)=Lx.zg5 (Lx.suf s k) (Lx.many Lx.nam (Lx.suf s k)):=by
  have hb':=hb;rw[Lx.zad hk]at hb' ⊢;rw[Lx.tok];simp only[hl,qa39,hb',qb0]
 rw[hT,Lx.zg5];have hml:=Lx.za1 Lx.nam (Lx.suf s k);rw[Lx.zag]at hml;obtain⟨n,hn0⟩:∃n,n=Lx.many Lx.nam (Lx.suf s k):=⟨_,rfl⟩;rw[←hn0]at hw hml ⊢;rw[←hn0]at hn;obtain⟨m,hm⟩:∃m,m=k+n:=⟨_,rfl⟩;have HM:Hid (m=k+Lx.many Lx.nam (Lx.suf s k)):=by unfold Hid;rw[hm,hn0]
 have HM2:=qa38 hm;have hm1:k≤m:=by omega
 have hm2:m≤s.size:=by omega
 have hsl:s.extract k m=Lx.bs ((Lx.suf s k).take n):=by rw[Lx.zax,hm,qa7];rfl
 have htl:((Lx.suf s k).take n).length=n:=by rw[qa23,Lx.zag];omega
 obtain⟨t,ht⟩:∃t,t=(Lx.suf s k).take n:=⟨_,rfl⟩;rw[←ht]at hsl htl hw ⊢;have hst:(Lx.bs t).size≤1000000000:=by rw[Lx.zao,htl];omega
 have HS:=qa38 hsl;have HST:=qa38 hst;have HW:=qa38 hw;have HLET:=qa38 hl;have HB:=qa38 hb;rw[if_neg (by rw[hw];decide),if_pos hn];have d1:decide (32<(t.length:Int))=true:=qa30 (by omega);clear hl hb hT hn0 hm hsl htl hst hw ht hml hn;go_enter Tryz.func50,Tryz.ntmps50;go_wp2_with fail;refine(zal _ _).mono ?_;rintro e w' ⟨rfl,rfl⟩;rw[HLET.out];go_wp2_with fail;refine(zcP s k _ hs hk).mono ?_;rintro e w' ⟨rfl,rfl⟩;rw[HB.out,if_neg (by decide)];unfold endE;go_wp2_with fail;refine(zck 108 Lx.nam (by intro args w;go_simp) nam_any s k _ (by omega) (by omega)).mono ?_;rintro e w' ⟨rfl,rfl⟩;rw[←HM.out];go_wp2_with fail;rw[HS.out];refine(zd0 _ _ HST.out).mono ?_;rintro e w1 ⟨rfl,hb1⟩;rw[Lx.zaH,HW.out];have hB1:=zae (w:=w) zw hb1;obtain⟨hc1,hf1⟩:=zaQ hb1;have K0:=zak (heap_alloc_new w _) hb1;have K1:=K0;have K1':=K1;obtain⟨c,f⟩:=zan K1;have c0:=c 0 _ rfl;have c1:=c 1 _ rfl;have c2:=c 2 _ rfl;have c3:=c 3 _ rfl;have c4:=c 4 _ rfl;have c5:=c 5 _ rfl;have f0:=f 0;have f1:=f 1;have f2:=f 2;have f3:=f 3;have f4:=f 4;have f5:=f 5;clear c f;clear K1;clear hc1 hf1;go_wp2;refine zah (B:=w.heap.size) Tryz.results50 Tryz.underlying59 (by kernel_rfl) rfl (zaZ K1' _ _ _ _ _ _) rfl ⟨?_,by exact zw⟩;rw[zaM (by decide)];rfl
set_option maxHeartbeats 1000000 in
theorem zdU(s:ByteArray)(k:Nat)(w:World)(hs:s.size≤1000000000)(hk:k<s.size)(hl:Lx.let_ s[k]=true)(hb:Lx.zbc (Lx.suf s k)=false)(hw:Lx.isW ((Lx.suf s k).take (Lx.many Lx.nam (Lx.suf s k)))=false)(hn:¬32<Lx.many Lx.nam (Lx.suf s k)):
  Calls Tryz.prog 50 #[.string s,.int .i64 k] w fun e w'=>e=tokE (Lx.tok (Lx.suf s k)) k∧Below w.heap.size w w':=by
 have hT:Lx.tok (Lx.suf s k)=Lx.zg5 (Lx.suf s k) (Lx.many Lx.nam (Lx.suf s k)):=by
  have hb':=hb;rw[Lx.zad hk]at hb' ⊢;rw[Lx.tok];simp only[hl,qa39,hb',qb0]
 rw[hT,Lx.zg5];have hml:=Lx.za1 Lx.nam (Lx.suf s k);rw[Lx.zag]at hml;obtain⟨n,hn0⟩:∃n,n=Lx.many Lx.nam (Lx.suf s k):=⟨_,rfl⟩;rw[←hn0]at hw hml ⊢;rw[←hn0]at hn;obtain⟨m,hm⟩:∃m,m=k+n:=⟨_,rfl⟩;have HM:Hid (m=k+Lx.many Lx.nam (Lx.suf s k)):=by unfold Hid;rw[hm,hn0]
 have HM2:=qa38 hm;have hm1:k≤m:=by omega
 have hm2:m≤s.size:=by omega
 have hsl:s.extract k m=Lx.bs ((Lx.suf s k).take n):=by rw[Lx.zax,hm,qa7];rfl
 have htl:((Lx.suf s k).take n).length=n:=by rw[qa23,Lx.zag];omega
 obtain⟨t,ht⟩:∃t,t=(Lx.suf s k).take n:=⟨_,rfl⟩;rw[←ht]at hsl htl hw ⊢;have hst:(Lx.bs t).size≤1000000000:=by rw[Lx.zao,htl];omega
 have HS:=qa38 hsl;have HST:=qa38 hst;have HW:=qa38 hw;have HLET:=qa38 hl;have HB:=qa38 hb;rw[if_neg (by rw[hw];decide),if_neg hn];have d1:decide (32<(t.length:Int))=false:=qa28 (by omega);clear hl hb hT hn0 hm hsl htl hst hw ht hml hn;go_enter Tryz.func50,Tryz.ntmps50;go_wp2_with fail;refine(zal _ _).mono ?_;rintro e w' ⟨rfl,rfl⟩;rw[HLET.out];go_wp2_with fail;refine(zcP s k _ hs hk).mono ?_;rintro e w' ⟨rfl,rfl⟩;rw[HB.out,if_neg (by decide)];unfold endE;go_wp2_with fail;refine(zck 108 Lx.nam (by intro args w;go_simp) nam_any s k _ (by omega) (by omega)).mono ?_;rintro e w' ⟨rfl,rfl⟩;rw[←HM.out];go_wp2_with fail;rw[HS.out];refine(zd0 _ _ HST.out).mono ?_;rintro e w1 ⟨rfl,hb1⟩;rw[Lx.zaH,HW.out];have hB1:=zae (w:=w) zw hb1;obtain⟨hc1,hf1⟩:=zaQ hb1;have K0:=zak (heap_alloc_new w _) hb1;have K1:=K0;have K1':=K1;obtain⟨c,f⟩:=zan K1;have c0:=c 0 _ rfl;have c1:=c 1 _ rfl;have c2:=c 2 _ rfl;have c3:=c 3 _ rfl;have c4:=c 4 _ rfl;have c5:=c 5 _ rfl;have f0:=f 0;have f1:=f 1;have f2:=f 2;have f3:=f 3;have f4:=f 4;have f5:=f 5;clear c f;clear K1;clear hc1 hf1;go_wp2;refine zah (B:=w.heap.size) Tryz.results50 Tryz.underlying59 (by kernel_rfl) rfl (zaZ K1' _ _ _ _ _ _) rfl ⟨?_,by exact zw⟩;rw[zbA rfl,HM2.out];rfl
end
section
open Go.RowKit
attribute [local simp] Lx.zao
set_option maxHeartbeats 1000000 in
theorem zdT(s:ByteArray)(k:Nat)(w:World)(hs:s.size≤1000000000)(hk:k<s.size)(hl:Lx.let_ s[k]=false)(hdg:Lx.dig s[k]=true)(n:Nat)(hn0:n=Lx.many Lx.dig (Lx.suf s k))(he:k+n<s.size)(hle:Lx.let_ s[k+n]=true):
  Calls Tryz.prog 50 #[.string s,.int .i64 k] w fun e w'=>e=tokE (Lx.tok (Lx.suf s k)) k∧Below w.heap.size w w':=by
 have hT:Lx.tok (Lx.suf s k)=Lx.numT (Lx.suf s k) n:=by
  rw[hn0,Lx.zad hk,Lx.tok];simp only[hl,hdg,qa12,qa39,if_false]
 have hd:(Lx.suf s k).drop n=Lx.suf s (k+n):=by rw[Lx.za6,Lx.za6,qa31]
 have hh:(Lx.suf s (k+n)).head?.any Lx.let_=true:=by rw[Lx.zad he];exact hle
 rw[hT,Lx.numT,hd,hh];rw[if_pos rfl];have hml:=Lx.za1 Lx.dig (Lx.suf s k);rw[Lx.zag,←hn0]at hml;obtain⟨m,hm⟩:∃m,m=k+n:=⟨_,rfl⟩;have HM:Hid (m=k+Lx.many Lx.dig (Lx.suf s k)):=by unfold Hid;rw[hm,hn0]
 have HM2:=qa38 hm;have hm1:k≤m:=by omega
 have hm2:m≤s.size:=by omega
 have hlt:m<s.size:=by omega
 have hle':Lx.let_ s[m]=true:=by subst hm;exact hle
 have HLE:=qa38 hle';have d1:decide ((m:Int)<(s.size:Int))=true:=qa30 (by omega);have HLET:=qa38 hl;have HDIG:=qa38 hdg;clear hl hdg hT hd hh hm hn0 hml he hle hle';go_enter Tryz.func50,Tryz.ntmps50;go_wp2_with fail;refine(zal _ _).mono ?_;rintro e w' ⟨rfl,rfl⟩;rw[HLET.out];go_wp2_with fail;refine(digit_any _ _).mono ?_;rintro e w' ⟨rfl,rfl⟩;rw[HDIG.out];go_wp2_with fail;refine(zcj s k _ (by omega) (by omega)).mono ?_;rintro e w' ⟨rfl,rfl⟩;rw[←HM.out];go_wp2_with fail;refine(zal _ _).mono ?_;rintro e w' ⟨rfl,rfl⟩;rw[HLE.out];go_wp2;refine zah (B:=w.heap.size) Tryz.results50 Tryz.underlying59 (by kernel_rfl) rfl (heap_alloc_new w _) rfl ⟨?_,by exact zw⟩;rw[zaM (by decide)];rfl
set_option maxHeartbeats 1000000 in
theorem zgB(s:ByteArray)(k:Nat)(w:World)(hs:s.size≤1000000000)(hk:k<s.size)(hl:Lx.let_ s[k]=false)(hdg:Lx.dig s[k]=true)(n:Nat)(hn0:n=Lx.many Lx.dig (Lx.suf s k))(he:k+n<s.size)(hle:Lx.let_ s[k+n]=false)(hr:(Lx.read ((Lx.suf s k).take n)).2=0):
  Calls Tryz.prog 50 #[.string s,.int .i64 k] w fun e w'=>e=tokE (Lx.tok (Lx.suf s k)) k∧Below w.heap.size w w':=by
 have hT:Lx.tok (Lx.suf s k)=Lx.numT (Lx.suf s k) n:=by
  rw[hn0,Lx.zad hk,Lx.tok];simp only[hl,hdg,qa12,qa39,if_false]
 have hd:(Lx.suf s k).drop n=Lx.suf s (k+n):=by rw[Lx.za6,Lx.za6,qa31]
 have hh:(Lx.suf s (k+n)).head?.any Lx.let_=false:=by rw[Lx.zad he];exact hle
 rw[hT,Lx.numT,hd,hh];rw[if_neg (by decide),if_pos hr];have hml:=Lx.za1 Lx.dig (Lx.suf s k);rw[Lx.zag,←hn0]at hml;obtain⟨m,hm⟩:∃m,m=k+n:=⟨_,rfl⟩;have HM:Hid (m=k+Lx.many Lx.dig (Lx.suf s k)):=by unfold Hid;rw[hm,hn0]
 have HM2:=qa38 hm;have hm1:k≤m:=by omega
 have hm2:m≤s.size:=by omega
 have hlt:m<s.size:=by omega
 have hle':Lx.let_ s[m]=false:=by subst hm;exact hle
 have HLE:=qa38 hle';have d1:decide ((m:Int)<(s.size:Int))=true:=qa30 (by omega);have hsl:s.extract k m=Lx.bs ((Lx.suf s k).take n):=by rw[Lx.zax,hm,qa7];rfl
 have hst:(Lx.bs ((Lx.suf s k).take n)).size≤1000000000:=by rw[Lx.zao,qa23,Lx.zag];omega
 obtain⟨t,ht⟩:∃t,t=(Lx.suf s k).take n:=⟨_,rfl⟩;rw[←ht]at hsl hst hr ⊢;have HS:=qa38 hsl;have HST:=qa38 hst;obtain⟨v,hv⟩:∃v,v=Lx.read t:=⟨_,rfl⟩;rw[←hv]at hr ⊢;have HV:=qa38 hv;have HR:=qa38 hr;have d2:(v.2 != 0)=false:=by simp[hr]
 clear hsl hst hv ht hr;have HLET:=qa38 hl;have HDIG:=qa38 hdg;clear hl hdg hT hd hh hm hn0 hml he hle hle';go_enter Tryz.func50,Tryz.ntmps50;go_wp2_with fail;refine(zal _ _).mono ?_;rintro e w' ⟨rfl,rfl⟩;rw[HLET.out];go_wp2_with fail;refine(digit_any _ _).mono ?_;rintro e w' ⟨rfl,rfl⟩;rw[HDIG.out];go_wp2_with fail;refine(zcj s k _ (by omega) (by omega)).mono ?_;rintro e w' ⟨rfl,rfl⟩;rw[←HM.out];go_wp2_with fail;refine(zal _ _).mono ?_;rintro e w' ⟨rfl,rfl⟩;rw[HLE.out];go_wp2_with fail;rw[HS.out];refine(zcJ _ _ (by have:=HST.out;omega)).mono ?_;rintro e w1 ⟨rfl,hb1⟩;rw[Lx.zaH,←HV.out];have hB1:=zae (w:=w) zw hb1;obtain⟨hc1,hf1⟩:=zaQ hb1;have K0:=zak (heap_alloc_new w _) hb1;have hs1:=HS.out;have K1:=K0;have K1':=K1;obtain⟨c,f⟩:=zan K1;have c0:=c 0 _ rfl;have c1:=c 1 _ rfl;have c2:=c 2 _ rfl;have c3:=c 3 _ rfl;have c4:=c 4 _ rfl;have c5:=c 5 _ rfl;have f0:=f 0;have f1:=f 1;have f2:=f 2;have f3:=f 3;have f4:=f 4;have f5:=f 5;clear c f;clear K1;clear hc1 hf1;go_wp2;refine zah (B:=w.heap.size) Tryz.results50 Tryz.underlying59 (by kernel_rfl) rfl (zaZ K1' _ _ _ _ _ _) rfl ⟨?_,by exact zw⟩;have hm:=HM2.out;subst hm;rw[zbA rfl];rfl
set_option maxHeartbeats 1000000 in
theorem zdS(s:ByteArray)(k:Nat)(w:World)(hs:s.size≤1000000000)(hk:k<s.size)(hl:Lx.let_ s[k]=false)(hdg:Lx.dig s[k]=true)(n:Nat)(hn0:n=Lx.many Lx.dig (Lx.suf s k))(he:k+n=s.size)(hr:(Lx.read ((Lx.suf s k).take n)).2=0):
  Calls Tryz.prog 50 #[.string s,.int .i64 k] w fun e w'=>e=tokE (Lx.tok (Lx.suf s k)) k∧Below w.heap.size w w':=by
 have hT:Lx.tok (Lx.suf s k)=Lx.numT (Lx.suf s k) n:=by
  rw[hn0,Lx.zad hk,Lx.tok];simp only[hl,hdg,qa12,qa39,if_false]
 have hd:(Lx.suf s k).drop n=Lx.suf s (k+n):=by rw[Lx.za6,Lx.za6,qa31]
 have hh:(Lx.suf s (k+n)).head?.any Lx.let_=false:=by rw[Lx.zba (by omega)];rfl
 rw[hT,Lx.numT,hd,hh];rw[if_neg (by decide),if_pos hr];have hml:=Lx.za1 Lx.dig (Lx.suf s k);rw[Lx.zag,←hn0]at hml;obtain⟨m,hm⟩:∃m,m=k+n:=⟨_,rfl⟩;have HM:Hid (m=k+Lx.many Lx.dig (Lx.suf s k)):=by unfold Hid;rw[hm,hn0]
 have HM2:=qa38 hm;have hm1:k≤m:=by omega
 have hm2:m≤s.size:=by omega
 have d1:decide ((m:Int)<(s.size:Int))=false:=qa28 (by omega);have d1n:decide (m<s.size)=false:=qa28 (by omega);have hsl:s.extract k m=Lx.bs ((Lx.suf s k).take n):=by rw[Lx.zax,hm,qa7];rfl
 have hst:(Lx.bs ((Lx.suf s k).take n)).size≤1000000000:=by rw[Lx.zao,qa23,Lx.zag];omega
 obtain⟨t,ht⟩:∃t,t=(Lx.suf s k).take n:=⟨_,rfl⟩;rw[←ht]at hsl hst hr ⊢;have HS:=qa38 hsl;have HST:=qa38 hst;obtain⟨v,hv⟩:∃v,v=Lx.read t:=⟨_,rfl⟩;rw[←hv]at hr ⊢;have HV:=qa38 hv;have HR:=qa38 hr;have d2:(v.2 != 0)=false:=by simp[hr]
 clear hsl hst hv ht hr;have HLET:=qa38 hl;have HDIG:=qa38 hdg;clear hl hdg hT hd hh hm hn0 hml he;go_enter Tryz.func50,Tryz.ntmps50;go_wp2_with fail;refine(zal _ _).mono ?_;rintro e w' ⟨rfl,rfl⟩;rw[HLET.out];go_wp2_with fail;refine(digit_any _ _).mono ?_;rintro e w' ⟨rfl,rfl⟩;rw[HDIG.out];go_wp2_with fail;refine(zcj s k _ (by omega) (by omega)).mono ?_;rintro e w' ⟨rfl,rfl⟩;rw[←HM.out];go_wp2_with fail;rw[HS.out];refine(zcJ _ _ (by have:=HST.out;omega)).mono ?_;rintro e w1 ⟨rfl,hb1⟩;rw[Lx.zaH,←HV.out];have hB1:=zae (w:=w) zw hb1;obtain⟨hc1,hf1⟩:=zaQ hb1;have K0:=zak (heap_alloc_new w _) hb1;have hs1:=HS.out;have K1:=K0;have K1':=K1;obtain⟨c,f⟩:=zan K1;have c0:=c 0 _ rfl;have c1:=c 1 _ rfl;have c2:=c 2 _ rfl;have c3:=c 3 _ rfl;have c4:=c 4 _ rfl;have c5:=c 5 _ rfl;have f0:=f 0;have f1:=f 1;have f2:=f 2;have f3:=f 3;have f4:=f 4;have f5:=f 5;clear c f;clear K1;clear hc1 hf1;go_wp2;refine zah (B:=w.heap.size) Tryz.results50 Tryz.underlying59 (by kernel_rfl) rfl (zaZ K1' _ _ _ _ _ _) rfl ⟨?_,by exact zw⟩;have hm:=HM2.out;subst hm;rw[zbA rfl];rfl
set_option maxHeartbeats 1000000 in
theorem zfG(s:ByteArray)(k:Nat)(w:World)(hs:s.size≤1000000000)(hk:k<s.size)(hl:Lx.let_ s[k]=false)(hdg:Lx.dig s[k]=true)(n:Nat)(hn0:n=Lx.many Lx.dig (Lx.suf s k))(he:k+n<s.size)(hle:Lx.let_ s[k+n]=false)(hr:(Lx.read ((Lx.suf s k).take n)).2≠0):
  Calls Tryz.prog 50 #[.string s,.int .i64 k] w fun e w'=>e=tokE (Lx.tok (Lx.suf s k)) k∧Below w.heap.size w w':=by
 have hT:Lx.tok (Lx.suf s k)=Lx.numT (Lx.suf s k) n:=by
  rw[hn0,Lx.zad hk,Lx.tok];simp only[hl,hdg,qa12,qa39,if_false]
 have hd:(Lx.suf s k).drop n=Lx.suf s (k+n):=by rw[Lx.za6,Lx.za6,qa31]
 have hh:(Lx.suf s (k+n)).head?.any Lx.let_=false:=by rw[Lx.zad he];exact hle
 rw[hT,Lx.numT,hd,hh];rw[if_neg (by decide),if_neg hr];have hml:=Lx.za1 Lx.dig (Lx.suf s k);rw[Lx.zag,←hn0]at hml;obtain⟨m,hm⟩:∃m,m=k+n:=⟨_,rfl⟩;have HM:Hid (m=k+Lx.many Lx.dig (Lx.suf s k)):=by unfold Hid;rw[hm,hn0]
 have HM2:=qa38 hm;have hm1:k≤m:=by omega
 have hm2:m≤s.size:=by omega
 have hlt:m<s.size:=by omega
 have hle':Lx.let_ s[m]=false:=by subst hm;exact hle
 have HLE:=qa38 hle';have d1:decide ((m:Int)<(s.size:Int))=true:=qa30 (by omega);have hsl:s.extract k m=Lx.bs ((Lx.suf s k).take n):=by rw[Lx.zax,hm,qa7];rfl
 have hst:(Lx.bs ((Lx.suf s k).take n)).size≤1000000000:=by rw[Lx.zao,qa23,Lx.zag];omega
 obtain⟨t,ht⟩:∃t,t=(Lx.suf s k).take n:=⟨_,rfl⟩;rw[←ht]at hsl hst hr ⊢;have HS:=qa38 hsl;have HST:=qa38 hst;obtain⟨v,hv⟩:∃v,v=Lx.read t:=⟨_,rfl⟩;rw[←hv]at hr ⊢;have HV:=qa38 hv;have HR:=qa38 hr;have d2:(v.2 != 0)=true:=by simp[hr]
 clear hsl hst hv ht hr;have HLET:=qa38 hl;have HDIG:=qa38 hdg;clear hl hdg hT hd hh hm hn0 hml he hle hle';go_enter Tryz.func50,Tryz.ntmps50;go_wp2_with fail;refine(zal _ _).mono ?_;rintro e w' ⟨rfl,rfl⟩;rw[HLET.out];go_wp2_with fail;refine(digit_any _ _).mono ?_;rintro e w' ⟨rfl,rfl⟩;rw[HDIG.out];go_wp2_with fail;refine(zcj s k _ (by omega) (by omega)).mono ?_;rintro e w' ⟨rfl,rfl⟩;rw[←HM.out];go_wp2_with fail;refine(zal _ _).mono ?_;rintro e w' ⟨rfl,rfl⟩;rw[HLE.out];go_wp2_with fail;rw[HS.out];refine(zcJ _ _ (by have:=HST.out;omega)).mono ?_;rintro e w1 ⟨rfl,hb1⟩;rw[Lx.zaH,←HV.out];have hB1:=zae (w:=w) zw hb1;obtain⟨hc1,hf1⟩:=zaQ hb1;have K0:=zak (heap_alloc_new w _) hb1;have K1:=K0;have K1':=K1;obtain⟨c,f⟩:=zan K1;have c0:=c 0 _ rfl;have c1:=c 1 _ rfl;have c2:=c 2 _ rfl;have c3:=c 3 _ rfl;have c4:=c 4 _ rfl;have c5:=c 5 _ rfl;have f0:=f 0;have f1:=f 1;have f2:=f 2;have f3:=f 3;have f4:=f 4;have f5:=f 5;clear c f;clear K1;clear hc1 hf1;go_wp2;refine zah (B:=w.heap.size) Tryz.results50 Tryz.underlying59 (by kernel_rfl) rfl (zaZ K1' _ _ _ _ _ _) rfl ⟨?_,by exact zw⟩;rw[zaM HR.out];rfl
set_option maxHeartbeats 1000000 in
theorem zdw(s:ByteArray)(k:Nat)(w:World)(hs:s.size≤1000000000)(hk:k<s.size)(hl:Lx.let_ s[k]=false)(hdg:Lx.dig s[k]=true)(n:Nat)(hn0:n=Lx.many Lx.dig (Lx.suf s k))(he:k+n=s.size)(hr:(Lx.read ((Lx.suf s k).take n)).2≠0):
  Calls Tryz.prog 50 #[.string s,.int .i64 k] w fun e w'=>e=tokE (Lx.tok (Lx.suf s k)) k∧Below w.heap.size w w':=by
 have hT:Lx.tok (Lx.suf s k)=Lx.numT (Lx.suf s k) n:=by
  rw[hn0,Lx.zad hk,Lx.tok];simp only[hl,hdg,qa12,qa39,if_false]
 have hd:(Lx.suf s k).drop n=Lx.suf s (k+n):=by rw[Lx.za6,Lx.za6,qa31]
 have hh:(Lx.suf s (k+n)).head?.any Lx.let_=false:=by rw[Lx.zba (by omega)];rfl
 rw[hT,Lx.numT,hd,hh];rw[if_neg (by decide),if_neg hr];have hml:=Lx.za1 Lx.dig (Lx.suf s k);rw[Lx.zag,←hn0]at hml;obtain⟨m,hm⟩:∃m,m=k+n:=⟨_,rfl⟩;have HM:Hid (m=k+Lx.many Lx.dig (Lx.suf s k)):=by unfold Hid;rw[hm,hn0]
 have HM2:=qa38 hm;have hm1:k≤m:=by omega
 have hm2:m≤s.size:=by omega
 have d1:decide ((m:Int)<(s.size:Int))=false:=qa28 (by omega);have d1n:decide (m<s.size)=false:=qa28 (by omega);have hsl:s.extract k m=Lx.bs ((Lx.suf s k).take n):=by rw[Lx.zax,hm,qa7];rfl
 have hst:(Lx.bs ((Lx.suf s k).take n)).size≤1000000000:=by rw[Lx.zao,qa23,Lx.zag];omega
 obtain⟨t,ht⟩:∃t,t=(Lx.suf s k).take n:=⟨_,rfl⟩;rw[←ht]at hsl hst hr ⊢;have HS:=qa38 hsl;have HST:=qa38 hst;obtain⟨v,hv⟩:∃v,v=Lx.read t:=⟨_,rfl⟩;rw[←hv]at hr ⊢;have HV:=qa38 hv;have HR:=qa38 hr;have d2:(v.2 != 0)=true:=by simp[hr]
 clear hsl hst hv ht hr;have HLET:=qa38 hl;have HDIG:=qa38 hdg;clear hl hdg hT hd hh hm hn0 hml he;go_enter Tryz.func50,Tryz.ntmps50;go_wp2_with fail;refine(zal _ _).mono ?_;rintro e w' ⟨rfl,rfl⟩;rw[HLET.out];go_wp2_with fail;refine(digit_any _ _).mono ?_;rintro e w' ⟨rfl,rfl⟩;rw[HDIG.out];go_wp2_with fail;refine(zcj s k _ (by omega) (by omega)).mono ?_;rintro e w' ⟨rfl,rfl⟩;rw[←HM.out];go_wp2_with fail;rw[HS.out];refine(zcJ _ _ (by have:=HST.out;omega)).mono ?_;rintro e w1 ⟨rfl,hb1⟩;rw[Lx.zaH,←HV.out];have hB1:=zae (w:=w) zw hb1;obtain⟨hc1,hf1⟩:=zaQ hb1;have K0:=zak (heap_alloc_new w _) hb1;have K1:=K0;have K1':=K1;obtain⟨c,f⟩:=zan K1;have c0:=c 0 _ rfl;have c1:=c 1 _ rfl;have c2:=c 2 _ rfl;have c3:=c 3 _ rfl;have c4:=c 4 _ rfl;have c5:=c 5 _ rfl;have f0:=f 0;have f1:=f 1;have f2:=f 2;have f3:=f 3;have f4:=f 4;have f5:=f 5;clear c f;clear K1;clear hc1 hf1;go_wp2;refine zah (B:=w.heap.size) Tryz.results50 Tryz.underlying59 (by kernel_rfl) rfl (zaZ K1' _ _ _ _ _ _) rfl ⟨?_,by exact zw⟩;rw[zaM HR.out];rfl
set_option maxHeartbeats 1000000 in
theorem zeU(s:ByteArray)(k:Nat)(w:World)(hs:s.size≤1000000000)(hk:k<s.size)(hc:s[k].toNat=39)(hq:Lx.qEnd (Lx.suf s (k+1))=none):
  Calls Tryz.prog 50 #[.string s,.int .i64 k] w fun e w'=>e=tokE (Lx.tok (Lx.suf s k)) k∧Below w.heap.size w w':=by
 have e39:s[k]=39:=Lx.u8_of (n:=39) (by omega) hc;have hl:Lx.let_ s[k]=false:=by rw[e39];rfl
 have hdg:Lx.dig s[k]=false:=by rw[e39];rfl
 have hT:Lx.tok (Lx.suf s k)=Lx.bad 8:=by
  rw[Lx.zad hk,Lx.tok];simp only[hl,hdg,qb0];rw[if_pos (by rw[e39];rfl),hq];rfl
 rw[hT];have d1:((s[k].toNat:Int)==39)=true:=by rw[hc];rfl
 have HLET:=qa38 hl;have HDIG:=qa38 hdg;have hsh:Lx.zbT (Lx.qEnd (Lx.suf s (k+1))) (k+1)=none:=by rw[hq];rfl
 have HQ:=qa38 hsh;clear hl hdg hT e39 hc hq hsh;go_enter Tryz.func50,Tryz.ntmps50;go_wp2_with fail;refine(zal _ _).mono ?_;rintro e w' ⟨rfl,rfl⟩;rw[HLET.out];go_wp2_with fail;refine(digit_any _ _).mono ?_;rintro e w' ⟨rfl,rfl⟩;rw[HDIG.out];go_wp2_with fail;refine(zdI s k _ hs hk).mono ?_;rintro e w' ⟨rfl,rfl⟩;rw[HQ.out];unfold endE;go_wp2;refine zah (B:=w.heap.size) Tryz.results50 Tryz.underlying59 (by kernel_rfl) rfl (heap_alloc_new w _) rfl ⟨?_,by exact zw⟩;rw[zaM (by decide)];rfl
set_option maxHeartbeats 1000000 in
theorem zgA(s:ByteArray)(k:Nat)(w:World)(hs:s.size≤1000000000)(hk:k<s.size)(hc:s[k].toNat=39)(n:Nat)(hq:(Lx.qEnd (Lx.suf s (k+1))).map (·+1)=some n)(hn:k+n≤s.size)(he:(Lx.valT (Lx.suf s k) n).1=0):
  Calls Tryz.prog 50 #[.string s,.int .i64 k] w fun e w'=>e=tokE (Lx.tok (Lx.suf s k)) k∧Below w.heap.size w w':=by
 have e39:s[k]=39:=Lx.u8_of (n:=39) (by omega) hc;have hl:Lx.let_ s[k]=false:=by rw[e39];rfl
 have hdg:Lx.dig s[k]=false:=by rw[e39];rfl
 have hT:Lx.tok (Lx.suf s k)=Lx.valT (Lx.suf s k) n:=by
  rw[Lx.zad hk,Lx.tok];simp only[hl,hdg,qb0];rw[if_pos (by rw[e39];rfl),hq];rfl
 rw[hT];obtain⟨r,hr⟩:∃r,r=Lx.valT (Lx.suf s k) n:=⟨_,rfl⟩;rw[←hr];have HR:=qa38 hr;rw[←hr]at he;have HE:=qa38 he;clear hr he;have d1:((s[k].toNat:Int)==39)=true:=by rw[hc];rfl
 have HLET:=qa38 hl;have HDIG:=qa38 hdg;have hsh:Lx.zbT (Lx.qEnd (Lx.suf s (k+1))) (k+1)=some (k+n):=by
  cases h:Lx.qEnd (Lx.suf s (k+1))with
  |none=>rw[h]at hq;cases hq
  |some q=>rw[h]at hq;simp at hq;simp[Lx.zbT];omega
 have HQ:=qa38 hsh;clear hl hdg hT e39 hc hq hsh;go_enter Tryz.func50,Tryz.ntmps50;go_wp2_with fail;refine(zal _ _).mono ?_;rintro e w' ⟨rfl,rfl⟩;rw[HLET.out];go_wp2_with fail;refine(digit_any _ _).mono ?_;rintro e w' ⟨rfl,rfl⟩;rw[HDIG.out];go_wp2_with fail;refine(zdI s k _ hs hk).mono ?_;rintro e w' ⟨rfl,rfl⟩;rw[HQ.out];unfold endE;go_wp2_with fail;refine(zdl s k n _ _ hs (by omega) (by omega)).mono ?_;rintro e w1 ⟨he,hb1⟩;rw[←HR.out,zbA HE.out]at he;subst he;have hB1:=zae (w:=w) zw hb1;obtain⟨hc1,hf1⟩:=zaQ hb1;have K0:=zak (heap_alloc_new w _) hb1;have K1:=K0;have K1':=K1;obtain⟨c,f⟩:=zan K1;have c0:=c 0 _ rfl;have c1:=c 1 _ rfl;have c2:=c 2 _ rfl;have c3:=c 3 _ rfl;have c4:=c 4 _ rfl;have c5:=c 5 _ rfl;have f0:=f 0;have f1:=f 1;have f2:=f 2;have f3:=f 3;have f4:=f 4;have f5:=f 5;clear c f;clear K1;clear hc1 hf1;go_wp2;refine zah (B:=w.heap.size) Tryz.results50 Tryz.underlying59 (by kernel_rfl) rfl (zaZ K1' _ _ _ _ _ _) rfl ⟨?_,by exact zw⟩;rw[zbA HE.out];rfl
set_option maxHeartbeats 1000000 in
theorem zfF(s:ByteArray)(k:Nat)(w:World)(hs:s.size≤1000000000)(hk:k<s.size)(hc:s[k].toNat=39)(n:Nat)(hq:(Lx.qEnd (Lx.suf s (k+1))).map (·+1)=some n)(hn:k+n≤s.size)(he:(Lx.valT (Lx.suf s k) n).1≠0):
  Calls Tryz.prog 50 #[.string s,.int .i64 k] w fun e w'=>e=tokE (Lx.tok (Lx.suf s k)) k∧Below w.heap.size w w':=by
 have e39:s[k]=39:=Lx.u8_of (n:=39) (by omega) hc;have hl:Lx.let_ s[k]=false:=by rw[e39];rfl
 have hdg:Lx.dig s[k]=false:=by rw[e39];rfl
 have hT:Lx.tok (Lx.suf s k)=Lx.valT (Lx.suf s k) n:=by
  rw[Lx.zad hk,Lx.tok];simp only[hl,hdg,qb0];rw[if_pos (by rw[e39];rfl),hq];rfl
 rw[hT];obtain⟨r,hr⟩:∃r,r=Lx.valT (Lx.suf s k) n:=⟨_,rfl⟩;rw[←hr];have HR:=qa38 hr;rw[←hr]at he;have HE:=qa38 he;clear hr he;have d1:((s[k].toNat:Int)==39)=true:=by rw[hc];rfl
 have HLET:=qa38 hl;have HDIG:=qa38 hdg;have hsh:Lx.zbT (Lx.qEnd (Lx.suf s (k+1))) (k+1)=some (k+n):=by
  cases h:Lx.qEnd (Lx.suf s (k+1))with
  |none=>rw[h]at hq;cases hq
  |some q=>rw[h]at hq;simp at hq;simp[Lx.zbT];omega
 have HQ:=qa38 hsh;clear hl hdg hT e39 hc hq hsh;go_enter Tryz.func50,Tryz.ntmps50;go_wp2_with fail;refine(zal _ _).mono ?_;rintro e w' ⟨rfl,rfl⟩;rw[HLET.out];go_wp2_with fail;refine(digit_any _ _).mono ?_;rintro e w' ⟨rfl,rfl⟩;rw[HDIG.out];go_wp2_with fail;refine(zdI s k _ hs hk).mono ?_;rintro e w' ⟨rfl,rfl⟩;rw[HQ.out];unfold endE;go_wp2_with fail;refine(zdl s k n _ _ hs (by omega) (by omega)).mono ?_;rintro e w1 ⟨he,hb1⟩;rw[←HR.out,zaM HE.out]at he;subst he;have hB1:=zae (w:=w) zw hb1;obtain⟨hc1,hf1⟩:=zaQ hb1;have K0:=zak (heap_alloc_new w _) hb1;have K1:=K0;have K1':=K1;obtain⟨c,f⟩:=zan K1;have c0:=c 0 _ rfl;have c1:=c 1 _ rfl;have c2:=c 2 _ rfl;have c3:=c 3 _ rfl;have c4:=c 4 _ rfl;have c5:=c 5 _ rfl;have f0:=f 0;have f1:=f 1;have f2:=f 2;have f3:=f 3;have f4:=f 4;have f5:=f 5;clear c f;clear K1;clear hc1 hf1;go_wp2;refine zah (B:=w.heap.size) Tryz.results50 Tryz.underlying59 (by kernel_rfl) rfl (zaZ K1' _ _ _ _ _ _) rfl ⟨?_,by exact zw⟩;rw[zaM HE.out];rfl
set_option maxHeartbeats 1000000 in
theorem zel(s:ByteArray)(k:Nat)(w:World)(hs:s.size≤1000000000)(hk:k<s.size)(hl:Lx.let_ s[k]=false)(hdg:Lx.dig s[k]=false)(hc:s[k].toNat≠39)(n:Nat)(hn0:n=Lx.zaw (Lx.suf s k))(hz:n=0)(hn:k+n≤s.size):
  Calls Tryz.prog 50 #[.string s,.int .i64 k] w fun e w'=>e=tokE (Lx.tok (Lx.suf s k)) k∧Below w.heap.size w w':=by
 have hT:Lx.tok (Lx.suf s k)=Lx.zi4 (Lx.suf s k):=by
  have hq:(s[k]==39)=false:=by simp[Lx.zcB,hc]
  rw[Lx.zad hk,Lx.tok];simp only[hl,hdg,hq,qb0]
 rw[hT,Lx.zi4,←hn0];have d1:((s[k].toNat:Int)==39)=false:=by simp;omega
 have HLET:=qa38 hl;have HDIG:=qa38 hdg;have HN:=qa38 hn0;rw[if_pos hz];subst hz;clear hl hdg hT hc hn0;go_enter Tryz.func50,Tryz.ntmps50;go_wp2_with fail;refine(zal _ _).mono ?_;rintro e w' ⟨rfl,rfl⟩;rw[HLET.out];go_wp2_with fail;refine(digit_any _ _).mono ?_;rintro e w' ⟨rfl,rfl⟩;rw[HDIG.out];go_wp2_with fail;refine(zib s k _ hs hk).mono ?_;rintro e w' ⟨rfl,rfl⟩;rw[←HN.out];unfold zhv;go_wp2;refine zah (B:=w.heap.size) Tryz.results50 Tryz.underlying59 (by kernel_rfl) rfl (heap_alloc_new w _) rfl ⟨?_,by exact zw⟩;rw[zaM (by decide)];rfl
set_option maxHeartbeats 1000000 in
theorem zek(s:ByteArray)(k:Nat)(w:World)(hs:s.size≤1000000000)(hk:k<s.size)(hl:Lx.let_ s[k]=false)(hdg:Lx.dig s[k]=false)(hc:s[k].toNat≠39)(n:Nat)(hn0:n=Lx.zaw (Lx.suf s k))(hz:n≠0)(hn:k+n≤s.size):
  Calls Tryz.prog 50 #[.string s,.int .i64 k] w fun e w'=>e=tokE (Lx.tok (Lx.suf s k)) k∧Below w.heap.size w w':=by
 have hT:Lx.tok (Lx.suf s k)=Lx.zi4 (Lx.suf s k):=by
  have hq:(s[k]==39)=false:=by simp[Lx.zcB,hc]
  rw[Lx.zad hk,Lx.tok];simp only[hl,hdg,hq,qb0]
 rw[hT,Lx.zi4,←hn0];have d1:((s[k].toNat:Int)==39)=false:=by simp;omega
 have HLET:=qa38 hl;have HDIG:=qa38 hdg;have HN:=qa38 hn0;rw[if_neg hz];obtain⟨m,hm⟩:∃m,m=k+n:=⟨_,rfl⟩;have HM2:=qa38 hm;have hm1:k≤m:=by omega
 have hm2:m≤s.size:=by omega
 have hsl:s.extract k m=Lx.bs ((Lx.suf s k).take n):=by rw[Lx.zax,hm,qa7];rfl
 have hE:zhv k n=.returned (.tuple #[.int .i64 (m:Int),.bool true]):=by rw[hm];simp[zhv,hz]
 have HE:=qa38 hE;clear hl hdg hT hc hn0 hz hE hm;go_enter Tryz.func50,Tryz.ntmps50;go_wp2_with fail;refine(zal _ _).mono ?_;rintro e w' ⟨rfl,rfl⟩;rw[HLET.out];go_wp2_with fail;refine(digit_any _ _).mono ?_;rintro e w' ⟨rfl,rfl⟩;rw[HDIG.out];go_wp2_with fail;refine(zib s k _ hs hk).mono ?_;rintro e w' ⟨rfl,rfl⟩;rw[←HN.out];rw[HE.out];go_wp2;refine zah (B:=w.heap.size) Tryz.results50 Tryz.underlying59 (by kernel_rfl) rfl (heap_alloc_new w _) rfl ⟨?_,by exact zw⟩;rw[zbA rfl,HM2.out];rfl
theorem zgC(s:ByteArray)(k:Nat)(w:World)(hs:s.size≤1000000000)(hk:k<s.size):
  Calls Tryz.prog 50 #[.string s,.int .i64 k] w fun e w'=>e=tokE (Lx.tok (Lx.suf s k)) k∧Below w.heap.size w w':=by
 by_cases hl:Lx.let_ s[k]=true
 ·by_cases hb:Lx.zbc (Lx.suf s k)=true
  ·by_cases hm:s.size≤k+2+Lx.many Lx.noq (Lx.suf s (k+2))
   ·exact zem s k w hs hk hl hb hm
   ·by_cases he:(Lx.valT (Lx.suf s k) (2+Lx.many Lx.noq (Lx.suf s (k+2))+1)).1=0
    ·exact zfH s k w hs hk hl hb _ rfl (by omega) he
    ·exact zeV s k w hs hk hl hb _ rfl (by omega) he
  ·have hb:Lx.zbc (Lx.suf s k)=false:=by simpa using hb
   by_cases hw:Lx.isW ((Lx.suf s k).take (Lx.many Lx.nam (Lx.suf s k)))=true
   ·exact zei s k w hs hk hl hb hw
   ·have hw:Lx.isW ((Lx.suf s k).take (Lx.many Lx.nam (Lx.suf s k)))=false:=by simpa using hw
    by_cases hn:32<Lx.many Lx.nam (Lx.suf s k)
    ·exact zej s k w hs hk hl hb hw hn
    ·exact zdU s k w hs hk hl hb hw hn
 ·have hl:Lx.let_ s[k]=false:=by simpa using hl
  by_cases hdg:Lx.dig s[k]=true
  ·have hml:=Lx.za1 Lx.dig (Lx.suf s k);rw[Lx.zag]at hml;by_cases he:k+Lx.many Lx.dig (Lx.suf s k)<s.size
   ·by_cases hle:Lx.let_ s[k+Lx.many Lx.dig (Lx.suf s k)]=true
    ·exact zdT s k w hs hk hl hdg _ rfl he hle
    ·have hle:Lx.let_ s[k+Lx.many Lx.dig (Lx.suf s k)]=false:=by simpa using hle
     by_cases hr:(Lx.read ((Lx.suf s k).take (Lx.many Lx.dig (Lx.suf s k)))).2=0
     ·exact zgB s k w hs hk hl hdg _ rfl he hle hr
     ·exact zfG s k w hs hk hl hdg _ rfl he hle hr
   ·by_cases hr:(Lx.read ((Lx.suf s k).take (Lx.many Lx.dig (Lx.suf s k)))).2=0
    ·exact zdS s k w hs hk hl hdg _ rfl (by omega) hr
    ·exact zdw s k w hs hk hl hdg _ rfl (by omega) hr
  ·have hdg:Lx.dig s[k]=false:=by simpa using hdg
   by_cases hc:s[k].toNat=39
   ·cases hq:Lx.qEnd (Lx.suf s (k+1))with
    |none=>exact zeU s k w hs hk hc hq
    |some q=>
     have hql:=Lx.zjZ _ q hq;rw[Lx.zag]at hql;by_cases he:(Lx.valT (Lx.suf s k) (q+1)).1=0
     ·exact zgA s k w hs hk hc (q+1) (by rw[hq];rfl) (by omega) he
     ·exact zfF s k w hs hk hc (q+1) (by rw[hq];rfl) (by omega) he
   ·have hml:=Lx.markN_le (Lx.suf s k);rw[Lx.zag]at hml;by_cases hz:Lx.zaw (Lx.suf s k)=0
    ·exact zel s k w hs hk hl hdg hc _ rfl hz (by omega)
    ·exact zek s k w hs hk hl hdg hc _ rfl hz (by omega)
end
section
open Go.RowKit
theorem zfy(s:ByteArray)(k0:Nat)(w:World)(hs:s.size≤1000000000)(hk:k0≤s.size):
    Calls Tryz.prog 49 #[.string s,.int .i64 k0] w fun e w'=>e=.returned (.int .i64 ((k0+Lx.skipN false (Lx.suf s k0):Nat):Int))∧w=w':=by
  generalize hR:k0+Lx.skipN false (Lx.suf s k0)=R;have HR:=qa38 hR;clear hR;go_enter Tryz.func49,Tryz.ntmps49;go_wp2;go_step3;go_wp2;go_step3;go_wp2;go_loop [1] (fun i=>∃k:Nat,k≤s.size∧i=.int .i64 k∧Hid (k+Lx.skipN false (Lx.suf s k)=R)) (fun i=>s.size-(intOf i).toNat)
  case atStart=>exact⟨k0,hk,rfl,HR⟩
  case round=>
    obtain⟨k,hk,rfl,HK⟩:=hrel;by_cases hlt:k<s.size
    · go_wp2;all_goals (try simp only[bne_iff_ne,bne_eq_false_iff_eq,beq_iff_eq,qa11,ne_eq,qa18,Bool.not_eq_false',Bool.not_eq_true,Bool.not_eq_false]at *)
      all_goals first
        | (go_round
           case rel=>exact⟨k+1,by omega,by go_num,qa38 (by rw[←HK.out,Lx.ziT hlt (by omega)])⟩
           case measure=>simp[intOf];omega)
        | (skip
           go_ret;exact⟨zjM (by rw[←HK.out,Lx.zgE hlt (by omega) (by omega) (by omega) (by omega) (by intro h1 h2;omega)]),rfl⟩)
        |skip
      rotate_left
      · go_wp2;rw[Exit.noGoto_ret];go_ret;exact⟨zjM (by rw[←HK.out,Lx.zgE hlt (by omega) (by omega) (by omega) (by omega) (by intro h1 h2;omega)]),rfl⟩
      have HK1:Hid (k+Lx.skipN true (Lx.suf s k)=R):=qa38 (by rw[←HK.out,Lx.skip_com (by omega) (by omega) (by omega)]);go_loop [1] (fun i=>∃j:Nat,k≤j∧j≤s.size∧i=.int .i64 j∧Hid (j+Lx.skipN true (Lx.suf s j)=R)) (fun i=>s.size-(intOf i).toNat)
      case atStart=>exact⟨k,by omega,by omega,rfl,HK1⟩
      case round=>
        obtain⟨j,hkj,hj,rfl,HJ⟩:=hrel;by_cases hltj:j<s.size
        · go_wp2;all_goals (try simp only[bne_iff_ne,bne_eq_false_iff_eq,beq_iff_eq,qa11,ne_eq,qa18,Bool.not_eq_false',Bool.not_eq_true,Bool.not_eq_false]at *)
          · go_round
            case rel=>exact⟨j+1,by omega,by omega,by go_num,qa38 (by rw[←HJ.out,Lx.skip_in hltj (by omega)])⟩
            case measure=>simp[intOf];omega
          · have hne:k≠j:=by
              intro e;subst e;omega
            go_round
            case rel=>exact⟨j,by omega,rfl,qa38 (by rw[←HJ.out,Lx.skip_out hltj (by omega)])⟩
            case measure=>simp[intOf];omega
        · go_wp2;go_round
          case rel=>exact⟨j,by omega,rfl,qa38 (by rw[←HJ.out,Lx.zfP (by omega),Lx.zfP (by omega)])⟩
          case measure=>simp[intOf];omega
    · go_wp2;go_ret;exact⟨zjM (by rw[←HK.out,Lx.zfP (by omega)]),rfl⟩
end
section
open Go.RowKit
attribute [local simp] Lx.zao
theorem wpList_app2{P:Program}{ops:Array Oper}{rest:List Oper}{o:Oper}{a:Act}{Q:Exit→Act→World→Prop}(hgd:o.guard=none)(s x:Operand)(t e:TypeId)
  (ho:o.op=.call { callee:=.builtin .append,args:=#[s,x],argTypes:=#[t,t] })
  (ht:P.underlying t=some (.slice e)) {z:Value} {size bytes:Nat} (hinfo:(P.info? e).map (fun i=>(i.zero,i.size,i.bytes))=some (some z,size,bytes))
  (hzs:z.cells.size=size) (hsz:0<size) (W:World) (C:Array Value) (hC:C.size=size) (h1:∀u∈C.toList,u.oneCell'=true)
  (base:Nat) (v:Value) (n:Nat) (xs:List Value) (hs:a.eval s=v) (hown:W.ownsRow base e size v n xs) (g:Nat) (hx:a.eval x=.slice (some ⟨g,0,none⟩) 1 1) (hg:g=W.heap.size)
  (hn:n+1≤maxLen) (hbytes:(n+1)*bytes≤140737488355328) (hbase:base≤W.heap.size) (B:Nat) (hB:B≤base)
  (h:∀v' w',w'.ownsRow base e size v' (n+1) (xs++C.toList)→Below B W w'→wpList P ops Q rest (a.put o.dst v') w'):
  wpList P ops Q (o::rest) a (W.alloc (.cells C e)):=
 wpList_app1 hgd s x t e ho ht hinfo hzs hsz W C hC h1 base v n xs hs hown (by rw[hx,hg]) hn hbytes hbase B hB h
def zeo(t:Lx.TA):List Value:=[.int .i64 t.1.kind,.string (Lx.bs t.1.text),.int .i64 t.1.val.1,.int .i64 t.1.val.2.1,.string (Lx.bs t.1.val.2.2),.int .i64 (t.2:Int)]
theorem ze1:(Tryz.prog.info? 59).map (fun i=>(i.zero,i.size,i.bytes))=some (some (.agg #[.int .i64 0,.string ⟨#[]⟩,.int .i64 0,.int .i64 0,.string ⟨#[]⟩,.int .i64 0]),6,64):=by kernel_rfl
def scanE(w:World)(R:Lx.SR)(e:Ending)(w':World):Prop:=
 ∃v,e=.returned (.tuple #[v,.int .i64 (R.2.1:Int),.int .i64 R.2.2])∧w'.ownsRow w.heap.size 59 6 v R.1.length (R.1.flatMap zeo)∧Below w.heap.size w w'
theorem zeu{w w':World}{a:Nat}{x:Int}(hb:Below w.heap.size w w'):scanE w ([],a,x) (.returned (.tuple #[.slice none 0 0,.int .i64 (a:Int),.int .i64 x])) w':=
 ⟨_,rfl,World.ownsRow_nil _ _ _ _,hb⟩
set_option maxHeartbeats 2000000 in
theorem scan_any(s:ByteArray)(w:World)(hs:s.size≤1000000000):
  Calls Tryz.prog 16 #[.string s] w fun e w'=>scanE w (Lx.scan (Lx.ls s)) e w':=by
 by_cases hlong:65536<s.size
 ·have hR:Lx.scan (Lx.ls s)=([],0,3):=by rw [Lx.scan,Lx.zaj,if_pos hlong]
  rw[hR];have d1:decide (65536<(s.size:Int))=true:=qa30 (by omega);go_enter Tryz.func16,Tryz.ntmps16;go_wp2;go_step3;go_wp2;try rw[Exit.noGoto_ret]
  go_ret3;exact zeu (Below.refl _ _)
 ·have hR:Lx.scan (Lx.ls s)=Lx.zdd (Lx.ls s) (s.size+1) [] (Lx.skipN false (Lx.ls s)):=by rw [Lx.scan,Lx.zaj,if_neg hlong]
  rw[hR];generalize hR2:Lx.zdd (Lx.ls s) (s.size+1) [] (Lx.skipN false (Lx.ls s))=R;have HR:=qa38 hR2;have d1:decide (65536<(s.size:Int))=false:=qa28 (by omega);clear hR hR2;have hsk:=Lx.zia false (Lx.ls s);rw[Lx.zaj]at hsk;obtain⟨k0,hk0⟩:∃k0,k0=Lx.skipN false (Lx.ls s):=⟨_,rfl⟩;rw[←hk0]at HR hsk;have HK0:=qa38 hk0;clear hk0;go_enter Tryz.func16,Tryz.ntmps16;go_wp2;go_step3;go_wp2_with fail;refine(zfy s 0 _ hs (by omega)).mono ?_;rintro e w' ⟨rfl,rfl⟩;rw[Lx.zda,←HK0.out,Nat.zero_add];go_wp2;go_step3;go_wp2;go_loopw [5,6] (fun v i wr=>∃(acc:List Lx.TA)(k f:Nat),i=.int .i64 k∧k≤s.size∧s.size-k<f∧acc.length≤k∧wr.ownsRow w.heap.size 59 6 v acc.length (acc.flatMap zeo)∧Below w.heap.size w wr∧Hid (Lx.zdd (Lx.ls s) f acc k=R)) (fun _ i _=>s.size-(intOf i).toNat)
  case atStart=>exact⟨[],k0,s.size+1,rfl,hsk,by omega,by simp,World.ownsRow_nil _ _ _ _,Below.refl _ _,HR⟩
  case round=>
   obtain⟨acc,k,f,rfl,hk,hf,hal,hown,hb,HK⟩:=hrel;obtain⟨f,rfl⟩:∃f',f=f'+1:=⟨f-1,by omega⟩;obtain⟨va,vc,hv⟩:=own_form hown;subst hv;by_cases hend:k=s.size
   ·subst hend;have d2:((s.size:Int)==(s.size:Int))=true:=by simp
    have hfin:=Lx.zjJ (l:=Lx.ls s) (f:=f) (acc:=acc) (a:=s.size) (Lx.zaj s).symm;rw[HK.out]at hfin;have HFIN:=qa38 hfin;clear hfin;go_wp2_with (at_builtin;refine wpList_app1 rfl (.tmp 41) (.tmp 45) 49 59 rfl Tryz.underlying49 ze1 rfl (by decide) _ _ rfl (by intro u hu;simp at hu;rcases hu with rfl|rfl|rfl|rfl|rfl|rfl<;>rfl) w.heap.size _ _ _ rfl hown rfl (by simp only[maxLen];omega) (by omega) hb.size w.heap.size (qa37 _) ?_;intro v1 w1 hown1 hb1);try rw[Exit.noGoto_ret]
    go_ret3;refine⟨_,by rw[HFIN.out];rfl, ?_,hb.trans hb1⟩;rw[HFIN.out];simpa[zeo,Lx.zaj,Lx.bs_nil]using hown1
   ·have d2:((k:Int) == (s.size:Int))=false:=by simp;omega
    have hlt:k<s.size:=by omega
    have hne:k≠(Lx.ls s).length:=by rw[Lx.zaj];exact hend
    by_cases hfull:acc.length=4096
    ·have d3:((acc.length:Int) == 4096)=true:=by rw [hfull];rfl
     have hfin:=Lx.ziY (f:=f) hne hfull;rw[HK.out]at hfin;have HFIN:=qa38 hfin;clear hfin hfull hne hend;go_wp2;try rw[Exit.noGoto_ret]
     go_ret3;rw[HFIN.out];exact zeu hb
    ·have d3:((acc.length:Int) == 4096)=false:=by simp;omega
     obtain⟨r,hr⟩:∃r,r=Lx.tok (Lx.suf s k):=⟨_,rfl⟩;have hr':Lx.tok ((Lx.ls s).drop k)=r:=hr.symm;by_cases he:r.1=0
     ·have hfin:=Lx.scanL_go (f:=f) hne hfull (by rw [hr'];exact he);rw[hr',HK.out]at hfin;have htl:=Lx.zjw (l:=Lx.suf s k) (by rw[←hr];exact he);rw[←hr,Lx.zag]at htl;obtain⟨q1,q2,q3⟩:=htl;have hsk2:=Lx.zia false (Lx.suf s (k+r.2.2));rw[Lx.zag]at hsk2;have HFIN:=qa38 hfin;have HR2:=qa38 hr;have HE:=qa38 he;have Q3:=qa38 q3;clear hfin hr hr' he hfull hne hend q3;go_wp2_with fail;refine(zgC s k _ hs hlt).mono ?_;rintro e w1 ⟨he1,hb1⟩;rw[←HR2.out,zbA HE.out]at he1;subst he1;have hB1:=zae (w:=w) hb hb1;have hown1:=own_next hown hb1;go_wp2_with (at_builtin;refine wpList_app2 rfl (.tmp 34) (.tmp 36) 49 59 rfl Tryz.underlying49 ze1 rfl (by decide) _ _ rfl (by intro u hu;simp at hu;rcases hu with rfl|rfl|rfl|rfl|rfl|rfl<;>rfl) w.heap.size _ _ _ rfl (hown1.alloc _) _ rfl (by simp) (by simp only[maxLen];omega) (by omega) (by have:=hB1.size;simp;omega) w.heap.size (qa37 _) ?_;intro v2 w2 hown2 hb2);go_wp2_with fail;refine(zfy s (k+r.2.2) _ hs (by omega)).mono ?_;rintro e w' ⟨rfl,rfl⟩;go_wp2;go_roundw
      case rel=>
       refine⟨acc++[(r.2.1,k)],k+r.2.2+Lx.skipN false (Lx.suf s (k+r.2.2)),f,by congr 1,by omega,by omega,by simp;omega, ?_,(by exact zw:Below w.heap.size w _).trans hb2,qa38 HFIN.out.symm⟩;simpa[zeo]using hown2
      case measure=>simp[intOf];omega
     ·have hfin:=Lx.zjK (f:=f) hne hfull (by rw [hr'];exact he);rw[hr',HK.out]at hfin;have HFIN:=qa38 hfin;have HR2:=qa38 hr;have HE:=qa38 he;have d4:(r.1 != 0)=true:=by simp[he]
      clear hfin hr hr' he hfull hne hend;go_wp2_with fail;refine(zgC s k _ hs hlt).mono ?_;rintro e w1 ⟨he1,hb1⟩;rw[←HR2.out,zaM HE.out]at he1;subst he1;have hB1:=zae (w:=w) hb hb1;go_wp2;try rw[Exit.noGoto_ret]
      go_ret3;rw[HFIN.out];exact zeu zw
end
end Go.Proofs.YtplflngjpajcmaaGreatDoor
namespace Lx
section
def pN:Nat→List UInt8→Nat
 |_,[]=>0
 |0,c::r=>if c==59 then 0 else if c==39 then 1+pN 1 r else if c==45 && r.head? == some 45 then 1+pN 2 r else 1+pN 0 r
 |1,c::r=>1+pN (if c==39 then 0 else 1) r
 |_+2,c::r=>1+pN (if c==10 then 0 else 2) r
def parts(l:List UInt8):Nat→Nat→List (List UInt8)
 |0,_=>[]
 |f+1,k=>if l.length<k then[]else
   (if skipN false ((l.drop k).take (pN 0 (l.drop k)))<((l.drop k).take (pN 0 (l.drop k))).length then[(l.drop k).take (pN 0 (l.drop k))]else[])++parts l f (k+pN 0 (l.drop k)+1)
end
section
def nmh(c:UInt8):Bool:=decide (c.toNat=95) || decide (97≤c.toNat) && decide (c.toNat≤122)
def nmAt(k:Nat)(c:UInt8):Bool:=nmh c || dig c && decide (0<k)
def nmR:Nat→List UInt8→Bool
 |_,[]=>true
 |k,c::r=>nmAt k c && nmR (k+1) r
def nameOk(l:List UInt8):Bool:=decide (1≤l.length) && decide (l.length≤32) && nmR 0 (fold l)
end
section
def Fol(r r':List UInt8):Prop:=r'.head?=r.head?∨∀c,r'.head?=some c→bl c=true
end
section
inductive Lexed:List UInt8→List T→Prop
 |nil:Lexed [] []
 |cons {R:List UInt8} {t:T} {n:Nat} {ts:List T}:tok R=(0,t,n)→skipN false R=0→Lexed ((R.drop n).drop (skipN false (R.drop n))) ts→Lexed R (t::ts)
theorem tok_n{R:List UInt8}{t:T}{n:Nat}(h:tok R=(0,t,n)):1≤n∧n≤R.length∧t.text.length=n:=by
 have:=zjw (l:=R) (by rw[h]);rw[h]at this;exact this
end
section
inductive PT(M:Nat):List (List UInt8)→List T→Prop
 |nil:PT M [] []
 |cons {p:List UInt8} {ts1:List T} {ps:List (List UInt8)} {ts2:List T}:Lexed (p.drop (skipN false p)) ts1→ts1≠[]→p.length≤M→PT M ps ts2→PT M (p::ps) (ts1++ts2)
end
end Lx
end
