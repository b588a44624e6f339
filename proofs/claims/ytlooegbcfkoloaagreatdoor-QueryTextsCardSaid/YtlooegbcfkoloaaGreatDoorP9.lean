/- Part of the proof: see the last text. -/
import Derived.Test.YtlooegbcfkoloaaGreatDoorP0
import Derived.Test.YtlooegbcfkoloaaGreatDoorP4
import Derived.Test.YtlooegbcfkoloaaGreatDoorP5
import Derived.Test.YtlooegbcfkoloaaGreatDoorP6
import Derived.Test.YtlooegbcfkoloaaGreatDoorP7
import Derived.Test.YtlooegbcfkoloaaGreatDoorP8
set_option maxRecDepth 20000
set_option linter.unusedVariables false
set_option linter.unusedSimpArgs false
set_option linter.unusedSectionVars false
noncomputable section
namespace Go.Proofs.YtlooegbcfkoloaaGreatDoor
section
open Go.RowKit
open Vm Go.Shelf
def shRen:Go.Shelf.Ren:=⟨fun n=>match n with|138=>158|143=>159|154=>144|155=>120|156=>42|165=>85|166=>86|169=>87|195=>167|197=>160|217=>174|218=>168|219=>169|224=>176|225=>175|240=>117|241=>118|260=>170|266=>181|267=>177|276=>142|277=>143|314=>182|_=>0,fun n=>match n with|0=>0|3=>3|4=>4|5=>5|9=>9|20=>20|21=>21|31=>68|37=>123|46=>173|51=>203|70=>122|72=>125|75=>128|76=>129|80=>131|105=>191|119=>199|127=>154|138=>201|139=>202|146=>204|164=>168|_=>0,fun n=>match n with|1=>0|3=>1|4=>2|_=>0⟩
theorem zrD:Lays.n156 Tryz.prog shRen:={
 mixed:=by kernel_rfl
 f156:=by kernel_rfl
 f165:=by kernel_rfl
 f166:=by kernel_rfl
 f169:=by kernel_rfl
 f240:=by kernel_rfl
 f241:=by kernel_rfl
 f276:=by kernel_rfl
 f277:=by kernel_rfl
 t0:=by kernel_rfl
 a0:=fun _=>by kernel_rfl
 z0:=fun _=>by kernel_rfl
 v0:=fun _=>by kernel_rfl
 t3:=by kernel_rfl
 a3:=fun _=>by kernel_rfl
 z3:=fun _=>by kernel_rfl
 v3:=fun _=>by kernel_rfl
 t4:=by kernel_rfl
 a4:=fun _=>by kernel_rfl
 z4:=fun _=>by kernel_rfl
 v4:=fun _=>by kernel_rfl
 t9:=by kernel_rfl
 a9:=fun _=>by kernel_rfl
 z9:=fun _=>by kernel_rfl
 v9:=fun _=>by kernel_rfl
 t20:=by kernel_rfl
 a20:=fun _=>by kernel_rfl
 z20:=fun _=>by kernel_rfl
 v20:=fun _=>by kernel_rfl
 t31:=by kernel_rfl
 a31:=fun _=>by kernel_rfl
 z31:=fun _=>by kernel_rfl
 v31:=fun _=>by kernel_rfl
 t37:=by kernel_rfl
 a37:=fun _=>by kernel_rfl
 z37:=fun _=>by kernel_rfl
 v37:=fun _=>by kernel_rfl
 t70:=by kernel_rfl
 a70:=fun _=>by kernel_rfl
 z70:=fun _=>by kernel_rfl
 v70:=fun _=>by kernel_rfl
 t72:=by kernel_rfl
 a72:=fun _=>by kernel_rfl
 z72:=fun _=>by kernel_rfl
 v72:=fun _=>by kernel_rfl
 t75:=by kernel_rfl
 a75:=fun _=>by kernel_rfl
 z75:=fun _=>by kernel_rfl
 v75:=fun _=>by kernel_rfl
 t76:=by kernel_rfl
 a76:=fun _=>by kernel_rfl
 z76:=fun _=>by kernel_rfl
 v76:=fun _=>by kernel_rfl
 t127:=by kernel_rfl
 a127:=fun _=>by kernel_rfl
 z127:=fun _=>by kernel_rfl
 v127:=fun _=>by kernel_rfl
 t164:=by kernel_rfl
 a164:=fun _=>by kernel_rfl
 z164:=fun _=>by kernel_rfl
 v164:=fun _=>by kernel_rfl }
theorem lay_n155:Lays.n155 Tryz.prog shRen:={
 mixed:=by kernel_rfl
 f138:=by kernel_rfl
 f143:=by kernel_rfl
 f154:=by kernel_rfl
 f155:=by kernel_rfl
 f165:=by kernel_rfl
 f166:=by kernel_rfl
 f169:=by kernel_rfl
 f195:=by kernel_rfl
 f197:=by kernel_rfl
 f217:=by kernel_rfl
 f218:=by kernel_rfl
 f219:=by kernel_rfl
 f224:=by kernel_rfl
 f225:=by kernel_rfl
 f240:=by kernel_rfl
 f241:=by kernel_rfl
 f260:=by kernel_rfl
 f266:=by kernel_rfl
 f267:=by kernel_rfl
 f276:=by kernel_rfl
 f277:=by kernel_rfl
 f314:=by kernel_rfl
 t0:=by kernel_rfl
 a0:=fun _=>by kernel_rfl
 z0:=fun _=>by kernel_rfl
 v0:=fun _=>by kernel_rfl
 t3:=by kernel_rfl
 a3:=fun _=>by kernel_rfl
 z3:=fun _=>by kernel_rfl
 v3:=fun _=>by kernel_rfl
 t4:=by kernel_rfl
 a4:=fun _=>by kernel_rfl
 z4:=fun _=>by kernel_rfl
 v4:=fun _=>by kernel_rfl
 t5:=by kernel_rfl
 a5:=fun _=>by kernel_rfl
 z5:=fun _=>by kernel_rfl
 v5:=fun _=>by kernel_rfl
 t9:=by kernel_rfl
 a9:=fun _=>by kernel_rfl
 z9:=fun _=>by kernel_rfl
 v9:=fun _=>by kernel_rfl
 t20:=by kernel_rfl
 a20:=fun _=>by kernel_rfl
 z20:=fun _=>by kernel_rfl
 v20:=fun _=>by kernel_rfl
 t21:=by kernel_rfl
 a21:=fun _=>by kernel_rfl
 z21:=fun _=>by kernel_rfl
 v21:=fun _=>by kernel_rfl
 t37:=by kernel_rfl
 a37:=fun _=>by kernel_rfl
 z37:=fun _=>by kernel_rfl
 v37:=fun _=>by kernel_rfl
 t46:=by kernel_rfl
 a46:=fun _=>by kernel_rfl
 z46:=fun _=>by kernel_rfl
 v46:=fun _=>by kernel_rfl
 t51:=by kernel_rfl
 a51:=fun _=>by kernel_rfl
 z51:=fun _=>by kernel_rfl
 v51:=fun _=>by kernel_rfl
 t70:=by kernel_rfl
 a70:=fun _=>by kernel_rfl
 z70:=fun _=>by kernel_rfl
 v70:=fun _=>by kernel_rfl
 t72:=by kernel_rfl
 a72:=fun _=>by kernel_rfl
 z72:=fun _=>by kernel_rfl
 v72:=fun _=>by kernel_rfl
 t75:=by kernel_rfl
 a75:=fun _=>by kernel_rfl
 z75:=fun _=>by kernel_rfl
 v75:=fun _=>by kernel_rfl
 t76:=by kernel_rfl
 a76:=fun _=>by kernel_rfl
 z76:=fun _=>by kernel_rfl
 v76:=fun _=>by kernel_rfl
 t105:=by kernel_rfl
 a105:=fun _=>by kernel_rfl
 z105:=fun _=>by kernel_rfl
 v105:=fun _=>by kernel_rfl
 t119:=by kernel_rfl
 a119:=fun _=>by kernel_rfl
 z119:=fun _=>by kernel_rfl
 t127:=by kernel_rfl
 a127:=fun _=>by kernel_rfl
 z127:=fun _=>by kernel_rfl
 v127:=fun _=>by kernel_rfl
 t138:=by kernel_rfl
 a138:=fun _=>by kernel_rfl
 z138:=fun _=>by kernel_rfl
 v138:=fun _=>by kernel_rfl
 t139:=by kernel_rfl
 a139:=fun _=>by kernel_rfl
 z139:=fun _=>by kernel_rfl
 v139:=fun _=>by kernel_rfl
 t146:=by kernel_rfl
 a146:=fun _=>by kernel_rfl
 z146:=fun _=>by kernel_rfl
 v146:=fun _=>by kernel_rfl
 t164:=by kernel_rfl
 a164:=fun _=>by kernel_rfl
 z164:=fun _=>by kernel_rfl
 v164:=fun _=>by kernel_rfl
 g1:=by kernel_rfl
 g3:=by kernel_rfl
 g4:=by kernel_rfl }
theorem znA:Builder.Extra Tryz.prog shRen:={
 sizeBuilder:=by kernel_rfl
 liesBuilder:=by kernel_rfl
 t5:=by kernel_rfl
 a5:=fun _=>by kernel_rfl
 z5:=fun _=>by kernel_rfl
 v5:=fun _=>by kernel_rfl
 infoByte:=by kernel_rfl
 cellsByte:=by kernel_rfl
 sizeByte:=by kernel_rfl
 neB5:=by decide }
theorem znu{P:Program}{G:Nat→Vm.V}{f:FuncId}{args:List Vm.V}{R:POut→Prop}(hen:zj2 P f=true)(hd:args.all V.data=true)
  (h:∀(w:World)(A:Nat→Nat→Prop)(vals:Array Value),(∀b o,A b o→b<w.heap.size)→RepL w A args vals.toList→(∀g,G g=.any∨RepV w A (G g) (.pointer (some ⟨g,0,none⟩)))→Calls P f vals w fun e w'=>Below w.heap.size w w'∧∃o,R o∧OutRep w' A o e):zes P G f args [] fun o es=>R o∧es=[]:=by
 refine⟨hen,fun w H A vals m hv=>Calls.mono (h w A vals m.al (zkf hv hd) m.glo) fun e w' ⟨hb,o,hR,ho⟩=>?_⟩;exact⟨o,[],H,A,⟨hR,rfl⟩,rfl,fun e he=>by simp at he,m.below hb,ho⟩
theorem repL_2s{w:World}{A:Nat→Nat→Prop}{x:Vm.V}{s:List UInt8}{vals:Array Value}(h:RepL w A [x,.str s] vals.toList):∃v,vals=#[v,.string (Lx.bs s)]∧RepV w A x v:=by
 obtain⟨l⟩:=vals;cases h with
 |cons _ _ v vs h1 h2=>
  cases h2 with
  |cons _ _ v' vs' h3 h4=>
   cases h3;cases h4;exact⟨v,rfl,h1⟩
theorem repL_3s{w:World}{A:Nat→Nat→Prop}{a b c:List UInt8}{vals:Array Value}(h:RepL w A [.str a,.str b,.str c] vals.toList):vals=#[.string (Lx.bs a),.string (Lx.bs b),.string (Lx.bs c)]:=by
 obtain⟨l⟩:=vals;cases h with
 |cons _ _ v vs h1 h2=>
  cases h2 with
  |cons _ _ v' vs' h3 h4=>
   cases h4 with
   |cons _ _ v'' vs'' h5 h6=>
    cases h1;cases h3;cases h5;cases h6;rfl
theorem zpJ{w:World}{A:Nat→Nat→Prop}:∀{xs:List (List UInt8)} {z:Nat} {vs:List Value},RepE w A z (xs.map Vm.V.str) vs→vs=xs.map fun s=>Value.string (Lx.bs s)
 |[],z,vs,h=>by cases h;rfl
 |x::xs,z,vs,h=>by
  cases h with
  |cons _ _ _ us ws h0 h1 h2=>
   cases h1 with
   |one _ v h3 h4=>
    cases h4;rw[zpJ h2];rfl
theorem zv2(xs:List (List UInt8))(sep:List UInt8):Lib.join ((xs.map Lx.bs).map (·.data.toList)) (Lx.bs sep).data.toList=Lib.join xs sep:=by
 have e:(xs.map Lx.bs).map (·.data.toList)=xs:=by
  rw[List.map_map]
  conv=>rhs;rw[←List.map_id xs]
  exact qa17 fun x _=>Lx.zcn x
 rw[e,show(Lx.bs sep).data.toList=sep from Lx.zcn sep]
theorem bs_join(xs:List (List UInt8))(sep:List UInt8):(⟨(Lib.join ((xs.map Lx.bs).map (·.data.toList)) (Lx.bs sep).data.toList).toArray⟩:ByteArray)=Lx.bs (Lib.join xs sep):=by
 rw[zv2];rfl
theorem zyd{w w':World}{A:Nat→Nat→Prop}{f:FuncId}{vals:Array Value}{e:Ending}{t:List UInt8}{b:ByteArray}(hb:b=Lx.bs t)(h:e=.returned (.string b)∧Below w.heap.size w w'):Below w.heap.size w w'∧∃o,o=POut.ret (.str t)∧OutRep w' A o e:=by
 obtain⟨rfl,h2⟩:=h;subst hb;exact⟨h2,_,rfl,_,rfl,.str t⟩
theorem m_Join{G:Nat→Vm.V}{xs:List (List UInt8)}{sep:List UInt8}(hN:xs.length≤1000000)(h:(Lib.join xs sep).length≤1000000000):Ret Tryz.prog G 42 [.list (xs.map Vm.V.str),.str sep] (.str (Lib.join xs sep)):=by
 refine zcS (by kernel_rfl) rfl fun w A vals hA hv=>?_;obtain⟨v,hvv,hx⟩:=repL_2s hv;subst hvv;clear hv;have hj:=bs_join xs sep;generalize hl:xs.map Vm.V.str=l at hx;cases hx with
 |nil a c=>
  obtain rfl:xs=[]:=List.map_eq_nil_iff.1 hl;refine Calls.mono (Any.strings_Join_none zrD znA a c (Lx.bs sep) w) fun e w' h=>?_;obtain⟨rfl,rfl⟩:=h;exact⟨Below.refl _ _,_,rfl,_,rfl,.str []⟩
 |list _ z b off c vs h1 h2 h3 h4 h5=>
  subst hl;have hvs:=zpJ h2;subst hvs;rw[qa44]at h4 ⊢
  match xs,h1,h3,h4,hN,h,hj with
  |[x],h1,h3,h4,hN,h,hj=>
   refine Calls.mono (Any.strings_Join_one zrD znA b off c (Lx.bs x) (Lx.bs sep) w (h3.2 0 _ rfl).1) fun e w' h=>?_;obtain⟨rfl,rfl⟩:=h;refine⟨Below.refl _ _,_,rfl,_,rfl, ?_⟩;rw[Lib.join_one];exact .str x
  |x::y::r,h1,h3,h4,hN,h,hj=>
   have hlen:(x::y::r).length=((x::y::r).map Lx.bs).length:=by rw[qa44]
   rw[hlen]at hN h4 ⊢;refine Calls.mono (Any.strings_Join_many zrD znA b off c ((x::y::r).map Lx.bs) (Lx.bs sep) w ?_ h3.1 (by simp) (by omega) h4 ?_) fun e w' h=>zyd (f:=0) (vals:=#[]) hj h
   ·intro j u hu;refine(h3.2 j (.string u) ?_).1;rw[qa24]at hu ⊢;cases hx:(x::y::r)[j]? with
    |none=>rw[hx]at hu;cases hu
    |some t=>rw[hx]at hu;simp at hu;subst hu;rfl
   ·rw[zv2];omega
theorem zs0{G:Nat→Vm.V}{m:Int}(hG:G (shRen.g 1)=.ip (.int .i64 m) 0){s:List UInt8}(hs:s.length≤1000000):Ret Tryz.prog G 120 [.str s,.str [39],.str [39,39]] (.str (Ex.zd1 s)):=by
 refine znu (by kernel_rfl) rfl fun w A vals hA hv hg=>?_;obtain rfl:=repL_3s hv;have hm:w.cell? ⟨shRen.g 1,0,none⟩=some (.int .i64 m):=by
  rcases hg (shRen.g 1)with h|h
  ·rw[hG]at h;cases h
  ·rw[hG]at h;generalize hp:(Value.pointer (some ⟨shRen.g 1,0,none⟩))=p at h;cases h with
   |ip _ _ b o vs h1 h2=>
    cases hp;cases h1 with
    |one _ v h3 h4=>
     cases h4;exact(h2.2 0 _ rfl).1
 have hsz:(Lx.bs s).size=s.length:=Lx.zaD s;have hc:=Lib.countB_le (Lx.bs [39]) (by decide) s.length (Lx.bs s) (by omega);refine Calls.mono (Any.strings_ReplaceAll lay_n155 znA (Lx.bs s) (Lx.bs [39]) (Lx.bs [39,39]) m w (by omega) hm (by decide) ?_) fun e w' h=>zyd (f:=0) (vals:=#[]) ?_ h
 ·rw[show(Lx.bs [39,39]).size=2 from rfl];omega
 ·have e1:(Lx.bs s).data.toList=s:=Lx.zcn s;rw[e1];show _=Lx.bs (Ex.zd1 s);rw[←Ex.zwq];rfl
end
section
open Go.RowKit
open Vm
theorem zrn{w w':World}{A:Nat→Nat→Prop}{e:Ending}{t:List UInt8}(h:e=.returned (.string (Lx.bs t))∧Below w.heap.size w w'):Below w.heap.size w w'∧∃o,o=POut.ret (.str t)∧OutRep w' A o e:=by
 obtain⟨rfl,h2⟩:=h;exact⟨h2,_,rfl,_,rfl,.str t⟩
theorem zsD{w:World}{A:Nat→Nat→Prop}{k:IntKind}{n:Int}{vals:Array Value}(h:RepL w A [.int k n] vals.toList):vals=#[.int k n]:=by
 obtain⟨l⟩:=vals;cases h with
 |cons _ _ v vs h1 h2=>
  cases h1;cases h2;rfl
theorem n_Num{G:Nat→Vm.V}{n:Int}(h1:-9223372036854775808≤n)(h2:n≤9223372036854775807):Ret Tryz.prog G 119 [.int .i64 n] (.str (Ox.num n)):=by
 refine zcS (by kernel_rfl) rfl fun w A vals hA hv=>?_;rw[zsD hv];exact Calls.mono (tnum_any n w h1 h2) fun e w' h=>zrn h
theorem n_rNum{G:Nat→Vm.V}{n:Int}(h1:-9223372036854775808≤n)(h2:n≤9223372036854775807):Ret Tryz.prog G 95 [.int .i64 n] (.str (Ox.num n)):=by
 refine zcS (by kernel_rfl) rfl fun w A vals hA hv=>?_;rw[zsD hv];exact Calls.mono (rnum_any n w h1 h2) fun e w' h=>zrn h
theorem n_Hex{G:Nat→Vm.V}{s:List UInt8}(hs:s.length≤1000000):Ret Tryz.prog G 121 [.str s] (.str (Ox.hex s)):=by
 refine zcS (by kernel_rfl) rfl fun w A vals hA hv=>?_;rw[ziU hv];refine Calls.mono (thex_any (Lx.bs s) w (by rw[Lx.zaD];omega)) fun e w' h=>?_;rw[Lx.zcn]at h;exact zrn h
theorem n_rHex{G:Nat→Vm.V}{s:List UInt8}(hs:s.length≤1000000):Ret Tryz.prog G 96 [.str s] (.str (Ox.hex s)):=by
 refine zcS (by kernel_rfl) rfl fun w A vals hA hv=>?_;rw[ziU hv];refine Calls.mono (rhex_any (Lx.bs s) w (by rw[Lx.zaD];omega)) fun e w' h=>?_;rw[Lx.zcn]at h;exact zrn h
def zpL:List Vm.V→Option (List (List UInt8))
 |[]=>some []
 |.str s::r=>(match zpL r with|some l=>some (s::l)|none=>none)
 |_=>none
theorem zpK:∀l:List (List UInt8),zpL (l.map Vm.V.str)=some l
 |[]=>rfl
 |s::l=>by simp[zpL,zpK l]
theorem zoa:∀{l:List Vm.V} {r:List (List UInt8)},zpL l=some r→l=r.map Vm.V.str
 |[],r,h=>by cases h;rfl
 |v::l,r,h=>by
  unfold zpL at h;split at h
  ·rename_i e;cases e
  ·rename_i s l' e;cases e;split at h
   ·rename_i l'' h2;cases h;rw[zoa h2];rfl
   ·cases h
  ·cases h
def zpk:List Vm.V→Option Vm.V
 | [.list xs,.str sep]=>(match zpL xs with
  |some l=>if l.length≤1000000∧(Lib.join l sep).length≤1000000000 then some (.str (Lib.join l sep))else none
  |none=>none)
 |_=>none
def zpj:List Vm.V→Option Vm.V
 |[.str s,.str a,.str b]=>if s.length≤1000000∧a=[39]∧b=[39,39]then some (.str (Ex.zd1 s))else none
 |_=>none
def znb:List Vm.V→Option Vm.V
 |[.int .i64 n]=>if -9223372036854775808≤n∧n≤9223372036854775807 then some (.str (Ox.num n))else none
 |_=>none
theorem zwX{G:Nat→Vm.V}(a:List Vm.V)(v:Vm.V)(h:zpk a=some v):Ret Tryz.prog G 42 a v:=by
 unfold zpk at h;split at h
 ·split at h
  ·rename_i hl;split at h
   ·rename_i hc;cases h;rw[zoa hl];exact m_Join hc.1 hc.2
   ·cases h
  ·cases h
 ·cases h
theorem zwW{G:Nat→Vm.V}{m:Int}(hG:G (shRen.g 1)=.ip (.int .i64 m) 0)(a:List Vm.V)(v:Vm.V)(h:zpj a=some v):Ret Tryz.prog G 120 a v:=by
 unfold zpj at h;split at h
 ·split at h
  ·rename_i hc;obtain⟨h1,rfl,rfl⟩:=hc;cases h;exact zs0 hG h1
  ·cases h
 ·cases h
theorem ztu{f:FuncId}{G:Nat→Vm.V}(hf:∀{n:Int}, -9223372036854775808≤n→n≤9223372036854775807→Ret Tryz.prog G f [.int .i64 n] (.str (Ox.num n)))(a:List Vm.V)(v:Vm.V)(h:znb a=some v):Ret Tryz.prog G f a v:=by
 unfold znb at h;split at h
 ·split at h
  ·rename_i hc;cases h;exact hf hc.1 hc.2
  ·cases h
 ·cases h
class Gl where
 m:Int
def glG[Gl]:Nat→Vm.V:=fun g=>if g=shRen.g 1 then .ip (.int .i64 Gl.m) 0 else .any
end
section
open Go.RowKit
open Vm
theorem m_fold{G:Nat→Vm.V}{s:List UInt8}(hs:s.length≤1000000):zes Tryz.prog G 59 [.str s] [] fun o es=>o=.ret (.str (Lx.fold s))∧es=[]:=by
 refine zjX (by kernel_rfl) rfl fun w A vals hv=>?_;rw[ziU hv];have hz:(Lx.bs s).size≤9223372036854775000:=by rw[Lx.zaD];omega
 refine Calls.mono (ze6 (Lx.bs s) w hz) fun e w' h=>⟨h.2,_,rfl, ?_⟩;rw[h.1,Lx.zcn];exact⟨_,rfl,.str _⟩
theorem n_rfold{G:Nat→Vm.V}{s:List UInt8}(hs:s.length≤1000000):zes Tryz.prog G 77 [.str s] [] fun o es=>o=.ret (.str (Lx.fold s))∧es=[]:=by
 refine zjX (by kernel_rfl) rfl fun w A vals hv=>?_;rw[ziU hv];have hz:(Lx.bs s).size≤1000000000:=by rw[Lx.zaD];omega
 refine Calls.mono (zcz (Lx.bs s) w hz) fun e w' h=>⟨h.2,_,rfl, ?_⟩;rw[h.1,Lx.zcn];exact⟨_,rfl,.str _⟩
def ans1(g:List UInt8→Vm.V):List Vm.V→Option Vm.V
 |[.str s]=>if s.length≤1000000 then some (g s)else none
 |_=>none
theorem zAi{g:List UInt8→Vm.V}{a:List Vm.V}{v:Vm.V}(h:ans1 g a=some v):∃s,a=[.str s]∧s.length≤1000000∧v=g s:=by
 unfold ans1 at h;split at h
 ·split at h
  ·rename_i hs;cases h;exact⟨_,rfl,hs,rfl⟩
  ·cases h
 ·cases h
def nv1{G:Nat→Vm.V}(f:FuncId)(g:List UInt8→Vm.V)(h:∀s:List UInt8,s.length≤1000000→zes Tryz.prog G f [.str s] [] fun o es=>o=.ret (g s)∧es=[]):Nv Tryz.prog G:=
 .pure f (ans1 g) fun a v hv=>by
  obtain⟨s,rfl,hs,rfl⟩:=zAi hv;exact h s hs
variable[Gl]
def natL:List (Nv Tryz.prog glG):=[
 nv1 77 (fun s=>.str (Lx.fold s)) fun _ hs=>n_rfold hs,
 nv1 11 zq0 fun _ hs=>n_Scan hs,
 nv1 13 zq0 fun _ hs=>n_rScan hs,
 .fd 132 [10,11,12] [(4,0),(5,1),(6,2)],
 .fd 12 [10,11,12,29] [(4,0),(5,1),(6,2)],
 nv1 121 (fun s=>.str (Ox.hex s)) fun _ hs=>n_Hex hs,
 nv1 96 (fun s=>.str (Ox.hex s)) fun _ hs=>n_rHex hs,
 .pure 119 znb (ztu n_Num),
 .pure 95 znb (ztu n_rNum),
 .pure 42 zpk zwX,
 .pure 120 zpj (zwW (m:=Gl.m) (by unfold glG;rw[if_pos rfl])),
 nv1 59 (fun s=>.str (Lx.fold s)) fun _ hs=>m_fold hs]
end
section
open Go.RowKit
open Vm
def zcP(c:Orc)(m y0 y1 y2 y3 y4 y5 y6 y7 y8 y9 y10 y0_1 y0_2:V):Option (List Ent) :=({v:=_}:qX (gW m<|(tasW (some (.agg [qi])) 178 m).bind fun v1=>qex v1 0 fun v2=>qex v1 1 fun v3=>ckA 1 v2<|cnd v3 (ag eeqs<|ck1 (cell v2 0)<|some [.blk 46 [qi,qs,qi,qi,qs,qs,qs,qi,qf,qf,.nils],.blk 3 [(cell v2 0)],.blk 29 [(.int .i64 20)]]) (some [.blk 46 [y0,y1,y2,y3,y4,y5,y6,y7,y8,y9,y10],.blk 3 [y0_1],.blk 29 [y0_2]]))).v
def zec(c:Orc)(a1_0 a1_1 a1_2:V):Option Out :=({v:=_}:qX (cnd a1_2 (ck1 a1_1<|rtn (.tup [(.agg [qi,qs,qi,qi,qs,qs,qs,qi,qf,qf,(.list [])]),(norm1 a1_1),(.int .i64 20)]) []) (ck1 a1_0<|ck1 a1_1<|ckA 2 (.agg [a1_0,a1_1])<|cl1 c 148 [qp] (.blk 182 [a1_0,a1_1]) 182 2 (fun v3 v2=>dfr (zcP c v3 qi qs qi qi qs qs qs qi qf qf .nils qi qi) [(46,11),(3,1),(29,1)] fun v4=>rtn (.tup [(norm1 (.agg [(zad (nth v4 0) 0),(zad (nth v4 0) 1),(zad (nth v4 0) 2),(zad (nth v4 0) 3),(zad (nth v4 0) 4),(zad (nth v4 0) 5),(zad (nth v4 0) 6),(zad (nth v4 0) 7),(zad (nth v4 0) 8),(zad (nth v4 0) 9),(zad (nth v4 0) 10)])),(norm1 (zad (nth v4 1) 0)),(norm1 (zad (nth v4 2) 0))]) []) fun v1 v2=>ckA 11 v1<|cl0 c 149 [(norm1 (agN 11 v1))] (fun w=>dfr (zcP c w (cell v1 0) (cell v1 1) (cell v1 2) (cell v1 3) (cell v1 4) (cell v1 5) (cell v1 6) (cell v1 7) (cell v1 8) (cell v1 9) (cell v1 10) qi qi) [(46,11),(3,1),(29,1)] fun v6=>rtn (.tup [(norm1 (.agg [(zad (nth v6 0) 0),(zad (nth v6 0) 1),(zad (nth v6 0) 2),(zad (nth v6 0) 3),(zad (nth v6 0) 4),(zad (nth v6 0) 5),(zad (nth v6 0) 6),(zad (nth v6 0) 7),(zad (nth v6 0) 8),(zad (nth v6 0) 9),(zad (nth v6 0) 10)])),(norm1 (zad (nth v6 1) 0)),(norm1 (zad (nth v6 2) 0))]) []) fun v5=>qgtr v5 (.int .i64 24) fun v7=>cnd v7 (ck1 a1_1<|dfr (zcP c .niface qi qs qi qi qs qs qs qi qf qf .nils a1_1 (.int .i64 12)) [(46,11),(3,1),(29,1)] fun v8=>rtn (.tup [(norm1 (.agg [(zad (nth v8 0) 0),(zad (nth v8 0) 1),(zad (nth v8 0) 2),(zad (nth v8 0) 3),(zad (nth v8 0) 4),(zad (nth v8 0) 5),(zad (nth v8 0) 6),(zad (nth v8 0) 7),(zad (nth v8 0) 8),(zad (nth v8 0) 9),(zad (nth v8 0) 10)])),(norm1 (zad (nth v8 1) 0)),(norm1 (zad (nth v8 2) 0))]) []) (ag oeq<|ckA 11 (agN 11 v1)<|ck1 (zad v2 1)<|dfr (zcP c .niface (cell v1 0) (cell v1 1) (cell v1 2) (cell v1 3) (cell v1 4) (cell v1 5) (cell v1 6) (cell v1 7) (cell v1 8) (cell v1 9) (cell v1 10) (zad v2 1) qi) [(46,11),(3,1),(29,1)] fun v9=>rtn (.tup [(norm1 (.agg [(zad (nth v9 0) 0),(zad (nth v9 0) 1),(zad (nth v9 0) 2),(zad (nth v9 0) 3),(zad (nth v9 0) 4),(zad (nth v9 0) 5),(zad (nth v9 0) 6),(zad (nth v9 0) 7),(zad (nth v9 0) 8),(zad (nth v9 0) 9),(zad (nth v9 0) 10)])),(norm1 (zad (nth v9 1) 0)),(norm1 (zad (nth v9 2) 0))]) [])))).v
def zg0(c:Orc)(x0 x1:V):Option Out :=({v:=_}:qX (qlss x1 qi fun v1=>cnd v1 (zec c x0 x1 qt) (qll x0 fun v2=>qgtr x1 v2 fun v3=>zec c x0 x1 v3))).v
theorem zsv(G:Nat→Vm.V)(c:Orc)(x0 x1:V):evFD Tryz.prog G c [10,11,12] [(4,0),(5,1),(6,2)] 132 [.d x0,.d x1]=zg0 c x0 x1:=by kernel_rfl
def annTw(f:FuncId)(d:List (Nat×Nat)×List LA):List (Nat×Nat)×List LA:=d
end
section
open Go.RowKit
open Vm
variable(G:Nat→Vm.V)(c:Orc)(l:Lup)(x0 x1:V)
def zmZ(c:Orc)(l:Lup)(x0 x1:V):Option Out :=({v:=_}:qX (ckA 11 x0<|qll (cell x0 10) fun v1=>qlss x1 v1 fun v2=>cnd v2 (qel 11 (cell x0 10) x1 fun v3=>qlt 11 v3 0 fun v4=>ckA 11 v4<|rtn (norm1 (agN 11 v4)) []) (rtn (.agg [qi,qs,qi,qi,qs,qs,qs,qi,qf,qf,(.list [])]) []))).v
theorem ztN:evF Tryz.prog G c l [] 10 [] 94 [.d x0,.d x1] []=zmZ c l x0 x1:=by kernel_rfl
def zeb(c:Orc)(l:Lup)(a2_0 a2_1:V):Option Out:=cnd a2_1 ((b0 .add (.str [40]) a2_0).bind fun v1=>(b0 .add v1 (.str [41])).bind fun v2=>rtn (norm1 v2) []) (rtn (norm1 a2_0) [])
def zaV(c:Orc)(l:Lup)(a1_0 a1_1 a1_2 a1_3 a1_4:V):Option Out :=({v:=_}:qX (cnd a1_2 (qadd (.str [40]) a1_0 fun v1=>qadd v1 (.str [41]) fun v2=>rtn (norm1 v2) []) (qeql a1_1 qj fun v3=>cnd v3 (qeql (cell a1_3 0) (.int .i64 3) fun v4=>cnd v4 (qeql (cell a1_4 2) qj fun v5=>zeb c l a1_0 v5) (zeb c l a1_0 qf)) (rtn (norm1 a1_0) [])))).v
def sh_expr_inner(c:Orc)(l:Lup)(x0 x1:V):Option Out :=({v:=_}:qX (ckA 11 x0<|qpn c 94 [(norm1 (agN 11 x0)),(norm1 x1)] fun v1=>ckA 11 v1<|qpn c 43 [(norm1 (agN 11 v1))] fun v2=>qeql (cell v1 0) (.int .i64 3) fun v3=>cnd v3 (zaV c l v2 (cell v1 0) qt (agN 11 x0) (agN 11 v1)) (qeql (cell v1 0) (.int .i64 4) fun v4=>cnd v4 (zaV c l v2 (cell v1 0) qt (agN 11 x0) (agN 11 v1)) (qeql (cell v1 0) (.int .i64 5) fun v5=>cnd v5 (zaV c l v2 (cell v1 0) qt (agN 11 x0) (agN 11 v1)) (qeql (cell v1 0) (.int .i64 6) fun v6=>cnd v6 (zaV c l v2 (cell v1 0) qt (agN 11 x0) (agN 11 v1)) (qeql (cell v1 0) (.int .i64 7) fun v7=>cnd v7 (zaV c l v2 (cell v1 0) qt (agN 11 x0) (agN 11 v1)) (qeql (cell v1 0) (.int .i64 8) fun v8=>zaV c l v2 (cell v1 0) v8 (agN 11 x0) (agN 11 v1)))))))).v
theorem zst:evF Tryz.prog G c l [] 10 [] 89 [.d x0,.d x1] []=sh_expr_inner c l x0 x1:=by kernel_rfl
def ziJ(c:Orc)(l:Lup)(a1_0:V):Option Out :=({v:=_}:qX (qpn c 42 [(norm1 a1_0),(.str [44,32])] fun v1=>qadd (.str [40]) v1 fun v2=>qadd v2 (.str [41]) fun v3=>rtn (norm1 v3) [])).v
def zeO(c:Orc)(l:Lup)(s:List V):Option (Stp Out) :=({v:=_}:qX (qlss (gt s 2) (gt s 1) fun v1=>cnd v1 (qel 11 (gt s 0) (gt s 2) fun v2=>qlt 11 v2 0 fun v3=>ckA 11 v3<|qpo c 43 [(norm1 (agN 11 v3))] fun v4=>ck1 (norm1 v4)<|qap 1 16 (gt s 3) (.list [(norm1 v4)]) fun v5=>qadd (gt s 2) qj fun v6=>some (.next [(gt s 0),(gt s 1),v6,v5])) (om (ziJ c l (gt s 3))))).v
def zkM(c:Orc)(l:Lup)(x0:V):Option Out:=(lenL x0).bind fun v1=>l Out (zeO c l) [x0,v1,(.int .i64 0),.nils]
def zj7:List LA:=[⟨false,[(3,.q 24),(6,.d),(7,.d),(8,.d)],[.rq 24 9 1]⟩]
theorem zq3:evF Tryz.prog G c l [] 10 zj7 91 [.d x0] []=zkM c l x0:=by kernel_rfl
def zof(c:Orc)(l:Lup)(x0 x1:V):Option Out :=({v:=_}:qX (ckA 11 x0<|cnd (cell x0 8) (qadd (.str [32,110,111,116,32]) x1 fun v1=>qadd v1 (.str [32]) fun v2=>rtn (norm1 v2) []) (qadd (.str [32]) x1 fun v3=>qadd v3 (.str [32]) fun v4=>rtn (norm1 v4) []))).v
theorem zwi:evF Tryz.prog G c l [] 10 [] 90 [.d x0,.d x1] []=zof c l x0 x1:=by kernel_rfl
def zdU(c:Orc)(l:Lup)(a3_0:V):Option Out:=(appV 1 16 a3_0 (.list [(.str [101,110,100])])).bind fun v1=>cl0 c 42 [(norm1 v1),(.str [32])] (fun w=>pnk w []) fun v2=>rtn (norm1 v2) []
def zeX(c:Orc)(l:Lup)(a2_0 a2_1:V):Option Out :=({v:=_}:qX (qll a2_0 fun v1=>qeql v1 qj fun v2=>cnd v2 (qel 11 a2_0 qi fun v3=>qlt 11 v3 0 fun v4=>qpn c 43 [(norm1 v4)] fun v5=>ck1 (norm1 v5)<|qap 1 16 a2_1 (.list [(.str [101,108,115,101]),(norm1 v5)]) fun v6=>zdU c l v6) (zdU c l a2_1))).v
def zcY(c:Orc)(l:Lup)(s:List V):Option (Stp Out) :=({v:=_}:qX (qll (gt s 0) fun v1=>qgtr v1 qj fun v2=>cnd v2 (qel 11 (gt s 0) qi fun v3=>qlt 11 v3 0 fun v4=>qel 11 (gt s 0) qj fun v5=>qlt 11 v5 0 fun v6=>qpo c 43 [(norm1 v4)] fun v7=>qpo c 43 [(norm1 v6)] fun v8=>ck1 (norm1 v7)<|ck1 (norm1 v8)<|qap 1 16 (gt s 1) (.list [(.str [119,104,101,110]),(norm1 v7),(.str [116,104,101,110]),(norm1 v8)]) fun v9=>(slL 11 (gt s 0) (some (.int .i64 2)) none).bind fun v10=>some (.next [v10,v9])) (om (zeX c l (gt s 0) (gt s 1))))).v
def zdV(c:Orc)(l:Lup)(a1_0 a1_1:V):Option Out:=l Out (zcY c l) [a1_0,a1_1]
def zdT(c:Orc)(l:Lup)(a4_0 a4_1:V):Option Out :=({v:=_}:qX (cnd a4_1 (qel 11 a4_0 qi fun v1=>qlt 11 v1 0 fun v2=>qpn c 43 [(norm1 v2)] fun v3=>ck1 (norm1 v3)<|qap 1 16 (.list [(.str [99,97,115,101])]) (.list [(norm1 v3)]) fun v4=>(slL 11 a4_0 (some qj) none).bind fun v5=>zdV c l v5 v4) (zdV c l a4_0 (.list [(.str [99,97,115,101])])))).v
def zf0(c:Orc)(l:Lup)(x0:V):Option Out :=({v:=_}:qX (ckA 11 x0<|cnd (cell x0 9) (qll (cell x0 10) fun v1=>qgtr v1 qi fun v2=>zdT c l (cell x0 10) v2) (zdT c l (cell x0 10) qf))).v
def zil:List LA:=[⟨false,[(3,.d),(4,.q 15)],[.rq 15 9 1]⟩]
theorem znq:evF Tryz.prog G c l [(30,15),(48,15),(62,15),(66,15)] 10 zil 92 [.d x0] []=zf0 c l x0:=by kernel_rfl
def zeN(c:Orc)(l:Lup)(x0:V):Option Out :=({v:=_}:qX (ckA 11 x0<|qeql (cell x0 0) (.int .i64 10) fun v1=>cnd v1 (qpn c 91 [(norm1 (cell x0 10))] fun v2=>qadd (cell x0 1) v2 fun v3=>rtn (norm1 v3) []) (qll (cell x0 10) fun v4=>qeql v4 qi fun v5=>cnd v5 (qadd (cell x0 1) (.str [40,42,41]) fun v6=>rtn (norm1 v6) []) (cnd (cell x0 9) (qadd (cell x0 1) (.str [40,100,105,115,116,105,110,99,116,32]) fun v7=>qpn c 94 [(norm1 (agN 11 x0)),qi] fun v8=>qpn c 43 [(norm1 v8)] fun v9=>qadd v7 v9 fun v10=>qadd v10 (.str [41]) fun v11=>rtn (norm1 v11) []) (qadd (cell x0 1) (.str [40]) fun v12=>qpn c 94 [(norm1 (agN 11 x0)),qi] fun v13=>qpn c 43 [(norm1 v13)] fun v14=>qadd v12 v14 fun v15=>qadd v15 (.str [41]) fun v16=>rtn (norm1 v16) []))))).v
theorem zgA:evF Tryz.prog G c l [] 10 [] 93 [.d x0] []=zeN c l x0:=by kernel_rfl
def zaF(c:Orc)(l:Lup)(a1_0 a1_1 a1_2:V):Option Out :=({v:=_}:qX (cnd a1_1 (qpn c 93 [(norm1 (agN 11 a1_2))] fun v1=>rtn (norm1 v1) []) (qeql a1_0 (.int .i64 12) fun v2=>cnd v2 (qpn c 94 [(norm1 (agN 11 a1_2)),qi] fun v3=>qpn c 43 [(norm1 v3)] fun v4=>qadd (.str [99,97,115,116,40]) v4 fun v5=>qadd v5 (.str [32,97,115,32]) fun v6=>qadd v6 (cell a1_2 1) fun v7=>qadd v7 (.str [41]) fun v8=>rtn (norm1 v8) []) (rtn qs [])))).v
def zaS(c:Orc)(l:Lup)(x0:V):Option Out :=({v:=_}:qX (ckA 11 x0<|qeql (cell x0 0) qj fun v1=>cnd v1 (qpn c 88 [(norm1 (.agg [(cell x0 2),(cell x0 3),(cell x0 4)]))] fun v2=>rtn (norm1 v2) []) (qeql (cell x0 0) (.int .i64 2) fun v3=>cnd v3 (qneq (cell x0 5) qs fun v4=>cnd v4 (qadd (cell x0 5) (.str [46]) fun v5=>qadd v5 (cell x0 6) fun v6=>rtn (norm1 v6) []) (rtn (norm1 (cell x0 6)) [])) (qeql (cell x0 0) (.int .i64 3) fun v7=>cnd v7 (qeql (cell x0 1) (.str [110,111,116]) fun v8=>cnd v8 (qpn c 89 [(norm1 (agN 11 x0)),qi] fun v9=>qadd (.str [110,111,116,32]) v9 fun v10=>rtn (norm1 v10) []) (qpn c 89 [(norm1 (agN 11 x0)),qi] fun v11=>qadd (cell x0 1) v11 fun v12=>rtn (norm1 v12) [])) (qeql (cell x0 0) (.int .i64 4) fun v13=>cnd v13 (qpn c 89 [(norm1 (agN 11 x0)),qi] fun v14=>qadd v14 (.str [32]) fun v15=>qadd v15 (cell x0 1) fun v16=>qadd v16 (.str [32]) fun v17=>qpn c 89 [(norm1 (agN 11 x0)),qj] fun v18=>qadd v17 v18 fun v19=>rtn (norm1 v19) []) (qeql (cell x0 0) (.int .i64 5) fun v20=>cnd v20 (cnd (cell x0 8) (qpn c 89 [(norm1 (agN 11 x0)),qi] fun v21=>qadd v21 (.str [32,105,115,32,110,111,116,32]) fun v22=>qpn c 89 [(norm1 (agN 11 x0)),qj] fun v23=>qadd v22 v23 fun v24=>rtn (norm1 v24) []) (qpn c 89 [(norm1 (agN 11 x0)),qi] fun v25=>qadd v25 (.str [32,105,115,32]) fun v26=>qpn c 89 [(norm1 (agN 11 x0)),qj] fun v27=>qadd v26 v27 fun v28=>rtn (norm1 v28) [])) (qeql (cell x0 0) (.int .i64 6) fun v29=>cnd v29 (qll (cell x0 10) fun v30=>(zkB .min qj v30).bind fun v31=>(slL 11 (cell x0 10) (some v31) none).bind fun v32=>qpn c 89 [(norm1 (agN 11 x0)),qi] fun v33=>qpn c 90 [(norm1 (agN 11 x0)),(.str [105,110])] fun v34=>qadd v33 v34 fun v35=>qpn c 91 [(norm1 v32)] fun v36=>qadd v35 v36 fun v37=>rtn (norm1 v37) []) (qeql (cell x0 0) (.int .i64 7) fun v38=>cnd v38 (qpn c 89 [(norm1 (agN 11 x0)),qi] fun v39=>qpn c 90 [(norm1 (agN 11 x0)),(.str [98,101,116,119,101,101,110])] fun v40=>qadd v39 v40 fun v41=>qpn c 89 [(norm1 (agN 11 x0)),qj] fun v42=>qadd v41 v42 fun v43=>qadd v43 (.str [32,97,110,100,32]) fun v44=>qpn c 89 [(norm1 (agN 11 x0)),(.int .i64 2)] fun v45=>qadd v44 v45 fun v46=>rtn (norm1 v46) []) (qeql (cell x0 0) (.int .i64 8) fun v47=>cnd v47 (qpn c 89 [(norm1 (agN 11 x0)),qi] fun v48=>qpn c 90 [(norm1 (agN 11 x0)),(.str [108,105,107,101])] fun v49=>qadd v48 v49 fun v50=>qpn c 89 [(norm1 (agN 11 x0)),qj] fun v51=>qadd v50 v51 fun v52=>rtn (norm1 v52) []) (qeql (cell x0 0) (.int .i64 9) fun v53=>cnd v53 (qpn c 92 [(norm1 (agN 11 x0))] fun v54=>rtn (norm1 v54) []) (qeql (cell x0 0) (.int .i64 10) fun v55=>cnd v55 (zaF c l (cell x0 0) qt (agN 11 x0)) (qeql (cell x0 0) (.int .i64 11) fun v56=>zaF c l (cell x0 0) v56 (agN 11 x0))))))))))))).v
theorem zsu:evF Tryz.prog G c l [] 10 [] 43 [.d x0] []=zaS c l x0:=by kernel_rfl
def zeJ(c:Orc)(l:Lup)(x0:V):Option Out :=({v:=_}:qX (ckA 3 x0<|qeql (cell x0 0) qi fun v1=>cnd v1 (rtn (.str [110,117,108,108]) []) (qeql (cell x0 0) qj fun v2=>cnd v2 (qpn c 119 [(norm1 (cell x0 1))] fun v3=>rtn (norm1 v3) []) (qeql (cell x0 0) (.int .i64 2) fun v4=>cnd v4 (qpn c 120 [(norm1 (cell x0 2)),(.str [39]),(.str [39,39])] fun v5=>qadd (.str [39]) v5 fun v6=>qadd v6 (.str [39]) fun v7=>rtn (norm1 v7) []) (qeql (cell x0 0) (.int .i64 3) fun v8=>cnd v8 (qpn c 121 [(norm1 (cell x0 2))] fun v9=>qadd (.str [120,39]) v9 fun v10=>qadd v10 (.str [39]) fun v11=>rtn (norm1 v11) []) (rtn qs [])))))).v
theorem zso:evF Tryz.prog G c l [] 10 [] 88 [.d x0] []=zeJ c l x0:=by kernel_rfl
def zgi(c:Orc)(l:Lup)(a1_0:V):Option Out:=(b0 .add a1_0 (.str [39])).bind fun v1=>rtn (norm1 v1) []
def zds(c:Orc)(l:Lup)(a2_0 a2_1 a2_2:V):Option (Stp Out) :=({v:=_}:qX (qadd a2_1 qj fun v1=>(slS (cell a2_2 2) (some a2_1) (some v1)).bind fun v2=>qadd a2_0 v2 fun v3=>qadd a2_1 qj fun v4=>some (.next [v3,v4,(agN 3 a2_2)]))).v
def zcx(c:Orc)(l:Lup)(s:List V):Option (Stp Out) :=({v:=_}:qX (qls (cell (gt s 2) 2) fun v1=>qlss (gt s 1) v1 fun v2=>cnd v2 ((idxV (cell (gt s 2) 2) (gt s 1)).bind fun v3=>qeql v3 (.int .u8 39) fun v4=>cnd v4 (qadd (gt s 0) (.str [39]) fun v5=>zds c l v5 (gt s 1) (agN 3 (gt s 2))) (zds c l (gt s 0) (gt s 1) (agN 3 (gt s 2)))) (om (zgi c l (gt s 0))))).v
def zcJ(c:Orc)(l:Lup)(x0:V):Option Out :=({v:=_}:qX (ckA 3 x0<|qeql (cell x0 0) qi fun v1=>cnd v1 (rtn (.str [110,117,108,108]) []) (qeql (cell x0 0) qj fun v2=>cnd v2 (qpn c 95 [(norm1 (cell x0 1))] fun v3=>rtn (norm1 v3) []) (qeql (cell x0 0) (.int .i64 2) fun v4=>cnd v4 (l Out (zcx c l) [(.str [39]),qi,(agN 3 x0)]) (qeql (cell x0 0) (.int .i64 3) fun v5=>cnd v5 (qpn c 96 [(norm1 (cell x0 2))] fun v6=>qadd (.str [120,39]) v6 fun v7=>qadd v7 (.str [39]) fun v8=>rtn (norm1 v8) []) (rtn qs [])))))).v
def zhG:List LA:=[⟨false,[(1,.c (.p 10 0)),(3,.d),(4,.d)],[.bv 10 44 3]⟩]
theorem zmt:evF Tryz.prog G c l [] 10 zhG 48 [.d x0] []=zcJ c l x0:=by kernel_rfl
def annTx(f:FuncId)(d:List (Nat×Nat)×List LA):List (Nat×Nat)×List LA:=if f=91 then([],zj7)else if f=92 then([(30,15),(48,15),(62,15),(66,15)],zil)else if f=48 then([],zhG)else d
end
section
open Go.RowKit
open Vm
def annTy(f:FuncId)(d:List (Nat×Nat)×List LA):List (Nat×Nat)×List LA:=d
end
section
open Go.RowKit
open Vm
variable(G:Nat→Vm.V)(c:Orc)(l:Lup)(x0 x1 x2 x3 y0 y1:V)
def zkx(c:Orc)(l:Lup)(x1 y0 y1:V):Option Out:=ck1 y1<|ck1 x1<|pnk (.iface 78 (norm1 (.agg [y1,x1]))) [.blk 76 [y0,y1]]
theorem zla:evF Tryz.prog G c l [] 10 [] 108 [.p 0 0,.d x1] [.blk 76 [y0,y1]]=zkx c l x1 y0 y1:=by kernel_rfl
def zdv(c:Orc)(l:Lup)(x1 x2 x3 y0 y1:V):Option Out :=({v:=_}:qX (qadd y1 x1 fun v1=>qll y0 fun v2=>qgeq v1 v2 fun v3=>cnd v3 (rtn qf [.blk 76 [y0,y1]]) (qadd y1 x1 fun v4=>qel 6 y0 v4 fun v5=>qlt 6 v5 0 fun v6=>ckA 6 v6<|qeql (cell v6 0) x2 fun v7=>cnd v7 (qeql x3 qs fun v8=>cnd v8 (rtn qt [.blk 76 [y0,y1]]) (qeql (cell v6 1) x3 fun v9=>rtn (norm1 v9) [.blk 76 [y0,y1]])) (rtn qf [.blk 76 [y0,y1]])))).v
theorem ziP:evF Tryz.prog G c l [] 10 [] 128 [.p 0 0,.d x1,.d x2,.d x3] [.blk 76 [y0,y1]]=zdv c l x1 x2 x3 y0 y1:=by kernel_rfl
def ze9(c:Orc)(l:Lup)(x1 x2 y0 y1:V):Option Out :=({v:=_}:qX (qL2 76 c 128 [qp,qi,(norm1 x1),(norm1 x2)] (.blk 76 [y0,y1]) fun v1 v2=>qno v1 fun v4=>cnd v4 (rtn qf [qE2 76 v2]) (qadd (zad v2 1) qj fun v5=>ck1 v5<|rtn qt [.blk 76 [(zad v2 0),v5]]))).v
theorem zh6:evF Tryz.prog G c l [] 10 [] 107 [.p 0 0,.d x1,.d x2] [.blk 76 [y0,y1]]=ze9 c l x1 x2 y0 y1:=by kernel_rfl
def zgQ(c:Orc)(l:Lup)(x1 y0 y1:V):Option Out :=({v:=_}:qX (qL2 76 c 107 [qp,(.int .i64 2),(norm1 x1)] (.blk 76 [y0,y1]) fun v1 v2=>rtn (norm1 v1) [qE2 76 v2])).v
theorem zk4:evF Tryz.prog G c l [] 10 [] 65 [.p 0 0,.d x1] [.blk 76 [y0,y1]]=zgQ c l x1 y0 y1:=by kernel_rfl
def zeW(c:Orc)(l:Lup)(x1 y0 y1:V):Option Out :=({v:=_}:qX (qL2 76 c 65 [qp,(norm1 x1)] (.blk 76 [y0,y1]) fun v1 v2=>qno v1 fun v4=>cnd v4 (qL2 76 c 108 [qp,(.int .i64 20)] (qE2 76 v2) fun v5 v6=>rtn (.tup []) [qE2 76 v6]) (rtn (.tup []) [qE2 76 v2]))).v
theorem zk7:evF Tryz.prog G c l [] 10 [] 66 [.p 0 0,.d x1] [.blk 76 [y0,y1]]=zeW c l x1 y0 y1:=by kernel_rfl
def zd6(c:Orc)(l:Lup)(a1_0:V):Option Out :=({v:=_}:qX (qsub (cell a1_0 1) qj fun v1=>qel 6 (cell a1_0 0) v1 fun v2=>qld v2 1 fun v3=>rtn (norm1 v3) [qF2 76 a1_0])).v
def zdR(c:Orc)(l:Lup)(y0 y1:V):Option Out :=({v:=_}:qX (qL2 76 c 107 [qp,qj,qs] (.blk 76 [y0,y1]) fun v1 v2=>qno v1 fun v4=>cnd v4 (qL2 76 c 108 [qp,(.int .i64 20)] (qE2 76 v2) fun v5 v6=>zd6 c l (qA2 v6)) (zd6 c l (qA2 v2)))).v
theorem zk6:evF Tryz.prog G c l [] 10 [] 129 [.p 0 0] [.blk 76 [y0,y1]]=zdR c l y0 y1:=by kernel_rfl
def zdS(c:Orc)(l:Lup)(y0 y1:V):Option Out :=({v:=_}:qX (cl0 c 132 [(norm1 y0),(norm1 y1)] (fun w=>pnk w [.blk 76 [y0,y1]]) fun v1=>qex v1 0 fun v2=>qex v1 1 fun v3=>qex v1 2 fun v4=>ckA 11 v2<|ck1 v3<|qneq v4 qi fun v5=>cnd v5 (qL2 76 c 108 [qp,(norm1 v4)] (.blk 76 [y0,v3]) fun v6 v7=>ckA 11 (agN 11 v2)<|rtn (norm1 (agN 11 v2)) [qE2 76 v7]) (ckA 11 (agN 11 v2)<|rtn (norm1 (agN 11 v2)) [.blk 76 [y0,v3]]))).v
theorem zlb:evF Tryz.prog G c l [] 10 [] 106 [.p 0 0] [.blk 76 [y0,y1]]=zdS c l y0 y1:=by kernel_rfl
def zgv(c:Orc)(l:Lup)(s:List V):Option (Stp Out) :=({v:=_}:qX (qM2 76 c 107 [qp,(.int .i64 4),(.str [44])] (qF2 76 (gt s 1)) fun v1 v2=>cnd v1 (cl1 c (fnG (gt s 0)) [qp] (qE2 76 v2) 76 2 (fun v6 v5=>om (pnk v6 [qE2 76 v5])) fun v4 v5=>ckA 14 (norm1 v4)<|qap 14 168 (gt s 2) (.list [(norm1 v4)]) fun v7=>some (.next [(.fn (fnG (gt s 0)) [] []),(qA2 v5),v7])) (om (rtn (norm1 (gt s 2)) [qE2 76 v2])))).v
def zhK(c:Orc)(l:Lup)(g1:FuncId)(y0 y1:V):Option Out :=({v:=_}:qX (cl1 c g1 [qp] (.blk 76 [y0,y1]) 76 2 (fun v3 v2=>pnk v3 [qE2 76 v2]) fun v1 v2=>ckA 14 (norm1 v1)<|l Out (zgv c l) [(.fn g1 [] []),(qA2 v2),(.list [(norm1 v1)])])).v
def zeE:List LA:=[⟨false,[(0,.c (.p 0 0)),(1,.f [.p 0 0] []),(5,.q 13)],[.bv 0 76 2,.rq 13 48 14]⟩]
theorem zis(G:Nat→Vm.V)(c:Orc)(l:Lup)(g1:FuncId)(y0 y1:V):evF Tryz.prog G c l [(21,13)] 10 zeE 102 [.p 0 0,.f g1 [.p 0 0] []] [.blk 76 [y0,y1]]=zhK c l g1 y0 y1:=by kernel_rfl
def zgw(c:Orc)(l:Lup)(s:List V):Option (Stp Out) :=({v:=_}:qX (qM2 76 c 107 [qp,(.int .i64 4),(.str [44])] (qF2 76 (gt s 1)) fun v1 v2=>cnd v1 (cl1 c (fnG (gt s 0)) [qp] (qE2 76 v2) 76 2 (fun v6 v5=>om (pnk v6 [qE2 76 v5])) fun v4 v5=>ckA 11 (norm1 v4)<|qap 11 128 (gt s 2) (.list [(norm1 v4)]) fun v7=>some (.next [(.fn (fnG (gt s 0)) [] []),(qA2 v5),v7])) (om (rtn (norm1 (gt s 2)) [qE2 76 v2])))).v
def zhL(c:Orc)(l:Lup)(g1:FuncId)(y0 y1:V):Option Out :=({v:=_}:qX (cl1 c g1 [qp] (.blk 76 [y0,y1]) 76 2 (fun v3 v2=>pnk v3 [qE2 76 v2]) fun v1 v2=>ckA 11 (norm1 v1)<|l Out (zgw c l) [(.fn g1 [] []),(qA2 v2),(.list [(norm1 v1)])])).v
def zeF:List LA:=[⟨false,[(0,.c (.p 0 0)),(1,.f [.p 0 0] []),(5,.q 13)],[.bv 0 76 2,.rq 13 46 11]⟩]
theorem zit(G:Nat→Vm.V)(c:Orc)(l:Lup)(g1:FuncId)(y0 y1:V):evF Tryz.prog G c l [(21,13)] 10 zeF 105 [.p 0 0,.f g1 [.p 0 0] []] [.blk 76 [y0,y1]]=zhL c l g1 y0 y1:=by kernel_rfl
def zgu(c:Orc)(l:Lup)(s:List V):Option (Stp Out) :=({v:=_}:qX (qM2 76 c 107 [qp,(.int .i64 4),(.str [44])] (qF2 76 (gt s 1)) fun v1 v2=>cnd v1 (cl1 c (fnG (gt s 0)) [qp] (qE2 76 v2) 76 2 (fun v6 v5=>om (pnk v6 [qE2 76 v5])) fun v4 v5=>ckA 13 (norm1 v4)<|qap 13 144 (gt s 2) (.list [(norm1 v4)]) fun v7=>some (.next [(.fn (fnG (gt s 0)) [] []),(qA2 v5),v7])) (om (rtn (norm1 (gt s 2)) [qE2 76 v2])))).v
def zhJ(c:Orc)(l:Lup)(g1:FuncId)(y0 y1:V):Option Out :=({v:=_}:qX (cl1 c g1 [qp] (.blk 76 [y0,y1]) 76 2 (fun v3 v2=>pnk v3 [qE2 76 v2]) fun v1 v2=>ckA 13 (norm1 v1)<|l Out (zgu c l) [(.fn g1 [] []),(qA2 v2),(.list [(norm1 v1)])])).v
def zeD:List LA:=[⟨false,[(0,.c (.p 0 0)),(1,.f [.p 0 0] []),(5,.q 13)],[.bv 0 76 2,.rq 13 50 13]⟩]
theorem zir(G:Nat→Vm.V)(c:Orc)(l:Lup)(g1:FuncId)(y0 y1:V):evF Tryz.prog G c l [(21,13)] 10 zeD 67 [.p 0 0,.f g1 [.p 0 0] []] [.blk 76 [y0,y1]]=zhJ c l g1 y0 y1:=by kernel_rfl
def zjH(c:Orc)(l:Lup)(x1 y0 y1:V):Option Out :=({v:=_}:qX (qL2 76 c 65 [qp,(norm1 x1)] (.blk 76 [y0,y1]) fun v1 v2=>qno v1 fun v4=>cnd v4 (rtn (.list []) [qE2 76 v2]) (qL2 76 c 106 [qp] (qE2 76 v2) fun v5 v6=>ckA 11 (norm1 v5)<|rtn (.list [(norm1 v5)]) [qE2 76 v6]))).v
theorem zkH:evF Tryz.prog G c l [] 10 [] 69 [.p 0 0,.d x1] [.blk 76 [y0,y1]]=zjH c l x1 y0 y1:=by kernel_rfl
def zbn(c:Orc)(l:Lup)(a1_0 a1_1:V):Option Out :=({v:=_}:qX (cnd a1_0 (qadd (cell a1_1 1) (.int .i64 3) fun v1=>ck1 v1<|qsub v1 (.int .i64 3) fun v2=>qel 6 (cell a1_1 0) v2 fun v3=>qld v3 1 fun v4=>ck1 v4<|ckA 14 (.agg [qi,qs,qi,qi,qs,qs,qs,qi,qf,qf,.nils,qs,qt,v4])<|rtn (norm1 (.agg [qi,qs,qi,qi,qs,qs,qs,qi,qf,qf,.nils,qs,qt,v4])) [.blk 76 [(cell a1_1 0),v1]]) (qL2 76 c 106 [qp] (qF2 76 a1_1) fun v5 v6=>ckA 11 v5<|ckA 14 (.agg (qC11 v5 [qs,qf,qs]))<|qL2 76 c 65 [qp,(.str [97,115])] (qE2 76 v6) fun v8 v9=>cnd v8 (qL2 76 c 129 [qp] (qE2 76 v9) fun v11 v12=>ck1 v11<|ckA 14 (.agg (qC11 v5 [v11,qf,qs]))<|rtn (norm1 (.agg (qC11 v5 [v11,qf,qs]))) [qE2 76 v12]) (ckA 14 (.agg (qC11 v5 [qs,qf,qs]))<|rtn (norm1 (.agg (qC11 v5 [qs,qf,qs]))) [qE2 76 v9])))).v
def zkw(c:Orc)(l:Lup)(y0 y1:V):Option Out :=({v:=_}:qX (qL2 76 c 107 [qp,(.int .i64 4),(.str [42])] (.blk 76 [y0,y1]) fun v1 v2=>cnd v1 (rtn (.agg [qi,qs,qi,qi,qs,qs,qs,qi,qf,qf,(.list []),qs,qt,qs]) [qE2 76 v2]) (qL2 76 c 128 [qp,qi,qj,qs] (qE2 76 v2) fun v4 v5=>cnd v4 (qL2 76 c 128 [qp,qj,(.int .i64 4),(.str [46])] (qE2 76 v5) fun v7 v8=>cnd v7 (qL2 76 c 128 [qp,(.int .i64 2),(.int .i64 4),(.str [42])] (qE2 76 v8) fun v10 v11=>zbn c l v10 (qA2 v11)) (zbn c l qf (qA2 v8))) (zbn c l qf (qA2 v5))))).v
theorem zk9:evF Tryz.prog G c l [] 10 [] 103 [.p 0 0] [.blk 76 [y0,y1]]=zkw c l y0 y1:=by kernel_rfl
def zcL(c:Orc)(l:Lup)(a1_0 a1_1:V):Option Out :=({v:=_}:qX (qL2 76 c 129 [qp] (qF2 76 a1_1) fun v1 v2=>ck1 v1<|ck1 v1<|ck1 a1_0<|ckA 4 (.agg [v1,v1,a1_0,.nils])<|qL2 76 c 65 [qp,(.str [97,115])] (qE2 76 v2) fun v4 v5=>cnd v4 (qL2 76 c 129 [qp] (qE2 76 v5) fun v7 v8=>ck1 v7<|ckA 4 (.agg [v1,v7,a1_0,.nils])<|rtn (norm1 (.agg [v1,v7,a1_0,.nils])) [qE2 76 v8]) (ckA 4 (.agg [v1,v1,a1_0,.nils])<|rtn (norm1 (.agg [v1,v1,a1_0,.nils])) [qE2 76 v5]))).v
def zbP(c:Orc)(l:Lup)(a2_0 a2_1 a2_2:V):Option Out :=({v:=_}:qX (cnd a2_1 (qL2 76 c 108 [qp,(.int .i64 3)] (qF2 76 a2_2) fun v1 v2=>zcL c l a2_0 (qA2 v2)) (zcL c l a2_0 (agN 2 a2_2)))).v
def zdu(c:Orc)(l:Lup)(x1 x2 y0 y1:V):Option Out :=({v:=_}:qX (qgeq x1 (.int .i64 6) fun v1=>cnd v1 (qL2 76 c 128 [qp,qi,qj,qs] (.blk 76 [y0,y1]) fun v2 v3=>zbP c l x2 v2 (qA2 v3)) (zbP c l x2 qf (.agg [y0,y1])))).v
theorem zkF:evF Tryz.prog G c l [] 10 [] 130 [.p 0 0,.d x1,.d x2] [.blk 76 [y0,y1]]=zdu c l x1 x2 y0 y1:=by kernel_rfl
def zkv(c:Orc)(l:Lup)(y0 y1:V):Option Out :=({v:=_}:qX (qL2 76 c 107 [qp,(.int .i64 4),(.str [44])] (.blk 76 [y0,y1]) fun v1 v2=>cnd v1 (rtn (.tup [qi,qt]) [qE2 76 v2]) (qL2 76 c 65 [qp,(.str [99,114,111,115,115])] (qE2 76 v2) fun v4 v5=>cnd v4 (qL2 76 c 66 [qp,(.str [106,111,105,110])] (qE2 76 v5) fun v7 v8=>rtn (.tup [qi,qt]) [qE2 76 v8]) (qL2 76 c 65 [qp,(.str [105,110,110,101,114])] (qE2 76 v5) fun v10 v11=>cnd v10 (qL2 76 c 66 [qp,(.str [106,111,105,110])] (qE2 76 v11) fun v13 v14=>rtn (.tup [qj,qt]) [qE2 76 v14]) (qL2 76 c 65 [qp,(.str [108,101,102,116])] (qE2 76 v11) fun v16 v17=>cnd v16 (qL2 76 c 66 [qp,(.str [106,111,105,110])] (qE2 76 v17) fun v19 v20=>rtn (.tup [(.int .i64 2),qt]) [qE2 76 v20]) (qL2 76 c 65 [qp,(.str [106,111,105,110])] (qE2 76 v17) fun v22 v23=>cnd v22 (rtn (.tup [qj,qt]) [qE2 76 v23]) (rtn (.tup [qi,qf]) [qE2 76 v23]))))))).v
theorem zk8:evF Tryz.prog G c l [] 10 [] 131 [.p 0 0] [.blk 76 [y0,y1]]=zkv c l y0 y1:=by kernel_rfl
def zck(c:Orc)(l:Lup)(a1_0 a1_1 a1_2 a1_3 a1_4 a1_5:V):Option (Stp Out):=ckA 4 (norm1 (.agg [a1_2,a1_3,a1_4,a1_5]))<|(appV 4 64 a1_1 (.list [(norm1 (.agg [a1_2,a1_3,a1_4,a1_5]))])).bind fun v1=>some (.next [(agN 2 a1_0),v1])
def zaA(c:Orc)(l:Lup)(s:List V):Option (Stp Out) :=({v:=_}:qX (qM2 76 c 131 [qp] (qF2 76 (gt s 0)) fun v1 v2=>qex v1 0 fun v4=>qex v1 1 fun v5=>qno v5 fun v6=>cnd v6 (om (rtn (norm1 (gt s 1)) [qE2 76 v2])) (qll (gt s 1) fun v7=>qM2 76 c 130 [qp,(norm1 v7),(norm1 v4)] (qE2 76 v2) fun v8 v9=>ckA 4 v8<|qneq v4 qi fun v11=>cnd v11 (qM2 76 c 66 [qp,(.str [111,110])] (qE2 76 v9) fun v12 v13=>qM2 76 c 106 [qp] (qE2 76 v13) fun v15 v16=>ckA 11 (norm1 v15)<|zck c l (qA2 v16) (gt s 1) (cell v8 0) (cell v8 1) (cell v8 2) (.list [(norm1 v15)])) (zck c l (qA2 v9) (gt s 1) (cell v8 0) (cell v8 1) (cell v8 2) (cell v8 3))))).v
def zjq(c:Orc)(l:Lup)(y0 y1:V):Option Out :=({v:=_}:qX (qL2 76 c 130 [qp,qi,qi] (.blk 76 [y0,y1]) fun v1 v2=>ckA 4 (norm1 v1)<|l Out (zaA c l) [(qA2 v2),(.list [(norm1 v1)])])).v
def zfM:List LA:=[⟨false,[(0,.c (.p 0 0)),(3,.q 13)],[.bv 0 76 2,.rq 13 42 4]⟩]
theorem zjP:evF Tryz.prog G c l [(45,13)] 10 zfM 104 [.p 0 0] [.blk 76 [y0,y1]]=zjq c l y0 y1:=by kernel_rfl
def zc3(c:Orc)(l:Lup)(a2_0 a2_1:V):Option Out :=({v:=_}:qX (qL2 76 c 69 [qp,(.str [104,97,118,105,110,103])] (qF2 76 a2_0) fun v1 v2=>ck1 v1<|ckA 6 (.agg (qC4 a2_1 [v1,(cell a2_1 5)]))<|rtn (norm1 (.agg (qC4 a2_1 [v1,(cell a2_1 5)]))) [qE2 76 v2])).v
def zbo(c:Orc)(l:Lup)(a1_0 a1_1:V):Option Out :=({v:=_}:qX (qL2 76 c 69 [qp,(.str [119,104,101,114,101])] (qF2 76 a1_0) fun v1 v2=>ck1 v1<|qL2 76 c 65 [qp,(.str [103,114,111,117,112])] (qE2 76 v2) fun v4 v5=>cnd v4 (qL2 76 c 66 [qp,(.str [98,121])] (qE2 76 v5) fun v7 v8=>qL2 76 c 105 [qp,(.fn 106 [qp] [])] (qE2 76 v8) fun v10 v11=>ck1 v10<|zc3 c l (qA2 v11) (.agg [(cell a1_1 0),(cell a1_1 1),(cell a1_1 2),v1,(cell a1_1 4),v10])) (zc3 c l (qA2 v5) (.agg [(cell a1_1 0),(cell a1_1 1),(cell a1_1 2),v1,(cell a1_1 4),(cell a1_1 5)])))).v
def zky(c:Orc)(l:Lup)(y0 y1:V):Option Out :=({v:=_}:qX (qL2 76 c 66 [qp,(.str [115,101,108,101,99,116])] (.blk 76 [y0,y1]) fun v1 v2=>qL2 76 c 65 [qp,(.str [100,105,115,116,105,110,99,116])] (qE2 76 v2) fun v4 v5=>ck1 v4<|ckA 6 (.agg [v4,.nils,.nils,.nils,.nils,.nils])<|qL2 76 c 102 [qp,(.fn 103 [qp] [])] (qE2 76 v5) fun v7 v8=>ck1 v7<|qL2 76 c 65 [qp,(.str [102,114,111,109])] (qE2 76 v8) fun v10 v11=>cnd v10 (qL2 76 c 104 [qp] (qE2 76 v11) fun v13 v14=>ck1 v13<|zbo c l (qA2 v14) (.agg [v4,v7,v13,.nils,.nils,.nils])) (zbo c l (qA2 v11) (.agg [v4,v7,.nils,.nils,.nils,.nils])))).v
theorem zlc:evF Tryz.prog G c l [] 10 [] 63 [.p 0 0] [.blk 76 [y0,y1]]=zky c l y0 y1:=by kernel_rfl
def zfz(c:Orc)(l:Lup)(a1_0:V):Option Out :=({v:=_}:qX (qL2 76 c 108 [qp,(.int .i64 20)] (qF2 76 a1_0) fun v1 v2=>rtn qi [qE2 76 v2])).v
def zaB(c:Orc)(l:Lup)(a2_0 a2_1 a2_2 a2_3 a2_4 a2_5:V):Option (Stp Out) :=({v:=_}:qX (cnd a2_3 (qadd (cell a2_4 1) qj fun v1=>ck1 v1<|om (rtn (norm1 a2_0) [.blk 76 [(cell a2_4 0),v1]])) (qadd a2_2 qj fun v2=>some (.next [a2_1,v2,(agN 2 a2_4),a2_5])))).v
def zat(c:Orc)(l:Lup)(s:List V):Option (Stp Out) :=({v:=_}:qX (qlss (gt s 1) (gt s 0) fun v1=>cnd v1 (qel 1 (gt s 3) (gt s 1) fun v2=>qld v2 0 fun v3=>ag (eqS oeq)<|qll (cell (gt s 2) 0) fun v4=>qlss (cell (gt s 2) 1) v4 fun v5=>cnd v5 (qM2 76 c 128 [qp,qi,(.int .i64 2),qs] (qF2 76 (gt s 2)) fun v6 v7=>cnd v6 (qel 6 (zad v7 0) (zad v7 1) fun v9=>qld v9 1 fun v10=>cl0 c 59 [(norm1 v10)] (fun w=>om (pnk w [qE2 76 v7])) fun v11=>qeql v11 v3 fun v12=>zaB c l (gt s 1) (gt s 0) (gt s 1) v12 (qA2 v7) (gt s 3)) (qM2 76 c 128 [qp,qi,qj,qs] (qE2 76 v7) fun v13 v14=>cnd v13 (qel 6 (zad v14 0) (zad v14 1) fun v16=>qld v16 1 fun v17=>cl0 c 59 [(norm1 v17)] (fun w=>om (pnk w [qE2 76 v14])) fun v18=>qeql v18 v3 fun v19=>zaB c l (gt s 1) (gt s 0) (gt s 1) v19 (qA2 v14) (gt s 3)) (zaB c l (gt s 1) (gt s 0) (gt s 1) qf (qA2 v14) (gt s 3)))) (zaB c l (gt s 1) (gt s 0) (gt s 1) qf (agN 2 (gt s 2)) (gt s 3))) (om (zfz c l (agN 2 (gt s 2)))))).v
def zkz(c:Orc)(l:Lup)(y0 y1:V):Option Out:=(lenL (.list [(.str [98,105,110,97,114,121]),(.str [110,111,99,97,115,101])])).bind fun v1=>l Out (zat c l) [v1,(.int .i64 0),(.agg [y0,y1]),(.list [(.str [98,105,110,97,114,121]),(.str [110,111,99,97,115,101])])]
def zgr:List LA:=[⟨false,[(0,.c (.p 0 0)),(5,.q 11),(6,.d),(7,.d)],[.bv 0 76 2,.rq 11 9 1]⟩]
theorem zld:evF Tryz.prog G c l [] 10 zgr 109 [.p 0 0] [.blk 76 [y0,y1]]=zkz c l y0 y1:=by kernel_rfl
def zc2(c:Orc)(l:Lup)(a1_0 a1_1:V):Option Out :=({v:=_}:qX (qL2 76 c 65 [qp,(.str [97,115,99])] (qF2 76 a1_0) fun v1 v2=>qno v1 fun v4=>cnd v4 (qL2 76 c 65 [qp,(.str [100,101,115,99])] (qE2 76 v2) fun v5 v6=>ck1 v5<|ckA 13 (.agg (qC12 a1_1 [v5]))<|rtn (norm1 (.agg (qC12 a1_1 [v5]))) [qE2 76 v6]) (ckA 13 (agN 13 a1_1)<|rtn (norm1 (agN 13 a1_1)) [qE2 76 v2]))).v
def zku(c:Orc)(l:Lup)(y0 y1:V):Option Out :=({v:=_}:qX (qL2 76 c 106 [qp] (.blk 76 [y0,y1]) fun v1 v2=>ckA 11 v1<|ckA 13 (.agg (qC11 v1 [qi,qf]))<|qL2 76 c 65 [qp,(.str [99,111,108,108,97,116,101])] (qE2 76 v2) fun v4 v5=>cnd v4 (qL2 76 c 109 [qp] (qE2 76 v5) fun v7 v8=>ck1 v7<|zc2 c l (qA2 v8) (.agg (qC11 v1 [v7,qf]))) (zc2 c l (qA2 v5) (.agg (qC11 v1 [qi,qf]))))).v
theorem zk5:evF Tryz.prog G c l [] 10 [] 68 [.p 0 0] [.blk 76 [y0,y1]]=zku c l y0 y1:=by kernel_rfl
def zi2(c:Orc)(l:Lup)(y0 y1:V):Option Out :=({v:=_}:qX (qL2 76 c 65 [qp,(.str [117,110,105,111,110])] (.blk 76 [y0,y1]) fun v1 v2=>cnd v1 (qL2 76 c 65 [qp,(.str [97,108,108])] (qE2 76 v2) fun v4 v5=>cnd v4 (rtn (.tup [qj,qt]) [qE2 76 v5]) (rtn (.tup [qi,qt]) [qE2 76 v5])) (qL2 76 c 65 [qp,(.str [105,110,116,101,114,115,101,99,116])] (qE2 76 v2) fun v7 v8=>cnd v7 (rtn (.tup [(.int .i64 2),qt]) [qE2 76 v8]) (qL2 76 c 65 [qp,(.str [101,120,99,101,112,116])] (qE2 76 v8) fun v10 v11=>cnd v10 (rtn (.tup [(.int .i64 3),qt]) [qE2 76 v11]) (rtn (.tup [qi,qf]) [qE2 76 v11]))))).v
theorem zju:evF Tryz.prog G c l [] 10 [] 64 [.p 0 0] [.blk 76 [y0,y1]]=zi2 c l y0 y1:=by kernel_rfl
def zcM(c:Orc)(l:Lup)(a2_0 a2_2 a2_4 a2_5 a2_6:V):Option Out :=({v:=_}:qX (qL2 76 c 69 [qp,(.str [108,105,109,105,116])] (qF2 76 a2_0) fun v1 v2=>ck1 v1<|qll v1 fun v4=>qgtr v4 qi fun v5=>cnd v5 (qL2 76 c 69 [qp,(.str [111,102,102,115,101,116])] (qE2 76 v2) fun v6 v7=>ck1 v6<|ckA 5 (.agg [a2_5,a2_6,a2_2,v1,v6])<|rtn (norm1 (.agg [a2_5,a2_6,a2_2,v1,v6])) [qE2 76 v7]) (ckA 5 (.agg [a2_5,a2_6,a2_2,v1,a2_4])<|rtn (norm1 (.agg [a2_5,a2_6,a2_2,v1,a2_4])) [qE2 76 v2]))).v
def zdY(c:Orc)(l:Lup)(a1_0 a1_2 a1_4 a1_5 a1_6:V):Option Out :=({v:=_}:qX (qL2 76 c 65 [qp,(.str [111,114,100,101,114])] (qF2 76 a1_0) fun v1 v2=>cnd v1 (qL2 76 c 66 [qp,(.str [98,121])] (qE2 76 v2) fun v4 v5=>qL2 76 c 67 [qp,(.fn 68 [qp] [])] (qE2 76 v5) fun v7 v8=>ck1 v7<|zcM c l (qA2 v8) v7 a1_4 a1_5 a1_6) (zcM c l (qA2 v2) a1_2 a1_4 a1_5 a1_6))).v
def za8(c:Orc)(l:Lup)(s:List V):Option (Stp Out) :=({v:=_}:qX (qM2 76 c 64 [qp] (qF2 76 (gt s 0)) fun v1 v2=>qex v1 0 fun v4=>qex v1 1 fun v5=>qno v5 fun v6=>cnd v6 (om (zdY c l (qA2 v2) (gt s 3) (gt s 5) (gt s 2) (gt s 6))) (ck1 (norm1 v4)<|qap 1 8 (gt s 6) (.list [(norm1 v4)]) fun v7=>ag (eqS oeq)<|qM2 76 c 63 [qp] (qE2 76 v2) fun v8 v9=>ckA 6 (norm1 v8)<|qap 6 128 (gt s 2) (.list [(norm1 v8)]) fun v11=>some (.next [(qA2 v9),(agN 5 (gt s 1)),v11,(gt s 3),(gt s 4),(gt s 5),v7])))).v
def zjG(c:Orc)(l:Lup)(y0 y1:V):Option Out :=({v:=_}:qX (qL2 76 c 63 [qp] (.blk 76 [y0,y1]) fun v1 v2=>ckA 6 (norm1 v1)<|l Out (za8 c l) [(qA2 v2),(.agg [.nils,.nils,.nils,.nils,.nils]),(.list [(norm1 v1)]),.nils,.nils,.nils,.nils])).v
def zfU:List LA:=[⟨false,[(0,.c (.p 0 0)),(2,.c (.p 10 0)),(3,.c (.p 15 0))],[.bv 0 76 2,.bv 10 28 5,.rq 13 40 6,.blk 15 28 [.q 13,.q 30,.d,.d,.d],.rq 30 3 1]⟩]
theorem zkG:evF Tryz.prog G c l [(14,1014),(38,13)] 10 zfU 29 [.p 0 0] [.blk 76 [y0,y1]]=zjG c l y0 y1:=by kernel_rfl
def zdX(c:Orc)(m y0 y1 y2 y3 y4 y0_1 y0_2:V):Option (List Ent):=gW m<|(binV .neq false true true m .niface).bind fun v1=>cnd v1 ((tasW none 78 m).bind fun v2=>ckA 2 v2<|agr eeqs (agr eeqs (ck1 (cell v2 0)<|ck1 (cell v2 1)<|some [.blk 28 [.nils,.nils,.nils,.nils,.nils],.blk 3 [(cell v2 0)],.blk 29 [(cell v2 1)]]) (ag eeqs<|ck1 (cell v2 0)<|ck1 (cell v2 1)<|some [.blk 28 [.nils,.nils,.nils,.nils,.nils],.blk 3 [(cell v2 0)],.blk 29 [(cell v2 1)]])) (ag eeqs<|ag eeqs<|ck1 (cell v2 0)<|ck1 (cell v2 1)<|some [.blk 28 [.nils,.nils,.nils,.nils,.nils],.blk 3 [(cell v2 0)],.blk 29 [(cell v2 1)]])) (some [.blk 28 [y0,y1,y2,y3,y4],.blk 3 [y0_1],.blk 29 [y0_2]])
def zeM(c:Orc)(a1_0 a1_1 a1_2:V):Option Out :=({v:=_}:qX (cnd a1_2 (ck1 a1_1<|rtn (.tup [(.agg [(.list []),(.list []),(.list []),(.list []),(.list [])]),(norm1 a1_1),(.int .i64 20)]) []) (ck1 a1_0<|ck1 a1_1<|ckA 2 (.agg [a1_0,a1_1])<|cl1 c 29 [qp] (.blk 76 [a1_0,a1_1]) 76 2 (fun v3 v2=>dfr (zdX c v3 .nils .nils .nils .nils .nils qi qi) [(28,5),(3,1),(29,1)] fun v4=>rtn (.tup [(norm1 (.agg [(zad (nth v4 0) 0),(zad (nth v4 0) 1),(zad (nth v4 0) 2),(zad (nth v4 0) 3),(zad (nth v4 0) 4)])),(norm1 (zad (nth v4 1) 0)),(norm1 (zad (nth v4 2) 0))]) []) fun v1 v2=>ckA 5 v1<|ag oeq<|ckA 5 (agN 5 v1)<|ck1 (zad v2 1)<|dfr (zdX c .niface (cell v1 0) (cell v1 1) (cell v1 2) (cell v1 3) (cell v1 4) (zad v2 1) qi) [(28,5),(3,1),(29,1)] fun v5=>rtn (.tup [(norm1 (.agg [(zad (nth v5 0) 0),(zad (nth v5 0) 1),(zad (nth v5 0) 2),(zad (nth v5 0) 3),(zad (nth v5 0) 4)])),(norm1 (zad (nth v5 1) 0)),(norm1 (zad (nth v5 2) 0))]) []))).v
def ziq(c:Orc)(x0 x1:V):Option Out :=({v:=_}:qX (qlss x1 qi fun v1=>cnd v1 (zeM c x0 x1 qt) (qll x0 fun v2=>qgtr x1 v2 fun v3=>zeM c x0 x1 v3))).v
theorem zq2(G:Nat→Vm.V)(c:Orc)(x0 x1:V):evFD Tryz.prog G c [10,11,12,29] [(4,0),(5,1),(6,2)] 12 [.d x0,.d x1]=ziq c x0 x1:=by kernel_rfl
def zdB(c:Orc)(l:Lup)(a1_0 a1_1 a1_2 a1_3 a1_4:V):Option Out :=({v:=_}:qX (qeql a1_2 qi fun v1=>cnd v1 (qls a1_0 fun v2=>ckA 5 (agN 5 a1_4)<|rtn (.tup [(norm1 (agN 5 a1_4)),(norm1 v2),qi]) []) (qll a1_1 fun v3=>qlss a1_3 v3 fun v4=>cnd v4 (qel 6 a1_1 a1_3 fun v5=>ag oeq<|qld v5 5 fun v6=>rtn (.tup [(.agg [(.list []),(.list []),(.list []),(.list []),(.list [])]),(norm1 v6),(norm1 a1_2)]) []) (qls a1_0 fun v7=>rtn (.tup [(.agg [(.list []),(.list []),(.list []),(.list []),(.list [])]),(norm1 v7),(norm1 a1_2)]) [])))).v
def zc8(c:Orc)(l:Lup)(a2_0 a2_1 a2_2 a2_3 a2_4 a2_5:V):Option Out:=cnd a2_4 (zdB c l a2_0 a2_1 (.int .i64 20) a2_3 (agN 5 a2_5)) (zdB c l a2_0 a2_1 a2_2 a2_3 (agN 5 a2_5))
def zfa(c:Orc)(l:Lup)(x0:V):Option Out :=({v:=_}:qX (qpn c 11 [(norm1 x0)] fun v1=>qex v1 0 fun v2=>qex v1 1 fun v3=>qex v1 2 fun v4=>qneq v4 qi fun v5=>cnd v5 (rtn (.tup [(.agg [(.list []),(.list []),(.list []),(.list []),(.list [])]),(norm1 v3),(norm1 v4)]) []) (qpn c 12 [(norm1 v2),qi] fun v6=>qex v6 0 fun v7=>qex v6 1 fun v8=>qex v6 2 fun v9=>ckA 5 v7<|qeql v9 qi fun v10=>cnd v10 (qll v2 fun v11=>qlss v8 v11 fun v12=>cnd v12 (qel 6 v2 v8 fun v13=>qld v13 0 fun v14=>qneq v14 qi fun v15=>zc8 c l x0 v2 v9 v8 v15 (agN 5 v7)) (zc8 c l x0 v2 v9 v8 qf (agN 5 v7))) (zc8 c l x0 v2 v9 v8 qf (agN 5 v7))))).v
theorem zwh:evF Tryz.prog G c l [] 10 [] 6 [.d x0] []=zfa c l x0:=by kernel_rfl
def annUa(f:FuncId)(d:List (Nat×Nat)×List LA):List (Nat×Nat)×List LA:=if f=102 then([(21,13)],zeE)else if f=105 then([(21,13)],zeF)else if f=67 then([(21,13)],zeD)else if f=104 then([(45,13)],zfM)else if f=109 then([],zgr)else if f=29 then([(14,1014),(38,13)],zfU)else d
end
section
open Go.RowKit
open Vm
variable(G:Nat→Vm.V)(c:Orc)(l:Lup)(x0 x1:V)
def zhP(c:Orc)(l:Lup)(a1_0:V):Option Out:=cl0 c 42 [(norm1 a1_0),(.str [44,32])] (fun w=>pnk w []) fun v1=>rtn (norm1 v1) []
def zhO(c:Orc)(l:Lup)(s:List V):Option (Stp Out) :=({v:=_}:qX (qlss (gt s 3) (gt s 2) fun v1=>cnd v1 (qel 14 (gt s 1) (gt s 3) fun v2=>qlt 14 v2 0 fun v3=>ckA 14 v3<|cl0 c (fnG (gt s 0)) [(norm1 (agN 14 v3))] (fun w=>om (pnk w [])) fun v4=>ck1 (norm1 v4)<|qap 1 16 (gt s 4) (.list [(norm1 v4)]) fun v5=>qadd (gt s 3) qj fun v6=>some (.next [(.fn (fnG (gt s 0)) [] []),(gt s 1),(gt s 2),v6,v5])) (om (zhP c l (gt s 4))))).v
def zi4(c:Orc)(l:Lup)(g1:FuncId)(x0:V):Option Out:=(lenL x0).bind fun v1=>l Out (zhO c l) [(.fn g1 [] []),x0,v1,(.int .i64 0),.nils]
def zfp:List LA:=[⟨false,[(1,.f [] []),(5,.q 25),(8,.d),(9,.d),(10,.d)],[.rq 25 9 1]⟩]
theorem zjw(G:Nat→Vm.V)(c:Orc)(l:Lup)(g1:FuncId)(x0:V):evF Tryz.prog G c l [] 10 zfp 39 [.d x0,.f g1 [] []] []=zi4 c l g1 x0:=by kernel_rfl
def zhR(c:Orc)(l:Lup)(a1_0:V):Option Out:=cl0 c 42 [(norm1 a1_0),(.str [44,32])] (fun w=>pnk w []) fun v1=>rtn (norm1 v1) []
def zhQ(c:Orc)(l:Lup)(s:List V):Option (Stp Out) :=({v:=_}:qX (qlss (gt s 3) (gt s 2) fun v1=>cnd v1 (qel 11 (gt s 1) (gt s 3) fun v2=>qlt 11 v2 0 fun v3=>ckA 11 v3<|cl0 c (fnG (gt s 0)) [(norm1 (agN 11 v3))] (fun w=>om (pnk w [])) fun v4=>ck1 (norm1 v4)<|qap 1 16 (gt s 4) (.list [(norm1 v4)]) fun v5=>qadd (gt s 3) qj fun v6=>some (.next [(.fn (fnG (gt s 0)) [] []),(gt s 1),(gt s 2),v6,v5])) (om (zhR c l (gt s 4))))).v
def zi5(c:Orc)(l:Lup)(g1:FuncId)(x0:V):Option Out:=(lenL x0).bind fun v1=>l Out (zhQ c l) [(.fn g1 [] []),x0,v1,(.int .i64 0),.nils]
def zfq:List LA:=[⟨false,[(1,.f [] []),(5,.q 25),(8,.d),(9,.d),(10,.d)],[.rq 25 9 1]⟩]
theorem zjx(G:Nat→Vm.V)(c:Orc)(l:Lup)(g1:FuncId)(x0:V):evF Tryz.prog G c l [] 10 zfq 44 [.d x0,.f g1 [] []] []=zi5 c l g1 x0:=by kernel_rfl
def zhN(c:Orc)(l:Lup)(a1_0:V):Option Out:=cl0 c 42 [(norm1 a1_0),(.str [44,32])] (fun w=>pnk w []) fun v1=>rtn (norm1 v1) []
def zhM(c:Orc)(l:Lup)(s:List V):Option (Stp Out) :=({v:=_}:qX (qlss (gt s 3) (gt s 2) fun v1=>cnd v1 (qel 13 (gt s 1) (gt s 3) fun v2=>qlt 13 v2 0 fun v3=>ckA 13 v3<|cl0 c (fnG (gt s 0)) [(norm1 (agN 13 v3))] (fun w=>om (pnk w [])) fun v4=>ck1 (norm1 v4)<|qap 1 16 (gt s 4) (.list [(norm1 v4)]) fun v5=>qadd (gt s 3) qj fun v6=>some (.next [(.fn (fnG (gt s 0)) [] []),(gt s 1),(gt s 2),v6,v5])) (om (zhN c l (gt s 4))))).v
def zi3(c:Orc)(l:Lup)(g1:FuncId)(x0:V):Option Out:=(lenL x0).bind fun v1=>l Out (zhM c l) [(.fn g1 [] []),x0,v1,(.int .i64 0),.nils]
def zfo:List LA:=[⟨false,[(1,.f [] []),(5,.q 25),(8,.d),(9,.d),(10,.d)],[.rq 25 9 1]⟩]
theorem zjv(G:Nat→Vm.V)(c:Orc)(l:Lup)(g1:FuncId)(x0:V):evF Tryz.prog G c l [] 10 zfo 20 [.d x0,.f g1 [] []] []=zi3 c l g1 x0:=by kernel_rfl
def zhg(c:Orc)(l:Lup)(x0 x1:V):Option Out :=({v:=_}:qX (qll x1 fun v1=>qeql v1 qi fun v2=>cnd v2 (rtn qs []) (qadd (.str [32]) x0 fun v3=>qadd v3 (.str [32]) fun v4=>qpn c 44 [(norm1 x1),(.fn 43 [] [])] fun v5=>qadd v4 v5 fun v6=>rtn (norm1 v6) []))).v
theorem zpq:evF Tryz.prog G c l [] 10 [] 22 [.d x0,.d x1] []=zhg c l x0 x1:=by kernel_rfl
def zdk(c:Orc)(l:Lup)(a1_0 a1_1:V):Option Out :=({v:=_}:qX (cnd a1_0 (rtn (.str [42]) []) (cnd (cell a1_1 12) (qadd (cell a1_1 13) (.str [46,42]) fun v1=>rtn (norm1 v1) []) (qeql (cell a1_1 11) qs fun v2=>cnd v2 (qpn c 43 [(norm1 (agN 11 a1_1))] fun v3=>rtn (norm1 v3) []) (qpn c 43 [(norm1 (agN 11 a1_1))] fun v4=>qadd v4 (.str [32,97,115,32]) fun v5=>qadd v5 (cell a1_1 11) fun v6=>rtn (norm1 v6) []))))).v
def zfA(c:Orc)(l:Lup)(x0:V):Option Out:=ckA 14 x0<|cnd (cell x0 12) ((b0 .eql (cell x0 13) (.str [])).bind fun v1=>zdk c l v1 (agN 14 x0)) (zdk c l (.bool false) (agN 14 x0))
theorem zsr:evF Tryz.prog G c l [] 10 [] 40 [.d x0] []=zfA c l x0:=by kernel_rfl
def zdt(c:Orc)(l:Lup)(a3_0 a3_1 a3_2 a3_3 a3_4 a3_5:V):Option (Stp Out) :=({v:=_}:qX (cnd a3_4 (qpo c 22 [(.str [111,110]),(norm1 (cell a3_5 3))] fun v1=>qadd a3_0 v1 fun v2=>qadd a3_3 qj fun v3=>some (.next [v2,a3_1,a3_2,v3])) (qadd a3_3 qj fun v4=>some (.next [a3_0,a3_1,a3_2,v4])))).v
def zcK(c:Orc)(l:Lup)(a2_0 a2_1 a2_2 a2_3 a2_4 a2_5:V):Option (Stp Out) :=({v:=_}:qX (qgtr a2_1 qi fun v1=>cnd v1 (qneq (cell a2_5 2) qi fun v2=>zdt c l a2_0 a2_2 a2_3 a2_4 v2 (agN 4 a2_5)) (zdt c l a2_0 a2_2 a2_3 a2_4 qf (agN 4 a2_5)))).v
def zbu(c:Orc)(l:Lup)(a1_0 a1_1 a1_2 a1_3 a1_4 a1_5:V):Option (Stp Out) :=({v:=_}:qX (qadd a1_0 (cell a1_5 0) fun v1=>qneq (cell a1_5 1) (cell a1_5 0) fun v2=>cnd v2 (qadd (.str [32,97,115,32]) (cell a1_5 1) fun v3=>qadd v1 v3 fun v4=>zcK c l v4 a1_1 a1_2 a1_3 a1_4 (agN 4 a1_5)) (zcK c l v1 a1_1 a1_2 a1_3 a1_4 (agN 4 a1_5)))).v
def zbt(c:Orc)(l:Lup)(s:List V):Option (Stp Out) :=({v:=_}:qX (qlss (gt s 3) (gt s 2) fun v1=>cnd v1 (qel 4 (gt s 1) (gt s 3) fun v2=>qlt 4 v2 0 fun v3=>ckA 4 v3<|qeql (gt s 3) qi fun v4=>cnd v4 (zbu c l (.str [32,102,114,111,109,32]) (gt s 3) (gt s 1) (gt s 2) (gt s 3) (agN 4 v3)) (qeql (cell v3 2) qj fun v5=>cnd v5 (qadd (gt s 0) (.str [32,106,111,105,110,32]) fun v6=>zbu c l v6 (gt s 3) (gt s 1) (gt s 2) (gt s 3) (agN 4 v3)) (qeql (cell v3 2) (.int .i64 2) fun v7=>cnd v7 (qadd (gt s 0) (.str [32,108,101,102,116,32,106,111,105,110,32]) fun v8=>zbu c l v8 (gt s 3) (gt s 1) (gt s 2) (gt s 3) (agN 4 v3)) (qadd (gt s 0) (.str [44,32]) fun v9=>zbu c l v9 (gt s 3) (gt s 1) (gt s 2) (gt s 3) (agN 4 v3))))) (om (rtn (norm1 (gt s 0)) [])))).v
def zjF(c:Orc)(l:Lup)(x0:V):Option Out:=(lenL x0).bind fun v1=>l Out (zbt c l) [(.str []),x0,v1,(.int .i64 0)]
def zjp:List LA:=[⟨false,[(3,.d),(6,.d),(7,.d),(8,.d)],[]⟩]
theorem zpp:evF Tryz.prog G c l [] 10 zjp 41 [.d x0] []=zjF c l x0:=by kernel_rfl
def zgx(c:Orc)(l:Lup)(a2_0 a2_1:V):Option Out :=({v:=_}:qX (qpn c 22 [(.str [103,114,111,117,112,32,98,121]),(norm1 (cell a2_1 5))] fun v1=>qadd a2_0 v1 fun v2=>qpn c 22 [(.str [104,97,118,105,110,103]),(norm1 (cell a2_1 4))] fun v3=>qadd v2 v3 fun v4=>rtn (norm1 v4) [])).v
def ze5(c:Orc)(l:Lup)(a1_0 a1_1:V):Option Out :=({v:=_}:qX (agr oeq (qpn c 39 [(norm1 (cell a1_1 1)),(.fn 40 [] [])] fun v1=>qpn c 41 [(norm1 (cell a1_1 2))] fun v2=>qadd v1 v2 fun v3=>qpn c 22 [(.str [119,104,101,114,101]),(norm1 (cell a1_1 3))] fun v4=>qadd v3 v4 fun v5=>qadd a1_0 v5 fun v6=>zgx c l v6 (agN 6 a1_1)) (ag oeq<|ag oeq<|qpn c 39 [(norm1 (cell a1_1 1)),(.fn 40 [] [])] fun v1=>qpn c 41 [(norm1 (cell a1_1 2))] fun v2=>qadd v1 v2 fun v3=>qpn c 22 [(.str [119,104,101,114,101]),(norm1 (cell a1_1 3))] fun v4=>qadd v3 v4 fun v5=>qadd a1_0 v5 fun v6=>zgx c l v6 (agN 6 a1_1)))).v
def zi6(c:Orc)(l:Lup)(x0:V):Option Out:=ckA 6 x0<|cnd (cell x0 0) ((b0 .add (.str [115,101,108,101,99,116,32]) (.str [100,105,115,116,105,110,99,116,32])).bind fun v1=>ze5 c l v1 (agN 6 x0)) (ze5 c l (.str [115,101,108,101,99,116,32]) (agN 6 x0))
theorem zss:evF Tryz.prog G c l [] 10 [] 19 [.d x0] []=zi6 c l x0:=by kernel_rfl
def zdj(c:Orc)(l:Lup)(a1_0 a1_1:V):Option Out:=cnd (cell a1_1 12) ((b0 .add a1_0 (.str [32,100,101,115,99])).bind fun v1=>rtn (norm1 v1) []) (rtn (norm1 a1_0) [])
def zfy(c:Orc)(l:Lup)(x0:V):Option Out :=({v:=_}:qX (ckA 13 x0<|qpn c 43 [(norm1 (agN 11 x0))] fun v1=>qeql (cell x0 11) qj fun v2=>cnd v2 (qadd v1 (.str [32,99,111,108,108,97,116,101,32,110,111,99,97,115,101]) fun v3=>zdj c l v3 (agN 13 x0)) (zdj c l v1 (agN 13 x0)))).v
theorem zsq:evF Tryz.prog G c l [] 10 [] 21 [.d x0] []=zfy c l x0:=by kernel_rfl
def zfx(c:Orc)(l:Lup)(x0:V):Option Out :=({v:=_}:qX (qeql x0 qj fun v1=>cnd v1 (rtn (.str [32,117,110,105,111,110,32,97,108,108,32]) []) (qeql x0 (.int .i64 2) fun v2=>cnd v2 (rtn (.str [32,105,110,116,101,114,115,101,99,116,32]) []) (qeql x0 (.int .i64 3) fun v3=>cnd v3 (rtn (.str [32,101,120,99,101,112,116,32]) []) (rtn (.str [32,117,110,105,111,110,32]) []))))).v
theorem zsp:evF Tryz.prog G c l [] 10 [] 18 [.d x0] []=zfx c l x0:=by kernel_rfl
def zeK(c:Orc)(l:Lup)(a2_0 a2_1:V):Option Out :=({v:=_}:qX (qpn c 22 [(.str [108,105,109,105,116]),(norm1 (cell a2_1 3))] fun v1=>qadd a2_0 v1 fun v2=>qpn c 22 [(.str [111,102,102,115,101,116]),(norm1 (cell a2_1 4))] fun v3=>qadd v2 v3 fun v4=>rtn (norm1 v4) [])).v
def zeL(c:Orc)(l:Lup)(a1_0 a1_1:V):Option Out :=({v:=_}:qX (qll (cell a1_1 2) fun v1=>qgtr v1 qi fun v2=>cnd v2 (qpn c 20 [(norm1 (cell a1_1 2)),(.fn 21 [] [])] fun v3=>qadd (.str [32,111,114,100,101,114,32,98,121,32]) v3 fun v4=>qadd a1_0 v4 fun v5=>zeK c l v5 (agN 5 a1_1)) (zeK c l a1_0 (agN 5 a1_1)))).v
def zd0(c:Orc)(l:Lup)(a3_0 a3_1 a3_2 a3_3 a3_4 a3_5:V):Option (Stp Out) :=({v:=_}:qX (qpo c 19 [(norm1 (agN 6 a3_5))] fun v1=>qadd a3_0 v1 fun v2=>qadd a3_3 qj fun v3=>some (.next [v2,a3_1,a3_2,v3,(agN 5 a3_4)]))).v
def zdZ(c:Orc)(l:Lup)(a4_0 a4_1 a4_2 a4_3 a4_4 a4_5 a4_6 a4_7:V):Option (Stp Out) :=({v:=_}:qX (cnd a4_5 (qsub a4_1 qj fun v1=>qel 1 (cell a4_6 1) v1 fun v2=>qld v2 0 fun v3=>qpo c 18 [(norm1 v3)] fun v4=>qadd a4_0 v4 fun v5=>zd0 c l v5 a4_2 a4_3 a4_4 (agN 5 a4_6) (agN 6 a4_7)) (zd0 c l a4_0 a4_2 a4_3 a4_4 (agN 5 a4_6) (agN 6 a4_7)))).v
def zcc(c:Orc)(l:Lup)(s:List V):Option (Stp Out) :=({v:=_}:qX (qlss (gt s 3) (gt s 2) fun v1=>cnd v1 (qel 6 (gt s 1) (gt s 3) fun v2=>qlt 6 v2 0 fun v3=>ckA 6 v3<|qgtr (gt s 3) qi fun v4=>cnd v4 (qsub (gt s 3) qj fun v5=>qll (cell (gt s 4) 1) fun v6=>qlss v5 v6 fun v7=>zdZ c l (gt s 0) (gt s 3) (gt s 1) (gt s 2) (gt s 3) v7 (agN 5 (gt s 4)) (agN 6 v3)) (zdZ c l (gt s 0) (gt s 3) (gt s 1) (gt s 2) (gt s 3) qf (agN 5 (gt s 4)) (agN 6 v3))) (om (zeL c l (gt s 0) (agN 5 (gt s 4)))))).v
def zkL(c:Orc)(l:Lup)(x0:V):Option Out:=ckA 5 x0<|(lenL (cell x0 0)).bind fun v1=>l Out (zcc c l) [(.str []),(cell x0 0),v1,(.int .i64 0),(agN 5 x0)]
def zj6:List LA:=[⟨false,[(1,.c (.p 10 0)),(3,.d),(7,.d),(8,.d),(9,.d)],[.bv 10 28 5]⟩]
theorem zq1:evF Tryz.prog G c l [] 10 zj6 9 [.d x0] []=zkL c l x0:=by kernel_rfl
def zgc(c:Orc)(l:Lup)(x0 x1:V):Option Out :=({v:=_}:qX (ckA 11 x0<|ckA 11 x1<|qeql (cell x0 0) (cell x1 0) fun v1=>cnd v1 (qeql (cell x0 1) (cell x1 1) fun v2=>cnd v2 ((binV .eql true true false (.agg [(cell x0 2),(cell x0 3),(cell x0 4)]) (.agg [(cell x1 2),(cell x1 3),(cell x1 4)])).bind fun v3=>cnd v3 (qeql (cell x0 5) (cell x1 5) fun v4=>cnd v4 (qeql (cell x0 6) (cell x1 6) fun v5=>cnd v5 (qeql (cell x0 7) (cell x1 7) fun v6=>cnd v6 ((binV .eql true false false (cell x0 8) (cell x1 8)).bind fun v7=>cnd v7 ((binV .eql true false false (cell x0 9) (cell x1 9)).bind fun v8=>cnd v8 (qpn c 17 [(norm1 (cell x0 10)),(norm1 (cell x1 10))] fun v9=>rtn (norm1 v9) []) (rtn qf [])) (rtn qf [])) (rtn qf [])) (rtn qf [])) (rtn qf [])) (rtn qf [])) (rtn qf [])) (rtn qf []))).v
theorem zkC:evF Tryz.prog G c l [] 10 [] 16 [.d x0,.d x1] []=zgc c l x0 x1:=by kernel_rfl
def zcj(c:Orc)(l:Lup)(s:List V):Option (Stp Out) :=({v:=_}:qX (qll (gt s 0) fun v1=>qlss (gt s 2) v1 fun v2=>cnd v2 (qel 11 (gt s 0) (gt s 2) fun v3=>qlt 11 v3 0 fun v4=>qel 11 (gt s 1) (gt s 2) fun v5=>qlt 11 v5 0 fun v6=>qpo c 16 [(norm1 v4),(norm1 v6)] fun v7=>qno v7 fun v8=>cnd v8 (om (rtn qf [])) (qadd (gt s 2) qj fun v9=>some (.next [(gt s 0),(gt s 1),v9]))) (om (rtn qt [])))).v
def zfP(c:Orc)(l:Lup)(x0 x1:V):Option Out :=({v:=_}:qX (qll x0 fun v1=>qll x1 fun v2=>qneq v1 v2 fun v3=>cnd v3 (rtn qf []) (l Out (zcj c l) [x0,x1,qi]))).v
def zfL:List LA:=[⟨false,[(0,.d),(1,.d),(5,.d)],[]⟩]
theorem zjN:evF Tryz.prog G c l [] 10 zfL 17 [.d x0,.d x1] []=zfP c l x0 x1:=by kernel_rfl
def zfj(c:Orc)(l:Lup)(a3_0 a3_1:V):Option Out :=({v:=_}:qX (qpn c 17 [(norm1 (cell a3_0 3)),(norm1 (cell a3_1 3))] fun v1=>cnd v1 (qpn c 17 [(norm1 (cell a3_0 4)),(norm1 (cell a3_1 4))] fun v2=>cnd v2 (qpn c 17 [(norm1 (cell a3_0 5)),(norm1 (cell a3_1 5))] fun v3=>rtn (norm1 v3) []) (rtn qf [])) (rtn qf []))).v
def zbH(c:Orc)(l:Lup)(a5_0 a5_1 a5_2 a5_3:V):Option (Stp Out):=cnd a5_1 (om (rtn (.bool false) [])) ((b0 .add a5_0 (.int .i64 1)).bind fun v1=>some (.next [v1,(agN 6 a5_2),(agN 6 a5_3)]))
def zcG(c:Orc)(l:Lup)(a4_0 a4_1 a4_2 a4_3 a4_4:V):Option (Stp Out) :=({v:=_}:qX (qneq (cell a4_3 0) (cell a4_4 0) fun v1=>cnd v1 (zbH c l a4_0 qt (agN 6 a4_1) (agN 6 a4_2)) (qneq (cell a4_3 1) (cell a4_4 1) fun v2=>cnd v2 (zbH c l a4_0 qt (agN 6 a4_1) (agN 6 a4_2)) (qneq (cell a4_3 2) (cell a4_4 2) fun v3=>cnd v3 (zbH c l a4_0 qt (agN 6 a4_1) (agN 6 a4_2)) (qpo c 17 [(norm1 (cell a4_3 3)),(norm1 (cell a4_4 3))] fun v4=>qno v4 fun v5=>zbH c l a4_0 v5 (agN 6 a4_1) (agN 6 a4_2)))))).v
def zcD(c:Orc)(l:Lup)(s:List V):Option (Stp Out) :=({v:=_}:qX (qll (cell (gt s 1) 2) fun v1=>qlss (gt s 0) v1 fun v2=>cnd v2 (qel 4 (cell (gt s 1) 2) (gt s 0) fun v3=>qlt 4 v3 0 fun v4=>agr (eqS oeq) (qel 4 (cell (gt s 2) 2) (gt s 0) fun v5=>agr (eqS oeq) (qlt 4 v5 0 fun v6=>ckA 4 v4<|ckA 4 v6<|zcG c l (gt s 0) (agN 6 (gt s 1)) (agN 6 (gt s 2)) (agN 4 v4) (agN 4 v6)) (ckA 4 v4<|qlt 4 v5 0 fun v6=>ckA 4 v6<|zcG c l (gt s 0) (agN 6 (gt s 1)) (agN 6 (gt s 2)) (agN 4 v4) (agN 4 v6))) (ckA 4 v4<|qel 4 (cell (gt s 2) 2) (gt s 0) fun v5=>qlt 4 v5 0 fun v6=>ckA 4 v6<|zcG c l (gt s 0) (agN 6 (gt s 1)) (agN 6 (gt s 2)) (agN 4 v4) (agN 4 v6))) (om (zfj c l (agN 6 (gt s 1)) (agN 6 (gt s 2)))))).v
def zfk(c:Orc)(l:Lup)(a2_0 a2_1:V):Option Out:=l Out (zcD c l) [(.int .i64 0),(agN 6 a2_0),(agN 6 a2_1)]
def zbG(c:Orc)(l:Lup)(a7_0 a7_1 a7_2 a7_3:V):Option (Stp Out):=cnd a7_1 (om (rtn (.bool false) [])) ((b0 .add a7_0 (.int .i64 1)).bind fun v1=>some (.next [v1,(agN 6 a7_2),(agN 6 a7_3)]))
def zcF(c:Orc)(l:Lup)(a6_0 a6_1 a6_2 a6_3 a6_4:V):Option (Stp Out) :=({v:=_}:qX (qneq (cell a6_3 11) (cell a6_4 11) fun v1=>cnd v1 (zbG c l a6_0 qt (agN 6 a6_1) (agN 6 a6_2)) ((binV .neq true false false (cell a6_3 12) (cell a6_4 12)).bind fun v2=>cnd v2 (zbG c l a6_0 qt (agN 6 a6_1) (agN 6 a6_2)) (qneq (cell a6_3 13) (cell a6_4 13) fun v3=>cnd v3 (zbG c l a6_0 qt (agN 6 a6_1) (agN 6 a6_2)) (qpo c 16 [(norm1 (agN 11 a6_3)),(norm1 (agN 11 a6_4))] fun v4=>qno v4 fun v5=>zbG c l a6_0 v5 (agN 6 a6_1) (agN 6 a6_2)))))).v
def zcE(c:Orc)(l:Lup)(s:List V):Option (Stp Out) :=({v:=_}:qX (qll (cell (gt s 1) 1) fun v1=>qlss (gt s 0) v1 fun v2=>cnd v2 (qel 14 (cell (gt s 1) 1) (gt s 0) fun v3=>qlt 14 v3 0 fun v4=>agr (eqS oeq) (qel 14 (cell (gt s 2) 1) (gt s 0) fun v5=>agr (eqS oeq) (qlt 14 v5 0 fun v6=>ckA 14 v4<|ckA 14 v6<|zcF c l (gt s 0) (agN 6 (gt s 1)) (agN 6 (gt s 2)) (agN 14 v4) (agN 14 v6)) (ckA 14 v4<|qlt 14 v5 0 fun v6=>ckA 14 v6<|zcF c l (gt s 0) (agN 6 (gt s 1)) (agN 6 (gt s 2)) (agN 14 v4) (agN 14 v6))) (ckA 14 v4<|qel 14 (cell (gt s 2) 1) (gt s 0) fun v5=>qlt 14 v5 0 fun v6=>ckA 14 v6<|zcF c l (gt s 0) (agN 6 (gt s 1)) (agN 6 (gt s 2)) (agN 14 v4) (agN 14 v6))) (om (zfk c l (agN 6 (gt s 1)) (agN 6 (gt s 2)))))).v
def zcH(c:Orc)(l:Lup)(a1_0 a1_1 a1_2:V):Option Out:=cnd a1_0 (rtn (.bool false) []) (l Out (zcE c l) [(.int .i64 0),(agN 6 a1_1),(agN 6 a1_2)])
def zgd(c:Orc)(l:Lup)(x0 x1:V):Option Out :=({v:=_}:qX (ckA 6 x0<|ckA 6 x1<|(binV .neq true false false (cell x0 0) (cell x1 0)).bind fun v1=>cnd v1 (zcH c l qt (agN 6 x0) (agN 6 x1)) (qll (cell x0 1) fun v2=>qll (cell x1 1) fun v3=>qneq v2 v3 fun v4=>cnd v4 (zcH c l qt (agN 6 x0) (agN 6 x1)) (qll (cell x0 2) fun v5=>qll (cell x1 2) fun v6=>qneq v5 v6 fun v7=>zcH c l v7 (agN 6 x0) (agN 6 x1))))).v
def zfS:List LA:=[⟨false,[(2,.c (.p 10 0)),(3,.c (.p 11 0)),(5,.d)],[.bv 10 40 6,.bv 11 40 6]⟩,⟨false,[(2,.c (.p 10 0)),(3,.c (.p 11 0)),(8,.d)],[.bv 10 40 6,.bv 11 40 6]⟩]
theorem zkD:evF Tryz.prog G c l [] 10 zfS 15 [.d x0,.d x1] []=zgd c l x0 x1:=by kernel_rfl
def zgL(c:Orc)(l:Lup)(a4_0 a4_1:V):Option Out :=({v:=_}:qX (qpn c 17 [(norm1 (cell a4_0 3)),(norm1 (cell a4_1 3))] fun v1=>cnd v1 (qpn c 17 [(norm1 (cell a4_0 4)),(norm1 (cell a4_1 4))] fun v2=>rtn (norm1 v2) []) (rtn qf []))).v
def zdM(c:Orc)(l:Lup)(a6_0 a6_1 a6_2 a6_3:V):Option (Stp Out):=cnd a6_1 (om (rtn (.bool false) [])) ((b0 .add a6_0 (.int .i64 1)).bind fun v1=>some (.next [v1,(agN 5 a6_2),(agN 5 a6_3)]))
def zdN(c:Orc)(l:Lup)(a5_0 a5_1 a5_2 a5_3 a5_4:V):Option (Stp Out) :=({v:=_}:qX (qneq (cell a5_3 11) (cell a5_4 11) fun v1=>cnd v1 (zdM c l a5_0 qt (agN 5 a5_1) (agN 5 a5_2)) ((binV .neq true false false (cell a5_3 12) (cell a5_4 12)).bind fun v2=>cnd v2 (zdM c l a5_0 qt (agN 5 a5_1) (agN 5 a5_2)) (qpo c 16 [(norm1 (agN 11 a5_3)),(norm1 (agN 11 a5_4))] fun v3=>qno v3 fun v4=>zdM c l a5_0 v4 (agN 5 a5_1) (agN 5 a5_2))))).v
def zdJ(c:Orc)(l:Lup)(s:List V):Option (Stp Out) :=({v:=_}:qX (qll (cell (gt s 1) 2) fun v1=>qlss (gt s 0) v1 fun v2=>cnd v2 (qel 13 (cell (gt s 1) 2) (gt s 0) fun v3=>qlt 13 v3 0 fun v4=>agr (eqS oeq) (qel 13 (cell (gt s 2) 2) (gt s 0) fun v5=>agr (eqS oeq) (qlt 13 v5 0 fun v6=>ckA 13 v4<|ckA 13 v6<|zdN c l (gt s 0) (agN 5 (gt s 1)) (agN 5 (gt s 2)) (agN 13 v4) (agN 13 v6)) (ckA 13 v4<|qlt 13 v5 0 fun v6=>ckA 13 v6<|zdN c l (gt s 0) (agN 5 (gt s 1)) (agN 5 (gt s 2)) (agN 13 v4) (agN 13 v6))) (ckA 13 v4<|qel 13 (cell (gt s 2) 2) (gt s 0) fun v5=>qlt 13 v5 0 fun v6=>ckA 13 v6<|zdN c l (gt s 0) (agN 5 (gt s 1)) (agN 5 (gt s 2)) (agN 13 v4) (agN 13 v6))) (om (zgL c l (agN 5 (gt s 1)) (agN 5 (gt s 2)))))).v
def zgM(c:Orc)(l:Lup)(a3_0 a3_1:V):Option Out:=l Out (zdJ c l) [(.int .i64 0),(agN 5 a3_0),(agN 5 a3_1)]
def zdK(c:Orc)(l:Lup)(s:List V):Option (Stp Out) :=({v:=_}:qX (qll (cell (gt s 1) 1) fun v1=>qlss (gt s 0) v1 fun v2=>cnd v2 (qel 1 (cell (gt s 1) 1) (gt s 0) fun v3=>qld v3 0 fun v4=>qel 1 (cell (gt s 2) 1) (gt s 0) fun v5=>qld v5 0 fun v6=>qneq v4 v6 fun v7=>cnd v7 (om (rtn qf [])) (qadd (gt s 0) qj fun v8=>some (.next [v8,(agN 5 (gt s 1)),(agN 5 (gt s 2))]))) (om (zgM c l (agN 5 (gt s 1)) (agN 5 (gt s 2)))))).v
def zgN(c:Orc)(l:Lup)(a2_0 a2_1:V):Option Out:=l Out (zdK c l) [(.int .i64 0),(agN 5 a2_0),(agN 5 a2_1)]
def zdL(c:Orc)(l:Lup)(s:List V):Option (Stp Out) :=({v:=_}:qX (qll (cell (gt s 1) 0) fun v1=>qlss (gt s 0) v1 fun v2=>cnd v2 (qel 6 (cell (gt s 1) 0) (gt s 0) fun v3=>qlt 6 v3 0 fun v4=>qel 6 (cell (gt s 2) 0) (gt s 0) fun v5=>qlt 6 v5 0 fun v6=>qpo c 15 [(norm1 v4),(norm1 v6)] fun v7=>qno v7 fun v8=>cnd v8 (om (rtn qf [])) (qadd (gt s 0) qj fun v9=>some (.next [v9,(agN 5 (gt s 1)),(agN 5 (gt s 2))]))) (om (zgN c l (agN 5 (gt s 1)) (agN 5 (gt s 2)))))).v
def zdO(c:Orc)(l:Lup)(a1_0 a1_1 a1_2:V):Option Out:=cnd a1_0 (rtn (.bool false) []) (l Out (zdL c l) [(.int .i64 0),(agN 5 a1_1),(agN 5 a1_2)])
def ziC(c:Orc)(l:Lup)(x0 x1:V):Option Out :=({v:=_}:qX (ckA 5 x0<|ckA 5 x1<|qll (cell x0 0) fun v1=>qll (cell x1 0) fun v2=>qneq v1 v2 fun v3=>cnd v3 (zdO c l qt (agN 5 x0) (agN 5 x1)) (qll (cell x0 1) fun v4=>qll (cell x1 1) fun v5=>qneq v4 v5 fun v6=>cnd v6 (zdO c l qt (agN 5 x0) (agN 5 x1)) (qll (cell x0 2) fun v7=>qll (cell x1 2) fun v8=>qneq v7 v8 fun v9=>zdO c l v9 (agN 5 x0) (agN 5 x1))))).v
def zih:List LA:=[⟨false,[(2,.c (.p 10 0)),(3,.c (.p 11 0)),(5,.d)],[.bv 10 28 5,.bv 11 28 5]⟩,⟨false,[(2,.c (.p 10 0)),(3,.c (.p 11 0)),(6,.d)],[.bv 10 28 5,.bv 11 28 5]⟩,⟨false,[(2,.c (.p 10 0)),(3,.c (.p 11 0)),(7,.d)],[.bv 10 28 5,.bv 11 28 5]⟩]
theorem zni:evF Tryz.prog G c l [] 10 zih 8 [.d x0,.d x1] []=ziC c l x0 x1:=by kernel_rfl
def zc1(c:Orc)(l:Lup)(x0:V):Option Out :=({v:=_}:qX (qls x0 fun v1=>qgtr v1 (.int .i64 3000) fun v2=>cnd v2 (qpn c 5 [] fun v3=>rtn (norm1 v3) []) (qpn c 6 [(norm1 x0)] fun v4=>qex v4 0 fun v5=>qex v4 1 fun v6=>qex v4 2 fun v7=>ckA 5 v5<|qpn c 7 [(norm1 x0)] fun v8=>qex v8 0 fun v9=>qex v8 1 fun v10=>qex v8 2 fun v11=>ckA 5 v9<|qpn c 5 [] fun v12=>cnd v12 (qpn c 8 [(norm1 (agN 5 v5)),(norm1 (agN 5 v9))] fun v13=>cnd v13 (qeql v6 v10 fun v14=>cnd v14 (qeql v7 v11 fun v15=>cnd v15 (qneq v7 qi fun v16=>cnd v16 (rtn qt []) (qpn c 9 [(norm1 (agN 5 v5))] fun v17=>qpn c 10 [(norm1 (agN 5 v9))] fun v18=>qeql v17 v18 fun v19=>rtn (norm1 v19) [])) (rtn qf [])) (rtn qf [])) (rtn qf [])) (rtn qf [])))).v
theorem zjt:evF Tryz.prog G c l [] 10 [] 3 [.d x0] []=zc1 c l x0:=by kernel_rfl
def zji:List LA:=[⟨false,[(3,.c (.p 22 0)),(10,.d)],[.bv 22 28 5]⟩]
def annUb(f:FuncId)(d:List (Nat×Nat)×List LA):List (Nat×Nat)×List LA:=if f=39 then([],zfp)else if f=44 then([],zfq)else if f=20 then([],zfo)else if f=41 then([],zjp)else if f=9 then([],zj6)else if f=17 then([],zfL)else if f=15 then([],zfS)else if f=8 then([],zih)else if f=4 then([],zji)else d
end
section
open Go.RowKit
open Vm
variable(G:Nat→Vm.V)(c:Orc)(l:Lup)(x0 x1 x2 x3 y0 y1 y2 y3:V)
def zew(c:Orc)(l:Lup)(x1 x2 y0 y1 y2 y3:V):Option Out:=(b0 .eql y2 (.int .i64 0)).bind fun v1=>cnd v1 (ck1 x1<|ck1 x2<|rtn (.tup []) [.blk 84 [y0,y1,x1,x2]]) (rtn (.tup []) [.blk 84 [y0,y1,y2,y3]])
theorem zgU:evF Tryz.prog G c l [] 10 [] 83 [.p 0 0,.d x1,.d x2] [.blk 84 [y0,y1,y2,y3]]=zew c l x1 x2 y0 y1 y2 y3:=by kernel_rfl
def zeo(c:Orc)(l:Lup)(x1 x2 x3 y0 y1 y2 y3:V):Option Out :=({v:=_}:qX (qadd y1 x1 fun v1=>qeql y2 qi fun v2=>cnd v2 (qll y0 fun v3=>qlss v1 v3 fun v4=>cnd v4 (qel 6 y0 v1 fun v5=>qld v5 0 fun v6=>qeql v6 x2 fun v7=>cnd v7 (qel 6 y0 v1 fun v8=>qld v8 1 fun v9=>qeql v9 x3 fun v10=>rtn (norm1 v10) [.blk 84 [y0,y1,y2,y3]]) (rtn qf [.blk 84 [y0,y1,y2,y3]])) (rtn qf [.blk 84 [y0,y1,y2,y3]])) (rtn qf [.blk 84 [y0,y1,y2,y3]]))).v
theorem ziO:evF Tryz.prog G c l [] 10 [] 82 [.p 0 0,.d x1,.d x2,.d x3] [.blk 84 [y0,y1,y2,y3]]=zeo c l x1 x2 x3 y0 y1 y2 y3:=by kernel_rfl
def zeT(c:Orc)(l:Lup)(x1 y0 y1 y2 y3:V):Option Out :=({v:=_}:qX (qL4 84 c 82 [qp,qi,(.int .i64 2),(norm1 x1)] (.blk 84 [y0,y1,y2,y3]) fun v1 v2=>qno v1 fun v4=>cnd v4 (rtn qf [qE4 84 v2]) (qadd (zad v2 1) qj fun v5=>ck1 v5<|rtn qt [.blk 84 [(zad v2 0),v5,(zad v2 2),(zad v2 3)]]))).v
theorem zhl:evF Tryz.prog G c l [] 10 [] 34 [.p 0 0,.d x1] [.blk 84 [y0,y1,y2,y3]]=zeT c l x1 y0 y1 y2 y3:=by kernel_rfl
def zeU(c:Orc)(l:Lup)(x1 y0 y1 y2 y3:V):Option Out :=({v:=_}:qX (qL4 84 c 82 [qp,qi,(.int .i64 4),(norm1 x1)] (.blk 84 [y0,y1,y2,y3]) fun v1 v2=>qno v1 fun v4=>cnd v4 (rtn qf [qE4 84 v2]) (qadd (zad v2 1) qj fun v5=>ck1 v5<|rtn qt [.blk 84 [(zad v2 0),v5,(zad v2 2),(zad v2 3)]]))).v
theorem zhp:evF Tryz.prog G c l [] 10 [] 37 [.p 0 0,.d x1] [.blk 84 [y0,y1,y2,y3]]=zeU c l x1 y0 y1 y2 y3:=by kernel_rfl
def zdI(c:Orc)(l:Lup)(x1 y0 y1 y2 y3:V):Option Out :=({v:=_}:qX (qL4 84 c 34 [qp,(norm1 x1)] (.blk 84 [y0,y1,y2,y3]) fun v1 v2=>qno v1 fun v4=>cnd v4 (qL4 84 c 83 [qp,(.int .i64 20),(norm1 (zad v2 1))] (qE4 84 v2) fun v5 v6=>rtn (.tup []) [qE4 84 v6]) (rtn (.tup []) [qE4 84 v2]))).v
theorem zho:evF Tryz.prog G c l [] 10 [] 35 [.p 0 0,.d x1] [.blk 84 [y0,y1,y2,y3]]=zdI c l x1 y0 y1 y2 y3:=by kernel_rfl
def zbW(c:Orc)(l:Lup)(a1_0 a1_1:V):Option Out :=({v:=_}:qX (cnd a1_0 (qL4 84 c 83 [qp,(.int .i64 20),(norm1 (cell a1_1 1))] (qF4 84 a1_1) fun v1 v2=>rtn qs [qE4 84 v2]) (qadd (cell a1_1 1) qj fun v4=>ck1 v4<|qsub v4 qj fun v5=>qel 6 (cell a1_1 0) v5 fun v6=>qld v6 1 fun v7=>rtn (norm1 v7) [.blk 84 [(cell a1_1 0),v4,(cell a1_1 2),(cell a1_1 3)]]))).v
def zcU(c:Orc)(l:Lup)(y0 y1 y2 y3:V):Option Out :=({v:=_}:qX (qneq y2 qi fun v1=>cnd v1 (rtn qs [.blk 84 [y0,y1,y2,y3]]) (qll y0 fun v2=>qgeq y1 v2 fun v3=>cnd v3 (zbW c l qt (.agg [y0,y1,y2,y3])) (qel 6 y0 y1 fun v4=>qld v4 0 fun v5=>qneq v5 qj fun v6=>zbW c l v6 (.agg [y0,y1,y2,y3]))))).v
theorem zhn:evF Tryz.prog G c l [] 10 [] 113 [.p 0 0] [.blk 84 [y0,y1,y2,y3]]=zcU c l y0 y1 y2 y3:=by kernel_rfl
def zcV(c:Orc)(l:Lup)(y0 y1 y2 y3:V):Option Out :=({v:=_}:qX (qneq y2 qi fun v1=>cnd v1 (rtn (.agg [qi,qs,qi,qi,qs,qs,qs,qi,qf,qf,(.list [])]) [.blk 84 [y0,y1,y2,y3]]) (cl0 c 84 [(norm1 y0),(norm1 y1)] (fun w=>pnk w [.blk 84 [y0,y1,y2,y3]]) fun v2=>qex v2 0 fun v3=>qex v2 1 fun v4=>qex v2 2 fun v5=>ckA 11 v3<|qneq v5 qi fun v6=>cnd v6 (qL4 84 c 83 [qp,(norm1 v5),(norm1 v4)] (.blk 84 [y0,y1,y2,y3]) fun v7 v8=>rtn (.agg [qi,qs,qi,qi,qs,qs,qs,qi,qf,qf,(.list [])]) [qE4 84 v8]) (ck1 v4<|ckA 11 (agN 11 v3)<|rtn (norm1 (agN 11 v3)) [.blk 84 [y0,v4,y2,y3]])))).v
theorem zhr:evF Tryz.prog G c l [] 10 [] 38 [.p 0 0] [.blk 84 [y0,y1,y2,y3]]=zcV c l y0 y1 y2 y3:=by kernel_rfl
def zcI(c:Orc)(l:Lup)(s:List V):Option (Stp Out) :=({v:=_}:qX (qM4 84 c 37 [qp,(.str [44])] (qF4 84 (gt s 0)) fun v1 v2=>cnd v1 (qM4 84 c 38 [qp] (qE4 84 v2) fun v4 v5=>ckA 11 (norm1 v4)<|qap 11 128 (gt s 1) (.list [(norm1 v4)]) fun v7=>some (.next [(qA4 v5),v7])) (om (rtn (norm1 (gt s 1)) [qE4 84 v2])))).v
def zgf(c:Orc)(l:Lup)(y0 y1 y2 y3:V):Option Out :=({v:=_}:qX (qL4 84 c 38 [qp] (.blk 84 [y0,y1,y2,y3]) fun v1 v2=>ckA 11 (norm1 v1)<|l Out (zcI c l) [(qA4 v2),(.list [(norm1 v1)])])).v
def zfT:List LA:=[⟨false,[(0,.c (.p 0 0)),(3,.q 13)],[.bv 0 84 4,.rq 13 46 11]⟩]
theorem zgW:evF Tryz.prog G c l [(21,13)] 10 zfT 81 [.p 0 0] [.blk 84 [y0,y1,y2,y3]]=zgf c l y0 y1 y2 y3:=by kernel_rfl
def zaz(c:Orc)(l:Lup)(a1_0 a1_1:V):Option Out :=({v:=_}:qX (cnd a1_0 (qadd (cell a1_1 1) (.int .i64 3) fun v1=>ck1 v1<|qsub v1 (.int .i64 3) fun v2=>qel 6 (cell a1_1 0) v2 fun v3=>qld v3 1 fun v4=>ck1 v4<|ckA 14 (.agg [qi,qs,qi,qi,qs,qs,qs,qi,qf,qf,.nils,qs,qt,v4])<|rtn (norm1 (.agg [qi,qs,qi,qi,qs,qs,qs,qi,qf,qf,.nils,qs,qt,v4])) [.blk 84 [(cell a1_1 0),v1,(cell a1_1 2),(cell a1_1 3)]]) (qL4 84 c 38 [qp] (qF4 84 a1_1) fun v5 v6=>ckA 11 v5<|ckA 14 (.agg (qC11 v5 [qs,qf,qs]))<|qL4 84 c 34 [qp,(.str [97,115])] (qE4 84 v6) fun v8 v9=>cnd v8 (qL4 84 c 113 [qp] (qE4 84 v9) fun v11 v12=>ck1 v11<|ckA 14 (.agg (qC11 v5 [v11,qf,qs]))<|rtn (norm1 (.agg (qC11 v5 [v11,qf,qs]))) [qE4 84 v12]) (ckA 14 (.agg (qC11 v5 [qs,qf,qs]))<|rtn (norm1 (.agg (qC11 v5 [qs,qf,qs]))) [qE4 84 v9])))).v
def zgK(c:Orc)(l:Lup)(y0 y1 y2 y3:V):Option Out :=({v:=_}:qX (qL4 84 c 37 [qp,(.str [42])] (.blk 84 [y0,y1,y2,y3]) fun v1 v2=>cnd v1 (rtn (.agg [qi,qs,qi,qi,qs,qs,qs,qi,qf,qf,(.list []),qs,qt,qs]) [qE4 84 v2]) (qeql (zad v2 2) qi fun v4=>cnd v4 (ag oeq<|qll (zad v2 0) fun v5=>qlss (zad v2 1) v5 fun v6=>cnd v6 (ag oeq<|qel 6 (zad v2 0) (zad v2 1) fun v7=>qld v7 0 fun v8=>qeql v8 qj fun v9=>cnd v9 (qL4 84 c 82 [qp,qj,(.int .i64 4),(.str [46])] (qE4 84 v2) fun v10 v11=>cnd v10 (qL4 84 c 82 [qp,(.int .i64 2),(.int .i64 4),(.str [42])] (qE4 84 v11) fun v13 v14=>zaz c l v13 (qA4 v14)) (zaz c l qf (qA4 v11))) (zaz c l qf (qA4 v2))) (ag oeq<|zaz c l qf (qA4 v2))) (ag oeq<|ag oeq<|zaz c l qf (qA4 v2))))).v
theorem zhq:evF Tryz.prog G c l [] 10 [] 79 [.p 0 0] [.blk 84 [y0,y1,y2,y3]]=zgK c l y0 y1 y2 y3:=by kernel_rfl
def zbI(c:Orc)(l:Lup)(a1_0 a1_1:V):Option Out :=({v:=_}:qX (ck1 (cell a1_1 0)<|qL4 84 c 34 [qp,(.str [97,115])] (qF4 84 a1_0) fun v1 v2=>cnd v1 (qL4 84 c 113 [qp] (qE4 84 v2) fun v4 v5=>ck1 v4<|ckA 4 (.agg [(cell a1_1 0),v4,(cell a1_1 2),(cell a1_1 3)])<|rtn (norm1 (.agg [(cell a1_1 0),v4,(cell a1_1 2),(cell a1_1 3)])) [qE4 84 v5]) (ckA 4 (.agg [(cell a1_1 0),(cell a1_1 0),(cell a1_1 2),(cell a1_1 3)])<|rtn (norm1 (.agg [(cell a1_1 0),(cell a1_1 0),(cell a1_1 2),(cell a1_1 3)])) [qE4 84 v2]))).v
def zge(c:Orc)(l:Lup)(x1 y0 y1 y2 y3:V):Option Out :=({v:=_}:qX (qL4 84 c 113 [qp] (.blk 84 [y0,y1,y2,y3]) fun v1 v2=>ck1 v1<|ckA 4 (.agg [v1,qs,qi,.nils])<|qgeq x1 (.int .i64 6) fun v4=>cnd v4 (qL4 84 c 83 [qp,(.int .i64 3),(norm1 y1)] (qE4 84 v2) fun v5 v6=>zbI c l (qA4 v6) (.agg [v1,qs,qi,.nils])) (zbI c l (qA4 v2) (.agg [v1,qs,qi,.nils])))).v
theorem zgV:evF Tryz.prog G c l [] 10 [] 114 [.p 0 0,.d x1] [.blk 84 [y0,y1,y2,y3]]=zge c l x1 y0 y1 y2 y3:=by kernel_rfl
def zas(c:Orc)(l:Lup)(a2_0 a2_1 a2_2 a2_3 a2_4 a2_5:V):Option (Stp Out):=ckA 4 (norm1 (.agg [a2_2,a2_3,a2_4,a2_5]))<|(appV 4 64 a2_1 (.list [(norm1 (.agg [a2_2,a2_3,a2_4,a2_5]))])).bind fun v1=>some (.next [(agN 4 a2_0),v1])
def zak(c:Orc)(l:Lup)(a1_0 a1_1 a1_2:V):Option (Stp Out) :=({v:=_}:qX (qlss a1_0 qi fun v1=>cnd v1 (om (rtn (norm1 a1_2) [qF4 84 a1_1])) (qll a1_2 fun v2=>qM4 84 c 114 [qp,(norm1 v2)] (qF4 84 a1_1) fun v3 v4=>ckA 4 v3<|ck1 a1_0<|qneq a1_0 qi fun v6=>cnd v6 (qM4 84 c 35 [qp,(.str [111,110])] (qE4 84 v4) fun v7 v8=>qM4 84 c 38 [qp] (qE4 84 v8) fun v10 v11=>ckA 11 (norm1 v10)<|zas c l (qA4 v11) a1_2 (cell v3 0) (cell v3 1) a1_0 (.list [(norm1 v10)])) (zas c l (qA4 v4) a1_2 (cell v3 0) (cell v3 1) a1_0 (cell v3 3))))).v
def zay(c:Orc)(l:Lup)(s:List V):Option (Stp Out) :=({v:=_}:qX (qeql (cell (gt s 0) 2) qi fun v1=>cnd v1 (qM4 84 c 37 [qp,(.str [44])] (qF4 84 (gt s 0)) fun v2 v3=>cnd v2 (zak c l qi (qA4 v3) (gt s 1)) (qM4 84 c 34 [qp,(.str [99,114,111,115,115])] (qE4 84 v3) fun v5 v6=>cnd v5 (qM4 84 c 35 [qp,(.str [106,111,105,110])] (qE4 84 v6) fun v8 v9=>zak c l qi (qA4 v9) (gt s 1)) (qM4 84 c 34 [qp,(.str [105,110,110,101,114])] (qE4 84 v6) fun v11 v12=>cnd v11 (qM4 84 c 35 [qp,(.str [106,111,105,110])] (qE4 84 v12) fun v14 v15=>zak c l qj (qA4 v15) (gt s 1)) (qM4 84 c 34 [qp,(.str [106,111,105,110])] (qE4 84 v12) fun v17 v18=>cnd v17 (zak c l qj (qA4 v18) (gt s 1)) (qM4 84 c 34 [qp,(.str [108,101,102,116])] (qE4 84 v18) fun v20 v21=>cnd v20 (qM4 84 c 35 [qp,(.str [106,111,105,110])] (qE4 84 v21) fun v23 v24=>zak c l (.int .i64 2) (qA4 v24) (gt s 1)) (zak c l (.int .i64 (-1)) (qA4 v21) (gt s 1))))))) (om (rtn (norm1 (gt s 1)) [qF4 84 (gt s 0)])))).v
def zfO(c:Orc)(l:Lup)(y0 y1 y2 y3:V):Option Out :=({v:=_}:qX (qL4 84 c 114 [qp,qi] (.blk 84 [y0,y1,y2,y3]) fun v1 v2=>ckA 4 (norm1 v1)<|l Out (zay c l) [(qA4 v2),(.list [(norm1 v1)])])).v
def zfK:List LA:=[⟨false,[(0,.c (.p 0 0)),(3,.q 13)],[.bv 0 84 4,.rq 13 42 4]⟩]
theorem zgk:evF Tryz.prog G c l [(72,13)] 10 zfK 80 [.p 0 0] [.blk 84 [y0,y1,y2,y3]]=zfO c l y0 y1 y2 y3:=by kernel_rfl
def zbk(c:Orc)(l:Lup)(a4_0 a4_2 a4_3 a4_4 a4_5 a4_6 a4_7:V):Option Out :=({v:=_}:qX (qL4 84 c 34 [qp,(.str [104,97,118,105,110,103])] (qF4 84 a4_0) fun v1 v2=>cnd v1 (qL4 84 c 38 [qp] (qE4 84 v2) fun v4 v5=>ckA 11 (norm1 v4)<|ckA 6 (.agg [a4_2,a4_7,a4_3,a4_4,(.list [(norm1 v4)]),a4_6])<|rtn (norm1 (.agg [a4_2,a4_7,a4_3,a4_4,(.list [(norm1 v4)]),a4_6])) [qE4 84 v5]) (ckA 6 (.agg [a4_2,a4_7,a4_3,a4_4,a4_5,a4_6])<|rtn (norm1 (.agg [a4_2,a4_7,a4_3,a4_4,a4_5,a4_6])) [qE4 84 v2]))).v
def zbl(c:Orc)(l:Lup)(a3_0 a3_2 a3_3 a3_4 a3_5 a3_6 a3_7:V):Option Out :=({v:=_}:qX (qL4 84 c 34 [qp,(.str [103,114,111,117,112])] (qF4 84 a3_0) fun v1 v2=>cnd v1 (qL4 84 c 35 [qp,(.str [98,121])] (qE4 84 v2) fun v4 v5=>qL4 84 c 81 [qp] (qE4 84 v5) fun v7 v8=>ck1 v7<|zbk c l (qA4 v8) a3_2 a3_3 a3_4 a3_5 v7 a3_7) (zbk c l (qA4 v2) a3_2 a3_3 a3_4 a3_5 a3_6 a3_7))).v
def zbm(c:Orc)(l:Lup)(a2_0 a2_2 a2_3 a2_4 a2_5 a2_6 a2_7:V):Option Out :=({v:=_}:qX (qL4 84 c 34 [qp,(.str [119,104,101,114,101])] (qF4 84 a2_0) fun v1 v2=>cnd v1 (qL4 84 c 38 [qp] (qE4 84 v2) fun v4 v5=>ckA 11 (norm1 v4)<|zbl c l (qA4 v5) a2_2 a2_3 (.list [(norm1 v4)]) a2_5 a2_6 a2_7) (zbl c l (qA4 v2) a2_2 a2_3 a2_4 a2_5 a2_6 a2_7))).v
def zbY(c:Orc)(l:Lup)(a1_0 a1_2 a1_3 a1_4 a1_5 a1_6 a1_7:V):Option Out :=({v:=_}:qX (qL4 84 c 34 [qp,(.str [102,114,111,109])] (qF4 84 a1_0) fun v1 v2=>cnd v1 (qL4 84 c 80 [qp] (qE4 84 v2) fun v4 v5=>ck1 v4<|zbm c l (qA4 v5) a1_2 v4 a1_4 a1_5 a1_6 a1_7) (zbm c l (qA4 v2) a1_2 a1_3 a1_4 a1_5 a1_6 a1_7))).v
def zbX(c:Orc)(l:Lup)(s:List V):Option (Stp Out) :=({v:=_}:qX (qM4 84 c 37 [qp,(.str [44])] (qF4 84 (gt s 0)) fun v1 v2=>cnd v1 (ag (eqS oeq)<|qM4 84 c 79 [qp] (qE4 84 v2) fun v4 v5=>ckA 14 (norm1 v4)<|qap 14 168 (gt s 7) (.list [(norm1 v4)]) fun v7=>some (.next [(qA4 v5),(agN 6 (gt s 1)),(gt s 2),(gt s 3),(gt s 4),(gt s 5),(gt s 6),v7])) (om (zbY c l (qA4 v2) (gt s 2) (gt s 3) (gt s 4) (gt s 5) (gt s 6) (gt s 7))))).v
def zkt(c:Orc)(l:Lup)(y0 y1 y2 y3:V):Option Out :=({v:=_}:qX (qL4 84 c 35 [qp,(.str [115,101,108,101,99,116])] (.blk 84 [y0,y1,y2,y3]) fun v1 v2=>qL4 84 c 34 [qp,(.str [100,105,115,116,105,110,99,116])] (qE4 84 v2) fun v4 v5=>ck1 v4<|ckA 6 (.agg [v4,.nils,.nils,.nils,.nils,.nils])<|qL4 84 c 79 [qp] (qE4 84 v5) fun v7 v8=>ckA 14 (norm1 v7)<|l Out (zbX c l) [(qA4 v8),(.agg [qf,.nils,.nils,.nils,.nils,.nils]),v4,.nils,.nils,.nils,.nils,(.list [(norm1 v7)])])).v
def zgp:List LA:=[⟨false,[(0,.c (.p 0 0)),(2,.c (.p 10 0)),(3,.c (.p 16 0))],[.bv 0 84 4,.bv 10 40 6,.blk 16 40 [.d,.q 20,.d,.d,.d,.d],.rq 20 48 14]⟩]
theorem zk2:evF Tryz.prog G c l [(30,20)] 10 zgp 32 [.p 0 0] [.blk 84 [y0,y1,y2,y3]]=zkt c l y0 y1 y2 y3:=by kernel_rfl
def zbj(c:Orc)(l:Lup)(a1_0 a1_1:V):Option Out :=({v:=_}:qX (qL4 84 c 34 [qp,(.str [97,115,99])] (qF4 84 a1_0) fun v1 v2=>qno v1 fun v4=>cnd v4 (qL4 84 c 34 [qp,(.str [100,101,115,99])] (qE4 84 v2) fun v5 v6=>ck1 v5<|ckA 13 (.agg (qC12 a1_1 [v5]))<|rtn (norm1 (.agg (qC12 a1_1 [v5]))) [qE4 84 v6]) (ckA 13 (agN 13 a1_1)<|rtn (norm1 (agN 13 a1_1)) [qE4 84 v2]))).v
def zbh(c:Orc)(l:Lup)(a4_0 a4_1:V):Option Out:=(b0 .add (cell a4_0 1) (.int .i64 1)).bind fun v1=>ck1 v1<|zbj c l (.agg [(cell a4_0 0),v1,(cell a4_0 2),(cell a4_0 3)]) (agN 13 a4_1)
def zbi(c:Orc)(l:Lup)(a3_0 a3_1 a3_2:V):Option Out :=({v:=_}:qX (qeql a3_0 (.str [110,111,99,97,115,101]) fun v1=>cnd v1 (zbh c l (agN 4 a3_1) (.agg (qC11 a3_2 [qj,(cell a3_2 12)]))) (zbh c l (agN 4 a3_1) (agN 13 a3_2)))).v
def zbg(c:Orc)(l:Lup)(a5_0 a5_1 a5_2 a5_3:V):Option Out :=({v:=_}:qX (cnd a5_1 (qL4 84 c 83 [qp,(.int .i64 20),(norm1 (cell a5_2 1))] (qF4 84 a5_2) fun v1 v2=>zbi c l a5_0 (qA4 v2) (agN 13 a5_3)) (zbi c l a5_0 (agN 4 a5_2) (agN 13 a5_3)))).v
def zaP(c:Orc)(l:Lup)(a2_0 a2_1 a2_2:V):Option Out:=(b0 .neq a2_0 (.str [110,111,99,97,115,101])).bind fun v1=>cnd v1 ((b0 .neq a2_0 (.str [98,105,110,97,114,121])).bind fun v2=>zbg c l a2_0 v2 (agN 4 a2_1) (agN 13 a2_2)) (zbg c l a2_0 (.bool false) (agN 4 a2_1) (agN 13 a2_2))
def za1(c:Orc)(l:Lup)(a6_0 a6_1 a6_2:V):Option Out :=({v:=_}:qX (cnd a6_0 (qel 6 (cell a6_1 0) (cell a6_1 1) fun v1=>qld v1 1 fun v2=>cl0 c 77 [(norm1 v2)] (fun w=>pnk w [qF4 84 a6_1]) fun v3=>zaP c l v3 (agN 4 a6_1) (agN 13 a6_2)) (zaP c l qs (agN 4 a6_1) (agN 13 a6_2)))).v
def zgJ(c:Orc)(l:Lup)(y0 y1 y2 y3:V):Option Out :=({v:=_}:qX (qL4 84 c 38 [qp] (.blk 84 [y0,y1,y2,y3]) fun v1 v2=>ckA 11 v1<|ckA 13 (.agg (qC11 v1 [qi,qf]))<|qL4 84 c 34 [qp,(.str [99,111,108,108,97,116,101])] (qE4 84 v2) fun v4 v5=>cnd v4 (qll (zad v5 0) fun v7=>qlss (zad v5 1) v7 fun v8=>cnd v8 (qel 6 (zad v5 0) (zad v5 1) fun v9=>qld v9 0 fun v10=>qeql v10 qj fun v11=>cnd v11 (za1 c l qt (qA4 v5) (.agg (qC11 v1 [qi,qf]))) (qel 6 (zad v5 0) (zad v5 1) fun v12=>qld v12 0 fun v13=>qeql v13 (.int .i64 2) fun v14=>za1 c l v14 (qA4 v5) (.agg (qC11 v1 [qi,qf])))) (za1 c l qf (qA4 v5) (.agg (qC11 v1 [qi,qf])))) (zbj c l (qA4 v5) (.agg (qC11 v1 [qi,qf]))))).v
theorem zhm:evF Tryz.prog G c l [] 10 [] 36 [.p 0 0] [.blk 84 [y0,y1,y2,y3]]=zgJ c l y0 y1 y2 y3:=by kernel_rfl
def zhX(c:Orc)(l:Lup)(y0 y1 y2 y3:V):Option Out :=({v:=_}:qX (qL4 84 c 34 [qp,(.str [117,110,105,111,110])] (.blk 84 [y0,y1,y2,y3]) fun v1 v2=>cnd v1 (qL4 84 c 34 [qp,(.str [97,108,108])] (qE4 84 v2) fun v4 v5=>cnd v4 (rtn qj [qE4 84 v5]) (rtn qi [qE4 84 v5])) (qL4 84 c 34 [qp,(.str [105,110,116,101,114,115,101,99,116])] (qE4 84 v2) fun v7 v8=>cnd v7 (rtn (.int .i64 2) [qE4 84 v8]) (qL4 84 c 34 [qp,(.str [101,120,99,101,112,116])] (qE4 84 v8) fun v10 v11=>cnd v10 (rtn (.int .i64 3) [qE4 84 v11]) (rtn (.int .i64 (-1)) [qE4 84 v11]))))).v
theorem ziN:evF Tryz.prog G c l [] 10 [] 33 [.p 0 0] [.blk 84 [y0,y1,y2,y3]]=zhX c l y0 y1 y2 y3:=by kernel_rfl
def zbb(c:Orc)(l:Lup)(a4_1 a4_2 a4_3 a4_4 a4_5 a4_6:V):Option Out :=({v:=_}:qX (qneq (cell a4_1 2) qi fun v1=>cnd v1 (agr oeq (ag oeq<|rtn (.tup [(.agg [(.list []),(.list []),(.list []),(.list []),(.list [])]),(norm1 (cell a4_1 3)),(norm1 (cell a4_1 2))]) []) (agr oeq (ag oeq<|rtn (.tup [(.agg [(.list []),(.list []),(.list []),(.list []),(.list [])]),(norm1 (cell a4_1 3)),(norm1 (cell a4_1 2))]) []) (rtn (.tup [(.agg [(.list []),(.list []),(.list []),(.list []),(.list [])]),(norm1 (cell a4_1 3)),(norm1 (cell a4_1 2))]) []))) (ag oeq<|ckA 5 (.agg [a4_5,a4_6,a4_2,a4_3,a4_4])<|rtn (.tup [(norm1 (.agg [a4_5,a4_6,a4_2,a4_3,a4_4])),(norm1 (cell a4_1 1)),qi]) []))).v
def zbN(c:Orc)(l:Lup)(a3_1 a3_2 a3_3 a3_4 a3_5 a3_6:V):Option Out :=({v:=_}:qX (qN4 84 c 34 [qp,(.str [108,105,109,105,116])] (qF4 84 a3_1) fun v1 v2=>cnd v1 (qN4 84 c 38 [qp] (qE4 84 v2) fun v4 v5=>ckA 11 (norm1 v4)<|qN4 84 c 34 [qp,(.str [111,102,102,115,101,116])] (qE4 84 v5) fun v7 v8=>cnd v7 (qN4 84 c 38 [qp] (qE4 84 v8) fun v10 v11=>ckA 11 (norm1 v10)<|zbb c l (qA4 v11) a3_2 (.list [(norm1 v4)]) (.list [(norm1 v10)]) a3_5 a3_6) (zbb c l (qA4 v8) a3_2 (.list [(norm1 v4)]) a3_4 a3_5 a3_6)) (zbb c l (qA4 v2) a3_2 a3_3 a3_4 a3_5 a3_6))).v
def zdp(c:Orc)(l:Lup)(s:List V):Option (Stp Out) :=({v:=_}:qX (qR4 84 c 37 [qp,(.str [44])] (qF4 84 (gt s 1)) fun v1 v2=>cnd v1 (ag (eqS oeq)<|qR4 84 c 36 [qp] (qE4 84 v2) fun v4 v5=>ckA 13 (norm1 v4)<|qap 13 144 (gt s 6) (.list [(norm1 v4)]) fun v7=>some (.next [(agN 5 (gt s 0)),(qA4 v5),(gt s 2),(gt s 3),(gt s 4),(gt s 5),v7])) (om (zbN c l (qA4 v2) (gt s 6) (gt s 3) (gt s 4) (gt s 2) (gt s 5))))).v
def zcr(c:Orc)(l:Lup)(a2_0 a2_1 a2_2 a2_3 a2_4 a2_5 a2_6:V):Option Out :=({v:=_}:qX (qN4 84 c 34 [qp,(.str [111,114,100,101,114])] (qF4 84 a2_1) fun v1 v2=>cnd v1 (qN4 84 c 35 [qp,(.str [98,121])] (qE4 84 v2) fun v4 v5=>qN4 84 c 36 [qp] (qE4 84 v5) fun v7 v8=>ckA 13 (norm1 v7)<|l Out (zdp c l) [(agN 5 a2_0),(qA4 v8),a2_5,a2_3,a2_4,a2_6,(.list [(norm1 v7)])]) (zbN c l (qA4 v2) a2_2 a2_3 a2_4 a2_5 a2_6))).v
def zex(c:Orc)(l:Lup)(a5_0 a5_1 a5_2 a5_3 a5_4 a5_5 a5_6:V):Option (Stp Out) :=({v:=_}:qX (qR4 84 c 33 [qp] (qF4 84 a5_1) fun v1 v2=>some (.next [v1,(agN 5 a5_0),(qA4 v2),a5_5,a5_2,a5_3,a5_4,a5_6]))).v
def zbM(c:Orc)(l:Lup)(s:List V):Option (Stp Out) :=({v:=_}:qX (qgeq (gt s 0) qi fun v1=>cnd v1 (ck1 (norm1 (gt s 0))<|qap 1 8 (gt s 7) (.list [(norm1 (gt s 0))]) fun v2=>ag (eqS oeq)<|qR4 84 c 32 [qp] (qF4 84 (gt s 2)) fun v3 v4=>ckA 6 (norm1 v3)<|qap 6 128 (gt s 3) (.list [(norm1 v3)]) fun v6=>zex c l (agN 5 (gt s 1)) (qA4 v4) (gt s 4) (gt s 5) (gt s 6) v6 v2) (om (zcr c l (agN 5 (gt s 1)) (agN 4 (gt s 2)) (gt s 4) (gt s 5) (gt s 6) (gt s 3) (gt s 7))))).v
def zey(c:Orc)(l:Lup)(a1_0 a1_1 a1_2:V):Option Out :=({v:=_}:qX (cnd a1_2 (rtn (.tup [(.agg [(.list []),(.list []),(.list []),(.list []),(.list [])]),(norm1 a1_1),(.int .i64 20)]) []) (ck1 a1_0<|ck1 a1_1<|ckA 4 (.agg [a1_0,a1_1,qi,qi])<|qN4 84 c 32 [qp] (.blk 84 [a1_0,a1_1,qi,qi]) fun v1 v2=>ckA 6 (norm1 v1)<|qN4 84 c 33 [qp] (qE4 84 v2) fun v4 v5=>l Out (zbM c l) [v4,(.agg [.nils,.nils,.nils,.nils,.nils]),(qA4 v5),(.list [(norm1 v1)]),.nils,.nils,.nils,.nils]))).v
def zhZ(c:Orc)(l:Lup)(x0 x1:V):Option Out :=({v:=_}:qX (qlss x1 qi fun v1=>cnd v1 (zey c l x0 x1 qt) (qll x0 fun v2=>qgtr x1 v2 fun v3=>zey c l x0 x1 v3))).v
def zhC:List LA:=[⟨false,[(4,.c (.p 10 0)),(7,.c (.p 29 0)),(8,.c (.p 35 0)),(9,.d)],[.bv 10 28 5,.bv 29 84 4,.rq 33 40 6,.blk 35 28 [.q 33,.q 46,.d,.d,.d],.rq 46 3 1]⟩,⟨false,[(4,.c (.p 10 0)),(7,.c (.p 29 0)),(8,.c (.p 35 0))],[.bv 10 28 5,.bv 29 84 4,.rq 33 40 6,.blk 35 28 [.q 33,.q 46,.q 66,.d,.d],.rq 46 3 1,.rq 66 50 13]⟩]
theorem zmk:evF Tryz.prog G c l [(34,1034),(54,33),(76,66)] 10 zhC 14 [.d x0,.d x1] []=zhZ c l x0 x1:=by kernel_rfl
def zbZ(c:Orc)(l:Lup)(a1_0 a1_1 a1_2 a1_3 a1_4:V):Option Out :=({v:=_}:qX (qneq a1_2 qi fun v1=>cnd v1 (qll a1_1 fun v2=>qlss a1_3 v2 fun v3=>cnd v3 (qel 6 a1_1 a1_3 fun v4=>ag oeq<|qld v4 5 fun v5=>rtn (.tup [(.agg [(.list []),(.list []),(.list []),(.list []),(.list [])]),(norm1 v5),(norm1 a1_2)]) []) (qls a1_0 fun v6=>rtn (.tup [(.agg [(.list []),(.list []),(.list []),(.list []),(.list [])]),(norm1 v6),(norm1 a1_2)]) [])) (qls a1_0 fun v7=>ckA 5 (agN 5 a1_4)<|rtn (.tup [(norm1 (agN 5 a1_4)),(norm1 v7),qi]) []))).v
def zbs(c:Orc)(l:Lup)(a2_0 a2_1 a2_2 a2_3 a2_4 a2_5:V):Option Out:=cnd a2_4 (zbZ c l a2_0 a2_1 (.int .i64 20) a2_3 (agN 5 a2_5)) (zbZ c l a2_0 a2_1 a2_2 a2_3 (agN 5 a2_5))
def zda(c:Orc)(l:Lup)(x0:V):Option Out :=({v:=_}:qX (qpn c 13 [(norm1 x0)] fun v1=>qex v1 0 fun v2=>qex v1 1 fun v3=>qex v1 2 fun v4=>qneq v4 qi fun v5=>cnd v5 (rtn (.tup [(.agg [(.list []),(.list []),(.list []),(.list []),(.list [])]),(norm1 v3),(norm1 v4)]) []) (qpn c 14 [(norm1 v2),qi] fun v6=>qex v6 0 fun v7=>qex v6 1 fun v8=>qex v6 2 fun v9=>ckA 5 v7<|qeql v9 qi fun v10=>cnd v10 (qll v2 fun v11=>qlss v8 v11 fun v12=>cnd v12 (qel 6 v2 v8 fun v13=>qld v13 0 fun v14=>qneq v14 qi fun v15=>zbs c l x0 v2 v9 v8 v15 (agN 5 v7)) (zbs c l x0 v2 v9 v8 qf (agN 5 v7))) (zbs c l x0 v2 v9 v8 qf (agN 5 v7))))).v
theorem zpn:evF Tryz.prog G c l [] 10 [] 7 [.d x0] []=zda c l x0:=by kernel_rfl
def zcZ(c:Orc)(l:Lup)(a1_0 a1_1 a1_2:V):Option (Stp Out) :=({v:=_}:qX (qel 11 a1_0 a1_2 fun v1=>qlt 11 v1 0 fun v2=>qpo c 24 [(norm1 v2)] fun v3=>qadd a1_1 v3 fun v4=>qadd a1_2 qj fun v5=>some (.next [a1_0,v4,v5]))).v
def zbV(c:Orc)(l:Lup)(s:List V):Option (Stp Out) :=({v:=_}:qX (qll (gt s 0) fun v1=>qlss (gt s 2) v1 fun v2=>cnd v2 (qgtr (gt s 2) qi fun v3=>cnd v3 (qadd (gt s 1) (.str [44,32]) fun v4=>zcZ c l (gt s 0) v4 (gt s 2)) (zcZ c l (gt s 0) (gt s 1) (gt s 2))) (om (rtn (norm1 (gt s 1)) [])))).v
def zgI(c:Orc)(l:Lup)(x0:V):Option Out:=l Out (zbV c l) [x0,(.str []),(.int .i64 0)]
def zgo:List LA:=[⟨false,[(0,.d),(3,.d),(4,.d)],[]⟩]
theorem zk1:evF Tryz.prog G c l [] 10 zgo 25 [.d x0] []=zgI c l x0:=by kernel_rfl
def za4(c:Orc)(l:Lup)(a1_0 a1_1:V):Option Out :=({v:=_}:qX (cnd a1_0 (rtn (.str [42]) []) (cnd (cell a1_1 12) (qadd (cell a1_1 13) (.str [46,42]) fun v1=>rtn (norm1 v1) []) (qneq (cell a1_1 11) qs fun v2=>cnd v2 (qpn c 24 [(norm1 (agN 11 a1_1))] fun v3=>qadd v3 (.str [32,97,115,32]) fun v4=>qadd v4 (cell a1_1 11) fun v5=>rtn (norm1 v5) []) (qpn c 24 [(norm1 (agN 11 a1_1))] fun v6=>rtn (norm1 v6) []))))).v
def zb6(c:Orc)(l:Lup)(x0:V):Option Out:=ckA 14 x0<|cnd (cell x0 12) ((b0 .eql (cell x0 13) (.str [])).bind fun v1=>za4 c l v1 (agN 14 x0)) (za4 c l (.bool false) (agN 14 x0))
theorem zjL:evF Tryz.prog G c l [] 10 [] 45 [.d x0] []=zb6 c l x0:=by kernel_rfl
def zaO(c:Orc)(l:Lup)(a1_0 a1_1 a1_2:V):Option Out :=({v:=_}:qX (cnd a1_0 (rtn (norm1 a1_1) []) (qeql (cell a1_2 2) qj fun v1=>cnd v1 (qadd (.str [32,106,111,105,110,32]) a1_1 fun v2=>qadd v2 (.str [32,111,110,32]) fun v3=>qpn c 25 [(norm1 (cell a1_2 3))] fun v4=>qadd v3 v4 fun v5=>rtn (norm1 v5) []) (qeql (cell a1_2 2) (.int .i64 2) fun v6=>cnd v6 (qadd (.str [32,108,101,102,116,32,106,111,105,110,32]) a1_1 fun v7=>qadd v7 (.str [32,111,110,32]) fun v8=>qpn c 25 [(norm1 (cell a1_2 3))] fun v9=>qadd v8 v9 fun v10=>rtn (norm1 v10) []) (qadd (.str [44,32]) a1_1 fun v11=>rtn (norm1 v11) []))))).v
def zd5(c:Orc)(l:Lup)(x0 x1:V):Option Out:=ckA 4 x0<|(b0 .neq (cell x0 1) (cell x0 0)).bind fun v1=>cnd v1 ((b0 .add (.str [32,97,115,32]) (cell x0 1)).bind fun v2=>(b0 .add (cell x0 0) v2).bind fun v3=>zaO c l x1 v3 (agN 4 x0)) (zaO c l x1 (cell x0 0) (agN 4 x0))
theorem zjr:evF Tryz.prog G c l [] 10 [] 46 [.d x0,.d x1] []=zd5 c l x0 x1:=by kernel_rfl
def zbB(c:Orc)(l:Lup)(a5_0 a5_1:V):Option Out :=({v:=_}:qX (qll (cell a5_1 4) fun v1=>qgtr v1 qi fun v2=>cnd v2 (qpn c 25 [(norm1 (cell a5_1 4))] fun v3=>qadd (.str [32,104,97,118,105,110,103,32]) v3 fun v4=>qadd a5_0 v4 fun v5=>rtn (norm1 v5) []) (rtn (norm1 a5_0) []))).v
def zbC(c:Orc)(l:Lup)(a4_0 a4_1:V):Option Out :=({v:=_}:qX (qll (cell a4_1 5) fun v1=>qgtr v1 qi fun v2=>cnd v2 (qpn c 25 [(norm1 (cell a4_1 5))] fun v3=>qadd (.str [32,103,114,111,117,112,32,98,121,32]) v3 fun v4=>qadd a4_0 v4 fun v5=>zbB c l v5 (agN 6 a4_1)) (zbB c l a4_0 (agN 6 a4_1)))).v
def zch(c:Orc)(l:Lup)(a3_0 a3_1:V):Option Out :=({v:=_}:qX (qll (cell a3_1 3) fun v1=>qgtr v1 qi fun v2=>cnd v2 (qpn c 25 [(norm1 (cell a3_1 3))] fun v3=>qadd (.str [32,119,104,101,114,101,32]) v3 fun v4=>qadd a3_0 v4 fun v5=>zbC c l v5 (agN 6 a3_1)) (zbC c l a3_0 (agN 6 a3_1)))).v
def zcg(c:Orc)(l:Lup)(a6_0 a6_1 a6_2:V):Option (Stp Out) :=({v:=_}:qX (qel 4 (cell a6_2 2) a6_1 fun v1=>qlt 4 v1 0 fun v2=>qeql a6_1 qi fun v3=>qpo c 46 [(norm1 v2),(norm1 v3)] fun v4=>qadd a6_0 v4 fun v5=>qadd a6_1 qj fun v6=>some (.next [v5,v6,(agN 6 a6_2)]))).v
def zbz(c:Orc)(l:Lup)(s:List V):Option (Stp Out) :=({v:=_}:qX (qll (cell (gt s 2) 2) fun v1=>qlss (gt s 1) v1 fun v2=>cnd v2 (qeql (gt s 1) qi fun v3=>cnd v3 (qadd (gt s 0) (.str [32,102,114,111,109,32]) fun v4=>zcg c l v4 (gt s 1) (agN 6 (gt s 2))) (zcg c l (gt s 0) (gt s 1) (agN 6 (gt s 2)))) (om (zch c l (gt s 0) (agN 6 (gt s 2)))))).v
def zeZ(c:Orc)(l:Lup)(a2_0 a2_1:V):Option Out:=l Out (zbz c l) [a2_0,(.int .i64 0),(agN 6 a2_1)]
def zcf(c:Orc)(l:Lup)(a7_0 a7_1 a7_2:V):Option (Stp Out) :=({v:=_}:qX (qel 14 (cell a7_2 1) a7_1 fun v1=>qlt 14 v1 0 fun v2=>qpo c 45 [(norm1 v2)] fun v3=>qadd a7_0 v3 fun v4=>qadd a7_1 qj fun v5=>some (.next [v4,v5,(agN 6 a7_2)]))).v
def zbA(c:Orc)(l:Lup)(s:List V):Option (Stp Out) :=({v:=_}:qX (qll (cell (gt s 2) 1) fun v1=>qlss (gt s 1) v1 fun v2=>cnd v2 (qgtr (gt s 1) qi fun v3=>cnd v3 (qadd (gt s 0) (.str [44,32]) fun v4=>zcf c l v4 (gt s 1) (agN 6 (gt s 2))) (zcf c l (gt s 0) (gt s 1) (agN 6 (gt s 2)))) (om (zeZ c l (gt s 0) (agN 6 (gt s 2)))))).v
def zci(c:Orc)(l:Lup)(a1_0 a1_1:V):Option Out:=l Out (zbA c l) [a1_0,(.int .i64 0),(agN 6 a1_1)]
def zek(c:Orc)(l:Lup)(x0:V):Option Out:=ckA 6 x0<|cnd (cell x0 0) ((b0 .add (.str [115,101,108,101,99,116,32]) (.str [100,105,115,116,105,110,99,116,32])).bind fun v1=>zci c l v1 (agN 6 x0)) (zci c l (.str [115,101,108,101,99,116,32]) (agN 6 x0))
def zfJ:List LA:=[⟨false,[(1,.c (.p 10 0)),(3,.d),(4,.d)],[.bv 10 40 6]⟩,⟨false,[(1,.c (.p 10 0)),(3,.d),(5,.d)],[.bv 10 40 6]⟩]
theorem zjM:evF Tryz.prog G c l [] 10 zfJ 23 [.d x0] []=zek c l x0:=by kernel_rfl
def zcq(c:Orc)(l:Lup)(a3_0 a3_1:V):Option Out :=({v:=_}:qX (qll (cell a3_1 4) fun v1=>qgtr v1 qi fun v2=>cnd v2 (qpn c 25 [(norm1 (cell a3_1 4))] fun v3=>qadd (.str [32,111,102,102,115,101,116,32]) v3 fun v4=>qadd a3_0 v4 fun v5=>rtn (norm1 v5) []) (rtn (norm1 a3_0) []))).v
def zdo(c:Orc)(l:Lup)(a2_0 a2_1:V):Option Out :=({v:=_}:qX (qll (cell a2_1 3) fun v1=>qgtr v1 qi fun v2=>cnd v2 (qpn c 25 [(norm1 (cell a2_1 3))] fun v3=>qadd (.str [32,108,105,109,105,116,32]) v3 fun v4=>qadd a2_0 v4 fun v5=>zcq c l v5 (agN 5 a2_1)) (zcq c l a2_0 (agN 5 a2_1)))).v
def zbL(c:Orc)(l:Lup)(a4_0 a4_1 a4_2:V):Option (Stp Out):=(b0 .add a4_1 (.int .i64 1)).bind fun v1=>some (.next [a4_0,v1,(agN 5 a4_2)])
def zbK(c:Orc)(l:Lup)(a6_0 a6_1 a6_2:V):Option (Stp Out):=(elV 13 (cell a6_2 2) a6_1).bind fun v1=>(ldV false 1 v1 12).bind fun v2=>cnd v2 ((b0 .add a6_0 (.str [32,100,101,115,99])).bind fun v3=>zbL c l v3 a6_1 (agN 5 a6_2)) (zbL c l a6_0 a6_1 (agN 5 a6_2))
def zba(c:Orc)(l:Lup)(a5_0 a5_1 a5_2:V):Option (Stp Out) :=({v:=_}:qX (qel 13 (cell a5_2 2) a5_1 fun v1=>qlt 11 v1 0 fun v2=>qpo c 24 [(norm1 v2)] fun v3=>qadd a5_0 v3 fun v4=>qel 13 (cell a5_2 2) a5_1 fun v5=>qld v5 11 fun v6=>qeql v6 qj fun v7=>cnd v7 (qadd v4 (.str [32,99,111,108,108,97,116,101,32,110,111,99,97,115,101]) fun v8=>zbK c l v8 a5_1 (agN 5 a5_2)) (zbK c l v4 a5_1 (agN 5 a5_2)))).v
def zco(c:Orc)(l:Lup)(s:List V):Option (Stp Out) :=({v:=_}:qX (qll (cell (gt s 2) 2) fun v1=>qlss (gt s 1) v1 fun v2=>cnd v2 (qeql (gt s 1) qi fun v3=>cnd v3 (qadd (gt s 0) (.str [32,111,114,100,101,114,32,98,121,32]) fun v4=>zba c l v4 (gt s 1) (agN 5 (gt s 2))) (qadd (gt s 0) (.str [44,32]) fun v5=>zba c l v5 (gt s 1) (agN 5 (gt s 2)))) (om (zdo c l (gt s 0) (agN 5 (gt s 2)))))).v
def zgg(c:Orc)(l:Lup)(a1_0 a1_1:V):Option Out:=l Out (zco c l) [a1_0,(.int .i64 0),(agN 5 a1_1)]
def zdn(c:Orc)(l:Lup)(a7_0 a7_1 a7_2 a7_3:V):Option (Stp Out) :=({v:=_}:qX (qel 6 (cell a7_2 0) a7_1 fun v1=>qlt 6 v1 0 fun v2=>qpo c 23 [(norm1 v2)] fun v3=>qadd a7_0 v3 fun v4=>qadd a7_1 qj fun v5=>some (.next [v4,v5,(agN 5 a7_2),a7_3]))).v
def zbJ(c:Orc)(l:Lup)(a8_0 a8_1 a8_2 a8_3 a8_4:V):Option (Stp Out) :=({v:=_}:qX (cnd a8_2 (qsub a8_1 qj fun v1=>qel 1 (cell a8_3 1) v1 fun v2=>qld v2 0 fun v3=>qel 1 a8_4 v3 fun v4=>qld v4 0 fun v5=>qadd a8_0 v5 fun v6=>zdn c l v6 a8_1 (agN 5 a8_3) a8_4) (zdn c l a8_0 a8_1 (agN 5 a8_3) a8_4))).v
def zcp(c:Orc)(l:Lup)(s:List V):Option (Stp Out) :=({v:=_}:qX (qll (cell (gt s 2) 0) fun v1=>qlss (gt s 1) v1 fun v2=>cnd v2 (qgtr (gt s 1) qi fun v3=>cnd v3 (qll (cell (gt s 2) 1) fun v4=>qleq (gt s 1) v4 fun v5=>cnd v5 (qsub (gt s 1) qj fun v6=>qel 1 (cell (gt s 2) 1) v6 fun v7=>qld v7 0 fun v8=>qgeq v8 qi fun v9=>cnd v9 (qsub (gt s 1) qj fun v10=>qel 1 (cell (gt s 2) 1) v10 fun v11=>qld v11 0 fun v12=>qlss v12 (.int .i64 4) fun v13=>zbJ c l (gt s 0) (gt s 1) v13 (agN 5 (gt s 2)) (gt s 3)) (zbJ c l (gt s 0) (gt s 1) qf (agN 5 (gt s 2)) (gt s 3))) (zbJ c l (gt s 0) (gt s 1) qf (agN 5 (gt s 2)) (gt s 3))) (zbJ c l (gt s 0) (gt s 1) qf (agN 5 (gt s 2)) (gt s 3))) (om (zgg c l (gt s 0) (agN 5 (gt s 2)))))).v
def zhY(c:Orc)(l:Lup)(x0:V):Option Out:=ckA 5 x0<|l Out (zcp c l) [(.str []),(.int .i64 0),(agN 5 x0),(.list [(.str [32,117,110,105,111,110,32]),(.str [32,117,110,105,111,110,32,97,108,108,32]),(.str [32,105,110,116,101,114,115,101,99,116,32]),(.str [32,101,120,99,101,112,116,32])])]
def zhB:List LA:=[⟨false,[(1,.c (.p 10 0)),(3,.q 12),(4,.d),(5,.d)],[.bv 10 28 5,.rq 12 9 1]⟩,⟨false,[(1,.c (.p 10 0)),(4,.d),(6,.d)],[.bv 10 28 5]⟩]
theorem zmj:evF Tryz.prog G c l [] 10 zhB 10 [.d x0] []=zhY c l x0:=by kernel_rfl
def annUc(f:FuncId)(d:List (Nat×Nat)×List LA):List (Nat×Nat)×List LA:=if f=81 then([(21,13)],zfT)else if f=80 then([(72,13)],zfK)else if f=32 then([(30,20)],zgp)else if f=14 then([(34,1034),(54,33),(76,66)],zhC)else if f=25 then([],zgo)else if f=23 then([],zfJ)else if f=10 then([],zhB)else d
end
section
open Go.RowKit
open Vm
variable[Gl]
def prsE(L:List Lx.TA)(p:Nat):Ent:=.blk 182 [.list (L.map tokM),.int .i64 (p:Int)]
def expC:Ex.E→List Vm.V
 |.mk k op v t n s ng d l=>[.int .i64 k,.str op,.int .i64 v.1,.int .i64 v.2.1,.str v.2.2,.str t,.str n,.int .i64 s,.bool ng,.bool d,.list (l.map fun e=>.agg (expC e))]
def encE(e:Ex.E):Vm.V:=.agg (expC e)
def annT(f:FuncId):List (Nat×Nat)×List LA:=annUc f<|annUb f<|annUa f<|annTy f<|annTx f<|annTw f<|annTv f (annTu f (annTr f (annTc f ([],[]))))
def pr:Pro:=.ofL Tryz.prog glG annT natL
theorem zuj{s:List UInt8}(hs:s.length≤1000000):pr.ev 59 [.str s] []=some (.ret (.str (Lx.fold s)),[]):=pr.ofN rfl (by show zhT (ans1 _ [.str s])=_;simp[zhT,ans1,hs])
theorem zrG{s:List UInt8}(hs:s.length≤1000000):pr.ev 77 [.str s] []=some (.ret (.str (Lx.fold s)),[]):=pr.ofN rfl (by show zhT (ans1 _ [.str s])=_;simp[zhT,ans1,hs])
theorem ev_scan{s:List UInt8}(hs:s.length≤1000000):pr.ev 11 [.str s] []=some (.ret (zq0 s),[]):=pr.ofN rfl (by show zhT (ans1 _ [.str s])=_;simp[zhT,ans1,hs])
theorem ev_rscan{s:List UInt8}(hs:s.length≤1000000):pr.ev 13 [.str s] []=some (.ret (zq0 s),[]):=pr.ofN rfl (by show zhT (ans1 _ [.str s])=_;simp[zhT,ans1,hs])
@[simp] theorem zfr (L:List Lx.TA) (i:Nat) (k:IntKind):elV 6 (.list (L.map tokM)) (.int k (i:Int))=(L[i]?).map tokM:=zm9 6 tokM L k i fun _=>rfl
@[simp] theorem tok_0 (t:Lx.TA):ldV false 1 (tokM t) 0=some (.int .i64 t.1.kind):=rfl
@[simp] theorem tok_1 (t:Lx.TA):ldV false 1 (tokM t) 1=some (.str t.1.text):=rfl
@[simp] theorem tok_w (t:Lx.TA):ldV true 6 (tokM t) 0=some (tokM t):=rfl
@[simp] theorem tok_n (t:Lx.TA):norm1 (tokM t)=tokM t:=rfl
@[simp] theorem tok_a (t:Lx.TA):agN 6 (tokM t)=tokM t:=rfl
@[simp] theorem tok_k {Z:Type} (t:Lx.TA) (A:Option Z):ckA 6 (tokM t) A=A:=rfl
theorem tok_wf(t:Lx.TA):wf (tokM t)=true:=rfl
theorem zhd(L:List Lx.TA):wfs (L.map tokM)=true:=zbf.2 fun v hv=>by obtain⟨t,_,rfl⟩:=qa55.1 hv;exact tok_wf t
@[simp] theorem zag (L:List Lx.TA) (p:Nat):Ent.blk 182 [.list (L.map tokM),.int .i64 (p:Int)]=prsE L p:=rfl
@[simp] theorem zcB (L:List Lx.TA) (p:Nat):zad (prsE L p) 0=.list (L.map tokM):=rfl
@[simp] theorem zcA (L:List Lx.TA) (p:Nat):zad (prsE L p) 1=.int .i64 (p:Int):=rfl
theorem ckE_p{Z:Type}(L:List Lx.TA)(p:Nat)(A:Option Z):ckE 182 2 (prsE L p) A=A:=by
 unfold ckE prsE;dsimp only;rw[if_pos ⟨rfl,rfl,by simp[wfs,wf,zhd]⟩]
section
variable{Z:Type}{c:Orc}{g:FuncId}{args:List Vm.V}{L:List Lx.TA}{p q:Nat}{v:Vm.V}
theorem k_r(h:c g args [prsE L p]=some (.ret v,[prsE L q]))(Kp K:Vm.V→Ent→Option Z):cl1 c g args (prsE L p) 182 2 Kp K=K v (prsE L q):=by
 simp only[cl1,cal,h,nth,List.getD_cons_zero,ckE_p]
theorem k_p(h:c g args [prsE L p]=some (.panic v,[prsE L q]))(Kp K:Vm.V→Ent→Option Z):cl1 c g args (prsE L p) 182 2 Kp K=Kp v (prsE L q):=by
 simp only[cl1,cal,h,nth,List.getD_cons_zero,ckE_p]
end
theorem m_is(L:List Lx.TA)(p a:Nat)(k:Int)(s:List UInt8)(hL:L.length≤999999)(hp:p≤L.length)(ha:a≤2):
  pr.ev 183 [.ptr 0 0,.int .i64 (a:Int),.int .i64 k,.str s] [prsE L p]=some (.ret (.bool (Ex.isT (L.map (·.1)) (p+a) k s)),[prsE L p]):=by
 refine pr.of rfl rfl rfl (znr _ _ _ _ _ _ _ _) ?_;have hw:IntKind.wrap .i64 ((p:Int)+a)=((p+a:Nat):Int):=by rw[zcd (by omega) (by omega)];simp
 by_cases h:p+a<L.length
 ·simp[-Int.natCast_add,zf1,hw,rtn,Ex.isT,h, -zag,prsE];by_cases h2:L[p+a].1.kind=k<;>simp[h2]
 ·simp[-Int.natCast_add,zf1,hw,rtn,Ex.isT,h, -zag,prsE]
theorem m_is0(L:List Lx.TA)(p:Nat)(k:Int)(s:List UInt8)(hL:L.length≤999999)(hp:p≤L.length):
  pr.ev 183 [.ptr 0 0,.int .i64 0,.int .i64 k,.str s] [prsE L p]=some (.ret (.bool (Ex.isT (L.map (·.1)) p k s)),[prsE L p]):=m_is L p 0 k s hL hp (by omega)
theorem zbU{p:Nat}(h:p≤1000000):IntKind.wrap .i64 ((p:Int)+1)=((p+1:Nat):Int):=by rw[zcd (by omega) (by omega)];simp
theorem zsX(L:List Lx.TA)(p:Nat)(k:Int)(s:List UInt8)(hL:L.length≤999999)(hp:p≤L.length):
  pr.ev 178 [.ptr 0 0,.int .i64 k,.str s] [prsE L p]=some (.ret (.bool (Ex.isT (L.map (·.1)) p k s)),[prsE L (if Ex.isT (L.map (·.1)) p k s then p+1 else p)]):=by
 refine pr.of rfl rfl rfl (zlG _ _ _ _ _ _ _) ?_;cases h:Ex.isT (L.map (·.1)) p k s<;>simp[-Int.natCast_add,zhi,k_r (m_is0 L p k s hL hp),h,rtn,zbU (show p≤1000000 by omega)]
theorem zyA(L:List Lx.TA)(p:Nat)(s:List UInt8)(hL:L.length≤999999)(hp:p≤L.length):
  pr.ev 179 [.ptr 0 0,.str s] [prsE L p]=some (.ret (.bool (Ex.isT (L.map (·.1)) p 2 s)),[prsE L (if Ex.isT (L.map (·.1)) p 2 s then p+1 else p)]):=by
 refine pr.of rfl rfl rfl (zlF _ _ _ _ _ _) ?_;simp[-Int.natCast_add,zhh,k_r (zsX L p 2 s hL hp),rtn]
theorem zyI(L:List Lx.TA)(p:Nat)(s:List UInt8)(hL:L.length≤999999)(hp:p≤L.length):
  pr.ev 189 [.ptr 0 0,.str s] [prsE L p]=some (.ret (.bool (Ex.isT (L.map (·.1)) p 4 s)),[prsE L (if Ex.isT (L.map (·.1)) p 4 s then p+1 else p)]):=by
 refine pr.of rfl rfl rfl (zlH _ _ _ _ _ _) ?_;simp[-Int.natCast_add,zhj,k_r (zsX L p 4 s hL hp),rtn]
def stopV(q:Nat):Vm.V:=.iface 178 (.agg [.int .i64 (q:Int)])
theorem zyz(L:List Lx.TA)(p:Nat):pr.ev 188 [.ptr 0 0] [prsE L p]=some (.panic (stopV p),[prsE L p]):=by
 refine pr.of rfl rfl rfl (zle _ _ _ _ _) ?_;rfl
theorem zvt(L:List Lx.TA)(p:Nat)(k:Int)(s:List UInt8)(hL:L.length≤999999)(hp:p≤L.length):
  pr.ev 185 [.ptr 0 0,.int .i64 k,.str s] [prsE L p]=if Ex.isT (L.map (·.1)) p k s then some (.ret (.tup []),[prsE L (p+1)])else some (.panic (stopV p),[prsE L p]):=by
 cases h:Ex.isT (L.map (·.1)) p k s
 ·refine pr.of rfl rfl rfl (zh7 _ _ _ _ _ _ _) ?_;have h1:=zsX L p k s hL hp;simp only[h]at h1;simp[-Int.natCast_add,zfb,k_r h1,k_p (zyz L p),pnk]
 ·refine pr.of rfl rfl rfl (zh7 _ _ _ _ _ _ _) ?_;have h1:=zsX L p k s hL hp;simp only[h]at h1;simp[-Int.natCast_add,zfb,k_r h1,rtn]
theorem m_kind(L:List Lx.TA)(p:Nat)(k:Int)(hL:L.length≤999999)(hp:p≤L.length):
  pr.ev 193 [.ptr 0 0,.int .i64 k] [prsE L p]=match L[p]? with
   |some t=>if t.1.kind=k then some (.ret (.tup [tokM t,.bool true]),[prsE L (p+1)])else some (.ret (.tup [.agg [.int .i64 0,.str [],.int .i64 0,.int .i64 0,.str [],.int .i64 0],.bool false]),[prsE L p])
   |none=>some (.ret (.tup [.agg [.int .i64 0,.str [],.int .i64 0,.int .i64 0,.str [],.int .i64 0],.bool false]),[prsE L p]):=by
 cases h:L[p]? with
 |none=>
  have h1:¬p<L.length:=by simpa using h
  have h2:L.length≤p:=by omega
  refine pr.of rfl rfl rfl (zfE _ _ _ _ _ _) ?_;simp[-Int.natCast_add,zd8,zb8,rtn,h2]
 |some t=>
  have h1:p<L.length:=(qa9.1 h).1;have h2:¬L.length≤p:=by omega
  have hw:IntKind.wrap .i64 (((p+1:Nat):Int)-1)=(p:Int):=by rw[zcd (by omega) (by omega)];omega
  dsimp only;split
  ·rename_i hk;refine pr.of rfl rfl rfl (zfE _ _ _ _ _ _) ?_;simp[-Int.natCast_add,zd8,zb8,rtn,h2,h,hk,zbU (show p≤1000000 by omega),hw]
  ·rename_i hk;refine pr.of rfl rfl rfl (zfE _ _ _ _ _ _) ?_;simp[-Int.natCast_add,zd8,zb8,rtn,h2,h,hk]
end
section
open Go.RowKit
open Go.ChangeShapes Go.WideShapes Go.ChangeAt
section
variable{H:Type}{enc:TypeId×Value→H}{P:Program}
theorem zwr{f:Func}{s:ChangeSpec}{apart fresh handsOn again:Bool}{W W':World}{args:Array Value}{v:Value}{ds gs:List (DataW H)}{before pa pv:List MemPlace}
  (hW:DataW.Whole enc P f.params.toList s.vars apart W args.toList ds gs before)
  (hres:∀(b:Nat)(sp:Nat→Bool)(hd:Bool),DataW.TrodAll enc P W' b sp hd f.resultTypes.toList (v.resultList f.resultTypes.size) (s.fn H (ds++gs)).results [])
  (hargs:∀sp:Nat→Bool,(∀p∈before,sp p.block=true)→DataW.TrodAll enc P W' 0 sp true f.params.toList args.toList (s.fn H (ds++gs)).args pa)
  (hvars:∀sp:Nat→Bool,(∀p∈before,sp p.block=true)→DataW.TrodVars enc P W' sp s.vars (s.fn H (ds++gs)).vars pv)
  (hps:before=pa++pv) (hb:Below W.heap.size W W')
  (hok:∀(j:Nat)(t:TypeId)(r:Value),f.resultTypes[j]?=some t→(v.resultList f.resultTypes.size)[j]?=some r→Value.okWide P W' .any 0 t r):
  s.post enc P f apart fresh handsOn again W args v W':=by
 have old:∀p∈before,p.block<W.heap.size:=fun p hp=>hW.lt p hp;have hold:∀p∈before,(fun b=>decide (b<W.heap.size)) p.block=true:=fun p hp=>by simpa using old p hp
 have mem:∀p,p∈before↔p∈pa∨p∈pv:=fun p=>by rw[hps,qa47]
 refine⟨ds,gs,before,[],pa,pv,hW,hres _ _ _,hargs _ hold,hvars _ hold,World.keptBut_mono (fun p hp=>⟨hp,.inr ((mem p).1 hp)⟩) (hb.frame _),fun _=>?_⟩;obtain⟨_,_,_,_,_,hz,hn⟩:=hW;refine⟨hok,_,_,([]++pa)++pv,⟨[]++pa,pv,trodAll_append (hargs _ (fun _ _=>rfl)) (hres _ _ _),hvars _ (fun _ _=>rfl),rfl,fun b off hp=>?_,fun ha=>?_⟩,fun p hp _=>?_⟩
 ·have hp':MemPlace.cell b off∈before:=by rw [hps];simpa using hp
  rw[hb.frozen (p:=⟨b,off,none⟩) (old _ hp')];exact hz b off hp'
 ·have:=hn ha;rw[hps]at this;simpa using this
 ·rw[hps];simpa using hp
end
end
section
open Go.RowKit
open Vm
theorem zts{P:Program}{G:Nat→Vm.V}{f:FuncId}{args:List Vm.V}{v:Vm.V}(h:Ret P G f args v){w:World}{vals:Array Value}(hv:RepL w (fun _ _=>False) args vals.toList)
  (hg:∀g,G g=.any∨RepV w (fun _ _=>False) (G g) (.pointer (some ⟨g,0,none⟩))):Calls P f vals w fun e w'=>Below w.heap.size w w'∧∃A',OutRep w' A' (.ret v) e:=by
 have hm:Mem ⟨w,fun _ _=>False,0,fun _=>Value.nilIface,entF [],G,0,[]⟩ (entF []) w (fun _=>Value.nilIface) (fun _ _=>False):=
  { glo:=hg,kp:=Keeps.refl _ _,ent:=fun id=>trivial,dis:=fun id id' _ h=>absurd rfl h,a00:=fun b o h=>h.elim,a0:=fun b o h _=>h,al:=fun b o h=>h.elim,out:=Foll.refl _ _,lent:=fun id b h=>absurd h (Nat.not_lt_zero _),loc:=fun id b _ h=>absurd rfl h,ext:=⟨rfl,rfl,rfl,qa57 _,fun _ _ _=>rfl⟩ }
 refine Calls.mono (h.2 w _ _ vals hm (znE hv)) fun e w' ⟨o,es,H',A',⟨ho,hes⟩,_,_,hm',hout⟩=>?_;subst ho;exact⟨⟨hm'.ext.os,hm'.ext.tape,hm'.ext.output,hm'.ext.size,fun k hk=>hm'.ext.block k hk (fun id h=>absurd h (Nat.not_lt_zero _))⟩,A',hout⟩
theorem xcell_lt{w:World}{b o:Nat}{v:Value}(h:w.cell? ⟨b,o,none⟩=some v):b<w.heap.size:=by
 false_or_by_contra
 rename_i hn;have:w.heap[b]?=none:=Array.getElem?_eq_none (by omega);simp[World.cell?,this]at h
def gOf(m:Int):Nat→Vm.V:=fun g=>if g=shRen.g 1 then .ip (.int .i64 m) 0 else .any
theorem gOf_at(m:Int):gOf m (shRen.g 1)=.ip (.int .i64 m) 0:=if_pos rfl
theorem gOf_rep{W:World}{m:Int}(h:W.cell? ⟨shRen.g 1,0,none⟩=some (.int .i64 m))(g:Nat):gOf m g=.any∨RepV W (fun _ _=>False) (gOf m g) (.pointer (some ⟨g,0,none⟩)):=by
 by_cases hg:g=shRen.g 1
 ·subst hg;right;rw[gOf_at];refine .ip (.int .i64 m) 0 (shRen.g 1) 0 [.int .i64 m] (.one _ _ rfl (.int _ _)) ⟨?_,fun j u hu=>⟨?_,fun h=>h⟩⟩
  ·exact xcell_lt h
  ·match j,hu with
   |0,hu=>
    cases hu;exact h
 ·left;exact if_neg hg
theorem g_cell{W:World}(h:W.ShapedOpen Tryz.prog):∃m,W.cell? ⟨shRen.g 1,0,none⟩=some (.int .i64 m):=
 Go.Proofs.cell_of_shapedOpen_int (t:=3) (zero:=#[.int .i64 0]) h (of_decide_eq_true (by kernel_rfl)) (by kernel_rfl) rfl (by kernel_rfl) (by kernel_rfl) (by kernel_rfl)
theorem zus{m:Int}{f:FuncId}{args:List Vm.V}{v:Vm.V}(h:(@pr ⟨m⟩).ev f args []=some (.ret v,[]))(ha:∀a∈args,argOk 0 a){w:World}(hm:w.cell? ⟨shRen.g 1,0,none⟩=some (.int .i64 m)){vals:Array Value}(hv:RepL w (fun _ _=>False) args vals.toList):
  Calls Tryz.prog f vals w fun e w'=>Below w.heap.size w w'∧∃A',OutRep w' A' (.ret v) e:=
 zts (G:=gOf m) (((@pr ⟨m⟩).ev_ok f args [] (.ret v) [] ha (fun e he=>by cases he) h).mono fun o es h=>h) hv (gOf_rep hm)
section
variable{H:Type}{enc:TypeId×Value→H}
theorem zmM{a:Assume}{C:Checked}{os:Os}{f:FuncId}{fn:Func}{s:ChangeSpec}{conds:List PathCond}{apart fresh handsOn again:Bool}{X:World→Array Value→Prop}
  (hX:∀(w w':World)(args:Array Value),w.heap=w'.heap→X w args→X w' args)
  (own:ownKnob C.prog.godebug=none) (started:os.Started) (noInit:C.prog.inits.idxOf? f=none) (hfn:C.prog.funcs[f]?=some fn)
  (witness:∃ (w:World) (tape:Tape) (i:Input),w.os=os∧(w.forCall tape i).Shaped C.prog∧i.vars=[]∧Input.okWide C.prog (w.forCall tape i) .any w.heap.size f i ∧
   ((s.pre enc C.prog fn conds apart (w.forCall tape i).memory i.args∧X (w.forCall tape i).memory i.args)∧sizedMet enc C.prog fn (OpenSpec.ofChange s) apart (w.forCall tape i).memory i.args)∧a.holds C.prog (lone (Frame.enter C.prog f i.args .normal) [] (w.forCall tape i)))
  (contract:∀(W:World)(base:Nat)(args:Array Value) (ds gs:List (DataW H)) (before:List MemPlace),
   (∀(j:Nat) t v,fn.params[j]?=some t→args[j]?=some v→Value.okWide C.prog W .any base t v) →
   DataW.Whole enc C.prog fn.params.toList s.vars apart W args.toList ds gs before →
   conds.all (PathCond.test C.prog ⟨fn.params.toList,ds,s.plain.varTypes C.prog,gs⟩)=true →
   (DataW.weightsEach C.prog (fn.params.toList++s.plain.varTypes C.prog) (ds++gs)).all (·≤reachBytes)=true→X W args→W.ShapedOpen C.prog →
   a.holds C.prog (lone (Frame.enter C.prog f args .normal) [] W) →
   Calls C.prog f args W fun e W'=>∃v,e=.returned v∧s.post enc C.prog fn apart fresh handsOn again W args v W'):
  ReturnsInHanded a C os f .any (fun w args=>(s.pre enc C.prog fn conds apart w args∧X w args)∧sizedMet enc C.prog fn (OpenSpec.ofChange s) apart w args) (s.post enc C.prog fn apart fresh handsOn again):=by
 refine returnsInHanded_of_calls own started noInit witness ?_;intro w tape i _ hsh _ hok hpre hholds;obtain⟨_,_,_,fn',hfn',_,_,_,_,hval⟩:=hok;have e:fn'=fn:=Option.some.inj (hfn'.symm.trans hfn);subst e;obtain⟨⟨⟨ds,gs,before,hw,hc⟩,hx⟩,hz⟩:=hpre;have hw':=DataW.Whole.of_heap (w':=w.forCall tape i) (by rfl) hw;refine(contract (w.forCall tape i) w.heap.size i.args ds gs before hval hw' hc (hz.weights hw) (hX _ _ _ (by rfl) hx) hsh hholds).mono fun e W' ⟨v,he,hp⟩=>?_;subst he;exact ChangeSpec.post_blind hp
end
abbrev zwC:List (String×DataW Unit):=[("unicode/utf8.acceptRanges",Rows.laid_unicode_utf8_acceptRanges),("unicode/utf8.first",Rows.laid_unicode_utf8_first)]
theorem zw0(os:Os)(args:Array Value):laidMetH Tryz.prog zwC ((World.laidAll Tryz.prog os zwC).forCall (fun _ _=>0) ⟨#[],args,[]⟩).memory:=by
 rw[MakeChecks.laidMetH_plain _ _ _ (by kernel_rfl)];exact laidMet_laidAll _ (by kernel_rfl) (by kernel_rfl)
theorem xOwn_:ownKnob Tryz.prog.godebug=none:=by kernel_rfl
end
section
open Go.RowKit
open Vm
variable[Gl]
theorem enc_mk(k:Int)(op:Ex.S)(v:Ex.V)(t n:Ex.S)(s:Int)(g d:Bool)(l:List Ex.E):
  encE (.mk k op v t n s g d l)=.agg [.int .i64 k,.str op,.int .i64 v.1,.int .i64 v.2.1,.str v.2.2,.str t,.str n,.int .i64 s,.bool g,.bool d,.list (l.map encE)]:=by unfold encE;rw[expC]
theorem zde(e:Ex.E):(encE e).size=11:=by cases e;rw[enc_mk];rfl
@[simp] theorem za0 {Z:Type} (e:Ex.E) (A:Option Z):ckA 11 (encE e) A=A:=by cases e;rw[enc_mk];exact ckA_agg _ _ rfl (by simp)
@[simp] theorem zdy (e:Ex.E):agN 11 (encE e)=encE e:=by cases e;rw[enc_mk];exact agN_agg _ _ rfl
@[simp] theorem zbw (e:Ex.E):norm1 (encE e)=encE e:=by cases e;rw[enc_mk];simp
def LvP(L:List Lx.TA)(f:FuncId)(k n:Nat):Prop:=∀m p r,m≤n→p≤L.length→Ex.run (L.map (·.1)) m (.lev k) p=some r →
 (∃e q,r=.ok [e] q∧p<q∧q≤L.length∧pr.ev f [.ptr 0 0] [prsE L p]=some (.ret (encE e),[prsE L q]))∨∃q,r=.stop q∧q≤L.length∧pr.ev f [.ptr 0 0] [prsE L p]=some (.panic (stopV q),[prsE L q])
def oneV(r:Option (List UInt8)):Vm.V:=match r with|some s=>.tup [.str s,.bool true]|none=>.tup [.str [],.bool false]
def str1:List UInt8→Vm.V:=.str
theorem zvf(L:List Lx.TA)(p:Nat)(k:Int)(l:List (List UInt8))(hL:L.length≤999999)(hp:p≤L.length)(hl:l.length≤1000):∀(n i:Nat),i+n=l.length →
  lup Out (zcy pr.ev lup) [.int .i64 k,.list (l.map str1),.int .i64 l.length,.int .i64 i,.agg [.list (L.map tokM),.int .i64 p]] =
   some (.ret (oneV (Ex.zet (L.map (·.1)) p k (l.drop i))),[prsE L (match Ex.zet (L.map (·.1)) p k (l.drop i)with|some _=>p+1|none=>p)])
 |0,i,hi=>by
  have h1:¬i<l.length:=by omega
  have h2:l.drop i=[]:=List.drop_of_length_le (by omega);rw[zan];simp[-Int.natCast_add,zcy,h1,h2,Ex.zet,oneV,rtn]
 |n+1,i,hi=>by
  have h1:i<l.length:=by omega
  have h2:l.drop i=l[i]::l.drop (i+1):=qa10 h1;have h3:=zsX L p k l[i] hL hp;have h4:=zvf L p k l hL hp hl n (i+1) (by omega);have el:elV 1 (.list (l.map str1)) (.int .i64 (i:Int))=some (.str l[i]):=by rw[zm9 1 str1 l .i64 i fun _=>rfl];simp[h1,str1]
  have ld:ldV false 1 (.str l[i]) 0=some (.str l[i]):=rfl;rw[zan,h2,Ex.zet];cases h:Ex.isT (L.map (·.1)) p k l[i]
  ·simp only[h]at h3;simp[-Int.natCast_add,zcy,h1,el,ld,k_r h3,h,zbU (show i≤1000000 by omega)];simpa[-Int.natCast_add]using h4
  ·simp only[h]at h3;simp[-Int.natCast_add,zcy,h1,el,ld,k_r h3,h,oneV,rtn]
theorem m_one(L:List Lx.TA)(p:Nat)(k:Int)(l:List (List UInt8))(hL:L.length≤999999)(hp:p≤L.length)(hl:l.length≤1000):
  pr.ev 171 [.ptr 0 0,.int .i64 k,.list (l.map .str)] [prsE L p]=some (.ret (oneV (Ex.zet (L.map (·.1)) p k l)),[prsE L (match Ex.zet (L.map (·.1)) p k l with|some _=>p+1|none=>p)]):=by
 refine pr.of rfl rfl rfl (zmu _ _ _ _ _ _ _) ?_;have h:=zvf L p k l hL hp hl l.length 0 (by omega);simpa[-Int.natCast_add,zh4, -zag,str1]using h
def zE0:Vm.V:=.agg [.int .i64 0,.str [],.int .i64 0,.int .i64 0,.str [],.str [],.str [],.int .i64 0,.bool false,.bool false,.nils]
theorem zrJ(op:Ex.S)(a b:Ex.E):Vm.V.agg [.int .i64 4,.str op,.int .i64 0,.int .i64 0,.str [],.str [],.str [],.int .i64 0,.bool false,.bool false,.list [encE a,encE b]]=encE (Ex.eBin op a b):=by rw[Ex.eBin,enc_mk];rfl
theorem zvM(op:Ex.S)(a:Ex.E):Vm.V.agg [.int .i64 3,.str op,.int .i64 0,.int .i64 0,.str [],.str [],.str [],.int .i64 0,.bool false,.bool false,.list [encE a]]=encE (Ex.eUn op a):=by rw[Ex.eUn,enc_mk];rfl
def OutP(L:List Lx.TA)(lo:Nat)(r:Ex.R)(o:Option Out):Prop:=(∃e q,r=.ok [e] q∧lo≤q∧q≤L.length∧o=some (.ret (encE e),[prsE L q]))∨∃q,r=.stop q∧q≤L.length∧o=some (.panic (stopV q),[prsE L q])
theorem chain_loop{L:List Lx.TA}{f:FuncId}{k n:Nat}(hL:L.length≤999999)(h:LvP L f (k+1) n):∀(m p:Nat)(e:Ex.E)(r:Ex.R),m≤n+1→p≤L.length→Ex.run (L.map (·.1)) m (.chain k e) p=some r →
  OutP L p r (lup Out (sh_expr_parser_chain_l0 pr.ev lup) [.fn f [] [],.int .i64 (Ex.ops k).2,.list ((Ex.ops k).1.map .str),.agg [.list (L.map tokM),.int .i64 p],zE0,encE e])
 |0,p,e,r,_,_,hr=>by cases hr
 |m+1,p,e,r,hm,hp,hr=>by
  have h1:=m_one L p (Ex.ops k).2 (Ex.ops k).1 hL hp (by unfold Ex.ops;split<;>simp);simp only[Ex.run]at hr;cases ho:Ex.zet (L.map (·.1)) p (Ex.ops k).2 (Ex.ops k).1 with
  |none=>
   rw[ho]at hr h1;cases hr;refine .inl ⟨e,p,rfl,qa57 _,hp, ?_⟩;rw[zan];simp[-Int.natCast_add,sh_expr_parser_chain_l0,k_r h1,oneV,rtn]
  |some op=>
   rw[ho]at hr h1;have hlt:p<L.length:=by simpa using(Ex.zcl ho).1
   rcases Ex.then1_some hr with⟨b,q,hb,hr2⟩|⟨q,hb,rfl⟩
   ·rcases h m (p+1) _ (by omega) (by omega) hb with ⟨b',q',hb',hq1,hq2,hev⟩ | ⟨q',hb',_⟩
    ·cases hb';have ih:=chain_loop hL h m q (Ex.eBin op e b) r (by omega) hq2 hr2;have e1:lup Out (sh_expr_parser_chain_l0 pr.ev lup) [.fn f [] [],.int .i64 (Ex.ops k).2,.list ((Ex.ops k).1.map .str),.agg [.list (L.map tokM),.int .i64 p],zE0,encE e]=lup Out (sh_expr_parser_chain_l0 pr.ev lup) [.fn f [] [],.int .i64 (Ex.ops k).2,.list ((Ex.ops k).1.map .str),.agg [.list (L.map tokM),.int .i64 q],zE0,encE (Ex.eBin op e b)]:=by
      rw[zan];simp[-Int.natCast_add,sh_expr_parser_chain_l0,k_r h1,k_r hev,oneV,zrJ,fnG,zE0]
     rw[e1];rcases ih with⟨e',q2,hr',h4,h5,h6⟩|h4
     ·exact .inl ⟨e',q2,hr',by omega,h5,h6⟩
     ·exact .inr h4
    ·cases hb'
   ·rcases h m (p+1) _ (by omega) (by omega) hb with ⟨b',q',hb',_⟩ | ⟨q',hb',hq2,hev⟩
    ·cases hb'
    ·cases hb';refine .inr ⟨q,rfl,hq2, ?_⟩;rw[zan];simp[-Int.natCast_add,sh_expr_parser_chain_l0,k_r h1,k_p hev,oneV,fnG,pnk]
end
section
open Go.RowKit
open Vm
variable[Gl]
section
variable{L:List Lx.TA}{n:Nat}
theorem m_chain{f:FuncId}{k:Nat}(hL:L.length≤999999)(h:LvP L f (k+1) n)(hk:k≠2∧k≠3∧k≠7∧k≠8)(m p:Nat)(r:Ex.R)(hm:m≤n+1)(hp:p≤L.length)(hr:Ex.run (L.map (·.1)) m (.lev k) p=some r):
  OutP L (p+1) r (pr.ev 161 [.ptr 0 0,.fn f [.ptr 0 0] [],.int .i64 (Ex.ops k).2,.list ((Ex.ops k).1.map .str)] [prsE L p]):=by
 cases m with
 |zero=>cases hr
 |succ m=>
  rw[Ex.zmx _ _ _ _ hk]at hr;rcases Ex.then1_some hr with⟨b,q,hb,hr2⟩|⟨q,hb,rfl⟩
  ·rcases h m p _ (by omega) hp hb with ⟨b',q',hb',hq1,hq2,hev⟩ | ⟨q',hb',_⟩
   ·cases hb';have e0:∀z,lup Out (sh_expr_parser_chain_l0 pr.ev lup) [.fn f [] [],.int .i64 (Ex.ops k).2,.list ((Ex.ops k).1.map .str),.agg [.list (L.map tokM),.int .i64 q],zE0,encE b]=some z→pr.ev 161 [.ptr 0 0,.fn f [.ptr 0 0] [],.int .i64 (Ex.ops k).2,.list ((Ex.ops k).1.map .str)] [prsE L p]=some z:=by
     intro z hz;refine pr.of rfl rfl rfl (zhs _ _ _ _ _ _ _ _) ?_;simpa[-Int.natCast_add,zeY,k_r hev,zE0]using hz
    rcases chain_loop hL h m q b r (by omega) hq2 hr2 with⟨e',q2,hr',h4,h5,h6⟩|⟨q2,hr',h5,h6⟩
    ·exact .inl ⟨e',q2,hr',by omega,h5,e0 _ h6⟩
    ·exact .inr ⟨q2,hr',h5,e0 _ h6⟩
   ·cases hb'
  ·rcases h m p _ (by omega) hp hb with ⟨b',q',hb',_⟩ | ⟨q',hb',hq2,hev⟩
   ·cases hb'
   ·cases hb';refine .inr ⟨q,rfl,hq2, ?_⟩;refine pr.of rfl rfl rfl (zhs _ _ _ _ _ _ _ _) ?_;simp[-Int.natCast_add,zeY,k_p hev,pnk]
theorem m_expr(hL:L.length≤999999)(h:LvP L 162 1 n):LvP L 148 0 (n+1):=fun m p r hm hp hr=>by
 rcases m_chain hL h (by decide) m p r hm hp hr with⟨e,q,rfl,h1,h2,h3⟩|⟨q,rfl,h2,h3⟩
 ·simp only[Ex.ops,Ex.wOr,Ex.wAnd,Ex.zjY,Ex.zfm,Ex.zem,List.map]at h3;refine .inl ⟨e,q,rfl,h1,h2,pr.of rfl rfl rfl (zia _ _ _ _ _) ?_⟩;simp[zfe,k_r h3,rtn]
 ·simp only[Ex.ops,Ex.wOr,Ex.wAnd,Ex.zjY,Ex.zfm,Ex.zem,List.map]at h3;refine .inr ⟨q,rfl,h2,pr.of rfl rfl rfl (zia _ _ _ _ _) ?_⟩;simp[zfe,k_p h3,pnk]
theorem zrB(hL:L.length≤999999)(h:LvP L 172 2 n):LvP L 162 1 (n+1):=fun m p r hm hp hr=>by
 rcases m_chain hL h (by decide) m p r hm hp hr with⟨e,q,rfl,h1,h2,h3⟩|⟨q,rfl,h2,h3⟩
 ·simp only[Ex.ops,Ex.wOr,Ex.wAnd,Ex.zjY,Ex.zfm,Ex.zem,List.map]at h3;refine .inl ⟨e,q,rfl,h1,h2,pr.of rfl rfl rfl (ze1 _ _ _ _ _) ?_⟩;simp[zdi,k_r h3,rtn]
 ·simp only[Ex.ops,Ex.wOr,Ex.wAnd,Ex.zjY,Ex.zfm,Ex.zem,List.map]at h3;refine .inr ⟨q,rfl,h2,pr.of rfl rfl rfl (ze1 _ _ _ _ _) ?_⟩;simp[zdi,k_p h3,pnk]
theorem m_sum(hL:L.length≤999999)(h:LvP L 187 5 n):LvP L 184 4 (n+1):=fun m p r hm hp hr=>by
 rcases m_chain hL h (by decide) m p r hm hp hr with⟨e,q,rfl,h1,h2,h3⟩|⟨q,rfl,h2,h3⟩
 ·simp only[Ex.ops,Ex.wOr,Ex.wAnd,Ex.zjY,Ex.zfm,Ex.zem,List.map]at h3;refine .inl ⟨e,q,rfl,h1,h2,pr.of rfl rfl rfl (ziQ _ _ _ _ _) ?_⟩;simp[zfB,k_r h3,rtn]
 ·simp only[Ex.ops,Ex.wOr,Ex.wAnd,Ex.zjY,Ex.zfm,Ex.zem,List.map]at h3;refine .inr ⟨q,rfl,h2,pr.of rfl rfl rfl (ziQ _ _ _ _ _) ?_⟩;simp[zfB,k_p h3,pnk]
theorem zyH(hL:L.length≤999999)(h:LvP L 190 6 n):LvP L 187 5 (n+1):=fun m p r hm hp hr=>by
 rcases m_chain hL h (by decide) m p r hm hp hr with⟨e,q,rfl,h1,h2,h3⟩|⟨q,rfl,h2,h3⟩
 ·simp only[Ex.ops,Ex.wOr,Ex.wAnd,Ex.zjY,Ex.zfm,Ex.zem,List.map]at h3;refine .inl ⟨e,q,rfl,h1,h2,pr.of rfl rfl rfl (zgl _ _ _ _ _) ?_⟩;simp[zel,k_r h3,rtn]
 ·simp only[Ex.ops,Ex.wOr,Ex.wAnd,Ex.zjY,Ex.zfm,Ex.zem,List.map]at h3;refine .inr ⟨q,rfl,h2,pr.of rfl rfl rfl (zgl _ _ _ _ _) ?_⟩;simp[zel,k_p h3,pnk]
theorem m_join(hL:L.length≤999999)(h:LvP L 191 7 n):LvP L 190 6 (n+1):=fun m p r hm hp hr=>by
 rcases m_chain hL h (by decide) m p r hm hp hr with⟨e,q,rfl,h1,h2,h3⟩|⟨q,rfl,h2,h3⟩
 ·simp only[Ex.ops,Ex.wOr,Ex.wAnd,Ex.zjY,Ex.zfm,Ex.zem,List.map]at h3;refine .inl ⟨e,q,rfl,h1,h2,pr.of rfl rfl rfl (zh9 _ _ _ _ _) ?_⟩;simp[zfd,k_r h3,rtn]
 ·simp only[Ex.ops,Ex.wOr,Ex.wAnd,Ex.zjY,Ex.zfm,Ex.zem,List.map]at h3;refine .inr ⟨q,rfl,h2,pr.of rfl rfl rfl (zh9 _ _ _ _ _) ?_⟩;simp[zfd,k_p h3,pnk]
theorem zww(hL:L.length≤999999)(h:LvP L 172 2 n)(h':LvP L 180 3 n):LvP L 172 2 (n+1):=fun m p r hm hp hr=>by
 cases m with
 |zero=>cases hr
 |succ m=>
  have hw:=zyA L p [110,111,116] hL hp;rw[Ex.run]at hr;simp only[Ex.wNot]at hr;cases ht:Ex.isT (L.map (·.1)) p 2 [110,111,116]
  ·simp only[ht,qb0]at hr hw;rcases h' m p _ (by omega) hp hr with⟨e,q,rfl,h1,h2,h3⟩|⟨q,rfl,h2,h3⟩
   ·refine .inl ⟨e,q,rfl,h1,h2,pr.of rfl rfl rfl (zdd _ _ _ _ _) ?_⟩;simp[-Int.natCast_add,zb1,k_r hw,k_r h3,rtn]
   ·refine .inr ⟨q,rfl,h2,pr.of rfl rfl rfl (zdd _ _ _ _ _) ?_⟩;simp[-Int.natCast_add,zb1,k_r hw,k_p h3,pnk]
  ·have hlt:p < L.length:=by simpa using Ex.isT_lt ht
   simp only[ht,qa60]at hr hw;rcases Ex.then1_some hr with⟨b,q,hb,hr2⟩|⟨q,hb,rfl⟩
   ·cases hr2;rcases h m (p+1) _ (by omega) (by omega) hb with⟨e,q2,h0,h1,h2,h3⟩|⟨q2,h0,_⟩
    ·cases h0;refine .inl ⟨_,_,rfl,by omega,h2,pr.of rfl rfl rfl (zdd _ _ _ _ _) ?_⟩;rw[←zvM];simp[-Int.natCast_add,zb1,k_r hw,k_r h3,rtn]
    ·cases h0
   ·rcases h m (p+1) _ (by omega) (by omega) hb with ⟨e,q2,h0,_⟩ | ⟨q2,h0,h2,h3⟩
    ·cases h0
    ·cases h0;refine .inr ⟨_,rfl,h2,pr.of rfl rfl rfl (zdd _ _ _ _ _) ?_⟩;simp[-Int.natCast_add,zb1,k_r hw,k_p h3,pnk]
end
end
section
open Go.RowKit
open Vm
variable[Gl]
theorem OutP.of{L:List Lx.TA}{lo:Nat}{r:Ex.R}{o o':Option Out}(h:OutP L lo r o)(e:∀z,o=some z→o'=some z):OutP L lo r o':=by
 rcases h with⟨a,q,h1,h2,h3,h4⟩|⟨q,h1,h3,h4⟩
 ·exact .inl ⟨a,q,h1,h2,h3,e _ h4⟩
 ·exact .inr ⟨q,h1,h3,e _ h4⟩
theorem LvP.of{L:List Lx.TA}{f:FuncId}{k n:Nat}(h:∀m p r,m≤n→p≤L.length→Ex.run (L.map (·.1)) (m+1) (.lev k) p=some r→OutP L (p+1) r (pr.ev f [.ptr 0 0] [prsE L p])):LvP L f k (n+1):=fun m p r hm hp hr=>by
 cases m with
 |zero=>cases hr
 |succ m=>exact h m p r (by omega) hp hr
section
variable{L:List Lx.TA}{n:Nat}{f:FuncId}{k m p lo:Nat}{r:Ex.R}{Kp K:Vm.V→Ent→Option Out}
theorem LvP.go(h:LvP L f k n)(hm:m≤n)(hp:p≤L.length){F:Ex.E→Nat→Option Ex.R}(hr:Ex.then1 (Ex.run (L.map (·.1)) m (.lev k) p) F=some r)(hk:∀e q,p<q→q≤L.length→F e q=some r→OutP L lo r (K (encE e) (prsE L q)))
  (hs:∀q,Kp (stopV q) (prsE L q)=some (.panic (stopV q),[prsE L q])):OutP L lo r (cl1 pr.ev f [.ptr 0 0] (prsE L p) 182 2 Kp K):=by
 rcases Ex.then1_some hr with⟨e,q,h1,h2⟩|⟨q,h1,rfl⟩
 ·rcases h m p _ hm hp h1 with⟨e',q',h3,h4,h5,h6⟩|⟨q',h3,_⟩
  ·cases h3;rw[k_r h6];exact hk e q h4 h5 h2
  ·cases h3
 ·rcases h m p _ hm hp h1 with⟨e',q',h3,_⟩|⟨q',h3,h4,h5⟩
  ·cases h3
  ·cases h3;rw[k_p h5];exact .inr ⟨q,rfl,h4,hs q⟩
theorem LvP.end(h:LvP L f k n)(hm:m≤n)(hp:p≤L.length)(hr:Ex.run (L.map (·.1)) m (.lev k) p=some r)(hlo:lo≤p+1)(hk:∀e q,K (encE e) (prsE L q)=some (.ret (encE e),[prsE L q]))(hs:∀q,Kp (stopV q) (prsE L q)=some (.panic (stopV q),[prsE L q])):
  OutP L lo r (cl1 pr.ev f [.ptr 0 0] (prsE L p) 182 2 Kp K):=by
 rcases h m p _ hm hp hr with⟨e,q,rfl,h4,h5,h6⟩|⟨q,rfl,h4,h5⟩
 ·rw[k_r h6];exact .inl ⟨e,q,rfl,by omega,h5,hk e q⟩
 ·rw[k_p h5];exact .inr ⟨q,rfl,h4,hs q⟩
theorem ziv(hL:L.length≤999999)(hp:p≤L.length){k:Int}{s:List UInt8}{F:Nat→Option Ex.R}(hr:Ex.need (L.map (·.1)) k s p F=some r)(hk:p<L.length→F (p+1)=some r→OutP L lo r (K (.tup []) (prsE L (p+1))))
  (hs:∀q,Kp (stopV q) (prsE L q)=some (.panic (stopV q),[prsE L q])):OutP L lo r (cl1 pr.ev 185 [.ptr 0 0,.int .i64 k,.str s] (prsE L p) 182 2 Kp K):=by
 have h:=zvt L p k s hL hp;rcases Ex.need_some hr with⟨h1,h2⟩|⟨h1,rfl⟩
 ·rw[h1,if_pos rfl]at h;rw[k_r h];exact hk (by simpa using Ex.isT_lt h1) h2
 ·rw [h1,if_neg (by simp)] at h;rw[k_p h];exact .inr ⟨p,rfl,hp,hs p⟩
theorem zim(hL:L.length≤999999)(hp:p≤L.length){s:List UInt8}(h1:Ex.isT (L.map (·.1)) p 2 s=true→p<L.length→OutP L lo r (K (.bool true) (prsE L (p+1))))(h0:Ex.isT (L.map (·.1)) p 2 s=false→OutP L lo r (K (.bool false) (prsE L p))):
  OutP L lo r (cl1 pr.ev 179 [.ptr 0 0,.str s] (prsE L p) 182 2 Kp K):=by
 have h:=zyA L p s hL hp;rw[k_r h];cases ht:Ex.isT (L.map (·.1)) p 2 s
 ·exact h0 ht
 ·exact h1 ht (by simpa using Ex.isT_lt ht)
theorem zoN(hL:L.length≤999999)(hp:p≤L.length){s:List UInt8}(h1:Ex.isT (L.map (·.1)) p 4 s=true→p<L.length→OutP L lo r (K (.bool true) (prsE L (p+1))))(h0:Ex.isT (L.map (·.1)) p 4 s=false→OutP L lo r (K (.bool false) (prsE L p))):
  OutP L lo r (cl1 pr.ev 189 [.ptr 0 0,.str s] (prsE L p) 182 2 Kp K):=by
 have h:=zyI L p s hL hp;rw[k_r h];cases ht:Ex.isT (L.map (·.1)) p 4 s
 ·exact h0 ht
 ·exact h1 ht (by simpa using Ex.isT_lt ht)
theorem zy2(hL:L.length≤999999)(hp:p≤L.length){a:Nat}(ha:a≤2){k:Int}{s:List UInt8}{w:Vm.V}(hw:w=.int .i64 (a:Int))(hk:OutP L lo r (K (.bool (Ex.isT (L.map (·.1)) (p+a) k s)) (prsE L p))):
  OutP L lo r (cl1 pr.ev 183 [.ptr 0 0,w,.int .i64 k,.str s] (prsE L p) 182 2 Kp K):=by
 rw[hw,k_r (m_is L p a k s hL hp ha)];exact hk
theorem zfG{e:Ex.E}(hr:r=.ok [e] p)(hlo:lo≤p)(hp:p≤L.length){o:Option Out}(ho:o=some (.ret (encE e),[prsE L p])):OutP L lo r o:=.inl ⟨e,p,hr,hlo,hp,ho⟩
def LsP(L:List Lx.TA)(n:Nat):Prop:=∀m p r,m≤n→p≤L.length→Ex.run (L.map (·.1)) m (.list []) p=some r →
 (∃l q,r=.ok l q∧p<q∧q≤L.length∧l.length≤1000000∧pr.ev 186 [.ptr 0 0] [prsE L p]=some (.ret (.list (l.map encE)),[prsE L q]))∨∃q,r=.stop q∧q≤L.length∧pr.ev 186 [.ptr 0 0] [prsE L p]=some (.panic (stopV q),[prsE L q])
theorem LsP.go(h:LsP L n)(hm:m≤n)(hp:p≤L.length){F:List Ex.E→Nat→Option Ex.R}(hr:Ex.zkX (Ex.run (L.map (·.1)) m (.list []) p) F=some r)(hk:∀l q,p<q→q≤L.length→l.length≤1000000→F l q=some r→OutP L lo r (K (.list (l.map encE)) (prsE L q)))
  (hs:∀q,Kp (stopV q) (prsE L q)=some (.panic (stopV q),[prsE L q])):OutP L lo r (cl1 pr.ev 186 [.ptr 0 0] (prsE L p) 182 2 Kp K):=by
 rcases Ex.thenL_some hr with⟨e,q,h1,h2⟩|⟨q,h1,rfl⟩
 ·rcases h m p _ hm hp h1 with⟨e',q',h3,h4,h5,h7,h6⟩|⟨q',h3,_⟩
  ·cases h3;rw[k_r h6];exact hk e q h4 h5 h7 h2
  ·cases h3
 ·rcases h m p _ hm hp h1 with⟨e',q',h3,_⟩|⟨q',h3,h4,h5⟩
  ·cases h3
  ·cases h3;rw[k_p h5];exact .inr ⟨q,rfl,h4,hs q⟩
theorem LvP.two(h:LvP L f k n)(hm:m≤n)(hp:p≤L.length){F:Ex.E→Nat→Option Ex.R}(hr:Ex.then1 (Ex.run (L.map (·.1)) m (.lev k) p) F=some r):
  (∃e q,p<q∧q≤L.length∧F e q=some r∧pr.ev f [.ptr 0 0] [prsE L p]=some (.ret (encE e),[prsE L q]))∨∃q,r=.stop q∧q≤L.length∧pr.ev f [.ptr 0 0] [prsE L p]=some (.panic (stopV q),[prsE L q]):=by
 rcases Ex.then1_some hr with⟨e,q,h1,h2⟩|⟨q,h1,rfl⟩
 ·rcases h m p _ hm hp h1 with⟨e',q',h3,h4,h5,h6⟩|⟨q',h3,_⟩
  ·cases h3;exact .inl ⟨e,q,h4,h5,h2,h6⟩
  ·cases h3
 ·rcases h m p _ hm hp h1 with⟨e',q',h3,_⟩|⟨q',h3,h4,h5⟩
  ·cases h3
  ·cases h3;exact .inr ⟨q,rfl,h4,h5⟩
theorem list_loop(hL:L.length≤999999)(h:LvP L 148 0 n):∀(m p:Nat)(acc:List Ex.E)(e:Ex.E)(r:Ex.R),m≤n→p≤L.length→acc.length+1≤p →
  (if Ex.isT (L.map (·.1)) p 4 Ex.zdH then Ex.run (L.map (·.1)) m (.list (acc++[e])) (p+1)else Ex.need (L.map (·.1)) 4 Ex.zdf p fun q=>some (.ok (acc++[e]) q))=some r →
  (∃l q,r=.ok l q∧p≤q∧q≤L.length∧l.length≤1000000∧lup Out (sh_expr_parser_list_l0 pr.ev lup) [.agg [.list (L.map tokM),.int .i64 p],.list ((acc++[e]).map encE)]=some (.ret (.list (l.map encE)),[prsE L q])) ∨
  ∃q,r=.stop q∧q≤L.length∧lup Out (sh_expr_parser_list_l0 pr.ev lup) [.agg [.list (L.map tokM),.int .i64 p],.list ((acc++[e]).map encE)]=some (.panic (stopV q),[prsE L q]):=by
 intro m;induction m with
 |zero=>
  intro p acc e r hm hp hacc hr;have hw:=zyI L p [44] hL hp;have hmu:=zvt L p 4 [41] hL hp;simp only[Ex.zdH,Ex.zdf]at hr;cases ht:Ex.isT (L.map (·.1)) p 4 [44]
  ·simp only[ht,qb0]at hr hw;rcases Ex.need_some hr with⟨h1,h2⟩|⟨h1,rfl⟩
   ·cases h2;rw[h1,if_pos rfl]at hmu;have hlt:p<L.length:=by simpa using Ex.isT_lt h1
    refine .inl ⟨_,_,rfl,by omega,by omega,by simp;omega, ?_⟩;rw[zan];simp[-Int.natCast_add,sh_expr_parser_list_l0,zb7,k_r hw,k_r hmu,rtn]
   ·rw [h1,if_neg (by simp)] at hmu;refine .inr ⟨_,rfl,hp, ?_⟩;rw[zan];simp[-Int.natCast_add,sh_expr_parser_list_l0,zb7,k_r hw,k_p hmu,pnk]
  ·simp[ht,Ex.run]at hr
 |succ m ih=>
  intro p acc e r hm hp hacc hr;have hw:=zyI L p [44] hL hp;have hmu:=zvt L p 4 [41] hL hp;simp only[Ex.zdH,Ex.zdf]at hr;cases ht:Ex.isT (L.map (·.1)) p 4 [44]
  ·simp only[ht,qb0]at hr hw;rcases Ex.need_some hr with⟨h1,h2⟩|⟨h1,rfl⟩
   ·cases h2;rw[h1,if_pos rfl]at hmu;have hlt:p<L.length:=by simpa using Ex.isT_lt h1
    refine .inl ⟨_,_,rfl,by omega,by omega,by simp;omega, ?_⟩;rw[zan];simp[-Int.natCast_add,sh_expr_parser_list_l0,zb7,k_r hw,k_r hmu,rtn]
   ·rw [h1,if_neg (by simp)] at hmu;refine .inr ⟨_,rfl,hp, ?_⟩;rw[zan];simp[-Int.natCast_add,sh_expr_parser_list_l0,zb7,k_r hw,k_p hmu,pnk]
  ·have hlt:p < L.length:=by simpa using Ex.isT_lt ht
   simp only[ht,qa60,Ex.run]at hr hw;rcases h.two (by omega) (by omega) hr with⟨b,q,h1,h2,h3,h4⟩|⟨q,rfl,h2,h4⟩
   ·have e1:lup Out (sh_expr_parser_list_l0 pr.ev lup) [.agg [.list (L.map tokM),.int .i64 p],.list ((acc++[e]).map encE)]=lup Out (sh_expr_parser_list_l0 pr.ev lup) [.agg [.list (L.map tokM),.int .i64 q],.list ((acc++[e]++[b]).map encE)]:=by
     rw[zan];have ha:appV 11 128 (.list ((acc++[e]).map encE)) (.list [encE b])=some (.list ((acc++[e]++[b]).map encE)):=by
      rw[zjz _ _ _ _ (by simp[zde]) (by simp;omega)];simp
     simp only[qa43,qb3]at ha;simp[-Int.natCast_add,sh_expr_parser_list_l0,k_r hw,k_r h4,ha, -List.append_assoc]
    rw[e1];rcases ih q (acc++[e]) b r (by omega) h2 (by simp;omega) (by simpa[Ex.zdH,Ex.zdf]using h3)with⟨l,q2,h5,h6,h7⟩|h5
    ·exact .inl ⟨l,q2,h5,by omega,h7⟩
    ·exact .inr h5
   ·refine .inr ⟨_,rfl,h2, ?_⟩;rw[zan];simp[-Int.natCast_add,sh_expr_parser_list_l0,k_r hw,k_p h4,pnk]
theorem m_list(hL:L.length≤999999)(h:LvP L 148 0 n):LsP L (n+1):=fun m p r hm hp hr=>by
 cases m with
 |zero=>cases hr
 |succ m=>
  rw[Ex.run]at hr;rcases h.two (by omega) hp hr with⟨e,q,h1,h2,h3,h4⟩|⟨q,rfl,h2,h4⟩
  ·have e0:∀z,lup Out (sh_expr_parser_list_l0 pr.ev lup) [.agg [.list (L.map tokM),.int .i64 q],.list [encE e]]=some z→pr.ev 186 [.ptr 0 0] [prsE L p]=some z:=by
    intro z hz;refine pr.of rfl rfl rfl (zh8 _ _ _ _ _) ?_;simpa[-Int.natCast_add,zfc,k_r h4]using hz
   rcases list_loop hL h m q [] e r (by omega) h2 (by simp;omega) h3 with⟨l,q2,h5,h6,h7,h8,h9⟩|⟨q2,h5,h7,h9⟩
   ·exact .inl ⟨l,q2,h5,by omega,h7,h8,e0 _ h9⟩
   ·exact .inr ⟨q2,h5,h7,e0 _ h9⟩
  ·refine .inr ⟨q,rfl,h2,pr.of rfl rfl rfl (zh8 _ _ _ _ _) ?_⟩;simp[-Int.natCast_add,zfc,k_p h4,pnk]
theorem m_signed(hL:L.length≤999999)(hT:∀(i:Nat)(t:Lx.TA),L[i]?=some t→-9223372036854775807≤t.1.val.2.1∧t.1.val.2.1≤9223372036854775807)(h8:LvP L 192 8 n)(h:LvP L 191 7 n):LvP L 191 7 (n+1):=LvP.of fun m p r hm hp hr=>by
 have h1:=m_one L p 4 [[45],[43]] hL hp (by simp);simp only[List.map]at h1;rw[Ex.run]at hr;simp only[Ex.zfm,Ex.zjY]at hr;cases ho:Ex.zet (L.map (·.1)) p 4 [[45],[43]]with
 |none=>
  rw[ho]at hr h1;refine OutP.of ?_ fun z hz=>pr.of rfl rfl rfl (zgX _ _ _ _ _) hz;simp only[zaR,zag,k_r h1,oneV,ze2,qa12,qa13,qa31,zgH,qa50,zar,qa60,zcB,zcA];exact h8.end hm hp hr (by omega) (fun e q=>by simp[rtn]) (fun _=>rfl)
 |some op=>
  rw[ho]at hr h1;have hlt:p<L.length:=by simpa using(Ex.zcl ho).1
  refine OutP.of ?_ fun z hz=>pr.of rfl rfl rfl (zgX _ _ _ _ _) hz;have hj:Ex.then1 (Ex.run (L.map (·.1)) m (.lev 7) (p+1)) (fun e q=>Ex.one (Ex.eUn op e) q)=some r→OutP L (p+1) r (zaW pr.ev lup (.str op) (.bool false) (.agg [.list (L.map tokM),.int .i64 ((p+1:Nat):Int)])):=fun hr=>by
   simp only[zaW,zar,qb0,zbS,qb4,zag];refine h.go hm (by omega) hr (fun e q h1 h2 h3=>zfG (Ex.zaI h3) (by omega) h2 ?_) (fun _=>rfl);simp[-Int.natCast_add,←zvM,rtn,ckA_agg]
  have hs:∀{o:Option Out},OutP L (p+1) r o→zaR pr.ev lup (.list (L.map tokM)) (.int .i64 (p:Int))=o→OutP L (p+1) r (zaR pr.ev lup (.list (L.map tokM)) (.int .i64 (p:Int))):=fun h e=>by rw[e];exact h
  cases ht:L[p+1]? with
  |none=>
   have hge:L.length≤p+1:=by simpa using ht
   simp only[qa24,ht,Option.map_none]at hr;refine hs (hj hr) ?_;have hge2:¬p+1<L.length:=by omega
   by_cases hop:op=[45]<;>simp[-Int.natCast_add,zaR,k_r h1,oneV,hop,hge2]
  |some t=>
   have hlt2:p+1<L.length:=(qa9.1 ht).1;have el:elV 6 (.list (L.map tokM)) (.int .i64 ((p+1:Nat):Int))=some (tokM t):=by rw[zfr,ht];rfl
   simp only[qa24,ht,qa46]at hr;by_cases hc:op=[45]∧t.1.kind=3∧t.1.val.1=1
   ·obtain⟨rfl,hk,hv⟩:=hc;simp only[hk,hv,beq_self_eq_true,decide_true,Bool.and_self,qa60]at hr;cases hr;have hb:=hT _ _ ht;have hw:IntKind.wrap .i64 (0-t.1.val.2.1)=-t.1.val.2.1:=by rw[zcd (by omega) (by omega)];omega
    have e1:ldV false 1 (tokM t) 2=some (.int .i64 t.1.val.1):=rfl;have e2:ldV true 3 (tokM t) 2=some (.agg [.int .i64 t.1.val.1,.int .i64 t.1.val.2.1,.str t.1.val.2.2]):=rfl;have e3:zgj .neg (.int .i64 t.1.val.2.1)=some (.int .i64 (-t.1.val.2.1)):=by simp only[zgj,hw]
    refine .inl ⟨_,_,rfl,by omega,by omega, ?_⟩;have he:encE (Ex.eVal (1, -t.1.val.2.1,t.1.val.2.2))=.agg [.int .i64 1,.str [],.int .i64 1,.int .i64 (-t.1.val.2.1),.str t.1.val.2.2,.str [],.str [],.int .i64 0,.bool false,.bool false,.list []]:=by rw[Ex.eVal,enc_mk];rfl
    rw[he];simp[-Int.natCast_add,zaR,zaW,k_r h1,oneV, -zfr,el,hlt2,hk,hv,e1,e2,e3,ckA_agg,rtn,zbU (show p+1≤1000000 by omega)]
   ·have hr2:Ex.then1 (Ex.run (L.map (·.1)) m (.lev 7) (p+1)) (fun e q=>Ex.one (Ex.eUn op e) q)=some r:=by
     have hcb:(op==[45] && decide (t.1.kind=3) && decide (t.1.val.1=1))=false:=by
      rw[Bool.eq_false_iff];intro h;simp at h;exact hc ⟨h.1.1,h.1.2,h.2⟩
     simpa only[hcb,qb0]using hr
    refine hs (hj hr2) ?_;have e1:ldV false 1 (tokM t) 2=some (.int .i64 t.1.val.1):=rfl;by_cases hop:op=[45]
    ·by_cases hk:t.1.kind=3
     ·have hv:¬t.1.val.1=1:=fun hv=>hc ⟨hop,hk,hv⟩;simp[-Int.natCast_add,zaR,k_r h1,oneV,hop,hlt2, -zfr,el,hk,e1,show(t.1.val.1==1)=false from by simpa using hv]
     ·simp[-Int.natCast_add,zaR,k_r h1,oneV,hop,hlt2, -zfr,el,hk]
    ·simp[-Int.natCast_add,zaR,k_r h1,oneV,hop]
end
end
section
open Go.RowKit
open Vm
variable[Gl]
theorem zul(g:Bool)(a b:Ex.E):Vm.V.agg [.int .i64 5,.str [],.int .i64 0,.int .i64 0,.str [],.str [],.str [],.int .i64 0,.bool g,.bool false,.list [encE a,encE b]]=encE (Ex.eIs g a b):=by rw[Ex.eIs,enc_mk];rfl
theorem zzD(g:Bool)(l:List Ex.E):Vm.V.agg [.int .i64 6,.str [],.int .i64 0,.int .i64 0,.str [],.str [],.str [],.int .i64 0,.bool g,.bool false,.list (l.map encE)]=encE (Ex.eIn g l):=by rw[Ex.eIn,enc_mk];rfl
theorem zzE(g:Bool)(a b c:Ex.E):Vm.V.agg [.int .i64 7,.str [],.int .i64 0,.int .i64 0,.str [],.str [],.str [],.int .i64 0,.bool g,.bool false,.list [encE a,encE b,encE c]]=encE (Ex.eBtw g a b c):=by rw[Ex.eBtw,enc_mk];rfl
theorem zvN(g:Bool)(a b:Ex.E):Vm.V.agg [.int .i64 8,.str [],.int .i64 0,.int .i64 0,.str [],.str [],.str [],.int .i64 0,.bool g,.bool false,.list [encE a,encE b]]=encE (Ex.zls g a b):=by rw[Ex.zls,enc_mk];rfl
section
variable{L:List Lx.TA}{n:Nat}
theorem zsZ(hL:L.length≤999999)(h:LvP L 184 4 n)(hls:LsP L n):LvP L 180 3 (n+1):=LvP.of fun m p r hm hp hr=>by
 rw[Ex.run]at hr;simp only[Ex.wIs,Ex.wNot,Ex.wIn,Ex.zdl,Ex.zjD,Ex.wAnd,Ex.zea]at hr;refine OutP.of ?_ fun z hz=>pr.of rfl rfl rfl (ziR _ _ _ _ _) hz;simp only[ze0,zag];refine h.go hm hp hr (fun a q h1 h2 hr=>?_) (fun _=>rfl);have hone:=m_one L q 4 Ex.cmps hL h2 (by decide);simp only[Ex.cmps,List.map]at hone hr;simp only[za0,zdy,zbw,zcB,zcA,zag];cases ho:Ex.zet (L.map (·.1)) q 4 [[61],[60,62],[60],[60,61],[62],[62,61]]with
 |some op=>
  rw[ho]at hr hone;have hlt:q<L.length:=by simpa using(Ex.zcl ho).1
  simp only[k_r hone,oneV,ze2,qa12,qa13,qa31,zar,qa60,zcB,zcA,zag];refine h.go hm (by omega) hr (fun b q2 h3 h4 h5=>zfG (Ex.zaI h5) (by omega) h4 ?_) (fun _=>rfl);simp[-Int.natCast_add,←zrJ,rtn,ckA_agg]
 |none=>
  rw[ho]at hr hone;simp only[k_r hone,oneV,ze2,qa12,qa13,qa31,zar,qb0,zcB,zcA,zag];have hj2:∀ (nt:Bool) (q2:Nat),q≤q2→q2≤L.length→(if Ex.isT (L.map (·.1)) q2 2 [105,110] then Ex.need (L.map (·.1)) 4 [40] (q2+1) fun q3=>Ex.zkX (Ex.run (L.map (·.1)) m (.list []) q3) fun l r=>Ex.one (Ex.eIn nt (a :: l)) r
      else if Ex.isT (L.map (·.1)) q2 2 [98,101,116,119,101,101,110]then Ex.then1 (Ex.run (L.map (·.1)) m (.lev 4) (q2+1)) fun b r=>Ex.need (L.map (·.1)) 2 [97,110,100] r fun r2=>Ex.then1 (Ex.run (L.map (·.1)) m (.lev 4) r2) fun c r3=>Ex.one (Ex.eBtw nt a b c) r3
      else if Ex.isT (L.map (·.1)) q2 2 [108,105,107,101]then Ex.then1 (Ex.run (L.map (·.1)) m (.lev 4) (q2+1)) fun b r=>Ex.one (Ex.zls nt a b) r
      else Ex.one a q2)=some r→OutP L (p+1) r (zbR pr.ev lup (.bool nt) (.agg [.list (L.map tokM),.int .i64 (q2:Int)]) (encE a)):=fun nt q2 hq hq2 hr=>by
   simp only[zbR,zbS,qb4,zag,zdy,zbw,za0];refine zim hL hq2 (fun hi hlt=>?_) fun hi=>?_
   ·simp only[hi,qa60]at hr;simp only[zar,qa60,zcB,zcA,zag];refine ziv hL (by omega) hr (fun hlt2 hr=>?_) (fun _=>rfl);simp only[zcB,zcA,zag];refine hls.go hm (by omega) hr (fun l q4 h5 h6 h7 h8=>zfG (Ex.zaI h8) (by omega) h6 ?_) (fun _=>rfl);have ha:appV 11 128 (.list [encE a]) (.list (l.map encE))=some (.list ((a::l).map encE)):=by
     rw[zjz _ _ _ _ (by simp[zde]) (by simp;omega)];simp
    rw[←zzD];simp only[qa52]at ha ⊢;simp[-Int.natCast_add,ha,rtn,ckA_agg]
   ·simp only[hi,qb0]at hr;simp only[zar,qb0,zcB,zcA,zag];refine zim hL hq2 (fun hi2 hlt=>?_) fun hi2=>?_
    ·simp only[hi2,qa60]at hr;simp only[zar,qa60,zcB,zcA,zag];refine h.go hm (by omega) hr (fun b q4 h5 h6 hr=>?_) (fun _=>rfl);simp only[za0,zbw,zdy,zcB,zcA,zag];refine ziv hL h6 hr (fun hlt2 hr=>?_) (fun _=>rfl);simp only[zcB,zcA,zag];refine h.go hm (by omega) hr (fun c q5 h7 h8 h9=>zfG (Ex.zaI h9) (by omega) h8 ?_) (fun _=>rfl);simp[-Int.natCast_add,←zzE,rtn,ckA_agg]
    ·simp only[hi2,qb0]at hr;simp only[zar,qb0,zcB,zcA,zag];refine zim hL hq2 (fun hi3 hlt=>?_) fun hi3=>?_
     ·simp only[hi3,qa60]at hr;simp only[zar,qa60,zcB,zcA,zag];refine h.go hm (by omega) hr (fun b q4 h5 h6 h9=>zfG (Ex.zaI h9) (by omega) h6 ?_) (fun _=>rfl);simp[-Int.natCast_add,←zvN,rtn,ckA_agg]
     ·simp only[hi3,qb0]at hr;refine zfG (Ex.zaI hr) (by omega) hq2 ?_;simp[-Int.natCast_add,rtn]
  have hj1:∀ (nt:Bool),(nt=true→q < L.length)→(if Ex.isT (L.map (·.1)) (if nt then q+1 else q) 2 [105,110] then Ex.need (L.map (·.1)) 4 [40] ((if nt then q+1 else q)+1) fun q3=>Ex.zkX (Ex.run (L.map (·.1)) m (.list []) q3) fun l r=>Ex.one (Ex.eIn nt (a :: l)) r
      else if Ex.isT (L.map (·.1)) (if nt then q+1 else q) 2 [98,101,116,119,101,101,110]then Ex.then1 (Ex.run (L.map (·.1)) m (.lev 4) ((if nt then q+1 else q)+1)) fun b r=>Ex.need (L.map (·.1)) 2 [97,110,100] r fun r2=>Ex.then1 (Ex.run (L.map (·.1)) m (.lev 4) r2) fun c r3=>Ex.one (Ex.eBtw nt a b c) r3
      else if Ex.isT (L.map (·.1)) (if nt then q+1 else q) 2 [108,105,107,101]then Ex.then1 (Ex.run (L.map (·.1)) m (.lev 4) ((if nt then q+1 else q)+1)) fun b r=>Ex.one (Ex.zls nt a b) r
      else Ex.one a (if nt then q+1 else q))=some r→OutP L (p+1) r (zaH pr.ev lup (.bool nt) (.agg [.list (L.map tokM),.int .i64 (q:Int)]) (encE a)):=fun nt hq hr=>by
   have hq':nt=true→q<L.length:=hq;cases nt
   ·simp only[qb0]at hr;have:=hj2 false q (by omega) h2 hr;simpa[-Int.natCast_add, -zag,zaH]using this
   ·simp only[qa60]at hr;have:=hj2 true (q+1) (by omega) (hq' rfl) hr;simpa[-Int.natCast_add, -zag,zaH,zbU (show q≤1000000 by omega)]using this
  refine zim hL h2 (fun hi hq=>?_) fun hi=>?_
  ·simp only[hi,qa60]at hr;simp only[zar,qa60,zcB,zcA,zag];refine zim hL (by omega) (fun hn hq2=>?_) fun hn=>?_
   ·simp only[hn,qa60]at hr;simp only[zcB,zcA,zag];refine h.go hm (by omega) hr (fun b q4 h5 h6 h9=>zfG (Ex.zaI h9) (by omega) h6 ?_) (fun _=>rfl);simp[-Int.natCast_add,←zul,rtn,ckA_agg]
   ·simp only[hn,qb0]at hr;simp only[zcB,zcA,zag];refine h.go hm (by omega) hr (fun b q4 h5 h6 h9=>zfG (Ex.zaI h9) (by omega) h6 ?_) (fun _=>rfl);simp[-Int.natCast_add,←zul,rtn,ckA_agg]
  ·simp only[hi,qb0]at hr;simp only[zar,qb0,zcB,zcA,zag];refine zy2 hL h2 (a:=0) (by omega) rfl ?_;simp only[Nat.add_zero,zcB,zcA,zag];cases hn:Ex.isT (L.map (·.1)) q 2 [110,111,116]
   ·simp only[hn,Bool.false_and]at hr;simp only[zar,qb0];exact hj1 false (by simp) hr
   ·have hlt:q < L.length:=by simpa using Ex.isT_lt hn
    simp only[hn,Bool.true_and]at hr;simp only[zar,qa60];refine zy2 hL h2 (a:=1) (by omega) rfl ?_;simp only[zcB,zcA,zag];cases h3:Ex.isT (L.map (·.1)) (q+1) 2 [105,110]
    ·simp only[h3,Bool.false_or]at hr;simp only[zar,qb0];refine zy2 hL h2 (a:=1) (by omega) rfl ?_;simp only[zcB,zcA,zag];cases h4:Ex.isT (L.map (·.1)) (q+1) 2 [98,101,116,119,101,101,110]
     ·simp only[h4,Bool.false_or]at hr;simp only[zar,qb0];refine zy2 hL h2 (a:=1) (by omega) rfl ?_;simp only[zcB,zcA,zag];exact hj1 _ (fun _=>hlt) hr
     ·simp only[h4,Bool.true_or]at hr;simp only[zar,qa60];exact hj1 true (fun _=>hlt) hr
    ·simp only[h3,Bool.true_or]at hr;simp only[zar,qa60];exact hj1 true (fun _=>hlt) hr
end
end
section
open Go.RowKit
open Vm
variable[Gl]
theorem zrK(op:Ex.S)(d:Bool)(l:List Ex.E):Vm.V.agg [.int .i64 11,.str op,.int .i64 0,.int .i64 0,.str [],.str [],.str [],.int .i64 0,.bool false,.bool d,.list (l.map encE)]=encE (Ex.eAgg op d l):=by rw[Ex.eAgg,enc_mk];rfl
theorem zvO(op:Ex.S)(l:List Ex.E):Vm.V.agg [.int .i64 10,.str op,.int .i64 0,.int .i64 0,.str [],.str [],.str [],.int .i64 0,.bool false,.bool false,.list (l.map encE)]=encE (Ex.eFn op l):=by rw[Ex.eFn,enc_mk];rfl
theorem zrI(t n:Ex.S):Vm.V.agg [.int .i64 2,.str [],.int .i64 0,.int .i64 0,.str [],.str t,.str n,.int .i64 0,.bool false,.bool false,.list []]=encE (Ex.eCol t n):=by rw[Ex.eCol,enc_mk];rfl
theorem zvP(op:Ex.S)(a:Ex.E):Vm.V.agg [.int .i64 12,.str op,.int .i64 0,.int .i64 0,.str [],.str [],.str [],.int .i64 0,.bool false,.bool false,.list [encE a]]=encE (Ex.zmP op a):=by rw[Ex.zmP,enc_mk];rfl
theorem zo7(v:Ex.V):Vm.V.agg [.int .i64 1,.str [],.int .i64 v.1,.int .i64 v.2.1,.str v.2.2,.str [],.str [],.int .i64 0,.bool false,.bool false,.list []]=encE (Ex.eVal v):=by rw[Ex.eVal,enc_mk];rfl
theorem call_at(op:List UInt8)(y0 y1:Vm.V):zff pr.ev lup (.str op) y0 y1=zaK pr.ev lup (.str op) (.bool (Ex.aggs.contains op)) (.agg [y0,y1]):=by
 unfold zff;by_cases h1:op=[99,111,117,110,116]
 ·simp[h1,Ex.aggs,Ex.zeR]
 by_cases h2:op=[115,117,109]
 ·simp[h2,Ex.aggs,Ex.zeR]
 by_cases h3:op=[109,105,110]
 ·simp[h3,Ex.aggs,Ex.zeR]
 by_cases h4:op=[109,97,120]
 ·simp[h4,Ex.aggs,Ex.zeR]
 by_cases h5:op=[97,118,103]
 ·simp[h5,Ex.aggs,Ex.zeR]
 simp[h1,h2,h3,h4,h5,Ex.aggs,Ex.zeR];have h6:decide (op=[116,111,116,97,108])=(op==[116,111,116,97,108]):=by rw[Bool.eq_iff_iff];simp
 rw[h6]
section
variable{L:List Lx.TA}{n:Nat}
def CalP(L:List Lx.TA)(n:Nat):Prop:=∀m p r op,m≤n→p≤L.length→Ex.callK (L.map (·.1)) m op p=some r→OutP L p r (pr.ev 197 [.ptr 0 0,.str op] [prsE L p])
theorem m_call(hL:L.length≤999999)(h:LvP L 148 0 n)(hls:LsP L n):CalP L n:=fun m p r op hm hp hr=>by
 refine OutP.of ?_ fun z hz=>pr.of rfl rfl rfl (zlJ _ _ _ _ _ _) hz;rw[call_at];unfold Ex.callK at hr;simp only[Ex.zeR,Ex.zem,Ex.zdf,Ex.zav]at hr;cases hc:Ex.aggs.contains op
 ·simp only[hc,qb0]at hr;simp only[zaK,zar,qb0,ztp,zbS,qb4,zag];rw[ckA_agg];rotate_left
  ·rfl
  ·rfl
  refine zoN hL hp (fun hi hlt=>?_) fun hi=>?_
  ·simp only[hi,qa60]at hr;refine zfG (Ex.zaI hr) (by omega) (by omega) ?_;rw[←zvO];simp[-Int.natCast_add,rtn,ckA_agg]
  ·simp only[hi,qb0]at hr;simp only[zgH,qa31,qa50,zar,qa60,zcB,zcA,zag];refine hls.go hm hp hr (fun l q h1 h2 h3 h4=>zfG (Ex.zaI h4) (by omega) h2 ?_) (fun _=>rfl);rw[←zvO];simp[-Int.natCast_add,rtn,ckA_agg]
 ·simp only[hc,qa60]at hr;simp only[zaK,zar,qa60,ztp,zbS,qb4,zag];rw[ckA_agg];rotate_left
  ·rfl
  ·rfl
  have hj:Ex.then1 (Ex.run (L.map (·.1)) m (.lev 0) (if Ex.isT (L.map (·.1)) p 2 [100,105,115,116,105,110,99,116]then p+1 else p)) (fun e q=>Ex.need (L.map (·.1)) 4 [41] q fun r=>Ex.one (Ex.eAgg op (Ex.isT (L.map (·.1)) p 2 [100,105,115,116,105,110,99,116]) [e]) r)=some r →
    OutP L p r (zca pr.ev lup (.bool false) (.agg [.list (L.map tokM),.int .i64 (p:Int)]) (.agg [(.int .i64 11),.str op,(.int .i64 0),(.int .i64 0),(.str []),(.str []),(.str []),(.int .i64 0),(.bool false),(.bool false),.nils])):=fun hr=>by
   simp only[zca,zar,qb0,zbS,qb4,zag];have hd:∀(d:Bool)(q:Nat),p≤q→q≤L.length→Ex.then1 (Ex.run (L.map (·.1)) m (.lev 0) q) (fun e q=>Ex.need (L.map (·.1)) 4 [41] q fun r=>Ex.one (Ex.eAgg op d [e]) r)=some r→OutP L p r (cl1 pr.ev 148 [(.ptr 0 0)] (prsE L q) 182 2 (fun v9 v8=>pnk v9 [.blk 182 [(zad v8 0),(zad v8 1)]]) fun v7 v8=>
     ckA 11 (norm1 v7)<|
     cl1 pr.ev 185 [(.ptr 0 0),(.int .i64 4),(.str [41])] (.blk 182 [(zad v8 0),(zad v8 1)]) 182 2 (fun v12 v11=>pnk v12 [.blk 182 [(zad v11 0),(zad v11 1)]]) fun v10 v11=>
     ckA 11 (.agg [.int .i64 11,.str op,.int .i64 0,.int .i64 0,.str [],.str [],.str [],.int .i64 0,.bool false,.bool d,(.list [(norm1 v7)])])<|
     rtn (norm1 (.agg [.int .i64 11,.str op,.int .i64 0,.int .i64 0,.str [],.str [],.str [],.int .i64 0,.bool false,.bool d,(.list [(norm1 v7)])])) [.blk 182 [(zad v11 0),(zad v11 1)]]):=fun d q hq1 hq2 hr=>by
    refine h.go hm hq2 hr (fun e q2 h1 h2 hr=>?_) (fun _=>rfl);simp only[za0,zbw,zcB,zcA,zag];refine ziv hL h2 hr (fun hlt hr=>zfG (Ex.zaI hr) (by omega) (by omega) ?_) (fun _=>rfl);rw[←zrK];simp[-Int.natCast_add,rtn,ckA_agg]
   refine zim hL hp (fun hi hlt=>?_) fun hi=>?_
   ·simp only[hi,qa60]at hr;simp only[ztq,zcB,zcA,zag];exact hd true (p+1) (by omega) (by omega) hr
   ·simp only[hi,qb0]at hr;simp only[ztq,zcB,zcA,zag];exact hd false p (by omega) hp hr
  by_cases ho:op=[99,111,117,110,116]
  ·subst ho;simp only[beq_self_eq_true,Bool.true_and]at hr;simp only[show b0 .eql (.str [99,111,117,110,116]) (.str [99,111,117,110,116])=some (.bool true)from rfl,qa31,zar,qa60];refine zoN hL hp (fun hi hlt=>?_) fun hi=>?_
   ·simp only[hi,qa60]at hr;simp only[zca,zar,qa60,zbS,qb4,zcB,zcA,zag];refine ziv hL (by omega) hr (fun hlt hr=>zfG (Ex.zaI hr) (by omega) (by omega) ?_) (fun _=>rfl);rw[←zrK];simp[-Int.natCast_add,rtn,ckA_agg]
   ·simp only[hi,qb0]at hr;simp only[zcB,zcA];exact hj hr
  ·have hb:(op == [99,111,117,110,116])=false:=by simpa using ho
   simp only[hb,Bool.false_and,qb0]at hr;simp only[show b0 .eql (.str op) (.str [99,111,117,110,116])=some (.bool (op==[99,111,117,110,116]))from rfl,hb,qa31,zar,qb0];rw[agN_agg 2 [.list (L.map tokM),.int .i64 (p:Int)] rfl];exact hj hr
def NamP(L:List Lx.TA)(n:Nat):Prop:=∀m p r nm,m≤n→p≤L.length→nm.length≤1000000→Ex.zoL (L.map (·.1)) m nm p=some r→OutP L p r (pr.ev 194 [.ptr 0 0,.str nm] [prsE L p])
theorem zud{k:Int}{p lo:Nat}{r:Ex.R}{Kp K:Vm.V→Ent→Option Out}(hL:L.length≤999999)(hp:p≤L.length)
  (h1:∀t,L[p]?=some t→t.1.kind=k→p<L.length→OutP L lo r (K (.tup [tokM t,.bool true]) (prsE L (p+1))))
  (h0:(∀t,L[p]?=some t→¬t.1.kind=k)→OutP L lo r (K (.tup [.agg [.int .i64 0,.str [],.int .i64 0,.int .i64 0,.str [],.int .i64 0],.bool false]) (prsE L p))):
  OutP L lo r (cl1 pr.ev 193 [.ptr 0 0,.int .i64 k] (prsE L p) 182 2 Kp K):=by
 have h:=m_kind L p k hL hp;cases ht:L[p]? with
 |none=>
  rw[ht]at h;rw[k_r h];exact h0 fun t h=>by rw[ht]at h;cases h
 |some t=>
  have hlt:p<L.length:=(qa9.1 ht).1;rw[ht]at h;dsimp only at h;split at h
  ·rename_i hk;rw[k_r h];exact h1 t ht hk hlt
  ·rename_i hk;rw[k_r h];exact h0 fun t' h=>by rw[ht]at h;cases h;exact hk
theorem zny{p lo:Nat}{r:Ex.R}{Kp K:Vm.V→Ent→Option Out}(hp:p≤L.length)(hr:r=.stop p)(hs:∀q,Kp (stopV q) (prsE L q)=some (.panic (stopV q),[prsE L q])):
  OutP L lo r (cl1 pr.ev 188 [.ptr 0 0] (prsE L p) 182 2 Kp K):=by
 rw[k_p (zyz L p)];exact .inr ⟨p,hr,hp,hs p⟩
theorem OutP.go{f:FuncId}{a:List Vm.V}{p lo lo':Nat}{r:Ex.R}{Kp K:Vm.V→Ent→Option Out}(h:OutP L lo' r (pr.ev f a [prsE L p]))(hlo:lo≤lo')(hk:∀e q,lo'≤q→q≤L.length→K (encE e) (prsE L q)=some (.ret (encE e),[prsE L q]))(hs:∀q,Kp (stopV q) (prsE L q)=some (.panic (stopV q),[prsE L q])):
  OutP L lo r (cl1 pr.ev f a (prsE L p) 182 2 Kp K):=by
 rcases h with⟨e,q,rfl,h1,h2,h3⟩|⟨q,rfl,h2,h3⟩
 ·rw[k_r h3];exact .inl ⟨e,q,rfl,by omega,h2,hk e q h1 h2⟩
 ·rw[k_p h3];exact .inr ⟨q,rfl,h2,hs q⟩
theorem m_named(hL:L.length≤999999)(h:CalP L n):NamP L n:=fun m p r nm hm hp hn hr=>by
 refine OutP.of ?_ fun z hz=>pr.of rfl rfl rfl (zlg _ _ _ _ _ _) hz;unfold Ex.zoL at hr;simp only[Ex.mDot,Ex.zea]at hr;simp only[zgS,zag];refine zoN hL hp (fun hi hlt=>?_) fun hi=>?_
 ·simp only[hi,qa60]at hr;simp only[zar,qa60,zcB,zcA,zag];refine zud hL (by omega) (fun t ht hk hlt2=>?_) fun hno=>?_
  ·simp only[qa24,ht,qa46,hk,qa60]at hr;refine zfG (Ex.zaI hr) (by omega) (by omega) ?_;have e1:cell (tokM t) 1=.str t.1.text:=rfl;rw[←zrI];simp[-Int.natCast_add,rtn,ckA_agg,zd7,e1]
  ·have hr2:r=.stop (p+1):=by
    cases ht:L[p+1]? with
    |none=>simp only[qa24,ht,Option.map_none]at hr;cases hr;rfl
    |some t=>simp only[qa24,ht,qa46,hno t ht,qa59]at hr;cases hr;rfl
   simp only[ze2,qa12,qa13,qa31,zgH,qa50,zar,qa60,zcB,zcA,zag];rw[ckA_agg];rotate_left
   ·rfl
   ·rfl
   exact zny (by omega) hr2 fun _=>rfl
 ·simp only[hi,qb0]at hr;simp only[zar,qb0,zcB,zcA,zag];refine zoN hL hp (fun hi hlt=>?_) fun hi=>?_
  ·simp only[hi,qa60]at hr;simp only[zar,qa60,zcB,zcA,zag,nm_s,zaa (zuj hn)];refine(h m (p+1) r _ hm (by omega) hr).go (by omega) (fun e q _ _=>?_) fun _=>rfl;simp[-Int.natCast_add,rtn]
  ·simp only[hi,qb0]at hr;refine zfG (Ex.zaI hr) (by omega) (by omega) ?_;rw[←zrI];simp[-Int.natCast_add,rtn,ckA_agg]
def LoP(L:List Lx.TA)(f:FuncId)(k:List Lx.T→Nat→Nat→Option Ex.R)(n:Nat):Prop:=∀m p r,m≤n→p≤L.length→k (L.map (·.1)) m p=some r→OutP L p r (pr.ev f [.ptr 0 0] [prsE L p])
def zmW(L:List Lx.TA):Prop:=∀(i:Nat)(t:Lx.TA),L[i]?=some t→t.1.text.length≤1000000
theorem m_cast(hL:L.length≤999999)(hT:zmW L)(h:LvP L 148 0 n):LoP L 196 Ex.zpf n:=fun m p r hm hp hr=>by
 refine OutP.of ?_ fun z hz=>pr.of rfl rfl rfl (zlI _ _ _ _ _) hz;unfold Ex.zpf at hr;simp only[Ex.zea,Ex.zdf,Ex.wAs]at hr;simp only[zhk,zag];refine ziv hL hp hr (fun hlt hr=>?_) (fun _=>rfl);simp only[zcB,zcA,zag];refine h.go hm (by omega) hr (fun e q h1 h2 hr=>?_) (fun _=>rfl);simp only[za0,zbw,zcB,zcA,zag];refine ziv hL h2 hr (fun hlt2 hr=>?_) (fun _=>rfl);simp only[zcB,zcA,zag];have hj4:∀t,L[q+1]?=some t→q+1<L.length→((if Ex.zks.contains (Lx.fold t.1.text)then Ex.need (L.map (·.1)) 4 [41] (q+1+1) fun r3=>Ex.one (Ex.zmP (Lx.fold t.1.text) e) r3 else some (.stop (q+1)))=some r) →
   OutP L p r (za5 pr.ev lup (.bool true) (.agg [.list (L.map tokM),.int .i64 ((q+1:Nat):Int)]) (.agg [(.int .i64 12),(.str []),(.int .i64 0),(.int .i64 0),(.str []),(.str []),(.str []),(.int .i64 0),(.bool false),(.bool false),(.list [encE e])])):=fun t ht hlt3 hr=>by
  have el:elV 6 (.list (L.map tokM)) (.int .i64 ((q+1:Nat):Int))=some (tokM t):=by rw[zfr,ht];rfl
  have hfo:=zuj (hT _ _ ht);have hj3:∀b,b=Ex.zks.contains (Lx.fold t.1.text)→OutP L p r (za6 pr.ev lup (.bool b) (.agg [.list (L.map tokM),.int .i64 ((q+1:Nat):Int)]) (.agg [(.int .i64 12),.str (Lx.fold t.1.text),(.int .i64 0),(.int .i64 0),(.str []),(.str []),(.str []),(.int .i64 0),(.bool false),(.bool false),(.list [encE e])])):=fun b hb=>by
   rw[←hb]at hr;cases b
   ·simp only[qb0]at hr;simp only[za6,zar,qb0,zbS,qb4,zag];exact zny (by omega) (by cases hr;rfl) fun _=>rfl
   ·simp only[qa60]at hr;have hb1:b0 .add (.int .i64 ((q+1:Nat):Int)) (.int .i64 1)=some (.int .i64 ((q+1+1:Nat):Int)):=by
     have:=zbU (show q+1≤1000000 by omega);simp only[b0,zph,ar_add,this]
    simp only[za6,zar,qa60,zbS,qb4,hb1,qa31,zpz,zdc,zag];refine ziv hL (by omega) hr (fun hlt hr=>zfG (Ex.zaI hr) (by omega) (by omega) ?_) (fun _=>rfl);rw[←zvP];simp[-Int.natCast_add,rtn,ckA_agg]
  have hj1:OutP L p r (zb9 pr.ev lup (.agg [.list (L.map tokM),.int .i64 ((q+1:Nat):Int)]) (.agg [(.int .i64 12),.str (Lx.fold t.1.text),(.int .i64 0),(.int .i64 0),(.str []),(.str []),(.str []),(.int .i64 0),(.bool false),(.bool false),(.list [encE e])])):=by
   have g1:agN 2 (.agg [.list (L.map tokM),.int .i64 ((q+1:Nat):Int)])=.agg [.list (L.map tokM),.int .i64 ((q+1:Nat):Int)]:=agN_agg _ _ rfl;have g2:agN 11 (.agg [(.int .i64 12),.str (Lx.fold t.1.text),(.int .i64 0),(.int .i64 0),(.str []),(.str []),(.str []),(.int .i64 0),(.bool false),(.bool false),(.list [encE e])])=.agg [(.int .i64 12),.str (Lx.fold t.1.text),(.int .i64 0),(.int .i64 0),(.str []),(.str []),(.str []),(.int .i64 0),(.bool false),(.bool false),(.list [encE e])]:=agN_agg _ _ rfl;simp only[zb9,g1,g2,zbS,qb4];by_cases k1:Lx.fold t.1.text=[105,110,116]
   ·simpa[k1]using hj3 true (by simp[k1,Ex.zks])
   by_cases k2:Lx.fold t.1.text=[116,101,120,116]
   ·simpa[k2]using hj3 true (by simp[k2,Ex.zks])
   have:=hj3 (Lx.fold t.1.text==[98,108,111,98]) (by rw[Bool.eq_iff_iff];simp[k1,k2,Ex.zks]);simpa[k1,k2]using this
  have e1:ldV false 1 (tokM t) 1=some (.str t.1.text):=rfl;simp only[za5,zar,qa60,zbS,qb4,el,e1,qa31,nm_s,zaa hfo,ztp];rw[agN_agg 2 [.list (L.map tokM),.int .i64 ((q+1:Nat):Int)] rfl];exact hj1
 have hj0:r=.stop (q+1)→OutP L p r (za5 pr.ev lup (.bool false) (.agg [.list (L.map tokM),.int .i64 ((q+1:Nat):Int)]) (.agg [(.int .i64 12),(.str []),(.int .i64 0),(.int .i64 0),(.str []),(.str []),(.str []),(.int .i64 0),(.bool false),(.bool false),(.list [encE e])])):=fun hr=>by
  refine OutP.of (o:=cl1 pr.ev 188 [.ptr 0 0] (prsE L (q+1)) 182 2 (fun v4 v3=>pnk v4 [.blk 182 [(zad v3 0),(zad v3 1)]]) fun v2 v3=>zdc pr.ev lup (.agg [(zad v3 0),(zad v3 1)]) (.agg [(.int .i64 12),(.str []),(.int .i64 0),(.int .i64 0),(.str []),(.str []),(.str []),(.int .i64 0),(.bool false),(.bool false),(.list [encE e])])) (zny (by omega) hr fun _=>rfl) fun z hz=>?_;rw[←hz];simp[-Int.natCast_add,za5,zb9,za6]
 by_cases hlt3:q+1<L.length
 ·have ht:L[q+1]?=some L[q+1]:=by simp [hlt3]
  generalize L[q+1]=t at ht;have el:elV 6 (.list (L.map tokM)) (.int .i64 ((q+1:Nat):Int))=some (tokM t):=by rw[zfr,ht];rfl
  simp only[qa24,ht,qa46]at hr;have e1:ldV false 1 (tokM t) 0=some (.int .i64 t.1.kind):=rfl;have e2:b0 .lss (.int .i64 ((q+1:Nat):Int)) (.int .i64 ((L.map tokM).length:Int))=some (.bool true):=by
   simp only[b0,zph,ar_lss];simp;omega
  simp only[zm7,qa31,e2,zar,qa60,el,e1];by_cases k1:t.1.kind=2
  ·have b1:b0 .eql (.int .i64 t.1.kind) (.int .i64 2)=some (.bool true):=by simp [b0,k1]
   simp only[k1,decide_true,Bool.true_or,Bool.true_and]at hr;simp only[b1,qa31,zar,qa60];exact hj4 t ht hlt3 hr
  ·have b1:b0 .eql (.int .i64 t.1.kind) (.int .i64 2)=some (.bool false):=by simp [b0,k1]
   by_cases k2:t.1.kind=1
   ·have b2:b0 .eql (.int .i64 t.1.kind) (.int .i64 1)=some (.bool true):=by simp [b0,k2]
    simp only[k2,decide_true,Bool.or_true,Bool.true_and]at hr;simp only[b1,b2,qa31,zar,qb0];exact hj4 t ht hlt3 hr
   ·have b2:b0 .eql (.int .i64 t.1.kind) (.int .i64 1)=some (.bool false):=by simp [b0,k2]
    simp only[k1,k2,decide_false,Bool.or_false,Bool.false_and,qb0]at hr;simp only[b1,b2,qa31,zar,qb0];exact hj0 (by cases hr;rfl)
 ·have ht:L[q+1]?=none:=by simp;omega
  simp only[qa24,ht,Option.map_none]at hr;have e2:b0 .lss (.int .i64 ((q+1:Nat):Int)) (.int .i64 ((L.map tokM).length:Int))=some (.bool false):=by
   simp only[b0,zph,ar_lss];simp;omega
  simp only[zm7,qa31,e2,zar,qb0];exact hj0 (by cases hr;rfl)
theorem m_plain(hL:L.length≤999999)(hT:zmW L)(h:LvP L 148 0 n)(hn:NamP L n)(hca:LoP L 195 Ex.zj4 n)(hct:LoP L 196 Ex.zpf n):LvP L 192 8 (n+1):=LvP.of fun m p r hm hp hr=>by
 rw[Ex.zjR]at hr;simp only[Ex.zqG,Ex.wCase,Ex.zly,Ex.zea,Ex.zdf]at hr;refine OutP.of ?_ fun z hz=>pr.of rfl rfl rfl (zlf _ _ _ _ _) hz;simp only[zgR,zag];refine zud hL hp (fun t ht hk hlt=>?_) fun hno=>?_
 ·simp only[qa24,ht,qa46,hk,qa60]at hr;refine zfG (Ex.zaI hr) (by omega) (by omega) ?_;have e2:cell (tokM t) 2=.int .i64 t.1.val.1:=rfl;have e3:cell (tokM t) 3=.int .i64 t.1.val.2.1:=rfl;have e4:cell (tokM t) 4=.str t.1.val.2.2:=rfl;rw[←zo7];simp[-Int.natCast_add,rtn,ckA_agg,e2,e3,e4]
 ·simp only[ze2,qa12,qa13,qa31,zar,qb0,zcB,zcA,zag];rw[ckA_agg];rotate_left
  ·rfl
  ·rfl
  refine zud hL hp (fun t ht hk hlt=>?_) fun hno1=>?_
  ·simp only [qa24,ht,qa46,hk,qa60,if_neg (show ¬ (1:Int)=3 by decide)] at hr;have e1:cell (tokM t) 1=.str t.1.text:=rfl;simp only[ze2,qa12,qa13,qa31,zar,qa60,tok_k,e1,nm_s,zcB,zcA,zag];refine(hn m (p+1) r _ (by omega) (by omega) (hT _ _ ht) hr).go (by omega) (fun e q _ _=>?_) fun _=>rfl;simp[-Int.natCast_add,rtn]
  ·simp only[ze2,qa12,qa13,qa31,zar,qb0,zcB,zcA,zag];rw[ckA_agg];rotate_left
   ·rfl
   ·rfl
   have hr2:(if Ex.isT (L.map (·.1)) p 2 [110,117,108,108] then Ex.one (Ex.eVal Ex.v0) (p+1)
     else if Ex.isT (L.map (·.1)) p 2 [99,97,115,101]then Ex.zj4 (L.map (·.1)) m (p+1)
     else if Ex.isT (L.map (·.1)) p 2 [99,97,115,116]then Ex.zpf (L.map (·.1)) m (p+1)
     else if Ex.isT (L.map (·.1)) p 4 [40]then Ex.then1 (Ex.run (L.map (·.1)) m (.lev 0) (p+1)) fun e q=>Ex.need (L.map (·.1)) 4 [41] q fun r=>Ex.one e r
     else some (.stop p))=some r:=by
    cases ht:L[p]? with
    |none=>
     simp only[qa24,ht,Option.map_none]at hr;have:∀k s,Ex.isT (L.map (·.1)) p k s=false:=fun k s=>by simp[Ex.isT,ht]
     simpa only[this,qb0]using hr
    |some t=>
     simp only[qa24,ht,qa46,hno t ht,hno1 t ht,qa59]at hr;exact hr
   clear hr;refine zim hL hp (fun hi hlt=>?_) fun hi=>?_
   ·simp only[hi,qa60]at hr2;refine zfG (Ex.zaI hr2) (by omega) (by omega) ?_;rw[←zo7];simp[-Int.natCast_add,rtn,Ex.v0]
   simp only[hi,qb0]at hr2;simp only[zar,qb0,zcB,zcA,zag];refine zim hL hp (fun hi hlt=>?_) fun hi=>?_
   ·simp only[hi,qa60]at hr2;simp only[zar,qa60,zcB,zcA,zag];refine(hca m (p+1) r (by omega) (by omega) hr2).go (by omega) (fun e q _ _=>?_) fun _=>rfl;simp[-Int.natCast_add,rtn]
   simp only[hi,qb0]at hr2;simp only[zar,qb0,zcB,zcA,zag];refine zim hL hp (fun hi hlt=>?_) fun hi=>?_
   ·simp only[hi,qa60]at hr2;simp only[zar,qa60,zcB,zcA,zag];refine(hct m (p+1) r (by omega) (by omega) hr2).go (by omega) (fun e q _ _=>?_) fun _=>rfl;simp[-Int.natCast_add,rtn]
   simp only[hi,qb0]at hr2;simp only[zar,qb0,zcB,zcA,zag];refine zoN hL hp (fun hi hlt=>?_) fun hi=>?_
   ·simp only[hi,qa60]at hr2;simp only[zar,qa60,zcB,zcA,zag];refine h.go (by omega) (by omega) hr2 (fun e q h1 h2 hr=>?_) (fun _=>rfl);simp only[za0,zdy,zbw,zcB,zcA,zag];refine ziv hL h2 hr (fun hlt hr=>zfG (Ex.zaI hr) (by omega) (by omega) ?_) (fun _=>rfl);simp[-Int.natCast_add,rtn]
   ·simp only[hi,qb0]at hr2;simp only[zar,qb0,zcB,zcA,zag];exact zny hp (by cases hr2;rfl) fun _=>rfl
end
end
section
open Go.RowKit
open Vm
variable[Gl]
mutual
theorem zzy:∀e:Ex.E,wfs (expC e)=true
 |.mk k op v t n s g d l=>by
  rw[expC];simp only[wfs,wf,Bool.true_and,Bool.and_true];exact zzx l
theorem zzx:∀l:List Ex.E,wfs (l.map fun e=>.agg (expC e))=true
 |[]=>rfl
 |e::l=>by simp only[qa52,wfs,wf,zzy e,zzx l,Bool.and_self]
end
theorem zdh(e:Ex.E):wf (encE e)=true:=by unfold encE;simp only[wf];exact zzy e
theorem zmN(l:List Ex.E):wfs (l.map encE)=true:=zbf.2 fun v hv=>by obtain⟨t,_,rfl⟩:=qa55.1 hv;exact zdh t
theorem prs_eq(L:List Lx.TA)(p:Nat):eeqs [prsE L p] [prsE L p]=true:=by
 have:veqs [.list (L.map tokM),.int .i64 (p:Int)] [.list (L.map tokM),.int .i64 (p:Int)]=true:=zdm (by simp only[wfs,wf,zhd,Bool.and_self]);simp only[prsE,eeqs,eeq,this,beq_self_eq_true,Bool.and_self]
theorem oeq_r{L:List Lx.TA}{p:Nat}{v:Vm.V}(h:wf v=true):oeq (.ret v,[prsE L p]) (.ret v,[prsE L p])=true:=by simp only[oeq,zf9 h,prs_eq,Bool.and_self]
theorem oeq_p{L:List Lx.TA}{p:Nat}{v:Vm.V}(h:wf v=true):oeq (.panic v,[prsE L p]) (.panic v,[prsE L p])=true:=by simp only[oeq,zf9 h,prs_eq,Bool.and_self]
theorem OutP.ag{L:List Lx.TA}{lo:Nat}{r:Ex.R}{A:Option Out}(h:OutP L lo r A):OutP L lo r (Vm.ag oeq A):=by
 rcases h with⟨e,q,h1,h2,h3,h4⟩|⟨q,h1,h2,h3⟩
 ·exact .inl ⟨e,q,h1,h2,h3,zf7 h4 (oeq_r (zdh e))⟩
 ·exact .inr ⟨q,h1,h2,zf7 h3 (oeq_p rfl)⟩
theorem zvQ(d:Bool)(l:List Ex.E):Vm.V.agg [.int .i64 9,.str [],.int .i64 0,.int .i64 0,.str [],.str [],.str [],.int .i64 0,.bool false,.bool d,.list (l.map encE)]=encE (Ex.eCase d l):=by rw[Ex.eCase,enc_mk];rfl
section
variable{L:List Lx.TA}{n:Nat}
def accV(av:Vm.V)(acc:List Ex.E):Prop:=(av=.nils∧acc=[])∨av=.list (acc.map encE)
theorem zrW{av:Vm.V}{acc l:List Ex.E}(h:accV av acc)(h1:acc.length+l.length≤2000000):appV 11 128 av (.list (l.map encE))=some (.list ((acc++l).map encE)):=by
 rcases h with⟨rfl,rfl⟩|rfl
 ·rw[app_n _ _ _ (by simp[zde]) (by simp at h1 ⊢;omega)];simp
 ·rw[zjz _ _ _ _ (by simp[zde]) (by simp;omega)];simp
def csS(L:List Lx.TA)(w:Bool)(p:Nat)(d:Bool)(av:Vm.V):List Vm.V:=[.bool w,.agg [.list (L.map tokM),.int .i64 (p:Int)],zE0,.int .i64 9,.str [],.int .i64 0,.int .i64 0,.str [],.str [],.str [],.int .i64 0,.bool false,.bool d,av]
theorem cs_tail(hL:L.length≤999999)(h:LvP L 148 0 n){m p:Nat}{d:Bool}{acc:List Ex.E}{av:Vm.V}{r:Ex.R}(hm:m≤n)(hp:p≤L.length)(ha:av=.list (acc.map encE))(hl:acc.length≤1000000)(hr:Ex.zsd (L.map (·.1)) m d acc p=some r):
  OutP L p r (lup Out (zaC pr.ev lup) (csS L false p d av)):=by
 have hj3:∀(acc:List Ex.E)(q:Nat),p≤q→q≤L.length→Ex.need (L.map (·.1)) 2 [101,110,100] q (fun r3=>Ex.one (Ex.eCase d acc) r3)=some r→OutP L p r (zc5 pr.ev lup (.agg [.list (L.map tokM),.int .i64 (q:Int)]) (.int .i64 9) (.str []) (.int .i64 0) (.int .i64 0) (.str []) (.str []) (.str []) (.int .i64 0) (.bool false) (.bool d) (.list (acc.map encE))):=fun acc q hq1 hq2 hr=>by
  simp only[zc5,zbS,qb4,zag];refine ziv hL hq2 hr (fun hlt hr=>zfG (Ex.zaI hr) (by omega) (by omega) ?_) (fun _=>rfl);rw[←zvQ];simp[-Int.natCast_add,rtn,ckA_agg]
 unfold Ex.zsd at hr;simp only[Ex.zkW,Ex.wEnd]at hr;subst ha;rw[zan];simp only[zaC,csS,gt_0,gt_s,zar,qb0,zlA];rw[agN_agg 2 [.list (L.map tokM),.int .i64 (p:Int)] rfl];simp only[zfC,zbS,qb4,zag];refine zim hL hp (fun hi hlt=>?_) fun hi=>?_
 ·simp only[hi,qa60]at hr;simp only[zar,qa60,zcB,zcA,zag];refine OutP.ag ?_;refine h.go hm (by omega) hr (fun c q h1 h2 hr=>?_) (fun _=>rfl);have hap:appV 11 128 (.list (acc.map encE)) (.list [encE c])=some (.list ((acc++[c]).map encE)):=zrW (.inr rfl) (l:=[c]) (by simp;omega);simp only[za0,zbw,hap,qa31,zcB,zcA];exact hj3 _ q (by omega) h2 hr
 ·simp only[hi,qb0]at hr;simp only[zar,qb0,zcB,zcA];exact hj3 _ p (by omega) hp hr
theorem cs_wf {w:Bool} {p:Nat} {d:Bool} {acc:List Ex.E}:veqs (csS L w p d (.list (acc.map encE))) (csS L w p d (.list (acc.map encE)))=true:=zdm (by
 have h1:=zhd L;have h2:=zmN acc;simp only[csS,zE0,wfs,wf,h1,h2,Bool.and_self])
theorem cs_loop(hL:L.length≤999999)(h:LvP L 148 0 n):∀(m p:Nat)(d:Bool)(acc:List Ex.E)(av:Vm.V)(r:Ex.R),m≤n→p≤L.length→accV av acc→acc.length≤p+1→Ex.whenK (L.map (·.1)) m d acc p=some r →
  OutP L p r (lup Out (zaC pr.ev lup) (csS L true p d av)):=by
 intro m;induction m with
 |zero=>intro p d acc av r _ _ _ _ hr;simp[Ex.whenK,Ex.run,Ex.then1]at hr
 |succ m ih=>
  intro p d acc av r hm hp ha hl hr;unfold Ex.whenK at hr;simp only[Ex.zjC,Ex.zgb]at hr;have z2:agN 11 zE0=zE0:=agN_agg _ _ rfl;rcases h.two hm hp hr with⟨a,q,h1,h2,h3,h4⟩|⟨q,rfl,h2,h4⟩;rotate_left
  ·refine .inr ⟨_,rfl,h2, ?_⟩;rw[zan];simp[-Int.natCast_add,zaC,csS,k_p h4,pnk]
  have hmu:=zvt L q 2 [116,104,101,110] hL h2;rcases Ex.need_some h3 with⟨g1,g2⟩|⟨g1,rfl⟩;rotate_left
  ·rw [g1,if_neg (by simp)] at hmu;refine .inr ⟨_,rfl,h2, ?_⟩;rw[zan];simp[-Int.natCast_add,zaC,csS,k_r h4,k_p hmu,pnk]
  rw[g1,if_pos rfl]at hmu;have hlt:q<L.length:=by simpa using Ex.isT_lt g1
  rcases h.two hm (by omega) g2 with⟨b,q2,k1,k2,k3,k4⟩|⟨q2,rfl,k2,k4⟩;rotate_left
  ·refine .inr ⟨_,rfl,k2, ?_⟩;rw[zan];have e1:ag (eqS oeq) (cl1 pr.ev 148 [(.ptr 0 0)] (prsE L (q+1)) 182 2 (fun v9 v8=>om (pnk v9 [.blk 182 [(zad v8 0),(zad v8 1)]])) fun v7 v8=>
     ckA 11 (norm1 (agN 11 (encE a)))<|ckA 11 (norm1 v7)<|
     (appV 11 128 av (.list [(norm1 (agN 11 (encE a))),(norm1 v7)])).bind fun v10=>
     zc4 pr.ev lup (.agg [(zad v8 0),(zad v8 1)]) (agN 11 zE0) (.int .i64 9) (.str []) (.int .i64 0) (.int .i64 0) (.str []) (.str []) (.str []) (.int .i64 0) (.bool false) (.bool d) v10)=some (.out (.panic (stopV q2),[prsE L q2])):=by
    refine zf7 ?_ (oeq_p rfl);rw[k_p k4];rfl
   simp only[zaC,csS,gt_0,gt_s,zar,qa60,zbS,qb4,zag,k_r h4,k_r hmu,za0,zcB,zcA,e1,stp_out]
  have hap:appV 11 128 av (.list [encE a,encE b])=some (.list ((acc++[a,b]).map encE)):=zrW ha (l:=[a,b]) (by simp;omega);have hw:=zyA L q2 [119,104,101,110] hL k2;have e1:∀(w:Bool)(q3:Nat),w=Ex.isT (L.map (·.1)) q2 2 [119,104,101,110]→q3=(if Ex.isT (L.map (·.1)) q2 2 [119,104,101,110]then q2+1 else q2)→lup Out (zaC pr.ev lup) (csS L true p d av)=lup Out (zaC pr.ev lup) (csS L w q3 d (.list ((acc++[a,b]).map encE))):=fun w q3 hw1 hq3=>by
   rw[←hw1]at hq3 hw;rw[←hq3]at hw;rw[zan];have e1:ag (eqS oeq) (cl1 pr.ev 148 [(.ptr 0 0)] (prsE L (q+1)) 182 2 (fun v9 v8=>om (pnk v9 [.blk 182 [(zad v8 0),(zad v8 1)]])) fun v7 v8=>
     ckA 11 (norm1 (agN 11 (encE a)))<|ckA 11 (norm1 v7)<|
     (appV 11 128 av (.list [(norm1 (agN 11 (encE a))),(norm1 v7)])).bind fun v10=>
     zc4 pr.ev lup (.agg [(zad v8 0),(zad v8 1)]) (agN 11 zE0) (.int .i64 9) (.str []) (.int .i64 0) (.int .i64 0) (.str []) (.str []) (.str []) (.int .i64 0) (.bool false) (.bool d) v10)=some (.next (csS L w q3 d (.list ((acc++[a,b]).map encE)))):=by
    refine zf7 ?_ cs_wf;simp only[k_r k4,za0,zbw,zdy,hap,qa31,zc4,zbS,qb4,zcB,zcA,zag,k_r hw,z2,csS]
   simp only[zaC,csS,gt_0,gt_s,zar,qa60,zbS,qb4,zag,k_r h4,k_r hmu,za0,zcB,zcA];simp only[csS]at e1;simp only[e1,zce]
  cases hwh:Ex.isT (L.map (·.1)) q2 2 [119,104,101,110]
  ·simp only[hwh,qb0]at k3;rw[e1 false q2 hwh.symm (by rw[hwh];rfl)];rcases cs_tail hL h hm k2 rfl (by simp;omega) k3 with⟨e,q3,i1,i2,i3⟩|i1
   ·exact .inl ⟨e,q3,i1,by omega,i3⟩
   ·exact .inr i1
  ·have hlt2:q2 < L.length:=by simpa using Ex.isT_lt hwh
   simp only[hwh,qa60]at k3;rw[Ex.zjQ]at k3;rcases Ex.need_some k3 with⟨i1,i2⟩|⟨i1,_⟩
   ·rw [e1 true (q2+1) hwh.symm (by rw [hwh];rfl)];rcases ih (q2+1) d (acc++[a,b]) _ r (by omega) (by omega) (.inr rfl) (by simp;omega) i2 with⟨e,q3,i1,i2,i3⟩|i1
    ·exact .inl ⟨e,q3,i1,by omega,i3⟩
    ·exact .inr i1
   ·rw[Ex.zgb,hwh]at i1;cases i1
theorem m_cases(hL:L.length≤999999)(h:LvP L 148 0 n):LoP L 195 Ex.zj4 n:=fun m p r hm hp hr=>by
 refine OutP.of ?_ fun z hz=>pr.of rfl rfl rfl (zlh _ _ _ _ _) hz;unfold Ex.zj4 at hr;simp only[Ex.zgb]at hr;have hj1:∀(d:Bool)(acc:List Ex.E)(av:Vm.V)(q m:Nat),m≤n→accV av acc→acc.length≤q→p≤q→q≤L.length→Ex.run (L.map (·.1)) m (.whens d acc) q=some r→OutP L p r (zc6 pr.ev lup (.agg [.list (L.map tokM),.int .i64 (q:Int)]) (.bool d) av):=fun d acc av q m hm ha hl hq1 hq2 hr=>by
  cases m with
  |zero=>cases hr
  |succ m=>
   rw[Ex.zjQ]at hr;simp only[Ex.zgb]at hr;simp only[zc6,zbS,qb4,zag];refine ziv hL hq2 hr (fun hlt hr=>?_) (fun _=>rfl);simp only[zcB,zcA];rcases cs_loop hL h m (q+1) d acc av r (by omega) (by omega) ha (by omega) hr with⟨e,q3,i1,i2,i3⟩|i1
   ·exact .inl ⟨e,q3,i1,by omega,i3⟩
   ·exact .inr i1
 simp only[zgT,zag];refine zy2 hL hp (a:=0) (by omega) rfl ?_;simp only[Nat.add_zero,zgH,qa31,zcB,zcA,zag];cases hw:Ex.isT (L.map (·.1)) p 2 [119,104,101,110]
 ·simp only[hw,qb0]at hr;simp only[qa50,zar,qa60];refine OutP.ag ?_;refine h.go hm hp hr (fun e q h1 h2 hr=>?_) (fun _=>rfl);have hap:appN 11 128 .nils (.list [encE e])=some (.list ([e].map encE)):=by
   show appV 11 128 .nils (.list [encE e])=_;exact zrW (acc:=[]) (.inl ⟨rfl,rfl⟩) (l:=[e]) (by simp)
  simp only[za0,zbw,hap,qa31,zcB,zcA];exact hj1 true [e] _ q m hm (.inr rfl) (by simp;omega) (by omega) h2 hr
 ·simp only[hw,qa60]at hr;simp only[Bool.not_true,zar,qb0];exact hj1 false [] _ p m hm (.inl ⟨rfl,rfl⟩) (by simp) (by omega) hp hr
end
end
section
open Go.RowKit
open Vm
variable[Gl]
def Good(L:List Lx.TA):Prop:=∀(i:Nat)(t:Lx.TA),L[i]?=some t→t.1.text.length≤1000000∧-9223372036854775807≤t.1.val.2.1∧t.1.val.2.1≤9223372036854775807
section
variable{L:List Lx.TA}
theorem zg1{f:FuncId}{k:Nat}:LvP L f k 0:=fun m p r hm hp hr=>by
 obtain rfl:m=0:=by omega
 cases hr
structure ProgP(L:List Lx.TA)(n:Nat):Prop where
 l0:LvP L 148 0 n
 l1:LvP L 162 1 n
 l2:LvP L 172 2 n
 l3:LvP L 180 3 n
 l4:LvP L 184 4 n
 l5:LvP L 187 5 n
 l6:LvP L 190 6 n
 l7:LvP L 191 7 n
 l8:LvP L 192 8 n
 ls:LsP L n
theorem zu5(hL:L.length≤999999)(hT:Good L):∀n,ProgP L n
 | 0=>⟨zg1,zg1,zg1,zg1,zg1,zg1,zg1,zg1,zg1,fun m p r hm hp hr=>by
  obtain rfl:m=0:=by omega
  cases hr⟩
 |n+1=>by
  have h:=zu5 hL hT n;have hx:zmW L:=fun i t ht=>(hT i t ht).1;exact⟨m_expr hL h.l1,zrB hL h.l2,zww hL h.l2 h.l3,zsZ hL h.l4 h.ls,m_sum hL h.l5,zyH hL h.l6,m_join hL h.l7,m_signed hL (fun i t ht=>(hT i t ht).2) h.l8 h.l7,
   m_plain hL hx h.l0 (m_named hL (m_call hL h.l0 h.ls)) (m_cases hL h.l0) (m_cast hL hx h.l0),m_list hL h.l0⟩
theorem prog_expr(hL:L.length≤999999)(hT:Good L){m p:Nat}{r:Ex.R}(hp:p≤L.length)(hr:Ex.run (L.map (·.1)) m (.lev 0) p=some r):OutP L (p+1) r (pr.ev 148 [.ptr 0 0] [prsE L p]):=
 (zu5 hL hT m).l0 m p r (qa57 _) hp hr
end
end
section
open Go.RowKit
open Vm
variable[Gl]
def rdV(L:List Lx.TA)(a b w:Int):Vm.V:=.agg [.list (L.map tokM),.int .i64 a,.int .i64 b,.int .i64 w]
section
variable{Z:Type}{A:Option Z}{L:List Lx.TA}{a b w:Int}
@[simp] theorem zau:Vm.V.agg [.list (L.map tokM),.int .i64 a,.int .i64 b,.int .i64 w]=rdV L a b w:=rfl
@[simp] theorem zcR:ckA 4 (rdV L a b w) A=A:=by unfold rdV;exact ckA_agg _ _ rfl rfl
@[simp] theorem za2:agN 4 (rdV L a b w)=rdV L a b w:=by unfold rdV;exact agN_agg _ _ rfl
@[simp] theorem zbE:norm1 (rdV L a b w)=rdV L a b w:=rfl
@[simp] theorem rd_0:cell (rdV L a b w) 0=.list (L.map tokM):=rfl
@[simp] theorem rd_1:cell (rdV L a b w) 1=.int .i64 a:=rfl
@[simp] theorem rd_2:cell (rdV L a b w) 2=.int .i64 b:=rfl
@[simp] theorem rd_3:cell (rdV L a b w) 3=.int .i64 w:=rfl
end
def atR(L:List Lx.TA)(b:Int)(p:Nat)(k:Int)(s:List UInt8):Bool:=decide (b=0) && Ex.isT (L.map (·.1)) p k s
def zyX(L:List Lx.TA)(b:Int)(p:Nat)(k:Int):Bool:=decide (b=0) && Ex.isK (L.map (·.1)) p k
section
variable{L:List Lx.TA}
theorem r_at(p a:Nat)(b w k:Int)(s:List UInt8)(hL:L.length≤999999)(hp:p≤2000000)(ha:a≤2):
  pr.ev 152 [rdV L p b w,.int .i64 (a:Int),.int .i64 k,.str s] []=some (.ret (.bool (atR L b (p+a) k s)),[]):=by
 refine pr.of rfl rfl rfl (zpo _ _ _ _ _ _ _) ?_;have hw:IntKind.wrap .i64 ((p:Int)+a)=((p+a:Nat):Int):=by rw[zcd (by omega) (by omega)];simp
 by_cases hb:b=0
 ·by_cases h:p+a<L.length
  ·simp[-Int.natCast_add,zfw,hw,rtn,Ex.isT,atR,h,hb];by_cases h2:L[p+a].1.kind=k<;>simp[h2]
  ·simp[-Int.natCast_add,zfw,hw,rtn,Ex.isT,atR,h,hb]
 ·simp[-Int.natCast_add,zfw,rtn,atR,hb]
theorem zxX(p:Nat)(b w k:Int)(s:List UInt8)(hL:L.length≤999999)(hp:p≤2000000):
  pr.ev 152 [rdV L p b w,.int .i64 0,.int .i64 k,.str s] []=some (.ret (.bool (atR L b p k s)),[]):=r_at p 0 b w k s hL hp (by omega)
theorem r_word(p:Nat)(b w:Int)(s:List UInt8)(hL:L.length≤999999)(hp:p≤2000000):pr.ev 151 [rdV L p b w,.str s] []=some (.ret (.bool (atR L b p 2 s)),[]):=by
 refine pr.of rfl rfl rfl (znj _ _ _ _ _) ?_;simp[-Int.natCast_add,ziD,zaa (zxX p b w 2 s hL hp),rtn]
theorem r_mark(p:Nat)(b w:Int)(s:List UInt8)(hL:L.length≤999999)(hp:p≤2000000):pr.ev 155 [rdV L p b w,.str s] []=some (.ret (.bool (atR L b p 4 s)),[]):=by
 refine pr.of rfl rfl rfl (znl _ _ _ _ _) ?_;simp[-Int.natCast_add,ziF,zaa (zxX p b w 4 s hL hp),rtn]
theorem r_kind(p:Nat)(b w k:Int)(hL:L.length≤999999):pr.ev 157 [rdV L p b w,.int .i64 k] []=some (.ret (.bool (zyX L b p k)),[]):=by
 refine pr.of rfl rfl rfl (znm _ _ _ _ _) ?_;by_cases hb:b=0
 ·by_cases h:p<L.length
  ·simp[-Int.natCast_add,zeI,rtn,Ex.isK,zyX,h,hb];rw[Bool.eq_iff_iff];simp
  ·simp[-Int.natCast_add,zeI,rtn,Ex.isK,zyX,h,hb]
 ·simp[-Int.natCast_add,zeI,rtn,zyX,hb]
theorem r_next(p:Nat)(b w:Int)(hp:p≤2000000):pr.ev 140 [rdV L p b w] []=some (.ret (rdV L ((p+1:Nat):Int) b w),[]):=by
 refine pr.of rfl rfl rfl (znk _ _ _ _) ?_;have hw:IntKind.wrap .i64 ((p:Int)+1)=((p+1:Nat):Int):=by rw[zcd (by omega) (by omega)];simp
 simp[-Int.natCast_add,ziE,hw,rtn]
theorem zsJ(p:Nat)(w:Int)(hp:p≤L.length):pr.ev 163 [rdV L p 0 w] []=some (.ret (rdV L p 20 p),[]):=by
 refine pr.of rfl rfl rfl (zjl _ _ _ _) ?_;have h1:zkB .min (.int .i64 (p:Int)) (.int .i64 (L.length:Int))=some (.int .i64 (p:Int)):=by
  simp only[zkB];congr 2;split<;>omega
 simp[-Int.natCast_add,zfZ,h1,rtn]
theorem r_fail_b(p b w:Int)(hb:b≠0):pr.ev 163 [rdV L p b w] []=some (.ret (rdV L p b w),[]):=by
 refine pr.of rfl rfl rfl (zjl _ _ _ _) ?_;simp[-Int.natCast_add,zfZ,hb,rtn]
theorem zoF(p:Nat)(w k:Int)(s:List UInt8)(hL:L.length≤999999)(hp:p≤L.length):pr.ev 153 [rdV L p 0 w,.int .i64 k,.str s] []=some (.ret (if Ex.isT (L.map (·.1)) p k s then rdV L ((p+1:Nat):Int) 0 w else rdV L p 20 p),[]):=by
 refine pr.of rfl rfl rfl (zjk _ _ _ _ _ _) ?_;cases h:Ex.isT (L.map (·.1)) p k s<;>simp[-Int.natCast_add,zfY,zaa (zxX p 0 w k s hL (by omega)),zaa (zsJ (L:=L) p w hp),zaa (r_next (L:=L) p 0 w (by omega)),atR,h,rtn]
theorem r_need_b(p:Nat)(b w k:Int)(s:List UInt8)(hL:L.length≤999999)(hp:p≤2000000)(hb:b≠0):pr.ev 153 [rdV L p b w,.int .i64 k,.str s] []=some (.ret (rdV L p b w),[]):=by
 refine pr.of rfl rfl rfl (zjk _ _ _ _ _ _) ?_;simp[-Int.natCast_add,zfY,zaa (zxX p b w k s hL (by omega)),zaa (r_fail_b (L:=L) p b w hb),atR,hb,rtn]
end
def Exs(x:Vm.V):Prop:=∃cs:List Vm.V,x=.agg cs∧cs.length=11∧cs.all Vm.V.one=true∧cs.map norm0=cs∧wfs cs=true
theorem zbe(e:Ex.E):Exs (encE e):=by
 have h:=zdh e;cases e;rw[enc_mk]at h ⊢;simp only[wf]at h;exact⟨_,rfl,rfl,rfl,rfl,h⟩
theorem Exs.ck{x:Vm.V}(h:Exs x){Z:Type}(A:Option Z):ckA 11 x A=A:=by obtain⟨cs,rfl,h1,h2,_⟩:=h;exact ckA_agg _ _ h1 h2
theorem Exs.ag{x:Vm.V}(h:Exs x):agN 11 x=x:=by obtain⟨cs,rfl,h1,_,_⟩:=h;exact agN_agg _ _ h1
theorem Exs.nm{x:Vm.V}(h:Exs x):norm1 x=x:=by obtain⟨cs,rfl,_,_,h3,_⟩:=h;rw[nm_a,h3]
theorem Exs.sz{x:Vm.V}(h:Exs x):x.size=11:=by obtain⟨cs,rfl,h1,_,_⟩:=h;simpa[Vm.V.size,Vm.V.cells]using h1
theorem Exs.wf{x:Vm.V}(h:Exs x):wf x=true:=by obtain⟨cs,rfl,_,_,_,h3⟩:=h;simpa only[Vm.wf]using h3
theorem Exs.rd{x:Vm.V}(h:Exs x):argR x=.d x:=by obtain⟨cs,rfl,_⟩:=h;rfl
theorem zrk{L:List Lx.TA}{a b w:Int}:wf (rdV L a b w)=true:=by simp only[rdV,wf,wfs,zhd,Bool.and_self]
theorem r_two(op:List UInt8)(a x:Vm.V)(ha:Exs a)(hx:Exs x):pr.ev 141 [.str op,a,x] []=some (.ret (.agg [.int .i64 4,.str op,.int .i64 0,.int .i64 0,.str [],.str [],.str [],.int .i64 0,.bool false,.bool false,.list [a,x]]),[]):=by
 have e1:argR a=.d a:=by obtain⟨cs,rfl,_⟩:=ha;rfl
 have e2:argR x=.d x:=by obtain⟨cs,rfl,_⟩:=hx;rfl
 refine pr.of rfl (by simp only[List.map,e1,e2];rfl) rfl (zok _ _ _ _ _ _) ?_;simp[zjj,ha.ck,ha.ag,ha.nm,hx.ck,hx.ag,hx.nm,ckA_agg,rtn]
end
section
open Go.RowKit
open Vm
variable[Gl]
def StR(L:List Lx.TA)(q:Nat)(o:Option Out):Prop:=∃(p':Nat)(x:Vm.V),o=some (.ret (.tup [rdV L p' 20 q,x]),[])∧Exs x∧p'≤L.length
def OutR(L:List Lx.TA)(lo:Nat)(r:Ex.R)(o:Option Out):Prop:=(∃e q,r=.ok [e] q∧lo≤q∧q≤L.length∧o=some (.ret (.tup [rdV L q 0 0,encE e]),[]))∨∃q,r=.stop q∧StR L q o
theorem StR.of{L:List Lx.TA}{q:Nat}{o o':Option Out}(h:StR L q o)(e:∀z,o=some z→o'=some z):StR L q o':=by
 obtain⟨p',x,h1,h2,h3⟩:=h;exact⟨p',x,e _ h1,h2,h3⟩
theorem StR.mk{L:List Lx.TA}{p' q:Nat}{x:Vm.V}(hx:Exs x)(hp:p'≤L.length):StR L q (some (.ret (.tup [rdV L p' 20 q,x]),[])):=⟨p',x,rfl,hx,hp⟩
theorem StR.ml{L:List Lx.TA}{p' q:Nat}{cs:List Vm.V}(h1:cs.length=11)(h2:cs.all Vm.V.one=true)(h3:cs.map norm0=cs)(h4:wfs cs=true)(hp:p'≤L.length):StR L q (some (.ret (.tup [rdV L p' 20 q,.agg cs]),[])):=⟨p',_,rfl,⟨_,rfl,h1,h2,h3,h4⟩,hp⟩
theorem StR.ag{L:List Lx.TA}{q:Nat}{o:Option Out}(h:StR L q o):StR L q (ag oeq o):=by
 obtain⟨p',x,h1,h2,h3⟩:=h;refine⟨p',x,zf7 h1 ?_,h2,h3⟩;have:veq (.tup [rdV L p' 20 q,x]) (.tup [rdV L p' 20 q,x])=true:=zf9 (by simp only[wf,wfs,zrk,h2.wf,Bool.and_self]);simp[oeq,eeqs,this]
theorem OutR.of{L:List Lx.TA}{lo:Nat}{r:Ex.R}{o o':Option Out}(h:OutR L lo r o)(e:∀z,o=some z→o'=some z):OutR L lo r o':=by
 rcases h with⟨a,q,h1,h2,h3,h4⟩|⟨q,h1,h3⟩
 ·exact .inl ⟨a,q,h1,h2,h3,e _ h4⟩
 ·exact .inr ⟨q,h1,h3.of e⟩
theorem OutR.ag{L:List Lx.TA}{lo:Nat}{r:Ex.R}{o:Option Out}(h:OutR L lo r o):OutR L lo r (ag oeq o):=by
 rcases h with⟨a,q,h1,h2,h3,h4⟩|⟨q,h1,h3⟩
 ·refine .inl ⟨a,q,h1,h2,h3,zf7 h4 ?_⟩;have:veq (.tup [rdV L q 0 0,encE a]) (.tup [rdV L q 0 0,encE a])=true:=zf9 (by simp only[wf,wfs,zrk,zdh,Bool.and_self]);simp[oeq,eeqs,this]
 ·exact .inr ⟨q,h1,h3.ag⟩
def LvR(L:List Lx.TA)(n:Nat):Prop:=∀m k p r,m≤n→k≤7→p≤L.length→Ex.run (L.map (·.1)) m (.lev k) p=some r→OutR L (p+1) r (pr.ev 115 [rdV L p 0 0,.int .i64 (k:Int)] [])
section
variable{L:List Lx.TA}{n:Nat}{k m p lo:Nat}{r:Ex.R}{Kp K:Vm.V→Option Out}
theorem LvR.two(h:LvR L n)(hm:m≤n)(hk7:k≤7)(hp:p≤L.length){F:Ex.E→Nat→Option Ex.R}(hr:Ex.then1 (Ex.run (L.map (·.1)) m (.lev k) p) F=some r):
  (∃e q,p<q∧q≤L.length∧F e q=some r∧pr.ev 115 [rdV L p 0 0,.int .i64 (k:Int)] []=some (.ret (.tup [rdV L q 0 0,encE e]),[]))∨∃q,r=.stop q∧StR L q (pr.ev 115 [rdV L p 0 0,.int .i64 (k:Int)] []):=by
 rcases Ex.then1_some hr with⟨e,q,h1,h2⟩|⟨q,h1,rfl⟩
 ·rcases h m k p _ hm hk7 hp h1 with⟨e',q',h3,h4,h5,h6⟩|⟨q',h3,_⟩
  ·cases h3;exact .inl ⟨e,q,h4,h5,h2,h6⟩
  ·cases h3
 ·rcases h m k p _ hm hk7 hp h1 with⟨e',q',h3,_⟩|⟨q',h3,h4⟩
  ·cases h3
  ·cases h3;exact .inr ⟨q,rfl,h4⟩
theorem LvR.go(h:LvR L n)(hm:m≤n)(hk7:k≤7)(hp:p≤L.length){w:Vm.V}(hw:w=.int .i64 (k:Int)){F:Ex.E→Nat→Option Ex.R}(hr:Ex.then1 (Ex.run (L.map (·.1)) m (.lev k) p) F=some r)(hk:∀e q,p<q→q≤L.length→F e q=some r→OutR L lo r (K (.tup [rdV L q 0 0,encE e])))
  (hs:∀(p' q:Nat) x,Exs x→p'≤L.length→StR L q (K (.tup [rdV L p' 20 q,x]))):OutR L lo r (cl0 pr.ev 115 [rdV L p 0 0,w] Kp K):=by
 subst hw;rcases h.two hm hk7 hp hr with⟨e,q,h1,h2,h3,h4⟩|⟨q,rfl,p',x,h4,h5,h6⟩
 ·rw[zaa h4];exact hk e q h1 h2 h3
 ·rw[zaa h4];exact .inr ⟨q,rfl,hs p' q x h5 h6⟩
theorem LvR.end(h:LvR L n)(hm:m≤n)(hk7:k≤7)(hp:p≤L.length){w:Vm.V}(hw:w=.int .i64 (k:Int))(hr:Ex.run (L.map (·.1)) m (.lev k) p=some r)(hlo:lo≤p+1)(hs:∀(p':Nat)(b q:Int) x,Exs x→K (.tup [rdV L p' b q,x])=some (.ret (.tup [rdV L p' b q,x]),[])):
  OutR L lo r (cl0 pr.ev 115 [rdV L p 0 0,w] Kp K):=by
 subst hw;rcases h m k p _ hm hk7 hp hr with⟨e,q,rfl,h4,h5,h6⟩|⟨q,rfl,p',x,h4,h5,h6⟩
 ·rw[zaa h6];exact .inl ⟨e,q,rfl,by omega,h5,hs q 0 0 _ (zbe e)⟩
 ·rw[zaa h4];exact .inr ⟨q,rfl,p',x,hs p' 20 q x h5,h5,h6⟩
theorem zjb(hL:L.length≤999999)(hp:p≤L.length){k:Int}{s:List UInt8}{F:Nat→Option Ex.R}(hr:Ex.need (L.map (·.1)) k s p F=some r)(hk:p<L.length→F (p+1)=some r→OutR L lo r (K (rdV L ((p+1:Nat):Int) 0 0)))
  (hs:StR L p (K (rdV L p 20 p))):OutR L lo r (cl0 pr.ev 153 [rdV L p 0 0,.int .i64 k,.str s] Kp K):=by
 have h:=zoF p 0 k s hL hp;rcases Ex.need_some hr with⟨h1,h2⟩|⟨h1,rfl⟩
 ·rw[h1,if_pos rfl]at h;rw[zaa h];exact hk (by simpa using Ex.isT_lt h1) h2
 ·rw [h1,if_neg (by simp)] at h;rw[zaa h];exact .inr ⟨p,rfl,hs⟩
theorem zdE{e:Ex.E}(hr:r=.ok [e] p)(hlo:lo≤p)(hp:p≤L.length){o:Option Out}(ho:o=some (.ret (.tup [rdV L p 0 0,encE e]),[])):OutR L lo r o:=.inl ⟨e,p,hr,hlo,hp,ho⟩
end
section
variable{Z:Type}{L:List Lx.TA}{p:Nat}{Kp K:Vm.V→Option Z}
theorem zlx(hL:L.length≤999999)(hp:p≤L.length){s:List UInt8}:cl0 pr.ev 151 [rdV L p 0 0,.str s] Kp K=K (.bool (Ex.isT (L.map (·.1)) p 2 s)):=by
 rw[zaa (r_word p 0 0 s hL (by omega))];simp[atR]
theorem zm6(hL:L.length≤999999)(hp:p≤L.length){s:List UInt8}:cl0 pr.ev 155 [rdV L p 0 0,.str s] Kp K=K (.bool (Ex.isT (L.map (·.1)) p 4 s)):=by
 rw[zaa (r_mark p 0 0 s hL (by omega))];simp[atR]
theorem zvB(hL:L.length≤999999){k:Int}:cl0 pr.ev 157 [rdV L p 0 0,.int .i64 k] Kp K=K (.bool (Ex.isK (L.map (·.1)) p k)):=by
 rw[zaa (r_kind p 0 0 k hL)];simp[zyX]
theorem zdG(hL:L.length≤999999)(hp:p≤L.length):cl0 pr.ev 140 [rdV L p 0 0] Kp K=K (rdV L ((p+1:Nat):Int) 0 0):=by
 rw[zaa (r_next p 0 0 (by omega))]
end
section
variable{L:List Lx.TA}{n:Nat}
theorem r_part_b(p k b w:Int)(hb:b≠0):pr.ev 115 [rdV L p b w,.int .i64 k] []=some (.ret (.tup [rdV L p b w,encE Ex.e0]),[]):=by
 refine pr.of rfl rfl rfl (zgy _ _ _ _ _) ?_;rw[Ex.e0,enc_mk];simp[-Int.natCast_add,zeG,hb,rtn,Ex.v0]
theorem ztZ(s:List UInt8):pr.ev 173 [.str s] []=some (.ret (.bool (Ex.aggs.contains s)),[]):=by
 refine pr.of rfl rfl rfl (zjO _ _ _ _) ?_;unfold zfQ;by_cases h1:s=[99,111,117,110,116]
 ·simp[h1,Ex.aggs,Ex.zeR,rtn]
 by_cases h2:s=[115,117,109]
 ·simp[h2,Ex.aggs,Ex.zeR,rtn]
 by_cases h3:s=[109,105,110]
 ·simp[h3,Ex.aggs,Ex.zeR,rtn]
 by_cases h4:s=[109,97,120]
 ·simp[h4,Ex.aggs,Ex.zeR,rtn]
 by_cases h5:s=[97,118,103]
 ·simp[h5,Ex.aggs,Ex.zeR,rtn]
 by_cases h6:s=[116,111,116,97,108]<;>simp[h1,h2,h3,h4,h5,h6,Ex.aggs,Ex.zeR,rtn]
theorem r_level(k:Nat)(hk:k=0∨k=1∨k=4∨k=5∨k=6):pr.ev 138 [.int .i64 (k:Int)] []=some (.ret (.tup [.list ((Ex.ops k).1.map Vm.V.str),.int .i64 (Ex.ops k).2]),[]):=by
 refine pr.of rfl rfl rfl (zmn _ _ _ _) ?_;rcases hk with rfl|rfl|rfl|rfl|rfl<;>simp[zh2,rtn,Ex.ops,Ex.wOr,Ex.wAnd,Ex.zjY,Ex.zfm,Ex.zem]
theorem zpC(p:Nat)(b w k:Int)(l:List (List UInt8))(hL:L.length≤999999)(hp:p≤L.length)(hl:l.length≤9):∀(n i:Nat),i+n=l.length →
  lup Out (zcs pr.ev lup) [.list (l.map str1),.int .i64 k,.int .i64 i,rdV L p b w]=some (.ret (.str (if b=0 then(Ex.zet (L.map (·.1)) p k (l.drop i)).getD []else[])),[])
 |0,i,hi=>by
  have h1:¬i<l.length:=by omega
  have h2:l.drop i=[]:=List.drop_of_length_le (by omega);rw[zan];simp[-Int.natCast_add,zcs,h1,h2,Ex.zet,rtn]
 |n+1,i,hi=>by
  have h1:i<l.length:=by omega
  have h2:l.drop i=l[i]::l.drop (i+1):=qa10 h1;have h3:=zxX p b w k l[i] hL (by omega);have h4:=zpC p b w k l hL hp hl n (i+1) (by omega);have el:elV 1 (.list (l.map str1)) (.int .i64 (i:Int))=some (.str l[i]):=by rw[zm9 1 str1 l .i64 i fun _=>rfl];simp[h1,str1]
  have ld:ldV false 1 (.str l[i]) 0=some (.str l[i]):=rfl;rw[zan,h2,Ex.zet];cases h:atR L b p k l[i]
  ·rw[h]at h3;have hx:(if b=0 then(if Ex.isT (L.map (·.1)) p k l[i]=true then some l[i]else Ex.zet (L.map (·.1)) p k (l.drop (i+1))).getD []else[])=(if b=0 then(Ex.zet (L.map (·.1)) p k (l.drop (i+1))).getD []else[]):=by
    by_cases hb:b=0
    ·simp only[atR,hb,decide_true,Bool.true_and]at h;simp[hb,h]
    ·simp[hb]
   rw[hx,←h4];simp[-Int.natCast_add,zcs,h1,el,ld,zaa h3,zbU (show i≤1000000 by omega)]
  ·rw[h]at h3;simp only[atR,qa32,qa25]at h;obtain⟨rfl,h⟩:=h;simp[-Int.natCast_add,zcs,h1,el,ld,zaa h3,h,rtn]
theorem zmE(p:Nat)(b w k:Int)(l:List (List UInt8))(hL:L.length≤999999)(hp:p≤L.length)(hl:l.length≤9):
  pr.ev 139 [rdV L p b w,.list (l.map .str),.int .i64 k] []=some (.ret (.str (if b=0 then(Ex.zet (L.map (·.1)) p k l).getD []else[])),[]):=by
 refine pr.of rfl rfl rfl (zml _ _ _ _ _ _) ?_;have h:=zpC p b w k l hL hp hl l.length 0 (by omega);simpa[-Int.natCast_add,zh0,str1]using h
theorem zwo(hL:L.length≤999999)(h:LvR L n)(m p:Nat)(r:Ex.R)(hm:m≤n+1)(hp:p≤L.length)(hr:Ex.run (L.map (·.1)) m (.lev 2) p=some r):OutR L (p+1) r (pr.ev 135 [rdV L p 0 0] []):=by
 cases m with
 |zero=>cases hr
 |succ m=>
 rw[Ex.run]at hr;simp only[Ex.wNot]at hr;refine OutR.of ?_ fun z hz=>pr.of rfl rfl rfl (zkE _ _ _ _) hz;simp only[zgh,zcR,za2,zbE,zlx hL hp,zdG hL hp,zgH,qa31];cases ht:Ex.isT (L.map (·.1)) p 2 [110,111,116]
 ·simp only[ht,qb0]at hr;simp only[qa50,zar,qa60];refine h.end (k:=3) (by omega) (by omega) hp rfl hr (by omega) fun p' b q x hx=>?_;simp[hx.ck,hx.ag,hx.nm,rtn]
 ·have hlt:p < L.length:=by simpa using Ex.isT_lt ht
  simp only[ht,qa60]at hr;simp only[Bool.not_true,zar,qb0];refine h.go (k:=2) (by omega) (by omega) (by omega) rfl hr (fun e q h1 h2 h3=>zdE (Ex.zaI h3) (by omega) h2 ?_) fun p' q x hx hp'=>?_
  ·rw[←zvM];simp[rtn]
  ·exact⟨p',_,by simp[hx.ck,hx.ag,hx.nm,rtn];rfl,⟨_,rfl,rfl,rfl,rfl,by simp[wfs,wf,hx.wf]⟩,hp'⟩
def zR0:Vm.V:=.agg [.nils,.int .i64 0,.int .i64 0,.int .i64 0]
theorem ztd{p q k kk:Int}{ops x:Vm.V}(hx:Exs x):lup Out (zaU pr.ev lup) [.int .i64 k,ops,.int .i64 kk,.str [],zR0,zE0,rdV L p 20 q,x]=some (.ret (.tup [rdV L p 20 q,x]),[]):=by
 rw[zan];simp[zaU,zeV,hx.ck,hx.ag,hx.nm,rtn]
theorem zyg{k:Nat}(hk:k=0∨k=1∨k=4∨k=5∨k=6):(Ex.ops k).1.length≤9∧((Ex.ops k).1.all fun s=>!s.isEmpty)=true:=by
 rcases hk with rfl|rfl|rfl|rfl|rfl<;>exact⟨by decide,by decide⟩
theorem line_loop{k:Nat}(hL:L.length≤999999)(h:LvR L n)(hk:k=0∨k=1∨k=4∨k=5∨k=6):∀(m p:Nat)(e:Ex.E)(r:Ex.R),m≤n+1→p≤L.length→Ex.run (L.map (·.1)) m (.chain k e) p=some r →
  OutR L p r (lup Out (zaU pr.ev lup) [.int .i64 k,.list ((Ex.ops k).1.map .str),.int .i64 (Ex.ops k).2,.str ((Ex.zet (L.map (·.1)) p (Ex.ops k).2 (Ex.ops k).1).getD []),zR0,zE0,rdV L p 0 0,encE e])
 |0,p,e,r,_,_,hr=>by cases hr
 |m+1,p,e,r,hm,hp,hr=>by
  obtain⟨hol,hon⟩:=zyg hk;have z1:agN 4 zR0=zR0:=agN_agg _ _ rfl;have z2:agN 11 zE0=zE0:=agN_agg _ _ rfl;simp only[Ex.run]at hr;cases ho:Ex.zet (L.map (·.1)) p (Ex.ops k).2 (Ex.ops k).1 with
  |none=>
   rw[ho]at hr;refine zdE (by cases hr;rfl) (qa57 _) hp ?_;rw[zan];simp[zaU,zeV,rtn]
  |some op=>
   rw[ho]at hr;have hlt:p<L.length:=by simpa using(Ex.zcl ho).1
   have hop:op≠[]:=fun he=>by
    have h1:=(Ex.zcl ho).2.2;have h2:=qa33.1 hon op h1;rw[he]at h2;cases h2
   have hw:=zbU (show k≤1000000 by omega);rcases h.two (by omega) (by omega) (by omega) hr with⟨b,q,h1,h2,h3,h4⟩|⟨q,rfl,p',x,h4,h5,h6⟩
   ·have ih:=line_loop hL h hk m q (Ex.eBin op e b) r (by omega) h2 h3;have htw:=r_two op (encE e) (encE b) (zbe e) (zbe b);rw[zrJ]at htw;have e1:lup Out (zaU pr.ev lup) [.int .i64 k,.list ((Ex.ops k).1.map .str),.int .i64 (Ex.ops k).2,.str ((some op).getD []),zR0,zE0,rdV L p 0 0,encE e]=lup Out (zaU pr.ev lup) [.int .i64 k,.list ((Ex.ops k).1.map .str),.int .i64 (Ex.ops k).2,.str ((Ex.zet (L.map (·.1)) q (Ex.ops k).2 (Ex.ops k).1).getD []),zR0,zE0,rdV L q 0 0,encE (Ex.eBin op e b)]:=by
     rw[zan];simp[-Int.natCast_add,zaU,hop,zdG hL hp,hw,zaa h4,zaa htw,zaa (zmE q 0 0 (Ex.ops k).2 (Ex.ops k).1 hL h2 hol),z1,z2]
    rw[e1];rcases ih with⟨e',q2,hr',h4,h5,h6⟩|h4
    ·exact .inl ⟨e',q2,hr',by omega,h5,h6⟩
    ·exact .inr h4
   ·refine .inr ⟨q,rfl, ?_⟩;have htw:=r_two op (encE e) x (zbe e) h5;have hx2:Exs (.agg [.int .i64 4,.str op,.int .i64 0,.int .i64 0,.str [],.str [],.str [],.int .i64 0,.bool false,.bool false,.list [encE e,x]]):=⟨_,rfl,rfl,rfl,rfl,by simp[wfs,wf,h5.wf,zdh]⟩;refine⟨p',_, ?_,hx2,h6⟩;rw[zan];simp[-Int.natCast_add,zaU,hop,zdG hL hp,hw,zaa h4,zaa htw,zaa (zmE p' 20 q (Ex.ops k).2 (Ex.ops k).1 hL h6 hol),z1,z2,h5.ck,h5.ag,h5.nm,hx2.ck,hx2.ag,ztd hx2]
theorem r_levels(hL:L.length≤999999)(h:LvR L n)(m k p:Nat)(r:Ex.R)(hk:k=0∨k=1∨k=4∨k=5∨k=6)(hm:m≤n+1)(hp:p≤L.length)(hr:Ex.run (L.map (·.1)) m (.lev k) p=some r):
  OutR L (p+1) r (pr.ev 115 [rdV L p 0 0,.int .i64 (k:Int)] []):=by
 cases m with
 |zero=>cases hr
 |succ m=>
 rw[Ex.zmx _ _ _ _ (by omega)]at hr;obtain⟨hol,_⟩:=zyg hk;have hw:=zbU (show k≤1000000 by omega);have hk2:((k:Int)==2)=false:=by simp;omega
 have hk3:((k:Int)==3)=false:=by simp;omega
 have hk7:((k:Int)==7)=false:=by simp;omega
 refine OutR.of ?_ fun z hz=>pr.of rfl rfl rfl (zgy _ _ _ _ _) hz;have e2:b0 .eql (.int .i64 (k:Int)) (.int .i64 2)=some (.bool false):=by simp only[b0,zph,zAf,hk2]
 have e3:b0 .eql (.int .i64 (k:Int)) (.int .i64 3)=some (.bool false):=by simp only[b0,zph,zAf,hk3]
 have e7:b0 .eql (.int .i64 (k:Int)) (.int .i64 7)=some (.bool false):=by simp only[b0,zph,zAf,hk7]
 have e0:b0 .neq (.int .i64 0) (.int .i64 0)=some (.bool false):=rfl;have ea:b0 .add (.int .i64 (k:Int)) (.int .i64 1)=some (.int .i64 ((k+1:Nat):Int)):=by simp only[b0,zph,ar_add,hw]
 simp only[zeG,zcR,za2,zbE,rd_2,e0,e2,e3,e7,ea,qa31,zar,qb0,nm_i,zaa (r_level k hk),ze2,qa12,qa13];refine h.go (k:=k+1) (by omega) (by omega) hp rfl hr (fun e q h1 h2 h3=>?_) fun p' q x hx hp'=>?_
 ·simp only[ze2,qa12,qa13,qa31,zcR,za2,zbE,za0,zdy,nm_l,nm_i,zaa (zmE q 0 0 (Ex.ops k).2 (Ex.ops k).1 hL h2 hol),qa60];rcases line_loop hL h hk m q e r (by omega) h2 h3 with⟨e',q2,hr',h4,h5,h6⟩|h4
  ·exact .inl ⟨e',q2,hr',by omega,h5,h6⟩
  ·exact .inr h4
 ·simp only [ze2,qa12,qa13,qa31,zcR,za2,zbE,hx.ck,hx.ag,nm_l,nm_i,zaa (zmE p' 20 q (Ex.ops k).2 (Ex.ops k).1 hL hp' hol),if_neg (show ¬ (20:Int)=0 by decide)];exact⟨p',x,ztd hx,hx,hp'⟩
end
end
section
open Go.RowKit
open Vm
variable[Gl]
section
variable{Z:Type}{L:List Lx.TA}{p:Nat}{w:Int}{Kp K:Vm.V→Option Z}
theorem word_b(hL:L.length≤999999)(hp:p≤L.length){s:List UInt8}:cl0 pr.ev 151 [rdV L p 20 w,.str s] Kp K=K (.bool false):=by
 rw[zaa (r_word p 20 w s hL (by omega))];simp[atR]
theorem zyw(hL:L.length≤999999)(hp:p≤L.length){s:List UInt8}:cl0 pr.ev 155 [rdV L p 20 w,.str s] Kp K=K (.bool false):=by
 rw[zaa (r_mark p 20 w s hL (by omega))];simp[atR]
theorem ziX(hL:L.length≤999999)(hp:p≤L.length){k:Int}{s:List UInt8}:cl0 pr.ev 153 [rdV L p 20 w,.int .i64 k,.str s] Kp K=K (rdV L p 20 w):=by
 rw[zaa (r_need_b p 20 w k s hL (by omega) (by decide))]
theorem zm5{k:Int}:cl0 pr.ev 115 [rdV L p 20 w,.int .i64 k] Kp K=K (.tup [rdV L p 20 w,encE Ex.e0]):=by
 rw[zaa (r_part_b p k 20 w (by decide))]
theorem at_r(hL:L.length≤999999)(hp:p≤L.length){k:Int}{s:List UInt8}:cl0 pr.ev 152 [rdV L p 0 0,.int .i64 1,.int .i64 k,.str s] Kp K=K (.bool (Ex.isT (L.map (·.1)) (p+1) k s)):=by
 have h:=r_at p 1 0 0 k s hL (by omega) (by omega);simp only[Int.natCast_one]at h;rw[zaa h];simp[atR]
end
def LsO(L:List Lx.TA)(lo:Nat)(r:Ex.R)(o:Option Out):Prop:=
 (∃(l:List Ex.E)(q:Nat),r=.ok l (q+1)∧lo≤q∧q<L.length∧l.length≤1000000∧Ex.isT (L.map (·.1)) q 4 [41]=true∧o=some (.ret (.tup [rdV L q 0 0,.list (l.map encE)]),[])) ∨
 (∃(l:List Ex.E)(q:Nat),r=.stop q∧q≤L.length∧l.length≤1000000∧Ex.isT (L.map (·.1)) q 4 [41]=false∧o=some (.ret (.tup [rdV L q 0 0,.list (l.map encE)]),[])) ∨
 ∃(p' q:Nat)(xs:List Vm.V),r=.stop q∧p'≤L.length∧xs.length≤1000001∧(∀x∈xs,Exs x)∧o=some (.ret (.tup [rdV L p' 20 q,.list xs]),[])
theorem LsO.of{L:List Lx.TA}{lo lo':Nat}{r:Ex.R}{o o':Option Out}(h:LsO L lo r o)(hl:lo'≤lo)(e:∀z,o=some z→o'=some z):LsO L lo' r o':=by
 rcases h with⟨l,q,h1,h2,h3,h4,h5,h6⟩|⟨l,q,h1,h2,h3,h4,h5⟩|⟨p',q,xs,h1,h2,h3,h4,h5⟩
 ·exact .inl ⟨l,q,h1,by omega,h3,h4,h5,e _ h6⟩
 ·exact .inr (.inl ⟨l,q,h1,h2,h3,h4,e _ h5⟩)
 ·exact .inr (.inr ⟨p',q,xs,h1,h2,h3,h4,e _ h5⟩)
def LsR(L:List Lx.TA)(n:Nat):Prop:=∀m p r,m≤n→p≤L.length→Ex.run (L.map (·.1)) m (.list []) p=some r→LsO L (p+1) r (pr.ev 154 [rdV L p 0 0] [])
section
variable{L:List Lx.TA}{n:Nat}
theorem zwz(hL:L.length≤999999)(h:LvR L n):∀(m p:Nat)(acc:List Ex.E)(e:Ex.E)(r:Ex.R),m≤n→p≤L.length→acc.length+1≤p →
  (if Ex.isT (L.map (·.1)) p 4 [44]then Ex.run (L.map (·.1)) m (.list (acc++[e])) (p+1)else Ex.need (L.map (·.1)) 4 [41] p fun q=>some (.ok (acc++[e]) q))=some r →
  LsO L p r (lup Out (zaM pr.ev lup) [zR0,rdV L p 0 0,.list ((acc++[e]).map encE)]):=by
 intro m;have z1:agN 4 zR0=zR0:=agN_agg _ _ rfl;have stopper:∀(p:Nat)(l:List Ex.E),p≤L.length→Ex.isT (L.map (·.1)) p 4 [44]=false→lup Out (zaM pr.ev lup) [zR0,rdV L p 0 0,.list (l.map encE)]=some (.ret (.tup [rdV L p 0 0,.list (l.map encE)]),[]):=fun p l hp ht=>by
  rw[zan];simp[-Int.natCast_add,zaM,zcW,zm6 hL hp,ht,rtn]
 have fin:∀(p:Nat)(acc:List Ex.E)(e:Ex.E)(r:Ex.R),p≤L.length→acc.length+1≤p→Ex.isT (L.map (·.1)) p 4 [44]=false→(Ex.need (L.map (·.1)) 4 [41] p fun q=>some (.ok (acc++[e]) q))=some r→LsO L p r (lup Out (zaM pr.ev lup) [zR0,rdV L p 0 0,.list ((acc++[e]).map encE)]):=fun p acc e r hp ha ht hr=>by
  rcases Ex.need_some hr with⟨h1,h2⟩|⟨h1,rfl⟩
  ·cases h2;have hlt:p<L.length:=by simpa using Ex.isT_lt h1
   exact .inl ⟨_,_,rfl,qa57 _,hlt,by simp;omega,h1,stopper p _ hp ht⟩
  ·exact .inr (.inl ⟨_,_,rfl,hp,by simp;omega,h1,stopper p _ hp ht⟩)
 induction m with
 |zero=>
  intro p acc e r hm hp hacc hr;cases ht:Ex.isT (L.map (·.1)) p 4 [44]
  ·simp only[ht,qb0]at hr;exact fin p acc e r hp hacc ht hr
  ·simp[ht,Ex.run]at hr
 |succ m ih=>
  intro p acc e r hm hp hacc hr;cases ht:Ex.isT (L.map (·.1)) p 4 [44]
  ·simp only[ht,qb0]at hr;exact fin p acc e r hp hacc ht hr
  ·have hlt:p < L.length:=by simpa using Ex.isT_lt ht
   simp only[ht,qa60,Ex.run]at hr;rcases h.two (k:=0) (by omega) (by omega) (by omega) hr with⟨b,q,h1,h2,h3,h4⟩|⟨q,rfl,p',x,h4,hx,h6⟩
   ·have h4:pr.ev 115 [rdV L ((p+1:Nat):Int) 0 0,.int .i64 0] []=some (.ret (.tup [rdV L q 0 0,encE b]),[]):=h4;have ha:appV 11 128 (.list ((acc++[e]).map encE)) (.list [encE b])=some (.list ((acc++[e]++[b]).map encE)):=by
     rw[zjz _ _ _ _ (by simp[zde]) (by simp;omega)];simp
    refine(ih q (acc++[e]) b r (by omega) h2 (by simp;omega) (by simp only[Ex.zdH,Ex.zdf]at h3;exact h3)).of (by omega) fun z hz=>?_;rw[zan];simp only[zaM,gt_0,gt_s,za2,zbE,zm6 hL hp,ht,zar,qa60,zdG hL hp,zaa h4,ze2,qa12,qa13,qa31,zcR,za0,zdy,zbw,ha,zce,z1];exact hz
   ·have h4:pr.ev 115 [rdV L ((p+1:Nat):Int) 0 0,.int .i64 0] []=some (.ret (.tup [rdV L p' 20 q,x]),[]):=h4;have ha:appV 11 128 (.list ((acc++[e]).map encE)) (.list [x])=some (.list ((acc++[e]).map encE++[x])):=by
     rw[zjz _ _ _ _ (by simp[hx.sz]) (by simp;omega)]
    refine .inr (.inr ⟨p',q,(acc++[e]).map encE++[x],rfl,h6,by simp;omega, ?_, ?_⟩)
    ·intro y hy;rcases qa47.1 hy with hy|hy
     ·obtain⟨e',_,rfl⟩:=qa55.1 hy;exact zbe e'
     ·rw[qa22.1 hy];exact hx
    rw[zan];simp only[zaM,gt_0,gt_s,za2,zbE,zm6 hL hp,ht,zar,qa60,zdG hL hp,zaa h4,ze2,qa12,qa13,qa31,zcR,hx.ck,hx.ag,hx.nm,ha,zce,z1];rw[zan];simp only[zaM,gt_0,gt_s,za2,zbE,zyw hL h6,zar,qb0,zlA,zcW,zcR,nm_l,rtn]
theorem r_list_b{p:Nat}{q:Int}(hL:L.length≤999999)(hp:p≤L.length):pr.ev 154 [rdV L p 20 q] []=some (.ret (.tup [rdV L p 20 q,.list [encE Ex.e0]]),[]):=by
 refine pr.of rfl rfl rfl (zgz _ _ _ _) ?_;simp only[zeH,za2,zbE,zcR,zm5,ze2,qa12,qa13,qa31,za0,zdy,zbw];rw[zan];simp only[zaM,gt_0,gt_s,za2,zbE,zyw hL hp,zar,qb0,zlA,zcW,zcR,nm_l,rtn]
theorem r_list(hL:L.length≤999999)(h:LvR L n):LsR L (n+1):=fun m p r hm hp hr=>by
 cases m with
 |zero=>cases hr
 |succ m=>
  rw[Ex.run]at hr;rcases h.two (k:=0) (by omega) (by omega) hp hr with⟨b,q,h1,h2,h3,h4⟩|⟨q,rfl,p',x,h4,hx,h6⟩
  ·have h4:pr.ev 115 [rdV L p 0 0,.int .i64 0] []=some (.ret (.tup [rdV L q 0 0,encE b]),[]):=h4;refine(zwz hL h m q [] b r (by omega) h2 (by simp;omega) (by simp only[Ex.zdH,Ex.zdf,qa41]at h3 ⊢;exact h3)).of (by omega) fun z hz=>?_;refine pr.of rfl rfl rfl (zgz _ _ _ _) ?_;simp only[zeH,za2,zbE,zcR,zaa h4,ze2,qa12,qa13,qa31,za0,zdy,zbw];exact hz
  ·have h4:pr.ev 115 [rdV L p 0 0,.int .i64 0] []=some (.ret (.tup [rdV L p' 20 q,x]),[]):=h4;refine .inr (.inr ⟨p',q,[x],rfl,h6,by simp,by simpa using hx, ?_⟩);refine pr.of rfl rfl rfl (zgz _ _ _ _) ?_;simp only[zeH,za2,zbE,zcR,zaa h4,ze2,qa12,qa13,qa31,hx.ck,hx.ag,hx.nm];rw[zan];simp only[zaM,gt_0,gt_s,za2,zbE,zyw hL h6,zar,qb0,zlA,zcW,zcR,nm_l,rtn]
theorem LsR.go(h:LsR L n){m p lo:Nat}{r:Ex.R}{Kp K:Vm.V→Option Out}(hm:m≤n)(hp:p≤L.length){F:List Ex.E→Nat→Option Ex.R}(hr:Ex.zkX (Ex.run (L.map (·.1)) m (.list []) p) F=some r)(hk:∀l q,p<q→q<L.length→l.length≤1000000→Ex.isT (L.map (·.1)) q 4 [41]=true→F l (q+1)=some r→OutR L lo r (K (.tup [rdV L q 0 0,.list (l.map encE)])))
  (hs1:∀(l:List Ex.E)(q:Nat),q≤L.length→l.length≤1000000→Ex.isT (L.map (·.1)) q 4 [41]=false→StR L q (K (.tup [rdV L q 0 0,.list (l.map encE)])))
  (hs2:∀(p' q:Nat)(xs:List Vm.V),p'≤L.length→xs.length≤1000001→(∀x∈xs,Exs x)→StR L q (K (.tup [rdV L p' 20 q,.list xs]))):OutR L lo r (cl0 pr.ev 154 [rdV L p 0 0] Kp K):=by
 rcases Ex.thenL_some hr with⟨e,q,h1,h2⟩|⟨q,h1,rfl⟩
 ·rcases h m p _ hm hp h1 with⟨l,q',h3,h4,h5,h6,h7,h8⟩|⟨l,q',h3,_⟩|⟨p',q',xs,h3,_⟩
  ·cases h3;rw[zaa h8];exact hk _ q' (by omega) h5 h6 h7 h2
  ·cases h3
  ·cases h3
 ·rcases h m p _ hm hp h1 with⟨l,q',h3,_⟩|⟨l,q',h3,h4,h5,h6,h7⟩|⟨p',q',xs,h3,h4,h5,h6,h7⟩
  ·cases h3
  ·cases h3;rw[zaa h7];exact .inr ⟨q,rfl,hs1 l q h4 h5 h6⟩
  ·cases h3;rw[zaa h7];exact .inr ⟨q,rfl,hs2 p' q xs h4 h5 h6⟩
end
end
section
open Go.RowKit
open Vm
variable[Gl]
section
variable{L:List Lx.TA}{n:Nat}
theorem zsK(hL:L.length≤999999)(h:LvR L n)(hls:LsR L n)(m p:Nat)(r:Ex.R)(hm:m≤n+1)(hp:p≤L.length)(hr:Ex.run (L.map (·.1)) m (.lev 3) p=some r):OutR L (p+1) r (pr.ev 136 [rdV L p 0 0] []):=by
 cases m with
 |zero=>cases hr
 |succ m=>
 rw[Ex.run]at hr;simp only[Ex.wIs,Ex.wNot,Ex.wIn,Ex.zdl,Ex.zjD,Ex.wAnd,Ex.zea]at hr;refine OutR.of ?_ fun z hz=>pr.of rfl rfl rfl (zjs _ _ _ _) hz;simp only[zfv,zcR,za2,zbE];refine h.go (k:=4) (by omega) (by omega) hp rfl hr (fun a q h1 h2 hr=>?_) fun p' q x hx hp'=>?_;rotate_left
 ·have hone:=zmE p' 20 q 4 Ex.cmps hL hp' (by decide);simp only[Ex.cmps,List.map,if_neg (show ¬(20:Int)=0 by decide)]at hone;simp[-Int.natCast_add,hx.ck,hx.ag,hx.nm,zaa hone,word_b hL hp',zaG,zbq,rtn];exact StR.mk hx hp'
 have hone:=zmE q 0 0 4 Ex.cmps hL h2 (by decide);simp only[Ex.cmps,List.map,qa60]at hone hr;simp only[ze2,qa12,qa13,qa31,zcR,za2,zbE,za0,zdy,zbw,zaa hone];cases ho:Ex.zet (L.map (·.1)) q 4 [[61],[60,62],[60],[60,61],[62],[62,61]]with
 |some op=>
  rw[ho]at hr;have hlt:q<L.length:=by simpa using(Ex.zcl ho).1
  have hop:op≠[]:=fun he=>by
   have h3:=(Ex.zcl ho).2.2;rw[he]at h3;revert h3;decide
  have e1:b0 .neq (.str ((some op).getD [])) (.str [])=some (.bool true):=by simp[b0,hop]
  simp only[e1,qa31,zar,qa60,zdG hL h2];refine h.go (k:=4) (by omega) (by omega) (by omega) rfl hr (fun b q2 h3 h4 h5=>?_) fun p' q x hx hp'=>?_
  ·have htw:=r_two op (encE a) (encE b) (zbe a) (zbe b);rw[zrJ]at htw;simp only[ze2,qa12,qa13,qa31,zcR,za2,zbE,za0,zdy,zbw];refine OutR.ag (zdE (Ex.zaI h5) (by omega) h4 ?_);simp[zaa htw,rtn]
  ·have htw:=r_two op (encE a) x (zbe a) hx;simp only[ze2,qa12,qa13,qa31,zcR,za2,zbE,hx.ck,hx.ag,hx.nm];refine StR.ag ?_;simp[zaa htw,rtn,ckA_agg];exact StR.ml rfl rfl rfl (by simp[wfs,wf,hx.wf,zdh]) hp'
 |none=>
  rw[ho]at hr;have e1:b0 .neq (.str ((none:Option (List UInt8)).getD [])) (.str [])=some (.bool false):=rfl;simp only[e1,qa31,zar,qb0,zlx hL h2];have hj3:∀ (nt:Bool) (q2:Nat),q≤q2→q2≤L.length→(if Ex.isT (L.map (·.1)) q2 2 [105,110] then Ex.need (L.map (·.1)) 4 [40] (q2+1) fun q3=>Ex.zkX (Ex.run (L.map (·.1)) m (.list []) q3) fun l r=>Ex.one (Ex.eIn nt (a :: l)) r
      else if Ex.isT (L.map (·.1)) q2 2 [98,101,116,119,101,101,110]then Ex.then1 (Ex.run (L.map (·.1)) m (.lev 4) (q2+1)) fun b r=>Ex.need (L.map (·.1)) 2 [97,110,100] r fun r2=>Ex.then1 (Ex.run (L.map (·.1)) m (.lev 4) r2) fun c r3=>Ex.one (Ex.eBtw nt a b c) r3
      else if Ex.isT (L.map (·.1)) q2 2 [108,105,107,101]then Ex.then1 (Ex.run (L.map (·.1)) m (.lev 4) (q2+1)) fun b r=>Ex.one (Ex.zls nt a b) r
      else Ex.one a q2)=some r→OutR L (p+1) r (zbq pr.ev lup (.bool nt) (rdV L q2 0 0) (encE a)):=fun nt q2 hq hq2 hr=>by
   simp only[zbq,zcR,za2,zbE,za0,zdy,zbw,zlx hL hq2];cases hi:Ex.isT (L.map (·.1)) q2 2 [105,110];rotate_left
   ·have hlt:q2 < L.length:=by simpa using Ex.isT_lt hi
    simp only[hi,qa60]at hr;simp only[zar,qa60,zdG hL hq2];refine zjb hL (by omega) hr (fun hlt2 hr=>?_) ?_
    ·simp only[zcR,za2,zbE];refine hls.go (by omega) (by omega) hr (fun l q4 h5 h6 h7 h8 h9=>?_) (fun l q4 h5 h6 h7=>?_) fun p' q4 xs h5 h6 h7=>?_
     ·have hn:=zoF q4 0 4 [41] hL (by omega);rw[h8,if_pos rfl]at hn;have ha:appV 11 128 (.list [encE a]) (.list (l.map encE))=some (.list ((a::l).map encE)):=by
       rw[zjz _ _ _ _ (by simp[zde]) (by simp;omega)];simp
      refine zdE (Ex.zaI h9) (by omega) (by omega) ?_;rw[←zzD];simp only[qa52]at ha ⊢;simp[-Int.natCast_add,ha,zaa hn,rtn,ckA_agg]
     ·have hn:=zoF q4 0 4 [41] hL h5;rw[h7,if_neg (by simp)]at hn;have ha:appV 11 128 (.list [encE a]) (.list (l.map encE))=some (.list ((a::l).map encE)):=by
       rw[zjz _ _ _ _ (by simp[zde]) (by simp;omega)];simp
      have hwf:=zmN (a::l);generalize(a::l).map encE=xs at ha hwf;simp[-Int.natCast_add,ha,zaa hn,rtn,ckA_agg];exact StR.ml rfl rfl rfl (by simp[wfs,wf,hwf]) h5
     ·have ha:appV 11 128 (.list [encE a]) (.list xs)=some (.list (encE a::xs)):=by
       rw[zjz _ _ _ _ (fun y hy=>(h7 y hy).sz) (by simp;omega)];rfl
      simp[-Int.natCast_add,ha,ziX hL h5,rtn,ckA_agg];exact StR.ml rfl rfl rfl (by simp[wfs,wf,zdh,zbf.2 fun y hy=>(h7 y hy).wf]) h5
    ·have ha:appV 11 128 (.list [encE a]) (.list [encE Ex.e0])=some (.list [encE a,encE Ex.e0]):=by
      rw[zjz _ _ _ _ (by simp[zde]) (by simp)];rfl
     simp[-Int.natCast_add,zaa (r_list_b hL (show q2+1≤L.length by omega)),ziX hL (show q2+1≤L.length by omega),ha,rtn,ckA_agg];exact StR.ml rfl rfl rfl (by simp[wfs,wf,zdh]) (by omega)
   simp only[hi,qb0]at hr;simp only[zar,qb0];cases hi2:Ex.isT (L.map (·.1)) q2 2 [98,101,116,119,101,101,110];rotate_left
   ·have hlt:q2 < L.length:=by simpa using Ex.isT_lt hi2
    simp only[hi2,qa60]at hr;simp only[zar,qa60,zdG hL hq2];refine h.go (k:=4) (by omega) (by omega) (by omega) rfl hr (fun b q4 h5 h6 hr=>?_) fun p' q x hx hp'=>?_
    ·simp only[ze2,qa12,qa13,qa31,zcR,za2,zbE,za0,zdy,zbw];refine zjb hL h6 hr (fun hlt2 hr=>?_) ?_
     ·simp only[zcR,za2,zbE];refine h.go (k:=4) (by omega) (by omega) (by omega) rfl hr (fun c q5 h7 h8 h9=>zdE (Ex.zaI h9) (by omega) h8 ?_) fun p' q x hx hp'=>?_
      ·rw[←zzE];simp[rtn,ckA_agg]
      ·simp[rtn,ckA_agg,hx.ck,hx.ag,hx.nm];exact StR.ml rfl rfl rfl (by simp[wfs,wf,zdh,hx.wf]) hp'
     ·simp[rtn,ckA_agg,zm5];exact StR.ml rfl rfl rfl (by simp[wfs,wf,zdh]) h6
    ·simp[rtn,ckA_agg,zm5,ziX hL hp',hx.ck,hx.ag,hx.nm];exact StR.ml rfl rfl rfl (by simp[wfs,wf,zdh,hx.wf]) hp'
   simp only[hi2,qb0]at hr;simp only[zar,qb0];cases hi3:Ex.isT (L.map (·.1)) q2 2 [108,105,107,101];rotate_left
   ·have hlt:q2 < L.length:=by simpa using Ex.isT_lt hi3
    simp only[hi3,qa60]at hr;simp only[zar,qa60,zdG hL hq2];refine h.go (k:=4) (by omega) (by omega) (by omega) rfl hr (fun b q4 h5 h6 h9=>zdE (Ex.zaI h9) (by omega) h6 ?_) fun p' q x hx hp'=>?_
    ·rw[←zvN];simp[rtn,ckA_agg]
    ·simp[rtn,ckA_agg,hx.ck,hx.ag,hx.nm];exact StR.ml rfl rfl rfl (by simp[wfs,wf,zdh,hx.wf]) hp'
   simp only[hi3,qb0]at hr;exact zdE (Ex.zaI hr) (by omega) hq2 rfl
  have hj2:∀ (nt:Bool),(nt=true→q < L.length)→(if Ex.isT (L.map (·.1)) (if nt then q+1 else q) 2 [105,110] then Ex.need (L.map (·.1)) 4 [40] ((if nt then q+1 else q)+1) fun q3=>Ex.zkX (Ex.run (L.map (·.1)) m (.list []) q3) fun l r=>Ex.one (Ex.eIn nt (a :: l)) r
      else if Ex.isT (L.map (·.1)) (if nt then q+1 else q) 2 [98,101,116,119,101,101,110]then Ex.then1 (Ex.run (L.map (·.1)) m (.lev 4) ((if nt then q+1 else q)+1)) fun b r=>Ex.need (L.map (·.1)) 2 [97,110,100] r fun r2=>Ex.then1 (Ex.run (L.map (·.1)) m (.lev 4) r2) fun c r3=>Ex.one (Ex.eBtw nt a b c) r3
      else if Ex.isT (L.map (·.1)) (if nt then q+1 else q) 2 [108,105,107,101]then Ex.then1 (Ex.run (L.map (·.1)) m (.lev 4) ((if nt then q+1 else q)+1)) fun b r=>Ex.one (Ex.zls nt a b) r
      else Ex.one a (if nt then q+1 else q))=some r→OutR L (p+1) r (zaG pr.ev lup (.bool nt) (rdV L q 0 0) (encE a)):=fun nt hq hr=>by
   have hq':nt=true→q<L.length:=hq;cases nt
   ·simp only[qb0]at hr;simp only[zaG,zar,qb0,za2,zdy];exact hj3 false q (by omega) h2 hr
   ·simp only[qa60]at hr;simp only[zaG,zar,qa60,za2,zbE,zcR,zdy,zdG hL h2];exact hj3 true (q+1) (by omega) (hq' rfl) hr
  have hj1:∀(nt:Bool)(q2:Nat),q≤q2→q2≤L.length→Ex.then1 (Ex.run (L.map (·.1)) m (.lev 4) q2) (fun b r=>Ex.one (Ex.eIs nt a b) r)=some r→OutR L (p+1) r (zb5 pr.ev lup (.bool nt) (rdV L q2 0 0) (encE a)):=fun nt q2 hq hq2 hr=>by
   simp only[zb5,za2,zbE];refine h.go (k:=4) (by omega) (by omega) (by omega) rfl hr (fun b q4 h5 h6 h9=>zdE (Ex.zaI h9) (by omega) h6 ?_) fun p' q x hx hp'=>?_
   ·rw[←zul];simp[rtn,ckA_agg]
   ·simp[rtn,ckA_agg,hx.ck,hx.ag,hx.nm];exact StR.ml rfl rfl rfl (by simp[wfs,wf,zdh,hx.wf]) hp'
  cases hi:Ex.isT (L.map (·.1)) q 2 [105,115]
  ·simp only[hi,qb0]at hr;simp only[zar,qb0];cases hn:Ex.isT (L.map (·.1)) q 2 [110,111,116]
   ·simp only[hn,Bool.false_and]at hr;simp only[zar,qb0];exact hj2 false (by simp) hr
   ·have hlt:q < L.length:=by simpa using Ex.isT_lt hn
    simp only[hn,Bool.true_and]at hr;simp only[zar,qa60,at_r hL h2];cases h3:Ex.isT (L.map (·.1)) (q+1) 2 [105,110]
    ·simp only[h3,Bool.false_or]at hr;simp only[zar,qb0];cases h4:Ex.isT (L.map (·.1)) (q+1) 2 [98,101,116,119,101,101,110]
     ·simp only[h4,Bool.false_or]at hr;simp only[zar,qb0];exact hj2 _ (fun _=>hlt) hr
     ·simp only[h4,Bool.true_or]at hr;simp only[zar,qa60];exact hj2 true (fun _=>hlt) hr
    ·simp only[h3,Bool.true_or]at hr;simp only[zar,qa60];exact hj2 true (fun _=>hlt) hr
  ·have hlt:q < L.length:=by simpa using Ex.isT_lt hi
   simp only[hi,qa60]at hr;simp only[zar,qa60,zdG hL h2,zcR,za2,zbE,zlx hL (show q+1≤L.length by omega)];cases hn:Ex.isT (L.map (·.1)) (q+1) 2 [110,111,116]
   ·simp only[hn,qb0]at hr;simp only[zar,qb0];exact hj1 false (q+1) (by omega) (by omega) hr
   ·have hlt:q+1 < L.length:=by simpa using Ex.isT_lt hn
    simp only[hn,qa60]at hr;simp only[zar,qa60,zdG hL (show q+1≤L.length by omega),zcR,za2];exact hj1 true (q+1+1) (by omega) (by omega) hr
end
end
section
open Go.RowKit
open Vm
variable[Gl]
theorem zg2{Z:Type}{eq:Z→Z→Bool}{z:Z}(h:eq z z=true):agr eq (some z) (some z)=some z:=by simp only[agr,h,qa60]
theorem oeq_t{L:List Lx.TA}{a b w:Int}{x:Vm.V}(h:wf x=true):oeq (.ret (.tup [rdV L a b w,x]),[]) (.ret (.tup [rdV L a b w,x]),[])=true:=by
 have:veq (.tup [rdV L a b w,x]) (.tup [rdV L a b w,x])=true:=zf9 (by simp only[wf,wfs,zrk,h,Bool.and_self]);simp[oeq,eeqs,this]
def zwZ(L:List Lx.TA):Prop:=∀(i:Nat)(t:Lx.TA),L[i]?=some t→t.1.val.1=1→t.1.val.2.2=[]
section
variable{L:List Lx.TA}{n:Nat}
def CalR(L:List Lx.TA)(n:Nat):Prop:=∀m p r op,m≤n→p≤L.length→Ex.callK (L.map (·.1)) m op p=some r→OutR L p r (pr.ev 166 [rdV L p 0 0,.str op] [])
theorem r_call(hL:L.length≤999999)(h:LvR L n)(hls:LsR L n):CalR L n:=fun m p r op hm hp hr=>by
 refine OutR.of ?_ fun z hz=>pr.of rfl rfl rfl (zno _ _ _ _ _) hz;unfold Ex.callK at hr;simp only[Ex.zeR,Ex.zem,Ex.zdf,Ex.zav]at hr;simp only[ziH,zcR,za2,zbE,nm_s,zaa (ztZ op),zgH,qa31];cases hc:Ex.aggs.contains op
 ·simp only[hc,qb0]at hr;simp only[qa50,zar,qa60,zm6 hL hp];cases hi:Ex.isT (L.map (·.1)) p 4 [41]
  ·simp only[hi,qb0]at hr;simp only[zar,qb0];refine hls.go (by omega) hp hr (fun l q4 h5 h6 h7 h8 h9=>?_) (fun l q4 h5 h6 h7=>?_) fun p' q4 xs h5 h6 h7=>?_
   ·have hn:=zoF q4 0 4 [41] hL (by omega);rw[h8,if_pos rfl]at hn;refine zdE (Ex.zaI h9) (by omega) (by omega) ?_;rw[←zvO];simp[-Int.natCast_add,zaa hn,rtn,ckA_agg]
   ·have hn:=zoF q4 0 4 [41] hL h5;rw[h7,if_neg (by simp)]at hn;have hwf:=zmN l;simp[-Int.natCast_add,zaa hn,rtn,ckA_agg];exact StR.ml rfl rfl rfl (by simp[wfs,wf,hwf]) h5
   ·simp[-Int.natCast_add,ziX hL h5,rtn,ckA_agg];exact StR.ml rfl rfl rfl (by simp[wfs,wf,zbf.2 fun y hy=>(h7 y hy).wf]) h5
  ·have hlt:p < L.length:=by simpa using Ex.isT_lt hi
   simp only[hi,qa60]at hr;refine zdE (Ex.zaI hr) (by omega) (by omega) ?_;rw[←zvO];simp[-Int.natCast_add,zdG hL hp,rtn,ckA_agg]
 ·simp only[hc,qa60]at hr;simp only[Bool.not_true,zar,qb0];have hj2:∀(d:Bool)(q:Nat),p≤q→q≤L.length→Ex.then1 (Ex.run (L.map (·.1)) m (.lev 0) q) (fun e q=>Ex.need (L.map (·.1)) 4 [41] q fun r=>Ex.one (Ex.eAgg op d [e]) r)=some r→OutR L p r (zdP pr.ev lup (.str op) (.bool d) (rdV L q 0 0)):=fun d q hq1 hq2 hr=>by
   simp only[zdP,za2,zbE];refine h.go (k:=0) (by omega) (by omega) hq2 rfl hr (fun e q2 h1 h2 hr=>?_) fun p' q x hx hp'=>?_
   ·simp only[ze2,qa12,qa13,qa31,zcR,za2,zbE,za0,zdy,zbw,ztp,ztq];refine zjb hL h2 hr (fun hlt hr=>zdE (Ex.zaI hr) (by omega) (by omega) ?_) ?_
    ·rw[←zrK];simp[rtn,ckA_agg]
    ·simp[rtn,ckA_agg];exact StR.ml rfl rfl rfl (by simp[wfs,wf,zdh]) h2
   ·simp[rtn,ckA_agg,hx.ck,hx.ag,hx.nm,ziX hL hp'];exact StR.ml rfl rfl rfl (by simp[wfs,wf,zdh,hx.wf]) hp'
  have hj:Ex.then1 (Ex.run (L.map (·.1)) m (.lev 0) (if Ex.isT (L.map (·.1)) p 2 [100,105,115,116,105,110,99,116]then p+1 else p)) (fun e q=>Ex.need (L.map (·.1)) 4 [41] q fun r=>Ex.one (Ex.eAgg op (Ex.isT (L.map (·.1)) p 2 [100,105,115,116,105,110,99,116]) [e]) r)=some r →
    OutR L p r (zcX pr.ev lup (.str op) (.bool false) (rdV L p 0 0)):=fun hr=>by
   simp only[zcX,zar,qb0,za2,zbE,zlx hL hp];cases hi:Ex.isT (L.map (·.1)) p 2 [100,105,115,116,105,110,99,116]
   ·simp only[hi,qb0]at hr;simp only[zar,qb0];exact hj2 false p (by omega) hp hr
   ·have hlt:p < L.length:=by simpa using Ex.isT_lt hi
    simp only[hi,qa60]at hr;simp only[zar,qa60,zdG hL hp,zcR,za2];exact hj2 true (p+1) (by omega) (by omega) hr
  by_cases ho:op=[99,111,117,110,116]
  ·subst ho;simp only[beq_self_eq_true,Bool.true_and]at hr;simp only[show b0 .eql (.str [99,111,117,110,116]) (.str [99,111,117,110,116])=some (.bool true)from rfl,qa31,zar,qa60,zm6 hL hp];cases hi:Ex.isT (L.map (·.1)) p 4 [42]
   ·simp only[hi,qb0]at hr;exact hj hr
   ·have hlt:p < L.length:=by simpa using Ex.isT_lt hi
    simp only[hi,qa60]at hr;simp only[zcX,zar,qa60,za2,zbE,zdG hL hp];refine zjb hL (by omega) hr (fun hlt hr=>zdE (Ex.zaI hr) (by omega) (by omega) ?_) ?_
    ·rw[←zrK];simp[rtn,ckA_agg]
    ·simp[rtn,ckA_agg];exact StR.ml rfl rfl rfl (by simp[wfs,wf]) (show p+1≤L.length by omega)
  ·have hb:(op == [99,111,117,110,116])=false:=by simpa using ho
   simp only[hb,Bool.false_and,qb0]at hr;simp only[show b0 .eql (.str op) (.str [99,111,117,110,116])=some (.bool (op==[99,111,117,110,116]))from rfl,hb,qa31,zar,qb0];exact hj hr
def LoR(L:List Lx.TA)(f:FuncId)(k:List Lx.T→Nat→Nat→Option Ex.R)(n:Nat):Prop:=∀m p r,m≤n→p≤L.length→k (L.map (·.1)) m p=some r→OutR L p r (pr.ev f [rdV L p 0 0] [])
theorem e0_v:Vm.V.agg [.int .i64 0,.str [],.int .i64 0,.int .i64 0,.str [],.str [],.str [],.int .i64 0,.bool false,.bool false,.list []]=encE Ex.e0:=by rw[Ex.e0,enc_mk];rfl
theorem r_cast(hL:L.length≤999999)(hT:zmW L)(h:LvR L n):LoR L 165 Ex.zpf n:=fun m p r hm hp hr=>by
 refine OutR.of ?_ fun z hz=>pr.of rfl rfl rfl (znn _ _ _ _) hz;unfold Ex.zpf at hr;simp only[Ex.zea,Ex.zdf,Ex.wAs]at hr;simp only[ziG,zcR,za2,zbE];have hb20:b0 .neq (.int .i64 20) (.int .i64 0)=some (.bool true):=rfl;refine zjb hL hp hr (fun hlt hr=>?_) ?_;rotate_left
 ·simp[zm5,ziX hL hp,rtn];exact StR.ml rfl rfl rfl rfl hp
 refine h.go (k:=0) (by omega) (by omega) (by omega) rfl hr (fun e q h1 h2 hr=>?_) fun p' q x hx hp'=>?_;rotate_left
 ·simp[rtn,hx.ck,ziX hL hp'];exact StR.ml rfl rfl rfl rfl hp'
 simp only[ze2,qa12,qa13,qa31,zcR,za2,zbE,za0];refine zjb hL h2 hr (fun hlt2 hr=>?_) ?_;rotate_left
 ·simp[rtn];exact StR.ml rfl rfl rfl rfl h2
 have hq1:q+1≤L.length:=by omega
 simp only[zcR,za2,zbE,rd_2,show b0 .neq (.int .i64 0) (.int .i64 0)=some (.bool false)from rfl,qa31,zar,qb0,zvB hL,zdy,zgH];have hj0:r=.stop (q+1)→OutR L p r (zb3 pr.ev lup (.bool true) (rdV L ((q+1:Nat):Int) 0 0) (encE e)):=fun hr=>by
  refine .inr ⟨q+1,hr, ?_⟩;simp[-Int.natCast_add,zb3,zaa (zsJ (L:=L) (q+1) 0 hq1),rtn];exact StR.ml rfl rfl rfl rfl hq1
 cases ht:L[q+1]? with
 |none=>
  simp only[qa24,ht,Option.map_none]at hr;have k1:∀k,Ex.isK (L.map (·.1)) (q+1) k=false:=fun k=>by simp[Ex.isK,ht]
  simp only[k1,qa50,zar,qa60];exact hj0 (by cases hr;rfl)
 |some t=>
  have hlt3:q+1<L.length:=(qa9.1 ht).1;simp only[qa24,ht,qa46]at hr;have k1:∀k,Ex.isK (L.map (·.1)) (q+1) k=decide (t.1.kind=k):=fun k=>by simp[Ex.isK,ht]
  have el:elV 6 (.list (L.map tokM)) (.int .i64 ((q+1:Nat):Int))=some (tokM t):=by rw[zfr,ht];rfl
  have e1:ldV false 1 (tokM t) 1=some (.str t.1.text):=rfl;have hfo:=zrG (hT _ _ ht);have hj1:((if Ex.zks.contains (Lx.fold t.1.text)then Ex.need (L.map (·.1)) 4 [41] (q+1+1) fun r3=>Ex.one (Ex.zmP (Lx.fold t.1.text) e) r3 else some (.stop (q+1)))=some r)→OutR L p r (zb3 pr.ev lup (.bool false) (rdV L ((q+1:Nat):Int) 0 0) (encE e)):=fun hr=>by
   have hj2:∀b,b=!Ex.zks.contains (Lx.fold t.1.text)→OutR L p r (zb2 pr.ev lup (.str (Lx.fold t.1.text)) (.bool b) (rdV L ((q+1:Nat):Int) 0 0) (encE e)):=fun b hb=>by
    have hb2:Ex.zks.contains (Lx.fold t.1.text)=!b:=by rw[hb,Bool.not_not]
    rw[hb2]at hr;cases b
    ·simp only[qa50,qa60]at hr;simp only[zb2,zar,qb0,zdy,zbw,za0,ztp,za2,zbE,zdG hL hq1];refine zjb hL (by omega) hr (fun hlt hr=>zdE (Ex.zaI hr) (by omega) (by omega) ?_) ?_
     ·rw[←zvP];simp[rtn,ckA_agg]
     ·simp[rtn,ckA_agg];exact StR.ml rfl rfl rfl (by simp[wfs,wf,zdh]) (show q+1+1≤L.length by omega)
    ·simp only[Bool.not_true,qb0]at hr;refine .inr ⟨q+1,by cases hr;rfl, ?_⟩;simp[-Int.natCast_add,zb2,zaa (zsJ (L:=L) (q+1) 0 hq1),rtn];exact StR.ml rfl rfl rfl rfl hq1
   simp only[zb3,zar,qb0,rd_0,rd_1,el,e1,qa31,nm_s,zaa hfo,za2,zdy];by_cases k1:Lx.fold t.1.text=[105,110,116]
   ·simpa[k1]using hj2 false (by simp[k1,Ex.zks])
   by_cases k2:Lx.fold t.1.text=[116,101,120,116]
   ·simpa[k2]using hj2 false (by simp[k2,Ex.zks])
   have:=hj2 (!(Lx.fold t.1.text==[98,108,111,98])) (by rw[Bool.eq_iff_iff];simp[k1,k2,Ex.zks]);simpa[k1,k2]using this
  simp only[k1];by_cases k2:t.1.kind=2
  ·simp only[k2,decide_true,Bool.true_or,Bool.true_and]at hr;simp only[k2,decide_true,Bool.not_true,zar,qb0];exact hj1 hr
  ·by_cases k3:t.1.kind=1
   ·simp only[k3,decide_true,Bool.or_true,Bool.true_and]at hr;simp only[k3,decide_true,Bool.not_true,zar,qa60,show decide ((1:Int)=2)=false from rfl,qa50];exact hj1 hr
   ·simp only[k2,k3,decide_false,Bool.or_false,Bool.false_and,qb0]at hr;simp only[k2,k3,decide_false,qa50,zar,qa60];exact hj0 (by cases hr;rfl)
end
end
section
open Go.RowKit
open Vm
variable[Gl]
section
variable{L:List Lx.TA}{n:Nat}
def PlR(L:List Lx.TA)(n:Nat):Prop:=∀m p r,m≤n→p≤L.length→Ex.run (L.map (·.1)) m (.lev 8) p=some r→OutR L (p+1) r (pr.ev 156 [rdV L p 0 0] [])
theorem OutR.pass{lo lo':Nat}{r:Ex.R}{f:FuncId}{a:List Vm.V}{Kp K:Vm.V→Option Out}(h:OutR L lo' r (pr.ev f a []))(hlo:lo≤lo')(hs:∀(p':Nat)(b q:Int) x,Exs x→K (.tup [rdV L p' b q,x])=some (.ret (.tup [rdV L p' b q,x]),[])):OutR L lo r (cl0 pr.ev f a Kp K):=by
 rcases h with⟨e,q,rfl,h4,h5,h6⟩|⟨q,rfl,p',x,h4,h5,h6⟩
 ·rw[zaa h6];exact .inl ⟨e,q,rfl,by omega,h5,hs q 0 0 _ (zbe e)⟩
 ·rw[zaa h4];exact .inr ⟨q,rfl,p',x,hs p' 20 q x h5,h5,h6⟩
theorem isT_tok{p:Nat}{k:Int}{s:List UInt8}(h:Ex.isT (L.map (·.1)) p k s=true):∃t,L[p]?=some t∧t.1.text=s:=by
 cases ht:L[p]? with
 |none=>simp[Ex.isT,ht]at h
 |some t=>simp[Ex.isT,ht]at h;exact⟨t,rfl,h.2⟩
theorem r_signed(hL:L.length≤999999)(hT:∀(i:Nat)(t:Lx.TA),L[i]?=some t→-9223372036854775807≤t.1.val.2.1∧t.1.val.2.1≤9223372036854775807)(hG:zwZ L)(h:LvR L n)(h8:PlR L n)(m p:Nat)(r:Ex.R)(hm:m≤n+1)(hp:p≤L.length)(hr:Ex.run (L.map (·.1)) m (.lev 7) p=some r):OutR L (p+1) r (pr.ev 137 [rdV L p 0 0] []):=by
 cases m with
 |zero=>cases hr
 |succ m=>
 rw[Ex.run]at hr;simp only[Ex.zfm,Ex.zjY]at hr;refine OutR.of ?_ fun z hz=>pr.of rfl rfl rfl (zlD _ _ _ _) hz;simp only[zhf,zcR,za2,zbE,zm6 hL hp,zgH,qa31];have hjN:Ex.run (L.map (·.1)) m (.lev 8) p=some r→OutR L (p+1) r (zby pr.ev lup (.bool true) (rdV L p 0 0)):=fun hr=>by
  simp only[zby,zar,qa60,za2,zbE];refine(h8 m p r (by omega) hp hr).pass (qa57 _) fun p' b q x hx=>?_;simp[hx.ck,hx.ag,hx.nm,rtn]
 have hj2:∀op,p<L.length→Ex.then1 (Ex.run (L.map (·.1)) m (.lev 7) (p+1)) (fun e q=>Ex.one (Ex.eUn op e) q)=some r→OutR L (p+1) r (zbx pr.ev lup (.str op) (.bool false) (rdV L ((p+1:Nat):Int) 0 0)):=fun op hlt hr=>by
  simp only[zbx,zar,qb0,za2,zbE];refine h.go (k:=7) (by omega) (by omega) (by omega) rfl hr (fun e q h1 h2 h3=>zdE (Ex.zaI h3) (by omega) h2 ?_) fun p' q x hx hp'=>?_
  ·rw[←zvM];simp[rtn,ckA_agg]
  ·simp[hx.ck,hx.ag,hx.nm,rtn,ckA_agg];exact StR.ml rfl rfl rfl (by simp[wfs,wf,hx.wf]) hp'
 have hjY:∀ op,(op=[45]∨op=[43])→Ex.isT (L.map (·.1)) p 4 op=true→(match (L.map (·.1))[p+1]? with
   |some t=>if op==[45] && decide (t.kind=3) && decide (t.val.1=1)then Ex.one (Ex.eVal (t.val.1, -t.val.2.1,t.val.2.2)) (p+2)else Ex.then1 (Ex.run (L.map (·.1)) m (.lev 7) (p+1)) fun e q=>Ex.one (Ex.eUn op e) q
   |none=>Ex.then1 (Ex.run (L.map (·.1)) m (.lev 7) (p+1)) fun e q=>Ex.one (Ex.eUn op e) q)=some r→OutR L (p+1) r (zby pr.ev lup (.bool false) (rdV L p 0 0)):=fun op hop ht hr=>by
  have hlt:p<L.length:=by simpa using Ex.isT_lt ht
  obtain⟨t0,ht0,hx0⟩:=isT_tok ht;have el0:elV 6 (.list (L.map tokM)) (.int .i64 (p:Int))=some (tokM t0):=by rw[zfr,ht0];rfl
  have e0:ldV false 1 (tokM t0) 1=some (.str op):=by rw[tok_1,hx0]
  simp only[zby,zar,qb0,rd_0,rd_1,el0,e0,qa31,za2,zbE,zdG hL hp,zcR,zvB hL];cases ht1:L[p+1]? with
  |none=>
   have k1:Ex.isK (L.map (·.1)) (p+1) 3=false:=by simp[Ex.isK,ht1]
   simp only[qa24,ht1,Option.map_none]at hr;have:=hj2 op hlt hr;rcases hop with rfl|rfl
   ·simpa[-Int.natCast_add,k1]using this
   ·simpa[-Int.natCast_add]using this
  |some t=>
   have hlt2:p+1<L.length:=(qa9.1 ht1).1;have el:elV 6 (.list (L.map tokM)) (.int .i64 ((p+1:Nat):Int))=some (tokM t):=by rw[zfr,ht1];rfl
   have k1:Ex.isK (L.map (·.1)) (p+1) 3=decide (t.1.kind=3):=by simp[Ex.isK,ht1]
   have e2:ldV false 1 (tokM t) 2=some (.int .i64 t.1.val.1):=rfl;simp only[qa24,ht1,qa46]at hr;by_cases hc:op=[45]∧t.1.kind=3∧t.1.val.1=1
   ·obtain⟨rfl,hk,hv⟩:=hc;have hg:=hG _ _ ht1 hv;simp only[hk,hv,hg,beq_self_eq_true,decide_true,Bool.and_self,qa60]at hr;have hb:=hT _ _ ht1;have hw:IntKind.wrap .i64 (0-t.1.val.2.1)=-t.1.val.2.1:=by rw[zcd (by omega) (by omega)];omega
    have e3:ldV false 1 (tokM t) 3=some (.int .i64 t.1.val.2.1):=rfl;have e4:zgj .neg (.int .i64 t.1.val.2.1)=some (.int .i64 (-t.1.val.2.1)):=by simp only[zgj,hw]
    refine zdE (Ex.zaI hr) (by omega) (by omega) ?_;have hwf:∀{a b w:Int},oeq (.ret (.tup [rdV L a b w,encE (Ex.eVal (1, -t.1.val.2.1,[]))]),[]) (.ret (.tup [rdV L a b w,encE (Ex.eVal (1, -t.1.val.2.1,[]))]),[])=true:=oeq_t (zdh _);rw[←zo7]at hwf ⊢;simp[-Int.natCast_add,k1,hk,el,e2,hv,zbx, -zfr,zdG hL (show p+1≤L.length by omega),e3,e4,ckA_agg,rtn,ag,zg2,hwf]
   ·have hr2:Ex.then1 (Ex.run (L.map (·.1)) m (.lev 7) (p+1)) (fun e q=>Ex.one (Ex.eUn op e) q)=some r:=by
     have hcb:(op==[45] && decide (t.1.kind=3) && decide (t.1.val.1=1))=false:=by
      rw[Bool.eq_false_iff];intro h;simp at h;exact hc ⟨h.1.1,h.1.2,h.2⟩
     simpa only[hcb,qb0]using hr
    have:=hj2 op hlt hr2;rcases hop with rfl|rfl
    ·by_cases hk:t.1.kind=3
     ·have hv:¬t.1.val.1=1:=fun hv=>hc ⟨rfl,hk,hv⟩;simpa[-Int.natCast_add, -zfr,k1,hk,el,e2,show(t.1.val.1==1)=false from by simpa using hv]using this
     ·simpa[-Int.natCast_add,k1,hk]using this
    ·simpa[-Int.natCast_add]using this
 cases h1:Ex.isT (L.map (·.1)) p 4 [45]
 ·simp only[qa50,zar,qa60];cases h2:Ex.isT (L.map (·.1)) p 4 [43]
  ·simp only[Ex.zet,h1,h2,qb0]at hr;exact hjN hr
  ·simp only[Ex.zet,h1,h2,qb0,qa60]at hr;exact hjY [43] (.inr rfl) h2 hr
 ·simp only[Bool.not_true,zar,qb0];simp only[Ex.zet,h1,qa60]at hr;exact hjY [45] (.inl rfl) h1 hr
theorem r_plain(hL:L.length≤999999)(hT:zmW L)(h:LvR L n)(hcl:CalR L n)(hca:LoR L 164 Ex.zj4 n)(hct:LoR L 165 Ex.zpf n):PlR L (n+1):=fun m p r hm hp hr=>by
 cases m with
 |zero=>cases hr
 |succ m=>
 rw[Ex.zjR]at hr;simp only[Ex.zqG,Ex.wCase,Ex.zly,Ex.zea,Ex.zdf]at hr;refine OutR.of ?_ fun z hz=>pr.of rfl rfl rfl (zmm _ _ _ _) hz;simp only[zh1,zcR,za2,zbE,zvB hL,zlx hL hp,zm6 hL hp];have hfail:r=.stop p→∀(K:Vm.V→Option Out),(∀v,K v=ckA 4 v (rtn (.tup [(norm1 (agN 4 v)),encE Ex.e0]) []))→∀Kp,OutR L (p+1) r (cl0 pr.ev 163 [rdV L p 0 0] Kp K):=fun hr K hK Kp=>by
  refine .inr ⟨p,hr, ?_⟩;rw[zaa (zsJ (L:=L) p 0 hp),hK];simp only[zcR,za2,zbE,rtn];exact StR.mk (zbe _) hp
 cases ht:L[p]? with
 |none=>
  simp only[qa24,ht,Option.map_none]at hr;have k1:∀k,Ex.isK (L.map (·.1)) p k=false:=fun k=>by simp[Ex.isK,ht]
  have k2:∀k s,Ex.isT (L.map (·.1)) p k s=false:=fun k s=>by simp[Ex.isT,ht]
  simp only[k1,k2,zar,qb0,zgH,qa31,qa50,qa60];exact hfail (by cases hr;rfl) _ (fun v=>by rw[e0_v]) _
 |some t=>
  have hlt:p<L.length:=(qa9.1 ht).1;have el:elV 6 (.list (L.map tokM)) (.int .i64 (p:Int))=some (tokM t):=by rw[zfr,ht];rfl
  simp only[qa24,ht,qa46]at hr;have k1:∀k,Ex.isK (L.map (·.1)) p k=decide (t.1.kind=k):=fun k=>by simp[Ex.isK,ht]
  have e1:ldV false 1 (tokM t) 1=some (.str t.1.text):=rfl;simp only[k1];by_cases c3:t.1.kind=3
  ·simp only[c3,qa60]at hr;have e3:ldV true 3 (tokM t) 2=some (.agg [.int .i64 t.1.val.1,.int .i64 t.1.val.2.1,.str t.1.val.2.2]):=rfl;refine zdE (Ex.zaI hr) (by omega) (by omega) ?_;have hwf:∀{a b w:Int},oeq (.ret (.tup [rdV L a b w,encE (Ex.eVal t.1.val)]),[]) (.ret (.tup [rdV L a b w,encE (Ex.eVal t.1.val)]),[])=true:=oeq_t (zdh _);rw[←zo7]at hwf ⊢;simp[-Int.natCast_add, -zfr,c3,el,e3,zdG hL hp,ckA_agg,rtn,ag,zg2,hwf]
  simp only[c3,qa59]at hr;simp only[c3,decide_false,zar,qb0];by_cases c1:t.1.kind=1
  ·have k2:∀ s,Ex.isT (L.map (·.1)) p 2 s=false:=fun s=>by simp [Ex.isT,ht,c1]
   have k4:∀s,Ex.isT (L.map (·.1)) p 4 s=false:=fun s=>by simp[Ex.isT,ht,c1]
   simp only[c1,qa60]at hr;have hp1:p+1≤L.length:=hlt;simp only[c1,k2,k4,decide_true,zar,qb0,zgH,qa31,Bool.not_true,rd_0,rd_1,el,e1,zdG hL hp,zcR,za2,zbE,zm6 hL hp1];unfold Ex.zoL at hr;simp only[Ex.mDot,Ex.zea]at hr;cases hd:Ex.isT (L.map (·.1)) (p+1) 4 [46]
   ·simp only[hd,qb0]at hr;simp only[zar,qb0];cases ho:Ex.isT (L.map (·.1)) (p+1) 4 [40]
    ·simp only[ho,qb0]at hr;refine zdE (Ex.zaI hr) (by omega) (by omega) ?_;rw[←zrI];simp[-Int.natCast_add,rtn,ckA_agg]
    ·have hlt2:p+1 < L.length:=by simpa using Ex.isT_lt ho
     simp only[ho,qa60]at hr;simp only[zar,qa60,zdG hL hp1,zbE,nm_s,zaa (zrG (hT _ _ ht))];refine(hcl m (p+1+1) r _ (by omega) (by omega) hr).pass (by omega) fun p' b q x hx=>?_;simp[hx.ck,hx.ag,hx.nm,rtn]
   ·have hlt2:p+1 < L.length:=by simpa using Ex.isT_lt hd
    simp only[hd,qa60]at hr;simp only[zar,qa60,zdG hL hp1,zbE,zcR,za2,zvB hL,zgH,qa31];have hp2:p+1+1≤L.length:=hlt2;have hstop:r=.stop (p+1+1)→OutR L (p+1) r (cl0 pr.ev 163 [rdV L ((p+1+1:Nat):Int) 0 0] (fun w=>pnk w []) fun v25=>ckA 4 v25<|rtn (.tup [(norm1 (agN 4 v25)),(.agg [(.int .i64 0),(.str []),(.int .i64 0),(.int .i64 0),(.str []),(.str []),(.str []),(.int .i64 0),(.bool false),(.bool false),(.list [])])]) []):=fun hr=>by
     refine .inr ⟨p+1+1,hr, ?_⟩;rw[zaa (zsJ (L:=L) (p+1+1) 0 hp2),e0_v];simp only[zcR,za2,zbE,rtn];exact StR.mk (zbe _) hp2
    cases ht2:L[p+1+1]? with
    |none=>
     have k3:Ex.isK (L.map (·.1)) (p+1+1) 1=false:=by simp[Ex.isK,ht2]
     simp only[qa24,ht2,Option.map_none]at hr;simp only[k3,qa50,zar,qa60];exact hstop (by cases hr;rfl)
    |some u=>
     have k3:Ex.isK (L.map (·.1)) (p+1+1) 1=decide (u.1.kind=1):=by simp[Ex.isK,ht2]
     simp only[qa24,ht2,qa46]at hr;by_cases cu:u.1.kind=1
     ·have hlt3:p+1+1<L.length:=(qa9.1 ht2).1;have el2:elV 6 (.list (L.map tokM)) (.int .i64 ((p+1+1:Nat):Int))=some (tokM u):=by rw[zfr,ht2];rfl
      have e2:ldV false 1 (tokM u) 1=some (.str u.1.text):=rfl;simp only[cu,qa60]at hr;refine zdE (Ex.zaI hr) (by omega) (by omega) ?_;have hwf:∀{a b w:Int},oeq (.ret (.tup [rdV L a b w,encE (Ex.eCol t.1.text u.1.text)]),[]) (.ret (.tup [rdV L a b w,encE (Ex.eCol t.1.text u.1.text)]),[])=true:=oeq_t (zdh _);rw[←zrI]at hwf ⊢;simp[-Int.natCast_add, -zfr,k3,cu,el2,e2,zdG hL hp2,ckA_agg,rtn,ag,zg2,hwf]
     ·simp only[cu,qa59]at hr;simp only[k3,cu,decide_false,qa50,zar,qa60];exact hstop (by cases hr;rfl)
  ·have c1':decide (t.1.kind=1)=false:=by simpa using c1
   simp only[c1,qa59]at hr;simp only[c1',zgH,qa31,qa50];cases hi:Ex.isT (L.map (·.1)) p 2 [110,117,108,108];rotate_left
   ·simp only[hi,qa60]at hr;refine zdE (Ex.zaI hr) (by omega) (by omega) ?_;rw[←zo7];simp[-Int.natCast_add,zdG hL hp,rtn,Ex.v0]
   simp only[hi,qb0]at hr;simp only[zar,qb0];cases hi:Ex.isT (L.map (·.1)) p 2 [99,97,115,101];rotate_left
   ·simp only[hi,qa60]at hr;simp only[zar,qa60,zdG hL hp,zbE];refine(hca m (p+1) r (by omega) (by omega) hr).pass (by omega) fun p' b q x hx=>?_;simp[hx.ck,hx.ag,hx.nm,rtn]
   simp only[hi,qb0]at hr;simp only[zar,qb0];cases hi:Ex.isT (L.map (·.1)) p 2 [99,97,115,116];rotate_left
   ·simp only[hi,qa60]at hr;simp only[zar,qa60,zdG hL hp,zbE];refine(hct m (p+1) r (by omega) (by omega) hr).pass (by omega) fun p' b q x hx=>?_;simp[hx.ck,hx.ag,hx.nm,rtn]
   simp only[hi,qb0]at hr;simp only[zar,qb0];cases hi:Ex.isT (L.map (·.1)) p 4 [40];rotate_left
   ·simp only[hi,qa60]at hr;simp only[zar,qa60,zdG hL hp,zbE];refine h.go (k:=0) (by omega) (by omega) (by omega) rfl hr (fun e q h1 h2 hr=>?_) fun p' q x hx hp'=>?_
    ·simp only[ze2,qa12,qa13,qa31,zcR,za2,zbE,za0,zdy,zbw];refine zjb hL h2 hr (fun hlt hr=>zdE (Ex.zaI hr) (by omega) (by omega) ?_) ?_
     ·simp[rtn]
     ·simp[rtn];exact StR.mk (zbe _) h2
    ·simp[hx.ck,hx.ag,hx.nm,ziX hL hp',rtn];exact StR.mk hx hp'
   simp only[hi,qb0]at hr;simp only[zar,qb0,qa60];exact hfail (by cases hr;rfl) _ (fun v=>by rw[e0_v]) _
end
end
section
open Go.RowKit
open Vm
variable[Gl]
def csE(d:Bool)(av:Vm.V):Vm.V:=.agg [.int .i64 9,.str [],.int .i64 0,.int .i64 0,.str [],.str [],.str [],.int .i64 0,.bool false,.bool d,av]
theorem zrM{d:Bool}{xs:List Vm.V}(h:wfs xs=true):Exs (csE d (.list xs)):=⟨_,rfl,rfl,rfl,rfl,by simp[wfs,wf,h]⟩
section
variable{L:List Lx.TA}{n:Nat}
theorem ztg{d:Bool}{av:Vm.V}:agN 11 (csE d av)=csE d av:=agN_agg _ _ rfl
theorem zo9{d:Bool}{av:Vm.V}:cell (csE d av) 10=av:=rfl
theorem zux{av:Vm.V}{acc:List Ex.E}(h:accV av acc)(h1:acc.length≤2000000):appV 11 128 (.list []) av=some (.list (acc.map encE)):=by
 rcases h with⟨rfl,rfl⟩|rfl
 ·rfl
 ·rw[zjz _ _ _ _ (by simp[zde]) (by simp;omega)];rfl
theorem app_nil{xs:List Vm.V}(h:∀x∈xs,x.size=11)(h1:xs.length≤2000000):appV 11 128 (.list []) (.list xs)=some (.list xs):=by
 rw[zjz _ _ _ _ h (by simp;omega)];rfl
theorem zzw{p':Nat}{q:Int}{d:Bool}{xs:List Vm.V}(hL:L.length≤999999)(hp:p'≤L.length)(h:wfs xs=true):lup Out (zam pr.ev lup) [.bool false,rdV L p' 20 q,zR0,zE0,csE d (.list xs)]=some (.ret (.tup [rdV L p' 20 q,csE d (.list xs)]),[]):=by
 rw[zan];have hx:=zrM (d:=d) h;simp only[zam,gt_0,gt_s,zar,qb0,za2,zbE,word_b hL hp,ztg,zlA,zez,zbO,ziX hL hp,zcR];show ckA 11 (csE d (.list xs)) (rtn (.tup [rdV L p' 20 q,norm1 (csE d (.list xs))]) [])=_;rw[hx.ck,hx.nm];rfl
theorem tailR(hL:L.length≤999999)(h:LvR L n){m p:Nat}{d:Bool}{acc:List Ex.E}{r:Ex.R}(hm:m≤n)(hp:p≤L.length)(hl:acc.length≤1000000)(hr:Ex.zsd (L.map (·.1)) m d acc p=some r)(hw:Ex.isT (L.map (·.1)) p 2 [119,104,101,110]=false):
  OutR L p r (lup Out (zam pr.ev lup) [.bool false,rdV L p 0 0,zR0,zE0,csE d (.list (acc.map encE))]):=by
 have hj3:∀(acc:List Ex.E)(q:Nat),p≤q→q≤L.length→Ex.need (L.map (·.1)) 2 [101,110,100] q (fun r3=>Ex.one (Ex.eCase d acc) r3)=some r→OutR L p r (zbO pr.ev lup (rdV L q 0 0) (.int .i64 9) (.str []) (.int .i64 0) (.int .i64 0) (.str []) (.str []) (.str []) (.int .i64 0) (.bool false) (.bool d) (.list (acc.map encE))):=fun acc q hq1 hq2 hr=>by
  simp only[zbO,za2,zbE];refine zjb hL hq2 hr (fun hlt hr=>zdE (Ex.zaI hr) (by omega) (by omega) ?_) ?_
  ·rw[←zvQ];simp[rtn,ckA_agg]
  ·have hwf:=zmN acc;simp[rtn,ckA_agg];exact StR.ml rfl rfl rfl (by simp[wfs,wf,hwf]) hq2
 unfold Ex.zsd at hr;simp only[Ex.zkW,Ex.wEnd]at hr;rw[zan];simp only[zam,gt_0,gt_s,zar,qb0,za2,zbE,zlx hL hp,hw,ztg,zlA,zez];cases hi:Ex.isT (L.map (·.1)) p 2 [101,108,115,101]
 ·simp only[hi,qb0]at hr;simp only[zar,qb0];exact hj3 _ p (by omega) hp hr
 ·have hlt:p < L.length:=by simpa using Ex.isT_lt hi
  simp only[hi,qa60]at hr;simp only[zar,qa60,zdG hL hp,zbE,zo9];refine h.go (k:=0) (by omega) (by omega) (by omega) rfl hr (fun c q h1 h2 hr=>?_) fun p' q x hx hp'=>?_
  ·have ha:appV 11 128 (.list (acc.map encE)) (.list [encE c])=some (.list ((acc++[c]).map encE)):=zrW (.inr rfl) (l:=[c]) (by simp;omega);simp only[ze2,qa12,qa13,qa31,zcR,za2,zbE,za0,zdy,zbw,zux (.inr rfl) (show acc.length≤2000000 by omega),ha];exact hj3 _ q (by omega) h2 hr
  ·have ha:appV 11 128 (.list (acc.map encE)) (.list [x])=some (.list (acc.map encE++[x])):=by
    rw[zjz _ _ _ _ (by simp[hx.sz]) (by simp;omega)]
   have hwf:wfs (acc.map encE++[x])=true:=zbf.2 fun v hv=>by
    rcases qa47.1 hv with hv|hv
    ·exact zbf.1 (zmN acc) v hv
    ·rw[qa22.1 hv];exact hx.wf
   have hc:=zrM (d:=d) hwf;simp only[ze2,qa12,qa13,qa31,zcR,za2,zbE,hx.ck,hx.ag,hx.nm,zux (.inr rfl) (show acc.length≤2000000 by omega),ha,zbO,ziX hL hp'];show StR L q (ckA 11 (csE d (.list (acc.map encE++[x]))) (rtn (.tup [rdV L p' 20 q,norm1 (csE d (.list (acc.map encE++[x])))]) []));rw[hc.ck,hc.nm];exact StR.mk hc hp'
theorem caR_loop(hL:L.length≤999999)(h:LvR L n):∀(m p:Nat)(d:Bool)(acc:List Ex.E)(av:Vm.V)(r:Ex.R)(first:Bool),m≤n→p≤L.length→accV av acc→acc.length≤p→Ex.run (L.map (·.1)) m (.whens d acc) p=some r→(first=false→Ex.isT (L.map (·.1)) p 2 [119,104,101,110]=true) →
  OutR L p r (lup Out (zam pr.ev lup) [.bool first,rdV L p 0 0,zR0,zE0,csE d av]):=by
 intro m;induction m with
 |zero=>intro p d acc av r first _ _ _ _ hr;cases hr
 |succ m ih=>
  intro p d acc av r first hm hp ha hl hr hf;have z1:agN 4 zR0=zR0:=agN_agg _ _ rfl;have z2:agN 11 zE0=zE0:=agN_agg _ _ rfl;rw[Ex.zjQ]at hr;simp only[Ex.zgb]at hr;have e0:lup Out (zam pr.ev lup) [.bool first,rdV L p 0 0,zR0,zE0,csE d av]=stp (lup Out (zam pr.ev lup)) (zaw pr.ev lup (rdV L p 0 0) zR0 zE0 (csE d av)):=by
   rw[zan];cases first
   ·simp only[zam,gt_0,gt_s,zar,qb0,za2,zbE,zlx hL hp,hf rfl,qa60,ztg,z1,z2]
   ·simp only[zam,gt_0,gt_s,zar,qa60,za2,ztg,z1,z2]
  rw[e0];have hap0:=zux ha (show acc.length≤2000000 by omega);have hap:∀x y:Vm.V,Exs x→Exs y→appV 11 128 (.list (acc.map encE)) (.list [x,y])=some (.list (acc.map encE++[x,y])):=fun x y hx hy=>by
   rw[zjz _ _ _ _ (by simp[hx.sz,hy.sz]) (by simp;omega)]
  have hfl:∀(p' q:Nat)(x y:Vm.V),Exs x→Exs y→p'≤L.length→r=.stop q→zaw pr.ev lup (rdV L p 0 0) zR0 zE0 (csE d av)=some (.next [.bool false,rdV L p' 20 q,zR0,zE0,csE d (.list (acc.map encE++[x,y]))])→OutR L p r (stp (lup Out (zam pr.ev lup)) (zaw pr.ev lup (rdV L p 0 0) zR0 zE0 (csE d av))):=fun p' q x y hx hy hp' hr he=>by
   have hwf:wfs (acc.map encE++[x,y])=true:=zbf.2 fun v hv=>by
    rcases qa47.1 hv with hv|hv
    ·exact zbf.1 (zmN acc) v hv
    ·simp only[qa53,List.mem_nil_iff,or_false]at hv;rcases hv with rfl|rfl
     ·exact hx.wf
     ·exact hy.wf
   rw[he,zce,zzw hL hp' hwf];exact .inr ⟨q,hr,StR.mk (zrM hwf) hp'⟩
  have x0:=zbe Ex.e0;have hw:=zoF p 0 2 [119,104,101,110] hL hp;rcases Ex.need_some hr with⟨g1,g2⟩|⟨g1,rfl⟩;rotate_left
  ·rw [g1,if_neg (by simp)] at hw;refine hfl p p _ _ x0 x0 hp rfl ?_;simp only[zaw,za2,zbE,zaa hw,zm5,ze2,qa12,qa13,qa31,zcR,za0,zdy,zbw,ziX hL hp,zo9,hap0,hap _ _ x0 x0,z1,z2];rfl
  rw[g1,if_pos rfl]at hw;have hlt:p<L.length:=by simpa using Ex.isT_lt g1
  clear hr;unfold Ex.whenK at g2;simp only[Ex.zjC,Ex.zgb]at g2;rcases h.two (k:=0) (by omega) (by omega) (by omega) g2 with⟨a,q,h1,h2,h3,h4⟩|⟨q,rfl,p',x,h4,hx,hp'⟩;rotate_left
  ·have h4:pr.ev 115 [rdV L ((p+1:Nat):Int) 0 0,.int .i64 0] []=some (.ret (.tup [rdV L p' 20 q,x]),[]):=h4;refine hfl p' q _ _ hx x0 hp' rfl ?_;simp only[zaw,za2,zbE,zaa hw,zaa h4,zm5,ze2,qa12,qa13,qa31,zcR,hx.ck,hx.ag,hx.nm,za0,zdy,zbw,ziX hL hp',zo9,hap0,hap _ _ hx x0,z1,z2];rfl
  have h4:pr.ev 115 [rdV L ((p+1:Nat):Int) 0 0,.int .i64 0] []=some (.ret (.tup [rdV L q 0 0,encE a]),[]):=h4;have ht:=zoF q 0 2 [116,104,101,110] hL h2;rcases Ex.need_some h3 with⟨i1,i2⟩|⟨i1,rfl⟩;rotate_left
  ·rw [i1,if_neg (by simp)] at ht;refine hfl q q _ _ (zbe a) x0 h2 rfl ?_;simp only[zaw,za2,zbE,zaa hw,zaa h4,zaa ht,zm5,ze2,qa12,qa13,qa31,zcR,za0,zdy,zbw,zo9,hap0,hap _ _ (zbe a) x0,z1,z2];rfl
  rw[i1,if_pos rfl]at ht;have hlt2:q<L.length:=by simpa using Ex.isT_lt i1
  rcases h.two (k:=0) (by omega) (by omega) (by omega) i2 with⟨b,q2,k1,k2,k3,k4⟩|⟨q2,rfl,p',x,k4,hx,hp'⟩;rotate_left
  ·have k4:pr.ev 115 [rdV L ((q+1:Nat):Int) 0 0,.int .i64 0] []=some (.ret (.tup [rdV L p' 20 q2,x]),[]):=k4;refine hfl p' q2 _ _ (zbe a) hx hp' rfl ?_;simp only[zaw,za2,zbE,zaa hw,zaa h4,zaa ht,zaa k4,ze2,qa12,qa13,qa31,zcR,hx.ck,hx.ag,hx.nm,za0,zdy,zbw,zo9,hap0,hap _ _ (zbe a) hx,z1,z2];rfl
  have k4:pr.ev 115 [rdV L ((q+1:Nat):Int) 0 0,.int .i64 0] []=some (.ret (.tup [rdV L q2 0 0,encE b]),[]):=k4;have e1:zaw pr.ev lup (rdV L p 0 0) zR0 zE0 (csE d av)=some (.next [.bool false,rdV L q2 0 0,zR0,zE0,csE d (.list ((acc++[a,b]).map encE))]):=by
   have:(acc++[a,b]).map encE=acc.map encE++[encE a,encE b]:=by simp
   rw[this];simp only[zaw,za2,zbE,zaa hw,zaa h4,zaa ht,zaa k4,ze2,qa12,qa13,qa31,zcR,za0,zdy,zbw,zo9,hap0,hap _ _ (zbe a) (zbe b),z1,z2];rfl
  rw[e1,zce];cases hwh:Ex.isT (L.map (·.1)) q2 2 [119,104,101,110]
  ·simp only[hwh,qb0]at k3;rcases tailR hL h (by omega) k2 (by simp;omega) k3 hwh with⟨e,q3,i1,i2,i3⟩|i1
   ·exact .inl ⟨e,q3,i1,by omega,i3⟩
   ·exact .inr i1
  ·simp only[hwh,qa60]at k3;rcases ih q2 d (acc++[a,b]) _ r false (by omega) k2 (.inr rfl) (by simp;omega) k3 (fun _=>hwh)with⟨e,q3,i1,i2,i3⟩|i1
   ·exact .inl ⟨e,q3,i1,by omega,i3⟩
   ·exact .inr i1
theorem r_cases(hL:L.length≤999999)(h:LvR L n):LoR L 164 Ex.zj4 n:=fun m p r hm hp hr=>by
 refine OutR.of ?_ fun z hz=>pr.of rfl rfl rfl (zmq _ _ _ _) hz;unfold Ex.zj4 at hr;simp only[Ex.zgb]at hr;simp only[zh3,zcR,za2,zbE,zlx hL hp,zgH,qa31];cases hw:Ex.isT (L.map (·.1)) p 2 [119,104,101,110]
 ·simp only[hw,qb0]at hr;simp only[qa50,zar,qa60];refine h.go (k:=0) (by omega) (by omega) hp rfl hr (fun e q h1 h2 hr=>?_) fun p' q x hx hp'=>?_
  ·simp only[ze2,qa12,qa13,qa31,zcR,za2,zbE,za0,zdy,zbw,zct];rcases caR_loop hL h m q true [e] _ r true hm h2 (.inr rfl) (by simp;omega) hr (by simp)with⟨e,q3,i1,i2,i3⟩|i1
   ·exact .inl ⟨e,q3,i1,by omega,i3⟩
   ·exact .inr i1
  ·have x0:=zbe Ex.e0;have z1:agN 4 zR0=zR0:=agN_agg _ _ rfl;have z2:agN 11 zE0=zE0:=agN_agg _ _ rfl;have hap0:appV 11 128 (.list []) (.list [x])=some (.list [x]):=app_nil (by simp[hx.sz]) (by simp);have hap:appV 11 128 (.list [x]) (.list [encE Ex.e0,encE Ex.e0])=some (.list [x,encE Ex.e0,encE Ex.e0]):=by
    rw[zjz _ _ _ _ (by simp[zde]) (by simp)];rfl
   have hwf:wfs [x,encE Ex.e0,encE Ex.e0]=true:=by simp[wfs,hx.wf,zdh]
   simp only[ze2,qa12,qa13,qa31,zcR,za2,zbE,hx.ck,hx.ag,hx.nm,zct];have e1:lup Out (zam pr.ev lup) [.bool true,rdV L p' 20 q,zR0,zE0,csE true (.list [x])]=lup Out (zam pr.ev lup) [.bool false,rdV L p' 20 q,zR0,zE0,csE true (.list [x,encE Ex.e0,encE Ex.e0])]:=by
    rw[zan];simp only[zam,gt_0,gt_s,zar,qa60,za2,ztg,z1,z2,zaw,zbE,ziX hL hp',zm5,ze2,qa12,qa13,qa31,zcR,za0,zdy,zbw,zo9,hap0,hap];rfl
   show StR L q (lup Out (zam pr.ev lup) [.bool true,rdV L p' 20 q,zR0,zE0,csE true (.list [x])]);rw[e1,zzw hL hp' hwf];exact StR.mk (zrM hwf) hp'
 ·simp only[hw,qa60]at hr;simp only[Bool.not_true,zar,qb0,zct,za2];exact caR_loop hL h m p false [] _ r true hm hp (.inl ⟨rfl,rfl⟩) (by simp) hr (by simp)
theorem zxU(hL:L.length≤999999){f:FuncId}(k p:Nat)(r:Ex.R)(hk:(k=2∧f=135)∨(k=3∧f=136)∨(k=7∧f=137))(h:OutR L (p+1) r (pr.ev f [rdV L p 0 0] [])):OutR L (p+1) r (pr.ev 115 [rdV L p 0 0,.int .i64 (k:Int)] []):=by
 refine OutR.of ?_ fun z hz=>pr.of rfl rfl rfl (zgy _ _ _ _ _) hz;have e0:b0 .neq (.int .i64 0) (.int .i64 0)=some (.bool false):=rfl;rcases hk with⟨rfl,rfl⟩|⟨rfl,rfl⟩|⟨rfl,rfl⟩;all_goals
  simp only[zeG,zcR,za2,zbE,rd_2,e0,qa31,zar,qb0,
   show b0 .eql (.int .i64 ((2:Nat):Int)) (.int .i64 2)=some (.bool true)from rfl,show b0 .eql (.int .i64 ((3:Nat):Int)) (.int .i64 2)=some (.bool false)from rfl,show b0 .eql (.int .i64 ((3:Nat):Int)) (.int .i64 3)=some (.bool true)from rfl,
   show b0 .eql (.int .i64 ((7:Nat):Int)) (.int .i64 2)=some (.bool false)from rfl,show b0 .eql (.int .i64 ((7:Nat):Int)) (.int .i64 3)=some (.bool false)from rfl,show b0 .eql (.int .i64 ((7:Nat):Int)) (.int .i64 7)=some (.bool true)from rfl,qa60]
  refine h.pass (qa57 _) fun p' b q x hx=>?_;simp[hx.ck,hx.ag,hx.nm,rtn]
theorem lvR_zero:LvR L 0:=fun m k p r hm hk hp hr=>by
 obtain rfl:m=0:=by omega
 cases hr
theorem zxS(hL:L.length≤999999)(hT:Good L)(hG:zwZ L):∀n,LvR L n∧LsR L n∧PlR L n
 |0=>by
  refine⟨lvR_zero,fun m p r hm hp hr=>?_,fun m p r hm hp hr=>?_⟩
  ·obtain rfl:m=0:=by omega
   cases hr
  ·obtain rfl:m=0:=by omega
   cases hr
 |n+1=>by
  obtain⟨h,hls,hpl⟩:=zxS hL hT hG n;have hx:zmW L:=fun i t ht=>(hT i t ht).1;refine⟨fun m k p r hm hk hp hr=>?_,r_list hL h,r_plain hL hx h (r_call hL h hls) (r_cases hL h) (r_cast hL hx h)⟩;by_cases h2:k=2
  ·subst h2;exact zxU hL _ _ _ (.inl ⟨rfl,rfl⟩) (zwo hL h m p r hm hp hr)
  by_cases h3:k=3
  ·subst h3;exact zxU hL _ _ _ (.inr (.inl ⟨rfl,rfl⟩)) (zsK hL h hls m p r hm hp hr)
  by_cases h7:k=7
  ·subst h7;exact zxU hL _ _ _ (.inr (.inr ⟨rfl,rfl⟩)) (r_signed hL (fun i t ht=>(hT i t ht).2) hG h hpl m p r hm hp hr)
  ·exact r_levels hL h m k p r (by omega) hm hp hr
theorem ref_part(hL:L.length≤999999)(hT:Good L)(hG:zwZ L){m p:Nat}{r:Ex.R}(hp:p≤L.length)(hr:Ex.run (L.map (·.1)) m (.lev 0) p=some r):OutR L (p+1) r (pr.ev 115 [rdV L p 0 0,.int .i64 0] []):=
 (zxS hL hT hG m).1 m 0 p r (qa57 _) (by omega) hp hr
end
end
end Go.Proofs.YtlooegbcfkoloaaGreatDoor
namespace Ox
open Lx
theorem zwF(s:S):(hex s).length=2*s.length:=by
 induction s with
 |nil=>rfl
 |cons c r ih=>simp only[hex,qa30,ih];omega
end Ox
end
