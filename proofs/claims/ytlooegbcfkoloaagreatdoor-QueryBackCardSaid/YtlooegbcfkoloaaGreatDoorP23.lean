/- Part of the proof: see the last text. -/
import Derived.Test.YtlooegbcfkoloaaGreatDoorP0
import Derived.Test.YtlooegbcfkoloaaGreatDoorP18
import Derived.Test.YtlooegbcfkoloaaGreatDoorP19
import Derived.Test.YtlooegbcfkoloaaGreatDoorP20
import Derived.Test.YtlooegbcfkoloaaGreatDoorP21
import Derived.Test.YtlooegbcfkoloaaGreatDoorP22
set_option maxRecDepth 20000
set_option linter.unusedVariables false
set_option linter.unusedSimpArgs false
set_option linter.unusedSectionVars false
namespace Go.Proofs.YtlooegbcfkoloaaGreatDoor
open Go.RowKit
open Vm Go.Shelf
def shRen:Go.Shelf.Ren:=⟨fun n=>match n with | 138=>158 | 143=>159 | 154=>144 | 155=>120 | 156=>42 | 165=>85 | 166=>86 | 169=>87 | 195=>167 | 197=>160 | 217=>174 | 218=>168 | 219=>169 | 224=>176 | 225=>175 | 240=>117 | 241=>118 | 260=>170 | 266=>181 | 267=>177 | 276=>142 | 277=>143 | 314=>182 | _=>0,fun n=>match n with | 0=>0 | 3=>3 | 4=>4 | 5=>5 | 9=>9 | 20=>20 | 21=>21 | 31=>68 | 37=>123 | 46=>173 | 51=>203 | 70=>122 | 72=>125 | 75=>128 | 76=>129 | 80=>131 | 105=>191 | 119=>199 | 127=>154 | 138=>201 | 139=>202 | 146=>204 | 164=>168 | _=>0,fun n=>match n with | 1=>0 | 3=>1 | 4=>2 | _=>0⟩
theorem znf:Lays.n156 Tryz.prog shRen:={
 mixed:=by kernel_rfl
 f156:=by kernel_rfl
 f165:=by kernel_rfl
 f166:=by kernel_rfl
 f169:=by kernel_rfl
 f240:=by kernel_rfl
 f241:=by kernel_rfl
 f276:=by kernel_rfl
 f277:=by kernel_rfl
 t0:=by kernel_rfl
 a0:=fun _=>by kernel_rfl
 z0:=fun _=>by kernel_rfl
 v0:=fun _=>by kernel_rfl
 t3:=by kernel_rfl
 a3:=fun _=>by kernel_rfl
 z3:=fun _=>by kernel_rfl
 v3:=fun _=>by kernel_rfl
 t4:=by kernel_rfl
 a4:=fun _=>by kernel_rfl
 z4:=fun _=>by kernel_rfl
 v4:=fun _=>by kernel_rfl
 t9:=by kernel_rfl
 a9:=fun _=>by kernel_rfl
 z9:=fun _=>by kernel_rfl
 v9:=fun _=>by kernel_rfl
 t20:=by kernel_rfl
 a20:=fun _=>by kernel_rfl
 z20:=fun _=>by kernel_rfl
 v20:=fun _=>by kernel_rfl
 t31:=by kernel_rfl
 a31:=fun _=>by kernel_rfl
 z31:=fun _=>by kernel_rfl
 v31:=fun _=>by kernel_rfl
 t37:=by kernel_rfl
 a37:=fun _=>by kernel_rfl
 z37:=fun _=>by kernel_rfl
 v37:=fun _=>by kernel_rfl
 t70:=by kernel_rfl
 a70:=fun _=>by kernel_rfl
 z70:=fun _=>by kernel_rfl
 v70:=fun _=>by kernel_rfl
 t72:=by kernel_rfl
 a72:=fun _=>by kernel_rfl
 z72:=fun _=>by kernel_rfl
 v72:=fun _=>by kernel_rfl
 t75:=by kernel_rfl
 a75:=fun _=>by kernel_rfl
 z75:=fun _=>by kernel_rfl
 v75:=fun _=>by kernel_rfl
 t76:=by kernel_rfl
 a76:=fun _=>by kernel_rfl
 z76:=fun _=>by kernel_rfl
 v76:=fun _=>by kernel_rfl
 t127:=by kernel_rfl
 a127:=fun _=>by kernel_rfl
 z127:=fun _=>by kernel_rfl
 v127:=fun _=>by kernel_rfl
 t164:=by kernel_rfl
 a164:=fun _=>by kernel_rfl
 z164:=fun _=>by kernel_rfl
 v164:=fun _=>by kernel_rfl }
theorem lay_n155:Lays.n155 Tryz.prog shRen:={
 mixed:=by kernel_rfl
 f138:=by kernel_rfl
 f143:=by kernel_rfl
 f154:=by kernel_rfl
 f155:=by kernel_rfl
 f165:=by kernel_rfl
 f166:=by kernel_rfl
 f169:=by kernel_rfl
 f195:=by kernel_rfl
 f197:=by kernel_rfl
 f217:=by kernel_rfl
 f218:=by kernel_rfl
 f219:=by kernel_rfl
 f224:=by kernel_rfl
 f225:=by kernel_rfl
 f240:=by kernel_rfl
 f241:=by kernel_rfl
 f260:=by kernel_rfl
 f266:=by kernel_rfl
 f267:=by kernel_rfl
 f276:=by kernel_rfl
 f277:=by kernel_rfl
 f314:=by kernel_rfl
 t0:=by kernel_rfl
 a0:=fun _=>by kernel_rfl
 z0:=fun _=>by kernel_rfl
 v0:=fun _=>by kernel_rfl
 t3:=by kernel_rfl
 a3:=fun _=>by kernel_rfl
 z3:=fun _=>by kernel_rfl
 v3:=fun _=>by kernel_rfl
 t4:=by kernel_rfl
 a4:=fun _=>by kernel_rfl
 z4:=fun _=>by kernel_rfl
 v4:=fun _=>by kernel_rfl
 t5:=by kernel_rfl
 a5:=fun _=>by kernel_rfl
 z5:=fun _=>by kernel_rfl
 v5:=fun _=>by kernel_rfl
 t9:=by kernel_rfl
 a9:=fun _=>by kernel_rfl
 z9:=fun _=>by kernel_rfl
 v9:=fun _=>by kernel_rfl
 t20:=by kernel_rfl
 a20:=fun _=>by kernel_rfl
 z20:=fun _=>by kernel_rfl
 v20:=fun _=>by kernel_rfl
 t21:=by kernel_rfl
 a21:=fun _=>by kernel_rfl
 z21:=fun _=>by kernel_rfl
 v21:=fun _=>by kernel_rfl
 t37:=by kernel_rfl
 a37:=fun _=>by kernel_rfl
 z37:=fun _=>by kernel_rfl
 v37:=fun _=>by kernel_rfl
 t46:=by kernel_rfl
 a46:=fun _=>by kernel_rfl
 z46:=fun _=>by kernel_rfl
 v46:=fun _=>by kernel_rfl
 t51:=by kernel_rfl
 a51:=fun _=>by kernel_rfl
 z51:=fun _=>by kernel_rfl
 v51:=fun _=>by kernel_rfl
 t70:=by kernel_rfl
 a70:=fun _=>by kernel_rfl
 z70:=fun _=>by kernel_rfl
 v70:=fun _=>by kernel_rfl
 t72:=by kernel_rfl
 a72:=fun _=>by kernel_rfl
 z72:=fun _=>by kernel_rfl
 v72:=fun _=>by kernel_rfl
 t75:=by kernel_rfl
 a75:=fun _=>by kernel_rfl
 z75:=fun _=>by kernel_rfl
 v75:=fun _=>by kernel_rfl
 t76:=by kernel_rfl
 a76:=fun _=>by kernel_rfl
 z76:=fun _=>by kernel_rfl
 v76:=fun _=>by kernel_rfl
 t105:=by kernel_rfl
 a105:=fun _=>by kernel_rfl
 z105:=fun _=>by kernel_rfl
 v105:=fun _=>by kernel_rfl
 t119:=by kernel_rfl
 a119:=fun _=>by kernel_rfl
 z119:=fun _=>by kernel_rfl
 t127:=by kernel_rfl
 a127:=fun _=>by kernel_rfl
 z127:=fun _=>by kernel_rfl
 v127:=fun _=>by kernel_rfl
 t138:=by kernel_rfl
 a138:=fun _=>by kernel_rfl
 z138:=fun _=>by kernel_rfl
 v138:=fun _=>by kernel_rfl
 t139:=by kernel_rfl
 a139:=fun _=>by kernel_rfl
 z139:=fun _=>by kernel_rfl
 v139:=fun _=>by kernel_rfl
 t146:=by kernel_rfl
 a146:=fun _=>by kernel_rfl
 z146:=fun _=>by kernel_rfl
 v146:=fun _=>by kernel_rfl
 t164:=by kernel_rfl
 a164:=fun _=>by kernel_rfl
 z164:=fun _=>by kernel_rfl
 v164:=fun _=>by kernel_rfl
 g1:=by kernel_rfl
 g3:=by kernel_rfl
 g4:=by kernel_rfl }
theorem zjL:Builder.Extra Tryz.prog shRen:={
 sizeBuilder:=by kernel_rfl
 liesBuilder:=by kernel_rfl
 t5:=by kernel_rfl
 a5:=fun _=>by kernel_rfl
 z5:=fun _=>by kernel_rfl
 v5:=fun _=>by kernel_rfl
 infoByte:=by kernel_rfl
 cellsByte:=by kernel_rfl
 sizeByte:=by kernel_rfl
 neB5:=by decide }
theorem zjF {P:Program} {G:Nat→Vm.V} {f:FuncId} {args:List Vm.V} {R:POut→Prop} (hen:zgF P f=true) (hd:args.all V.data=true)
  (h:∀ (w:World) (A:Nat→Nat→Prop) (vals:Array Value),(∀ b o,A b o→b < w.heap.size)→RepL w A args vals.toList→(∀ g,G g=.any∨RepV w A (G g) (.pointer (some ⟨g,0,none⟩)))→Calls P f vals w fun e w'=>Below w.heap.size w w'∧∃ o,R o∧OutRep w' A o e):zcI P G f args [] fun o es=>R o∧es=[]:=by
 refine ⟨hen,fun w H A vals m hv=>Calls.mono (h w A vals m.al (zgS hv hd) m.glo) fun e w' ⟨hb,o,hR,ho⟩=>?_⟩
 exact ⟨o,[],H,A,⟨hR,rfl⟩,rfl,fun e he=>by simp at he,m.below hb,ho⟩
theorem repL_2s {w:World} {A:Nat→Nat→Prop} {x:Vm.V} {s:List UInt8} {vals:Array Value} (h:RepL w A [x,.str s] vals.toList):∃ v,vals=#[v,.string (Lx.bs s)]∧RepV w A x v:=by
 obtain ⟨l⟩:=vals
 cases h with
 | cons _ _ v vs h1 h2 =>
  cases h2 with
  | cons _ _ v' vs' h3 h4 =>
   cases h3
   cases h4
   exact ⟨v,rfl,h1⟩
theorem repL_3s {w:World} {A:Nat→Nat→Prop} {a b c:List UInt8} {vals:Array Value} (h:RepL w A [.str a,.str b,.str c] vals.toList):vals=#[.string (Lx.bs a),.string (Lx.bs b),.string (Lx.bs c)]:=by
 obtain ⟨l⟩:=vals
 cases h with
 | cons _ _ v vs h1 h2 =>
  cases h2 with
  | cons _ _ v' vs' h3 h4 =>
   cases h4 with
   | cons _ _ v'' vs'' h5 h6 =>
    cases h1
    cases h3
    cases h5
    cases h6
    rfl
theorem zlx {w:World} {A:Nat→Nat→Prop}:∀ {xs:List (List UInt8)} {z:Nat} {vs:List Value},RepE w A z (xs.map Vm.V.str) vs→vs=xs.map fun s=>Value.string (Lx.bs s)
 | [],z,vs,h=>by cases h;rfl
 | x :: xs,z,vs,h=>by
  cases h with
  | cons _ _ _ us ws h0 h1 h2 =>
   cases h1 with
   | one _ v h3 h4 =>
    cases h4
    rw [zlx h2]
    rfl
theorem zrd (xs:List (List UInt8)) (sep:List UInt8):Lib.join ((xs.map Lx.bs).map (·.data.toList)) (Lx.bs sep).data.toList=Lib.join xs sep:=by
 have e:(xs.map Lx.bs).map (·.data.toList)=xs:=by
  rw [List.map_map]
  conv=>rhs;rw [← List.map_id xs]
  exact List.map_congr_left fun x _=>Lx.zcn x
 rw [e,show (Lx.bs sep).data.toList=sep from Lx.zcn sep]
theorem bs_join (xs:List (List UInt8)) (sep:List UInt8):(⟨(Lib.join ((xs.map Lx.bs).map (·.data.toList)) (Lx.bs sep).data.toList).toArray⟩:ByteArray)=Lx.bs (Lib.join xs sep):=by
 rw [zrd];rfl
theorem ztn {w w':World} {A:Nat→Nat→Prop} {f:FuncId} {vals:Array Value} {e:Ending} {t:List UInt8} {b:ByteArray} (hb:b=Lx.bs t) (h:e=.returned (.string b)∧Below w.heap.size w w'):Below w.heap.size w w'∧∃ o,o=POut.ret (.str t)∧OutRep w' A o e:=by
 obtain ⟨rfl,h2⟩:=h
 subst hb
 exact ⟨h2,_,rfl,_,rfl,.str t⟩
theorem m_Join {G:Nat→Vm.V} {xs:List (List UInt8)} {sep:List UInt8} (hN:xs.length≤1000000) (h:(Lib.join xs sep).length≤1000000000):Ret Tryz.prog G 42 [.list (xs.map Vm.V.str),.str sep] (.str (Lib.join xs sep)):=by
 refine zcU (by kernel_rfl) rfl fun w A vals hA hv=>?_
 obtain ⟨v,hvv,hx⟩:=repL_2s hv
 subst hvv
 clear hv
 have hj:=bs_join xs sep
 generalize hl:xs.map Vm.V.str=l at hx
 cases hx with
 | nil a c =>
  obtain rfl:xs=[]:=List.map_eq_nil_iff.1 hl
  refine Calls.mono (Any.strings_Join_none znf zjL a c (Lx.bs sep) w) fun e w' h=>?_
  obtain ⟨rfl,rfl⟩:=h
  exact ⟨Below.refl _ _,_,rfl,_,rfl,.str []⟩
 | list _ z b off c vs h1 h2 h3 h4 h5 =>
  subst hl
  have hvs:=zlx h2
  subst hvs
  rw [List.length_map] at h4 ⊢
  match xs,h1,h3,h4,hN,h,hj with
  | [x],h1,h3,h4,hN,h,hj =>
   refine Calls.mono (Any.strings_Join_one znf zjL b off c (Lx.bs x) (Lx.bs sep) w (h3.2 0 _ rfl).1) fun e w' h=>?_
   obtain ⟨rfl,rfl⟩:=h
   refine ⟨Below.refl _ _,_,rfl,_,rfl, ?_⟩
   rw [Lib.join_one]
   exact .str x
  | x :: y :: r,h1,h3,h4,hN,h,hj =>
   have hlen:(x :: y :: r).length=((x :: y :: r).map Lx.bs).length:=by rw [List.length_map]
   rw [hlen] at hN h4 ⊢
   refine Calls.mono (Any.strings_Join_many znf zjL b off c ((x :: y :: r).map Lx.bs) (Lx.bs sep) w ?_ h3.1 (by simp) (by omega) h4 ?_) fun e w' h=>ztn (f:=0) (vals:=#[]) hj h
   ·intro j u hu
    refine (h3.2 j (.string u) ?_).1
    rw [List.getElem?_map] at hu ⊢
    cases hx:(x :: y :: r)[j]? with
    | none=>rw [hx] at hu;cases hu
    | some t=>rw [hx] at hu;simp at hu;subst hu;rfl
   ·rw [zrd];omega
theorem zos {G:Nat→Vm.V} {m:Int} (hG:G (shRen.g 1)=.ip (.int .i64 m) 0) {s:List UInt8} (hs:s.length≤1000000):Ret Tryz.prog G 120 [.str s,.str [39],.str [39,39]] (.str (Ex.za8 s)):=by
 refine zjF (by kernel_rfl) rfl fun w A vals hA hv hg=>?_
 obtain rfl:=repL_3s hv
 have hm:w.cell? ⟨shRen.g 1,0,none⟩=some (.int .i64 m):=by
  rcases hg (shRen.g 1) with h | h
  ·rw [hG] at h;cases h
  ·rw [hG] at h
   generalize hp:(Value.pointer (some ⟨shRen.g 1,0,none⟩))=p at h
   cases h with
   | ip _ _ b o vs h1 h2 =>
    cases hp
    cases h1 with
    | one _ v h3 h4 =>
     cases h4
     exact (h2.2 0 _ rfl).1
 have hsz:(Lx.bs s).size=s.length:=Lx.zaN s
 have hc:=Lib.countB_le (Lx.bs [39]) (by decide) s.length (Lx.bs s) (by omega)
 refine Calls.mono (Any.strings_ReplaceAll lay_n155 zjL (Lx.bs s) (Lx.bs [39]) (Lx.bs [39,39]) m w (by omega) hm (by decide) ?_) fun e w' h=>ztn (f:=0) (vals:=#[]) ?_ h
 ·rw [show (Lx.bs [39,39]).size=2 from rfl];omega
 ·have e1:(Lx.bs s).data.toList=s:=Lx.zcn s
  rw [e1]
  show _=Lx.bs (Ex.za8 s)
  rw [← Ex.zrC];rfl
end Go.Proofs.YtlooegbcfkoloaaGreatDoor
namespace Go.Proofs.YtlooegbcfkoloaaGreatDoor
open Go.RowKit
open Vm
theorem ztq {w w':World} {A:Nat→Nat→Prop} {e:Ending} {t:List UInt8} (h:e=.returned (.string (Lx.bs t))∧Below w.heap.size w w'):Below w.heap.size w w'∧∃ o,o=POut.ret (.str t)∧OutRep w' A o e:=by
 obtain ⟨rfl,h2⟩:=h
 exact ⟨h2,_,rfl,_,rfl,.str t⟩
theorem zs3 {w:World} {A:Nat→Nat→Prop} {k:IntKind} {n:Int} {vals:Array Value} (h:RepL w A [.int k n] vals.toList):vals=#[.int k n]:=by
 obtain ⟨l⟩:=vals
 cases h with
 | cons _ _ v vs h1 h2 =>
  cases h1
  cases h2
  rfl
theorem n_Num {G:Nat→Vm.V} {n:Int} (h1:-9223372036854775808≤n) (h2:n≤9223372036854775807):Ret Tryz.prog G 119 [.int .i64 n] (.str (Ox.num n)):=by
 refine zcU (by kernel_rfl) rfl fun w A vals hA hv=>?_
 rw [zs3 hv]
 exact Calls.mono (tnum_any n w h1 h2) fun e w' h=>ztq h
theorem n_Hex {G:Nat→Vm.V} {s:List UInt8} (hs:s.length≤1000000):Ret Tryz.prog G 121 [.str s] (.str (Ox.hex s)):=by
 refine zcU (by kernel_rfl) rfl fun w A vals hA hv=>?_
 rw [zkx hv]
 refine Calls.mono (thex_any (Lx.bs s) w (by rw [Lx.zaN];omega)) fun e w' h=>?_
 rw [Lx.zcn] at h
 exact ztq h
def zlz:List Vm.V→Option (List (List UInt8))
 | []=>some []
 | .str s :: r=>(match zlz r with | some l=>some (s :: l) | none=>none)
 | _=>none
theorem zly:∀ l:List (List UInt8),zlz (l.map Vm.V.str)=some l
 | []=>rfl
 | s :: l=>by simp [zlz,zly l]
theorem zkf:∀ {l:List Vm.V} {r:List (List UInt8)},zlz l=some r→l=r.map Vm.V.str
 | [],r,h=>by cases h;rfl
 | v :: l,r,h=>by
  unfold zlz at h
  split at h
  ·rename_i e;cases e
  ·rename_i s l' e
   cases e
   split at h
   ·rename_i l'' h2
    cases h
    rw [zkf h2]
    rfl
   ·cases h
  ·cases h
def zle:List Vm.V→Option Vm.V
 | [.list xs,.str sep]=>(match zlz xs with
  | some l=>if l.length≤1000000∧(Lib.join l sep).length≤1000000000 then some (.str (Lib.join l sep)) else none
  | none=>none)
 | _=>none
def zld:List Vm.V→Option Vm.V
 | [.str s,.str a,.str b]=>if s.length≤1000000∧a=[39]∧b=[39,39] then some (.str (Ex.za8 s)) else none
 | _=>none
def zoN:List Vm.V→Option Vm.V
 | [.int .i64 n]=>if -9223372036854775808≤n∧n≤9223372036854775807 then some (.str (Ox.num n)) else none
 | _=>none
theorem zse {G:Nat→Vm.V} (a:List Vm.V) (v:Vm.V) (h:zle a=some v):Ret Tryz.prog G 42 a v:=by
 unfold zle at h
 split at h
 ·split at h
  ·rename_i hl
   split at h
   ·rename_i hc
    cases h
    rw [zkf hl]
    exact m_Join hc.1 hc.2
   ·cases h
  ·cases h
 ·cases h
theorem zsd {G:Nat→Vm.V} {m:Int} (hG:G (shRen.g 1)=.ip (.int .i64 m) 0) (a:List Vm.V) (v:Vm.V) (h:zld a=some v):Ret Tryz.prog G 120 a v:=by
 unfold zld at h
 split at h
 ·split at h
  ·rename_i hc
   obtain ⟨h1,rfl,rfl⟩:=hc
   cases h
   exact zos hG h1
  ·cases h
 ·cases h
theorem zve {f:FuncId} {G:Nat→Vm.V} (hf:∀ {n:Int}, -9223372036854775808≤n→n≤9223372036854775807→Ret Tryz.prog G f [.int .i64 n] (.str (Ox.num n))) (a:List Vm.V) (v:Vm.V) (h:zoN a=some v):Ret Tryz.prog G f a v:=by
 unfold zoN at h
 split at h
 ·split at h
  ·rename_i hc
   cases h
   exact hf hc.1 hc.2
  ·cases h
 ·cases h
class Gl where
 m:Int
def glG [Gl]:Nat→Vm.V:=fun g=>if g=shRen.g 1 then .ip (.int .i64 Gl.m) 0 else .any
end Go.Proofs.YtlooegbcfkoloaaGreatDoor
namespace Go.Proofs.YtlooegbcfkoloaaGreatDoor
open Go.RowKit
open Vm
theorem m_fold {G:Nat→Vm.V} {s:List UInt8} (hs:s.length≤1000000):zcI Tryz.prog G 59 [.str s] [] fun o es=>o=.ret (.str (Lx.fold s))∧es=[]:=by
 refine zkD (by kernel_rfl) rfl fun w A vals hv=>?_
 rw [zkx hv]
 have hz:(Lx.bs s).size≤9223372036854775000:=by rw [Lx.zaN];omega
 refine Calls.mono (zcV (Lx.bs s) w hz) fun e w' h=>⟨h.2,_,rfl, ?_⟩
 rw [h.1,Lx.zcn]
 exact ⟨_,rfl,.str _⟩
def ans1 (g:List UInt8→Vm.V):List Vm.V→Option Vm.V
 | [.str s]=>if s.length≤1000000 then some (g s) else none
 | _=>none
theorem zvf {g:List UInt8→Vm.V} {a:List Vm.V} {v:Vm.V} (h:ans1 g a=some v):∃ s,a=[.str s]∧s.length≤1000000∧v=g s:=by
 unfold ans1 at h
 split at h
 ·split at h
  ·rename_i hs;cases h;exact ⟨_,rfl,hs,rfl⟩
  ·cases h
 ·cases h
noncomputable def nv1 {G:Nat→Vm.V} (f:FuncId) (g:List UInt8→Vm.V) (h:∀ s:List UInt8,s.length≤1000000→zcI Tryz.prog G f [.str s] [] fun o es=>o=.ret (g s)∧es=[]):Nv Tryz.prog G :=
 .pure f (ans1 g) fun a v hv=>by
  obtain ⟨s,rfl,hs,rfl⟩:=zvf hv
  exact h s hs
variable [Gl]
noncomputable def natL:List (Nv Tryz.prog glG):=[
 nv1 11 zsS fun _ hs=>n_Scan hs,
 .fd 132 [10,11,12] [(4,0),(5,1),(6,2)],
 .fd 12 [10,11,12,29] [(4,0),(5,1),(6,2)],
 nv1 121 (fun s=>.str (Ox.hex s)) fun _ hs=>n_Hex hs,
 .pure 119 zoN (zve n_Num),
 .pure 42 zle zse,
 .pure 120 zld (zsd (m:=Gl.m) (by unfold glG;rw [if_pos rfl])),
 nv1 59 (fun s=>.str (Lx.fold s)) fun _ hs=>m_fold hs]
end Go.Proofs.YtlooegbcfkoloaaGreatDoor
namespace Go.Proofs.YtlooegbcfkoloaaGreatDoor
open Go.RowKit
open Vm
noncomputable def zbp (c:Orc) (m y0 y1 y2 y3 y4 y5 y6 y7 y8 y9 y10 y0_1 y0_2:V):Option (List Ent) :=
 gW m <|
 (tasW (some (.agg [(.int .i64 0)])) 178 m).bind fun v1 =>
 (extV v1 0).bind fun v2 =>
 (extV v1 1).bind fun v3 =>
 ckA 1 v2 <|
 cnd v3 (ag eeqs <|
 ck1 (cell v2 0) <|
 some [.blk 46 [(.int .i64 0),(.str []),(.int .i64 0),(.int .i64 0),(.str []),(.str []),(.str []),(.int .i64 0),(.bool false),(.bool false),.nils],.blk 3 [(cell v2 0)],.blk 29 [(.int .i64 20)]])
 (some [.blk 46 [y0,y1,y2,y3,y4,y5,y6,y7,y8,y9,y10],.blk 3 [y0_1],.blk 29 [y0_2]])
noncomputable def zcj (c:Orc) (a1_0 a1_1 a1_2:V):Option Out :=
 cnd a1_2 (ck1 a1_1 <|
 rtn (.tup [(.agg [(.int .i64 0),(.str []),(.int .i64 0),(.int .i64 0),(.str []),(.str []),(.str []),(.int .i64 0),(.bool false),(.bool false),(.list [])]),(norm1 a1_1),(.int .i64 20)]) [])
 (ck1 a1_0 <|
 ck1 a1_1 <|
 ckA 2 (.agg [a1_0,a1_1]) <|
 cl1 c 148 [(.ptr 0 0)] (.blk 182 [a1_0,a1_1]) 182 2 (fun v3 v2=>dfr (zbp c v3 (.int .i64 0) (.str []) (.int .i64 0) (.int .i64 0) (.str []) (.str []) (.str []) (.int .i64 0) (.bool false) (.bool false) .nils (.int .i64 0) (.int .i64 0)) [(46,11),(3,1),(29,1)] fun v4 =>
 rtn (.tup [(norm1 (.agg [(zaa (nth v4 0) 0),(zaa (nth v4 0) 1),(zaa (nth v4 0) 2),(zaa (nth v4 0) 3),(zaa (nth v4 0) 4),(zaa (nth v4 0) 5),(zaa (nth v4 0) 6),(zaa (nth v4 0) 7),(zaa (nth v4 0) 8),(zaa (nth v4 0) 9),(zaa (nth v4 0) 10)])),(norm1 (zaa (nth v4 1) 0)),(norm1 (zaa (nth v4 2) 0))]) []) fun v1 v2 =>
 ckA 11 v1 <|
 cl0 c 149 [(norm1 (agN 11 v1))] (fun w=>dfr (zbp c w (cell v1 0) (cell v1 1) (cell v1 2) (cell v1 3) (cell v1 4) (cell v1 5) (cell v1 6) (cell v1 7) (cell v1 8) (cell v1 9) (cell v1 10) (.int .i64 0) (.int .i64 0)) [(46,11),(3,1),(29,1)] fun v6 =>
 rtn (.tup [(norm1 (.agg [(zaa (nth v6 0) 0),(zaa (nth v6 0) 1),(zaa (nth v6 0) 2),(zaa (nth v6 0) 3),(zaa (nth v6 0) 4),(zaa (nth v6 0) 5),(zaa (nth v6 0) 6),(zaa (nth v6 0) 7),(zaa (nth v6 0) 8),(zaa (nth v6 0) 9),(zaa (nth v6 0) 10)])),(norm1 (zaa (nth v6 1) 0)),(norm1 (zaa (nth v6 2) 0))]) []) fun v5 =>
 (b0 .gtr v5 (.int .i64 24)).bind fun v7 =>
 cnd v7 (ck1 a1_1 <|
 dfr (zbp c .niface (.int .i64 0) (.str []) (.int .i64 0) (.int .i64 0) (.str []) (.str []) (.str []) (.int .i64 0) (.bool false) (.bool false) .nils a1_1 (.int .i64 12)) [(46,11),(3,1),(29,1)] fun v8 =>
 rtn (.tup [(norm1 (.agg [(zaa (nth v8 0) 0),(zaa (nth v8 0) 1),(zaa (nth v8 0) 2),(zaa (nth v8 0) 3),(zaa (nth v8 0) 4),(zaa (nth v8 0) 5),(zaa (nth v8 0) 6),(zaa (nth v8 0) 7),(zaa (nth v8 0) 8),(zaa (nth v8 0) 9),(zaa (nth v8 0) 10)])),(norm1 (zaa (nth v8 1) 0)),(norm1 (zaa (nth v8 2) 0))]) [])
 (ag oeq <|
 ckA 11 (agN 11 v1) <|
 ck1 (zaa v2 1) <|
 dfr (zbp c .niface (cell v1 0) (cell v1 1) (cell v1 2) (cell v1 3) (cell v1 4) (cell v1 5) (cell v1 6) (cell v1 7) (cell v1 8) (cell v1 9) (cell v1 10) (zaa v2 1) (.int .i64 0)) [(46,11),(3,1),(29,1)] fun v9 =>
 rtn (.tup [(norm1 (.agg [(zaa (nth v9 0) 0),(zaa (nth v9 0) 1),(zaa (nth v9 0) 2),(zaa (nth v9 0) 3),(zaa (nth v9 0) 4),(zaa (nth v9 0) 5),(zaa (nth v9 0) 6),(zaa (nth v9 0) 7),(zaa (nth v9 0) 8),(zaa (nth v9 0) 9),(zaa (nth v9 0) 10)])),(norm1 (zaa (nth v9 1) 0)),(norm1 (zaa (nth v9 2) 0))]) []))
noncomputable def zel (c:Orc) (x0 x1:V):Option Out :=
 (b0 .lss x1 (.int .i64 0)).bind fun v1 =>
 cnd v1 (zcj c x0 x1 (.bool true))
 ((lenL x0).bind fun v2 =>
 (b0 .gtr x1 v2).bind fun v3 =>
 zcj c x0 x1 v3)
theorem znZ (G:Nat→Vm.V) (c:Orc) (x0 x1:V):evFD Tryz.prog G c [10,11,12] [(4,0),(5,1),(6,2)] 132 [.d x0,.d x1]=zel c x0 x1:=by kernel_rfl
noncomputable def annTw (f:FuncId) (d:List (Nat×Nat)×List LA):List (Nat×Nat)×List LA:=d
end Go.Proofs.YtlooegbcfkoloaaGreatDoor
namespace Go.Proofs.YtlooegbcfkoloaaGreatDoor
open Go.RowKit
open Vm
noncomputable def zjp (c:Orc) (l:Lup) (x0 x1:V):Option Out :=
 ckA 11 x0 <|
 (lenL (cell x0 10)).bind fun v1 =>
 (b0 .lss x1 v1).bind fun v2 =>
 cnd v2 ((elV 11 (cell x0 10) x1).bind fun v3 =>
 (ldV true 11 v3 0).bind fun v4 =>
 ckA 11 v4 <|
 rtn (norm1 (agN 11 v4)) [])
 (rtn (.agg [(.int .i64 0),(.str []),(.int .i64 0),(.int .i64 0),(.str []),(.str []),(.str []),(.int .i64 0),(.bool false),(.bool false),(.list [])]) [])
theorem zo7 (G:Nat→Vm.V) (c:Orc) (l:Lup) (x0 x1:V):evF Tryz.prog G c l [] 10 [] 94 [.d x0,.d x1] []=zjp c l x0 x1:=by kernel_rfl
noncomputable def zci (c:Orc) (l:Lup) (a2_0 a2_1:V):Option Out :=
 cnd a2_1 ((b0 .add (.str [40]) a2_0).bind fun v1 =>
 (b0 .add v1 (.str [41])).bind fun v2 =>
 rtn (norm1 v2) [])
 (rtn (norm1 a2_0) [])
noncomputable def zaA (c:Orc) (l:Lup) (a1_0 a1_1 a1_2 a1_3 a1_4:V):Option Out :=
 cnd a1_2 ((b0 .add (.str [40]) a1_0).bind fun v1 =>
 (b0 .add v1 (.str [41])).bind fun v2 =>
 rtn (norm1 v2) [])
 ((b0 .eql a1_1 (.int .i64 1)).bind fun v3 =>
 cnd v3 ((b0 .eql (cell a1_3 0) (.int .i64 3)).bind fun v4 =>
 cnd v4 ((b0 .eql (cell a1_4 2) (.int .i64 1)).bind fun v5 =>
 zci c l a1_0 v5)
 (zci c l a1_0 (.bool false)))
 (rtn (norm1 a1_0) []))
noncomputable def sh_expr_inner (c:Orc) (l:Lup) (x0 x1:V):Option Out :=
 ckA 11 x0 <|
 cl0 c 94 [(norm1 (agN 11 x0)),(norm1 x1)] (fun w=>pnk w []) fun v1 =>
 ckA 11 v1 <|
 cl0 c 43 [(norm1 (agN 11 v1))] (fun w=>pnk w []) fun v2 =>
 (b0 .eql (cell v1 0) (.int .i64 3)).bind fun v3 =>
 cnd v3 (zaA c l v2 (cell v1 0) (.bool true) (agN 11 x0) (agN 11 v1))
 ((b0 .eql (cell v1 0) (.int .i64 4)).bind fun v4 =>
 cnd v4 (zaA c l v2 (cell v1 0) (.bool true) (agN 11 x0) (agN 11 v1))
 ((b0 .eql (cell v1 0) (.int .i64 5)).bind fun v5 =>
 cnd v5 (zaA c l v2 (cell v1 0) (.bool true) (agN 11 x0) (agN 11 v1))
 ((b0 .eql (cell v1 0) (.int .i64 6)).bind fun v6 =>
 cnd v6 (zaA c l v2 (cell v1 0) (.bool true) (agN 11 x0) (agN 11 v1))
 ((b0 .eql (cell v1 0) (.int .i64 7)).bind fun v7 =>
 cnd v7 (zaA c l v2 (cell v1 0) (.bool true) (agN 11 x0) (agN 11 v1))
 ((b0 .eql (cell v1 0) (.int .i64 8)).bind fun v8 =>
 zaA c l v2 (cell v1 0) v8 (agN 11 x0) (agN 11 v1))))))
theorem znX (G:Nat→Vm.V) (c:Orc) (l:Lup) (x0 x1:V):evF Tryz.prog G c l [] 10 [] 89 [.d x0,.d x1] []=sh_expr_inner c l x0 x1:=by kernel_rfl
noncomputable def zfw (c:Orc) (l:Lup) (a1_0:V):Option Out :=
 cl0 c 42 [(norm1 a1_0),(.str [44,32])] (fun w=>pnk w []) fun v1 =>
 (b0 .add (.str [40]) v1).bind fun v2 =>
 (b0 .add v2 (.str [41])).bind fun v3 =>
 rtn (norm1 v3) []
noncomputable def zcD (c:Orc) (l:Lup) (s:List V):Option (Stp Out) :=
 (b0 .lss (gt s 2) (gt s 1)).bind fun v1 =>
 cnd v1 ((elV 11 (gt s 0) (gt s 2)).bind fun v2 =>
 (ldV true 11 v2 0).bind fun v3 =>
 ckA 11 v3 <|
 cl0 c 43 [(norm1 (agN 11 v3))] (fun w=>om (pnk w [])) fun v4 =>
 ck1 (norm1 v4) <|
 (appV 1 16 (gt s 3) (.list [(norm1 v4)])).bind fun v5 =>
 (b0 .add (gt s 2) (.int .i64 1)).bind fun v6 =>
 some (.next [(gt s 0),(gt s 1),v6,v5]))
 (om (zfw c l (gt s 3)))
noncomputable def zhp (c:Orc) (l:Lup) (x0:V):Option Out :=
 (lenL x0).bind fun v1 =>
 l Out (zcD c l) [x0,v1,(.int .i64 0),.nils]
def zgN:List LA:=[⟨false,[(3,.q 24),(6,.d),(7,.d),(8,.d)],[.rq 24 9 1]⟩]
theorem zmJ (G:Nat→Vm.V) (c:Orc) (l:Lup) (x0:V):evF Tryz.prog G c l [] 10 zgN 91 [.d x0] []=zhp c l x0:=by kernel_rfl
noncomputable def zkj (c:Orc) (l:Lup) (x0 x1:V):Option Out :=
 ckA 11 x0 <|
 cnd (cell x0 8) ((b0 .add (.str [32,110,111,116,32]) x1).bind fun v1 =>
 (b0 .add v1 (.str [32])).bind fun v2 =>
 rtn (norm1 v2) [])
 ((b0 .add (.str [32]) x1).bind fun v3 =>
 (b0 .add v3 (.str [32])).bind fun v4 =>
 rtn (norm1 v4) [])
theorem zry (G:Nat→Vm.V) (c:Orc) (l:Lup) (x0 x1:V):evF Tryz.prog G c l [] 10 [] 90 [.d x0,.d x1] []=zkj c l x0 x1:=by kernel_rfl
noncomputable def zb3 (c:Orc) (l:Lup) (a3_0:V):Option Out :=
 (appV 1 16 a3_0 (.list [(.str [101,110,100])])).bind fun v1 =>
 cl0 c 42 [(norm1 v1),(.str [32])] (fun w=>pnk w []) fun v2 =>
 rtn (norm1 v2) []
noncomputable def zcK (c:Orc) (l:Lup) (a2_0 a2_1:V):Option Out :=
 (lenL a2_0).bind fun v1 =>
 (b0 .eql v1 (.int .i64 1)).bind fun v2 =>
 cnd v2 ((elV 11 a2_0 (.int .i64 0)).bind fun v3 =>
 (ldV true 11 v3 0).bind fun v4 =>
 cl0 c 43 [(norm1 v4)] (fun w=>pnk w []) fun v5 =>
 ck1 (norm1 v5) <|
 (appV 1 16 a2_1 (.list [(.str [101,108,115,101]),(norm1 v5)])).bind fun v6 =>
 zb3 c l v6)
 (zb3 c l a2_1)
noncomputable def zbs (c:Orc) (l:Lup) (s:List V):Option (Stp Out) :=
 (lenL (gt s 0)).bind fun v1 =>
 (b0 .gtr v1 (.int .i64 1)).bind fun v2 =>
 cnd v2 ((elV 11 (gt s 0) (.int .i64 0)).bind fun v3 =>
 (ldV true 11 v3 0).bind fun v4 =>
 (elV 11 (gt s 0) (.int .i64 1)).bind fun v5 =>
 (ldV true 11 v5 0).bind fun v6 =>
 cl0 c 43 [(norm1 v4)] (fun w=>om (pnk w [])) fun v7 =>
 cl0 c 43 [(norm1 v6)] (fun w=>om (pnk w [])) fun v8 =>
 ck1 (norm1 v7) <|
 ck1 (norm1 v8) <|
 (appV 1 16 (gt s 1) (.list [(.str [119,104,101,110]),(norm1 v7),(.str [116,104,101,110]),(norm1 v8)])).bind fun v9 =>
 (slL 11 (gt s 0) (some (.int .i64 2)) none).bind fun v10 =>
 some (.next [v10,v9]))
 (om (zcK c l (gt s 0) (gt s 1)))
noncomputable def zb4 (c:Orc) (l:Lup) (a1_0 a1_1:V):Option Out :=
 l Out (zbs c l) [a1_0,a1_1]
noncomputable def zb2 (c:Orc) (l:Lup) (a4_0 a4_1:V):Option Out :=
 cnd a4_1 ((elV 11 a4_0 (.int .i64 0)).bind fun v1 =>
 (ldV true 11 v1 0).bind fun v2 =>
 cl0 c 43 [(norm1 v2)] (fun w=>pnk w []) fun v3 =>
 ck1 (norm1 v3) <|
 (appV 1 16 (.list [(.str [99,97,115,101])]) (.list [(norm1 v3)])).bind fun v4 =>
 (slL 11 a4_0 (some (.int .i64 1)) none).bind fun v5 =>
 zb4 c l v5 v4)
 (zb4 c l a4_0 (.list [(.str [99,97,115,101])]))
noncomputable def zdF (c:Orc) (l:Lup) (x0:V):Option Out :=
 ckA 11 x0 <|
 cnd (cell x0 9) ((lenL (cell x0 10)).bind fun v1 =>
 (b0 .gtr v1 (.int .i64 0)).bind fun v2 =>
 zb2 c l (cell x0 10) v2)
 (zb2 c l (cell x0 10) (.bool false))
def zfc:List LA:=[⟨false,[(3,.d),(4,.q 15)],[.rq 15 9 1]⟩]
theorem zjC (G:Nat→Vm.V) (c:Orc) (l:Lup) (x0:V):evF Tryz.prog G c l [(30,15),(48,15),(62,15),(66,15)] 10 zfc 92 [.d x0] []=zdF c l x0:=by kernel_rfl
noncomputable def zcC (c:Orc) (l:Lup) (x0:V):Option Out :=
 ckA 11 x0 <|
 (b0 .eql (cell x0 0) (.int .i64 10)).bind fun v1 =>
 cnd v1 (cl0 c 91 [(norm1 (cell x0 10))] (fun w=>pnk w []) fun v2 =>
 (b0 .add (cell x0 1) v2).bind fun v3 =>
 rtn (norm1 v3) [])
 ((lenL (cell x0 10)).bind fun v4 =>
 (b0 .eql v4 (.int .i64 0)).bind fun v5 =>
 cnd v5 ((b0 .add (cell x0 1) (.str [40,42,41])).bind fun v6 =>
 rtn (norm1 v6) [])
 (cnd (cell x0 9) ((b0 .add (cell x0 1) (.str [40,100,105,115,116,105,110,99,116,32])).bind fun v7 =>
 cl0 c 94 [(norm1 (agN 11 x0)),(.int .i64 0)] (fun w=>pnk w []) fun v8 =>
 cl0 c 43 [(norm1 v8)] (fun w=>pnk w []) fun v9 =>
 (b0 .add v7 v9).bind fun v10 =>
 (b0 .add v10 (.str [41])).bind fun v11 =>
 rtn (norm1 v11) [])
 ((b0 .add (cell x0 1) (.str [40])).bind fun v12 =>
 cl0 c 94 [(norm1 (agN 11 x0)),(.int .i64 0)] (fun w=>pnk w []) fun v13 =>
 cl0 c 43 [(norm1 v13)] (fun w=>pnk w []) fun v14 =>
 (b0 .add v12 v14).bind fun v15 =>
 (b0 .add v15 (.str [41])).bind fun v16 =>
 rtn (norm1 v16) [])))
theorem zd4 (G:Nat→Vm.V) (c:Orc) (l:Lup) (x0:V):evF Tryz.prog G c l [] 10 [] 93 [.d x0] []=zcC c l x0:=by kernel_rfl
noncomputable def zan (c:Orc) (l:Lup) (a1_0 a1_1 a1_2:V):Option Out :=
 cnd a1_1 (cl0 c 93 [(norm1 (agN 11 a1_2))] (fun w=>pnk w []) fun v1 =>
 rtn (norm1 v1) [])
 ((b0 .eql a1_0 (.int .i64 12)).bind fun v2 =>
 cnd v2 (cl0 c 94 [(norm1 (agN 11 a1_2)),(.int .i64 0)] (fun w=>pnk w []) fun v3 =>
 cl0 c 43 [(norm1 v3)] (fun w=>pnk w []) fun v4 =>
 (b0 .add (.str [99,97,115,116,40]) v4).bind fun v5 =>
 (b0 .add v5 (.str [32,97,115,32])).bind fun v6 =>
 (b0 .add v6 (cell a1_2 1)).bind fun v7 =>
 (b0 .add v7 (.str [41])).bind fun v8 =>
 rtn (norm1 v8) [])
 (rtn (.str []) []))
noncomputable def zaw (c:Orc) (l:Lup) (x0:V):Option Out :=
 ckA 11 x0 <|
 (b0 .eql (cell x0 0) (.int .i64 1)).bind fun v1 =>
 cnd v1 (cl0 c 88 [(norm1 (.agg [(cell x0 2),(cell x0 3),(cell x0 4)]))] (fun w=>pnk w []) fun v2 =>
 rtn (norm1 v2) [])
 ((b0 .eql (cell x0 0) (.int .i64 2)).bind fun v3 =>
 cnd v3 ((b0 .neq (cell x0 5) (.str [])).bind fun v4 =>
 cnd v4 ((b0 .add (cell x0 5) (.str [46])).bind fun v5 =>
 (b0 .add v5 (cell x0 6)).bind fun v6 =>
 rtn (norm1 v6) [])
 (rtn (norm1 (cell x0 6)) []))
 ((b0 .eql (cell x0 0) (.int .i64 3)).bind fun v7 =>
 cnd v7 ((b0 .eql (cell x0 1) (.str [110,111,116])).bind fun v8 =>
 cnd v8 (cl0 c 89 [(norm1 (agN 11 x0)),(.int .i64 0)] (fun w=>pnk w []) fun v9 =>
 (b0 .add (.str [110,111,116,32]) v9).bind fun v10 =>
 rtn (norm1 v10) [])
 (cl0 c 89 [(norm1 (agN 11 x0)),(.int .i64 0)] (fun w=>pnk w []) fun v11 =>
 (b0 .add (cell x0 1) v11).bind fun v12 =>
 rtn (norm1 v12) []))
 ((b0 .eql (cell x0 0) (.int .i64 4)).bind fun v13 =>
 cnd v13 (cl0 c 89 [(norm1 (agN 11 x0)),(.int .i64 0)] (fun w=>pnk w []) fun v14 =>
 (b0 .add v14 (.str [32])).bind fun v15 =>
 (b0 .add v15 (cell x0 1)).bind fun v16 =>
 (b0 .add v16 (.str [32])).bind fun v17 =>
 cl0 c 89 [(norm1 (agN 11 x0)),(.int .i64 1)] (fun w=>pnk w []) fun v18 =>
 (b0 .add v17 v18).bind fun v19 =>
 rtn (norm1 v19) [])
 ((b0 .eql (cell x0 0) (.int .i64 5)).bind fun v20 =>
 cnd v20 (cnd (cell x0 8) (cl0 c 89 [(norm1 (agN 11 x0)),(.int .i64 0)] (fun w=>pnk w []) fun v21 =>
 (b0 .add v21 (.str [32,105,115,32,110,111,116,32])).bind fun v22 =>
 cl0 c 89 [(norm1 (agN 11 x0)),(.int .i64 1)] (fun w=>pnk w []) fun v23 =>
 (b0 .add v22 v23).bind fun v24 =>
 rtn (norm1 v24) [])
 (cl0 c 89 [(norm1 (agN 11 x0)),(.int .i64 0)] (fun w=>pnk w []) fun v25 =>
 (b0 .add v25 (.str [32,105,115,32])).bind fun v26 =>
 cl0 c 89 [(norm1 (agN 11 x0)),(.int .i64 1)] (fun w=>pnk w []) fun v27 =>
 (b0 .add v26 v27).bind fun v28 =>
 rtn (norm1 v28) []))
 ((b0 .eql (cell x0 0) (.int .i64 6)).bind fun v29 =>
 cnd v29 ((lenL (cell x0 10)).bind fun v30 =>
 (zjz .min (.int .i64 1) v30).bind fun v31 =>
 (slL 11 (cell x0 10) (some v31) none).bind fun v32 =>
 cl0 c 89 [(norm1 (agN 11 x0)),(.int .i64 0)] (fun w=>pnk w []) fun v33 =>
 cl0 c 90 [(norm1 (agN 11 x0)),(.str [105,110])] (fun w=>pnk w []) fun v34 =>
 (b0 .add v33 v34).bind fun v35 =>
 cl0 c 91 [(norm1 v32)] (fun w=>pnk w []) fun v36 =>
 (b0 .add v35 v36).bind fun v37 =>
 rtn (norm1 v37) [])
 ((b0 .eql (cell x0 0) (.int .i64 7)).bind fun v38 =>
 cnd v38 (cl0 c 89 [(norm1 (agN 11 x0)),(.int .i64 0)] (fun w=>pnk w []) fun v39 =>
 cl0 c 90 [(norm1 (agN 11 x0)),(.str [98,101,116,119,101,101,110])] (fun w=>pnk w []) fun v40 =>
 (b0 .add v39 v40).bind fun v41 =>
 cl0 c 89 [(norm1 (agN 11 x0)),(.int .i64 1)] (fun w=>pnk w []) fun v42 =>
 (b0 .add v41 v42).bind fun v43 =>
 (b0 .add v43 (.str [32,97,110,100,32])).bind fun v44 =>
 cl0 c 89 [(norm1 (agN 11 x0)),(.int .i64 2)] (fun w=>pnk w []) fun v45 =>
 (b0 .add v44 v45).bind fun v46 =>
 rtn (norm1 v46) [])
 ((b0 .eql (cell x0 0) (.int .i64 8)).bind fun v47 =>
 cnd v47 (cl0 c 89 [(norm1 (agN 11 x0)),(.int .i64 0)] (fun w=>pnk w []) fun v48 =>
 cl0 c 90 [(norm1 (agN 11 x0)),(.str [108,105,107,101])] (fun w=>pnk w []) fun v49 =>
 (b0 .add v48 v49).bind fun v50 =>
 cl0 c 89 [(norm1 (agN 11 x0)),(.int .i64 1)] (fun w=>pnk w []) fun v51 =>
 (b0 .add v50 v51).bind fun v52 =>
 rtn (norm1 v52) [])
 ((b0 .eql (cell x0 0) (.int .i64 9)).bind fun v53 =>
 cnd v53 (cl0 c 92 [(norm1 (agN 11 x0))] (fun w=>pnk w []) fun v54 =>
 rtn (norm1 v54) [])
 ((b0 .eql (cell x0 0) (.int .i64 10)).bind fun v55 =>
 cnd v55 (zan c l (cell x0 0) (.bool true) (agN 11 x0))
 ((b0 .eql (cell x0 0) (.int .i64 11)).bind fun v56 =>
 zan c l (cell x0 0) v56 (agN 11 x0)))))))))))
theorem znY (G:Nat→Vm.V) (c:Orc) (l:Lup) (x0:V):evF Tryz.prog G c l [] 10 [] 43 [.d x0] []=zaw c l x0:=by kernel_rfl
noncomputable def zcy (c:Orc) (l:Lup) (x0:V):Option Out :=
 ckA 3 x0 <|
 (b0 .eql (cell x0 0) (.int .i64 0)).bind fun v1 =>
 cnd v1 (rtn (.str [110,117,108,108]) [])
 ((b0 .eql (cell x0 0) (.int .i64 1)).bind fun v2 =>
 cnd v2 (cl0 c 119 [(norm1 (cell x0 1))] (fun w=>pnk w []) fun v3 =>
 rtn (norm1 v3) [])
 ((b0 .eql (cell x0 0) (.int .i64 2)).bind fun v4 =>
 cnd v4 (cl0 c 120 [(norm1 (cell x0 2)),(.str [39]),(.str [39,39])] (fun w=>pnk w []) fun v5 =>
 (b0 .add (.str [39]) v5).bind fun v6 =>
 (b0 .add v6 (.str [39])).bind fun v7 =>
 rtn (norm1 v7) [])
 ((b0 .eql (cell x0 0) (.int .i64 3)).bind fun v8 =>
 cnd v8 (cl0 c 121 [(norm1 (cell x0 2))] (fun w=>pnk w []) fun v9 =>
 (b0 .add (.str [120,39]) v9).bind fun v10 =>
 (b0 .add v10 (.str [39])).bind fun v11 =>
 rtn (norm1 v11) [])
 (rtn (.str []) []))))
theorem znS (G:Nat→Vm.V) (c:Orc) (l:Lup) (x0:V):evF Tryz.prog G c l [] 10 [] 88 [.d x0] []=zcy c l x0:=by kernel_rfl
def zh9:List LA:=[⟨false,[(1,.c (.p 10 0)),(3,.d),(4,.d)],[.bv 10 44 3]⟩]
noncomputable def annTx (f:FuncId) (d:List (Nat×Nat)×List LA):List (Nat×Nat)×List LA:=if f=91 then ([],zgN) else if f=92 then ([(30,15),(48,15),(62,15),(66,15)],zfc) else if f=48 then ([],zh9) else d
end Go.Proofs.YtlooegbcfkoloaaGreatDoor
namespace Go.Proofs.YtlooegbcfkoloaaGreatDoor
open Go.RowKit
open Vm
noncomputable def annTy (f:FuncId) (d:List (Nat×Nat)×List LA):List (Nat×Nat)×List LA:=d
end Go.Proofs.YtlooegbcfkoloaaGreatDoor
namespace Go.Proofs.YtlooegbcfkoloaaGreatDoor
open Go.RowKit
open Vm
noncomputable def zhc (c:Orc) (l:Lup) (x1 y0 y1:V):Option Out :=
 ck1 y1 <|
 ck1 x1 <|
 pnk (.iface 78 (norm1 (.agg [y1,x1]))) [.blk 76 [y0,y1]]
theorem zhJ (G:Nat→Vm.V) (c:Orc) (l:Lup) (x1 y0 y1:V):evF Tryz.prog G c l [] 10 [] 108 [.p 0 0,.d x1] [.blk 76 [y0,y1]]=zhc c l x1 y0 y1:=by kernel_rfl
noncomputable def zbM (c:Orc) (l:Lup) (x1 x2 x3 y0 y1:V):Option Out :=
 (b0 .add y1 x1).bind fun v1 =>
 (lenL y0).bind fun v2 =>
 (b0 .geq v1 v2).bind fun v3 =>
 cnd v3 (rtn (.bool false) [.blk 76 [y0,y1]])
 ((b0 .add y1 x1).bind fun v4 =>
 (elV 6 y0 v4).bind fun v5 =>
 (ldV true 6 v5 0).bind fun v6 =>
 ckA 6 v6 <|
 (b0 .eql (cell v6 0) x2).bind fun v7 =>
 cnd v7 ((b0 .eql x3 (.str [])).bind fun v8 =>
 cnd v8 (rtn (.bool true) [.blk 76 [y0,y1]])
 ((b0 .eql (cell v6 1) x3).bind fun v9 =>
 rtn (norm1 v9) [.blk 76 [y0,y1]]))
 (rtn (.bool false) [.blk 76 [y0,y1]]))
theorem zfy (G:Nat→Vm.V) (c:Orc) (l:Lup) (x1 x2 x3 y0 y1:V):evF Tryz.prog G c l [] 10 [] 128 [.p 0 0,.d x1,.d x2,.d x3] [.blk 76 [y0,y1]]=zbM c l x1 x2 x3 y0 y1:=by kernel_rfl
noncomputable def zcX (c:Orc) (l:Lup) (x1 x2 y0 y1:V):Option Out :=
 cl1 c 128 [(.ptr 0 0),(.int .i64 0),(norm1 x1),(norm1 x2)] (.blk 76 [y0,y1]) 76 2 (fun v3 v2=>pnk v3 [.blk 76 [(zaa v2 0),(zaa v2 1)]]) fun v1 v2 =>
 (zde .not v1).bind fun v4 =>
 cnd v4 (rtn (.bool false) [.blk 76 [(zaa v2 0),(zaa v2 1)]])
 ((b0 .add (zaa v2 1) (.int .i64 1)).bind fun v5 =>
 ck1 v5 <|
 rtn (.bool true) [.blk 76 [(zaa v2 0),v5]])
theorem ze0 (G:Nat→Vm.V) (c:Orc) (l:Lup) (x1 x2 y0 y1:V):evF Tryz.prog G c l [] 10 [] 107 [.p 0 0,.d x1,.d x2] [.blk 76 [y0,y1]]=zcX c l x1 x2 y0 y1:=by kernel_rfl
noncomputable def zed (c:Orc) (l:Lup) (x1 y0 y1:V):Option Out :=
 cl1 c 107 [(.ptr 0 0),(.int .i64 2),(norm1 x1)] (.blk 76 [y0,y1]) 76 2 (fun v3 v2=>pnk v3 [.blk 76 [(zaa v2 0),(zaa v2 1)]]) fun v1 v2 =>
 rtn (norm1 v1) [.blk 76 [(zaa v2 0),(zaa v2 1)]]
theorem zhD (G:Nat→Vm.V) (c:Orc) (l:Lup) (x1 y0 y1:V):evF Tryz.prog G c l [] 10 [] 65 [.p 0 0,.d x1] [.blk 76 [y0,y1]]=zed c l x1 y0 y1:=by kernel_rfl
noncomputable def zcJ (c:Orc) (l:Lup) (x1 y0 y1:V):Option Out :=
 cl1 c 65 [(.ptr 0 0),(norm1 x1)] (.blk 76 [y0,y1]) 76 2 (fun v3 v2=>pnk v3 [.blk 76 [(zaa v2 0),(zaa v2 1)]]) fun v1 v2 =>
 (zde .not v1).bind fun v4 =>
 cnd v4 (cl1 c 108 [(.ptr 0 0),(.int .i64 20)] (.blk 76 [(zaa v2 0),(zaa v2 1)]) 76 2 (fun v7 v6=>pnk v7 [.blk 76 [(zaa v6 0),(zaa v6 1)]]) fun v5 v6 =>
 rtn (.tup []) [.blk 76 [(zaa v6 0),(zaa v6 1)]])
 (rtn (.tup []) [.blk 76 [(zaa v2 0),(zaa v2 1)]])
theorem zhG (G:Nat→Vm.V) (c:Orc) (l:Lup) (x1 y0 y1:V):evF Tryz.prog G c l [] 10 [] 66 [.p 0 0,.d x1] [.blk 76 [y0,y1]]=zcJ c l x1 y0 y1:=by kernel_rfl
noncomputable def zcd (c:Orc) (l:Lup) (a1_0:V):Option Out :=
 (b0 .sub (cell a1_0 1) (.int .i64 1)).bind fun v1 =>
 (elV 6 (cell a1_0 0) v1).bind fun v2 =>
 (ldV false 1 v2 1).bind fun v3 =>
 rtn (norm1 v3) [.blk 76 [(cell a1_0 0),(cell a1_0 1)]]
noncomputable def zb0 (c:Orc) (l:Lup) (y0 y1:V):Option Out :=
 cl1 c 107 [(.ptr 0 0),(.int .i64 1),(.str [])] (.blk 76 [y0,y1]) 76 2 (fun v3 v2=>pnk v3 [.blk 76 [(zaa v2 0),(zaa v2 1)]]) fun v1 v2 =>
 (zde .not v1).bind fun v4 =>
 cnd v4 (cl1 c 108 [(.ptr 0 0),(.int .i64 20)] (.blk 76 [(zaa v2 0),(zaa v2 1)]) 76 2 (fun v7 v6=>pnk v7 [.blk 76 [(zaa v6 0),(zaa v6 1)]]) fun v5 v6 =>
 zcd c l (.agg [(zaa v6 0),(zaa v6 1)]))
 (zcd c l (.agg [(zaa v2 0),(zaa v2 1)]))
theorem zhF (G:Nat→Vm.V) (c:Orc) (l:Lup) (y0 y1:V):evF Tryz.prog G c l [] 10 [] 129 [.p 0 0] [.blk 76 [y0,y1]]=zb0 c l y0 y1:=by kernel_rfl
noncomputable def zb1 (c:Orc) (l:Lup) (y0 y1:V):Option Out :=
 cl0 c 132 [(norm1 y0),(norm1 y1)] (fun w=>pnk w [.blk 76 [y0,y1]]) fun v1 =>
 (extV v1 0).bind fun v2 =>
 (extV v1 1).bind fun v3 =>
 (extV v1 2).bind fun v4 =>
 ckA 11 v2 <|
 ck1 v3 <|
 (b0 .neq v4 (.int .i64 0)).bind fun v5 =>
 cnd v5 (cl1 c 108 [(.ptr 0 0),(norm1 v4)] (.blk 76 [y0,v3]) 76 2 (fun v8 v7=>pnk v8 [.blk 76 [(zaa v7 0),(zaa v7 1)]]) fun v6 v7 =>
 ckA 11 (agN 11 v2) <|
 rtn (norm1 (agN 11 v2)) [.blk 76 [(zaa v7 0),(zaa v7 1)]])
 (ckA 11 (agN 11 v2) <|
 rtn (norm1 (agN 11 v2)) [.blk 76 [y0,v3]])
theorem zhK (G:Nat→Vm.V) (c:Orc) (l:Lup) (y0 y1:V):evF Tryz.prog G c l [] 10 [] 106 [.p 0 0] [.blk 76 [y0,y1]]=zb1 c l y0 y1:=by kernel_rfl
noncomputable def zd1 (c:Orc) (l:Lup) (s:List V):Option (Stp Out) :=
 cl1 c 107 [(.ptr 0 0),(.int .i64 4),(.str [44])] (.blk 76 [(cell (gt s 1) 0),(cell (gt s 1) 1)]) 76 2 (fun v3 v2=>om (pnk v3 [.blk 76 [(zaa v2 0),(zaa v2 1)]])) fun v1 v2 =>
 cnd v1 (cl1 c (fnG (gt s 0)) [(.ptr 0 0)] (.blk 76 [(zaa v2 0),(zaa v2 1)]) 76 2 (fun v6 v5=>om (pnk v6 [.blk 76 [(zaa v5 0),(zaa v5 1)]])) fun v4 v5 =>
 ckA 14 (norm1 v4) <|
 (appV 14 168 (gt s 2) (.list [(norm1 v4)])).bind fun v7 =>
 some (.next [(.fn (fnG (gt s 0)) [] []),(.agg [(zaa v5 0),(zaa v5 1)]),v7]))
 (om (rtn (norm1 (gt s 2)) [.blk 76 [(zaa v2 0),(zaa v2 1)]]))
noncomputable def zeK (c:Orc) (l:Lup) (g1:FuncId) (y0 y1:V):Option Out :=
 cl1 c g1 [(.ptr 0 0)] (.blk 76 [y0,y1]) 76 2 (fun v3 v2=>pnk v3 [.blk 76 [(zaa v2 0),(zaa v2 1)]]) fun v1 v2 =>
 ckA 14 (norm1 v1) <|
 l Out (zd1 c l) [(.fn g1 [] []),(.agg [(zaa v2 0),(zaa v2 1)]),(.list [(norm1 v1)])]
def zcw:List LA:=[⟨false,[(0,.c (.p 0 0)),(1,.f [.p 0 0] []),(5,.q 13)],[.bv 0 76 2,.rq 13 48 14]⟩]
theorem zfi (G:Nat→Vm.V) (c:Orc) (l:Lup) (g1:FuncId) (y0 y1:V):evF Tryz.prog G c l [(21,13)] 10 zcw 102 [.p 0 0,.f g1 [.p 0 0] []] [.blk 76 [y0,y1]]=zeK c l g1 y0 y1:=by kernel_rfl
noncomputable def zd2 (c:Orc) (l:Lup) (s:List V):Option (Stp Out) :=
 cl1 c 107 [(.ptr 0 0),(.int .i64 4),(.str [44])] (.blk 76 [(cell (gt s 1) 0),(cell (gt s 1) 1)]) 76 2 (fun v3 v2=>om (pnk v3 [.blk 76 [(zaa v2 0),(zaa v2 1)]])) fun v1 v2 =>
 cnd v1 (cl1 c (fnG (gt s 0)) [(.ptr 0 0)] (.blk 76 [(zaa v2 0),(zaa v2 1)]) 76 2 (fun v6 v5=>om (pnk v6 [.blk 76 [(zaa v5 0),(zaa v5 1)]])) fun v4 v5 =>
 ckA 11 (norm1 v4) <|
 (appV 11 128 (gt s 2) (.list [(norm1 v4)])).bind fun v7 =>
 some (.next [(.fn (fnG (gt s 0)) [] []),(.agg [(zaa v5 0),(zaa v5 1)]),v7]))
 (om (rtn (norm1 (gt s 2)) [.blk 76 [(zaa v2 0),(zaa v2 1)]]))
noncomputable def zeL (c:Orc) (l:Lup) (g1:FuncId) (y0 y1:V):Option Out :=
 cl1 c g1 [(.ptr 0 0)] (.blk 76 [y0,y1]) 76 2 (fun v3 v2=>pnk v3 [.blk 76 [(zaa v2 0),(zaa v2 1)]]) fun v1 v2 =>
 ckA 11 (norm1 v1) <|
 l Out (zd2 c l) [(.fn g1 [] []),(.agg [(zaa v2 0),(zaa v2 1)]),(.list [(norm1 v1)])]
def zcx:List LA:=[⟨false,[(0,.c (.p 0 0)),(1,.f [.p 0 0] []),(5,.q 13)],[.bv 0 76 2,.rq 13 46 11]⟩]
theorem zfj (G:Nat→Vm.V) (c:Orc) (l:Lup) (g1:FuncId) (y0 y1:V):evF Tryz.prog G c l [(21,13)] 10 zcx 105 [.p 0 0,.f g1 [.p 0 0] []] [.blk 76 [y0,y1]]=zeL c l g1 y0 y1:=by kernel_rfl
noncomputable def zd0 (c:Orc) (l:Lup) (s:List V):Option (Stp Out) :=
 cl1 c 107 [(.ptr 0 0),(.int .i64 4),(.str [44])] (.blk 76 [(cell (gt s 1) 0),(cell (gt s 1) 1)]) 76 2 (fun v3 v2=>om (pnk v3 [.blk 76 [(zaa v2 0),(zaa v2 1)]])) fun v1 v2 =>
 cnd v1 (cl1 c (fnG (gt s 0)) [(.ptr 0 0)] (.blk 76 [(zaa v2 0),(zaa v2 1)]) 76 2 (fun v6 v5=>om (pnk v6 [.blk 76 [(zaa v5 0),(zaa v5 1)]])) fun v4 v5 =>
 ckA 13 (norm1 v4) <|
 (appV 13 144 (gt s 2) (.list [(norm1 v4)])).bind fun v7 =>
 some (.next [(.fn (fnG (gt s 0)) [] []),(.agg [(zaa v5 0),(zaa v5 1)]),v7]))
 (om (rtn (norm1 (gt s 2)) [.blk 76 [(zaa v2 0),(zaa v2 1)]]))
noncomputable def zeJ (c:Orc) (l:Lup) (g1:FuncId) (y0 y1:V):Option Out :=
 cl1 c g1 [(.ptr 0 0)] (.blk 76 [y0,y1]) 76 2 (fun v3 v2=>pnk v3 [.blk 76 [(zaa v2 0),(zaa v2 1)]]) fun v1 v2 =>
 ckA 13 (norm1 v1) <|
 l Out (zd0 c l) [(.fn g1 [] []),(.agg [(zaa v2 0),(zaa v2 1)]),(.list [(norm1 v1)])]
def zcv:List LA:=[⟨false,[(0,.c (.p 0 0)),(1,.f [.p 0 0] []),(5,.q 13)],[.bv 0 76 2,.rq 13 50 13]⟩]
theorem zfh (G:Nat→Vm.V) (c:Orc) (l:Lup) (g1:FuncId) (y0 y1:V):evF Tryz.prog G c l [(21,13)] 10 zcv 67 [.p 0 0,.f g1 [.p 0 0] []] [.blk 76 [y0,y1]]=zeJ c l g1 y0 y1:=by kernel_rfl
noncomputable def zgn (c:Orc) (l:Lup) (x1 y0 y1:V):Option Out :=
 cl1 c 65 [(.ptr 0 0),(norm1 x1)] (.blk 76 [y0,y1]) 76 2 (fun v3 v2=>pnk v3 [.blk 76 [(zaa v2 0),(zaa v2 1)]]) fun v1 v2 =>
 (zde .not v1).bind fun v4 =>
 cnd v4 (rtn (.list []) [.blk 76 [(zaa v2 0),(zaa v2 1)]])
 (cl1 c 106 [(.ptr 0 0)] (.blk 76 [(zaa v2 0),(zaa v2 1)]) 76 2 (fun v7 v6=>pnk v7 [.blk 76 [(zaa v6 0),(zaa v6 1)]]) fun v5 v6 =>
 ckA 11 (norm1 v5) <|
 rtn (.list [(norm1 v5)]) [.blk 76 [(zaa v6 0),(zaa v6 1)]])
theorem zhk (G:Nat→Vm.V) (c:Orc) (l:Lup) (x1 y0 y1:V):evF Tryz.prog G c l [] 10 [] 69 [.p 0 0,.d x1] [.blk 76 [y0,y1]]=zgn c l x1 y0 y1:=by kernel_rfl
noncomputable def zaL (c:Orc) (l:Lup) (a1_0 a1_1:V):Option Out :=
 cnd a1_0 ((b0 .add (cell a1_1 1) (.int .i64 3)).bind fun v1 =>
 ck1 v1 <|
 (b0 .sub v1 (.int .i64 3)).bind fun v2 =>
 (elV 6 (cell a1_1 0) v2).bind fun v3 =>
 (ldV false 1 v3 1).bind fun v4 =>
 ck1 v4 <|
 ckA 14 (.agg [(.int .i64 0),(.str []),(.int .i64 0),(.int .i64 0),(.str []),(.str []),(.str []),(.int .i64 0),(.bool false),(.bool false),.nils,(.str []),(.bool true),v4]) <|
 rtn (norm1 (.agg [(.int .i64 0),(.str []),(.int .i64 0),(.int .i64 0),(.str []),(.str []),(.str []),(.int .i64 0),(.bool false),(.bool false),.nils,(.str []),(.bool true),v4])) [.blk 76 [(cell a1_1 0),v1]])
 (cl1 c 106 [(.ptr 0 0)] (.blk 76 [(cell a1_1 0),(cell a1_1 1)]) 76 2 (fun v7 v6=>pnk v7 [.blk 76 [(zaa v6 0),(zaa v6 1)]]) fun v5 v6 =>
 ckA 11 v5 <|
 ckA 14 (.agg [(cell v5 0),(cell v5 1),(cell v5 2),(cell v5 3),(cell v5 4),(cell v5 5),(cell v5 6),(cell v5 7),(cell v5 8),(cell v5 9),(cell v5 10),(.str []),(.bool false),(.str [])]) <|
 cl1 c 65 [(.ptr 0 0),(.str [97,115])] (.blk 76 [(zaa v6 0),(zaa v6 1)]) 76 2 (fun v10 v9=>pnk v10 [.blk 76 [(zaa v9 0),(zaa v9 1)]]) fun v8 v9 =>
 cnd v8 (cl1 c 129 [(.ptr 0 0)] (.blk 76 [(zaa v9 0),(zaa v9 1)]) 76 2 (fun v13 v12=>pnk v13 [.blk 76 [(zaa v12 0),(zaa v12 1)]]) fun v11 v12 =>
 ck1 v11 <|
 ckA 14 (.agg [(cell v5 0),(cell v5 1),(cell v5 2),(cell v5 3),(cell v5 4),(cell v5 5),(cell v5 6),(cell v5 7),(cell v5 8),(cell v5 9),(cell v5 10),v11,(.bool false),(.str [])]) <|
 rtn (norm1 (.agg [(cell v5 0),(cell v5 1),(cell v5 2),(cell v5 3),(cell v5 4),(cell v5 5),(cell v5 6),(cell v5 7),(cell v5 8),(cell v5 9),(cell v5 10),v11,(.bool false),(.str [])])) [.blk 76 [(zaa v12 0),(zaa v12 1)]])
 (ckA 14 (.agg [(cell v5 0),(cell v5 1),(cell v5 2),(cell v5 3),(cell v5 4),(cell v5 5),(cell v5 6),(cell v5 7),(cell v5 8),(cell v5 9),(cell v5 10),(.str []),(.bool false),(.str [])]) <|
 rtn (norm1 (.agg [(cell v5 0),(cell v5 1),(cell v5 2),(cell v5 3),(cell v5 4),(cell v5 5),(cell v5 6),(cell v5 7),(cell v5 8),(cell v5 9),(cell v5 10),(.str []),(.bool false),(.str [])])) [.blk 76 [(zaa v9 0),(zaa v9 1)]]))
noncomputable def zhb (c:Orc) (l:Lup) (y0 y1:V):Option Out :=
 cl1 c 107 [(.ptr 0 0),(.int .i64 4),(.str [42])] (.blk 76 [y0,y1]) 76 2 (fun v3 v2=>pnk v3 [.blk 76 [(zaa v2 0),(zaa v2 1)]]) fun v1 v2 =>
 cnd v1 (rtn (.agg [(.int .i64 0),(.str []),(.int .i64 0),(.int .i64 0),(.str []),(.str []),(.str []),(.int .i64 0),(.bool false),(.bool false),(.list []),(.str []),(.bool true),(.str [])]) [.blk 76 [(zaa v2 0),(zaa v2 1)]])
 (cl1 c 128 [(.ptr 0 0),(.int .i64 0),(.int .i64 1),(.str [])] (.blk 76 [(zaa v2 0),(zaa v2 1)]) 76 2 (fun v6 v5=>pnk v6 [.blk 76 [(zaa v5 0),(zaa v5 1)]]) fun v4 v5 =>
 cnd v4 (cl1 c 128 [(.ptr 0 0),(.int .i64 1),(.int .i64 4),(.str [46])] (.blk 76 [(zaa v5 0),(zaa v5 1)]) 76 2 (fun v9 v8=>pnk v9 [.blk 76 [(zaa v8 0),(zaa v8 1)]]) fun v7 v8 =>
 cnd v7 (cl1 c 128 [(.ptr 0 0),(.int .i64 2),(.int .i64 4),(.str [42])] (.blk 76 [(zaa v8 0),(zaa v8 1)]) 76 2 (fun v12 v11=>pnk v12 [.blk 76 [(zaa v11 0),(zaa v11 1)]]) fun v10 v11 =>
 zaL c l v10 (.agg [(zaa v11 0),(zaa v11 1)]))
 (zaL c l (.bool false) (.agg [(zaa v8 0),(zaa v8 1)])))
 (zaL c l (.bool false) (.agg [(zaa v5 0),(zaa v5 1)])))
theorem zhI (G:Nat→Vm.V) (c:Orc) (l:Lup) (y0 y1:V):evF Tryz.prog G c l [] 10 [] 103 [.p 0 0] [.blk 76 [y0,y1]]=zhb c l y0 y1:=by kernel_rfl
noncomputable def zbn (c:Orc) (l:Lup) (a1_0 a1_1:V):Option Out :=
 cl1 c 129 [(.ptr 0 0)] (.blk 76 [(cell a1_1 0),(cell a1_1 1)]) 76 2 (fun v3 v2=>pnk v3 [.blk 76 [(zaa v2 0),(zaa v2 1)]]) fun v1 v2 =>
 ck1 v1 <|
 ck1 v1 <|
 ck1 a1_0 <|
 ckA 4 (.agg [v1,v1,a1_0,.nils]) <|
 cl1 c 65 [(.ptr 0 0),(.str [97,115])] (.blk 76 [(zaa v2 0),(zaa v2 1)]) 76 2 (fun v6 v5=>pnk v6 [.blk 76 [(zaa v5 0),(zaa v5 1)]]) fun v4 v5 =>
 cnd v4 (cl1 c 129 [(.ptr 0 0)] (.blk 76 [(zaa v5 0),(zaa v5 1)]) 76 2 (fun v9 v8=>pnk v9 [.blk 76 [(zaa v8 0),(zaa v8 1)]]) fun v7 v8 =>
 ck1 v7 <|
 ckA 4 (.agg [v1,v7,a1_0,.nils]) <|
 rtn (norm1 (.agg [v1,v7,a1_0,.nils])) [.blk 76 [(zaa v8 0),(zaa v8 1)]])
 (ckA 4 (.agg [v1,v1,a1_0,.nils]) <|
 rtn (norm1 (.agg [v1,v1,a1_0,.nils])) [.blk 76 [(zaa v5 0),(zaa v5 1)]])
noncomputable def zaX (c:Orc) (l:Lup) (a2_0 a2_1 a2_2:V):Option Out :=
 cnd a2_1 (cl1 c 108 [(.ptr 0 0),(.int .i64 3)] (.blk 76 [(cell a2_2 0),(cell a2_2 1)]) 76 2 (fun v3 v2=>pnk v3 [.blk 76 [(zaa v2 0),(zaa v2 1)]]) fun v1 v2 =>
 zbn c l a2_0 (.agg [(zaa v2 0),(zaa v2 1)]))
 (zbn c l a2_0 (agN 2 a2_2))
noncomputable def zbL (c:Orc) (l:Lup) (x1 x2 y0 y1:V):Option Out :=
 (b0 .geq x1 (.int .i64 6)).bind fun v1 =>
 cnd v1 (cl1 c 128 [(.ptr 0 0),(.int .i64 0),(.int .i64 1),(.str [])] (.blk 76 [y0,y1]) 76 2 (fun v4 v3=>pnk v4 [.blk 76 [(zaa v3 0),(zaa v3 1)]]) fun v2 v3 =>
 zaX c l x2 v2 (.agg [(zaa v3 0),(zaa v3 1)]))
 (zaX c l x2 (.bool false) (.agg [y0,y1]))
theorem zhi (G:Nat→Vm.V) (c:Orc) (l:Lup) (x1 x2 y0 y1:V):evF Tryz.prog G c l [] 10 [] 130 [.p 0 0,.d x1,.d x2] [.blk 76 [y0,y1]]=zbL c l x1 x2 y0 y1:=by kernel_rfl
noncomputable def zha (c:Orc) (l:Lup) (y0 y1:V):Option Out :=
 cl1 c 107 [(.ptr 0 0),(.int .i64 4),(.str [44])] (.blk 76 [y0,y1]) 76 2 (fun v3 v2=>pnk v3 [.blk 76 [(zaa v2 0),(zaa v2 1)]]) fun v1 v2 =>
 cnd v1 (rtn (.tup [(.int .i64 0),(.bool true)]) [.blk 76 [(zaa v2 0),(zaa v2 1)]])
 (cl1 c 65 [(.ptr 0 0),(.str [99,114,111,115,115])] (.blk 76 [(zaa v2 0),(zaa v2 1)]) 76 2 (fun v6 v5=>pnk v6 [.blk 76 [(zaa v5 0),(zaa v5 1)]]) fun v4 v5 =>
 cnd v4 (cl1 c 66 [(.ptr 0 0),(.str [106,111,105,110])] (.blk 76 [(zaa v5 0),(zaa v5 1)]) 76 2 (fun v9 v8=>pnk v9 [.blk 76 [(zaa v8 0),(zaa v8 1)]]) fun v7 v8 =>
 rtn (.tup [(.int .i64 0),(.bool true)]) [.blk 76 [(zaa v8 0),(zaa v8 1)]])
 (cl1 c 65 [(.ptr 0 0),(.str [105,110,110,101,114])] (.blk 76 [(zaa v5 0),(zaa v5 1)]) 76 2 (fun v12 v11=>pnk v12 [.blk 76 [(zaa v11 0),(zaa v11 1)]]) fun v10 v11 =>
 cnd v10 (cl1 c 66 [(.ptr 0 0),(.str [106,111,105,110])] (.blk 76 [(zaa v11 0),(zaa v11 1)]) 76 2 (fun v15 v14=>pnk v15 [.blk 76 [(zaa v14 0),(zaa v14 1)]]) fun v13 v14 =>
 rtn (.tup [(.int .i64 1),(.bool true)]) [.blk 76 [(zaa v14 0),(zaa v14 1)]])
 (cl1 c 65 [(.ptr 0 0),(.str [108,101,102,116])] (.blk 76 [(zaa v11 0),(zaa v11 1)]) 76 2 (fun v18 v17=>pnk v18 [.blk 76 [(zaa v17 0),(zaa v17 1)]]) fun v16 v17 =>
 cnd v16 (cl1 c 66 [(.ptr 0 0),(.str [106,111,105,110])] (.blk 76 [(zaa v17 0),(zaa v17 1)]) 76 2 (fun v21 v20=>pnk v21 [.blk 76 [(zaa v20 0),(zaa v20 1)]]) fun v19 v20 =>
 rtn (.tup [(.int .i64 2),(.bool true)]) [.blk 76 [(zaa v20 0),(zaa v20 1)]])
 (cl1 c 65 [(.ptr 0 0),(.str [106,111,105,110])] (.blk 76 [(zaa v17 0),(zaa v17 1)]) 76 2 (fun v24 v23=>pnk v24 [.blk 76 [(zaa v23 0),(zaa v23 1)]]) fun v22 v23 =>
 cnd v22 (rtn (.tup [(.int .i64 1),(.bool true)]) [.blk 76 [(zaa v23 0),(zaa v23 1)]])
 (rtn (.tup [(.int .i64 0),(.bool false)]) [.blk 76 [(zaa v23 0),(zaa v23 1)]])))))
theorem zhH (G:Nat→Vm.V) (c:Orc) (l:Lup) (y0 y1:V):evF Tryz.prog G c l [] 10 [] 131 [.p 0 0] [.blk 76 [y0,y1]]=zha c l y0 y1:=by kernel_rfl
noncomputable def zba (c:Orc) (l:Lup) (a1_0 a1_1 a1_2 a1_3 a1_4 a1_5:V):Option (Stp Out) :=
 ckA 4 (norm1 (.agg [a1_2,a1_3,a1_4,a1_5])) <|
 (appV 4 64 a1_1 (.list [(norm1 (.agg [a1_2,a1_3,a1_4,a1_5]))])).bind fun v1 =>
 some (.next [(agN 2 a1_0),v1])
noncomputable def zaj (c:Orc) (l:Lup) (s:List V):Option (Stp Out) :=
 cl1 c 131 [(.ptr 0 0)] (.blk 76 [(cell (gt s 0) 0),(cell (gt s 0) 1)]) 76 2 (fun v3 v2=>om (pnk v3 [.blk 76 [(zaa v2 0),(zaa v2 1)]])) fun v1 v2 =>
 (extV v1 0).bind fun v4 =>
 (extV v1 1).bind fun v5 =>
 (zde .not v5).bind fun v6 =>
 cnd v6 (om (rtn (norm1 (gt s 1)) [.blk 76 [(zaa v2 0),(zaa v2 1)]]))
 ((lenL (gt s 1)).bind fun v7 =>
 cl1 c 130 [(.ptr 0 0),(norm1 v7),(norm1 v4)] (.blk 76 [(zaa v2 0),(zaa v2 1)]) 76 2 (fun v10 v9=>om (pnk v10 [.blk 76 [(zaa v9 0),(zaa v9 1)]])) fun v8 v9 =>
 ckA 4 v8 <|
 (b0 .neq v4 (.int .i64 0)).bind fun v11 =>
 cnd v11 (cl1 c 66 [(.ptr 0 0),(.str [111,110])] (.blk 76 [(zaa v9 0),(zaa v9 1)]) 76 2 (fun v14 v13=>om (pnk v14 [.blk 76 [(zaa v13 0),(zaa v13 1)]])) fun v12 v13 =>
 cl1 c 106 [(.ptr 0 0)] (.blk 76 [(zaa v13 0),(zaa v13 1)]) 76 2 (fun v17 v16=>om (pnk v17 [.blk 76 [(zaa v16 0),(zaa v16 1)]])) fun v15 v16 =>
 ckA 11 (norm1 v15) <|
 zba c l (.agg [(zaa v16 0),(zaa v16 1)]) (gt s 1) (cell v8 0) (cell v8 1) (cell v8 2) (.list [(norm1 v15)]))
 (zba c l (.agg [(zaa v9 0),(zaa v9 1)]) (gt s 1) (cell v8 0) (cell v8 1) (cell v8 2) (cell v8 3)))
noncomputable def zf9 (c:Orc) (l:Lup) (y0 y1:V):Option Out :=
 cl1 c 130 [(.ptr 0 0),(.int .i64 0),(.int .i64 0)] (.blk 76 [y0,y1]) 76 2 (fun v3 v2=>pnk v3 [.blk 76 [(zaa v2 0),(zaa v2 1)]]) fun v1 v2 =>
 ckA 4 (norm1 v1) <|
 l Out (zaj c l) [(.agg [(zaa v2 0),(zaa v2 1)]),(.list [(norm1 v1)])]
def zdv:List LA:=[⟨false,[(0,.c (.p 0 0)),(3,.q 13)],[.bv 0 76 2,.rq 13 42 4]⟩]
theorem zgu (G:Nat→Vm.V) (c:Orc) (l:Lup) (y0 y1:V):evF Tryz.prog G c l [(45,13)] 10 zdv 104 [.p 0 0] [.blk 76 [y0,y1]]=zf9 c l y0 y1:=by kernel_rfl
noncomputable def zbv (c:Orc) (l:Lup) (a2_0 a2_1:V):Option Out :=
 cl1 c 69 [(.ptr 0 0),(.str [104,97,118,105,110,103])] (.blk 76 [(cell a2_0 0),(cell a2_0 1)]) 76 2 (fun v3 v2=>pnk v3 [.blk 76 [(zaa v2 0),(zaa v2 1)]]) fun v1 v2 =>
 ck1 v1 <|
 ckA 6 (.agg [(cell a2_1 0),(cell a2_1 1),(cell a2_1 2),(cell a2_1 3),v1,(cell a2_1 5)]) <|
 rtn (norm1 (.agg [(cell a2_1 0),(cell a2_1 1),(cell a2_1 2),(cell a2_1 3),v1,(cell a2_1 5)])) [.blk 76 [(zaa v2 0),(zaa v2 1)]]
noncomputable def zaM (c:Orc) (l:Lup) (a1_0 a1_1:V):Option Out :=
 cl1 c 69 [(.ptr 0 0),(.str [119,104,101,114,101])] (.blk 76 [(cell a1_0 0),(cell a1_0 1)]) 76 2 (fun v3 v2=>pnk v3 [.blk 76 [(zaa v2 0),(zaa v2 1)]]) fun v1 v2 =>
 ck1 v1 <|
 cl1 c 65 [(.ptr 0 0),(.str [103,114,111,117,112])] (.blk 76 [(zaa v2 0),(zaa v2 1)]) 76 2 (fun v6 v5=>pnk v6 [.blk 76 [(zaa v5 0),(zaa v5 1)]]) fun v4 v5 =>
 cnd v4 (cl1 c 66 [(.ptr 0 0),(.str [98,121])] (.blk 76 [(zaa v5 0),(zaa v5 1)]) 76 2 (fun v9 v8=>pnk v9 [.blk 76 [(zaa v8 0),(zaa v8 1)]]) fun v7 v8 =>
 cl1 c 105 [(.ptr 0 0),(.fn 106 [(.ptr 0 0)] [])] (.blk 76 [(zaa v8 0),(zaa v8 1)]) 76 2 (fun v12 v11=>pnk v12 [.blk 76 [(zaa v11 0),(zaa v11 1)]]) fun v10 v11 =>
 ck1 v10 <|
 zbv c l (.agg [(zaa v11 0),(zaa v11 1)]) (.agg [(cell a1_1 0),(cell a1_1 1),(cell a1_1 2),v1,(cell a1_1 4),v10]))
 (zbv c l (.agg [(zaa v5 0),(zaa v5 1)]) (.agg [(cell a1_1 0),(cell a1_1 1),(cell a1_1 2),v1,(cell a1_1 4),(cell a1_1 5)]))
noncomputable def zhd (c:Orc) (l:Lup) (y0 y1:V):Option Out :=
 cl1 c 66 [(.ptr 0 0),(.str [115,101,108,101,99,116])] (.blk 76 [y0,y1]) 76 2 (fun v3 v2=>pnk v3 [.blk 76 [(zaa v2 0),(zaa v2 1)]]) fun v1 v2 =>
 cl1 c 65 [(.ptr 0 0),(.str [100,105,115,116,105,110,99,116])] (.blk 76 [(zaa v2 0),(zaa v2 1)]) 76 2 (fun v6 v5=>pnk v6 [.blk 76 [(zaa v5 0),(zaa v5 1)]]) fun v4 v5 =>
 ck1 v4 <|
 ckA 6 (.agg [v4,.nils,.nils,.nils,.nils,.nils]) <|
 cl1 c 102 [(.ptr 0 0),(.fn 103 [(.ptr 0 0)] [])] (.blk 76 [(zaa v5 0),(zaa v5 1)]) 76 2 (fun v9 v8=>pnk v9 [.blk 76 [(zaa v8 0),(zaa v8 1)]]) fun v7 v8 =>
 ck1 v7 <|
 cl1 c 65 [(.ptr 0 0),(.str [102,114,111,109])] (.blk 76 [(zaa v8 0),(zaa v8 1)]) 76 2 (fun v12 v11=>pnk v12 [.blk 76 [(zaa v11 0),(zaa v11 1)]]) fun v10 v11 =>
 cnd v10 (cl1 c 104 [(.ptr 0 0)] (.blk 76 [(zaa v11 0),(zaa v11 1)]) 76 2 (fun v15 v14=>pnk v15 [.blk 76 [(zaa v14 0),(zaa v14 1)]]) fun v13 v14 =>
 ck1 v13 <|
 zaM c l (.agg [(zaa v14 0),(zaa v14 1)]) (.agg [v4,v7,v13,.nils,.nils,.nils]))
 (zaM c l (.agg [(zaa v11 0),(zaa v11 1)]) (.agg [v4,v7,.nils,.nils,.nils,.nils]))
theorem zhL (G:Nat→Vm.V) (c:Orc) (l:Lup) (y0 y1:V):evF Tryz.prog G c l [] 10 [] 63 [.p 0 0] [.blk 76 [y0,y1]]=zhd c l y0 y1:=by kernel_rfl
noncomputable def zdk (c:Orc) (l:Lup) (a1_0:V):Option Out :=
 cl1 c 108 [(.ptr 0 0),(.int .i64 20)] (.blk 76 [(cell a1_0 0),(cell a1_0 1)]) 76 2 (fun v3 v2=>pnk v3 [.blk 76 [(zaa v2 0),(zaa v2 1)]]) fun v1 v2 =>
 rtn (.int .i64 0) [.blk 76 [(zaa v2 0),(zaa v2 1)]]
noncomputable def zak (c:Orc) (l:Lup) (a2_0 a2_1 a2_2 a2_3 a2_4 a2_5:V):Option (Stp Out) :=
 cnd a2_3 ((b0 .add (cell a2_4 1) (.int .i64 1)).bind fun v1 =>
 ck1 v1 <|
 om (rtn (norm1 a2_0) [.blk 76 [(cell a2_4 0),v1]]))
 ((b0 .add a2_2 (.int .i64 1)).bind fun v2 =>
 some (.next [a2_1,v2,(agN 2 a2_4),a2_5]))
noncomputable def zah (c:Orc) (l:Lup) (s:List V):Option (Stp Out) :=
 (b0 .lss (gt s 1) (gt s 0)).bind fun v1 =>
 cnd v1 ((elV 1 (gt s 3) (gt s 1)).bind fun v2 =>
 (ldV false 1 v2 0).bind fun v3 =>
 ag (eqS oeq) <|
 (lenL (cell (gt s 2) 0)).bind fun v4 =>
 (b0 .lss (cell (gt s 2) 1) v4).bind fun v5 =>
 cnd v5 (cl1 c 128 [(.ptr 0 0),(.int .i64 0),(.int .i64 2),(.str [])] (.blk 76 [(cell (gt s 2) 0),(cell (gt s 2) 1)]) 76 2 (fun v8 v7=>om (pnk v8 [.blk 76 [(zaa v7 0),(zaa v7 1)]])) fun v6 v7 =>
 cnd v6 ((elV 6 (zaa v7 0) (zaa v7 1)).bind fun v9 =>
 (ldV false 1 v9 1).bind fun v10 =>
 cl0 c 59 [(norm1 v10)] (fun w=>om (pnk w [.blk 76 [(zaa v7 0),(zaa v7 1)]])) fun v11 =>
 (b0 .eql v11 v3).bind fun v12 =>
 zak c l (gt s 1) (gt s 0) (gt s 1) v12 (.agg [(zaa v7 0),(zaa v7 1)]) (gt s 3))
 (cl1 c 128 [(.ptr 0 0),(.int .i64 0),(.int .i64 1),(.str [])] (.blk 76 [(zaa v7 0),(zaa v7 1)]) 76 2 (fun v15 v14=>om (pnk v15 [.blk 76 [(zaa v14 0),(zaa v14 1)]])) fun v13 v14 =>
 cnd v13 ((elV 6 (zaa v14 0) (zaa v14 1)).bind fun v16 =>
 (ldV false 1 v16 1).bind fun v17 =>
 cl0 c 59 [(norm1 v17)] (fun w=>om (pnk w [.blk 76 [(zaa v14 0),(zaa v14 1)]])) fun v18 =>
 (b0 .eql v18 v3).bind fun v19 =>
 zak c l (gt s 1) (gt s 0) (gt s 1) v19 (.agg [(zaa v14 0),(zaa v14 1)]) (gt s 3))
 (zak c l (gt s 1) (gt s 0) (gt s 1) (.bool false) (.agg [(zaa v14 0),(zaa v14 1)]) (gt s 3))))
 (zak c l (gt s 1) (gt s 0) (gt s 1) (.bool false) (agN 2 (gt s 2)) (gt s 3)))
 (om (zdk c l (agN 2 (gt s 2))))
noncomputable def zhe (c:Orc) (l:Lup) (y0 y1:V):Option Out :=
 (lenL (.list [(.str [98,105,110,97,114,121]),(.str [110,111,99,97,115,101])])).bind fun v1 =>
 l Out (zah c l) [v1,(.int .i64 0),(.agg [y0,y1]),(.list [(.str [98,105,110,97,114,121]),(.str [110,111,99,97,115,101])])]
def zdX:List LA:=[⟨false,[(0,.c (.p 0 0)),(5,.q 11),(6,.d),(7,.d)],[.bv 0 76 2,.rq 11 9 1]⟩]
theorem zhM (G:Nat→Vm.V) (c:Orc) (l:Lup) (y0 y1:V):evF Tryz.prog G c l [] 10 zdX 109 [.p 0 0] [.blk 76 [y0,y1]]=zhe c l y0 y1:=by kernel_rfl
noncomputable def zbu (c:Orc) (l:Lup) (a1_0 a1_1:V):Option Out :=
 cl1 c 65 [(.ptr 0 0),(.str [97,115,99])] (.blk 76 [(cell a1_0 0),(cell a1_0 1)]) 76 2 (fun v3 v2=>pnk v3 [.blk 76 [(zaa v2 0),(zaa v2 1)]]) fun v1 v2 =>
 (zde .not v1).bind fun v4 =>
 cnd v4 (cl1 c 65 [(.ptr 0 0),(.str [100,101,115,99])] (.blk 76 [(zaa v2 0),(zaa v2 1)]) 76 2 (fun v7 v6=>pnk v7 [.blk 76 [(zaa v6 0),(zaa v6 1)]]) fun v5 v6 =>
 ck1 v5 <|
 ckA 13 (.agg [(cell a1_1 0),(cell a1_1 1),(cell a1_1 2),(cell a1_1 3),(cell a1_1 4),(cell a1_1 5),(cell a1_1 6),(cell a1_1 7),(cell a1_1 8),(cell a1_1 9),(cell a1_1 10),(cell a1_1 11),v5]) <|
 rtn (norm1 (.agg [(cell a1_1 0),(cell a1_1 1),(cell a1_1 2),(cell a1_1 3),(cell a1_1 4),(cell a1_1 5),(cell a1_1 6),(cell a1_1 7),(cell a1_1 8),(cell a1_1 9),(cell a1_1 10),(cell a1_1 11),v5])) [.blk 76 [(zaa v6 0),(zaa v6 1)]])
 (ckA 13 (agN 13 a1_1) <|
 rtn (norm1 (agN 13 a1_1)) [.blk 76 [(zaa v2 0),(zaa v2 1)]])
noncomputable def zg9 (c:Orc) (l:Lup) (y0 y1:V):Option Out :=
 cl1 c 106 [(.ptr 0 0)] (.blk 76 [y0,y1]) 76 2 (fun v3 v2=>pnk v3 [.blk 76 [(zaa v2 0),(zaa v2 1)]]) fun v1 v2 =>
 ckA 11 v1 <|
 ckA 13 (.agg [(cell v1 0),(cell v1 1),(cell v1 2),(cell v1 3),(cell v1 4),(cell v1 5),(cell v1 6),(cell v1 7),(cell v1 8),(cell v1 9),(cell v1 10),(.int .i64 0),(.bool false)]) <|
 cl1 c 65 [(.ptr 0 0),(.str [99,111,108,108,97,116,101])] (.blk 76 [(zaa v2 0),(zaa v2 1)]) 76 2 (fun v6 v5=>pnk v6 [.blk 76 [(zaa v5 0),(zaa v5 1)]]) fun v4 v5 =>
 cnd v4 (cl1 c 109 [(.ptr 0 0)] (.blk 76 [(zaa v5 0),(zaa v5 1)]) 76 2 (fun v9 v8=>pnk v9 [.blk 76 [(zaa v8 0),(zaa v8 1)]]) fun v7 v8 =>
 ck1 v7 <|
 zbu c l (.agg [(zaa v8 0),(zaa v8 1)]) (.agg [(cell v1 0),(cell v1 1),(cell v1 2),(cell v1 3),(cell v1 4),(cell v1 5),(cell v1 6),(cell v1 7),(cell v1 8),(cell v1 9),(cell v1 10),v7,(.bool false)]))
 (zbu c l (.agg [(zaa v5 0),(zaa v5 1)]) (.agg [(cell v1 0),(cell v1 1),(cell v1 2),(cell v1 3),(cell v1 4),(cell v1 5),(cell v1 6),(cell v1 7),(cell v1 8),(cell v1 9),(cell v1 10),(.int .i64 0),(.bool false)]))
theorem zhE (G:Nat→Vm.V) (c:Orc) (l:Lup) (y0 y1:V):evF Tryz.prog G c l [] 10 [] 68 [.p 0 0] [.blk 76 [y0,y1]]=zg9 c l y0 y1:=by kernel_rfl
noncomputable def zfJ (c:Orc) (l:Lup) (y0 y1:V):Option Out :=
 cl1 c 65 [(.ptr 0 0),(.str [117,110,105,111,110])] (.blk 76 [y0,y1]) 76 2 (fun v3 v2=>pnk v3 [.blk 76 [(zaa v2 0),(zaa v2 1)]]) fun v1 v2 =>
 cnd v1 (cl1 c 65 [(.ptr 0 0),(.str [97,108,108])] (.blk 76 [(zaa v2 0),(zaa v2 1)]) 76 2 (fun v6 v5=>pnk v6 [.blk 76 [(zaa v5 0),(zaa v5 1)]]) fun v4 v5 =>
 cnd v4 (rtn (.tup [(.int .i64 1),(.bool true)]) [.blk 76 [(zaa v5 0),(zaa v5 1)]])
 (rtn (.tup [(.int .i64 0),(.bool true)]) [.blk 76 [(zaa v5 0),(zaa v5 1)]]))
 (cl1 c 65 [(.ptr 0 0),(.str [105,110,116,101,114,115,101,99,116])] (.blk 76 [(zaa v2 0),(zaa v2 1)]) 76 2 (fun v9 v8=>pnk v9 [.blk 76 [(zaa v8 0),(zaa v8 1)]]) fun v7 v8 =>
 cnd v7 (rtn (.tup [(.int .i64 2),(.bool true)]) [.blk 76 [(zaa v8 0),(zaa v8 1)]])
 (cl1 c 65 [(.ptr 0 0),(.str [101,120,99,101,112,116])] (.blk 76 [(zaa v8 0),(zaa v8 1)]) 76 2 (fun v12 v11=>pnk v12 [.blk 76 [(zaa v11 0),(zaa v11 1)]]) fun v10 v11 =>
 cnd v10 (rtn (.tup [(.int .i64 3),(.bool true)]) [.blk 76 [(zaa v11 0),(zaa v11 1)]])
 (rtn (.tup [(.int .i64 0),(.bool false)]) [.blk 76 [(zaa v11 0),(zaa v11 1)]])))
theorem zga (G:Nat→Vm.V) (c:Orc) (l:Lup) (y0 y1:V):evF Tryz.prog G c l [] 10 [] 64 [.p 0 0] [.blk 76 [y0,y1]]=zfJ c l y0 y1:=by kernel_rfl
noncomputable def zbo (c:Orc) (l:Lup) (a2_0 a2_2 a2_4 a2_5 a2_6:V):Option Out :=
 cl1 c 69 [(.ptr 0 0),(.str [108,105,109,105,116])] (.blk 76 [(cell a2_0 0),(cell a2_0 1)]) 76 2 (fun v3 v2=>pnk v3 [.blk 76 [(zaa v2 0),(zaa v2 1)]]) fun v1 v2 =>
 ck1 v1 <|
 (lenL v1).bind fun v4 =>
 (b0 .gtr v4 (.int .i64 0)).bind fun v5 =>
 cnd v5 (cl1 c 69 [(.ptr 0 0),(.str [111,102,102,115,101,116])] (.blk 76 [(zaa v2 0),(zaa v2 1)]) 76 2 (fun v8 v7=>pnk v8 [.blk 76 [(zaa v7 0),(zaa v7 1)]]) fun v6 v7 =>
 ck1 v6 <|
 ckA 5 (.agg [a2_5,a2_6,a2_2,v1,v6]) <|
 rtn (norm1 (.agg [a2_5,a2_6,a2_2,v1,v6])) [.blk 76 [(zaa v7 0),(zaa v7 1)]])
 (ckA 5 (.agg [a2_5,a2_6,a2_2,v1,a2_4]) <|
 rtn (norm1 (.agg [a2_5,a2_6,a2_2,v1,a2_4])) [.blk 76 [(zaa v2 0),(zaa v2 1)]])
noncomputable def zb8 (c:Orc) (l:Lup) (a1_0 a1_2 a1_4 a1_5 a1_6:V):Option Out :=
 cl1 c 65 [(.ptr 0 0),(.str [111,114,100,101,114])] (.blk 76 [(cell a1_0 0),(cell a1_0 1)]) 76 2 (fun v3 v2=>pnk v3 [.blk 76 [(zaa v2 0),(zaa v2 1)]]) fun v1 v2 =>
 cnd v1 (cl1 c 66 [(.ptr 0 0),(.str [98,121])] (.blk 76 [(zaa v2 0),(zaa v2 1)]) 76 2 (fun v6 v5=>pnk v6 [.blk 76 [(zaa v5 0),(zaa v5 1)]]) fun v4 v5 =>
 cl1 c 67 [(.ptr 0 0),(.fn 68 [(.ptr 0 0)] [])] (.blk 76 [(zaa v5 0),(zaa v5 1)]) 76 2 (fun v9 v8=>pnk v9 [.blk 76 [(zaa v8 0),(zaa v8 1)]]) fun v7 v8 =>
 ck1 v7 <|
 zbo c l (.agg [(zaa v8 0),(zaa v8 1)]) v7 a1_4 a1_5 a1_6)
 (zbo c l (.agg [(zaa v2 0),(zaa v2 1)]) a1_2 a1_4 a1_5 a1_6)
noncomputable def zaI (c:Orc) (l:Lup) (s:List V):Option (Stp Out) :=
 cl1 c 64 [(.ptr 0 0)] (.blk 76 [(cell (gt s 0) 0),(cell (gt s 0) 1)]) 76 2 (fun v3 v2=>om (pnk v3 [.blk 76 [(zaa v2 0),(zaa v2 1)]])) fun v1 v2 =>
 (extV v1 0).bind fun v4 =>
 (extV v1 1).bind fun v5 =>
 (zde .not v5).bind fun v6 =>
 cnd v6 (om (zb8 c l (.agg [(zaa v2 0),(zaa v2 1)]) (gt s 3) (gt s 5) (gt s 2) (gt s 6)))
 (ck1 (norm1 v4) <|
 (appV 1 8 (gt s 6) (.list [(norm1 v4)])).bind fun v7 =>
 ag (eqS oeq) <|
 cl1 c 63 [(.ptr 0 0)] (.blk 76 [(zaa v2 0),(zaa v2 1)]) 76 2 (fun v10 v9=>om (pnk v10 [.blk 76 [(zaa v9 0),(zaa v9 1)]])) fun v8 v9 =>
 ckA 6 (norm1 v8) <|
 (appV 6 128 (gt s 2) (.list [(norm1 v8)])).bind fun v11 =>
 some (.next [(.agg [(zaa v9 0),(zaa v9 1)]),(agN 5 (gt s 1)),v11,(gt s 3),(gt s 4),(gt s 5),v7]))
noncomputable def zgm (c:Orc) (l:Lup) (y0 y1:V):Option Out :=
 cl1 c 63 [(.ptr 0 0)] (.blk 76 [y0,y1]) 76 2 (fun v3 v2=>pnk v3 [.blk 76 [(zaa v2 0),(zaa v2 1)]]) fun v1 v2 =>
 ckA 6 (norm1 v1) <|
 l Out (zaI c l) [(.agg [(zaa v2 0),(zaa v2 1)]),(.agg [.nils,.nils,.nils,.nils,.nils]),(.list [(norm1 v1)]),.nils,.nils,.nils,.nils]
def zdz:List LA:=[⟨false,[(0,.c (.p 0 0)),(2,.c (.p 10 0)),(3,.c (.p 15 0))],[.bv 0 76 2,.bv 10 28 5,.rq 13 40 6,.blk 15 28 [.q 13,.q 30,.d,.d,.d],.rq 30 3 1]⟩]
theorem zhj (G:Nat→Vm.V) (c:Orc) (l:Lup) (y0 y1:V):evF Tryz.prog G c l [(14,1014),(38,13)] 10 zdz 29 [.p 0 0] [.blk 76 [y0,y1]]=zgm c l y0 y1:=by kernel_rfl
noncomputable def zb7 (c:Orc) (m y0 y1 y2 y3 y4 y0_1 y0_2:V):Option (List Ent) :=
 gW m <|
 (binV .neq false true true m .niface).bind fun v1 =>
 cnd v1 ((tasW none 78 m).bind fun v2 =>
 ckA 2 v2 <|
 agr eeqs (agr eeqs (ck1 (cell v2 0) <|
 ck1 (cell v2 1) <|
 some [.blk 28 [.nils,.nils,.nils,.nils,.nils],.blk 3 [(cell v2 0)],.blk 29 [(cell v2 1)]])
 (ag eeqs <|
 ck1 (cell v2 0) <|
 ck1 (cell v2 1) <|
 some [.blk 28 [.nils,.nils,.nils,.nils,.nils],.blk 3 [(cell v2 0)],.blk 29 [(cell v2 1)]]))
 (ag eeqs <|
 ag eeqs <|
 ck1 (cell v2 0) <|
 ck1 (cell v2 1) <|
 some [.blk 28 [.nils,.nils,.nils,.nils,.nils],.blk 3 [(cell v2 0)],.blk 29 [(cell v2 1)]]))
 (some [.blk 28 [y0,y1,y2,y3,y4],.blk 3 [y0_1],.blk 29 [y0_2]])
noncomputable def zcB (c:Orc) (a1_0 a1_1 a1_2:V):Option Out :=
 cnd a1_2 (ck1 a1_1 <|
 rtn (.tup [(.agg [(.list []),(.list []),(.list []),(.list []),(.list [])]),(norm1 a1_1),(.int .i64 20)]) [])
 (ck1 a1_0 <|
 ck1 a1_1 <|
 ckA 2 (.agg [a1_0,a1_1]) <|
 cl1 c 29 [(.ptr 0 0)] (.blk 76 [a1_0,a1_1]) 76 2 (fun v3 v2=>dfr (zb7 c v3 .nils .nils .nils .nils .nils (.int .i64 0) (.int .i64 0)) [(28,5),(3,1),(29,1)] fun v4 =>
 rtn (.tup [(norm1 (.agg [(zaa (nth v4 0) 0),(zaa (nth v4 0) 1),(zaa (nth v4 0) 2),(zaa (nth v4 0) 3),(zaa (nth v4 0) 4)])),(norm1 (zaa (nth v4 1) 0)),(norm1 (zaa (nth v4 2) 0))]) []) fun v1 v2 =>
 ckA 5 v1 <|
 ag oeq <|
 ckA 5 (agN 5 v1) <|
 ck1 (zaa v2 1) <|
 dfr (zb7 c .niface (cell v1 0) (cell v1 1) (cell v1 2) (cell v1 3) (cell v1 4) (zaa v2 1) (.int .i64 0)) [(28,5),(3,1),(29,1)] fun v5 =>
 rtn (.tup [(norm1 (.agg [(zaa (nth v5 0) 0),(zaa (nth v5 0) 1),(zaa (nth v5 0) 2),(zaa (nth v5 0) 3),(zaa (nth v5 0) 4)])),(norm1 (zaa (nth v5 1) 0)),(norm1 (zaa (nth v5 2) 0))]) [])
noncomputable def zfg (c:Orc) (x0 x1:V):Option Out :=
 (b0 .lss x1 (.int .i64 0)).bind fun v1 =>
 cnd v1 (zcB c x0 x1 (.bool true))
 ((lenL x0).bind fun v2 =>
 (b0 .gtr x1 v2).bind fun v3 =>
 zcB c x0 x1 v3)
theorem zmI (G:Nat→Vm.V) (c:Orc) (x0 x1:V):evFD Tryz.prog G c [10,11,12,29] [(4,0),(5,1),(6,2)] 12 [.d x0,.d x1]=zfg c x0 x1:=by kernel_rfl
noncomputable def zbR (c:Orc) (l:Lup) (a1_0 a1_1 a1_2 a1_3 a1_4:V):Option Out :=
 (b0 .eql a1_2 (.int .i64 0)).bind fun v1 =>
 cnd v1 ((lenS a1_0).bind fun v2 =>
 ckA 5 (agN 5 a1_4) <|
 rtn (.tup [(norm1 (agN 5 a1_4)),(norm1 v2),(.int .i64 0)]) [])
 ((lenL a1_1).bind fun v3 =>
 (b0 .lss a1_3 v3).bind fun v4 =>
 cnd v4 ((elV 6 a1_1 a1_3).bind fun v5 =>
 ag oeq <|
 (ldV false 1 v5 5).bind fun v6 =>
 rtn (.tup [(.agg [(.list []),(.list []),(.list []),(.list []),(.list [])]),(norm1 v6),(norm1 a1_2)]) [])
 ((lenS a1_0).bind fun v7 =>
 rtn (.tup [(.agg [(.list []),(.list []),(.list []),(.list []),(.list [])]),(norm1 v7),(norm1 a1_2)]) []))
noncomputable def zbA (c:Orc) (l:Lup) (a2_0 a2_1 a2_2 a2_3 a2_4 a2_5:V):Option Out :=
 cnd a2_4 (zbR c l a2_0 a2_1 (.int .i64 20) a2_3 (agN 5 a2_5))
 (zbR c l a2_0 a2_1 a2_2 a2_3 (agN 5 a2_5))
noncomputable def zcY (c:Orc) (l:Lup) (x0:V):Option Out :=
 cl0 c 11 [(norm1 x0)] (fun w=>pnk w []) fun v1 =>
 (extV v1 0).bind fun v2 =>
 (extV v1 1).bind fun v3 =>
 (extV v1 2).bind fun v4 =>
 (b0 .neq v4 (.int .i64 0)).bind fun v5 =>
 cnd v5 (rtn (.tup [(.agg [(.list []),(.list []),(.list []),(.list []),(.list [])]),(norm1 v3),(norm1 v4)]) [])
 (cl0 c 12 [(norm1 v2),(.int .i64 0)] (fun w=>pnk w []) fun v6 =>
 (extV v6 0).bind fun v7 =>
 (extV v6 1).bind fun v8 =>
 (extV v6 2).bind fun v9 =>
 ckA 5 v7 <|
 (b0 .eql v9 (.int .i64 0)).bind fun v10 =>
 cnd v10 ((lenL v2).bind fun v11 =>
 (b0 .lss v8 v11).bind fun v12 =>
 cnd v12 ((elV 6 v2 v8).bind fun v13 =>
 (ldV false 1 v13 0).bind fun v14 =>
 (b0 .neq v14 (.int .i64 0)).bind fun v15 =>
 zbA c l x0 v2 v9 v8 v15 (agN 5 v7))
 (zbA c l x0 v2 v9 v8 (.bool false) (agN 5 v7)))
 (zbA c l x0 v2 v9 v8 (.bool false) (agN 5 v7)))
theorem zrx (G:Nat→Vm.V) (c:Orc) (l:Lup) (x0:V):evF Tryz.prog G c l [] 10 [] 6 [.d x0] []=zcY c l x0:=by kernel_rfl
noncomputable def annUa (f:FuncId) (d:List (Nat×Nat)×List LA):List (Nat×Nat)×List LA:=if f=102 then ([(21,13)],zcw) else if f=105 then ([(21,13)],zcx) else if f=67 then ([(21,13)],zcv) else if f=104 then ([(45,13)],zdv) else if f=109 then ([],zdX) else if f=29 then ([(14,1014),(38,13)],zdz) else d
end Go.Proofs.YtlooegbcfkoloaaGreatDoor
namespace Go.Proofs.YtlooegbcfkoloaaGreatDoor
open Go.RowKit
open Vm
noncomputable def zeP (c:Orc) (l:Lup) (a1_0:V):Option Out :=
 cl0 c 42 [(norm1 a1_0),(.str [44,32])] (fun w=>pnk w []) fun v1 =>
 rtn (norm1 v1) []
noncomputable def zeO (c:Orc) (l:Lup) (s:List V):Option (Stp Out) :=
 (b0 .lss (gt s 3) (gt s 2)).bind fun v1 =>
 cnd v1 ((elV 14 (gt s 1) (gt s 3)).bind fun v2 =>
 (ldV true 14 v2 0).bind fun v3 =>
 ckA 14 v3 <|
 cl0 c (fnG (gt s 0)) [(norm1 (agN 14 v3))] (fun w=>om (pnk w [])) fun v4 =>
 ck1 (norm1 v4) <|
 (appV 1 16 (gt s 4) (.list [(norm1 v4)])).bind fun v5 =>
 (b0 .add (gt s 3) (.int .i64 1)).bind fun v6 =>
 some (.next [(.fn (fnG (gt s 0)) [] []),(gt s 1),(gt s 2),v6,v5]))
 (om (zeP c l (gt s 4)))
noncomputable def zfL (c:Orc) (l:Lup) (g1:FuncId) (x0:V):Option Out :=
 (lenL x0).bind fun v1 =>
 l Out (zeO c l) [(.fn g1 [] []),x0,v1,(.int .i64 0),.nils]
def zdc:List LA:=[⟨false,[(1,.f [] []),(5,.q 25),(8,.d),(9,.d),(10,.d)],[.rq 25 9 1]⟩]
theorem zgc (G:Nat→Vm.V) (c:Orc) (l:Lup) (g1:FuncId) (x0:V):evF Tryz.prog G c l [] 10 zdc 39 [.d x0,.f g1 [] []] []=zfL c l g1 x0:=by kernel_rfl
noncomputable def zeR (c:Orc) (l:Lup) (a1_0:V):Option Out :=
 cl0 c 42 [(norm1 a1_0),(.str [44,32])] (fun w=>pnk w []) fun v1 =>
 rtn (norm1 v1) []
noncomputable def zeQ (c:Orc) (l:Lup) (s:List V):Option (Stp Out) :=
 (b0 .lss (gt s 3) (gt s 2)).bind fun v1 =>
 cnd v1 ((elV 11 (gt s 1) (gt s 3)).bind fun v2 =>
 (ldV true 11 v2 0).bind fun v3 =>
 ckA 11 v3 <|
 cl0 c (fnG (gt s 0)) [(norm1 (agN 11 v3))] (fun w=>om (pnk w [])) fun v4 =>
 ck1 (norm1 v4) <|
 (appV 1 16 (gt s 4) (.list [(norm1 v4)])).bind fun v5 =>
 (b0 .add (gt s 3) (.int .i64 1)).bind fun v6 =>
 some (.next [(.fn (fnG (gt s 0)) [] []),(gt s 1),(gt s 2),v6,v5]))
 (om (zeR c l (gt s 4)))
noncomputable def zfM (c:Orc) (l:Lup) (g1:FuncId) (x0:V):Option Out :=
 (lenL x0).bind fun v1 =>
 l Out (zeQ c l) [(.fn g1 [] []),x0,v1,(.int .i64 0),.nils]
def zdd:List LA:=[⟨false,[(1,.f [] []),(5,.q 25),(8,.d),(9,.d),(10,.d)],[.rq 25 9 1]⟩]
theorem zgd (G:Nat→Vm.V) (c:Orc) (l:Lup) (g1:FuncId) (x0:V):evF Tryz.prog G c l [] 10 zdd 44 [.d x0,.f g1 [] []] []=zfM c l g1 x0:=by kernel_rfl
noncomputable def zeN (c:Orc) (l:Lup) (a1_0:V):Option Out :=
 cl0 c 42 [(norm1 a1_0),(.str [44,32])] (fun w=>pnk w []) fun v1 =>
 rtn (norm1 v1) []
noncomputable def zeM (c:Orc) (l:Lup) (s:List V):Option (Stp Out) :=
 (b0 .lss (gt s 3) (gt s 2)).bind fun v1 =>
 cnd v1 ((elV 13 (gt s 1) (gt s 3)).bind fun v2 =>
 (ldV true 13 v2 0).bind fun v3 =>
 ckA 13 v3 <|
 cl0 c (fnG (gt s 0)) [(norm1 (agN 13 v3))] (fun w=>om (pnk w [])) fun v4 =>
 ck1 (norm1 v4) <|
 (appV 1 16 (gt s 4) (.list [(norm1 v4)])).bind fun v5 =>
 (b0 .add (gt s 3) (.int .i64 1)).bind fun v6 =>
 some (.next [(.fn (fnG (gt s 0)) [] []),(gt s 1),(gt s 2),v6,v5]))
 (om (zeN c l (gt s 4)))
noncomputable def zfK (c:Orc) (l:Lup) (g1:FuncId) (x0:V):Option Out :=
 (lenL x0).bind fun v1 =>
 l Out (zeM c l) [(.fn g1 [] []),x0,v1,(.int .i64 0),.nils]
def zdb:List LA:=[⟨false,[(1,.f [] []),(5,.q 25),(8,.d),(9,.d),(10,.d)],[.rq 25 9 1]⟩]
theorem zgb (G:Nat→Vm.V) (c:Orc) (l:Lup) (g1:FuncId) (x0:V):evF Tryz.prog G c l [] 10 zdb 20 [.d x0,.f g1 [] []] []=zfK c l g1 x0:=by kernel_rfl
noncomputable def zet (c:Orc) (l:Lup) (x0 x1:V):Option Out :=
 (lenL x1).bind fun v1 =>
 (b0 .eql v1 (.int .i64 0)).bind fun v2 =>
 cnd v2 (rtn (.str []) [])
 ((b0 .add (.str [32]) x0).bind fun v3 =>
 (b0 .add v3 (.str [32])).bind fun v4 =>
 cl0 c 44 [(norm1 x1),(.fn 43 [] [])] (fun w=>pnk w []) fun v5 =>
 (b0 .add v4 v5).bind fun v6 =>
 rtn (norm1 v6) [])
theorem zli (G:Nat→Vm.V) (c:Orc) (l:Lup) (x0 x1:V):evF Tryz.prog G c l [] 10 [] 22 [.d x0,.d x1] []=zet c l x0 x1:=by kernel_rfl
noncomputable def zbI (c:Orc) (l:Lup) (a1_0 a1_1:V):Option Out :=
 cnd a1_0 (rtn (.str [42]) [])
 (cnd (cell a1_1 12) ((b0 .add (cell a1_1 13) (.str [46,42])).bind fun v1 =>
 rtn (norm1 v1) [])
 ((b0 .eql (cell a1_1 11) (.str [])).bind fun v2 =>
 cnd v2 (cl0 c 43 [(norm1 (agN 11 a1_1))] (fun w=>pnk w []) fun v3 =>
 rtn (norm1 v3) [])
 (cl0 c 43 [(norm1 (agN 11 a1_1))] (fun w=>pnk w []) fun v4 =>
 (b0 .add v4 (.str [32,97,115,32])).bind fun v5 =>
 (b0 .add v5 (cell a1_1 11)).bind fun v6 =>
 rtn (norm1 v6) [])))
noncomputable def zdl (c:Orc) (l:Lup) (x0:V):Option Out :=
 ckA 14 x0 <|
 cnd (cell x0 12) ((b0 .eql (cell x0 13) (.str [])).bind fun v1 =>
 zbI c l v1 (agN 14 x0))
 (zbI c l (.bool false) (agN 14 x0))
theorem znV (G:Nat→Vm.V) (c:Orc) (l:Lup) (x0:V):evF Tryz.prog G c l [] 10 [] 40 [.d x0] []=zdl c l x0:=by kernel_rfl
noncomputable def zbK (c:Orc) (l:Lup) (a3_0 a3_1 a3_2 a3_3 a3_4 a3_5:V):Option (Stp Out) :=
 cnd a3_4 (cl0 c 22 [(.str [111,110]),(norm1 (cell a3_5 3))] (fun w=>om (pnk w [])) fun v1 =>
 (b0 .add a3_0 v1).bind fun v2 =>
 (b0 .add a3_3 (.int .i64 1)).bind fun v3 =>
 some (.next [v2,a3_1,a3_2,v3]))
 ((b0 .add a3_3 (.int .i64 1)).bind fun v4 =>
 some (.next [a3_0,a3_1,a3_2,v4]))
noncomputable def zbm (c:Orc) (l:Lup) (a2_0 a2_1 a2_2 a2_3 a2_4 a2_5:V):Option (Stp Out) :=
 (b0 .gtr a2_1 (.int .i64 0)).bind fun v1 =>
 cnd v1 ((b0 .neq (cell a2_5 2) (.int .i64 0)).bind fun v2 =>
 zbK c l a2_0 a2_2 a2_3 a2_4 v2 (agN 4 a2_5))
 (zbK c l a2_0 a2_2 a2_3 a2_4 (.bool false) (agN 4 a2_5))
noncomputable def zaQ (c:Orc) (l:Lup) (a1_0 a1_1 a1_2 a1_3 a1_4 a1_5:V):Option (Stp Out) :=
 (b0 .add a1_0 (cell a1_5 0)).bind fun v1 =>
 (b0 .neq (cell a1_5 1) (cell a1_5 0)).bind fun v2 =>
 cnd v2 ((b0 .add (.str [32,97,115,32]) (cell a1_5 1)).bind fun v3 =>
 (b0 .add v1 v3).bind fun v4 =>
 zbm c l v4 a1_1 a1_2 a1_3 a1_4 (agN 4 a1_5))
 (zbm c l v1 a1_1 a1_2 a1_3 a1_4 (agN 4 a1_5))
noncomputable def zaP (c:Orc) (l:Lup) (s:List V):Option (Stp Out) :=
 (b0 .lss (gt s 3) (gt s 2)).bind fun v1 =>
 cnd v1 ((elV 4 (gt s 1) (gt s 3)).bind fun v2 =>
 (ldV true 4 v2 0).bind fun v3 =>
 ckA 4 v3 <|
 (b0 .eql (gt s 3) (.int .i64 0)).bind fun v4 =>
 cnd v4 (zaQ c l (.str [32,102,114,111,109,32]) (gt s 3) (gt s 1) (gt s 2) (gt s 3) (agN 4 v3))
 ((b0 .eql (cell v3 2) (.int .i64 1)).bind fun v5 =>
 cnd v5 ((b0 .add (gt s 0) (.str [32,106,111,105,110,32])).bind fun v6 =>
 zaQ c l v6 (gt s 3) (gt s 1) (gt s 2) (gt s 3) (agN 4 v3))
 ((b0 .eql (cell v3 2) (.int .i64 2)).bind fun v7 =>
 cnd v7 ((b0 .add (gt s 0) (.str [32,108,101,102,116,32,106,111,105,110,32])).bind fun v8 =>
 zaQ c l v8 (gt s 3) (gt s 1) (gt s 2) (gt s 3) (agN 4 v3))
 ((b0 .add (gt s 0) (.str [44,32])).bind fun v9 =>
 zaQ c l v9 (gt s 3) (gt s 1) (gt s 2) (gt s 3) (agN 4 v3)))))
 (om (rtn (norm1 (gt s 0)) []))
noncomputable def zgl (c:Orc) (l:Lup) (x0:V):Option Out :=
 (lenL x0).bind fun v1 =>
 l Out (zaP c l) [(.str []),x0,v1,(.int .i64 0)]
def zf7:List LA:=[⟨false,[(3,.d),(6,.d),(7,.d),(8,.d)],[]⟩]
theorem zlh (G:Nat→Vm.V) (c:Orc) (l:Lup) (x0:V):evF Tryz.prog G c l [] 10 zf7 41 [.d x0] []=zgl c l x0:=by kernel_rfl
noncomputable def zd3 (c:Orc) (l:Lup) (a2_0 a2_1:V):Option Out :=
 cl0 c 22 [(.str [103,114,111,117,112,32,98,121]),(norm1 (cell a2_1 5))] (fun w=>pnk w []) fun v1 =>
 (b0 .add a2_0 v1).bind fun v2 =>
 cl0 c 22 [(.str [104,97,118,105,110,103]),(norm1 (cell a2_1 4))] (fun w=>pnk w []) fun v3 =>
 (b0 .add v2 v3).bind fun v4 =>
 rtn (norm1 v4) []
noncomputable def zcT (c:Orc) (l:Lup) (a1_0 a1_1:V):Option Out :=
 agr oeq (cl0 c 39 [(norm1 (cell a1_1 1)),(.fn 40 [] [])] (fun w=>pnk w []) fun v1 =>
 cl0 c 41 [(norm1 (cell a1_1 2))] (fun w=>pnk w []) fun v2 =>
 (b0 .add v1 v2).bind fun v3 =>
 cl0 c 22 [(.str [119,104,101,114,101]),(norm1 (cell a1_1 3))] (fun w=>pnk w []) fun v4 =>
 (b0 .add v3 v4).bind fun v5 =>
 (b0 .add a1_0 v5).bind fun v6 =>
 zd3 c l v6 (agN 6 a1_1))
 (ag oeq <|
 ag oeq <|
 cl0 c 39 [(norm1 (cell a1_1 1)),(.fn 40 [] [])] (fun w=>pnk w []) fun v1 =>
 cl0 c 41 [(norm1 (cell a1_1 2))] (fun w=>pnk w []) fun v2 =>
 (b0 .add v1 v2).bind fun v3 =>
 cl0 c 22 [(.str [119,104,101,114,101]),(norm1 (cell a1_1 3))] (fun w=>pnk w []) fun v4 =>
 (b0 .add v3 v4).bind fun v5 =>
 (b0 .add a1_0 v5).bind fun v6 =>
 zd3 c l v6 (agN 6 a1_1))
noncomputable def zfN (c:Orc) (l:Lup) (x0:V):Option Out :=
 ckA 6 x0 <|
 cnd (cell x0 0) ((b0 .add (.str [115,101,108,101,99,116,32]) (.str [100,105,115,116,105,110,99,116,32])).bind fun v1 =>
 zcT c l v1 (agN 6 x0))
 (zcT c l (.str [115,101,108,101,99,116,32]) (agN 6 x0))
theorem znW (G:Nat→Vm.V) (c:Orc) (l:Lup) (x0:V):evF Tryz.prog G c l [] 10 [] 19 [.d x0] []=zfN c l x0:=by kernel_rfl
noncomputable def zbH (c:Orc) (l:Lup) (a1_0 a1_1:V):Option Out :=
 cnd (cell a1_1 12) ((b0 .add a1_0 (.str [32,100,101,115,99])).bind fun v1 =>
 rtn (norm1 v1) [])
 (rtn (norm1 a1_0) [])
noncomputable def zdj (c:Orc) (l:Lup) (x0:V):Option Out :=
 ckA 13 x0 <|
 cl0 c 43 [(norm1 (agN 11 x0))] (fun w=>pnk w []) fun v1 =>
 (b0 .eql (cell x0 11) (.int .i64 1)).bind fun v2 =>
 cnd v2 ((b0 .add v1 (.str [32,99,111,108,108,97,116,101,32,110,111,99,97,115,101])).bind fun v3 =>
 zbH c l v3 (agN 13 x0))
 (zbH c l v1 (agN 13 x0))
theorem znU (G:Nat→Vm.V) (c:Orc) (l:Lup) (x0:V):evF Tryz.prog G c l [] 10 [] 21 [.d x0] []=zdj c l x0:=by kernel_rfl
noncomputable def zdi (c:Orc) (l:Lup) (x0:V):Option Out :=
 (b0 .eql x0 (.int .i64 1)).bind fun v1 =>
 cnd v1 (rtn (.str [32,117,110,105,111,110,32,97,108,108,32]) [])
 ((b0 .eql x0 (.int .i64 2)).bind fun v2 =>
 cnd v2 (rtn (.str [32,105,110,116,101,114,115,101,99,116,32]) [])
 ((b0 .eql x0 (.int .i64 3)).bind fun v3 =>
 cnd v3 (rtn (.str [32,101,120,99,101,112,116,32]) [])
 (rtn (.str [32,117,110,105,111,110,32]) [])))
theorem znT (G:Nat→Vm.V) (c:Orc) (l:Lup) (x0:V):evF Tryz.prog G c l [] 10 [] 18 [.d x0] []=zdi c l x0:=by kernel_rfl
noncomputable def zcz (c:Orc) (l:Lup) (a2_0 a2_1:V):Option Out :=
 cl0 c 22 [(.str [108,105,109,105,116]),(norm1 (cell a2_1 3))] (fun w=>pnk w []) fun v1 =>
 (b0 .add a2_0 v1).bind fun v2 =>
 cl0 c 22 [(.str [111,102,102,115,101,116]),(norm1 (cell a2_1 4))] (fun w=>pnk w []) fun v3 =>
 (b0 .add v2 v3).bind fun v4 =>
 rtn (norm1 v4) []
noncomputable def zcA (c:Orc) (l:Lup) (a1_0 a1_1:V):Option Out :=
 (lenL (cell a1_1 2)).bind fun v1 =>
 (b0 .gtr v1 (.int .i64 0)).bind fun v2 =>
 cnd v2 (cl0 c 20 [(norm1 (cell a1_1 2)),(.fn 21 [] [])] (fun w=>pnk w []) fun v3 =>
 (b0 .add (.str [32,111,114,100,101,114,32,98,121,32]) v3).bind fun v4 =>
 (b0 .add a1_0 v4).bind fun v5 =>
 zcz c l v5 (agN 5 a1_1))
 (zcz c l a1_0 (agN 5 a1_1))
noncomputable def zca (c:Orc) (l:Lup) (a3_0 a3_1 a3_2 a3_3 a3_4 a3_5:V):Option (Stp Out) :=
 cl0 c 19 [(norm1 (agN 6 a3_5))] (fun w=>om (pnk w [])) fun v1 =>
 (b0 .add a3_0 v1).bind fun v2 =>
 (b0 .add a3_3 (.int .i64 1)).bind fun v3 =>
 some (.next [v2,a3_1,a3_2,v3,(agN 5 a3_4)])
noncomputable def zb9 (c:Orc) (l:Lup) (a4_0 a4_1 a4_2 a4_3 a4_4 a4_5 a4_6 a4_7:V):Option (Stp Out) :=
 cnd a4_5 ((b0 .sub a4_1 (.int .i64 1)).bind fun v1 =>
 (elV 1 (cell a4_6 1) v1).bind fun v2 =>
 (ldV false 1 v2 0).bind fun v3 =>
 cl0 c 18 [(norm1 v3)] (fun w=>om (pnk w [])) fun v4 =>
 (b0 .add a4_0 v4).bind fun v5 =>
 zca c l v5 a4_2 a4_3 a4_4 (agN 5 a4_6) (agN 6 a4_7))
 (zca c l a4_0 a4_2 a4_3 a4_4 (agN 5 a4_6) (agN 6 a4_7))
noncomputable def za7 (c:Orc) (l:Lup) (s:List V):Option (Stp Out) :=
 (b0 .lss (gt s 3) (gt s 2)).bind fun v1 =>
 cnd v1 ((elV 6 (gt s 1) (gt s 3)).bind fun v2 =>
 (ldV true 6 v2 0).bind fun v3 =>
 ckA 6 v3 <|
 (b0 .gtr (gt s 3) (.int .i64 0)).bind fun v4 =>
 cnd v4 ((b0 .sub (gt s 3) (.int .i64 1)).bind fun v5 =>
 (lenL (cell (gt s 4) 1)).bind fun v6 =>
 (b0 .lss v5 v6).bind fun v7 =>
 zb9 c l (gt s 0) (gt s 3) (gt s 1) (gt s 2) (gt s 3) v7 (agN 5 (gt s 4)) (agN 6 v3))
 (zb9 c l (gt s 0) (gt s 3) (gt s 1) (gt s 2) (gt s 3) (.bool false) (agN 5 (gt s 4)) (agN 6 v3)))
 (om (zcA c l (gt s 0) (agN 5 (gt s 4))))
noncomputable def zho (c:Orc) (l:Lup) (x0:V):Option Out :=
 ckA 5 x0 <|
 (lenL (cell x0 0)).bind fun v1 =>
 l Out (za7 c l) [(.str []),(cell x0 0),v1,(.int .i64 0),(agN 5 x0)]
def zgM:List LA:=[⟨false,[(1,.c (.p 10 0)),(3,.d),(7,.d),(8,.d),(9,.d)],[.bv 10 28 5]⟩]
theorem zmH (G:Nat→Vm.V) (c:Orc) (l:Lup) (x0:V):evF Tryz.prog G c l [] 10 zgM 9 [.d x0] []=zho c l x0:=by kernel_rfl
noncomputable def zdS (c:Orc) (l:Lup) (x0 x1:V):Option Out :=
 ckA 11 x0 <|
 ckA 11 x1 <|
 (b0 .eql (cell x0 0) (cell x1 0)).bind fun v1 =>
 cnd v1 ((b0 .eql (cell x0 1) (cell x1 1)).bind fun v2 =>
 cnd v2 ((binV .eql true true false (.agg [(cell x0 2),(cell x0 3),(cell x0 4)]) (.agg [(cell x1 2),(cell x1 3),(cell x1 4)])).bind fun v3 =>
 cnd v3 ((b0 .eql (cell x0 5) (cell x1 5)).bind fun v4 =>
 cnd v4 ((b0 .eql (cell x0 6) (cell x1 6)).bind fun v5 =>
 cnd v5 ((b0 .eql (cell x0 7) (cell x1 7)).bind fun v6 =>
 cnd v6 ((binV .eql true false false (cell x0 8) (cell x1 8)).bind fun v7 =>
 cnd v7 ((binV .eql true false false (cell x0 9) (cell x1 9)).bind fun v8 =>
 cnd v8 (cl0 c 17 [(norm1 (cell x0 10)),(norm1 (cell x1 10))] (fun w=>pnk w []) fun v9 =>
 rtn (norm1 v9) [])
 (rtn (.bool false) []))
 (rtn (.bool false) []))
 (rtn (.bool false) []))
 (rtn (.bool false) []))
 (rtn (.bool false) []))
 (rtn (.bool false) []))
 (rtn (.bool false) []))
 (rtn (.bool false) [])
theorem zhg (G:Nat→Vm.V) (c:Orc) (l:Lup) (x0 x1:V):evF Tryz.prog G c l [] 10 [] 16 [.d x0,.d x1] []=zdS c l x0 x1:=by kernel_rfl
noncomputable def za9 (c:Orc) (l:Lup) (s:List V):Option (Stp Out) :=
 (lenL (gt s 0)).bind fun v1 =>
 (b0 .lss (gt s 2) v1).bind fun v2 =>
 cnd v2 ((elV 11 (gt s 0) (gt s 2)).bind fun v3 =>
 (ldV true 11 v3 0).bind fun v4 =>
 (elV 11 (gt s 1) (gt s 2)).bind fun v5 =>
 (ldV true 11 v5 0).bind fun v6 =>
 cl0 c 16 [(norm1 v4),(norm1 v6)] (fun w=>om (pnk w [])) fun v7 =>
 (zde .not v7).bind fun v8 =>
 cnd v8 (om (rtn (.bool false) []))
 ((b0 .add (gt s 2) (.int .i64 1)).bind fun v9 =>
 some (.next [(gt s 0),(gt s 1),v9])))
 (om (rtn (.bool true) []))
noncomputable def zdw (c:Orc) (l:Lup) (x0 x1:V):Option Out :=
 (lenL x0).bind fun v1 =>
 (lenL x1).bind fun v2 =>
 (b0 .neq v1 v2).bind fun v3 =>
 cnd v3 (rtn (.bool false) [])
 (l Out (za9 c l) [x0,x1,(.int .i64 0)])
def zdt:List LA:=[⟨false,[(0,.d),(1,.d),(5,.d)],[]⟩]
theorem zgs (G:Nat→Vm.V) (c:Orc) (l:Lup) (x0 x1:V):evF Tryz.prog G c l [] 10 zdt 17 [.d x0,.d x1] []=zdw c l x0 x1:=by kernel_rfl
noncomputable def zc6 (c:Orc) (l:Lup) (a3_0 a3_1:V):Option Out :=
 cl0 c 17 [(norm1 (cell a3_0 3)),(norm1 (cell a3_1 3))] (fun w=>pnk w []) fun v1 =>
 cnd v1 (cl0 c 17 [(norm1 (cell a3_0 4)),(norm1 (cell a3_1 4))] (fun w=>pnk w []) fun v2 =>
 cnd v2 (cl0 c 17 [(norm1 (cell a3_0 5)),(norm1 (cell a3_1 5))] (fun w=>pnk w []) fun v3 =>
 rtn (norm1 v3) [])
 (rtn (.bool false) []))
 (rtn (.bool false) [])
noncomputable def zaW (c:Orc) (l:Lup) (a5_0 a5_1 a5_2 a5_3:V):Option (Stp Out) :=
 cnd a5_1 (om (rtn (.bool false) []))
 ((b0 .add a5_0 (.int .i64 1)).bind fun v1 =>
 some (.next [v1,(agN 6 a5_2),(agN 6 a5_3)]))
noncomputable def zbk (c:Orc) (l:Lup) (a4_0 a4_1 a4_2 a4_3 a4_4:V):Option (Stp Out) :=
 (b0 .neq (cell a4_3 0) (cell a4_4 0)).bind fun v1 =>
 cnd v1 (zaW c l a4_0 (.bool true) (agN 6 a4_1) (agN 6 a4_2))
 ((b0 .neq (cell a4_3 1) (cell a4_4 1)).bind fun v2 =>
 cnd v2 (zaW c l a4_0 (.bool true) (agN 6 a4_1) (agN 6 a4_2))
 ((b0 .neq (cell a4_3 2) (cell a4_4 2)).bind fun v3 =>
 cnd v3 (zaW c l a4_0 (.bool true) (agN 6 a4_1) (agN 6 a4_2))
 (cl0 c 17 [(norm1 (cell a4_3 3)),(norm1 (cell a4_4 3))] (fun w=>om (pnk w [])) fun v4 =>
 (zde .not v4).bind fun v5 =>
 zaW c l a4_0 v5 (agN 6 a4_1) (agN 6 a4_2))))
noncomputable def zbh (c:Orc) (l:Lup) (s:List V):Option (Stp Out) :=
 (lenL (cell (gt s 1) 2)).bind fun v1 =>
 (b0 .lss (gt s 0) v1).bind fun v2 =>
 cnd v2 ((elV 4 (cell (gt s 1) 2) (gt s 0)).bind fun v3 =>
 (ldV true 4 v3 0).bind fun v4 =>
 agr (eqS oeq) ((elV 4 (cell (gt s 2) 2) (gt s 0)).bind fun v5 =>
 agr (eqS oeq) ((ldV true 4 v5 0).bind fun v6 =>
 ckA 4 v4 <|
 ckA 4 v6 <|
 zbk c l (gt s 0) (agN 6 (gt s 1)) (agN 6 (gt s 2)) (agN 4 v4) (agN 4 v6))
 (ckA 4 v4 <|
 (ldV true 4 v5 0).bind fun v6 =>
 ckA 4 v6 <|
 zbk c l (gt s 0) (agN 6 (gt s 1)) (agN 6 (gt s 2)) (agN 4 v4) (agN 4 v6)))
 (ckA 4 v4 <|
 (elV 4 (cell (gt s 2) 2) (gt s 0)).bind fun v5 =>
 (ldV true 4 v5 0).bind fun v6 =>
 ckA 4 v6 <|
 zbk c l (gt s 0) (agN 6 (gt s 1)) (agN 6 (gt s 2)) (agN 4 v4) (agN 4 v6)))
 (om (zc6 c l (agN 6 (gt s 1)) (agN 6 (gt s 2))))
noncomputable def zc7 (c:Orc) (l:Lup) (a2_0 a2_1:V):Option Out :=
 l Out (zbh c l) [(.int .i64 0),(agN 6 a2_0),(agN 6 a2_1)]
noncomputable def zaV (c:Orc) (l:Lup) (a7_0 a7_1 a7_2 a7_3:V):Option (Stp Out) :=
 cnd a7_1 (om (rtn (.bool false) []))
 ((b0 .add a7_0 (.int .i64 1)).bind fun v1 =>
 some (.next [v1,(agN 6 a7_2),(agN 6 a7_3)]))
noncomputable def zbj (c:Orc) (l:Lup) (a6_0 a6_1 a6_2 a6_3 a6_4:V):Option (Stp Out) :=
 (b0 .neq (cell a6_3 11) (cell a6_4 11)).bind fun v1 =>
 cnd v1 (zaV c l a6_0 (.bool true) (agN 6 a6_1) (agN 6 a6_2))
 ((binV .neq true false false (cell a6_3 12) (cell a6_4 12)).bind fun v2 =>
 cnd v2 (zaV c l a6_0 (.bool true) (agN 6 a6_1) (agN 6 a6_2))
 ((b0 .neq (cell a6_3 13) (cell a6_4 13)).bind fun v3 =>
 cnd v3 (zaV c l a6_0 (.bool true) (agN 6 a6_1) (agN 6 a6_2))
 (cl0 c 16 [(norm1 (agN 11 a6_3)),(norm1 (agN 11 a6_4))] (fun w=>om (pnk w [])) fun v4 =>
 (zde .not v4).bind fun v5 =>
 zaV c l a6_0 v5 (agN 6 a6_1) (agN 6 a6_2))))
noncomputable def zbi (c:Orc) (l:Lup) (s:List V):Option (Stp Out) :=
 (lenL (cell (gt s 1) 1)).bind fun v1 =>
 (b0 .lss (gt s 0) v1).bind fun v2 =>
 cnd v2 ((elV 14 (cell (gt s 1) 1) (gt s 0)).bind fun v3 =>
 (ldV true 14 v3 0).bind fun v4 =>
 agr (eqS oeq) ((elV 14 (cell (gt s 2) 1) (gt s 0)).bind fun v5 =>
 agr (eqS oeq) ((ldV true 14 v5 0).bind fun v6 =>
 ckA 14 v4 <|
 ckA 14 v6 <|
 zbj c l (gt s 0) (agN 6 (gt s 1)) (agN 6 (gt s 2)) (agN 14 v4) (agN 14 v6))
 (ckA 14 v4 <|
 (ldV true 14 v5 0).bind fun v6 =>
 ckA 14 v6 <|
 zbj c l (gt s 0) (agN 6 (gt s 1)) (agN 6 (gt s 2)) (agN 14 v4) (agN 14 v6)))
 (ckA 14 v4 <|
 (elV 14 (cell (gt s 2) 1) (gt s 0)).bind fun v5 =>
 (ldV true 14 v5 0).bind fun v6 =>
 ckA 14 v6 <|
 zbj c l (gt s 0) (agN 6 (gt s 1)) (agN 6 (gt s 2)) (agN 14 v4) (agN 14 v6)))
 (om (zc7 c l (agN 6 (gt s 1)) (agN 6 (gt s 2))))
noncomputable def zbl (c:Orc) (l:Lup) (a1_0 a1_1 a1_2:V):Option Out :=
 cnd a1_0 (rtn (.bool false) [])
 (l Out (zbi c l) [(.int .i64 0),(agN 6 a1_1),(agN 6 a1_2)])
noncomputable def zdT (c:Orc) (l:Lup) (x0 x1:V):Option Out :=
 ckA 6 x0 <|
 ckA 6 x1 <|
 (binV .neq true false false (cell x0 0) (cell x1 0)).bind fun v1 =>
 cnd v1 (zbl c l (.bool true) (agN 6 x0) (agN 6 x1))
 ((lenL (cell x0 1)).bind fun v2 =>
 (lenL (cell x1 1)).bind fun v3 =>
 (b0 .neq v2 v3).bind fun v4 =>
 cnd v4 (zbl c l (.bool true) (agN 6 x0) (agN 6 x1))
 ((lenL (cell x0 2)).bind fun v5 =>
 (lenL (cell x1 2)).bind fun v6 =>
 (b0 .neq v5 v6).bind fun v7 =>
 zbl c l v7 (agN 6 x0) (agN 6 x1)))
def zdy:List LA:=[⟨false,[(2,.c (.p 10 0)),(3,.c (.p 11 0)),(5,.d)],[.bv 10 40 6,.bv 11 40 6]⟩,⟨false,[(2,.c (.p 10 0)),(3,.c (.p 11 0)),(8,.d)],[.bv 10 40 6,.bv 11 40 6]⟩]
theorem zhh (G:Nat→Vm.V) (c:Orc) (l:Lup) (x0 x1:V):evF Tryz.prog G c l [] 10 zdy 15 [.d x0,.d x1] []=zdT c l x0 x1:=by kernel_rfl
noncomputable def zea (c:Orc) (l:Lup) (a4_0 a4_1:V):Option Out :=
 cl0 c 17 [(norm1 (cell a4_0 3)),(norm1 (cell a4_1 3))] (fun w=>pnk w []) fun v1 =>
 cnd v1 (cl0 c 17 [(norm1 (cell a4_0 4)),(norm1 (cell a4_1 4))] (fun w=>pnk w []) fun v2 =>
 rtn (norm1 v2) [])
 (rtn (.bool false) [])
noncomputable def zbX (c:Orc) (l:Lup) (a6_0 a6_1 a6_2 a6_3:V):Option (Stp Out) :=
 cnd a6_1 (om (rtn (.bool false) []))
 ((b0 .add a6_0 (.int .i64 1)).bind fun v1 =>
 some (.next [v1,(agN 5 a6_2),(agN 5 a6_3)]))
noncomputable def zbY (c:Orc) (l:Lup) (a5_0 a5_1 a5_2 a5_3 a5_4:V):Option (Stp Out) :=
 (b0 .neq (cell a5_3 11) (cell a5_4 11)).bind fun v1 =>
 cnd v1 (zbX c l a5_0 (.bool true) (agN 5 a5_1) (agN 5 a5_2))
 ((binV .neq true false false (cell a5_3 12) (cell a5_4 12)).bind fun v2 =>
 cnd v2 (zbX c l a5_0 (.bool true) (agN 5 a5_1) (agN 5 a5_2))
 (cl0 c 16 [(norm1 (agN 11 a5_3)),(norm1 (agN 11 a5_4))] (fun w=>om (pnk w [])) fun v3 =>
 (zde .not v3).bind fun v4 =>
 zbX c l a5_0 v4 (agN 5 a5_1) (agN 5 a5_2)))
noncomputable def zbU (c:Orc) (l:Lup) (s:List V):Option (Stp Out) :=
 (lenL (cell (gt s 1) 2)).bind fun v1 =>
 (b0 .lss (gt s 0) v1).bind fun v2 =>
 cnd v2 ((elV 13 (cell (gt s 1) 2) (gt s 0)).bind fun v3 =>
 (ldV true 13 v3 0).bind fun v4 =>
 agr (eqS oeq) ((elV 13 (cell (gt s 2) 2) (gt s 0)).bind fun v5 =>
 agr (eqS oeq) ((ldV true 13 v5 0).bind fun v6 =>
 ckA 13 v4 <|
 ckA 13 v6 <|
 zbY c l (gt s 0) (agN 5 (gt s 1)) (agN 5 (gt s 2)) (agN 13 v4) (agN 13 v6))
 (ckA 13 v4 <|
 (ldV true 13 v5 0).bind fun v6 =>
 ckA 13 v6 <|
 zbY c l (gt s 0) (agN 5 (gt s 1)) (agN 5 (gt s 2)) (agN 13 v4) (agN 13 v6)))
 (ckA 13 v4 <|
 (elV 13 (cell (gt s 2) 2) (gt s 0)).bind fun v5 =>
 (ldV true 13 v5 0).bind fun v6 =>
 ckA 13 v6 <|
 zbY c l (gt s 0) (agN 5 (gt s 1)) (agN 5 (gt s 2)) (agN 13 v4) (agN 13 v6)))
 (om (zea c l (agN 5 (gt s 1)) (agN 5 (gt s 2))))
noncomputable def zeb (c:Orc) (l:Lup) (a3_0 a3_1:V):Option Out :=
 l Out (zbU c l) [(.int .i64 0),(agN 5 a3_0),(agN 5 a3_1)]
noncomputable def zbV (c:Orc) (l:Lup) (s:List V):Option (Stp Out) :=
 (lenL (cell (gt s 1) 1)).bind fun v1 =>
 (b0 .lss (gt s 0) v1).bind fun v2 =>
 cnd v2 ((elV 1 (cell (gt s 1) 1) (gt s 0)).bind fun v3 =>
 (ldV false 1 v3 0).bind fun v4 =>
 (elV 1 (cell (gt s 2) 1) (gt s 0)).bind fun v5 =>
 (ldV false 1 v5 0).bind fun v6 =>
 (b0 .neq v4 v6).bind fun v7 =>
 cnd v7 (om (rtn (.bool false) []))
 ((b0 .add (gt s 0) (.int .i64 1)).bind fun v8 =>
 some (.next [v8,(agN 5 (gt s 1)),(agN 5 (gt s 2))])))
 (om (zeb c l (agN 5 (gt s 1)) (agN 5 (gt s 2))))
noncomputable def zec (c:Orc) (l:Lup) (a2_0 a2_1:V):Option Out :=
 l Out (zbV c l) [(.int .i64 0),(agN 5 a2_0),(agN 5 a2_1)]
noncomputable def zbW (c:Orc) (l:Lup) (s:List V):Option (Stp Out) :=
 (lenL (cell (gt s 1) 0)).bind fun v1 =>
 (b0 .lss (gt s 0) v1).bind fun v2 =>
 cnd v2 ((elV 6 (cell (gt s 1) 0) (gt s 0)).bind fun v3 =>
 (ldV true 6 v3 0).bind fun v4 =>
 (elV 6 (cell (gt s 2) 0) (gt s 0)).bind fun v5 =>
 (ldV true 6 v5 0).bind fun v6 =>
 cl0 c 15 [(norm1 v4),(norm1 v6)] (fun w=>om (pnk w [])) fun v7 =>
 (zde .not v7).bind fun v8 =>
 cnd v8 (om (rtn (.bool false) []))
 ((b0 .add (gt s 0) (.int .i64 1)).bind fun v9 =>
 some (.next [v9,(agN 5 (gt s 1)),(agN 5 (gt s 2))])))
 (om (zec c l (agN 5 (gt s 1)) (agN 5 (gt s 2))))
noncomputable def zbZ (c:Orc) (l:Lup) (a1_0 a1_1 a1_2:V):Option Out :=
 cnd a1_0 (rtn (.bool false) [])
 (l Out (zbW c l) [(.int .i64 0),(agN 5 a1_1),(agN 5 a1_2)])
noncomputable def zfv (c:Orc) (l:Lup) (x0 x1:V):Option Out :=
 ckA 5 x0 <|
 ckA 5 x1 <|
 (lenL (cell x0 0)).bind fun v1 =>
 (lenL (cell x1 0)).bind fun v2 =>
 (b0 .neq v1 v2).bind fun v3 =>
 cnd v3 (zbZ c l (.bool true) (agN 5 x0) (agN 5 x1))
 ((lenL (cell x0 1)).bind fun v4 =>
 (lenL (cell x1 1)).bind fun v5 =>
 (b0 .neq v4 v5).bind fun v6 =>
 cnd v6 (zbZ c l (.bool true) (agN 5 x0) (agN 5 x1))
 ((lenL (cell x0 2)).bind fun v7 =>
 (lenL (cell x1 2)).bind fun v8 =>
 (b0 .neq v7 v8).bind fun v9 =>
 zbZ c l v9 (agN 5 x0) (agN 5 x1)))
def zfb:List LA:=[⟨false,[(2,.c (.p 10 0)),(3,.c (.p 11 0)),(5,.d)],[.bv 10 28 5,.bv 11 28 5]⟩,⟨false,[(2,.c (.p 10 0)),(3,.c (.p 11 0)),(6,.d)],[.bv 10 28 5,.bv 11 28 5]⟩,⟨false,[(2,.c (.p 10 0)),(3,.c (.p 11 0)),(7,.d)],[.bv 10 28 5,.bv 11 28 5]⟩]
theorem zjB (G:Nat→Vm.V) (c:Orc) (l:Lup) (x0 x1:V):evF Tryz.prog G c l [] 10 zfb 8 [.d x0,.d x1] []=zfv c l x0 x1:=by kernel_rfl
noncomputable def zcM (c:Orc) (l:Lup) (a2_0:V):Option Out :=
 cl0 c 5 [] (fun w=>pnk w []) fun v1 =>
 cnd v1 ((lenL (cell a2_0 3)).bind fun v2 =>
 (b0 .leq v2 (.int .i64 1)).bind fun v3 =>
 cnd v3 ((lenL (cell a2_0 4)).bind fun v4 =>
 (lenL (cell a2_0 3)).bind fun v5 =>
 (b0 .leq v4 v5).bind fun v6 =>
 rtn (norm1 v6) [])
 (rtn (.bool false) []))
 (rtn (.bool false) [])
noncomputable def zap (c:Orc) (l:Lup) (a3_0 a3_1 a3_2:V):Option (Stp Out) :=
 cnd a3_1 (om (rtn (.bool false) []))
 ((b0 .add a3_0 (.int .i64 1)).bind fun v1 =>
 some (.next [v1,(agN 5 a3_2)]))
noncomputable def zaR (c:Orc) (l:Lup) (s:List V):Option (Stp Out) :=
 (lenL (cell (gt s 1) 0)).bind fun v1 =>
 (b0 .lss (gt s 0) v1).bind fun v2 =>
 cnd v2 ((elV 6 (cell (gt s 1) 0) (gt s 0)).bind fun v3 =>
 (ldV true 6 v3 0).bind fun v4 =>
 ckA 6 v4 <|
 (lenL (cell v4 1)).bind fun v5 =>
 (b0 .eql v5 (.int .i64 0)).bind fun v6 =>
 cnd v6 (zap c l (gt s 0) (.bool true) (agN 5 (gt s 1)))
 ((lenL (cell v4 2)).bind fun v7 =>
 (b0 .gtr v7 (.int .i64 6)).bind fun v8 =>
 cnd v8 (zap c l (gt s 0) (.bool true) (agN 5 (gt s 1)))
 ((lenL (cell v4 3)).bind fun v9 =>
 (b0 .gtr v9 (.int .i64 1)).bind fun v10 =>
 cnd v10 (zap c l (gt s 0) (.bool true) (agN 5 (gt s 1)))
 ((lenL (cell v4 4)).bind fun v11 =>
 (b0 .gtr v11 (.int .i64 1)).bind fun v12 =>
 cnd v12 (zap c l (gt s 0) (.bool true) (agN 5 (gt s 1)))
 ((lenL (cell v4 2)).bind fun v13 =>
 (b0 .gtr v13 (.int .i64 0)).bind fun v14 =>
 cnd v14 ((elV 4 (cell v4 2) (.int .i64 0)).bind fun v15 =>
 (ldV false 1 v15 2).bind fun v16 =>
 (b0 .neq v16 (.int .i64 0)).bind fun v17 =>
 zap c l (gt s 0) v17 (agN 5 (gt s 1)))
 (zap c l (gt s 0) (.bool false) (agN 5 (gt s 1))))))))
 (om (zcM c l (agN 5 (gt s 1))))
noncomputable def zax (c:Orc) (l:Lup) (a1_0 a1_1:V):Option Out :=
 cnd a1_0 (rtn (.bool false) [])
 (l Out (zaR c l) [(.int .i64 0),(agN 5 a1_1)])
noncomputable def zbC (c:Orc) (l:Lup) (x0:V):Option Out :=
 (lenS x0).bind fun v1 =>
 (b0 .gtr v1 (.int .i64 1000)).bind fun v2 =>
 cnd v2 (cl0 c 5 [] (fun w=>pnk w []) fun v3 =>
 rtn (norm1 v3) [])
 (cl0 c 6 [(norm1 x0)] (fun w=>pnk w []) fun v4 =>
 (extV v4 0).bind fun v5 =>
 (extV v4 1).bind fun v6 =>
 (extV v4 2).bind fun v7 =>
 ckA 5 v5 <|
 (b0 .neq v7 (.int .i64 0)).bind fun v8 =>
 cnd v8 (cl0 c 5 [] (fun w=>pnk w []) fun v9 =>
 cnd v9 ((b0 .geq v6 (.int .i64 0)).bind fun v10 =>
 cnd v10 ((lenS x0).bind fun v11 =>
 (b0 .leq v6 v11).bind fun v12 =>
 cnd v12 ((lenL (cell v5 0)).bind fun v13 =>
 (b0 .eql v13 (.int .i64 0)).bind fun v14 =>
 rtn (norm1 v14) [])
 (rtn (.bool false) []))
 (rtn (.bool false) []))
 (rtn (.bool false) []))
 (cl0 c 9 [(norm1 (agN 5 v5))] (fun w=>pnk w []) fun v15 =>
 cl0 c 6 [(norm1 v15)] (fun w=>pnk w []) fun v16 =>
 (extV v16 0).bind fun v17 =>
 (extV v16 1).bind fun v18 =>
 (extV v16 2).bind fun v19 =>
 ckA 5 v17 <|
 (b0 .neq v19 (.int .i64 0)).bind fun v20 =>
 cnd v20 (zax c l (.bool true) (agN 5 v5))
 (cl0 c 8 [(norm1 (agN 5 v5)),(norm1 (agN 5 v17))] (fun w=>pnk w []) fun v21 =>
 (zde .not v21).bind fun v22 =>
 cnd v22 (zax c l (.bool true) (agN 5 v5))
 ((lenS v15).bind fun v23 =>
 (b0 .neq v18 v23).bind fun v24 =>
 cnd v24 (zax c l (.bool true) (agN 5 v5))
 (cl0 c 9 [(norm1 (agN 5 v17))] (fun w=>pnk w []) fun v25 =>
 (b0 .neq v25 v15).bind fun v26 =>
 cnd v26 (zax c l (.bool true) (agN 5 v5))
 ((lenS x0).bind fun v27 =>
 (b0 .neq v6 v27).bind fun v28 =>
 cnd v28 (zax c l (.bool true) (agN 5 v5))
 ((lenL (cell v5 0)).bind fun v29 =>
 (lenL (cell v5 1)).bind fun v30 =>
 (b0 .add v30 (.int .i64 1)).bind fun v31 =>
 (b0 .neq v29 v31).bind fun v32 =>
 zax c l v32 (agN 5 v5))))))))
def zdu:List LA:=[⟨false,[(3,.c (.p 22 0)),(10,.d)],[.bv 22 28 5]⟩]
theorem zgt (G:Nat→Vm.V) (c:Orc) (l:Lup) (x0:V):evF Tryz.prog G c l [] 10 zdu 4 [.d x0] []=zbC c l x0:=by kernel_rfl
noncomputable def annUb (f:FuncId) (d:List (Nat×Nat)×List LA):List (Nat×Nat)×List LA:=if f=39 then ([],zdc) else if f=44 then ([],zdd) else if f=20 then ([],zdb) else if f=41 then ([],zf7) else if f=9 then ([],zgM) else if f=17 then ([],zdt) else if f=15 then ([],zdy) else if f=8 then ([],zfb) else if f=4 then ([],zdu) else d
end Go.Proofs.YtlooegbcfkoloaaGreatDoor
namespace Go.Proofs.YtlooegbcfkoloaaGreatDoor
open Go.RowKit
open Vm
def zgf:List LA:=[⟨false,[(0,.c (.p 0 0)),(3,.q 13)],[.bv 0 84 4,.rq 13 46 11]⟩]
def zf3:List LA:=[⟨false,[(0,.c (.p 0 0)),(3,.q 13)],[.bv 0 84 4,.rq 13 42 4]⟩]
def zgK:List LA:=[⟨false,[(0,.c (.p 0 0)),(2,.c (.p 10 0)),(3,.c (.p 16 0))],[.bv 0 84 4,.bv 10 40 6,.blk 16 40 [.d,.q 20,.d,.d,.d,.d],.rq 20 48 14]⟩]
def zh5:List LA:=[⟨false,[(4,.c (.p 10 0)),(7,.c (.p 29 0)),(8,.c (.p 35 0)),(9,.d)],[.bv 10 28 5,.bv 29 84 4,.rq 33 40 6,.blk 35 28 [.q 33,.q 46,.d,.d,.d],.rq 46 3 1]⟩,⟨false,[(4,.c (.p 10 0)),(7,.c (.p 29 0)),(8,.c (.p 35 0))],[.bv 10 28 5,.bv 29 84 4,.rq 33 40 6,.blk 35 28 [.q 33,.q 46,.q 66,.d,.d],.rq 46 3 1,.rq 66 50 13]⟩]
def zgJ:List LA:=[⟨false,[(0,.d),(3,.d),(4,.d)],[]⟩]
def zf2:List LA:=[⟨false,[(1,.c (.p 10 0)),(3,.d),(4,.d)],[.bv 10 40 6]⟩,⟨false,[(1,.c (.p 10 0)),(3,.d),(5,.d)],[.bv 10 40 6]⟩]
def zh4:List LA:=[⟨false,[(1,.c (.p 10 0)),(3,.q 12),(4,.d),(5,.d)],[.bv 10 28 5,.rq 12 9 1]⟩,⟨false,[(1,.c (.p 10 0)),(4,.d),(6,.d)],[.bv 10 28 5]⟩]
noncomputable def annUc (f:FuncId) (d:List (Nat×Nat)×List LA):List (Nat×Nat)×List LA:=if f=81 then ([(21,13)],zgf) else if f=80 then ([(72,13)],zf3) else if f=32 then ([(30,20)],zgK) else if f=14 then ([(34,1034),(54,33),(76,66)],zh5) else if f=25 then ([],zgJ) else if f=23 then ([],zf2) else if f=10 then ([],zh4) else d
end Go.Proofs.YtlooegbcfkoloaaGreatDoor
namespace Go.Proofs.YtlooegbcfkoloaaGreatDoor
open Go.RowKit
open Vm
variable [Gl]
def prsE (L:List Lx.TA) (p:Nat):Ent:=.blk 182 [.list (L.map tokM),.int .i64 (p:Int)]
def expC:Ex.E→List Vm.V
 | .mk k op v t n s ng d l=>[.int .i64 k,.str op,.int .i64 v.1,.int .i64 v.2.1,.str v.2.2,.str t,.str n,.int .i64 s,.bool ng,.bool d,.list (l.map fun e=>.agg (expC e))]
def encE (e:Ex.E):Vm.V:=.agg (expC e)
noncomputable def annT (f:FuncId):List (Nat×Nat)×List LA:=annUc f <| annUb f <| annUa f <| annTy f <| annTx f <| annTw f <| annTv f (annTu f (annTr f (annTc f ([],[]))))
noncomputable def pr:Pro:=.ofL Tryz.prog glG annT natL
theorem zpA {s:List UInt8} (hs:s.length≤1000000):pr.ev 59 [.str s] []=some (.ret (.str (Lx.fold s)),[]):=pr.ofN rfl (by show ziq (ans1 _ [.str s])=_;simp [ziq,ans1,hs])
theorem ev_scan {s:List UInt8} (hs:s.length≤1000000):pr.ev 11 [.str s] []=some (.ret (zsS s),[]):=pr.ofN rfl (by show ziq (ans1 _ [.str s])=_;simp [ziq,ans1,hs])
@[simp] theorem zlu (L:List Lx.TA) (i:Nat) (k:IntKind):elV 6 (.list (L.map tokM)) (.int k (i:Int))=(L[i]?).map tokM:=zl9 6 tokM L k i fun _=>rfl
@[simp] theorem tok_0 (t:Lx.TA):ldV false 1 (tokM t) 0=some (.int .i64 t.1.kind):=rfl
@[simp] theorem tok_1 (t:Lx.TA):ldV false 1 (tokM t) 1=some (.str t.1.text):=rfl
@[simp] theorem tok_w (t:Lx.TA):ldV true 6 (tokM t) 0=some (tokM t):=rfl
@[simp] theorem zst (t:Lx.TA):norm1 (tokM t)=tokM t:=rfl
@[simp] theorem tok_a (t:Lx.TA):agN 6 (tokM t)=tokM t:=rfl
@[simp] theorem tok_k {Z:Type} (t:Lx.TA) (A:Option Z):ckA 6 (tokM t) A=A:=rfl
theorem tok_wf (t:Lx.TA):wf (tokM t)=true:=rfl
theorem zfI (L:List Lx.TA):wfs (L.map tokM)=true:=zbb.2 fun v hv=>by obtain ⟨t,_,rfl⟩:=List.mem_map.1 hv;exact tok_wf t
@[simp] theorem zad (L:List Lx.TA) (p:Nat):Ent.blk 182 [.list (L.map tokM),.int .i64 (p:Int)]=prsE L p:=rfl
@[simp] theorem zbe (L:List Lx.TA) (p:Nat):zaa (prsE L p) 0=.list (L.map tokM):=rfl
@[simp] theorem zbd (L:List Lx.TA) (p:Nat):zaa (prsE L p) 1=.int .i64 (p:Int):=rfl
theorem ckE_p {Z:Type} (L:List Lx.TA) (p:Nat) (A:Option Z):ckE 182 2 (prsE L p) A=A:=by
 unfold ckE prsE
 dsimp only
 rw [if_pos ⟨rfl,rfl,by simp [wfs,wf,zfI]⟩]
section
variable {Z:Type} {c:Orc} {g:FuncId} {args:List Vm.V} {L:List Lx.TA} {p q:Nat} {v:Vm.V}
theorem k_r (h:c g args [prsE L p]=some (.ret v,[prsE L q])) (Kp K:Vm.V→Ent→Option Z):cl1 c g args (prsE L p) 182 2 Kp K=K v (prsE L q):=by
 simp only [cl1,cal,h,nth,List.getD_cons_zero,ckE_p]
theorem k_p (h:c g args [prsE L p]=some (.panic v,[prsE L q])) (Kp K:Vm.V→Ent→Option Z):cl1 c g args (prsE L p) 182 2 Kp K=Kp v (prsE L q):=by
 simp only [cl1,cal,h,nth,List.getD_cons_zero,ckE_p]
end
theorem m_is (L:List Lx.TA) (p a:Nat) (k:Int) (s:List UInt8) (hL:L.length≤999999) (hp:p≤L.length) (ha:a≤2) :
  pr.ev 183 [.ptr 0 0,.int .i64 (a:Int),.int .i64 k,.str s] [prsE L p]=some (.ret (.bool (Ex.isT (L.map (·.1)) (p+a) k s)),[prsE L p]):=by
 refine pr.of rfl rfl rfl (zjD _ _ _ _ _ _ _ _) ?_
 have hw:IntKind.wrap .i64 ((p:Int)+a)=((p+a:Nat):Int):=by rw [zdf (by omega) (by omega)];simp
 by_cases h:p+a < L.length
 ·simp [-Int.natCast_add,zdG,hw,rtn,Ex.isT,h, -zad,prsE]
  by_cases h2:L[p+a].1.kind=k<;>simp [h2]
 ·simp [-Int.natCast_add,zdG,hw,rtn,Ex.isT,h, -zad,prsE]
theorem m_is0 (L:List Lx.TA) (p:Nat) (k:Int) (s:List UInt8) (hL:L.length≤999999) (hp:p≤L.length) :
  pr.ev 183 [.ptr 0 0,.int .i64 0,.int .i64 k,.str s] [prsE L p]=some (.ret (.bool (Ex.isT (L.map (·.1)) p k s)),[prsE L p]):=m_is L p 0 k s hL hp (by omega)
theorem zcs {p:Nat} (h:p≤1000000):IntKind.wrap .i64 ((p:Int)+1)=((p+1:Nat):Int):=by rw [zdf (by omega) (by omega)];simp
theorem zop (L:List Lx.TA) (p:Nat) (k:Int) (s:List UInt8) (hL:L.length≤999999) (hp:p≤L.length) :
  pr.ev 178 [.ptr 0 0,.int .i64 k,.str s] [prsE L p]=some (.ret (.bool (Ex.isT (L.map (·.1)) p k s)),[prsE L (if Ex.isT (L.map (·.1)) p k s then p+1 else p)]):=by
 refine pr.of rfl rfl rfl (zih _ _ _ _ _ _ _) ?_
 cases h:Ex.isT (L.map (·.1)) p k s<;>simp [-Int.natCast_add,zev,k_r (m_is0 L p k s hL hp),h,rtn,zcs (show p≤1000000 by omega)]
theorem ztK (L:List Lx.TA) (p:Nat) (s:List UInt8) (hL:L.length≤999999) (hp:p≤L.length) :
  pr.ev 179 [.ptr 0 0,.str s] [prsE L p]=some (.ret (.bool (Ex.isT (L.map (·.1)) p 2 s)),[prsE L (if Ex.isT (L.map (·.1)) p 2 s then p+1 else p)]):=by
 refine pr.of rfl rfl rfl (zig _ _ _ _ _ _) ?_
 simp [-Int.natCast_add,zeu,k_r (zop L p 2 s hL hp),rtn]
theorem ztR (L:List Lx.TA) (p:Nat) (s:List UInt8) (hL:L.length≤999999) (hp:p≤L.length) :
  pr.ev 189 [.ptr 0 0,.str s] [prsE L p]=some (.ret (.bool (Ex.isT (L.map (·.1)) p 4 s)),[prsE L (if Ex.isT (L.map (·.1)) p 4 s then p+1 else p)]):=by
 refine pr.of rfl rfl rfl (zii _ _ _ _ _ _) ?_
 simp [-Int.natCast_add,zew,k_r (zop L p 4 s hL hp),rtn]
def stopV (q:Nat):Vm.V:=.iface 178 (.agg [.int .i64 (q:Int)])
theorem ztJ (L:List Lx.TA) (p:Nat):pr.ev 188 [.ptr 0 0] [prsE L p]=some (.panic (stopV p),[prsE L p]):=by
 refine pr.of rfl rfl rfl (zhN _ _ _ _ _) ?_
 rfl
theorem zqJ (L:List Lx.TA) (p:Nat) (k:Int) (s:List UInt8) (hL:L.length≤999999) (hp:p≤L.length) :
  pr.ev 185 [.ptr 0 0,.int .i64 k,.str s] [prsE L p]=if Ex.isT (L.map (·.1)) p k s then some (.ret (.tup []),[prsE L (p+1)]) else some (.panic (stopV p),[prsE L p]):=by
 cases h:Ex.isT (L.map (·.1)) p k s
 ·refine pr.of rfl rfl rfl (ze1 _ _ _ _ _ _ _) ?_
  have h1:=zop L p k s hL hp
  simp only [h] at h1
  simp [-Int.natCast_add,zcZ,k_r h1,k_p (ztJ L p),pnk]
 ·refine pr.of rfl rfl rfl (ze1 _ _ _ _ _ _ _) ?_
  have h1:=zop L p k s hL hp
  simp only [h] at h1
  simp [-Int.natCast_add,zcZ,k_r h1,rtn]
theorem m_kind (L:List Lx.TA) (p:Nat) (k:Int) (hL:L.length≤999999) (hp:p≤L.length) :
  pr.ev 193 [.ptr 0 0,.int .i64 k] [prsE L p]=match L[p]? with
   | some t=>if t.1.kind=k then some (.ret (.tup [tokM t,.bool true]),[prsE L (p+1)]) else some (.ret (.tup [.agg [.int .i64 0,.str [],.int .i64 0,.int .i64 0,.str [],.int .i64 0],.bool false]),[prsE L p])
   | none=>some (.ret (.tup [.agg [.int .i64 0,.str [],.int .i64 0,.int .i64 0,.str [],.int .i64 0],.bool false]),[prsE L p]):=by
 cases h:L[p]? with
 | none =>
  have h1:¬ p < L.length:=by simpa using h
  have h2:L.length≤p:=by omega
  refine pr.of rfl rfl rfl (zdp _ _ _ _ _ _) ?_
  simp [-Int.natCast_add,zcf,za4,rtn,h2]
 | some t =>
  have h1:p < L.length:=(List.getElem?_eq_some_iff.1 h).1
  have h2:¬ L.length≤p:=by omega
  have hw:IntKind.wrap .i64 (((p+1:Nat):Int) - 1)=(p:Int):=by rw [zdf (by omega) (by omega)];omega
  dsimp only
  split
  ·rename_i hk
   refine pr.of rfl rfl rfl (zdp _ _ _ _ _ _) ?_
   simp [-Int.natCast_add,zcf,za4,rtn,h2,h,hk,zcs (show p≤1000000 by omega),hw]
  ·rename_i hk
   refine pr.of rfl rfl rfl (zdp _ _ _ _ _ _) ?_
   simp [-Int.natCast_add,zcf,za4,rtn,h2,h,hk]
end Go.Proofs.YtlooegbcfkoloaaGreatDoor
namespace Go.Proofs.YtlooegbcfkoloaaGreatDoor
open Go.RowKit
open Go.ChangeShapes Go.WideShapes Go.ChangeAt
section
variable {H:Type} {enc:TypeId×Value→H} {P:Program}
theorem zrE {f:Func} {s:ChangeSpec} {apart fresh handsOn again:Bool} {W W':World} {args:Array Value} {v:Value} {ds gs:List (DataW H)} {before pa pv:List MemPlace}
  (hW:DataW.Whole enc P f.params.toList s.vars apart W args.toList ds gs before)
  (hres:∀ (b:Nat) (sp:Nat→Bool) (hd:Bool),DataW.TrodAll enc P W' b sp hd f.resultTypes.toList (v.resultList f.resultTypes.size) (s.fn H (ds++gs)).results [])
  (hargs:∀ sp:Nat→Bool,(∀ p∈before,sp p.block=true)→DataW.TrodAll enc P W' 0 sp true f.params.toList args.toList (s.fn H (ds++gs)).args pa)
  (hvars:∀ sp:Nat→Bool,(∀ p∈before,sp p.block=true)→DataW.TrodVars enc P W' sp s.vars (s.fn H (ds++gs)).vars pv)
  (hps:before=pa++pv) (hb:Below W.heap.size W W')
  (hok:∀ (j:Nat) (t:TypeId) (r:Value),f.resultTypes[j]?=some t→(v.resultList f.resultTypes.size)[j]?=some r→Value.okWide P W' .any 0 t r) :
  s.post enc P f apart fresh handsOn again W args v W':=by
 have old:∀ p∈before,p.block < W.heap.size:=fun p hp=>hW.lt p hp
 have hold:∀ p∈before,(fun b=>decide (b < W.heap.size)) p.block=true:=fun p hp=>by simpa using old p hp
 have mem:∀ p,p∈before↔p∈pa∨p∈pv:=fun p=>by rw [hps,List.mem_append]
 refine ⟨ds,gs,before,[],pa,pv,hW,hres _ _ _,hargs _ hold,hvars _ hold,World.keptBut_mono (fun p hp=>⟨hp,.inr ((mem p).1 hp)⟩) (hb.frame _),fun _=>?_⟩
 obtain ⟨_,_,_,_,_,hz,hn⟩:=hW
 refine ⟨hok,_,_,([]++pa)++pv,⟨[]++pa,pv,trodAll_append (hargs _ (fun _ _=>rfl)) (hres _ _ _),hvars _ (fun _ _=>rfl),rfl,fun b off hp=>?_,fun ha=>?_⟩,fun p hp _=>?_⟩
 ·have hp':MemPlace.cell b off∈before:=by rw [hps];simpa using hp
  rw [hb.frozen (p:=⟨b,off,none⟩) (old _ hp')]
  exact hz b off hp'
 ·have:=hn ha
  rw [hps] at this
  simpa using this
 ·rw [hps]
  simpa using hp
end
end Go.Proofs.YtlooegbcfkoloaaGreatDoor
namespace Go.Proofs.YtlooegbcfkoloaaGreatDoor
open Go.RowKit
open Vm
theorem zoI {P:Program} {G:Nat→Vm.V} {f:FuncId} {args:List Vm.V} {v:Vm.V} (h:Ret P G f args v) {w:World} {vals:Array Value} (hv:RepL w (fun _ _=>False) args vals.toList)
  (hg:∀ g,G g=.any∨RepV w (fun _ _=>False) (G g) (.pointer (some ⟨g,0,none⟩))):Calls P f vals w fun e w'=>Below w.heap.size w w'∧∃ A',OutRep w' A' (.ret v) e:=by
 have hm:Mem ⟨w,fun _ _=>False,0,fun _=>Value.nilIface,entF [],G,0,[]⟩ (entF []) w (fun _=>Value.nilIface) (fun _ _=>False) :=
  { glo:=hg,kp:=Keeps.refl _ _,ent:=fun id=>trivial,dis:=fun id id' _ h=>absurd rfl h,a00:=fun b o h=>h.elim,a0:=fun b o h _=>h,al:=fun b o h=>h.elim,out:=Foll.refl _ _,lent:=fun id b h=>absurd h (Nat.not_lt_zero _),loc:=fun id b _ h=>absurd rfl h,ext:=⟨rfl,rfl,rfl,Nat.le_refl _,fun _ _ _=>rfl⟩ }
 refine Calls.mono (h.2 w _ _ vals hm (zjQ hv)) fun e w' ⟨o,es,H',A',⟨ho,hes⟩,_,_,hm',hout⟩=>?_
 subst ho
 exact ⟨⟨hm'.ext.os,hm'.ext.tape,hm'.ext.output,hm'.ext.size,fun k hk=>hm'.ext.block k hk (fun id h=>absurd h (Nat.not_lt_zero _))⟩,A',hout⟩
theorem xcell_lt {w:World} {b o:Nat} {v:Value} (h:w.cell? ⟨b,o,none⟩=some v):b < w.heap.size:=by
 false_or_by_contra
 rename_i hn
 have:w.heap[b]?=none:=Array.getElem?_eq_none (by omega)
 simp [World.cell?,this] at h
def gOf (m:Int):Nat→Vm.V:=fun g=>if g=shRen.g 1 then .ip (.int .i64 m) 0 else .any
theorem gOf_at (m:Int):gOf m (shRen.g 1)=.ip (.int .i64 m) 0:=if_pos rfl
theorem gOf_rep {W:World} {m:Int} (h:W.cell? ⟨shRen.g 1,0,none⟩=some (.int .i64 m)) (g:Nat):gOf m g=.any∨RepV W (fun _ _=>False) (gOf m g) (.pointer (some ⟨g,0,none⟩)):=by
 by_cases hg:g=shRen.g 1
 ·subst hg
  right
  rw [gOf_at]
  refine .ip (.int .i64 m) 0 (shRen.g 1) 0 [.int .i64 m] (.one _ _ rfl (.int _ _)) ⟨?_,fun j u hu=>⟨?_,fun h=>h⟩⟩
  ·exact xcell_lt h
  ·match j,hu with
   | 0,hu =>
    cases hu
    exact h
 ·left
  exact if_neg hg
theorem g_cell {W:World} (h:W.ShapedOpen Tryz.prog):∃ m,W.cell? ⟨shRen.g 1,0,none⟩=some (.int .i64 m) :=
 Go.Proofs.cell_of_shapedOpen_int (t:=3) (zero:=#[.int .i64 0]) h (of_decide_eq_true (by kernel_rfl)) (by kernel_rfl) rfl (by kernel_rfl) (by kernel_rfl) (by kernel_rfl)
theorem zpH {m:Int} {f:FuncId} {args:List Vm.V} {v:Vm.V} (h:(@pr ⟨m⟩).ev f args []=some (.ret v,[])) (ha:∀ a∈args,argOk 0 a) {w:World} (hm:w.cell? ⟨shRen.g 1,0,none⟩=some (.int .i64 m)) {vals:Array Value} (hv:RepL w (fun _ _=>False) args vals.toList) :
  Calls Tryz.prog f vals w fun e w'=>Below w.heap.size w w'∧∃ A',OutRep w' A' (.ret v) e :=
 zoI (G:=gOf m) (((@pr ⟨m⟩).ev_ok f args [] (.ret v) [] ha (fun e he=>by cases he) h).mono fun o es h=>h) hv (gOf_rep hm)
section
variable {H:Type} {enc:TypeId×Value→H}
theorem zjf {a:Assume} {C:Checked} {os:Os} {f:FuncId} {fn:Func} {s:ChangeSpec} {conds:List PathCond} {apart fresh handsOn again:Bool} {X:World→Array Value→Prop}
  (hX:∀ (w w':World) (args:Array Value),w.heap=w'.heap→X w args→X w' args)
  (own:ownKnob C.prog.godebug=none) (started:os.Started) (noInit:C.prog.inits.idxOf? f=none) (hfn:C.prog.funcs[f]?=some fn)
  (witness:∃ (w:World) (tape:Tape) (i:Input),w.os=os∧(w.forCall tape i).Shaped C.prog∧i.vars=[]∧Input.okWide C.prog (w.forCall tape i) .any w.heap.size f i ∧
   ((s.pre enc C.prog fn conds apart (w.forCall tape i).memory i.args∧X (w.forCall tape i).memory i.args)∧sizedMet enc C.prog fn (OpenSpec.ofChange s) apart (w.forCall tape i).memory i.args)∧a.holds C.prog (lone (Frame.enter C.prog f i.args .normal) [] (w.forCall tape i)))
  (contract:∀ (W:World) (base:Nat) (args:Array Value) (ds gs:List (DataW H)) (before:List MemPlace),
   (∀ (j:Nat) t v,fn.params[j]?=some t→args[j]?=some v→Value.okWide C.prog W .any base t v) →
   DataW.Whole enc C.prog fn.params.toList s.vars apart W args.toList ds gs before →
   conds.all (PathCond.test C.prog ⟨fn.params.toList,ds,s.plain.varTypes C.prog,gs⟩)=true →
   (DataW.weightsEach C.prog (fn.params.toList++s.plain.varTypes C.prog) (ds++gs)).all (·≤reachBytes)=true→X W args→W.ShapedOpen C.prog →
   a.holds C.prog (lone (Frame.enter C.prog f args .normal) [] W) →
   Calls C.prog f args W fun e W'=>∃ v,e=.returned v∧s.post enc C.prog fn apart fresh handsOn again W args v W') :
  ReturnsInHanded a C os f .any (fun w args=>(s.pre enc C.prog fn conds apart w args∧X w args)∧sizedMet enc C.prog fn (OpenSpec.ofChange s) apart w args) (s.post enc C.prog fn apart fresh handsOn again):=by
 refine returnsInHanded_of_calls own started noInit witness ?_
 intro w tape i _ hsh _ hok hpre hholds
 obtain ⟨_,_,_,fn',hfn',_,_,_,_,hval⟩:=hok
 have e:fn'=fn:=Option.some.inj (hfn'.symm.trans hfn)
 subst e
 obtain ⟨⟨⟨ds,gs,before,hw,hc⟩,hx⟩,hz⟩:=hpre
 have hw':=DataW.Whole.of_heap (w':=w.forCall tape i) (by rfl) hw
 refine (contract (w.forCall tape i) w.heap.size i.args ds gs before hval hw' hc (hz.weights hw) (hX _ _ _ (by rfl) hx) hsh hholds).mono fun e W' ⟨v,he,hp⟩=>?_
 subst he
 exact ChangeSpec.post_blind hp
end
abbrev zrQ:List (String×DataW Unit):=[("unicode/utf8.acceptRanges",Rows.laid_unicode_utf8_acceptRanges),("unicode/utf8.first",Rows.laid_unicode_utf8_first)]
theorem zsf (os:Os) (args:Array Value):laidMetH Tryz.prog zrQ ((World.laidAll Tryz.prog os zrQ).forCall (fun _ _=>0) ⟨#[],args,[]⟩).memory:=by
 rw [MakeChecks.laidMetH_plain _ _ _ (by kernel_rfl)]
 exact laidMet_laidAll _ (by kernel_rfl) (by kernel_rfl)
theorem xOwn_:ownKnob Tryz.prog.godebug=none:=by kernel_rfl
end Go.Proofs.YtlooegbcfkoloaaGreatDoor
namespace Go.Proofs.YtlooegbcfkoloaaGreatDoor
open Go.RowKit
open Vm
variable [Gl]
theorem enc_mk (k:Int) (op:Ex.S) (v:Ex.V) (t n:Ex.S) (s:Int) (g d:Bool) (l:List Ex.E) :
  encE (.mk k op v t n s g d l)=.agg [.int .i64 k,.str op,.int .i64 v.1,.int .i64 v.2.1,.str v.2.2,.str t,.str n,.int .i64 s,.bool g,.bool d,.list (l.map encE)]:=by unfold encE;rw [expC]
theorem zdO (e:Ex.E):(encE e).size=11:=by cases e;rw [enc_mk];rfl
@[simp] theorem ze9 {Z:Type} (e:Ex.E) (A:Option Z):ckA 11 (encE e) A=A:=by cases e;rw [enc_mk];exact ckA_agg _ _ rfl (by simp)
@[simp] theorem zl8 (e:Ex.E):agN 11 (encE e)=encE e:=by cases e;rw [enc_mk];exact agN_agg _ _ rfl
@[simp] theorem zhy (e:Ex.E):norm1 (encE e)=encE e:=by cases e;rw [enc_mk];simp
def LvP (L:List Lx.TA) (f:FuncId) (k n:Nat):Prop:=∀ m p r,m≤n→p≤L.length→Ex.run (L.map (·.1)) m (.lev k) p=some r →
 (∃ e q,r=.ok [e] q∧p < q∧q≤L.length∧pr.ev f [.ptr 0 0] [prsE L p]=some (.ret (encE e),[prsE L q]))∨∃ q,r=.stop q∧q≤L.length∧pr.ev f [.ptr 0 0] [prsE L p]=some (.panic (stopV q),[prsE L q])
def oneV (r:Option (List UInt8)):Vm.V:=match r with | some s=>.tup [.str s,.bool true] | none=>.tup [.str [],.bool false]
def str1:List UInt8→Vm.V:=.str
theorem zqs (L:List Lx.TA) (p:Nat) (k:Int) (l:List (List UInt8)) (hL:L.length≤999999) (hp:p≤L.length) (hl:l.length≤1000):∀ (n i:Nat),i+n=l.length →
  lup Out (zbc pr.ev lup) [.int .i64 k,.list (l.map str1),.int .i64 l.length,.int .i64 i,.agg [.list (L.map tokM),.int .i64 p]] =
   some (.ret (oneV (Ex.oneOf (L.map (·.1)) p k (l.drop i))),[prsE L (match Ex.oneOf (L.map (·.1)) p k (l.drop i) with | some _=>p+1 | none=>p)])
 | 0,i,hi=>by
  have h1:¬ i < l.length:=by omega
  have h2:l.drop i=[]:=List.drop_of_length_le (by omega)
  rw [zaF]
  simp [-Int.natCast_add,zbc,h1,h2,Ex.oneOf,oneV,rtn]
 | n+1,i,hi=>by
  have h1:i < l.length:=by omega
  have h2:l.drop i=l[i] :: l.drop (i+1):=List.drop_eq_getElem_cons h1
  have h3:=zop L p k l[i] hL hp
  have h4:=zqs L p k l hL hp hl n (i+1) (by omega)
  have el:elV 1 (.list (l.map str1)) (.int .i64 (i:Int))=some (.str l[i]):=by rw [zl9 1 str1 l .i64 i fun _=>rfl];simp [h1,str1]
  have ld:ldV false 1 (.str l[i]) 0=some (.str l[i]):=rfl
  rw [zaF,h2,Ex.oneOf]
  cases h:Ex.isT (L.map (·.1)) p k l[i]
  ·simp only [h] at h3
   simp [-Int.natCast_add,zbc,h1,el,ld,k_r h3,h,zcs (show i≤1000000 by omega)]
   simpa [-Int.natCast_add] using h4
  ·simp only [h] at h3
   simp [-Int.natCast_add,zbc,h1,el,ld,k_r h3,h,oneV,rtn]
theorem m_one (L:List Lx.TA) (p:Nat) (k:Int) (l:List (List UInt8)) (hL:L.length≤999999) (hp:p≤L.length) (hl:l.length≤1000) :
  pr.ev 171 [.ptr 0 0,.int .i64 k,.list (l.map .str)] [prsE L p]=some (.ret (oneV (Ex.oneOf (L.map (·.1)) p k l)),[prsE L (match Ex.oneOf (L.map (·.1)) p k l with | some _=>p+1 | none=>p)]):=by
 refine pr.of rfl rfl rfl (ziX _ _ _ _ _ _ _) ?_
 have h:=zqs L p k l hL hp hl l.length 0 (by omega)
 simpa [-Int.natCast_add,zeY, -zad,str1] using h
def zE0:Vm.V:=.agg [.int .i64 0,.str [],.int .i64 0,.int .i64 0,.str [],.str [],.str [],.int .i64 0,.bool false,.bool false,.nils]
theorem zuD (op:Ex.S) (a b:Ex.E):Vm.V.agg [.int .i64 4,.str op,.int .i64 0,.int .i64 0,.str [],.str [],.str [],.int .i64 0,.bool false,.bool false,.list [encE a,encE b]]=encE (Ex.eBin op a b):=by rw [Ex.eBin,enc_mk];rfl
theorem enc_un (op:Ex.S) (a:Ex.E):Vm.V.agg [.int .i64 3,.str op,.int .i64 0,.int .i64 0,.str [],.str [],.str [],.int .i64 0,.bool false,.bool false,.list [encE a]]=encE (Ex.eUn op a):=by rw [Ex.eUn,enc_mk];rfl
def OutP (L:List Lx.TA) (lo:Nat) (r:Ex.R) (o:Option Out):Prop:=(∃ e q,r=.ok [e] q∧lo≤q∧q≤L.length∧o=some (.ret (encE e),[prsE L q]))∨∃ q,r=.stop q∧q≤L.length∧o=some (.panic (stopV q),[prsE L q])
theorem chain_loop {L:List Lx.TA} {f:FuncId} {k n:Nat} (hL:L.length≤999999) (h:LvP L f (k+1) n):∀ (m p:Nat) (e:Ex.E) (r:Ex.R),m≤n+1→p≤L.length→Ex.run (L.map (·.1)) m (.chain k e) p=some r →
  OutP L p r (lup Out (sh_expr_parser_chain_l0 pr.ev lup) [.fn f [] [],.int .i64 (Ex.ops k).2,.list ((Ex.ops k).1.map .str),.agg [.list (L.map tokM),.int .i64 p],zE0,encE e])
 | 0,p,e,r,_,_,hr=>by cases hr
 | m+1,p,e,r,hm,hp,hr=>by
  have h1:=m_one L p (Ex.ops k).2 (Ex.ops k).1 hL hp (by unfold Ex.ops;split<;>simp)
  simp only [Ex.run] at hr
  cases ho:Ex.oneOf (L.map (·.1)) p (Ex.ops k).2 (Ex.ops k).1 with
  | none =>
   rw [ho] at hr h1
   cases hr
   refine .inl ⟨e,p,rfl,Nat.le_refl _,hp, ?_⟩
   rw [zaF]
   simp [-Int.natCast_add,sh_expr_parser_chain_l0,k_r h1,oneV,rtn]
  | some op =>
   rw [ho] at hr h1
   have hlt:p < L.length:=by simpa using (Ex.zbP ho).1
   rcases Ex.then1_some hr with ⟨b,q,hb,hr2⟩ | ⟨q,hb,rfl⟩
   ·rcases h m (p+1) _ (by omega) (by omega) hb with ⟨b',q',hb',hq1,hq2,hev⟩ | ⟨q',hb',_⟩
    ·cases hb'
     have ih:=chain_loop hL h m q (Ex.eBin op e b) r (by omega) hq2 hr2
     have e1:lup Out (sh_expr_parser_chain_l0 pr.ev lup) [.fn f [] [],.int .i64 (Ex.ops k).2,.list ((Ex.ops k).1.map .str),.agg [.list (L.map tokM),.int .i64 p],zE0,encE e]=lup Out (sh_expr_parser_chain_l0 pr.ev lup) [.fn f [] [],.int .i64 (Ex.ops k).2,.list ((Ex.ops k).1.map .str),.agg [.list (L.map tokM),.int .i64 q],zE0,encE (Ex.eBin op e b)]:=by
      rw [zaF]
      simp [-Int.natCast_add,sh_expr_parser_chain_l0,k_r h1,k_r hev,oneV,zuD,fnG,zE0]
     rw [e1]
     rcases ih with ⟨e',q2,hr',h4,h5,h6⟩ | h4
     ·exact .inl ⟨e',q2,hr',by omega,h5,h6⟩
     ·exact .inr h4
    ·cases hb'
   ·rcases h m (p+1) _ (by omega) (by omega) hb with ⟨b',q',hb',_⟩ | ⟨q',hb',hq2,hev⟩
    ·cases hb'
    ·cases hb'
     refine .inr ⟨q,rfl,hq2, ?_⟩
     rw [zaF]
     simp [-Int.natCast_add,sh_expr_parser_chain_l0,k_r h1,k_p hev,oneV,fnG,pnk]
end Go.Proofs.YtlooegbcfkoloaaGreatDoor
namespace Go.Proofs.YtlooegbcfkoloaaGreatDoor
open Go.RowKit
open Vm
variable [Gl]
section
variable {L:List Lx.TA} {n:Nat}
theorem m_chain {f:FuncId} {k:Nat} (hL:L.length≤999999) (h:LvP L f (k+1) n) (hk:k≠2∧k≠3∧k≠7∧k≠8) (m p:Nat) (r:Ex.R) (hm:m≤n+1) (hp:p≤L.length) (hr:Ex.run (L.map (·.1)) m (.lev k) p=some r) :
  OutP L (p+1) r (pr.ev 161 [.ptr 0 0,.fn f [.ptr 0 0] [],.int .i64 (Ex.ops k).2,.list ((Ex.ops k).1.map .str)] [prsE L p]):=by
 cases m with
 | zero=>cases hr
 | succ m =>
  rw [Ex.zfk _ _ _ _ hk] at hr
  rcases Ex.then1_some hr with ⟨b,q,hb,hr2⟩ | ⟨q,hb,rfl⟩
  ·rcases h m p _ (by omega) hp hb with ⟨b',q',hb',hq1,hq2,hev⟩ | ⟨q',hb',_⟩
   ·cases hb'
    have e0:∀ z,lup Out (sh_expr_parser_chain_l0 pr.ev lup) [.fn f [] [],.int .i64 (Ex.ops k).2,.list ((Ex.ops k).1.map .str),.agg [.list (L.map tokM),.int .i64 q],zE0,encE b]=some z→pr.ev 161 [.ptr 0 0,.fn f [.ptr 0 0] [],.int .i64 (Ex.ops k).2,.list ((Ex.ops k).1.map .str)] [prsE L p]=some z:=by
     intro z hz
     refine pr.of rfl rfl rfl (zey _ _ _ _ _ _ _ _) ?_
     simpa [-Int.natCast_add,zcL,k_r hev,zE0] using hz
    rcases chain_loop hL h m q b r (by omega) hq2 hr2 with ⟨e',q2,hr',h4,h5,h6⟩ | ⟨q2,hr',h5,h6⟩
    ·exact .inl ⟨e',q2,hr',by omega,h5,e0 _ h6⟩
    ·exact .inr ⟨q2,hr',h5,e0 _ h6⟩
   ·cases hb'
  ·rcases h m p _ (by omega) hp hb with ⟨b',q',hb',_⟩ | ⟨q',hb',hq2,hev⟩
   ·cases hb'
   ·cases hb'
    refine .inr ⟨q,rfl,hq2, ?_⟩
    refine pr.of rfl rfl rfl (zey _ _ _ _ _ _ _ _) ?_
    simp [-Int.natCast_add,zcL,k_p hev,pnk]
theorem m_expr (hL:L.length≤999999) (h:LvP L 162 1 n):LvP L 148 0 (n+1):=fun m p r hm hp hr=>by
 rcases m_chain hL h (by decide) m p r hm hp hr with ⟨e,q,rfl,h1,h2,h3⟩ | ⟨q,rfl,h2,h3⟩
 ·simp only [Ex.ops,Ex.wOr,Ex.wAnd,Ex.mPlus,Ex.mMinus,Ex.zbG,List.map] at h3
  refine .inl ⟨e,q,rfl,h1,h2,pr.of rfl rfl rfl (ze4 _ _ _ _ _) ?_⟩
  simp [zc2,k_r h3,rtn]
 ·simp only [Ex.ops,Ex.wOr,Ex.wAnd,Ex.mPlus,Ex.mMinus,Ex.zbG,List.map] at h3
  refine .inr ⟨q,rfl,h2,pr.of rfl rfl rfl (ze4 _ _ _ _ _) ?_⟩
  simp [zc2,k_p h3,pnk]
theorem znd (hL:L.length≤999999) (h:LvP L 172 2 n):LvP L 162 1 (n+1):=fun m p r hm hp hr=>by
 rcases m_chain hL h (by decide) m p r hm hp hr with ⟨e,q,rfl,h1,h2,h3⟩ | ⟨q,rfl,h2,h3⟩
 ·simp only [Ex.ops,Ex.wOr,Ex.wAnd,Ex.mPlus,Ex.mMinus,Ex.zbG,List.map] at h3
  refine .inl ⟨e,q,rfl,h1,h2,pr.of rfl rfl rfl (zcO _ _ _ _ _) ?_⟩
  simp [zbF,k_r h3,rtn]
 ·simp only [Ex.ops,Ex.wOr,Ex.wAnd,Ex.mPlus,Ex.mMinus,Ex.zbG,List.map] at h3
  refine .inr ⟨q,rfl,h2,pr.of rfl rfl rfl (zcO _ _ _ _ _) ?_⟩
  simp [zbF,k_p h3,pnk]
theorem m_sum (hL:L.length≤999999) (h:LvP L 187 5 n):LvP L 184 4 (n+1):=fun m p r hm hp hr=>by
 rcases m_chain hL h (by decide) m p r hm hp hr with ⟨e,q,rfl,h1,h2,h3⟩ | ⟨q,rfl,h2,h3⟩
 ·simp only [Ex.ops,Ex.wOr,Ex.wAnd,Ex.mPlus,Ex.mMinus,Ex.zbG,List.map] at h3
  refine .inl ⟨e,q,rfl,h1,h2,pr.of rfl rfl rfl (zfz _ _ _ _ _) ?_⟩
  simp [zdm,k_r h3,rtn]
 ·simp only [Ex.ops,Ex.wOr,Ex.wAnd,Ex.mPlus,Ex.mMinus,Ex.zbG,List.map] at h3
  refine .inr ⟨q,rfl,h2,pr.of rfl rfl rfl (zfz _ _ _ _ _) ?_⟩
  simp [zdm,k_p h3,pnk]
theorem ztQ (hL:L.length≤999999) (h:LvP L 190 6 n):LvP L 187 5 (n+1):=fun m p r hm hp hr=>by
 rcases m_chain hL h (by decide) m p r hm hp hr with ⟨e,q,rfl,h1,h2,h3⟩ | ⟨q,rfl,h2,h3⟩
 ·simp only [Ex.ops,Ex.wOr,Ex.wAnd,Ex.mPlus,Ex.mMinus,Ex.zbG,List.map] at h3
  refine .inl ⟨e,q,rfl,h1,h2,pr.of rfl rfl rfl (zdU _ _ _ _ _) ?_⟩
  simp [zcm,k_r h3,rtn]
 ·simp only [Ex.ops,Ex.wOr,Ex.wAnd,Ex.mPlus,Ex.mMinus,Ex.zbG,List.map] at h3
  refine .inr ⟨q,rfl,h2,pr.of rfl rfl rfl (zdU _ _ _ _ _) ?_⟩
  simp [zcm,k_p h3,pnk]
theorem m_join (hL:L.length≤999999) (h:LvP L 191 7 n):LvP L 190 6 (n+1):=fun m p r hm hp hr=>by
 rcases m_chain hL h (by decide) m p r hm hp hr with ⟨e,q,rfl,h1,h2,h3⟩ | ⟨q,rfl,h2,h3⟩
 ·simp only [Ex.ops,Ex.wOr,Ex.wAnd,Ex.mPlus,Ex.mMinus,Ex.zbG,List.map] at h3
  refine .inl ⟨e,q,rfl,h1,h2,pr.of rfl rfl rfl (ze3 _ _ _ _ _) ?_⟩
  simp [zc1,k_r h3,rtn]
 ·simp only [Ex.ops,Ex.wOr,Ex.wAnd,Ex.mPlus,Ex.mMinus,Ex.zbG,List.map] at h3
  refine .inr ⟨q,rfl,h2,pr.of rfl rfl rfl (ze3 _ _ _ _ _) ?_⟩
  simp [zc1,k_p h3,pnk]
theorem zrK (hL:L.length≤999999) (h:LvP L 172 2 n) (h':LvP L 180 3 n):LvP L 172 2 (n+1):=fun m p r hm hp hr=>by
 cases m with
 | zero=>cases hr
 | succ m =>
  have hw:=ztK L p [110,111,116] hL hp
  rw [Ex.run] at hr
  simp only [Ex.wNot] at hr
  cases ht:Ex.isT (L.map (·.1)) p 2 [110,111,116]
  ·simp only [ht,Bool.false_eq_true,if_false] at hr hw
   rcases h' m p _ (by omega) hp hr with ⟨e,q,rfl,h1,h2,h3⟩ | ⟨q,rfl,h2,h3⟩
   ·refine .inl ⟨e,q,rfl,h1,h2,pr.of rfl rfl rfl (zbE _ _ _ _ _) ?_⟩
    simp [-Int.natCast_add,za0,k_r hw,k_r h3,rtn]
   ·refine .inr ⟨q,rfl,h2,pr.of rfl rfl rfl (zbE _ _ _ _ _) ?_⟩
    simp [-Int.natCast_add,za0,k_r hw,k_p h3,pnk]
  ·have hlt:p < L.length:=by simpa using Ex.isT_lt ht
   simp only [ht,if_true] at hr hw
   rcases Ex.then1_some hr with ⟨b,q,hb,hr2⟩ | ⟨q,hb,rfl⟩
   ·cases hr2
    rcases h m (p+1) _ (by omega) (by omega) hb with ⟨e,q2,h0,h1,h2,h3⟩ | ⟨q2,h0,_⟩
    ·cases h0
     refine .inl ⟨_,_,rfl,by omega,h2,pr.of rfl rfl rfl (zbE _ _ _ _ _) ?_⟩
     rw [← enc_un]
     simp [-Int.natCast_add,za0,k_r hw,k_r h3,rtn]
    ·cases h0
   ·rcases h m (p+1) _ (by omega) (by omega) hb with ⟨e,q2,h0,_⟩ | ⟨q2,h0,h2,h3⟩
    ·cases h0
    ·cases h0
     refine .inr ⟨_,rfl,h2,pr.of rfl rfl rfl (zbE _ _ _ _ _) ?_⟩
     simp [-Int.natCast_add,za0,k_r hw,k_p h3,pnk]
end
end Go.Proofs.YtlooegbcfkoloaaGreatDoor
namespace Go.Proofs.YtlooegbcfkoloaaGreatDoor
open Go.RowKit
open Vm
variable [Gl]
theorem OutP.of {L:List Lx.TA} {lo:Nat} {r:Ex.R} {o o':Option Out} (h:OutP L lo r o) (e:∀ z,o=some z→o'=some z):OutP L lo r o':=by
 rcases h with ⟨a,q,h1,h2,h3,h4⟩ | ⟨q,h1,h3,h4⟩
 ·exact .inl ⟨a,q,h1,h2,h3,e _ h4⟩
 ·exact .inr ⟨q,h1,h3,e _ h4⟩
theorem LvP.of {L:List Lx.TA} {f:FuncId} {k n:Nat} (h:∀ m p r,m≤n→p≤L.length→Ex.run (L.map (·.1)) (m+1) (.lev k) p=some r→OutP L (p+1) r (pr.ev f [.ptr 0 0] [prsE L p])):LvP L f k (n+1):=fun m p r hm hp hr=>by
 cases m with
 | zero=>cases hr
 | succ m=>exact h m p r (by omega) hp hr
section
variable {L:List Lx.TA} {n:Nat} {f:FuncId} {k m p lo:Nat} {r:Ex.R} {Kp K:Vm.V→Ent→Option Out}
theorem LvP.go (h:LvP L f k n) (hm:m≤n) (hp:p≤L.length) {F:Ex.E→Nat→Option Ex.R} (hr:Ex.then1 (Ex.run (L.map (·.1)) m (.lev k) p) F=some r) (hk:∀ e q,p < q→q≤L.length→F e q=some r→OutP L lo r (K (encE e) (prsE L q)))
  (hs:∀ q,Kp (stopV q) (prsE L q)=some (.panic (stopV q),[prsE L q])):OutP L lo r (cl1 pr.ev f [.ptr 0 0] (prsE L p) 182 2 Kp K):=by
 rcases Ex.then1_some hr with ⟨e,q,h1,h2⟩ | ⟨q,h1,rfl⟩
 ·rcases h m p _ hm hp h1 with ⟨e',q',h3,h4,h5,h6⟩ | ⟨q',h3,_⟩
  ·cases h3
   rw [k_r h6]
   exact hk e q h4 h5 h2
  ·cases h3
 ·rcases h m p _ hm hp h1 with ⟨e',q',h3,_⟩ | ⟨q',h3,h4,h5⟩
  ·cases h3
  ·cases h3
   rw [k_p h5]
   exact .inr ⟨q,rfl,h4,hs q⟩
theorem LvP.end (h:LvP L f k n) (hm:m≤n) (hp:p≤L.length) (hr:Ex.run (L.map (·.1)) m (.lev k) p=some r) (hlo:lo≤p+1) (hk:∀ e q,K (encE e) (prsE L q)=some (.ret (encE e),[prsE L q])) (hs:∀ q,Kp (stopV q) (prsE L q)=some (.panic (stopV q),[prsE L q])) :
  OutP L lo r (cl1 pr.ev f [.ptr 0 0] (prsE L p) 182 2 Kp K):=by
 rcases h m p _ hm hp hr with ⟨e,q,rfl,h4,h5,h6⟩ | ⟨q,rfl,h4,h5⟩
 ·rw [k_r h6]
  exact .inl ⟨e,q,rfl,by omega,h5,hk e q⟩
 ·rw [k_p h5]
  exact .inr ⟨q,rfl,h4,hs q⟩
theorem zfp (hL:L.length≤999999) (hp:p≤L.length) {k:Int} {s:List UInt8} {F:Nat→Option Ex.R} (hr:Ex.need (L.map (·.1)) k s p F=some r) (hk:p < L.length→F (p+1)=some r→OutP L lo r (K (.tup []) (prsE L (p+1))))
  (hs:∀ q,Kp (stopV q) (prsE L q)=some (.panic (stopV q),[prsE L q])):OutP L lo r (cl1 pr.ev 185 [.ptr 0 0,.int .i64 k,.str s] (prsE L p) 182 2 Kp K):=by
 have h:=zqJ L p k s hL hp
 rcases Ex.need_some hr with ⟨h1,h2⟩ | ⟨h1,rfl⟩
 ·rw [h1,if_pos rfl] at h
  rw [k_r h]
  exact hk (by simpa using Ex.isT_lt h1) h2
 ·rw [h1,if_neg (by simp)] at h
  rw [k_p h]
  exact .inr ⟨p,rfl,hp,hs p⟩
theorem zfd (hL:L.length≤999999) (hp:p≤L.length) {s:List UInt8} (h1:Ex.isT (L.map (·.1)) p 2 s=true→p < L.length→OutP L lo r (K (.bool true) (prsE L (p+1)))) (h0:Ex.isT (L.map (·.1)) p 2 s=false→OutP L lo r (K (.bool false) (prsE L p))) :
  OutP L lo r (cl1 pr.ev 179 [.ptr 0 0,.str s] (prsE L p) 182 2 Kp K):=by
 have h:=ztK L p s hL hp
 rw [k_r h]
 cases ht:Ex.isT (L.map (·.1)) p 2 s
 ·exact h0 ht
 ·exact h1 ht (by simpa using Ex.isT_lt ht)
theorem zkL (hL:L.length≤999999) (hp:p≤L.length) {s:List UInt8} (h1:Ex.isT (L.map (·.1)) p 4 s=true→p < L.length→OutP L lo r (K (.bool true) (prsE L (p+1)))) (h0:Ex.isT (L.map (·.1)) p 4 s=false→OutP L lo r (K (.bool false) (prsE L p))) :
  OutP L lo r (cl1 pr.ev 189 [.ptr 0 0,.str s] (prsE L p) 182 2 Kp K):=by
 have h:=ztR L p s hL hp
 rw [k_r h]
 cases ht:Ex.isT (L.map (·.1)) p 4 s
 ·exact h0 ht
 ·exact h1 ht (by simpa using Ex.isT_lt ht)
theorem zt5 (hL:L.length≤999999) (hp:p≤L.length) {a:Nat} (ha:a≤2) {k:Int} {s:List UInt8} {w:Vm.V} (hw:w=.int .i64 (a:Int)) (hk:OutP L lo r (K (.bool (Ex.isT (L.map (·.1)) (p+a) k s)) (prsE L p))) :
  OutP L lo r (cl1 pr.ev 183 [.ptr 0 0,w,.int .i64 k,.str s] (prsE L p) 182 2 Kp K):=by
 rw [hw,k_r (m_is L p a k s hL hp ha)]
 exact hk
theorem zds {e:Ex.E} (hr:r=.ok [e] p) (hlo:lo≤p) (hp:p≤L.length) {o:Option Out} (ho:o=some (.ret (encE e),[prsE L p])):OutP L lo r o:=.inl ⟨e,p,hr,hlo,hp,ho⟩
def LsP (L:List Lx.TA) (n:Nat):Prop:=∀ m p r,m≤n→p≤L.length→Ex.run (L.map (·.1)) m (.list []) p=some r →
 (∃ l q,r=.ok l q∧p < q∧q≤L.length∧l.length≤1000000∧pr.ev 186 [.ptr 0 0] [prsE L p]=some (.ret (.list (l.map encE)),[prsE L q]))∨∃ q,r=.stop q∧q≤L.length∧pr.ev 186 [.ptr 0 0] [prsE L p]=some (.panic (stopV q),[prsE L q])
theorem LsP.go (h:LsP L n) (hm:m≤n) (hp:p≤L.length) {F:List Ex.E→Nat→Option Ex.R} (hr:Ex.zg7 (Ex.run (L.map (·.1)) m (.list []) p) F=some r) (hk:∀ l q,p < q→q≤L.length→l.length≤1000000→F l q=some r→OutP L lo r (K (.list (l.map encE)) (prsE L q)))
  (hs:∀ q,Kp (stopV q) (prsE L q)=some (.panic (stopV q),[prsE L q])):OutP L lo r (cl1 pr.ev 186 [.ptr 0 0] (prsE L p) 182 2 Kp K):=by
 rcases Ex.thenL_some hr with ⟨e,q,h1,h2⟩ | ⟨q,h1,rfl⟩
 ·rcases h m p _ hm hp h1 with ⟨e',q',h3,h4,h5,h7,h6⟩ | ⟨q',h3,_⟩
  ·cases h3
   rw [k_r h6]
   exact hk e q h4 h5 h7 h2
  ·cases h3
 ·rcases h m p _ hm hp h1 with ⟨e',q',h3,_⟩ | ⟨q',h3,h4,h5⟩
  ·cases h3
  ·cases h3
   rw [k_p h5]
   exact .inr ⟨q,rfl,h4,hs q⟩
theorem LvP.two (h:LvP L f k n) (hm:m≤n) (hp:p≤L.length) {F:Ex.E→Nat→Option Ex.R} (hr:Ex.then1 (Ex.run (L.map (·.1)) m (.lev k) p) F=some r) :
  (∃ e q,p < q∧q≤L.length∧F e q=some r∧pr.ev f [.ptr 0 0] [prsE L p]=some (.ret (encE e),[prsE L q]))∨∃ q,r=.stop q∧q≤L.length∧pr.ev f [.ptr 0 0] [prsE L p]=some (.panic (stopV q),[prsE L q]):=by
 rcases Ex.then1_some hr with ⟨e,q,h1,h2⟩ | ⟨q,h1,rfl⟩
 ·rcases h m p _ hm hp h1 with ⟨e',q',h3,h4,h5,h6⟩ | ⟨q',h3,_⟩
  ·cases h3
   exact .inl ⟨e,q,h4,h5,h2,h6⟩
  ·cases h3
 ·rcases h m p _ hm hp h1 with ⟨e',q',h3,_⟩ | ⟨q',h3,h4,h5⟩
  ·cases h3
  ·cases h3
   exact .inr ⟨q,rfl,h4,h5⟩
theorem list_loop (hL:L.length≤999999) (h:LvP L 148 0 n):∀ (m p:Nat) (acc:List Ex.E) (e:Ex.E) (r:Ex.R),m≤n→p≤L.length→acc.length+1≤p →
  (if Ex.isT (L.map (·.1)) p 4 Ex.mComma then Ex.run (L.map (·.1)) m (.list (acc++[e])) (p+1) else Ex.need (L.map (·.1)) 4 Ex.mShut p fun q=>some (.ok (acc++[e]) q))=some r →
  (∃ l q,r=.ok l q∧p≤q∧q≤L.length∧l.length≤1000000∧lup Out (sh_expr_parser_list_l0 pr.ev lup) [.agg [.list (L.map tokM),.int .i64 p],.list ((acc++[e]).map encE)]=some (.ret (.list (l.map encE)),[prsE L q])) ∨
  ∃ q,r=.stop q∧q≤L.length∧lup Out (sh_expr_parser_list_l0 pr.ev lup) [.agg [.list (L.map tokM),.int .i64 p],.list ((acc++[e]).map encE)]=some (.panic (stopV q),[prsE L q]):=by
 intro m
 induction m with
 | zero =>
  intro p acc e r hm hp hacc hr
  have hw:=ztR L p [44] hL hp
  have hmu:=zqJ L p 4 [41] hL hp
  simp only [Ex.mComma,Ex.mShut] at hr
  cases ht:Ex.isT (L.map (·.1)) p 4 [44]
  ·simp only [ht,Bool.false_eq_true,if_false] at hr hw
   rcases Ex.need_some hr with ⟨h1,h2⟩ | ⟨h1,rfl⟩
   ·cases h2
    rw [h1,if_pos rfl] at hmu
    have hlt:p < L.length:=by simpa using Ex.isT_lt h1
    refine .inl ⟨_,_,rfl,by omega,by omega,by simp;omega, ?_⟩
    rw [zaF]
    simp [-Int.natCast_add,sh_expr_parser_list_l0,za3,k_r hw,k_r hmu,rtn]
   ·rw [h1,if_neg (by simp)] at hmu
    refine .inr ⟨_,rfl,hp, ?_⟩
    rw [zaF]
    simp [-Int.natCast_add,sh_expr_parser_list_l0,za3,k_r hw,k_p hmu,pnk]
  ·simp [ht,Ex.run] at hr
 | succ m ih =>
  intro p acc e r hm hp hacc hr
  have hw:=ztR L p [44] hL hp
  have hmu:=zqJ L p 4 [41] hL hp
  simp only [Ex.mComma,Ex.mShut] at hr
  cases ht:Ex.isT (L.map (·.1)) p 4 [44]
  ·simp only [ht,Bool.false_eq_true,if_false] at hr hw
   rcases Ex.need_some hr with ⟨h1,h2⟩ | ⟨h1,rfl⟩
   ·cases h2
    rw [h1,if_pos rfl] at hmu
    have hlt:p < L.length:=by simpa using Ex.isT_lt h1
    refine .inl ⟨_,_,rfl,by omega,by omega,by simp;omega, ?_⟩
    rw [zaF]
    simp [-Int.natCast_add,sh_expr_parser_list_l0,za3,k_r hw,k_r hmu,rtn]
   ·rw [h1,if_neg (by simp)] at hmu
    refine .inr ⟨_,rfl,hp, ?_⟩
    rw [zaF]
    simp [-Int.natCast_add,sh_expr_parser_list_l0,za3,k_r hw,k_p hmu,pnk]
  ·have hlt:p < L.length:=by simpa using Ex.isT_lt ht
   simp only [ht,if_true,Ex.run] at hr hw
   rcases h.two (by omega) (by omega) hr with ⟨b,q,h1,h2,h3,h4⟩ | ⟨q,rfl,h2,h4⟩
   ·have e1:lup Out (sh_expr_parser_list_l0 pr.ev lup) [.agg [.list (L.map tokM),.int .i64 p],.list ((acc++[e]).map encE)]=lup Out (sh_expr_parser_list_l0 pr.ev lup) [.agg [.list (L.map tokM),.int .i64 q],.list ((acc++[e]++[b]).map encE)]:=by
     rw [zaF]
     have ha:appV 11 128 (.list ((acc++[e]).map encE)) (.list [encE b])=some (.list ((acc++[e]++[b]).map encE)):=by
      rw [zpM _ _ _ _ (by simp [zdO]) (by simp;omega)];simp
     simp only [List.map_append,List.map_cons,List.map_nil] at ha
     simp [-Int.natCast_add,sh_expr_parser_list_l0,k_r hw,k_r h4,ha, -List.append_assoc]
    rw [e1]
    rcases ih q (acc++[e]) b r (by omega) h2 (by simp;omega) (by simpa [Ex.mComma,Ex.mShut] using h3) with ⟨l,q2,h5,h6,h7⟩ | h5
    ·exact .inl ⟨l,q2,h5,by omega,h7⟩
    ·exact .inr h5
   ·refine .inr ⟨_,rfl,h2, ?_⟩
    rw [zaF]
    simp [-Int.natCast_add,sh_expr_parser_list_l0,k_r hw,k_p h4,pnk]
theorem m_list (hL:L.length≤999999) (h:LvP L 148 0 n):LsP L (n+1):=fun m p r hm hp hr=>by
 cases m with
 | zero=>cases hr
 | succ m =>
  rw [Ex.run] at hr
  rcases h.two (by omega) hp hr with ⟨e,q,h1,h2,h3,h4⟩ | ⟨q,rfl,h2,h4⟩
  ·have e0:∀ z,lup Out (sh_expr_parser_list_l0 pr.ev lup) [.agg [.list (L.map tokM),.int .i64 q],.list [encE e]]=some z→pr.ev 186 [.ptr 0 0] [prsE L p]=some z:=by
    intro z hz
    refine pr.of rfl rfl rfl (ze2 _ _ _ _ _) ?_
    simpa [-Int.natCast_add,zc0,k_r h4] using hz
   rcases list_loop hL h m q [] e r (by omega) h2 (by simp;omega) h3 with ⟨l,q2,h5,h6,h7,h8,h9⟩ | ⟨q2,h5,h7,h9⟩
   ·exact .inl ⟨l,q2,h5,by omega,h7,h8,e0 _ h9⟩
   ·exact .inr ⟨q2,h5,h7,e0 _ h9⟩
  ·refine .inr ⟨q,rfl,h2,pr.of rfl rfl rfl (ze2 _ _ _ _ _) ?_⟩
   simp [-Int.natCast_add,zc0,k_p h4,pnk]
theorem m_signed (hL:L.length≤999999) (hT:∀ (i:Nat) (t:Lx.TA),L[i]?=some t→-9223372036854775807≤t.1.val.2.1∧t.1.val.2.1≤9223372036854775807) (h8:LvP L 192 8 n) (h:LvP L 191 7 n):LvP L 191 7 (n+1):=LvP.of fun m p r hm hp hr=>by
 have h1:=m_one L p 4 [[45],[43]] hL hp (by simp)
 simp only [List.map] at h1
 rw [Ex.run] at hr
 simp only [Ex.mMinus,Ex.mPlus] at hr
 cases ho:Ex.oneOf (L.map (·.1)) p 4 [[45],[43]] with
 | none =>
  rw [ho] at hr h1
  refine OutP.of ?_ fun z hz=>pr.of rfl rfl rfl (zeh _ _ _ _ _) hz
  simp only [zav,zad,k_r h1,oneV,zpy,List.getElem?_cons_zero,List.getElem?_cons_succ,Option.bind_some,zlr,Bool.not_false,zbf,if_true,zbe,zbd]
  exact h8.end hm hp hr (by omega) (fun e q=>by simp [rtn]) (fun _=>rfl)
 | some op =>
  rw [ho] at hr h1
  have hlt:p < L.length:=by simpa using (Ex.zbP ho).1
  refine OutP.of ?_ fun z hz=>pr.of rfl rfl rfl (zeh _ _ _ _ _) hz
  have hj:Ex.then1 (Ex.run (L.map (·.1)) m (.lev 7) (p+1)) (fun e q=>Ex.one (Ex.eUn op e) q)=some r→OutP L (p+1) r (zaB pr.ev lup (.str op) (.bool false) (.agg [.list (L.map tokM),.int .i64 ((p+1:Nat):Int)])):=fun hr=>by
   simp only [zaB,zbf,Bool.false_eq_true,if_false,za1,List.getD_cons_zero,List.getD_cons_succ,zad]
   refine h.go hm (by omega) hr (fun e q h1 h2 h3=>zds (Ex.zbz h3) (by omega) h2 ?_) (fun _=>rfl)
   simp [-Int.natCast_add,← enc_un,rtn,ckA_agg]
  have hs:∀ {o:Option Out},OutP L (p+1) r o→zav pr.ev lup (.list (L.map tokM)) (.int .i64 (p:Int))=o→OutP L (p+1) r (zav pr.ev lup (.list (L.map tokM)) (.int .i64 (p:Int))):=fun h e=>by rw [e];exact h
  cases ht:L[p+1]? with
  | none =>
   have hge:L.length≤p+1:=by simpa using ht
   simp only [List.getElem?_map,ht,Option.map_none] at hr
   refine hs (hj hr) ?_
   have hge2:¬ p+1 < L.length:=by omega
   by_cases hop:op=[45]<;>simp [-Int.natCast_add,zav,k_r h1,oneV,hop,hge2]
  | some t =>
   have hlt2:p+1 < L.length:=(List.getElem?_eq_some_iff.1 ht).1
   have el:elV 6 (.list (L.map tokM)) (.int .i64 ((p+1:Nat):Int))=some (tokM t):=by rw [zlu,ht];rfl
   simp only [List.getElem?_map,ht,Option.map_some] at hr
   by_cases hc:op=[45]∧t.1.kind=3∧t.1.val.1=1
   ·obtain ⟨rfl,hk,hv⟩:=hc
    simp only [hk,hv,beq_self_eq_true,decide_true,Bool.and_self,if_true] at hr
    cases hr
    have hb:=hT _ _ ht
    have hw:IntKind.wrap .i64 (0 - t.1.val.2.1)=-t.1.val.2.1:=by rw [zdf (by omega) (by omega)];omega
    have e1:ldV false 1 (tokM t) 2=some (.int .i64 t.1.val.1):=rfl
    have e2:ldV true 3 (tokM t) 2=some (.agg [.int .i64 t.1.val.1,.int .i64 t.1.val.2.1,.str t.1.val.2.2]):=rfl
    have e3:zde .neg (.int .i64 t.1.val.2.1)=some (.int .i64 (-t.1.val.2.1)):=by simp only [zde,hw]
    refine .inl ⟨_,_,rfl,by omega,by omega, ?_⟩
    have he:encE (Ex.eVal (1, -t.1.val.2.1,t.1.val.2.2))=.agg [.int .i64 1,.str [],.int .i64 1,.int .i64 (-t.1.val.2.1),.str t.1.val.2.2,.str [],.str [],.int .i64 0,.bool false,.bool false,.list []]:=by rw [Ex.eVal,enc_mk];rfl
    rw [he]
    simp [-Int.natCast_add,zav,zaB,k_r h1,oneV, -zlu,el,hlt2,hk,hv,e1,e2,e3,ckA_agg,rtn,zcs (show p+1≤1000000 by omega)]
   ·have hr2:Ex.then1 (Ex.run (L.map (·.1)) m (.lev 7) (p+1)) (fun e q=>Ex.one (Ex.eUn op e) q)=some r:=by
     have hcb:(op == [45] && decide (t.1.kind=3) && decide (t.1.val.1=1))=false:=by
      rw [Bool.eq_false_iff];intro h;simp at h;exact hc ⟨h.1.1,h.1.2,h.2⟩
     simpa only [hcb,Bool.false_eq_true,if_false] using hr
    refine hs (hj hr2) ?_
    have e1:ldV false 1 (tokM t) 2=some (.int .i64 t.1.val.1):=rfl
    by_cases hop:op=[45]
    ·by_cases hk:t.1.kind=3
     ·have hv:¬ t.1.val.1=1:=fun hv=>hc ⟨hop,hk,hv⟩
      simp [-Int.natCast_add,zav,k_r h1,oneV,hop,hlt2, -zlu,el,hk,e1,show (t.1.val.1 == 1)=false from by simpa using hv]
     ·simp [-Int.natCast_add,zav,k_r h1,oneV,hop,hlt2, -zlu,el,hk]
    ·simp [-Int.natCast_add,zav,k_r h1,oneV,hop]
end
end Go.Proofs.YtlooegbcfkoloaaGreatDoor
namespace Go.Proofs.YtlooegbcfkoloaaGreatDoor
open Go.RowKit
open Vm
variable [Gl]
theorem zuB (g:Bool) (a b:Ex.E):Vm.V.agg [.int .i64 5,.str [],.int .i64 0,.int .i64 0,.str [],.str [],.str [],.int .i64 0,.bool g,.bool false,.list [encE a,encE b]]=encE (Ex.eIs g a b):=by rw [Ex.eIs,enc_mk];rfl
theorem enc_inE (g:Bool) (l:List Ex.E):Vm.V.agg [.int .i64 6,.str [],.int .i64 0,.int .i64 0,.str [],.str [],.str [],.int .i64 0,.bool g,.bool false,.list (l.map encE)]=encE (Ex.eIn g l):=by rw [Ex.eIn,enc_mk];rfl
theorem enc_btw (g:Bool) (a b c:Ex.E):Vm.V.agg [.int .i64 7,.str [],.int .i64 0,.int .i64 0,.str [],.str [],.str [],.int .i64 0,.bool g,.bool false,.list [encE a,encE b,encE c]]=encE (Ex.eBtw g a b c):=by rw [Ex.eBtw,enc_mk];rfl
theorem enc_like (g:Bool) (a b:Ex.E):Vm.V.agg [.int .i64 8,.str [],.int .i64 0,.int .i64 0,.str [],.str [],.str [],.int .i64 0,.bool g,.bool false,.list [encE a,encE b]]=encE (Ex.zeT g a b):=by rw [Ex.zeT,enc_mk];rfl
section
variable {L:List Lx.TA} {n:Nat}
theorem zor (hL:L.length≤999999) (h:LvP L 184 4 n) (hls:LsP L n):LvP L 180 3 (n+1):=LvP.of fun m p r hm hp hr=>by
 rw [Ex.run] at hr
 simp only [Ex.wIs,Ex.wNot,Ex.wIn,Ex.zaO,Ex.zdQ,Ex.wAnd,Ex.mOpen] at hr
 refine OutP.of ?_ fun z hz=>pr.of rfl rfl rfl (zfA _ _ _ _ _) hz
 simp only [zcN,zad]
 refine h.go hm hp hr (fun a q h1 h2 hr=>?_) (fun _=>rfl)
 have hone:=m_one L q 4 Ex.cmps hL h2 (by decide)
 simp only [Ex.cmps,List.map] at hone hr
 simp only [ze9,zl8,zhy,zbe,zbd,zad]
 cases ho:Ex.oneOf (L.map (·.1)) q 4 [[61],[60,62],[60],[60,61],[62],[62,61]] with
 | some op =>
  rw [ho] at hr hone
  have hlt:q < L.length:=by simpa using (Ex.zbP ho).1
  simp only [k_r hone,oneV,zpy,List.getElem?_cons_zero,List.getElem?_cons_succ,Option.bind_some,zbf,if_true,zbe,zbd,zad]
  refine h.go hm (by omega) hr (fun b q2 h3 h4 h5=>zds (Ex.zbz h5) (by omega) h4 ?_) (fun _=>rfl)
  simp [-Int.natCast_add,← zuD,rtn,ckA_agg]
 | none =>
  rw [ho] at hr hone
  simp only [k_r hone,oneV,zpy,List.getElem?_cons_zero,List.getElem?_cons_succ,Option.bind_some,zbf,Bool.false_eq_true,if_false,zbe,zbd,zad]
  have hj2:∀ (nt:Bool) (q2:Nat),q≤q2→q2≤L.length→(if Ex.isT (L.map (·.1)) q2 2 [105,110] then Ex.need (L.map (·.1)) 4 [40] (q2+1) fun q3=>Ex.zg7 (Ex.run (L.map (·.1)) m (.list []) q3) fun l r=>Ex.one (Ex.eIn nt (a :: l)) r
      else if Ex.isT (L.map (·.1)) q2 2 [98,101,116,119,101,101,110] then Ex.then1 (Ex.run (L.map (·.1)) m (.lev 4) (q2+1)) fun b r=>Ex.need (L.map (·.1)) 2 [97,110,100] r fun r2=>Ex.then1 (Ex.run (L.map (·.1)) m (.lev 4) r2) fun c r3=>Ex.one (Ex.eBtw nt a b c) r3
      else if Ex.isT (L.map (·.1)) q2 2 [108,105,107,101] then Ex.then1 (Ex.run (L.map (·.1)) m (.lev 4) (q2+1)) fun b r=>Ex.one (Ex.zeT nt a b) r
      else Ex.one a q2)=some r→OutP L (p+1) r (zaZ pr.ev lup (.bool nt) (.agg [.list (L.map tokM),.int .i64 (q2:Int)]) (encE a)):=fun nt q2 hq hq2 hr=>by
   simp only [zaZ,za1,List.getD_cons_zero,List.getD_cons_succ,zad,zl8,zhy,ze9]
   refine zfd hL hq2 (fun hi hlt=>?_) fun hi=>?_
   ·simp only [hi,if_true] at hr
    simp only [zbf,if_true,zbe,zbd,zad]
    refine zfp hL (by omega) hr (fun hlt2 hr=>?_) (fun _=>rfl)
    simp only [zbe,zbd,zad]
    refine hls.go hm (by omega) hr (fun l q4 h5 h6 h7 h8=>zds (Ex.zbz h8) (by omega) h6 ?_) (fun _=>rfl)
    have ha:appV 11 128 (.list [encE a]) (.list (l.map encE))=some (.list ((a :: l).map encE)):=by
     rw [zpM _ _ _ _ (by simp [zdO]) (by simp;omega)];simp
    rw [← enc_inE]
    simp only [List.map_cons] at ha ⊢
    simp [-Int.natCast_add,ha,rtn,ckA_agg]
   ·simp only [hi,Bool.false_eq_true,if_false] at hr
    simp only [zbf,Bool.false_eq_true,if_false,zbe,zbd,zad]
    refine zfd hL hq2 (fun hi2 hlt=>?_) fun hi2=>?_
    ·simp only [hi2,if_true] at hr
     simp only [zbf,if_true,zbe,zbd,zad]
     refine h.go hm (by omega) hr (fun b q4 h5 h6 hr=>?_) (fun _=>rfl)
     simp only [ze9,zhy,zl8,zbe,zbd,zad]
     refine zfp hL h6 hr (fun hlt2 hr=>?_) (fun _=>rfl)
     simp only [zbe,zbd,zad]
     refine h.go hm (by omega) hr (fun c q5 h7 h8 h9=>zds (Ex.zbz h9) (by omega) h8 ?_) (fun _=>rfl)
     simp [-Int.natCast_add,← enc_btw,rtn,ckA_agg]
    ·simp only [hi2,Bool.false_eq_true,if_false] at hr
     simp only [zbf,Bool.false_eq_true,if_false,zbe,zbd,zad]
     refine zfd hL hq2 (fun hi3 hlt=>?_) fun hi3=>?_
     ·simp only [hi3,if_true] at hr
      simp only [zbf,if_true,zbe,zbd,zad]
      refine h.go hm (by omega) hr (fun b q4 h5 h6 h9=>zds (Ex.zbz h9) (by omega) h6 ?_) (fun _=>rfl)
      simp [-Int.natCast_add,← enc_like,rtn,ckA_agg]
     ·simp only [hi3,Bool.false_eq_true,if_false] at hr
      refine zds (Ex.zbz hr) (by omega) hq2 ?_
      simp [-Int.natCast_add,rtn]
  have hj1:∀ (nt:Bool),(nt=true→q < L.length)→(if Ex.isT (L.map (·.1)) (if nt then q+1 else q) 2 [105,110] then Ex.need (L.map (·.1)) 4 [40] ((if nt then q+1 else q)+1) fun q3=>Ex.zg7 (Ex.run (L.map (·.1)) m (.list []) q3) fun l r=>Ex.one (Ex.eIn nt (a :: l)) r
      else if Ex.isT (L.map (·.1)) (if nt then q+1 else q) 2 [98,101,116,119,101,101,110] then Ex.then1 (Ex.run (L.map (·.1)) m (.lev 4) ((if nt then q+1 else q)+1)) fun b r=>Ex.need (L.map (·.1)) 2 [97,110,100] r fun r2=>Ex.then1 (Ex.run (L.map (·.1)) m (.lev 4) r2) fun c r3=>Ex.one (Ex.eBtw nt a b c) r3
      else if Ex.isT (L.map (·.1)) (if nt then q+1 else q) 2 [108,105,107,101] then Ex.then1 (Ex.run (L.map (·.1)) m (.lev 4) ((if nt then q+1 else q)+1)) fun b r=>Ex.one (Ex.zeT nt a b) r
      else Ex.one a (if nt then q+1 else q))=some r→OutP L (p+1) r (zao pr.ev lup (.bool nt) (.agg [.list (L.map tokM),.int .i64 (q:Int)]) (encE a)):=fun nt hq hr=>by
   have hq':nt=true→q < L.length:=hq
   cases nt
   ·simp only [Bool.false_eq_true,if_false] at hr
    have:=hj2 false q (by omega) h2 hr
    simpa [-Int.natCast_add, -zad,zao] using this
   ·simp only [if_true] at hr
    have:=hj2 true (q+1) (by omega) (hq' rfl) hr
    simpa [-Int.natCast_add, -zad,zao,zcs (show q≤1000000 by omega)] using this
  refine zfd hL h2 (fun hi hq=>?_) fun hi=>?_
  ·simp only [hi,if_true] at hr
   simp only [zbf,if_true,zbe,zbd,zad]
   refine zfd hL (by omega) (fun hn hq2=>?_) fun hn=>?_
   ·simp only [hn,if_true] at hr
    simp only [zbe,zbd,zad]
    refine h.go hm (by omega) hr (fun b q4 h5 h6 h9=>zds (Ex.zbz h9) (by omega) h6 ?_) (fun _=>rfl)
    simp [-Int.natCast_add,← zuB,rtn,ckA_agg]
   ·simp only [hn,Bool.false_eq_true,if_false] at hr
    simp only [zbe,zbd,zad]
    refine h.go hm (by omega) hr (fun b q4 h5 h6 h9=>zds (Ex.zbz h9) (by omega) h6 ?_) (fun _=>rfl)
    simp [-Int.natCast_add,← zuB,rtn,ckA_agg]
  ·simp only [hi,Bool.false_eq_true,if_false] at hr
   simp only [zbf,Bool.false_eq_true,if_false,zbe,zbd,zad]
   refine zt5 hL h2 (a:=0) (by omega) rfl ?_
   simp only [Nat.add_zero,zbe,zbd,zad]
   cases hn:Ex.isT (L.map (·.1)) q 2 [110,111,116]
   ·simp only [hn,Bool.false_and] at hr
    simp only [zbf,Bool.false_eq_true,if_false]
    exact hj1 false (by simp) hr
   ·have hlt:q < L.length:=by simpa using Ex.isT_lt hn
    simp only [hn,Bool.true_and] at hr
    simp only [zbf,if_true]
    refine zt5 hL h2 (a:=1) (by omega) rfl ?_
    simp only [zbe,zbd,zad]
    cases h3:Ex.isT (L.map (·.1)) (q+1) 2 [105,110]
    ·simp only [h3,Bool.false_or] at hr
     simp only [zbf,Bool.false_eq_true,if_false]
     refine zt5 hL h2 (a:=1) (by omega) rfl ?_
     simp only [zbe,zbd,zad]
     cases h4:Ex.isT (L.map (·.1)) (q+1) 2 [98,101,116,119,101,101,110]
     ·simp only [h4,Bool.false_or] at hr
      simp only [zbf,Bool.false_eq_true,if_false]
      refine zt5 hL h2 (a:=1) (by omega) rfl ?_
      simp only [zbe,zbd,zad]
      exact hj1 _ (fun _=>hlt) hr
     ·simp only [h4,Bool.true_or] at hr
      simp only [zbf,if_true]
      exact hj1 true (fun _=>hlt) hr
    ·simp only [h3,Bool.true_or] at hr
     simp only [zbf,if_true]
     exact hj1 true (fun _=>hlt) hr
end
end Go.Proofs.YtlooegbcfkoloaaGreatDoor
namespace Go.Proofs.YtlooegbcfkoloaaGreatDoor
open Go.RowKit
open Vm
variable [Gl]
theorem zuE (op:Ex.S) (d:Bool) (l:List Ex.E):Vm.V.agg [.int .i64 11,.str op,.int .i64 0,.int .i64 0,.str [],.str [],.str [],.int .i64 0,.bool false,.bool d,.list (l.map encE)]=encE (Ex.eAgg op d l):=by rw [Ex.eAgg,enc_mk];rfl
theorem enc_fn (op:Ex.S) (l:List Ex.E):Vm.V.agg [.int .i64 10,.str op,.int .i64 0,.int .i64 0,.str [],.str [],.str [],.int .i64 0,.bool false,.bool false,.list (l.map encE)]=encE (Ex.eFn op l):=by rw [Ex.eFn,enc_mk];rfl
theorem zuC (t n:Ex.S):Vm.V.agg [.int .i64 2,.str [],.int .i64 0,.int .i64 0,.str [],.str t,.str n,.int .i64 0,.bool false,.bool false,.list []]=encE (Ex.eCol t n):=by rw [Ex.eCol,enc_mk];rfl
theorem enc_cast (op:Ex.S) (a:Ex.E):Vm.V.agg [.int .i64 12,.str op,.int .i64 0,.int .i64 0,.str [],.str [],.str [],.int .i64 0,.bool false,.bool false,.list [encE a]]=encE (Ex.zhl op a):=by rw [Ex.zhl,enc_mk];rfl
theorem zuA (v:Ex.V):Vm.V.agg [.int .i64 1,.str [],.int .i64 v.1,.int .i64 v.2.1,.str v.2.2,.str [],.str [],.int .i64 0,.bool false,.bool false,.list []]=encE (Ex.eVal v):=by rw [Ex.eVal,enc_mk];rfl
theorem call_at (op:List UInt8) (y0 y1:Vm.V):zc3 pr.ev lup (.str op) y0 y1=zas pr.ev lup (.str op) (.bool (Ex.aggs.contains op)) (.agg [y0,y1]):=by
 unfold zc3
 by_cases h1:op=[99,111,117,110,116]
 ·simp [h1,Ex.aggs,Ex.wCount]
 by_cases h2:op=[115,117,109]
 ·simp [h2,Ex.aggs,Ex.wCount]
 by_cases h3:op=[109,105,110]
 ·simp [h3,Ex.aggs,Ex.wCount]
 by_cases h4:op=[109,97,120]
 ·simp [h4,Ex.aggs,Ex.wCount]
 by_cases h5:op=[97,118,103]
 ·simp [h5,Ex.aggs,Ex.wCount]
 simp [h1,h2,h3,h4,h5,Ex.aggs,Ex.wCount]
 have h6:decide (op=[116,111,116,97,108])=(op == [116,111,116,97,108]):=by rw [Bool.eq_iff_iff];simp
 rw [h6]
section
variable {L:List Lx.TA} {n:Nat}
def CalP (L:List Lx.TA) (n:Nat):Prop:=∀ m p r op,m≤n→p≤L.length→Ex.callK (L.map (·.1)) m op p=some r→OutP L p r (pr.ev 197 [.ptr 0 0,.str op] [prsE L p])
theorem m_call (hL:L.length≤999999) (h:LvP L 148 0 n) (hls:LsP L n):CalP L n:=fun m p r op hm hp hr=>by
 refine OutP.of ?_ fun z hz=>pr.of rfl rfl rfl (zik _ _ _ _ _ _) hz
 rw [call_at]
 unfold Ex.callK at hr
 simp only [Ex.wCount,Ex.zbG,Ex.mShut,Ex.zae] at hr
 cases hc:Ex.aggs.contains op
 ·simp only [hc,Bool.false_eq_true,if_false] at hr
  simp only [zas,zbf,Bool.false_eq_true,if_false,ck1_s,za1,List.getD_cons_zero,List.getD_cons_succ,zad]
  rw [ckA_agg]
  rotate_left
  ·rfl
  ·rfl
  refine zkL hL hp (fun hi hlt=>?_) fun hi=>?_
  ·simp only [hi,if_true] at hr
   refine zds (Ex.zbz hr) (by omega) (by omega) ?_
   rw [← enc_fn]
   simp [-Int.natCast_add,rtn,ckA_agg]
  ·simp only [hi,Bool.false_eq_true,if_false] at hr
   simp only [zlr,Option.bind_some,Bool.not_false,zbf,if_true,zbe,zbd,zad]
   refine hls.go hm hp hr (fun l q h1 h2 h3 h4=>zds (Ex.zbz h4) (by omega) h2 ?_) (fun _=>rfl)
   rw [← enc_fn]
   simp [-Int.natCast_add,rtn,ckA_agg]
 ·simp only [hc,if_true] at hr
  simp only [zas,zbf,if_true,ck1_s,za1,List.getD_cons_zero,List.getD_cons_succ,zad]
  rw [ckA_agg]
  rotate_left
  ·rfl
  ·rfl
  have hj:Ex.then1 (Ex.run (L.map (·.1)) m (.lev 0) (if Ex.isT (L.map (·.1)) p 2 [100,105,115,116,105,110,99,116] then p+1 else p)) (fun e q=>Ex.need (L.map (·.1)) 4 [41] q fun r=>Ex.one (Ex.eAgg op (Ex.isT (L.map (·.1)) p 2 [100,105,115,116,105,110,99,116]) [e]) r)=some r →
    OutP L p r (za6 pr.ev lup (.bool false) (.agg [.list (L.map tokM),.int .i64 (p:Int)]) (.agg [(.int .i64 11),.str op,(.int .i64 0),(.int .i64 0),(.str []),(.str []),(.str []),(.int .i64 0),(.bool false),(.bool false),.nils])):=fun hr=>by
   simp only [za6,zbf,Bool.false_eq_true,if_false,za1,List.getD_cons_zero,List.getD_cons_succ,zad]
   have hd:∀ (d:Bool) (q:Nat),p≤q→q≤L.length→Ex.then1 (Ex.run (L.map (·.1)) m (.lev 0) q) (fun e q=>Ex.need (L.map (·.1)) 4 [41] q fun r=>Ex.one (Ex.eAgg op d [e]) r)=some r→OutP L p r (cl1 pr.ev 148 [(.ptr 0 0)] (prsE L q) 182 2 (fun v9 v8=>pnk v9 [.blk 182 [(zaa v8 0),(zaa v8 1)]]) fun v7 v8 =>
     ckA 11 (norm1 v7) <|
     cl1 pr.ev 185 [(.ptr 0 0),(.int .i64 4),(.str [41])] (.blk 182 [(zaa v8 0),(zaa v8 1)]) 182 2 (fun v12 v11=>pnk v12 [.blk 182 [(zaa v11 0),(zaa v11 1)]]) fun v10 v11 =>
     ckA 11 (.agg [.int .i64 11,.str op,.int .i64 0,.int .i64 0,.str [],.str [],.str [],.int .i64 0,.bool false,.bool d,(.list [(norm1 v7)])]) <|
     rtn (norm1 (.agg [.int .i64 11,.str op,.int .i64 0,.int .i64 0,.str [],.str [],.str [],.int .i64 0,.bool false,.bool d,(.list [(norm1 v7)])])) [.blk 182 [(zaa v11 0),(zaa v11 1)]]):=fun d q hq1 hq2 hr=>by
    refine h.go hm hq2 hr (fun e q2 h1 h2 hr=>?_) (fun _=>rfl)
    simp only [ze9,zhy,zbe,zbd,zad]
    refine zfp hL h2 hr (fun hlt hr=>zds (Ex.zbz hr) (by omega) (by omega) ?_) (fun _=>rfl)
    rw [← zuE]
    simp [-Int.natCast_add,rtn,ckA_agg]
   refine zfd hL hp (fun hi hlt=>?_) fun hi=>?_
   ·simp only [hi,if_true] at hr
    simp only [ck1_b,zbe,zbd,zad]
    exact hd true (p+1) (by omega) (by omega) hr
   ·simp only [hi,Bool.false_eq_true,if_false] at hr
    simp only [ck1_b,zbe,zbd,zad]
    exact hd false p (by omega) hp hr
  by_cases ho:op=[99,111,117,110,116]
  ·subst ho
   simp only [beq_self_eq_true,Bool.true_and] at hr
   simp only [show b0 .eql (.str [99,111,117,110,116]) (.str [99,111,117,110,116])=some (.bool true) from rfl,Option.bind_some,zbf,if_true]
   refine zkL hL hp (fun hi hlt=>?_) fun hi=>?_
   ·simp only [hi,if_true] at hr
    simp only [za6,zbf,if_true,za1,List.getD_cons_zero,List.getD_cons_succ,zbe,zbd,zad]
    refine zfp hL (by omega) hr (fun hlt hr=>zds (Ex.zbz hr) (by omega) (by omega) ?_) (fun _=>rfl)
    rw [← zuE]
    simp [-Int.natCast_add,rtn,ckA_agg]
   ·simp only [hi,Bool.false_eq_true,if_false] at hr
    simp only [zbe,zbd]
    exact hj hr
  ·have hb:(op == [99,111,117,110,116])=false:=by simpa using ho
   simp only [hb,Bool.false_and,Bool.false_eq_true,if_false] at hr
   simp only [show b0 .eql (.str op) (.str [99,111,117,110,116])=some (.bool (op == [99,111,117,110,116])) from rfl,hb,Option.bind_some,zbf,Bool.false_eq_true,if_false]
   rw [agN_agg 2 [.list (L.map tokM),.int .i64 (p:Int)] rfl]
   exact hj hr
def NamP (L:List Lx.TA) (n:Nat):Prop:=∀ m p r nm,m≤n→p≤L.length→nm.length≤1000000→Ex.zhu (L.map (·.1)) m nm p=some r→OutP L p r (pr.ev 194 [.ptr 0 0,.str nm] [prsE L p])
theorem zpx {k:Int} {p lo:Nat} {r:Ex.R} {Kp K:Vm.V→Ent→Option Out} (hL:L.length≤999999) (hp:p≤L.length)
  (h1:∀ t,L[p]?=some t→t.1.kind=k→p < L.length→OutP L lo r (K (.tup [tokM t,.bool true]) (prsE L (p+1))))
  (h0:(∀ t,L[p]?=some t→¬ t.1.kind=k)→OutP L lo r (K (.tup [.agg [.int .i64 0,.str [],.int .i64 0,.int .i64 0,.str [],.int .i64 0],.bool false]) (prsE L p))) :
  OutP L lo r (cl1 pr.ev 193 [.ptr 0 0,.int .i64 k] (prsE L p) 182 2 Kp K):=by
 have h:=m_kind L p k hL hp
 cases ht:L[p]? with
 | none =>
  rw [ht] at h
  rw [k_r h]
  exact h0 fun t h=>by rw [ht] at h;cases h
 | some t =>
  have hlt:p < L.length:=(List.getElem?_eq_some_iff.1 ht).1
  rw [ht] at h
  dsimp only at h
  split at h
  ·rename_i hk
   rw [k_r h]
   exact h1 t ht hk hlt
  ·rename_i hk
   rw [k_r h]
   exact h0 fun t' h=>by rw [ht] at h;cases h;exact hk
theorem zjJ {p lo:Nat} {r:Ex.R} {Kp K:Vm.V→Ent→Option Out} (hp:p≤L.length) (hr:r=.stop p) (hs:∀ q,Kp (stopV q) (prsE L q)=some (.panic (stopV q),[prsE L q])) :
  OutP L lo r (cl1 pr.ev 188 [.ptr 0 0] (prsE L p) 182 2 Kp K):=by
 rw [k_p (ztJ L p)]
 exact .inr ⟨p,hr,hp,hs p⟩
theorem OutP.go {f:FuncId} {a:List Vm.V} {p lo lo':Nat} {r:Ex.R} {Kp K:Vm.V→Ent→Option Out} (h:OutP L lo' r (pr.ev f a [prsE L p])) (hlo:lo≤lo') (hk:∀ e q,lo'≤q→q≤L.length→K (encE e) (prsE L q)=some (.ret (encE e),[prsE L q])) (hs:∀ q,Kp (stopV q) (prsE L q)=some (.panic (stopV q),[prsE L q])) :
  OutP L lo r (cl1 pr.ev f a (prsE L p) 182 2 Kp K):=by
 rcases h with ⟨e,q,rfl,h1,h2,h3⟩ | ⟨q,rfl,h2,h3⟩
 ·rw [k_r h3]
  exact .inl ⟨e,q,rfl,by omega,h2,hk e q h1 h2⟩
 ·rw [k_p h3]
  exact .inr ⟨q,rfl,h2,hs q⟩
theorem m_named (hL:L.length≤999999) (h:CalP L n):NamP L n:=fun m p r nm hm hp hn hr=>by
 refine OutP.of ?_ fun z hz=>pr.of rfl rfl rfl (zhP _ _ _ _ _ _) hz
 unfold Ex.zhu at hr
 simp only [Ex.mDot,Ex.mOpen] at hr
 simp only [zef,zad]
 refine zkL hL hp (fun hi hlt=>?_) fun hi=>?_
 ·simp only [hi,if_true] at hr
  simp only [zbf,if_true,zbe,zbd,zad]
  refine zpx hL (by omega) (fun t ht hk hlt2=>?_) fun hno=>?_
  ·simp only [List.getElem?_map,ht,Option.map_some,hk,if_true] at hr
   refine zds (Ex.zbz hr) (by omega) (by omega) ?_
   have e1:cell (tokM t) 1=.str t.1.text:=rfl
   rw [← zuC]
   simp [-Int.natCast_add,rtn,ckA_agg,zce,e1]
  ·have hr2:r=.stop (p+1):=by
    cases ht:L[p+1]? with
    | none=>simp only [List.getElem?_map,ht,Option.map_none] at hr;cases hr;rfl
    | some t=>simp only [List.getElem?_map,ht,Option.map_some,hno t ht,if_false] at hr;cases hr;rfl
   simp only [zpy,List.getElem?_cons_zero,List.getElem?_cons_succ,Option.bind_some,zlr,Bool.not_false,zbf,if_true,zbe,zbd,zad]
   rw [ckA_agg]
   rotate_left
   ·rfl
   ·rfl
   exact zjJ (by omega) hr2 fun _=>rfl
 ·simp only [hi,Bool.false_eq_true,if_false] at hr
  simp only [zbf,Bool.false_eq_true,if_false,zbe,zbd,zad]
  refine zkL hL hp (fun hi hlt=>?_) fun hi=>?_
  ·simp only [hi,if_true] at hr
   simp only [zbf,if_true,zbe,zbd,zad,nm_s,zac (zpA hn)]
   refine (h m (p+1) r _ hm (by omega) hr).go (by omega) (fun e q _ _=>?_) fun _=>rfl
   simp [-Int.natCast_add,rtn]
  ·simp only [hi,Bool.false_eq_true,if_false] at hr
   refine zds (Ex.zbz hr) (by omega) (by omega) ?_
   rw [← zuC]
   simp [-Int.natCast_add,rtn,ckA_agg]
def LoP (L:List Lx.TA) (f:FuncId) (k:List Lx.T→Nat→Nat→Option Ex.R) (n:Nat):Prop:=∀ m p r,m≤n→p≤L.length→k (L.map (·.1)) m p=some r→OutP L p r (pr.ev f [.ptr 0 0] [prsE L p])
def zln (L:List Lx.TA):Prop:=∀ (i:Nat) (t:Lx.TA),L[i]?=some t→t.1.text.length≤1000000
theorem m_cast (hL:L.length≤999999) (hT:zln L) (h:LvP L 148 0 n):LoP L 196 Ex.zll n:=fun m p r hm hp hr=>by
 refine OutP.of ?_ fun z hz=>pr.of rfl rfl rfl (zij _ _ _ _ _) hz
 unfold Ex.zll at hr
 simp only [Ex.mOpen,Ex.mShut,Ex.wAs] at hr
 simp only [zex,zad]
 refine zfp hL hp hr (fun hlt hr=>?_) (fun _=>rfl)
 simp only [zbe,zbd,zad]
 refine h.go hm (by omega) hr (fun e q h1 h2 hr=>?_) (fun _=>rfl)
 simp only [ze9,zhy,zbe,zbd,zad]
 refine zfp hL h2 hr (fun hlt2 hr=>?_) (fun _=>rfl)
 simp only [zbe,zbd,zad]
 have hj4:∀ t,L[q+1]?=some t→q+1 < L.length→((if Ex.zhA.contains (Lx.fold t.1.text) then Ex.need (L.map (·.1)) 4 [41] (q+1+1) fun r3=>Ex.one (Ex.zhl (Lx.fold t.1.text) e) r3 else some (.stop (q+1)))=some r) →
   OutP L p r (zaG pr.ev lup (.bool true) (.agg [.list (L.map tokM),.int .i64 ((q+1:Nat):Int)]) (.agg [(.int .i64 12),(.str []),(.int .i64 0),(.int .i64 0),(.str []),(.str []),(.str []),(.int .i64 0),(.bool false),(.bool false),(.list [encE e])])):=fun t ht hlt3 hr=>by
  have el:elV 6 (.list (L.map tokM)) (.int .i64 ((q+1:Nat):Int))=some (tokM t):=by rw [zlu,ht];rfl
  have hfo:=zpA (hT _ _ ht)
  have hj3:∀ b,b=Ex.zhA.contains (Lx.fold t.1.text)→OutP L p r (zaH pr.ev lup (.bool b) (.agg [.list (L.map tokM),.int .i64 ((q+1:Nat):Int)]) (.agg [(.int .i64 12),.str (Lx.fold t.1.text),(.int .i64 0),(.int .i64 0),(.str []),(.str []),(.str []),(.int .i64 0),(.bool false),(.bool false),(.list [encE e])])):=fun b hb=>by
   rw [← hb] at hr
   cases b
   ·simp only [Bool.false_eq_true,if_false] at hr
    simp only [zaH,zbf,Bool.false_eq_true,if_false,za1,List.getD_cons_zero,List.getD_cons_succ,zad]
    exact zjJ (by omega) (by cases hr;rfl) fun _=>rfl
   ·simp only [if_true] at hr
    have hb1:b0 .add (.int .i64 ((q+1:Nat):Int)) (.int .i64 1)=some (.int .i64 ((q+1+1:Nat):Int)):=by
     have:=zcs (show q+1≤1000000 by omega)
     simp only [b0,zu1,ar_add,this]
    simp only [zaH,zbf,if_true,za1,List.getD_cons_zero,List.getD_cons_succ,hb1,Option.bind_some,ck1_i,zbD,zad]
    refine zfp hL (by omega) hr (fun hlt hr=>zds (Ex.zbz hr) (by omega) (by omega) ?_) (fun _=>rfl)
    rw [← enc_cast]
    simp [-Int.natCast_add,rtn,ckA_agg]
  have hj1:OutP L p r (za5 pr.ev lup (.agg [.list (L.map tokM),.int .i64 ((q+1:Nat):Int)]) (.agg [(.int .i64 12),.str (Lx.fold t.1.text),(.int .i64 0),(.int .i64 0),(.str []),(.str []),(.str []),(.int .i64 0),(.bool false),(.bool false),(.list [encE e])])):=by
   have g1:agN 2 (.agg [.list (L.map tokM),.int .i64 ((q+1:Nat):Int)])=.agg [.list (L.map tokM),.int .i64 ((q+1:Nat):Int)]:=agN_agg _ _ rfl
   have g2:agN 11 (.agg [(.int .i64 12),.str (Lx.fold t.1.text),(.int .i64 0),(.int .i64 0),(.str []),(.str []),(.str []),(.int .i64 0),(.bool false),(.bool false),(.list [encE e])])=.agg [(.int .i64 12),.str (Lx.fold t.1.text),(.int .i64 0),(.int .i64 0),(.str []),(.str []),(.str []),(.int .i64 0),(.bool false),(.bool false),(.list [encE e])]:=agN_agg _ _ rfl
   simp only [za5,g1,g2,za1,List.getD_cons_zero,List.getD_cons_succ]
   by_cases k1:Lx.fold t.1.text=[105,110,116]
   ·simpa [k1] using hj3 true (by simp [k1,Ex.zhA])
   by_cases k2:Lx.fold t.1.text=[116,101,120,116]
   ·simpa [k2] using hj3 true (by simp [k2,Ex.zhA])
   have:=hj3 (Lx.fold t.1.text == [98,108,111,98]) (by rw [Bool.eq_iff_iff];simp [k1,k2,Ex.zhA])
   simpa [k1,k2] using this
  have e1:ldV false 1 (tokM t) 1=some (.str t.1.text):=rfl
  simp only [zaG,zbf,if_true,za1,List.getD_cons_zero,List.getD_cons_succ,el,e1,Option.bind_some,nm_s,zac hfo,ck1_s]
  rw [agN_agg 2 [.list (L.map tokM),.int .i64 ((q+1:Nat):Int)] rfl]
  exact hj1
 have hj0:r=.stop (q+1)→OutP L p r (zaG pr.ev lup (.bool false) (.agg [.list (L.map tokM),.int .i64 ((q+1:Nat):Int)]) (.agg [(.int .i64 12),(.str []),(.int .i64 0),(.int .i64 0),(.str []),(.str []),(.str []),(.int .i64 0),(.bool false),(.bool false),(.list [encE e])])):=fun hr=>by
  refine OutP.of (o:=cl1 pr.ev 188 [.ptr 0 0] (prsE L (q+1)) 182 2 (fun v4 v3=>pnk v4 [.blk 182 [(zaa v3 0),(zaa v3 1)]]) fun v2 v3=>zbD pr.ev lup (.agg [(zaa v3 0),(zaa v3 1)]) (.agg [(.int .i64 12),(.str []),(.int .i64 0),(.int .i64 0),(.str []),(.str []),(.str []),(.int .i64 0),(.bool false),(.bool false),(.list [encE e])])) (zjJ (by omega) hr fun _=>rfl) fun z hz=>?_
  rw [← hz]
  simp [-Int.natCast_add,zaG,za5,zaH]
 by_cases hlt3:q+1 < L.length
 ·have ht:L[q+1]?=some L[q+1]:=by simp [hlt3]
  generalize L[q+1]=t at ht
  have el:elV 6 (.list (L.map tokM)) (.int .i64 ((q+1:Nat):Int))=some (tokM t):=by rw [zlu,ht];rfl
  simp only [List.getElem?_map,ht,Option.map_some] at hr
  have e1:ldV false 1 (tokM t) 0=some (.int .i64 t.1.kind):=rfl
  have e2:b0 .lss (.int .i64 ((q+1:Nat):Int)) (.int .i64 ((L.map tokM).length:Int))=some (.bool true):=by
   simp only [b0,zu1,ar_lss];simp;omega
  simp only [zqR,Option.bind_some,e2,zbf,if_true,el,e1]
  by_cases k1:t.1.kind=2
  ·have b1:b0 .eql (.int .i64 t.1.kind) (.int .i64 2)=some (.bool true):=by simp [b0,k1]
   simp only [k1,decide_true,Bool.true_or,Bool.true_and] at hr
   simp only [b1,Option.bind_some,zbf,if_true]
   exact hj4 t ht hlt3 hr
  ·have b1:b0 .eql (.int .i64 t.1.kind) (.int .i64 2)=some (.bool false):=by simp [b0,k1]
   by_cases k2:t.1.kind=1
   ·have b2:b0 .eql (.int .i64 t.1.kind) (.int .i64 1)=some (.bool true):=by simp [b0,k2]
    simp only [k2,decide_true,Bool.or_true,Bool.true_and] at hr
    simp only [b1,b2,Option.bind_some,zbf,Bool.false_eq_true,if_false]
    exact hj4 t ht hlt3 hr
   ·have b2:b0 .eql (.int .i64 t.1.kind) (.int .i64 1)=some (.bool false):=by simp [b0,k2]
    simp only [k1,k2,decide_false,Bool.or_false,Bool.false_and,Bool.false_eq_true,if_false] at hr
    simp only [b1,b2,Option.bind_some,zbf,Bool.false_eq_true,if_false]
    exact hj0 (by cases hr;rfl)
 ·have ht:L[q+1]?=none:=by simp;omega
  simp only [List.getElem?_map,ht,Option.map_none] at hr
  have e2:b0 .lss (.int .i64 ((q+1:Nat):Int)) (.int .i64 ((L.map tokM).length:Int))=some (.bool false):=by
   simp only [b0,zu1,ar_lss];simp;omega
  simp only [zqR,Option.bind_some,e2,zbf,Bool.false_eq_true,if_false]
  exact hj0 (by cases hr;rfl)
theorem m_plain (hL:L.length≤999999) (hT:zln L) (h:LvP L 148 0 n) (hn:NamP L n) (hca:LoP L 195 Ex.zgI n) (hct:LoP L 196 Ex.zll n):LvP L 192 8 (n+1):=LvP.of fun m p r hm hp hr=>by
 rw [Ex.zfB] at hr
 simp only [Ex.zmn,Ex.wCase,Ex.wCast,Ex.mOpen,Ex.mShut] at hr
 refine OutP.of ?_ fun z hz=>pr.of rfl rfl rfl (zhO _ _ _ _ _) hz
 simp only [zee,zad]
 refine zpx hL hp (fun t ht hk hlt=>?_) fun hno=>?_
 ·simp only [List.getElem?_map,ht,Option.map_some,hk,if_true] at hr
  refine zds (Ex.zbz hr) (by omega) (by omega) ?_
  have e2:cell (tokM t) 2=.int .i64 t.1.val.1:=rfl
  have e3:cell (tokM t) 3=.int .i64 t.1.val.2.1:=rfl
  have e4:cell (tokM t) 4=.str t.1.val.2.2:=rfl
  rw [← zuA]
  simp [-Int.natCast_add,rtn,ckA_agg,e2,e3,e4]
 ·simp only [zpy,List.getElem?_cons_zero,List.getElem?_cons_succ,Option.bind_some,zbf,Bool.false_eq_true,if_false,zbe,zbd,zad]
  rw [ckA_agg]
  rotate_left
  ·rfl
  ·rfl
  refine zpx hL hp (fun t ht hk hlt=>?_) fun hno1=>?_
  ·simp only [List.getElem?_map,ht,Option.map_some,hk,if_true,if_neg (show ¬ (1:Int)=3 by decide)] at hr
   have e1:cell (tokM t) 1=.str t.1.text:=rfl
   simp only [zpy,List.getElem?_cons_zero,List.getElem?_cons_succ,Option.bind_some,zbf,if_true,tok_k,e1,nm_s,zbe,zbd,zad]
   refine (hn m (p+1) r _ (by omega) (by omega) (hT _ _ ht) hr).go (by omega) (fun e q _ _=>?_) fun _=>rfl
   simp [-Int.natCast_add,rtn]
  ·simp only [zpy,List.getElem?_cons_zero,List.getElem?_cons_succ,Option.bind_some,zbf,Bool.false_eq_true,if_false,zbe,zbd,zad]
   rw [ckA_agg]
   rotate_left
   ·rfl
   ·rfl
   have hr2:(if Ex.isT (L.map (·.1)) p 2 [110,117,108,108] then Ex.one (Ex.eVal Ex.v0) (p+1)
     else if Ex.isT (L.map (·.1)) p 2 [99,97,115,101] then Ex.zgI (L.map (·.1)) m (p+1)
     else if Ex.isT (L.map (·.1)) p 2 [99,97,115,116] then Ex.zll (L.map (·.1)) m (p+1)
     else if Ex.isT (L.map (·.1)) p 4 [40] then Ex.then1 (Ex.run (L.map (·.1)) m (.lev 0) (p+1)) fun e q=>Ex.need (L.map (·.1)) 4 [41] q fun r=>Ex.one e r
     else some (.stop p))=some r:=by
    cases ht:L[p]? with
    | none =>
     simp only [List.getElem?_map,ht,Option.map_none] at hr
     have:∀ k s,Ex.isT (L.map (·.1)) p k s=false:=fun k s=>by simp [Ex.isT,ht]
     simpa only [this,Bool.false_eq_true,if_false] using hr
    | some t =>
     simp only [List.getElem?_map,ht,Option.map_some,hno t ht,hno1 t ht,if_false] at hr
     exact hr
   clear hr
   refine zfd hL hp (fun hi hlt=>?_) fun hi=>?_
   ·simp only [hi,if_true] at hr2
    refine zds (Ex.zbz hr2) (by omega) (by omega) ?_
    rw [← zuA]
    simp [-Int.natCast_add,rtn,Ex.v0]
   simp only [hi,Bool.false_eq_true,if_false] at hr2
   simp only [zbf,Bool.false_eq_true,if_false,zbe,zbd,zad]
   refine zfd hL hp (fun hi hlt=>?_) fun hi=>?_
   ·simp only [hi,if_true] at hr2
    simp only [zbf,if_true,zbe,zbd,zad]
    refine (hca m (p+1) r (by omega) (by omega) hr2).go (by omega) (fun e q _ _=>?_) fun _=>rfl
    simp [-Int.natCast_add,rtn]
   simp only [hi,Bool.false_eq_true,if_false] at hr2
   simp only [zbf,Bool.false_eq_true,if_false,zbe,zbd,zad]
   refine zfd hL hp (fun hi hlt=>?_) fun hi=>?_
   ·simp only [hi,if_true] at hr2
    simp only [zbf,if_true,zbe,zbd,zad]
    refine (hct m (p+1) r (by omega) (by omega) hr2).go (by omega) (fun e q _ _=>?_) fun _=>rfl
    simp [-Int.natCast_add,rtn]
   simp only [hi,Bool.false_eq_true,if_false] at hr2
   simp only [zbf,Bool.false_eq_true,if_false,zbe,zbd,zad]
   refine zkL hL hp (fun hi hlt=>?_) fun hi=>?_
   ·simp only [hi,if_true] at hr2
    simp only [zbf,if_true,zbe,zbd,zad]
    refine h.go (by omega) (by omega) hr2 (fun e q h1 h2 hr=>?_) (fun _=>rfl)
    simp only [ze9,zl8,zhy,zbe,zbd,zad]
    refine zfp hL h2 hr (fun hlt hr=>zds (Ex.zbz hr) (by omega) (by omega) ?_) (fun _=>rfl)
    simp [-Int.natCast_add,rtn]
   ·simp only [hi,Bool.false_eq_true,if_false] at hr2
    simp only [zbf,Bool.false_eq_true,if_false,zbe,zbd,zad]
    exact zjJ hp (by cases hr2;rfl) fun _=>rfl
end
end Go.Proofs.YtlooegbcfkoloaaGreatDoor
namespace Go.Proofs.YtlooegbcfkoloaaGreatDoor
open Go.RowKit
open Vm
variable [Gl]
mutual
theorem zut:∀ e:Ex.E,wfs (expC e)=true
 | .mk k op v t n s g d l=>by
  rw [expC]
  simp only [wfs,wf,Bool.true_and,Bool.and_true]
  exact zus l
theorem zus:∀ l:List Ex.E,wfs (l.map fun e=>.agg (expC e))=true
 | []=>rfl
 | e :: l=>by simp only [List.map_cons,wfs,wf,zut e,zus l,Bool.and_self]
end
theorem zhx (e:Ex.E):wf (encE e)=true:=by unfold encE;simp only [wf];exact zut e
theorem encs_wf (l:List Ex.E):wfs (l.map encE)=true:=zbb.2 fun v hv=>by obtain ⟨t,_,rfl⟩:=List.mem_map.1 hv;exact zhx t
theorem prs_eq (L:List Lx.TA) (p:Nat):eeqs [prsE L p] [prsE L p]=true:=by
 have:veqs [.list (L.map tokM),.int .i64 (p:Int)] [.list (L.map tokM),.int .i64 (p:Int)]=true:=zch (by simp only [wfs,wf,zfI,Bool.and_self])
 simp only [prsE,eeqs,eeq,this,beq_self_eq_true,Bool.and_self]
theorem oeq_r {L:List Lx.TA} {p:Nat} {v:Vm.V} (h:wf v=true):oeq (.ret v,[prsE L p]) (.ret v,[prsE L p])=true:=by simp only [oeq,zeV h,prs_eq,Bool.and_self]
theorem oeq_p {L:List Lx.TA} {p:Nat} {v:Vm.V} (h:wf v=true):oeq (.panic v,[prsE L p]) (.panic v,[prsE L p])=true:=by simp only [oeq,zeV h,prs_eq,Bool.and_self]
theorem OutP.ag {L:List Lx.TA} {lo:Nat} {r:Ex.R} {A:Option Out} (h:OutP L lo r A):OutP L lo r (Vm.ag oeq A):=by
 rcases h with ⟨e,q,h1,h2,h3,h4⟩ | ⟨q,h1,h2,h3⟩
 ·exact .inl ⟨e,q,h1,h2,h3,zgO h4 (oeq_r (zhx e))⟩
 ·exact .inr ⟨q,h1,h2,zgO h3 (oeq_p rfl)⟩
theorem enc_case (d:Bool) (l:List Ex.E):Vm.V.agg [.int .i64 9,.str [],.int .i64 0,.int .i64 0,.str [],.str [],.str [],.int .i64 0,.bool false,.bool d,.list (l.map encE)]=encE (Ex.eCase d l):=by rw [Ex.eCase,enc_mk];rfl
section
variable {L:List Lx.TA} {n:Nat}
def accV (av:Vm.V) (acc:List Ex.E):Prop:=(av=.nils∧acc=[])∨av=.list (acc.map encE)
theorem zpP {av:Vm.V} {acc l:List Ex.E} (h:accV av acc) (h1:acc.length+l.length≤2000000):appV 11 128 av (.list (l.map encE))=some (.list ((acc++l).map encE)):=by
 rcases h with ⟨rfl,rfl⟩ | rfl
 ·rw [app_n _ _ _ (by simp [zdO]) (by simp at h1 ⊢;omega)];simp
 ·rw [zpM _ _ _ _ (by simp [zdO]) (by simp;omega)];simp
def csS (L:List Lx.TA) (w:Bool) (p:Nat) (d:Bool) (av:Vm.V):List Vm.V:=[.bool w,.agg [.list (L.map tokM),.int .i64 (p:Int)],zE0,.int .i64 9,.str [],.int .i64 0,.int .i64 0,.str [],.str [],.str [],.int .i64 0,.bool false,.bool d,av]
theorem cs_tail (hL:L.length≤999999) (h:LvP L 148 0 n) {m p:Nat} {d:Bool} {acc:List Ex.E} {av:Vm.V} {r:Ex.R} (hm:m≤n) (hp:p≤L.length) (ha:av=.list (acc.map encE)) (hl:acc.length≤1000000) (hr:Ex.znJ (L.map (·.1)) m d acc p=some r) :
  OutP L p r (lup Out (zal pr.ev lup) (csS L false p d av)):=by
 have hj3:∀ (acc:List Ex.E) (q:Nat),p≤q→q≤L.length→Ex.need (L.map (·.1)) 2 [101,110,100] q (fun r3=>Ex.one (Ex.eCase d acc) r3)=some r→OutP L p r (zbx pr.ev lup (.agg [.list (L.map tokM),.int .i64 (q:Int)]) (.int .i64 9) (.str []) (.int .i64 0) (.int .i64 0) (.str []) (.str []) (.str []) (.int .i64 0) (.bool false) (.bool d) (.list (acc.map encE))):=fun acc q hq1 hq2 hr=>by
  simp only [zbx,za1,List.getD_cons_zero,List.getD_cons_succ,zad]
  refine zfp hL hq2 hr (fun hlt hr=>zds (Ex.zbz hr) (by omega) (by omega) ?_) (fun _=>rfl)
  rw [← enc_case]
  simp [-Int.natCast_add,rtn,ckA_agg]
 unfold Ex.znJ at hr
 simp only [Ex.ziO,Ex.wEnd] at hr
 subst ha
 rw [zaF]
 simp only [zal,csS,gt_0,gt_s,zbf,Bool.false_eq_true,if_false,stp_om]
 rw [agN_agg 2 [.list (L.map tokM),.int .i64 (p:Int)] rfl]
 simp only [zdn,za1,List.getD_cons_zero,List.getD_cons_succ,zad]
 refine zfd hL hp (fun hi hlt=>?_) fun hi=>?_
 ·simp only [hi,if_true] at hr
  simp only [zbf,if_true,zbe,zbd,zad]
  refine OutP.ag ?_
  refine h.go hm (by omega) hr (fun c q h1 h2 hr=>?_) (fun _=>rfl)
  have hap:appV 11 128 (.list (acc.map encE)) (.list [encE c])=some (.list ((acc++[c]).map encE)):=zpP (.inr rfl) (l:=[c]) (by simp;omega)
  simp only [ze9,zhy,hap,Option.bind_some,zbe,zbd]
  exact hj3 _ q (by omega) h2 hr
 ·simp only [hi,Bool.false_eq_true,if_false] at hr
  simp only [zbf,Bool.false_eq_true,if_false,zbe,zbd]
  exact hj3 _ p (by omega) hp hr
theorem cs_wf {w:Bool} {p:Nat} {d:Bool} {acc:List Ex.E}:veqs (csS L w p d (.list (acc.map encE))) (csS L w p d (.list (acc.map encE)))=true:=zch (by
 have h1:=zfI L
 have h2:=encs_wf acc
 simp only [csS,zE0,wfs,wf,h1,h2,Bool.and_self])
theorem cs_loop (hL:L.length≤999999) (h:LvP L 148 0 n):∀ (m p:Nat) (d:Bool) (acc:List Ex.E) (av:Vm.V) (r:Ex.R),m≤n→p≤L.length→accV av acc→acc.length≤p+1→Ex.whenK (L.map (·.1)) m d acc p=some r →
  OutP L p r (lup Out (zal pr.ev lup) (csS L true p d av)):=by
 intro m
 induction m with
 | zero=>intro p d acc av r _ _ _ _ hr;simp [Ex.whenK,Ex.run,Ex.then1] at hr
 | succ m ih =>
  intro p d acc av r hm hp ha hl hr
  unfold Ex.whenK at hr
  simp only [Ex.wThen,Ex.zdg] at hr
  have z2:agN 11 zE0=zE0:=agN_agg _ _ rfl
  rcases h.two hm hp hr with ⟨a,q,h1,h2,h3,h4⟩ | ⟨q,rfl,h2,h4⟩
  rotate_left
  ·refine .inr ⟨_,rfl,h2, ?_⟩
   rw [zaF]
   simp [-Int.natCast_add,zal,csS,k_p h4,pnk]
  have hmu:=zqJ L q 2 [116,104,101,110] hL h2
  rcases Ex.need_some h3 with ⟨g1,g2⟩ | ⟨g1,rfl⟩
  rotate_left
  ·rw [g1,if_neg (by simp)] at hmu
   refine .inr ⟨_,rfl,h2, ?_⟩
   rw [zaF]
   simp [-Int.natCast_add,zal,csS,k_r h4,k_p hmu,pnk]
  rw [g1,if_pos rfl] at hmu
  have hlt:q < L.length:=by simpa using Ex.isT_lt g1
  rcases h.two hm (by omega) g2 with ⟨b,q2,k1,k2,k3,k4⟩ | ⟨q2,rfl,k2,k4⟩
  rotate_left
  ·refine .inr ⟨_,rfl,k2, ?_⟩
   rw [zaF]
   have e1:ag (eqS oeq) (cl1 pr.ev 148 [(.ptr 0 0)] (prsE L (q+1)) 182 2 (fun v9 v8=>om (pnk v9 [.blk 182 [(zaa v8 0),(zaa v8 1)]])) fun v7 v8 =>
     ckA 11 (norm1 (agN 11 (encE a))) <| ckA 11 (norm1 v7) <|
     (appV 11 128 av (.list [(norm1 (agN 11 (encE a))),(norm1 v7)])).bind fun v10 =>
     zbw pr.ev lup (.agg [(zaa v8 0),(zaa v8 1)]) (agN 11 zE0) (.int .i64 9) (.str []) (.int .i64 0) (.int .i64 0) (.str []) (.str []) (.str []) (.int .i64 0) (.bool false) (.bool d) v10)=some (.out (.panic (stopV q2),[prsE L q2])):=by
    refine zgO ?_ (oeq_p rfl)
    rw [k_p k4]
    rfl
   simp only [zal,csS,gt_0,gt_s,zbf,if_true,za1,List.getD_cons_zero,List.getD_cons_succ,zad,k_r h4,k_r hmu,ze9,zbe,zbd,e1,stp_out]
  have hap:appV 11 128 av (.list [encE a,encE b])=some (.list ((acc++[a,b]).map encE)):=zpP ha (l:=[a,b]) (by simp;omega)
  have hw:=ztK L q2 [119,104,101,110] hL k2
  have e1:∀ (w:Bool) (q3:Nat),w=Ex.isT (L.map (·.1)) q2 2 [119,104,101,110]→q3=(if Ex.isT (L.map (·.1)) q2 2 [119,104,101,110] then q2+1 else q2)→lup Out (zal pr.ev lup) (csS L true p d av)=lup Out (zal pr.ev lup) (csS L w q3 d (.list ((acc++[a,b]).map encE))):=fun w q3 hw1 hq3=>by
   rw [← hw1] at hq3 hw
   rw [← hq3] at hw
   rw [zaF]
   have e1:ag (eqS oeq) (cl1 pr.ev 148 [(.ptr 0 0)] (prsE L (q+1)) 182 2 (fun v9 v8=>om (pnk v9 [.blk 182 [(zaa v8 0),(zaa v8 1)]])) fun v7 v8 =>
     ckA 11 (norm1 (agN 11 (encE a))) <| ckA 11 (norm1 v7) <|
     (appV 11 128 av (.list [(norm1 (agN 11 (encE a))),(norm1 v7)])).bind fun v10 =>
     zbw pr.ev lup (.agg [(zaa v8 0),(zaa v8 1)]) (agN 11 zE0) (.int .i64 9) (.str []) (.int .i64 0) (.int .i64 0) (.str []) (.str []) (.str []) (.int .i64 0) (.bool false) (.bool d) v10)=some (.next (csS L w q3 d (.list ((acc++[a,b]).map encE)))):=by
    refine zgO ?_ cs_wf
    simp only [k_r k4,ze9,zhy,zl8,hap,Option.bind_some,zbw,za1,List.getD_cons_zero,List.getD_cons_succ,zbe,zbd,zad,k_r hw,z2,csS]
   simp only [zal,csS,gt_0,gt_s,zbf,if_true,za1,List.getD_cons_zero,List.getD_cons_succ,zad,k_r h4,k_r hmu,ze9,zbe,zbd]
   simp only [csS] at e1
   simp only [e1,zmy]
  cases hwh:Ex.isT (L.map (·.1)) q2 2 [119,104,101,110]
  ·simp only [hwh,Bool.false_eq_true,if_false] at k3
   rw [e1 false q2 hwh.symm (by rw [hwh];rfl)]
   rcases cs_tail hL h hm k2 rfl (by simp;omega) k3 with ⟨e,q3,i1,i2,i3⟩ | i1
   ·exact .inl ⟨e,q3,i1,by omega,i3⟩
   ·exact .inr i1
  ·have hlt2:q2 < L.length:=by simpa using Ex.isT_lt hwh
   simp only [hwh,if_true] at k3
   rw [Ex.zez] at k3
   rcases Ex.need_some k3 with ⟨i1,i2⟩ | ⟨i1,_⟩
   ·rw [e1 true (q2+1) hwh.symm (by rw [hwh];rfl)]
    rcases ih (q2+1) d (acc++[a,b]) _ r (by omega) (by omega) (.inr rfl) (by simp;omega) i2 with ⟨e,q3,i1,i2,i3⟩ | i1
    ·exact .inl ⟨e,q3,i1,by omega,i3⟩
    ·exact .inr i1
   ·rw [Ex.zdg,hwh] at i1;cases i1
theorem m_cases (hL:L.length≤999999) (h:LvP L 148 0 n):LoP L 195 Ex.zgI n:=fun m p r hm hp hr=>by
 refine OutP.of ?_ fun z hz=>pr.of rfl rfl rfl (zhQ _ _ _ _ _) hz
 unfold Ex.zgI at hr
 simp only [Ex.zdg] at hr
 have hj1:∀ (d:Bool) (acc:List Ex.E) (av:Vm.V) (q m:Nat),m≤n→accV av acc→acc.length≤q→p≤q→q≤L.length→Ex.run (L.map (·.1)) m (.whens d acc) q=some r→OutP L p r (zby pr.ev lup (.agg [.list (L.map tokM),.int .i64 (q:Int)]) (.bool d) av):=fun d acc av q m hm ha hl hq1 hq2 hr=>by
  cases m with
  | zero=>cases hr
  | succ m =>
   rw [Ex.zez] at hr
   simp only [Ex.zdg] at hr
   simp only [zby,za1,List.getD_cons_zero,List.getD_cons_succ,zad]
   refine zfp hL hq2 hr (fun hlt hr=>?_) (fun _=>rfl)
   simp only [zbe,zbd]
   rcases cs_loop hL h m (q+1) d acc av r (by omega) (by omega) ha (by omega) hr with ⟨e,q3,i1,i2,i3⟩ | i1
   ·exact .inl ⟨e,q3,i1,by omega,i3⟩
   ·exact .inr i1
 simp only [zeg,zad]
 refine zt5 hL hp (a:=0) (by omega) rfl ?_
 simp only [Nat.add_zero,zlr,Option.bind_some,zbe,zbd,zad]
 cases hw:Ex.isT (L.map (·.1)) p 2 [119,104,101,110]
 ·simp only [hw,Bool.false_eq_true,if_false] at hr
  simp only [Bool.not_false,zbf,if_true]
  refine OutP.ag ?_
  refine h.go hm hp hr (fun e q h1 h2 hr=>?_) (fun _=>rfl)
  have hap:appN 11 128 .nils (.list [encE e])=some (.list ([e].map encE)):=by
   show appV 11 128 .nils (.list [encE e])=_
   exact zpP (acc:=[]) (.inl ⟨rfl,rfl⟩) (l:=[e]) (by simp)
  simp only [ze9,zhy,hap,Option.bind_some,zbe,zbd]
  exact hj1 true [e] _ q m hm (.inr rfl) (by simp;omega) (by omega) h2 hr
 ·simp only [hw,if_true] at hr
  simp only [Bool.not_true,zbf,Bool.false_eq_true,if_false]
  exact hj1 false [] _ p m hm (.inl ⟨rfl,rfl⟩) (by simp) (by omega) hp hr
end
end Go.Proofs.YtlooegbcfkoloaaGreatDoor
namespace Go.Proofs.YtlooegbcfkoloaaGreatDoor
open Go.RowKit
open Vm
variable [Gl]
def Good (L:List Lx.TA):Prop:=∀ (i:Nat) (t:Lx.TA),L[i]?=some t→t.1.text.length≤1000000∧-9223372036854775807≤t.1.val.2.1∧t.1.val.2.1≤9223372036854775807
section
variable {L:List Lx.TA}
theorem zem {f:FuncId} {k:Nat}:LvP L f k 0:=fun m p r hm hp hr=>by
 obtain rfl:m=0:=by omega
 cases hr
structure ProgP (L:List Lx.TA) (n:Nat):Prop where
 l0:LvP L 148 0 n
 l1:LvP L 162 1 n
 l2:LvP L 172 2 n
 l3:LvP L 180 3 n
 l4:LvP L 184 4 n
 l5:LvP L 187 5 n
 l6:LvP L 190 6 n
 l7:LvP L 191 7 n
 l8:LvP L 192 8 n
 ls:LsP L n
theorem zqk (hL:L.length≤999999) (hT:Good L):∀ n,ProgP L n
 | 0=>⟨zem,zem,zem,zem,zem,zem,zem,zem,zem,fun m p r hm hp hr=>by
  obtain rfl:m=0:=by omega
  cases hr⟩
 | n+1=>by
  have h:=zqk hL hT n
  have hx:zln L:=fun i t ht=>(hT i t ht).1
  exact ⟨m_expr hL h.l1,znd hL h.l2,zrK hL h.l2 h.l3,zor hL h.l4 h.ls,m_sum hL h.l5,ztQ hL h.l6,m_join hL h.l7,m_signed hL (fun i t ht=>(hT i t ht).2) h.l8 h.l7,
   m_plain hL hx h.l0 (m_named hL (m_call hL h.l0 h.ls)) (m_cases hL h.l0) (m_cast hL hx h.l0),m_list hL h.l0⟩
theorem prog_expr (hL:L.length≤999999) (hT:Good L) {m p:Nat} {r:Ex.R} (hp:p≤L.length) (hr:Ex.run (L.map (·.1)) m (.lev 0) p=some r):OutP L (p+1) r (pr.ev 148 [.ptr 0 0] [prsE L p]) :=
 (zqk hL hT m).l0 m p r (Nat.le_refl _) hp hr
end
end Go.Proofs.YtlooegbcfkoloaaGreatDoor
namespace Go.Proofs.YtlooegbcfkoloaaGreatDoor
open Go.RowKit
open Vm
variable [Gl]
def rdV (L:List Lx.TA) (a b w:Int):Vm.V:=.agg [.list (L.map tokM),.int .i64 a,.int .i64 b,.int .i64 w]
section
variable {Z:Type} {A:Option Z} {L:List Lx.TA} {a b w:Int}
@[simp] theorem rd_fold:Vm.V.agg [.list (L.map tokM),.int .i64 a,.int .i64 b,.int .i64 w]=rdV L a b w:=rfl
@[simp] theorem rd_ck:ckA 4 (rdV L a b w) A=A:=by unfold rdV;exact ckA_agg _ _ rfl rfl
@[simp] theorem rd_ag:agN 4 (rdV L a b w)=rdV L a b w:=by unfold rdV;exact agN_agg _ _ rfl
@[simp] theorem rd_nm:norm1 (rdV L a b w)=rdV L a b w:=rfl
@[simp] theorem rd_0:cell (rdV L a b w) 0=.list (L.map tokM):=rfl
@[simp] theorem rd_1:cell (rdV L a b w) 1=.int .i64 a:=rfl
@[simp] theorem rd_2:cell (rdV L a b w) 2=.int .i64 b:=rfl
@[simp] theorem rd_3:cell (rdV L a b w) 3=.int .i64 w:=rfl
end
def Exs (x:Vm.V):Prop:=∃ cs:List Vm.V,x=.agg cs∧cs.length=11∧cs.all Vm.V.one=true∧cs.map norm0=cs∧wfs cs=true
theorem zd6 (e:Ex.E):Exs (encE e):=by
 have h:=zhx e
 cases e
 rw [enc_mk] at h ⊢
 simp only [wf] at h
 exact ⟨_,rfl,rfl,rfl,rfl,h⟩
theorem Exs.ck {x:Vm.V} (h:Exs x) {Z:Type} (A:Option Z):ckA 11 x A=A:=by obtain ⟨cs,rfl,h1,h2,_⟩:=h;exact ckA_agg _ _ h1 h2
theorem Exs.ag {x:Vm.V} (h:Exs x):agN 11 x=x:=by obtain ⟨cs,rfl,h1,_,_⟩:=h;exact agN_agg _ _ h1
theorem Exs.nm {x:Vm.V} (h:Exs x):norm1 x=x:=by obtain ⟨cs,rfl,_,_,h3,_⟩:=h;rw [nm_a,h3]
theorem Exs.sz {x:Vm.V} (h:Exs x):x.size=11:=by obtain ⟨cs,rfl,h1,_,_⟩:=h;simpa [Vm.V.size,Vm.V.cells] using h1
theorem Exs.wf {x:Vm.V} (h:Exs x):wf x=true:=by obtain ⟨cs,rfl,_,_,_,h3⟩:=h;simpa only [Vm.wf] using h3
theorem Exs.rd {x:Vm.V} (h:Exs x):argR x=.d x:=by obtain ⟨cs,rfl,_⟩:=h;rfl
theorem rd_wf {L:List Lx.TA} {a b w:Int}:wf (rdV L a b w)=true:=by simp only [rdV,wf,wfs,zfI,Bool.and_self]
end Go.Proofs.YtlooegbcfkoloaaGreatDoor
namespace Go.Proofs.YtlooegbcfkoloaaGreatDoor
open Go.RowKit
open Vm
variable [Gl]
def StR (L:List Lx.TA) (q:Nat) (o:Option Out):Prop:=∃ (p':Nat) (x:Vm.V),o=some (.ret (.tup [rdV L p' 20 q,x]),[])∧Exs x∧p'≤L.length
def OutR (L:List Lx.TA) (lo:Nat) (r:Ex.R) (o:Option Out):Prop:=(∃ e q,r=.ok [e] q∧lo≤q∧q≤L.length∧o=some (.ret (.tup [rdV L q 0 0,encE e]),[]))∨∃ q,r=.stop q∧StR L q o
theorem StR.of {L:List Lx.TA} {q:Nat} {o o':Option Out} (h:StR L q o) (e:∀ z,o=some z→o'=some z):StR L q o':=by
 obtain ⟨p',x,h1,h2,h3⟩:=h
 exact ⟨p',x,e _ h1,h2,h3⟩
theorem StR.ag {L:List Lx.TA} {q:Nat} {o:Option Out} (h:StR L q o):StR L q (ag oeq o):=by
 obtain ⟨p',x,h1,h2,h3⟩:=h
 refine ⟨p',x,zgO h1 ?_,h2,h3⟩
 have:veq (.tup [rdV L p' 20 q,x]) (.tup [rdV L p' 20 q,x])=true:=zeV (by simp only [wf,wfs,rd_wf,h2.wf,Bool.and_self])
 simp [oeq,eeqs,this]
theorem OutR.of {L:List Lx.TA} {lo:Nat} {r:Ex.R} {o o':Option Out} (h:OutR L lo r o) (e:∀ z,o=some z→o'=some z):OutR L lo r o':=by
 rcases h with ⟨a,q,h1,h2,h3,h4⟩ | ⟨q,h1,h3⟩
 ·exact .inl ⟨a,q,h1,h2,h3,e _ h4⟩
 ·exact .inr ⟨q,h1,h3.of e⟩
theorem OutR.ag {L:List Lx.TA} {lo:Nat} {r:Ex.R} {o:Option Out} (h:OutR L lo r o):OutR L lo r (ag oeq o):=by
 rcases h with ⟨a,q,h1,h2,h3,h4⟩ | ⟨q,h1,h3⟩
 ·refine .inl ⟨a,q,h1,h2,h3,zgO h4 ?_⟩
  have:veq (.tup [rdV L q 0 0,encE a]) (.tup [rdV L q 0 0,encE a])=true:=zeV (by simp only [wf,wfs,rd_wf,zhx,Bool.and_self])
  simp [oeq,eeqs,this]
 ·exact .inr ⟨q,h1,h3.ag⟩
def LvR (L:List Lx.TA) (n:Nat):Prop:=∀ m k p r,m≤n→k≤7→p≤L.length→Ex.run (L.map (·.1)) m (.lev k) p=some r→OutR L (p+1) r (pr.ev 115 [rdV L p 0 0,.int .i64 (k:Int)] [])
section
variable {L:List Lx.TA} {n:Nat} {k m p lo:Nat} {r:Ex.R} {Kp K:Vm.V→Option Out}
theorem LvR.two (h:LvR L n) (hm:m≤n) (hk7:k≤7) (hp:p≤L.length) {F:Ex.E→Nat→Option Ex.R} (hr:Ex.then1 (Ex.run (L.map (·.1)) m (.lev k) p) F=some r) :
  (∃ e q,p < q∧q≤L.length∧F e q=some r∧pr.ev 115 [rdV L p 0 0,.int .i64 (k:Int)] []=some (.ret (.tup [rdV L q 0 0,encE e]),[]))∨∃ q,r=.stop q∧StR L q (pr.ev 115 [rdV L p 0 0,.int .i64 (k:Int)] []):=by
 rcases Ex.then1_some hr with ⟨e,q,h1,h2⟩ | ⟨q,h1,rfl⟩
 ·rcases h m k p _ hm hk7 hp h1 with ⟨e',q',h3,h4,h5,h6⟩ | ⟨q',h3,_⟩
  ·cases h3
   exact .inl ⟨e,q,h4,h5,h2,h6⟩
  ·cases h3
 ·rcases h m k p _ hm hk7 hp h1 with ⟨e',q',h3,_⟩ | ⟨q',h3,h4⟩
  ·cases h3
  ·cases h3
   exact .inr ⟨q,rfl,h4⟩
theorem LvR.go (h:LvR L n) (hm:m≤n) (hk7:k≤7) (hp:p≤L.length) {w:Vm.V} (hw:w=.int .i64 (k:Int)) {F:Ex.E→Nat→Option Ex.R} (hr:Ex.then1 (Ex.run (L.map (·.1)) m (.lev k) p) F=some r) (hk:∀ e q,p < q→q≤L.length→F e q=some r→OutR L lo r (K (.tup [rdV L q 0 0,encE e])))
  (hs:∀ (p' q:Nat) x,Exs x→p'≤L.length→StR L q (K (.tup [rdV L p' 20 q,x]))):OutR L lo r (cl0 pr.ev 115 [rdV L p 0 0,w] Kp K):=by
 subst hw
 rcases h.two hm hk7 hp hr with ⟨e,q,h1,h2,h3,h4⟩ | ⟨q,rfl,p',x,h4,h5,h6⟩
 ·rw [zac h4]
  exact hk e q h1 h2 h3
 ·rw [zac h4]
  exact .inr ⟨q,rfl,hs p' q x h5 h6⟩
theorem LvR.end (h:LvR L n) (hm:m≤n) (hk7:k≤7) (hp:p≤L.length) {w:Vm.V} (hw:w=.int .i64 (k:Int)) (hr:Ex.run (L.map (·.1)) m (.lev k) p=some r) (hlo:lo≤p+1) (hs:∀ (p':Nat) (b q:Int) x,Exs x→K (.tup [rdV L p' b q,x])=some (.ret (.tup [rdV L p' b q,x]),[])) :
  OutR L lo r (cl0 pr.ev 115 [rdV L p 0 0,w] Kp K):=by
 subst hw
 rcases h m k p _ hm hk7 hp hr with ⟨e,q,rfl,h4,h5,h6⟩ | ⟨q,rfl,p',x,h4,h5,h6⟩
 ·rw [zac h6]
  exact .inl ⟨e,q,rfl,by omega,h5,hs q 0 0 _ (zd6 e)⟩
 ·rw [zac h4]
  exact .inr ⟨q,rfl,p',x,hs p' 20 q x h5,h5,h6⟩
end
end Go.Proofs.YtlooegbcfkoloaaGreatDoor
namespace Go.Proofs.YtlooegbcfkoloaaGreatDoor
open Go.RowKit
open Vm
variable [Gl]
def LsO (L:List Lx.TA) (lo:Nat) (r:Ex.R) (o:Option Out):Prop :=
 (∃ (l:List Ex.E) (q:Nat),r=.ok l (q+1)∧lo≤q∧q < L.length∧l.length≤1000000∧Ex.isT (L.map (·.1)) q 4 [41]=true∧o=some (.ret (.tup [rdV L q 0 0,.list (l.map encE)]),[])) ∨
 (∃ (l:List Ex.E) (q:Nat),r=.stop q∧q≤L.length∧l.length≤1000000∧Ex.isT (L.map (·.1)) q 4 [41]=false∧o=some (.ret (.tup [rdV L q 0 0,.list (l.map encE)]),[])) ∨
 ∃ (p' q:Nat) (xs:List Vm.V),r=.stop q∧p'≤L.length∧xs.length≤1000001∧(∀ x∈xs,Exs x)∧o=some (.ret (.tup [rdV L p' 20 q,.list xs]),[])
theorem LsO.of {L:List Lx.TA} {lo lo':Nat} {r:Ex.R} {o o':Option Out} (h:LsO L lo r o) (hl:lo'≤lo) (e:∀ z,o=some z→o'=some z):LsO L lo' r o':=by
 rcases h with ⟨l,q,h1,h2,h3,h4,h5,h6⟩ | ⟨l,q,h1,h2,h3,h4,h5⟩ | ⟨p',q,xs,h1,h2,h3,h4,h5⟩
 ·exact .inl ⟨l,q,h1,by omega,h3,h4,h5,e _ h6⟩
 ·exact .inr (.inl ⟨l,q,h1,h2,h3,h4,e _ h5⟩)
 ·exact .inr (.inr ⟨p',q,xs,h1,h2,h3,h4,e _ h5⟩)
def LsR (L:List Lx.TA) (n:Nat):Prop:=∀ m p r,m≤n→p≤L.length→Ex.run (L.map (·.1)) m (.list []) p=some r→LsO L (p+1) r (pr.ev 154 [rdV L p 0 0] [])
section
variable {L:List Lx.TA} {n:Nat}
theorem LsR.go (h:LsR L n) {m p lo:Nat} {r:Ex.R} {Kp K:Vm.V→Option Out} (hm:m≤n) (hp:p≤L.length) {F:List Ex.E→Nat→Option Ex.R} (hr:Ex.zg7 (Ex.run (L.map (·.1)) m (.list []) p) F=some r) (hk:∀ l q,p < q→q < L.length→l.length≤1000000→Ex.isT (L.map (·.1)) q 4 [41]=true→F l (q+1)=some r→OutR L lo r (K (.tup [rdV L q 0 0,.list (l.map encE)])))
  (hs1:∀ (l:List Ex.E) (q:Nat),q≤L.length→l.length≤1000000→Ex.isT (L.map (·.1)) q 4 [41]=false→StR L q (K (.tup [rdV L q 0 0,.list (l.map encE)])))
  (hs2:∀ (p' q:Nat) (xs:List Vm.V),p'≤L.length→xs.length≤1000001→(∀ x∈xs,Exs x)→StR L q (K (.tup [rdV L p' 20 q,.list xs]))):OutR L lo r (cl0 pr.ev 154 [rdV L p 0 0] Kp K):=by
 rcases Ex.thenL_some hr with ⟨e,q,h1,h2⟩ | ⟨q,h1,rfl⟩
 ·rcases h m p _ hm hp h1 with ⟨l,q',h3,h4,h5,h6,h7,h8⟩ | ⟨l,q',h3,_⟩ | ⟨p',q',xs,h3,_⟩
  ·cases h3
   rw [zac h8]
   exact hk _ q' (by omega) h5 h6 h7 h2
  ·cases h3
  ·cases h3
 ·rcases h m p _ hm hp h1 with ⟨l,q',h3,_⟩ | ⟨l,q',h3,h4,h5,h6,h7⟩ | ⟨p',q',xs,h3,h4,h5,h6,h7⟩
  ·cases h3
  ·cases h3
   rw [zac h7]
   exact .inr ⟨q,rfl,hs1 l q h4 h5 h6⟩
  ·cases h3
   rw [zac h7]
   exact .inr ⟨q,rfl,hs2 p' q xs h4 h5 h6⟩
end
end Go.Proofs.YtlooegbcfkoloaaGreatDoor
namespace Go.Proofs.YtlooegbcfkoloaaGreatDoor
open Go.RowKit
open Vm
variable [Gl]
theorem zhm {Z:Type} {eq:Z→Z→Bool} {z:Z} (h:eq z z=true):agr eq (some z) (some z)=some z:=by simp only [agr,h,if_true]
section
variable {L:List Lx.TA} {n:Nat}
theorem e0_v:Vm.V.agg [.int .i64 0,.str [],.int .i64 0,.int .i64 0,.str [],.str [],.str [],.int .i64 0,.bool false,.bool false,.list []]=encE Ex.e0:=by rw [Ex.e0,enc_mk];rfl
end
end Go.Proofs.YtlooegbcfkoloaaGreatDoor
namespace Go.Proofs.YtlooegbcfkoloaaGreatDoor
open Go.RowKit
open Vm
variable [Gl]
section
variable {L:List Lx.TA} {n:Nat}
theorem OutR.pass {lo lo':Nat} {r:Ex.R} {f:FuncId} {a:List Vm.V} {Kp K:Vm.V→Option Out} (h:OutR L lo' r (pr.ev f a [])) (hlo:lo≤lo') (hs:∀ (p':Nat) (b q:Int) x,Exs x→K (.tup [rdV L p' b q,x])=some (.ret (.tup [rdV L p' b q,x]),[])):OutR L lo r (cl0 pr.ev f a Kp K):=by
 rcases h with ⟨e,q,rfl,h4,h5,h6⟩ | ⟨q,rfl,p',x,h4,h5,h6⟩
 ·rw [zac h6]
  exact .inl ⟨e,q,rfl,by omega,h5,hs q 0 0 _ (zd6 e)⟩
 ·rw [zac h4]
  exact .inr ⟨q,rfl,p',x,hs p' 20 q x h5,h5,h6⟩
end
end Go.Proofs.YtlooegbcfkoloaaGreatDoor
namespace Ox
open Lx
def plain (c:UInt8):Bool:=c.toNat != 32 && c.toNat != 10 && c.toNat != 35
theorem zom:∀ m:Nat,(numN m).all dig=true:=by
 intro m
 induction m using Nat.strongRecOn with
 | ind m ih =>
  rw [numN]
  split
  ·rename_i h
   simp [dig,UInt8.toNat_ofNat']
   omega
  ·rename_i h
   rw [List.all_append,ih (m / 10) (by omega)]
   simp [dig,UInt8.toNat_ofNat']
   omega
theorem zqA:∀ m:Nat,dec (numN m)=m:=by
 intro m
 induction m using Nat.strongRecOn with
 | ind m ih =>
  rw [numN]
  split
  ·rename_i h
   simp [dec,UInt8.toNat_ofNat']
   omega
  ·rename_i h
   rw [znm,ih (m / 10) (by omega)]
   simp [UInt8.toNat_ofNat']
   omega
theorem zja (m:Nat):numN m≠[]:=by
 rw [numN]
 split<;>simp
theorem zol:∀ m:Nat,0 < m→(numN m).head?≠some 48:=by
 intro m
 induction m using Nat.strongRecOn with
 | ind m ih =>
  intro h0
  rw [numN]
  split
  ·rename_i h
   intro hc
   have h2:UInt8.ofNat (48+m)=48:=by simpa using hc
   have:=congrArg UInt8.toNat h2
   simp [UInt8.toNat_ofNat'] at this
   omega
  ·rename_i h
   have hh:=ih (m / 10) (by omega) (by omega)
   have hn:=zja (m / 10)
   cases hx:numN (m / 10) with
   | nil=>exact absurd hx hn
   | cons a r =>
    rw [hx] at hh
    simpa using hh
theorem numN_one {m:Nat} (h:1 < (numN m).length):0 < m:=by
 rcases Nat.eq_zero_or_pos m with rfl | h2
 ·rw [numN] at h
  simp at h
 ·exact h2
theorem zty (m:Nat):zcQ (numN m)=true:=by
 rw [zcQ,zom]
 have h1:(numN m).isEmpty=false:=by
  have:=zja m
  cases hx:numN m with
  | nil=>exact absurd hx this
  | cons a r=>rfl
 rw [h1]
 by_cases h:1 < (numN m).length
 ·have:=zol m (numN_one h)
  have hq:((numN m).head? == some 48)=false:=by
   rw [Bool.eq_false_iff]
   intro hc
   exact this (eq_of_beq hc)
  rw [hq]
  simp
 ·rw [decide_eq_false h]
  simp
theorem zpm (m:Nat):(numN m).head?≠some 45:=by
 have h:=zom m
 cases hx:numN m with
 | nil=>simp
 | cons a r =>
  rw [hx] at h
  simp only [List.all_cons,Bool.and_eq_true] at h
  have:=znl.1 h.1
  intro hc
  have h2:a=45:=by simpa using hc
  subst h2
  revert this
  decide
theorem read_num {n:Int} (h1:-9223372036854775808≤n) (h2:n≤9223372036854775807):read (num n)=(n,0):=by
 unfold num
 split
 ·rename_i h
  have hz:((numN n.natAbs) == [48])=false:=by
   rw [Bool.eq_false_iff]
   intro hc
   have:=zol n.natAbs (by omega)
   rw [eq_of_beq hc] at this
   exact this rfl
  have hd:=zqA n.natAbs
  simp only [Lx.read,List.head?_cons,List.tail_cons,beq_self_eq_true,if_true,zty,hz,Bool.not_true,Bool.and_false,Bool.or_false,Bool.false_eq_true,if_false,hd,zjb]
  rw [if_neg (by omega)]
  congr 1
  omega
 ·rename_i h
  have hz:((numN n.natAbs).head? == some 45)=false:=by
   rw [Bool.eq_false_iff]
   intro hc
   exact zpm _ (eq_of_beq hc)
  have hd:=zqA n.natAbs
  simp only [Lx.read,hz,zty,Bool.not_true,Bool.false_and,Bool.or_false,Bool.false_eq_true,if_false,hd,zjb]
  rw [if_neg (by omega)]
  congr 1
  omega
theorem zoj (n:Int):num n≠[]:=by
 unfold num
 split
 ·simp
 ·exact zja _
theorem zrV (s:S):(hex s).length=2 * s.length:=by
 induction s with
 | nil=>rfl
 | cons c r ih=>simp only [hex,List.length_cons,ih];omega
def sep (ws:List S):S:=ws.flatMap fun w=>32 :: w
end Ox
