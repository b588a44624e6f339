/- tomelaw27.StmtReads returns true at any statement: which statements read alone is as the reference says. Condition: the laid tables of the library of Go, tied to the program by the given ties. -/
import Derived.Test.YtplflngjpajcmaaGreatDoorP0
import Derived.Test.YtplflngjpajcmaaGreatDoorP4
import Derived.Test.YtplflngjpajcmaaGreatDoorP5
import Derived.Test.YtplflngjpajcmaaGreatDoorP6
import Derived.Test.YtplflngjpajcmaaGreatDoorP7
import Derived.Test.YtplflngjpajcmaaGreatDoorP8
set_option maxRecDepth 20000
set_option linter.unusedVariables false
set_option linter.unusedSimpArgs false
set_option linter.unusedSectionVars false
noncomputable section
namespace Go.Proofs.YtplflngjpajcmaaGreatDoor
section
open Go.RowKit
open Vm
theorem out_str{w w':World}{A:Nat→Nat→Prop}{e:Ending}{t:List UInt8}(h:e=.returned (.string (Lx.bs t))∧Below w.heap.size w w'):Below w.heap.size w w'∧∃o,o=POut.ret (.str t)∧OutRep w' A o e:=by
 obtain⟨rfl,h2⟩:=h;exact⟨h2,_,rfl,_,rfl,.str t⟩
theorem zjQ{w:World}{A:Nat→Nat→Prop}{k:IntKind}{n:Int}{vals:Array Value}(h:RepL w A [.int k n] vals.toList):vals=#[.int k n]:=by
 obtain⟨l⟩:=vals;cases h with
 |cons _ _ v vs h1 h2=>
  cases h1;cases h2;rfl
theorem n_Num{G:Nat→Vm.V}{n:Int}(h1:-9223372036854775808≤n)(h2:n≤9223372036854775807):Ret Tryz.prog G 151 [.int .i64 n] (.str (Ox.num n)):=by
 refine zca (by kernel_rfl) rfl fun w A vals hA hv=>?_;rw[zjQ hv];exact Calls.mono (tnum_any n w h1 h2) fun e w' h=>out_str h
def zk4:List Vm.V→Option Vm.V
 |[.int .i64 n]=>if -9223372036854775808≤n∧n≤9223372036854775807 then some (.str (Ox.num n))else none
 |_=>none
theorem zk3{f:FuncId}{G:Nat→Vm.V}(hf:∀{n:Int}, -9223372036854775808≤n→n≤9223372036854775807→Ret Tryz.prog G f [.int .i64 n] (.str (Ox.num n)))(a:List Vm.V)(v:Vm.V)(h:zk4 a=some v):Ret Tryz.prog G f a v:=by
 unfold zk4 at h;split at h
 ·split at h
  ·rename_i hc;cases h;exact hf hc.1 hc.2
  ·cases h
 ·cases h
class Gl where
 m:Int
end
section
open Go.RowKit
open Vm
theorem m_fold{G:Nat→Vm.V}{s:List UInt8}(hs:s.length≤1000000):zaL Tryz.prog G 111 [.str s] [] fun o es=>o=.ret (.str (Lx.fold s))∧es=[]:=by
 refine zcw (by kernel_rfl) rfl fun w A vals hv=>?_;rw[zez hv];have hz:(Lx.bs s).size≤9223372036854775000:=by rw[Lx.zao];omega
 refine Calls.mono (zaO (Lx.bs s) w hz) fun e w' h=>⟨h.2,_,rfl, ?_⟩;rw[h.1,Lx.zaH];exact⟨_,rfl,.str _⟩
def ans1(g:List UInt8→Vm.V):List Vm.V→Option Vm.V
 |[.str s]=>if s.length≤1000000 then some (g s)else none
 |_=>none
theorem zk5{g:List UInt8→Vm.V}{a:List Vm.V}{v:Vm.V}(h:ans1 g a=some v):∃s,a=[.str s]∧s.length≤1000000∧v=g s:=by
 unfold ans1 at h;split at h
 ·split at h
  ·rename_i hs;cases h;exact⟨_,rfl,hs,rfl⟩
  ·cases h
 ·cases h
def nv1{G:Nat→Vm.V}(f:FuncId)(g:List UInt8→Vm.V)(h:∀s:List UInt8,s.length≤1000000→zaL Tryz.prog G f [.str s] [] fun o es=>o=.ret (g s)∧es=[]):Nv Tryz.prog G:=
 .pure f (ans1 g) fun a v hv=>by
  obtain⟨s,rfl,hs,rfl⟩:=zk5 hv;exact h s hs
variable[Gl]
end
section
open Go.RowKit
open Vm
def annTw(f:FuncId)(d:List (Nat×Nat)×List LA):List (Nat×Nat)×List LA:=d
end
section
open Go.RowKit
open Vm
def zeT:List LA:=[⟨false,[(3,.q 24),(6,.d),(7,.d),(8,.d)],[.rq 24 9 1]⟩]
def zdt:List LA:=[⟨false,[(3,.d),(4,.q 15)],[.rq 15 9 1]⟩]
def zc5:List LA:=[⟨false,[(1,.c (.p 10 0)),(3,.d),(4,.d)],[.bv 10 46 3]⟩]
def annTx(f:FuncId)(d:List (Nat×Nat)×List LA):List (Nat×Nat)×List LA:=if f=90 then([],zeT)else if f=91 then([(30,15),(48,15),(62,15),(66,15)],zdt)else if f=97 then([],zc5)else d
end
section
open Go.RowKit
open Vm
def zbr:List LA:=[⟨false,[(0,.c (.p 0 0)),(1,.f [.p 0 0] []),(5,.q 13)],[.bv 0 194 2,.rq 13 172 14]⟩]
def zbs:List LA:=[⟨false,[(0,.c (.p 0 0)),(1,.f [.p 0 0] []),(5,.q 13)],[.bv 0 194 2,.rq 13 77 11]⟩]
def zbq:List LA:=[⟨false,[(0,.c (.p 0 0)),(1,.f [.p 0 0] []),(5,.q 13)],[.bv 0 194 2,.rq 13 128 13]⟩]
def zb7:List LA:=[⟨false,[(0,.c (.p 0 0)),(3,.q 13)],[.bv 0 194 2,.rq 13 174 4]⟩]
def zcE:List LA:=[⟨false,[(0,.c (.p 0 0)),(5,.q 11),(6,.d),(7,.d)],[.bv 0 194 2,.rq 11 9 1]⟩]
def zci:List LA:=[⟨false,[(0,.c (.p 0 0)),(2,.c (.p 10 0)),(3,.c (.p 15 0))],[.bv 0 194 2,.bv 10 75 5,.rq 13 126 6,.blk 15 75 [.q 13,.q 30,.d,.d,.d],.rq 30 3 1]⟩]
def annUa(f:FuncId)(d:List (Nat×Nat)×List LA):List (Nat×Nat)×List LA:=if f=232 then([(21,13)],zbr)else if f=235 then([(21,13)],zbs)else if f=210 then([(21,13)],zbq)else if f=234 then([(45,13)],zb7)else if f=239 then([],zcE)else if f=172 then([(14,1014),(38,13)],zci)else d
end
section
open Go.RowKit
open Vm
def zbQ:List LA:=[⟨false,[(1,.f [] []),(5,.q 25),(8,.d),(9,.d),(10,.d)],[.rq 25 9 1]⟩]
def zbR:List LA:=[⟨false,[(1,.f [] []),(5,.q 25),(8,.d),(9,.d),(10,.d)],[.rq 25 9 1]⟩]
def zbP:List LA:=[⟨false,[(1,.f [] []),(5,.q 25),(8,.d),(9,.d),(10,.d)],[.rq 25 9 1]⟩]
def zdY:List LA:=[⟨false,[(3,.d),(6,.d),(7,.d),(8,.d)],[]⟩]
def zeS:List LA:=[⟨false,[(1,.c (.p 10 0)),(3,.d),(7,.d),(8,.d),(9,.d)],[.bv 10 75 5]⟩]
def zb5:List LA:=[⟨false,[(0,.d),(1,.d),(5,.d)],[]⟩]
def zcd:List LA:=[⟨false,[(2,.c (.p 10 0)),(3,.c (.p 11 0)),(5,.d)],[.bv 10 126 6,.bv 11 126 6]⟩,⟨false,[(2,.c (.p 10 0)),(3,.c (.p 11 0)),(8,.d)],[.bv 10 126 6,.bv 11 126 6]⟩]
def zdq:List LA:=[⟨false,[(2,.c (.p 10 0)),(3,.c (.p 11 0)),(5,.d)],[.bv 10 75 5,.bv 11 75 5]⟩,⟨false,[(2,.c (.p 10 0)),(3,.c (.p 11 0)),(6,.d)],[.bv 10 75 5,.bv 11 75 5]⟩,⟨false,[(2,.c (.p 10 0)),(3,.c (.p 11 0)),(7,.d)],[.bv 10 75 5,.bv 11 75 5]⟩]
def annUb(f:FuncId)(d:List (Nat×Nat)×List LA):List (Nat×Nat)×List LA:=if f=185 then([],zbQ)else if f=188 then([],zbR)else if f=148 then([],zbP)else if f=187 then([],zdY)else if f=81 then([],zeS)else if f=23 then([],zb5)else if f=78 then([],zcd)else if f=24 then([],zdq)else d
end
section
open Go.RowKit
open Vm
variable[Gl]
def prsE(L:List Lx.TA)(p:Nat):Ent:=.blk 233 [.list (L.map tokM),.int .i64 (p:Int)]
@[simp] theorem tok_el (L:List Lx.TA) (i:Nat) (k:IntKind):elV 6 (.list (L.map tokM)) (.int k (i:Int))=(L[i]?).map tokM:=el_map 6 tokM L k i fun _=>rfl
@[simp] theorem tok_0 (t:Lx.TA):ldV false 1 (tokM t) 0=some (.int .i64 t.1.kind):=rfl
@[simp] theorem tok_1 (t:Lx.TA):ldV false 1 (tokM t) 1=some (.str t.1.text):=rfl
@[simp] theorem tok_w (t:Lx.TA):ldV true 6 (tokM t) 0=some (tokM t):=rfl
@[simp] theorem tok_n (t:Lx.TA):norm1 (tokM t)=tokM t:=rfl
@[simp] theorem tok_a (t:Lx.TA):agN 6 (tokM t)=tokM t:=rfl
@[simp] theorem tok_k {Z:Type} (t:Lx.TA) (A:Option Z):ckA 6 (tokM t) A=A:=rfl
@[simp] theorem prs_fold (L:List Lx.TA) (p:Nat):Ent.blk 233 [.list (L.map tokM),.int .i64 (p:Int)]=prsE L p:=rfl
@[simp] theorem prs_0 (L:List Lx.TA) (p:Nat):zdX (prsE L p) 0=.list (L.map tokM):=rfl
@[simp] theorem prs_1 (L:List Lx.TA) (p:Nat):zdX (prsE L p) 1=.int .i64 (p:Int):=rfl
end
section
open Go.RowKit
open Go.ChangeShapes Go.WideShapes Go.ChangeAt
section
variable{H:Type}{enc:TypeId×Value→H}{P:Program}
theorem zi2{f:Func}{s:ChangeSpec}{apart fresh handsOn again:Bool}{W W':World}{args:Array Value}{v:Value}{ds gs:List (DataW H)}{before pa pv:List MemPlace}
  (hW:DataW.Whole enc P f.params.toList s.vars apart W args.toList ds gs before)
  (hres:∀(b:Nat)(sp:Nat→Bool)(hd:Bool),DataW.TrodAll enc P W' b sp hd f.resultTypes.toList (v.resultList f.resultTypes.size) (s.fn H (ds++gs)).results [])
  (hargs:∀sp:Nat→Bool,(∀p∈before,sp p.block=true)→DataW.TrodAll enc P W' 0 sp true f.params.toList args.toList (s.fn H (ds++gs)).args pa)
  (hvars:∀sp:Nat→Bool,(∀p∈before,sp p.block=true)→DataW.TrodVars enc P W' sp s.vars (s.fn H (ds++gs)).vars pv)
  (hps:before=pa++pv) (hb:Below W.heap.size W W')
  (hok:∀(j:Nat)(t:TypeId)(r:Value),f.resultTypes[j]?=some t→(v.resultList f.resultTypes.size)[j]?=some r→Value.okWide P W' .any 0 t r):
  s.post enc P f apart fresh handsOn again W args v W':=by
 have old:∀p∈before,p.block<W.heap.size:=fun p hp=>hW.lt p hp;have hold:∀p∈before,(fun b=>decide (b<W.heap.size)) p.block=true:=fun p hp=>by simpa using old p hp
 have mem:∀p,p∈before↔p∈pa∨p∈pv:=fun p=>by rw[hps,qa29]
 refine⟨ds,gs,before,[],pa,pv,hW,hres _ _ _,hargs _ hold,hvars _ hold,World.keptBut_mono (fun p hp=>⟨hp,.inr ((mem p).1 hp)⟩) (hb.frame _),fun _=>?_⟩;obtain⟨_,_,_,_,_,hz,hn⟩:=hW;refine⟨hok,_,_,([]++pa)++pv,⟨[]++pa,pv,trodAll_append (hargs _ (fun _ _=>rfl)) (hres _ _ _),hvars _ (fun _ _=>rfl),rfl,fun b off hp=>?_,fun ha=>?_⟩,fun p hp _=>?_⟩
 ·have hp':MemPlace.cell b off∈before:=by rw [hps];simpa using hp
  rw[hb.frozen (p:=⟨b,off,none⟩) (old _ hp')];exact hz b off hp'
 ·have:=hn ha;rw[hps]at this;simpa using this
 ·rw[hps];simpa using hp
end
end
section
open Go.RowKit
open Vm
theorem zhg{P:Program}{G:Nat→Vm.V}{f:FuncId}{args:List Vm.V}{v:Vm.V}(h:Ret P G f args v){w:World}{vals:Array Value}(hv:RepL w (fun _ _=>False) args vals.toList)
  (hg:∀g,G g=.any∨RepV w (fun _ _=>False) (G g) (.pointer (some ⟨g,0,none⟩))):Calls P f vals w fun e w'=>Below w.heap.size w w'∧∃A',OutRep w' A' (.ret v) e:=by
 have hm:Mem ⟨w,fun _ _=>False,0,fun _=>Value.nilIface,entF [],G,0,[]⟩ (entF []) w (fun _=>Value.nilIface) (fun _ _=>False):=
  { glo:=hg,kp:=Keeps.refl _ _,ent:=fun id=>trivial,dis:=fun id id' _ h=>absurd rfl h,a00:=fun b o h=>h.elim,a0:=fun b o h _=>h,al:=fun b o h=>h.elim,out:=Foll.refl _ _,lent:=fun id b h=>absurd h (Nat.not_lt_zero _),loc:=fun id b _ h=>absurd rfl h,ext:=⟨rfl,rfl,rfl,qa37 _,fun _ _ _=>rfl⟩ }
 refine Calls.mono (h.2 w _ _ vals hm (zd5 hv)) fun e w' ⟨o,es,H',A',⟨ho,hes⟩,_,_,hm',hout⟩=>?_;subst ho;exact⟨⟨hm'.ext.os,hm'.ext.tape,hm'.ext.output,hm'.ext.size,fun k hk=>hm'.ext.block k hk (fun id h=>absurd h (Nat.not_lt_zero _))⟩,A',hout⟩
theorem xcell_lt{w:World}{b o:Nat}{v:Value}(h:w.cell? ⟨b,o,none⟩=some v):b<w.heap.size:=by
 false_or_by_contra
 rename_i hn;have:w.heap[b]?=none:=Array.getElem?_eq_none (by omega);simp[World.cell?,this]at h
section
variable{H:Type}{enc:TypeId×Value→H}
theorem zdK{a:Assume}{C:Checked}{os:Os}{f:FuncId}{fn:Func}{s:ChangeSpec}{conds:List PathCond}{apart fresh handsOn again:Bool}{X:World→Array Value→Prop}
  (hX:∀(w w':World)(args:Array Value),w.heap=w'.heap→X w args→X w' args)
  (own:ownKnob C.prog.godebug=none) (started:os.Started) (noInit:C.prog.inits.idxOf? f=none) (hfn:C.prog.funcs[f]?=some fn)
  (witness:∃ (w:World) (tape:Tape) (i:Input),w.os=os∧(w.forCall tape i).Shaped C.prog∧i.vars=[]∧Input.okWide C.prog (w.forCall tape i) .any w.heap.size f i ∧
   ((s.pre enc C.prog fn conds apart (w.forCall tape i).memory i.args∧X (w.forCall tape i).memory i.args)∧sizedMet enc C.prog fn (OpenSpec.ofChange s) apart (w.forCall tape i).memory i.args)∧a.holds C.prog (lone (Frame.enter C.prog f i.args .normal) [] (w.forCall tape i)))
  (contract:∀(W:World)(base:Nat)(args:Array Value) (ds gs:List (DataW H)) (before:List MemPlace),
   (∀(j:Nat) t v,fn.params[j]?=some t→args[j]?=some v→Value.okWide C.prog W .any base t v) →
   DataW.Whole enc C.prog fn.params.toList s.vars apart W args.toList ds gs before →
   conds.all (PathCond.test C.prog ⟨fn.params.toList,ds,s.plain.varTypes C.prog,gs⟩)=true →
   (DataW.weightsEach C.prog (fn.params.toList++s.plain.varTypes C.prog) (ds++gs)).all (·≤reachBytes)=true→X W args→W.ShapedOpen C.prog →
   a.holds C.prog (lone (Frame.enter C.prog f args .normal) [] W) →
   Calls C.prog f args W fun e W'=>∃v,e=.returned v∧s.post enc C.prog fn apart fresh handsOn again W args v W'):
  ReturnsInHanded a C os f .any (fun w args=>(s.pre enc C.prog fn conds apart w args∧X w args)∧sizedMet enc C.prog fn (OpenSpec.ofChange s) apart w args) (s.post enc C.prog fn apart fresh handsOn again):=by
 refine returnsInHanded_of_calls own started noInit witness ?_;intro w tape i _ hsh _ hok hpre hholds;obtain⟨_,_,_,fn',hfn',_,_,_,_,hval⟩:=hok;have e:fn'=fn:=Option.some.inj (hfn'.symm.trans hfn);subst e;obtain⟨⟨⟨ds,gs,before,hw,hc⟩,hx⟩,hz⟩:=hpre;have hw':=DataW.Whole.of_heap (w':=w.forCall tape i) (by rfl) hw;refine(contract (w.forCall tape i) w.heap.size i.args ds gs before hval hw' hc (hz.weights hw) (hX _ _ _ (by rfl) hx) hsh hholds).mono fun e W' ⟨v,he,hp⟩=>?_;subst he;exact ChangeSpec.post_blind hp
end
abbrev zi8:List (String×DataW Unit):=[("unicode/utf8.acceptRanges",Rows.laid_unicode_utf8_acceptRanges),("unicode/utf8.first",Rows.laid_unicode_utf8_first)]
theorem zjl(os:Os)(args:Array Value):laidMetH Tryz.prog zi8 ((World.laidAll Tryz.prog os zi8).forCall (fun _ _=>0) ⟨#[],args,[]⟩).memory:=by
 rw[MakeChecks.laidMetH_plain _ _ _ (by kernel_rfl)];exact laidMet_laidAll _ (by kernel_rfl) (by kernel_rfl)
theorem xOwn_:ownKnob Tryz.prog.godebug=none:=by kernel_rfl
end
section
open Go.RowKit
open Vm
def zdb(c:Orc)(l:Lup)(x0:V):Option Out:=
 ckA 18 x0<|
 (b0 .eql (cell x0 0) (.int .i64 1)).bind fun v1=>
 cnd v1 (rtn (.bool true) [])
 ((b0 .eql (cell x0 0) (.int .i64 14)).bind fun v2=>
 cnd v2 (rtn (.bool true) [])
 ((b0 .eql (cell x0 0) (.int .i64 17)).bind fun v3=>
 rtn (norm1 v3) []))
theorem zgL(G:Nat→Vm.V)(c:Orc)(l:Lup)(x0:V):evF Tryz.prog G c l [] 10 [] 14 [.d x0] []=zdb c l x0:=by kernel_rfl
def zbN:List LA:=[⟨false,[(1,.f [] []),(5,.d),(8,.d),(9,.d),(10,.d)],[]⟩]
def zeW:List LA:=[⟨false,[(1,.c (.p 10 0)),(3,.d),(10,.d),(11,.d),(12,.d)],[.bv 10 26 4]⟩]
def zbb:List LA:=[⟨false,[(1,.f [] []),(5,.d),(8,.d),(9,.d),(10,.d)],[]⟩]
def zcQ:List LA:=[⟨false,[(0,.c (.p 0 0)),(6,.d),(7,.d),(8,.d)],[.bv 0 54 2]⟩]
def zcD:List LA:=[⟨false,[(0,.c (.p 0 0)),(1,.c (.p 1 0)),(7,.q 11),(8,.d),(9,.d)],[.bv 0 54 2,.blk 1 35 [.d,.d,.d,.d,.d,.m 2,.m 3,.d,.d,.d,.m 4,.d,.d,.d,.m 5,.d,.m 6,.d],.mq 2 48 9,.mq 3 77 11,.mq 4 92 3,.mq 5 24 1,.mq 6 79 12,.rq 11 9 1]⟩]
def zb6:List LA:=[⟨false,[(1,.f [] []),(5,.d),(8,.d),(9,.d),(10,.d)],[]⟩]
def zbp:List LA:=[⟨false,[(1,.f [] []),(5,.d),(8,.d),(9,.d),(10,.d)],[]⟩]
def zbO:List LA:=[⟨false,[(1,.f [] []),(5,.d),(8,.d),(9,.d),(10,.d)],[]⟩]
def zcg:List LA:=[⟨false,[(0,.c (.p 0 0)),(1,.d),(2,.f [] [.p 1 0,.p 2 0]),(6,.d)],[.bv 0 54 2,.blk 1 52 [.c (.p 0 0)],.blk 2 100 [.c (.p 3 0)],.blk 3 35 [.d,.d,.d,.d,.d,.m 4,.m 5,.d,.d,.d,.m 6,.d,.d,.d,.m 7,.d,.m 8,.d],.mq 4 48 9,.mq 5 77 11,.mq 6 92 3,.mq 7 24 1,.mq 8 79 12]⟩]
def zcf:List LA:=[⟨false,[(0,.c (.p 0 0)),(1,.d),(2,.f [] [.p 1 0,.p 2 0]),(6,.d)],[.bv 0 54 2,.blk 1 30 [.m 3],.blk 2 52 [.c (.p 0 0)],.mq 3 9 1]⟩]
def zce:List LA:=[⟨false,[(0,.c (.p 0 0)),(1,.d),(2,.f [] [.p 1 0,.p 2 0]),(6,.d)],[.bv 0 54 2,.blk 1 24 [.m 3],.blk 2 52 [.c (.p 0 0)],.mq 3 77 11]⟩]
def zbF:List LA:=[⟨false,[(1,.f [] []),(5,.d),(8,.d),(9,.d),(10,.d)],[]⟩]
def zch:List LA:=[⟨false,[(0,.c (.p 0 0)),(2,.c (.p 10 0)),(3,.c (.p 14 0)),(8,.d)],[.bv 0 54 2,.bv 10 48 9,.bv 14 48 9]⟩]
def zds:List LA:=[⟨false,[(0,.c (.p 0 0)),(5,.q 11),(6,.d),(7,.d)],[.bv 0 54 2,.rq 11 9 1]⟩]
def annPa(f:FuncId)(k:List Nat)(d:List (Nat×Nat)×List LA):List (Nat×Nat)×List LA:=if f=18 then([(1000005,10),(1000006,10),(1000010,10),(1000014,10),(1000016,10),(1000005,11),(1000006,11),(1000010,11),(1000014,11),(1000016,11),(2000076,6105),(2000076,6106),(2000076,6110),(2000076,6114),(2000076,6116)],[])else if f=31 then([],zbN)else if f=36 then([],zeW)else if f=37 then([],zbb)else if f=54 then([],zcQ)else if f=61 then([],zcD)else if f=82 then([],zb6)else if f=84 then([],zbp)else if f=94 then([],zbO)else if f=116 then([(1000000,12),(2000019,6200)],[])else if f=117∧k=[54,52,100,35,48,77,92,24,79]then([],zcg)else if f=117∧k=[54,30,52,9]then([],zcf)else if f=117∧k=[54,24,52,77]then([],zce)else if f=118 then([(1000000,10),(2000020,6000)],[])else if f=86 then([],zbF)else if f=168 then([],zch)else if f=204 then([],zds)else d
end
section
open Go.RowKit
open Vm
def zbt(c:Orc)(l:Lup)(x0:V):Option Out:=
 ckA 18 x0<|
 (b0 .eql (cell x0 0) (.int .i64 1)).bind fun v1=>
 cnd v1 (rtn (.bool true) [])
 ((b0 .eql (cell x0 0) (.int .i64 14)).bind fun v2=>
 cnd v2 (rtn (.bool true) [])
 ((b0 .eql (cell x0 0) (.int .i64 17)).bind fun v3=>
 rtn (norm1 v3) []))
theorem zdz(G:Nat→Vm.V)(c:Orc)(l:Lup)(x0:V):evF Tryz.prog G c l [] 10 [] 15 [.d x0] []=zbt c l x0:=by kernel_rfl
end
section
open Go.RowKit
open Vm
def zaY(c:Orc)(l:Lup)(x0:V):Option Out:=
 ckA 18 x0<|
 cl0 c 14 [(norm1 (agN 18 x0))] (fun w=>pnk w []) fun v1=>
 cl0 c 15 [(norm1 (agN 18 x0))] (fun w=>pnk w []) fun v2=>
 (binV .eql true false false v1 v2).bind fun v3=>
 cnd v3 (cl0 c 7 [] (fun w=>pnk w []) fun v4=>
 rtn (norm1 v4) [])
 (rtn (.bool false) [])
theorem zcp(G:Nat→Vm.V)(c:Orc)(l:Lup)(x0:V):evF Tryz.prog G c l [] 10 [] 6 [.d x0] []=zaY c l x0:=by kernel_rfl
end
section
open Go.RowKit
open Vm
def annA(f:FuncId)(k:List Nat):List (Nat×Nat)×List LA:=annPa f k<|annUb f<|annUa f<|annTx f<|annTw f<|annTu f<|annTc f ([],[])
def anyG:Nat→Vm.V:=fun _=>.any
theorem n_Word{G:Nat→Vm.V}{s:List UInt8}(hs:s.length≤1000000):zaL Tryz.prog G 110 [.str s] [] fun o es=>o=.ret (.bool (Lx.isW s))∧es=[]:=by
 refine zcw (by kernel_rfl) rfl fun w A vals hv=>?_;rw[zez hv];have hz:(Lx.bs s).size≤1000000000:=by rw[Lx.zao];omega
 refine Calls.mono (zd0 (Lx.bs s) w (by omega)) fun e w' h=>⟨h.2,_,rfl, ?_⟩;rw[h.1,Lx.zaH];exact⟨_,rfl,.bool _⟩
def natA:List (Nv Tryz.prog anyG):=[
 .fd 8 [19,10,11,12,33] [(2,1),(3,2),(4,3)],
 .fd 165 [10,11,12] [(4,0),(5,1),(6,2)],
 nv1 110 (fun s=>.bool (Lx.isW s)) fun _ hs=>n_Word hs,
 nv1 16 scanV fun _ hs=>n_Scan hs,
 .pure 151 zk4 (zk3 n_Num),
 nv1 111 (fun s=>.str (Lx.fold s)) fun _ hs=>m_fold hs]
def prA:Pro:=.ofL Tryz.prog anyG annA natA
def okA(o:Option Out):Bool:=match o with|some (.ret (.bool true),[])=>true|_=>false
theorem okA_ok{o:Option Out}(h:okA o=true):o=some (.ret (.bool true),[]):=by
 unfold okA at h;split at h<;>first|rfl|cases h
theorem a_awake:prA.ev 7 [] []=some (.ret (.bool true),[]):=prA.ev_phi 60 (okA_ok (by kernel_rfl))
end
section
open Go.RowKit
open Vm Go.ChangeShapes Go.WideShapes Go.ChangeAt Go.WideElems
def zbl(P:Program)(t:TypeId):Bool:=match P.underlying t with|some (.struct _)=>true|_=>false
def layOk(P:Program)(z:Nat):List Field→Nat→Bool
 |[],o=>o==z
 |f::r,o=>f.offset==o && layOk P z r (o+P.cellsOf f.type)
def tyOk(P:Program)(TS:List TypeId)(t:TypeId):Bool:=match P.underlying t with
 |some .bool=>P.cellsOf t==1
 |some (.int _)=>P.cellsOf t==1
 |some .string=>P.cellsOf t==1
 |some (.slice e)=>TS.contains e && decide (0<P.cellsOf e) && P.cellsOf t==1
 |some (.struct fs)=>fs.toList.all (fun f=>TS.contains f.type) && layOk P (P.cellsOf t) fs.toList 0
 |_=>false
def zkJ(P:Program)(TS:List TypeId):Bool:=TS.all (tyOk P TS)
def zcH(P:Program)(K:Nat):Nat→TypeId→List Vm.V→Prop
 |0,_,_=>False
 |n+1,t,us=>match P.underlying t with
  |some .bool=>∃b,us=[.bool b]
  |some (.int k)=>∃i,us=[.int k i]∧k.min≤i∧i≤k.max
  |some .string=>∃s,us=[.str s]∧s.length≤K
  |some (.slice e)=>∃xs,us=[.list xs]∧xs.length≤maxLen∧∀x∈xs,x.isAgg=zbl P e∧x.size=P.cellsOf e∧zcH P K n e x.cells
  |some (.struct fs)=>us.length=P.cellsOf t∧∀(i:Nat)(f:Field),fs[i]?=some f→zcH P K n f.type ((us.drop f.offset).take (P.cellsOf f.type))
  |_=>False
mutual
def vsz:Vm.V→Nat
 |.str s=>s.length+1
 |.list l=>vszs l+1
 |.agg l=>vszs l+1
 |_=>1
termination_by structural x=>x
def vszs:List Vm.V→Nat
 |[]=>0
 |x::r=>vsz x+vszs r
termination_by structural x=>x
end
theorem zhn(a b:List Vm.V):vszs (a++b)=vszs a+vszs b:=by
 induction a with
 |nil=>simp[vszs]
 |cons x r ih=>simp only[List.cons_append,vszs,ih];omega
abbrev noA:Nat→Nat→Prop:=fun _ _=>False
theorem spot_no{w:World}{a:Addr}{v:Value}(h:w.cell? a=some v):∃b o,a=⟨b,o,none⟩:=by
 obtain⟨b,o,sp⟩:=a;cases sp with
 |none=>exact⟨b,o,rfl⟩
 |some s=>
  exfalso;unfold World.cell? at h;split at h
  ·simp at h
  ·cases h
theorem lay_le{P:Program}{z:Nat}:∀(l:List Field)(o:Nat),layOk P z l o=true→o≤z:=by
 intro l;induction l with
 |nil=>intro o h;simp only[layOk,beq_iff_eq]at h;omega
 |cons g l ih=>
  intro o h;simp only[layOk,qa21,beq_iff_eq]at h;have:=ih _ h.2;omega
theorem lay_ge{P:Program}{z:Nat}:∀(l:List Field)(o i:Nat)(f:Field),layOk P z l o=true→l[i]?=some f→o≤f.offset:=by
 intro l;induction l with
 |nil=>intro o i f _ h;simp at h
 |cons g l ih=>
  intro o i f h hi;simp only[layOk,qa21,beq_iff_eq]at h;cases i with
  |zero=>simp at hi;subst hi;omega
  |succ i=>have:=ih _ i f h.2 (by simpa using hi);omega
theorem zg9{P:Program}{z:Nat}{H:Type}{w:World}{Q:Field→List Vm.V→Prop}(cs:List Value)(hz:cs.length=z):∀(fs:List Field)(o:Nat) (xs:List (DataW H×List MemPlace)),layOk P z fs o=true→xs.length=fs.length→o≤z →
  (∀(i:Nat)(f:Field),fs[i]?=some f→∃us x,xs[i]?=some x∧RepL w noA us ((cs.drop f.offset).take (P.cellsOf f.type))∧us.all V.one=true∧vszs us≤Rows.uptoBulk x.1∧Q f us) →
  ∃us,RepL w noA us (cs.drop o)∧us.all V.one=true∧vszs us≤Rows.uptoBulkAll (xs.map (·.1))∧∀(i:Nat)(f:Field),fs[i]?=some f→Q f ((us.drop (f.offset-o)).take (P.cellsOf f.type))
 |[],o,xs,hl,hx,ho,hf=>by
  simp only[layOk,beq_iff_eq]at hl;obtain rfl:xs=[]:=qa1 hx;exact⟨[],by rw[List.drop_of_length_le (by omega)];exact .nil,rfl,by simp[vszs],fun i f h=>by simp at h⟩
 |f::r,o,[],hl,hx,ho,hf=>by simp at hx
 |f::r,o,x::xs,hl,hx,ho,hf=>by
  simp only[layOk,qa21,beq_iff_eq]at hl;obtain⟨rfl,hl⟩:=hl;obtain⟨us,x',hx',h1,h2,h3,h4⟩:=hf 0 f rfl;simp only[qa6,qa17]at hx';subst hx';have hle:f.offset+P.cellsOf f.type≤z:=lay_le _ _ hl;have hlen:us.length=P.cellsOf f.type:=by
   rw[zar h1];simp only[qa23,qa24];omega
  obtain ⟨us',g1,g2,g3,g4⟩:=zg9 cs hz r _ xs hl (by simpa using hx) hle (fun i g hg=>by
   obtain⟨us,y,hy,h⟩:=hf (i+1) g (by simpa using hg);exact⟨us,y,by simpa using hy,h⟩)
  refine⟨us++us', ?_,by simp[h2,g2], ?_,fun i g hg=>?_⟩
  ·have:cs.drop f.offset=(cs.drop f.offset).take (P.cellsOf f.type)++cs.drop (f.offset+P.cellsOf f.type):=by
    rw[←qa31,List.take_append_drop]
   rw[this];exact zbW h1 g1
  ·rw[zhn,qa32,Rows.uptoBulkAll];omega
  ·cases i with
   |zero=>
    simp only[qa6,qa17]at hg;subst hg;rw[Nat.sub_self,List.drop_zero,←hlen,List.take_left']
    ·exact h4
    ·rfl
   |succ i=>
    have hg':r[i]?=some g:=by simpa using hg
    have hge:=lay_ge _ _ i g hl hg';have h5:=g4 i g hg';rw[show g.offset-f.offset=us.length+(g.offset-(f.offset+P.cellsOf f.type))by omega,←qa31,List.drop_left']
    ·exact h5
    ·rfl
theorem zfi{P:Program}{K:Nat}{H:Type}{w:World}{base z n:Nat}{e:TypeId}{a:Addr}{T:List Value→Option (DataW H×List MemPlace)}(hz:z=P.cellsOf e)(h1:zbl P e=false→z=1)
  (ih:∀cs x,T cs=some x→(∀m∈DataW.weights P e x.1,m≤K)→∃us,RepL w noA us cs∧us.all V.one=true∧vszs us+(if zbl P e=true then 1 else 0)≤Rows.uptoBulk x.1∧us.length=P.cellsOf e∧zcH P K n e us):
  ∀(l:List (DataW H×List MemPlace)) (k:Nat),(∀j,j<l.length→(w.cells? base (a.add ((k+j)*z)) z).bind T=l[j]?)→(∀m∈DataW.weightsAll P e (l.map (·.1)),m≤K) →
  ∃(xs:List Vm.V)(vs:List Value),xs.length=l.length∧RepE w noA z xs vs∧(∀j u,vs[j]?=some u→w.cell? (a.add (k*z+j))=some u)∧vszs xs≤Rows.uptoBulkAll (l.map (·.1))∧∀x∈xs,x.isAgg=zbl P e∧x.size=P.cellsOf e∧zcH P K n e x.cells
 |[],k,_,_=>⟨[],[],rfl,.nil _,fun j u h=>by simp at h,by simp[vszs],fun x hx=>by cases hx⟩
 |d::l,k,hj,hw=>by
  simp only[qa32,DataW.weightsAll,qa29]at hw;obtain⟨cs,hc,ht⟩:=Option.bind_eq_some_iff.1 ((hj 0 (by simp)).trans (qa6));rw[Nat.add_zero]at hc;obtain⟨_,hlen,hcell⟩:=World.cells?_some hc;obtain⟨us,g1,g2,g3,g4,g5⟩:=ih cs d ht (fun m hm=>hw m (.inl hm));obtain ⟨xs,vs,k1,k2,k3,k4,k5⟩:=zfi hz h1 ih l (k+1) (fun j hj'=>by
   have:=hj (j+1) (by simpa using hj');rw[show k+1+j=k+(j+1)by omega];simpa using this) (fun m hm=>hw m (.inr hm))
  have hx:∃x:Vm.V,RepC w noA x cs∧vsz x≤Rows.uptoBulk d.1∧x.isAgg=zbl P e∧x.size=P.cellsOf e∧zcH P K n e x.cells:=by
   cases ha:zbl P e with
   |true=>
    rw[ha,if_pos rfl]at g3;exact⟨.agg us,.agg us cs g2 g1,by simp only[vsz];exact g3,rfl,g4,g5⟩
   |false=>
    have hz1:=h1 ha
    match us,cs,g1,g2,g3,g4,g5 with
    |[],_,_,_,_,g4,_=>simp at g4;omega
    |_::_::_,_,_,_,_,g4,_=>simp at g4;omega
    |[u],_,.cons _ _ v vs g6 g7,g2,g3,g4,g5=>
     cases g7;have hone:u.one=true:=by simpa using g2
     refine⟨u,.one _ _ hone g6, ?_,zkb hone, ?_, ?_⟩
     ·simp only[vszs]at g3;omega
     ·rw[V.size,zav hone];exact g4
     ·rw[zav hone];exact g5
  obtain⟨x,x1,x2,x3,x4,x5⟩:=hx;refine⟨x::xs,cs++vs,by simp[k1],.cons _ _ _ _ _ hlen x1 k2,fun j u hu=>?_, ?_,fun y hy=>?_⟩
  ·by_cases hjz:j<z
   ·rw [List.getElem?_append_left (by omega)] at hu;have:=hcell j hjz;rw[Addr.add_add,hu]at this;exact this
   ·rw [List.getElem?_append_right (by omega),hlen] at hu;have:=k3 (j-z) u hu;rw[Nat.succ_mul]at this;rwa[show k*z+z+(j-z)=k*z+j by omega]at this
  ·simp only[vszs,qa32,Rows.uptoBulkAll];omega
  ·rcases qa33.1 hy with rfl|hy
   ·exact⟨x3,x4,x5⟩
   ·exact k5 y hy
theorem zj9{P:Program}{K:Nat}{TS:List TypeId}(hT:zkJ P TS=true){H:Type}{enc:TypeId×Value→H}{w:World}{base:Nat}{sp:Nat→Bool}{held:Bool}:∀(n:Nat)(t:TypeId)(cs:List Value)(x:DataW H×List MemPlace),t∈TS→DataW.trod enc P w base sp held n t cs=some x→(∀m∈DataW.weights P t x.1,m≤K) →
  ∃us,RepL w noA us cs∧us.all V.one=true∧vszs us+(if zbl P t=true then 1 else 0)≤Rows.uptoBulk x.1∧us.length=P.cellsOf t∧zcH P K n t us:=by
 intro n;induction n with
 |zero=>intro t cs x _ h;simp[DataW.trod]at h
 |succ n ih=>
  intro t cs x ht h hwt;have hk:tyOk P TS t=true:=qa22.1 hT t ht;unfold tyOk at hk;split at hk
  ·rename_i hu;obtain⟨b,rfl,rfl⟩:=DataW.trod_bool hu h;refine⟨[.bool b],.cons _ _ _ _ (.bool _) .nil,rfl, ?_,by rw[beq_iff_eq.1 hk];rfl, ?_⟩
   ·simp[zbl,hu,vszs,vsz,Rows.uptoBulk]
   ·simp only[zcH,hu];exact⟨b,rfl⟩
  ·rename_i k hu;obtain⟨i,rfl,rfl,hw⟩:=DataW.trod_int hu h;refine⟨[.int k i],.cons _ _ _ _ (.int _ _) .nil,rfl, ?_,by rw[beq_iff_eq.1 hk];rfl, ?_⟩
   ·simp[zbl,hu,vszs,vsz,Rows.uptoBulk]
   ·simp only[zcH,hu];simp only[Lit.wf,qa21,qa16]at hw;exact⟨i,rfl,hw⟩
  ·rename_i hu;obtain⟨s,rfl,rfl,hw⟩:=DataW.trod_string hu h;refine⟨[.str (Lx.ls s)],.cons _ _ _ _ ?_ .nil,rfl, ?_,by rw[beq_iff_eq.1 hk];rfl, ?_⟩
   ·have:=RepV.str (w:=w) (A:=noA) (Lx.ls s);rwa[Lx.zgn]at this
   ·simp[zbl,hu,vszs,vsz,Rows.uptoBulk,Lx.ls]
   ·simp only[zcH,hu];exact⟨_,rfl,by simpa[Lx.ls,DataW.weights]using hwt⟩
  ·rename_i e hu;simp only[qa21,qa16,List.contains_eq_mem,beq_iff_eq]at hk;obtain⟨⟨he,hz⟩,h1⟩:=hk;rcases DataW.trod_slice hu h with⟨rfl,rfl⟩|⟨a,len,cap,elems,rest,n',hn',rfl,rfl,hb,hl,hm,hlen,hel, -, -⟩
   ·refine ⟨[.list []],.cons _ _ _ _ (.nil _ _) .nil,rfl, ?_,by rw [h1];rfl, ?_⟩
    ·simp[zbl,hu,vszs,vsz,Rows.uptoBulk]
    ·simp only[zcH,hu];exact⟨[],rfl,Nat.zero_le _,fun x hx=>by cases hx⟩
   ·obtain rfl:n'=n:=by omega
    have hz1:zbl P e=false→P.cellsOf e=1:=fun ha=>by
     have he':tyOk P TS e=true:=qa22.1 hT e he;unfold tyOk at he';unfold zbl at ha;split at he'<;>first|(exact beq_iff_eq.1 he')|skip
     ·simp only[qa21,beq_iff_eq]at he';exact he'.2
     ·rename_i hs;rw[hs]at ha;cases ha
     ·cases he'
    obtain⟨xs,vs,k1,k2,k3,k4,k5⟩:=zfi (P:=P) (w:=w) (base:=base) (e:=e) (a:=a) (n:=n') rfl hz1 (fun cs x hx=>ih e cs x he hx) elems 0 (fun j hj=>by rw[Nat.zero_add];exact hel j (by omega)) (fun m hm=>hwt m (by simp only[DataW.weights,hu,qa33,qa29];exact .inr (.inl hm)));have hrep:RepV w noA (.list xs) (.slice (some a) len cap):=by
     cases xs with
     |nil=>
      simp only[qa25]at k1;obtain rfl:len=0:=by omega
      exact .nil _ _
     |cons x xs=>
      have hvl:=zaz k2;have hpos:0<vs.length:=by rw[hvl];exact Nat.mul_pos (by simp) hz
      have h0:=k3 0 vs[0] (qa5 hpos);rw[Nat.zero_mul,Nat.zero_add]at h0;have hza:a.add 0=a:=by unfold Addr.add;rw[if_pos rfl]
      rw[hza]at h0;obtain⟨b,o,rfl⟩:=spot_no h0;have:=RepV.list (w:=w) (A:=noA) (x::xs) _ b o cap vs (by simp) k2 ⟨xcell_lt h0,fun j u hu=>⟨?_,fun hh=>hh⟩⟩ (by omega) hm
      ·rwa[show(x::xs).length=len by omega]at this
      ·have h2:=k3 j u hu;rw[Nat.zero_mul,Nat.zero_add]at h2;have ha:(⟨b,o,none⟩:Addr).add j=⟨b,o+j,none⟩:=by
        unfold Addr.add;by_cases hj0:j=0
        ·rw[if_pos hj0,hj0];rfl
        ·rw[if_neg hj0]
       rwa[ha]at h2
    refine⟨[.list xs],.cons _ _ _ _ hrep .nil,rfl, ?_,by rw[h1];rfl, ?_⟩
    ·simp only[zbl,hu,vszs,vsz,Rows.uptoBulk];simp only[qb0];omega
    ·simp only[zcH,hu];exact⟨xs,rfl,by omega,k5⟩
  ·rename_i fs hu;simp only[qa21]at hk;obtain⟨hfs,hlay⟩:=hk;obtain⟨xs,m,hm,hx,hlen,hxl,hf⟩:=DataW.trod_struct hu h;obtain rfl:m=n:=by omega
   subst hx;obtain ⟨us,g1,g2,g3,g4⟩:=zg9 (H:=H) (w:=w) (Q:=fun f us=>zcH P K m f.type us) cs hlen fs.toList 0 xs hlay (by simpa using hxl) (Nat.zero_le _) (fun i f hf'=>by
    have hf2:fs[i]?=some f:=by simpa using hf'
    have hmem:f.type∈TS:=by
     have:=qa22.1 hfs f (qa8 hf');simpa using this
    have h3:=hf i f hf2;have hlt:i<xs.length:=by rw[hxl];exact(Array.getElem?_eq_some_iff.1 hf2).1
    rw[qa5 hlt]at h3;obtain ⟨us,k1,k2,k3,k4,k5⟩:=ih f.type _ _ hmem h3 (fun k hk=>hwt k (by
     simp only[DataW.weights,hu];exact DataW.weights_mem_each (j:=i) (t:=f.type) (by rw[qa15,hf'];rfl) (by rw[qa15,qa5 hlt];rfl) k hk))
    exact⟨us,xs[i],qa5 hlt,k1,k2,by omega,k5⟩)
   rw[List.drop_zero]at g1;refine⟨us,g1,g2, ?_,by rw[zar g1,hlen], ?_⟩
   ·simp only[zbl,hu,qa39,Rows.uptoBulk];omega
   ·simp only[zcH,hu];refine⟨by rw[zar g1,hlen],fun i f hf'=>?_⟩;have:=g4 i f (by simpa using hf');simpa using this
  ·cases hk
end
section
open Go.RowKit
open Go.ChangeShapes Go.WideShapes Go.ChangeAt Go.ChangeMaps
open Vm
abbrev stmtT:List TypeId:=[35,3,9,4,26,29,30,31,32,33,24,23,27,75,79,77,48,92,71,72,73,46,126,128,2,123,124,172,174]
theorem zht:zkJ Tryz.prog stmtT=true:=by kernel_rfl
def StC(us:List Vm.V):Prop:=us.length=18∧us.all V.one=true∧∃k:Int,us.getD 0 .undef=.int .i64 k
theorem zkL{Z:Type}{us:List Vm.V}(h:StC us)(A:Option Z):ckA 18 (.agg us) A=A:=ckA_agg 18 us h.1 h.2.1
theorem agN_st{us:List Vm.V}(h:StC us):agN 18 (.agg us)=.agg us:=agN_agg 18 us h.1
theorem stc_n0{us:List Vm.V}(h:StC us):StC (us.map norm0):=by
 refine⟨by rw[List.length_map,h.1], ?_, ?_⟩
 ·rw[List.all_map];refine qa22.2 fun v hv=>?_;have:=qa22.1 h.2.1 v hv;cases v<;>first|exact this|rfl
 ·obtain⟨k,hk⟩:=h.2.2;refine⟨k, ?_⟩;cases us with
  |nil=>cases h.1
  |cons c r=>simp only[List.getD_cons_zero]at hk;subst hk;rfl
theorem a_Reads{us:List Vm.V}(h:StC us):∃b,prA.ev 14 [.agg us] []=some (.ret (.bool b),[])∧prA.ev 15 [.agg us] []=some (.ret (.bool b),[]):=by
 obtain⟨k,hk⟩:=h.2.2;refine⟨(k==1) || ((k==14) || (k==17)), ?_, ?_⟩
 ·refine prA.of rfl rfl rfl (zgL _ _ _ _) ?_;delta zdb;simp only[zkL h,ziJ,hk,bin_ii,ar_eql,Option.bind_some,cnd_b,rtn,nm_b];cases k==1<;>cases k==14<;>cases k==17<;>rfl
 ·refine prA.of rfl rfl rfl (zdz _ _ _ _) ?_;delta zbt;simp only[zkL h,ziJ,hk,bin_ii,ar_eql,Option.bind_some,cnd_b,rtn,nm_b];cases k==1<;>cases k==14<;>cases k==17<;>rfl
theorem a_StmtReads{us:List Vm.V}(h:StC us):prA.ev 6 [.agg us] []=some (.ret (.bool true),[]):=by
 obtain⟨b,h1,h2⟩:=a_Reads (stc_n0 h);refine prA.of rfl rfl rfl (zcp _ _ _ _) ?_;delta zaY;simp only[zkL h,agN_st h,nm_a,zkK h1,zkK h2,bin_bb,Option.bind_some,beq_self_eq_true,cnd_b,qa39,zkK a_awake,rtn,nm_b]
theorem st_int{n K:Nat}{us:List Vm.V}(h:zcH Tryz.prog K n 3 us):∃i:Int,us=[.int .i64 i]:=by
 cases n with
 |zero=>exact h.elim
 |succ n=>
  simp only[zcH,Tryz.underlying3]at h;obtain⟨i,h,_⟩:=h;exact⟨i,h⟩
theorem zst_int:Tryz.prog.cellsOf 3=1:=by kernel_rfl
theorem zst_stmt:Tryz.prog.cellsOf 35=18:=by kernel_rfl
theorem stc_of{K n:Nat}{us:List Vm.V}(h2:us.all V.one=true)(h:zcH Tryz.prog K n 35 us):StC us:=by
 cases n with
 |zero=>exact h.elim
 |succ n=>
  simp only[zcH,Tryz.underlying35]at h;obtain⟨hlen,hf⟩:=h;rw[zst_stmt]at hlen;refine⟨hlen,h2, ?_⟩;cases us with
  |nil=>cases hlen
  |cons c r=>
   have g0:=hf 0 _ rfl;simp[zst_int]at g0;obtain⟨i,e⟩:=st_int g0;cases e;exact⟨i,rfl⟩
theorem zj8{K:Nat}{H:Type}{enc:TypeId×Value→H}{W:World}{base b:Nat}{v:Value}{d:DataW H}{p:List MemPlace}(hv:Value.okWide Tryz.prog W .any base 35 v)(h:DataW.Trod enc Tryz.prog W b (fun _=>true) true 35 v d p)(hw:∀m∈DataW.weights Tryz.prog 35 d,m≤K):
  ∃us:List Vm.V,StC us∧RepV W noA (.agg us) v:=by
 obtain⟨cs,rfl,hsz⟩:=okWide_struct Tryz.underlying35 hv;obtain⟨n,hn⟩:=h;obtain⟨us,h1,h2,h3,h4,h5⟩:=zj9 zht n 35 _ _ (List.mem_cons_self ..) hn hw;refine⟨us,stc_of h2 h5, ?_⟩;have:=RepV.agg (w:=W) (A:=noA) _ _ h1;simpa[Value.cells]using this
abbrev stmtZ:Value:=.agg #[.int .i64 0,.string ⟨#[]⟩,.bool false,.int .i64 0,.string ⟨#[]⟩,.slice none 0 0,.slice none 0 0,.int .i64 0,.string ⟨#[]⟩,.string ⟨#[]⟩,.slice none 0 0,.bool false,.int .i64 0,.slice none 0 0,.slice none 0 0,.slice none 0 0,.slice none 0 0,.slice none 0 0]
theorem zfO{us:List Vm.V}(hu:StC us)(v:Value)(w:World)(hv:Vm.RepV w noA (.agg us) v):Calls Tryz.prog 6 #[v] w fun e w'=>e=.returned (.bool true)∧Below w.heap.size w w':=by
 have hs:=prA.ev_ok 6 [.agg us] [] (.ret (.bool true)) [] (fun a ha=>by rw[List.mem_singleton.1 ha];exact Vm.zdC hv) (fun e he=>by cases he) (a_StmtReads hu);refine Calls.mono (zhg (G:=anyG) (hs.mono fun o es h=>h) (.cons _ _ _ _ hv .nil) fun g=>.inl rfl) fun e w' ⟨hb,A',v,he,hv⟩=>?_;cases hv;exact⟨he,hb⟩
set_option maxRecDepth 100000 in
theorem zdV(os:Os)(started:os.Started)(H:Type)(enc:TypeId×Value→H):
  ReturnsInHanded {} Tryz.checked os 6 .any (fun w args=>(Rows.stmtReadsSpec.pre enc Tryz.prog Tryz.f6 [] false w args∧laidMetH Tryz.prog zi8 w)∧sizedMet enc Tryz.prog Tryz.f6 (OpenSpec.ofChange Rows.stmtReadsSpec) false w args)
   (Rows.stmtReadsSpec.post enc Tryz.prog Tryz.f6 false true false false):=by
 refine zdK (C:=Tryz.checked) (X:=fun w _=>laidMetH Tryz.prog zi8 w) (fun _ _ _ hh h=>h.of_heap hh) xOwn_ started (by kernel_rfl) Tryz.func6
  (ChangeSpec.witness_shaped (enc:=enc) (C:=Tryz.checked) (os:=os) (X:=fun w _=>laidMetH Tryz.prog zi8 w) false (World.laidAll Tryz.prog os zi8) #[stmtZ] 8 (World.laidAll_os _ _ _) (World.shaped_of_ZipB (by kernel_rfl) (by kernel_rfl)) (by kernel_rfl) (by kernel_rfl) (by kernel_rfl) (zjl os _)) ?_
 intro W base args ds gs before hval0 hW _ hsz0 _ hsh _;have hval:∀(j:Nat) t v,Tryz.f6.params[j]?=some t→args[j]?=some v→Value.okWide Tryz.prog W .any base t v:=hval0;have hsz:(DataW.weightsEach Tryz.prog (Tryz.f6.params.toList++Rows.stmtReadsSpec.plain.varTypes Tryz.prog) (ds++gs)).all (·≤reachBytes)=true:=hsz0;have hW':=hW;obtain⟨p,q,hA0,hV,rfl,hfz,hnd⟩:=hW;have hA:DataW.TrodAll enc Tryz.prog W 0 (fun _=>true) true Tryz.f6.params.toList args.toList ds p:=hA0;rw[Tryz.params6]at hA hval hsz;obtain⟨v0,vs0,d0,ds0,p0,q0,hargs,rfl,rfl,h0,r0⟩:=trodAll_cons hA;obtain⟨rfl,rfl,rfl⟩:=trodAll_nil r0;obtain rfl:args=#[v0]:=by cases args;simp_all
 obtain⟨rfl,rfl⟩:=trodVars_none hV;obtain⟨us,hu,hv⟩:=zj8 (K:=reachBytes) (hval 0 35 v0 rfl rfl) h0 (fun m hm=>of_decide_eq_true (qa22.1 hsz m (DataW.weights_mem_each (j:=0) (t:=35) rfl rfl m hm)));clear hA0 hval0;simp only[List.append_nil]at hW';have hlt:=hW'.lt;refine(zfO hu v0 W hv).mono fun e W' ⟨he,hg⟩=>?_;subst he;exact ⟨_,rfl,zi2 (pa:=p0) (pv:=[]) hW' (fun _ _ _=>(trodAll_cons_mk (shut_bool Tryz.underlying4 _) trodAll_mk0))
  (fun sp hsp=>by
   have h:=trodAll_cons_mk (Go.WideElems.Trod_stays (by kernel_rfl) (by kernel_rfl) (of_decide_eq_true (by kernel_rfl)) h0 (fun p hp=>hg.same (hlt p hp)) (fun p hp=>hsp p hp)) trodAll_mk0;simp only[List.append_nil]at h;exact h)
  (fun _ _=>rfl) (by simp) hg (ok_one (by kernel_rfl) rfl (okWide_bool_mk Tryz.underlying4 _))⟩
theorem zfN:Rows.StmtReadsSaid:=
 OpenClaim.holds_of_wide 6 Tryz.f6 rfl rfl rfl rfl rfl rfl rfl ⟨rfl,rfl,rfl,rfl,rfl⟩ rfl rfl rfl rfl rfl (by kernel_rfl) Tryz.func6 (by kernel_rfl)
  (of_decide_eq_true (by kernel_rfl)) (by unfold Func.isWrapper;first|(rw[if_pos (by decide +kernel)];kernel_rfl)|(rw[if_neg (by decide +kernel)];exact⟨rfl,rfl⟩))
  (fun os started H enc _=>zdV os started H enc)
theorem stmtReads_card:Rows.StmtReadsCardSaid:=
 Claim7.holds_tied_plain_at .later [] [.data,.pinned] true _ true
  zfN (fun _ h=>by cases h) (by kernel_rfl) (fun _ h=>by cases h) stmtReads_row_tie rfl ⟨rfl,rfl⟩ (by kernel_rfl) rfl
  (fun f fn hf hfn=>by
   obtain rfl:f=6:=Option.some.inj ((show Tryz.prog.funcNamed "tome/tomelaw27.StmtReads" = some 6 by kernel_rfl).symm.trans hf) |>.symm
   obtain rfl:fn=Tryz.f6:=(Option.some.inj (Tryz.func6.symm.trans hfn)).symm;exact ⟨by kernel_rfl,fun j t ht=>by
    rw[Tryz.params6]at ht;have hm:t∈[35]:=by simpa using Array.mem_of_getElem? ht
    have hall:([35].all fun u=>!Tryz.prog.wantsStandIn u)=true:=by kernel_rfl
    exact(show Tryz.prog.wantsStandIn t=false by simpa using qa22.1 hall t hm)⟩)
  (by kernel_rfl)
end
end Go.Proofs.YtplflngjpajcmaaGreatDoor
end
