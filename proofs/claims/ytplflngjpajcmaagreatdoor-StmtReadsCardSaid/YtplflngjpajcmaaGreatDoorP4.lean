/- Part of the proof: see the last text. -/
import Derived.Test.YtplflngjpajcmaaGreatDoorP3
set_option maxRecDepth 20000
set_option linter.unusedVariables false
set_option linter.unusedSimpArgs false
noncomputable section
namespace Vm
open Go Go.RowKit
theorem Keeps.below{w w':World}(A:Nat→Nat→Prop)(h:Below w.heap.size w w'):Keeps w A w' A:=
 ⟨h.size,fun b o hb _=>by
  have:=h.block b hb;simp only[World.cell?];rw[this],fun _ _ _ h=>h⟩
theorem Mem.below{w w':World}{H:Nat→Value}{A:Nat→Nat→Prop}{G:Nat→V}(m:Mem ⟨w,A,0,H,entF [],G,0,[]⟩ (entF []) w H A)(h:Below w.heap.size w w'):Mem ⟨w,A,0,H,entF [],G,0,[]⟩ (entF []) w' H A:=by
 have hg:∀id,entF [] id=Ent.gone:=fun id=>rfl;refine⟨fun g=>(m.glo g).imp id fun h1=>h1.keep (Keeps.below A h),Keeps.below A h,fun id=>by rw[hg];trivial,fun i j _ hi=>absurd (hg i) hi,m.a00,m.a0,fun b o hb=>qa14 (m.al b o hb) h.size,m.out,fun id b _ hi=>absurd (hg id) hi,fun id b _ hi=>absurd (hg id) hi,⟨h.os,h.tape,h.output,h.size,fun b hb _=>h.block b hb⟩⟩
theorem zdE{w:World}{A:Nat→Nat→Prop}{st:Nat→Ent}{H:Nat→Value}:∀{xs:List V} {vs:List Value},zam w A st H xs vs→xs.all V.data=true→RepL w A xs vs
 |[],[],_,_=>.nil
 |[],_::_,h,_=>by cases h
 |x::xs,vs,⟨u,us,h1,h2,h3⟩,hd=>by
  simp only[qa34,qa21]at hd;subst h1;exact .cons _ _ _ _ (h2.data hd.1) (zdE h3 hd.2)
theorem zcw{P:Program}{G:Nat→V}{f:FuncId}{args:List V}{R:POut→Prop}(hen:zcT P f=true)(hd:args.all V.data=true)
  (h:∀(w:World)(A:Nat→Nat→Prop)(vals:Array Value),RepL w A args vals.toList→Calls P f vals w fun e w'=>Below w.heap.size w w'∧∃o,R o∧OutRep w' A o e):zaL P G f args [] fun o es=>R o∧es=[]:=by
 refine⟨hen,fun w H A vals m hv=>Calls.mono (h w A vals (zdE hv hd)) fun e w' ⟨hb,o,hR,ho⟩=>?_⟩;exact⟨o,[],H,A,⟨hR,rfl⟩,rfl,fun e he=>by simp at he,m.below hb,ho⟩
theorem zez{w:World}{A:Nat→Nat→Prop}{s:List UInt8}{vals:Array Value}(h:RepL w A [.str s] vals.toList):vals=#[.string (Lx.bs s)]:=by
 obtain⟨l⟩:=vals;cases h with
 |cons _ _ v vs h1 h2=>
  cases h1;cases h2;rfl
end Vm
end
