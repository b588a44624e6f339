/- Part of the proof: see the last text. -/
import Derived.Test.YtlooegbcfkoloaaGreatDoorP0
set_option maxRecDepth 20000
set_option linter.unusedVariables false
set_option linter.unusedSimpArgs false
namespace Vm
open Go Go.RowKit
inductive V where
 | bool (b:Bool)
 | int (k:IntKind) (n:Int)
 | str (s:List UInt8)
 | list (xs:List V)
 | ip (x:V) (off:Nat)
 | ptr (id off:Nat)
 | row (id n:Nat)
 | nilp
 | fn (f:FuncId) (first cap:List V)
 | nils
 | niface
 | iface (t:TypeId) (v:V)
 | agg (cs:List V)
 | tup (vs:List V)
 | undef
 | any
 | ta (cs:List V)
inductive Ent where
 | gone
 | blk (T:TypeId) (cs:List V)
 | row (T:TypeId) (z:Nat) (xs:List V)
def V.isAgg:V→Bool | .agg _=>true | _=>false
def V.isRow:V→Bool | .row _ _=>true | _=>false
def V.isTa:V→Bool | .ta _=>true | _=>false
def V.cells:V→List V | .agg cs=>cs | .ta cs=>cs | v=>[v]
def V.size (v:V):Nat:=v.cells.length
def V.one:V→Bool | .agg _ | .tup _ | .undef | .any | .ta _=>false | _=>true
def V.storable:V→Bool | .agg cs=>cs.all V.one | .ta cs=>cs.all V.one | v=>v.one
def At (w:World) (A:Nat→Nat→Prop) (b off:Nat) (vs:List Value):Prop :=
 b < w.heap.size∧∀ j u,vs[j]?=some u→w.cell? ⟨b,off+j,none⟩=some u∧¬ A b (off+j)
mutual
inductive RepV (w:World) (A:Nat→Nat→Prop):V→Value→Prop
 | bool (b:Bool):RepV w A (.bool b) (.bool b)
 | int (k:IntKind) (n:Int):RepV w A (.int k n) (.int k n)
 | str (s:List UInt8):RepV w A (.str s) (.string (Lx.bs s))
 | nil (a:Option Addr) (c:Nat):RepV w A (.list []) (.slice a 0 c)
 | list (xs:List V) (z b off c:Nat) (vs:List Value):xs≠[]→RepE w A z xs vs→At w A b off vs→xs.length≤c→c≤maxLen→RepV w A (.list xs) (.slice (some ⟨b,off,none⟩) xs.length c)
 | ip (x:V) (off b o:Nat) (vs:List Value):RepC w A x vs→At w A b o vs→RepV w A (.ip x off) (.pointer (some ⟨b,o+off,none⟩))
 | nilp:RepV w A .nilp (.pointer none)
 | nils:RepV w A .nils (.slice none 0 0)
 | niface:RepV w A .niface .nilIface
 | iface (t:TypeId) (v:V) (x:Value):RepV w A v x→RepV w A (.iface t v) (.iface t x)
 | agg (cs:List V) (vs:List Value):RepL w A cs vs→RepV w A (.agg cs) (.agg vs.toArray)
 | tup (cs:List V) (vs:List Value):RepL w A cs vs→RepV w A (.tup cs) (.tuple vs.toArray)
 | undef:RepV w A .undef Go.undef
inductive RepL (w:World) (A:Nat→Nat→Prop):List V→List Value→Prop
 | nil:RepL w A [] []
 | cons (c:V) (cs:List V) (v:Value) (vs:List Value):RepV w A c v→RepL w A cs vs→RepL w A (c :: cs) (v :: vs)
inductive RepC (w:World) (A:Nat→Nat→Prop):V→List Value→Prop
 | agg (cs:List V) (vs:List Value):cs.all V.one=true→RepL w A cs vs→RepC w A (.agg cs) vs
 | one (x:V) (v:Value):x.one=true→RepV w A x v→RepC w A x [v]
inductive RepE (w:World) (A:Nat→Nat→Prop):Nat→List V→List Value→Prop
 | nil (z:Nat):RepE w A z [] []
 | cons (z:Nat) (x:V) (xs:List V) (us ws:List Value):us.length=z→RepC w A x us→RepE w A z xs ws→RepE w A z (x :: xs) (us++ws)
end
structure Keeps (w:World) (A:Nat→Nat→Prop) (w':World) (A':Nat→Nat→Prop):Prop where
 size:w.heap.size≤w'.heap.size
 cell:∀ b o,b < w.heap.size→¬ A b o→w'.cell? ⟨b,o,none⟩=w.cell? ⟨b,o,none⟩
 shun:∀ b o,b < w.heap.size→¬ A b o→¬ A' b o
theorem Keeps.refl (w:World) (A:Nat→Nat→Prop):Keeps w A w A:=⟨Nat.le_refl _,fun _ _ _ _=>rfl,fun _ _ _ h=>h⟩
theorem Keeps.trans {w w' w'':World} {A A' A'':Nat→Nat→Prop} (h:Keeps w A w' A') (h':Keeps w' A' w'' A''):Keeps w A w'' A'' :=
 ⟨Nat.le_trans h.size h'.size,fun b o hb hA=>(h'.cell b o (Nat.lt_of_lt_of_le hb h.size) (h.shun b o hb hA)).trans (h.cell b o hb hA),fun b o hb hA=>h'.shun b o (Nat.lt_of_lt_of_le hb h.size) (h.shun b o hb hA)⟩
theorem At.keep {w w':World} {A A':Nat→Nat→Prop} (k:Keeps w A w' A') {b off:Nat} {vs:List Value} (h:At w A b off vs):At w' A' b off vs :=
 ⟨Nat.lt_of_lt_of_le h.1 k.size,fun j u hu=>⟨(k.cell _ _ h.1 (h.2 j u hu).2).trans (h.2 j u hu).1,k.shun _ _ h.1 (h.2 j u hu).2⟩⟩
mutual
theorem RepV.keep {w w':World} {A A':Nat→Nat→Prop} (k:Keeps w A w' A'):∀ {x:V} {v:Value},RepV w A x v→RepV w' A' x v
 | _,_,.bool b=>.bool b
 | _,_,.int a b=>.int a b
 | _,_,.str s=>.str s
 | _,_,.nil a c=>.nil a c
 | _,_,.list xs z b off c vs h1 h2 h3 h4 h5=>.list xs z b off c vs h1 (RepE.keep k h2) (h3.keep k) h4 h5
 | _,_,.ip x off b o vs h1 h2=>.ip x off b o vs (RepC.keep k h1) (h2.keep k)
 | _,_,.nilp=>.nilp
 | _,_,.nils=>.nils
 | _,_,.niface=>.niface
 | _,_,.iface t v x h=>.iface t v x (RepV.keep k h)
 | _,_,.agg cs vs h=>.agg cs vs (RepL.keep k h)
 | _,_,.tup cs vs h=>.tup cs vs (RepL.keep k h)
 | _,_,.undef=>.undef
theorem RepL.keep {w w':World} {A A':Nat→Nat→Prop} (k:Keeps w A w' A'):∀ {x:List V} {v:List Value},RepL w A x v→RepL w' A' x v
 | _,_,.nil=>.nil
 | _,_,.cons c cs v vs h1 h2=>.cons c cs v vs (RepV.keep k h1) (RepL.keep k h2)
theorem RepC.keep {w w':World} {A A':Nat→Nat→Prop} (k:Keeps w A w' A'):∀ {x:V} {v:List Value},RepC w A x v→RepC w' A' x v
 | _,_,.agg cs vs h0 h=>.agg cs vs h0 (RepL.keep k h)
 | _,_,.one x v h1 h2=>.one x v h1 (RepV.keep k h2)
theorem RepE.keep {w w':World} {A A':Nat→Nat→Prop} (k:Keeps w A w' A'):∀ {z:Nat} {x:List V} {v:List Value},RepE w A z x v→RepE w' A' z x v
 | _,_,_,.nil z=>.nil z
 | _,_,_,.cons z x xs us ws h0 h1 h2=>.cons z x xs us ws h0 (RepC.keep k h1) (RepE.keep k h2)
end
theorem zcu {w:World} {A:Nat→Nat→Prop}:∀ {x:List V} {v:List Value},RepL w A x v→x.length=v.length
 | _,_,.nil=>rfl
 | _,_,.cons _ _ _ _ _ h=>by simp [zcu h]
theorem zjR {w:World} {A:Nat→Nat→Prop}:∀ {x:List V} {v:List Value},RepL w A x v→∀ (i:Nat) (c:V),x[i]?=some c→∃ u,v[i]?=some u∧RepV w A c u
 | _,_,.nil,_,_,h=>by simp at h
 | _,_,.cons _ _ _ _ h1 _,0,_,h=>by simp at h;subst h;exact ⟨_,rfl,h1⟩
 | _,_,.cons _ _ _ _ _ h2,i+1,_,h=>by simpa using zjR h2 i _ (by simpa using h)
theorem zim {w:World} {A:Nat→Nat→Prop}:∀ {x:List V} {v:List Value} (n:Nat),RepL w A x v→RepL w A (x.take n) (v.take n)
 | _,_,0,_=>by simpa using RepL.nil
 | _,_,n+1,.nil=>by simpa using RepL.nil
 | _,_,n+1,.cons _ _ _ _ h1 h2=>by simpa using RepL.cons _ _ _ _ h1 (zim n h2)
theorem zin {w:World} {A:Nat→Nat→Prop}:∀ {x:List V} {v:List Value} (n:Nat),RepL w A x v→RepL w A (x.drop n) (v.drop n)
 | _,_,0,h=>by simpa using h
 | _,_,n+1,.nil=>by simpa using RepL.nil
 | _,_,n+1,.cons _ _ _ _ _ h2=>by simpa using zin n h2
theorem zhS {w:World} {A:Nat→Nat→Prop}:∀ {x y:List V} {v u:List Value},RepL w A x v→RepL w A y u→RepL w A (x++y) (v++u)
 | _,_,_,_,.nil,h=>by simpa using h
 | _,_,_,_,.cons _ _ _ _ h1 h2,h=>by simpa using RepL.cons _ _ _ _ h1 (zhS h2 h)
theorem one_agg {x:V} (h:x.one=true):x.isAgg=false:=by cases x<;>first | rfl | simp [V.one] at h
theorem zcb {x:V} (h:x.one=true):x.cells=[x]:=by cases x<;>first | rfl | simp [V.one] at h
theorem zi5 {w:World} {A:Nat→Nat→Prop} {x:V} {vs:List Value} (h:RepC w A x vs):RepL w A x.cells vs:=by
 cases h with
 | agg cs _ _ h=>exact h
 | one _ v h1 h2 =>
  rw [zcb h1]
  exact .cons _ _ _ _ h2 .nil
theorem zfP {w:World} {A:Nat→Nat→Prop} {x:V} {v:Value} (h:RepV w A x v) (ha:x.one=true):v.oneCell'=true:=by
 cases h<;>first | rfl | (simp [V.one] at ha;done)
theorem repC_of {w:World} {A:Nat→Nat→Prop} {x:V} {v:Value} (h:RepV w A x v) (hs:x.storable=true):RepC w A x v.cells.toList:=by
 cases x with
 | agg cs =>
  cases h with
  | agg cs vs h=>simpa [Value.cells] using RepC.agg cs vs hs h
 | ta cs=>cases h
 | _ =>
  have h2:=zfP h (by simpa [V.storable] using hs)
  have h3:v.cells=#[v]:=by cases v<;>first | rfl | simp [Value.oneCell'] at h2
  rw [h3]
  exact .one _ _ (by simpa [V.storable] using hs) h
theorem zn5 {w:World} {A:Nat→Nat→Prop}:∀ {x:List V} {v:List Value},RepL w A x v→x.all V.one=true→∀ u∈v,u.oneCell'=true
 | _,_,.nil,_,_,hu=>by simp at hu
 | _,_,.cons c cs v vs h1 h2,ho,u,hu=>by
  simp only [List.all_cons,Bool.and_eq_true] at ho
  rcases List.mem_cons.1 hu with rfl | hu
  ·exact zfP h1 ho.1
  ·exact zn5 h2 ho.2 _ hu
theorem zs8 {w:World} {A:Nat→Nat→Prop} {x:V} {v:List Value} (h:RepC w A x v):∀ u∈v,u.oneCell'=true:=by
 cases h with
 | agg cs _ h1 h2=>exact zn5 h2 h1
 | one _ v h1 h2 =>
  intro u hu
  simp only [List.mem_singleton] at hu
  subst hu
  exact zfP h2 h1
theorem zky {w:World} {A:Nat→Nat→Prop}:∀ {z:Nat} {x:List V} {v:List Value},RepE w A z x v→∀ u∈v,u.oneCell'=true
 | _,_,_,.nil z,_,hu=>by simp at hu
 | _,_,_,.cons z x xs us ws h0 h1 h2,u,hu=>by
  rcases List.mem_append.1 hu with hu | hu
  ·exact zs8 h1 u hu
  ·exact zky h2 u hu
theorem zdH {w:World} {A:Nat→Nat→Prop}:∀ {z:Nat} {x:List V} {v:List Value},RepE w A z x v→v.length=x.length * z
 | _,_,_,.nil z=>by simp
 | _,_,_,.cons z x xs us ws h0 _ h=>by simp [zdH h,h0,Nat.succ_mul,Nat.add_comm]
theorem zqi {w:World} {A:Nat→Nat→Prop}:∀ {z:Nat} {x:List V} {v:List Value},RepE w A z x v→∀ (i:Nat) (c:V),x[i]?=some c→∃ us,RepC w A c us∧us.length=z∧∀ j u,us[j]?=some u→v[i * z+j]?=some u
 | _,_,_,.nil z,_,_,h=>by simp at h
 | _,_,_,.cons z x xs us ws h0 h1 h2,0,_,h=>by
  simp at h
  subst h
  refine ⟨us,h1,h0,fun j u hu=>?_⟩
  have hj:j < us.length:=(List.getElem?_eq_some_iff.1 hu).1
  rw [Nat.zero_mul,Nat.zero_add,List.getElem?_append_left hj]
  exact hu
 | _,_,_,.cons z x xs us ws h0 h1 h2,i+1,_,h=>by
  obtain ⟨us',h3,h4,h5⟩:=zqi h2 i _ (by simpa using h)
  refine ⟨us',h3,h4,fun j u hu=>?_⟩
  rw [List.getElem?_append_right (by rw [h0,Nat.succ_mul];omega),h0,Nat.succ_mul,show i * z+z+j - z=i * z+j by omega]
  exact h5 j u hu
theorem zhT {w:World} {A:Nat→Nat→Prop}:∀ {z:Nat} {x y:List V} {v u:List Value},RepE w A z x v→RepE w A z y u→RepE w A z (x++y) (v++u)
 | _,_,_,_,_,.nil z,h=>by simpa using h
 | _,_,_,_,_,.cons z x xs us ws h0 h1 h2,h=>by simpa using RepE.cons z x _ us _ h0 h1 (zhT h2 h)
theorem zn7 {w:World} {A:Nat→Nat→Prop}:∀ {z:Nat} {x:List V} {v:List Value} (n:Nat),RepE w A z x v→RepE w A z (x.take n) (v.take (n * z))
 | _,_,_,0,h=>by simpa using RepE.nil _
 | _,_,_,n+1,.nil z=>by simpa using RepE.nil _
 | _,_,_,n+1,.cons z x xs us ws h0 h1 h2=>by
  have h:=RepE.cons z x _ us _ h0 h1 (zn7 n h2)
  rw [List.take_succ_cons,List.take_append,h0,Nat.succ_mul,List.take_of_length_le (l:=us) (by omega),show n * z+z - z=n * z by omega]
  exact h
theorem zn8 {w:World} {A:Nat→Nat→Prop}:∀ {z:Nat} {x:List V} {v:List Value} (n:Nat),RepE w A z x v→RepE w A z (x.drop n) (v.drop (n * z))
 | _,_,_,0,h=>by simpa using h
 | _,_,_,n+1,.nil z=>by simpa using RepE.nil _
 | _,_,_,n+1,.cons z x xs us ws h0 h1 h2=>by
  have h:=zn8 n h2
  rw [List.drop_succ_cons,List.drop_append,h0,Nat.succ_mul,List.drop_of_length_le (l:=us) (by omega),show n * z+z - z=n * z by omega,List.nil_append]
  exact h
theorem zu4 {w:World} {A:Nat→Nat→Prop} {b off:Nat} {vs:List Value} (h:At w A b off vs) (n:Nat):At w A b (off+n) (vs.drop n) :=
 ⟨h.1,fun j u hu=>by
  have:=h.2 (n+j) u (by simpa using hu)
  rwa [← Nat.add_assoc] at this⟩
theorem zu3 {w:World} {A:Nat→Nat→Prop} {b off:Nat} {vs:List Value} (h:At w A b off vs) (n:Nat):At w A b off (vs.take n) :=
 ⟨h.1,fun j u hu=>h.2 j u (by
  rw [List.getElem?_take] at hu
  split at hu
  ·exact hu
  ·cases hu)⟩
end Vm
