/- Part of the proof: see the last text. -/
import Derived.Test.YtakegkongmnekaaDoorP21
import Derived.Test.YtakegkongmnekaaDoorP23
import Derived.Test.YtakegkongmnekaaDoorP24
set_option maxRecDepth 20000
set_option linter.unusedVariables false
set_option linter.unusedSimpArgs false
set_option linter.unusedSectionVars false
namespace Go.Proofs.YtakegkongmnekaaDoor
open Go.RowKit
open Vm
variable [Gl]
theorem zbl (k : Int) (o : Ex.S) (v : Ex.V) (t n : Ex.S) (s : Int) (g d : Bool) (a : List Ex.E) : Ex.deep (.mk k o v t n s g d a) = Ex.zkG a + 1 := by rw [Ex.deep]
theorem zby : ∀ {l : List Ex.E} {x : Ex.E},x ∈ l → Ex.deep x ≤ Ex.zkG l
 | a :: l,x,h => by
  rw [Ex.zkG]
  rcases List.mem_cons.1 h with rfl | h
  ·omega
  ·have := zby h;omega
theorem zc8 (l : List Ex.E) (i : Nat) (k : IntKind) : elV 11 (.list (l.map encE)) (.int k (i : Int)) = (l[i]?).map encE := el_map 11 encE l k i fun e => ziq e
theorem zc7 (e : Ex.E) : ldV true 11 (encE e) 0 = some (encE e) := by
 have h := ziq e
 cases e
 rw [enc_mk] at h ⊢
 unfold ldV
 rw [if_pos ⟨rfl,rfl,h⟩]
end Go.Proofs.YtakegkongmnekaaDoor
namespace Go.Proofs.YtakegkongmnekaaDoor
open Go.RowKit
open Vm
inductive Qt : Ex.E → Prop
 | mk {e : Ex.E} : Ex.N64 e → e.val.2.2.length ≤ 1000000 → (∀ x ∈ e.args,Qt x) → Qt e
theorem Qt.n {e : Ex.E} (h : Qt e) : Ex.N64 e := by cases h;assumption
theorem Qt.v {e : Ex.E} (h : Qt e) : e.val.2.2.length ≤ 1000000 := by cases h;assumption
theorem Qt.a {e : Ex.E} (h : Qt e) : ∀ x ∈ e.args,Qt x := by cases h;assumption
end Go.Proofs.YtakegkongmnekaaDoor
namespace Go.Proofs.YtakegkongmnekaaDoor
open Go.RowKit
open Vm
variable [Gl]
theorem mk_10 (k : Int) (o : Ex.S) (v : Ex.V) (t n : Ex.S) (s : Int) (g d : Bool) (a : List Ex.E) : cell (encE (.mk k o v t n s g d a)) 10 = .list (a.map encE) := by rw [enc_mk];rfl
theorem mk_1 (k : Int) (o : Ex.S) (v : Ex.V) (t n : Ex.S) (s : Int) (g d : Bool) (a : List Ex.E) : cell (encE (.mk k o v t n s g d a)) 1 = .str o := by rw [enc_mk];rfl
theorem mk_4 (k : Int) (o : Ex.S) (v : Ex.V) (t n : Ex.S) (s : Int) (g d : Bool) (a : List Ex.E) : cell (encE (.mk k o v t n s g d a)) 4 = .str v.2.2 := by rw [enc_mk];rfl
theorem mk_5 (k : Int) (o : Ex.S) (v : Ex.V) (t n : Ex.S) (s : Int) (g d : Bool) (a : List Ex.E) : cell (encE (.mk k o v t n s g d a)) 5 = .str t := by rw [enc_mk];rfl
theorem mk_6 (k : Int) (o : Ex.S) (v : Ex.V) (t n : Ex.S) (s : Int) (g d : Bool) (a : List Ex.E) : cell (encE (.mk k o v t n s g d a)) 6 = .str n := by rw [enc_mk];rfl
end Go.Proofs.YtakegkongmnekaaDoor
namespace Go.Proofs.YtakegkongmnekaaDoor
open Go.RowKit
open Vm
variable [Gl]
theorem zir (k : Int) (o : Ex.S) (v : Ex.V) (t n : Ex.S) (s : Int) (g d : Bool) (a : List Ex.E) : cell (encE (.mk k o v t n s g d a)) 10 = .list (a.map encE) := by rw [enc_mk];rfl
theorem ze4 (e f : Ex.E) (a b : List Ex.E) (he : cell (encE e) 10 = .list (a.map encE)) (hf : cell (encE f) 10 = .list (b.map encE)) (hab : a.length = b.length) (ha : a.length ≤ 900000) (h : ∀ x ∈ a,∀ y ∈ b,pr.ev 9 [encE x,encE y] [] = some (.ret (.bool (Ex.same x y)),[])) : ∀ (n i : Nat),i + n = a.length →
  lup Out (zaB pr.ev lup) [.int .i64 (i : Nat),encE e,encE f] = some (.ret (.bool (Ex.sames (a.drop i) (b.drop i))),[])
 | 0,i,hi => by
  have h1 : ¬ i < a.length := by omega
  have h2 : a.drop i = [] := List.drop_of_length_le (by omega)
  rw [zb6]
  simp [-Int.natCast_add,zaB,he,h1,h2,Ex.sames,rtn]
 | n + 1,i,hi => by
  have h1 : i < a.length := by omega
  have h1' : i < b.length := by omega
  have h2 : a.drop i = a[i] :: a.drop (i + 1) := List.drop_eq_getElem_cons h1
  have h3 : b.drop i = b[i] :: b.drop (i + 1) := List.drop_eq_getElem_cons h1'
  have ih := ze4 e f a b he hf hab ha h n (i + 1) (by omega)
  have hx := h _ (List.getElem_mem h1) _ (List.getElem_mem h1')
  rw [zb6,h2,h3,Ex.sames]
  cases hs : Ex.same a[i] b[i]
  ·rw [hs] at hx
   simp [-Int.natCast_add,zaB,he,hf,h1,h1',zc8,zc7,zah hx,hs,rtn]
  ·rw [hs] at hx
   simp [-Int.natCast_add,zaB,he,hf,h1,h1',zc8,zc7,zah hx,hs,zeU (show i ≤ 1000000 by omega),ih]
theorem zcj (a b a' b' : Int) (c c' : List UInt8) : binV .neq true true false (.agg [.int .i64 a,.int .i64 b,.str c]) (.agg [.int .i64 a',.int .i64 b',.str c']) = some (.bool (!((a,b,c) == (a',b',c')))) := by
 have h : ((a,b,c) == (a',b',c')) = (a == a' && (b == b' && c == c')) := rfl
 rw [h]
 rfl
inductive Ln : Ex.E → Prop
 | mk {e : Ex.E} : e.args.length ≤ 900000 → (∀ x ∈ e.args,Ln x) → Ln e
theorem Ln.l {e : Ex.E} (h : Ln e) : e.args.length ≤ 900000 := by cases h;assumption
theorem Ln.a {e : Ex.E} (h : Ln e) : ∀ x ∈ e.args,Ln x := by cases h;assumption
theorem zjX : ∀ (n : Nat) (e f : Ex.E),Ex.deep e ≤ n → Ln e → Ln f → Ex.Sh e → Ex.Sh f → pr.ev 9 [encE e,encE f] [] = some (.ret (.bool (Ex.same e f)),[])
 | 0,.mk k o v t nm s g d a,_,h,_,_,_,_ => by rw [zbl] at h;omega
 | n + 1,.mk k o (v1,v2,v3) t nm s g d a,.mk k' o' (v1',v2',v3') t' nm' s' g' d' a',h,hc,hc',hS,hS' => by
  rw [zbl] at h
  have hal : a.length ≤ 900000 := hc.l
  have hal' : a'.length ≤ 900000 := hc'.l
  have ft : t.length ≤ 1000000 := hS.t
  have fn : nm.length ≤ 1000000 := hS.n
  have ft' : t'.length ≤ 1000000 := hS'.t
  have fn' : nm'.length ≤ 1000000 := hS'.n
  have ih : ∀ x ∈ a,∀ y ∈ a',pr.ev 9 [encE x,encE y] [] = some (.ret (.bool (Ex.same x y)),[]) := fun x hx y hy => zjX n x y (by have := zby hx;omega) (hc.a x hx) (hc'.a y hy) (hS.a x hx) (hS'.a y hy)
  have hl := fun hab => ze4 (.mk k o (v1,v2,v3) t nm s g d a) (.mk k' o' (v1',v2',v3') t' nm' s' g' d' a') a a' (zir ..) (zir ..) hab (by omega) ih a.length 0 (by omega)
  refine pr.of rfl (by simp only [List.map,(zbP _).rd];rfl) rfl (zdL _ _ _ _ _) ?_
  rw [Ex.same]
  rw [enc_mk,enc_mk] at hl ⊢
  by_cases c1 : k = k'
  rotate_left
  ·simp [-Int.natCast_add,zan,zac,ckA_agg,c1,rtn]
  by_cases c2 : o = o'
  rotate_left
  ·simp [-Int.natCast_add,zan,zac,ckA_agg,c1,c2,rtn]
  by_cases c3 : (v1,v2,v3) = (v1',v2',v3')
  rotate_left
  ·have c3' : ((v1,v2,v3) == (v1',v2',v3')) = false := by simpa only [beq_eq_false_iff_ne] using c3
   simp [-Int.natCast_add, -Prod.mk.injEq,zan,zac,ckA_agg,c1,c2,zcj,c3',c3,rtn]
  have c3' : ((v1,v2,v3) == (v1',v2',v3')) = true := by rw [c3];exact beq_self_eq_true _
  by_cases c4 : Lx.fold t = Lx.fold t'
  rotate_left
  ·simp [-Int.natCast_add, -Prod.mk.injEq,zan,zac,ckA_agg,c1,c2,zcj,c3,c3',zah (zas ft),zah (zas ft'),c4,rtn]
   try simp [c4]
  by_cases c5 : Lx.fold nm = Lx.fold nm'
  rotate_left
  ·simp [-Int.natCast_add, -Prod.mk.injEq,zan,zac,ckA_agg,c1,c2,zcj,c3,c3',zah (zas ft),zah (zas ft'),zah (zas fn),zah (zas fn'),c4,c5,rtn]
   try simp [c5]
  by_cases c6 : s = s'
  rotate_left
  ·simp [-Int.natCast_add, -Prod.mk.injEq,zan,zac,ckA_agg,c1,c2,zcj,c3,c3',zah (zas ft),zah (zas ft'),zah (zas fn),zah (zas fn'),c4,c5,c6,rtn]
   try simp [c6]
  by_cases c7 : g = g'
  rotate_left
  ·simp [-Int.natCast_add, -Prod.mk.injEq,zan,zac,ckA_agg,c1,c2,zcj,c3,c3',zah (zas ft),zah (zas ft'),zah (zas fn),zah (zas fn'),c4,c5,c6,c7,rtn]
   try simp [c7]
  by_cases c8 : d = d'
  rotate_left
  ·simp [-Int.natCast_add, -Prod.mk.injEq,zan,zac,ckA_agg,c1,c2,zcj,c3,c3',zah (zas ft),zah (zas ft'),zah (zas fn),zah (zas fn'),c4,c5,c6,c7,c8,rtn]
   try simp [c8]
  by_cases c9 : a.length = a'.length
  rotate_left
  ·simp [-Int.natCast_add, -Prod.mk.injEq,zan,zac,ckA_agg,c1,c2,zcj,c3,c3',zah (zas ft),zah (zas ft'),zah (zas fn),zah (zas fn'),c4,c5,c6,c7,c8,show ¬ ((a.length : Int) = (a'.length : Int)) by omega,rtn]
   try simp [c9]
  have hll := hl c9
  simp only [List.drop_zero] at hll
  simp only [Prod.mk.injEq] at c3
  obtain ⟨rfl,rfl,rfl⟩ := c3
  subst c1 c2 c6 c7 c8
  simp [-Int.natCast_add,zan,zac,ckA_agg,zcj,zah (zas ft),zah (zas ft'),zah (zas fn),zah (zas fn'),c4,c5,c9,rtn]
  simpa [-Int.natCast_add] using hll
end Go.Proofs.YtakegkongmnekaaDoor
namespace Go.Proofs.YtakegkongmnekaaDoor
open Go.RowKit
open Vm
variable [Gl]
theorem zkk : pr.ev 5 [] [] = some (.ret (.bool true),[]) := pr.ev_phi 60 (by kernel_rfl)
end Go.Proofs.YtakegkongmnekaaDoor
namespace Go.Proofs.YtakegkongmnekaaDoor
open Go.RowKit
open Vm
variable [Gl]
inductive So : Ex.E → Prop
 | mk {k : Int} {o : Ex.S} {v : Ex.V} {t n : Ex.S} {s : Int} {g d : Bool} {a : List Ex.E} : o.length ≤ 1000000 → (∀ x ∈ a,So x) → So (.mk k o v t n s g d a)
theorem So.o {e : Ex.E} (h : So e) : e.op.length ≤ 1000000 := by cases h;assumption
theorem So.a {e : Ex.E} (h : So e) : ∀ x ∈ e.args,So x := by cases h;assumption
end Go.Proofs.YtakegkongmnekaaDoor
namespace Go.Proofs.YtakegkongmnekaaDoor
open Go.RowKit
open Vm Go.ChangeShapes Go.WideShapes Go.ChangeAt Go.WideElems
def zbo (P : Program) (t : TypeId) : Bool := match P.underlying t with | some (.struct _) => true | _ => false
def layOk (P : Program) (z : Nat) : List Field → Nat → Bool
 | [],o => o == z
 | f :: r,o => f.offset == o && layOk P z r (o + P.cellsOf f.type)
def tyOk (P : Program) (TS : List TypeId) (t : TypeId) : Bool := match P.underlying t with
 | some .bool => P.cellsOf t == 1
 | some (.int _) => P.cellsOf t == 1
 | some .string => P.cellsOf t == 1
 | some (.slice e) => TS.contains e && decide (0 < P.cellsOf e) && P.cellsOf t == 1
 | some (.struct fs) => fs.toList.all (fun f => TS.contains f.type) && layOk P (P.cellsOf t) fs.toList 0
 | _ => false
def zkL (P : Program) (TS : List TypeId) : Bool := TS.all (tyOk P TS)
def zbj (P : Program) (K : Nat) : Nat → TypeId → List Vm.V → Prop
 | 0,_,_ => False
 | n + 1,t,us => match P.underlying t with
  | some .bool => ∃ b,us = [.bool b]
  | some (.int k) => ∃ i,us = [.int k i] ∧ k.min ≤ i ∧ i ≤ k.max
  | some .string => ∃ s,us = [.str s] ∧ s.length ≤ K
  | some (.slice e) => ∃ xs,us = [.list xs] ∧ xs.length ≤ maxLen ∧ ∀ x ∈ xs,x.isAgg = zbo P e ∧ x.size = P.cellsOf e ∧ zbj P K n e x.cells
  | some (.struct fs) => us.length = P.cellsOf t ∧ ∀ (i : Nat) (f : Field),fs[i]? = some f → zbj P K n f.type ((us.drop f.offset).take (P.cellsOf f.type))
  | _ => False
mutual
def vsz : Vm.V → Nat
 | .str s => s.length + 1
 | .list l => vszs l + 1
 | .agg l => vszs l + 1
 | _ => 1
termination_by structural x => x
def vszs : List Vm.V → Nat
 | [] => 0
 | x :: r => vsz x + vszs r
termination_by structural x => x
end
theorem zg2 (a b : List Vm.V) : vszs (a ++ b) = vszs a + vszs b := by
 induction a with
 | nil => simp [vszs]
 | cons x r ih => simp only [List.cons_append,vszs,ih];omega
abbrev noA : Nat → Nat → Prop := fun _ _ => False
theorem spot_no {w : World} {a : Addr} {v : Value} (h : w.cell? a = some v) : ∃ b o,a = ⟨b,o,none⟩ := by
 obtain ⟨b,o,sp⟩ := a
 cases sp with
 | none => exact ⟨b,o,rfl⟩
 | some s =>
  exfalso
  unfold World.cell? at h
  split at h
  ·simp at h
  ·cases h
theorem lay_le {P : Program} {z : Nat} : ∀ (l : List Field) (o : Nat),layOk P z l o = true → o ≤ z := by
 intro l
 induction l with
 | nil => intro o h;simp only [layOk,beq_iff_eq] at h;omega
 | cons g l ih =>
  intro o h
  simp only [layOk,Bool.and_eq_true,beq_iff_eq] at h
  have := ih _ h.2
  omega
theorem lay_ge {P : Program} {z : Nat} : ∀ (l : List Field) (o i : Nat) (f : Field),layOk P z l o = true → l[i]? = some f → o ≤ f.offset := by
 intro l
 induction l with
 | nil => intro o i f _ h;simp at h
 | cons g l ih =>
  intro o i f h hi
  simp only [layOk,Bool.and_eq_true,beq_iff_eq] at h
  cases i with
  | zero => simp at hi;subst hi;omega
  | succ i => have := ih _ i f h.2 (by simpa using hi);omega
theorem zgM {P : Program} {z : Nat} {H : Type} {w : World} {Q : Field → List Vm.V → Prop} (cs : List Value) (hz : cs.length = z) : ∀ (fs : List Field) (o : Nat) (xs : List (DataW H × List MemPlace)),layOk P z fs o = true → xs.length = fs.length → o ≤ z →
  (∀ (i : Nat) (f : Field),fs[i]? = some f → ∃ us x,xs[i]? = some x ∧ RepL w noA us ((cs.drop f.offset).take (P.cellsOf f.type)) ∧ us.all V.one = true ∧ vszs us ≤ Rows.uptoBulk x.1 ∧ Q f us) →
  ∃ us,RepL w noA us (cs.drop o) ∧ us.all V.one = true ∧ vszs us ≤ Rows.uptoBulkAll (xs.map (·.1)) ∧ ∀ (i : Nat) (f : Field),fs[i]? = some f → Q f ((us.drop (f.offset - o)).take (P.cellsOf f.type))
 | [],o,xs,hl,hx,ho,hf => by
  simp only [layOk,beq_iff_eq] at hl
  obtain rfl : xs = [] := List.eq_nil_of_length_eq_zero hx
  exact ⟨[],by rw [List.drop_of_length_le (by omega)];exact .nil,rfl,by simp [vszs],fun i f h => by simp at h⟩
 | f :: r,o,[],hl,hx,ho,hf => by simp at hx
 | f :: r,o,x :: xs,hl,hx,ho,hf => by
  simp only [layOk,Bool.and_eq_true,beq_iff_eq] at hl
  obtain ⟨rfl,hl⟩ := hl
  obtain ⟨us,x',hx',h1,h2,h3,h4⟩ := hf 0 f rfl
  simp only [List.getElem?_cons_zero,Option.some.injEq] at hx'
  subst hx'
  have hle : f.offset + P.cellsOf f.type ≤ z := lay_le _ _ hl
  have hlen : us.length = P.cellsOf f.type := by
   rw [zaE h1]
   simp only [List.length_take,List.length_drop]
   omega
  obtain ⟨us',g1,g2,g3,g4⟩ := zgM cs hz r _ xs hl (by simpa using hx) hle (fun i g hg => by
   obtain ⟨us,y,hy,h⟩ := hf (i + 1) g (by simpa using hg)
   exact ⟨us,y,by simpa using hy,h⟩)
  refine ⟨us ++ us', ?_,by simp [h2,g2], ?_,fun i g hg => ?_⟩
  ·have : cs.drop f.offset = (cs.drop f.offset).take (P.cellsOf f.type) ++ cs.drop (f.offset + P.cellsOf f.type) := by
    rw [← List.drop_drop,List.take_append_drop]
   rw [this]
   exact zb0 h1 g1
  ·rw [zg2,List.map_cons,Rows.uptoBulkAll];omega
  ·cases i with
   | zero =>
    simp only [List.getElem?_cons_zero,Option.some.injEq] at hg
    subst hg
    rw [Nat.sub_self,List.drop_zero,← hlen,List.take_left']
    ·exact h4
    ·rfl
   | succ i =>
    have hg' : r[i]? = some g := by simpa using hg
    have hge := lay_ge _ _ i g hl hg'
    have h5 := g4 i g hg'
    rw [show g.offset - f.offset = us.length + (g.offset - (f.offset + P.cellsOf f.type)) by omega,← List.drop_drop,List.drop_left']
    ·exact h5
    ·rfl
theorem zfd {P : Program} {K : Nat} {H : Type} {w : World} {base z n : Nat} {e : TypeId} {a : Addr} {T : List Value → Option (DataW H × List MemPlace)} (hz : z = P.cellsOf e) (h1 : zbo P e = false → z = 1)
  (ih : ∀ cs x,T cs = some x → (∀ m ∈ DataW.weights P e x.1,m ≤ K) → ∃ us,RepL w noA us cs ∧ us.all V.one = true ∧ vszs us + (if zbo P e = true then 1 else 0) ≤ Rows.uptoBulk x.1 ∧ us.length = P.cellsOf e ∧ zbj P K n e us) :
  ∀ (l : List (DataW H × List MemPlace)) (k : Nat),(∀ j,j < l.length → (w.cells? base (a.add ((k + j) * z)) z).bind T = l[j]?) → (∀ m ∈ DataW.weightsAll P e (l.map (·.1)),m ≤ K) →
  ∃ (xs : List Vm.V) (vs : List Value),xs.length = l.length ∧ RepE w noA z xs vs ∧ (∀ j u,vs[j]? = some u → w.cell? (a.add (k * z + j)) = some u) ∧ vszs xs ≤ Rows.uptoBulkAll (l.map (·.1)) ∧ ∀ x ∈ xs,x.isAgg = zbo P e ∧ x.size = P.cellsOf e ∧ zbj P K n e x.cells
 | [],k,_,_ => ⟨[],[],rfl,.nil _,fun j u h => by simp at h,by simp [vszs],fun x hx => by cases hx⟩
 | d :: l,k,hj,hw => by
  simp only [List.map_cons,DataW.weightsAll,List.mem_append] at hw
  obtain ⟨cs,hc,ht⟩ := Option.bind_eq_some_iff.1 ((hj 0 (by simp)).trans (List.getElem?_cons_zero))
  rw [Nat.add_zero] at hc
  obtain ⟨_,hlen,hcell⟩ := World.cells?_some hc
  obtain ⟨us,g1,g2,g3,g4,g5⟩ := ih cs d ht (fun m hm => hw m (.inl hm))
  obtain ⟨xs,vs,k1,k2,k3,k4,k5⟩ := zfd hz h1 ih l (k + 1) (fun j hj' => by
   have := hj (j + 1) (by simpa using hj')
   rw [show k + 1 + j = k + (j + 1) by omega]
   simpa using this) (fun m hm => hw m (.inr hm))
  have hx : ∃ x : Vm.V,RepC w noA x cs ∧ vsz x ≤ Rows.uptoBulk d.1 ∧ x.isAgg = zbo P e ∧ x.size = P.cellsOf e ∧ zbj P K n e x.cells := by
   cases ha : zbo P e with
   | true =>
    rw [ha,if_pos rfl] at g3
    exact ⟨.agg us,.agg us cs g2 g1,by simp only [vsz];exact g3,rfl,g4,g5⟩
   | false =>
    have hz1 := h1 ha
    match us,cs,g1,g2,g3,g4,g5 with
    | [],_,_,_,_,g4,_ => simp at g4;omega
    | _ :: _ :: _,_,_,_,_,g4,_ => simp at g4;omega
    | [u],_,.cons _ _ v vs g6 g7,g2,g3,g4,g5 =>
     cases g7
     have hone : u.one = true := by simpa using g2
     refine ⟨u,.one _ _ hone g6, ?_,zka hone, ?_, ?_⟩
     ·simp only [vszs] at g3;omega
     ·rw [V.size,zaO hone];exact g4
     ·rw [zaO hone];exact g5
  obtain ⟨x,x1,x2,x3,x4,x5⟩ := hx
  refine ⟨x :: xs,cs ++ vs,by simp [k1],.cons _ _ _ _ _ hlen x1 k2,fun j u hu => ?_, ?_,fun y hy => ?_⟩
  ·by_cases hjz : j < z
   ·rw [List.getElem?_append_left (by omega)] at hu
    have := hcell j hjz
    rw [Addr.add_add,hu] at this
    exact this
   ·rw [List.getElem?_append_right (by omega),hlen] at hu
    have := k3 (j - z) u hu
    rw [Nat.succ_mul] at this
    rwa [show k * z + z + (j - z) = k * z + j by omega] at this
  ·simp only [vszs,List.map_cons,Rows.uptoBulkAll];omega
  ·rcases List.mem_cons.1 hy with rfl | hy
   ·exact ⟨x3,x4,x5⟩
   ·exact k5 y hy
theorem zj8 {P : Program} {K : Nat} {TS : List TypeId} (hT : zkL P TS = true) {H : Type} {enc : TypeId × Value → H} {w : World} {base : Nat} {sp : Nat → Bool} {held : Bool} : ∀ (n : Nat) (t : TypeId) (cs : List Value) (x : DataW H × List MemPlace),t ∈ TS → DataW.trod enc P w base sp held n t cs = some x → (∀ m ∈ DataW.weights P t x.1,m ≤ K) →
  ∃ us,RepL w noA us cs ∧ us.all V.one = true ∧ vszs us + (if zbo P t = true then 1 else 0) ≤ Rows.uptoBulk x.1 ∧ us.length = P.cellsOf t ∧ zbj P K n t us := by
 intro n
 induction n with
 | zero => intro t cs x _ h;simp [DataW.trod] at h
 | succ n ih =>
  intro t cs x ht h hwt
  have hk : tyOk P TS t = true := List.all_eq_true.1 hT t ht
  unfold tyOk at hk
  split at hk
  ·rename_i hu
   obtain ⟨b,rfl,rfl⟩ := DataW.trod_bool hu h
   refine ⟨[.bool b],.cons _ _ _ _ (.bool _) .nil,rfl, ?_,by rw [beq_iff_eq.1 hk];rfl, ?_⟩
   ·simp [zbo,hu,vszs,vsz,Rows.uptoBulk]
   ·simp only [zbj,hu];exact ⟨b,rfl⟩
  ·rename_i k hu
   obtain ⟨i,rfl,rfl,hw⟩ := DataW.trod_int hu h
   refine ⟨[.int k i],.cons _ _ _ _ (.int _ _) .nil,rfl, ?_,by rw [beq_iff_eq.1 hk];rfl, ?_⟩
   ·simp [zbo,hu,vszs,vsz,Rows.uptoBulk]
   ·simp only [zbj,hu]
    simp only [Lit.wf,Bool.and_eq_true,decide_eq_true_eq] at hw
    exact ⟨i,rfl,hw⟩
  ·rename_i hu
   obtain ⟨s,rfl,rfl,hw⟩ := DataW.trod_string hu h
   refine ⟨[.str (Lx.ls s)],.cons _ _ _ _ ?_ .nil,rfl, ?_,by rw [beq_iff_eq.1 hk];rfl, ?_⟩
   ·have := RepV.str (w := w) (A := noA) (Lx.ls s)
    rwa [Lx.zgc] at this
   ·simp [zbo,hu,vszs,vsz,Rows.uptoBulk,Lx.ls]
   ·simp only [zbj,hu]
    exact ⟨_,rfl,by simpa [Lx.ls,DataW.weights] using hwt⟩
  ·rename_i e hu
   simp only [Bool.and_eq_true,decide_eq_true_eq,List.contains_eq_mem,beq_iff_eq] at hk
   obtain ⟨⟨he,hz⟩,h1⟩ := hk
   rcases DataW.trod_slice hu h with ⟨rfl,rfl⟩ | ⟨a,len,cap,elems,rest,n',hn',rfl,rfl,hb,hl,hm,hlen,hel, -, -⟩
   ·refine ⟨[.list []],.cons _ _ _ _ (.nil _ _) .nil,rfl, ?_,by rw [h1];rfl, ?_⟩
    ·simp [zbo,hu,vszs,vsz,Rows.uptoBulk]
    ·simp only [zbj,hu];exact ⟨[],rfl,Nat.zero_le _,fun x hx => by cases hx⟩
   ·obtain rfl : n' = n := by omega
    have hz1 : zbo P e = false → P.cellsOf e = 1 := fun ha => by
     have he' : tyOk P TS e = true := List.all_eq_true.1 hT e he
     unfold tyOk at he'
     unfold zbo at ha
     split at he' <;> first | (exact beq_iff_eq.1 he') | skip
     ·simp only [Bool.and_eq_true,beq_iff_eq] at he';exact he'.2
     ·rename_i hs;rw [hs] at ha;cases ha
     ·cases he'
    obtain ⟨xs,vs,k1,k2,k3,k4,k5⟩ := zfd (P := P) (w := w) (base := base) (e := e) (a := a) (n := n') rfl hz1 (fun cs x hx => ih e cs x he hx) elems 0 (fun j hj => by rw [Nat.zero_add];exact hel j (by omega)) (fun m hm => hwt m (by simp only [DataW.weights,hu,List.mem_cons,List.mem_append];exact .inr (.inl hm)))
    have hrep : RepV w noA (.list xs) (.slice (some a) len cap) := by
     cases xs with
     | nil =>
      simp only [List.length_nil] at k1
      obtain rfl : len = 0 := by omega
      exact .nil _ _
     | cons x xs =>
      have hvl := zaY k2
      have hpos : 0 < vs.length := by rw [hvl];exact Nat.mul_pos (by simp) hz
      have h0 := k3 0 vs[0] (List.getElem?_eq_getElem hpos)
      rw [Nat.zero_mul,Nat.zero_add] at h0
      have hza : a.add 0 = a := by unfold Addr.add;rw [if_pos rfl]
      rw [hza] at h0
      obtain ⟨b,o,rfl⟩ := spot_no h0
      have := RepV.list (w := w) (A := noA) (x :: xs) _ b o cap vs (by simp) k2 ⟨zhH h0,fun j u hu => ⟨?_,fun hh => hh⟩⟩ (by omega) hm
      ·rwa [show (x :: xs).length = len by omega] at this
      ·have h2 := k3 j u hu
       rw [Nat.zero_mul,Nat.zero_add] at h2
       have ha : (⟨b,o,none⟩ : Addr).add j = ⟨b,o + j,none⟩ := by
        unfold Addr.add
        by_cases hj0 : j = 0
        ·rw [if_pos hj0,hj0];rfl
        ·rw [if_neg hj0]
       rwa [ha] at h2
    refine ⟨[.list xs],.cons _ _ _ _ hrep .nil,rfl, ?_,by rw [h1];rfl, ?_⟩
    ·simp only [zbo,hu,vszs,vsz,Rows.uptoBulk]
     simp only [Bool.false_eq_true,if_false]
     omega
    ·simp only [zbj,hu]
     exact ⟨xs,rfl,by omega,k5⟩
  ·rename_i fs hu
   simp only [Bool.and_eq_true] at hk
   obtain ⟨hfs,hlay⟩ := hk
   obtain ⟨xs,m,hm,hx,hlen,hxl,hf⟩ := DataW.trod_struct hu h
   obtain rfl : m = n := by omega
   subst hx
   obtain ⟨us,g1,g2,g3,g4⟩ := zgM (H := H) (w := w) (Q := fun f us => zbj P K m f.type us) cs hlen fs.toList 0 xs hlay (by simpa using hxl) (Nat.zero_le _) (fun i f hf' => by
    have hf2 : fs[i]? = some f := by simpa using hf'
    have hmem : f.type ∈ TS := by
     have := List.all_eq_true.1 hfs f (List.mem_of_getElem? hf')
     simpa using this
    have h3 := hf i f hf2
    have hlt : i < xs.length := by rw [hxl];exact (Array.getElem?_eq_some_iff.1 hf2).1
    rw [List.getElem?_eq_getElem hlt] at h3
    obtain ⟨us,k1,k2,k3,k4,k5⟩ := ih f.type _ _ hmem h3 (fun k hk => hwt k (by
     simp only [DataW.weights,hu]
     exact DataW.weights_mem_each (j := i) (t := f.type) (by rw [List.getElem?_map,hf'];rfl) (by rw [List.getElem?_map,List.getElem?_eq_getElem hlt];rfl) k hk))
    exact ⟨us,xs[i],List.getElem?_eq_getElem hlt,k1,k2,by omega,k5⟩)
   rw [List.drop_zero] at g1
   refine ⟨us,g1,g2, ?_,by rw [zaE g1,hlen], ?_⟩
   ·simp only [zbo,hu,if_true,Rows.uptoBulk];omega
   ·simp only [zbj,hu]
    refine ⟨by rw [zaE g1,hlen],fun i f hf' => ?_⟩
    have := g4 i f (by simpa using hf')
    simpa using this
  ·cases hk
end Go.Proofs.YtakegkongmnekaaDoor
namespace Go.Proofs.YtakegkongmnekaaDoor
open Go.RowKit
open Vm
def I64 (n : Int) : Prop := -9223372036854775808 ≤ n ∧ n ≤ 9223372036854775807
inductive R64 (K : Nat) : Ex.E → Prop
 | mk {k : Int} {o : Ex.S} {v : Ex.V} {t n : Ex.S} {s : Int} {g d : Bool} {a : List Ex.E} : I64 k → I64 v.1 → I64 v.2.1 → I64 s → o.length ≤ K ∧ v.2.2.length ≤ K ∧ t.length ≤ K ∧ n.length ≤ K → (∀ x ∈ a,R64 K x) → R64 K (.mk k o v t n s g d a)
theorem zjr {n K : Nat} {us : List Vm.V} (h : zbj Tryd.prog K n 3 us) : ∃ i,us = [.int .i64 i] ∧ I64 i := by
 cases n with
 | zero => exact h.elim
 | succ n =>
  simp only [zbj,Tryd.underlying3] at h
  exact h
theorem ty_int64 {n K : Nat} {us : List Vm.V} (h : zbj Tryd.prog K n 2 us) : ∃ i,us = [.int .i64 i] ∧ I64 i := by
 cases n with
 | zero => exact h.elim
 | succ n =>
  simp only [zbj,Tryd.underlying2] at h
  exact h
theorem zjs {n K : Nat} {us : List Vm.V} (h : zbj Tryd.prog K n 4 us) : ∃ b,us = [.bool b] := by
 cases n with
 | zero => exact h.elim
 | succ n =>
  simp only [zbj,Tryd.underlying4] at h
  exact h
theorem zhO {n K : Nat} {us : List Vm.V} (h : zbj Tryd.prog K n 9 us) : ∃ s,us = [.str s] ∧ s.length ≤ K := by
 cases n with
 | zero => exact h.elim
 | succ n =>
  simp only [zbj,Tryd.underlying9] at h
  exact h
theorem z_int : Tryd.prog.cellsOf 3 = 1 := by kernel_rfl
theorem z_int64 : Tryd.prog.cellsOf 2 = 1 := by kernel_rfl
theorem z_bool : Tryd.prog.cellsOf 4 = 1 := by kernel_rfl
theorem zhG : Tryd.prog.cellsOf 9 = 1 := by kernel_rfl
theorem z_val : Tryd.prog.cellsOf 23 = 3 := by kernel_rfl
theorem z_expr : Tryd.prog.cellsOf 26 = 11 := by kernel_rfl
theorem z_exprs : Tryd.prog.cellsOf 24 = 1 := by kernel_rfl
theorem ty_val {n K : Nat} {us : List Vm.V} (h : zbj Tryd.prog K n 23 us) : ∃ v : Ex.V,us = [.int .i64 v.1,.int .i64 v.2.1,.str v.2.2] ∧ I64 v.1 ∧ I64 v.2.1 ∧ v.2.2.length ≤ K := by
 cases n with
 | zero => exact h.elim
 | succ n =>
  simp only [zbj,Tryd.underlying23] at h
  obtain ⟨hlen,hf⟩ := h
  rw [z_val] at hlen
  match us,hlen with
  | [c0,c1,c2],_ =>
   have g0 := hf 0 _ rfl
   have g1 := hf 1 _ rfl
   have g2 := hf 2 _ rfl
   simp [z_int,z_int64,zhG] at g0 g1 g2
   obtain ⟨a,e0,w0⟩ := zjr g0
   obtain ⟨b,e1,w1⟩ := ty_int64 g1
   obtain ⟨d,e2,w2⟩ := zhO g2
   simp only [List.cons.injEq,and_true] at e0 e1 e2
   subst e0 e1 e2
   exact ⟨(a,b,d),rfl,w0,w1,w2⟩
theorem ty_expr {K : Nat} : ∀ (n : Nat) (us : List Vm.V),zbj Tryd.prog K n 26 us → ∃ e : Ex.E,us = expC e ∧ R64 K e := by
 intro n
 induction n using Nat.strongRecOn with
 | _ n ih =>
 intro us h
 cases n with
 | zero => exact h.elim
 | succ n =>
  simp only [zbj,Tryd.underlying26] at h
  obtain ⟨hlen,hf⟩ := h
  rw [z_expr] at hlen
  match us,hlen with
  | [c0,c1,c2,c3,c4,c5,c6,c7,c8,c9,c10],_ =>
   have g0 := hf 0 _ rfl
   have g1 := hf 1 _ rfl
   have g2 := hf 2 _ rfl
   have g3 := hf 3 _ rfl
   have g4 := hf 4 _ rfl
   have g5 := hf 5 _ rfl
   have g6 := hf 6 _ rfl
   have g7 := hf 7 _ rfl
   have g8 := hf 8 _ rfl
   simp [z_int,z_bool,zhG,z_val,z_exprs] at g0 g1 g2 g3 g4 g5 g6 g7 g8
   obtain ⟨k,e0,w0⟩ := zjr g0
   obtain ⟨o,e1,y1⟩ := zhO g1
   obtain ⟨v,e2,w2,w3,y2⟩ := ty_val g2
   obtain ⟨t,e3,y3⟩ := zhO g3
   obtain ⟨m,e4,y4⟩ := zhO g4
   obtain ⟨s,e5,w5⟩ := zjr g5
   obtain ⟨g,e6⟩ := zjs g6
   obtain ⟨d,e7⟩ := zjs g7
   have hA : ∃ a : List Ex.E,c10 = .list (a.map encE) ∧ ∀ x ∈ a,R64 K x := by
    cases n with
    | zero => exact g8.elim
    | succ n =>
     simp only [zbj,Tryd.underlying24] at g8
     obtain ⟨xs,e8,_,h8⟩ := g8
     simp only [List.cons.injEq,and_true] at e8
     subst e8
     have key : ∀ l : List Vm.V,(∀ x ∈ l,x ∈ xs) → ∃ a : List Ex.E,l = a.map encE ∧ ∀ x ∈ a,R64 K x := by
      intro l
      induction l with
      | nil => intro _;exact ⟨[],rfl,fun x hx => by cases hx⟩
      | cons x r ihl =>
       intro hl
       obtain ⟨a,rfl,ha⟩ := ihl fun y hy => hl y (by simp [hy])
       obtain ⟨k1,k2,k3⟩ := h8 x (hl x (by simp))
       obtain ⟨e,he,hr⟩ := ih n (by omega) _ k3
       have hagg : x.isAgg = true := by rw [k1];kernel_rfl
       cases x with
       | agg cs =>
        have : cs = expC e := he
        subst this
        exact ⟨e :: a,rfl,fun y hy => by
         rcases List.mem_cons.1 hy with rfl | hy
         ·exact hr
         ·exact ha y hy⟩
       | _ => cases hagg
     obtain ⟨a,rfl,ha⟩ := key xs fun x hx => hx
     exact ⟨a,rfl,ha⟩
   obtain ⟨a,rfl,ha⟩ := hA
   simp only [List.cons.injEq,and_true] at e0 e1 e2 e3 e4 e5 e6 e7
   obtain ⟨e2a,e2b,e2c⟩ := e2
   subst e0 e1 e2a e2b e2c e3 e4 e5 e6 e7
   refine ⟨.mk k o v t m s g d a, ?_,.mk w0 w2 w3 w5 ⟨y1,y2,y3,y4⟩ ha⟩
   rw [expC]
   rfl
end Go.Proofs.YtakegkongmnekaaDoor
namespace Go.Proofs.YtakegkongmnekaaDoor
open Go.RowKit
open Vm
mutual
def smallE : Ex.E → Bool
 | .mk _ o v t n _ _ _ a => decide (a.length ≤ 60) && (decide (o.length + t.length + n.length ≤ 400) && (decide (v.2.2.length ≤ 100) && zcC a))
termination_by structural x => x
def zcC : List Ex.E → Bool
 | [] => true
 | e :: r => smallE e && zcC r
termination_by structural x => x
end
theorem zg9 {l : List Ex.E} (h : zcC l = true) : ∀ x ∈ l,smallE x = true := by
 induction l with
 | nil => intro x hx;cases hx
 | cons a r ih =>
  rw [zcC,Bool.and_eq_true] at h
  intro x hx
  rcases List.mem_cons.1 hx with rfl | hx
  ·exact h.1
  ·exact ih h.2 x hx
variable [Gl]
theorem zeX (e : Ex.E) (a : List Ex.E) (he : cell (encE e) 10 = .list (a.map encE)) (ha : a.length ≤ 900000) (h : ∀ x ∈ a,pr.ev 10 [encE x] [] = some (.ret (.bool (smallE x)),[])) : ∀ (n i : Nat),i + n = a.length →
  lup Out (zaz pr.ev lup) [.int .i64 (i : Nat),encE e] = some (.ret (.bool (zcC (a.drop i))),[])
 | 0,i,hi => by
  have h1 : ¬ i < a.length := by omega
  have h2 : a.drop i = [] := List.drop_of_length_le (by omega)
  rw [zb6]
  simp [-Int.natCast_add,zaz,he,h1,h2,zcC,rtn]
 | n + 1,i,hi => by
  have h1 : i < a.length := by omega
  have h2 : a.drop i = a[i] :: a.drop (i + 1) := List.drop_eq_getElem_cons h1
  have ih := zeX e a he ha h n (i + 1) (by omega)
  have hx := h _ (List.getElem_mem h1)
  rw [zb6,h2,zcC]
  cases hs : smallE a[i]
  ·rw [hs] at hx
   simp [-Int.natCast_add,zaz,he,h1,zc8,zc7,zah hx,rtn]
  ·rw [hs] at hx
   simp [-Int.natCast_add,zaz,he,h1,zc8,zc7,zah hx,zeU (show i ≤ 1000000 by omega),ih]
theorem zkj {K : Nat} (hK : K ≤ 1152921504606846976) : ∀ (n : Nat) (e : Ex.E),Ex.deep e ≤ n → R64 K e → pr.ev 10 [encE e] [] = some (.ret (.bool (smallE e)),[])
 | 0,.mk k o v t nm s g d a,h,_ => by rw [zbl] at h;omega
 | n + 1,.mk k o v t nm s g d a,h,hc => by
  rw [zbl] at h
  obtain ⟨hr1,hr2⟩ : (o.length ≤ K ∧ v.2.2.length ≤ K ∧ t.length ≤ K ∧ nm.length ≤ K) ∧ ∀ x ∈ a,R64 K x := by
   cases hc;exact ⟨by assumption,by assumption⟩
  have hlp := fun (h60 : a.length ≤ 60) => zeX (.mk k o v t nm s g d a) a (zir ..) (by omega) (fun x hx => zkj hK n x (by have := zby hx;omega) (hr2 x hx)) a.length 0 (by omega)
  simp only [List.drop_zero] at hlp
  refine pr.of rfl (by simp only [List.map,(zbP _).rd];rfl) rfl (zdn _ _ _ _) ?_
  rw [smallE]
  have hw1 : IntKind.wrap .i64 ((o.length : Int) + (t.length : Int)) = ((o.length + t.length : Nat) : Int) := by rw [zfs (by omega) (by omega)];simp
  have hw2 : IntKind.wrap .i64 (((o.length + t.length : Nat) : Int) + (nm.length : Int)) = ((o.length + t.length + nm.length : Nat) : Int) := by rw [zfs (by omega) (by omega)];simp
  by_cases h1 : a.length ≤ 60
  ·have i1 : ¬ 60 < (a.length : Int) := by omega
   by_cases h2 : o.length + t.length + nm.length ≤ 400
   ·have i2 : ¬ 400 < ((o.length + t.length + nm.length : Nat) : Int) := by omega
    by_cases h3 : v.2.2.length ≤ 100
    ·have i3 : ¬ 100 < (v.2.2.length : Int) := by omega
     simp [-Int.natCast_add,zaH,zaq,mk_1,mk_4,mk_5,mk_6,mk_10,hw1,hw2,h1,h2,h3,i1,i2,i3]
     exact hlp h1
    ·have i3 : 100 < (v.2.2.length : Int) := by omega
     simp [-Int.natCast_add,zaH,zaq,mk_1,mk_4,mk_5,mk_6,mk_10,hw1,hw2,h1,h2,h3,i1,i2,i3,rtn]
   ·have i2 : 400 < ((o.length + t.length + nm.length : Nat) : Int) := by omega
    simp [-Int.natCast_add,zaH,zaq,mk_1,mk_4,mk_5,mk_6,mk_10,hw1,hw2,h1,h2,i1,i2,rtn]
  ·have i1 : 60 < (a.length : Int) := by omega
   simp [-Int.natCast_add,zaH,zaq,mk_10,h1,i1,rtn]
end Go.Proofs.YtakegkongmnekaaDoor
namespace Go.Proofs.YtakegkongmnekaaDoor
open Go.RowKit
open Vm
variable [Gl]
theorem zkl {s t : List UInt8} (hs : s.length ≤ 1000000) (ht : t.length ≤ 1000000) : pr.ev 14 [.str s,.str t] [] = some (.ret (.bool (Lx.fold s == Lx.fold t)),[]) := by
 refine pr.of rfl rfl rfl (zfN _ _ _ _ _) ?_
 simp [zcx,zah (zky hs),zah (zky ht),rtn]
theorem zio (a b : List Ex.E) (hab : a.length = b.length) (ha : a.length ≤ 900000) (h : ∀ x ∈ a,∀ y ∈ b,pr.ev 8 [encE x,encE y] [] = some (.ret (.bool (Ex.same x y)),[])) : ∀ (n i : Nat),i + n = a.length →
  lup Out (zab pr.ev lup) [.list (b.map encE),.fn 8 [] [],.list (a.map encE),.int .i64 (a.length : Nat),.int .i64 (i : Nat)] = some (.ret (.bool (Ex.sames (a.drop i) (b.drop i))),[])
 | 0,i,hi => by
  have h1 : ¬ i < a.length := by omega
  have h2 : a.drop i = [] := List.drop_of_length_le (by omega)
  rw [zb6]
  simp [-Int.natCast_add,zab,h1,h2,Ex.sames,rtn]
 | n + 1,i,hi => by
  have h1 : i < a.length := by omega
  have h1' : i < b.length := by omega
  have h2 : a.drop i = a[i] :: a.drop (i + 1) := List.drop_eq_getElem_cons h1
  have h3 : b.drop i = b[i] :: b.drop (i + 1) := List.drop_eq_getElem_cons h1'
  have ih := zio a b hab ha h n (i + 1) (by omega)
  have hx := h _ (List.getElem_mem h1) _ (List.getElem_mem h1')
  rw [zb6,h2,h3,Ex.sames]
  have hi' : i < b.length := h1'
  cases hs : Ex.same a[i] b[i]
  ·rw [hs] at hx
   simp [-Int.natCast_add,zab,h1,h1',zc8,zc7,fnG,zah hx,hs,rtn]
  ·rw [hs] at hx
   simp [-Int.natCast_add,zab,h1,h1',zc8,zc7,fnG,zah hx,hs,zeU (show i ≤ 1000000 by omega),ih]
theorem m_eqF (a b : List Ex.E) (ha : a.length ≤ 900000) (hb : b.length ≤ 900000) (h : ∀ x ∈ a,∀ y ∈ b,pr.ev 8 [encE x,encE y] [] = some (.ret (.bool (Ex.same x y)),[])) :
  pr.ev 16 [.list (a.map encE),.list (b.map encE),.fn 8 [] []] [] = some (.ret (.bool (a.length == b.length && Ex.sames a b)),[]) := by
 refine pr.of rfl rfl rfl (zax _ _ _ _ _ _) ?_
 by_cases hab : a.length = b.length
 ·have hl := zio a b hab ha h a.length 0 (by omega)
  simp only [List.drop_zero] at hl
  simp [-Int.natCast_add,zag,hab]
  simpa [hab] using hl
 ·have hi : ¬ (a.length : Int) = (b.length : Int) := by omega
  simp [-Int.natCast_add,zag,hab,hi,rtn]
theorem eql_val (a b a' b' : Int) (c c' : List UInt8) : binV .eql true true false (.agg [.int .i64 a,.int .i64 b,.str c]) (.agg [.int .i64 a',.int .i64 b',.str c']) = some (.bool ((a,b,c) == (a',b',c'))) := by
 have h : ((a,b,c) == (a',b',c')) = (a == a' && (b == b' && c == c')) := rfl
 rw [h]
 rfl
theorem zf4 : ∀ (n : Nat) (e f : Ex.E),Ex.deep e ≤ n → Ln e → Ln f → Ex.Sh e → Ex.Sh f → pr.ev 8 [encE e,encE f] [] = some (.ret (.bool (Ex.same e f)),[])
 | 0,.mk k o v t nm s g d a,_,h,_,_,_,_ => by rw [zbl] at h;omega
 | n + 1,.mk k o (v1,v2,v3) t nm s g d a,.mk k' o' (v1',v2',v3') t' nm' s' g' d' a',h,hc,hc',hS,hS' => by
  rw [zbl] at h
  have hal : a.length ≤ 900000 := hc.l
  have hal' : a'.length ≤ 900000 := hc'.l
  have ft : t.length ≤ 1000000 := hS.t
  have fn : nm.length ≤ 1000000 := hS.n
  have ft' : t'.length ≤ 1000000 := hS'.t
  have fn' : nm'.length ≤ 1000000 := hS'.n
  have ih : ∀ x ∈ a,∀ y ∈ a',pr.ev 8 [encE x,encE y] [] = some (.ret (.bool (Ex.same x y)),[]) := fun x hx y hy => zf4 n x y (by have := zby hx;omega) (hc.a x hx) (hc'.a y hy) (hS.a x hx) (hS'.a y hy)
  have hE := m_eqF a a' (by omega) (by omega) ih
  have hT := zkl ft ft'
  have hN := zkl fn fn'
  refine pr.of rfl (by simp only [List.map,(zbP _).rd];rfl) rfl (zhi _ _ _ _ _) ?_
  rw [Ex.same]
  rw [enc_mk,enc_mk]
  generalize Lx.fold t = T at *
  generalize Lx.fold t' = T' at *
  generalize Lx.fold nm = U at *
  generalize Lx.fold nm' = U' at *
  by_cases c1 : k = k'
  rotate_left
  ·simp [-Int.natCast_add,zaD,ckA_agg,c1,rtn]
  by_cases c2 : o = o'
  rotate_left
  ·simp [-Int.natCast_add,zaD,ckA_agg,c1,c2,rtn]
  have c3e := eql_val v1 v2 v1' v2' v3 v3'
  generalize ((v1,v2,v3) == (v1',v2',v3')) = B3 at *
  cases B3
  ·simp [-Int.natCast_add,zaD,ckA_agg,c1,c2,c3e,rtn]
  generalize (T == T') = B4 at *
  cases B4
  ·simp [-Int.natCast_add,zaD,ckA_agg,c1,c2,c3e,zah hT,rtn]
  generalize (U == U') = B5 at *
  cases B5
  ·simp [-Int.natCast_add,zaD,ckA_agg,c1,c2,c3e,zah hT,zah hN,rtn]
  by_cases c6 : s = s'
  rotate_left
  ·simp [-Int.natCast_add,zaD,ckA_agg,c1,c2,c3e,zah hT,zah hN,c6,rtn]
  by_cases c7 : g = g'
  rotate_left
  ·simp [-Int.natCast_add,zaD,ckA_agg,c1,c2,c3e,zah hT,zah hN,c6,c7,rtn]
  by_cases c8 : d = d'
  rotate_left
  ·simp [-Int.natCast_add,zaD,ckA_agg,c1,c2,c3e,zah hT,zah hN,c6,c7,c8,rtn]
  simp [-Int.natCast_add,zaD,ckA_agg,c1,c2,c3e,zah hT,zah hN,c6,c7,c8,zah hE,rtn]
theorem zhU : ∀ (n : Nat) (e : Ex.E),Ex.deep e ≤ n → smallE e = true → Ex.Sh e ∧ Ln e
 | 0,.mk k o v t nm s g d a,h,_ => by rw [zbl] at h;omega
 | n + 1,.mk k o v t nm s g d a,h,hs => by
  rw [zbl] at h
  rw [smallE] at hs
  simp only [Bool.and_eq_true,decide_eq_true_eq] at hs
  have ih : ∀ x ∈ a,Ex.Sh x ∧ Ln x := fun x hx => zhU n x (by have := zby hx;omega) (zg9 hs.2.2.2 x hx)
  exact ⟨.mk (show t.length ≤ 1000000 by omega) (show nm.length ≤ 1000000 by omega) fun x hx => (ih x hx).1,.mk (show a.length ≤ 900000 by omega) fun x hx => (ih x hx).2⟩
theorem zeC (e : Ex.E) (a : List Ex.E) (he : cell (encE e) 10 = .list (a.map encE)) (h : ∀ x ∈ a,∃ c,pr.ev 11 [encE x] [] = some (.ret (.int .i64 c),[])) (ha : a.length ≤ 900000) : ∀ (n i : Nat) (m : Int),i + n = a.length →
  ∃ c,lup Out (sh_tomeref25_Count_l0 pr.ev lup) [.int .i64 m,.int .i64 (i : Nat),encE e] = some (.ret (.int .i64 c),[])
 | 0,i,m,hi => by
  have h1 : ¬ i < a.length := by omega
  refine ⟨m, ?_⟩
  rw [zb6]
  simp [-Int.natCast_add,sh_tomeref25_Count_l0,he,h1,rtn]
 | n + 1,i,m,hi => by
  have h1 : i < a.length := by omega
  obtain ⟨cx,hx⟩ := h _ (List.getElem_mem h1)
  obtain ⟨c,ih⟩ := zeC e a he h ha n (i + 1) (IntKind.wrap .i64 (m + cx)) (by omega)
  refine ⟨c, ?_⟩
  rw [zb6,← ih]
  simp [-Int.natCast_add,sh_tomeref25_Count_l0,he,h1,zc8,zc7,zah hx,zeU (show i ≤ 1000000 by omega)]
theorem countX : ∀ (n : Nat) (e : Ex.E),Ex.deep e ≤ n → Ln e → ∃ c,pr.ev 11 [encE e] [] = some (.ret (.int .i64 c),[])
 | 0,.mk k o v t nm s g d a,h,_ => by rw [zbl] at h;omega
 | n + 1,.mk k o v t nm s g d a,h,hL => by
  rw [zbl] at h
  have hal : a.length ≤ 900000 := hL.l
  obtain ⟨c,hl⟩ := zeC (.mk k o v t nm s g d a) a (zir ..) (fun x hx => countX n x (by have := zby hx;omega) (hL.a x hx)) hal a.length 0 1 (by omega)
  refine ⟨c,pr.of rfl (by simp only [List.map,(zbP _).rd];rfl) rfl (zdm _ _ _ _) ?_⟩
  simpa [-Int.natCast_add,zbF] using hl
theorem zfo (e : Ex.E) (a : List Ex.E) (he : cell (encE e) 10 = .list (a.map encE)) (h : ∀ x ∈ a,∃ c,pr.ev 6 [encE x] [] = some (.ret (.int .i64 c),[]) ∧ pr.ev 7 [encE x] [] = some (.ret (.int .i64 c),[])) (ha : a.length ≤ 900000) : ∀ (n i : Nat) (m : Int),i + n = a.length →
  ∃ c,lup Out (sh_expr_Deep_l0 pr.ev lup) [.int .i64 m,.list (a.map encE),.int .i64 (a.length : Nat),.int .i64 (i : Nat)] = some (.ret (.int .i64 c),[]) ∧ lup Out (zaJ pr.ev lup) [.int .i64 m,.int .i64 (i : Nat),encE e] = some (.ret (.int .i64 c),[])
 | 0,i,m,hi => by
  have h1 : ¬ i < a.length := by omega
  refine ⟨IntKind.wrap .i64 (m + 1), ?_, ?_⟩
  ·rw [zb6]
   simp [-Int.natCast_add,sh_expr_Deep_l0,zcc,he,h1,rtn]
  ·rw [zb6]
   simp [-Int.natCast_add,zaJ,zbm,he,h1,rtn]
 | n + 1,i,m,hi => by
  have h1 : i < a.length := by omega
  obtain ⟨cx,hx,hx'⟩ := h _ (List.getElem_mem h1)
  obtain ⟨c,ih,ih'⟩ := zfo e a he h ha n (i + 1) (max m cx) (by omega)
  refine ⟨c, ?_, ?_⟩
  ·rw [zb6,← ih]
   simp [-Int.natCast_add,sh_expr_Deep_l0,he,h1,zc8,zc7,zah hx,zeU (show i ≤ 1000000 by omega)]
  ·rw [zb6,← ih']
   simp [-Int.natCast_add,zaJ,he,h1,zc8,zc7,zah hx',zeU (show i ≤ 1000000 by omega)]
theorem deepX : ∀ (n : Nat) (e : Ex.E),Ex.deep e ≤ n → Ln e → ∃ c,pr.ev 6 [encE e] [] = some (.ret (.int .i64 c),[]) ∧ pr.ev 7 [encE e] [] = some (.ret (.int .i64 c),[])
 | 0,.mk k o v t nm s g d a,h,_ => by rw [zbl] at h;omega
 | n + 1,.mk k o v t nm s g d a,h,hL => by
  rw [zbl] at h
  have hal : a.length ≤ 900000 := hL.l
  have e10 : cell (encE (.mk k o v t nm s g d a)) 10 = .list (a.map encE) := by rw [enc_mk];rfl
  obtain ⟨c,hl,hl'⟩ := zfo (.mk k o v t nm s g d a) a e10 (fun x hx => deepX n x (by have := zby hx;omega) (hL.a x hx)) hal a.length 0 0 (by omega)
  refine ⟨c,pr.of rfl (by simp only [List.map,(zbP _).rd];rfl) rfl (zhj _ _ _ _) ?_,pr.of rfl (by simp only [List.map,(zbP _).rd];rfl) rfl (zdM _ _ _ _) ?_⟩
  ·simpa [-Int.natCast_add,zdA,e10] using hl
  ·simpa [-Int.natCast_add,zbT] using hl'
theorem fitsX {K : Nat} (hK : K ≤ 1152921504606846976) (e : Ex.E) (hr : R64 K e) : ∃ b,pr.ev 4 [encE e] [] = some (.ret (.bool b),[]) ∧ (b = true → Ex.Sh e ∧ Ln e) := by
 have h1 := zkj hK (Ex.deep e) e (Nat.le_refl _) hr
 cases hs : smallE e
 ·rw [hs] at h1
  refine ⟨false,pr.of rfl (by simp only [List.map,(zbP _).rd];rfl) rfl (zb5 _ _ _ _) ?_,fun h => by cases h⟩
  simp [-Int.natCast_add,zba,zah h1,rtn]
 ·rw [hs] at h1
  have hsh := zhU _ e (Nat.le_refl _) hs
  obtain ⟨c,h2⟩ := countX _ e (Nat.le_refl _) hsh.2
  refine ⟨decide (c ≤ 150),pr.of rfl (by simp only [List.map,(zbP _).rd];rfl) rfl (zb5 _ _ _ _) ?_,fun _ => hsh⟩
  simp [-Int.natCast_add,zba,zah h1,zah h2,rtn]
theorem ziS {K : Nat} (hK : K ≤ 1152921504606846976) (e f : Ex.E) (hr : R64 K e) (hr' : R64 K f) : pr.ev 3 [encE e,encE f] [] = some (.ret (.bool true),[]) := by
 obtain ⟨b,hf,hb⟩ := fitsX hK e hr
 obtain ⟨b',hf',hb'⟩ := fitsX hK f hr'
 refine pr.of rfl (by simp only [List.map,(zbP _).rd];rfl) rfl (zcv _ _ _ _ _) ?_
 cases b
 ·simp [-Int.natCast_add,sh_tomelaw25_ExprSame,zav,zah hf,zah zkk,rtn]
 cases b'
 ·simp [-Int.natCast_add,sh_tomelaw25_ExprSame,zav,zah hf,zah hf',zah zkk,rtn]
 obtain ⟨hs,hl⟩ := hb rfl
 obtain ⟨hs',hl'⟩ := hb' rfl
 obtain ⟨d,hD,hD'⟩ := deepX _ e (Nat.le_refl _) hl
 have hS1 := zf4 (Ex.deep e) e f (Nat.le_refl _) hl hl' hs hs'
 have hS2 := zjX (Ex.deep e) e f (Nat.le_refl _) hl hl' hs hs'
 have hS3 := zf4 (Ex.deep f) f e (Nat.le_refl _) hl' hl hs' hs
 have hS4 := zf4 (Ex.deep e) e e (Nat.le_refl _) hl hl hs hs
 rw [Ex.zgv f e] at hS3
 rw [Ex.zgu] at hS4
 generalize Ex.same e f = B at *
 cases B <;> simp [-Int.natCast_add,sh_tomelaw25_ExprSame,zav,zah hf,zah hf',zah zkk,zah hD,zah hD',zah hS1,zah hS2,zah hS3,zah hS4,rtn]
end Go.Proofs.YtakegkongmnekaaDoor
namespace Go.Proofs.YtakegkongmnekaaDoor
open Go.RowKit
open Vm
open Go.ChangeShapes Go.WideShapes Go.ChangeAt Go.ChangeMaps
abbrev exprT : List TypeId := [26,3,9,23,2,4,24]
theorem zhs : zkL Tryd.prog exprT = true := by kernel_rfl
theorem zgI {K : Nat} {H : Type} {enc : TypeId × Value → H} {W : World} {base b : Nat} {v : Value} {d : DataW H} {p : List MemPlace} (hv : Value.okWide Tryd.prog W .any base 26 v) (h : DataW.Trod enc Tryd.prog W b (fun _ => true) true 26 v d p) (hw : ∀ m ∈ DataW.weights Tryd.prog 26 d,m ≤ K) :
  ∃ e : Ex.E,R64 K e ∧ vsz (encE e) ≤ Rows.uptoBulk d ∧ RepV W noA (encE e) v := by
 obtain ⟨cs,rfl,hsz⟩ := okWide_struct Tryd.underlying26 hv
 obtain ⟨n,hn⟩ := h
 obtain ⟨us,h1,h2,h3,h4,h5⟩ := zj8 zhs n 26 _ _ (List.mem_cons_self ..) hn hw
 obtain ⟨e,rfl,hr⟩ := ty_expr n us h5
 have ha : zbo Tryd.prog 26 = true := by kernel_rfl
 rw [if_pos ha] at h3
 refine ⟨e,hr,h3, ?_⟩
 have := RepV.agg (w := W) (A := noA) _ _ h1
 show RepV W noA (.agg (expC e)) _
 simpa [Value.cells] using this
abbrev exprZ : Value := .agg #[.int .i64 0,.string ⟨#[]⟩,.int .i64 0,.int .i64 0,.string ⟨#[]⟩,.string ⟨#[]⟩,.string ⟨#[]⟩,.int .i64 0,.bool false,.bool false,.slice none 0 0]
end Go.Proofs.YtakegkongmnekaaDoor
