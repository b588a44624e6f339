/- Part of the proof: see the last text. -/
import Derived.Test.YtakegkongmnekaaDoorP21
import Derived.Test.YtakegkongmnekaaDoorP23
set_option maxRecDepth 20000
set_option linter.unusedVariables false
set_option linter.unusedSimpArgs false
namespace Ex
open Lx
def Sep (s : S) : Prop := ∀ c,s.head? = some c → c = 32 ∨ c = 41 ∨ c = 44
def SepN (s : S) : Prop := ∀ c,s.head? = some c → c = 32 ∨ c = 41 ∨ c = 44 ∨ c = 40 ∨ c = 46
theorem Sep.n {s : S} (h : Sep s) : SepN s := fun c hc => by rcases h c hc with h | h | h <;> simp [h]
theorem zkF {c : UInt8} (h : dig c = true) : let_ c = false ∧ bl c = false ∧ c ≠ 45 ∧ c ≠ 39 := by
 unfold dig at h
 simp only [Bool.and_eq_true,decide_eq_true_eq] at h
 refine ⟨?_,bl_not (by omega) (by omega) (by omega) (by omega), ?_, ?_⟩
 ·unfold let_
  rw [← Bool.not_eq_true]
  simp only [Bool.or_eq_true,Bool.and_eq_true,decide_eq_true_eq]
  omega
 ·rintro rfl;simp at h
 ·rintro rfl;simp at h
end Ex
namespace Ex
open Lx
theorem Rt.n {e : E} (h : Rt e) : RtN e := by
 have h0 : N64 (eVal v0) := ⟨by decide,by decide⟩
 induction h with
 | val v h1 h2 h3 => exact .mk h3 (fun x hx => by simp [eVal,E.args] at hx)
 | col t n => exact .mk h0 (fun x hx => by simp [eCol,E.args] at hx)
 | un op a _ _ ih => exact .mk h0 (fun x hx => by simp [eUn,E.args] at hx;subst hx;exact ih)
 | bin op a b _ _ _ ih1 ih2 => exact .mk h0 (fun x hx => by simp [eBin,E.args] at hx;rcases hx with rfl | rfl <;> assumption)
 | is g a b _ _ ih1 ih2 => exact .mk h0 (fun x hx => by simp [eIs,E.args] at hx;rcases hx with rfl | rfl <;> assumption)
 | in_ g a l _ _ _ ih1 ih2 => exact .mk h0 (fun x hx => by
   simp [eIn,E.args] at hx
   rcases hx with rfl | hx
   ·exact ih1
   ·exact ih2 x hx)
 | btw g a b c _ _ _ ih1 ih2 ih3 => exact .mk h0 (fun x hx => by simp [eBtw,E.args] at hx;rcases hx with rfl | rfl | rfl <;> assumption)
 | like g a b _ _ ih1 ih2 => exact .mk h0 (fun x hx => by simp [eLike,E.args] at hx;rcases hx with rfl | rfl <;> assumption)
 | case d l _ _ _ ih => exact .mk h0 ih
 | fn op l _ _ _ _ ih => exact .mk h0 ih
 | agg op d a _ _ ih => exact .mk h0 (fun x hx => by simp [eAgg,E.args] at hx;subst hx;exact ih)
 | star => exact .mk h0 (fun x hx => by simp [eAgg,E.args] at hx)
 | cast op a _ _ ih => exact .mk h0 (fun x hx => by simp [eCast,E.args] at hx;subst hx;exact ih)
end Ex
namespace Ex
open Lx
def Ev (L : List T) (K : K) (p : Nat) (r : R) : Prop := ∃ N,∀ n,N ≤ n → run L n K p = some r
def Sp (L : List T) : Nat → List Pc → Nat → Prop
 | p,[],q => q = p
 | p,none :: r,q => Sp L p r q
 | p,some t :: r,q => L[p]? = some t ∧ Sp L (p + 1) r q
def forbA : List (Nat × Int × S) := [(8,4,mDot),(8,4,zdO),(6,4,[124,124]),(5,4,ziT),(5,4,[47]),(5,4,[37]),(4,4,ziU),(4,4,zdD),
 (3,4,[61]),(3,4,[60,62]),(3,4,[60]),(3,4,[60,61]),(3,4,[62]),(3,4,[62,61]),(3,2,wIs),(3,2,wNot),(3,2,wIn),(3,2,zcP),(3,2,zjk),(1,2,wAnd),(0,2,wOr)]
def stB (k : Nat) (t : T) : Bool := forbA.all fun a => decide (a.1 < k) || !(decide (t.kind = a.2.1) && t.text == a.2.2)
def St (L : List T) (k q : Nat) : Prop := ∀ t,L[q]? = some t → stB k t = true
theorem St.mono {L : List T} {j k q : Nat} (h : St L j q) (hk : j ≤ k) : St L k q := fun t ht => by
 have h1 := h t ht
 unfold stB at *
 rw [List.all_eq_true] at *
 intro a ha
 have := h1 a ha
 simp only [Bool.or_eq_true,decide_eq_true_eq] at this ⊢
 exact this.imp (fun h => by omega) id
theorem St.no {L : List T} {k q j : Nat} {kd : Int} {s : S} (h : St L k q) (hm : (j,kd,s) ∈ forbA) (hk : k ≤ j) : isT L q kd s = false := by
 unfold isT
 split
 ·rename_i t ht
  have h1 := h t ht
  unfold stB at h1
  rw [List.all_eq_true] at h1
  have := h1 _ hm
  simp only [Bool.or_eq_true,decide_eq_true_eq,Bool.not_eq_true'] at this
  exact this.resolve_left (by omega)
 ·rfl
theorem St.of {L : List T} {k q : Nat} {t : T} (ht : L[q]? = some t) (h : stB k t = true) : St L k q := fun u hu => by
 rw [ht] at hu;cases hu;exact h
theorem zdv {L : List T} {q : Nat} {kd : Int} : ∀ {l : List S},(∀ s ∈ l,isT L q kd s = false) → zcI L q kd l = none
 | [],_ => rfl
 | s :: r,h => by
  rw [zcI,h s (by simp),if_neg (by decide)]
  exact zdv fun x hx => h x (List.mem_cons_of_mem _ hx)
theorem St.ops {L : List T} {k q : Nat} (h : St L k q) (hk : k = 0 ∨ k = 1 ∨ k = 4 ∨ k = 5 ∨ k = 6) : zcI L q (ops k).2 (ops k).1 = none := by
 refine zdv fun s hs => ?_
 rcases hk with rfl | rfl | rfl | rfl | rfl
 all_goals
  simp only [Ex.ops,List.mem_cons,List.not_mem_nil,or_false] at hs
  first
   | (rcases hs with rfl | rfl | rfl <;> exact h.no (by decide) (Nat.le_refl _))
   | (rcases hs with rfl | rfl <;> exact h.no (by decide) (Nat.le_refl _))
   | (subst hs;exact h.no (by decide) (Nat.le_refl _))
theorem St.cmps {L : List T} {q : Nat} (h : St L 3 q) : zcI L q 4 cmps = none := by
 refine zdv fun s hs => ?_
 simp only [Ex.cmps,List.mem_cons,List.not_mem_nil,or_false] at hs
 rcases hs with rfl | rfl | rfl | rfl | rfl | rfl <;> exact h.no (by decide) (Nat.le_refl _)
end Ex
namespace Ex
open Lx
def lvOp (op : S) : Nat := if op = wOr then 0 else if op = wAnd then 1 else if op = ziU ∨ op = zdD then 4 else if op = ziT ∨ op = [47] ∨ op = [37] then 5 else if op = [124,124] then 6 else 3
def lv (e : E) : Nat := if e.kind = 3 then (if e.op = wNot then 2 else 7) else if e.kind = 4 then lvOp e.op else if 5 ≤ e.kind ∧ e.kind ≤ 8 then 3 else 7
def B (e : E) : Prop := ∀ L p q,Sp L p (pcs e) q → St L (lv e) q → Ev L (.lev (lv e)) p (.ok [e] q)
def F (e : E) : Prop := ∀ L p q,Sp L p (pcs e) q → 3 ≤ lv e → isT L p 2 wNot = false
end Ex
namespace Ex
open Lx
def G (e : E) : Nat := (print e).length + 14
def Tk (e : E) : Nat := (toks (pcs e)).length + 2
def GL (l : List E) : Nat := (l.map G).sum
def TL (l : List E) : Nat := (l.map Tk).sum
inductive Sm : E → Prop
 | mk {e : E} : N64 e → e.op.length + e.table.length + e.name.length ≤ 400 → e.val.2.2.length ≤ 100 → (∀ x ∈ e.args,Sm x) → Sm e
theorem Sm.a {e : E} (h : Sm e) : ∀ x ∈ e.args,Sm x := by cases h;assumption
theorem Sm.n {e : E} (h : Sm e) : N64 e := by cases h;assumption
theorem Sm.l {e : E} (h : Sm e) : e.op.length + e.table.length + e.name.length ≤ 400 := by cases h;assumption
theorem Sm.v {e : E} (h : Sm e) : e.val.2.2.length ≤ 100 := by cases h;assumption
end Ex
namespace Ex
open Lx
def wt (t : T) : Nat := 40 + 5 * t.text.length
def cw (L : List T) (p : Nat) : Nat := ((L.take p).map wt).sum
structure Wg (L : List T) (e : E) (p q : Nat) : Prop where
 g : G e + cw L p ≤ cw L q
 t : Tk e + 3 * p ≤ 3 * q
 c : count e + p ≤ q
structure WgL (L : List T) (l : List E) (p q : Nat) : Prop where
 g : GL l + cw L p ≤ cw L q
 t : TL l + 3 * p ≤ 3 * q
 c : zgT l + p ≤ q
theorem one_l (a : E) : GL [a] = G a ∧ TL [a] = Tk a ∧ zgT [a] = count a := by simp [GL,TL,zgT]
end Ex
namespace Ex
open Lx
structure Good1 (t : T) : Prop where
 name : t.kind = 1 → nmE t.text = true
 may : t.kind = 3 → mayV t.val = true
 nat : t.kind = 3 → t.val.1 = 1 → 0 ≤ t.val.2.1
 lo : -9223372036854775807 ≤ t.val.2.1
 hi : t.val.2.1 ≤ 9223372036854775807
 len : t.val.2.2.length ≤ 2 * t.text.length
 int : t.val.1 = 1 → t.val.2.2 = []
def place (l : List TA) (n i : Nat) : Nat := match l[i]? with | some t => t.2 | none => n
inductive OfR (s : S) : E → Nat → Int → Prop
 | bad (l : List TA) (a : Nat) (no : Int) : scan s = (l,a,no) → no ≠ 0 → OfR s e0 a no
 | stop (l : List TA) (a m q : Nat) : scan s = (l,a,0) → run (l.map (·.1)) m (.lev 0) 0 = some (.stop q) → OfR s e0 (place l s.length q) 20
 | deep (l : List TA) (a m q : Nat) (e : E) : scan s = (l,a,0) → run (l.map (·.1)) m (.lev 0) 0 = some (.ok [e] q) → 24 < deep e → OfR s e0 (place l s.length 0) 12
 | rest (l : List TA) (a m q : Nat) (e : E) (t : TA) : scan s = (l,a,0) → run (l.map (·.1)) m (.lev 0) 0 = some (.ok [e] q) → deep e ≤ 24 → l[q]? = some t → t.1.kind ≠ 0 → OfR s e0 t.2 20
 | ok (l : List TA) (a m q : Nat) (e : E) : scan s = (l,a,0) → run (l.map (·.1)) m (.lev 0) 0 = some (.ok [e] q) → deep e ≤ 24 → (∀ t,l[q]? = some t → t.1.kind = 0) → OfR s e s.length 0
end Ex
namespace Ex
open Lx
mutual
def same : E → E → Bool
 | .mk k o v t n s g d a,.mk k' o' v' t' n' s' g' d' a' => k == k' && (o == o' && (v == v' && (fold t == fold t' && (fold n == fold n' && (s == s' && (g == g' && (d == d' && (a.length == a'.length && sames a a'))))))))
termination_by structural x => x
def sames : List E → List E → Bool
 | [],_ => true
 | e :: r,l => match l with | [] => true | f :: q => same e f && sames r q
termination_by structural x => x
end
mutual
def equal : E → E → Bool
 | .mk k o v t n s g d a,.mk k' o' v' t' n' s' g' d' a' => same (.mk k o v t n s g d a) (.mk k' o' v' t' n' s' g' d' a') && (t == t' && (n == n' && equals a a'))
termination_by structural x => x
def equals : List E → List E → Bool
 | [],_ => true
 | e :: r,l => match l with | [] => true | f :: q => equal e f && equals r q
termination_by structural x => x
end
mutual
theorem zgu : ∀ e,same e e = true
 | .mk k o v t n s g d a => by rw [same,ze2 a];simp
theorem ze2 : ∀ l,sames l l = true
 | [] => rfl
 | e :: r => by rw [sames,zgu e,ze2 r];rfl
end
mutual
theorem zgv : ∀ e f,same e f = same f e
 | .mk k o v t n s g d a,.mk k' o' v' t' n' s' g' d' a' => by
  rw [same,same,ze3 a a',Bool.beq_comm (a := k),Bool.beq_comm (a := o),Bool.beq_comm (a := v),Bool.beq_comm (a := fold t),Bool.beq_comm (a := fold n),Bool.beq_comm (a := s),Bool.beq_comm (a := g),Bool.beq_comm (a := d),Bool.beq_comm (a := a.length)]
theorem ze3 : ∀ l m,sames l m = sames m l
 | [],[] => rfl
 | [],_ :: _ => rfl
 | _ :: _,[] => rfl
 | e :: r,f :: q => by
  show (same e f && sames r q) = (same f e && sames q r)
  rw [zgv e f,ze3 r q]
end
inductive Sh : E → Prop
 | mk {e : E} : e.table.length ≤ 1000000 → e.name.length ≤ 1000000 → (∀ x ∈ e.args,Sh x) → Sh e
theorem Sh.t {e : E} (h : Sh e) : e.table.length ≤ 1000000 := by cases h;assumption
theorem Sh.n {e : E} (h : Sh e) : e.name.length ≤ 1000000 := by cases h;assumption
theorem Sh.a {e : E} (h : Sh e) : ∀ x ∈ e.args,Sh x := by cases h;assumption
end Ex
