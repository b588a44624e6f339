/- Part of the proof: see the last text. -/
import Derived.Test.YtakegkongmnekaaGreatDoorP0
import Derived.Test.YtakegkongmnekaaGreatDoorP24
set_option maxRecDepth 20000
set_option linter.unusedVariables false
set_option linter.unusedSimpArgs false
namespace Ex
open Lx
abbrev S := List UInt8
abbrev V := Int × Int × S
inductive E where
 | mk (kind : Int) (op : S) (val : V) (table name : S) (slot : Int) (neg dist : Bool) (args : List E)
def E.kind : E → Int | .mk k _ _ _ _ _ _ _ _ => k
def E.op : E → S | .mk _ o _ _ _ _ _ _ _ => o
def E.val : E → V | .mk _ _ v _ _ _ _ _ _ => v
def E.table : E → S | .mk _ _ _ t _ _ _ _ _ => t
def E.name : E → S | .mk _ _ _ _ n _ _ _ _ => n
def E.slot : E → Int | .mk _ _ _ _ _ s _ _ _ => s
def E.neg : E → Bool | .mk _ _ _ _ _ _ b _ _ => b
def E.dist : E → Bool | .mk _ _ _ _ _ _ _ d _ => d
def E.args : E → List E | .mk _ _ _ _ _ _ _ _ a => a
def v0 : V := (0, 0, [])
def e0 : E := .mk 0 [] v0 [] [] 0 false false []
def eVal (v : V) : E := .mk 1 [] v [] [] 0 false false []
def eCol (t n : S) : E := .mk 2 [] v0 t n 0 false false []
def eUn (op : S) (a : E) : E := .mk 3 op v0 [] [] 0 false false [a]
def eBin (op : S) (a b : E) : E := .mk 4 op v0 [] [] 0 false false [a, b]
def eIs (n : Bool) (a b : E) : E := .mk 5 [] v0 [] [] 0 n false [a, b]
def eIn (n : Bool) (l : List E) : E := .mk 6 [] v0 [] [] 0 n false l
def eBtw (n : Bool) (a b c : E) : E := .mk 7 [] v0 [] [] 0 n false [a, b, c]
def zaY (n : Bool) (a b : E) : E := .mk 8 [] v0 [] [] 0 n false [a, b]
def eCase (d : Bool) (l : List E) : E := .mk 9 [] v0 [] [] 0 false d l
def eFn (op : S) (l : List E) : E := .mk 10 op v0 [] [] 0 false false l
def eAgg (op : S) (d : Bool) (l : List E) : E := .mk 11 op v0 [] [] 0 false d l
def za0 (op : S) (a : E) : E := .mk 12 op v0 [] [] 0 false false [a]
def wNot : S := [110, 111, 116]
def wIs : S := [105, 115]
def wIn : S := [105, 110]
def zaO : S := [98, 101, 116, 119, 101, 101, 110]
def zbV : S := [108, 105, 107, 101]
def wAnd : S := [97, 110, 100]
def wOr : S := [111, 114]
def zdk : S := [110, 117, 108, 108]
def wCase : S := [99, 97, 115, 101]
def zcI : S := [99, 97, 115, 116]
def zb4 : S := [119, 104, 101, 110]
def zda : S := [116, 104, 101, 110]
def zcA : S := [101, 108, 115, 101]
def wEnd : S := [101, 110, 100]
def wAs : S := [97, 115]
def wDistinct : S := [100, 105, 115, 116, 105, 110, 99, 116]
def zbr : S := [99, 111, 117, 110, 116]
def zbv : S := [40]
def zbh : S := [41]
def zcx : S := [44]
def mDot : S := [46]
def zca : S := [42]
def zbb : S := [45]
def zbN : S := [43]
def cmps : List S := [[61], [60, 62], [60], [60, 61], [62], [62, 61]]
def aggs : List S := [zbr, [115, 117, 109], [109, 105, 110], [109, 97, 120], [97, 118, 103], [116, 111, 116, 97, 108]]
def zdN : List S := [[105, 110, 116], [116, 101, 120, 116], [98, 108, 111, 98]]
def isT (L : List T) (p : Nat) (k : Int) (s : S) : Bool := match L[p]? with | some t => decide (t.kind = k) && t.text == s | none => false
def isK (L : List T) (p : Nat) (k : Int) : Bool := match L[p]? with | some t => decide (t.kind = k) | none => false
def oneOf (L : List T) (p : Nat) (k : Int) : List S → Option S
 | [] => none
 | s :: r => if isT L p k s then some s else oneOf L p k r
inductive R where
 | ok (l : List E) (p : Nat)
 | stop (p : Nat)
inductive K where
 | lev (n : Nat)
 | chain (n : Nat) (e : E)
 | list (acc : List E)
 | whens (d : Bool) (acc : List E)
def ops : Nat → List S × Int
 | 0 => ([wOr], 2)
 | 1 => ([wAnd], 2)
 | 4 => ([zbN, zbb], 4)
 | 5 => ([zca, [47], [37]], 4)
 | _ => ([[124, 124]], 4)
def need (L : List T) (k : Int) (s : S) (p : Nat) (f : Nat → Option R) : Option R := if isT L p k s then f (p + 1) else some (.stop p)
def then1 (r : Option R) (f : E → Nat → Option R) : Option R := match r with
 | some (.ok [e] q) => f e q
 | some (.ok _ _) => none
 | some (.stop q) => some (.stop q)
 | none => none
def zhY (r : Option R) (f : List E → Nat → Option R) : Option R := match r with
 | some (.ok l q) => f l q
 | some (.stop q) => some (.stop q)
 | none => none
def one (e : E) (p : Nat) : Option R := some (.ok [e] p)
def run (L : List T) : Nat → K → Nat → Option R
 | 0, _, _ => none
 | n + 1, .lev 2, p => if isT L p 2 wNot then then1 (run L n (.lev 2) (p + 1)) fun e q => one (eUn wNot e) q else run L n (.lev 3) p
 | n + 1, .lev 3, p => then1 (run L n (.lev 4) p) fun a q =>
   match oneOf L q 4 cmps with
   | some op => then1 (run L n (.lev 4) (q + 1)) fun b r => one (eBin op a b) r
   | none =>
    if isT L q 2 wIs then
     (fun nt => then1 (run L n (.lev 4) (if nt then q + 2 else q + 1)) fun b r => one (eIs nt a b) r) (isT L (q + 1) 2 wNot)
    else
     (fun nt => (fun q2 =>
      if isT L q2 2 wIn then need L 4 zbv (q2 + 1) fun q3 => zhY (run L n (.list []) q3) fun l r => one (eIn nt (a :: l)) r
      else if isT L q2 2 zaO then then1 (run L n (.lev 4) (q2 + 1)) fun b r => need L 2 wAnd r fun r2 => then1 (run L n (.lev 4) r2) fun c r3 => one (eBtw nt a b c) r3
      else if isT L q2 2 zbV then then1 (run L n (.lev 4) (q2 + 1)) fun b r => one (zaY nt a b) r
      else one a q2) (if nt then q + 1 else q))
      (isT L q 2 wNot && (isT L (q + 1) 2 wIn || isT L (q + 1) 2 zaO || isT L (q + 1) 2 zbV))
 | n + 1, .lev 7, p =>
   match oneOf L p 4 [zbb, zbN] with
   | none => run L n (.lev 8) p
   | some op =>
    match L[p + 1]? with
    | some t => if op == zbb && decide (t.kind = 3) && decide (t.val.1 = 1) then one (eVal (t.val.1, -t.val.2.1, t.val.2.2)) (p + 2) else then1 (run L n (.lev 7) (p + 1)) fun e q => one (eUn op e) q
    | none => then1 (run L n (.lev 7) (p + 1)) fun e q => one (eUn op e) q
 | n + 1, .lev 8, p =>
   match L[p]? with
   | none => some (.stop p)
   | some t =>
    if t.kind = 3 then one (eVal t.val) (p + 1)
    else if t.kind = 1 then
     if isT L (p + 1) 4 mDot then
      (match L[p + 2]? with
      | some u => if u.kind = 1 then one (eCol t.text u.text) (p + 3) else some (.stop (p + 2))
      | none => some (.stop (p + 2)))
     else if isT L (p + 1) 4 zbv then
      (if aggs.contains (fold t.text) then
       (if fold t.text == zbr && isT L (p + 2) 4 zca then need L 4 zbh (p + 3) fun q => one (eAgg (fold t.text) false []) q
       else (fun d => then1 (run L n (.lev 0) (if d then p + 3 else p + 2)) fun e q => need L 4 zbh q fun r => one (eAgg (fold t.text) d [e]) r) (isT L (p + 2) 2 wDistinct))
      else if isT L (p + 2) 4 zbh then one (eFn (fold t.text) []) (p + 3)
      else zhY (run L n (.list []) (p + 2)) fun l q => one (eFn (fold t.text) l) q)
     else one (eCol [] t.text) (p + 1)
    else if isT L p 2 zdk then one (eVal v0) (p + 1)
    else if isT L p 2 wCase then
     (if isT L (p + 1) 2 zb4 then run L n (.whens false []) (p + 1)
     else then1 (run L n (.lev 0) (p + 1)) fun e q => run L n (.whens true [e]) q)
    else if isT L p 2 zcI then
     need L 4 zbv (p + 1) fun q => then1 (run L n (.lev 0) q) fun e r => need L 2 wAs r fun r2 =>
      (match L[r2]? with
      | some u => if (decide (u.kind = 2) || decide (u.kind = 1)) && zdN.contains (fold u.text) then need L 4 zbh (r2 + 1) fun r3 => one (za0 (fold u.text) e) r3 else some (.stop r2)
      | none => some (.stop r2))
    else if isT L p 4 zbv then then1 (run L n (.lev 0) (p + 1)) fun e q => need L 4 zbh q fun r => one e r
    else some (.stop p)
 | n + 1, .lev k, p => then1 (run L n (.lev (k + 1)) p) fun e q => run L n (.chain k e) q
 | n + 1, .chain k e, p =>
   match oneOf L p (ops k).2 (ops k).1 with
   | none => one e p
   | some op => then1 (run L n (.lev (k + 1)) (p + 1)) fun b q => run L n (.chain k (eBin op e b)) q
 | n + 1, .list acc, p => then1 (run L n (.lev 0) p) fun e q =>
   if isT L q 4 zcx then run L n (.list (acc ++ [e])) (q + 1) else need L 4 zbh q fun r => some (.ok (acc ++ [e]) r)
 | n + 1, .whens d acc, p => need L 2 zb4 p fun p1 => then1 (run L n (.lev 0) p1) fun a q => need L 2 zda q fun q1 => then1 (run L n (.lev 0) q1) fun b r =>
   if isT L r 2 zb4 then run L n (.whens d (acc ++ [a, b])) r
   else if isT L r 2 zcA then then1 (run L n (.lev 0) (r + 1)) fun c r2 => need L 2 wEnd r2 fun r3 => one (eCase d (acc ++ [a, b, c])) r3
   else need L 2 wEnd r fun r3 => one (eCase d (acc ++ [a, b])) r3
end Ex
namespace Ex
open Lx
def Fw (N p : Nat) : Option R → Prop
 | none => True
 | some (.ok _ q) => p < q ∧ q ≤ N
 | some (.stop q) => q ≤ N
theorem isT_lt {L : List T} {p : Nat} {k : Int} {s : S} (h : isT L p k s = true) : p < L.length := by
 rcases Nat.lt_or_ge p L.length with h1 | h1
 ·exact h1
 ·simp [isT, h1] at h
theorem zaB {L : List T} {p : Nat} {k : Int} {s : S} : ∀ {l : List S}, oneOf L p k l = some s → p < L.length ∧ isT L p k s = true ∧ s ∈ l
 | [], h => by cases h
 | a :: r, h => by
  simp only [oneOf] at h
  split at h
  ·rename_i h1
   cases h
   exact ⟨isT_lt h1, h1, by simp⟩
  ·obtain ⟨h1, h2, h3⟩ := zaB h
   exact ⟨h1, h2, by simp [h3]⟩
theorem then1_some {r : Option R} {f : E → Nat → Option R} {x : R} (h : then1 r f = some x) : (∃ e q, r = some (.ok [e] q) ∧ f e q = some x) ∨ ∃ q, r = some (.stop q) ∧ x = .stop q := by
 unfold then1 at h
 split at h
 ·exact .inl ⟨_, _, rfl, h⟩
 ·cases h
 ·cases h; exact .inr ⟨_, rfl, rfl⟩
 ·cases h
theorem thenL_some {r : Option R} {f : List E → Nat → Option R} {x : R} (h : zhY r f = some x) : (∃ e q, r = some (.ok e q) ∧ f e q = some x) ∨ ∃ q, r = some (.stop q) ∧ x = .stop q := by
 unfold zhY at h
 split at h
 ·exact .inl ⟨_, _, rfl, h⟩
 ·cases h; exact .inr ⟨_, rfl, rfl⟩
 ·cases h
theorem need_some {L : List T} {k : Int} {s : S} {p : Nat} {f : Nat → Option R} {x : R} (h : need L k s p f = some x) : (isT L p k s = true ∧ f (p + 1) = some x) ∨ (isT L p k s = false ∧ x = .stop p) := by
 unfold need at h
 split at h
 ·rename_i h1; exact .inl ⟨h1, h⟩
 ·rename_i h1; cases h; exact .inr ⟨by simpa using h1, rfl⟩
theorem Fw.mono {N p p' : Nat} {r : Option R} (h : Fw N p' r) (hp : p ≤ p') : Fw N p r := by
 unfold Fw at *
 split
 ·trivial
 ·exact ⟨by simp at h; omega, by simp at h; omega⟩
 ·simpa using h
theorem zbe {N p p' : Nat} {r : Option R} {f : E → Nat → Option R} (h : Fw N p' r) (hp : p ≤ p') (hf : ∀ e q, p' < q → q ≤ N → Fw N p (f e q)) : Fw N p (then1 r f) := by
 unfold then1
 split
 ·exact hf _ _ h.1 h.2
 ·trivial
 ·exact h
 ·trivial
theorem zlT {N p p' : Nat} {r : Option R} {f : List E → Nat → Option R} (h : Fw N p' r) (hp : p ≤ p') (hf : ∀ e q, p' < q → q ≤ N → Fw N p (f e q)) : Fw N p (zhY r f) := by
 unfold zhY
 split
 ·exact hf _ _ h.1 h.2
 ·exact h
 ·trivial
theorem zb9 {L : List T} {k : Int} {s : S} {p q : Nat} {f : Nat → Option R} (hq : q ≤ L.length) (hf : q < L.length → Fw L.length p (f (q + 1))) : Fw L.length p (need L k s q f) := by
 unfold need
 split
 ·rename_i h; exact hf (isT_lt h)
 ·exact hq
theorem zbD {N p q : Nat} {e : E} (h1 : p < q) (h2 : q ≤ N) : Fw N p (one e q) := ⟨h1, h2⟩
theorem zdd (L : List T) (n k p : Nat) (hk : k ≠ 2 ∧ k ≠ 3 ∧ k ≠ 7 ∧ k ≠ 8) : run L (n + 1) (.lev k) p = then1 (run L n (.lev (k + 1)) p) fun e q => run L n (.chain k e) q := by
 match k, hk with
 | 0, _ => rfl
 | 1, _ => rfl
 | 4, _ => rfl
 | 5, _ => rfl
 | 6, _ => rfl
 | k + 9, _ => rfl
def FwC (N p : Nat) : Option R → Prop
 | none => True
 | some (.ok _ q) => p ≤ q ∧ q ≤ N
 | some (.stop q) => q ≤ N
theorem FwC.fw {N p q : Nat} {r : Option R} (h : FwC N q r) (hp : p < q) : Fw N p r := by
 unfold FwC at h
 unfold Fw
 split
 ·trivial
 ·simp at h; exact ⟨by omega, h.2⟩
 ·simpa using h
theorem znX {N p p' : Nat} {r : Option R} {f : E → Nat → Option R} (h : Fw N p' r) (hf : ∀ e q, p' < q → q ≤ N → FwC N p (f e q)) : FwC N p (then1 r f) := by
 unfold then1
 split
 ·exact hf _ _ h.1 h.2
 ·trivial
 ·exact h
 ·trivial
theorem FwC.mono {N p p' : Nat} {r : Option R} (h : FwC N p' r) (hp : p ≤ p') : FwC N p r := by
 unfold FwC at *
 split
 ·trivial
 ·exact ⟨by simp at h; omega, by simp at h; omega⟩
 ·simpa using h
theorem zdo (L : List T) : ∀ n, (∀ k p, p ≤ L.length → Fw L.length p (run L n (.lev k) p)) ∧ (∀ k e p, p ≤ L.length → FwC L.length p (run L n (.chain k e) p)) ∧ (∀ acc p, p ≤ L.length → Fw L.length p (run L n (.list acc) p)) ∧ (∀ d acc p, p ≤ L.length → Fw L.length p (run L n (.whens d acc) p))
 | 0 => ⟨fun _ _ _ => trivial, fun _ _ _ _ => trivial, fun _ _ _ => trivial, fun _ _ _ _ => trivial⟩
 | n + 1 => by
  obtain ⟨hl, hc, hs, hw⟩ := zdo L n
  refine ⟨fun k p hp => ?_, fun k e p hp => ?_, fun acc p hp => ?_, fun d acc p hp => ?_⟩
  ·by_cases hk : k ≠ 2 ∧ k ≠ 3 ∧ k ≠ 7 ∧ k ≠ 8
   ·rw [zdd L n k p hk]
    exact zbe (hl _ p hp) (Nat.le_refl _) fun e q h1 h2 => (hc k e q h2).fw h1
   ·have hk' : k = 2 ∨ k = 3 ∨ k = 7 ∨ k = 8 := by omega
    rcases hk' with rfl | rfl | rfl | rfl
    ·simp only [run]
     split
     ·rename_i h
      have := isT_lt h
      exact zbe (hl _ (p + 1) (by omega)) (by omega) fun e q h1 h2 => zbD (by omega) h2
     ·exact hl _ p hp
    ·simp only [run]
     refine zbe (hl _ p hp) (Nat.le_refl _) fun e q h1 h2 => ?_
     split
     ·rename_i op ho
      have := (zaB ho).1
      exact zbe (hl _ (q + 1) (by omega)) (by omega) fun e q h1 h2 => zbD (by omega) h2
     ·split
      ·rename_i ht
       have := isT_lt ht
       split
       ·rename_i ht2
        have := isT_lt ht2
        exact zbe (hl _ (q + 2) (by omega)) (by omega) fun e q h1 h2 => zbD (by omega) h2
       ·exact zbe (hl _ (q + 1) (by omega)) (by omega) fun e q h1 h2 => zbD (by omega) h2
      ·have hq2 : ∃ q2, (if (isT L q 2 wNot && (isT L (q + 1) 2 wIn || isT L (q + 1) 2 zaO || isT L (q + 1) 2 zbV)) = true then q + 1 else q) = q2 ∧ q ≤ q2 ∧ q2 ≤ L.length := by
        split
        ·rename_i h
         simp only [Bool.and_eq_true] at h
         have := isT_lt h.1
         exact ⟨_, rfl, by omega, by omega⟩
        ·exact ⟨_, rfl, Nat.le_refl _, h2⟩
       obtain ⟨q2, hq2, h3, h4⟩ := hq2
       rw [hq2]
       split
       ·rename_i ht
        have := isT_lt ht
        exact zb9 (by omega) fun h5 => zlT (hs _ (q2 + 2) (by omega)) (by omega) fun e q h1 h2 => zbD (by omega) h2
       ·split
        ·rename_i ht
         have := isT_lt ht
         refine zbe (hl _ (q2 + 1) (by omega)) (by omega) fun e r h1 h2 => zb9 (by omega) fun h5 => zbe (hl _ (r + 1) (by omega)) (by omega) fun e q h1 h2 => zbD (by omega) h2
        ·split
         ·rename_i ht
          have := isT_lt ht
          exact zbe (hl _ (q2 + 1) (by omega)) (by omega) fun e q h1 h2 => zbD (by omega) h2
         ·exact zbD (by omega) h4
    ·simp only [run]
     split
     ·exact hl _ p hp
     ·rename_i op ho
      have := (zaB ho).1
      split
      ·rename_i t ht
       have := (List.getElem?_eq_some_iff.1 ht).1
       split
       ·exact zbD (by omega) (by omega)
       ·exact zbe (hl _ (p + 1) (by omega)) (by omega) fun e q h1 h2 => zbD (by omega) h2
      ·exact zbe (hl _ (p + 1) (by omega)) (by omega) fun e q h1 h2 => zbD (by omega) h2
    ·simp only [run]
     split
     ·exact hp
     ·rename_i t ht
      have hlt := (List.getElem?_eq_some_iff.1 ht).1
      split
      ·exact zbD (by omega) (by omega)
      split
      ·split
       ·rename_i hd
        have := isT_lt hd
        split
        ·rename_i u hu
         have := (List.getElem?_eq_some_iff.1 hu).1
         split
         ·exact zbD (by omega) (by omega)
         ·exact (by omega : p + 2 ≤ L.length)
        ·exact (by omega : p + 2 ≤ L.length)
       split
       ·rename_i ho
        have := isT_lt ho
        split
        ·split
         ·rename_i hst
          simp only [Bool.and_eq_true] at hst
          have := isT_lt hst.2
          exact zb9 (by omega) fun h5 => zbD (by omega) (by omega)
         ·split
          ·rename_i hd
           have := isT_lt hd
           exact zbe (hl _ (p + 3) (by omega)) (by omega) fun e q h1 h2 => zb9 (by omega) fun h5 => zbD (by omega) (by omega)
          ·exact zbe (hl _ (p + 2) (by omega)) (by omega) fun e q h1 h2 => zb9 (by omega) fun h5 => zbD (by omega) (by omega)
        ·split
         ·rename_i hd
          have := isT_lt hd
          exact zbD (by omega) (by omega)
         ·exact zlT (hs _ (p + 2) (by omega)) (by omega) fun e q h1 h2 => zbD (by omega) (by omega)
       ·exact zbD (by omega) (by omega)
      split
      ·exact zbD (by omega) (by omega)
      split
      ·split
       ·exact (hw _ _ (p + 1) (by omega)).mono (by omega)
       ·exact zbe (hl _ (p + 1) (by omega)) (by omega) fun e q h1 h2 => (hw _ _ q h2).mono (by omega)
      split
      ·refine zb9 (by omega) fun h5 => zbe (hl _ (p + 2) (by omega)) (by omega) fun e r h1 h2 => zb9 h2 fun h6 => ?_
       split
       ·rename_i u hu
        have := (List.getElem?_eq_some_iff.1 hu).1
        split
        ·exact zb9 (by omega) fun h5 => zbD (by omega) (by omega)
        ·exact (by omega : r + 1 ≤ L.length)
       ·exact (by omega : r + 1 ≤ L.length)
      split
      ·exact zbe (hl _ (p + 1) (by omega)) (by omega) fun e q h1 h2 => zb9 (by omega) fun h5 => zbD (by omega) (by omega)
      ·exact hp
  ·simp only [run]
   split
   ·exact ⟨Nat.le_refl _, hp⟩
   ·rename_i op ho
    have := (zaB ho).1
    exact znX (hl _ (p + 1) (by omega)) fun e q h1 h2 => (hc _ _ q h2).mono (by omega)
  ·simp only [run]
   refine zbe (hl _ p hp) (Nat.le_refl _) fun e q h1 h2 => ?_
   split
   ·rename_i hd
    have := isT_lt hd
    exact (hs _ (q + 1) (by omega)).mono (by omega)
   ·exact zb9 (by omega) fun h5 => ⟨by omega, by omega⟩
  ·simp only [run]
   refine zb9 hp fun h0 => zbe (hl _ (p + 1) (by omega)) (by omega) fun e q h1 h2 => zb9 (by omega) fun h5 => zbe (hl _ (q + 1) (by omega)) (by omega) fun e r h3 h4 => ?_
   split
   ·exact (hw _ _ r h4).mono (by omega)
   split
   ·rename_i hd
    have := isT_lt hd
    exact zbe (hl _ (r + 1) (by omega)) (by omega) fun e q h1 h2 => zb9 (by omega) fun h5 => zbD (by omega) (by omega)
   ·exact zb9 (by omega) fun h5 => zbD (by omega) (by omega)
theorem za6 {L : List T} {n k p q : Nat} {e : List E} (hp : p ≤ L.length) (h : run L n (.lev k) p = some (.ok e q)) : p < q ∧ q ≤ L.length := by
 have := (zdo L n).1 k p hp
 rw [h] at this
 exact this
theorem zlc {L : List T} {n k p q : Nat} (hp : p ≤ L.length) (h : run L n (.lev k) p = some (.stop q)) : q ≤ L.length := by
 have := (zdo L n).1 k p hp
 rw [h] at this
 exact this
theorem zhn {L : List T} {n p q : Nat} {e acc : List E} (hp : p ≤ L.length) (h : run L n (.list acc) p = some (.ok e q)) : p < q ∧ q ≤ L.length := by
 have := (zdo L n).2.2.1 acc p hp
 rw [h] at this
 exact this
theorem zdZ (L : List T) : ∀ (n p q : Nat) (acc l : List E), p ≤ L.length → run L n (.list acc) p = some (.ok l q) → l.length + p ≤ acc.length + q
 | 0, _, _, _, _, _, h => by cases h
 | n + 1, p, q, acc, l, hp, h => by
  simp only [run] at h
  rcases then1_some h with ⟨e, q1, h1, h2⟩ | ⟨_, _, h2⟩
  ·have hf := za6 hp h1
   split at h2
   ·rename_i hc
    have := isT_lt hc
    have := zdZ L n (q1 + 1) q _ l (by omega) h2
    simp at this
    omega
   ·rcases need_some h2 with ⟨_, h3⟩ | ⟨_, h3⟩
    ·simp at h3
     obtain ⟨rfl, rfl⟩ := h3
     simp
     omega
    ·cases h3
  ·cases h2
end Ex
namespace Ex
theorem zl {L : List Lx.TA} {p : Nat} {k : Int} {s : List UInt8} (h : isT (L.map (·.1)) p k s = true) : p < L.length := by simpa using isT_lt h
end Ex

namespace Ex
open Lx
def zjJ (L : List T) (n : Nat) (op : S) (p : Nat) : Option R :=
 if aggs.contains op then
  (if op == zbr && isT L p 4 zca then need L 4 zbh (p + 1) fun q => one (eAgg op false []) q
  else (fun d => then1 (run L n (.lev 0) (if d then p + 1 else p)) fun e q => need L 4 zbh q fun r => one (eAgg op d [e]) r) (isT L p 2 wDistinct))
 else if isT L p 4 zbh then one (eFn op []) (p + 1)
 else zhY (run L n (.list []) p) fun l q => one (eFn op l) q
def zhD (L : List T) (n : Nat) (nm : S) (p : Nat) : Option R :=
 if isT L p 4 mDot then
  (match L[p + 1]? with
  | some u => if u.kind = 1 then one (eCol nm u.text) (p + 2) else some (.stop (p + 1))
  | none => some (.stop (p + 1)))
 else if isT L p 4 zbv then zjJ L n (fold nm) (p + 1)
 else one (eCol [] nm) p
def zkR (L : List T) (n : Nat) (p : Nat) : Option R :=
 need L 4 zbv p fun q => then1 (run L n (.lev 0) q) fun e r => need L 2 wAs r fun r2 =>
  (match L[r2]? with
  | some u => if (decide (u.kind = 2) || decide (u.kind = 1)) && zdN.contains (fold u.text) then need L 4 zbh (r2 + 1) fun r3 => one (za0 (fold u.text) e) r3 else some (.stop r2)
  | none => some (.stop r2))
def zeI (L : List T) (n : Nat) (p : Nat) : Option R :=
 if isT L p 2 zb4 then run L n (.whens false []) p else then1 (run L n (.lev 0) p) fun e q => run L n (.whens true [e]) q
def zfH (L : List T) (n : Nat) (d : Bool) (acc : List E) (r : Nat) : Option R :=
 if isT L r 2 zcA then then1 (run L n (.lev 0) (r + 1)) fun c r2 => need L 2 wEnd r2 fun r3 => one (eCase d (acc ++ [c])) r3
 else need L 2 wEnd r fun r3 => one (eCase d acc) r3
def ziR (L : List T) (n : Nat) (d : Bool) (acc : List E) (p1 : Nat) : Option R :=
 then1 (run L n (.lev 0) p1) fun a q => need L 2 zda q fun q1 => then1 (run L n (.lev 0) q1) fun b r =>
   if isT L r 2 zb4 then run L n (.whens d (acc ++ [a, b])) r else zfH L n d (acc ++ [a, b]) r
theorem zcv (L : List T) (n : Nat) (d : Bool) (acc : List E) (p : Nat) : run L (n + 1) (.whens d acc) p = need L 2 zb4 p fun p1 => ziR L n d acc p1 := by
 rw [run]
 unfold ziR zfH
 simp only [List.append_assoc, List.cons_append, List.nil_append]
theorem zdX (L : List T) (n p : Nat) : run L (n + 1) (.lev 8) p = match L[p]? with
   | none => some (.stop p)
   | some t =>
    if t.kind = 3 then one (eVal t.val) (p + 1)
    else if t.kind = 1 then zhD L n t.text (p + 1)
    else if isT L p 2 zdk then one (eVal v0) (p + 1)
    else if isT L p 2 wCase then zeI L n (p + 1)
    else if isT L p 2 zcI then zkR L n (p + 1)
    else if isT L p 4 zbv then then1 (run L n (.lev 0) (p + 1)) fun e q => need L 4 zbh q fun r => one e r
    else some (.stop p) := by
 rw [run]
 rfl
end Ex
namespace Ex
open Lx
def Def1 (o : Option R) : Prop := (∃ e q, o = some (.ok [e] q)) ∨ ∃ q, o = some (.stop q)
def DefL (o : Option R) : Prop := ∃ r, o = some r
theorem zaZ {r : Option R} {f : E → Nat → Option R} (h : Def1 r) (hf : ∀ e q, r = some (.ok [e] q) → Def1 (f e q)) : Def1 (then1 r f) := by
 rcases h with ⟨e, q, h⟩ | ⟨q, h⟩
 ·have := hf e q h
  subst h
  exact this
 ·subst h
  exact .inr ⟨_, rfl⟩
theorem zmW {r : Option R} {f : E → Nat → Option R} (h : Def1 r) (hf : ∀ e q, r = some (.ok [e] q) → DefL (f e q)) : DefL (then1 r f) := by
 rcases h with ⟨e, q, h⟩ | ⟨q, h⟩
 ·have := hf e q h
  subst h
  exact this
 ·subst h
  exact ⟨_, rfl⟩
theorem zj3 {r : Option R} {f : List E → Nat → Option R} (h : DefL r) (hf : ∀ e q, r = some (.ok e q) → Def1 (f e q)) : Def1 (zhY r f) := by
 obtain ⟨r, h⟩ := h
 subst h
 cases r with
 | ok l q => exact hf l q rfl
 | stop q => exact .inr ⟨_, rfl⟩
theorem zbM {L : List T} {k : Int} {s : S} {p : Nat} {f : Nat → Option R} (hf : p < L.length → Def1 (f (p + 1))) : Def1 (need L k s p f) := by
 unfold need
 split
 ·rename_i h; exact hf (isT_lt h)
 ·exact .inr ⟨_, rfl⟩
theorem zoS {L : List T} {k : Int} {s : S} {p : Nat} {f : Nat → Option R} (hf : p < L.length → DefL (f (p + 1))) : DefL (need L k s p f) := by
 unfold need
 split
 ·rename_i h; exact hf (isT_lt h)
 ·exact ⟨_, rfl⟩
theorem zbg {e : E} {p : Nat} : Def1 (one e p) := .inl ⟨_, _, rfl⟩
theorem zei {p : Nat} : Def1 (some (.stop p)) := .inr ⟨_, rfl⟩
theorem zoh (L : List T) : ∀ n, (∀ k p, k ≤ 8 → p ≤ L.length → 12 * (L.length - p) + 10 - k ≤ n → Def1 (run L n (.lev k) p)) ∧
  (∀ k e p, k ≤ 7 → p ≤ L.length → 12 * (L.length - p) + 1 ≤ n → Def1 (run L n (.chain k e) p)) ∧
  (∀ acc p, p ≤ L.length → 12 * (L.length - p) + 11 ≤ n → DefL (run L n (.list acc) p)) ∧
  (∀ d acc p, p ≤ L.length → 12 * (L.length - p) + 11 ≤ n → Def1 (run L n (.whens d acc) p))
 | 0 => ⟨fun _ _ _ _ h => by omega, fun _ _ _ _ _ h => by omega, fun _ _ _ h => by omega, fun _ _ _ _ h => by omega⟩
 | n + 1 => by
  obtain ⟨hl, hc, hs, hw⟩ := zoh L n
  obtain ⟨fl, fc, fs, fw⟩ := zdo L n
  have fl' : ∀ {k p e q}, p ≤ L.length → run L n (.lev k) p = some (.ok e q) → p < q ∧ q ≤ L.length := fun {k p e q} hp h => by
   have := fl k p hp
   rw [h] at this
   exact this
  refine ⟨fun k p hk8 hp hn => ?_, fun k e p hk hp hn => ?_, fun acc p hp hn => ?_, fun d acc p hp hn => ?_⟩
  ·by_cases hk : k ≠ 2 ∧ k ≠ 3 ∧ k ≠ 7 ∧ k ≠ 8
   ·rw [zdd L n k p hk]
    refine zaZ (hl _ p (by omega) hp (by omega)) fun e q h => ?_
    have := fl' hp h
    exact hc k e q (by omega) this.2 (by omega)
   ·have hk' : k = 2 ∨ k = 3 ∨ k = 7 ∨ k = 8 := by omega
    rcases hk' with rfl | rfl | rfl | rfl
    ·simp only [run]
     split
     ·rename_i h
      have := isT_lt h
      exact zaZ (hl _ (p + 1) (by omega) (by omega) (by omega)) fun e q h => zbg
     ·exact hl _ p (by omega) hp (by omega)
    ·simp only [run]
     refine zaZ (hl _ p (by omega) hp (by omega)) fun e q h => ?_
     have h1 := fl' hp h
     split
     ·rename_i op ho
      have := (zaB ho).1
      exact zaZ (hl _ (q + 1) (by omega) (by omega) (by omega)) fun e q h => zbg
     ·split
      ·rename_i ht
       have := isT_lt ht
       split
       ·rename_i ht2
        have := isT_lt ht2
        exact zaZ (hl _ (q + 2) (by omega) (by omega) (by omega)) fun e q h => zbg
       ·exact zaZ (hl _ (q + 1) (by omega) (by omega) (by omega)) fun e q h => zbg
      ·have hq2 : ∃ q2, (if (isT L q 2 wNot && (isT L (q + 1) 2 wIn || isT L (q + 1) 2 zaO || isT L (q + 1) 2 zbV)) = true then q + 1 else q) = q2 ∧ q ≤ q2 ∧ q2 ≤ L.length := by
        split
        ·rename_i h
         simp only [Bool.and_eq_true] at h
         have := isT_lt h.1
         exact ⟨_, rfl, by omega, by omega⟩
        ·exact ⟨_, rfl, Nat.le_refl _, h1.2⟩
       obtain ⟨q2, hq2, h3, h4⟩ := hq2
       rw [hq2]
       split
       ·rename_i ht
        have := isT_lt ht
        exact zbM fun h5 => zj3 (hs _ (q2 + 2) (by omega) (by omega)) fun e q h => zbg
       ·split
        ·rename_i ht
         have := isT_lt ht
         refine zaZ (hl _ (q2 + 1) (by omega) (by omega) (by omega)) fun e r h => zbM fun h5 => ?_
         have := fl' (by omega) h
         exact zaZ (hl _ (r + 1) (by omega) (by omega) (by omega)) fun e q h => zbg
        ·split
         ·rename_i ht
          have := isT_lt ht
          exact zaZ (hl _ (q2 + 1) (by omega) (by omega) (by omega)) fun e q h => zbg
         ·exact zbg
    ·simp only [run]
     split
     ·exact hl _ p (by omega) hp (by omega)
     ·rename_i op ho
      have := (zaB ho).1
      split
      ·split
       ·exact zbg
       ·exact zaZ (hl _ (p + 1) (by omega) (by omega) (by omega)) fun e q h => zbg
      ·exact zaZ (hl _ (p + 1) (by omega) (by omega) (by omega)) fun e q h => zbg
    ·rw [zdX]
     split
     ·exact zei
     ·rename_i t ht
      have hlt := (List.getElem?_eq_some_iff.1 ht).1
      split
      ·exact zbg
      split
      ·unfold zhD
       split
       ·split
        ·split
         ·exact zbg
         ·exact zei
        ·exact zei
       split
       ·rename_i ho
        have := isT_lt ho
        unfold zjJ
        split
        ·split
         ·exact zbM fun h5 => zbg
         ·dsimp only
          split
          ·rename_i hd
           have := isT_lt hd
           exact zaZ (hl 0 (p + 1 + 1 + 1) (by omega) (by omega) (by omega)) fun e q h => zbM fun h5 => zbg
          ·exact zaZ (hl 0 (p + 1 + 1) (by omega) (by omega) (by omega)) fun e q h => zbM fun h5 => zbg
        ·split
         ·exact zbg
         ·exact zj3 (hs _ _ (by omega) (by omega)) fun e q h => zbg
       ·exact zbg
      split
      ·exact zbg
      split
      ·unfold zeI
       split
       ·exact hw _ _ (p + 1) (by omega) (by omega)
       ·refine zaZ (hl _ (p + 1) (by omega) (by omega) (by omega)) fun e q h => ?_
        have := fl' (by omega) h
        exact hw _ _ q (by omega) (by omega)
      split
      ·unfold zkR
       refine zbM fun h5 => zaZ (hl 0 (p + 1 + 1) (by omega) (by omega) (by omega)) fun e r h => zbM fun h6 => ?_
       split
       ·split
        ·exact zbM fun h5 => zbg
        ·exact zei
       ·exact zei
      split
      ·exact zaZ (hl _ (p + 1) (by omega) (by omega) (by omega)) fun e q h => zbM fun h5 => zbg
      ·exact zei
  ·simp only [run]
   split
   ·exact zbg
   ·rename_i op ho
    have := (zaB ho).1
    refine zaZ (hl _ (p + 1) (by omega) (by omega) (by omega)) fun e q h => ?_
    have := fl' (by omega) h
    exact hc _ _ q hk (by omega) (by omega)
  ·simp only [run]
   refine zmW (hl _ p (by omega) hp (by omega)) fun e q h => ?_
   have := fl' hp h
   split
   ·rename_i hd
    have := isT_lt hd
    exact hs _ (q + 1) (by omega) (by omega)
   ·exact zoS fun h5 => ⟨_, rfl⟩
  ·simp only [run]
   refine zbM fun h0 => zaZ (hl _ (p + 1) (by omega) (by omega) (by omega)) fun e q h => ?_
   have := fl' (by omega) h
   refine zbM fun h5 => zaZ (hl _ (q + 1) (by omega) (by omega) (by omega)) fun e r h => ?_
   have := fl' (by omega) h
   split
   ·exact hw _ _ r (by omega) (by omega)
   split
   ·rename_i he
    have := isT_lt he
    exact zaZ (hl _ (r + 1) (by omega) (by omega) (by omega)) fun e q h => zbM fun h5 => zbg
   ·exact zbM fun h5 => zbg
theorem run_some (L : List T) (p : Nat) (hp : p ≤ L.length) : ∃ n, Def1 (run L n (.lev 0) p) := ⟨_, (zoh L _).1 0 p (by omega) hp (Nat.le_refl _)⟩
end Ex
namespace Ex
open Lx
def zdq : S → S
 | [] => []
 | c :: r => if c = 39 then 39 :: 39 :: zdq r else c :: zdq r
def valP (v : V) : S :=
 if v.1 = 0 then zdk else if v.1 = 1 then Ox.num v.2.1 else if v.1 = 2 then 39 :: (zdq v.2.2 ++ [39]) else if v.1 = 3 then [120, 39] ++ Ox.hex v.2.2 ++ [39] else []
def ziD (k : Int) : Bool := decide (3 ≤ k) && decide (k ≤ 8)
abbrev C := Int × Int × S
def inn (c : C) : S := if ziD c.1 then 40 :: (c.2.2 ++ [41]) else c.2.2
def innU (c : C) : S := if ziD c.1 || decide (c.1 = 1) && decide (c.2.1 = 1) then 40 :: (c.2.2 ++ [41]) else c.2.2
def kid (l : List C) (i : Nat) : C := (l[i]?).getD (0, 0, [])
def notW (b : Bool) (w : S) : S := if b then [32, 110, 111, 116, 32] ++ w ++ [32] else 32 :: (w ++ [32])
def zbP : List C → S
 | [] => []
 | [c] => c.2.2
 | c :: r => c.2.2 ++ [44, 32] ++ zbP r
def zc0 : List C → S
 | [] => []
 | [c] => zcA ++ [32] ++ c.2.2 ++ [32]
 | c :: d :: r => zb4 ++ [32] ++ c.2.2 ++ [32] ++ zda ++ [32] ++ d.2.2 ++ [32] ++ zc0 r
def zgt (d : Bool) (l : List C) : S :=
 wCase ++ [32] ++ (if d then (kid l 0).2.2 ++ [32] ++ zc0 (l.drop 1) else zc0 l) ++ wEnd
def pr (e : E) (l : List C) : S :=
 if e.kind = 1 then valP e.val
 else if e.kind = 2 then (if e.table = [] then e.name else e.table ++ [46] ++ e.name)
 else if e.kind = 3 then (if e.op = wNot then wNot ++ [32] ++ innU (kid l 0) else e.op ++ innU (kid l 0))
 else if e.kind = 4 then inn (kid l 0) ++ [32] ++ e.op ++ [32] ++ inn (kid l 1)
 else if e.kind = 5 then inn (kid l 0) ++ [32] ++ wIs ++ [32] ++ (if e.neg then wNot ++ [32] else []) ++ inn (kid l 1)
 else if e.kind = 6 then inn (kid l 0) ++ notW e.neg wIn ++ [40] ++ zbP (l.drop 1) ++ [41]
 else if e.kind = 7 then inn (kid l 0) ++ notW e.neg zaO ++ inn (kid l 1) ++ [32] ++ wAnd ++ [32] ++ inn (kid l 2)
 else if e.kind = 8 then inn (kid l 0) ++ notW e.neg zbV ++ inn (kid l 1)
 else if e.kind = 9 then zgt e.dist l
 else if e.kind = 12 then zcI ++ [40] ++ (kid l 0).2.2 ++ [32] ++ wAs ++ [32] ++ e.op ++ [41]
 else if e.kind = 11 ∧ l = [] then e.op ++ [40, 42, 41]
 else if e.dist then e.op ++ [40] ++ wDistinct ++ [32] ++ zbP l ++ [41]
 else e.op ++ [40] ++ zbP l ++ [41]
mutual
def print : E → S
 | .mk k o v t n s g d a => pr (.mk k o v t n s g d a) (prints a)
termination_by structural x => x
def prints : List E → List C
 | [] => []
 | e :: r => (e.kind, e.val.1, print e) :: prints r
termination_by structural x => x
end
theorem zcg : ∀ l, prints l = l.map fun e => (e.kind, e.val.1, print e)
 | [] => rfl
 | e :: r => by rw [prints, zcg r]; rfl
theorem zjg (e : E) : print e = pr e (e.args.map fun x => (x.kind, x.val.1, print x)) := by
 cases e with
 | mk k o v t n s g d a => rw [print, zcg]; rfl
mutual
def deep : E → Nat
 | .mk _ _ _ _ _ _ _ _ a => deeps a + 1
termination_by structural x => x
def deeps : List E → Nat
 | [] => 0
 | e :: r => max (deep e) (deeps r)
termination_by structural x => x
end
mutual
def count : E → Nat
 | .mk _ _ _ _ _ _ _ _ a => counts a + 1
termination_by structural x => x
def counts : List E → Nat
 | [] => 0
 | e :: r => count e + counts r
termination_by structural x => x
end
mutual
def bare : E → E
 | .mk k o v t n _ g d a => .mk k o v t n 0 g d (bares a)
termination_by structural x => x
def bares : List E → List E
 | [] => []
 | e :: r => bare e :: bares r
termination_by structural x => x
end
theorem zkW : ∀ l, bares l = l.map bare
 | [] => rfl
 | e :: r => by rw [bares, zkW r]; rfl
def mayV (v : V) : Bool :=
 if v.1 = 0 then decide (v.2.1 = 0) && v.2.2 == [] else if v.1 = 1 then v.2.2 == [] else if v.1 = 2 ∨ v.1 = 3 then decide (v.2.1 = 0) && decide (v.2.2.length ≤ 4096) else false
def nmE (s : S) : Bool := zkx s && !isW s
def uns : List S := [zbb, zbN, wNot]
def bins : List S := [[124, 124], zca, [47], [37], zbN, zbb, [61], [60, 62], [60], [60, 61], [62], [62, 61], wAnd, wOr]
def lowI : Int := -9223372036854775808
def ownF (k : Int) (o : S) (v : V) (t m : S) (g d : Bool) (n : Nat) : Bool :=
 if k = 1 then o == [] && t == [] && m == [] && !g && !d && decide (n = 0) && mayV v && !(decide (v.1 = 1) && decide (v.2.1 = lowI))
 else if k = 2 then o == [] && v == v0 && !g && !d && decide (n = 0) && nmE m && (t == [] || nmE t)
 else if k = 3 then v == v0 && t == [] && m == [] && !g && !d && decide (n = 1) && uns.contains o
 else if k = 4 then v == v0 && t == [] && m == [] && !g && !d && decide (n = 2) && bins.contains o
 else if k = 5 then o == [] && v == v0 && t == [] && m == [] && !d && decide (n = 2)
 else if k = 6 then o == [] && v == v0 && t == [] && m == [] && !d && decide (2 ≤ n)
 else if k = 7 then o == [] && v == v0 && t == [] && m == [] && !d && decide (n = 3)
 else if k = 8 then o == [] && v == v0 && t == [] && m == [] && !d && decide (n = 2)
 else if k = 9 then o == [] && v == v0 && t == [] && m == [] && !g && decide (2 ≤ n) && (!d || decide (3 ≤ n))
 else if k = 10 then v == v0 && t == [] && m == [] && !g && !d && nmE o && fold o == o && !aggs.contains o
 else if k = 11 then v == v0 && t == [] && m == [] && !g && aggs.contains o && (decide (n = 1) || decide (n = 0) && o == zbr && !d)
 else if k = 12 then v == v0 && t == [] && m == [] && !g && !d && decide (n = 1) && zdN.contains o
 else false
def own (e : E) : Bool := ownF e.kind e.op e.val e.table e.name e.neg e.dist e.args.length
mutual
def right : E → Bool
 | .mk k o v t n s g d a => own (.mk k o v t n s g d a) && rights a
termination_by structural x => x
def rights : List E → Bool
 | [] => true
 | e :: r => right e && rights r
termination_by structural x => x
end
theorem zfP : ∀ l, rights l = l.all right
 | [] => rfl
 | e :: r => by rw [rights, zfP r]; rfl
def N64 (e : E) : Prop := e.val.2.1 ≤ 9223372036854775807 ∧ -9223372036854775808 ≤ e.val.2.1
inductive RtN : E → Prop
 | mk {e : E} : N64 e → (∀ x ∈ e.args, RtN x) → RtN e
theorem RtN.n {e : E} (h : RtN e) : N64 e := by cases h; assumption
theorem RtN.a {e : E} (h : RtN e) : ∀ x ∈ e.args, RtN x := by cases h; assumption
inductive Rt : E → Prop
 | val (v : V) : mayV v = true → (v.1 = 1 → v.2.1 ≠ lowI) → (v.2.1 ≤ 9223372036854775807 ∧ -9223372036854775808 ≤ v.2.1) → Rt (eVal v)
 | col (t n : S) : nmE n = true → (t = [] ∨ nmE t = true) → Rt (eCol t n)
 | un (op : S) (a : E) : op ∈ uns → Rt a → Rt (eUn op a)
 | bin (op : S) (a b : E) : op ∈ bins → Rt a → Rt b → Rt (eBin op a b)
 | is (g : Bool) (a b : E) : Rt a → Rt b → Rt (eIs g a b)
 | in_ (g : Bool) (a : E) (l : List E) : l ≠ [] → Rt a → (∀ x ∈ l, Rt x) → Rt (eIn g (a :: l))
 | btw (g : Bool) (a b c : E) : Rt a → Rt b → Rt c → Rt (eBtw g a b c)
 | like (g : Bool) (a b : E) : Rt a → Rt b → Rt (zaY g a b)
 | case (d : Bool) (l : List E) : 2 ≤ l.length → (d = true → 3 ≤ l.length) → (∀ x ∈ l, Rt x) → Rt (eCase d l)
 | fn (op : S) (l : List E) : nmE op = true → fold op = op → aggs.contains op = false → (∀ x ∈ l, Rt x) → Rt (eFn op l)
 | agg (op : S) (d : Bool) (a : E) : aggs.contains op = true → Rt a → Rt (eAgg op d [a])
 | star : Rt (eAgg zbr false [])
 | cast (op : S) (a : E) : zdN.contains op = true → Rt a → Rt (za0 op a)
end Ex
namespace Ex
open Lx
theorem len2 {l : List E} (h : l.length = 2) : ∃ x y, l = [x, y] := by
 match l, h with
 | [x, y], _ => exact ⟨x, y, rfl⟩
theorem len3 {l : List E} (h : l.length = 3) : ∃ x y z, l = [x, y, z] := by
 match l, h with
 | [x, y, z], _ => exact ⟨x, y, z, rfl⟩
theorem zjP {l : List E} (h : ∀ x ∈ l, bare x = x) : bares l = l := by
 rw [zkW]
 exact (List.map_congr_left h).trans (List.map_id l)
theorem Rt.bare {e : E} (h : Rt e) : bare e = e := by
 induction h with
 | val v => rfl
 | col t n => rfl
 | un op a _ _ ih => simp [eUn, Ex.bare, bares, ih]
 | bin op a b _ _ _ ih1 ih2 => simp [eBin, Ex.bare, bares, ih1, ih2]
 | is g a b _ _ ih1 ih2 => simp [eIs, Ex.bare, bares, ih1, ih2]
 | in_ g a l _ _ _ ih1 ih2 => simp [eIn, Ex.bare, bares, ih1, zjP ih2]
 | btw g a b c _ _ _ ih1 ih2 ih3 => simp [eBtw, Ex.bare, bares, ih1, ih2, ih3]
 | like g a b _ _ ih1 ih2 => simp [zaY, Ex.bare, bares, ih1, ih2]
 | case d l _ _ _ ih => simp [eCase, Ex.bare, zjP ih]
 | fn op l _ _ _ _ ih => simp [eFn, Ex.bare, zjP ih]
 | agg op d a _ _ ih => simp [eAgg, Ex.bare, bares, ih]
 | star => rfl
 | cast op a _ _ ih => simp [za0, Ex.bare, bares, ih]
theorem zhu {l : List E} (h : ∀ x ∈ l, right x = true) : rights l = true := by
 rw [zfP]
 exact List.all_eq_true.2 h
theorem Rt.right {e : E} (h : Rt e) : right e = true := by
 induction h with
 | val v h1 h2 =>
  simp only [eVal, Ex.right, rights, own, ownF, E.kind, E.op, E.val, E.table, E.name, E.neg, E.dist, E.args]
  simp [h1]
  exact (Decidable.em (v.1 = 1)).elim (fun h => .inr (decide_eq_false (h2 h))) (fun h => .inl (decide_eq_false h))
 | col t n h1 h2 =>
  simp only [eCol, Ex.right, rights, own, ownF, E.kind, E.op, E.val, E.table, E.name, E.neg, E.dist, E.args]
  simp [h1]
  exact h2
 | un op a h1 _ ih => simp [eUn, Ex.right, rights, own, ownF, E.kind, E.op, E.val, E.table, E.name, E.neg, E.dist, E.args, ih, h1]
 | bin op a b h1 _ _ ih1 ih2 => simp [eBin, Ex.right, rights, own, ownF, E.kind, E.op, E.val, E.table, E.name, E.neg, E.dist, E.args, ih1, ih2, h1]
 | is g a b _ _ ih1 ih2 => simp [eIs, Ex.right, rights, own, ownF, E.kind, E.op, E.val, E.table, E.name, E.neg, E.dist, E.args, ih1, ih2]
 | in_ g a l h1 _ _ ih1 ih2 =>
  simp [eIn, Ex.right, rights, own, ownF, E.kind, E.op, E.val, E.table, E.name, E.neg, E.dist, E.args, ih1, zhu ih2]
  exact List.length_pos_iff.2 h1
 | btw g a b c _ _ _ ih1 ih2 ih3 => simp [eBtw, Ex.right, rights, own, ownF, E.kind, E.op, E.val, E.table, E.name, E.neg, E.dist, E.args, ih1, ih2, ih3]
 | like g a b _ _ ih1 ih2 => simp [zaY, Ex.right, rights, own, ownF, E.kind, E.op, E.val, E.table, E.name, E.neg, E.dist, E.args, ih1, ih2]
 | case d l h1 h2 _ ih =>
  simp [eCase, Ex.right, rights, own, ownF, E.kind, E.op, E.val, E.table, E.name, E.neg, E.dist, E.args, zhu ih, h1]
  cases d <;> simp_all
 | fn op l h1 h2 h3 _ ih =>
  have h3' : op ∉ aggs := by simpa using h3
  simp [eFn, Ex.right, rights, own, ownF, E.kind, E.op, E.val, E.table, E.name, E.neg, E.dist, E.args, zhu ih, h1, h2, h3']
 | agg op d a h1 _ ih =>
  have h1' : op ∈ aggs := by simpa using h1
  simp [eAgg, Ex.right, rights, own, ownF, E.kind, E.op, E.val, E.table, E.name, E.neg, E.dist, E.args, ih, h1']
 | star => rfl
 | cast op a h1 _ ih =>
  have h1' : op ∈ zdN := by simpa using h1
  simp [za0, Ex.right, rights, own, ownF, E.kind, E.op, E.val, E.table, E.name, E.neg, E.dist, E.args, ih, h1']
end Ex
namespace Ex
open Lx
abbrev Pc := Option T
def mk (s : S) : Pc := some ⟨4, s, v0⟩
def wd (s : S) : Pc := some ⟨2, s, v0⟩
def nmP (s : S) : Pc := some ⟨1, s, v0⟩
def bk : Pc := none
def opP (s : S) : Pc := if s = wAnd ∨ s = wOr ∨ s = wNot then wd s else mk s
def valPs (v : V) : List Pc :=
 if v.1 = 0 then [wd zdk] else if v.1 = 1 ∧ v.2.1 < 0 then [mk zbb, some ⟨3, Ox.num (-v.2.1), (1, -v.2.1, [])⟩] else [some ⟨3, valP v, v⟩]
def flat (l : List Pc) : S := l.flatMap fun p => match p with | none => [32] | some t => t.text
def toks (l : List Pc) : List T := l.filterMap id
theorem toks_app (a b : List Pc) : toks (a ++ b) = toks a ++ toks b := by simp [toks]
abbrev D := Int × Int × List Pc
def innP (c : D) : List Pc := if ziD c.1 then mk zbv :: (c.2.2 ++ [mk zbh]) else c.2.2
def znk (c : D) : List Pc := if ziD c.1 || decide (c.1 = 1) && decide (c.2.1 = 1) then mk zbv :: (c.2.2 ++ [mk zbh]) else c.2.2
def kidP (l : List D) (i : Nat) : D := (l[i]?).getD (0, 0, [])
def notP (b : Bool) (w : S) : List Pc := if b then [bk, wd wNot, bk, wd w, bk] else [bk, wd w, bk]
def zdK : List D → List Pc
 | [] => []
 | [c] => c.2.2
 | c :: r => c.2.2 ++ [mk zcx, bk] ++ zdK r
def zg5 : List D → List Pc
 | [] => []
 | [c] => [wd zcA, bk] ++ c.2.2 ++ [bk]
 | c :: d :: r => [wd zb4, bk] ++ c.2.2 ++ [bk, wd zda, bk] ++ d.2.2 ++ [bk] ++ zg5 r
def caseQ (d : Bool) (l : List D) : List Pc :=
 [wd wCase, bk] ++ (if d then (kidP l 0).2.2 ++ [bk] ++ zg5 (l.drop 1) else zg5 l) ++ [wd wEnd]
def pp (e : E) (l : List D) : List Pc :=
 if e.kind = 1 then valPs e.val
 else if e.kind = 2 then (if e.table = [] then [nmP e.name] else [nmP e.table, mk mDot, nmP e.name])
 else if e.kind = 3 then (if e.op = wNot then [wd wNot, bk] ++ znk (kidP l 0) else [mk e.op] ++ znk (kidP l 0))
 else if e.kind = 4 then innP (kidP l 0) ++ [bk, opP e.op, bk] ++ innP (kidP l 1)
 else if e.kind = 5 then innP (kidP l 0) ++ [bk, wd wIs, bk] ++ (if e.neg then [wd wNot, bk] else []) ++ innP (kidP l 1)
 else if e.kind = 6 then innP (kidP l 0) ++ notP e.neg wIn ++ [mk zbv] ++ zdK (l.drop 1) ++ [mk zbh]
 else if e.kind = 7 then innP (kidP l 0) ++ notP e.neg zaO ++ innP (kidP l 1) ++ [bk, wd wAnd, bk] ++ innP (kidP l 2)
 else if e.kind = 8 then innP (kidP l 0) ++ notP e.neg zbV ++ innP (kidP l 1)
 else if e.kind = 9 then caseQ e.dist l
 else if e.kind = 12 then [wd zcI, mk zbv] ++ (kidP l 0).2.2 ++ [bk, wd wAs, bk, nmP e.op, mk zbh]
 else if e.kind = 11 ∧ l = [] then [nmP e.op, mk zbv, mk zca, mk zbh]
 else if e.dist then [nmP e.op, mk zbv, wd wDistinct, bk] ++ zdK l ++ [mk zbh]
 else [nmP e.op, mk zbv] ++ zdK l ++ [mk zbh]
mutual
def pcs : E → List Pc
 | .mk k o v t n s g d a => pp (.mk k o v t n s g d a) (pcsL a)
termination_by structural x => x
def pcsL : List E → List D
 | [] => []
 | e :: r => (e.kind, e.val.1, pcs e) :: pcsL r
termination_by structural x => x
end
theorem zmg : ∀ l, pcsL l = l.map fun e => (e.kind, e.val.1, pcs e)
 | [] => rfl
 | e :: r => by rw [pcsL, zmg r]; rfl
def fl (d : D) : C := (d.1, d.2.1, flat d.2.2)
end Ex
namespace Ex
open Lx
def Sep (s : S) : Prop := ∀ c, s.head? = some c → c = 32 ∨ c = 41 ∨ c = 44
def SepN (s : S) : Prop := ∀ c, s.head? = some c → c = 32 ∨ c = 41 ∨ c = 44 ∨ c = 40 ∨ c = 46
theorem Sep.n {s : S} (h : Sep s) : SepN s := fun c hc => by rcases h c hc with h | h | h <;> simp [h]
theorem zeb {c : UInt8} (h : dig c = true) : let_ c = false ∧ bl c = false ∧ c ≠ 45 ∧ c ≠ 39 := by
 unfold dig at h
 simp only [Bool.and_eq_true, decide_eq_true_eq] at h
 refine ⟨?_, zpH (by omega) (by omega) (by omega) (by omega), ?_, ?_⟩
 ·unfold let_
  rw [← Bool.not_eq_true]
  simp only [Bool.or_eq_true, Bool.and_eq_true, decide_eq_true_eq]
  omega
 ·rintro rfl; simp at h
 ·rintro rfl; simp at h
end Ex
namespace Ex
open Lx
def dOf (e : E) : D := (e.kind, e.val.1, pcs e)
theorem zoC (e : E) : pcs e = pp e (e.args.map dOf) := by
 cases e with
 | mk k o v t n s g d a => rw [pcs, zmg]; rfl
theorem Rt.n {e : E} (h : Rt e) : RtN e := by
 have h0 : N64 (eVal v0) := ⟨by decide, by decide⟩
 induction h with
 | val v h1 h2 h3 => exact .mk h3 (fun x hx => by simp [eVal, E.args] at hx)
 | col t n => exact .mk h0 (fun x hx => by simp [eCol, E.args] at hx)
 | un op a _ _ ih => exact .mk h0 (fun x hx => by simp [eUn, E.args] at hx; subst hx; exact ih)
 | bin op a b _ _ _ ih1 ih2 => exact .mk h0 (fun x hx => by simp [eBin, E.args] at hx; rcases hx with rfl | rfl <;> assumption)
 | is g a b _ _ ih1 ih2 => exact .mk h0 (fun x hx => by simp [eIs, E.args] at hx; rcases hx with rfl | rfl <;> assumption)
 | in_ g a l _ _ _ ih1 ih2 => exact .mk h0 (fun x hx => by
   simp [eIn, E.args] at hx
   rcases hx with rfl | hx
   ·exact ih1
   ·exact ih2 x hx)
 | btw g a b c _ _ _ ih1 ih2 ih3 => exact .mk h0 (fun x hx => by simp [eBtw, E.args] at hx; rcases hx with rfl | rfl | rfl <;> assumption)
 | like g a b _ _ ih1 ih2 => exact .mk h0 (fun x hx => by simp [zaY, E.args] at hx; rcases hx with rfl | rfl <;> assumption)
 | case d l _ _ _ ih => exact .mk h0 ih
 | fn op l _ _ _ _ ih => exact .mk h0 ih
 | agg op d a _ _ ih => exact .mk h0 (fun x hx => by simp [eAgg, E.args] at hx; subst hx; exact ih)
 | star => exact .mk h0 (fun x hx => by simp [eAgg, E.args] at hx)
 | cast op a _ _ ih => exact .mk h0 (fun x hx => by simp [za0, E.args] at hx; subst hx; exact ih)
end Ex
namespace Ex
open Lx
def Ev (L : List T) (K : K) (p : Nat) (r : R) : Prop := ∃ N, ∀ n, N ≤ n → run L n K p = some r
def Sp (L : List T) : Nat → List Pc → Nat → Prop
 | p, [], q => q = p
 | p, none :: r, q => Sp L p r q
 | p, some t :: r, q => L[p]? = some t ∧ Sp L (p + 1) r q
def forbA : List (Nat × Int × S) := [(8, 4, mDot), (8, 4, zbv), (6, 4, [124, 124]), (5, 4, zca), (5, 4, [47]), (5, 4, [37]), (4, 4, zbN), (4, 4, zbb),
 (3, 4, [61]), (3, 4, [60, 62]), (3, 4, [60]), (3, 4, [60, 61]), (3, 4, [62]), (3, 4, [62, 61]), (3, 2, wIs), (3, 2, wNot), (3, 2, wIn), (3, 2, zaO), (3, 2, zbV), (1, 2, wAnd), (0, 2, wOr)]
def stB (k : Nat) (t : T) : Bool := forbA.all fun a => decide (a.1 < k) || !(decide (t.kind = a.2.1) && t.text == a.2.2)
def St (L : List T) (k q : Nat) : Prop := ∀ t, L[q]? = some t → stB k t = true
theorem St.mono {L : List T} {j k q : Nat} (h : St L j q) (hk : j ≤ k) : St L k q := fun t ht => by
 have h1 := h t ht
 unfold stB at *
 rw [List.all_eq_true] at *
 intro a ha
 have := h1 a ha
 simp only [Bool.or_eq_true, decide_eq_true_eq] at this ⊢
 exact this.imp (fun h => by omega) id
theorem St.no {L : List T} {k q j : Nat} {kd : Int} {s : S} (h : St L k q) (hm : (j, kd, s) ∈ forbA) (hk : k ≤ j) : isT L q kd s = false := by
 unfold isT
 split
 ·rename_i t ht
  have h1 := h t ht
  unfold stB at h1
  rw [List.all_eq_true] at h1
  have := h1 _ hm
  simp only [Bool.or_eq_true, decide_eq_true_eq, Bool.not_eq_true'] at this
  exact this.resolve_left (by omega)
 ·rfl
theorem zfY {L : List T} {q : Nat} {kd : Int} : ∀ {l : List S}, (∀ s ∈ l, isT L q kd s = false) → oneOf L q kd l = none
 | [], _ => rfl
 | s :: r, h => by
  rw [oneOf, h s (by simp), if_neg (by decide)]
  exact zfY fun x hx => h x (List.mem_cons_of_mem _ hx)
theorem St.ops {L : List T} {k q : Nat} (h : St L k q) (hk : k = 0 ∨ k = 1 ∨ k = 4 ∨ k = 5 ∨ k = 6) : oneOf L q (ops k).2 (ops k).1 = none := by
 refine zfY fun s hs => ?_
 rcases hk with rfl | rfl | rfl | rfl | rfl
 all_goals
  simp only [Ex.ops, List.mem_cons, List.not_mem_nil, or_false] at hs
  first
   | (rcases hs with rfl | rfl | rfl <;> exact h.no (by decide) (Nat.le_refl _))
   | (rcases hs with rfl | rfl <;> exact h.no (by decide) (Nat.le_refl _))
   | (subst hs; exact h.no (by decide) (Nat.le_refl _))
theorem St.cmps {L : List T} {q : Nat} (h : St L 3 q) : oneOf L q 4 cmps = none := by
 refine zfY fun s hs => ?_
 simp only [Ex.cmps, List.mem_cons, List.not_mem_nil, or_false] at hs
 rcases hs with rfl | rfl | rfl | rfl | rfl | rfl <;> exact h.no (by decide) (Nat.le_refl _)
end Ex
namespace Ex
open Lx
def lvOp (op : S) : Nat := if op = wOr then 0 else if op = wAnd then 1 else if op = zbN ∨ op = zbb then 4 else if op = zca ∨ op = [47] ∨ op = [37] then 5 else if op = [124, 124] then 6 else 3
def lv (e : E) : Nat := if e.kind = 3 then (if e.op = wNot then 2 else 7) else if e.kind = 4 then lvOp e.op else if 5 ≤ e.kind ∧ e.kind ≤ 8 then 3 else 7
def B (e : E) : Prop := ∀ L p q, Sp L p (pcs e) q → St L (lv e) q → Ev L (.lev (lv e)) p (.ok [e] q)
def F (e : E) : Prop := ∀ L p q, Sp L p (pcs e) q → 3 ≤ lv e → isT L p 2 wNot = false
end Ex
namespace Ex
open Lx
def GoodT (L : List T) : Prop := ∀ t ∈ L, (t.kind = 1 → nmE t.text = true) ∧ (t.kind = 3 → (mayV t.val = true ∧ (t.val.1 = 1 → 0 ≤ t.val.2.1 ∧ t.val.2.1 ≤ 9223372036854775807)) ∧ t.val.2.1 ≤ 9223372036854775807 ∧ -9223372036854775807 ≤ t.val.2.1)
def AllR (r : Option R) : Prop := ∀ l q, r = some (.ok l q) → ∀ x ∈ l, Rt x
theorem zbw {r : Option R} {f : E → Nat → Option R} (h : AllR r) (hf : ∀ e q, Rt e → AllR (f e q)) : AllR (then1 r f) := fun l q hr => by
 rcases then1_some hr with ⟨e, q1, h1, h2⟩ | ⟨q1, h1, h2⟩
 ·exact hf e q1 (h _ _ h1 e (by simp)) l q h2
 ·cases h2
theorem znW {r : Option R} {f : List E → Nat → Option R} (h : AllR r) (hf : ∀ e q, (∀ x ∈ e, Rt x) → r = some (.ok e q) → AllR (f e q)) : AllR (zhY r f) := fun l q hr => by
 rcases thenL_some hr with ⟨e, q1, h1, h2⟩ | ⟨q1, h1, h2⟩
 ·exact hf e q1 (h _ _ h1) h1 l q h2
 ·cases h2
theorem zdy {L : List T} {k : Int} {s : S} {p : Nat} {f : Nat → Option R} (hf : AllR (f (p + 1))) : AllR (need L k s p f) := fun l q hr => by
 rcases need_some hr with ⟨h1, h2⟩ | ⟨h1, h2⟩
 ·exact hf l q h2
 ·cases h2
theorem zcV {e : E} {p : Nat} (h : Rt e) : AllR (one e p) := fun l q hr => by
 cases hr
 intro x hx
 simp only [List.mem_cons, List.not_mem_nil, or_false] at hx
 exact hx ▸ h
theorem zif {p : Nat} : AllR (some (.stop p)) := fun l q hr => by cases hr
theorem zmm : AllR none := fun l q hr => by cases hr
theorem zmj (k : Nat) {op : S} (h : op ∈ (ops k).1) : op ∈ bins := by
 unfold ops at h
 split at h <;> (simp only [List.mem_cons, List.not_mem_nil, or_false] at h; (repeat' (rcases h with h | h)) <;> decide)
theorem zpw {op : S} (h : op ∈ cmps) : op ∈ bins := by
 simp only [cmps, List.mem_cons, List.not_mem_nil, or_false] at h
 rcases h with rfl | rfl | rfl | rfl | rfl | rfl <;> decide
theorem zmn {s : S} (h : nmE s = true) : nmE (fold s) = true := by
 unfold nmE zkx at *
 rw [zfj, isW_fold]
 have : (fold s).length = s.length := by simp [fold]
 rw [this]
 exact h
theorem zhm (L : List T) : ∀ (n p q : Nat) (acc l : List E), run L n (.list acc) p = some (.ok l q) → l ≠ []
 | 0, _, _, _, _, h => by cases h
 | n + 1, p, q, acc, l, h => by
  rw [run] at h
  rcases then1_some h with ⟨e, q1, h1, h2⟩ | ⟨q1, h1, h2⟩
  ·split at h2
   ·exact zhm L n _ _ _ _ h2
   ·rcases need_some h2 with ⟨h3, h4⟩ | ⟨h3, h4⟩
    ·cases h4; simp
    ·cases h4
  ·cases h2
def Acc (d : Bool) (acc : List E) : Prop := (∀ x ∈ acc, Rt x) ∧ (d = true → 1 ≤ acc.length)
theorem zkd (L : List T) (hL : GoodT L) : ∀ n, (∀ k p, AllR (run L n (.lev k) p)) ∧ (∀ k e p, Rt e → AllR (run L n (.chain k e) p)) ∧
  (∀ acc p, (∀ x ∈ acc, Rt x) → AllR (run L n (.list acc) p)) ∧ (∀ d acc p, Acc d acc → AllR (run L n (.whens d acc) p))
 | 0 => ⟨fun _ _ => zmm, fun _ _ _ _ => zmm, fun _ _ _ => zmm, fun _ _ _ _ => zmm⟩
 | n + 1 => by
  obtain ⟨hl, hc, hs, hw⟩ := zkd L hL n
  refine ⟨fun k p => ?_, fun k e p he => ?_, fun acc p ha => ?_, fun d acc p ha => ?_⟩
  ·by_cases hk : k ≠ 2 ∧ k ≠ 3 ∧ k ≠ 7 ∧ k ≠ 8
   ·rw [zdd L n k p hk]
    exact zbw (hl _ _) fun e q he => hc _ _ _ he
   ·have hk' : k = 2 ∨ k = 3 ∨ k = 7 ∨ k = 8 := by omega
    rcases hk' with rfl | rfl | rfl | rfl
    ·simp only [run]
     split
     ·exact zbw (hl _ _) fun e q he => zcV (.un _ _ (by simp [uns]) he)
     ·exact hl _ _
    ·simp only [run]
     refine zbw (hl _ _) fun a q ha => ?_
     split
     ·rename_i op ho
      exact zbw (hl _ _) fun b r hb => zcV (.bin _ _ _ (zpw (zaB ho).2.2) ha hb)
     ·split
      ·exact zbw (hl _ _) fun b r hb => zcV (.is _ _ _ ha hb)
      ·generalize (if (isT L q 2 wNot && (isT L (q + 1) 2 wIn || isT L (q + 1) 2 zaO || isT L (q + 1) 2 zbV)) = true then q + 1 else q) = q2
       generalize (isT L q 2 wNot && (isT L (q + 1) 2 wIn || isT L (q + 1) 2 zaO || isT L (q + 1) 2 zbV)) = nt
       split
       ·refine zdy (znW (hs _ _ (by simp)) fun l r hl' hr => zcV (.in_ _ _ _ ?_ ha hl'))
        exact zhm _ _ _ _ _ _ hr
       ·split
        ·refine zbw (hl _ _) fun b r hb => zdy ?_
         exact zbw (hl _ _) fun c r hc => zcV (.btw _ _ _ _ ha hb hc)
        ·split
         ·exact zbw (hl _ _) fun b r hb => zcV (.like _ _ _ ha hb)
         ·exact zcV ha
    ·simp only [run]
     split
     ·exact hl _ _
     ·rename_i op ho
      have hop := (zaB ho).2.2
      have hu : ∀ e, Rt e → Rt (eUn op e) := fun e he => .un _ _ (by simp only [List.mem_cons, List.not_mem_nil, or_false] at hop; rcases hop with rfl | rfl <;> decide) he
      split
      ·rename_i t ht
       split
       ·rename_i hv
        simp only [Bool.and_eq_true, decide_eq_true_eq] at hv
        obtain ⟨hg, hr1, hr2⟩ := (hL t (List.mem_of_getElem? ht)).2 hv.1.2
        refine zcV (.val _ ?_ ?_ ⟨by dsimp only; omega, by dsimp only; omega⟩)
        ·have h1 := hg.1
         unfold mayV at h1 ⊢
         simp only [hv.2] at h1 ⊢
         exact h1
        ·have h1 := hg.2 hv.2
         intro _
         simp only [lowI]
         omega
       ·exact zbw (hl _ _) fun e q he => zcV (hu e he)
      ·exact zbw (hl _ _) fun e q he => zcV (hu e he)
    ·rw [zdX]
     split
     ·exact zif
     ·rename_i t ht
      have hg := hL t (List.mem_of_getElem? ht)
      split
      ·rename_i h3
       obtain ⟨h3, hr1, hr2⟩ := hg.2 h3
       exact zcV (.val _ h3.1 (fun h => by have := h3.2 h; simp only [lowI]; omega) ⟨hr1, by omega⟩)
      split
      ·rename_i h1
       have h1 := hg.1 h1
       unfold zhD
       split
       ·split
        ·rename_i u hu
         split
         ·rename_i h2
          exact zcV (.col _ _ ((hL u (List.mem_of_getElem? hu)).1 h2) (.inr h1))
         ·exact zif
        ·exact zif
       split
       ·unfold zjJ
        split
        ·rename_i hag
         split
         ·rename_i hc
          simp only [Bool.and_eq_true, beq_iff_eq] at hc
          rw [hc.1]
          exact zdy (zcV .star)
         ·exact zbw (hl _ _) fun e q he => zdy (zcV (.agg _ _ _ hag he))
        ·rename_i hag
         have hag : aggs.contains (fold t.text) = false := by simpa using hag
         split
         ·exact zcV (.fn _ _ (zmn h1) (zfj _) hag (by simp))
         ·exact znW (hs _ _ (by simp)) fun l q hl' _ => zcV (.fn _ _ (zmn h1) (zfj _) hag hl')
       ·exact zcV (.col _ _ h1 (.inl rfl))
      split
      ·exact zcV (.val _ (by decide) (fun h => by cases h) ⟨by decide, by decide⟩)
      split
      ·unfold zeI
       split
       ·exact hw _ _ _ ⟨by simp, by simp⟩
       ·exact zbw (hl _ _) fun e q he => hw _ _ _ ⟨by simpa using he, by simp⟩
      split
      ·unfold zkR
       refine zdy (zbw (hl _ _) fun e r he => zdy ?_)
       split
       ·split
        ·rename_i hty
         simp only [Bool.and_eq_true] at hty
         exact zdy (zcV (.cast _ _ hty.2 he))
        ·exact zif
       ·exact zif
      split
      ·exact zbw (hl _ _) fun e q he => zdy (zcV he)
      ·exact zif
  ·simp only [run]
   split
   ·exact zcV he
   ·rename_i op ho
    exact zbw (hl _ _) fun b q hb => hc _ _ _ (.bin _ _ _ (zmj _ (zaB ho).2.2) he hb)
  ·simp only [run]
   refine zbw (hl _ _) fun e q he => ?_
   have h2 : ∀ x ∈ acc ++ [e], Rt x := fun x hx => by
    rcases List.mem_append.1 hx with hx | hx
    ·exact ha x hx
    ·simp only [List.mem_cons, List.not_mem_nil, or_false] at hx; exact hx ▸ he
   split
   ·exact hs _ _ h2
   ·refine zdy fun l q hr => ?_
    cases hr
    exact h2
  ·rw [zcv]
   refine zdy ?_
   unfold ziR
   refine zbw (hl _ _) fun a q hra => zdy (zbw (hl _ _) fun b r hrb => ?_)
   have h2 : ∀ x ∈ acc ++ [a, b], Rt x := fun x hx => by
    rcases List.mem_append.1 hx with hx | hx
    ·exact ha.1 x hx
    ·simp only [List.mem_cons, List.not_mem_nil, or_false] at hx
     rcases hx with rfl | rfl
     ·exact hra
     ·exact hrb
   have hlen : 2 ≤ (acc ++ [a, b]).length := by simp
   have hd : d = true → 3 ≤ (acc ++ [a, b]).length := fun h => by have := ha.2 h; simp; omega
   split
   ·exact hw _ _ _ ⟨h2, fun _ => by omega⟩
   ·unfold zfH
    split
    ·refine zbw (hl _ _) fun c r2 hcc => zdy (zcV (.case _ _ ?_ ?_ ?_))
     ·simp
     ·intro h; have := hd h; (simp at this ⊢) <;> omega
     ·intro x hx
      rcases List.mem_append.1 hx with hx | hx
      ·exact h2 x hx
      ·simp only [List.mem_cons, List.not_mem_nil, or_false] at hx; exact hx ▸ hcc
    ·exact zdy (zcV (.case _ _ hlen hd h2))
end Ex
namespace Ex
open Lx
theorem zkw : ∀ (k m : Nat), m < 10 ^ (k + 1) → (Ox.numN m).length ≤ k + 1
 | 0, m, h => by
  rw [Ox.numN, if_pos (by omega)]; simp
 | k + 1, m, h => by
  rw [Ox.numN]
  split
  ·simp
  ·have := zkw k (m / 10) (by rw [Nat.pow_succ] at h; omega)
   simp only [List.length_append, List.length_cons, List.length_nil]
   omega
theorem zoO {n : Int} (h1 : -9223372036854775808 ≤ n) (h2 : n ≤ 9223372036854775807) : (Ox.num n).length ≤ 20 := by
 have h : (10 : Nat) ^ (18 + 1) = 10000000000000000000 := rfl
 have := zkw 18 n.natAbs (by rw [h]; omega)
 unfold Ox.num
 split
 ·rw [List.length_cons]; omega
 ·omega
theorem zkn : ∀ s : S, (zdq s).length ≤ 2 * s.length
 | [] => Nat.le_refl _
 | c :: r => by
  have := zkn r
  rw [zdq]
  split <;> (simp only [List.length_cons]; omega)
def G (e : E) : Nat := (print e).length + 14
def Tk (e : E) : Nat := (toks (pcs e)).length + 2
def GL (l : List E) : Nat := (l.map G).sum
def TL (l : List E) : Nat := (l.map Tk).sum
theorem zjS (a : E) (l : List E) : GL (a :: l) = G a + GL l := by simp [GL]
theorem zjR (a : E) (l : List E) : TL (a :: l) = Tk a + TL l := by simp [TL]
theorem zpR (a b : List E) : GL (a ++ b) = GL a + GL b := by simp [GL]
theorem zpP (a b : List E) : TL (a ++ b) = TL a + TL b := by simp [TL]
theorem zmT : GL [] = 0 := rfl
theorem zmR : TL [] = 0 := rfl
def cOf (e : E) : C := (e.kind, e.val.1, print e)
theorem zjf (e : E) : print e = pr e (e.args.map cOf) := zjg e
theorem zdg (e : E) : (inn (cOf e)).length + 12 ≤ G e := by
 unfold inn G cOf
 split <;> simp
theorem innU_len (e : E) : (innU (cOf e)).length + 12 ≤ G e := by
 unfold innU G cOf
 split <;> simp
theorem zct (e : E) : (toks (innP (dOf e))).length ≤ Tk e := by
 unfold innP Tk dOf
 split <;> simp [toks, mk]
theorem zo9 (e : E) : (toks (znk (dOf e))).length ≤ Tk e := by
 unfold znk Tk dOf
 split <;> simp [toks, mk]
theorem zf6 : ∀ l : List E, (zbP (l.map cOf)).length ≤ GL l
 | [] => Nat.zero_le _
 | [a] => by
  simp only [List.map_cons, List.map_nil, zbP, GL, G, cOf, List.sum_cons, List.sum_nil]
  omega
 | a :: b :: l => by
  have := zf6 (b :: l)
  rw [zjS]
  simp only [List.map_cons, zbP, List.length_append, List.length_cons, List.length_nil] at this ⊢
  simp only [G, cOf] at this ⊢
  omega
theorem zeT : ∀ l : List E, (toks (zdK (l.map dOf))).length ≤ TL l
 | [] => Nat.zero_le _
 | [a] => by
  simp only [List.map_cons, List.map_nil, zdK, TL, Tk, dOf, List.sum_cons, List.sum_nil]
  omega
 | a :: b :: l => by
  have := zeT (b :: l)
  rw [zjR]
  simp only [List.map_cons, zdK, toks_app, List.length_append] at this ⊢
  simp only [Tk, dOf] at this ⊢
  have e : (toks [mk zcx, bk]).length = 1 := rfl
  omega
theorem zg4 : ∀ l : List E, (zc0 (l.map cOf)).length ≤ GL l
 | [] => Nat.zero_le _
 | [a] => by
  simp only [List.map_cons, List.map_nil, zc0, GL, G, cOf, List.sum_cons, List.sum_nil, List.length_append, List.length_cons, List.length_nil, zcA]
  omega
 | a :: b :: l => by
  have := zg4 l
  rw [zjS, zjS]
  simp only [List.map_cons, zc0, List.length_append, List.length_cons, List.length_nil, zb4, zda] at this ⊢
  simp only [G, cOf] at this ⊢
  omega
theorem zfE : ∀ l : List E, (toks (zg5 (l.map dOf))).length ≤ TL l
 | [] => Nat.zero_le _
 | [a] => by
  simp only [List.map_cons, List.map_nil, zg5, TL, Tk, dOf, List.sum_cons, List.sum_nil, toks_app, List.length_append]
  have e : (toks [wd zcA, bk]).length = 1 := rfl
  have e2 : (toks [bk]).length = 0 := rfl
  omega
 | a :: b :: l => by
  have := zfE l
  rw [zjR, zjR]
  simp only [List.map_cons, zg5, toks_app, List.length_append] at this ⊢
  simp only [Tk, dOf] at this ⊢
  have e : (toks [wd zb4, bk]).length = 1 := rfl
  have e2 : (toks [bk]).length = 0 := rfl
  have e3 : (toks [bk, wd zda, bk]).length = 1 := rfl
  omega
theorem case_len (d : Bool) (l : List E) : (zgt d (l.map cOf)).length ≤ GL l + 9 := by
 unfold zgt
 have h2 := zg4 l
 cases d
 ·simp only [Bool.false_eq_true, if_false, List.length_append, List.length_cons, List.length_nil, wCase, wEnd]
  omega
 ·cases l with
  | nil => simp [kid, wCase, wEnd, zc0, GL]
  | cons a l =>
   have := zg4 l
   rw [zjS]
   simp only [if_true, List.length_append, List.length_cons, List.length_nil, wCase, wEnd]
   have e : (kid ((a :: l).map cOf) 0).2.2 = print a := rfl
   have e2 : ((a :: l).map cOf).drop 1 = l.map cOf := rfl
   rw [e, e2]
   simp only [G]
   omega
theorem zpB (d : Bool) (l : List E) : (toks (caseQ d (l.map dOf))).length ≤ TL l + 2 := by
 unfold caseQ
 have h2 := zfE l
 have e0 : (toks [wd wCase, bk]).length = 1 := rfl
 have e1 : (toks [wd wEnd]).length = 1 := rfl
 cases d
 ·simp only [Bool.false_eq_true, if_false, toks_app, List.length_append]
  omega
 ·cases l with
  | nil => simp [kidP, zg5, TL, toks, wd, bk]
  | cons a l =>
   have := zfE l
   rw [zjR]
   simp only [if_true, toks_app, List.length_append]
   have e : (kidP ((a :: l).map dOf) 0).2.2 = pcs a := rfl
   have e2 : ((a :: l).map dOf).drop 1 = l.map dOf := rfl
   have e3 : (toks [bk]).length = 0 := rfl
   rw [e, e2]
   simp only [Tk]
   omega
theorem zjq (b : Bool) {w : S} : (notW b w).length ≤ w.length + 6 := by
 unfold notW
 cases b <;> simp <;> omega
theorem zjr (b : Bool) {w : S} : (toks (notP b w)).length = if b then 2 else 1 := by
 unfold notP
 cases b <;> rfl
theorem g_val {v : V} (h1 : -9223372036854775808 ≤ v.2.1) (h2 : v.2.1 ≤ 9223372036854775807) : G (eVal v) ≤ 34 + 2 * v.2.2.length := by
 have e : print (eVal v) = valP v := rfl
 unfold G
 rw [e]
 unfold valP
 have hq := zkn v.2.2
 have hn := zoO h1 h2
 have hh := Ox.znl v.2.2
 split
 ·simp [zdk]; omega
 split
 ·omega
 split
 ·simp only [List.length_append, List.length_cons, List.length_nil]; omega
 split
 ·simp only [List.length_append, List.length_cons, List.length_nil]; omega
 ·simp only [List.length_nil]; omega
theorem t_val (v : V) : Tk (eVal v) ≤ (if v.1 = 1 ∧ v.2.1 < 0 then 4 else 3) := by
 have e : pcs (eVal v) = valPs v := rfl
 unfold Tk
 rw [e]
 unfold valPs
 split
 ·split <;> simp [toks, wd]
 split
 ·simp [toks, mk]
 ·simp [toks]
theorem g_col (t n : S) : G (eCol t n) ≤ t.length + n.length + 15 := by
 have e : print (eCol t n) = if t = [] then n else t ++ [46] ++ n := rfl
 unfold G
 rw [e]
 split <;> simp <;> omega
theorem t_col (t n : S) : Tk (eCol t n) ≤ if t = [] then 3 else 5 := by
 have e : pcs (eCol t n) = if t = [] then [nmP n] else [nmP t, mk mDot, nmP n] := rfl
 unfold Tk
 rw [e]
 split <;> simp [toks, mk, nmP]
theorem g_un (op : S) (a : E) : G (eUn op a) ≤ G a + op.length + 3 := by
 have e : print (eUn op a) = if op = wNot then wNot ++ [32] ++ innU (cOf a) else op ++ innU (cOf a) := rfl
 have := innU_len a
 unfold G at *
 rw [e]
 split
 ·rename_i h; subst h; simp only [List.length_append, List.length_cons, List.length_nil]; omega
 ·simp only [List.length_append]; omega
theorem t_un (op : S) (a : E) : Tk (eUn op a) ≤ Tk a + 3 := by
 have e : pcs (eUn op a) = if op = wNot then [wd wNot, bk] ++ znk (dOf a) else [mk op] ++ znk (dOf a) := rfl
 have := zo9 a
 unfold Tk at *
 rw [e]
 have e0 : (toks [wd wNot, bk]).length = 1 := rfl
 have e1 : (toks [mk op]).length = 1 := rfl
 split <;> (simp only [toks_app, List.length_append]; omega)
theorem opP_len (s : S) : (toks [bk, opP s, bk]).length = 1 := by
 unfold opP
 split <;> rfl
theorem g_bin (op : S) (a b : E) : G (eBin op a b) ≤ G a + G b + op.length := by
 have e : print (eBin op a b) = inn (cOf a) ++ [32] ++ op ++ [32] ++ inn (cOf b) := rfl
 have h1 := zdg a
 have h2 := zdg b
 unfold G at *
 rw [e]
 simp only [List.length_append, List.length_cons, List.length_nil]; omega
theorem t_bin (op : S) (a b : E) : Tk (eBin op a b) ≤ Tk a + Tk b + 3 := by
 have e : pcs (eBin op a b) = innP (dOf a) ++ [bk, opP op, bk] ++ innP (dOf b) := rfl
 have h1 := zct a
 have h2 := zct b
 have h3 := opP_len op
 unfold Tk at *
 rw [e]
 simp only [toks_app, List.length_append]
 omega
theorem g_is (g : Bool) (a b : E) : G (eIs g a b) ≤ G a + G b := by
 have e : print (eIs g a b) = inn (cOf a) ++ [32] ++ wIs ++ [32] ++ (if g then wNot ++ [32] else []) ++ inn (cOf b) := rfl
 have h1 := zdg a
 have h2 := zdg b
 unfold G at *
 rw [e]
 cases g <;> simp [wIs, wNot] <;> omega
theorem t_is (g : Bool) (a b : E) : Tk (eIs g a b) ≤ Tk a + Tk b + (if g then 4 else 3) := by
 have e : pcs (eIs g a b) = innP (dOf a) ++ [bk, wd wIs, bk] ++ (if g then [wd wNot, bk] else []) ++ innP (dOf b) := rfl
 have h1 := zct a
 have h2 := zct b
 have e1 : (toks [bk, wd wIs, bk]).length = 1 := rfl
 have e2 : (toks [wd wNot, bk]).length = 1 := rfl
 have e3 : (toks []).length = 0 := rfl
 unfold Tk at *
 rw [e]
 cases g <;> simp only [toks_app, List.length_append, if_true, Bool.false_eq_true, if_false] <;> omega
theorem g_in (g : Bool) (a : E) (l : List E) : G (eIn g (a :: l)) ≤ G a + GL l + 12 := by
 have e : print (eIn g (a :: l)) = inn (cOf a) ++ notW g wIn ++ [40] ++ zbP (l.map cOf) ++ [41] := zjf _
 have h1 := zdg a
 have h2 := zf6 l
 have h3 := zjq g (w := wIn)
 have h4 : wIn.length = 2 := rfl
 unfold G at *
 rw [e]
 simp only [List.length_append, List.length_cons, List.length_nil]; omega
theorem t_in (g : Bool) (a : E) (l : List E) : Tk (eIn g (a :: l)) ≤ Tk a + TL l + (if g then 6 else 5) := by
 have e : pcs (eIn g (a :: l)) = innP (dOf a) ++ notP g wIn ++ [mk zbv] ++ zdK (l.map dOf) ++ [mk zbh] := zoC _
 have h1 := zct a
 have h2 := zeT l
 have h3 := zjr g (w := wIn)
 have e1 : (toks [mk zbv]).length = 1 := rfl
 have e2 : (toks [mk zbh]).length = 1 := rfl
 unfold Tk at *
 rw [e]
 simp only [toks_app, List.length_append]
 cases g <;> simp only [if_true, Bool.false_eq_true, if_false] at h3 ⊢ <;> omega
theorem g_btw (g : Bool) (a b c : E) : G (eBtw g a b c) ≤ G a + G b + G c := by
 have e : print (eBtw g a b c) = inn (cOf a) ++ notW g zaO ++ inn (cOf b) ++ [32] ++ wAnd ++ [32] ++ inn (cOf c) := rfl
 have h1 := zdg a
 have h2 := zdg b
 have h5 := zdg c
 have h3 := zjq g (w := zaO)
 have h4 : zaO.length = 7 := rfl
 have h6 : wAnd.length = 3 := rfl
 unfold G at *
 rw [e]
 simp only [List.length_append, List.length_cons, List.length_nil]; omega
theorem t_btw (g : Bool) (a b c : E) : Tk (eBtw g a b c) ≤ Tk a + Tk b + Tk c + (if g then 5 else 4) := by
 have e : pcs (eBtw g a b c) = innP (dOf a) ++ notP g zaO ++ innP (dOf b) ++ [bk, wd wAnd, bk] ++ innP (dOf c) := rfl
 have h1 := zct a
 have h2 := zct b
 have h4 := zct c
 have h3 := zjr g (w := zaO)
 have e1 : (toks [bk, wd wAnd, bk]).length = 1 := rfl
 unfold Tk at *
 rw [e]
 simp only [toks_app, List.length_append]
 cases g <;> simp only [if_true, Bool.false_eq_true, if_false] at h3 ⊢ <;> omega
theorem g_like (g : Bool) (a b : E) : G (zaY g a b) ≤ G a + G b := by
 have e : print (zaY g a b) = inn (cOf a) ++ notW g zbV ++ inn (cOf b) := rfl
 have h1 := zdg a
 have h2 := zdg b
 have h3 := zjq g (w := zbV)
 have h4 : zbV.length = 4 := rfl
 unfold G at *
 rw [e]
 simp only [List.length_append]; omega
theorem t_like (g : Bool) (a b : E) : Tk (zaY g a b) ≤ Tk a + Tk b + (if g then 4 else 3) := by
 have e : pcs (zaY g a b) = innP (dOf a) ++ notP g zbV ++ innP (dOf b) := rfl
 have h1 := zct a
 have h2 := zct b
 have h3 := zjr g (w := zbV)
 unfold Tk at *
 rw [e]
 simp only [toks_app, List.length_append]
 cases g <;> simp only [if_true, Bool.false_eq_true, if_false] at h3 ⊢ <;> omega
theorem g_case (d : Bool) (l : List E) : G (eCase d l) ≤ GL l + 23 := by
 have e : print (eCase d l) = zgt d (l.map cOf) := zjf _
 have := case_len d l
 unfold G
 rw [e]
 omega
theorem t_case (d : Bool) (l : List E) : Tk (eCase d l) ≤ TL l + 4 := by
 have e : pcs (eCase d l) = caseQ d (l.map dOf) := zoC _
 have := zpB d l
 unfold Tk
 rw [e]
 omega
theorem g_fn (op : S) (l : List E) : G (eFn op l) ≤ op.length + GL l + 16 := by
 have e : print (eFn op l) = op ++ [40] ++ zbP (l.map cOf) ++ [41] := zjf _
 have := zf6 l
 unfold G
 rw [e]
 simp only [List.length_append, List.length_cons, List.length_nil]; omega
theorem t_fn (op : S) (l : List E) : Tk (eFn op l) ≤ TL l + 5 := by
 have e : pcs (eFn op l) = [nmP op, mk zbv] ++ zdK (l.map dOf) ++ [mk zbh] := zoC _
 have := zeT l
 have e1 : (toks [nmP op, mk zbv]).length = 2 := rfl
 have e2 : (toks [mk zbh]).length = 1 := rfl
 unfold Tk
 rw [e]
 simp only [toks_app, List.length_append]; omega
theorem g_agg (op : S) (d : Bool) (a : E) : G (eAgg op d [a]) ≤ op.length + G a + 11 := by
 have e : print (eAgg op d [a]) = if d then op ++ [40] ++ wDistinct ++ [32] ++ print a ++ [41] else op ++ [40] ++ print a ++ [41] := rfl
 unfold G
 rw [e]
 have h : wDistinct.length = 8 := rfl
 split <;> (simp only [List.length_append, List.length_cons, List.length_nil]; omega)
theorem t_agg (op : S) (d : Bool) (a : E) : Tk (eAgg op d [a]) ≤ Tk a + (if d then 4 else 3) := by
 have e : pcs (eAgg op d [a]) = if d then [nmP op, mk zbv, wd wDistinct, bk] ++ pcs a ++ [mk zbh] else [nmP op, mk zbv] ++ pcs a ++ [mk zbh] := rfl
 have e1 : (toks [nmP op, mk zbv]).length = 2 := rfl
 have e3 : (toks [nmP op, mk zbv, wd wDistinct, bk]).length = 3 := rfl
 have e2 : (toks [mk zbh]).length = 1 := rfl
 unfold Tk
 rw [e]
 split <;> (simp only [toks_app, List.length_append]; omega)
theorem g_star : G (eAgg zbr false []) = 22 := rfl
theorem t_star : Tk (eAgg zbr false []) = 6 := rfl
theorem g_cast (op : S) (a : E) : G (za0 op a) ≤ op.length + G a + 10 := by
 have e : print (za0 op a) = zcI ++ [40] ++ print a ++ [32] ++ wAs ++ [32] ++ op ++ [41] := rfl
 unfold G
 rw [e]
 have h : zcI.length = 4 := rfl
 have h2 : wAs.length = 2 := rfl
 simp only [List.length_append, List.length_cons, List.length_nil]; omega
theorem t_cast (op : S) (a : E) : Tk (za0 op a) ≤ Tk a + 5 := by
 have e : pcs (za0 op a) = [wd zcI, mk zbv] ++ pcs a ++ [bk, wd wAs, bk, nmP op, mk zbh] := rfl
 have e1 : (toks [wd zcI, mk zbv]).length = 2 := rfl
 have e2 : (toks [bk, wd wAs, bk, nmP op, mk zbh]).length = 3 := rfl
 unfold Tk
 rw [e]
 simp only [toks_app, List.length_append]; omega
inductive Sm : E → Prop
 | mk {e : E} : N64 e → e.op.length + e.table.length + e.name.length ≤ 400 → e.val.2.2.length ≤ 100 → (∀ x ∈ e.args, Sm x) → Sm e
theorem Sm.a {e : E} (h : Sm e) : ∀ x ∈ e.args, Sm x := by cases h; assumption
theorem Sm.n {e : E} (h : Sm e) : N64 e := by cases h; assumption
theorem Sm.l {e : E} (h : Sm e) : e.op.length + e.table.length + e.name.length ≤ 400 := by cases h; assumption
theorem Sm.v {e : E} (h : Sm e) : e.val.2.2.length ≤ 100 := by cases h; assumption
theorem zbU (e : E) : count e = counts e.args + 1 := by cases e; rw [count]; rfl
end Ex
namespace Ex
open Lx
theorem zhT : ∀ l : List C, zbP l = Go.Lib.join (l.map (·.2.2)) [44, 32]
 | [] => rfl
 | [c] => by rw [zbP]; simp [Go.Lib.join, List.intercalate]
 | c :: d :: r => by
  rw [zbP, zhT (d :: r), List.map_cons, Go.Lib.join_cons, List.map_cons, Go.Lib.join_cons]
  ·simp [Go.Lib.joinTail]
  ·intro h; cases h
def zbq : List C → List S
 | [] => []
 | [c] => [zcA, c.2.2]
 | c :: d :: r => zb4 :: c.2.2 :: zda :: d.2.2 :: zbq r
theorem zfD : ∀ l : List C, Go.Lib.joinTail [32] (zbq l) ++ [32] = 32 :: zc0 l
 | [] => rfl
 | [c] => by rw [zbq, zc0]; simp [Go.Lib.joinTail]
 | c :: d :: r => by
  have h := zfD r
  rw [zbq, zc0]
  simp only [Go.Lib.joinTail, List.map_cons, List.flatten_cons, List.append_assoc] at h ⊢
  rw [h]
  simp
theorem zpA (d : Bool) (l : List C) : zgt d l = Go.Lib.join (wCase :: ((if d then (kid l 0).2.2 :: zbq (l.drop 1) else zbq l) ++ [wEnd])) [32] := by
 rw [Go.Lib.join_cons, zgt]
 have hT : ∀ (a b : List S), Go.Lib.joinTail [32] (a ++ b) = Go.Lib.joinTail [32] a ++ Go.Lib.joinTail [32] b := fun a b => by simp [Go.Lib.joinTail]
 have h1 : Go.Lib.joinTail [32] [wEnd] = 32 :: wEnd := by simp [Go.Lib.joinTail]
 rw [hT, h1]
 cases d
 ·have := zfD l
  simp only [Bool.false_eq_true, if_false]
  rw [show (32 :: wEnd : S) = [32] ++ wEnd from rfl, ← List.append_assoc (Go.Lib.joinTail _ _), this]
  simp
 ·have := zfD (l.drop 1)
  simp only [if_true]
  have h2 : Go.Lib.joinTail [32] ((kid l 0).2.2 :: zbq (l.drop 1)) = 32 :: ((kid l 0).2.2 ++ Go.Lib.joinTail [32] (zbq (l.drop 1))) := by simp [Go.Lib.joinTail]
  have h3 : ∀ z : S, Go.Lib.joinTail [32] (zbq (l.drop 1)) ++ 32 :: z = 32 :: (zc0 (l.drop 1) ++ z) := fun z => by
   have := congrArg (· ++ z) this
   simpa using this
  rw [h2]
  simp only [List.cons_append, List.append_assoc, h3, List.nil_append]
end Ex
namespace Ex
open Lx
mutual
def same : E → E → Bool
 | .mk k o v t n s g d a, .mk k' o' v' t' n' s' g' d' a' => k == k' && (o == o' && (v == v' && (fold t == fold t' && (fold n == fold n' && (s == s' && (g == g' && (d == d' && (a.length == a'.length && sames a a'))))))))
termination_by structural x => x
def sames : List E → List E → Bool
 | [], _ => true
 | e :: r, l => match l with | [] => true | f :: q => same e f && sames r q
termination_by structural x => x
end
mutual
def equal : E → E → Bool
 | .mk k o v t n s g d a, .mk k' o' v' t' n' s' g' d' a' => same (.mk k o v t n s g d a) (.mk k' o' v' t' n' s' g' d' a') && (t == t' && (n == n' && equals a a'))
termination_by structural x => x
def equals : List E → List E → Bool
 | [], _ => true
 | e :: r, l => match l with | [] => true | f :: q => equal e f && equals r q
termination_by structural x => x
end
mutual
theorem zkb : ∀ e, same e e = true
 | .mk k o v t n s g d a => by rw [same, zin a]; simp
theorem zin : ∀ l, sames l l = true
 | [] => rfl
 | e :: r => by rw [sames, zkb e, zin r]; rfl
end
mutual
theorem ziG : ∀ e, equal e e = true
 | .mk k o v t n s g d a => by rw [equal, zkb, zhP a]; simp
theorem zhP : ∀ l, equals l l = true
 | [] => rfl
 | e :: r => by rw [equals, ziG e, zhP r]; rfl
end
inductive Sh : E → Prop
 | mk {e : E} : e.table.length ≤ 1000000 → e.name.length ≤ 1000000 → (∀ x ∈ e.args, Sh x) → Sh e
theorem Sh.t {e : E} (h : Sh e) : e.table.length ≤ 1000000 := by cases h; assumption
theorem Sh.n {e : E} (h : Sh e) : e.name.length ≤ 1000000 := by cases h; assumption
theorem Sh.a {e : E} (h : Sh e) : ∀ x ∈ e.args, Sh x := by cases h; assumption
theorem zm1 : ∀ {l m : List E} {i : Nat} (h : i < l.length) (h' : i < m.length), sames (l.drop i) (m.drop i) = (same l[i] m[i] && sames (l.drop (i + 1)) (m.drop (i + 1))) := fun {l m i} h h' => by
 rw [List.drop_eq_getElem_cons h, List.drop_eq_getElem_cons h']; rfl
theorem zly : ∀ {l m : List E} {i : Nat} (h : i < l.length) (h' : i < m.length), equals (l.drop i) (m.drop i) = (equal l[i] m[i] && equals (l.drop (i + 1)) (m.drop (i + 1))) := fun {l m i} h h' => by
 rw [List.drop_eq_getElem_cons h, List.drop_eq_getElem_cons h']; rfl
end Ex
namespace Ex
open Lx
def wt (t : T) : Nat := 40 + 5 * t.text.length
def cw (L : List T) (p : Nat) : Nat := ((L.take p).map wt).sum
theorem cw_succ {L : List T} {p : Nat} {t : T} (h : L[p]? = some t) : cw L (p + 1) = cw L p + wt t := by
 obtain ⟨h1, h2⟩ := List.getElem?_eq_some_iff.1 h
 unfold cw
 rw [List.take_succ_eq_append_getElem h1, List.map_append, List.sum_append, h2]
 simp
theorem zkJ {L : List T} {p : Nat} {t : T} (h : L[p]? = some t) : cw L p + 40 + 5 * t.text.length = cw L (p + 1) := by
 rw [cw_succ h]; unfold wt; omega
theorem zpq {L : List T} {p : Nat} {k : Int} {s : S} (h : isT L p k s = true) : cw L p + 40 + 5 * s.length = cw L (p + 1) := by
 unfold isT at h
 split at h
 ·rename_i t ht
  simp only [Bool.and_eq_true, beq_iff_eq] at h
  rw [← h.2]
  exact zkJ ht
 ·cases h
def ValT (L : List T) : Prop := ∀ t ∈ L, t.kind = 3 → t.val.2.2.length ≤ 2 * t.text.length ∧ -9223372036854775807 ≤ t.val.2.1 ∧ t.val.2.1 ≤ 9223372036854775807 ∧ (t.val.1 = 1 → 0 ≤ t.val.2.1)
structure Wg (L : List T) (e : E) (p q : Nat) : Prop where
 g : G e + cw L p ≤ cw L q
 t : Tk e + 3 * p ≤ 3 * q
 c : count e + p ≤ q
structure WgL (L : List T) (l : List E) (p q : Nat) : Prop where
 g : GL l + cw L p ≤ cw L q
 t : TL l + 3 * p ≤ 3 * q
 c : counts l + p ≤ q
theorem zet : ∀ a b : List E, counts (a ++ b) = counts a + counts b
 | [], b => by simp [counts]
 | x :: a, b => by simp only [List.cons_append, counts, zet a b]; omega
def W1 (L : List T) (p : Nat) (r : Option R) : Prop := ∀ l q, r = some (.ok l q) → p ≤ q ∧ ∃ e, l = [e] ∧ Wg L e p q
def WC (L : List T) (e0 : E) (p : Nat) (r : Option R) : Prop := ∀ l q, r = some (.ok l q) → p ≤ q ∧ ∃ e, l = [e] ∧ G e + cw L p ≤ G e0 + cw L q ∧ Tk e + 3 * p ≤ Tk e0 + 3 * q ∧ count e + p ≤ count e0 + q
def WL (L : List T) (acc : List E) (p : Nat) (r : Option R) : Prop := ∀ l q, r = some (.ok l q) → p < q ∧ GL l + cw L p + 40 ≤ GL acc + cw L q ∧ TL l + 3 * p + 3 ≤ TL acc + 3 * q ∧ counts l + p + 1 ≤ counts acc + q
def WW (L : List T) (acc : List E) (p : Nat) (r : Option R) : Prop := ∀ l q, r = some (.ok l q) → p ≤ q ∧ ∃ e, l = [e] ∧ G e + cw L p ≤ GL acc + cw L q ∧ Tk e + 3 * p ≤ TL acc + 1 + 3 * q ∧ count e + p ≤ counts acc + q
theorem zbs {L : List T} {p' : Nat} {r : Option R} {f : E → Nat → Option R} {P : List E → Nat → Prop} (h : W1 L p' r) (hf : ∀ e q, p' ≤ q → Wg L e p' q → ∀ l q', f e q = some (.ok l q') → P l q') : ∀ l q', then1 r f = some (.ok l q') → P l q' := fun l q' hr => by
 rcases then1_some hr with ⟨e, q1, h1, h2⟩ | ⟨q1, h1, h2⟩
 ·obtain ⟨h3, e', h4, h5⟩ := h _ _ h1
  cases h4
  exact hf _ _ h3 h5 _ _ h2
 ·cases h2
theorem zc1 {L : List T} {k : Int} {s : S} {p : Nat} {f : Nat → Option R} {P : List E → Nat → Prop} (hf : cw L p + 40 + 5 * s.length = cw L (p + 1) → ∀ l q', f (p + 1) = some (.ok l q') → P l q') : ∀ l q', need L k s p f = some (.ok l q') → P l q' := fun l q' hr => by
 rcases need_some hr with ⟨h1, h2⟩ | ⟨h1, h2⟩
 ·exact hf (zpq h1) _ _ h2
 ·cases h2
theorem zib {p : Nat} {P : List E → Nat → Prop} : ∀ l q', (some (.stop p) : Option R) = some (.ok l q') → P l q' := fun l q' hr => by cases hr
theorem zc9 {L : List T} {e : E} {p q : Nat} (h : p ≤ q) (hw : Wg L e p q) : W1 L p (one e q) := fun l q' hr => by
 cases hr
 exact ⟨h, e, rfl, hw⟩
theorem zk0 {L : List T} {p : Nat} {k : Int} {s : S} {l : List S} (h : oneOf L p k l = some s) : cw L p + 40 + 5 * s.length = cw L (p + 1) := zpq (zaB h).2.1
theorem zmJ (op : S) (a : E) : count (eUn op a) = count a + 1 := by rw [zbU]; show counts [a] + 1 = _; simp [counts]
theorem zkL (op : S) (a b : E) : count (eBin op a b) = count a + count b + 1 := by rw [zbU]; show counts [a, b] + 1 = _; simp [counts]
theorem zmK (g : Bool) (a b : E) : count (eIs g a b) = count a + count b + 1 := by rw [zbU]; show counts [a, b] + 1 = _; simp [counts]
theorem count_in (g : Bool) (a : E) (l : List E) : count (eIn g (a :: l)) = count a + counts l + 1 := by rw [zbU]; show counts (a :: l) + 1 = _; simp [counts]
theorem zpu (g : Bool) (a b c : E) : count (eBtw g a b c) = count a + count b + count c + 1 := by rw [zbU]; show counts [a, b, c] + 1 = _; simp [counts]; omega
theorem znt (g : Bool) (a b : E) : count (zaY g a b) = count a + count b + 1 := by rw [zbU]; show counts [a, b] + 1 = _; simp [counts]
theorem ziH (d : Bool) (l : List E) : count (eCase d l) = counts l + 1 := zbU _
theorem zmL (op : S) (l : List E) : count (eFn op l) = counts l + 1 := zbU _
theorem zkM (op : S) (d : Bool) (l : List E) : count (eAgg op d l) = counts l + 1 := zbU _
theorem znu (op : S) (a : E) : count (za0 op a) = count a + 1 := by rw [zbU]; show counts [a] + 1 = _; simp [counts]
theorem zhS (v : V) : count (eVal v) = 1 := by rw [zbU]; rfl
theorem zkK (t n : S) : count (eCol t n) = 1 := by rw [zbU]; rfl
theorem zhB (a : E) : GL [a] = G a ∧ TL [a] = Tk a ∧ counts [a] = count a := by simp [GL, TL, counts]
theorem two_l (a b : E) : GL [a, b] = G a + G b ∧ TL [a, b] = Tk a + Tk b ∧ counts [a, b] = count a + count b := by simp [GL, TL, counts]
theorem ops_op {k : Nat} {op : S} (h : op ∈ (ops k).1) : op.length ≤ 3 := by
 have := zmj k h
 simp only [bins, List.mem_cons, List.not_mem_nil, or_false] at this
 rcases this with rfl | rfl | rfl | rfl | rfl | rfl | rfl | rfl | rfl | rfl | rfl | rfl | rfl | rfl <;> decide
theorem cmps_op {op : S} (h : op ∈ cmps) : op.length ≤ 3 := by
 simp only [cmps, List.mem_cons, List.not_mem_nil, or_false] at h
 rcases h with rfl | rfl | rfl | rfl | rfl | rfl <;> decide
theorem zc6 {L : List T} {p : Nat} {k : Int} {s : S} (h : isT L p k s = true) : cw L p + 40 ≤ cw L (p + 1) := by have := zpq h; omega
theorem zfN (L : List T) (hV : ValT L) : ∀ n, (∀ k p, W1 L p (run L n (.lev k) p)) ∧ (∀ k e p, WC L e p (run L n (.chain k e) p)) ∧
  (∀ acc p, WL L acc p (run L n (.list acc) p)) ∧ (∀ d acc p, WW L acc p (run L n (.whens d acc) p))
 | 0 => by
  refine ⟨fun k p => ?_, fun k e p => ?_, fun acc p => ?_, fun d acc p => ?_⟩ <;> (intro l q h; cases h)
 | n + 1 => by
  obtain ⟨hl, hc, hs, hw⟩ := zfN L hV n
  refine ⟨fun k p => ?_, fun k e p => ?_, fun acc p => ?_, fun d acc p => ?_⟩
  ·by_cases hk : k ≠ 2 ∧ k ≠ 3 ∧ k ≠ 7 ∧ k ≠ 8
   ·rw [zdd L n k p hk]
    refine zbs (hl _ _) fun e q hq he l q' hr => ?_
    obtain ⟨h1, e', h2, h3, h4, h5⟩ := hc _ _ _ _ _ hr
    obtain ⟨g, t, c⟩ := he
    exact ⟨by omega, e', h2, ⟨by omega, by omega, by omega⟩⟩
   ·have hk' : k = 2 ∨ k = 3 ∨ k = 7 ∨ k = 8 := by omega
    rcases hk' with rfl | rfl | rfl | rfl
    ·simp only [run]
     split
     ·rename_i ht
      have h0 := zc6 ht
      refine zbs (hl _ _) fun e q hq he => ?_
      obtain ⟨g, t, c⟩ := he
      have g1 := g_un wNot e
      have t1 := t_un wNot e
      have c1 := zmJ wNot e
      have e3 : wNot.length = 3 := rfl
      exact zc9 (by omega) ⟨by omega, by omega, by omega⟩
     ·exact hl _ _
    ·simp only [run]
     refine zbs (hl _ _) fun a q hq ha => ?_
     obtain ⟨ga, ta, ca⟩ := ha
     split
     ·rename_i op ho
      have h0 := zk0 ho
      have hop := cmps_op (zaB ho).2.2
      refine zbs (hl _ _) fun b r hr hb => ?_
      obtain ⟨gb, tb, cb⟩ := hb
      have g1 := g_bin op a b
      have t1 := t_bin op a b
      have c1 := zkL op a b
      exact zc9 (by omega) ⟨by omega, by omega, by omega⟩
     ·split
      ·rename_i ht
       have h0 := zc6 ht
       split
       ·rename_i hn
        have h1 := zc6 hn
        refine zbs (hl _ _) fun b r hr hb => ?_
        obtain ⟨gb, tb, cb⟩ := hb
        have g1 := g_is true a b
        have t1 := t_is true a b
        have c1 := zmK true a b
        rw [if_pos rfl] at t1
        rw [show q + 2 = q + 1 + 1 by omega] at *
        simp only [hn]
        exact zc9 (by omega) ⟨by omega, by omega, by omega⟩
       ·rename_i hn
        refine zbs (hl _ _) fun b r hr hb => ?_
        replace hr : q + 1 ≤ r := hr
        replace hb : Wg L b (q + 1) r := hb
        obtain ⟨gb, tb, cb⟩ := hb
        have hn : isT L (q + 1) 2 wNot = false := by simpa using hn
        have g1 := g_is false a b
        have t1 := t_is false a b
        have c1 := zmK false a b
        rw [if_neg (by decide)] at t1
        simp only [hn]
        exact zc9 (by omega) ⟨by omega, by omega, by omega⟩
      ·have hq2 : ∃ nt q2, (isT L q 2 wNot && (isT L (q + 1) 2 wIn || isT L (q + 1) 2 zaO || isT L (q + 1) 2 zbV)) = nt ∧ (if nt = true then q + 1 else q) = q2 ∧ q ≤ q2 ∧ cw L q ≤ cw L q2 ∧ (if nt then q2 = q + 1 ∧ cw L q + 40 ≤ cw L q2 else q2 = q) := by
        cases hnt : (isT L q 2 wNot && (isT L (q + 1) 2 wIn || isT L (q + 1) 2 zaO || isT L (q + 1) 2 zbV)) with
        | false => exact ⟨false, q, rfl, rfl, Nat.le_refl _, Nat.le_refl _, rfl⟩
        | true =>
         simp only [Bool.and_eq_true] at hnt
         have := zc6 hnt.1
         exact ⟨true, q + 1, rfl, rfl, by omega, by omega, rfl, by omega⟩
       obtain ⟨nt, q2, hnt, hq2, h3, h4, h5⟩ := hq2
       rw [hnt, hq2]
       split
       ·rename_i ht
        have h0 := zc6 ht
        refine zc1 fun h6 l q' hr => ?_
        rcases thenL_some hr with ⟨l2, q3, h7, h8⟩ | ⟨q3, h7, h8⟩
        ·obtain ⟨h9, gl, tl, cl⟩ := hs _ _ _ _ h7
         rw [zmT] at gl
         rw [zmR] at tl
         rw [show counts [] = 0 from rfl] at cl
         have g1 := g_in nt a l2
         have t1 := t_in nt a l2
         have c1 := count_in nt a l2
         refine zc9 (L := L) (p := p) ?_ ⟨?_, ?_, ?_⟩ _ _ h8
         ·omega
         ·omega
         ·cases nt <;> simp only [if_true, Bool.false_eq_true, if_false] at t1 h5 <;> omega
         ·omega
        ·cases h8
       ·split
        ·rename_i ht
         have h0 := zc6 ht
         refine zbs (hl _ _) fun b r hr hb => ?_
         obtain ⟨gb, tb, cb⟩ := hb
         refine zc1 fun h6 => ?_
         refine zbs (hl _ _) fun c r2 hr2 hcc => ?_
         obtain ⟨gc, tc, cc⟩ := hcc
         have g1 := g_btw nt a b c
         have t1 := t_btw nt a b c
         have c1 := zpu nt a b c
         refine zc9 (by omega) ⟨by omega, ?_, by omega⟩
         cases nt <;> simp only [if_true, Bool.false_eq_true, if_false] at t1 h5 <;> omega
        ·split
         ·rename_i ht
          have h0 := zc6 ht
          refine zbs (hl _ _) fun b r hr hb => ?_
          obtain ⟨gb, tb, cb⟩ := hb
          have g1 := g_like nt a b
          have t1 := t_like nt a b
          have c1 := znt nt a b
          refine zc9 (by omega) ⟨by omega, ?_, by omega⟩
          cases nt <;> simp only [if_true, Bool.false_eq_true, if_false] at t1 h5 <;> omega
         ·exact zc9 (by omega) ⟨by omega, by omega, by omega⟩
    ·simp only [run]
     split
     ·exact hl _ _
     ·rename_i op ho
      have h0 := zk0 ho
      have hop : op.length ≤ 3 := by
       have := (zaB ho).2.2
       simp only [List.mem_cons, List.not_mem_nil, or_false] at this
       rcases this with rfl | rfl <;> decide
      have hu : W1 L p (then1 (run L n (.lev 7) (p + 1)) fun e q => one (eUn op e) q) := by
       refine zbs (hl _ _) fun e q hq he => ?_
       obtain ⟨g, t, c⟩ := he
       have g1 := g_un op e
       have t1 := t_un op e
       have c1 := zmJ op e
       exact zc9 (by omega) ⟨by omega, by omega, by omega⟩
      split
      ·rename_i t ht
       split
       ·rename_i hv
        simp only [Bool.and_eq_true, decide_eq_true_eq] at hv
        obtain ⟨v1, v2, v3, v4⟩ := hV t (List.mem_of_getElem? ht) hv.1.2
        have h1 := zkJ ht
        have g1 := g_val (v := (t.val.1, -t.val.2.1, t.val.2.2)) (by simp only; omega) (by simp only; omega)
        have t1 := t_val (t.val.1, -t.val.2.1, t.val.2.2)
        have c1 := zhS (t.val.1, -t.val.2.1, t.val.2.2)
        have t2 : Tk (eVal (t.val.1, -t.val.2.1, t.val.2.2)) ≤ 4 := by split at t1 <;> omega
        dsimp only at g1
        rw [show p + 2 = p + 1 + 1 by omega]
        exact zc9 (by omega) ⟨by omega, by omega, by omega⟩
       ·exact hu
      ·exact hu
    ·rw [zdX]
     split
     ·exact zib
     ·rename_i t ht
      have h0 := zkJ ht
      split
      ·rename_i h3
       obtain ⟨v1, v2, v3, v4⟩ := hV t (List.mem_of_getElem? ht) h3
       have g1 := g_val (v := t.val) (by omega) (by omega)
       have t1 := t_val t.val
       have c1 := zhS t.val
       have t2 : Tk (eVal t.val) ≤ 3 := by
        split at t1
        ·rename_i h; have := v4 h.1; omega
        ·exact t1
       exact zc9 (by omega) ⟨by omega, by omega, by omega⟩
      split
      ·unfold zhD
       split
       ·rename_i hd
        have h1 := zc6 hd
        split
        ·rename_i u hu
         split
         ·have h2 := zkJ hu
          have g1 := g_col t.text u.text
          have t1 := t_col t.text u.text
          have c1 := zkK t.text u.text
          have t2 : Tk (eCol t.text u.text) ≤ 5 := by split at t1 <;> omega
          rw [show p + 1 + 2 = p + 1 + 1 + 1 by omega]
          exact zc9 (by omega) ⟨by omega, by omega, by omega⟩
         ·exact zib
        ·exact zib
       split
       ·rename_i ho
        have h1 := zc6 ho
        have hfl : (fold t.text).length = t.text.length := by simp [fold]
        unfold zjJ
        split
        ·split
         ·rename_i hcs
          simp only [Bool.and_eq_true, beq_iff_eq] at hcs
          have h2 := zc6 hcs.2
          rw [hcs.1]
          refine zc1 fun h6 => ?_
          have g1 := g_star
          have t1 := t_star
          have c1 : count (eAgg zbr false []) = 1 := rfl
          exact zc9 (by omega) ⟨by omega, by omega, by omega⟩
         ·dsimp only
          split
          ·rename_i hd
           have h2 := zc6 hd
           refine zbs (hl _ _) fun e q hq he => zc1 fun h6 => ?_
           replace hq : p + 1 + 1 + 1 ≤ q := hq
           replace he : Wg L e (p + 1 + 1 + 1) q := he
           obtain ⟨g, t2, c⟩ := he
           have g1 := g_agg (fold t.text) (isT L (p + 1 + 1) 2 wDistinct) e
           have t1 := t_agg (fold t.text) (isT L (p + 1 + 1) 2 wDistinct) e
           have c1 := zkM (fold t.text) (isT L (p + 1 + 1) 2 wDistinct) [e]
           rw [(zhB e).2.2] at c1
           have t3 : Tk (eAgg (fold t.text) (isT L (p + 1 + 1) 2 wDistinct) [e]) ≤ Tk e + 4 := by split at t1 <;> omega
           exact zc9 (by omega) ⟨by omega, by omega, by omega⟩
          ·refine zbs (hl _ _) fun e q hq he => zc1 fun h6 => ?_
           replace hq : p + 1 + 1 ≤ q := hq
           replace he : Wg L e (p + 1 + 1) q := he
           obtain ⟨g, t2, c⟩ := he
           have g1 := g_agg (fold t.text) (isT L (p + 1 + 1) 2 wDistinct) e
           have t1 := t_agg (fold t.text) (isT L (p + 1 + 1) 2 wDistinct) e
           have c1 := zkM (fold t.text) (isT L (p + 1 + 1) 2 wDistinct) [e]
           rw [(zhB e).2.2] at c1
           have t3 : Tk (eAgg (fold t.text) (isT L (p + 1 + 1) 2 wDistinct) [e]) ≤ Tk e + 4 := by split at t1 <;> omega
           exact zc9 (by omega) ⟨by omega, by omega, by omega⟩
        ·split
         ·rename_i hsh
          have h2 := zc6 hsh
          have g1 := g_fn (fold t.text) []
          have t1 := t_fn (fold t.text) []
          have c1 := zmL (fold t.text) []
          rw [zmT] at g1
          rw [zmR] at t1
          rw [show counts [] = 0 from rfl] at c1
          exact zc9 (by omega) ⟨by omega, by omega, by omega⟩
         ·intro l q' hr
          rcases thenL_some hr with ⟨l2, q3, h7, h8⟩ | ⟨q3, h7, h8⟩
          ·obtain ⟨h9, gl, tl, cl⟩ := hs _ _ _ _ h7
           rw [zmT] at gl
           rw [zmR] at tl
           rw [show counts [] = 0 from rfl] at cl
           have g1 := g_fn (fold t.text) l2
           have t1 := t_fn (fold t.text) l2
           have c1 := zmL (fold t.text) l2
           exact zc9 (L := L) (p := p) (by omega) ⟨by omega, by omega, by omega⟩ _ _ h8
          ·cases h8
       ·have g1 := g_col [] t.text
        have t1 := t_col [] t.text
        have c1 := zkK [] t.text
        rw [if_pos rfl] at t1
        rw [List.length_nil] at g1
        exact zc9 (by omega) ⟨by omega, by omega, by omega⟩
      split
      ·have g1 : G (eVal v0) = 18 := rfl
       have t1 : Tk (eVal v0) = 3 := rfl
       have c1 := zhS v0
       exact zc9 (by omega) ⟨by omega, by omega, by omega⟩
      split
      ·unfold zeI
       split
       ·intro l q' hr
        obtain ⟨h1, e, h2, g, t2, c⟩ := hw _ _ _ _ _ hr
        rw [zmT] at g
        rw [zmR] at t2
        rw [show counts [] = 0 from rfl] at c
        exact ⟨by omega, e, h2, ⟨by omega, by omega, by omega⟩⟩
       ·refine zbs (hl _ _) fun e q hq he l q' hr => ?_
        obtain ⟨g0, t0, c0⟩ := he
        obtain ⟨h1, e', h2, g, t2, c⟩ := hw _ _ _ _ _ hr
        rw [(zhB e).1] at g
        rw [(zhB e).2.1] at t2
        rw [(zhB e).2.2] at c
        exact ⟨by omega, e', h2, ⟨by omega, by omega, by omega⟩⟩
      split
      ·unfold zkR
       refine zc1 fun h6 => zbs (hl _ _) fun e r hr he => zc1 fun h7 => ?_
       obtain ⟨g0, t0, c0⟩ := he
       split
       ·rename_i u hu
        have h8 := zkJ hu
        split
        ·refine zc1 fun h9 => ?_
         have hfl : (fold u.text).length = u.text.length := by simp [fold]
         have g1 := g_cast (fold u.text) e
         have t1 := t_cast (fold u.text) e
         have c1 := znu (fold u.text) e
         exact zc9 (by omega) ⟨by omega, by omega, by omega⟩
        ·exact zib
       ·exact zib
      split
      ·refine zbs (hl _ _) fun e q hq he => zc1 fun h6 => ?_
       obtain ⟨g0, t0, c0⟩ := he
       exact zc9 (by omega) ⟨by omega, by omega, by omega⟩
      ·exact zib
  ·simp only [run]
   split
   ·intro l q hr
    cases hr
    exact ⟨Nat.le_refl _, e, rfl, by omega, by omega, by omega⟩
   ·rename_i op ho
    have h0 := zk0 ho
    have hop := ops_op (zaB ho).2.2
    refine zbs (hl _ _) fun b q hq hb l q' hr => ?_
    obtain ⟨gb, tb, cb⟩ := hb
    obtain ⟨h1, e', h2, g, t, c⟩ := hc _ _ _ _ _ hr
    have g1 := g_bin op e b
    have t1 := t_bin op e b
    have c1 := zkL op e b
    exact ⟨by omega, e', h2, by omega, by omega, by omega⟩
  ·simp only [run]
   refine zbs (hl _ _) fun e q hq he => ?_
   obtain ⟨g0, t0, c0⟩ := he
   have e1 := zpR acc [e]
   have e2 := zpP acc [e]
   have e3 := zet acc [e]
   rw [(zhB e).1] at e1
   rw [(zhB e).2.1] at e2
   rw [(zhB e).2.2] at e3
   split
   ·rename_i hcm
    have h0 := zc6 hcm
    intro l q' hr
    obtain ⟨h1, g, t, c⟩ := hs _ _ _ _ hr
    exact ⟨by omega, by omega, by omega, by omega⟩
   ·refine zc1 fun h6 l q' hr => ?_
    cases hr
    exact ⟨by omega, by omega, by omega, by omega⟩
  ·rw [zcv]
   refine zc1 fun h5 => ?_
   unfold ziR
   refine zbs (hl _ _) fun a q hq ha => zc1 fun h6 => ?_
   refine zbs (hl _ _) fun b r hr hb => ?_
   obtain ⟨ga, ta, ca⟩ := ha
   obtain ⟨gb, tb, cb⟩ := hb
   have e1 := zpR acc [a, b]
   have e2 := zpP acc [a, b]
   have e3 := zet acc [a, b]
   rw [(two_l a b).1] at e1
   rw [(two_l a b).2.1] at e2
   rw [(two_l a b).2.2] at e3
   split
   ·intro l q' hr
    obtain ⟨h1, e', h2, g, t, c⟩ := hw _ _ _ _ _ hr
    exact ⟨by omega, e', h2, by omega, by omega, by omega⟩
   ·unfold zfH
    split
    ·rename_i hel
     have h0 := zc6 hel
     refine zbs (hl _ _) fun c r2 hr2 hcc => zc1 fun h7 l q' hr => ?_
     obtain ⟨gc, tc, cc⟩ := hcc
     have f1 := zpR (acc ++ [a, b]) [c]
     have f2 := zpP (acc ++ [a, b]) [c]
     have f3 := zet (acc ++ [a, b]) [c]
     rw [(zhB c).1] at f1
     rw [(zhB c).2.1] at f2
     rw [(zhB c).2.2] at f3
     have g1 := g_case d (acc ++ [a, b] ++ [c])
     have t1 := t_case d (acc ++ [a, b] ++ [c])
     have c1 := ziH d (acc ++ [a, b] ++ [c])
     cases hr
     exact ⟨by omega, _, rfl, by omega, by omega, by omega⟩
    ·refine zc1 fun h7 l q' hr => ?_
     have g1 := g_case d (acc ++ [a, b])
     have t1 := t_case d (acc ++ [a, b])
     have c1 := ziH d (acc ++ [a, b])
     cases hr
     exact ⟨by omega, _, rfl, by omega, by omega, by omega⟩
end Ex
namespace Ex
open Lx
structure Good1 (t : T) : Prop where
 name : t.kind = 1 → nmE t.text = true
 may : t.kind = 3 → mayV t.val = true
 nat : t.kind = 3 → t.val.1 = 1 → 0 ≤ t.val.2.1
 lo : -9223372036854775807 ≤ t.val.2.1
 hi : t.val.2.1 ≤ 9223372036854775807
 len : t.val.2.2.length ≤ 2 * t.text.length
 int : t.val.1 = 1 → t.val.2.2 = []
theorem zjX : ∀ (l r : S), zbF l = some r → r.length ≤ l.length
 | [], r, h => by cases h; simp
 | [_], r, h => by cases h
 | a :: b :: l, r, h => by
  rw [zbF] at h
  split at h
  ·cases hx : zbF l with
   | none => rw [hx] at h; cases h
   | some x =>
    rw [hx] at h
    have := zjX l x hx
    cases h
    simp only [List.length_cons]
    omega
  ·cases h
theorem zmq {k : Int} {o : Option S} {n : Nat} (hk : k = 2 ∨ k = 3) (ho : ∀ r, o = some r → r.length ≤ n) (h : (mkV k o).2 = 0) : mayV (mkV k o).1 = true ∧ (mkV k o).1.1 = k ∧ (mkV k o).1.2.1 = 0 ∧ (mkV k o).1.2.2.length ≤ n := by
 unfold mkV at *
 cases o with
 | none => simp at h
 | some r =>
  dsimp only at h ⊢
  split at h
  ·simp at h
  ·rename_i hl
   rw [if_neg hl]
   refine ⟨?_, rfl, rfl, ho r rfl⟩
   unfold mayV
   rcases hk with rfl | rfl
   ·simp; omega
   ·simp; omega
theorem unq_good {l : S} (h : (zav l).2 = 0) (hh : l.head? ≠ some 45) :
  mayV (zav l).1 = true ∧ ((zav l).1.1 = 1 → 0 ≤ (zav l).1.2.1 ∧ (zav l).1.2.2 = []) ∧ 0 ≤ (zav l).1.2.1 ∧ (zav l).1.2.1 ≤ 9223372036854775807 ∧ (zav l).1.2.2.length ≤ 2 * l.length := by
 unfold zav at *
 by_cases h1 : (fold l == [110, 117, 108, 108]) = true
 ·simp only [h1, if_true] at h ⊢
  exact ⟨rfl, fun h => by simp at h, by decide, by decide, by simp⟩
 simp only [h1, if_false, Bool.false_eq_true] at h ⊢
 by_cases h2 : (zaV l).2 = true
 ·simp only [h2, if_true] at h ⊢
  have hi := zea l
  obtain ⟨g1, g2, g3, g4⟩ := zmq (n := l.length) (.inl rfl) (fun r hr => Nat.le_trans (zn8 _ r hr) hi) h
  exact ⟨g1, fun h => (by rw [g2] at h; cases h), by rw [g3]; decide, by rw [g3]; decide, by omega⟩
 simp only [h2, if_false, Bool.false_eq_true] at h ⊢
 by_cases h3 : (!l.isEmpty && fold (l.take 1) == [120]) = true
 ·rw [if_pos h3] at h ⊢
  have hi := zea l.tail
  have ht : l.tail.length ≤ l.length := by simp
  obtain ⟨g1, g2, g3, g4⟩ := zmq (n := l.length) (.inr rfl) (fun r hr => by
   split at hr
   ·exact Nat.le_trans (zjX _ r hr) (by omega)
   ·cases hr) h
  exact ⟨g1, fun h => (by rw [g2] at h; cases h), by rw [g3]; decide, by rw [g3]; decide, by omega⟩
 rw [if_neg h3] at h ⊢
 by_cases h4 : (read l).2 ≠ 0
 ·rw [if_pos h4] at h
  exact absurd h h4
 rw [if_neg h4] at h ⊢
 have hn : (l.head? == some 45) = false := by simpa using hh
 have hr : (read l).2 = 0 := Decidable.not_not.1 h4
 have : 0 ≤ (read l).1 ∧ (read l).1 ≤ 9223372036854775807 := by
  unfold Lx.read at *
  simp only [hn, Bool.false_and, Bool.or_false, Bool.false_eq_true, if_false] at hr ⊢
  split
  ·decide
  ·split
   ·decide
   ·rename_i hm
    unfold most at hm
    simp only
    omega
 refine ⟨?_, fun _ => ⟨this.1, rfl⟩, this.1, this.2, by simp⟩
 simp [mayV]
theorem nam_lo {k : Nat} {c : UInt8} (h : nam c = true) (hk : k = 0 → let_ c = true) : nmAt k (lo c) = true := by
 unfold nam let_ dig at h
 unfold let_ at hk
 simp only [Bool.or_eq_true, Bool.and_eq_true, decide_eq_true_eq] at h hk
 have hc : c.toNat < 256 := c.toNat_lt
 unfold nmAt nmh dig
 simp only [Bool.or_eq_true, Bool.and_eq_true, decide_eq_true_eq]
 unfold lo
 by_cases h1 : 65 ≤ c.toNat ∧ c.toNat ≤ 90
 ·have h2 : (decide (65 ≤ c.toNat) && decide (c.toNat ≤ 90)) = true := by simpa using h1
  rw [if_pos h2]
  have h3 : (UInt8.ofNat (c.toNat + 32)).toNat = c.toNat + 32 := by simp [UInt8.toNat_ofNat]; omega
  rw [h3]
  omega
 ·have h2 : ¬ (decide (65 ≤ c.toNat) && decide (c.toNat ≤ 90)) = true := by simpa using h1
  rw [if_neg h2]
  omega
theorem nmR_of : ∀ (l : S) (k : Nat), l.all nam = true → (k = 0 → ∀ c, l.head? = some c → let_ c = true) → nmR k (fold l) = true
 | [], _, _, _ => rfl
 | c :: l, k, h, hk => by
  rw [List.all_cons, Bool.and_eq_true] at h
  have h1 := nmR_of l (k + 1) h.2 (fun h => by omega)
  show (nmAt k (lo c) && nmR (k + 1) (fold l)) = true
  rw [h1, nam_lo h.1 (fun h => hk h c rfl)]
  rfl
theorem tok_good {R : S} {t : T} {n : Nat} (h : tok R = (0, t, n)) : Good1 t := by
 match R, h with
 | [], h => cases h
 | c :: r, h =>
  have hval : ∀ m, (c :: r).head? ≠ some 45 → valT (c :: r) m = (0, t, n) → Good1 t := fun m h45 hv => by
   unfold valT at hv
   split at hv
   ·rename_i hu
    have hh : ((c :: r).take m).head? ≠ some 45 := by
     cases m with
     | zero => simp
     | succ m => simpa using h45
    obtain ⟨g1, g2, g3, g4, g5⟩ := unq_good hu hh
    cases hv
    exact ⟨fun h => by simp at h, fun _ => g1, fun _ h => (g2 h).1, by dsimp only; omega, g4, g5, fun h => (g2 h).2⟩
   ·rename_i h2; simp only [bad, Prod.mk.injEq] at hv; exact absurd hv.1 h2
  rw [tok] at h
  by_cases hl : let_ c = true
  ·rw [if_pos hl] at h
   have h45 : (c :: r).head? ≠ some 45 := by
    have := (let_not hl).2.1
    simp at this ⊢
    exact this
   by_cases hb : zbO (c :: r) = true
   ·rw [if_pos hb] at h
    cases e : bEnd ((c :: r).drop 2) with
    | none => rw [e] at h; cases h
    | some q => rw [e] at h; exact hval _ h45 h
   ·rw [if_neg hb] at h
    have ht := zhF (p := nam) (c :: r)
    have hm1 : 1 ≤ many nam (c :: r) := by
     rw [many, if_pos (by unfold nam; rw [hl]; rfl)]; omega
    have hml := zbp nam (c :: r)
    unfold zeR at h
    split at h
    ·cases h
     exact ⟨fun h => by simp at h, fun h => by simp at h, fun h => by simp at h, by simp, by simp, by simp, fun h => by simp at h⟩
    ·rename_i hw
     split at h
     ·cases h
     ·rename_i h32
      cases h
      refine ⟨fun _ => ?_, fun h => by simp at h, fun h => by simp at h, by simp, by simp, by simp, fun h => by simp at h⟩
      have hw' : isW ((c :: r).take (many nam (c :: r))) = false := by simpa using hw
      dsimp only
      unfold nmE zkx
      rw [hw', nmR_of _ 0 ht (fun _ d hd => by
       obtain ⟨m, hm⟩ : ∃ m, many nam (c :: r) = m + 1 := ⟨_ - 1, (Nat.sub_add_cancel hm1).symm⟩
       rw [hm] at hd
       simp at hd
       rw [← hd]; exact hl)]
      have hlen : ((c :: r).take (many nam (c :: r))).length = many nam (c :: r) := by rw [List.length_take]; omega
      rw [hlen]
      simp
      omega
  ·rw [if_neg hl] at h
   by_cases hd : dig c = true
   ·rw [if_pos hd] at h
    unfold numT at h
    split at h
    ·cases h
    ·split at h
     ·rename_i hr
      cases h
      have hdg := zhF (p := dig) (c :: r)
      have h45 : (((c :: r).take (many dig (c :: r))).head? == some 45) = false := by
       cases hm : many dig (c :: r) with
       | zero => simp
       | succ m =>
        simp
        exact (zeb hd).2.2.1
      have : 0 ≤ (read ((c :: r).take (many dig (c :: r)))).1 ∧ (read ((c :: r).take (many dig (c :: r)))).1 ≤ 9223372036854775807 := by
       unfold Lx.read at *
       simp only [h45, Bool.false_and, Bool.or_false, Bool.false_eq_true, if_false] at hr ⊢
       split
       ·decide
       ·split
        ·decide
        ·rename_i hm
         unfold most at hm
         simp only
         omega
      exact ⟨fun h => by simp at h, fun _ => by simp [mayV], fun _ _ => this.1, by dsimp only; omega, this.2, by simp, fun _ => rfl⟩
     ·rename_i h2; simp only [bad, Prod.mk.injEq] at h; exact absurd h.1 h2
   ·rw [if_neg hd] at h
    by_cases hq : (c == 39) = true
    ·rw [if_pos hq] at h
     have h45 : (c :: r).head? ≠ some 45 := by
      simp at hq ⊢
      rw [hq]; decide
     cases e : qEnd r with
     | none => rw [e] at h; cases h
     | some q => rw [e] at h; exact hval _ h45 h
    ·rw [if_neg hq] at h
     unfold zhE at h
     split at h
     ·cases h
     ·cases h
      exact ⟨fun h => by simp at h, fun h => by simp at h, fun h => by simp at h, by simp, by simp, by simp, fun h => by simp at h⟩
theorem zpl : Good1 endT := ⟨fun h => (by cases h), fun h => (by cases h), fun h => (by cases h), by decide, by decide, by decide, fun h => (by cases h)⟩
theorem zni {R : S} {ts : List T} (h : Lexed R ts) : ∀ t ∈ ts, Good1 t := by
 induction h with
 | nil => intro t ht; cases ht
 | cons h1 _ _ ih =>
  intro t ht
  rcases List.mem_cons.1 ht with rfl | ht
  ·exact tok_good h1
  ·exact ih t ht
theorem zo3 {R : S} {ts : List T} (h : Lexed R ts) : (ts.map fun t => t.text.length).sum ≤ R.length := by
 induction h with
 | nil => simp
 | cons h1 h2 h3 ih =>
  have := tok_n h1
  simp only [List.length_drop] at ih
  simp only [List.map_cons, List.sum_cons]
  omega
def zko (l : List TA) (n i : Nat) : Nat := match l[i]? with | some t => t.2 | none => n
inductive OfR (s : S) : E → Nat → Int → Prop
 | bad (l : List TA) (a : Nat) (no : Int) : scan s = (l, a, no) → no ≠ 0 → OfR s e0 a no
 | stop (l : List TA) (a m q : Nat) : scan s = (l, a, 0) → run (l.map (·.1)) m (.lev 0) 0 = some (.stop q) → OfR s e0 (zko l s.length q) 20
 | deep (l : List TA) (a m q : Nat) (e : E) : scan s = (l, a, 0) → run (l.map (·.1)) m (.lev 0) 0 = some (.ok [e] q) → 24 < deep e → OfR s e0 (zko l s.length 0) 12
 | rest (l : List TA) (a m q : Nat) (e : E) (t : TA) : scan s = (l, a, 0) → run (l.map (·.1)) m (.lev 0) 0 = some (.ok [e] q) → deep e ≤ 24 → l[q]? = some t → t.1.kind ≠ 0 → OfR s e0 t.2 20
 | ok (l : List TA) (a m q : Nat) (e : E) : scan s = (l, a, 0) → run (l.map (·.1)) m (.lev 0) 0 = some (.ok [e] q) → deep e ≤ 24 → (∀ t, l[q]? = some t → t.1.kind = 0) → OfR s e s.length 0
theorem zdW {s : S} {l : List TA} {a : Nat} (h : scan s = (l, a, 0)) : GoodT (l.map (·.1)) ∧ ValT (l.map (·.1)) ∧ (∀ t ∈ l.map (·.1), Good1 t) ∧ l.length ≤ s.length + 1 ∧ ((l.map (·.1)).map fun t => t.text.length).sum ≤ s.length ∧ l.length ≤ 4097 := by
 obtain ⟨ext, g1, rfl, g3, g4, g5⟩ := zm0 h
 have hg : ∀ t ∈ (ext ++ [(endT, s.length)]).map (·.1), Good1 t := fun t ht => by
  rw [List.map_append, List.mem_append] at ht
  rcases ht with ht | ht
  ·exact zni g1 t ht
  ·simp only [List.map_cons, List.map_nil, List.mem_cons, List.not_mem_nil, or_false] at ht
   subst ht
   exact zpl
 have hl := zo4 g1
 have hs := zo3 g1
 simp only [List.length_map, List.length_drop] at hl hs
 refine ⟨fun t ht => ?_, fun t ht hk => ?_, hg, by simp; omega, ?_, by simp; omega⟩
 ·have := hg t ht
  exact ⟨this.name, fun hk => ⟨⟨this.may hk, fun h1 => ⟨this.nat hk h1, this.hi⟩⟩, this.hi, this.lo⟩⟩
 ·have := hg t ht
  exact ⟨this.len, this.lo, this.hi, this.nat hk⟩
 ·rw [List.map_append, List.map_append, List.sum_append]
  have e : ((List.map (·.1) [(endT, s.length)]).map fun t => t.text.length).sum = 0 := rfl
  rw [e]
  omega
theorem cw_le (L : List T) (p : Nat) : cw L p ≤ 40 * L.length + 5 * (L.map fun t => t.text.length).sum := by
 have key : ∀ l : List T, (l.map wt).sum = 40 * l.length + 5 * (l.map fun t => t.text.length).sum := fun l => by
  induction l with
  | nil => rfl
  | cons t l ih => simp only [List.map_cons, List.sum_cons, List.length_cons, ih, wt]; omega
 have h1 : cw L p ≤ (L.map wt).sum := by
  unfold cw
  conv => rhs; rw [← List.take_append_drop p L, List.map_append, List.sum_append]
  omega
 rw [key] at h1
 exact h1
theorem run_ok {s : S} {l : List TA} {a m q : Nat} {e : E} (h : scan s = (l, a, 0)) (hr : run (l.map (·.1)) m (.lev 0) 0 = some (.ok [e] q)) :
  Rt e ∧ G e ≤ 40 * (s.length + 1) + 5 * s.length ∧ Tk e ≤ 3 * (s.length + 1) ∧ count e ≤ s.length + 1 ∧ count e ≤ 4097 := by
 obtain ⟨g1, g2, g3, g4, g5, g6⟩ := zdW h
 have h1 := (zkd _ g1 m).1 0 0 _ _ hr e (by simp)
 obtain ⟨h2, e', h3, h4⟩ := (zfN _ g2 m).1 0 0 _ _ hr
 cases h3
 obtain ⟨k1, k2, k3⟩ := h4
 have hq := (za6 (by simp) hr).2
 have h5 := cw_le (l.map (·.1)) q
 have e0 : cw (l.map (·.1)) 0 = 0 := rfl
 simp only [List.length_map] at h5 hq
 refine ⟨h1, by omega, by omega, by omega, by omega⟩
theorem zoN (s : S) : ∃ e n no, OfR s e n no := by
 cases h : scan s with
 | mk l r =>
 obtain ⟨a, no⟩ := r
 by_cases hn : no = 0
 ·subst hn
  obtain ⟨m, hm⟩ := run_some (l.map (·.1)) 0 (Nat.zero_le _)
  rcases hm with ⟨e, q, hr⟩ | ⟨q, hr⟩
  ·by_cases hd : deep e ≤ 24
   ·cases hq : l[q]? with
    | none => exact ⟨_, _, _, .ok l a m q e h hr hd (fun t ht => by rw [hq] at ht; cases ht)⟩
    | some t =>
     by_cases hk : t.1.kind = 0
     ·exact ⟨_, _, _, .ok l a m q e h hr hd (fun u hu => by rw [hq] at hu; cases hu; exact hk)⟩
     ·exact ⟨_, _, _, .rest l a m q e t h hr hd hq hk⟩
   ·exact ⟨_, _, _, .deep l a m q e h hr (by omega)⟩
  ·exact ⟨_, _, _, .stop l a m q h hr⟩
 ·exact ⟨_, _, _, .bad l a no h hn⟩
end Ex
namespace Ex
open Lx
def sA : S := [97, 32, 43, 32, 98, 32, 42, 32, 50, 32, 61, 32, 55, 32, 111, 114, 32, 110, 111, 116, 32, 99, 32, 105, 115, 32, 110, 117, 108, 108]
def exA : E := eBin wOr (eBin [61] (eBin zbN (eCol [] [97]) (eBin zca (eCol [] [98]) (eVal (1, 2, [])))) (eVal (1, 7, []))) (eUn wNot (eIs false (eCol [] [99]) (eVal v0)))
theorem live_a : OfR sA exA 30 0 := by
 have h1 : scan sA = ((scan sA).1, (scan sA).2.1, 0) := by kernel_rfl
 have h2 : run ((scan sA).1.map (·.1)) 100 (.lev 0) 0 = some (.ok [exA] 12) := by kernel_rfl
 have h3 : (scan sA).1[12]? = some (endT, 30) := by kernel_rfl
 exact OfR.ok _ _ 100 12 exA h1 h2 (by decide) fun t ht => by rw [h3] at ht; cases ht; rfl
def sB : S := [45, 32, 53]
theorem live_b : OfR sB (eVal (1, -5, [])) 3 0 := by
 have h1 : scan sB = ((scan sB).1, (scan sB).2.1, 0) := by kernel_rfl
 have h2 : run ((scan sB).1.map (·.1)) 100 (.lev 0) 0 = some (.ok [eVal (1, -5, [])] 2) := by kernel_rfl
 have h3 : (scan sB).1[2]? = some (endT, 3) := by kernel_rfl
 exact OfR.ok _ _ 100 2 _ h1 h2 (by decide) fun t ht => by rw [h3] at ht; cases ht; rfl
def sC : S := [97, 32, 98]
theorem live_c : OfR sC e0 2 20 := by
 have h1 : scan sC = ((scan sC).1, (scan sC).2.1, 0) := by kernel_rfl
 have h2 : run ((scan sC).1.map (·.1)) 100 (.lev 0) 0 = some (.ok [eCol [] [97]] 1) := by kernel_rfl
 have h3 : (scan sC).1[1]?.map (fun t => (t.2, t.1.kind)) = some (2, 1) := by kernel_rfl
 cases h : (scan sC).1[1]? with
 | none => rw [h] at h3; cases h3
 | some t =>
  rw [h] at h3
  have h4 : t.2 = 2 ∧ t.1.kind = 1 := by simpa using h3
  have := OfR.rest (s := sC) _ _ 100 1 (eCol [] [97]) t h1 h2 (by decide) h (by rw [h4.2]; decide)
  rwa [h4.1] at this
def sD : S := [97, 32, 43]
theorem live_d : OfR sD e0 3 20 := by
 have h1 : scan sD = ((scan sD).1, (scan sD).2.1, 0) := by kernel_rfl
 have h2 : run ((scan sD).1.map (·.1)) 100 (.lev 0) 0 = some (.stop 2) := by kernel_rfl
 have h3 : zko (scan sD).1 sD.length 2 = 3 := by kernel_rfl
 have := OfR.stop (s := sD) _ _ 100 2 h1 h2
 rwa [h3] at this
theorem numN_1 (m : Nat) (h : m < 10) : Ox.numN m = [UInt8.ofNat (48 + m)] := by rw [Ox.numN.eq_def, if_pos h]
def tA : S := [40, 40, 97, 32, 43, 32, 40, 98, 32, 42, 32, 50, 41, 41, 32, 61, 32, 55, 41, 32, 111, 114, 32, 40, 110, 111, 116, 32, 40, 99, 32, 105, 115, 32, 110, 117, 108, 108, 41, 41]
theorem num_2 : Ox.num 2 = [50] := by rw [Ox.num, if_neg (by decide)]; exact numN_1 2 (by decide)
theorem num_7 : Ox.num 7 = [55] := by rw [Ox.num, if_neg (by decide)]; exact numN_1 7 (by decide)
theorem zoz : print exA = tA := by
 have h2 : print (eVal (1, 2, [])) = [50] := by rw [zjg]; exact num_2
 have h7 : print (eVal (1, 7, [])) = [55] := by rw [zjg]; exact num_7
 have e1 : print (eBin zca (eCol [] [98]) (eVal (1, 2, []))) = inn (cOf (eCol [] [98])) ++ [32] ++ zca ++ [32] ++ inn (1, 1, print (eVal (1, 2, []))) := rfl
 rw [h2] at e1
 have e2 : print (eBin zbN (eCol [] [97]) (eBin zca (eCol [] [98]) (eVal (1, 2, [])))) = inn (cOf (eCol [] [97])) ++ [32] ++ zbN ++ [32] ++ inn (4, 0, print (eBin zca (eCol [] [98]) (eVal (1, 2, [])))) := rfl
 rw [e1] at e2
 have e3 : print (eBin [61] (eBin zbN (eCol [] [97]) (eBin zca (eCol [] [98]) (eVal (1, 2, [])))) (eVal (1, 7, []))) = inn (4, 0, print (eBin zbN (eCol [] [97]) (eBin zca (eCol [] [98]) (eVal (1, 2, []))))) ++ [32] ++ [61] ++ [32] ++ inn (1, 1, print (eVal (1, 7, []))) := rfl
 rw [e2, h7] at e3
 have e4 : print exA = inn (4, 0, print (eBin [61] (eBin zbN (eCol [] [97]) (eBin zca (eCol [] [98]) (eVal (1, 2, [])))) (eVal (1, 7, [])))) ++ [32] ++ wOr ++ [32] ++ inn (cOf (eUn wNot (eIs false (eCol [] [99]) (eVal v0)))) := rfl
 rw [e3] at e4
 rw [e4]
 rfl
end Ex
namespace Ex
open Lx
theorem zoR {s : S} (h : nmE s = true) : s.length ≤ 32 := by
 unfold nmE zkx at h
 simp only [Bool.and_eq_true, decide_eq_true_eq] at h
 exact h.1.1.2
theorem Rt.sh {e : E} (h : Rt e) : Sh e := by
 induction h with
 | val v h1 h2 h3 => exact .mk (Nat.zero_le _) (Nat.zero_le _) (fun x hx => by cases hx)
 | col t n h1 h2 =>
  refine .mk ?_ (Nat.le_trans (zoR h1) (by decide)) (fun x hx => by cases hx)
  rcases h2 with rfl | h2
  ·exact Nat.zero_le _
  ·exact Nat.le_trans (zoR h2) (by decide)
 | un op a _ _ ih => exact .mk (Nat.zero_le _) (Nat.zero_le _) (fun x hx => by obtain rfl := List.mem_singleton.1 hx; exact ih)
 | bin op a b _ _ _ i1 i2 => exact .mk (Nat.zero_le _) (Nat.zero_le _) (fun x hx => by
   simp only [eBin, E.args, List.mem_cons, List.not_mem_nil, or_false] at hx
   rcases hx with rfl | rfl <;> assumption)
 | is g a b _ _ i1 i2 => exact .mk (Nat.zero_le _) (Nat.zero_le _) (fun x hx => by
   simp only [eIs, E.args, List.mem_cons, List.not_mem_nil, or_false] at hx
   rcases hx with rfl | rfl <;> assumption)
 | in_ g a l _ _ _ i1 i2 => exact .mk (Nat.zero_le _) (Nat.zero_le _) (fun x hx => by
   simp only [eIn, E.args, List.mem_cons] at hx
   rcases hx with rfl | hx
   ·assumption
   ·exact i2 x hx)
 | btw g a b c _ _ _ i1 i2 i3 => exact .mk (Nat.zero_le _) (Nat.zero_le _) (fun x hx => by
   simp only [eBtw, E.args, List.mem_cons, List.not_mem_nil, or_false] at hx
   rcases hx with rfl | rfl | rfl <;> assumption)
 | like g a b _ _ i1 i2 => exact .mk (Nat.zero_le _) (Nat.zero_le _) (fun x hx => by
   simp only [zaY, E.args, List.mem_cons, List.not_mem_nil, or_false] at hx
   rcases hx with rfl | rfl <;> assumption)
 | case d l _ _ _ ih => exact .mk (Nat.zero_le _) (Nat.zero_le _) ih
 | fn op l _ _ _ _ ih => exact .mk (Nat.zero_le _) (Nat.zero_le _) ih
 | agg op d a _ _ ih => exact .mk (Nat.zero_le _) (Nat.zero_le _) (fun x hx => by obtain rfl := List.mem_singleton.1 hx; exact ih)
 | star => exact .mk (Nat.zero_le _) (Nat.zero_le _) (fun x hx => by cases hx)
 | cast op a _ _ ih => exact .mk (Nat.zero_le _) (Nat.zero_le _) (fun x hx => by obtain rfl := List.mem_singleton.1 hx; exact ih)
theorem sh_e0 : Sh e0 := .mk (Nat.zero_le _) (Nat.zero_le _) (fun x hx => by cases hx)
theorem zku {s : S} {e : E} {n : Nat} {no : Int} (h : OfR s e n no) : Sh e ∧ count e ≤ 4097 ∧ (no ≠ 0 → e = e0) ∧ (no = 0 → Rt e ∧ deep e ≤ 24 ∧ G e ≤ 40 * (s.length + 1) + 5 * s.length ∧ Tk e ≤ 3 * (s.length + 1) ∧ n = s.length) := by
 have z : Sh e0 ∧ count e0 ≤ 4097 := ⟨sh_e0, by decide⟩
 cases h with
 | bad l a _ h1 h2 => exact ⟨z.1, z.2, fun _ => rfl, fun h => absurd h h2⟩
 | stop l a m q h1 h2 => exact ⟨z.1, z.2, fun _ => rfl, fun h => absurd h (by decide)⟩
 | deep l a m q e h1 h2 h3 => exact ⟨z.1, z.2, fun _ => rfl, fun h => absurd h (by decide)⟩
 | rest l a m q e t h1 h2 h3 h4 h5 => exact ⟨z.1, z.2, fun _ => rfl, fun h => absurd h (by decide)⟩
 | ok l a m q e h1 h2 h3 h4 =>
  have h5 := run_ok h1 h2
  exact ⟨h5.1.sh, h5.2.2.2.2, fun h => absurd rfl h, fun _ => ⟨h5.1, h3, h5.2.1, h5.2.2.1, rfl⟩⟩
end Ex
namespace Ex
open Lx
theorem zh2 (c : UInt8) (hc : c ≠ 39) : ∀ (k : Nat) (r : S), Go.Lib.replaceK [39] [39, 39] k (c :: r) = c :: Go.Lib.replaceK [39] [39, 39] k r
 | 0, r => rfl
 | k + 1, r => by
  have hg := Go.Lib.index_ge r [39]
  have hp : ([39] : List UInt8).isPrefixOf (c :: r) = false := by
   show ((39 : UInt8) == c && _) = false
   rw [beq_eq_false_iff_ne.2 (fun h => hc h.symm)]; rfl
  have h1 : Go.Lib.index (c :: r) [39] = if Go.Lib.index r [39] == -1 then -1 else Go.Lib.index r [39] + 1 := by
   rw [Go.Lib.index, hp]; rfl
  rw [Go.Lib.replaceK, Go.Lib.replaceK, h1]
  by_cases hm : Go.Lib.index r [39] = -1
  ·rw [hm]; rfl
  ·obtain ⟨i, hi⟩ : ∃ i : Nat, Go.Lib.index r [39] = i := ⟨(Go.Lib.index r [39]).toNat, by omega⟩
   rw [hi, if_neg (by first | (simp; done) | (simp; omega)), if_neg (by first | (simp; done) | (simp; omega)), if_neg (by first | (simp; done) | (simp; omega))]
   have e1 : ((i : Int) + 1).toNat = i + 1 := by omega
   rw [e1, Int.toNat_natCast]
   simp [List.take_succ_cons, show i + 1 + 1 = (i + 1) + 1 from rfl]
theorem zdf : ∀ s : S, Go.Lib.replaceK [39] [39, 39] (Go.Lib.count s [39]) s = zdq s
 | [] => rfl
 | c :: r => by
  rw [zdq]
  by_cases hc : c = 39
  ·subst hc
   have h0 : Go.Lib.index (39 :: r) [39] = (0 : Nat) := by
    rw [Go.Lib.index]; rfl
   rw [if_pos rfl, Go.Lib.count_cons_eq, Nat.add_comm, Go.Lib.replaceK_hit _ _ _ _ 0 h0]
   show [] ++ [39, 39] ++ Go.Lib.replaceK [39] [39, 39] (Go.Lib.count r [39]) r = _
   rw [zdf r]; rfl
  ·rw [if_neg hc, Go.Lib.count_cons_ne _ _ _ hc, zh2 c hc, zdf r]
theorem zm8 (s : S) : Go.Lib.replaceAll s [39] [39, 39] = zdq s := by
 rw [Go.Lib.replaceAll, Go.Lib.replace, if_neg (by decide), Go.Lib.replaceNum, if_pos (by left; decide), zdf]
end Ex
