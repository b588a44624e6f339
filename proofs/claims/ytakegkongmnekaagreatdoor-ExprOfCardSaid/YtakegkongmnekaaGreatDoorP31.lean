/- Part of the proof: see the last text. -/
import Derived.Test.YtakegkongmnekaaGreatDoorP26
import Derived.Test.YtakegkongmnekaaGreatDoorP28
import Derived.Test.YtakegkongmnekaaGreatDoorP30
set_option maxRecDepth 20000
set_option linter.unusedVariables false
set_option linter.unusedSimpArgs false
namespace Go.Proofs.YtakegkongmnekaaGreatDoor
open Go.RowKit
open Vm
attribute [local irreducible] wpR wpC
theorem ziw {G : Nat → Vm.V} {s : List UInt8} (hs : s.length ≤ 1000000) : Ret Tryz.prog G 45 [.str s] (.str (Lx.fold s)) := by
 refine zd8 (by kernel_rfl) rfl fun w A vals hv => ?_
 rw [zd6 hv]
 have hz : (Lx.bs s).size ≤ 1000000000 := by rw [Lx.zaA]; omega
 refine Calls.mono (zba (Lx.bs s) w hz) fun e w' h => ⟨h.2, _, rfl, ?_⟩
 rw [h.1, Lx.zbd]
 exact ⟨_, rfl, .str _⟩
def zpQ (L : List Lx.TA) : Prop := ∀ (i : Nat) (t : Lx.TA), L[i]? = some t → t.1.val.1 = 1 → t.1.val.2.2 = []
section
variable {G : Nat → Vm.V} {L : List Lx.TA} {n : Nat}
abbrev PlR (G : Nat → Vm.V) (L : List Lx.TA) (n : Nat) : Prop := ∀ (m p : Nat) (r : Ex.R), m ≤ n → p ≤ L.length → Ex.run (L.map (·.1)) m (.lev 8) p = some r → RetX Tryz.prog G 104 [rdV L p 0 0] (okV L r)
set_option maxHeartbeats 8000000 in
theorem r_call (hL : L.length ≤ 999999) (h : LvR G L n) (hls : LstR G L n) (m p : Nat) (r : Ex.R) (op : List UInt8) (hm : m ≤ n) (hp : p ≤ L.length) (hr : Ex.zjJ (L.map (·.1)) m op p = some r) : RetX Tryz.prog G 125 [rdV L p 0 0, .str op] (okV L r) := by
 unfold Ex.zjJ at hr
 refine zde (zgz G) (by simp [L_tomeref25_call]) ?_
 show wpC _ _ 0 (panK 0 _) _ (retK 0 _ _) (mkX [(0, _), (1, _)] [])
 have hrd : ∀ a b w, rdV L a b w = .agg [.list (L.map tokM), .int .i64 a, .int .i64 b, .int .i64 w] := fun _ _ _ => rfl
 have x0 := zx; have hpr : ∀ q f, (prsE L q).on f = true := fun _ _ => rfl
 simp only [L_tomeref25_call, zs, za, zl, zc, zE]
 simp only [Ex.wNot, Ex.wIs, Ex.wIn, Ex.zaO, Ex.zbV, Ex.wAnd, Ex.wOr, Ex.zdk, Ex.wCase, Ex.zcI, Ex.zb4, Ex.zda, Ex.zcA, Ex.wEnd, Ex.wAs, Ex.wDistinct, Ex.zbr, Ex.zbv, Ex.zbh, Ex.zcx, Ex.mDot, Ex.zca, Ex.zbb, Ex.zbN] at hr
 cases hg : Ex.aggs.contains op
 ·simp only [hg, Bool.false_eq_true, if_false] at hr
  have hg' : (op ∈ Ex.aggs) = False := by simpa using hg
  clear hg
  repeat' (first
   | refine ww ?_ | (refine ixl ?_; intro a ha) | (refine ixs ?_; intro c hc)
   | refine rdc hL ?_
   | (refine cr (zeM _) ?_)
   | (refine cr (hc) ?_)
   | (refine cx (hc) ?_; rintro _ ⟨p', cs, rfl, ⟨z1, z2, z3, z4, z5, z6, z7, z8⟩, hp'⟩ <;> ((try simp only [Int.toNat_natCast, Int.toNat_natCast_add_one] at ho); (try simp only [Int.toNat_natCast, Int.toNat_natCast_add_one] at hlt)))
   | (refine cr (zbI _ _ _ _ hL ht) ?_)
   | (refine cr (za2 _ _ _ _ hL ?_ ht) ?_; exact dq)
   | (refine cx (hc) ?_; rintro _ (⟨l, rfl, hq2, ht, hll⟩ | ⟨p', xs, rfl, hp', hxs, hll⟩) <;> ((try simp only [Int.toNat_natCast, Int.toNat_natCast_add_one] at ho); (try simp only [Int.toNat_natCast, Int.toNat_natCast_add_one] at hlt)))
   | (refine cz ?_ ?_ <;> intro hb <;> ((try have hlt := Ex.zl hb); try exact zk hb))
   | refine zah ?_ ?_
   | (simp only [*, ↓reduceIte, Bool.false_eq_true, Bool.and_true, Bool.true_and, Bool.false_and, Bool.and_false, Bool.or_false, Bool.false_or, Bool.or_true, Bool.true_or] at hr)
   | ((split at hr) <;> first | (rename_i op ho; have hop := za8 (by decide) ho; have hlt := (Ex.zaB ho).1; simp only [List.length_map] at hlt) | (rename_i ho; skip))
   | (have hr0 := h.go (by omega) (by omega) (by omega) hr; clear hr; rcases hr0 with ⟨e, q, hc, hq1, hq2, hr⟩ | ⟨q, hc, rfl⟩)
   | (have hr0 := Ex.need_some hr; clear hr; rcases hr0 with ⟨ht, hr⟩ | ⟨ht, rfl⟩; (try have hlt := Ex.isT_lt ht); (try simp only [List.length_map] at hlt))
   | (refine cx (h _ _ _ _ (by omega) (by omega) (by omega) hr) ?_; intro v hv; rcases okV_elim hv with ⟨e, q, rfl, rfl, hq2⟩ | ⟨q, rfl, p', cs, rfl, ⟨z1, z2, z3, z4, z5, z6, z7, z8⟩, hp'⟩)
   | (have hr0 := hls.go hL (by omega) (by omega) hr; clear hr; rcases hr0 with ⟨l, q, hc, hll, hlt, ht, hr⟩ | ⟨q, hc, rfl⟩; (try simp only [Ex.zbh] at ht)))
  all_goals (try exact zf)
 ·simp only [hg, if_true] at hr
  have hg' : (op ∈ Ex.aggs) = True := by simpa using hg
  clear hg
  by_cases hcnt : op = [99, 111, 117, 110, 116]
  ·subst hcnt
   simp only [beq_self_eq_true, Bool.true_and] at hr
   repeat' (first
    | refine ww ?_ | (refine ixl ?_; intro a ha) | (refine ixs ?_; intro c hc)
    | refine rdc hL ?_
    | (refine cr (zeM _) ?_)
    | (refine cr (hc) ?_)
    | (refine cx (hc) ?_; rintro _ ⟨p', cs, rfl, ⟨z1, z2, z3, z4, z5, z6, z7, z8⟩, hp'⟩ <;> ((try simp only [Int.toNat_natCast, Int.toNat_natCast_add_one] at ho); (try simp only [Int.toNat_natCast, Int.toNat_natCast_add_one] at hlt)))
    | (refine cr (zbI _ _ _ _ hL ht) ?_)
    | (refine cr (za2 _ _ _ _ hL ?_ ht) ?_; exact dq)
    | (refine cx (hc) ?_; rintro _ (⟨l, rfl, hq2, ht, hll⟩ | ⟨p', xs, rfl, hp', hxs, hll⟩) <;> ((try simp only [Int.toNat_natCast, Int.toNat_natCast_add_one] at ho); (try simp only [Int.toNat_natCast, Int.toNat_natCast_add_one] at hlt)))
    | (refine cz ?_ ?_ <;> intro hb <;> ((try have hlt := Ex.zl hb); try exact zk hb))
    | refine zah ?_ ?_
    | (simp only [*, ↓reduceIte, Bool.false_eq_true, Bool.and_true, Bool.true_and, Bool.false_and, Bool.and_false, Bool.or_false, Bool.false_or, Bool.or_true, Bool.true_or] at hr)
    | ((split at hr) <;> first | (rename_i op ho; have hop := za8 (by decide) ho; have hlt := (Ex.zaB ho).1; simp only [List.length_map] at hlt) | (rename_i ho; skip))
    | (have hr0 := h.go (by omega) (by omega) (by omega) hr; clear hr; rcases hr0 with ⟨e, q, hc, hq1, hq2, hr⟩ | ⟨q, hc, rfl⟩)
    | (have hr0 := Ex.need_some hr; clear hr; rcases hr0 with ⟨ht, hr⟩ | ⟨ht, rfl⟩; (try have hlt := Ex.isT_lt ht); (try simp only [List.length_map] at hlt))
    | (refine cx (h _ _ _ _ (by omega) (by omega) (by omega) hr) ?_; intro v hv; rcases okV_elim hv with ⟨e, q, rfl, rfl, hq2⟩ | ⟨q, rfl, p', cs, rfl, ⟨z1, z2, z3, z4, z5, z6, z7, z8⟩, hp'⟩)
    | (have hr0 := hls.go hL (by omega) (by omega) hr; clear hr; rcases hr0 with ⟨l, q, hc, hll, hlt, ht, hr⟩ | ⟨q, hc, rfl⟩; (try simp only [Ex.zbh] at ht)))
   all_goals (try exact zf)
  ·have hc2 : (op == [99, 111, 117, 110, 116]) = false := by simpa using hcnt
   simp only [hc2, Bool.false_and, Bool.false_eq_true, if_false] at hr
   clear hc2
   repeat' (first
    | refine ww ?_ | (refine ixl ?_; intro a ha) | (refine ixs ?_; intro c hc)
    | refine rdc hL ?_
    | (refine cr (zeM _) ?_)
    | (refine cr (hc) ?_)
    | (refine cx (hc) ?_; rintro _ ⟨p', cs, rfl, ⟨z1, z2, z3, z4, z5, z6, z7, z8⟩, hp'⟩ <;> ((try simp only [Int.toNat_natCast, Int.toNat_natCast_add_one] at ho); (try simp only [Int.toNat_natCast, Int.toNat_natCast_add_one] at hlt)))
    | (refine cr (zbI _ _ _ _ hL ht) ?_)
    | (refine cr (za2 _ _ _ _ hL ?_ ht) ?_; exact dq)
    | (refine cx (hc) ?_; rintro _ (⟨l, rfl, hq2, ht, hll⟩ | ⟨p', xs, rfl, hp', hxs, hll⟩) <;> ((try simp only [Int.toNat_natCast, Int.toNat_natCast_add_one] at ho); (try simp only [Int.toNat_natCast, Int.toNat_natCast_add_one] at hlt)))
    | (refine cz ?_ ?_ <;> intro hb <;> ((try have hlt := Ex.zl hb); try exact zk hb))
    | refine zah ?_ ?_
    | (simp only [*, ↓reduceIte, Bool.false_eq_true, Bool.and_true, Bool.true_and, Bool.false_and, Bool.and_false, Bool.or_false, Bool.false_or, Bool.or_true, Bool.true_or] at hr)
    | ((split at hr) <;> first | (rename_i op ho; have hop := za8 (by decide) ho; have hlt := (Ex.zaB ho).1; simp only [List.length_map] at hlt) | (rename_i ho; skip))
    | (have hr0 := h.go (by omega) (by omega) (by omega) hr; clear hr; rcases hr0 with ⟨e, q, hc, hq1, hq2, hr⟩ | ⟨q, hc, rfl⟩)
    | (have hr0 := Ex.need_some hr; clear hr; rcases hr0 with ⟨ht, hr⟩ | ⟨ht, rfl⟩; (try have hlt := Ex.isT_lt ht); (try simp only [List.length_map] at hlt))
    | (refine cx (h _ _ _ _ (by omega) (by omega) (by omega) hr) ?_; intro v hv; rcases okV_elim hv with ⟨e, q, rfl, rfl, hq2⟩ | ⟨q, rfl, p', cs, rfl, ⟨z1, z2, z3, z4, z5, z6, z7, z8⟩, hp'⟩)
    | (have hr0 := hls.go hL (by omega) (by omega) hr; clear hr; rcases hr0 with ⟨l, q, hc, hll, hlt, ht, hr⟩ | ⟨q, hc, rfl⟩; (try simp only [Ex.zbh] at ht)))
   all_goals (try exact zf)
theorem zpz {p : Nat} {A : Lx.T → Option Ex.R} {r : Ex.R} (hr : (match (L.map (·.1))[p]? with
  | some u => if (decide (u.kind = 2) || decide (u.kind = 1)) && Ex.zdN.contains (Lx.fold u.text) then A u else some (.stop p)
  | none => some (.stop p)) = some r) :
  (∃ t : Lx.TA, L[p]? = some t ∧ (∃ h : p < L.length, L[p] = t) ∧ (∀ k, Ex.isK (L.map (·.1)) p k = decide (t.1.kind = k)) ∧ (t.1.kind = 2 ∨ t.1.kind = 1) ∧ (Lx.fold t.1.text = [105, 110, 116] ∨ Lx.fold t.1.text = [116, 101, 120, 116] ∨ Lx.fold t.1.text = [98, 108, 111, 98]) ∧ A t.1 = some r) ∨
  (∃ t : Lx.TA, L[p]? = some t ∧ (∃ h : p < L.length, L[p] = t) ∧ (∀ k, Ex.isK (L.map (·.1)) p k = decide (t.1.kind = k)) ∧ (t.1.kind = 2 ∨ t.1.kind = 1) ∧ (Lx.fold t.1.text = [105, 110, 116]) = False ∧ (Lx.fold t.1.text = [116, 101, 120, 116]) = False ∧ (Lx.fold t.1.text = [98, 108, 111, 98]) = False ∧ r = .stop p) ∨
  (∃ t : Lx.TA, L[p]? = some t ∧ (∃ h : p < L.length, L[p] = t) ∧ (∀ k, Ex.isK (L.map (·.1)) p k = decide (t.1.kind = k)) ∧ (t.1.kind = 2) = False ∧ (t.1.kind = 1) = False ∧ r = .stop p) ∨
  ((∀ k, Ex.isK (L.map (·.1)) p k = false) ∧ r = .stop p) := by
 cases h : L[p]? with
 | none =>
  have h2 : (L.map (·.1))[p]? = none := by rw [List.getElem?_map, h]; rfl
  rw [h2] at hr
  exact .inr (.inr (.inr ⟨fun k => by simp [Ex.isK, h], by cases hr; rfl⟩))
 | some t =>
  have h2 : (L.map (·.1))[p]? = some t.1 := by rw [List.getElem?_map, h]; rfl
  have hk : ∀ k, Ex.isK (L.map (·.1)) p k = decide (t.1.kind = k) := fun k => by simp [Ex.isK, h]
  obtain ⟨hlt, hte⟩ := List.getElem?_eq_some_iff.1 h
  rw [h2] at hr
  dsimp only at hr
  by_cases h3 : t.1.kind = 2 ∨ t.1.kind = 1
  ·have h4 : (decide (t.1.kind = 2) || decide (t.1.kind = 1)) = true := by simpa using h3
   rw [h4, Bool.true_and] at hr
   split at hr
   ·rename_i h5
    refine .inl ⟨t, rfl, ⟨hlt, hte⟩, hk, h3, by simpa [Ex.zdN] using h5, hr⟩
   ·rename_i h5
    have h6 : ¬ (Lx.fold t.1.text = [105, 110, 116] ∨ Lx.fold t.1.text = [116, 101, 120, 116] ∨ Lx.fold t.1.text = [98, 108, 111, 98]) := by simpa [Ex.zdN] using h5
    exact .inr (.inl ⟨t, rfl, ⟨hlt, hte⟩, hk, h3, eq_false fun e => h6 (.inl e), eq_false fun e => h6 (.inr (.inl e)), eq_false fun e => h6 (.inr (.inr e)), by cases hr; rfl⟩)
  ·have h4 : (decide (t.1.kind = 2) || decide (t.1.kind = 1)) = false := by simpa using h3
   rw [h4] at hr
   exact .inr (.inr (.inl ⟨t, rfl, ⟨hlt, hte⟩, hk, eq_false fun e => h3 (.inl e), eq_false fun e => h3 (.inr e), by cases hr; rfl⟩))
set_option maxHeartbeats 8000000 in
theorem r_cast (hL : L.length ≤ 999999) (hT : Good L) (h : LvR G L n) (m p : Nat) (r : Ex.R) (hm : m ≤ n) (hp : p ≤ L.length) (hr : Ex.zkR (L.map (·.1)) m p = some r) : RetX Tryz.prog G 124 [rdV L p 0 0] (okV L r) := by
 unfold Ex.zkR at hr
 refine zde (zgy G) (by simp [L_tomeref25_cast]) ?_
 show wpC _ _ 0 (panK 0 _) _ (retK 0 _ _) (mkX [(0, _)] [])
 have hrd : ∀ a b w, rdV L a b w = .agg [.list (L.map tokM), .int .i64 a, .int .i64 b, .int .i64 w] := fun _ _ _ => rfl
 have x0 := zx; have hpr : ∀ q f, (prsE L q).on f = true := fun _ _ => rfl
 simp only [L_tomeref25_cast, zs, za, zl, zc, zE]
 simp only [Ex.wNot, Ex.wIs, Ex.wIn, Ex.zaO, Ex.zbV, Ex.wAnd, Ex.wOr, Ex.zdk, Ex.wCase, Ex.zcI, Ex.zb4, Ex.zda, Ex.zcA, Ex.wEnd, Ex.wAs, Ex.wDistinct, Ex.zbr, Ex.zbv, Ex.zbh, Ex.zcx, Ex.mDot, Ex.zca, Ex.zbb, Ex.zbN] at hr
 have htk := zcu
 have hft : ∀ {i : Nat} {t : Lx.TA}, L[i]? = some t → t.1.text.length ≤ 1000000 := fun hi => (hT _ _ hi).1
 repeat' (first
  | refine ww ?_ | (refine ixl ?_; intro a ha) | (refine ixs ?_; intro c hc)
  | refine rdc hL ?_
  | (refine cr (ziw (hft (by assumption))) ?_)
  | (refine cr (hc) ?_)
  | (refine cx (hc) ?_; rintro _ ⟨p', cs, rfl, ⟨z1, z2, z3, z4, z5, z6, z7, z8⟩, hp'⟩ <;> ((try simp only [Int.toNat_natCast, Int.toNat_natCast_add_one] at ho); (try simp only [Int.toNat_natCast, Int.toNat_natCast_add_one] at hlt)))
  | (refine cr (zbI _ _ _ _ hL ht) ?_)
  | (refine cr (za2 _ _ _ _ hL ?_ ht) ?_; exact dq)
  | (refine cx (hc) ?_; rintro _ (⟨l, rfl, hq2, ht, hll⟩ | ⟨p', xs, rfl, hp', hxs, hll⟩) <;> ((try simp only [Int.toNat_natCast, Int.toNat_natCast_add_one] at ho); (try simp only [Int.toNat_natCast, Int.toNat_natCast_add_one] at hlt)))
  | (have hr0 := zpz hr; clear hr; rcases hr0 with ⟨t, htt, ⟨hlt, hte⟩, hk, hkk | hkk, hf | hf | hf, hr⟩ | ⟨t, htt, ⟨hlt, hte⟩, hk, hkk | hkk, hf1, hf2, hf3, rfl⟩ | ⟨t, htt, ⟨hlt, hte⟩, hk, hk1, hk2, rfl⟩ | ⟨hk, rfl⟩)
  | (refine cz ?_ ?_ <;> intro hb <;> ((try have hlt := Ex.zl hb); try exact zk hb))
  | refine zah ?_ ?_
  | (simp only [*, ↓reduceIte, Bool.false_eq_true, Bool.and_true, Bool.true_and, Bool.false_and, Bool.and_false, Bool.or_false, Bool.false_or, Bool.or_true, Bool.true_or] at hr)
  | ((split at hr) <;> first | (rename_i op ho; have hop := za8 (by decide) ho; have hlt := (Ex.zaB ho).1; simp only [List.length_map] at hlt) | (rename_i ho; skip))
  | (have hr0 := h.go (by omega) (by omega) (by omega) hr; clear hr; rcases hr0 with ⟨e, q, hc, hq1, hq2, hr⟩ | ⟨q, hc, rfl⟩)
  | (have hr0 := Ex.need_some hr; clear hr; rcases hr0 with ⟨ht, hr⟩ | ⟨ht, rfl⟩; (try have hlt := Ex.isT_lt ht); (try simp only [List.length_map] at hlt))
  | (refine cx (h _ _ _ _ (by omega) (by omega) (by omega) hr) ?_; intro v hv; rcases okV_elim hv with ⟨e, q, rfl, rfl, hq2⟩ | ⟨q, rfl, p', cs, rfl, ⟨z1, z2, z3, z4, z5, z6, z7, z8⟩, hp'⟩)
  | (have hr0 := hls.go hL (by omega) (by omega) hr; clear hr; rcases hr0 with ⟨l, q, hc, hll, hlt, ht, hr⟩ | ⟨q, hc, rfl⟩; (try simp only [Ex.zbh] at ht)))
 all_goals (try exact zf)
end
end Go.Proofs.YtakegkongmnekaaGreatDoor
