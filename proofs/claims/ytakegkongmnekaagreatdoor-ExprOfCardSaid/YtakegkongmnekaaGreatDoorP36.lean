/- Part of the proof: see the last text. -/
import Derived.Test.YtakegkongmnekaaGreatDoorP31
set_option maxRecDepth 20000
set_option linter.unusedVariables false
set_option linter.unusedSimpArgs false
namespace Go.Proofs.YtakegkongmnekaaGreatDoor
open Go.RowKit
open Vm
attribute [local irreducible] wpR wpC
section
variable {G : Nat → Vm.V} {L : List Lx.TA} {n : Nat}
theorem ze2 {p : Nat} {t : Lx.TA} (h : L[p]? = some t) : (∃ h : p < L.length, L[p] = t) ∧ (L.map (·.1))[p]? = some t.1 ∧ (∀ k, Ex.isK (L.map (·.1)) p k = decide (t.1.kind = k)) ∧ ∀ k s, Ex.isT (L.map (·.1)) p k s = (decide (t.1.kind = k) && t.1.text == s) :=
 ⟨List.getElem?_eq_some_iff.1 h, by rw [List.getElem?_map, h]; rfl, fun k => by simp [Ex.isK, h], fun k s => by simp [Ex.isT, h]⟩
theorem ziX {p : Nat} (h : L[p]? = none) : (L.map (·.1))[p]? = none ∧ (∀ k, Ex.isK (L.map (·.1)) p k = false) ∧ ∀ k s, Ex.isT (L.map (·.1)) p k s = false :=
 ⟨by rw [List.getElem?_map, h]; rfl, fun k => by simp [Ex.isK, h], fun k s => by simp [Ex.isT, h]⟩
theorem name_dich {p : Nat} {A : Lx.T → Option Ex.R} {r : Ex.R} (hr : (match (L.map (·.1))[p]? with
  | some u => if u.kind = 1 then A u else some (.stop p)
  | none => some (.stop p)) = some r) :
  (∃ t : Lx.TA, L[p]? = some t ∧ (∃ h : p < L.length, L[p] = t) ∧ (∀ k, Ex.isK (L.map (·.1)) p k = decide (t.1.kind = k)) ∧ t.1.kind = 1 ∧ A t.1 = some r) ∨
  (∃ t : Lx.TA, L[p]? = some t ∧ (∃ h : p < L.length, L[p] = t) ∧ (∀ k, Ex.isK (L.map (·.1)) p k = decide (t.1.kind = k)) ∧ (t.1.kind = 1) = False ∧ r = .stop p) ∨
  ((∀ k, Ex.isK (L.map (·.1)) p k = false) ∧ r = .stop p) := by
 cases h : L[p]? with
 | none =>
  obtain ⟨h1, h2, -⟩ := ziX h
  rw [h1] at hr
  exact .inr (.inr ⟨h2, by cases hr; rfl⟩)
 | some t =>
  obtain ⟨h0, h1, h2, -⟩ := ze2 h
  rw [h1] at hr
  dsimp only at hr
  by_cases h3 : t.1.kind = 1
  ·rw [if_pos h3] at hr
   exact .inl ⟨t, rfl, h0, h2, h3, hr⟩
  ·rw [if_neg h3] at hr
   exact .inr (.inl ⟨t, rfl, h0, h2, eq_false h3, by cases hr; rfl⟩)
abbrev CsR (G : Nat → Vm.V) (L : List Lx.TA) (n : Nat) : Prop := ∀ (m p : Nat) (r : Ex.R), m ≤ n → p ≤ L.length → Ex.zeI (L.map (·.1)) m p = some r → RetX Tryz.prog G 123 [rdV L p 0 0] (okV L r)
set_option maxHeartbeats 16000000 in
theorem r_plain (hL : L.length ≤ 999999) (hT : Good L) (h : LvR G L n) (hls : LstR G L n) (hcs : CsR G L n) : PlR G L (n + 1) := by
 intro m p r hm hp hr
 cases m with
 | zero => cases hr
 | succ m =>
 rw [Ex.zdX] at hr
 refine zde (zf9 G) (by simp [L_tomeref25_plain]) ?_
 show wpC _ _ 0 (panK 0 _) _ (retK 0 _ _) (mkX [(0, _)] [])
 have hrd : ∀ a b w, rdV L a b w = .agg [.list (L.map tokM), .int .i64 a, .int .i64 b, .int .i64 w] := fun _ _ _ => rfl
 have x0 := zx; have hpr : ∀ q f, (prsE L q).on f = true := fun _ _ => rfl
 simp only [L_tomeref25_plain, zq10, zq11, zq12, zq13, zq14, zq15, zq16, zq17, zq18, zq19, zq20, zq21, zs, za, zl, zc, zE]
 have htk := zcu
 have htc := zdl
 have tn2 : ∀ q : Nat, ((q : Int) + 1 + 1).toNat = q + 1 + 1 := fun q => by omega
 have tn3 : ∀ q : Nat, ((q : Int) + 1 + 1 + 1).toNat = q + 1 + 1 + 1 := fun q => by omega
 have hft : ∀ {i : Nat} {t : Lx.TA}, L[i]? = some t → t.1.text.length ≤ 1000000 := fun hi => (hT _ _ hi).1
 cases ht0 : L[p]? with
 | none =>
  obtain ⟨h1, h2, h3⟩ := ziX ht0
  rw [h1] at hr
  cases hr
  clear h1
  repeat' (first
   | refine ww ?_ | (refine ixl ?_; intro a ha) | (refine ixs ?_; intro c hc)
   | refine rdc hL ?_
   | (refine cz ?_ ?_ <;> intro hb <;> ((try have hlt := Ex.zl hb); try exact zk hb))
   | refine zah ?_ ?_)
  all_goals (try exact zf)
 | some t =>
  obtain ⟨⟨hlt, hte⟩, h1, h2, h3⟩ := ze2 ht0
  rw [h1] at hr
  dsimp only at hr
  clear h1
  by_cases hk3 : t.1.kind = 3
  ·rw [if_pos hk3] at hr
   cases hr
   repeat' (first
    | refine ww ?_ | (refine ixl ?_; intro a ha) | (refine ixs ?_; intro c hc)
    | refine rdc hL ?_
    | (refine cz ?_ ?_ <;> intro hb <;> ((try have hlt := Ex.zl hb); try exact zk hb))
    | refine zah ?_ ?_)
   all_goals (try exact zf)
  by_cases hk1 : t.1.kind = 1
  ·rw [if_neg hk3, if_pos hk1] at hr
   simp only [Ex.zhD, Ex.wNot, Ex.wIs, Ex.wIn, Ex.zaO, Ex.zbV, Ex.wAnd, Ex.wOr, Ex.zdk, Ex.wCase, Ex.zcI, Ex.zb4, Ex.zda, Ex.zcA, Ex.wEnd, Ex.wAs, Ex.wDistinct, Ex.zbr, Ex.zbv, Ex.zbh, Ex.zcx, Ex.mDot, Ex.zca, Ex.zbb, Ex.zbN] at hr
   have hfold := ziw (G := G) (hft ht0)
   cases hdot : Ex.isT (L.map (·.1)) (p + 1) 4 [46]
   ·simp only [hdot, Bool.false_eq_true, ↓reduceIte] at hr
    repeat' (first
     | refine ww ?_ | (refine ixl ?_; intro a ha) | (refine ixs ?_; intro c hc)
     | refine rdc hL ?_
     | (refine cr (hfold) ?_)
     | (refine cr (hc) ?_)
     | (refine cx (hc) ?_; rintro _ ⟨p', cs, rfl, ⟨z1, z2, z3, z4, z5, z6, z7, z8⟩, hp'⟩ <;> ((try simp only [Int.toNat_natCast, Int.toNat_natCast_add_one] at ho); (try simp only [Int.toNat_natCast, Int.toNat_natCast_add_one] at hlt)))
     | (refine cr (zbI _ _ _ _ hL ht) ?_)
     | (refine cr (za2 _ _ _ _ hL ?_ ht) ?_; exact dq)
     | (refine cz ?_ ?_ <;> intro hb <;> ((try have hlt := Ex.zl hb); try exact zk hb))
     | refine zah ?_ ?_
     | (simp only [*, ↓reduceIte, Bool.false_eq_true, Bool.and_true, Bool.true_and, Bool.false_and, Bool.and_false, Bool.or_false, Bool.false_or, Bool.or_true, Bool.true_or] at hr)
     | ((split at hr) <;> first | (rename_i op ho; have hop := za8 (by decide) ho; have hlt := (Ex.zaB ho).1; simp only [List.length_map] at hlt) | (rename_i ho; skip))
     | (have hr0 := h.go (by omega) (by omega) (by omega) hr; clear hr; rcases hr0 with ⟨e, q, hc, hq1, hq2, hr⟩ | ⟨q, hc, rfl⟩)
     | (have hr0 := Ex.need_some hr; clear hr; rcases hr0 with ⟨ht, hr⟩ | ⟨ht, rfl⟩; (try have hlt := Ex.isT_lt ht); (try simp only [List.length_map] at hlt))
     | (refine cx (h _ _ _ _ (by omega) (by omega) (by omega) hr) ?_; intro v hv; rcases okV_elim hv with ⟨e, q, rfl, rfl, hq2⟩ | ⟨q, rfl, p', cs, rfl, ⟨z1, z2, z3, z4, z5, z6, z7, z8⟩, hp'⟩)
     | (refine cx (r_call hL h hls _ _ _ _ (by omega) (by omega) hr) ?_; intro v hv; rcases okV_elim hv with ⟨e, q, rfl, rfl, hq2⟩ | ⟨q, rfl, p', cs, rfl, ⟨z1, z2, z3, z4, z5, z6, z7, z8⟩, hp'⟩))
    all_goals (try exact zf)
   ·have hlt1 := Ex.isT_lt hdot
    simp only [List.length_map] at hlt1
    simp only [hdot, ↓reduceIte] at hr
    rcases name_dich hr with ⟨u, huu, ⟨hlt2, hue⟩, hku, hkk, hr2⟩ | ⟨u, huu, ⟨hlt2, hue⟩, hku, hkk, rfl⟩ | ⟨hku, rfl⟩
    ·have e13 : p + 1 + 2 = p + 1 + 1 + 1 := rfl
     rw [e13] at hr2
     clear e13
     cases hr2
     clear hr
     repeat' (first
      | refine ww ?_ | (refine ixl ?_; intro a ha) | (refine ixs ?_; intro c hc)
      | refine rdc hL ?_
      | (refine cz ?_ ?_ <;> intro hb <;> ((try have hlt := Ex.zl hb); try exact zk hb))
      | refine zah ?_ ?_)
     all_goals (try exact zf)
    ·clear hr
     repeat' (first
      | refine ww ?_ | (refine ixl ?_; intro a ha) | (refine ixs ?_; intro c hc)
      | refine rdc hL ?_
      | (refine cz ?_ ?_ <;> intro hb <;> ((try have hlt := Ex.zl hb); try exact zk hb))
      | refine zah ?_ ?_)
     all_goals (try exact zf)
    ·clear hr
     repeat' (first
      | refine ww ?_ | (refine ixl ?_; intro a ha) | (refine ixs ?_; intro c hc)
      | refine rdc hL ?_
      | (refine cz ?_ ?_ <;> intro hb <;> ((try have hlt := Ex.zl hb); try exact zk hb))
      | refine zah ?_ ?_)
     all_goals (try exact zf)
  ·rw [if_neg hk3, if_neg hk1] at hr
   simp only [Ex.wNot, Ex.wIs, Ex.wIn, Ex.zaO, Ex.zbV, Ex.wAnd, Ex.wOr, Ex.zdk, Ex.wCase, Ex.zcI, Ex.zb4, Ex.zda, Ex.zcA, Ex.wEnd, Ex.wAs, Ex.wDistinct, Ex.zbr, Ex.zbv, Ex.zbh, Ex.zcx, Ex.mDot, Ex.zca, Ex.zbb, Ex.zbN] at hr
   repeat' (first
    | refine ww ?_ | (refine ixl ?_; intro a ha) | (refine ixs ?_; intro c hc)
    | refine rdc hL ?_
    | (refine cr (hc) ?_)
    | (refine cx (hc) ?_; rintro _ ⟨p', cs, rfl, ⟨z1, z2, z3, z4, z5, z6, z7, z8⟩, hp'⟩ <;> ((try simp only [Int.toNat_natCast, Int.toNat_natCast_add_one] at ho); (try simp only [Int.toNat_natCast, Int.toNat_natCast_add_one] at hlt)))
    | (refine cr (zbI _ _ _ _ hL ht) ?_)
    | (refine cr (za2 _ _ _ _ hL ?_ ht) ?_; exact dq)
    | (refine cz ?_ ?_ <;> intro hb <;> ((try have hlt := Ex.zl hb); try exact zk hb))
    | refine zah ?_ ?_
    | (refine cx (hcs _ _ _ (by omega) (by omega) hr) ?_; intro v hv; rcases okV_elim hv with ⟨e, q, rfl, rfl, hq2⟩ | ⟨q, rfl, p', cs, rfl, ⟨z1, z2, z3, z4, z5, z6, z7, z8⟩, hp'⟩)
    | (refine cx (r_cast hL hT h _ _ _ (by omega) (by omega) hr) ?_; intro v hv; rcases okV_elim hv with ⟨e, q, rfl, rfl, hq2⟩ | ⟨q, rfl, p', cs, rfl, ⟨z1, z2, z3, z4, z5, z6, z7, z8⟩, hp'⟩)
    | (simp only [*, ↓reduceIte, Bool.false_eq_true, Bool.and_true, Bool.true_and, Bool.false_and, Bool.and_false, Bool.or_false, Bool.false_or, Bool.or_true, Bool.true_or] at hr)
    | ((split at hr) <;> first | (rename_i op ho; have hop := za8 (by decide) ho; have hlt := (Ex.zaB ho).1; simp only [List.length_map] at hlt) | (rename_i ho; skip))
    | (have hr0 := h.go (by omega) (by omega) (by omega) hr; clear hr; rcases hr0 with ⟨e, q, hc, hq1, hq2, hr⟩ | ⟨q, hc, rfl⟩)
    | (have hr0 := Ex.need_some hr; clear hr; rcases hr0 with ⟨ht, hr⟩ | ⟨ht, rfl⟩; (try have hlt := Ex.isT_lt ht); (try simp only [List.length_map] at hlt))
    | (refine cx (h _ _ _ _ (by omega) (by omega) (by omega) hr) ?_; intro v hv; rcases okV_elim hv with ⟨e, q, rfl, rfl, hq2⟩ | ⟨q, rfl, p', cs, rfl, ⟨z1, z2, z3, z4, z5, z6, z7, z8⟩, hp'⟩))
   all_goals (try exact zf)
end
end Go.Proofs.YtakegkongmnekaaGreatDoor
