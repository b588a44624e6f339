/- Part of the proof: see the last text. -/
import Derived.Test.YtakegkongmnekaaGreatDoorP36
set_option maxRecDepth 20000
set_option linter.unusedVariables false
set_option linter.unusedSimpArgs false
namespace Go.Proofs.YtakegkongmnekaaGreatDoor
open Go.RowKit
open Vm
attribute [local irreducible] wpR wpC
section
variable {G : Nat → Vm.V} {L : List Lx.TA} {n : Nat}
abbrev SgR (G : Nat → Vm.V) (L : List Lx.TA) (n : Nat) : Prop := ∀ (m p : Nat) (r : Ex.R), m ≤ n → p ≤ L.length → Ex.run (L.map (·.1)) m (.lev 7) p = some r → RetX Tryz.prog G 80 [rdV L p 0 0] (okV L r)
set_option maxHeartbeats 16000000 in
theorem r_signed (hL : L.length ≤ 999999) (hT : Good L) (hG : zpQ L) (h : LvR G L n) (h8 : PlR G L n) : SgR G L (n + 1) := by
 intro m p r hm hp hr
 cases m with
 | zero => cases hr
 | succ m =>
 rw [Ex.run] at hr
 refine zde (zfq G) (by simp [L_tomeref25_signed]) ?_
 show wpC _ _ 0 (panK 0 _) _ (retK 0 _ _) (mkX [(0, _)] [])
 have hrd : ∀ a b w, rdV L a b w = .agg [.list (L.map tokM), .int .i64 a, .int .i64 b, .int .i64 w] := fun _ _ _ => rfl
 have x0 := zx; have hpr : ∀ q f, (prsE L q).on f = true := fun _ _ => rfl
 simp only [L_tomeref25_signed, zq4, zq5, zq6, zq7, zq8, zq9, zs, za, zl, zc, zE]
 have htk := zcu
 have htc := zdl
 have tn2 : ∀ q : Nat, ((q : Int) + 1 + 1).toNat = q + 1 + 1 := fun q => by omega
 have tn3 : ∀ q : Nat, ((q : Int) + 1 + 1 + 1).toNat = q + 1 + 1 + 1 := fun q => by omega
 cases hm1 : Ex.isT (L.map (·.1)) p 4 [45]
 ·cases hm2 : Ex.isT (L.map (·.1)) p 4 [43]
  ·have ho : Ex.oneOf (L.map (·.1)) p 4 [Ex.zbb, Ex.zbN] = none := by simp [Ex.oneOf, Ex.zbb, Ex.zbN, hm1, hm2]
   rw [ho] at hr
   dsimp only at hr
   clear ho
   repeat' (first
    | refine ww ?_ | (refine ixl ?_; intro a ha) | (refine ixs ?_; intro c hc)
    | refine rdc hL ?_
    | (refine cz ?_ ?_ <;> intro hb <;> ((try have hlt := Ex.zl hb); try exact zk hb))
    | refine zah ?_ ?_
    | (refine cx (h8 _ _ _ (by omega) (by omega) hr) ?_; intro v hv; rcases okV_elim hv with ⟨e, q, rfl, rfl, hq2⟩ | ⟨q, rfl, p', cs, rfl, ⟨z1, z2, z3, z4, z5, z6, z7, z8⟩, hp'⟩))
   all_goals (try exact zf)
  ·have ho : Ex.oneOf (L.map (·.1)) p 4 [Ex.zbb, Ex.zbN] = some [43] := by simp [Ex.oneOf, Ex.zbb, Ex.zbN, hm1, hm2]
   rw [ho] at hr
   dsimp only at hr
   clear ho
   have hr2 : (Ex.then1 (Ex.run (L.map (·.1)) m (.lev 7) (p + 1)) fun e q => Ex.one (Ex.eUn [43] e) q) = some r := by
    split at hr
    ·rw [if_neg (by simp [Ex.zbb])] at hr
     exact hr
    ·exact hr
   clear hr
   have hr := hr2
   clear hr2
   have hlt := Ex.isT_lt hm2
   simp only [List.length_map] at hlt
   obtain ⟨t, ht0⟩ : ∃ t, L[p]? = some t := ⟨_, List.getElem?_eq_getElem hlt⟩
   obtain ⟨⟨hlt, hte⟩, h1, h2, h3⟩ := ze2 ht0
   have htx : t.1.text = [43] := by
    rw [h3] at hm2
    simp only [Bool.and_eq_true, beq_iff_eq] at hm2
    exact hm2.2
   clear h1 h2 h3
   repeat' (first
    | refine ww ?_ | (refine ixl ?_; intro a ha) | (refine ixs ?_; intro c hc)
    | refine rdc hL ?_
    | (refine cr (hc) ?_)
    | (refine cx (hc) ?_; rintro _ ⟨p', cs, rfl, ⟨z1, z2, z3, z4, z5, z6, z7, z8⟩, hp'⟩ <;> ((try simp only [Int.toNat_natCast, Int.toNat_natCast_add_one] at ho); (try simp only [Int.toNat_natCast, Int.toNat_natCast_add_one] at hlt)))
    | (refine cr (zbI _ _ _ _ hL ht) ?_)
    | (refine cr (za2 _ _ _ _ hL ?_ ht) ?_; exact dq)
    | (refine cz ?_ ?_ <;> intro hb <;> ((try have hlt := Ex.zl hb); try exact zk hb))
    | refine zah ?_ ?_
    | (simp only [*, ↓reduceIte, Bool.false_eq_true, Bool.and_true, Bool.true_and, Bool.false_and, Bool.and_false, Bool.or_false, Bool.false_or, Bool.or_true, Bool.true_or] at hr)
    | ((split at hr) <;> first | (rename_i op ho; have hop := za8 (by decide) ho; have hlt := (Ex.zaB ho).1; simp only [List.length_map] at hlt) | (rename_i ho; skip))
    | (have hr0 := h.go (by omega) (by omega) (by omega) hr; clear hr; rcases hr0 with ⟨e, q, hc, hq1, hq2, hr⟩ | ⟨q, hc, rfl⟩)
    | (have hr0 := Ex.need_some hr; clear hr; rcases hr0 with ⟨ht, hr⟩ | ⟨ht, rfl⟩; (try have hlt := Ex.isT_lt ht); (try simp only [List.length_map] at hlt))
    | (refine cx (h _ _ _ _ (by omega) (by omega) (by omega) hr) ?_; intro v hv; rcases okV_elim hv with ⟨e, q, rfl, rfl, hq2⟩ | ⟨q, rfl, p', cs, rfl, ⟨z1, z2, z3, z4, z5, z6, z7, z8⟩, hp'⟩))
   all_goals (try exact zf)
 ·have ho : Ex.oneOf (L.map (·.1)) p 4 [Ex.zbb, Ex.zbN] = some [45] := by simp [Ex.oneOf, Ex.zbb, Ex.zbN, hm1]
  rw [ho] at hr
  dsimp only at hr
  clear ho
  have hlt := Ex.isT_lt hm1
  simp only [List.length_map] at hlt
  obtain ⟨t, ht0⟩ : ∃ t, L[p]? = some t := ⟨_, List.getElem?_eq_getElem hlt⟩
  obtain ⟨⟨hlt, hte⟩, h1, h2, h3⟩ := ze2 ht0
  have htx : t.1.text = [45] := by
   rw [h3] at hm1
   simp only [Bool.and_eq_true, beq_iff_eq] at hm1
   exact hm1.2
  clear h1 h2 h3
  cases hu0 : L[p + 1]? with
  | none =>
   obtain ⟨h1, h2, h3⟩ := ziX hu0
   rw [h1] at hr
   dsimp only at hr
   clear h1 h3
   repeat' (first
    | refine ww ?_ | (refine ixl ?_; intro a ha) | (refine ixs ?_; intro c hc)
    | refine rdc hL ?_
    | (refine cr (hc) ?_)
    | (refine cx (hc) ?_; rintro _ ⟨p', cs, rfl, ⟨z1, z2, z3, z4, z5, z6, z7, z8⟩, hp'⟩ <;> ((try simp only [Int.toNat_natCast, Int.toNat_natCast_add_one] at ho); (try simp only [Int.toNat_natCast, Int.toNat_natCast_add_one] at hlt)))
    | (refine cr (zbI _ _ _ _ hL ht) ?_)
    | (refine cr (za2 _ _ _ _ hL ?_ ht) ?_; exact dq)
    | (refine cz ?_ ?_ <;> intro hb <;> ((try have hlt := Ex.zl hb); try exact zk hb))
    | refine zah ?_ ?_
    | (simp only [*, ↓reduceIte, Bool.false_eq_true, Bool.and_true, Bool.true_and, Bool.false_and, Bool.and_false, Bool.or_false, Bool.false_or, Bool.or_true, Bool.true_or] at hr)
    | ((split at hr) <;> first | (rename_i op ho; have hop := za8 (by decide) ho; have hlt := (Ex.zaB ho).1; simp only [List.length_map] at hlt) | (rename_i ho; skip))
    | (have hr0 := h.go (by omega) (by omega) (by omega) hr; clear hr; rcases hr0 with ⟨e, q, hc, hq1, hq2, hr⟩ | ⟨q, hc, rfl⟩)
    | (have hr0 := Ex.need_some hr; clear hr; rcases hr0 with ⟨ht, hr⟩ | ⟨ht, rfl⟩; (try have hlt := Ex.isT_lt ht); (try simp only [List.length_map] at hlt))
    | (refine cx (h _ _ _ _ (by omega) (by omega) (by omega) hr) ?_; intro v hv; rcases okV_elim hv with ⟨e, q, rfl, rfl, hq2⟩ | ⟨q, rfl, p', cs, rfl, ⟨z1, z2, z3, z4, z5, z6, z7, z8⟩, hp'⟩))
   all_goals (try exact zf)
  | some u =>
   obtain ⟨⟨hlt1, hue⟩, h1, h2, h3⟩ := ze2 hu0
   rw [h1] at hr
   dsimp only at hr
   clear h1 h3
   obtain ⟨-, hN1, hN2⟩ := hT _ _ hu0
   by_cases hk3 : u.1.kind = 3
   ·by_cases hv1 : u.1.val.1 = 1
    ·rw [if_pos (by simp [Ex.zbb, hk3, hv1])] at hr
     have hvs := hG _ _ hu0 hv1
     cases hr
     repeat' (first
      | refine ww ?_ | (refine ixl ?_; intro a ha) | (refine ixs ?_; intro c hc)
      | refine rdc hL ?_
      | (refine cz ?_ ?_ <;> intro hb <;> ((try have hlt := Ex.zl hb); try exact zk hb))
      | refine zah ?_ ?_)
     all_goals (refine okV_mk ?_ (by omega); simp [hrd, expC, Ex.eUn, Ex.eBin, Ex.eIs, Ex.eIn, Ex.eBtw, Ex.zaY, Ex.eVal, Ex.eCol, Ex.eCase, Ex.eFn, Ex.eAgg, Ex.za0, Ex.v0, Ex.e0, Ex.wNot, Ex.wIs, Ex.wIn, Ex.zaO, Ex.zbV, Ex.wAnd, Ex.wOr, Ex.zdk, Ex.wCase, Ex.zcI, Ex.zb4, Ex.zda, Ex.zcA, Ex.wEnd, Ex.wAs, Ex.wDistinct, Ex.zbr, Ex.zbv, Ex.zbh, Ex.zcx, Ex.mDot, Ex.zca, Ex.zbb, Ex.zbN, hvs, hv1] <;> omega)
    ·rw [if_neg (by simp [hv1])] at hr
     have hv1 := eq_false hv1
     repeat' (first
      | refine ww ?_ | (refine ixl ?_; intro a ha) | (refine ixs ?_; intro c hc)
      | refine rdc hL ?_
      | (refine cr (hc) ?_)
      | (refine cx (hc) ?_; rintro _ ⟨p', cs, rfl, ⟨z1, z2, z3, z4, z5, z6, z7, z8⟩, hp'⟩ <;> ((try simp only [Int.toNat_natCast, Int.toNat_natCast_add_one] at ho); (try simp only [Int.toNat_natCast, Int.toNat_natCast_add_one] at hlt)))
      | (refine cr (zbI _ _ _ _ hL ht) ?_)
      | (refine cr (za2 _ _ _ _ hL ?_ ht) ?_; exact dq)
      | (refine cz ?_ ?_ <;> intro hb <;> ((try have hlt := Ex.zl hb); try exact zk hb))
      | refine zah ?_ ?_
      | (simp only [*, ↓reduceIte, Bool.false_eq_true, Bool.and_true, Bool.true_and, Bool.false_and, Bool.and_false, Bool.or_false, Bool.false_or, Bool.or_true, Bool.true_or] at hr)
      | ((split at hr) <;> first | (rename_i op ho; have hop := za8 (by decide) ho; have hlt := (Ex.zaB ho).1; simp only [List.length_map] at hlt) | (rename_i ho; skip))
      | (have hr0 := h.go (by omega) (by omega) (by omega) hr; clear hr; rcases hr0 with ⟨e, q, hc, hq1, hq2, hr⟩ | ⟨q, hc, rfl⟩)
      | (have hr0 := Ex.need_some hr; clear hr; rcases hr0 with ⟨ht, hr⟩ | ⟨ht, rfl⟩; (try have hlt := Ex.isT_lt ht); (try simp only [List.length_map] at hlt))
      | (refine cx (h _ _ _ _ (by omega) (by omega) (by omega) hr) ?_; intro v hv; rcases okV_elim hv with ⟨e, q, rfl, rfl, hq2⟩ | ⟨q, rfl, p', cs, rfl, ⟨z1, z2, z3, z4, z5, z6, z7, z8⟩, hp'⟩))
     all_goals (try exact zf)
   ·rw [if_neg (by simp [hk3])] at hr
    have hk3 := eq_false hk3
    repeat' (first
     | refine ww ?_ | (refine ixl ?_; intro a ha) | (refine ixs ?_; intro c hc)
     | refine rdc hL ?_
     | (refine cr (hc) ?_)
     | (refine cx (hc) ?_; rintro _ ⟨p', cs, rfl, ⟨z1, z2, z3, z4, z5, z6, z7, z8⟩, hp'⟩ <;> ((try simp only [Int.toNat_natCast, Int.toNat_natCast_add_one] at ho); (try simp only [Int.toNat_natCast, Int.toNat_natCast_add_one] at hlt)))
     | (refine cr (zbI _ _ _ _ hL ht) ?_)
     | (refine cr (za2 _ _ _ _ hL ?_ ht) ?_; exact dq)
     | (refine cz ?_ ?_ <;> intro hb <;> ((try have hlt := Ex.zl hb); try exact zk hb))
     | refine zah ?_ ?_
     | (simp only [*, ↓reduceIte, Bool.false_eq_true, Bool.and_true, Bool.true_and, Bool.false_and, Bool.and_false, Bool.or_false, Bool.false_or, Bool.or_true, Bool.true_or] at hr)
     | ((split at hr) <;> first | (rename_i op ho; have hop := za8 (by decide) ho; have hlt := (Ex.zaB ho).1; simp only [List.length_map] at hlt) | (rename_i ho; skip))
     | (have hr0 := h.go (by omega) (by omega) (by omega) hr; clear hr; rcases hr0 with ⟨e, q, hc, hq1, hq2, hr⟩ | ⟨q, hc, rfl⟩)
     | (have hr0 := Ex.need_some hr; clear hr; rcases hr0 with ⟨ht, hr⟩ | ⟨ht, rfl⟩; (try have hlt := Ex.isT_lt ht); (try simp only [List.length_map] at hlt))
     | (refine cx (h _ _ _ _ (by omega) (by omega) (by omega) hr) ?_; intro v hv; rcases okV_elim hv with ⟨e, q, rfl, rfl, hq2⟩ | ⟨q, rfl, p', cs, rfl, ⟨z1, z2, z3, z4, z5, z6, z7, z8⟩, hp'⟩))
    all_goals (try exact zf)
end
end Go.Proofs.YtakegkongmnekaaGreatDoor
