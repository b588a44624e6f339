/- Part of the proof: see the last text. -/
import Derived.Test.YtakegkongmnekaaGreatDoorP30
set_option maxRecDepth 20000
set_option linter.unusedVariables false
set_option linter.unusedSimpArgs false
namespace Go.Proofs.YtakegkongmnekaaGreatDoor
open Go.RowKit
open Vm
attribute [local irreducible] wpR wpC
section
variable {G : Nat → Vm.V} {L : List Lx.TA} {n : Nat}
set_option maxHeartbeats 16000000 in
theorem zkm (hL : L.length ≤ 999999) (h : LvR G L n) (hls : LstR G L n) (m p : Nat) (r : Ex.R) (hm : m ≤ n + 1) (hp : p ≤ L.length) (hr : Ex.run (L.map (·.1)) m (.lev 3) p = some r) : RetX Tryz.prog G 79 [rdV L p 0 0] (okV L r) := by
 cases m with
 | zero => cases hr
 | succ m =>
 rw [Ex.run] at hr
 refine zde (zdP G) (by simp [L_tomeref25_comparison]) ?_
 show wpC _ _ 0 (panK 0 _) _ (retK 0 _ _) (mkX [(0, _)] [])
 have hrd : ∀ a b w, rdV L a b w = .agg [.list (L.map tokM), .int .i64 a, .int .i64 b, .int .i64 w] := fun _ _ _ => rfl
 have x0 := zx; have hpr : ∀ q f, (prsE L q).on f = true := fun _ _ => rfl
 simp only [L_tomeref25_comparison, zq3, zs, za, zl, zc, zE]
 have e12 : ∀ q : Nat, q + 2 = q + 1 + 1 := fun _ => rfl
 simp only [Ex.wNot, Ex.wIs, Ex.wIn, Ex.zaO, Ex.zbV, Ex.wAnd, Ex.wOr, Ex.zdk, Ex.wCase, Ex.zcI, Ex.zb4, Ex.zda, Ex.zcA, Ex.wEnd, Ex.wAs, Ex.wDistinct, Ex.zbr, Ex.zbv, Ex.zbh, Ex.zcx, Ex.mDot, Ex.zca, Ex.zbb, Ex.zbN, e12] at hr
 clear e12
 repeat' (first
  | refine ww ?_ | (refine ixl ?_; intro a ha) | (refine ixs ?_; intro c hc)
  | refine rdc hL ?_
  | (refine cr (b_list _ _ _ hL ?_ ?_ ?_) ?_; exact dq; exact dq; exact dq)
  | (refine cx (x_which _ _ _ Ex.cmps hL (by decide) (by decide) ?_ ?_) ?_; exact dq; exact dq; rintro _ (⟨op, ho, hop, hlt, rfl⟩ | ⟨ho, rfl⟩) <;> ((try simp only [Int.toNat_natCast, Int.toNat_natCast_add_one] at ho); (try simp only [Int.toNat_natCast, Int.toNat_natCast_add_one] at hlt)))
  | (refine cr (zlJ _ _ _ _ Ex.cmps hL (by decide) ?_ ?_ ?_) ?_; exact dq; exact dq; exact dq)
  | (refine cr (hc) ?_)
  | (refine cx (hc) ?_; rintro _ ⟨p', cs, rfl, ⟨z1, z2, z3, z4, z5, z6, z7, z8⟩, hp'⟩ <;> ((try simp only [Int.toNat_natCast, Int.toNat_natCast_add_one] at ho); (try simp only [Int.toNat_natCast, Int.toNat_natCast_add_one] at hlt)))
  | (refine cr (zbI _ _ _ _ hL ht) ?_)
  | (refine cr (za2 _ _ _ _ hL ?_ ht) ?_; exact dq)
  | (refine cx (hc) ?_; rintro _ (⟨l, rfl, hq2, ht, hll⟩ | ⟨p', xs, rfl, hp', hxs, hll⟩) <;> ((try simp only [Int.toNat_natCast, Int.toNat_natCast_add_one] at ho); (try simp only [Int.toNat_natCast, Int.toNat_natCast_add_one] at hlt)))
  | (refine cz ?_ ?_ <;> intro hb <;> ((try have hlt := Ex.zl hb); try exact zk hb))
  | refine zah ?_ ?_
  | (simp only [*, ↓reduceIte, Bool.false_eq_true, Bool.and_true, Bool.true_and, Bool.false_and, Bool.and_false, Bool.or_false, Bool.false_or, Bool.or_true, Bool.true_or] at hr)
  | ((split at hr) <;> first | (rename_i op ho; have hop := za8 (by decide) ho; have hlt := (Ex.zaB ho).1; simp only [List.length_map] at hlt) | (rename_i ho; skip))
  | (have hr0 := h.go (by omega) (by omega) (by omega) hr; clear hr; rcases hr0 with ⟨e, q, hc, hq1, hq2, hr⟩ | ⟨q, hc, rfl⟩)
  | (have hr0 := Ex.need_some hr; clear hr; rcases hr0 with ⟨ht, hr⟩ | ⟨ht, rfl⟩; (try have hlt := Ex.isT_lt ht); (try simp only [List.length_map] at hlt))
  | (refine cx (h _ _ _ _ (by omega) (by omega) (by omega) hr) ?_; intro v hv; rcases okV_elim hv with ⟨e, q, rfl, rfl, hq2⟩ | ⟨q, rfl, p', cs, rfl, ⟨z1, z2, z3, z4, z5, z6, z7, z8⟩, hp'⟩)
  | (have hr0 := hls.go hL (by omega) (by omega) hr; clear hr; rcases hr0 with ⟨l, q, hc, hll, hlt, ht, hr⟩ | ⟨q, hc, rfl⟩; (try simp only [Ex.zbh] at ht)))
 all_goals (try exact zf)
end
end Go.Proofs.YtakegkongmnekaaGreatDoor
