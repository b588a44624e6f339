/- Part of the proof: see the last text. -/
import Derived.Test.YtakegkongmnekaaGreatDoorP30
set_option maxRecDepth 20000
set_option linter.unusedVariables false
set_option linter.unusedSimpArgs false
namespace Go.Proofs.YtakegkongmnekaaGreatDoor
open Go.RowKit
open Vm
attribute [local irreducible] wpR wpC
section
variable {G : Nat → Vm.V} {L : List Lx.TA} {n : Nat}
structure PS where
 a : Int
 b : Int
 w : Int
 op : List UInt8
 cs : List Vm.V
def psC (L : List Lx.T) (m k p : Nat) (e : Ex.E) (r : Ex.R) : Prop :=
 (Ex.oneOf L p (Ex.ops k).2 (Ex.ops k).1 = none ∧ r = .ok [e] p) ∨
 ∃ op m1, Ex.oneOf L p (Ex.ops k).2 (Ex.ops k).1 = some op ∧ m = m1 + 1 ∧ Ex.then1 (Ex.run L m1 (.lev (k + 1)) (p + 1)) (fun b q => Ex.run L m1 (.chain k (Ex.eBin op e b)) q) = some r
theorem psC_of {L : List Lx.T} {m k p : Nat} {e : Ex.E} {r : Ex.R} (h : Ex.run L m (.chain k e) p = some r) : psC L m k p e r := by
 cases m with
 | zero => cases h
 | succ m =>
  rw [Ex.run] at h
  cases ho : Ex.oneOf L p (Ex.ops k).2 (Ex.ops k).1 with
  | none => rw [ho] at h; cases h; exact .inl ⟨ho, rfl⟩
  | some op => rw [ho] at h; exact .inr ⟨op, m, ho, rfl, h⟩
def psJ (L : List Lx.TA) (n k : Nat) (r : Ex.R) (s : PS) : Prop :=
 (∃ (m p : Nat) (e : Ex.E), s = ⟨p, 0, 0, (Ex.oneOf (L.map (·.1)) p (Ex.ops k).2 (Ex.ops k).1).getD [], expC e⟩ ∧ m ≤ n ∧ p ≤ L.length ∧ psC (L.map (·.1)) m k p e r) ∨
 ∃ (p q : Nat) (cs : List Vm.V), s = ⟨p, 20, q, [], cs⟩ ∧ r = .stop q ∧ p ≤ L.length ∧ Cells cs
theorem ops_len {k : Nat} (hk : k = 0 ∨ k = 1 ∨ k = 4 ∨ k = 5 ∨ k = 6) : (Ex.ops k).1.length ≤ 9 ∧ ((Ex.ops k).1.all fun s => !s.isEmpty) = true := by
 rcases hk with rfl | rfl | rfl | rfl | rfl <;> exact ⟨by decide, by decide⟩
set_option maxHeartbeats 16000000 in
theorem r_levels (hL : L.length ≤ 999999) (h : LvR G L n) (m k p : Nat) (r : Ex.R) (hk : k = 0 ∨ k = 1 ∨ k = 4 ∨ k = 5 ∨ k = 6) (hm : m ≤ n + 1) (hp : p ≤ L.length) (hr : Ex.run (L.map (·.1)) m (.lev k) p = some r) :
  RetX Tryz.prog G 44 [rdV L p 0 0, .int .i64 (k : Int)] (okV L r) := by
 cases m with
 | zero => cases hr
 | succ m =>
 rw [Ex.zdd _ _ _ _ (by omega)] at hr
 have hkk : (((k + 1 : Nat)) : Int) = (k : Int) + 1 := by omega
 have hlev := r_level (G := G) k hk
 obtain ⟨hol, hon⟩ := ops_len hk
 have hk2 : ((k : Int) = 2) = False := eq_false (by omega)
 have hk3 : ((k : Int) = 3) = False := eq_false (by omega)
 have hk7 : ((k : Int) = 7) = False := eq_false (by omega)
 have hk9 : k ≤ 6 := by omega
 refine zde (zcD G) (by simp [L_tomeref25_part]) ?_
 show wpC _ _ 0 (panK 0 _) _ (retK 0 _ _) (mkX [(0, _), (1, _)] [])
 have hrd : ∀ a b w, rdV L a b w = .agg [.list (L.map tokM), .int .i64 a, .int .i64 b, .int .i64 w] := fun _ _ _ => rfl
 have x0 := zx; have hpr : ∀ q f, (prsE L q).on f = true := fun _ _ => rfl
 simp only [L_tomeref25_part, zs, za, zl, zc, zE]
 have hr0 := h.go (by omega) (by omega) hp hr
 clear hr
 rw [hkk] at hr0
 rcases hr0 with ⟨e, q, hc, hq1, hq2, hr⟩ | ⟨q, hc, rfl⟩
 ·repeat' (first
   | refine ww ?_ | (refine ixl ?_; intro a ha) | (refine ixs ?_; intro c hc)
   | refine rdc hL ?_
   | (refine cr (hlev) ?_)
   | (refine cr (zli _ _ _ _ hL hol ?_ ?_) ?_; exact dq; exact dq)
   | (refine cr (hc) ?_)
   | (refine cz ?_ ?_ <;> intro hb <;> ((try have hlt := Ex.zl hb); try exact zk hb))
   | refine zah ?_ ?_)
  refine lp [1, 4, 5, 6, 7, 8, 9, 10] [11, 12, 58, 59] (fun s : PS => [(1, .int .i64 (k : Int)), (4, .ptr 11 0), (5, .ptr 12 0), (6, .list ((Ex.ops k).1.map Vm.V.str)), (7, .int .i64 (Ex.ops k).2), (8, .ptr 58 0), (9, .ptr 59 0), (10, .str s.op)])
   (fun s => [(11, .blk 68 [.nils, .int .i64 0, .int .i64 0, .int .i64 0]), (12, .blk 27 [.int .i64 0, .str [], .int .i64 0, .int .i64 0, .str [], .str [], .str [], .int .i64 0, .bool false, .bool false, .nils]), (58, .blk 68 (rdC L s.a s.b s.w)), (59, .blk 27 s.cs)])
   (psJ L n k r) (fun s => if s.b = 0 then 1 + (L.length - s.a.toNat) else 0) ⟨q, 0, 0, (Ex.oneOf (L.map (·.1)) q (Ex.ops k).2 (Ex.ops k).1).getD [], expC e⟩ (.inl ⟨m, q, e, rfl, by omega, hq2, psC_of hr⟩) ?_ lo (by simp only [rdC]; exact le)
  try clear hc
  try clear hr
  rintro s (⟨m', p', e', rfl, hm', hp', hJ⟩ | ⟨p', q', cs', rfl, hrq, hp', hcs'⟩)
  ·rcases hJ with ⟨hone, hrq⟩ | ⟨op, m1, hone, rfl, hr⟩
   ·simp only [hone, Option.getD, rdC]
    try subst hrq
    try cases hrq
    repeat' (first
     | refine ww ?_ | (refine ixl ?_; intro a ha) | (refine ixs ?_; intro c hc)
     | refine rdc hL ?_
     | (refine cz ?_ ?_ <;> intro hb <;> ((try have hlt := Ex.zl hb); try exact zk hb))
     | refine zah ?_ ?_)
    all_goals (try exact zf)
   ·have hop : (op = []) = False := eq_false (za8 hon hone)
    have hlt := (Ex.zaB hone).1
    simp only [List.length_map] at hlt
    simp only [hone, Option.getD, rdC]
    have hr0 := h.go (by omega) (by omega) (by omega) hr
    clear hr
    rw [hkk] at hr0
    rcases hr0 with ⟨b, q, hc, hq1, hq2, hr⟩ | ⟨q, hc, hrq⟩
    ·repeat' (first
      | refine ww ?_ | (refine ixl ?_; intro a ha) | (refine ixs ?_; intro c hc)
      | refine rdc hL ?_
      | (refine cr (zli _ _ _ _ hL hol ?_ ?_) ?_; exact dq; exact dq)
      | (refine cr (hc) ?_)
      | (refine cz ?_ ?_ <;> intro hb <;> ((try have hlt := Ex.zl hb); try exact zk hb))
      | refine zah ?_ ?_)
     refine ⟨⟨q, 0, 0, (Ex.oneOf (L.map (·.1)) q (Ex.ops k).2 (Ex.ops k).1).getD [], expC (Ex.eBin op e' b)⟩, .inl ⟨m1, q, Ex.eBin op e' b, rfl, by omega, hq2, psC_of hr⟩, by simp; omega, lo, by simp only [rdC]; exact le⟩
    ·repeat' (first
      | refine ww ?_ | (refine ixl ?_; intro a ha) | (refine ixs ?_; intro c hc)
      | refine rdc hL ?_
      | (refine cr (zlJ _ _ _ _ _ hL hol ?_ ?_ ?_) ?_; exact dq; exact dq; exact dq)
      | (refine cx (hc) ?_; rintro _ ⟨p', cs, rfl, ⟨z1, z2, z3, z4, z5, z6, z7, z8⟩, hp'⟩ <;> ((try simp only [Int.toNat_natCast, Int.toNat_natCast_add_one] at ho); (try simp only [Int.toNat_natCast, Int.toNat_natCast_add_one] at hlt)))
      | (refine cz ?_ ?_ <;> intro hb <;> ((try have hlt := Ex.zl hb); try exact zk hb))
      | refine zah ?_ ?_)
     refine ⟨⟨p', 20, q, [], [.int .i64 4, .str op, .int .i64 0, .int .i64 0, .str [], .str [], .str [], .int .i64 0, .bool false, .bool false, .list [.agg (expC e'), .agg cs]]⟩, .inr ⟨p', q, _, rfl, hrq, hp', ⟨rfl, rfl, rfl, rfl, rfl, fun _ => rfl, rfl, fun _ => rfl⟩⟩, (by simp <;> omega), lo, by simp only [rdC]; exact le⟩
  ·obtain ⟨z1, z2, z3, z4, z5, z6, z7, z8⟩ := hcs'
   try subst hrq
   try cases hrq
   simp only [rdC]
   repeat' (first
    | refine ww ?_ | (refine ixl ?_; intro a ha) | (refine ixs ?_; intro c hc)
    | refine rdc hL ?_
    | (refine cz ?_ ?_ <;> intro hb <;> ((try have hlt := Ex.zl hb); try exact zk hb))
    | refine zah ?_ ?_)
   all_goals (try exact zf)
 ·repeat' (first
   | refine ww ?_ | (refine ixl ?_; intro a ha) | (refine ixs ?_; intro c hc)
   | refine rdc hL ?_
   | (refine cr (hlev) ?_)
   | (refine cr (zlJ _ _ _ _ _ hL hol ?_ ?_ ?_) ?_; exact dq; exact dq; exact dq)
   | (refine cx (hc) ?_; rintro _ ⟨p', cs, rfl, ⟨z1, z2, z3, z4, z5, z6, z7, z8⟩, hp'⟩ <;> ((try simp only [Int.toNat_natCast, Int.toNat_natCast_add_one] at ho); (try simp only [Int.toNat_natCast, Int.toNat_natCast_add_one] at hlt)))
   | (refine cz ?_ ?_ <;> intro hb <;> ((try have hlt := Ex.zl hb); try exact zk hb))
   | refine zah ?_ ?_)
  refine lp [1, 4, 5, 6, 7, 8, 9, 10] [11, 12, 58, 59] (fun s : PS => [(1, .int .i64 (k : Int)), (4, .ptr 11 0), (5, .ptr 12 0), (6, .list ((Ex.ops k).1.map Vm.V.str)), (7, .int .i64 (Ex.ops k).2), (8, .ptr 58 0), (9, .ptr 59 0), (10, .str s.op)])
   (fun s => [(11, .blk 68 [.nils, .int .i64 0, .int .i64 0, .int .i64 0]), (12, .blk 27 [.int .i64 0, .str [], .int .i64 0, .int .i64 0, .str [], .str [], .str [], .int .i64 0, .bool false, .bool false, .nils]), (58, .blk 68 (rdC L s.a s.b s.w)), (59, .blk 27 s.cs)])
   (fun s => s = ⟨p', 20, q, [], cs⟩) (fun s => 0) ⟨p', 20, q, [], cs⟩ rfl ?_ lo (by simp only [rdC]; exact le)
  rintro s rfl
  simp only [rdC]
  repeat' (first
   | refine ww ?_ | (refine ixl ?_; intro a ha) | (refine ixs ?_; intro c hc)
   | refine rdc hL ?_
   | (refine cz ?_ ?_ <;> intro hb <;> ((try have hlt := Ex.zl hb); try exact zk hb))
   | refine zah ?_ ?_)
  all_goals (try exact zf)
end
end Go.Proofs.YtakegkongmnekaaGreatDoor
