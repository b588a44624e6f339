/- Part of the proof: see the last text. -/
import Derived.Test.YtakegkongmnekaaGreatDoorP35
import Derived.Test.YtakegkongmnekaaGreatDoorP37
import Derived.Test.YtakegkongmnekaaGreatDoorP38
import Derived.Test.YtakegkongmnekaaGreatDoorP39
set_option maxRecDepth 20000
set_option linter.unusedVariables false
set_option linter.unusedSimpArgs false
namespace Go.Proofs.YtakegkongmnekaaGreatDoor
open Go.RowKit
open Vm
attribute [local irreducible] wpR wpC
section
variable {G : Nat → Vm.V} {L : List Lx.TA}
set_option maxHeartbeats 4000000 in
theorem zov (hL : L.length ≤ 999999) (k p : Nat) (r : Ex.R) (f : FuncId) (hf : (k = 2 ∧ f = 78) ∨ (k = 3 ∧ f = 79) ∨ (k = 7 ∧ f = 80)) (hc : RetX Tryz.prog G f [rdV L p 0 0] (okV L r)) :
  RetX Tryz.prog G 44 [rdV L p 0 0, .int .i64 (k : Int)] (okV L r) := by
 refine zde (zcD G) (by simp [L_tomeref25_part]) ?_
 show wpC _ _ 0 (panK 0 _) _ (retK 0 _ _) (mkX [(0, _), (1, _)] [])
 have hrd : ∀ a b w, rdV L a b w = .agg [.list (L.map tokM), .int .i64 a, .int .i64 b, .int .i64 w] := fun _ _ _ => rfl
 have x0 := zx; have hpr : ∀ q f, (prsE L q).on f = true := fun _ _ => rfl
 simp only [L_tomeref25_part, zs, za, zl, zc, zE]
 rcases hf with ⟨rfl, rfl⟩ | ⟨rfl, rfl⟩ | ⟨rfl, rfl⟩
 all_goals
  repeat' (first
   | refine ww ?_ | (refine ixl ?_; intro a ha) | (refine ixs ?_; intro c hc)
   | (refine cz ?_ ?_ <;> intro hb <;> ((try have hlt := Ex.zl hb); try exact zk hb))
   | refine zah ?_ ?_
   | (refine cx hc ?_; intro v hv; rcases okV_elim hv with ⟨e, q, rfl, rfl, hq2⟩ | ⟨q, rfl, p', cs, rfl, ⟨z1, z2, z3, z4, z5, z6, z7, z8⟩, hp'⟩))
  all_goals (try exact zf)
theorem lvR_zero : LvR G L 0 := fun m k p r hm hk hp hr => by
 obtain rfl : m = 0 := by omega
 cases hr
theorem zor (hL : L.length ≤ 999999) (hT : Good L) (hG : zpQ L) : ∀ n, LvR G L n ∧ LstR G L n ∧ PlR G L n
 | 0 => by
  refine ⟨lvR_zero, fun m p r hm hp hr => ?_, fun m p r hm hp hr => ?_⟩
  ·obtain rfl : m = 0 := by omega
   cases hr
  ·obtain rfl : m = 0 := by omega
   cases hr
 | n + 1 => by
  obtain ⟨h, hls, hpl⟩ := zor hL hT hG n
  refine ⟨fun m k p r hm hk hp hr => ?_, fun m p r hm hp hr => r_list hL h m p r hm hp hr, r_plain hL hT h hls fun m p r hm hp hr => r_cases hL h m p r hm hp hr⟩
  by_cases h2 : k = 2
  ·subst h2; exact zov hL _ _ _ _ (.inl ⟨rfl, rfl⟩) (zm7 hL h m p r hm hp hr)
  by_cases h3 : k = 3
  ·subst h3; exact zov hL _ _ _ _ (.inr (.inl ⟨rfl, rfl⟩)) (zkm hL h hls m p r hm hp hr)
  by_cases h7 : k = 7
  ·subst h7; exact zov hL _ _ _ _ (.inr (.inr ⟨rfl, rfl⟩)) (r_signed hL hT hG h hpl m p r hm hp hr)
  ·exact r_levels hL h m k p r (by omega) hm hp hr
theorem ref_part (hL : L.length ≤ 999999) (hT : Good L) (hG : zpQ L) {m p : Nat} {r : Ex.R} (hp : p ≤ L.length) (hr : Ex.run (L.map (·.1)) m (.lev 0) p = some r) : RetX Tryz.prog G 44 [rdV L p 0 0, .int .i64 ((0 : Nat) : Int)] (okV L r) :=
 (zor hL hT hG m).1 m 0 p r (Nat.le_refl _) (by omega) hp hr
end
end Go.Proofs.YtakegkongmnekaaGreatDoor
