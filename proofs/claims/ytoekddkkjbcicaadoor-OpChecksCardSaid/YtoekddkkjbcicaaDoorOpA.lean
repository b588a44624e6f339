import Derived.Test.YtoekddkkjbcicaaDoorTextB
import Derived.Test.YtoekddkkjbcicaaDoorRef3F
import Derived.Test.YtoekddkkjbcicaaDoorOxA
set_option linter.unusedVariables false
set_option linter.unusedSimpArgs false
namespace Go.Proofs.YtoekddkkjbcicaaDoor
open Go.RowKit
attribute [local simp] Lx.bs_size
theorem within_any (k : UInt8) (n many : Int) (w : World) :
    Calls Tryd.prog 49 #[.int .u8 k.toNat, .int .i64 n, .int .i64 many] w fun e w' => e = .returned (.bool (Ox.within k n many)) ∧ w = w' := by
  go_enter Tryd.func49, Tryd.ntmps49
  go_wp2
  all_goals (go_ret; refine ⟨ret_b ?_, rfl⟩; unfold Ox.within; (repeat' split) <;> first | omega | (rw [Bool.eq_iff_iff]; simp at *; done) | (rw [Bool.eq_iff_iff]; simp at *; omega))
def numberP (k : UInt8) (n many : Int) : Bool :=
  if k.toNat = 114 then decide (0 ≤ n) && decide (n < 1024)
  else if k.toNat = 106 then decide (0 ≤ n) && decide (n ≤ many)
  else if k.toNat = 99 ∨ k.toNat = 107 then decide (0 ≤ n) && decide (n ≤ 63)
  else if k.toNat = 110 then decide (0 ≤ n) && decide (n ≤ 1024)
  else if k.toNat = 98 then decide (n = 0) || decide (n = 1)
  else decide (n = 0)
theorem rnumber_any (k : UInt8) (n many : Int) (w : World) :
    Calls Tryd.prog 36 #[.int .u8 k.toNat, .int .i64 n, .int .i64 many] w fun e w' => e = .returned (.bool (numberP k n many)) ∧ w = w' := by
  go_enter Tryd.func36, Tryd.ntmps36
  go_wp2
  all_goals (go_ret; refine ⟨ret_b ?_, rfl⟩; unfold numberP; (repeat' split) <;> first | omega | (rw [Bool.eq_iff_iff]; simp at *; done) | (rw [Bool.eq_iff_iff]; simp at *; omega))
theorem tletter_any (c : Int) (w : World) :
    Calls Tryd.prog 63 #[.int .i32 c] w fun e w' => e = .returned (.bool (decide (97 ≤ c) && decide (c ≤ 122) || decide (65 ≤ c) && decide (c ≤ 90))) ∧ w = w' := by
  go_enter Tryd.func63, Tryd.ntmps63
  go_wp2
  all_goals (go_ret; refine ⟨ret_b ?_, rfl⟩; rw [Bool.eq_iff_iff]; simp; omega)
end Go.Proofs.YtoekddkkjbcicaaDoor
