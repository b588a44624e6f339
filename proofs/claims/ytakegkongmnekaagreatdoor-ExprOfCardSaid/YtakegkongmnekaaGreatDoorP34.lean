/- Part of the proof: see the last text. -/
import Derived.Test.YtakegkongmnekaaGreatDoorP26
import Derived.Test.YtakegkongmnekaaGreatDoorP33
set_option maxRecDepth 20000
set_option linter.unusedVariables false
set_option linter.unusedSimpArgs false
namespace Go.Proofs.YtakegkongmnekaaGreatDoor
open Go.RowKit
open Vm
section
variable {G : Nat → Vm.V} {L : List Lx.TA}
theorem zcL {f : FuncId} {k : Nat} : Lvl G L f k 0 := fun m p r hm hp hr => by
 obtain rfl : m = 0 := by omega
 cases hr
structure ProgP (G : Nat → Vm.V) (L : List Lx.TA) (n : Nat) : Prop where
 l0 : Lvl G L 41 0 n
 l1 : Lvl G L 69 1 n
 l2 : Lvl G L 95 2 n
 l3 : Lvl G L 119 3 n
 l4 : Lvl G L 135 4 n
 l5 : Lvl G L 143 5 n
 l6 : Lvl G L 148 6 n
 l7 : Lvl G L 149 7 n
 l8 : Lvl G L 150 8 n
 ls : LstC G L n
theorem zme (hL : L.length ≤ 999999) (hT : Good L) : ∀ n, ProgP G L n
 | 0 => ⟨zcL, zcL, zcL, zcL, zcL, zcL, zcL, zcL, zcL, fun m p r hm hp hr => by
  obtain rfl : m = 0 := by omega
  cases hr⟩
 | n + 1 => by
  have h := zme hL hT n
  exact ⟨m_expr hL h.l1, zjz hL h.l2, znf hL h.l2 h.l3, zkA hL h.l4 h.ls, m_sum hL h.l5, zoX hL h.l6, m_join hL h.l7, m_signed hL hT h.l8 h.l7,
   m_plain hL hT h.l0 h.ls (fun m p r hm hp hr => m_cases hL h.l0 m p r hm hp hr), fun m p r hm hp hr => m_list hL h.l0 m p r hm hp hr⟩
theorem zoy (hL : L.length ≤ 999999) (hT : Good L) {m p : Nat} {r : Ex.R} (hp : p ≤ L.length) (hr : Ex.run (L.map (·.1)) m (.lev 0) p = some r) : zaN Tryz.prog G 41 [.ptr 0 0] [prsE L p] (zh3 L r) :=
 (zme hL hT m).l0 m p r (Nat.le_refl _) hp hr
end
end Go.Proofs.YtakegkongmnekaaGreatDoor
