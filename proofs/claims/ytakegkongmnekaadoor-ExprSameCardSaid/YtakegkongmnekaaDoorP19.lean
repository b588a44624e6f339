/- Part of the proof: see the last text. -/
import Derived.Test.YtakegkongmnekaaDoorP0
set_option maxRecDepth 20000
set_option linter.unusedVariables false
set_option linter.unusedSimpArgs false
namespace Go.Proofs.YtakegkongmnekaaDoor
open Go.RowKit
attribute [local simp] Lx.zar Lx.zdd
def pre (l m : List UInt8) : Bool := l.take m.length == m
end Go.Proofs.YtakegkongmnekaaDoor
namespace Go.Proofs.YtakegkongmnekaaDoor
open Go.RowKit
attribute [local simp] Lx.zar Lx.zdd
theorem zh9 (wr : World) (c : UInt8) : (convert 50 9 (.slice (some ⟨wr.heap.size,0,none⟩) 1 1)).run Tryd.prog (wr.alloc (.cells #[.int .u8 (c.toNat : Int)] 5)) = .ok (.string (Lx.bs [c])) (wr.alloc (.cells #[.int .u8 (c.toNat : Int)] 5)) :=
 zhC (l := [c]) Tryd.underlying50 Tryd.underlying5 Tryd.underlying9 (heap_alloc_new wr _) (fun j hj => by
  have : j = 0 := by simp at hj;omega
  subst this;rfl)
theorem zjM (s : ByteArray) (w : World) (hs : s.size ≤ 1000000000) :
  Calls Tryd.prog 17 #[.string s] w fun e w' => e = .returned (.string (Lx.bs (Lx.fold (Lx.ls s)))) ∧ Below w.heap.size w w' := by
 go_enter Tryd.func17,Tryd.ntmps17
 go_wp2
 go_loopw [3,4] (fun v i wr => ∃ (k : Nat) (acc : List UInt8),k ≤ s.size ∧ acc.length = k ∧ i = .int .i64 k ∧ v = .string (Lx.bs acc) ∧ Hid (acc = Lx.fold ((Lx.ls s).take k)) ∧ Below w.heap.size w wr) (fun _ i _ => s.size - (intOf i).toNat)
 case atStart => exact ⟨0,[],by omega,rfl,rfl,rfl,Lib.hid rfl,by exact zw⟩
 case round =>
  obtain ⟨k,acc,hk,hal,rfl,rfl,HA,hb⟩ := hrel
  have hal1 : acc.length ≤ k := by omega
  have HL := Lib.hid hal
  clear hal
  by_cases hlt : k < s.size
  ·have HA' := Lib.hid (show acc ++ [Lx.lo s[k]] = Lx.fold ((Lx.ls s).take (k + 1)) from by rw [Lx.zks hlt,HA.out])
   by_cases hu : 65 ≤ s[k].toNat ∧ s[k].toNat ≤ 90
   ·obtain ⟨hu1,hu2⟩ := hu
    have hconv := zh9 wr (Lx.lo s[k])
    rw [Lx.lo_up hu1 hu2] at hconv
    have d1 : decide ((65 : Int) ≤ (s[k].toNat : Int)) = true := by simp;omega
    have d2 : decide ((s[k].toNat : Int) ≤ 90) = true := by simp;omega
    go_wp2
    go_roundw
    case rel => exact ⟨k + 1,acc ++ [Lx.lo s[k]],by omega,by simp [HL.out],by go_num,rfl,HA',by exact zw⟩
    case measure => simp [intOf];omega
   ·have hu3 : Lx.lo s[k] = s[k] := Lx.lo_id (by omega)
    rw [hu3] at HA'
    have hconv := zh9 wr s[k]
    clear hu3
    by_cases hg : s[k].toNat < 65
    ·have d1 : decide ((65 : Int) ≤ (s[k].toNat : Int)) = false := by simp;omega
     clear hu
     go_wp2
     go_roundw
     case rel => exact ⟨k + 1,acc ++ [s[k]],by omega,by simp [HL.out],by go_num,rfl,HA',by exact zw⟩
     case measure => simp [intOf];omega
    ·have d1 : decide ((65 : Int) ≤ (s[k].toNat : Int)) = true := by simp;omega
     have d2 : decide ((s[k].toNat : Int) ≤ 90) = false := by simp;omega
     clear hu hg
     go_wp2
     go_roundw
     case rel => exact ⟨k + 1,acc ++ [s[k]],by omega,by simp [HL.out],by go_num,rfl,HA',by exact zw⟩
     case measure => simp [intOf];omega
  ·obtain rfl : k = s.size := by omega
   have HA' := Lib.hid (show acc = Lx.fold (Lx.ls s) from by rw [HA.out,Lx.zfG])
   go_wp2
   go_ret
   exact ⟨by rw [HA'.out];rfl,hb⟩
end Go.Proofs.YtakegkongmnekaaDoor
