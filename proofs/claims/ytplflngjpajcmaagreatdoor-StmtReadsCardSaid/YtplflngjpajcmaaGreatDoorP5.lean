/- Part of the proof: see the last text. -/
import Derived.Test.YtplflngjpajcmaaGreatDoorP0
set_option maxRecDepth 20000
set_option linter.unusedVariables false
set_option linter.unusedSimpArgs false
noncomputable section
namespace Go.Proofs.YtplflngjpajcmaaGreatDoor
open Go.RowKit
attribute [local simp] Lx.zao Lx.zeQ
def pre(l m:List UInt8):Bool:=l.take m.length==m
end Go.Proofs.YtplflngjpajcmaaGreatDoor
end
