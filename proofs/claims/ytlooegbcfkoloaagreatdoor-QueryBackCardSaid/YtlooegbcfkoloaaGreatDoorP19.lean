/- Part of the proof: see the last text. -/
import Derived.Test.YtlooegbcfkoloaaGreatDoorP0
set_option maxRecDepth 20000
set_option linter.unusedVariables false
set_option linter.unusedSimpArgs false
namespace Go.Proofs.YtlooegbcfkoloaaGreatDoor
open Go.RowKit
attribute [local simp] Lx.zaN Lx.zlb
def pre (l m:List UInt8):Bool:=l.take m.length == m
end Go.Proofs.YtlooegbcfkoloaaGreatDoor
