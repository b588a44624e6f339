/- Part of the proof: see the last text. -/
import Derived.Test.YtplflngjpajcmaaGreatDoorP2
set_option maxRecDepth 20000
set_option linter.unusedVariables false
set_option linter.unusedSimpArgs false
noncomputable section
namespace Vm
open Go Go.RowKit
def M.plain:M→Bool|.call _ _ _|.pan _|.store _ _ _=>false|_=>true
end Vm
end
