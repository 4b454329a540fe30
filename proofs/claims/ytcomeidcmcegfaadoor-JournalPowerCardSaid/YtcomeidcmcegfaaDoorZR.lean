/-
  The walks of takes and body of the reference's layer 49. Conditions: fewer than a thousand million bytes.
  The walk of From of the reference's layer 49. Conditions: fewer than a thousand million bytes.
-/
import Derived.Test.YtcomeidcmcegfaaDoorZJ
import Derived.Test.YtcomeidcmcegfaaDoorZH
import Derived.StillTailTactics
import Derived.Deep.DeepCutAuto
import Derived.IntWalk
namespace Go.Proofs.YtcomeidcmcegfaaDoor
open Go.RowKit
set_option linter.unusedVariables false
set_option linter.unusedSimpArgs false
def bdO (l : List UInt8) : OP := if (fQ4 l).2 = 0 then { fO l with ov := [] } else OP.zero
end Go.Proofs.YtcomeidcmcegfaaDoor
namespace Go.Proofs.YtcomeidcmcegfaaDoor
open Go.RowKit
set_option linter.unusedVariables false
set_option linter.unusedSimpArgs false
end Go.Proofs.YtcomeidcmcegfaaDoor
