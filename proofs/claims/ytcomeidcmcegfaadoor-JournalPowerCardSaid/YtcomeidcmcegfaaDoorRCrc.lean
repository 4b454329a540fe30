/-
  The walk of the reference's Crc. Conditions: the slice reads as a list of bytes.
-/
import Derived.Test.YtcomeidcmcegfaaDoorCrc
namespace Go.Proofs.YtcomeidcmcegfaaDoor
open Go.RowKit
set_option linter.unusedVariables false
end Go.Proofs.YtcomeidcmcegfaaDoor
