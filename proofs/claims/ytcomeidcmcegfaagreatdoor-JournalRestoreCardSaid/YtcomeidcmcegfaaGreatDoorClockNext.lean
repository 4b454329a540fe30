/-
  The walks of Next of layer 7 and of its reference. Conditions: vectors read as lists of ints.
-/
import Derived.Test.YtcomeidcmcegfaaGreatDoorClockVec
namespace Go.Proofs.YtcomeidcmcegfaaGreatDoor
open Go.RowKit
set_option linter.unusedVariables false
def RetStamp (c d : Int) (b : Bool) (w : World) (e : Ending) (w' : World) : Prop := e = .returned (.tuple #[.agg #[.int .i64 c, .int .i64 d], .bool b]) ∧ Below w.heap.size w w'
end Go.Proofs.YtcomeidcmcegfaaGreatDoor
