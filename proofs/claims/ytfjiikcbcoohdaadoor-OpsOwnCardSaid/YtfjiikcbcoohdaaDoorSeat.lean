/-
  Facts of this translation's own tables that many walks use. Conditions: none.
-/
import Derived.Test.YtfjiikcbcoohdaaDoorRows
import Derived.Test.YtfjiikcbcoohdaaDoorBase
namespace Go.Proofs.YtfjiikcbcoohdaaDoor
open Go.RowKit
set_option linter.unusedVariables false

theorem info_u8 : (Tryd.prog.info? 5).map (fun i => (i.zero, i.size, i.bytes)) = some (some (.int .u8 0), 1, 1) := by kernel_rfl
theorem info_int : (Tryd.prog.info? 3).map (fun i => (i.zero, i.size, i.bytes)) = some (some (.int .i64 0), 1, 8) := by kernel_rfl
end Go.Proofs.YtfjiikcbcoohdaaDoor
