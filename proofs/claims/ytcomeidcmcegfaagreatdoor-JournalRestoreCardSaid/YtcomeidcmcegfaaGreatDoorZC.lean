/-
  Facts of this translation's own tables that many walks use. Conditions: none.
  Facts of this translation's own tables on bytes and strings that many walks use. Conditions: none.
-/
import Derived.Test.YtcomeidcmcegfaaGreatDoorRows
import Derived.Test.YtcomeidcmcegfaaGreatDoorBase
namespace Go.Proofs.YtcomeidcmcegfaaGreatDoor
open Go.RowKit
set_option linter.unusedVariables false
theorem info_u8 : (Tryz.prog.info? 5).map (fun i => (i.zero, i.size, i.bytes)) = some (some (.int .u8 0), 1, 1) := by kernel_rfl
theorem info_int : (Tryz.prog.info? 3).map (fun i => (i.zero, i.size, i.bytes)) = some (some (.int .i64 0), 1, 8) := by kernel_rfl
end Go.Proofs.YtcomeidcmcegfaaGreatDoor
namespace Go.Proofs.YtcomeidcmcegfaaGreatDoor
open Go.RowKit
set_option linter.unusedVariables false
theorem str_of (w : World) (A : Option Addr) (c : Nat) (l : List UInt8) (h : Rd w A (l.map U8)) :
 (convert 22 9 (.slice A l.length c)).run Tryz.prog w = .ok (.string ⟨l.toArray⟩) w :=
 run_str w _ _ _ Tryz.underlying22 Tryz.underlying5 Tryz.underlying9 A c l h
end Go.Proofs.YtcomeidcmcegfaaGreatDoor
