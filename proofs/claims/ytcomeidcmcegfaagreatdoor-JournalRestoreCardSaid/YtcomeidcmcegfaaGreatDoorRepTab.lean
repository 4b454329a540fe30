/-
  The table of layer 50's fields, out of what the statement says of the listed variables. Conditions: none.
-/
import Derived.Test.YtcomeidcmcegfaaGreatDoorZQ
import Derived.Lib.LaidU8T
namespace Go.Proofs.YtcomeidcmcegfaaGreatDoor
open Go.RowKit Go.Lib
set_option linter.unusedVariables false
theorem tabR_of {w : World} (h : Lib.VarReads Tryz.prog w "langdoc/replica.fields" (tabData .i64 [0, 1, 2])) : TabR w := by
 obtain ⟨g, t, cs, fuel, p, hg, hty, hvar, hd⟩ := h
 obtain rfl : 0 = g := Option.some.inj ((show Tryz.prog.globalNamed "langdoc/replica.fields" = some 0 by kernel_rfl).symm.trans hg)
 obtain rfl : 111 = t := Option.some.inj ((show (Tryz.prog.globals[(0 : Nat)]?).map (·.type) = some 111 by kernel_rfl).symm.trans hty)
 have hcs := cells_of_tab Tryz.underlying111 Tryz.underlying3 (by kernel_rfl) (by kernel_rfl) hd
 refine ⟨?_, ?_, ?_⟩
 ·rw [World.var?_cell hg hvar 0, ← Array.getElem?_toList, hcs]; rfl
 ·rw [World.var?_cell hg hvar 1, ← Array.getElem?_toList, hcs]; rfl
 ·rw [World.var?_cell hg hvar 2, ← Array.getElem?_toList, hcs]; rfl
end Go.Proofs.YtcomeidcmcegfaaGreatDoor
