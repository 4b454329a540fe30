/-
  The walks of few and same of the statements of layer 53. Conditions: the operations are readable.
-/
import Derived.Test.YtcomeidcmcegfaaGreatDoorZL
import Derived.Test.YtcomeidcmcegfaaGreatDoorZN
import Derived.Test.YtcomeidcmcegfaaGreatDoorHeld2
namespace Go.Proofs.YtcomeidcmcegfaaGreatDoor
open Go.RowKit
set_option linter.unusedVariables false
set_option linter.unusedSimpArgs false
def sameL : List OP → List OP → Bool
 | [], [] => true
 | a :: l, b :: m => sameB a b && sameL l m
 | _, _ => false
theorem sameL_iff : ∀ (l m : List OP), sameL l m = true ↔ l = m
 | [], [] => by simp [sameL]
 | [], b :: m => by simp [sameL]
 | a :: l, [] => by simp [sameL]
 | a :: l, b :: m => by rw [sameL, Bool.and_eq_true, sameB_iff, sameL_iff l m]; simp
theorem sameL_not {l m : List OP} (h : l ≠ m) : sameL l m = false := by
 rcases e : sameL l m with _ | _
 ·rfl
 ·exact absurd ((sameL_iff l m).1 e) h
theorem take_more {l m : List OP} {k : Nat} (h : l.take k = m.take k) (hl : k < l.length) (hm : k < m.length) (e : l[k] = m[k]) : l.take (k + 1) = m.take (k + 1) := by
 rw [List.take_succ_eq_append_getElem hl, List.take_succ_eq_append_getElem hm, h, e]
theorem ne_at' {l m : List OP} {k : Nat} (hl : k < l.length) (hm : k < m.length) (e : l[k] ≠ m[k]) : l ≠ m := by rintro rfl; exact e rfl
end Go.Proofs.YtcomeidcmcegfaaGreatDoor
