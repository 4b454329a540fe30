/-
  The walk of Less of layer 7. Conditions: none.
-/
import Derived.Test.YtcomeidcmcegfaaGreatDoorClockStamp
import Derived.Deep.QuietTactic
import Derived.BigQuiet
namespace Go.Proofs.YtcomeidcmcegfaaGreatDoor
open Go.RowKit
set_option linter.unusedVariables false
set_option maxHeartbeats 400000 in
theorem less_any (w : World) (a b c d : Int) : Calls Tryz.prog 46 #[.agg #[.int .i64 a, .int .i64 b], .agg #[.int .i64 c, .int .i64 d]] w (RetBool (lessB a b c d) w) := by
 have hq := cmp_or a b c d
 by_cases he : a = c ∧ b = d
 ·obtain ⟨rfl, rfl⟩ := he
  have Hl : Hid (lessB a b a b = false) := by rw [Hid, lessB_not]; omega
  have hne : ∀ w, (binOp .neq 36 (.agg #[.int .i64 a, .int .i64 b]) (.agg #[.int .i64 a, .int .i64 b])).run Tryz.prog w = .ok (.bool false) w := fun w => by
   rw [stamp_neq]; simp
  clear hq
  go_enter Tryz.func46, Tryz.ntmps46
  go_wp2
  go_quiet (fail)
  go_wp2
  go_ret
  exact ⟨by rw [Hl.out]; rfl, below_drewN (((Below.refl _ _).alloc (Nat.le_refl _) _).alloc (by simp) _) _⟩
 ·have hne : ∀ w, (binOp .neq 36 (.agg #[.int .i64 a, .int .i64 b]) (.agg #[.int .i64 c, .int .i64 d])).run Tryz.prog w = .ok (.bool true) w := fun w => by
   rw [stamp_neq, show (a == c && b == d) = false by rw [Bool.and_eq_false_iff]; simp only [beq_eq_false_iff_ne]; omega]; rfl
  clear he
  go_enter Tryz.func46, Tryz.ntmps46
  go_wp2
  go_region_held3 (fun w' => w'.cell? ⟨w.heap.size, 0, none⟩ = some (.int .i64 a) ∧ w'.cell? ⟨w.heap.size, 1, none⟩ = some (.int .i64 b) ∧ w'.cell? ⟨w.heap.size + 1, 0, none⟩ = some (.int .i64 c) ∧ w'.cell? ⟨w.heap.size + 1, 1, none⟩ = some (.int .i64 d)) (go_keep)
   (first | (go_at_call 79; refine (compare_any _ _ _).mono ?_; rintro e w' ⟨rfl, rfl⟩) | (go_at_call 78; refine (or_any _ _ (cmpI a c) (cmpI b d) (by exact Rd.newAtD _ [I64 (cmpI a c), I64 (cmpI b d)] _ _ _ (by simp))).mono ?_; rintro e w' ⟨rfl, rfl⟩))
  go_wp2
  go_ret
  exact ⟨rfl, ((((Below.refl _ _).alloc (Nat.le_refl _) _).alloc (by simp) _).alloc (by simp; omega) _).drew⟩
end Go.Proofs.YtcomeidcmcegfaaGreatDoor
