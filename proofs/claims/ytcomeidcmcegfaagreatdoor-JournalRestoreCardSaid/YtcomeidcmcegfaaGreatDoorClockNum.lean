/-
  The walks of the small functions of layer 7: number, Right. Conditions: vectors read as lists of ints.
-/
import Derived.Test.YtcomeidcmcegfaaGreatDoorZC
import Derived.Test.YtcomeidcmcegfaaGreatDoorClockPlain
import Derived.Laws.StructEq
namespace Go.Proofs.YtcomeidcmcegfaaGreatDoor
open Go.RowKit
set_option linter.unusedVariables false
theorem stamp_eql (a b c d : Int) (w : World) : (binOp .eql 36 (.agg #[.int .i64 a, .int .i64 b]) (.agg #[.int .i64 c, .int .i64 d])).run Tryz.prog w = .ok (.bool (a == c && b == d)) w := by
 by_cases h1 : a = c <;> by_cases h2 : b = d <;> simp_all [go_sem]
theorem stamp_neq (a b c d : Int) (w : World) : (binOp .neq 36 (.agg #[.int .i64 a, .int .i64 b]) (.agg #[.int .i64 c, .int .i64 d])).run Tryz.prog w = .ok (.bool (!(a == c && b == d))) w := by
 by_cases h1 : a = c <;> by_cases h2 : b = d <;> simp_all [go_sem]
set_option maxHeartbeats 400000 in
theorem number_any (w : World) (A : Option Addr) (c : Nat) (l : List Int) (h : Rd w A (l.map I64)) (hl : l.length ≤ 9223372036854775807) (i : Nat) :
 Calls Tryz.prog 44 #[.slice A l.length c, .int .i64 i] w fun e w' => e = .returned (.int .i64 (num l i)) ∧ w = w' := by
 by_cases hi : i < l.length
 ·have Hn := Lib.hid (num_in l i hi)
  obtain ⟨b, off, rfl, hb, hck⟩ := h.at64 hi
  go_enter Tryz.func44, Tryz.ntmps44
  go_wp2
  all_goals
   go_ret
   exact ⟨ret_int (by rw [Hn.out]; omega), rfl⟩
 ·rw [num_out l i (by omega)]
  go_enter Tryz.func44, Tryz.ntmps44
  go_wp2
  go_ret
  exact ⟨rfl, rfl⟩
set_option maxHeartbeats 400000 in
theorem at_any (w : World) (A : Option Addr) (c : Nat) (l : List Int) (h : Rd w A (l.map I64)) (hl : l.length ≤ 9223372036854775807) (i : Nat) (h15 : i < 15) :
 Calls Tryz.prog 51 #[.slice A l.length c, .int .i64 (i + 1)] w fun e w' => e = .returned (.int .i64 (num l i)) ∧ w = w' := by
 by_cases hi : i < l.length
 ·have Hn := Lib.hid (num_in l i hi)
  obtain ⟨b, off, rfl, hb, hck⟩ := h.at64 hi
  go_enter Tryz.func51, Tryz.ntmps51
  go_wp2
  all_goals
   go_ret
   exact ⟨ret_int (by rw [Hn.out]; omega), rfl⟩
 ·rw [num_out l i (by omega)]
  go_enter Tryz.func51, Tryz.ntmps51
  go_wp2
  go_ret
  exact ⟨rfl, rfl⟩
set_option maxHeartbeats 400000 in
theorem right_any (w : World) (c d : Int) :
 Calls Tryz.prog 48 #[.agg #[.int .i64 c, .int .i64 d]] w fun e w' => e = .returned (.bool (rightB c d)) ∧ w.alloc (.cells #[.int .i64 c, .int .i64 d] 36) = w' := by
 go_enter Tryz.func48, Tryz.ntmps48
 go_wp2
 ·go_ret
  exact ⟨ret_bool (by unfold rightB; rw [decide_eq_decide]; omega), rfl⟩
 all_goals
  go_ret
  exact ⟨ret_bool (by rw [eq_comm, rightB_not]; omega), rfl⟩
set_option maxHeartbeats 400000 in
theorem rright_any (w : World) (c d : Int) :
 Calls Tryz.prog 83 #[.agg #[.int .i64 c, .int .i64 d]] w fun e w' => e = .returned (.bool (rightB c d)) ∧ w.alloc (.cells #[.int .i64 c, .int .i64 d] 36) = w' := by
 go_enter Tryz.func83, Tryz.ntmps83
 go_wp2
 ·go_ret
  exact ⟨ret_bool (by unfold rightB; rw [decide_eq_decide]; omega), rfl⟩
 all_goals
  go_ret
  exact ⟨ret_bool (by rw [eq_comm, rightB_not]; omega), rfl⟩
end Go.Proofs.YtcomeidcmcegfaaGreatDoor
