/-
  The walks of the small functions of layer 7: number, Right. Conditions: vectors read as lists of ints.
-/
import Derived.Test.YtfjiikcbcoohdaaDoorSeat
import Derived.Test.YtfjiikcbcoohdaaDoorClockPlain
import Derived.Laws.StructEq
namespace Go.Proofs.YtfjiikcbcoohdaaDoor
open Go.RowKit
set_option linter.unusedVariables false

theorem stamp_eql (a b c d : Int) (w : World) : (binOp .eql 23 (.agg #[.int .i64 a, .int .i64 b]) (.agg #[.int .i64 c, .int .i64 d])).run Tryd.prog w = .ok (.bool (a == c && b == d)) w := by
  by_cases h1 : a = c <;> by_cases h2 : b = d <;> simp_all [go_sem]
theorem stamp_neq (a b c d : Int) (w : World) : (binOp .neq 23 (.agg #[.int .i64 a, .int .i64 b]) (.agg #[.int .i64 c, .int .i64 d])).run Tryd.prog w = .ok (.bool (!(a == c && b == d))) w := by
  by_cases h1 : a = c <;> by_cases h2 : b = d <;> simp_all [go_sem]

set_option maxHeartbeats 400000 in
theorem right_any (w : World) (c d : Int) :
    Calls Tryd.prog 26 #[.agg #[.int .i64 c, .int .i64 d]] w fun e w' => e = .returned (.bool (rightB c d)) ∧ w.alloc (.cells #[.int .i64 c, .int .i64 d] 23) = w' := by
  go_enter Tryd.func26, Tryd.ntmps26
  go_wp2
  · go_ret
    exact ⟨ret_bool (by unfold rightB; rw [decide_eq_decide]; omega), rfl⟩
  all_goals
    go_ret
    exact ⟨ret_bool (by rw [eq_comm, rightB_not]; omega), rfl⟩

set_option maxHeartbeats 400000 in
theorem rright_any (w : World) (c d : Int) :
    Calls Tryd.prog 33 #[.agg #[.int .i64 c, .int .i64 d]] w fun e w' => e = .returned (.bool (rightB c d)) ∧ w.alloc (.cells #[.int .i64 c, .int .i64 d] 23) = w' := by
  go_enter Tryd.func33, Tryd.ntmps33
  go_wp2
  · go_ret
    exact ⟨ret_bool (by unfold rightB; rw [decide_eq_decide]; omega), rfl⟩
  all_goals
    go_ret
    exact ⟨ret_bool (by rw [eq_comm, rightB_not]; omega), rfl⟩

end Go.Proofs.YtfjiikcbcoohdaaDoor
