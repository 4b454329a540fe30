/-
  The walks of Covers, See, Of of layer 7 and of its reference. Conditions: vectors read as lists of ints.
-/
import Derived.Test.YtfjiikcbcoohdaaDoorClockLess
import Derived.Test.YtfjiikcbcoohdaaDoorHeld
namespace Go.Proofs.YtfjiikcbcoohdaaDoor
open Go.RowKit
set_option linter.unusedVariables false

theorem right_yes (w : World) (c d : Int) (h : rightB c d = true) :
    Calls Tryd.prog 26 #[.agg #[.int .i64 c, .int .i64 d]] w fun e w' => e = .returned (.bool true) ∧ w.alloc (.cells #[.int .i64 c, .int .i64 d] 23) = w' := by
  have := right_any w c d; rw [h] at this; exact this
theorem right_no (w : World) (c d : Int) (h : rightB c d = false) :
    Calls Tryd.prog 26 #[.agg #[.int .i64 c, .int .i64 d]] w fun e w' => e = .returned (.bool false) ∧ w.alloc (.cells #[.int .i64 c, .int .i64 d] 23) = w' := by
  have := right_any w c d; rw [h] at this; exact this
theorem rright_yes (w : World) (c d : Int) (h : rightB c d = true) :
    Calls Tryd.prog 33 #[.agg #[.int .i64 c, .int .i64 d]] w fun e w' => e = .returned (.bool true) ∧ w.alloc (.cells #[.int .i64 c, .int .i64 d] 23) = w' := by
  have := rright_any w c d; rw [h] at this; exact this
theorem rright_no (w : World) (c d : Int) (h : rightB c d = false) :
    Calls Tryd.prog 33 #[.agg #[.int .i64 c, .int .i64 d]] w fun e w' => e = .returned (.bool false) ∧ w.alloc (.cells #[.int .i64 c, .int .i64 d] 23) = w' := by
  have := rright_any w c d; rw [h] at this; exact this

/-- the cells of a new block of two, behind what keeps old blocks -/
theorem box2 {w w' : World} {x y : Value} {t : TypeId} (hb : Below (w.heap.size + 1) (w.alloc (.cells #[x, y] t)) w') :
    w'.cell? ⟨w.heap.size, 0, none⟩ = some x ∧ w'.cell? ⟨w.heap.size, 1, none⟩ = some y := by
  have := cell_lit2 w x y t
  exact ⟨(hb.cell (p := ⟨w.heap.size, 0, none⟩) (by simp)).trans this.1, (hb.cell (p := ⟨w.heap.size, 1, none⟩) (by simp)).trans this.2⟩

theorem seeL_yes {l : List Int} {c d : Int} (h : rightB c d = true) : seeL l c d = (joinL l []).set (d - 1).toNat (max (num l (d - 1).toNat) c) := by unfold seeL; rw [h]; rfl
theorem seeL_no {l : List Int} {c d : Int} (h : rightB c d = false) : seeL l c d = joinL l [] := by unfold seeL; rw [h]; rfl

end Go.Proofs.YtfjiikcbcoohdaaDoor
