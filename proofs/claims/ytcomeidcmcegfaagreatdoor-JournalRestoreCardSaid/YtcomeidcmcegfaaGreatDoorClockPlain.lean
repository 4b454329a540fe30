/-
  The plain functions of layer 7 (clock): stamps and version vectors. Conditions: none; no program in sight.
-/
import Derived.WalkKit
namespace Go.Proofs.YtcomeidcmcegfaaGreatDoor
open Go.RowKit
set_option linter.unusedVariables false
def rightB (c d : Int) : Bool := decide (1 ≤ c ∧ c ≤ 1048576 ∧ 1 ≤ d ∧ d ≤ 15)
def lessB (a b c d : Int) : Bool := decide (a < c ∨ (a = c ∧ b < d))
def idOf (c d : Int) : Int := if rightB c d then 16 * c + d else 0
def ofC (n : Int) : Int := if rightB (n.tdiv 16) (n.tmod 16) then n.tdiv 16 else 0
def ofD (n : Int) : Int := if rightB (n.tdiv 16) (n.tmod 16) then n.tmod 16 else 0
def ofB (n : Int) : Bool := rightB (n.tdiv 16) (n.tmod 16)
def num (l : List Int) (i : Nat) : Int := max (l.getD i 0) 0
def joinN (a b : List Int) (k : Nat) : List Int := (List.range k).map fun i => max (num a i) (num b i)
def joinL (a b : List Int) : List Int := joinN a b 15
def seeL (l : List Int) (c d : Int) : List Int := if rightB c d then (joinL l []).set (d - 1).toNat (max (num l (d - 1).toNat) c) else joinL l []
theorem rightB_iff (c d : Int) : rightB c d = true ↔ 1 ≤ c ∧ c ≤ 1048576 ∧ 1 ≤ d ∧ d ≤ 15 := by unfold rightB; exact decide_eq_true_iff
theorem rightB_not (c d : Int) : rightB c d = false ↔ ¬ (1 ≤ c ∧ c ≤ 1048576 ∧ 1 ≤ d ∧ d ≤ 15) := by unfold rightB; exact decide_eq_false_iff_not
theorem lessB_iff (a b c d : Int) : lessB a b c d = true ↔ a < c ∨ (a = c ∧ b < d) := by unfold lessB; exact decide_eq_true_iff
theorem lessB_not (a b c d : Int) : lessB a b c d = false ↔ ¬ (a < c ∨ (a = c ∧ b < d)) := by unfold lessB; exact decide_eq_false_iff_not
theorem num_nonneg (l : List Int) (i : Nat) : 0 ≤ num l i := by unfold num; omega
theorem num_out (l : List Int) (i : Nat) (h : l.length ≤ i) : num l i = 0 := by
 unfold num; rw [List.getD, List.getElem?_eq_none h]; rfl
theorem num_in (l : List Int) (i : Nat) (h : i < l.length) : num l i = max l[i] 0 := by
 unfold num; rw [List.getD, List.getElem?_eq_getElem h]; rfl
theorem joinN_length (a b : List Int) (k : Nat) : (joinN a b k).length = k := by simp [joinN]
theorem joinN_succ (a b : List Int) (k : Nat) : joinN a b (k + 1) = joinN a b k ++ [max (num a k) (num b k)] := by simp [joinN, List.range_succ]
theorem num_join (a b : List Int) (i : Nat) (h : i < 15) : num (joinL a b) i = max (num a i) (num b i) := by
 have h1 := num_nonneg a i
 rw [num_in _ _ (by rw [joinL, joinN_length]; exact h)]
 simp only [joinL, joinN, List.getElem_map, List.getElem_range]
 omega
theorem num_nil (i : Nat) : num [] i = 0 := num_out [] i (by simp)
theorem seeL_length (l : List Int) (c d : Int) : (seeL l c d).length = 15 := by
 unfold seeL; split <;> simp [joinL, joinN_length]
end Go.Proofs.YtcomeidcmcegfaaGreatDoor
