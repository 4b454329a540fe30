/-
  The plain functions of layer 7 (clock): stamps and version vectors. Conditions: none; no program in sight.
-/
import Derived.WalkKit
namespace Go.Proofs.YtcomeidcmcegfaaDoor
open Go.RowKit
set_option linter.unusedVariables false

def rightB (c d : Int) : Bool := decide (1 ≤ c ∧ c ≤ 1048576 ∧ 1 ≤ d ∧ d ≤ 15)
def lessB (a b c d : Int) : Bool := decide (a < c ∨ (a = c ∧ b < d))
def idOf (c d : Int) : Int := if rightB c d then 16 * c + d else 0
def ofC (n : Int) : Int := if rightB (n.tdiv 16) (n.tmod 16) then n.tdiv 16 else 0
def ofD (n : Int) : Int := if rightB (n.tdiv 16) (n.tmod 16) then n.tmod 16 else 0
def ofB (n : Int) : Bool := rightB (n.tdiv 16) (n.tmod 16)
/-- the number of device i + 1 -/
def num (l : List Int) (i : Nat) : Int := max (l.getD i 0) 0
def coversB (l : List Int) (c d : Int) : Bool := rightB c d && decide (c ≤ num l (d - 1).toNat)
def joinN (a b : List Int) (k : Nat) : List Int := (List.range k).map fun i => max (num a i) (num b i)
def joinL (a b : List Int) : List Int := joinN a b 15
def leqN (a b : List Int) (k : Nat) : Bool := (List.range k).all fun i => decide (num a i ≤ num b i)
def leqB (a b : List Int) : Bool := leqN a b 15
def seeL (l : List Int) (c d : Int) : List Int := if rightB c d then (joinL l []).set (d - 1).toNat (max (num l (d - 1).toNat) c) else joinL l []
def topN (l : List Int) : Nat → Int
  | 0 => 0
  | k+1 => max (topN l k) (num l k)
def topL (l : List Int) : Int := topN l 15
def nextB (l : List Int) (dev : Int) : Bool := rightB (min (topL l) 1048576 + 1) dev
def nextC (l : List Int) (dev : Int) : Int := if nextB l dev then topL l + 1 else 0
def nextD (l : List Int) (dev : Int) : Int := if nextB l dev then dev else 0

theorem rightB_iff (c d : Int) : rightB c d = true ↔ 1 ≤ c ∧ c ≤ 1048576 ∧ 1 ≤ d ∧ d ≤ 15 := by unfold rightB; exact decide_eq_true_iff
theorem rightB_not (c d : Int) : rightB c d = false ↔ ¬ (1 ≤ c ∧ c ≤ 1048576 ∧ 1 ≤ d ∧ d ≤ 15) := by unfold rightB; exact decide_eq_false_iff_not
theorem lessB_iff (a b c d : Int) : lessB a b c d = true ↔ a < c ∨ (a = c ∧ b < d) := by unfold lessB; exact decide_eq_true_iff
theorem lessB_not (a b c d : Int) : lessB a b c d = false ↔ ¬ (a < c ∨ (a = c ∧ b < d)) := by unfold lessB; exact decide_eq_false_iff_not
theorem num_nonneg (l : List Int) (i : Nat) : 0 ≤ num l i := by unfold num; omega
theorem num_out (l : List Int) (i : Nat) (h : l.length ≤ i) : num l i = 0 := by
  unfold num; rw [List.getD, List.getElem?_eq_none h]; rfl
theorem num_in (l : List Int) (i : Nat) (h : i < l.length) : num l i = max l[i] 0 := by
  unfold num; rw [List.getD, List.getElem?_eq_getElem h]; rfl
theorem num_le (l : List Int) (i : Nat) (h : ∀ n ∈ l, n ≤ 9223372036854775807) : num l i ≤ 9223372036854775807 := by
  by_cases hi : i < l.length
  · rw [num_in l i hi]; have := h _ (List.getElem_mem hi); omega
  · rw [num_out l i (by omega)]; omega
theorem topN_nonneg (l : List Int) (k : Nat) : 0 ≤ topN l k := by
  induction k with
  | zero => exact Int.le_refl _
  | succ k ih => rw [topN]; omega
theorem topN_le (l : List Int) (k : Nat) (h : ∀ n ∈ l, n ≤ 9223372036854775807) : topN l k ≤ 9223372036854775807 := by
  induction k with
  | zero => show (0 : Int) ≤ _; omega
  | succ k ih => rw [topN]; have := num_le l k h; omega
theorem topN_ge (l : List Int) (k i : Nat) (h : i < k) : num l i ≤ topN l k := by
  induction k with
  | zero => omega
  | succ k ih =>
    rw [topN]
    rcases Nat.lt_or_ge i k with hk | hk
    · have := ih hk; omega
    · obtain rfl : i = k := by omega
      omega
theorem joinN_length (a b : List Int) (k : Nat) : (joinN a b k).length = k := by simp [joinN]
theorem joinN_succ (a b : List Int) (k : Nat) : joinN a b (k + 1) = joinN a b k ++ [max (num a k) (num b k)] := by simp [joinN, List.range_succ]
theorem leqN_succ (a b : List Int) (k : Nat) : leqN a b (k + 1) = (leqN a b k && decide (num a k ≤ num b k)) := by simp [leqN, List.range_succ]
theorem leqN_false (a b : List Int) (k j : Nat) (hk : k ≤ j) (h : leqN a b k = false) : leqN a b j = false := by
  induction j with
  | zero => obtain rfl : k = 0 := by omega
            exact h
  | succ j ih =>
    rcases Nat.lt_or_ge k (j + 1) with hl | hl
    · rw [leqN_succ, ih (by omega)]; rfl
    · obtain rfl : k = j + 1 := by omega
      exact h
theorem leqB_iff (a b : List Int) : leqB a b = true ↔ ∀ i, i < 15 → num a i ≤ num b i := by
  unfold leqB leqN; rw [List.all_eq_true]; simp
theorem num_join (a b : List Int) (i : Nat) (h : i < 15) : num (joinL a b) i = max (num a i) (num b i) := by
  have h1 := num_nonneg a i
  rw [num_in _ _ (by rw [joinL, joinN_length]; exact h)]
  simp only [joinL, joinN, List.getElem_map, List.getElem_range]
  omega
theorem num_nil (i : Nat) : num [] i = 0 := num_out [] i (by simp)
theorem seeL_length (l : List Int) (c d : Int) : (seeL l c d).length = 15 := by
  unfold seeL; split <;> simp [joinL, joinN_length]
end Go.Proofs.YtcomeidcmcegfaaDoor
