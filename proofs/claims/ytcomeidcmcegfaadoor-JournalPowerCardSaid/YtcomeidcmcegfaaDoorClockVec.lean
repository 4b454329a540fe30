/-
  The walks of the functions of vectors of layer 7 (Leq, Join, Next) and of the reference's. Conditions: vectors read as lists of ints.
-/
import Derived.Test.YtcomeidcmcegfaaDoorClockNum
import Derived.Test.YtcomeidcmcegfaaDoorZB
namespace Go.Proofs.YtcomeidcmcegfaaDoor
open Go.RowKit
set_option linter.unusedVariables false
def RetInts (l : List Int) (w : World) (e : Ending) (w' : World) : Prop :=
 ∃ A c, e = .returned (.slice A l.length c) ∧ Own w' w.heap.size 3 1 (.slice A l.length c) l.length (l.map I64) ∧ Below w.heap.size w w'
theorem max_ite (a b : Int) : (if a < b then b else a) = max a b := by split <;> omega
def joinArr (a b : List Int) (j : Nat) : Array Value := ((joinN a b j ++ List.replicate (15 - j) 0).map I64).toArray
theorem joinArr_zero {a b : List Int} {j : Nat} (h : j < 15) : (joinArr a b j)[j]? = some (.int .i64 0) := by
 simp [joinArr, joinN_length, show 15 - j = (14 - j) + 1 by omega, List.replicate_succ, I64]
theorem joinArr_next {a b : List Int} {j : Nat} (h : j < 15) : (joinArr a b j).setIfInBounds j (I64 (max (num a j) (num b j))) = joinArr a b (j + 1) := by
 unfold joinArr
 rw [List.setIfInBounds_toArray, ← List.map_set]
 congr 2
 rw [List.set_append_right _ _ (by rw [joinN_length]; omega), joinN_length, Nat.sub_self, joinN_succ, show 15 - j = (15 - (j + 1)) + 1 by omega, List.replicate_succ, List.set_cons_zero, List.append_assoc]
 rfl
theorem join_own (w : World) (a b : List Int) : Own (w.alloc (.cells (joinArr a b 15) 3)) w.heap.size 3 1 (.slice (some ⟨w.heap.size, 0, none⟩) 15 15) 15 ((joinL a b).map I64) := by
 refine .inl ⟨by simp [joinL, joinN_length], .inr ⟨w.heap.size, 15, joinArr a b 15, rfl, Nat.le_refl _, heap_alloc_new w _, Nat.le_refl _, by decide, by simp [joinArr, joinN_length], ?_⟩⟩
 simp only [joinArr, joinL, Nat.sub_self, List.replicate_zero, List.append_nil, Nat.mul_one]
 rw [List.take_of_length_le (by simp [joinN_length])]
set_option maxHeartbeats 1000000 in
theorem join_any (w : World) (A : Option Addr) (c : Nat) (l : List Int) (h : Rd w A (l.map I64)) (hl : l.length ≤ 9223372036854775807) (B : Option Addr) (d : Nat) (m : List Int) (k : Rd w B (m.map I64)) (hm : m.length ≤ 9223372036854775807) :
 Calls Tryd.prog 68 #[.slice A l.length c, .slice B m.length d] w (RetInts (joinL l m) w) := by
 have hmk : ∀ w, (Instr.makeSlice 49 (.int .i64 15) (.int .i64 15)).run Tryd.prog w = .ok (.slice (some ⟨w.heap.size, 0, none⟩) 15 15) (w.alloc (.cells (joinArr l m 0) 3)) := fun _ => by kernel_rfl
 go_enter Tryd.func68, Tryd.ntmps68
 go_wp2
 go_loopw [10] (fun i wr => ∃ j : Nat, j ≤ 15 ∧ i = .int .i64 j ∧ wr = w.alloc (.cells (joinArr l m j) 3)) (fun i _ => 15 - (intOf i).toNat)
 case atStart => exact ⟨0, by omega, rfl, rfl⟩
 case round =>
  obtain ⟨j, hj, rfl, rfl⟩ := hrel
  by_cases hlt : j < 15
  ·have hz := joinArr_zero (a := l) (b := m) hlt
   have Hn := Lib.hid (joinArr_next (a := l) (b := m) hlt)
   go_wp2_with fail
   refine (number_any _ _ _ _ (h.alloc _) hl j).mono ?_
   rintro e w' ⟨rfl, rfl⟩
   go_wp2_with fail
   refine (number_any _ _ _ _ (k.alloc _) hm j).mono ?_
   rintro e w' ⟨rfl, rfl⟩
   go_wp2_with fail
   go_roundw
   case rel => exact ⟨j + 1, by omega, by go_num, by rw [max_ite, ← Hn.out]; rfl⟩
   case measure => simp [intOf]; omega
  ·obtain rfl : j = 15 := by omega
   go_wp2
   go_ret
   exact ⟨some ⟨w.heap.size, 0, none⟩, 15, by simp [joinL, joinN_length], by rw [show (joinL l m).length = 15 from joinN_length _ _ _]; exact join_own w l m, (Below.refl _ _).alloc (Nat.le_refl _) _⟩
end Go.Proofs.YtcomeidcmcegfaaDoor
