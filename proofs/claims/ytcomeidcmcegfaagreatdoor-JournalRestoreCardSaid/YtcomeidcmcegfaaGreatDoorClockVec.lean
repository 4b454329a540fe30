/-
  The walks of the functions of vectors of layer 7 (Leq, Join, Next) and of the reference's. Conditions: vectors read as lists of ints.
-/
import Derived.Test.YtcomeidcmcegfaaGreatDoorClockNum
import Derived.Test.YtcomeidcmcegfaaGreatDoorZB
namespace Go.Proofs.YtcomeidcmcegfaaGreatDoor
open Go.RowKit
set_option linter.unusedVariables false
def RetInts (l : List Int) (w : World) (e : Ending) (w' : World) : Prop :=
 ∃ A c, e = .returned (.slice A l.length c) ∧ Own w' w.heap.size 3 1 (.slice A l.length c) l.length (l.map I64) ∧ Below w.heap.size w w'
theorem max_ite (a b : Int) : (if a < b then b else a) = max a b := by split <;> omega
def joinArr (a b : List Int) (j : Nat) : Array Value := ((joinN a b j ++ List.replicate (15 - j) 0).map I64).toArray
theorem joinArr_zero {a b : List Int} {j : Nat} (h : j < 15) : (joinArr a b j)[j]? = some (.int .i64 0) := by
 simp [joinArr, joinN_length, show 15 - j = (14 - j) + 1 by omega, List.replicate_succ, I64]
theorem joinArr_next {a b : List Int} {j : Nat} (h : j < 15) : (joinArr a b j).setIfInBounds j (I64 (max (num a j) (num b j))) = joinArr a b (j + 1) := by
 unfold joinArr
 rw [List.setIfInBounds_toArray, ← List.map_set]
 congr 2
 rw [List.set_append_right _ _ (by rw [joinN_length]; omega), joinN_length, Nat.sub_self, joinN_succ, show 15 - j = (15 - (j + 1)) + 1 by omega, List.replicate_succ, List.set_cons_zero, List.append_assoc]
 rfl
theorem join_own (w : World) (a b : List Int) : Own (w.alloc (.cells (joinArr a b 15) 3)) w.heap.size 3 1 (.slice (some ⟨w.heap.size, 0, none⟩) 15 15) 15 ((joinL a b).map I64) := by
 refine .inl ⟨by simp [joinL, joinN_length], .inr ⟨w.heap.size, 15, joinArr a b 15, rfl, Nat.le_refl _, heap_alloc_new w _, Nat.le_refl _, by decide, by simp [joinArr, joinN_length], ?_⟩⟩
 simp only [joinArr, joinL, Nat.sub_self, List.replicate_zero, List.append_nil, Nat.mul_one]
 rw [List.take_of_length_le (by simp [joinN_length])]
set_option maxHeartbeats 1000000 in
theorem join_any (w : World) (A : Option Addr) (c : Nat) (l : List Int) (h : Rd w A (l.map I64)) (hl : l.length ≤ 9223372036854775807) (B : Option Addr) (d : Nat) (m : List Int) (k : Rd w B (m.map I64)) (hm : m.length ≤ 9223372036854775807) :
 Calls Tryz.prog 23 #[.slice A l.length c, .slice B m.length d] w (RetInts (joinL l m) w) := by
 have hmk : ∀ w, (Instr.makeSlice 24 (.int .i64 15) (.int .i64 15)).run Tryz.prog w = .ok (.slice (some ⟨w.heap.size, 0, none⟩) 15 15) (w.alloc (.cells (joinArr l m 0) 3)) := fun _ => by kernel_rfl
 go_enter Tryz.func23, Tryz.ntmps23
 go_wp2
 go_loopw [10] (fun i wr => ∃ j : Nat, j ≤ 15 ∧ i = .int .i64 j ∧ wr = w.alloc (.cells (joinArr l m j) 3)) (fun i _ => 15 - (intOf i).toNat)
 case atStart => exact ⟨0, by omega, rfl, rfl⟩
 case round =>
  obtain ⟨j, hj, rfl, rfl⟩ := hrel
  by_cases hlt : j < 15
  ·have hz := joinArr_zero (a := l) (b := m) hlt
   have Hn := Lib.hid (joinArr_next (a := l) (b := m) hlt)
   go_wp2_with fail
   refine (number_any _ _ _ _ (h.alloc _) hl j).mono ?_
   rintro e w' ⟨rfl, rfl⟩
   go_wp2_with fail
   refine (number_any _ _ _ _ (k.alloc _) hm j).mono ?_
   rintro e w' ⟨rfl, rfl⟩
   go_wp2_with fail
   go_roundw
   case rel => exact ⟨j + 1, by omega, by go_num, by rw [max_ite, ← Hn.out]; rfl⟩
   case measure => simp [intOf]; omega
  ·obtain rfl : j = 15 := by omega
   go_wp2
   go_ret
   exact ⟨some ⟨w.heap.size, 0, none⟩, 15, by simp [joinL, joinN_length], by rw [show (joinL l m).length = 15 from joinN_length _ _ _]; exact join_own w l m, (Below.refl _ _).alloc (Nat.le_refl _) _⟩
def JoinRel (w : World) (l m : List Int) (v i : Value) (wr : World) : Prop :=
 ∃ (j : Nat) (A1 : Option Addr) (c1 : Nat), j ≤ 15 ∧ i = .int .i64 (j + 1) ∧ v = .slice A1 (joinN l m j).length c1 ∧ Own wr w.heap.size 3 1 (.slice A1 (joinN l m j).length c1) (joinN l m j).length ((joinN l m j).map I64) ∧ Below w.heap.size w wr
set_option maxHeartbeats 1000000 in
set_option maxRecDepth 4000 in
theorem rjoin_any (w : World) (A : Option Addr) (c : Nat) (l : List Int) (h : Rd w A (l.map I64)) (hl : l.length ≤ 9223372036854775807) (B : Option Addr) (d : Nat) (m : List Int) (k : Rd w B (m.map I64)) (hm : m.length ≤ 9223372036854775807) :
 Calls Tryz.prog 29 #[.slice A l.length c, .slice B m.length d] w (RetInts (joinL l m) w) := by
 obtain ⟨i0, hi0, hz0, hz1, hz2⟩ := info_parts info_int
 go_enter Tryz.func29, Tryz.ntmps29
 go_wp2
 go_loopw [5, 6] (JoinRel w l m) (fun _ i _ => 16 - (intOf i).toNat)
 case atStart => exact ⟨0, none, 0, by omega, rfl, rfl, Own.nil _ _ _ _, Below.refl _ _⟩
 case round =>
  obtain ⟨j, A1, c1, hj, rfl, rfl, hown, hb⟩ := hrel
  by_cases hlt : j < 15
  ·have hlen : (joinN l m j).length ≤ 15 := by rw [joinN_length]; omega
   have hns : Hid (joinN l m (j + 1) = joinN l m j ++ [if num l j < num m j then num m j else num l j]) := by rw [max_ite]; exact joinN_succ l m j
   generalize joinN l m j = lj at *
   go_wp2_with fail
   refine (at_any _ _ _ _ (h.below hb) hl j hlt).mono ?_
   rintro e w' ⟨rfl, rfl⟩
   go_wp2_with fail
   refine (at_any _ _ _ _ (k.below hb) hm j hlt).mono ?_
   rintro e w' ⟨rfl, rfl⟩
   go_wp2_with (first
    | (at_builtin
       refine wpList_append_map _ I64 I64_one rfl (.tmp 11) (.tmp 19) _ rfl w.heap.size 3 i0 _ 8 Tryz.underlying24 hi0 hz0 hz1 hz2 rfl A1 c1 lj rfl (hown.alloc _) (some ⟨wr.heap.size, 0, none⟩) 1 [if num l j < num m j then num m j else num l j] rfl (Rd.new _ _ _ _) (by simp only [maxLen, List.length_cons, List.length_nil]; omega) (by simp only [List.length_cons, List.length_nil]; omega) (by simp; have := hb.size; omega) ?_
       intro A2 c2 l2 w2 e2 hown2 hr2 hg2 hb2 hat2)
    | fail)
   have hl2 : l2 = joinN l m (j + 1) := by rw [e2.out, hns.out]
   subst hl2
   go_roundw
   case rel => exact ⟨j + 1, A2, c2, by omega, by go_num, rfl, hown2, (hb.alloc hb.size _).trans hb2⟩
   case measure => simp [intOf]; omega
  ·obtain rfl : j = 15 := by omega
   go_wp2
   go_ret
   exact ⟨A1, c1, rfl, hown, hb⟩
end Go.Proofs.YtcomeidcmcegfaaGreatDoor
