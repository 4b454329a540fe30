/-
  The walks of the functions of stamps of layer 7 (Id, Of, Less, Covers, See) and of the reference's. Conditions: vectors read as lists of ints.
-/
import Derived.Test.YtcomeidcmcegfaaGreatDoorClockNext
import Derived.Deep.RegionHeld3
namespace Go.Proofs.YtcomeidcmcegfaaGreatDoor
open Go.RowKit
set_option linter.unusedVariables false
def RetBool (b : Bool) (w : World) (e : Ending) (w' : World) : Prop := e = .returned (.bool b) ∧ Below w.heap.size w w'
def RetInt (n : Int) (w : World) (e : Ending) (w' : World) : Prop := e = .returned (.int .i64 n) ∧ Below w.heap.size w w'
theorem cell_lit2 (w : World) (x y : Value) (t : TypeId) : (w.alloc (.cells #[x, y] t)).cell? ⟨w.heap.size, 0, none⟩ = some x ∧ (w.alloc (.cells #[x, y] t)).cell? ⟨w.heap.size, 1, none⟩ = some y := by
 constructor <;> rw [cell_of_row _ _ _ _ _ _ (heap_alloc_new w _)] <;> rfl
set_option maxHeartbeats 1000000 in
theorem id_any (w : World) (c d : Int) : Calls Tryz.prog 91 #[.agg #[.int .i64 c, .int .i64 d]] w (RetInt (idOf c d) w) := by
 rcases hr : rightB c d with _ | _
 ·have Hi := Lib.hid (show idOf c d = 0 by unfold idOf; rw [hr]; rfl)
  go_enter Tryz.func91, Tryz.ntmps91
  go_wp2_with fail
  refine (right_any _ c d).mono ?_
  rintro e w' ⟨rfl, rfl⟩
  go_wp2_with fail
  go_ret
  exact ⟨by rw [Hi.out]; rfl, ((Below.refl _ _).alloc (Nat.le_refl _) _).alloc (by simp) _⟩
 ·have Hi := Lib.hid (show idOf c d = 16 * c + d by unfold idOf; rw [hr]; rfl)
  obtain ⟨h1, h2, h3, h4⟩ := (rightB_iff c d).1 hr
  go_enter Tryz.func91, Tryz.ntmps91
  go_wp2_with fail
  refine (right_any _ c d).mono ?_
  rintro e w' ⟨rfl, rfl⟩
  go_wp2_with fail
  go_ret
  exact ⟨by rw [Hi.out]; rfl, ((Below.refl _ _).alloc (Nat.le_refl _) _).alloc (by simp) _⟩
set_option maxHeartbeats 1000000 in
theorem rid_any (w : World) (c d : Int) : Calls Tryz.prog 99 #[.agg #[.int .i64 c, .int .i64 d]] w (RetInt (idOf c d) w) := by
 rcases hr : rightB c d with _ | _
 ·have Hi := Lib.hid (show idOf c d = 0 by unfold idOf; rw [hr]; rfl)
  go_enter Tryz.func99, Tryz.ntmps99
  go_wp2_with fail
  refine (rright_any _ c d).mono ?_
  rintro e w' ⟨rfl, rfl⟩
  go_wp2_with fail
  go_ret
  exact ⟨by rw [Hi.out]; rfl, ((Below.refl _ _).alloc (Nat.le_refl _) _).alloc (by simp) _⟩
 ·have Hi := Lib.hid (show idOf c d = 16 * c + d by unfold idOf; rw [hr]; rfl)
  obtain ⟨h1, h2, h3, h4⟩ := (rightB_iff c d).1 hr
  go_enter Tryz.func99, Tryz.ntmps99
  go_wp2_with fail
  refine (rright_any _ c d).mono ?_
  rintro e w' ⟨rfl, rfl⟩
  go_wp2_with fail
  go_ret
  exact ⟨by rw [Hi.out]; rfl, ((Below.refl _ _).alloc (Nat.le_refl _) _).alloc (by simp) _⟩
def cmpI (a b : Int) : Int := if a < b then -1 else if b < a then 1 else 0
def orI (a b : Int) : Int := if a = 0 then b else a
theorem cmp_or (a b c d : Int) : decide (orI (cmpI a c) (cmpI b d) < 0) = lessB a b c d := by
 unfold lessB; rw [decide_eq_decide]; unfold orI cmpI
 split <;> (try split) <;> (try split) <;> omega
set_option maxHeartbeats 1000000 in
theorem compare_any (w : World) (a b : Int) : Calls Tryz.prog 79 #[.int .i64 a, .int .i64 b] w fun e w' => e = .returned (.int .i64 (cmpI a b)) ∧ w = w' := by
 have Hc : Hid (cmpI a b = if a < b then -1 else if b < a then 1 else 0) := rfl
 by_cases h1 : a < b
 ·go_enter Tryz.func79, Tryz.ntmps79
  go_wp2
  go_ret
  exact ⟨ret_int (by rw [Hc.out]; split <;> (try split) <;> omega), rfl⟩
 ·by_cases h2 : b < a
  ·go_enter Tryz.func79, Tryz.ntmps79
   go_wp2
   go_ret
   exact ⟨ret_int (by rw [Hc.out]; split <;> (try split) <;> omega), rfl⟩
  ·go_enter Tryz.func79, Tryz.ntmps79
   go_wp2
   go_ret
   exact ⟨ret_int (by rw [Hc.out]; split <;> (try split) <;> omega), rfl⟩
set_option maxHeartbeats 1000000 in
theorem or_any (w : World) (A : Option Addr) (x y : Int) (h : Rd w A [I64 x, I64 y]) : Calls Tryz.prog 78 #[.slice A 2 2] w fun e w' => e = .returned (.int .i64 (orI x y)) ∧ w = w' := by
 have Hc : Hid (orI x y = if x = 0 then y else x) := rfl
 obtain ⟨b, off, rfl, hb, hc⟩ := h (by simp)
 have c0 := hc 0 _ rfl
 have c1 := hc 1 _ rfl
 unfold I64 at c0 c1
 rw [Nat.add_zero] at c0
 clear hc h
 go_enter Tryz.func78, Tryz.ntmps78
 go_wp2
 go_loop [8] (fun i => ∃ k : Nat, k ≤ 2 ∧ i = .int .i64 k ∧ (0 < k → x = 0) ∧ (1 < k → y = 0)) (fun i => 2 - (intOf i).toNat)
 case atStart => exact ⟨0, by omega, rfl, fun h => absurd h (by omega), fun h => absurd h (by omega)⟩
 case round =>
  obtain ⟨k, hk, rfl, h1, h2⟩ := hrel
  have H1 := Lib.hid h1
  have H2 := Lib.hid h2
  clear h1 h2
  rcases k with _ | _ | _ | k
  ·by_cases hx : x = 0
   ·have hxb : (x != 0) = false := by simpa using hx
    have Hx := Lib.hid hx
    clear hx
    go_wp2
    go_round
    case rel => exact ⟨1, by omega, by go_num, fun _ => Hx.out, fun h => absurd h (by omega)⟩
    case measure => simp [intOf]
   ·have hxb : (x != 0) = true := by simpa using hx
    have Hx := Lib.hid hx
    clear hx
    go_wp2
    go_ret
    exact ⟨ret_int (by rw [Hc.out, if_neg Hx.out]), rfl⟩
  ·by_cases hy : y = 0
   ·have hyb : (y != 0) = false := by simpa using hy
    have Hy := Lib.hid hy
    clear hy
    go_wp2
    go_round
    case rel => exact ⟨2, by omega, by go_num, fun _ => H1.out (by omega), fun _ => Hy.out⟩
    case measure => simp [intOf]
   ·have hyb : (y != 0) = true := by simpa using hy
    have Hy := Lib.hid hy
    clear hy
    go_wp2
    go_ret
    exact ⟨ret_int (by rw [Hc.out, if_pos (H1.out (by omega))]), rfl⟩
  ·go_wp2
   go_ret
   exact ⟨ret_int (by rw [Hc.out, if_pos (H1.out (by omega)), H2.out (by omega)]), rfl⟩
  ·omega
set_option maxHeartbeats 1000000 in
theorem rless_any (w : World) (a b c d : Int) : Calls Tryz.prog 59 #[.agg #[.int .i64 a, .int .i64 b], .agg #[.int .i64 c, .int .i64 d]] w (RetBool (lessB a b c d) w) := by
 go_enter Tryz.func59, Tryz.ntmps59
 go_wp2
 ·go_ret
  exact ⟨ret_bool (by unfold lessB; rw [decide_eq_decide]; omega), ((Below.refl _ _).alloc (Nat.le_refl _) _).alloc (by simp) _⟩
 ·go_ret
  exact ⟨ret_bool (by unfold lessB; rw [decide_eq_decide]; omega), ((Below.refl _ _).alloc (Nat.le_refl _) _).alloc (by simp) _⟩
 ·go_ret
  exact ⟨ret_bool (by rw [eq_comm, lessB_iff]; omega), ((Below.refl _ _).alloc (Nat.le_refl _) _).alloc (by simp) _⟩
end Go.Proofs.YtcomeidcmcegfaaGreatDoor
