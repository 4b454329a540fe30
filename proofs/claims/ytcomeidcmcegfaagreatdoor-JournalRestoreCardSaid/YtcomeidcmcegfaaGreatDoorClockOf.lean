/-
  The walks of Of of layer 7 and of its reference, and of langdocref01.Same. Conditions: numbers are ints; slices read as lists of ints.
-/
import Derived.Test.YtcomeidcmcegfaaGreatDoorClockCov
namespace Go.Proofs.YtcomeidcmcegfaaGreatDoor
open Go.RowKit
set_option linter.unusedVariables false
set_option maxHeartbeats 1000000 in
theorem of_any (w : World) (n : Int) (lo : -9223372036854775808 ≤ n) (hi : n ≤ 9223372036854775807) :
 Calls Tryz.prog 94 #[.int .i64 n] w (RetStamp (ofC n) (ofD n) (ofB n) w) := by
 by_cases h0 : 0 ≤ n
 ·have e1 : n.tdiv 16 = n / 16 := Int.tdiv_eq_ediv_of_nonneg h0
  have e2 : n.tmod 16 = n % 16 := Int.tmod_eq_emod_of_nonneg h0
  have Hb : Hid (ofB n = rightB (n / 16) (n % 16)) := by unfold ofB; rw [e1, e2]; rfl
  have Hc : Hid (ofC n = if rightB (n / 16) (n % 16) then n / 16 else 0) := by unfold ofC; rw [e1, e2]; rfl
  have Hd : Hid (ofD n = if rightB (n / 16) (n % 16) then n % 16 else 0) := by unfold ofD; rw [e1, e2]; rfl
  clear e1 e2
  rcases hr : rightB (n / 16) (n % 16) with _ | _
  ·go_enter Tryz.func94, Tryz.ntmps94
   go_wp2_with fail
   refine (right_no _ _ _ hr).mono ?_
   rintro e w' ⟨rfl, rfl⟩
   go_wp2_with fail
   exact bodyPost_ret (v := .tuple #[.agg #[.int .i64 0, .int .i64 0], .bool false]) (by simp [results, Tryz.results94, go_sem]) rfl ⟨by rw [Hc.out, Hd.out, Hb.out, hr]; rfl, ((((Below.refl _ _).alloc (Nat.le_refl _) _).alloc (by simp) _).alloc (by simp; omega) _)⟩
  ·go_enter Tryz.func94, Tryz.ntmps94
   go_wp2_with fail
   refine (right_yes _ _ _ hr).mono ?_
   rintro e w' ⟨rfl, rfl⟩
   go_wp2_with fail
   exact bodyPost_ret (v := .tuple #[.agg #[.int .i64 (n / 16), .int .i64 (n % 16)], .bool true]) (by simp [results, Tryz.results94, go_sem]) rfl ⟨by rw [Hc.out, Hd.out, Hb.out, hr]; rfl, ((((Below.refl _ _).alloc (Nat.le_refl _) _).alloc (by simp) _).alloc (by simp; omega) _)⟩
 ·have hr : ∀ x, rightB (n.tdiv 16) x = false := fun x => by
   rw [rightB_not]
   have : n.tdiv 16 ≤ 0 := by
    have e : (-(-n)).tdiv 16 = -((-n) / 16) := by rw [Int.neg_tdiv, Int.tdiv_eq_ediv_of_nonneg (by omega)]
    rw [Int.neg_neg] at e
    rw [e]; omega
   omega
  have Hb : Hid (ofB n = false) := hr _
  have Hc : Hid (ofC n = 0) := by unfold ofC; rw [hr]; rfl
  have Hd : Hid (ofD n = 0) := by unfold ofD; rw [hr]; rfl
  have Hr := Lib.hid hr
  clear hr
  go_enter Tryz.func94, Tryz.ntmps94
  go_wp2_with fail
  refine (right_no _ _ _ (Hr.out _)).mono ?_
  rintro e w' ⟨rfl, rfl⟩
  go_wp2_with fail
  exact bodyPost_ret (v := .tuple #[.agg #[.int .i64 0, .int .i64 0], .bool false]) (by simp [results, Tryz.results94, go_sem]) rfl ⟨by rw [Hc.out, Hd.out, Hb.out], ((((Below.refl _ _).alloc (Nat.le_refl _) _).alloc (by simp) _).alloc (by simp; omega) _)⟩
set_option maxHeartbeats 1000000 in
theorem rof_any (w : World) (n : Int) (lo : -9223372036854775808 ≤ n) (hi : n ≤ 9223372036854775807) :
 Calls Tryz.prog 98 #[.int .i64 n] w (RetStamp (ofC n) (ofD n) (ofB n) w) := by
 by_cases h0 : 0 ≤ n
 ·have e1 : n.tdiv 16 = n / 16 := Int.tdiv_eq_ediv_of_nonneg h0
  have e2 : n.tmod 16 = n % 16 := Int.tmod_eq_emod_of_nonneg h0
  have Hb : Hid (ofB n = rightB (n / 16) (n % 16)) := by unfold ofB; rw [e1, e2]; rfl
  have Hc : Hid (ofC n = if rightB (n / 16) (n % 16) then n / 16 else 0) := by unfold ofC; rw [e1, e2]; rfl
  have Hd : Hid (ofD n = if rightB (n / 16) (n % 16) then n % 16 else 0) := by unfold ofD; rw [e1, e2]; rfl
  clear e1 e2
  rcases hr : rightB (n / 16) (n % 16) with _ | _
  ·go_enter Tryz.func98, Tryz.ntmps98
   go_wp2_with fail
   refine (rright_no _ _ _ hr).mono ?_
   rintro e w' ⟨rfl, rfl⟩
   go_wp2_with fail
   exact bodyPost_ret (v := .tuple #[.agg #[.int .i64 0, .int .i64 0], .bool false]) (by simp [results, Tryz.results98, go_sem]) rfl ⟨by rw [Hc.out, Hd.out, Hb.out, hr]; rfl, ((((Below.refl _ _).alloc (Nat.le_refl _) _).alloc (by simp) _).alloc (by simp; omega) _)⟩
  ·go_enter Tryz.func98, Tryz.ntmps98
   go_wp2_with fail
   refine (rright_yes _ _ _ hr).mono ?_
   rintro e w' ⟨rfl, rfl⟩
   go_wp2_with fail
   exact bodyPost_ret (v := .tuple #[.agg #[.int .i64 (n / 16), .int .i64 (n % 16)], .bool true]) (by simp [results, Tryz.results98, go_sem]) rfl ⟨by rw [Hc.out, Hd.out, Hb.out, hr]; rfl, ((((Below.refl _ _).alloc (Nat.le_refl _) _).alloc (by simp) _).alloc (by simp; omega) _)⟩
 ·have hr : ∀ x, rightB (n.tdiv 16) x = false := fun x => by
   rw [rightB_not]
   have : n.tdiv 16 ≤ 0 := by
    have e : (-(-n)).tdiv 16 = -((-n) / 16) := by rw [Int.neg_tdiv, Int.tdiv_eq_ediv_of_nonneg (by omega)]
    rw [Int.neg_neg] at e
    rw [e]; omega
   omega
  have Hb : Hid (ofB n = false) := hr _
  have Hc : Hid (ofC n = 0) := by unfold ofC; rw [hr]; rfl
  have Hd : Hid (ofD n = 0) := by unfold ofD; rw [hr]; rfl
  have Hr := Lib.hid hr
  clear hr
  go_enter Tryz.func98, Tryz.ntmps98
  go_wp2_with fail
  refine (rright_no _ _ _ (Hr.out _)).mono ?_
  rintro e w' ⟨rfl, rfl⟩
  go_wp2_with fail
  exact bodyPost_ret (v := .tuple #[.agg #[.int .i64 0, .int .i64 0], .bool false]) (by simp [results, Tryz.results98, go_sem]) rfl ⟨by rw [Hc.out, Hd.out, Hb.out], ((((Below.refl _ _).alloc (Nat.le_refl _) _).alloc (by simp) _).alloc (by simp; omega) _)⟩
end Go.Proofs.YtcomeidcmcegfaaGreatDoor
