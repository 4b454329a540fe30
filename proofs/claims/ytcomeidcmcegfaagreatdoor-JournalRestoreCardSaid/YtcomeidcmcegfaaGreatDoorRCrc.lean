/-
  The walk of the reference's Crc. Conditions: the slice reads as a list of bytes.
-/
import Derived.Test.YtcomeidcmcegfaaGreatDoorCrc
namespace Go.Proofs.YtcomeidcmcegfaaGreatDoor
open Go.RowKit
set_option linter.unusedVariables false
set_option maxHeartbeats 400000 in
theorem shifted_any (x : Nat) (w : World) (h : x < 4294967296) :
 Calls Tryz.prog 81 #[.int .u64 x] w fun e w' => e = .returned (.int .u64 (cstep x)) ∧ w = w' := by
 go_enter Tryz.func81, Tryz.ntmps81
 go_wp2
 ·go_ret
  exact ⟨ret_int (w64_odd _ h ‹_›), rfl⟩
 ·go_ret
  exact ⟨ret_int (w32_even _ ‹_›), rfl⟩
set_option maxHeartbeats 400000 in
theorem rcrc_any (A : Option Addr) (c : Nat) (l : List UInt8) (w : World) (h : Rd w A (l.map U8)) (hl : l.length ≤ 9223372036854775807) :
 Calls Tryz.prog 54 #[.slice A l.length c] w fun e w' => e = .returned (.int .i64 (crc l)) ∧ w = w' := by
 go_enter Tryz.func54, Tryz.ntmps54
 go_wp2
 go_loop [3, 4] (fun r i => ∃ k : Nat, k ≤ l.length ∧ i = .int .i64 k ∧ r = .int .u64 (creg (l.take k))) (fun _ i => l.length - (intOf i).toNat)
 case atStart => exact ⟨0, Nat.zero_le _, rfl, rfl⟩
 case round =>
  obtain ⟨k, hk, rfl, rfl⟩ := hrel
  by_cases hlt : k < l.length
  ·obtain ⟨b, off, rfl, hb, hck⟩ := h.at8 hlt
   have hlr := creg_lt (l.take k)
   go_wp2
   rw [w64_byte _ _ (by omega)]
   have hx := Nat.xor_lt_two_pow (n := 32) hlr (show l[k].toNat < 2 ^ 32 by have := l[k].toNat_lt; omega)
   have hcr := Lib.hid (creg_take l k hlt)
   generalize creg (List.take k l) ^^^ l[k].toNat = x0 at *
   go_loop [3, 5] (fun r i => ∃ j : Nat, j ≤ 8 ∧ i = .int .i64 j ∧ r = .int .u64 (cstepN j x0)) (fun _ i => 8 - (intOf i).toNat)
   case atStart => exact ⟨0, Nat.zero_le _, rfl, rfl⟩
   case round =>
    obtain ⟨j, hj, rfl, rfl⟩ := hrel
    by_cases hjl : j < 8
    ·have hjx := cstepN_lt j hx
     go_wp2_with (go_at_call 81; refine (shifted_any _ _ hjx).mono ?_; rintro e w' ⟨rfl, rfl⟩)
     go_round
     case rel => exact ⟨j + 1, by omega, by go_num, rfl⟩
     case measure => simp [intOf]; omega
    ·have hj8 : j = 8 := by omega
     subst hj8
     go_wp2
     go_round
     case rel => exact ⟨k + 1, by omega, by go_num, by rw [hcr.out]⟩
     case measure => simp [intOf]; omega
  ·have : k = l.length := by omega
   subst this
   rw [List.take_length]
   have hlr := creg_lt l
   go_wp2
   go_ret
   exact ⟨by show Ending.returned (.int .i64 (wrap64 _)) = _; rw [w64_not _ hlr]; rfl, rfl⟩
end Go.Proofs.YtcomeidcmcegfaaGreatDoor
