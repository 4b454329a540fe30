/-
  The walks of frame.crc and of the reference's tail: the four bytes of a checksum. Conditions: the bytes read as a list.
-/
import Derived.Test.YtcomeidcmcegfaaGreatDoorZI
import Derived.Test.YtcomeidcmcegfaaGreatDoorRCrc
import Derived.Test.YtcomeidcmcegfaaGreatDoorZB
namespace Go.Proofs.YtcomeidcmcegfaaGreatDoor
open Go.RowKit
set_option linter.unusedVariables false
def tb (n j : Nat) : Value := .int .u8 ((n / 256 ^ j % 256 : Nat) : Int)
theorem tb_tail (n : Nat) : (tail4 n).map U8 = [tb n 0, tb n 1, tb n 2, tb n 3] := by
 simp [tail4, U8, tb, UInt8.toNat_ofNat']
def tarr (n : Nat) : Nat → Array Value
 | 0 => #[.int .u8 0, .int .u8 0, .int .u8 0, .int .u8 0]
 | 1 => #[tb n 0, .int .u8 0, .int .u8 0, .int .u8 0]
 | 2 => #[tb n 0, tb n 1, .int .u8 0, .int .u8 0]
 | 3 => #[tb n 0, tb n 1, tb n 2, .int .u8 0]
 | _ => #[tb n 0, tb n 1, tb n 2, tb n 3]
def RetTail (n : Nat) (w : World) (e : Ending) (w' : World) : Prop := e = .returned (.agg #[tb n 0, tb n 1, tb n 2, tb n 3]) ∧ Below w.heap.size w w'
set_option maxRecDepth 20000 in
set_option maxHeartbeats 1000000 in
theorem crc4_any (w : World) (A : Option Addr) (c : Nat) (l : List UInt8) (h : Rd w A (l.map U8)) (hl : l.length ≤ 9223372036854775807) :
 Calls Tryz.prog 43 #[.slice A l.length c] w (RetTail (crc l) w) := by
 have hlt := crc_lt l
 go_enter Tryz.func43, Tryz.ntmps43
 go_wp2_with fail
 refine (crc_any _ _ _ _ ((h.alloc _).alloc _) hl).mono ?_
 rintro e w' ⟨rfl, rfl⟩
 generalize crc l = n at *
 go_wp2_with fail
 go_loopw [8] (fun i wr => ∃ j : Nat, j ≤ 4 ∧ i = .int .i64 j ∧ wr = (w.alloc (.cells #[.int .u8 0, .int .u8 0, .int .u8 0, .int .u8 0] 74)).alloc (.cells (tarr n j) 74)) (fun i _ => 4 - (intOf i).toNat)
 case atStart => exact ⟨0, by omega, rfl, rfl⟩
 case round =>
  obtain ⟨j, hj, rfl, rfl⟩ := hrel
  by_cases hj4 : j < 4
  ·obtain rfl | rfl | rfl | rfl : j = 0 ∨ j = 1 ∨ j = 2 ∨ j = 3 := by omega
   ·rw [show ((0 : Nat) : Int) = 0 from rfl, show tarr n 0 = #[.int .u8 0, .int .u8 0, .int .u8 0, .int .u8 0] from rfl]
    go_wp2_with fail
    go_roundw
    case rel => exact ⟨1, by omega, rfl, by rw [show ((n : Int) % 256) = ((n / 256 ^ 0 % 256 : Nat) : Int) by omega]; rfl⟩
    case measure => simp [intOf]
   ·rw [show ((1 : Nat) : Int) = 1 from rfl, show tarr n 1 = #[tb n 0, .int .u8 0, .int .u8 0, .int .u8 0] from rfl]
    go_wp2_with fail
    go_roundw
    case rel => exact ⟨2, by omega, rfl, by rw [show ((n : Int) / 256 % 256) = ((n / 256 ^ 1 % 256 : Nat) : Int) by omega]; rfl⟩
    case measure => simp [intOf]
   ·rw [show ((2 : Nat) : Int) = 2 from rfl, show tarr n 2 = #[tb n 0, tb n 1, .int .u8 0, .int .u8 0] from rfl]
    go_wp2_with fail
    go_roundw
    case rel => exact ⟨3, by omega, rfl, by rw [show ((n : Int) / 65536 % 256) = ((n / 256 ^ 2 % 256 : Nat) : Int) by omega]; rfl⟩
    case measure => simp [intOf]
   ·rw [show ((3 : Nat) : Int) = 3 from rfl, show tarr n 3 = #[tb n 0, tb n 1, tb n 2, .int .u8 0] from rfl]
    go_wp2_with fail
    go_roundw
    case rel => exact ⟨4, by omega, rfl, by rw [show ((n : Int) / 16777216) = ((n / 256 ^ 3 % 256 : Nat) : Int) by omega]; rfl⟩
    case measure => simp [intOf]
  ·obtain rfl : j = 4 := by omega
   rw [show ((4 : Nat) : Int) = 4 from rfl, show tarr n 4 = #[tb n 0, tb n 1, tb n 2, tb n 3] from rfl]
   unfold tb
   generalize ht0 : ((n / 256 ^ 0 % 256 : Nat) : Int) = t0
   have T0 := Lib.hid ht0
   clear ht0
   generalize ht1 : ((n / 256 ^ 1 % 256 : Nat) : Int) = t1
   have T1 := Lib.hid ht1
   clear ht1
   generalize ht2 : ((n / 256 ^ 2 % 256 : Nat) : Int) = t2
   have T2 := Lib.hid ht2
   clear ht2
   generalize ht3 : ((n / 256 ^ 3 % 256 : Nat) : Int) = t3
   have T3 := Lib.hid ht3
   clear ht3
   go_wp2_with fail
   exact bodyPost_ret (v := .agg #[.int .u8 t0, .int .u8 t1, .int .u8 t2, .int .u8 t3]) (by simp [results, Tryz.results43, go_sem]) rfl ⟨by unfold tb; rw [T0.out, T1.out, T2.out, T3.out], ((Below.refl _ _).alloc (Nat.le_refl _) _).alloc (by simp) _⟩
theorem own_new (w : World) (l : List Value) (t : TypeId) (h : l.length ≤ maxLen) : Own (w.alloc (.cells l.toArray t)) w.heap.size t 1 (.slice (some ⟨w.heap.size, 0, none⟩) l.length l.length) l.length l :=
 .inl ⟨by simp, .inr ⟨w.heap.size, l.length, l.toArray, rfl, Nat.le_refl _, heap_alloc_new w _, Nat.le_refl _, h, by simp, by simp⟩⟩
theorem tail_vals (n : Nat) (h : n < 4294967296) : (tail4 n).map U8 = [.int .u8 ((n : Int) % 256), .int .u8 ((n : Int) / 256 % 256), .int .u8 ((n : Int) / 65536 % 256), .int .u8 ((n : Int) / 16777216)] := by
 have hb : ∀ x : Nat, ((UInt8.ofNat (x % 256)).toNat : Int) = ((x % 256 : Nat) : Int) := fun x => by rw [UInt8.toNat_ofNat']; omega
 simp only [tail4, List.map_cons, List.map_nil, U8, hb]
 refine List.cons_eq_cons.2 ⟨int_eq (by omega), List.cons_eq_cons.2 ⟨int_eq (by omega), List.cons_eq_cons.2 ⟨int_eq (by omega), List.cons_eq_cons.2 ⟨int_eq (by omega), rfl⟩⟩⟩⟩
set_option maxHeartbeats 1000000 in
theorem rtail_any (w : World) (n : Nat) (h : n < 4294967296) : Calls Tryz.prog 53 #[.int .i64 n] w (RetNew U8 5 (tail4 n) w) := by
 have HV := Lib.hid (tail_vals n h)
 go_enter Tryz.func53, Tryz.ntmps53
 go_wp2
 go_ret
 refine ⟨some ⟨w.heap.size, 0, none⟩, 4, rfl, ?_, (Below.refl _ _).alloc (Nat.le_refl _) _⟩
 rw [HV.out]
 exact own_new w _ _ (by simp [maxLen])
end Go.Proofs.YtcomeidcmcegfaaGreatDoor
