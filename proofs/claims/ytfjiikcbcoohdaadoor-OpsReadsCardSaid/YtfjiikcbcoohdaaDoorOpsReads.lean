/-
  The walk of OpsReads. Conditions: utf8's tables lie as their initialisers lay them.
-/
import Derived.Test.YtfjiikcbcoohdaaDoorZAwake
import Derived.Test.YtfjiikcbcoohdaaDoorZFrom
namespace Go.Proofs.YtfjiikcbcoohdaaDoor
open Go.RowKit
set_option linter.unusedVariables false
set_option linter.unusedSimpArgs false
theorem fR_bd (l : List UInt8) (hl : l.length ≤ 1000000000) : (fR l).Bd := by
  unfold fR; split
  · exact fO_bd l hl
  · exact ⟨⟨by decide, by decide⟩, ⟨by decide, by decide⟩, ⟨by decide, by decide⟩, ⟨by decide, by decide⟩, ⟨by decide, by decide⟩, ⟨by decide, by decide⟩, ⟨by decide, by decide⟩, ⟨by decide, by decide⟩, ⟨by decide, by decide⟩, ⟨by decide, by decide⟩,
      ⟨by decide, by decide⟩, ⟨by decide, by decide⟩, by show 0 ≤ _; omega, by show 0 ≤ _; omega, (by intro p hp; cases hp), by show 0 ≤ _; omega⟩

set_option maxRecDepth 100000 in
set_option maxHeartbeats 16000000 in
theorem walk_OpsReads (w : World) (A : Option Addr) (c : Nat) (l : List UInt8) (hr : Rd w A (l.map U8)) (hm : l.length ≤ maxLen) (hlc : l.length ≤ c) (hT : Tabs w) : Calls Tryd.prog 5 #[.slice A l.length c] w fun e w' => e = .returned (.bool true) ∧ Below w.heap.size w w' := by
  by_cases hl : l.length ≤ 1500
  rotate_left
  · have t0 : decide (1500 < (l.length : Int)) = true := decide_eq_true (by omega)
    clear hl hm
    go_enter Tryd.func5, Tryd.ntmps5
    go_wp2_with fail
    refine (awake_any _ hT).mono ?_
    rintro e wz ⟨rfl, hbz⟩
    go_wp2_with fail
    go_ret
    exact ⟨rfl, hbz⟩
  have t0 : decide (1500 < (l.length : Int)) = false := decide_eq_false (by omega)
  have k0 := fun w' (h : Rd w' A (l.map U8)) (t : Tabs w') => from_any w' A c l h (by omega) hlc t
  have k1 := fun w' (h : Rd w' A (l.map U8)) => rfrom_any w' A c l h (by omega) hlc
  have hbd := Lib.hid (fR_bd l (by omega))
  clear hl hm
  generalize fE l = E at *
  generalize fR l = o at *
  unfold RetOp opV opC at k0 k1
  go_enter Tryd.func5, Tryd.ntmps5
  go_wp2_with fail
  refine (k0 _ hr hT).mono ?_
  rintro e w2 ⟨A2, c2, rfl, hr2, hc2, hb2⟩
  obtain ⟨W2, hW2⟩ : ∃ x, w2.alloc (.cells (opC o A2 c2).toArray 30) = x := ⟨_, rfl⟩
  have hO : Blk W2 w2.heap.size 30 (opC o A2 c2).toArray := by rw [← hW2]; exact Blk.new _ _ _
  have hu2 : Up w2 W2 := by rw [← hW2]; exact Up.alloc' _ _
  have hbe := stepB hb2 hu2.b
  have hr2 := hu2.rd hr2
  have HW2 := Lib.hid hW2
  clear k0 hW2 hu2
  go_wp2_with fail
  have HW2' := HW2.out
  unfold opC at HW2'
  try simp only [HW2']
  clear HW2 HW2'
  refine (k1 _ (hr.below hbe)).mono ?_
  rintro e w3 ⟨A3, c3, rfl, hr3, hc3, hb3⟩
  obtain ⟨W3, hW3⟩ : ∃ x, w3.alloc (.cells (opC o A3 c3).toArray 30) = x := ⟨_, rfl⟩
  have hP : Blk W3 w3.heap.size 30 (opC o A3 c3).toArray := by rw [← hW3]; exact Blk.new _ _ _
  have hu3 : Up w3 W3 := by rw [← hW3]; exact Up.alloc' _ _
  have hO := (hO.up (Up.of hb3)).up hu3
  have hbe := stepB hbe (stepB hb3 hu3.b)
  have hr3 := hu3.rd hr3
  have hr2 := hu3.rd ((Up.of hb3).rd hr2)
  have HW3 := Lib.hid hW3
  clear k1 hW3 hu3 hb3 hb2
  go_upto_region 5 with fail
  have HW3' := HW3.out
  unfold opC at HW3'
  try simp only [HW3']
  clear HW3 HW3'
  have kS := fun w' (u : Up W3 w') => rsame_any w' o o A2 A3 c2 c3 (u.rd hr2) (u.rd hr3) hbd.out.ol hbd.out.ol
  rw [sameB_self] at kS
  unfold opV opC at kS
  obtain ⟨⟨m0, m1, m2, m3⟩, ⟨m4, m5, m6, m7, m8, m9, m10⟩, ⟨m11, m12, m13, m14⟩⟩ := Blk.opAt hO
  obtain ⟨⟨n0, n1, n2, n3⟩, ⟨n4, n5, n6, n7, n8, n9, n10⟩, ⟨n11, n12, n13, n14⟩⟩ := Blk.opAt hP
  go_wp2_with fail
  refine (kS _ (Up.refl _)).mono ?_
  rintro e w4 ⟨rfl, hb4⟩
  have hbe := stepB hbe hb4
  clear kS hb4 m0 m1 m2 m3 m4 m5 m6 m7 m8 m9 m10 m11 m12 m13 m14 n0 n1 n2 n3 n4 n5 n6 n7 n8 n9 n10 n11 n12 n13 n14
  go_wp2_with fail
  refine (awake_any _ (hT.below hbe)).mono ?_
  rintro e wz ⟨rfl, hbz⟩
  go_wp2_with fail
  go_ret
  exact ⟨rfl, stepB hbe hbz⟩
end Go.Proofs.YtfjiikcbcoohdaaDoor
