/-
  The walks of tiers.Text and of the reference's decoder of UTF-8 and Text. Conditions: utf8's two tables lie as their initialisers lay them.
-/
import Derived.Test.YtcomeidcmcegfaaGreatDoorRuneWalk
import Derived.Test.YtcomeidcmcegfaaGreatDoorClockLess
import Derived.Test.YtcomeidcmcegfaaGreatDoorHeld2
namespace Go.Proofs.YtcomeidcmcegfaaGreatDoor
open Go.RowKit Go.Lib
set_option linter.unusedVariables false
theorem any_take {l : List UInt8} {k : Nat} (hk : k < l.length) : (l.take (k + 1)).any ctl8 = ((l.take k).any ctl8 || ctl8 l[k]) := by
 rw [List.take_succ_eq_append_getElem hk, List.any_append, List.any_cons, List.any_nil, Bool.or_false]
theorem any_part {l : List UInt8} {k : Nat} (hk : k < l.length) (h : ctl8 l[k] = true) : l.any ctl8 = true := by
 rw [List.any_eq_true]; exact ⟨_, List.getElem_mem hk, h⟩
def TextRel (B : ByteArray) (vi : Value) : Prop := ∃ k : Nat, k ≤ B.size ∧ vi = .int .i64 k ∧ Hid ((B.data.toList.take k).any ctl8 = false)
set_option maxRecDepth 20000 in
set_option maxHeartbeats 2000000 in
theorem textB_any (w : World) (B : ByteArray) (hs : B.size ≤ maxLen) (hT : Tabs w) : Calls Tryz.prog 93 #[.string B] w (RetInt (textE B.data.toList) w) := by
 unfold maxLen at hs
 have hsz : B.data.toList.length = B.size := Array.length_toList
 by_cases h0 : 200 < B.size
 ·have H := Lib.hid (textE_long (s := B.data.toList) (by omega))
  have p0 : decide (200 < (B.size : Int)) = true := decide_eq_true (by omega)
  go_enter Tryz.func93, Tryz.ntmps93
  go_wp2
  go_ret
  exact ⟨by rw [H.out]; rfl, Below.refl _ _⟩
 ·have p0 : decide (200 < (B.size : Int)) = false := decide_eq_false (by omega)
  have kP : ∀ w', Tabs w' → Calls Tryz.prog 104 #[.string B] w' (RetPts (validD B.data.toList) w') := fun w' h => points_any w' B.data.toList (by omega) h
  rcases hv : validD B.data.toList with _ | _
  ·have H := Lib.hid (textE_form (s := B.data.toList) (by omega) hv)
   rw [hv] at kP
   clear hv
   go_enter Tryz.func93, Tryz.ntmps93
   go_wp2_with fail
   refine (kP _ hT).mono ?_
   rintro e w1 ⟨⟨A, n, c, rfl⟩, hb1⟩
   go_wp2_with fail
   go_ret
   exact ⟨by rw [H.out]; rfl, hb1⟩
  ·have H := Lib.hid (fun hc => textE_ok (s := B.data.toList) (by omega) hv hc)
   have H' := Lib.hid (fun hc => textE_ctl (s := B.data.toList) (by omega) hc)
   have Hl := Lib.hid hsz
   rw [hv] at kP
   clear hv hsz
   go_enter Tryz.func93, Tryz.ntmps93
   go_wp2_with fail
   refine (kP _ hT).mono ?_
   rintro e w1 ⟨⟨A, n, c, rfl⟩, hb1⟩
   go_wp2_with fail
   go_loop [18] (TextRel B) (fun i => B.size - (RowKit.intOf i).toNat)
   case atStart => exact ⟨0, by omega, rfl, by rw [Hid]; rfl⟩
   case round =>
    obtain ⟨k, hk, rfl, hK⟩ := hrel
    by_cases hlt : k < B.size
    ·have p1 : decide ((k : Int) < (B.size : Int)) = true := by simpa using hlt
     have hkl : k < B.data.toList.length := by rw [Hl.out]; exact hlt
     have HA := Lib.hid (any_take hkl)
     have HB := Lib.hid (fun h => any_part hkl h)
     have e1 : B.data.toList[k] = B[k] := by simp [ByteArray.getElem_eq_getElem_data]
     rw [e1] at HA HB
     clear e1
     by_cases c1 : B[k].toNat < 32
     ·have q1 : decide ((B[k].toNat : Int) < 32) = true := decide_eq_true (by omega)
      have hc : ctl8 B[k] = true := by unfold ctl8; simp [c1]
      go_wp2
      go_ret
      exact ⟨by rw [H'.out (HB.out hc)]; rfl, hb1⟩
     ·have q1 : decide ((B[k].toNat : Int) < 32) = false := decide_eq_false (by omega)
      by_cases c2 : B[k].toNat = 127
      ·have q2 : ((B[k].toNat : Int) == 127) = true := beq_iff_eq.2 (by omega)
       have hc : ctl8 B[k] = true := by unfold ctl8; simp [c2]
       clear c2
       go_wp2
       go_ret
       exact ⟨by rw [H'.out (HB.out hc)]; rfl, hb1⟩
      ·have q2 : ((B[k].toNat : Int) == 127) = false := beq_eq_false_iff_ne.2 (by omega)
       have hc : Hid (ctl8 B[k] = false) := by rw [Hid]; unfold ctl8; simp [c2]; omega
       go_wp2
       go_round
       case rel => exact ⟨k + 1, by omega, by go_num, by rw [Hid, HA.out, hK.out, hc.out]; rfl⟩
       case measure => simp [RowKit.intOf]; omega
    ·have p1 : decide ((k : Int) < (B.size : Int)) = false := by simpa using hlt
     have hc : B.data.toList.any ctl8 = false := by
      have := hK.out
      rwa [List.take_of_length_le (by rw [Hl.out]; omega)] at this
     have HH := Lib.hid (H.out hc)
     clear hc
     go_wp2
     go_ret
     exact ⟨by rw [HH.out]; rfl, hb1⟩
theorem text_any (w : World) (s : List UInt8) (hs : s.length ≤ maxLen) (hT : Tabs w) : Calls Tryz.prog 93 #[.string ⟨s.toArray⟩] w (RetInt (textE s) w) :=
 textB_any w ⟨s.toArray⟩ (by simpa [ByteArray.size] using hs) hT
end Go.Proofs.YtcomeidcmcegfaaGreatDoor
