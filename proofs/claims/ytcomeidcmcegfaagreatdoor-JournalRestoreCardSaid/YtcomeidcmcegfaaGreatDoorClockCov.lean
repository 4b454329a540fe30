/-
  The walks of Covers, See, Of of layer 7 and of its reference. Conditions: vectors read as lists of ints.
-/
import Derived.Test.YtcomeidcmcegfaaGreatDoorClockLess
import Derived.Test.YtcomeidcmcegfaaGreatDoorHeld
namespace Go.Proofs.YtcomeidcmcegfaaGreatDoor
open Go.RowKit
set_option linter.unusedVariables false
theorem right_yes (w : World) (c d : Int) (h : rightB c d = true) :
 Calls Tryz.prog 48 #[.agg #[.int .i64 c, .int .i64 d]] w fun e w' => e = .returned (.bool true) ∧ w.alloc (.cells #[.int .i64 c, .int .i64 d] 36) = w' := by
 have := right_any w c d; rw [h] at this; exact this
theorem right_no (w : World) (c d : Int) (h : rightB c d = false) :
 Calls Tryz.prog 48 #[.agg #[.int .i64 c, .int .i64 d]] w fun e w' => e = .returned (.bool false) ∧ w.alloc (.cells #[.int .i64 c, .int .i64 d] 36) = w' := by
 have := right_any w c d; rw [h] at this; exact this
theorem rright_yes (w : World) (c d : Int) (h : rightB c d = true) :
 Calls Tryz.prog 83 #[.agg #[.int .i64 c, .int .i64 d]] w fun e w' => e = .returned (.bool true) ∧ w.alloc (.cells #[.int .i64 c, .int .i64 d] 36) = w' := by
 have := rright_any w c d; rw [h] at this; exact this
theorem rright_no (w : World) (c d : Int) (h : rightB c d = false) :
 Calls Tryz.prog 83 #[.agg #[.int .i64 c, .int .i64 d]] w fun e w' => e = .returned (.bool false) ∧ w.alloc (.cells #[.int .i64 c, .int .i64 d] 36) = w' := by
 have := rright_any w c d; rw [h] at this; exact this
theorem box2 {w w' : World} {x y : Value} {t : TypeId} (hb : Below (w.heap.size + 1) (w.alloc (.cells #[x, y] t)) w') :
 w'.cell? ⟨w.heap.size, 0, none⟩ = some x ∧ w'.cell? ⟨w.heap.size, 1, none⟩ = some y := by
 have := cell_lit2 w x y t
 exact ⟨(hb.cell (p := ⟨w.heap.size, 0, none⟩) (by simp)).trans this.1, (hb.cell (p := ⟨w.heap.size, 1, none⟩) (by simp)).trans this.2⟩
theorem seeL_yes {l : List Int} {c d : Int} (h : rightB c d = true) : seeL l c d = (joinL l []).set (d - 1).toNat (max (num l (d - 1).toNat) c) := by unfold seeL; rw [h]; rfl
theorem seeL_no {l : List Int} {c d : Int} (h : rightB c d = false) : seeL l c d = joinL l [] := by unfold seeL; rw [h]; rfl
set_option maxHeartbeats 1000000 in
theorem see_any (w : World) (A : Option Addr) (n : Nat) (l : List Int) (h : Rd w A (l.map I64)) (hl : l.length ≤ 9223372036854775807) (c d : Int) :
 Calls Tryz.prog 27 #[.slice A l.length n, .agg #[.int .i64 c, .int .i64 d]] w (RetInts (seeL l c d) w) := by
 have hj : (joinL l []).length = 15 := joinN_length _ _ _
 rcases hr : rightB c d with _ | _
 ·have Hs := Lib.hid (seeL_no (l := l) hr)
  have Hj := Lib.hid hj
  clear hj
  go_enter Tryz.func27, Tryz.ntmps27
  go_wp2_with fail
  refine (join_any _ A n l (h.alloc _) hl none 0 [] (Rd.nil _ _) (by simp)).mono ?_
  rintro e w2 ⟨A2, c2, rfl, hown, hb⟩
  obtain ⟨hc0, hc1⟩ := box2 (hb.mono (by simp))
  generalize joinL l [] = jl at *
  go_wp2_with fail
  refine (right_no _ c d hr).mono ?_
  rintro e w' ⟨rfl, rfl⟩
  go_wp2_with fail
  go_ret
  rw [Hs.out]
  exact ⟨A2, c2, rfl, (hown.alloc _).lower (by simp), (((Below.refl _ _).alloc (Nat.le_refl _) _).trans (hb.mono (by simp))).alloc (by have := hb.size; simp at this; omega) _⟩
 ·have Hs := Lib.hid (seeL_yes (l := l) hr)
  obtain ⟨h1, h2, h3, h4⟩ := (rightB_iff c d).1 hr
  obtain ⟨k, hk⟩ := Int.eq_ofNat_of_zero_le (show 0 ≤ d - 1 by omega)
  obtain rfl : d = (k : Int) + 1 := by omega
  have hnj := num_join l [] k (by omega)
  go_enter Tryz.func27, Tryz.ntmps27
  go_wp2_with fail
  refine (join_any _ A n l (h.alloc _) hl none 0 [] (Rd.nil _ _) (by simp)).mono ?_
  rintro e w2 ⟨A2, c2, rfl, hown, hb⟩
  obtain ⟨hc0, hc1⟩ := box2 (hb.mono (by simp))
  have hlen : (joinL l []).length = 15 := hj
  have hk15 : k < (joinL l []).length := by omega
  have hval : (joinL l [])[k] = num l k := by
   simp only [joinL, joinN, List.getElem_map, List.getElem_range, num_nil]
   have := num_nonneg l k; omega
  obtain ⟨g, rfl, hgb, hgl, hrow⟩ := hown.slot (by omega)
  have hcell := hrow.cellAt k (by omega)
  have hfz := hrow.frozenAt k
  rw [List.getElem?_map, List.getElem?_eq_getElem hk15, Option.map_some, hval] at hcell
  unfold I64 at hcell
  rw [show ((k : Int) + 1 - 1).toNat = k by omega] at Hs
  have Hj := Lib.hid hj
  clear hnj hval hj hk15 hown hk
  have hgw : w.heap.size + 1 ≤ g := by simpa using hgb
  generalize joinL l [] = jl at *
  have hlen1 : 15 ≤ jl.length := by omega
  have hlen2 : jl.length ≤ 15 := by omega
  clear hlen
  have hbw : Below w.heap.size w w2 := ((Below.refl _ _).alloc (Nat.le_refl _) _).trans (hb.mono (by simp))
  clear hb
  go_wp2_with fail
  refine (right_yes _ c _ hr).mono ?_
  rintro e w' ⟨rfl, rfl⟩
  have hrow3 : (w2.alloc (.cells #[.int .i64 c, .int .i64 (k + 1)] 36)).ownsRow (w.heap.size + 1) 3 1 (.slice (some ⟨g, 0, none⟩) jl.length c2) jl.length (jl.map I64) := by
   have := hrow.alloc (.cells #[.int .i64 c, .int .i64 (k + 1)] 36)
   simpa using this
  have hbw3 := hbw.alloc hbw.size (.cells #[.int .i64 c, .int .i64 (k + 1)] 36)
  have hbs : w.heap.size < w2.heap.size := by omega
  have hc0' := (World.cell?_alloc_lt w2 (.cells #[.int .i64 c, .int .i64 (k + 1)] 36) ⟨w.heap.size, 0, none⟩ hbs).trans hc0
  have hc1' := (World.cell?_alloc_lt w2 (.cells #[.int .i64 c, .int .i64 (k + 1)] 36) ⟨w.heap.size, 1, none⟩ hbs).trans hc1
  have hcell' := (World.cell?_alloc_lt w2 (.cells #[.int .i64 c, .int .i64 (k + 1)] 36) ⟨g, k, none⟩ hgl).trans hcell
  have hfz' := hrow3.frozenAt k
  clear hc0 hc1 hcell hfz hrow hbw hbs hgl
  generalize w2.alloc (.cells #[.int .i64 c, .int .i64 (k + 1)] 36) = w3 at *
  have Hrow := Lib.hid (hrow3.stored k (I64 (max (num l k) c)))
  clear hrow3
  have hwr : IntKind.i64.wrap ((k : Int) + 1 - 1) = k := by rw [IntWalk.i64_in _ (by omega)]; omega
  go_wp2_with fail
  go_region
  rw [max_ite]
  go_wp2
  go_ret
  rw [Hs.out]
  refine ⟨some ⟨g, 0, none⟩, c2, by rw [List.length_set]; rfl, ?_, (hbw3.setCell (by simp; omega) _).drew⟩
  rw [List.length_set, List.map_set]
  exact Own.lower (.inl Hrow.out.1) (by omega)
set_option maxHeartbeats 1000000 in
theorem rsee_any (w : World) (A : Option Addr) (n : Nat) (l : List Int) (h : Rd w A (l.map I64)) (hl : l.length ≤ 9223372036854775807) (c d : Int) :
 Calls Tryz.prog 60 #[.slice A l.length n, .agg #[.int .i64 c, .int .i64 d]] w (RetInts (seeL l c d) w) := by
 have hj : (joinL l []).length = 15 := joinN_length _ _ _
 rcases hr : rightB c d with _ | _
 ·have Hs := Lib.hid (seeL_no (l := l) hr)
  have Hj := Lib.hid hj
  clear hj
  go_enter Tryz.func60, Tryz.ntmps60
  go_wp2_with fail
  refine (rjoin_any _ A n l (h.alloc _) hl none 0 [] (Rd.nil _ _) (by simp)).mono ?_
  rintro e w2 ⟨A2, c2, rfl, hown, hb⟩
  obtain ⟨hc0, hc1⟩ := box2 (hb.mono (by simp))
  generalize joinL l [] = jl at *
  go_wp2_with fail
  refine (rright_no _ c d hr).mono ?_
  rintro e w' ⟨rfl, rfl⟩
  go_wp2_with fail
  go_ret
  rw [Hs.out]
  exact ⟨A2, c2, rfl, (hown.alloc _).lower (by simp), (((Below.refl _ _).alloc (Nat.le_refl _) _).trans (hb.mono (by simp))).alloc (by have := hb.size; simp at this; omega) _⟩
 ·have Hs := Lib.hid (seeL_yes (l := l) hr)
  obtain ⟨h1, h2, h3, h4⟩ := (rightB_iff c d).1 hr
  obtain ⟨k, hk⟩ := Int.eq_ofNat_of_zero_le (show 0 ≤ d - 1 by omega)
  obtain rfl : d = (k : Int) + 1 := by omega
  have hnj := num_join l [] k (by omega)
  go_enter Tryz.func60, Tryz.ntmps60
  go_wp2_with fail
  refine (rjoin_any _ A n l (h.alloc _) hl none 0 [] (Rd.nil _ _) (by simp)).mono ?_
  rintro e w2 ⟨A2, c2, rfl, hown, hb⟩
  obtain ⟨hc0, hc1⟩ := box2 (hb.mono (by simp))
  have hlen : (joinL l []).length = 15 := hj
  have hk15 : k < (joinL l []).length := by omega
  have hval : (joinL l [])[k] = num l k := by
   simp only [joinL, joinN, List.getElem_map, List.getElem_range, num_nil]
   have := num_nonneg l k; omega
  obtain ⟨g, rfl, hgb, hgl, hrow⟩ := hown.slot (by omega)
  have hcell := hrow.cellAt k (by omega)
  have hfz := hrow.frozenAt k
  rw [List.getElem?_map, List.getElem?_eq_getElem hk15, Option.map_some, hval] at hcell
  unfold I64 at hcell
  rw [show ((k : Int) + 1 - 1).toNat = k by omega] at Hs
  have Hj := Lib.hid hj
  clear hnj hval hj hk15 hown hk
  have hgw : w.heap.size + 1 ≤ g := by simpa using hgb
  generalize joinL l [] = jl at *
  have hlen1 : 15 ≤ jl.length := by omega
  have hlen2 : jl.length ≤ 15 := by omega
  clear hlen
  have hbw : Below w.heap.size w w2 := ((Below.refl _ _).alloc (Nat.le_refl _) _).trans (hb.mono (by simp))
  clear hb
  go_wp2_with fail
  refine (rright_yes _ c _ hr).mono ?_
  rintro e w' ⟨rfl, rfl⟩
  have hrow3 : (w2.alloc (.cells #[.int .i64 c, .int .i64 (k + 1)] 36)).ownsRow (w.heap.size + 1) 3 1 (.slice (some ⟨g, 0, none⟩) jl.length c2) jl.length (jl.map I64) := by
   have := hrow.alloc (.cells #[.int .i64 c, .int .i64 (k + 1)] 36)
   simpa using this
  have hbw3 := hbw.alloc hbw.size (.cells #[.int .i64 c, .int .i64 (k + 1)] 36)
  have hbs : w.heap.size < w2.heap.size := by omega
  have hc0' := (World.cell?_alloc_lt w2 (.cells #[.int .i64 c, .int .i64 (k + 1)] 36) ⟨w.heap.size, 0, none⟩ hbs).trans hc0
  have hc1' := (World.cell?_alloc_lt w2 (.cells #[.int .i64 c, .int .i64 (k + 1)] 36) ⟨w.heap.size, 1, none⟩ hbs).trans hc1
  have hcell' := (World.cell?_alloc_lt w2 (.cells #[.int .i64 c, .int .i64 (k + 1)] 36) ⟨g, k, none⟩ hgl).trans hcell
  have hfz' := hrow3.frozenAt k
  clear hc0 hc1 hcell hfz hrow hbw hbs hgl
  generalize w2.alloc (.cells #[.int .i64 c, .int .i64 (k + 1)] 36) = w3 at *
  have Hrow := Lib.hid (hrow3.stored k (I64 (max (num l k) c)))
  clear hrow3
  have hwr : IntKind.i64.wrap ((k : Int) + 1 - 1) = k := by rw [IntWalk.i64_in _ (by omega)]; omega
  go_wp2_with fail
  go_region
  rw [max_ite]
  go_wp2
  go_ret
  rw [Hs.out]
  refine ⟨some ⟨g, 0, none⟩, c2, by rw [List.length_set]; rfl, ?_, (hbw3.setCell (by simp; omega) _).drew⟩
  rw [List.length_set, List.map_set]
  exact Own.lower (.inl Hrow.out.1) (by omega)
end Go.Proofs.YtcomeidcmcegfaaGreatDoor
