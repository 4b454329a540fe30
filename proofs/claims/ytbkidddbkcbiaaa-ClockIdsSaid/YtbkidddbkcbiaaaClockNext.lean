/-
  The walks of Next of layer 7 and of its reference. Conditions: vectors read as lists of ints.
-/
import Derived.Test.YtbkidddbkcbiaaaClockVec
namespace Go.Proofs.Ytbkidddbkcbiaaa
open Go.RowKit
set_option linter.unusedVariables false

/-- the call returns a stamp and a bool; nothing that was there has changed -/
def RetStamp (c d : Int) (b : Bool) (w : World) (e : Ending) (w' : World) : Prop := e = .returned (.tuple #[.agg #[.int .i64 c, .int .i64 d], .bool b]) ∧ Below w.heap.size w w'

set_option maxHeartbeats 1000000 in
theorem next_any (w : World) (A : Option Addr) (c : Nat) (l : List Int) (h : Rd w A (l.map I64)) (hl : l.length ≤ 9223372036854775807) (hbd : ∀ n ∈ l, n ≤ 9223372036854775807) (dev : Int) :
    Calls Try.prog 13 #[.slice A l.length c, .int .i64 dev] w (RetStamp (nextC l dev) (nextD l dev) (nextB l dev) w) := by
  have Hbd := Lib.hid hbd
  clear hbd
  go_enter Try.func13, Try.ntmps13
  go_wp2
  go_loop [6, 9] (fun t i => ∃ j : Nat, j ≤ 15 ∧ i = .int .i64 j ∧ t = .int .i64 (topN l j)) (fun _ i => 15 - (intOf i).toNat)
  case atStart => exact ⟨0, by omega, rfl, rfl⟩
  case round =>
    obtain ⟨j, hj, rfl, rfl⟩ := hrel
    by_cases hlt : j < 15
    · go_wp2_with fail
      refine (number_any _ _ _ _ (h.alloc _) hl j).mono ?_
      rintro e w' ⟨rfl, rfl⟩
      go_wp2_with fail
      go_round
      case rel => exact ⟨j + 1, by omega, by go_num, int_eq (by rw [topN, max_ite])⟩
      case measure => simp [intOf]; omega
    · obtain rfl : j = 15 := by omega
      have h0 := topN_nonneg l 15
      have h1 := topN_le l 15 Hbd.out
      clear Hbd
      by_cases hT : topN l 15 ≤ 1048576
      · have Hb : Hid (nextB l dev = rightB (topN l 15 + 1) dev) := by
          unfold nextB topL; rw [show min (topN l 15) 1048576 = topN l 15 by omega]; rfl
        rcases hr : rightB (topN l 15 + 1) dev with _ | _
        · have Hr := Lib.hid hr
          have Hc : Hid (nextC l dev = 0) := by unfold nextC; rw [Hb.out, hr]; rfl
          have Hd : Hid (nextD l dev = 0) := by unfold nextD; rw [Hb.out, hr]; rfl
          clear hr
          go_wp2_with fail
          refine (right_any _ _ _).mono ?_
          rintro e w' ⟨rfl, rfl⟩
          rw [Hr.out]
          go_wp2_with fail
          exact bodyPost_ret (v := .tuple #[.agg #[.int .i64 0, .int .i64 0], .bool false]) (by simp [results, Try.results13, go_sem]) rfl ⟨by rw [Hc.out, Hd.out, Hb.out, Hr.out], ((((Below.refl _ _).alloc (Nat.le_refl _) _).alloc (by simp) _).alloc (by simp; omega) _)⟩
        · have Hr := Lib.hid hr
          have Hc : Hid (nextC l dev = topN l 15 + 1) := by unfold nextC; rw [Hb.out, hr]; rfl
          have Hd : Hid (nextD l dev = dev) := by unfold nextD; rw [Hb.out, hr]; rfl
          clear hr
          go_wp2_with fail
          refine (right_any _ _ _).mono ?_
          rintro e w' ⟨rfl, rfl⟩
          rw [Hr.out]
          go_wp2_with fail
          exact bodyPost_ret (v := .tuple #[.agg #[.int .i64 (topN l 15 + 1), .int .i64 dev], .bool true]) (by simp [results, Try.results13, go_sem]) rfl ⟨by rw [Hc.out, Hd.out, Hb.out, Hr.out], ((((Below.refl _ _).alloc (Nat.le_refl _) _).alloc (by simp) _).alloc (by simp; omega) _)⟩
      · have hr : rightB 1048577 dev = false := by rw [rightB_not]; omega
        have Hb : Hid (nextB l dev = false) := by
          unfold nextB topL; rw [show min (topN l 15) 1048576 + 1 = 1048577 by omega]; exact hr
        have Hr := Lib.hid hr
        have Hc : Hid (nextC l dev = 0) := by unfold nextC; rw [Hb.out]; rfl
        have Hd : Hid (nextD l dev = 0) := by unfold nextD; rw [Hb.out]; rfl
        clear hr
        go_wp2_with fail
        refine (right_any _ _ _).mono ?_
        rintro e w' ⟨rfl, rfl⟩
        rw [Hr.out]
        go_wp2_with fail
        exact bodyPost_ret (v := .tuple #[.agg #[.int .i64 0, .int .i64 0], .bool false]) (by simp [results, Try.results13, go_sem]) rfl ⟨by rw [Hc.out, Hd.out, Hb.out], ((((Below.refl _ _).alloc (Nat.le_refl _) _).alloc (by simp) _).alloc (by simp; omega) _)⟩

set_option maxHeartbeats 1000000 in
theorem rnext_any (w : World) (A : Option Addr) (c : Nat) (l : List Int) (h : Rd w A (l.map I64)) (hl : l.length ≤ 9223372036854775807) (hbd : ∀ n ∈ l, n ≤ 9223372036854775807) (dev : Int) :
    Calls Try.prog 14 #[.slice A l.length c, .int .i64 dev] w (RetStamp (nextC l dev) (nextD l dev) (nextB l dev) w) := by
  have Hbd := Lib.hid hbd
  clear hbd
  go_enter Try.func14, Try.ntmps14
  go_wp2
  go_loop [6, 7] (fun t i => ∃ j : Nat, j ≤ 15 ∧ i = .int .i64 (j + 1) ∧ t = .int .i64 (topN l j)) (fun _ i => 16 - (intOf i).toNat)
  case atStart => exact ⟨0, by omega, rfl, rfl⟩
  case round =>
    obtain ⟨j, hj, rfl, rfl⟩ := hrel
    by_cases hlt : j < 15
    · go_wp2_with fail
      refine (at_any _ _ _ _ (h.alloc _) hl j hlt).mono ?_
      rintro e w' ⟨rfl, rfl⟩
      go_wp2_with fail
      go_round
      case rel => exact ⟨j + 1, by omega, by go_num, int_eq (by rw [topN, max_ite])⟩
      case measure => simp [intOf]; omega
    · obtain rfl : j = 15 := by omega
      have h0 := topN_nonneg l 15
      have h1 := topN_le l 15 Hbd.out
      clear Hbd
      have Hb : Hid (nextB l dev = rightB (min (topN l 15) 1048576 + 1) dev) := rfl
      by_cases hT : topN l 15 < 1048576
      · by_cases h2 : 1 ≤ dev
        · by_cases h3 : dev ≤ 15
          · have Hb1 : Hid (nextB l dev = true) := by rw [Hid, Hb.out, rightB_iff]; omega
            have Hc : Hid (nextC l dev = topN l 15 + 1) := by unfold nextC; rw [Hb1.out]; rfl
            have Hd : Hid (nextD l dev = dev) := by unfold nextD; rw [Hb1.out]; rfl
            go_wp2_with fail
            exact bodyPost_ret (v := .tuple #[.agg #[.int .i64 (topN l 15 + 1), .int .i64 dev], .bool true]) (by simp [results, Try.results14, go_sem]) rfl ⟨by rw [Hc.out, Hd.out, Hb1.out], (Below.refl _ _).alloc (Nat.le_refl _) _⟩
          · have Hb1 : Hid (nextB l dev = false) := by rw [Hid, Hb.out, rightB_not]; omega
            have Hc : Hid (nextC l dev = 0) := by unfold nextC; rw [Hb1.out]; rfl
            have Hd : Hid (nextD l dev = 0) := by unfold nextD; rw [Hb1.out]; rfl
            go_wp2_with fail
            exact bodyPost_ret (v := .tuple #[.agg #[.int .i64 0, .int .i64 0], .bool false]) (by simp [results, Try.results14, go_sem]) rfl ⟨by rw [Hc.out, Hd.out, Hb1.out], (Below.refl _ _).alloc (Nat.le_refl _) _⟩
        · have Hb1 : Hid (nextB l dev = false) := by rw [Hid, Hb.out, rightB_not]; omega
          have Hc : Hid (nextC l dev = 0) := by unfold nextC; rw [Hb1.out]; rfl
          have Hd : Hid (nextD l dev = 0) := by unfold nextD; rw [Hb1.out]; rfl
          go_wp2_with fail
          exact bodyPost_ret (v := .tuple #[.agg #[.int .i64 0, .int .i64 0], .bool false]) (by simp [results, Try.results14, go_sem]) rfl ⟨by rw [Hc.out, Hd.out, Hb1.out], (Below.refl _ _).alloc (Nat.le_refl _) _⟩
      · have Hb1 : Hid (nextB l dev = false) := by rw [Hid, Hb.out, rightB_not]; omega
        have Hc : Hid (nextC l dev = 0) := by unfold nextC; rw [Hb1.out]; rfl
        have Hd : Hid (nextD l dev = 0) := by unfold nextD; rw [Hb1.out]; rfl
        go_wp2_with fail
        exact bodyPost_ret (v := .tuple #[.agg #[.int .i64 0, .int .i64 0], .bool false]) (by simp [results, Try.results14, go_sem]) rfl ⟨by rw [Hc.out, Hd.out, Hb1.out], (Below.refl _ _).alloc (Nat.le_refl _) _⟩
end Go.Proofs.Ytbkidddbkcbiaaa
