/-
  The walks of the statements FrameUnique and FrameLimits. Conditions: the arguments read as their types say.
-/
import Derived.Test.YthjmdfimnbmbfaaFrameLaws
namespace Go.Proofs.Ythjmdfimnbmbfaa
open Go.RowKit
set_option linter.unusedVariables false

set_option maxRecDepth 20000 in
set_option maxHeartbeats 4000000 in
theorem walk_FrameUnique (w : World) (A : Option Addr) (c : Nat) (l : List UInt8) (h : Rd w A (l.map U8)) (hl : l.length ≤ maxLen) (hlc : l.length ≤ c) (n : Int) (lo : -9223372036854775808 ≤ n) (hi : n ≤ 9223372036854775807) :
    Calls Try.prog 6 #[.slice A l.length c, .int .i64 n] w fun e w' => e = .returned (.bool true) ∧ Below w.heap.size w w' := by
  unfold maxLen at hl
  by_cases hf : l.length ≤ 3000
  · have p0 : decide (3000 < (l.length : Int)) = false := by simp; omega
    by_cases hE : opE l n = 0
    · obtain ⟨b1, b2, b3⟩ := op_next hE
      obtain ⟨s1, s2, s3, s4⟩ := seal_op hE
      obtain ⟨k, rfl⟩ : ∃ k : Nat, n = k := ⟨n.toNat, by omega⟩
      have hR : opR l (k : Int) = (0, opK l k, opC l k, opT l k) := by
        have : opR l (k : Int) = (opE l k, opK l k, opC l k, opT l k) := rfl
        rw [this, hE]
      have hCl : (opC l k).length ≤ 3000 := by
        have := congrArg List.length s4
        rw [fseal_length] at this
        simp at this; omega
      rw [Int.toNat_natCast] at s4
      generalize opK l k = K at *
      generalize opC l k = C at *
      generalize opT l k = T at *
      obtain ⟨t, rfl⟩ : ∃ t : Nat, T = t := ⟨T.toNat, by omega⟩
      rw [Int.toNat_natCast] at s4
      have sl := slice_at A c l.length hlc (k : Int) (t : Int) k (t - k) rfl (by omega) (by omega)
      have hrs := h.off hlc k (t - k) (by omega)
      have hll : ((l.drop k).take (t - k)).length = t - k := by simp; omega
      rw [s4] at hrs hll
      have kS : ∀ w' A' c', Rd w' A' (C.map U8) → Calls Try.prog 12 #[.int .i64 K, .slice A' C.length c'] w' (RetSeal (fseal K C) 0 w') := fun w' A' c' hr => seal_ok w' K s1 s2 A' c' C hr s3
      have p1 : decide ((t : Int) < (k : Int)) = false := by simp; omega
      have p1' : decide (t < k) = false := by simp; omega
      have p2 : decide (l.length < t) = false := by simp; omega
      have HR := Lib.hid hR
      have Hll := Lib.hid hll
      clear hR hll s4 hE
      generalize fseal K C = F at *
      generalize offBy A c k = AO at *
      go_enter Try.func6, Try.ntmps6
      go_wp2_with fail
      refine (copied_any _ _ _ _ h (by omega)).mono ?_
      rintro e w1 ⟨A1, c1, rfl, hown1, hb1⟩
      go_wp2_with fail
      refine (open_val _ _ _ _ hown1.cap hown1.rd' (by omega) _ lo hi HR.out).mono ?_
      rintro e w2 ⟨A2, c2, rfl, hr2, hc2, hb2⟩
      have hb2 := step_below hb1 hb2
      clear hown1 hb1
      go_wp2_with fail
      refine (copied_any _ _ _ _ hr2 (by omega)).mono ?_
      rintro e w3 ⟨A3, c3, rfl, hown3, hb3⟩
      have hb3 := step_below hb2 hb3
      go_wp2_with fail
      refine (kS _ _ _ hown3.rd').mono ?_
      rintro e W4 ⟨A4, c4, rfl, hown4, hb4⟩
      have hb4 := step_below hb3 hb4
      have hr4 := hown4.rd'
      have cv1 : ∀ w', Up W4 w' → (convert 22 9 (.slice A4 F.length c4)).run Try.prog w' = .ok (.string ⟨F.toArray⟩) w' := fun w' hu => str_of w' A4 c4 F (hu.rd hr4)
      have cv2 : ∀ w', Up W4 w' → (convert 22 9 (.slice AO (t - k) (c - k))).run Try.prog w' = .ok (.string ⟨F.toArray⟩) w' := fun w' hu => by
        have := str_of w' AO (c - k) F (hu.rd (hrs.below hb4))
        rwa [Hll.out] at this
      clear hown3 hown4 hb2 hb3 hr2 kS HR
      go_wp2_with fail
      refine wp_region_noPanic ?_
      refine wp_region_held_drew (S := fun w' => Up W4 w') (by kernel_rfl) (Up.drew W4) (fun hHeld => ?_)
      refine wpAnyH_take (i := 0) (v := ?_) rfl (by kernel_rfl) (by kernel_rfl) (by kernel_rfl) (fun _ _ _ h => h) (Or.inl ⟨by rfl, ?_⟩) (by assumption) ?_
      rotate_left
      · intro w' hSw; clear hSw; go_simp; try (with_reducible rfl)
      change wpAnyH _ _ _ _ _ _ _ (Act.put _ (some 60) _) _
      try (simp only [Act.put, List.setIfInBounds_toArray, List.set_cons_zero, List.set_cons_succ])
      refine wpAnyH_take (i := 1) (v := ?_) rfl (by kernel_rfl) (by kernel_rfl) (by kernel_rfl) (fun _ _ _ h => h) (Or.inl ⟨by rfl, ?_⟩) (by assumption) ?_
      rotate_left
      · intro w' hSw; clear hSw; go_simp; try (with_reducible rfl)
      change wpAnyH _ _ _ _ _ _ _ (Act.put _ (some 61) _) _
      try (simp only [Act.put, List.setIfInBounds_toArray, List.set_cons_zero, List.set_cons_succ])
      refine wpAnyH_take (i := 2) (v := ?_) rfl (by kernel_rfl) (by kernel_rfl) (by kernel_rfl) (fun _ _ _ h => h) (Or.inl ⟨by rfl, ?_⟩) (by assumption) ?_
      rotate_left
      · intro w' hSw; clear hSw; go_simp; try (with_reducible rfl)
      change wpAnyH _ _ _ _ _ _ _ (Act.put _ (some 62) _) _
      try (simp only [Act.put, List.setIfInBounds_toArray, List.set_cons_zero, List.set_cons_succ])
      refine wpAnyH_take (i := 3) (v := ?_) rfl (by kernel_rfl) (by kernel_rfl) (by kernel_rfl) (fun _ _ _ h => h) (Or.inl ⟨by rfl, ?_⟩) (by assumption) ?_
      rotate_left
      · intro w' hSw; clear hSw; go_simp; try (with_reducible rfl)
      change wpAnyH _ _ _ _ _ _ _ (Act.put _ (some 63) _) _
      try (simp only [Act.put, List.setIfInBounds_toArray, List.set_cons_zero, List.set_cons_succ])
      refine wpAnyH_take (i := 4) (v := ?_) rfl (by kernel_rfl) (by kernel_rfl) (by kernel_rfl) (fun _ _ _ h => h) (Or.inl ⟨by rfl, ?_⟩) (by assumption) ?_
      rotate_left
      · intro w' hS0; go_simp; try (with_reducible rfl)
      change wpAnyH _ _ _ _ _ _ _ (Act.put _ (some 64) _) _
      try (simp only [Act.put, List.setIfInBounds_toArray, List.set_cons_zero, List.set_cons_succ])
      refine wpAnyH_take (i := 5) (v := ?_) rfl (by kernel_rfl) (by kernel_rfl) (by kernel_rfl) (fun _ _ _ h => h) (Or.inl ⟨by rfl, ?_⟩) (by assumption) ?_
      rotate_left
      · intro w' hSw; clear hSw; go_simp; try (with_reducible rfl)
      change wpAnyH _ _ _ _ _ _ _ (Act.put _ (some 65) _) _
      try (simp only [Act.put, List.setIfInBounds_toArray, List.set_cons_zero, List.set_cons_succ])
      refine wpAnyH_take (i := 6) (v := ?_) rfl (by kernel_rfl) (by kernel_rfl) (by kernel_rfl) (fun _ _ _ h => h) (Or.inl ⟨by rfl, ?_⟩) (by assumption) ?_
      rotate_left
      · intro w' hSw; clear hSw; go_simp; try (with_reducible rfl)
      change wpAnyH _ _ _ _ _ _ _ (Act.put _ (some 66) _) _
      try (simp only [Act.put, List.setIfInBounds_toArray, List.set_cons_zero, List.set_cons_succ])
      refine wpAnyH_take (i := 7) (v := ?_) rfl (by kernel_rfl) (by kernel_rfl) (by kernel_rfl) (fun _ _ _ h => h) (Or.inl ⟨by rfl, ?_⟩) (by assumption) ?_
      rotate_left
      · intro w' hSw; clear hSw; go_simp; try (with_reducible rfl)
      change wpAnyH _ _ _ _ _ _ _ (Act.put _ (some 67) _) _
      try (simp only [Act.put, List.setIfInBounds_toArray, List.set_cons_zero, List.set_cons_succ])
      refine wpAnyH_take (i := 8) (v := ?_) rfl (by kernel_rfl) (by kernel_rfl) (by kernel_rfl) (fun _ _ _ h => h) (Or.inl ⟨by rfl, ?_⟩) (by assumption) ?_
      rotate_left
      · intro w' hS0; go_simp; try (with_reducible rfl)
      change wpAnyH _ _ _ _ _ _ _ (Act.put _ (some 68) _) _
      try (simp only [Act.put, List.setIfInBounds_toArray, List.set_cons_zero, List.set_cons_succ])
      refine wpAnyH_take (i := 9) (v := ?_) rfl (by kernel_rfl) (by kernel_rfl) (by kernel_rfl) (fun _ _ _ h => h) (Or.inl ⟨by rfl, ?_⟩) (by assumption) ?_
      rotate_left
      · intro w' hS0; go_simp; try (with_reducible rfl)
      change wpAnyH _ _ _ _ _ _ _ (Act.put _ (some 69) _) _
      try (simp only [Act.put, List.setIfInBounds_toArray, List.set_cons_zero, List.set_cons_succ])
      refine wpAnyH_take (i := 10) (v := ?_) rfl (by kernel_rfl) (by kernel_rfl) (by kernel_rfl) (fun _ _ _ h => h) (Or.inl ⟨by rfl, ?_⟩) (by assumption) ?_
      rotate_left
      · intro w' hSw; clear hSw; go_simp; try (with_reducible rfl)
      change wpAnyH _ _ _ _ _ _ _ (Act.put _ (some 70) _) _
      try (simp only [Act.put, List.setIfInBounds_toArray, List.set_cons_zero, List.set_cons_succ])
      refine wpAnyH_take (i := 11) (v := ?_) rfl (by kernel_rfl) (by kernel_rfl) (by kernel_rfl) (fun _ _ _ h => h) (Or.inl ⟨by rfl, ?_⟩) (by assumption) ?_
      rotate_left
      · intro w' hSw; clear hSw; go_simp; try (with_reducible rfl)
      change wpAnyH _ _ _ _ _ _ _ (Act.put _ (some 71) _) _
      try (simp only [Act.put, List.setIfInBounds_toArray, List.set_cons_zero, List.set_cons_succ])
      refine wpAnyH_take (i := 12) (v := ?_) rfl (by kernel_rfl) (by kernel_rfl) (by kernel_rfl) (fun _ _ _ h => h) (Or.inl ⟨by rfl, ?_⟩) (by assumption) ?_
      rotate_left
      · intro w' hSw; clear hSw; go_simp; try (with_reducible rfl)
      change wpAnyH _ _ _ _ _ _ _ (Act.put _ (some 72) _) _
      try (simp only [Act.put, List.setIfInBounds_toArray, List.set_cons_zero, List.set_cons_succ])
      refine wpAnyH_ready (rs := [13]) (by kernel_rfl) (by simp) ?_
      refine AllReadyH.cons rfl (fun K hK => ?_) AllReadyH.nil
      go_simp
      refine (awake_any _).mono ?_
      rintro e W5 ⟨rfl, hb5⟩
      have u5 : Up W4 W5 := Up.trans (Up.drew W4) (Up.of hb5)
      refine hK.out _ _ u5 (fun hHeld => ?_)
      clear hK K hHeld
      refine wpAnyH_more (S' := fun w' => Up W5 w') (fun w' h => Up.trans u5 h) _ _ _ _ ?_
      have hHeld := Up.refl W5
      refine wpAnyH_take (i := 14) (v := ?_) rfl (by kernel_rfl) (by kernel_rfl) (by kernel_rfl) (fun _ _ _ h => h) (Or.inl ⟨by rfl, ?_⟩) (by assumption) ?_
      rotate_left
      · intro w' hSw; clear hSw; go_simp; try (with_reducible rfl)
      change wpAnyH _ _ _ _ _ _ _ (Act.put _ (some 74) _) _
      try (simp only [Act.put, List.setIfInBounds_toArray, List.set_cons_zero, List.set_cons_succ])
      refine wpAnyH_take (i := 15) (v := ?_) rfl (by kernel_rfl) (by kernel_rfl) (by kernel_rfl) (fun _ _ _ h => h) (Or.inl ⟨by rfl, ?_⟩) (by assumption) ?_
      rotate_left
      · intro w' hSw; clear hSw; go_simp; try (with_reducible rfl)
      change wpAnyH _ _ _ _ _ _ _ (Act.put _ (some 4) _) _
      try (simp only [Act.put, List.setIfInBounds_toArray, List.set_cons_zero, List.set_cons_succ])
      refine wpAnyH_done (by kernel_rfl) ?_ _
      refine NoPanic.normal ?_
      clear hHeld

      go_wp2
      go_ret
      exact ⟨rfl, step_below hb4 u5.b⟩
    · have hR : opR l n = (opE l n, 0, [], 0) := by
        rcases opE_cases l n with h0 | h0
        · exact absurd h0 hE
        · exact h0
      have p1 : (opE l n != 0) = true := by simp; exact hE
      generalize opE l n = E at *
      have HR := Lib.hid hR
      clear hR hE
      go_enter Try.func6, Try.ntmps6
      go_wp2_with fail
      refine (copied_any _ _ _ _ h (by omega)).mono ?_
      rintro e w1 ⟨A1, c1, rfl, hown1, hb1⟩
      go_wp2_with fail
      refine (open_val _ _ _ _ hown1.cap hown1.rd' (by omega) _ lo hi HR.out).mono ?_
      rintro e w2 ⟨A2, c2, rfl, hr2, hc2, hb2⟩
      have hb2 := step_below hb1 hb2
      go_wp2_with fail
      refine (awake_any _).mono ?_
      rintro e w3 ⟨rfl, hb3⟩
      go_wp2_with fail
      go_ret
      exact ⟨rfl, step_below hb2 hb3⟩
  · have p0 : decide (3000 < (l.length : Int)) = true := by simp; omega
    go_enter Try.func6, Try.ntmps6
    go_wp2_with fail
    refine (awake_any _).mono ?_
    rintro e w' ⟨rfl, hb⟩
    go_wp2_with fail
    go_ret
    exact ⟨rfl, hb⟩

/-- Seal of more than MaxBytes bytes reads none of them -/
theorem seal_big (w : World) (kind : Int) (lo : -9223372036854775808 ≤ kind) (hi : kind ≤ 9223372036854775807) (A : Option Addr) (c n : Nat) (hn : 1048576 < n) (hn' : n ≤ 9223372036854775807) :
    Calls Try.prog 12 #[.int .i64 kind, .slice A n c] w fun e w' => e = .returned (.tuple #[.slice none 0 0, .int .i64 (if kind < 1 ∨ 255 < kind then 1 else 5)]) ∧ w = w' := by
  by_cases h1 : kind < 1
  · rw [if_pos (Or.inl h1)]
    go_enter Try.func12, Try.ntmps12
    go_wp2
    exact bodyPost_ret (v := .tuple #[.slice none 0 0, .int .i64 1]) (by simp [results, Try.results12, go_sem]) rfl ⟨rfl, rfl⟩
  · by_cases h2 : 255 < kind
    · rw [if_pos (Or.inr h2)]
      go_enter Try.func12, Try.ntmps12
      go_wp2
      exact bodyPost_ret (v := .tuple #[.slice none 0 0, .int .i64 1]) (by simp [results, Try.results12, go_sem]) rfl ⟨rfl, rfl⟩
    · rw [if_neg (by omega)]
      go_enter Try.func12, Try.ntmps12
      go_wp2
      exact bodyPost_ret (v := .tuple #[.slice none 0 0, .int .i64 5]) (by simp [results, Try.results12, go_sem]) rfl ⟨rfl, rfl⟩

set_option maxRecDepth 20000 in
set_option maxHeartbeats 2000000 in
theorem walk_FrameLimits (w : World) (kind : Int) (lo : -9223372036854775808 ≤ kind) (hi : kind ≤ 9223372036854775807) (x : UInt8) :
    Calls Try.prog 8 #[.int .i64 kind, .int .u8 x.toNat] w fun e w' => e = .returned (.bool true) ∧ Below w.heap.size w w' := by
  have hx := x.toNat_lt
  generalize x.toNat = m at *
  have hmk := run_make_row' (P := Try.prog) 22 5 (.int .u8 0) 1 Try.underlying22 info_u8 rfl .i64 .i64 (1048577 + m) (by omega) (by omega)
  rw [show ((1048577 + m : Nat) : Int) = 1048577 + (m : Int) by omega] at hmk
  have hS := fun w' => seal_big w' kind lo hi (some ⟨w.heap.size, 0, none⟩) (1048577 + m) (1048577 + m) (by omega) (by omega)
  by_cases h1 : kind < 1 ∨ 255 < kind
  · rw [if_pos h1] at hS
    rcases h1 with h1 | h1
    all_goals
      go_enter Try.func8, Try.ntmps8
      go_wp2_with fail
      refine (hS _).mono ?_
      rintro e w' ⟨rfl, rfl⟩
      have hb1 := (Below.refl w.heap.size w).alloc (Nat.le_refl _) (.cells (madeCells #[.int .u8 0] (1048577 + m)) 5)
      generalize w.alloc (.cells (madeCells #[.int .u8 0] (1048577 + m)) 5) = W1 at *
      clear hmk hS
      go_wp2_with fail
      refine (awake_any _).mono ?_
      rintro e w2 ⟨rfl, hb2⟩
      go_wp2_with fail
      go_ret
      exact ⟨rfl, step_below hb1 hb2⟩
  · rw [if_neg h1] at hS
    have p1 : decide (kind < 1) = false := by simp; omega
    have p2 : decide (255 < kind) = false := by simp; omega
    go_enter Try.func8, Try.ntmps8
    go_wp2_with fail
    refine (hS _).mono ?_
    rintro e w' ⟨rfl, rfl⟩
    have hb1 := (Below.refl w.heap.size w).alloc (Nat.le_refl _) (.cells (madeCells #[.int .u8 0] (1048577 + m)) 5)
    generalize w.alloc (.cells (madeCells #[.int .u8 0] (1048577 + m)) 5) = W1 at *
    clear hmk hS
    go_wp2_with fail
    refine (awake_any _).mono ?_
    rintro e w2 ⟨rfl, hb2⟩
    go_wp2_with fail
    go_ret
    exact ⟨rfl, step_below hb1 hb2⟩
end Go.Proofs.Ythjmdfimnbmbfaa
