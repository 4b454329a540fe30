/-
  The walk of JournalRead of the statements of layer 53. Conditions: the tables lie as their initialisers lay them.
-/
import Derived.Test.YtcomeidcmcegfaaDoorJourLaws
namespace Go.Proofs.YtcomeidcmcegfaaDoor
open Go.RowKit
set_option linter.unusedVariables false
set_option linter.unusedSimpArgs false

theorem jrF_length (b : List UInt8) : ∀ (f : Nat) (q : Int), (jrF b f q).1.length ≤ f := by
  intro f
  induction f with
  | zero => intro q; simp [jrF]
  | succ f ih =>
    intro q
    rw [jrF]
    split
    · have := ih (frT b q); simp; omega
    · simp
theorem jr_length {b : List UInt8} {xs : List OX} (h : opL xs = (jr b).1.map (·.2)) : xs.length ≤ b.length + 1 := by
  have := congrArg List.length h
  rw [opL_len, List.length_map] at this
  rw [this]; exact jrF_length b _ _
theorem str_take (w : World) (A : Option Addr) (c k : Nat) (b : List UInt8) (h : Rd w A (b.map U8)) (hk : k ≤ b.length) : (convert 25 9 (.slice A k c)).run Tryd.prog w = .ok (.string ⟨(b.take k).toArray⟩) w := by
  have := str_of w A c (b.take k) (h.take8 k)
  rwa [List.length_take, Nat.min_eq_left hk] at this
set_option maxRecDepth 100000 in
set_option maxHeartbeats 16000000 in
theorem walk_JournalRead (w : World) (A : Option Addr) (c : Nat) (b : List UInt8) (hr : Rd w A (b.map U8)) (hm : b.length ≤ maxLen) (hq : b.length ≤ c) (hT : Tabs w) (hF : TabR w) :
    Calls Tryd.prog 8 #[.slice A b.length c] w fun e w' => e = .returned (.bool true) ∧ Below w.heap.size w w' := by
  unfold maxLen at hm
  by_cases h : b.length ≤ 20000
  rotate_left
  · have t0 : decide (20000 < (b.length : Int)) = true := decide_eq_true (by omega)
    go_enter Tryd.func8, Tryd.ntmps8
    go_wp2_with fail
    refine (awake_any _ hT hF).mono ?_
    rintro e wz ⟨rfl, hbz⟩
    go_wp2_with fail
    go_ret
    exact ⟨rfl, hbz⟩
  · have t0 : decide (20000 < (b.length : Int)) = false := decide_eq_false (by omega)
    have k0 := read_any w A c b hr (by omega) hq hT
    have k1 := fun w' (u : Up w w') => rread_any w' A c b (u.rd hr) (by omega) hq
    have k2 := fun w' (u : Up w w') => trim_any w' A c b (u.rd hr) (by omega) hq (hT.below u.b)
    have k3 := fun w' (u : Up w w') => rtrim_any w' A c b (u.rd hr) (by omega) hq
    have k4 := fun w' (u : Up w w') => awake_any w' (hT.below u.b) (hF.below u.b)
    have k5 := fun w' c' (u : Up w w') => str_take w' A c' (trimN b) b (u.rd hr) (trimN_le b)
    have hl1 := Lib.hid (fun (xs : List OX) (h : opL xs = (jr b).1.map (·.2)) => jr_length h)
    unfold RetJr at k0 k1
    unfold RetTrim at k2 k3
    have h' := Lib.hid h
    clear h hr
    generalize (jr b).1.map (·.2) = JL at *
    generalize (jr b).2 = JQ at *
    generalize trimN b = tn at *
    go_enter Tryd.func8, Tryd.ntmps8
    go_wp2_with fail
    refine k0.mono ?_
    rintro e w2 ⟨xs, A2, c2, rfl, hx2, hO2, hc2, hb2⟩
    have u2 := Lib.hid (Up.of hb2)
    have k1 := k1 w2 u2.out
    clear k0 hb2
    go_wp2_with fail
    refine k1.mono ?_
    rintro e wx ⟨ys, A3, c3, rfl, hy3, hO3, hc3, hb3⟩
    have v3 := Lib.hid (Up.of hb3)
    have u3 := Lib.hid (u2.out.trans v3.out)
    have hlx := hl1.out xs hx2
    have hly := hl1.out ys hy3
    have kS := fun w' (u : Up wx w') => same_any w' A2 A3 c2 c3 xs ys ((hO2.below v3.out.b).below u.b) (hO3.below u.b) (by have := h'.out; unfold maxLen; omega) (by have := h'.out; unfold maxLen; omega)
    rw [show sameL (opL xs) (opL ys) = true from (sameL_iff _ _).2 (hx2.trans hy3.symm)] at kS
    have kT := fun w' (u : Up wx w') => k2 w' (u3.out.trans u)
    have kU := fun w' (u : Up wx w') => k3 w' (u3.out.trans u)
    have kA := fun w' (u : Up wx w') => k4 w' (u3.out.trans u)
    have hcv := fun w' c' (u : Up wx w') => k5 w' c' (u3.out.trans u)
    have hcv := Lib.hid hcv
    clear k1 k2 k3 k4 k5 hb3 hx2 hy3 hO2 hO3 hlx hly hl1 hT hF
    go_wp2_with fail
    have hcv := hcv.out
    refine wp_region_noPanic ?_
    refine wp_region_held_drew (S := fun w' => Up wx w') (by kernel_rfl) (Up.drew wx) (fun hHeld => ?_)
    refine wpAnyH_take (i := 0) (v := ?_) rfl (by kernel_rfl) (by kernel_rfl) (by kernel_rfl) (fun _ _ _ h => h) (Or.inl ⟨by rfl, ?_⟩) (by assumption) ?_
    rotate_left
    · intro w' hSw; clear hSw; go_simp; try (with_reducible rfl)
    change wpAnyH _ _ _ _ _ _ _ (Act.put _ (some 21) _) _
    try (simp only [Act.put, List.setIfInBounds_toArray, List.set_cons_zero, List.set_cons_succ])
    refine wpAnyH_take (i := 1) (v := ?_) rfl (by kernel_rfl) (by kernel_rfl) (by kernel_rfl) (fun _ _ _ h => h) (Or.inl ⟨by rfl, ?_⟩) (by assumption) ?_
    rotate_left
    · intro w' hSw; clear hSw; go_simp; try (with_reducible rfl)
    change wpAnyH _ _ _ _ _ _ _ (Act.put _ (some 22) _) _
    try (simp only [Act.put, List.setIfInBounds_toArray, List.set_cons_zero, List.set_cons_succ])
    refine wpAnyH_ready (rs := [2]) (by kernel_rfl) (by simp) ?_
    refine AllReadyH.cons rfl (fun K hK => ?_) AllReadyH.nil
    go_simp
    go_at_call 17
    refine (kS _ (Up.drew _)).mono ?_
    rintro e z1 ⟨rfl, hz1⟩
    have uz1 : Up wx z1 := (Up.drew _).trans (Up.of hz1)
    refine hK.out _ _ uz1 (fun hHeld => ?_)
    clear hK K hHeld
    refine wpAnyH_more (S' := fun w' => Up z1 w') (fun w' h => Up.trans uz1 h) _ _ _ _ ?_
    have hHeld := Up.refl z1
    refine wpAnyH_take (i := 3) (v := ?_) rfl (by kernel_rfl) (by kernel_rfl) (by kernel_rfl) (fun _ _ _ h => h) (Or.inl ⟨by rfl, ?_⟩) (by assumption) ?_
    rotate_left
    · intro w' hSw; clear hSw; go_simp; try (with_reducible rfl)
    change wpAnyH _ _ _ _ _ _ _ (Act.put _ (some 24) _) _
    try (simp only [Act.put, List.setIfInBounds_toArray, List.set_cons_zero, List.set_cons_succ])
    refine wpAnyH_take (i := 4) (v := ?_) rfl (by kernel_rfl) (by kernel_rfl) (by kernel_rfl) (fun _ _ _ h => h) (Or.inl ⟨by rfl, ?_⟩) (by assumption) ?_
    rotate_left
    · intro w' hSw; clear hSw; go_simp; try (with_reducible rfl)
    change wpAnyH _ _ _ _ _ _ _ (Act.put _ (some 25) _) _
    try (simp only [Act.put, List.setIfInBounds_toArray, List.set_cons_zero, List.set_cons_succ])
    refine wpAnyH_take (i := 5) (v := ?_) rfl (by kernel_rfl) (by kernel_rfl) (by kernel_rfl) (fun _ _ _ h => h) (Or.inl ⟨by rfl, ?_⟩) (by assumption) ?_
    rotate_left
    · intro w' hSw; clear hSw; go_simp; try (with_reducible rfl)
    change wpAnyH _ _ _ _ _ _ _ (Act.put _ (some 26) _) _
    try (simp only [Act.put, List.setIfInBounds_toArray, List.set_cons_zero, List.set_cons_succ])
    refine wpAnyH_take (i := 6) (v := ?_) rfl (by kernel_rfl) (by kernel_rfl) (by kernel_rfl) (fun _ _ _ h => h) (Or.inl ⟨by rfl, ?_⟩) (by assumption) ?_
    rotate_left
    · intro w' hSw; clear hSw; go_simp; try (with_reducible rfl)
    change wpAnyH _ _ _ _ _ _ _ (Act.put _ (some 27) _) _
    try (simp only [Act.put, List.setIfInBounds_toArray, List.set_cons_zero, List.set_cons_succ])
    refine wpAnyH_take (i := 7) (v := ?_) rfl (by kernel_rfl) (by kernel_rfl) (by kernel_rfl) (fun _ _ _ h => h) (Or.inl ⟨by rfl, ?_⟩) (by assumption) ?_
    rotate_left
    · intro w' hSw; clear hSw; go_simp; try (with_reducible rfl)
    change wpAnyH _ _ _ _ _ _ _ (Act.put _ (some 28) _) _
    try (simp only [Act.put, List.setIfInBounds_toArray, List.set_cons_zero, List.set_cons_succ])
    refine wpAnyH_take (i := 8) (v := ?_) rfl (by kernel_rfl) (by kernel_rfl) (by kernel_rfl) (fun _ _ _ h => h) (Or.inl ⟨by rfl, ?_⟩) (by assumption) ?_
    rotate_left
    · intro w' hSw; clear hSw; go_simp; try (with_reducible rfl)
    change wpAnyH _ _ _ _ _ _ _ (Act.put _ (some 29) _) _
    try (simp only [Act.put, List.setIfInBounds_toArray, List.set_cons_zero, List.set_cons_succ])
    refine wpAnyH_take (i := 9) (v := ?_) rfl (by kernel_rfl) (by kernel_rfl) (by kernel_rfl) (fun _ _ _ h => h) (Or.inl ⟨by rfl, ?_⟩) (by assumption) ?_
    rotate_left
    · intro w' hSw; clear hSw; go_simp; try (with_reducible rfl)
    change wpAnyH _ _ _ _ _ _ _ (Act.put _ (some 30) _) _
    try (simp only [Act.put, List.setIfInBounds_toArray, List.set_cons_zero, List.set_cons_succ])
    refine wpAnyH_take (i := 12) (v := ?_) rfl (by kernel_rfl) (by kernel_rfl) (by kernel_rfl) (fun _ _ _ h => h) (Or.inl ⟨by rfl, ?_⟩) (by assumption) ?_
    rotate_left
    · intro w' hSw; clear hSw; go_simp; try (with_reducible rfl)
    change wpAnyH _ _ _ _ _ _ _ (Act.put _ (some 33) _) _
    try (simp only [Act.put, List.setIfInBounds_toArray, List.set_cons_zero, List.set_cons_succ])
    refine wpAnyH_ready (rs := [10]) (by kernel_rfl) (by simp) ?_
    refine AllReadyH.cons rfl (fun K hK => ?_) AllReadyH.nil
    go_simp
    go_at_call 22
    refine (kT _ uz1).mono ?_
    rintro e z2 ⟨ct, rfl, -, hz2⟩
    have uz2 : Up z1 z2 := Up.of hz2
    have cv2 := fun w' (u : Up z2 w') => hcv w' ct ((uz1.trans uz2).trans u)
    refine hK.out _ _ uz2 (fun hHeld => ?_)
    clear hK K hHeld
    refine wpAnyH_more (S' := fun w' => Up z2 w') (fun w' h => Up.trans uz2 h) _ _ _ _ ?_
    have hHeld := Up.refl z2
    refine wpAnyH_take (i := 11) (v := ?_) rfl (by kernel_rfl) (by kernel_rfl) (by kernel_rfl) (fun _ _ _ h => h) (Or.inl ⟨by rfl, ?_⟩) (by assumption) ?_
    rotate_left
    · intro w' hS2; have hS1 := Up.trans uz2 hS2; have hS0 := Up.trans uz1 hS1; go_simp; try (with_reducible rfl)
    change wpAnyH _ _ _ _ _ _ _ (Act.put _ (some 32) _) _
    try (simp only [Act.put, List.setIfInBounds_toArray, List.set_cons_zero, List.set_cons_succ])
    refine wpAnyH_ready (rs := [13]) (by kernel_rfl) (by simp) ?_
    refine AllReadyH.cons rfl (fun K hK => ?_) AllReadyH.nil
    go_simp
    go_at_call 23
    refine (kU _ (uz1.trans uz2)).mono ?_
    rintro e z3 ⟨cu, rfl, -, hz3⟩
    have uz3 : Up z2 z3 := Up.of hz3
    have cv3 := fun w' (u : Up z3 w') => hcv w' cu (((uz1.trans uz2).trans uz3).trans u)
    refine hK.out _ _ uz3 (fun hHeld => ?_)
    clear hK K hHeld
    refine wpAnyH_more (S' := fun w' => Up z3 w') (fun w' h => Up.trans uz3 h) _ _ _ _ ?_
    have hHeld := Up.refl z3
    refine wpAnyH_take (i := 14) (v := ?_) rfl (by kernel_rfl) (by kernel_rfl) (by kernel_rfl) (fun _ _ _ h => h) (Or.inl ⟨by rfl, ?_⟩) (by assumption) ?_
    rotate_left
    · intro w' hS3; have hS2 := Up.trans uz3 hS3; have hS1 := Up.trans uz2 hS2; have hS0 := Up.trans uz1 hS1; go_simp; try (with_reducible rfl)
    change wpAnyH _ _ _ _ _ _ _ (Act.put _ (some 35) _) _
    try (simp only [Act.put, List.setIfInBounds_toArray, List.set_cons_zero, List.set_cons_succ])
    refine wpAnyH_take (i := 15) (v := ?_) rfl (by kernel_rfl) (by kernel_rfl) (by kernel_rfl) (fun _ _ _ h => h) (Or.inl ⟨by rfl, ?_⟩) (by assumption) ?_
    rotate_left
    · intro w' hSw; clear hSw; go_simp; try (with_reducible rfl)
    change wpAnyH _ _ _ _ _ _ _ (Act.put _ (some 36) _) _
    try (simp only [Act.put, List.setIfInBounds_toArray, List.set_cons_zero, List.set_cons_succ])
    refine wpAnyH_take (i := 16) (v := ?_) rfl (by kernel_rfl) (by kernel_rfl) (by kernel_rfl) (fun _ _ _ h => h) (Or.inl ⟨by rfl, ?_⟩) (by assumption) ?_
    rotate_left
    · intro w' hSw; clear hSw; go_simp; try (with_reducible rfl)
    change wpAnyH _ _ _ _ _ _ _ (Act.put _ (some 37) _) _
    try (simp only [Act.put, List.setIfInBounds_toArray, List.set_cons_zero, List.set_cons_succ])
    refine wpAnyH_take (i := 17) (v := ?_) rfl (by kernel_rfl) (by kernel_rfl) (by kernel_rfl) (fun _ _ _ h => h) (Or.inl ⟨by rfl, ?_⟩) (by assumption) ?_
    rotate_left
    · intro w' hSw; clear hSw; go_simp; try (with_reducible rfl)
    change wpAnyH _ _ _ _ _ _ _ (Act.put _ (some 38) _) _
    try (simp only [Act.put, List.setIfInBounds_toArray, List.set_cons_zero, List.set_cons_succ])
    refine wpAnyH_ready (rs := [18]) (by kernel_rfl) (by simp) ?_
    refine AllReadyH.cons rfl (fun K hK => ?_) AllReadyH.nil
    go_simp
    go_at_call 12
    refine (kA _ ((uz1.trans uz2).trans uz3)).mono ?_
    rintro e z4 ⟨rfl, hz4⟩
    have uz4 : Up z3 z4 := Up.of hz4
    refine hK.out _ _ uz4 (fun hHeld => ?_)
    clear hK K hHeld
    refine wpAnyH_more (S' := fun w' => Up z4 w') (fun w' h => Up.trans uz4 h) _ _ _ _ ?_
    have hHeld := Up.refl z4
    refine wpAnyH_take (i := 19) (v := ?_) rfl (by kernel_rfl) (by kernel_rfl) (by kernel_rfl) (fun _ _ _ h => h) (Or.inl ⟨by rfl, ?_⟩) (by assumption) ?_
    rotate_left
    · intro w' hSw; clear hSw; go_simp; try (with_reducible rfl)
    change wpAnyH _ _ _ _ _ _ _ (Act.put _ (some 40) _) _
    try (simp only [Act.put, List.setIfInBounds_toArray, List.set_cons_zero, List.set_cons_succ])
    refine wpAnyH_take (i := 20) (v := ?_) rfl (by kernel_rfl) (by kernel_rfl) (by kernel_rfl) (fun _ _ _ h => h) (Or.inl ⟨by rfl, ?_⟩) (by assumption) ?_
    rotate_left
    · intro w' hSw; clear hSw; go_simp; try (with_reducible rfl)
    change wpAnyH _ _ _ _ _ _ _ (Act.put _ (some 2) _) _
    try (simp only [Act.put, List.setIfInBounds_toArray, List.set_cons_zero, List.set_cons_succ])
    refine wpAnyH_done (by kernel_rfl) ?_ _
    refine NoPanic.normal ?_
    clear hHeld
    have uz := Lib.hid (((uz1.trans uz2).trans uz3).trans uz4)
    go_wp2_with fail
    go_ret
    exact ⟨rfl, (u3.out.trans uz.out).b⟩
end Go.Proofs.YtcomeidcmcegfaaDoor
