/-
  The walks of OpsChecks, OpsBytes, OpsSame and OpsWrites. Conditions: utf8's tables lie as their initialisers lay them.
-/
import Derived.Test.YtfjiikcbcoohdaaDoorZAwake
import Derived.Test.YtfjiikcbcoohdaaDoorZBytes
namespace Go.Proofs.YtfjiikcbcoohdaaDoor
open Go.RowKit
set_option linter.unusedVariables false
set_option linter.unusedSimpArgs false


set_option maxRecDepth 100000 in
set_option maxHeartbeats 16000000 in
theorem walk_OpsChecks (w : World) (o : OP) (A : Option Addr) (c : Nat) (bd : o.Bd) (hr : Rd w A (ovL o.ov)) (hc : o.ov.length ≤ c) (hT : Tabs w) : Calls Tryd.prog 3 #[opV o A c] w fun e w' => e = .returned (.bool true) ∧ Below w.heap.size w w' := by
  rcases hf : fewB o with _ | _
  · have kf := fun w => few_is w (A := A) (c := c) hf
    unfold opV opC at kf ⊢
    go_enter Tryd.func3, Tryd.ntmps3
    go_wp2_with fail
    refine (kf _).mono ?_
    rintro e w2 ⟨rfl, hb2⟩
    have hbe := stepB ((Below.refl w.heap.size w).alloc (Nat.le_refl _) _) hb2
    have hO : Blk w2 w.heap.size 30 (opC o A c).toArray := (Blk.new w 30 (opC o A c).toArray).up (Up.of hb2)
    clear kf hb2
    go_wp2_with fail
    refine (awake_any _ (hT.below hbe)).mono ?_
    rintro e wz ⟨rfl, hbz⟩
    go_wp2_with fail
    go_ret
    exact ⟨rfl, stepB hbe hbz⟩
  · have kf := fun w => few_is w (A := A) (c := c) hf
    unfold opV opC at kf ⊢
    go_enter Tryd.func3, Tryd.ntmps3
    go_wp2_with fail
    refine (kf _).mono ?_
    rintro e w2 ⟨rfl, hb2⟩
    have hbe := stepB ((Below.refl w.heap.size w).alloc (Nat.le_refl _) _) hb2
    have hO : Blk w2 w.heap.size 30 (opC o A c).toArray := (Blk.new w 30 (opC o A c).toArray).up (Up.of hb2)
    clear kf hb2
    go_upto_region 3 with fail
    have k0 := fun w' (u : Up w2 w') => check_any w' o A c bd ((hr.below hbe).below u.b) hc ((hT.below hbe).below u.b)
    have k1 := fun w' (u : Up w2 w') => rcheck_any w' o A c bd ((hr.below hbe).below u.b) hc
    have k2 := fun w' (u : Up w2 w') => awake_any w' ((hT.below hbe).below u.b)
    generalize checkE o = E at *
    refine wp_region_noPanic ?_
    refine wp_region_held_drew (S := fun w' => Up w2 w') (by kernel_rfl) (Up.drew w2) (fun hHeld => ?_)
    refine wpAnyH_take (i := 0) (v := .agg (opC o A c).toArray) rfl (by kernel_rfl) (by kernel_rfl) (by kernel_rfl) (fun _ _ _ h => h) (yields_row (by rfl) _ _ rfl w.heap.size (by go_simp) _ (opC o A c).toArray _ (fun w' h => Blk.up hO h) Tryd.underlying30 rfl (by kernel_rfl)) (by assumption) ?_
    change wpAnyH _ _ _ _ _ _ _ (Act.put _ (some 7) _) _
    try (simp only [Act.put, List.setIfInBounds_toArray, List.set_cons_zero, List.set_cons_succ])
    refine wpAnyH_take (i := 2) (v := .agg (opC o A c).toArray) rfl (by kernel_rfl) (by kernel_rfl) (by kernel_rfl) (fun _ _ _ h => h) (yields_row (by rfl) _ _ rfl w.heap.size (by go_simp) _ (opC o A c).toArray _ (fun w' h => Blk.up hO h) Tryd.underlying30 rfl (by kernel_rfl)) (by assumption) ?_
    change wpAnyH _ _ _ _ _ _ _ (Act.put _ (some 9) _) _
    try (simp only [Act.put, List.setIfInBounds_toArray, List.set_cons_zero, List.set_cons_succ])
    refine wpAnyH_ready (rs := [1]) (by kernel_rfl) (by simp) ?_
    refine AllReadyH.cons rfl (fun K hK => ?_) AllReadyH.nil
    go_simp
    refine (k0 _ (Up.drew _)).mono ?_
    rintro e y0 ⟨rfl, hby0⟩
    have uy0 : Up w2 y0 := (Up.drew _).trans (Up.of hby0)
    refine hK.out _ _ uy0 (fun hHeld => ?_)
    clear hK K hHeld
    refine wpAnyH_more (S' := fun w' => Up y0 w') (fun w' h => Up.trans uy0 h) _ _ _ _ ?_
    have hHeld := Up.refl y0
    refine wpAnyH_ready (rs := [3]) (by kernel_rfl) (by simp) ?_
    refine AllReadyH.cons rfl (fun K hK => ?_) AllReadyH.nil
    go_simp
    refine (k1 _ ((Up.trans uy0 (Up.refl _)))).mono ?_
    rintro e y1 ⟨rfl, hby1⟩
    have uy1 : Up y0 y1 := Up.of hby1
    refine hK.out _ _ uy1 (fun hHeld => ?_)
    clear hK K hHeld
    refine wpAnyH_more (S' := fun w' => Up y1 w') (fun w' h => Up.trans uy1 h) _ _ _ _ ?_
    have hHeld := Up.refl y1
    refine wpAnyH_take (i := 4) (v := ?_) rfl (by kernel_rfl) (by kernel_rfl) (by kernel_rfl) (fun _ _ _ h => h) (Or.inl ⟨by rfl, ?_⟩) (by assumption) ?_
    rotate_left
    · intro w' hSw; clear hSw; go_simp; try (with_reducible rfl)
    change wpAnyH _ _ _ _ _ _ _ (Act.put _ (some 11) _) _
    try (simp only [Act.put, List.setIfInBounds_toArray, List.set_cons_zero, List.set_cons_succ])
    refine wpAnyH_take (i := 5) (v := ?_) rfl (by kernel_rfl) (by kernel_rfl) (by kernel_rfl) (fun _ _ _ h => h) (Or.inl ⟨by rfl, ?_⟩) (by assumption) ?_
    rotate_left
    · intro w' hSw; clear hSw; go_simp; try (with_reducible rfl)
    change wpAnyH _ _ _ _ _ _ _ (Act.put _ (some 12) _) _
    try (simp only [Act.put, List.setIfInBounds_toArray, List.set_cons_zero, List.set_cons_succ])
    refine wpAnyH_ready (rs := [6]) (by kernel_rfl) (by simp) ?_
    refine AllReadyH.cons rfl (fun K hK => ?_) AllReadyH.nil
    go_simp
    refine (k2 _ ((Up.trans uy0 ((Up.trans uy1 (Up.refl _)))))).mono ?_
    rintro e y2 ⟨rfl, hby2⟩
    have uy2 : Up y1 y2 := Up.of hby2
    refine hK.out _ _ uy2 (fun hHeld => ?_)
    clear hK K hHeld
    refine wpAnyH_more (S' := fun w' => Up y2 w') (fun w' h => Up.trans uy2 h) _ _ _ _ ?_
    have hHeld := Up.refl y2
    refine wpAnyH_take (i := 7) (v := ?_) rfl (by kernel_rfl) (by kernel_rfl) (by kernel_rfl) (fun _ _ _ h => h) (Or.inl ⟨by rfl, ?_⟩) (by assumption) ?_
    rotate_left
    · intro w' hSw; clear hSw; go_simp; try (with_reducible rfl)
    change wpAnyH _ _ _ _ _ _ _ (Act.put _ (some 14) _) _
    try (simp only [Act.put, List.setIfInBounds_toArray, List.set_cons_zero, List.set_cons_succ])
    refine wpAnyH_take (i := 8) (v := ?_) rfl (by kernel_rfl) (by kernel_rfl) (by kernel_rfl) (fun _ _ _ h => h) (Or.inl ⟨by rfl, ?_⟩) (by assumption) ?_
    rotate_left
    · intro w' hSw; clear hSw; go_simp; try (with_reducible rfl)
    change wpAnyH _ _ _ _ _ _ _ (Act.put _ (some 2) _) _
    try (simp only [Act.put, List.setIfInBounds_toArray, List.set_cons_zero, List.set_cons_succ])
    refine wpAnyH_done (by kernel_rfl) ?_ _
    refine NoPanic.normal ?_
    clear hHeld
    go_wp2_with fail
    go_ret
    exact ⟨rfl, stepB hbe (Up.trans uy0 (Up.trans uy1 uy2)).b⟩


set_option maxRecDepth 100000 in
set_option maxHeartbeats 16000000 in
theorem walk_OpsBytes (w : World) (o : OP) (A : Option Addr) (c : Nat) (bd : o.Bd) (hr : Rd w A (ovL o.ov)) (hc : o.ov.length ≤ c) (hT : Tabs w) : Calls Tryd.prog 4 #[opV o A c] w fun e w' => e = .returned (.bool true) ∧ Below w.heap.size w w' := by
  rcases hf : fewB o with _ | _
  · have kf := fun w => few_is w (A := A) (c := c) hf
    unfold opV opC at kf ⊢
    go_enter Tryd.func4, Tryd.ntmps4
    go_wp2_with fail
    refine (kf _).mono ?_
    rintro e w2 ⟨rfl, hb2⟩
    have hbe := stepB ((Below.refl w.heap.size w).alloc (Nat.le_refl _) _) hb2
    have hO : Blk w2 w.heap.size 30 (opC o A c).toArray := (Blk.new w 30 (opC o A c).toArray).up (Up.of hb2)
    clear kf hb2
    go_wp2_with fail
    refine (awake_any _ (hT.below hbe)).mono ?_
    rintro e wz ⟨rfl, hbz⟩
    go_wp2_with fail
    go_ret
    exact ⟨rfl, stepB hbe hbz⟩
  · have kf := fun w => few_is w (A := A) (c := c) hf
    have k0 := fun w' (h : Below w.heap.size w w') => bytes_any w' o A c bd (hr.below h) hc (hT.below h)
    have k1 := fun w' (h : Below w.heap.size w w') => rbytes_any w' o A c bd (hr.below h) hc
    generalize checkE o = E at *
    generalize bytesR o = L at *
    unfold opV opC at kf k0 k1 ⊢
    go_enter Tryd.func4, Tryd.ntmps4
    go_wp2_with fail
    refine (kf _).mono ?_
    rintro e w2 ⟨rfl, hb2⟩
    have hbe := stepB ((Below.refl w.heap.size w).alloc (Nat.le_refl _) _) hb2
    have hO : Blk w2 w.heap.size 30 (opC o A c).toArray := (Blk.new w 30 (opC o A c).toArray).up (Up.of hb2)
    clear kf hb2
    obtain ⟨⟨m0, m1, m2, m3⟩, ⟨m4, m5, m6, m7, m8, m9, m10⟩, ⟨m11, m12, m13, m14⟩⟩ := Blk.opAt hO
    go_wp2_with fail
    refine (k0 _ hbe).mono ?_
    rintro e w3 ⟨A3, c3, rfl, hown3, hb3⟩
    have hr3 := hown3.rd'
    have hO := hO.up (Up.of hb3)
    have hbe := stepB hbe hb3
    clear m0 m1 m2 m3 m4 m5 m6 m7 m8 m9 m10 m11 m12 m13 m14 k0 hb3 hown3
    obtain ⟨⟨m0, m1, m2, m3⟩, ⟨m4, m5, m6, m7, m8, m9, m10⟩, ⟨m11, m12, m13, m14⟩⟩ := Blk.opAt hO
    go_wp2_with fail
    refine (k1 _ hbe).mono ?_
    rintro e w4 ⟨A4, c4, rfl, hown4, hb4⟩
    have hr4 := hown4.rd'
    have hr3 := hr3.below hb4
    have hbe := stepB hbe hb4
    have hcv3 := str_of w4 A3 c3 L hr3
    have hcv4 := str_of w4 A4 c4 L hr4
    clear m0 m1 m2 m3 m4 m5 m6 m7 m8 m9 m10 m11 m12 m13 m14 k1 hb4 hown4 hr3 hr4 hO
    go_wp2_with fail
    refine (awake_any _ (hT.below hbe)).mono ?_
    rintro e wz ⟨rfl, hbz⟩
    go_wp2_with fail
    go_ret
    exact ⟨rfl, stepB hbe hbz⟩


theorem valC_form (o : OP) (f : Int) : ∃ x y z s, valC o f = va4 x y z s := by
  unfold valC; split
  · exact ⟨_, _, _, _, rfl⟩
  · exact ⟨_, _, _, _, rfl⟩
theorem val_self (x y z : Int) (s : List UInt8) (w : World) : (binOp .eql 44 (.agg #[.int .i64 x, .int .i64 y, .int .i64 z, .string ⟨s.toArray⟩]) (.agg #[.int .i64 x, .int .i64 y, .int .i64 z, .string ⟨s.toArray⟩])).run Tryd.prog w = .ok (.bool true) w := by
  simp [go_sem]

set_option maxRecDepth 100000 in
set_option maxHeartbeats 16000000 in
theorem walk_OpsWrites (w : World) (o : OP) (A : Option Addr) (c : Nat) (bd : o.Bd) (hr : Rd w A (ovL o.ov)) (hc : o.ov.length ≤ c) (n : Int) (bn : -9223372036854775808 ≤ n ∧ n ≤ 9223372036854775807) (f : Int) (bf : -9223372036854775808 ≤ f ∧ f ≤ 9223372036854775807) (hT : Tabs w) : Calls Tryd.prog 6 #[opV o A c, .int .i64 n, .int .i64 f] w fun e w' => e = .returned (.bool true) ∧ Below w.heap.size w w' := by
  rcases hf : fewB o with _ | _
  · have kf := fun w => few_is w (A := A) (c := c) hf
    unfold opV opC at kf ⊢
    go_enter Tryd.func6, Tryd.ntmps6
    go_wp2_with fail
    refine (kf _).mono ?_
    rintro e w2 ⟨rfl, hb2⟩
    have hbe := stepB ((Below.refl w.heap.size w).alloc (Nat.le_refl _) _) hb2
    have hO : Blk w2 w.heap.size 30 (opC o A c).toArray := (Blk.new w 30 (opC o A c).toArray).up (Up.of hb2)
    clear kf hb2
    go_wp2_with fail
    refine (awake_any _ (hT.below hbe)).mono ?_
    rintro e wz ⟨rfl, hbz⟩
    go_wp2_with fail
    go_ret
    exact ⟨rfl, stepB hbe hbz⟩
  · have kf := fun w => few_is w (A := A) (c := c) hf
    unfold opV opC at kf ⊢
    go_enter Tryd.func6, Tryd.ntmps6
    go_wp2_with fail
    refine (kf _).mono ?_
    rintro e w2 ⟨rfl, hb2⟩
    have hbe := stepB ((Below.refl w.heap.size w).alloc (Nat.le_refl _) _) hb2
    have hO : Blk w2 w.heap.size 30 (opC o A c).toArray := (Blk.new w 30 (opC o A c).toArray).up (Up.of hb2)
    clear kf hb2
    go_upto_region 3 with fail
    have k0 := fun w' (u : Up w2 w') => oWrites_any w' o A c n f
    have k1 := fun w' (u : Up w2 w') => rWrites_any w' o A c n f
    have k2 := fun w' (u : Up w2 w') => ovalue_any w' o A c f
    have k3 := fun w' (u : Up w2 w') => rvalue_any w' o A c f
    have k4 := fun w' (u : Up w2 w') => awake_any w' ((hT.below hbe).below u.b)
    obtain ⟨x, y, z, s, hv⟩ := valC_form o f
    rw [hv] at k2 k3
    unfold va4 at k2 k3
    have hvs := val_self x y z s
    clear hv
    generalize wrsB o n f = WB at *
    refine wp_region_noPanic ?_
    refine wp_region_held_drew (S := fun w' => Up w2 w') (by kernel_rfl) (Up.drew w2) (fun hHeld => ?_)
    refine wpAnyH_take (i := 0) (v := .agg (opC o A c).toArray) rfl (by kernel_rfl) (by kernel_rfl) (by kernel_rfl) (fun _ _ _ h => h) (yields_row (by rfl) _ _ rfl w.heap.size (by go_simp) _ (opC o A c).toArray _ (fun w' h => Blk.up hO h) Tryd.underlying30 rfl (by kernel_rfl)) (by assumption) ?_
    change wpAnyH _ _ _ _ _ _ _ (Act.put _ (some 11) _) _
    try (simp only [Act.put, List.setIfInBounds_toArray, List.set_cons_zero, List.set_cons_succ])
    refine wpAnyH_take (i := 1) (v := ?_) rfl (by kernel_rfl) (by kernel_rfl) (by kernel_rfl) (fun _ _ _ h => h) (Or.inl ⟨by rfl, ?_⟩) (by assumption) ?_
    rotate_left
    · intro w' hSw; clear hSw; go_simp; try (with_reducible rfl)
    change wpAnyH _ _ _ _ _ _ _ (Act.put _ (some 12) _) _
    try (simp only [Act.put, List.setIfInBounds_toArray, List.set_cons_zero, List.set_cons_succ])
    refine wpAnyH_take (i := 2) (v := ?_) rfl (by kernel_rfl) (by kernel_rfl) (by kernel_rfl) (fun _ _ _ h => h) (Or.inl ⟨by rfl, ?_⟩) (by assumption) ?_
    rotate_left
    · intro w' hSw; clear hSw; go_simp; try (with_reducible rfl)
    change wpAnyH _ _ _ _ _ _ _ (Act.put _ (some 13) _) _
    try (simp only [Act.put, List.setIfInBounds_toArray, List.set_cons_zero, List.set_cons_succ])
    refine wpAnyH_take (i := 4) (v := .agg (opC o A c).toArray) rfl (by kernel_rfl) (by kernel_rfl) (by kernel_rfl) (fun _ _ _ h => h) (yields_row (by rfl) _ _ rfl w.heap.size (by go_simp) _ (opC o A c).toArray _ (fun w' h => Blk.up hO h) Tryd.underlying30 rfl (by kernel_rfl)) (by assumption) ?_
    change wpAnyH _ _ _ _ _ _ _ (Act.put _ (some 15) _) _
    try (simp only [Act.put, List.setIfInBounds_toArray, List.set_cons_zero, List.set_cons_succ])
    refine wpAnyH_take (i := 5) (v := ?_) rfl (by kernel_rfl) (by kernel_rfl) (by kernel_rfl) (fun _ _ _ h => h) (Or.inl ⟨by rfl, ?_⟩) (by assumption) ?_
    rotate_left
    · intro w' hSw; clear hSw; go_simp; try (with_reducible rfl)
    change wpAnyH _ _ _ _ _ _ _ (Act.put _ (some 16) _) _
    try (simp only [Act.put, List.setIfInBounds_toArray, List.set_cons_zero, List.set_cons_succ])
    refine wpAnyH_take (i := 6) (v := ?_) rfl (by kernel_rfl) (by kernel_rfl) (by kernel_rfl) (fun _ _ _ h => h) (Or.inl ⟨by rfl, ?_⟩) (by assumption) ?_
    rotate_left
    · intro w' hSw; clear hSw; go_simp; try (with_reducible rfl)
    change wpAnyH _ _ _ _ _ _ _ (Act.put _ (some 17) _) _
    try (simp only [Act.put, List.setIfInBounds_toArray, List.set_cons_zero, List.set_cons_succ])
    refine wpAnyH_ready (rs := [3]) (by kernel_rfl) (by simp) ?_
    refine AllReadyH.cons rfl (fun K hK => ?_) AllReadyH.nil
    go_simp
    refine (k0 _ (Up.drew _)).mono ?_
    rintro e y0 ⟨rfl, hby0⟩
    have uy0 : Up w2 y0 := (Up.drew _).trans (Up.of hby0)
    refine hK.out _ _ uy0 (fun hHeld => ?_)
    clear hK K hHeld
    refine wpAnyH_more (S' := fun w' => Up y0 w') (fun w' h => Up.trans uy0 h) _ _ _ _ ?_
    have hHeld := Up.refl y0
    refine wpAnyH_ready (rs := [7]) (by kernel_rfl) (by simp) ?_
    refine AllReadyH.cons rfl (fun K hK => ?_) AllReadyH.nil
    go_simp
    refine (k1 _ ((Up.trans uy0 (Up.refl _)))).mono ?_
    rintro e y1 ⟨rfl, hby1⟩
    have uy1 : Up y0 y1 := Up.of hby1
    refine hK.out _ _ uy1 (fun hHeld => ?_)
    clear hK K hHeld
    refine wpAnyH_more (S' := fun w' => Up y1 w') (fun w' h => Up.trans uy1 h) _ _ _ _ ?_
    have hHeld := Up.refl y1
    refine wpAnyH_take (i := 8) (v := ?_) rfl (by kernel_rfl) (by kernel_rfl) (by kernel_rfl) (fun _ _ _ h => h) (Or.inl ⟨by rfl, ?_⟩) (by assumption) ?_
    rotate_left
    · intro w' hSw; clear hSw; go_simp; try (with_reducible rfl)
    change wpAnyH _ _ _ _ _ _ _ (Act.put _ (some 19) _) _
    try (simp only [Act.put, List.setIfInBounds_toArray, List.set_cons_zero, List.set_cons_succ])
    refine wpAnyH_take (i := 9) (v := ?_) rfl (by kernel_rfl) (by kernel_rfl) (by kernel_rfl) (fun _ _ _ h => h) (Or.inl ⟨by rfl, ?_⟩) (by assumption) ?_
    rotate_left
    · intro w' hSw; clear hSw; go_simp; try (with_reducible rfl)
    change wpAnyH _ _ _ _ _ _ _ (Act.put _ (some 20) _) _
    try (simp only [Act.put, List.setIfInBounds_toArray, List.set_cons_zero, List.set_cons_succ])
    refine wpAnyH_take (i := 10) (v := .agg (opC o A c).toArray) rfl (by kernel_rfl) (by kernel_rfl) (by kernel_rfl) (fun _ _ _ h => h) (yields_row (by rfl) _ _ rfl w.heap.size (by go_simp) _ (opC o A c).toArray _ (fun w' h => Blk.up hO (Up.trans uy0 (Up.trans uy1 h))) Tryd.underlying30 rfl (by kernel_rfl)) (by assumption) ?_
    change wpAnyH _ _ _ _ _ _ _ (Act.put _ (some 21) _) _
    try (simp only [Act.put, List.setIfInBounds_toArray, List.set_cons_zero, List.set_cons_succ])
    refine wpAnyH_take (i := 11) (v := ?_) rfl (by kernel_rfl) (by kernel_rfl) (by kernel_rfl) (fun _ _ _ h => h) (Or.inl ⟨by rfl, ?_⟩) (by assumption) ?_
    rotate_left
    · intro w' hSw; clear hSw; go_simp; try (with_reducible rfl)
    change wpAnyH _ _ _ _ _ _ _ (Act.put _ (some 22) _) _
    try (simp only [Act.put, List.setIfInBounds_toArray, List.set_cons_zero, List.set_cons_succ])
    refine wpAnyH_take (i := 13) (v := .agg (opC o A c).toArray) rfl (by kernel_rfl) (by kernel_rfl) (by kernel_rfl) (fun _ _ _ h => h) (yields_row (by rfl) _ _ rfl w.heap.size (by go_simp) _ (opC o A c).toArray _ (fun w' h => Blk.up hO (Up.trans uy0 (Up.trans uy1 h))) Tryd.underlying30 rfl (by kernel_rfl)) (by assumption) ?_
    change wpAnyH _ _ _ _ _ _ _ (Act.put _ (some 24) _) _
    try (simp only [Act.put, List.setIfInBounds_toArray, List.set_cons_zero, List.set_cons_succ])
    refine wpAnyH_take (i := 14) (v := ?_) rfl (by kernel_rfl) (by kernel_rfl) (by kernel_rfl) (fun _ _ _ h => h) (Or.inl ⟨by rfl, ?_⟩) (by assumption) ?_
    rotate_left
    · intro w' hSw; clear hSw; go_simp; try (with_reducible rfl)
    change wpAnyH _ _ _ _ _ _ _ (Act.put _ (some 25) _) _
    try (simp only [Act.put, List.setIfInBounds_toArray, List.set_cons_zero, List.set_cons_succ])
    refine wpAnyH_ready (rs := [12]) (by kernel_rfl) (by simp) ?_
    refine AllReadyH.cons rfl (fun K hK => ?_) AllReadyH.nil
    go_simp
    refine (k2 _ ((Up.trans uy0 ((Up.trans uy1 (Up.refl _)))))).mono ?_
    rintro e y2 ⟨rfl, hby2⟩
    have uy2 : Up y1 y2 := Up.of hby2
    refine hK.out _ _ uy2 (fun hHeld => ?_)
    clear hK K hHeld
    refine wpAnyH_more (S' := fun w' => Up y2 w') (fun w' h => Up.trans uy2 h) _ _ _ _ ?_
    have hHeld := Up.refl y2
    refine wpAnyH_ready (rs := [15]) (by kernel_rfl) (by simp) ?_
    refine AllReadyH.cons rfl (fun K hK => ?_) AllReadyH.nil
    go_simp
    refine (k3 _ ((Up.trans uy0 ((Up.trans uy1 ((Up.trans uy2 (Up.refl _)))))))).mono ?_
    rintro e y3 ⟨rfl, hby3⟩
    have uy3 : Up y2 y3 := Up.of hby3
    refine hK.out _ _ uy3 (fun hHeld => ?_)
    clear hK K hHeld
    refine wpAnyH_more (S' := fun w' => Up y3 w') (fun w' h => Up.trans uy3 h) _ _ _ _ ?_
    have hHeld := Up.refl y3
    refine wpAnyH_take (i := 16) (v := ?_) rfl (by kernel_rfl) (by kernel_rfl) (by kernel_rfl) (fun _ _ _ h => h) (Or.inl ⟨by rfl, ?_⟩) (by assumption) ?_
    rotate_left
    · intro w' hSw; clear hSw; go_simp; try (with_reducible rfl)
    change wpAnyH _ _ _ _ _ _ _ (Act.put _ (some 27) _) _
    try (simp only [Act.put, List.setIfInBounds_toArray, List.set_cons_zero, List.set_cons_succ])
    refine wpAnyH_take (i := 17) (v := ?_) rfl (by kernel_rfl) (by kernel_rfl) (by kernel_rfl) (fun _ _ _ h => h) (Or.inl ⟨by rfl, ?_⟩) (by assumption) ?_
    rotate_left
    · intro w' hSw; clear hSw; go_simp; try (with_reducible rfl)
    change wpAnyH _ _ _ _ _ _ _ (Act.put _ (some 28) _) _
    try (simp only [Act.put, List.setIfInBounds_toArray, List.set_cons_zero, List.set_cons_succ])
    refine wpAnyH_take (i := 18) (v := ?_) rfl (by kernel_rfl) (by kernel_rfl) (by kernel_rfl) (fun _ _ _ h => h) (Or.inl ⟨by rfl, ?_⟩) (by assumption) ?_
    rotate_left
    · intro w' hSw; clear hSw; go_simp; try (with_reducible rfl)
    change wpAnyH _ _ _ _ _ _ _ (Act.put _ (some 29) _) _
    try (simp only [Act.put, List.setIfInBounds_toArray, List.set_cons_zero, List.set_cons_succ])
    refine wpAnyH_ready (rs := [19]) (by kernel_rfl) (by simp) ?_
    refine AllReadyH.cons rfl (fun K hK => ?_) AllReadyH.nil
    go_simp
    refine (k4 _ ((Up.trans uy0 ((Up.trans uy1 ((Up.trans uy2 ((Up.trans uy3 (Up.refl _)))))))))).mono ?_
    rintro e y4 ⟨rfl, hby4⟩
    have uy4 : Up y3 y4 := Up.of hby4
    refine hK.out _ _ uy4 (fun hHeld => ?_)
    clear hK K hHeld
    refine wpAnyH_more (S' := fun w' => Up y4 w') (fun w' h => Up.trans uy4 h) _ _ _ _ ?_
    have hHeld := Up.refl y4
    refine wpAnyH_take (i := 20) (v := ?_) rfl (by kernel_rfl) (by kernel_rfl) (by kernel_rfl) (fun _ _ _ h => h) (Or.inl ⟨by rfl, ?_⟩) (by assumption) ?_
    rotate_left
    · intro w' hSw; clear hSw; go_simp; try (with_reducible rfl)
    change wpAnyH _ _ _ _ _ _ _ (Act.put _ (some 31) _) _
    try (simp only [Act.put, List.setIfInBounds_toArray, List.set_cons_zero, List.set_cons_succ])
    refine wpAnyH_take (i := 21) (v := ?_) rfl (by kernel_rfl) (by kernel_rfl) (by kernel_rfl) (fun _ _ _ h => h) (Or.inl ⟨by rfl, ?_⟩) (by assumption) ?_
    rotate_left
    · intro w' hSw; clear hSw; go_simp; try (with_reducible rfl)
    change wpAnyH _ _ _ _ _ _ _ (Act.put _ (some 6) _) _
    try (simp only [Act.put, List.setIfInBounds_toArray, List.set_cons_zero, List.set_cons_succ])
    refine wpAnyH_done (by kernel_rfl) ?_ _
    refine NoPanic.normal ?_
    clear hHeld
    go_wp2_with fail
    go_ret
    exact ⟨rfl, stepB hbe (Up.trans uy0 (Up.trans uy1 (Up.trans uy2 (Up.trans uy3 uy4)))).b⟩


set_option maxRecDepth 100000 in
set_option maxHeartbeats 16000000 in
theorem walk_OpsSame (w : World) (a : OP) (A : Option Addr) (c : Nat) (bda : a.Bd) (hra : Rd w A (ovL a.ov)) (hca : a.ov.length ≤ c) (b : OP) (B : Option Addr) (d : Nat) (bdb : b.Bd) (hrb : Rd w B (ovL b.ov)) (hcb : b.ov.length ≤ d) (hT : Tabs w) : Calls Tryd.prog 7 #[opV a A c, opV b B d] w fun e w' => e = .returned (.bool true) ∧ Below w.heap.size w w' := by
  rcases hf : fewB a with _ | _
  · have kf := fun w => few_is w (A := A) (c := c) hf
    unfold opV opC at kf ⊢
    go_enter Tryd.func7, Tryd.ntmps7
    go_wp2_with fail
    refine (kf _).mono ?_
    rintro e w2 ⟨rfl, hb2⟩
    have hbe := stepB (below2 w _ _) hb2
    have hO : Blk w2 w.heap.size 30 (opC a A c).toArray := ((Blk.new w 30 (opC a A c).toArray).up (Up.alloc' _ (.cells (opC b B d).toArray 30))).up (Up.of hb2)
    have hP : Blk w2 (w.heap.size + 1) 30 (opC b B d).toArray := by
      have := Blk.new (w.alloc (.cells (opC a A c).toArray 30)) 30 (opC b B d).toArray
      rw [World.size_alloc] at this
      exact this.up (Up.of hb2)
    clear kf hb2
    go_wp2_with fail
    refine (awake_any _ (hT.below hbe)).mono ?_
    rintro e wz ⟨rfl, hbz⟩
    go_wp2_with fail
    go_ret
    exact ⟨rfl, stepB hbe hbz⟩
  have kf := fun w => few_is w (A := A) (c := c) hf
  rcases hg : fewB b with _ | _
  · have kg := fun w => few_is w (A := B) (c := d) hg
    unfold opV opC at kf kg ⊢
    go_enter Tryd.func7, Tryd.ntmps7
    go_wp2_with fail
    refine (kf _).mono ?_
    rintro e w2 ⟨rfl, hb2⟩
    have hbe := stepB (below2 w _ _) hb2
    have hO : Blk w2 w.heap.size 30 (opC a A c).toArray := ((Blk.new w 30 (opC a A c).toArray).up (Up.alloc' _ (.cells (opC b B d).toArray 30))).up (Up.of hb2)
    have hP : Blk w2 (w.heap.size + 1) 30 (opC b B d).toArray := by
      have := Blk.new (w.alloc (.cells (opC a A c).toArray 30)) 30 (opC b B d).toArray
      rw [World.size_alloc] at this
      exact this.up (Up.of hb2)
    clear kf hb2
    obtain ⟨⟨m0, m1, m2, m3⟩, ⟨m4, m5, m6, m7, m8, m9, m10⟩, ⟨m11, m12, m13, m14⟩⟩ := Blk.opAt hP
    go_wp2_with fail
    refine (kg _).mono ?_
    rintro e w3 ⟨rfl, hb3⟩
    have hO := hO.up (Up.of hb3)
    have hP := hP.up (Up.of hb3)
    have hbe := stepB hbe hb3
    clear kg hb3 m0 m1 m2 m3 m4 m5 m6 m7 m8 m9 m10 m11 m12 m13 m14
    go_wp2_with fail
    refine (awake_any _ (hT.below hbe)).mono ?_
    rintro e wz ⟨rfl, hbz⟩
    go_wp2_with fail
    go_ret
    exact ⟨rfl, stepB hbe hbz⟩
  · have kg := fun w => few_is w (A := B) (c := d) hg
    unfold opV opC at kf kg ⊢
    go_enter Tryd.func7, Tryd.ntmps7
    go_wp2_with fail
    refine (kf _).mono ?_
    rintro e w2 ⟨rfl, hb2⟩
    have hbe := stepB (below2 w _ _) hb2
    have hO : Blk w2 w.heap.size 30 (opC a A c).toArray := ((Blk.new w 30 (opC a A c).toArray).up (Up.alloc' _ (.cells (opC b B d).toArray 30))).up (Up.of hb2)
    have hP : Blk w2 (w.heap.size + 1) 30 (opC b B d).toArray := by
      have := Blk.new (w.alloc (.cells (opC a A c).toArray 30)) 30 (opC b B d).toArray
      rw [World.size_alloc] at this
      exact this.up (Up.of hb2)
    clear kf hb2
    obtain ⟨⟨m0, m1, m2, m3⟩, ⟨m4, m5, m6, m7, m8, m9, m10⟩, ⟨m11, m12, m13, m14⟩⟩ := Blk.opAt hP
    go_wp2_with fail
    refine (kg _).mono ?_
    rintro e w3 ⟨rfl, hb3⟩
    have hO := hO.up (Up.of hb3)
    have hP := hP.up (Up.of hb3)
    have hbe := stepB hbe hb3
    clear kg hb3 m0 m1 m2 m3 m4 m5 m6 m7 m8 m9 m10 m11 m12 m13 m14
    go_upto_region 3 with fail
    have k0 := fun w' (u : Up w3 w') => osame_any w' a b A B c d ((hra.below hbe).below u.b) ((hrb.below hbe).below u.b) bda.ol bdb.ol
    have k1 := fun w' (u : Up w3 w') => rsame_any w' a b A B c d ((hra.below hbe).below u.b) ((hrb.below hbe).below u.b) bda.ol bdb.ol
    have k2 := fun w' (u : Up w3 w') => osame_any w' a a A A c c ((hra.below hbe).below u.b) ((hra.below hbe).below u.b) bda.ol bda.ol
    have k3 := fun w' (u : Up w3 w') => awake_any w' ((hT.below hbe).below u.b)
    rw [sameB_self] at k2
    generalize sameB a b = SB at *
    refine wp_region_noPanic ?_
    refine wp_region_held_drew (S := fun w' => Up w3 w') (by kernel_rfl) (Up.drew w3) (fun hHeld => ?_)
    refine wpAnyH_take (i := 0) (v := .agg (opC a A c).toArray) rfl (by kernel_rfl) (by kernel_rfl) (by kernel_rfl) (fun _ _ _ h => h) (yields_row (by rfl) _ _ rfl w.heap.size (by go_simp) _ (opC a A c).toArray _ (fun w' h => Blk.up hO h) Tryd.underlying30 rfl (by kernel_rfl)) (by assumption) ?_
    change wpAnyH _ _ _ _ _ _ _ (Act.put _ (some 14) _) _
    try (simp only [Act.put, List.setIfInBounds_toArray, List.set_cons_zero, List.set_cons_succ])
    refine wpAnyH_take (i := 1) (v := .agg (opC b B d).toArray) rfl (by kernel_rfl) (by kernel_rfl) (by kernel_rfl) (fun _ _ _ h => h) (yields_row (by rfl) _ _ rfl (w.heap.size + 1) (by go_simp) _ (opC b B d).toArray _ (fun w' h => Blk.up hP h) Tryd.underlying30 rfl (by kernel_rfl)) (by assumption) ?_
    change wpAnyH _ _ _ _ _ _ _ (Act.put _ (some 15) _) _
    try (simp only [Act.put, List.setIfInBounds_toArray, List.set_cons_zero, List.set_cons_succ])
    refine wpAnyH_take (i := 3) (v := .agg (opC a A c).toArray) rfl (by kernel_rfl) (by kernel_rfl) (by kernel_rfl) (fun _ _ _ h => h) (yields_row (by rfl) _ _ rfl w.heap.size (by go_simp) _ (opC a A c).toArray _ (fun w' h => Blk.up hO h) Tryd.underlying30 rfl (by kernel_rfl)) (by assumption) ?_
    change wpAnyH _ _ _ _ _ _ _ (Act.put _ (some 17) _) _
    try (simp only [Act.put, List.setIfInBounds_toArray, List.set_cons_zero, List.set_cons_succ])
    refine wpAnyH_take (i := 4) (v := .agg (opC b B d).toArray) rfl (by kernel_rfl) (by kernel_rfl) (by kernel_rfl) (fun _ _ _ h => h) (yields_row (by rfl) _ _ rfl (w.heap.size + 1) (by go_simp) _ (opC b B d).toArray _ (fun w' h => Blk.up hP h) Tryd.underlying30 rfl (by kernel_rfl)) (by assumption) ?_
    change wpAnyH _ _ _ _ _ _ _ (Act.put _ (some 18) _) _
    try (simp only [Act.put, List.setIfInBounds_toArray, List.set_cons_zero, List.set_cons_succ])
    refine wpAnyH_ready (rs := [2]) (by kernel_rfl) (by simp) ?_
    refine AllReadyH.cons rfl (fun K hK => ?_) AllReadyH.nil
    go_simp
    refine (k0 _ (Up.drew _)).mono ?_
    rintro e y0 ⟨rfl, hby0⟩
    have uy0 : Up w3 y0 := (Up.drew _).trans (Up.of hby0)
    refine hK.out _ _ uy0 (fun hHeld => ?_)
    clear hK K hHeld
    refine wpAnyH_more (S' := fun w' => Up y0 w') (fun w' h => Up.trans uy0 h) _ _ _ _ ?_
    have hHeld := Up.refl y0
    refine wpAnyH_ready (rs := [5]) (by kernel_rfl) (by simp) ?_
    refine AllReadyH.cons rfl (fun K hK => ?_) AllReadyH.nil
    go_simp
    refine (k1 _ ((Up.trans uy0 (Up.refl _)))).mono ?_
    rintro e y1 ⟨rfl, hby1⟩
    have uy1 : Up y0 y1 := Up.of hby1
    refine hK.out _ _ uy1 (fun hHeld => ?_)
    clear hK K hHeld
    refine wpAnyH_more (S' := fun w' => Up y1 w') (fun w' h => Up.trans uy1 h) _ _ _ _ ?_
    have hHeld := Up.refl y1
    refine wpAnyH_take (i := 6) (v := ?_) rfl (by kernel_rfl) (by kernel_rfl) (by kernel_rfl) (fun _ _ _ h => h) (Or.inl ⟨by rfl, ?_⟩) (by assumption) ?_
    rotate_left
    · intro w' hSw; clear hSw; go_simp; try (with_reducible rfl)
    change wpAnyH _ _ _ _ _ _ _ (Act.put _ (some 20) _) _
    try (simp only [Act.put, List.setIfInBounds_toArray, List.set_cons_zero, List.set_cons_succ])
    refine wpAnyH_take (i := 7) (v := ?_) rfl (by kernel_rfl) (by kernel_rfl) (by kernel_rfl) (fun _ _ _ h => h) (Or.inl ⟨by rfl, ?_⟩) (by assumption) ?_
    rotate_left
    · intro w' hSw; clear hSw; go_simp; try (with_reducible rfl)
    change wpAnyH _ _ _ _ _ _ _ (Act.put _ (some 21) _) _
    try (simp only [Act.put, List.setIfInBounds_toArray, List.set_cons_zero, List.set_cons_succ])
    refine wpAnyH_take (i := 8) (v := .agg (opC a A c).toArray) rfl (by kernel_rfl) (by kernel_rfl) (by kernel_rfl) (fun _ _ _ h => h) (yields_row (by rfl) _ _ rfl w.heap.size (by go_simp) _ (opC a A c).toArray _ (fun w' h => Blk.up hO (Up.trans uy0 (Up.trans uy1 h))) Tryd.underlying30 rfl (by kernel_rfl)) (by assumption) ?_
    change wpAnyH _ _ _ _ _ _ _ (Act.put _ (some 22) _) _
    try (simp only [Act.put, List.setIfInBounds_toArray, List.set_cons_zero, List.set_cons_succ])
    refine wpAnyH_take (i := 9) (v := .agg (opC a A c).toArray) rfl (by kernel_rfl) (by kernel_rfl) (by kernel_rfl) (fun _ _ _ h => h) (yields_row (by rfl) _ _ rfl w.heap.size (by go_simp) _ (opC a A c).toArray _ (fun w' h => Blk.up hO (Up.trans uy0 (Up.trans uy1 h))) Tryd.underlying30 rfl (by kernel_rfl)) (by assumption) ?_
    change wpAnyH _ _ _ _ _ _ _ (Act.put _ (some 23) _) _
    try (simp only [Act.put, List.setIfInBounds_toArray, List.set_cons_zero, List.set_cons_succ])
    refine wpAnyH_ready (rs := [10]) (by kernel_rfl) (by simp) ?_
    refine AllReadyH.cons rfl (fun K hK => ?_) AllReadyH.nil
    go_simp
    refine (k2 _ ((Up.trans uy0 ((Up.trans uy1 (Up.refl _)))))).mono ?_
    rintro e y2 ⟨rfl, hby2⟩
    have uy2 : Up y1 y2 := Up.of hby2
    refine hK.out _ _ uy2 (fun hHeld => ?_)
    clear hK K hHeld
    refine wpAnyH_more (S' := fun w' => Up y2 w') (fun w' h => Up.trans uy2 h) _ _ _ _ ?_
    have hHeld := Up.refl y2
    refine wpAnyH_take (i := 11) (v := ?_) rfl (by kernel_rfl) (by kernel_rfl) (by kernel_rfl) (fun _ _ _ h => h) (Or.inl ⟨by rfl, ?_⟩) (by assumption) ?_
    rotate_left
    · intro w' hSw; clear hSw; go_simp; try (with_reducible rfl)
    change wpAnyH _ _ _ _ _ _ _ (Act.put _ (some 25) _) _
    try (simp only [Act.put, List.setIfInBounds_toArray, List.set_cons_zero, List.set_cons_succ])
    refine wpAnyH_take (i := 12) (v := ?_) rfl (by kernel_rfl) (by kernel_rfl) (by kernel_rfl) (fun _ _ _ h => h) (Or.inl ⟨by rfl, ?_⟩) (by assumption) ?_
    rotate_left
    · intro w' hSw; clear hSw; go_simp; try (with_reducible rfl)
    change wpAnyH _ _ _ _ _ _ _ (Act.put _ (some 26) _) _
    try (simp only [Act.put, List.setIfInBounds_toArray, List.set_cons_zero, List.set_cons_succ])
    refine wpAnyH_ready (rs := [13]) (by kernel_rfl) (by simp) ?_
    refine AllReadyH.cons rfl (fun K hK => ?_) AllReadyH.nil
    go_simp
    refine (k3 _ ((Up.trans uy0 ((Up.trans uy1 ((Up.trans uy2 (Up.refl _)))))))).mono ?_
    rintro e y3 ⟨rfl, hby3⟩
    have uy3 : Up y2 y3 := Up.of hby3
    refine hK.out _ _ uy3 (fun hHeld => ?_)
    clear hK K hHeld
    refine wpAnyH_more (S' := fun w' => Up y3 w') (fun w' h => Up.trans uy3 h) _ _ _ _ ?_
    have hHeld := Up.refl y3
    refine wpAnyH_take (i := 14) (v := ?_) rfl (by kernel_rfl) (by kernel_rfl) (by kernel_rfl) (fun _ _ _ h => h) (Or.inl ⟨by rfl, ?_⟩) (by assumption) ?_
    rotate_left
    · intro w' hSw; clear hSw; go_simp; try (with_reducible rfl)
    change wpAnyH _ _ _ _ _ _ _ (Act.put _ (some 28) _) _
    try (simp only [Act.put, List.setIfInBounds_toArray, List.set_cons_zero, List.set_cons_succ])
    refine wpAnyH_take (i := 15) (v := ?_) rfl (by kernel_rfl) (by kernel_rfl) (by kernel_rfl) (fun _ _ _ h => h) (Or.inl ⟨by rfl, ?_⟩) (by assumption) ?_
    rotate_left
    · intro w' hSw; clear hSw; go_simp; try (with_reducible rfl)
    change wpAnyH _ _ _ _ _ _ _ (Act.put _ (some 4) _) _
    try (simp only [Act.put, List.setIfInBounds_toArray, List.set_cons_zero, List.set_cons_succ])
    refine wpAnyH_done (by kernel_rfl) ?_ _
    refine NoPanic.normal ?_
    clear hHeld
    go_wp2_with fail
    go_ret
    exact ⟨rfl, stepB hbe (Up.trans uy0 (Up.trans uy1 (Up.trans uy2 uy3))).b⟩

end Go.Proofs.YtfjiikcbcoohdaaDoor
