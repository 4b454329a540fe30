/-
  The walk of OpsOwn. Conditions: utf8's tables lie as their initialisers lay them.
-/
import Derived.Test.YtfjiikcbcoohdaaDoorZAwake
namespace Go.Proofs.YtfjiikcbcoohdaaDoor
open Go.RowKit
set_option linter.unusedVariables false
set_option linter.unusedSimpArgs false

theorem val_at (x y z : Int) (s : List UInt8) (w : World) : (Instr.field 44 (.agg #[.int .i64 x, .int .i64 y, .int .i64 z, .string ⟨s.toArray⟩]) 0).run Tryd.prog w = .ok (.agg #[.int .i64 x, .int .i64 y]) w := by
  unfold Instr.field
  simp [go_sem, asAgg]
def cntW (o : OP) : Nat → Int
  | 0 => 0
  | k + 1 => cntW o k + (if wrB o ((k : Int) - 1) = true then 1 else 0)
theorem cntW_bd (o : OP) (k : Nat) : 0 ≤ cntW o k ∧ cntW o k ≤ k := by
  induction k with
  | zero => exact ⟨Int.le_refl _, Int.le_refl _⟩
  | succ k ih => rw [cntW]; split <;> omega
theorem wrs_self (o : OP) (f : Int) : wrsB o o.id f = wrB o f := by unfold wrsB; simp
theorem wrs_far {o : OP} {n : Int} (f : Int) (h : n ≠ o.id) : wrsB o n f = false := by unfold wrsB; simp; intro e; exact absurd e.symm h
theorem own_facts {o : OP} (h : checkE o = 0) : 1 ≤ o.ac ∧ (o.kd = 0 ∨ o.kd = 1 ∨ o.kd = 2) ∧ (o.kd = 1 → o.se = 0 ∨ o.se = 1 ∨ o.se = 2) := by
  unfold checkE at h
  by_cases g1 : rightB o.ac o.ad = true
  rotate_left
  · rw [if_neg g1] at h; exact absurd h (by decide)
  rw [if_pos g1] at h
  by_cases g2 : 0 ≤ o.kd ∧ o.kd ≤ 2
  rotate_left
  · rw [if_neg g2] at h; exact absurd h (by decide)
  rw [if_pos g2] at h
  by_cases g3 : recB o = true
  rotate_left
  · rw [if_neg g3] at h; exact absurd h (by decide)
  rw [if_pos g3] at h
  refine ⟨?_, by omega, fun hk => ?_⟩
  · unfold rightB at g1; simp at g1; omega
  · rw [if_neg (by omega), if_pos hk] at h
    have h2 := (orE_zero (orE_zero h).2).1
    unfold setE at h2
    by_cases q0 : o.se = 0
    · exact .inl q0
    · rw [if_neg q0] at h2
      by_cases q1 : o.se = 1 ∨ o.se = 2
      · exact .inr q1
      · rw [if_neg q1] at h2; exact absurd h2 (by decide)
theorem cnt_add {o : OP} (h : o.kd = 0) : cntW o 5 = 3 := by simp [cntW, wrB, fldB, kndB, h]
theorem cnt_set {o : OP} (h : o.kd = 1) (hs : o.se = 0 ∨ o.se = 1 ∨ o.se = 2) : cntW o 5 = 1 := by
  rcases hs with e | e | e <;> simp [cntW, wrB, fldB, kndB, h, e]
theorem cnt_drop {o : OP} (h : o.kd = 2) : cntW o 5 = 0 := by simp [cntW, wrB, fldB, kndB, h]
theorem wr_set {o : OP} (h : o.kd = 1) (hs : o.se = 0 ∨ o.se = 1 ∨ o.se = 2) : wrB o o.se = true := by
  unfold wrB fldB kndB; rcases hs with e | e | e <;> simp [h, e]
theorem fld_of {o : OP} {f : Int} (h : wrB o f = true) : 0 ≤ f ∧ f ≤ 2 := by
  have := wr_cases h; omega
def OwnRel (w : World) (o : OP) (A : Option Addr) (c : Nat) (vn vf : Value) (wr : World) : Prop :=
  ∃ (k : Nat) (f N : Int), k ≤ 5 ∧ vf = .int .i64 f ∧ vn = .int .i64 N ∧ Hid (f = (k : Int) - 1) ∧ Hid (N = cntW o k) ∧ 0 ≤ N ∧ N ≤ 5 ∧ Blk wr w.heap.size 30 (opC o A c).toArray ∧ Below w.heap.size w wr ∧ ∃ wy, wy = wr

set_option maxRecDepth 100000 in
set_option maxHeartbeats 16000000 in
theorem walk_OpsOwn (w : World) (o : OP) (A : Option Addr) (c : Nat) (bd : o.Bd) (hr : Rd w A (ovL o.ov)) (hc : o.ov.length ≤ c) (n : Int) (bn : -9223372036854775808 ≤ n ∧ n ≤ 9223372036854775807) (hT : Tabs w) : Calls Tryd.prog 11 #[opV o A c, .int .i64 n] w fun e w' => e = .returned (.bool true) ∧ Below w.heap.size w w' := by
  rcases hf : fewB o with _ | _
  · have kf := fun w => few_is w (A := A) (c := c) hf
    unfold opV opC at kf ⊢
    go_enter Tryd.func11, Tryd.ntmps11
    go_wp2_with fail
    refine (kf _).mono ?_
    rintro e w2 ⟨rfl, hb2⟩
    have hbe := stepB ((Below.refl w.heap.size w).alloc (Nat.le_refl _) _) hb2
    have hO : Blk w2 w.heap.size 30 (opC o A c).toArray := (Blk.new w 30 (opC o A c).toArray).up (Up.of hb2)
    clear kf hb2
    go_wp2_with fail
    refine (awake_any _ (hT.below hbe)).mono ?_
    rintro e wz ⟨rfl, hbz⟩
    go_wp2_with fail
    go_ret
    exact ⟨rfl, stepB hbe hbz⟩
  have kf := fun w => few_is w (A := A) (c := c) hf
  have k0 := fun w' (h : Below w.heap.size w w') => rcheck_any w' o A c bd (hr.below h) hc
  by_cases h0 : checkE o = 0
  rotate_left
  · have t1 : (checkE o != 0) = true := by simpa using h0
    clear h0
    generalize checkE o = E at *
    unfold opV opC at kf k0 ⊢
    go_enter Tryd.func11, Tryd.ntmps11
    go_wp2_with fail
    refine (kf _).mono ?_
    rintro e w2 ⟨rfl, hb2⟩
    have hbe := stepB ((Below.refl w.heap.size w).alloc (Nat.le_refl _) _) hb2
    have hO : Blk w2 w.heap.size 30 (opC o A c).toArray := (Blk.new w 30 (opC o A c).toArray).up (Up.of hb2)
    clear kf hb2
    obtain ⟨⟨m0, m1, m2, m3⟩, ⟨m4, m5, m6, m7, m8, m9, m10⟩, ⟨m11, m12, m13, m14⟩⟩ := Blk.opAt hO
    go_wp2_with fail
    refine (k0 _ hbe).mono ?_
    rintro e w3 ⟨rfl, hb3⟩
    have hbe := stepB hbe hb3
    clear m0 m1 m2 m3 m4 m5 m6 m7 m8 m9 m10 m11 m12 m13 m14 k0 hb3
    go_wp2_with fail
    refine (awake_any _ (hT.below hbe)).mono ?_
    rintro e wz ⟨rfl, hbz⟩
    go_wp2_with fail
    go_ret
    exact ⟨rfl, stepB hbe hbz⟩
  · obtain ⟨hac, hkd, hse⟩ := own_facts h0
    rw [h0] at k0
    clear h0
    have kN : (n != o.id) = true → ∀ w' f, Calls Tryd.prog 21 #[opV o A c, .int .i64 n, .int .i64 f] w' (RetBool false w') := fun nb w' f => by
      have := oWrites_any w' o A c n f
      rwa [wrs_far f (by simpa using nb)] at this
    unfold opV opC at kf k0 ⊢
    go_enter Tryd.func11, Tryd.ntmps11
    go_wp2_with fail
    refine (kf _).mono ?_
    rintro e w2 ⟨rfl, hb2⟩
    have hbe := stepB ((Below.refl w.heap.size w).alloc (Nat.le_refl _) _) hb2
    have hO : Blk w2 w.heap.size 30 (opC o A c).toArray := (Blk.new w 30 (opC o A c).toArray).up (Up.of hb2)
    clear kf hb2
    obtain ⟨⟨m0, m1, m2, m3⟩, ⟨m4, m5, m6, m7, m8, m9, m10⟩, ⟨m11, m12, m13, m14⟩⟩ := Blk.opAt hO
    go_wp2_with fail
    refine (k0 _ hbe).mono ?_
    rintro e w3 ⟨rfl, hb3⟩
    have hO := hO.up (Up.of hb3)
    have hbe := stepB hbe hb3
    clear m0 m1 m2 m3 m4 m5 m6 m7 m8 m9 m10 m11 m12 m13 m14 k0 hb3
    go_wp2_with fail
    go_loopw [5, 6] (OwnRel w o A c) (fun _ f _ => (4 - intOf f).toNat)
    case atStart => exact ⟨0, -1, 0, by omega, rfl, rfl, rfl, rfl, by omega, by omega, hO, hbe, _, rfl⟩
    case round =>
      clear hO hbe
      obtain ⟨k, f, N, hk, rfl, rfl, hf, hN, hN0, hN5, hO, hbe, wy, hwy⟩ := hrel
      subst hwy
      have hNb : N ≤ k := by rw [hN.out]; exact (cntW_bd o k).2
      by_cases hlt : f ≤ 3
      · have t1 : decide (f ≤ 3) = true := decide_eq_true hlt
        have hk4 : k ≤ 4 := by have := hf.out; omega
        have hfb : -1 ≤ f := by have := hf.out; omega
        have kW := fun w' => oWrites_any w' o A c o.id f
        simp only [wrs_self] at kW
        unfold opV opC at kW
        obtain ⟨⟨m0, m1, m2, m3⟩, ⟨m4, m5, m6, m7, m8, m9, m10⟩, ⟨m11, m12, m13, m14⟩⟩ := Blk.opAt hO
        have HM : Hid (∃ x, x = wy) := ⟨_, rfl⟩
        rcases hw : wrB o f with _ | _
        · have HC : Hid (cntW o (k + 1) = N) := by rw [Hid, cntW, ← hf.out, hw, ← hN.out]; simp
          rw [hw] at kW
          go_wp2_with fail
          refine (kW _).mono ?_
          rintro e w4 ⟨rfl, hb4⟩
          have hO := hO.up (Up.of hb4)
          have hbe := stepB hbe hb4
          clear kW hb4 m0 m1 m2 m3 m4 m5 m6 m7 m8 m9 m10 m11 m12 m13 m14
          have l0 := fun w' (u : Up w4 w') => (Blk.opAt (hO.up u)).1.1
          have l1 := fun w' (u : Up w4 w') => (Blk.opAt (hO.up u)).1.2.1
          have l2 := fun w' (u : Up w4 w') => (Blk.opAt (hO.up u)).2.1.1
          have kN := fun nb w' (u : Up w4 w') => kN nb w' f
          have hV : valC o f = va4 0 0 0 [] := valC_no hw
          have kV : ∀ w', Up w4 w' → Calls Tryd.prog 23 #[opV o A c, .int .i64 f] w' (RetVal (.agg #[.int .i64 0, .int .i64 0, .int .i64 0, .string ⟨#[]⟩]) w') := fun w' u => by
            have := ovalue_any w' o A c f
            rwa [hV] at this
          have hfd := fun w => val_at 0 0 0 [] w
          have hs := fun w => stamp_eql 0 0 o.ac o.ad w
          rw [show ((0 : Int) == o.ac && (0 : Int) == o.ad) = false by rw [show ((0 : Int) == o.ac) = false from beq_eq_false_iff_ne.2 (by omega)]; rfl] at hs
          clear hV hw
          go_upto_region 10 with fail
          rcases nb : (n != o.id) with _ | _
          · clear kN
            refine wp_region_noPanic ?_
            refine wp_region_held_drew (S := fun w' => Up w4 w') (by kernel_rfl) (Up.drew w4) (fun hHeld => ?_)
            refine wpAnyH_take (i := 0) (v := ?_) rfl (by kernel_rfl) (by kernel_rfl) (by kernel_rfl) (fun _ _ _ h => h) (Or.inl ⟨by rfl, ?_⟩) (by assumption) ?_
            rotate_left
            · intro w' hSw; clear hSw; go_simp; try (with_reducible rfl)
            change wpAnyH _ _ _ _ _ _ _ (Act.put _ (some 30) _) _
            try (simp only [Act.put, List.setIfInBounds_toArray, List.set_cons_zero, List.set_cons_succ])
            refine wpAnyH_take (i := 1) (v := .agg (opC o A c).toArray) rfl (by kernel_rfl) (by kernel_rfl) (by kernel_rfl) (fun _ _ _ h => h) (yields_row (by rfl) _ _ rfl w.heap.size (by go_simp) _ (opC o A c).toArray _ (fun w' h => Blk.up hO h) Tryd.underlying30 rfl (by kernel_rfl)) (by assumption) ?_
            change wpAnyH _ _ _ _ _ _ _ (Act.put _ (some 31) _) _
            try (simp only [Act.put, List.setIfInBounds_toArray, List.set_cons_zero, List.set_cons_succ])
            refine wpAnyH_take (i := 2) (v := ?_) rfl (by kernel_rfl) (by kernel_rfl) (by kernel_rfl) (fun _ _ _ h => h) (Or.inl ⟨by rfl, ?_⟩) (by assumption) ?_
            rotate_left
            · intro w' hSw; clear hSw; go_simp; try (with_reducible rfl)
            change wpAnyH _ _ _ _ _ _ _ (Act.put _ (some 32) _) _
            try (simp only [Act.put, List.setIfInBounds_toArray, List.set_cons_zero, List.set_cons_succ])
            refine wpAnyH_take (i := 5) (v := ?_) rfl (by kernel_rfl) (by kernel_rfl) (by kernel_rfl) (fun _ _ _ h => h) (Or.inl ⟨by rfl, ?_⟩) (by assumption) ?_
            rotate_left
            · intro w' hSw; clear hSw; go_simp; try (with_reducible rfl)
            change wpAnyH _ _ _ _ _ _ _ (Act.put _ (some 35) _) _
            try (simp only [Act.put, List.setIfInBounds_toArray, List.set_cons_zero, List.set_cons_succ])
            refine wpAnyH_take (i := 6) (v := ?_) rfl (by kernel_rfl) (by kernel_rfl) (by kernel_rfl) (fun _ _ _ h => h) (Or.inl ⟨by rfl, ?_⟩) (by assumption) ?_
            rotate_left
            · intro w' hS0; go_simp; try (with_reducible rfl)
            change wpAnyH _ _ _ _ _ _ _ (Act.put _ (some 36) _) _
            try (simp only [Act.put, List.setIfInBounds_toArray, List.set_cons_zero, List.set_cons_succ])
            refine wpAnyH_ready (rs := [3]) (by kernel_rfl) (by simp) ?_
            refine AllReadyH.cons rfl (fun K hK => ?_) AllReadyH.nil
            go_simp
            refine (kV _ (Up.drew _)).mono ?_
            rintro e y0 ⟨rfl, hby0⟩
            have uy0 : Up w4 y0 := (Up.drew _).trans (Up.of hby0)
            refine hK.out _ _ uy0 (fun hHeld => ?_)
            clear hK K hHeld
            refine wpAnyH_more (S' := fun w' => Up y0 w') (fun w' h => Up.trans uy0 h) _ _ _ _ ?_
            have hHeld := Up.refl y0
            refine wpAnyH_take (i := 4) (v := ?_) rfl (by kernel_rfl) (by kernel_rfl) (by kernel_rfl) (fun _ _ _ h => h) (Or.inl ⟨by rfl, ?_⟩) (by assumption) ?_
            rotate_left
            · intro w' hSw; clear hSw; go_simp; try (with_reducible rfl)
            change wpAnyH _ _ _ _ _ _ _ (Act.put _ (some 34) _) _
            try (simp only [Act.put, List.setIfInBounds_toArray, List.set_cons_zero, List.set_cons_succ])
            refine wpAnyH_take (i := 7) (v := ?_) rfl (by kernel_rfl) (by kernel_rfl) (by kernel_rfl) (fun _ _ _ h => h) (Or.inl ⟨by rfl, ?_⟩) (by assumption) ?_
            rotate_left
            · intro w' hSw; clear hSw; go_simp; try (with_reducible rfl)
            change wpAnyH _ _ _ _ _ _ _ (Act.put _ (some 37) _) _
            try (simp only [Act.put, List.setIfInBounds_toArray, List.set_cons_zero, List.set_cons_succ])
            refine wpAnyH_take (i := 8) (v := ?_) rfl (by kernel_rfl) (by kernel_rfl) (by kernel_rfl) (fun _ _ _ h => h) (Or.inl ⟨by rfl, ?_⟩) (by assumption) ?_
            rotate_left
            · intro w' hSw; clear hSw; go_simp; try (with_reducible rfl)
            change wpAnyH _ _ _ _ _ _ _ (Act.put _ (some 38) _) _
            try (simp only [Act.put, List.setIfInBounds_toArray, List.set_cons_zero, List.set_cons_succ])
            refine wpAnyH_take (i := 9) (v := ?_) rfl (by kernel_rfl) (by kernel_rfl) (by kernel_rfl) (fun _ _ _ h => h) (Or.inl ⟨by rfl, ?_⟩) (by assumption) ?_
            rotate_left
            · intro w' hSw; clear hSw; go_simp; try (with_reducible rfl)
            change wpAnyH _ _ _ _ _ _ _ (Act.put _ (some 39) _) _
            try (simp only [Act.put, List.setIfInBounds_toArray, List.set_cons_zero, List.set_cons_succ])
            refine wpAnyH_take (i := 10) (v := ?_) rfl (by kernel_rfl) (by kernel_rfl) (by kernel_rfl) (fun _ _ _ h => h) (Or.inl ⟨by rfl, ?_⟩) (by assumption) ?_
            rotate_left
            · intro w' hSw; clear hSw; go_simp; try (with_reducible rfl)
            change wpAnyH _ _ _ _ _ _ _ (Act.put _ (some 40) _) _
            try (simp only [Act.put, List.setIfInBounds_toArray, List.set_cons_zero, List.set_cons_succ])
            refine wpAnyH_take (i := 11) (v := ?_) rfl (by kernel_rfl) (by kernel_rfl) (by kernel_rfl) (fun _ _ _ h => h) (Or.inl ⟨by rfl, ?_⟩) (by assumption) ?_
            rotate_left
            · intro w' hSw; clear hSw; go_simp; try (with_reducible rfl)
            change wpAnyH _ _ _ _ _ _ _ (Act.put _ (some 41) _) _
            try (simp only [Act.put, List.setIfInBounds_toArray, List.set_cons_zero, List.set_cons_succ])
            refine wpAnyH_take (i := 12) (v := ?_) rfl (by kernel_rfl) (by kernel_rfl) (by kernel_rfl) (fun _ _ _ h => h) (Or.inl ⟨by rfl, ?_⟩) (by assumption) ?_
            rotate_left
            · intro w' hSw; clear hSw; go_simp; try (with_reducible rfl)
            change wpAnyH _ _ _ _ _ _ _ (Act.put _ (some 42) _) _
            try (simp only [Act.put, List.setIfInBounds_toArray, List.set_cons_zero, List.set_cons_succ])
            refine wpAnyH_take (i := 13) (v := ?_) rfl (by kernel_rfl) (by kernel_rfl) (by kernel_rfl) (fun _ _ _ h => h) (Or.inl ⟨by rfl, ?_⟩) (by assumption) ?_
            rotate_left
            · intro w' hS1; have hS0 := Up.trans uy0 hS1; go_simp; try (with_reducible rfl)
            change wpAnyH _ _ _ _ _ _ _ (Act.put _ (some 43) _) _
            try (simp only [Act.put, List.setIfInBounds_toArray, List.set_cons_zero, List.set_cons_succ])
            refine wpAnyH_take (i := 14) (v := ?_) rfl (by kernel_rfl) (by kernel_rfl) (by kernel_rfl) (fun _ _ _ h => h) (Or.inl ⟨by rfl, ?_⟩) (by assumption) ?_
            rotate_left
            · intro w' hSw; clear hSw; go_simp; try (with_reducible rfl)
            change wpAnyH _ _ _ _ _ _ _ (Act.put _ (some 44) _) _
            try (simp only [Act.put, List.setIfInBounds_toArray, List.set_cons_zero, List.set_cons_succ])
            refine wpAnyH_take (i := 15) (v := ?_) rfl (by kernel_rfl) (by kernel_rfl) (by kernel_rfl) (fun _ _ _ h => h) (Or.inl ⟨by rfl, ?_⟩) (by assumption) ?_
            rotate_left
            · intro w' hSw; clear hSw; go_simp; try (with_reducible rfl)
            change wpAnyH _ _ _ _ _ _ _ (Act.put _ (some 45) _) _
            try (simp only [Act.put, List.setIfInBounds_toArray, List.set_cons_zero, List.set_cons_succ])
            refine held_skip 16 rfl (by kernel_rfl) (by kernel_rfl) (by kernel_rfl) (fun _ _ _ h => h) (by rfl) (by assumption) ?_
            change wpAnyH _ _ _ _ _ _ _ (Act.put _ (some 46) _) _
            try (simp only [Act.put, List.setIfInBounds_toArray, List.set_cons_zero, List.set_cons_succ])
            refine held_skip 17 rfl (by kernel_rfl) (by kernel_rfl) (by kernel_rfl) (fun _ _ _ h => h) (by rfl) (by assumption) ?_
            change wpAnyH _ _ _ _ _ _ _ (Act.put _ (some 47) _) _
            try (simp only [Act.put, List.setIfInBounds_toArray, List.set_cons_zero, List.set_cons_succ])
            refine held_skip 18 rfl (by kernel_rfl) (by kernel_rfl) (by kernel_rfl) (fun _ _ _ h => h) (by rfl) (by assumption) ?_
            change wpAnyH _ _ _ _ _ _ _ (Act.put _ (some 48) _) _
            try (simp only [Act.put, List.setIfInBounds_toArray, List.set_cons_zero, List.set_cons_succ])
            refine held_skip 19 rfl (by kernel_rfl) (by kernel_rfl) (by kernel_rfl) (fun _ _ _ h => h) (by rfl) (by assumption) ?_
            change wpAnyH _ _ _ _ _ _ _ (Act.put _ (some 49) _) _
            try (simp only [Act.put, List.setIfInBounds_toArray, List.set_cons_zero, List.set_cons_succ])
            refine wpAnyH_take (i := 20) (v := ?_) rfl (by kernel_rfl) (by kernel_rfl) (by kernel_rfl) (fun _ _ _ h => h) (Or.inl ⟨by rfl, ?_⟩) (by assumption) ?_
            rotate_left
            · intro w' hSw; clear hSw; go_simp; try (with_reducible rfl)
            change wpAnyH _ _ _ _ _ _ _ (Act.put _ (some 50) _) _
            try (simp only [Act.put, List.setIfInBounds_toArray, List.set_cons_zero, List.set_cons_succ])
            refine wpAnyH_take (i := 21) (v := ?_) rfl (by kernel_rfl) (by kernel_rfl) (by kernel_rfl) (fun _ _ _ h => h) (Or.inl ⟨by rfl, ?_⟩) (by assumption) ?_
            rotate_left
            · intro w' hSw; clear hSw; go_simp; try (with_reducible rfl)
            change wpAnyH _ _ _ _ _ _ _ (Act.put _ (some 51) _) _
            try (simp only [Act.put, List.setIfInBounds_toArray, List.set_cons_zero, List.set_cons_succ])
            refine wpAnyH_take (i := 22) (v := ?_) rfl (by kernel_rfl) (by kernel_rfl) (by kernel_rfl) (fun _ _ _ h => h) (Or.inl ⟨by rfl, ?_⟩) (by assumption) ?_
            rotate_left
            · intro w' hSw; clear hSw; go_simp; try (with_reducible rfl)
            change wpAnyH _ _ _ _ _ _ _ (Act.put _ (some 52) _) _
            try (simp only [Act.put, List.setIfInBounds_toArray, List.set_cons_zero, List.set_cons_succ])
            refine wpAnyH_take (i := 23) (v := ?_) rfl (by kernel_rfl) (by kernel_rfl) (by kernel_rfl) (fun _ _ _ h => h) (Or.inl ⟨by rfl, ?_⟩) (by assumption) ?_
            rotate_left
            · intro w' hSw; clear hSw; go_simp; try (with_reducible rfl)
            change wpAnyH _ _ _ _ _ _ _ (Act.put _ (some 53) _) _
            try (simp only [Act.put, List.setIfInBounds_toArray, List.set_cons_zero, List.set_cons_succ])
            refine wpAnyH_take (i := 24) (v := ?_) rfl (by kernel_rfl) (by kernel_rfl) (by kernel_rfl) (fun _ _ _ h => h) (Or.inl ⟨by rfl, ?_⟩) (by assumption) ?_
            rotate_left
            · intro w' hSw; clear hSw; go_simp; try (with_reducible rfl)
            change wpAnyH _ _ _ _ _ _ _ (Act.put _ (some 54) _) _
            try (simp only [Act.put, List.setIfInBounds_toArray, List.set_cons_zero, List.set_cons_succ])
            refine held_skip 25 rfl (by kernel_rfl) (by kernel_rfl) (by kernel_rfl) (fun _ _ _ h => h) (by rfl) (by assumption) ?_
            change wpAnyH _ _ _ _ _ _ _ (Act.put _ (some 55) _) _
            try (simp only [Act.put, List.setIfInBounds_toArray, List.set_cons_zero, List.set_cons_succ])
            refine held_skip 26 rfl (by kernel_rfl) (by kernel_rfl) (by kernel_rfl) (fun _ _ _ h => h) (by rfl) (by assumption) ?_
            change wpAnyH _ _ _ _ _ _ _ (Act.put _ (some 56) _) _
            try (simp only [Act.put, List.setIfInBounds_toArray, List.set_cons_zero, List.set_cons_succ])
            refine held_skip 27 rfl (by kernel_rfl) (by kernel_rfl) (by kernel_rfl) (fun _ _ _ h => h) (by rfl) (by assumption) ?_
            change wpAnyH _ _ _ _ _ _ _ (Act.put _ (some 57) _) _
            try (simp only [Act.put, List.setIfInBounds_toArray, List.set_cons_zero, List.set_cons_succ])
            refine held_skip 28 rfl (by kernel_rfl) (by kernel_rfl) (by kernel_rfl) (fun _ _ _ h => h) (by rfl) (by assumption) ?_
            change wpAnyH _ _ _ _ _ _ _ (Act.put _ (some 58) _) _
            try (simp only [Act.put, List.setIfInBounds_toArray, List.set_cons_zero, List.set_cons_succ])
            refine held_skip 29 rfl (by kernel_rfl) (by kernel_rfl) (by kernel_rfl) (fun _ _ _ h => h) (by rfl) (by assumption) ?_
            change wpAnyH _ _ _ _ _ _ _ (Act.put _ (some 59) _) _
            try (simp only [Act.put, List.setIfInBounds_toArray, List.set_cons_zero, List.set_cons_succ])
            refine held_skip 30 rfl (by kernel_rfl) (by kernel_rfl) (by kernel_rfl) (fun _ _ _ h => h) (by rfl) (by assumption) ?_
            change wpAnyH _ _ _ _ _ _ _ (Act.put _ (some 60) _) _
            try (simp only [Act.put, List.setIfInBounds_toArray, List.set_cons_zero, List.set_cons_succ])
            refine wpAnyH_take (i := 31) (v := ?_) rfl (by kernel_rfl) (by kernel_rfl) (by kernel_rfl) (fun _ _ _ h => h) (Or.inl ⟨by rfl, ?_⟩) (by assumption) ?_
            rotate_left
            · intro w' hSw; clear hSw; go_simp; try (with_reducible rfl)
            change wpAnyH _ _ _ _ _ _ _ (Act.put _ (some 61) _) _
            try (simp only [Act.put, List.setIfInBounds_toArray, List.set_cons_zero, List.set_cons_succ])
            refine wpAnyH_take (i := 32) (v := ?_) rfl (by kernel_rfl) (by kernel_rfl) (by kernel_rfl) (fun _ _ _ h => h) (Or.inl ⟨by rfl, ?_⟩) (by assumption) ?_
            rotate_left
            · intro w' hSw; clear hSw; go_simp; try (with_reducible rfl)
            change wpAnyH _ _ _ _ _ _ _ (Act.put _ (some 62) _) _
            try (simp only [Act.put, List.setIfInBounds_toArray, List.set_cons_zero, List.set_cons_succ])
            refine wpAnyH_done (by kernel_rfl) ?_ _
            refine NoPanic.normal ?_
            clear hHeld
            have hO5 := hO.up uy0
            have hbe5 := stepB hbe uy0.b
            clear kV hs hfd l0 l1 l2
            go_wp2_with fail
            go_roundw
            case rel => exact ⟨k + 1, f + 1, _, by omega, rfl, rfl, by rw [Hid, hf.out]; omega, HC.out.symm, by omega, by omega, hO5, hbe5, _, rfl⟩
            case measure => simp [intOf]; omega
          · have kN := kN nb
            refine wp_region_noPanic ?_
            refine wp_region_held_drew (S := fun w' => Up w4 w') (by kernel_rfl) (Up.drew w4) (fun hHeld => ?_)
            refine wpAnyH_take (i := 0) (v := ?_) rfl (by kernel_rfl) (by kernel_rfl) (by kernel_rfl) (fun _ _ _ h => h) (Or.inl ⟨by rfl, ?_⟩) (by assumption) ?_
            rotate_left
            · intro w' hSw; clear hSw; go_simp; try (with_reducible rfl)
            change wpAnyH _ _ _ _ _ _ _ (Act.put _ (some 30) _) _
            try (simp only [Act.put, List.setIfInBounds_toArray, List.set_cons_zero, List.set_cons_succ])
            refine wpAnyH_take (i := 1) (v := .agg (opC o A c).toArray) rfl (by kernel_rfl) (by kernel_rfl) (by kernel_rfl) (fun _ _ _ h => h) (yields_row (by rfl) _ _ rfl w.heap.size (by go_simp) _ (opC o A c).toArray _ (fun w' h => Blk.up hO h) Tryd.underlying30 rfl (by kernel_rfl)) (by assumption) ?_
            change wpAnyH _ _ _ _ _ _ _ (Act.put _ (some 31) _) _
            try (simp only [Act.put, List.setIfInBounds_toArray, List.set_cons_zero, List.set_cons_succ])
            refine wpAnyH_take (i := 2) (v := ?_) rfl (by kernel_rfl) (by kernel_rfl) (by kernel_rfl) (fun _ _ _ h => h) (Or.inl ⟨by rfl, ?_⟩) (by assumption) ?_
            rotate_left
            · intro w' hSw; clear hSw; go_simp; try (with_reducible rfl)
            change wpAnyH _ _ _ _ _ _ _ (Act.put _ (some 32) _) _
            try (simp only [Act.put, List.setIfInBounds_toArray, List.set_cons_zero, List.set_cons_succ])
            refine wpAnyH_take (i := 5) (v := ?_) rfl (by kernel_rfl) (by kernel_rfl) (by kernel_rfl) (fun _ _ _ h => h) (Or.inl ⟨by rfl, ?_⟩) (by assumption) ?_
            rotate_left
            · intro w' hSw; clear hSw; go_simp; try (with_reducible rfl)
            change wpAnyH _ _ _ _ _ _ _ (Act.put _ (some 35) _) _
            try (simp only [Act.put, List.setIfInBounds_toArray, List.set_cons_zero, List.set_cons_succ])
            refine wpAnyH_take (i := 6) (v := ?_) rfl (by kernel_rfl) (by kernel_rfl) (by kernel_rfl) (fun _ _ _ h => h) (Or.inl ⟨by rfl, ?_⟩) (by assumption) ?_
            rotate_left
            · intro w' hS0; go_simp; try (with_reducible rfl)
            change wpAnyH _ _ _ _ _ _ _ (Act.put _ (some 36) _) _
            try (simp only [Act.put, List.setIfInBounds_toArray, List.set_cons_zero, List.set_cons_succ])
            refine wpAnyH_ready (rs := [3]) (by kernel_rfl) (by simp) ?_
            refine AllReadyH.cons rfl (fun K hK => ?_) AllReadyH.nil
            go_simp
            refine (kV _ (Up.drew _)).mono ?_
            rintro e y0 ⟨rfl, hby0⟩
            have uy0 : Up w4 y0 := (Up.drew _).trans (Up.of hby0)
            refine hK.out _ _ uy0 (fun hHeld => ?_)
            clear hK K hHeld
            refine wpAnyH_more (S' := fun w' => Up y0 w') (fun w' h => Up.trans uy0 h) _ _ _ _ ?_
            have hHeld := Up.refl y0
            refine wpAnyH_take (i := 4) (v := ?_) rfl (by kernel_rfl) (by kernel_rfl) (by kernel_rfl) (fun _ _ _ h => h) (Or.inl ⟨by rfl, ?_⟩) (by assumption) ?_
            rotate_left
            · intro w' hSw; clear hSw; go_simp; try (with_reducible rfl)
            change wpAnyH _ _ _ _ _ _ _ (Act.put _ (some 34) _) _
            try (simp only [Act.put, List.setIfInBounds_toArray, List.set_cons_zero, List.set_cons_succ])
            refine wpAnyH_take (i := 7) (v := ?_) rfl (by kernel_rfl) (by kernel_rfl) (by kernel_rfl) (fun _ _ _ h => h) (Or.inl ⟨by rfl, ?_⟩) (by assumption) ?_
            rotate_left
            · intro w' hSw; clear hSw; go_simp; try (with_reducible rfl)
            change wpAnyH _ _ _ _ _ _ _ (Act.put _ (some 37) _) _
            try (simp only [Act.put, List.setIfInBounds_toArray, List.set_cons_zero, List.set_cons_succ])
            refine wpAnyH_take (i := 8) (v := ?_) rfl (by kernel_rfl) (by kernel_rfl) (by kernel_rfl) (fun _ _ _ h => h) (Or.inl ⟨by rfl, ?_⟩) (by assumption) ?_
            rotate_left
            · intro w' hSw; clear hSw; go_simp; try (with_reducible rfl)
            change wpAnyH _ _ _ _ _ _ _ (Act.put _ (some 38) _) _
            try (simp only [Act.put, List.setIfInBounds_toArray, List.set_cons_zero, List.set_cons_succ])
            refine wpAnyH_take (i := 9) (v := ?_) rfl (by kernel_rfl) (by kernel_rfl) (by kernel_rfl) (fun _ _ _ h => h) (Or.inl ⟨by rfl, ?_⟩) (by assumption) ?_
            rotate_left
            · intro w' hSw; clear hSw; go_simp; try (with_reducible rfl)
            change wpAnyH _ _ _ _ _ _ _ (Act.put _ (some 39) _) _
            try (simp only [Act.put, List.setIfInBounds_toArray, List.set_cons_zero, List.set_cons_succ])
            refine wpAnyH_take (i := 10) (v := ?_) rfl (by kernel_rfl) (by kernel_rfl) (by kernel_rfl) (fun _ _ _ h => h) (Or.inl ⟨by rfl, ?_⟩) (by assumption) ?_
            rotate_left
            · intro w' hSw; clear hSw; go_simp; try (with_reducible rfl)
            change wpAnyH _ _ _ _ _ _ _ (Act.put _ (some 40) _) _
            try (simp only [Act.put, List.setIfInBounds_toArray, List.set_cons_zero, List.set_cons_succ])
            refine wpAnyH_take (i := 11) (v := ?_) rfl (by kernel_rfl) (by kernel_rfl) (by kernel_rfl) (fun _ _ _ h => h) (Or.inl ⟨by rfl, ?_⟩) (by assumption) ?_
            rotate_left
            · intro w' hSw; clear hSw; go_simp; try (with_reducible rfl)
            change wpAnyH _ _ _ _ _ _ _ (Act.put _ (some 41) _) _
            try (simp only [Act.put, List.setIfInBounds_toArray, List.set_cons_zero, List.set_cons_succ])
            refine wpAnyH_take (i := 12) (v := ?_) rfl (by kernel_rfl) (by kernel_rfl) (by kernel_rfl) (fun _ _ _ h => h) (Or.inl ⟨by rfl, ?_⟩) (by assumption) ?_
            rotate_left
            · intro w' hSw; clear hSw; go_simp; try (with_reducible rfl)
            change wpAnyH _ _ _ _ _ _ _ (Act.put _ (some 42) _) _
            try (simp only [Act.put, List.setIfInBounds_toArray, List.set_cons_zero, List.set_cons_succ])
            refine wpAnyH_take (i := 13) (v := ?_) rfl (by kernel_rfl) (by kernel_rfl) (by kernel_rfl) (fun _ _ _ h => h) (Or.inl ⟨by rfl, ?_⟩) (by assumption) ?_
            rotate_left
            · intro w' hS1; have hS0 := Up.trans uy0 hS1; go_simp; try (with_reducible rfl)
            change wpAnyH _ _ _ _ _ _ _ (Act.put _ (some 43) _) _
            try (simp only [Act.put, List.setIfInBounds_toArray, List.set_cons_zero, List.set_cons_succ])
            refine wpAnyH_take (i := 14) (v := ?_) rfl (by kernel_rfl) (by kernel_rfl) (by kernel_rfl) (fun _ _ _ h => h) (Or.inl ⟨by rfl, ?_⟩) (by assumption) ?_
            rotate_left
            · intro w' hSw; clear hSw; go_simp; try (with_reducible rfl)
            change wpAnyH _ _ _ _ _ _ _ (Act.put _ (some 44) _) _
            try (simp only [Act.put, List.setIfInBounds_toArray, List.set_cons_zero, List.set_cons_succ])
            refine wpAnyH_take (i := 15) (v := ?_) rfl (by kernel_rfl) (by kernel_rfl) (by kernel_rfl) (fun _ _ _ h => h) (Or.inl ⟨by rfl, ?_⟩) (by assumption) ?_
            rotate_left
            · intro w' hSw; clear hSw; go_simp; try (with_reducible rfl)
            change wpAnyH _ _ _ _ _ _ _ (Act.put _ (some 45) _) _
            try (simp only [Act.put, List.setIfInBounds_toArray, List.set_cons_zero, List.set_cons_succ])
            refine wpAnyH_take (i := 16) (v := .agg (opC o A c).toArray) rfl (by kernel_rfl) (by kernel_rfl) (by kernel_rfl) (fun _ _ _ h => h) (yields_row (by rfl) _ _ rfl w.heap.size (by go_simp) _ (opC o A c).toArray _ (fun w' h => Blk.up hO (Up.trans uy0 h)) Tryd.underlying30 rfl (by kernel_rfl)) (by assumption) ?_
            change wpAnyH _ _ _ _ _ _ _ (Act.put _ (some 46) _) _
            try (simp only [Act.put, List.setIfInBounds_toArray, List.set_cons_zero, List.set_cons_succ])
            refine wpAnyH_take (i := 17) (v := ?_) rfl (by kernel_rfl) (by kernel_rfl) (by kernel_rfl) (fun _ _ _ h => h) (Or.inl ⟨by rfl, ?_⟩) (by assumption) ?_
            rotate_left
            · intro w' hSw; clear hSw; go_simp; try (with_reducible rfl)
            change wpAnyH _ _ _ _ _ _ _ (Act.put _ (some 47) _) _
            try (simp only [Act.put, List.setIfInBounds_toArray, List.set_cons_zero, List.set_cons_succ])
            refine wpAnyH_take (i := 18) (v := ?_) rfl (by kernel_rfl) (by kernel_rfl) (by kernel_rfl) (fun _ _ _ h => h) (Or.inl ⟨by rfl, ?_⟩) (by assumption) ?_
            rotate_left
            · intro w' hSw; clear hSw; go_simp; try (with_reducible rfl)
            change wpAnyH _ _ _ _ _ _ _ (Act.put _ (some 48) _) _
            try (simp only [Act.put, List.setIfInBounds_toArray, List.set_cons_zero, List.set_cons_succ])
            refine wpAnyH_ready (rs := [19]) (by kernel_rfl) (by simp) ?_
            refine AllReadyH.cons rfl (fun K hK => ?_) AllReadyH.nil
            go_simp
            refine (kN _ (Up.trans uy0 (Up.refl _))).mono ?_
            rintro e y1 ⟨rfl, hby1⟩
            have uy1 : Up y0 y1 := Up.of hby1
            refine hK.out _ _ uy1 (fun hHeld => ?_)
            clear hK K hHeld
            refine wpAnyH_more (S' := fun w' => Up y1 w') (fun w' h => Up.trans uy1 h) _ _ _ _ ?_
            have hHeld := Up.refl y1
            refine wpAnyH_take (i := 20) (v := ?_) rfl (by kernel_rfl) (by kernel_rfl) (by kernel_rfl) (fun _ _ _ h => h) (Or.inl ⟨by rfl, ?_⟩) (by assumption) ?_
            rotate_left
            · intro w' hSw; clear hSw; go_simp; try (with_reducible rfl)
            change wpAnyH _ _ _ _ _ _ _ (Act.put _ (some 50) _) _
            try (simp only [Act.put, List.setIfInBounds_toArray, List.set_cons_zero, List.set_cons_succ])
            refine wpAnyH_take (i := 21) (v := ?_) rfl (by kernel_rfl) (by kernel_rfl) (by kernel_rfl) (fun _ _ _ h => h) (Or.inl ⟨by rfl, ?_⟩) (by assumption) ?_
            rotate_left
            · intro w' hSw; clear hSw; go_simp; try (with_reducible rfl)
            change wpAnyH _ _ _ _ _ _ _ (Act.put _ (some 51) _) _
            try (simp only [Act.put, List.setIfInBounds_toArray, List.set_cons_zero, List.set_cons_succ])
            refine wpAnyH_take (i := 22) (v := ?_) rfl (by kernel_rfl) (by kernel_rfl) (by kernel_rfl) (fun _ _ _ h => h) (Or.inl ⟨by rfl, ?_⟩) (by assumption) ?_
            rotate_left
            · intro w' hSw; clear hSw; go_simp; try (with_reducible rfl)
            change wpAnyH _ _ _ _ _ _ _ (Act.put _ (some 52) _) _
            try (simp only [Act.put, List.setIfInBounds_toArray, List.set_cons_zero, List.set_cons_succ])
            refine wpAnyH_take (i := 23) (v := ?_) rfl (by kernel_rfl) (by kernel_rfl) (by kernel_rfl) (fun _ _ _ h => h) (Or.inl ⟨by rfl, ?_⟩) (by assumption) ?_
            rotate_left
            · intro w' hSw; clear hSw; go_simp; try (with_reducible rfl)
            change wpAnyH _ _ _ _ _ _ _ (Act.put _ (some 53) _) _
            try (simp only [Act.put, List.setIfInBounds_toArray, List.set_cons_zero, List.set_cons_succ])
            refine wpAnyH_take (i := 24) (v := ?_) rfl (by kernel_rfl) (by kernel_rfl) (by kernel_rfl) (fun _ _ _ h => h) (Or.inl ⟨by rfl, ?_⟩) (by assumption) ?_
            rotate_left
            · intro w' hSw; clear hSw; go_simp; try (with_reducible rfl)
            change wpAnyH _ _ _ _ _ _ _ (Act.put _ (some 54) _) _
            try (simp only [Act.put, List.setIfInBounds_toArray, List.set_cons_zero, List.set_cons_succ])
            refine held_skip 25 rfl (by kernel_rfl) (by kernel_rfl) (by kernel_rfl) (fun _ _ _ h => h) (by rfl) (by assumption) ?_
            change wpAnyH _ _ _ _ _ _ _ (Act.put _ (some 55) _) _
            try (simp only [Act.put, List.setIfInBounds_toArray, List.set_cons_zero, List.set_cons_succ])
            refine held_skip 26 rfl (by kernel_rfl) (by kernel_rfl) (by kernel_rfl) (fun _ _ _ h => h) (by rfl) (by assumption) ?_
            change wpAnyH _ _ _ _ _ _ _ (Act.put _ (some 56) _) _
            try (simp only [Act.put, List.setIfInBounds_toArray, List.set_cons_zero, List.set_cons_succ])
            refine held_skip 27 rfl (by kernel_rfl) (by kernel_rfl) (by kernel_rfl) (fun _ _ _ h => h) (by rfl) (by assumption) ?_
            change wpAnyH _ _ _ _ _ _ _ (Act.put _ (some 57) _) _
            try (simp only [Act.put, List.setIfInBounds_toArray, List.set_cons_zero, List.set_cons_succ])
            refine held_skip 28 rfl (by kernel_rfl) (by kernel_rfl) (by kernel_rfl) (fun _ _ _ h => h) (by rfl) (by assumption) ?_
            change wpAnyH _ _ _ _ _ _ _ (Act.put _ (some 58) _) _
            try (simp only [Act.put, List.setIfInBounds_toArray, List.set_cons_zero, List.set_cons_succ])
            refine held_skip 29 rfl (by kernel_rfl) (by kernel_rfl) (by kernel_rfl) (fun _ _ _ h => h) (by rfl) (by assumption) ?_
            change wpAnyH _ _ _ _ _ _ _ (Act.put _ (some 59) _) _
            try (simp only [Act.put, List.setIfInBounds_toArray, List.set_cons_zero, List.set_cons_succ])
            refine held_skip 30 rfl (by kernel_rfl) (by kernel_rfl) (by kernel_rfl) (fun _ _ _ h => h) (by rfl) (by assumption) ?_
            change wpAnyH _ _ _ _ _ _ _ (Act.put _ (some 60) _) _
            try (simp only [Act.put, List.setIfInBounds_toArray, List.set_cons_zero, List.set_cons_succ])
            refine wpAnyH_take (i := 31) (v := ?_) rfl (by kernel_rfl) (by kernel_rfl) (by kernel_rfl) (fun _ _ _ h => h) (Or.inl ⟨by rfl, ?_⟩) (by assumption) ?_
            rotate_left
            · intro w' hSw; clear hSw; go_simp; try (with_reducible rfl)
            change wpAnyH _ _ _ _ _ _ _ (Act.put _ (some 61) _) _
            try (simp only [Act.put, List.setIfInBounds_toArray, List.set_cons_zero, List.set_cons_succ])
            refine wpAnyH_take (i := 32) (v := ?_) rfl (by kernel_rfl) (by kernel_rfl) (by kernel_rfl) (fun _ _ _ h => h) (Or.inl ⟨by rfl, ?_⟩) (by assumption) ?_
            rotate_left
            · intro w' hSw; clear hSw; go_simp; try (with_reducible rfl)
            change wpAnyH _ _ _ _ _ _ _ (Act.put _ (some 62) _) _
            try (simp only [Act.put, List.setIfInBounds_toArray, List.set_cons_zero, List.set_cons_succ])
            refine wpAnyH_done (by kernel_rfl) ?_ _
            refine NoPanic.normal ?_
            clear hHeld
            have hO5 := hO.up (Up.trans uy0 uy1)
            have hbe5 := stepB hbe (Up.trans uy0 uy1).b
            clear kV hs hfd l0 l1 l2
            go_wp2_with fail
            go_roundw
            case rel => exact ⟨k + 1, f + 1, _, by omega, rfl, rfl, by rw [Hid, hf.out]; omega, HC.out.symm, by omega, by omega, hO5, hbe5, _, rfl⟩
            case measure => simp [intOf]; omega
        · have HC : Hid (cntW o (k + 1) = N + 1) := by rw [Hid, cntW, ← hf.out, hw, ← hN.out]; simp
          rw [hw] at kW
          go_wp2_with fail
          refine (kW _).mono ?_
          rintro e w4 ⟨rfl, hb4⟩
          have hO := hO.up (Up.of hb4)
          have hbe := stepB hbe hb4
          clear kW hb4 m0 m1 m2 m3 m4 m5 m6 m7 m8 m9 m10 m11 m12 m13 m14
          have l0 := fun w' (u : Up w4 w') => (Blk.opAt (hO.up u)).1.1
          have l1 := fun w' (u : Up w4 w') => (Blk.opAt (hO.up u)).1.2.1
          have l2 := fun w' (u : Up w4 w') => (Blk.opAt (hO.up u)).2.1.1
          have kN := fun nb w' (u : Up w4 w') => kN nb w' f
          have hV : valC o f = va4 o.ac o.ad (vaN o f) (vaT o f) := valC_yes hw
          have kV : ∀ w', Up w4 w' → Calls Tryd.prog 23 #[opV o A c, .int .i64 f] w' (RetVal (.agg #[.int .i64 o.ac, .int .i64 o.ad, .int .i64 (vaN o f), .string ⟨(vaT o f).toArray⟩]) w') := fun w' u => by
            have := ovalue_any w' o A c f
            rwa [hV] at this
          have hfd := fun w => val_at o.ac o.ad (vaN o f) (vaT o f) w
          have hs := fun w => stamp_eql o.ac o.ad o.ac o.ad w
          rw [show (o.ac == o.ac && o.ad == o.ad) = true by simp] at hs
          have fb := fld_of hw
          have b0 : decide (f < 0) = false := decide_eq_false (by omega)
          have b1 : decide (2 < f) = false := decide_eq_false (by omega)
          generalize vaN o f = VN at *
          generalize vaT o f = VT at *
          clear hV hw
          go_upto_region 10 with fail
          rcases nb : (n != o.id) with _ | _
          · clear kN
            refine wp_region_noPanic ?_
            refine wp_region_held_drew (S := fun w' => Up w4 w') (by kernel_rfl) (Up.drew w4) (fun hHeld => ?_)
            refine wpAnyH_take (i := 0) (v := ?_) rfl (by kernel_rfl) (by kernel_rfl) (by kernel_rfl) (fun _ _ _ h => h) (Or.inl ⟨by rfl, ?_⟩) (by assumption) ?_
            rotate_left
            · intro w' hSw; clear hSw; go_simp; try (with_reducible rfl)
            change wpAnyH _ _ _ _ _ _ _ (Act.put _ (some 30) _) _
            try (simp only [Act.put, List.setIfInBounds_toArray, List.set_cons_zero, List.set_cons_succ])
            refine wpAnyH_take (i := 1) (v := .agg (opC o A c).toArray) rfl (by kernel_rfl) (by kernel_rfl) (by kernel_rfl) (fun _ _ _ h => h) (yields_row (by rfl) _ _ rfl w.heap.size (by go_simp) _ (opC o A c).toArray _ (fun w' h => Blk.up hO h) Tryd.underlying30 rfl (by kernel_rfl)) (by assumption) ?_
            change wpAnyH _ _ _ _ _ _ _ (Act.put _ (some 31) _) _
            try (simp only [Act.put, List.setIfInBounds_toArray, List.set_cons_zero, List.set_cons_succ])
            refine wpAnyH_take (i := 2) (v := ?_) rfl (by kernel_rfl) (by kernel_rfl) (by kernel_rfl) (fun _ _ _ h => h) (Or.inl ⟨by rfl, ?_⟩) (by assumption) ?_
            rotate_left
            · intro w' hSw; clear hSw; go_simp; try (with_reducible rfl)
            change wpAnyH _ _ _ _ _ _ _ (Act.put _ (some 32) _) _
            try (simp only [Act.put, List.setIfInBounds_toArray, List.set_cons_zero, List.set_cons_succ])
            refine wpAnyH_take (i := 5) (v := ?_) rfl (by kernel_rfl) (by kernel_rfl) (by kernel_rfl) (fun _ _ _ h => h) (Or.inl ⟨by rfl, ?_⟩) (by assumption) ?_
            rotate_left
            · intro w' hSw; clear hSw; go_simp; try (with_reducible rfl)
            change wpAnyH _ _ _ _ _ _ _ (Act.put _ (some 35) _) _
            try (simp only [Act.put, List.setIfInBounds_toArray, List.set_cons_zero, List.set_cons_succ])
            refine wpAnyH_take (i := 6) (v := ?_) rfl (by kernel_rfl) (by kernel_rfl) (by kernel_rfl) (fun _ _ _ h => h) (Or.inl ⟨by rfl, ?_⟩) (by assumption) ?_
            rotate_left
            · intro w' hS0; go_simp; try (with_reducible rfl)
            change wpAnyH _ _ _ _ _ _ _ (Act.put _ (some 36) _) _
            try (simp only [Act.put, List.setIfInBounds_toArray, List.set_cons_zero, List.set_cons_succ])
            refine wpAnyH_ready (rs := [3]) (by kernel_rfl) (by simp) ?_
            refine AllReadyH.cons rfl (fun K hK => ?_) AllReadyH.nil
            go_simp
            refine (kV _ (Up.drew _)).mono ?_
            rintro e y0 ⟨rfl, hby0⟩
            have uy0 : Up w4 y0 := (Up.drew _).trans (Up.of hby0)
            refine hK.out _ _ uy0 (fun hHeld => ?_)
            clear hK K hHeld
            refine wpAnyH_more (S' := fun w' => Up y0 w') (fun w' h => Up.trans uy0 h) _ _ _ _ ?_
            have hHeld := Up.refl y0
            refine wpAnyH_take (i := 4) (v := ?_) rfl (by kernel_rfl) (by kernel_rfl) (by kernel_rfl) (fun _ _ _ h => h) (Or.inl ⟨by rfl, ?_⟩) (by assumption) ?_
            rotate_left
            · intro w' hSw; clear hSw; go_simp; try (with_reducible rfl)
            change wpAnyH _ _ _ _ _ _ _ (Act.put _ (some 34) _) _
            try (simp only [Act.put, List.setIfInBounds_toArray, List.set_cons_zero, List.set_cons_succ])
            refine wpAnyH_take (i := 7) (v := ?_) rfl (by kernel_rfl) (by kernel_rfl) (by kernel_rfl) (fun _ _ _ h => h) (Or.inl ⟨by rfl, ?_⟩) (by assumption) ?_
            rotate_left
            · intro w' hSw; clear hSw; go_simp; try (with_reducible rfl)
            change wpAnyH _ _ _ _ _ _ _ (Act.put _ (some 37) _) _
            try (simp only [Act.put, List.setIfInBounds_toArray, List.set_cons_zero, List.set_cons_succ])
            refine wpAnyH_take (i := 8) (v := ?_) rfl (by kernel_rfl) (by kernel_rfl) (by kernel_rfl) (fun _ _ _ h => h) (Or.inl ⟨by rfl, ?_⟩) (by assumption) ?_
            rotate_left
            · intro w' hSw; clear hSw; go_simp; try (with_reducible rfl)
            change wpAnyH _ _ _ _ _ _ _ (Act.put _ (some 38) _) _
            try (simp only [Act.put, List.setIfInBounds_toArray, List.set_cons_zero, List.set_cons_succ])
            refine wpAnyH_take (i := 9) (v := ?_) rfl (by kernel_rfl) (by kernel_rfl) (by kernel_rfl) (fun _ _ _ h => h) (Or.inl ⟨by rfl, ?_⟩) (by assumption) ?_
            rotate_left
            · intro w' hSw; clear hSw; go_simp; try (with_reducible rfl)
            change wpAnyH _ _ _ _ _ _ _ (Act.put _ (some 39) _) _
            try (simp only [Act.put, List.setIfInBounds_toArray, List.set_cons_zero, List.set_cons_succ])
            refine wpAnyH_take (i := 10) (v := ?_) rfl (by kernel_rfl) (by kernel_rfl) (by kernel_rfl) (fun _ _ _ h => h) (Or.inl ⟨by rfl, ?_⟩) (by assumption) ?_
            rotate_left
            · intro w' hSw; clear hSw; go_simp; try (with_reducible rfl)
            change wpAnyH _ _ _ _ _ _ _ (Act.put _ (some 40) _) _
            try (simp only [Act.put, List.setIfInBounds_toArray, List.set_cons_zero, List.set_cons_succ])
            refine wpAnyH_take (i := 11) (v := ?_) rfl (by kernel_rfl) (by kernel_rfl) (by kernel_rfl) (fun _ _ _ h => h) (Or.inl ⟨by rfl, ?_⟩) (by assumption) ?_
            rotate_left
            · intro w' hSw; clear hSw; go_simp; try (with_reducible rfl)
            change wpAnyH _ _ _ _ _ _ _ (Act.put _ (some 41) _) _
            try (simp only [Act.put, List.setIfInBounds_toArray, List.set_cons_zero, List.set_cons_succ])
            refine wpAnyH_take (i := 12) (v := ?_) rfl (by kernel_rfl) (by kernel_rfl) (by kernel_rfl) (fun _ _ _ h => h) (Or.inl ⟨by rfl, ?_⟩) (by assumption) ?_
            rotate_left
            · intro w' hSw; clear hSw; go_simp; try (with_reducible rfl)
            change wpAnyH _ _ _ _ _ _ _ (Act.put _ (some 42) _) _
            try (simp only [Act.put, List.setIfInBounds_toArray, List.set_cons_zero, List.set_cons_succ])
            refine wpAnyH_take (i := 13) (v := ?_) rfl (by kernel_rfl) (by kernel_rfl) (by kernel_rfl) (fun _ _ _ h => h) (Or.inl ⟨by rfl, ?_⟩) (by assumption) ?_
            rotate_left
            · intro w' hS1; have hS0 := Up.trans uy0 hS1; go_simp; try (with_reducible rfl)
            change wpAnyH _ _ _ _ _ _ _ (Act.put _ (some 43) _) _
            try (simp only [Act.put, List.setIfInBounds_toArray, List.set_cons_zero, List.set_cons_succ])
            refine wpAnyH_take (i := 14) (v := ?_) rfl (by kernel_rfl) (by kernel_rfl) (by kernel_rfl) (fun _ _ _ h => h) (Or.inl ⟨by rfl, ?_⟩) (by assumption) ?_
            rotate_left
            · intro w' hSw; clear hSw; go_simp; try (with_reducible rfl)
            change wpAnyH _ _ _ _ _ _ _ (Act.put _ (some 44) _) _
            try (simp only [Act.put, List.setIfInBounds_toArray, List.set_cons_zero, List.set_cons_succ])
            refine wpAnyH_take (i := 15) (v := ?_) rfl (by kernel_rfl) (by kernel_rfl) (by kernel_rfl) (fun _ _ _ h => h) (Or.inl ⟨by rfl, ?_⟩) (by assumption) ?_
            rotate_left
            · intro w' hSw; clear hSw; go_simp; try (with_reducible rfl)
            change wpAnyH _ _ _ _ _ _ _ (Act.put _ (some 45) _) _
            try (simp only [Act.put, List.setIfInBounds_toArray, List.set_cons_zero, List.set_cons_succ])
            refine held_skip 16 rfl (by kernel_rfl) (by kernel_rfl) (by kernel_rfl) (fun _ _ _ h => h) (by rfl) (by assumption) ?_
            change wpAnyH _ _ _ _ _ _ _ (Act.put _ (some 46) _) _
            try (simp only [Act.put, List.setIfInBounds_toArray, List.set_cons_zero, List.set_cons_succ])
            refine held_skip 17 rfl (by kernel_rfl) (by kernel_rfl) (by kernel_rfl) (fun _ _ _ h => h) (by rfl) (by assumption) ?_
            change wpAnyH _ _ _ _ _ _ _ (Act.put _ (some 47) _) _
            try (simp only [Act.put, List.setIfInBounds_toArray, List.set_cons_zero, List.set_cons_succ])
            refine held_skip 18 rfl (by kernel_rfl) (by kernel_rfl) (by kernel_rfl) (fun _ _ _ h => h) (by rfl) (by assumption) ?_
            change wpAnyH _ _ _ _ _ _ _ (Act.put _ (some 48) _) _
            try (simp only [Act.put, List.setIfInBounds_toArray, List.set_cons_zero, List.set_cons_succ])
            refine held_skip 19 rfl (by kernel_rfl) (by kernel_rfl) (by kernel_rfl) (fun _ _ _ h => h) (by rfl) (by assumption) ?_
            change wpAnyH _ _ _ _ _ _ _ (Act.put _ (some 49) _) _
            try (simp only [Act.put, List.setIfInBounds_toArray, List.set_cons_zero, List.set_cons_succ])
            refine wpAnyH_take (i := 20) (v := ?_) rfl (by kernel_rfl) (by kernel_rfl) (by kernel_rfl) (fun _ _ _ h => h) (Or.inl ⟨by rfl, ?_⟩) (by assumption) ?_
            rotate_left
            · intro w' hSw; clear hSw; go_simp; try (with_reducible rfl)
            change wpAnyH _ _ _ _ _ _ _ (Act.put _ (some 50) _) _
            try (simp only [Act.put, List.setIfInBounds_toArray, List.set_cons_zero, List.set_cons_succ])
            refine wpAnyH_take (i := 21) (v := ?_) rfl (by kernel_rfl) (by kernel_rfl) (by kernel_rfl) (fun _ _ _ h => h) (Or.inl ⟨by rfl, ?_⟩) (by assumption) ?_
            rotate_left
            · intro w' hSw; clear hSw; go_simp; try (with_reducible rfl)
            change wpAnyH _ _ _ _ _ _ _ (Act.put _ (some 51) _) _
            try (simp only [Act.put, List.setIfInBounds_toArray, List.set_cons_zero, List.set_cons_succ])
            refine wpAnyH_take (i := 22) (v := ?_) rfl (by kernel_rfl) (by kernel_rfl) (by kernel_rfl) (fun _ _ _ h => h) (Or.inl ⟨by rfl, ?_⟩) (by assumption) ?_
            rotate_left
            · intro w' hSw; clear hSw; go_simp; try (with_reducible rfl)
            change wpAnyH _ _ _ _ _ _ _ (Act.put _ (some 52) _) _
            try (simp only [Act.put, List.setIfInBounds_toArray, List.set_cons_zero, List.set_cons_succ])
            refine wpAnyH_take (i := 23) (v := ?_) rfl (by kernel_rfl) (by kernel_rfl) (by kernel_rfl) (fun _ _ _ h => h) (Or.inl ⟨by rfl, ?_⟩) (by assumption) ?_
            rotate_left
            · intro w' hSw; clear hSw; go_simp; try (with_reducible rfl)
            change wpAnyH _ _ _ _ _ _ _ (Act.put _ (some 53) _) _
            try (simp only [Act.put, List.setIfInBounds_toArray, List.set_cons_zero, List.set_cons_succ])
            refine wpAnyH_take (i := 24) (v := ?_) rfl (by kernel_rfl) (by kernel_rfl) (by kernel_rfl) (fun _ _ _ h => h) (Or.inl ⟨by rfl, ?_⟩) (by assumption) ?_
            rotate_left
            · intro w' hSw; clear hSw; go_simp; try (with_reducible rfl)
            change wpAnyH _ _ _ _ _ _ _ (Act.put _ (some 54) _) _
            try (simp only [Act.put, List.setIfInBounds_toArray, List.set_cons_zero, List.set_cons_succ])
            refine wpAnyH_take (i := 25) (v := ?_) rfl (by kernel_rfl) (by kernel_rfl) (by kernel_rfl) (fun _ _ _ h => h) (Or.inl ⟨by rfl, ?_⟩) (by assumption) ?_
            rotate_left
            · intro w' hSw; clear hSw; go_simp; try (with_reducible rfl)
            change wpAnyH _ _ _ _ _ _ _ (Act.put _ (some 55) _) _
            try (simp only [Act.put, List.setIfInBounds_toArray, List.set_cons_zero, List.set_cons_succ])
            refine wpAnyH_take (i := 26) (v := ?_) rfl (by kernel_rfl) (by kernel_rfl) (by kernel_rfl) (fun _ _ _ h => h) (Or.inl ⟨by rfl, ?_⟩) (by assumption) ?_
            rotate_left
            · intro w' hSw; clear hSw; go_simp; try (with_reducible rfl)
            change wpAnyH _ _ _ _ _ _ _ (Act.put _ (some 56) _) _
            try (simp only [Act.put, List.setIfInBounds_toArray, List.set_cons_zero, List.set_cons_succ])
            refine wpAnyH_take (i := 27) (v := ?_) rfl (by kernel_rfl) (by kernel_rfl) (by kernel_rfl) (fun _ _ _ h => h) (Or.inl ⟨by rfl, ?_⟩) (by assumption) ?_
            rotate_left
            · intro w' hSw; clear hSw; go_simp; try (with_reducible rfl)
            change wpAnyH _ _ _ _ _ _ _ (Act.put _ (some 57) _) _
            try (simp only [Act.put, List.setIfInBounds_toArray, List.set_cons_zero, List.set_cons_succ])
            refine wpAnyH_take (i := 28) (v := ?_) rfl (by kernel_rfl) (by kernel_rfl) (by kernel_rfl) (fun _ _ _ h => h) (Or.inl ⟨by rfl, ?_⟩) (by assumption) ?_
            rotate_left
            · intro w' hSw; clear hSw; go_simp; try (with_reducible rfl)
            change wpAnyH _ _ _ _ _ _ _ (Act.put _ (some 58) _) _
            try (simp only [Act.put, List.setIfInBounds_toArray, List.set_cons_zero, List.set_cons_succ])
            refine wpAnyH_take (i := 29) (v := ?_) rfl (by kernel_rfl) (by kernel_rfl) (by kernel_rfl) (fun _ _ _ h => h) (Or.inl ⟨by rfl, ?_⟩) (by assumption) ?_
            rotate_left
            · intro w' hSw; clear hSw; go_simp; try (with_reducible rfl)
            change wpAnyH _ _ _ _ _ _ _ (Act.put _ (some 59) _) _
            try (simp only [Act.put, List.setIfInBounds_toArray, List.set_cons_zero, List.set_cons_succ])
            refine wpAnyH_take (i := 30) (v := ?_) rfl (by kernel_rfl) (by kernel_rfl) (by kernel_rfl) (fun _ _ _ h => h) (Or.inl ⟨by rfl, ?_⟩) (by assumption) ?_
            rotate_left
            · intro w' hSw; clear hSw; go_simp; try (with_reducible rfl)
            change wpAnyH _ _ _ _ _ _ _ (Act.put _ (some 60) _) _
            try (simp only [Act.put, List.setIfInBounds_toArray, List.set_cons_zero, List.set_cons_succ])
            refine wpAnyH_take (i := 31) (v := ?_) rfl (by kernel_rfl) (by kernel_rfl) (by kernel_rfl) (fun _ _ _ h => h) (Or.inl ⟨by rfl, ?_⟩) (by assumption) ?_
            rotate_left
            · intro w' hSw; clear hSw; go_simp; try (with_reducible rfl)
            change wpAnyH _ _ _ _ _ _ _ (Act.put _ (some 61) _) _
            try (simp only [Act.put, List.setIfInBounds_toArray, List.set_cons_zero, List.set_cons_succ])
            refine wpAnyH_take (i := 32) (v := ?_) rfl (by kernel_rfl) (by kernel_rfl) (by kernel_rfl) (fun _ _ _ h => h) (Or.inl ⟨by rfl, ?_⟩) (by assumption) ?_
            rotate_left
            · intro w' hSw; clear hSw; go_simp; try (with_reducible rfl)
            change wpAnyH _ _ _ _ _ _ _ (Act.put _ (some 62) _) _
            try (simp only [Act.put, List.setIfInBounds_toArray, List.set_cons_zero, List.set_cons_succ])
            refine wpAnyH_done (by kernel_rfl) ?_ _
            refine NoPanic.normal ?_
            clear hHeld
            have hO5 := hO.up uy0
            have hbe5 := stepB hbe uy0.b
            clear kV hs hfd l0 l1 l2
            go_wp2_with fail
            go_roundw
            case rel => exact ⟨k + 1, f + 1, _, by omega, rfl, rfl, by rw [Hid, hf.out]; omega, HC.out.symm, by omega, by omega, hO5, hbe5, _, rfl⟩
            case measure => simp [intOf]; omega
          · have kN := kN nb
            refine wp_region_noPanic ?_
            refine wp_region_held_drew (S := fun w' => Up w4 w') (by kernel_rfl) (Up.drew w4) (fun hHeld => ?_)
            refine wpAnyH_take (i := 0) (v := ?_) rfl (by kernel_rfl) (by kernel_rfl) (by kernel_rfl) (fun _ _ _ h => h) (Or.inl ⟨by rfl, ?_⟩) (by assumption) ?_
            rotate_left
            · intro w' hSw; clear hSw; go_simp; try (with_reducible rfl)
            change wpAnyH _ _ _ _ _ _ _ (Act.put _ (some 30) _) _
            try (simp only [Act.put, List.setIfInBounds_toArray, List.set_cons_zero, List.set_cons_succ])
            refine wpAnyH_take (i := 1) (v := .agg (opC o A c).toArray) rfl (by kernel_rfl) (by kernel_rfl) (by kernel_rfl) (fun _ _ _ h => h) (yields_row (by rfl) _ _ rfl w.heap.size (by go_simp) _ (opC o A c).toArray _ (fun w' h => Blk.up hO h) Tryd.underlying30 rfl (by kernel_rfl)) (by assumption) ?_
            change wpAnyH _ _ _ _ _ _ _ (Act.put _ (some 31) _) _
            try (simp only [Act.put, List.setIfInBounds_toArray, List.set_cons_zero, List.set_cons_succ])
            refine wpAnyH_take (i := 2) (v := ?_) rfl (by kernel_rfl) (by kernel_rfl) (by kernel_rfl) (fun _ _ _ h => h) (Or.inl ⟨by rfl, ?_⟩) (by assumption) ?_
            rotate_left
            · intro w' hSw; clear hSw; go_simp; try (with_reducible rfl)
            change wpAnyH _ _ _ _ _ _ _ (Act.put _ (some 32) _) _
            try (simp only [Act.put, List.setIfInBounds_toArray, List.set_cons_zero, List.set_cons_succ])
            refine wpAnyH_take (i := 5) (v := ?_) rfl (by kernel_rfl) (by kernel_rfl) (by kernel_rfl) (fun _ _ _ h => h) (Or.inl ⟨by rfl, ?_⟩) (by assumption) ?_
            rotate_left
            · intro w' hSw; clear hSw; go_simp; try (with_reducible rfl)
            change wpAnyH _ _ _ _ _ _ _ (Act.put _ (some 35) _) _
            try (simp only [Act.put, List.setIfInBounds_toArray, List.set_cons_zero, List.set_cons_succ])
            refine wpAnyH_take (i := 6) (v := ?_) rfl (by kernel_rfl) (by kernel_rfl) (by kernel_rfl) (fun _ _ _ h => h) (Or.inl ⟨by rfl, ?_⟩) (by assumption) ?_
            rotate_left
            · intro w' hS0; go_simp; try (with_reducible rfl)
            change wpAnyH _ _ _ _ _ _ _ (Act.put _ (some 36) _) _
            try (simp only [Act.put, List.setIfInBounds_toArray, List.set_cons_zero, List.set_cons_succ])
            refine wpAnyH_ready (rs := [3]) (by kernel_rfl) (by simp) ?_
            refine AllReadyH.cons rfl (fun K hK => ?_) AllReadyH.nil
            go_simp
            refine (kV _ (Up.drew _)).mono ?_
            rintro e y0 ⟨rfl, hby0⟩
            have uy0 : Up w4 y0 := (Up.drew _).trans (Up.of hby0)
            refine hK.out _ _ uy0 (fun hHeld => ?_)
            clear hK K hHeld
            refine wpAnyH_more (S' := fun w' => Up y0 w') (fun w' h => Up.trans uy0 h) _ _ _ _ ?_
            have hHeld := Up.refl y0
            refine wpAnyH_take (i := 4) (v := ?_) rfl (by kernel_rfl) (by kernel_rfl) (by kernel_rfl) (fun _ _ _ h => h) (Or.inl ⟨by rfl, ?_⟩) (by assumption) ?_
            rotate_left
            · intro w' hSw; clear hSw; go_simp; try (with_reducible rfl)
            change wpAnyH _ _ _ _ _ _ _ (Act.put _ (some 34) _) _
            try (simp only [Act.put, List.setIfInBounds_toArray, List.set_cons_zero, List.set_cons_succ])
            refine wpAnyH_take (i := 7) (v := ?_) rfl (by kernel_rfl) (by kernel_rfl) (by kernel_rfl) (fun _ _ _ h => h) (Or.inl ⟨by rfl, ?_⟩) (by assumption) ?_
            rotate_left
            · intro w' hSw; clear hSw; go_simp; try (with_reducible rfl)
            change wpAnyH _ _ _ _ _ _ _ (Act.put _ (some 37) _) _
            try (simp only [Act.put, List.setIfInBounds_toArray, List.set_cons_zero, List.set_cons_succ])
            refine wpAnyH_take (i := 8) (v := ?_) rfl (by kernel_rfl) (by kernel_rfl) (by kernel_rfl) (fun _ _ _ h => h) (Or.inl ⟨by rfl, ?_⟩) (by assumption) ?_
            rotate_left
            · intro w' hSw; clear hSw; go_simp; try (with_reducible rfl)
            change wpAnyH _ _ _ _ _ _ _ (Act.put _ (some 38) _) _
            try (simp only [Act.put, List.setIfInBounds_toArray, List.set_cons_zero, List.set_cons_succ])
            refine wpAnyH_take (i := 9) (v := ?_) rfl (by kernel_rfl) (by kernel_rfl) (by kernel_rfl) (fun _ _ _ h => h) (Or.inl ⟨by rfl, ?_⟩) (by assumption) ?_
            rotate_left
            · intro w' hSw; clear hSw; go_simp; try (with_reducible rfl)
            change wpAnyH _ _ _ _ _ _ _ (Act.put _ (some 39) _) _
            try (simp only [Act.put, List.setIfInBounds_toArray, List.set_cons_zero, List.set_cons_succ])
            refine wpAnyH_take (i := 10) (v := ?_) rfl (by kernel_rfl) (by kernel_rfl) (by kernel_rfl) (fun _ _ _ h => h) (Or.inl ⟨by rfl, ?_⟩) (by assumption) ?_
            rotate_left
            · intro w' hSw; clear hSw; go_simp; try (with_reducible rfl)
            change wpAnyH _ _ _ _ _ _ _ (Act.put _ (some 40) _) _
            try (simp only [Act.put, List.setIfInBounds_toArray, List.set_cons_zero, List.set_cons_succ])
            refine wpAnyH_take (i := 11) (v := ?_) rfl (by kernel_rfl) (by kernel_rfl) (by kernel_rfl) (fun _ _ _ h => h) (Or.inl ⟨by rfl, ?_⟩) (by assumption) ?_
            rotate_left
            · intro w' hSw; clear hSw; go_simp; try (with_reducible rfl)
            change wpAnyH _ _ _ _ _ _ _ (Act.put _ (some 41) _) _
            try (simp only [Act.put, List.setIfInBounds_toArray, List.set_cons_zero, List.set_cons_succ])
            refine wpAnyH_take (i := 12) (v := ?_) rfl (by kernel_rfl) (by kernel_rfl) (by kernel_rfl) (fun _ _ _ h => h) (Or.inl ⟨by rfl, ?_⟩) (by assumption) ?_
            rotate_left
            · intro w' hSw; clear hSw; go_simp; try (with_reducible rfl)
            change wpAnyH _ _ _ _ _ _ _ (Act.put _ (some 42) _) _
            try (simp only [Act.put, List.setIfInBounds_toArray, List.set_cons_zero, List.set_cons_succ])
            refine wpAnyH_take (i := 13) (v := ?_) rfl (by kernel_rfl) (by kernel_rfl) (by kernel_rfl) (fun _ _ _ h => h) (Or.inl ⟨by rfl, ?_⟩) (by assumption) ?_
            rotate_left
            · intro w' hS1; have hS0 := Up.trans uy0 hS1; go_simp; try (with_reducible rfl)
            change wpAnyH _ _ _ _ _ _ _ (Act.put _ (some 43) _) _
            try (simp only [Act.put, List.setIfInBounds_toArray, List.set_cons_zero, List.set_cons_succ])
            refine wpAnyH_take (i := 14) (v := ?_) rfl (by kernel_rfl) (by kernel_rfl) (by kernel_rfl) (fun _ _ _ h => h) (Or.inl ⟨by rfl, ?_⟩) (by assumption) ?_
            rotate_left
            · intro w' hSw; clear hSw; go_simp; try (with_reducible rfl)
            change wpAnyH _ _ _ _ _ _ _ (Act.put _ (some 44) _) _
            try (simp only [Act.put, List.setIfInBounds_toArray, List.set_cons_zero, List.set_cons_succ])
            refine wpAnyH_take (i := 15) (v := ?_) rfl (by kernel_rfl) (by kernel_rfl) (by kernel_rfl) (fun _ _ _ h => h) (Or.inl ⟨by rfl, ?_⟩) (by assumption) ?_
            rotate_left
            · intro w' hSw; clear hSw; go_simp; try (with_reducible rfl)
            change wpAnyH _ _ _ _ _ _ _ (Act.put _ (some 45) _) _
            try (simp only [Act.put, List.setIfInBounds_toArray, List.set_cons_zero, List.set_cons_succ])
            refine wpAnyH_take (i := 16) (v := .agg (opC o A c).toArray) rfl (by kernel_rfl) (by kernel_rfl) (by kernel_rfl) (fun _ _ _ h => h) (yields_row (by rfl) _ _ rfl w.heap.size (by go_simp) _ (opC o A c).toArray _ (fun w' h => Blk.up hO (Up.trans uy0 h)) Tryd.underlying30 rfl (by kernel_rfl)) (by assumption) ?_
            change wpAnyH _ _ _ _ _ _ _ (Act.put _ (some 46) _) _
            try (simp only [Act.put, List.setIfInBounds_toArray, List.set_cons_zero, List.set_cons_succ])
            refine wpAnyH_take (i := 17) (v := ?_) rfl (by kernel_rfl) (by kernel_rfl) (by kernel_rfl) (fun _ _ _ h => h) (Or.inl ⟨by rfl, ?_⟩) (by assumption) ?_
            rotate_left
            · intro w' hSw; clear hSw; go_simp; try (with_reducible rfl)
            change wpAnyH _ _ _ _ _ _ _ (Act.put _ (some 47) _) _
            try (simp only [Act.put, List.setIfInBounds_toArray, List.set_cons_zero, List.set_cons_succ])
            refine wpAnyH_take (i := 18) (v := ?_) rfl (by kernel_rfl) (by kernel_rfl) (by kernel_rfl) (fun _ _ _ h => h) (Or.inl ⟨by rfl, ?_⟩) (by assumption) ?_
            rotate_left
            · intro w' hSw; clear hSw; go_simp; try (with_reducible rfl)
            change wpAnyH _ _ _ _ _ _ _ (Act.put _ (some 48) _) _
            try (simp only [Act.put, List.setIfInBounds_toArray, List.set_cons_zero, List.set_cons_succ])
            refine wpAnyH_ready (rs := [19]) (by kernel_rfl) (by simp) ?_
            refine AllReadyH.cons rfl (fun K hK => ?_) AllReadyH.nil
            go_simp
            refine (kN _ (Up.trans uy0 (Up.refl _))).mono ?_
            rintro e y1 ⟨rfl, hby1⟩
            have uy1 : Up y0 y1 := Up.of hby1
            refine hK.out _ _ uy1 (fun hHeld => ?_)
            clear hK K hHeld
            refine wpAnyH_more (S' := fun w' => Up y1 w') (fun w' h => Up.trans uy1 h) _ _ _ _ ?_
            have hHeld := Up.refl y1
            refine wpAnyH_take (i := 20) (v := ?_) rfl (by kernel_rfl) (by kernel_rfl) (by kernel_rfl) (fun _ _ _ h => h) (Or.inl ⟨by rfl, ?_⟩) (by assumption) ?_
            rotate_left
            · intro w' hSw; clear hSw; go_simp; try (with_reducible rfl)
            change wpAnyH _ _ _ _ _ _ _ (Act.put _ (some 50) _) _
            try (simp only [Act.put, List.setIfInBounds_toArray, List.set_cons_zero, List.set_cons_succ])
            refine wpAnyH_take (i := 21) (v := ?_) rfl (by kernel_rfl) (by kernel_rfl) (by kernel_rfl) (fun _ _ _ h => h) (Or.inl ⟨by rfl, ?_⟩) (by assumption) ?_
            rotate_left
            · intro w' hSw; clear hSw; go_simp; try (with_reducible rfl)
            change wpAnyH _ _ _ _ _ _ _ (Act.put _ (some 51) _) _
            try (simp only [Act.put, List.setIfInBounds_toArray, List.set_cons_zero, List.set_cons_succ])
            refine wpAnyH_take (i := 22) (v := ?_) rfl (by kernel_rfl) (by kernel_rfl) (by kernel_rfl) (fun _ _ _ h => h) (Or.inl ⟨by rfl, ?_⟩) (by assumption) ?_
            rotate_left
            · intro w' hSw; clear hSw; go_simp; try (with_reducible rfl)
            change wpAnyH _ _ _ _ _ _ _ (Act.put _ (some 52) _) _
            try (simp only [Act.put, List.setIfInBounds_toArray, List.set_cons_zero, List.set_cons_succ])
            refine wpAnyH_take (i := 23) (v := ?_) rfl (by kernel_rfl) (by kernel_rfl) (by kernel_rfl) (fun _ _ _ h => h) (Or.inl ⟨by rfl, ?_⟩) (by assumption) ?_
            rotate_left
            · intro w' hSw; clear hSw; go_simp; try (with_reducible rfl)
            change wpAnyH _ _ _ _ _ _ _ (Act.put _ (some 53) _) _
            try (simp only [Act.put, List.setIfInBounds_toArray, List.set_cons_zero, List.set_cons_succ])
            refine wpAnyH_take (i := 24) (v := ?_) rfl (by kernel_rfl) (by kernel_rfl) (by kernel_rfl) (fun _ _ _ h => h) (Or.inl ⟨by rfl, ?_⟩) (by assumption) ?_
            rotate_left
            · intro w' hSw; clear hSw; go_simp; try (with_reducible rfl)
            change wpAnyH _ _ _ _ _ _ _ (Act.put _ (some 54) _) _
            try (simp only [Act.put, List.setIfInBounds_toArray, List.set_cons_zero, List.set_cons_succ])
            refine wpAnyH_take (i := 25) (v := ?_) rfl (by kernel_rfl) (by kernel_rfl) (by kernel_rfl) (fun _ _ _ h => h) (Or.inl ⟨by rfl, ?_⟩) (by assumption) ?_
            rotate_left
            · intro w' hSw; clear hSw; go_simp; try (with_reducible rfl)
            change wpAnyH _ _ _ _ _ _ _ (Act.put _ (some 55) _) _
            try (simp only [Act.put, List.setIfInBounds_toArray, List.set_cons_zero, List.set_cons_succ])
            refine wpAnyH_take (i := 26) (v := ?_) rfl (by kernel_rfl) (by kernel_rfl) (by kernel_rfl) (fun _ _ _ h => h) (Or.inl ⟨by rfl, ?_⟩) (by assumption) ?_
            rotate_left
            · intro w' hSw; clear hSw; go_simp; try (with_reducible rfl)
            change wpAnyH _ _ _ _ _ _ _ (Act.put _ (some 56) _) _
            try (simp only [Act.put, List.setIfInBounds_toArray, List.set_cons_zero, List.set_cons_succ])
            refine wpAnyH_take (i := 27) (v := ?_) rfl (by kernel_rfl) (by kernel_rfl) (by kernel_rfl) (fun _ _ _ h => h) (Or.inl ⟨by rfl, ?_⟩) (by assumption) ?_
            rotate_left
            · intro w' hSw; clear hSw; go_simp; try (with_reducible rfl)
            change wpAnyH _ _ _ _ _ _ _ (Act.put _ (some 57) _) _
            try (simp only [Act.put, List.setIfInBounds_toArray, List.set_cons_zero, List.set_cons_succ])
            refine wpAnyH_take (i := 28) (v := ?_) rfl (by kernel_rfl) (by kernel_rfl) (by kernel_rfl) (fun _ _ _ h => h) (Or.inl ⟨by rfl, ?_⟩) (by assumption) ?_
            rotate_left
            · intro w' hSw; clear hSw; go_simp; try (with_reducible rfl)
            change wpAnyH _ _ _ _ _ _ _ (Act.put _ (some 58) _) _
            try (simp only [Act.put, List.setIfInBounds_toArray, List.set_cons_zero, List.set_cons_succ])
            refine wpAnyH_take (i := 29) (v := ?_) rfl (by kernel_rfl) (by kernel_rfl) (by kernel_rfl) (fun _ _ _ h => h) (Or.inl ⟨by rfl, ?_⟩) (by assumption) ?_
            rotate_left
            · intro w' hSw; clear hSw; go_simp; try (with_reducible rfl)
            change wpAnyH _ _ _ _ _ _ _ (Act.put _ (some 59) _) _
            try (simp only [Act.put, List.setIfInBounds_toArray, List.set_cons_zero, List.set_cons_succ])
            refine wpAnyH_take (i := 30) (v := ?_) rfl (by kernel_rfl) (by kernel_rfl) (by kernel_rfl) (fun _ _ _ h => h) (Or.inl ⟨by rfl, ?_⟩) (by assumption) ?_
            rotate_left
            · intro w' hSw; clear hSw; go_simp; try (with_reducible rfl)
            change wpAnyH _ _ _ _ _ _ _ (Act.put _ (some 60) _) _
            try (simp only [Act.put, List.setIfInBounds_toArray, List.set_cons_zero, List.set_cons_succ])
            refine wpAnyH_take (i := 31) (v := ?_) rfl (by kernel_rfl) (by kernel_rfl) (by kernel_rfl) (fun _ _ _ h => h) (Or.inl ⟨by rfl, ?_⟩) (by assumption) ?_
            rotate_left
            · intro w' hSw; clear hSw; go_simp; try (with_reducible rfl)
            change wpAnyH _ _ _ _ _ _ _ (Act.put _ (some 61) _) _
            try (simp only [Act.put, List.setIfInBounds_toArray, List.set_cons_zero, List.set_cons_succ])
            refine wpAnyH_take (i := 32) (v := ?_) rfl (by kernel_rfl) (by kernel_rfl) (by kernel_rfl) (fun _ _ _ h => h) (Or.inl ⟨by rfl, ?_⟩) (by assumption) ?_
            rotate_left
            · intro w' hSw; clear hSw; go_simp; try (with_reducible rfl)
            change wpAnyH _ _ _ _ _ _ _ (Act.put _ (some 62) _) _
            try (simp only [Act.put, List.setIfInBounds_toArray, List.set_cons_zero, List.set_cons_succ])
            refine wpAnyH_done (by kernel_rfl) ?_ _
            refine NoPanic.normal ?_
            clear hHeld
            have hO5 := hO.up (Up.trans uy0 uy1)
            have hbe5 := stepB hbe (Up.trans uy0 uy1).b
            clear kV hs hfd l0 l1 l2
            go_wp2_with fail
            go_roundw
            case rel => exact ⟨k + 1, f + 1, _, by omega, rfl, rfl, by rw [Hid, hf.out]; omega, HC.out.symm, by omega, by omega, hO5, hbe5, _, rfl⟩
            case measure => simp [intOf]; omega
      · have t1 : decide (f ≤ 3) = false := decide_eq_false hlt
        have e5 : k = 5 := by have := hf.out; omega
        subst e5
        obtain ⟨⟨m0, m1, m2, m3⟩, ⟨m4, m5, m6, m7, m8, m9, m10⟩, ⟨m11, m12, m13, m14⟩⟩ := Blk.opAt hO
        have hN5 := hN.out
        rcases hkd with hk0 | hk0 | hk0
        · have q0 : (o.kd != 0) = false := by simpa using hk0
          have q1 : (o.kd != 1) = true := by rw [hk0]; rfl
          have q2 : (o.kd != 2) = true := by rw [hk0]; rfl
          have n3 : N = 3 := hN5.trans (cnt_add hk0)
          subst n3
          clear hN5 hk0 hN hf hNb hk
          go_wp2_with fail
          refine (awake_any _ (hT.below hbe)).mono ?_
          rintro e wz ⟨rfl, hbz⟩
          go_wp2_with fail
          go_ret
          exact ⟨rfl, stepB hbe hbz⟩
        · have q0 : (o.kd != 0) = true := by rw [hk0]; rfl
          have q1 : (o.kd != 1) = false := by simpa using hk0
          have q2 : (o.kd != 2) = true := by rw [hk0]; rfl
          have n1 : N = 1 := hN5.trans (cnt_set hk0 (hse hk0))
          subst n1
          have kW : ∀ w', Calls Tryd.prog 21 #[opV o A c, .int .i64 o.id, .int .i64 o.se] w' (RetBool true w') := fun w' => by
            have := oWrites_any w' o A c o.id o.se
            rwa [wrs_self, wr_set hk0 (hse hk0)] at this
          unfold opV opC at kW
          clear hN5 hk0 hN hf hNb hk
          go_wp2_with fail
          refine (kW _).mono ?_
          rintro e w6 ⟨rfl, hb6⟩
          have hO := hO.up (Up.of hb6)
          have hbe := stepB hbe hb6
          clear kW hb6 m0 m1 m2 m3 m4 m5 m6 m7 m8 m9 m10 m11 m12 m13 m14
          obtain ⟨⟨m0, m1, m2, m3⟩, ⟨m4, m5, m6, m7, m8, m9, m10⟩, ⟨m11, m12, m13, m14⟩⟩ := Blk.opAt hO
          go_wp2_with fail
          refine (awake_any _ (hT.below hbe)).mono ?_
          rintro e wz ⟨rfl, hbz⟩
          go_wp2_with fail
          go_ret
          exact ⟨rfl, stepB hbe hbz⟩
        · have q0 : (o.kd != 0) = true := by rw [hk0]; rfl
          have q1 : (o.kd != 1) = true := by rw [hk0]; rfl
          have q2 : (o.kd != 2) = false := by simpa using hk0
          have n0 : N = 0 := hN5.trans (cnt_drop hk0)
          subst n0
          clear hN5 hk0 hN hf hNb hk
          go_wp2_with fail
          refine (awake_any _ (hT.below hbe)).mono ?_
          rintro e wz ⟨rfl, hbz⟩
          go_wp2_with fail
          go_ret
          exact ⟨rfl, stepB hbe hbz⟩
end Go.Proofs.YtfjiikcbcoohdaaDoor
