/-
  The walk of Check of layer 49. Conditions: the operation reads as its type says; utf8's tables lie as their initialisers lay them.
-/
import Derived.Test.YtfjiikcbcoohdaaDoorOpsOver
import Derived.Deep.DeepCutAuto
namespace Go.Proofs.YtfjiikcbcoohdaaDoor
open Go.RowKit
set_option linter.unusedVariables false

theorem plain_cases (o : OP) : (plainE o = 1 ∧ (o.se == 0) = false) ∨ (plainE o = 1 ∧ (o.se == 0) = true ∧ (o.nn == 0) = false) ∨ (plainE o = 1 ∧ (o.se == 0) = true ∧ (o.nn == 0) = true ∧ o.tx.isEmpty = false) ∨
    (plainE o = 0 ∧ (o.se == 0) = true ∧ (o.nn == 0) = true ∧ o.tx.isEmpty = true) := by
  unfold plainE
  by_cases h1 : o.se = 0
  · by_cases h2 : o.nn = 0
    · by_cases h3 : o.tx = []
      · right; right; right; simp [h1, h2, h3]
      · right; right; left; simp [h1, h2, h3]
    · right; left; simp [h1, h2]
  · left; simp [h1]
theorem recB_cases {o : OP} : (recB o = true ∧ decide (o.rc < 1) = false ∧ decide (1099511627776 < o.rc) = false) ∨ (recB o = false ∧ decide (o.rc < 1) = true) ∨ (recB o = false ∧ decide (o.rc < 1) = false ∧ decide (1099511627776 < o.rc) = true) := by
  unfold recB
  simp only [decide_eq_true_eq, decide_eq_false_iff_not]
  omega
theorem opLoad (w : World) : True := trivial
theorem checkE_right {o : OP} (h : rightB o.ac o.ad = false) : checkE o = 27 := by unfold checkE; rw [h]; rfl
theorem checkE_add {o : OP} (h : rightB o.ac o.ad = true) (h1 : (o.kd == 0) = true) : checkE o = if recB o = true then orE (addedE o) (orE (plainE o) (noneE o)) else 2 := by
  have h2 : o.kd = 0 := by simpa using h1
  unfold checkE; rw [h, if_pos rfl, if_pos (by omega), if_pos h2]
theorem checkE_set {o : OP} (h : rightB o.ac o.ad = true) (h1 : (o.kd == 1) = true) : checkE o = if recB o = true then orE (namedE o) (orE (setE o) (overE o)) else 2 := by
  have h2 : o.kd = 1 := by simpa using h1
  unfold checkE; rw [h, if_pos rfl, if_pos (by omega), if_neg (show ¬ o.kd = 0 by omega), if_pos h2]
theorem checkE_drop {o : OP} (h : rightB o.ac o.ad = true) (h1 : (o.kd == 2) = true) : checkE o = if recB o = true then orE (namedE o) (orE (plainE o) (overE o)) else 2 := by
  have h2 : o.kd = 2 := by simpa using h1
  unfold checkE; rw [h, if_pos rfl, if_pos (by omega), if_neg (show ¬ o.kd = 0 by omega), if_neg (show ¬ o.kd = 1 by omega)]
theorem checkE_kind {o : OP} (h : rightB o.ac o.ad = true) (h0 : (o.kd == 0) = false) (h1 : (o.kd == 1) = false) (h2 : (o.kd == 2) = false) : checkE o = 14 := by
  simp at h0 h1 h2
  unfold checkE; rw [h, if_pos rfl, if_neg (by omega)]
theorem wanted_is (w : World) {b : Bool} {n : Int} (h : (if b = true then 0 else 1) = n) : Calls Tryd.prog 27 #[.bool b] w fun e w' => e = .returned (.int .i64 n) ∧ w = w' := by
  subst h; exact wanted_any w b
theorem first3 (w : World) (n : Nat) (x y z : Int) (h : Rd w (some ⟨n, 0, none⟩) [I64 x, I64 y, I64 z]) : Calls Tryd.prog 28 #[.slice (some ⟨n, 0, none⟩) 3 3] w fun e w' => e = .returned (.int .i64 (orE x (orE y z))) ∧ w = w' := by
  have := first_list w (some ⟨n, 0, none⟩) [x, y, z] 3 h (by simp)
  have e : firstE [x, y, z] = orE x (orE y z) := by
    show orE x (orE y (orE z 0)) = _
    have : orE z 0 = z := by unfold orE; split <;> omega
    rw [this]
  rwa [e] at this
set_option maxRecDepth 100000 in
set_option maxHeartbeats 8000000 in
theorem check_any (w : World) (o : OP) (A : Option Addr) (c : Nat) (ho : o.Bd) (hr : Rd w A (ovL o.ov)) (hc : o.ov.length ≤ c) (hT : Tabs w) : Calls Tryd.prog 14 #[opV o A c] w (RetInt (checkE o) w) := by
  unfold opV opC
  rcases h0 : rightB o.ac o.ad with _ | _
  · have HR := Lib.hid (checkE_right h0)
    go_enter Tryd.func14, Tryd.ntmps14
    go_wp2_with fail
    refine (right_is _ h0).mono ?_
    rintro e w' ⟨rfl, rfl⟩
    go_wp2_with fail
    go_ret
    exact ⟨by rw [HR.out]; rfl, ((Below.refl _ _).alloc (Nat.le_refl _) _).alloc (by simp) _⟩
  · have kA := fun w h => added_any w o A c ho.nt h
    have kN := fun w => named_any w o A c ho.id
    have kS := fun w h => set_any w o A c ho.tx h
    have kO := fun w' (hb : Below w.heap.size w w') => over_any w' o A c (hr.below hb) ho.ol hc
    unfold opV opC at kA kN kS kO
    have kW : ∀ w, Calls Tryd.prog 27 #[.bool ((o.ov.length : Int) == 0)] w fun e w' => e = .returned (.int .i64 (noneE o)) ∧ w = w' := fun w => wanted_is w (by unfold noneE; by_cases h : o.ov = [] <;> simp [h])
    have kp := plain_cases o
    have K0 := Lib.hid (fun h => checkE_add (o := o) h0 h)
    have K1 := Lib.hid (fun h => checkE_set (o := o) h0 h)
    have K2 := Lib.hid (fun h => checkE_drop (o := o) h0 h)
    have K3 := Lib.hid (fun a b c => checkE_kind (o := o) h0 a b c)
    have kR := fun w => right_is w h0
    clear h0
    generalize plainE o = PE at *
    generalize addedE o = AE at *
    generalize namedE o = NE at *
    generalize setE o = SE at *
    generalize overE o = OE at *
    generalize noneE o = ME at *
    go_enter Tryd.func14, Tryd.ntmps14
    go_wp2_with fail
    refine (kR _).mono ?_
    rintro e w' ⟨rfl, rfl⟩
    go_upto_region 3 with fail
    obtain ⟨W1, hW1⟩ : ∃ x, (w.alloc (.cells (opC o A c).toArray 30)).alloc (.cells #[.int .i64 o.ac, .int .i64 o.ad] 23) = x := ⟨_, rfl⟩
    have hb1 : Below w.heap.size w W1 := by rw [← hW1]; exact ((Below.refl _ _).alloc (Nat.le_refl _) _).alloc (by simp) _
    have hoa : OpAt W1 w.heap.size o A c := by rw [← hW1]; exact (OpAt.new ..).up (Up.alloc' _ _)
    unfold opC at hW1
    simp only [hW1]
    clear hW1
    go_cut [3] (fun s wx => s = .int .i64 PE ∧ W1 = wx)
    case first =>
      have m := hoa
      obtain ⟨-, -, ⟨m0, m1, m2, -⟩⟩ := m
      rcases kp with ⟨eP, p1⟩ | ⟨eP, p1, p2⟩ | ⟨eP, p1, p2, p3⟩ | ⟨eP, p1, p2, p3⟩
      all_goals
        have eP := Lib.hid eP
        go_wp2_with fail
        refine (wanted_is _ rfl).mono ?_
        rintro e w' ⟨rfl, rfl⟩
        go_wp2_with fail
        go_meet
        exact ⟨by rw [eP.out], rfl⟩
    case rest =>
      obtain ⟨rfl, rfl⟩ := hcut
      clear kp
      have m := hoa
      obtain ⟨⟨m0, m1, m2, m3⟩, ⟨m4, m5, m6, m7, m8, m9, m10⟩, ⟨m11, m12, m13, m14⟩⟩ := m
      by_cases c0 : o.kd = 0
      · have d0 : (o.kd == 0) = true := by simpa using c0
        have hR := Lib.hid (K0.out d0)
        clear K0 K1 K2 K3 c0 kN kS kO
        rcases recB_cases (o := o) with ⟨q, q1, q2⟩ | ⟨q, q1⟩ | ⟨q, q1, q2⟩
        rotate_left
        iterate 2
          · have HR : Hid (checkE o = 2) := by rw [Hid, hR.out, q]; rfl
            clear hR q
            go_wp2_with fail
            go_ret
            exact ⟨by rw [HR.out]; rfl, hb1⟩
        · have HR : Hid (checkE o = orE AE (orE PE ME)) := by rw [Hid, hR.out, q]; rfl
          clear hR q
          go_wp2_with fail
          have R := fun w' (u : Up W1 w') => hoa.up u
          have r0 := fun w' (u : Up W1 w') => (R w' u).1.1
          have r1 := fun w' (u : Up W1 w') => (R w' u).1.2.1
          have r2 := fun w' (u : Up W1 w') => (R w' u).1.2.2.1
          have r3 := fun w' (u : Up W1 w') => (R w' u).1.2.2.2
          have r4 := fun w' (u : Up W1 w') => (R w' u).2.1.1
          have r5 := fun w' (u : Up W1 w') => (R w' u).2.1.2.1
          have r6 := fun w' (u : Up W1 w') => (R w' u).2.1.2.2.1
          have r7 := fun w' (u : Up W1 w') => (R w' u).2.1.2.2.2.1
          have r8 := fun w' (u : Up W1 w') => (R w' u).2.1.2.2.2.2.1
          have r9 := fun w' (u : Up W1 w') => (R w' u).2.1.2.2.2.2.2.1
          have r10 := fun w' (u : Up W1 w') => (R w' u).2.1.2.2.2.2.2.2
          have r11 := fun w' (u : Up W1 w') => (R w' u).2.2.1
          have r12 := fun w' (u : Up W1 w') => (R w' u).2.2.2.1
          have r13 := fun w' (u : Up W1 w') => (R w' u).2.2.2.2.1
          have r14 := fun w' (u : Up W1 w') => (R w' u).2.2.2.2.2
          clear R
          go_region_held3 (fun w' => Up W1 w') (first | assumption | exact Up.drew _ | exact Up.refl _ | exact Up.trans (by assumption) (Up.alloc' _ _) | exact Up.trans (by assumption) (Up.of (by assumption))) (first | (go_at_call 29; refine (kA _ (hT.below (stepB hb1 (Up.b (by first | assumption | exact Up.drew _ | exact Up.refl _))))).mono ?_; rintro e w2 ⟨rfl, hb2⟩) | (go_at_call 27; refine (kW _).mono ?_; rintro e w' ⟨rfl, rfl⟩) | (go_at_call 28; refine (first3 _ _ _ _ _ (by first | exact Rd.newAtD _ [I64 _, I64 _, I64 _] _ _ _ (by simp) | exact Rd.newAt _ [I64 _, I64 _, I64 _] _ _ _ (by simp))).mono ?_; rintro e w' ⟨rfl, rfl⟩))
          clear r0 r1 r2 r3 r4 r5 r6 r7 r8 r9 r10 r11 r12 r13 r14
          go_wp2_with fail
          go_ret
          exact ⟨by rw [HR.out]; rfl, stepB hb1 (Up.b (by assumption))⟩

      · have d0 : (o.kd == 0) = false := by simpa using c0
        by_cases c1 : o.kd = 1
        · have d1 : (o.kd == 1) = true := by simpa using c1
          have hR := Lib.hid (K1.out d1)
          clear K0 K1 K2 K3 c0 c1 kA kW
          go_wp2_with fail
          refine (kS _ (hT.below hb1)).mono ?_
          rintro e w4 ⟨rfl, hb4⟩
          have hb1 := stepB hb1 hb4
          have hoa := hoa.up (Up.of hb4)
          clear m0 m1 m2 m3 m4 m5 m6 m7 m8 m9 m10 m11 m12 m13 m14 hb4
          have m := hoa
          obtain ⟨⟨m0, m1, m2, m3⟩, ⟨m4, m5, m6, m7, m8, m9, m10⟩, ⟨m11, m12, m13, m14⟩⟩ := m
          rcases recB_cases (o := o) with ⟨q, q1, q2⟩ | ⟨q, q1⟩ | ⟨q, q1, q2⟩
          rotate_left
          iterate 2
            · have HR : Hid (checkE o = 2) := by rw [Hid, hR.out, q]; rfl
              clear hR q
              go_wp2_with fail
              go_ret
              exact ⟨by rw [HR.out]; rfl, hb1⟩
          · have HR : Hid (checkE o = orE NE (orE SE OE)) := by rw [Hid, hR.out, q]; rfl
            clear hR q
            go_wp2_with fail
            have R := fun w' (u : Up w4 w') => hoa.up u
            have r0 := fun w' (u : Up w4 w') => (R w' u).1.1
            have r1 := fun w' (u : Up w4 w') => (R w' u).1.2.1
            have r2 := fun w' (u : Up w4 w') => (R w' u).1.2.2.1
            have r3 := fun w' (u : Up w4 w') => (R w' u).1.2.2.2
            have r4 := fun w' (u : Up w4 w') => (R w' u).2.1.1
            have r5 := fun w' (u : Up w4 w') => (R w' u).2.1.2.1
            have r6 := fun w' (u : Up w4 w') => (R w' u).2.1.2.2.1
            have r7 := fun w' (u : Up w4 w') => (R w' u).2.1.2.2.2.1
            have r8 := fun w' (u : Up w4 w') => (R w' u).2.1.2.2.2.2.1
            have r9 := fun w' (u : Up w4 w') => (R w' u).2.1.2.2.2.2.2.1
            have r10 := fun w' (u : Up w4 w') => (R w' u).2.1.2.2.2.2.2.2
            have r11 := fun w' (u : Up w4 w') => (R w' u).2.2.1
            have r12 := fun w' (u : Up w4 w') => (R w' u).2.2.2.1
            have r13 := fun w' (u : Up w4 w') => (R w' u).2.2.2.2.1
            have r14 := fun w' (u : Up w4 w') => (R w' u).2.2.2.2.2
            clear R
            go_region_held3 (fun w' => Up w4 w') (first | assumption | exact Up.drew _ | exact Up.refl _ | exact Up.trans (by assumption) (Up.alloc' _ _) | exact Up.trans (by assumption) (Up.of (by assumption))) (first | (go_at_call 31; refine (kN _).mono ?_; rintro e w2 ⟨rfl, hb2⟩) | (go_at_call 32; refine (kO _ (stepB hb1 (Up.b (by first | assumption | exact Up.drew _ | exact Up.refl _ | exact Up.trans (by assumption) (Up.of (by assumption)))))).mono ?_; rintro e w3 ⟨rfl, hb3⟩) | (go_at_call 28; refine (first3 _ _ _ _ _ (by first | exact Rd.newAtD _ [I64 _, I64 _, I64 _] _ _ _ (by simp) | exact Rd.newAt _ [I64 _, I64 _, I64 _] _ _ _ (by simp))).mono ?_; rintro e w' ⟨rfl, rfl⟩))
            clear r0 r1 r2 r3 r4 r5 r6 r7 r8 r9 r10 r11 r12 r13 r14
            go_wp2_with fail
            go_ret
            exact ⟨by rw [HR.out]; rfl, stepB hb1 (Up.b (by assumption))⟩

        · have d1 : (o.kd == 1) = false := by simpa using c1
          by_cases c2 : o.kd = 2
          · have d2 : (o.kd == 2) = true := by simpa using c2
            have hR := Lib.hid (K2.out d2)
            clear K0 K1 K2 K3 c0 c1 c2 kA kS kW
            rcases recB_cases (o := o) with ⟨q, q1, q2⟩ | ⟨q, q1⟩ | ⟨q, q1, q2⟩
            rotate_left
            iterate 2
              · have HR : Hid (checkE o = 2) := by rw [Hid, hR.out, q]; rfl
                clear hR q
                go_wp2_with fail
                go_ret
                exact ⟨by rw [HR.out]; rfl, hb1⟩
            · have HR : Hid (checkE o = orE NE (orE PE OE)) := by rw [Hid, hR.out, q]; rfl
              clear hR q
              go_wp2_with fail
              have R := fun w' (u : Up W1 w') => hoa.up u
              have r0 := fun w' (u : Up W1 w') => (R w' u).1.1
              have r1 := fun w' (u : Up W1 w') => (R w' u).1.2.1
              have r2 := fun w' (u : Up W1 w') => (R w' u).1.2.2.1
              have r3 := fun w' (u : Up W1 w') => (R w' u).1.2.2.2
              have r4 := fun w' (u : Up W1 w') => (R w' u).2.1.1
              have r5 := fun w' (u : Up W1 w') => (R w' u).2.1.2.1
              have r6 := fun w' (u : Up W1 w') => (R w' u).2.1.2.2.1
              have r7 := fun w' (u : Up W1 w') => (R w' u).2.1.2.2.2.1
              have r8 := fun w' (u : Up W1 w') => (R w' u).2.1.2.2.2.2.1
              have r9 := fun w' (u : Up W1 w') => (R w' u).2.1.2.2.2.2.2.1
              have r10 := fun w' (u : Up W1 w') => (R w' u).2.1.2.2.2.2.2.2
              have r11 := fun w' (u : Up W1 w') => (R w' u).2.2.1
              have r12 := fun w' (u : Up W1 w') => (R w' u).2.2.2.1
              have r13 := fun w' (u : Up W1 w') => (R w' u).2.2.2.2.1
              have r14 := fun w' (u : Up W1 w') => (R w' u).2.2.2.2.2
              clear R
              go_region_held3 (fun w' => Up W1 w') (first | assumption | exact Up.drew _ | exact Up.refl _ | exact Up.trans (by assumption) (Up.alloc' _ _) | exact Up.trans (by assumption) (Up.of (by assumption))) (first | (go_at_call 31; refine (kN _).mono ?_; rintro e w2 ⟨rfl, hb2⟩) | (go_at_call 32; refine (kO _ (stepB hb1 (Up.b (by first | assumption | exact Up.drew _ | exact Up.refl _ | exact Up.trans (by assumption) (Up.of (by assumption)))))).mono ?_; rintro e w3 ⟨rfl, hb3⟩) | (go_at_call 28; refine (first3 _ _ _ _ _ (by first | exact Rd.newAtD _ [I64 _, I64 _, I64 _] _ _ _ (by simp) | exact Rd.newAt _ [I64 _, I64 _, I64 _] _ _ _ (by simp))).mono ?_; rintro e w' ⟨rfl, rfl⟩))
              clear r0 r1 r2 r3 r4 r5 r6 r7 r8 r9 r10 r11 r12 r13 r14
              go_wp2_with fail
              go_ret
              exact ⟨by rw [HR.out]; rfl, stepB hb1 (Up.b (by assumption))⟩

          · have d2 : (o.kd == 2) = false := by simpa using c2
            have HR := Lib.hid (K3.out d0 d1 d2)
            clear K0 K1 K2 K3 c0 c1 c2
            go_wp2_with fail
            go_ret
            exact ⟨by rw [HR.out]; rfl, hb1⟩
end Go.Proofs.YtfjiikcbcoohdaaDoor
