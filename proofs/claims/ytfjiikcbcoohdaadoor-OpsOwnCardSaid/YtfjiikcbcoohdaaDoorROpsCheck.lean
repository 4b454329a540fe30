/-
  The walks of the reference's set, over and Check of layer 49. Conditions: numbers are ints; the list reads as pairs of ints.
-/
import Derived.Test.YtfjiikcbcoohdaaDoorROpsLeaf
namespace Go.Proofs.YtfjiikcbcoohdaaDoor
open Go.RowKit
set_option linter.unusedVariables false

/-- the error of the value, as the reference says it -/
def rsetE (o : OP) : Int := if o.kd = 1 then setE o else plainE o
def roverE (o : OP) : Int := if o.kd = 0 then noneE o else overE o
theorem checkE_ref (o : OP) : checkE o = if rightB o.ac o.ad = true then (if decide (0 ≤ o.kd ∧ o.kd ≤ 2) = true then (if recB o = true then orE (noteE o) (orE (rsetE o) (roverE o)) else 2) else 14) else 27 := by
  unfold checkE noteE rsetE roverE
  by_cases h0 : o.kd = 0
  · simp [h0]
  · by_cases h1 : o.kd = 1
    · simp [h1]
    · by_cases h2 : o.kd = 2
      · simp [h2]
      · have : ¬ (0 ≤ o.kd ∧ o.kd ≤ 2) := by omega
        simp only [this, if_false, decide_false, Bool.false_eq_true]
theorem bne_of {x y : Int} {r : Bool} (h : (x == y) = r) : (x != y) = !r := by rw [← h]; rfl

set_option maxRecDepth 100000 in
set_option maxHeartbeats 4000000 in
theorem rset_plain (w : World) (o : OP) (A : Option Addr) (c : Nat) (h0 : o.kd ≠ 1) : Calls Tryd.prog 37 #[opV o A c] w (RetInt (plainE o) w) := by
  unfold opV opC
  have k0 : (o.kd != 1) = true := by simpa using h0
  clear h0
  rcases plain_cases o with ⟨eP, p1⟩ | ⟨eP, p1, p2⟩ | ⟨eP, p1, p2, p3⟩ | ⟨eP, p1, p2, p3⟩
  · have q1 : (o.se != 0) = true := bne_of p1
    have HR := Lib.hid eP
    clear eP
    go_enter Tryd.func37, Tryd.ntmps37
    go_wp2_with fail
    go_ret
    exact ⟨by rw [HR.out]; rfl, (Below.refl _ _).alloc (Nat.le_refl _) _⟩
  · have q1 : (o.se != 0) = false := bne_of p1
    have q2 : (o.nn != 0) = true := bne_of p2
    have HR := Lib.hid eP
    clear eP
    go_enter Tryd.func37, Tryd.ntmps37
    go_wp2_with fail
    go_ret
    exact ⟨by rw [HR.out]; rfl, (Below.refl _ _).alloc (Nat.le_refl _) _⟩
  · have q1 : (o.se != 0) = false := bne_of p1
    have q2 : (o.nn != 0) = false := bne_of p2
    have q3 : ¬ o.tx = [] := by intro h; rw [h] at p3; cases p3
    have HR := Lib.hid eP
    clear eP
    go_enter Tryd.func37, Tryd.ntmps37
    go_wp2_with fail
    go_ret
    exact ⟨by rw [HR.out]; rfl, (Below.refl _ _).alloc (Nat.le_refl _) _⟩
  · have q1 : (o.se != 0) = false := bne_of p1
    have q2 : (o.nn != 0) = false := bne_of p2
    have q3 : o.tx = [] := by simpa using p3
    have HR := Lib.hid eP
    clear eP
    rw [q3]
    go_enter Tryd.func37, Tryd.ntmps37
    go_wp2_with fail
    go_ret
    exact ⟨by rw [HR.out]; rfl, (Below.refl _ _).alloc (Nat.le_refl _) _⟩

set_option maxRecDepth 100000 in
set_option maxHeartbeats 4000000 in
theorem rset_set (w : World) (o : OP) (A : Option Addr) (c : Nat) (hn : o.tx.length ≤ maxLen) (h0 : o.kd = 1) : Calls Tryd.prog 37 #[opV o A c] w (RetInt (setE o) w) := by
  unfold opV opC
  have k0 : (o.kd != 1) = false := by simpa using h0
  clear h0
  have kT := fun w => rtext_any w o.tx hn
  have hb1 := Lib.hid (fun x => (Below.refl w.heap.size w).alloc (Nat.le_refl _) x)
  have hE : Hid (setE o = if o.se = 0 then (if o.nn = 0 then textE o.tx else 1) else if o.se = 1 ∨ o.se = 2 then (if 0 ≤ o.nn ∧ o.nn ≤ 86400000 then (if o.tx = [] then 0 else 1) else 2) else 14) := rfl
  generalize textE o.tx = TE at *
  by_cases hs : 0 ≤ o.se ∧ o.se ≤ 2
  · have kS := fun w => within_is w (decide_eq_true hs)
    by_cases h0 : o.se = 0
    · have p0 : (o.se == 0) = true := by simpa using h0
      by_cases h1 : o.nn = 0
      · have p1 : (o.nn != 0) = false := by simpa using h1
        have HR : Hid (setE o = TE) := by rw [Hid, hE.out, if_pos h0, if_pos h1]
        clear hE h0 h1 hs
        go_enter Tryd.func37, Tryd.ntmps37
        go_wp2_with fail
        refine (kS _).mono ?_
        rintro e w' ⟨rfl, rfl⟩
        go_wp2_with fail
        refine (kT _).mono ?_
        rintro e w2 ⟨rfl, hb2⟩
        go_wp2_with fail
        go_ret
        exact ⟨by rw [HR.out]; rfl, stepB (hb1.out _) hb2⟩
      · have p1 : (o.nn != 0) = true := by simpa using h1
        have HR : Hid (setE o = 1) := by rw [Hid, hE.out, if_pos h0, if_neg h1]
        clear hE h0 h1 hs
        go_enter Tryd.func37, Tryd.ntmps37
        go_wp2_with fail
        refine (kS _).mono ?_
        rintro e w' ⟨rfl, rfl⟩
        go_wp2_with fail
        go_ret
        exact ⟨by rw [HR.out]; rfl, hb1.out _⟩
    · have p0 : (o.se == 0) = false := by simpa using h0
      have hE2 : Hid (setE o = if 0 ≤ o.nn ∧ o.nn ≤ 86400000 then (if o.tx = [] then 0 else 1) else 2) := by rw [Hid, hE.out, if_neg h0, if_pos (by omega)]
      clear hE h0 hs
      by_cases h2 : 0 ≤ o.nn ∧ o.nn ≤ 86400000
      · have kN := fun w => within_is w (decide_eq_true h2)
        by_cases h3 : o.tx = []
        · have HR : Hid (setE o = 0) := by rw [Hid, hE2.out, if_pos h2, if_pos h3]
          clear hE2 h2
          rw [h3]
          go_enter Tryd.func37, Tryd.ntmps37
          go_wp2_with fail
          refine (kS _).mono ?_
          rintro e w' ⟨rfl, rfl⟩
          go_wp2_with fail
          refine (kN _).mono ?_
          rintro e w' ⟨rfl, rfl⟩
          go_wp2_with fail
          go_ret
          exact ⟨by rw [HR.out]; rfl, hb1.out _⟩
        · have HR : Hid (setE o = 1) := by rw [Hid, hE2.out, if_pos h2, if_neg h3]
          have q3 : o.tx.isEmpty = false := by simpa using h3
          clear hE2 h2
          go_enter Tryd.func37, Tryd.ntmps37
          go_wp2_with fail
          refine (kS _).mono ?_
          rintro e w' ⟨rfl, rfl⟩
          go_wp2_with fail
          refine (kN _).mono ?_
          rintro e w' ⟨rfl, rfl⟩
          go_wp2_with fail
          go_ret
          exact ⟨by rw [HR.out]; rfl, hb1.out _⟩
      · have kN := fun w => within_is w (decide_eq_false h2)
        have HR : Hid (setE o = 2) := by rw [Hid, hE2.out, if_neg h2]
        clear hE2 h2
        go_enter Tryd.func37, Tryd.ntmps37
        go_wp2_with fail
        refine (kS _).mono ?_
        rintro e w' ⟨rfl, rfl⟩
        go_wp2_with fail
        refine (kN _).mono ?_
        rintro e w' ⟨rfl, rfl⟩
        go_wp2_with fail
        go_ret
        exact ⟨by rw [HR.out]; rfl, hb1.out _⟩
  · have kS := fun w => within_is w (decide_eq_false hs)
    have HR : Hid (setE o = 14) := by rw [Hid, hE.out, if_neg (by omega), if_neg (by omega)]
    clear hE hs
    go_enter Tryd.func37, Tryd.ntmps37
    go_wp2_with fail
    refine (kS _).mono ?_
    rintro e w' ⟨rfl, rfl⟩
    go_wp2_with fail
    go_ret
    exact ⟨by rw [HR.out]; rfl, hb1.out _⟩
theorem rset_any (w : World) (o : OP) (A : Option Addr) (c : Nat) (hn : o.tx.length ≤ maxLen) : Calls Tryd.prog 37 #[opV o A c] w (RetInt (rsetE o) w) := by
  unfold rsetE
  by_cases h : o.kd = 1
  · rw [if_pos h]; exact rset_set w o A c hn h
  · rw [if_neg h]; exact rset_plain w o A c h
theorem rnote_any (w : World) (o : OP) (A : Option Addr) (c : Nat) (ho : o.Bd) : Calls Tryd.prog 36 #[opV o A c] w (RetInt (noteE o) w) := by
  unfold noteE
  by_cases h : o.kd = 0
  · rw [if_pos h]; exact rnote_add w o A c ho.nt h
  · rw [if_neg h]; exact rnote_named w o A c ho.id h

set_option maxRecDepth 100000 in
set_option maxHeartbeats 4000000 in
theorem rover_add (w : World) (o : OP) (A : Option Addr) (c : Nat) (h0 : o.kd = 0) : Calls Tryd.prog 38 #[opV o A c] w (RetInt (noneE o) w) := by
  unfold opV opC
  have k0 : (o.kd == 0) = true := by simpa using h0
  clear h0
  by_cases h : o.ov.length = 0
  · have HR : Hid (noneE o = 0) := by rw [Hid, noneE, if_pos (List.eq_nil_of_length_eq_zero h)]
    have p0 : decide (0 < o.ov.length) = false := decide_eq_false (by omega)
    clear h
    go_enter Tryd.func38, Tryd.ntmps38
    go_wp2_with fail
    go_ret
    exact ⟨by rw [HR.out]; rfl, (Below.refl _ _).alloc (Nat.le_refl _) _⟩
  · have HR : Hid (noneE o = 1) := by rw [Hid, noneE, if_neg (by intro e; rw [e] at h; exact h rfl)]
    have p0 : decide (0 < o.ov.length) = true := decide_eq_true (by omega)
    clear h
    go_enter Tryd.func38, Tryd.ntmps38
    go_wp2_with fail
    go_ret
    exact ⟨by rw [HR.out]; rfl, (Below.refl _ _).alloc (Nat.le_refl _) _⟩

set_option maxRecDepth 100000 in
set_option maxHeartbeats 8000000 in
theorem rover_more (w : World) (o : OP) (A : Option Addr) (c : Nat) (hr : Rd w A (ovL o.ov)) (hl : o.ov.length ≤ maxLen) (hc : o.ov.length ≤ c) (h0 : o.kd ≠ 0) : Calls Tryd.prog 38 #[opV o A c] w (RetInt (overE o) w) := by
  unfold opV opC
  unfold maxLen at hl
  have k0 : (o.kd == 0) = false := by simpa using h0
  clear h0
  have hE : Hid (overE o = if o.ov = [] then 4 else if o.ov.length ≤ 16 then ovGo o.ac o.ad 0 (0, 0) o.ov else 11) := rfl
  have hb1 := Lib.hid (fun x => (Below.refl w.heap.size w).alloc (Nat.le_refl _) x)
  by_cases h0 : o.ov.length = 0
  · have HR : Hid (overE o = 4) := by rw [Hid, hE.out, if_pos (List.eq_nil_of_length_eq_zero h0)]
    have p0 : ((o.ov.length : Int) == 0) = true := beq_iff_eq.2 (by omega)
    clear hE h0
    go_enter Tryd.func38, Tryd.ntmps38
    go_wp2_with fail
    go_ret
    exact ⟨by rw [HR.out]; rfl, hb1.out _⟩
  · have p0 : ((o.ov.length : Int) == 0) = false := beq_eq_false_iff_ne.2 (by omega)
    by_cases h1 : o.ov.length ≤ 16
    · have p1 : decide (16 < (o.ov.length : Int)) = false := decide_eq_false (by omega)
      have HR : Hid (overE o = ovGo o.ac o.ad 0 (0, 0) o.ov) := by rw [Hid, hE.out, if_neg (by intro e; rw [e] at h0; exact h0 rfl), if_pos h1]
      clear hE
      go_enter Tryd.func38, Tryd.ntmps38
      go_wp2_with fail
      obtain ⟨W1, hW1⟩ : ∃ x, w.alloc (.cells (opC o A c).toArray 30) = x := ⟨_, rfl⟩
      have hb1 : Below w.heap.size w W1 := by rw [← hW1]; exact (Below.refl _ _).alloc (Nat.le_refl _) _
      have ho : OpAt W1 w.heap.size o A c := by rw [← hW1]; exact OpAt.new ..
      unfold opC at hW1
      simp only [hW1]
      clear hW1
      have hr1 := hr.below hb1
      go_loopw [22] (OverRel w W1 o) (fun i _ => o.ov.length - (intOf i).toNat)
      case atStart => exact ⟨0, by omega, rfl, rfl, Up.refl _⟩
      case round =>
        obtain ⟨k, hk, rfl, hK, hu⟩ := hrel
        by_cases hlt : k < o.ov.length
        · have t1 : decide ((k : Int) < (o.ov.length : Int)) = true := decide_eq_true (by omega)
          have t2 : (k : Int) < (o.ov.length : Int) := by omega
          have t3 : 0 ≤ (k : Int) := by omega
          obtain ⟨b, off, rfl, hc0, hc1⟩ := ov_cells (hu.rd hr1) hlt
          have hD := ovGo_drop (a := o.ac) (b := o.ad) (p := prevAt o.ov k) hlt
          have HD := Lib.hid hD
          have HPn := Lib.hid (prevAt_next hlt)
          clear hD
          obtain ⟨⟨x, y⟩, hxy⟩ : ∃ s, o.ov[k] = s := ⟨_, rfl⟩
          rw [hxy] at hc0 hc1 HD HPn
          clear hxy
          dsimp only at hc0 hc1 HD
          have hoW := ho.up hu
          have hru := hu.rd hr1
          have l0 := fun w' (u : Up wr w') => u.cell hc0
          have l1 := fun w' (u : Up wr w') => u.cell hc1
          have l2 := fun w' (u : Up wr w') => (hoW.up u).2.2.2.2.2
          have l3 := fun w' (u : Up wr w') => (hoW.up u).1.1
          have l4 := fun w' (u : Up wr w') => (hoW.up u).1.2.1
          clear hc0 hc1
          rcases r1 : rightB x y with _ | _
          · have HV : Hid (overE o = 27) := by rw [Hid, HR.out, hK.out, HD.out, r1]; rfl
            have kRb : ∀ w, Calls Tryd.prog 33 #[.agg #[.int .i64 x, .int .i64 y]] w (RetBool false w) := fun w => (rright_is w r1).mono fun _ _ h => ⟨h.1, by rw [← h.2]; exact (Below.refl _ _).alloc (Nat.le_refl _) _⟩
            clear HD r1
            go_wp2_with fail
            refine wp_region_noPanic ?_
            refine wp_region_held_drew (S := fun w' => Up wr w') (by kernel_rfl) (Up.drew wr) (fun hHeld => ?_)
            refine wpAnyH_take (i := 0) (v := ?_) rfl (by kernel_rfl) (by kernel_rfl) (by kernel_rfl) (fun _ _ _ h => h) (Or.inl ⟨by rfl, ?_⟩) (by assumption) ?_
            rotate_left
            · intro w' hSw; clear hSw; go_simp; try (with_reducible rfl)
            change wpAnyH _ _ _ _ _ _ _ (Act.put _ (some 25) _) _
            try (simp only [Act.put, List.setIfInBounds_toArray, List.set_cons_zero, List.set_cons_succ])
            refine wpAnyH_take (i := 1) (v := ?_) rfl (by kernel_rfl) (by kernel_rfl) (by kernel_rfl) (fun _ _ _ h => h) (Or.inl ⟨by rfl, ?_⟩) (by assumption) ?_
            rotate_left
            · intro w' hS0; go_simp; try (with_reducible rfl)
            change wpAnyH _ _ _ _ _ _ _ (Act.put _ (some 26) _) _
            try (simp only [Act.put, List.setIfInBounds_toArray, List.set_cons_zero, List.set_cons_succ])
            refine wpAnyH_take (i := 2) (v := ?_) rfl (by kernel_rfl) (by kernel_rfl) (by kernel_rfl) (fun _ _ _ h => h) (Or.inl ⟨by rfl, ?_⟩) (by assumption) ?_
            rotate_left
            · intro w' hSw; clear hSw; go_simp; try (with_reducible rfl)
            change wpAnyH _ _ _ _ _ _ _ (Act.put _ (some 27) _) _
            try (simp only [Act.put, List.setIfInBounds_toArray, List.set_cons_zero, List.set_cons_succ])
            refine wpAnyH_take (i := 3) (v := ?_) rfl (by kernel_rfl) (by kernel_rfl) (by kernel_rfl) (fun _ _ _ h => h) (Or.inl ⟨by rfl, ?_⟩) (by assumption) ?_
            rotate_left
            · intro w' hSw; clear hSw; go_simp; try (with_reducible rfl)
            change wpAnyH _ _ _ _ _ _ _ (Act.put _ (some 28) _) _
            try (simp only [Act.put, List.setIfInBounds_toArray, List.set_cons_zero, List.set_cons_succ])
            refine wpAnyH_take (i := 4) (v := ?_) rfl (by kernel_rfl) (by kernel_rfl) (by kernel_rfl) (fun _ _ _ h => h) (Or.inl ⟨by rfl, ?_⟩) (by assumption) ?_
            rotate_left
            · intro w' hS0; go_simp; try (with_reducible rfl)
            change wpAnyH _ _ _ _ _ _ _ (Act.put _ (some 29) _) _
            try (simp only [Act.put, List.setIfInBounds_toArray, List.set_cons_zero, List.set_cons_succ])
            refine wpAnyH_ready (rs := [5]) (by kernel_rfl) (by simp) ?_
            refine AllReadyH.cons rfl (fun K hK => ?_) AllReadyH.nil
            go_simp
            refine (kRb _).mono ?_
            rintro e W2 ⟨rfl, hb2⟩
            have u2 : Up wr W2 := Up.trans (by assumption) (Up.of hb2)
            clear hb2
            refine hK.out _ _ u2 (fun hHeld => ?_)
            clear hK K hHeld
            refine wpAnyH_more (S' := fun w' => Up W2 w') (fun w' h => Up.trans u2 h) _ _ _ _ ?_
            have hHeld := Up.refl W2
            refine wpAnyH_take (i := 6) (v := ?_) rfl (by kernel_rfl) (by kernel_rfl) (by kernel_rfl) (fun _ _ _ h => h) (Or.inl ⟨by rfl, ?_⟩) (by assumption) ?_
            rotate_left
            · intro w' hSw; clear hSw; go_simp; try (with_reducible rfl)
            change wpAnyH _ _ _ _ _ _ _ (Act.put _ (some 31) _) _
            try (simp only [Act.put, List.setIfInBounds_toArray, List.set_cons_zero, List.set_cons_succ])
            refine wpAnyH_take (i := 7) (v := ?_) rfl (by kernel_rfl) (by kernel_rfl) (by kernel_rfl) (fun _ _ _ h => h) (Or.inl ⟨by rfl, ?_⟩) (by assumption) ?_
            rotate_left
            · intro w' hSw; clear hSw; go_simp; try (with_reducible rfl)
            change wpAnyH _ _ _ _ _ _ _ (Act.put _ (some 32) _) _
            try (simp only [Act.put, List.setIfInBounds_toArray, List.set_cons_zero, List.set_cons_succ])
            refine held_skip 8 rfl (by kernel_rfl) (by kernel_rfl) (by kernel_rfl) (fun _ _ _ h => h) (by rfl) (by assumption) ?_
            change wpAnyH _ _ _ _ _ _ _ (Act.put _ (some 33) _) _
            try (simp only [Act.put, List.setIfInBounds_toArray, List.set_cons_zero, List.set_cons_succ])
            refine held_skip 9 rfl (by kernel_rfl) (by kernel_rfl) (by kernel_rfl) (fun _ _ _ h => h) (by rfl) (by assumption) ?_
            change wpAnyH _ _ _ _ _ _ _ (Act.put _ (some 34) _) _
            try (simp only [Act.put, List.setIfInBounds_toArray, List.set_cons_zero, List.set_cons_succ])
            refine held_skip 10 rfl (by kernel_rfl) (by kernel_rfl) (by kernel_rfl) (fun _ _ _ h => h) (by rfl) (by assumption) ?_
            change wpAnyH _ _ _ _ _ _ _ (Act.put _ (some 35) _) _
            try (simp only [Act.put, List.setIfInBounds_toArray, List.set_cons_zero, List.set_cons_succ])
            refine held_skip 11 rfl (by kernel_rfl) (by kernel_rfl) (by kernel_rfl) (fun _ _ _ h => h) (by rfl) (by assumption) ?_
            change wpAnyH _ _ _ _ _ _ _ (Act.put _ (some 36) _) _
            try (simp only [Act.put, List.setIfInBounds_toArray, List.set_cons_zero, List.set_cons_succ])
            refine held_skip 12 rfl (by kernel_rfl) (by kernel_rfl) (by kernel_rfl) (fun _ _ _ h => h) (by rfl) (by assumption) ?_
            change wpAnyH _ _ _ _ _ _ _ (Act.put _ (some 37) _) _
            try (simp only [Act.put, List.setIfInBounds_toArray, List.set_cons_zero, List.set_cons_succ])
            refine held_skip 13 rfl (by kernel_rfl) (by kernel_rfl) (by kernel_rfl) (fun _ _ _ h => h) (by rfl) (by assumption) ?_
            change wpAnyH _ _ _ _ _ _ _ (Act.put _ (some 38) _) _
            try (simp only [Act.put, List.setIfInBounds_toArray, List.set_cons_zero, List.set_cons_succ])
            refine held_skip 14 rfl (by kernel_rfl) (by kernel_rfl) (by kernel_rfl) (fun _ _ _ h => h) (by rfl) (by assumption) ?_
            change wpAnyH _ _ _ _ _ _ _ (Act.put _ (some 39) _) _
            try (simp only [Act.put, List.setIfInBounds_toArray, List.set_cons_zero, List.set_cons_succ])
            refine held_skip 15 rfl (by kernel_rfl) (by kernel_rfl) (by kernel_rfl) (fun _ _ _ h => h) (by rfl) (by assumption) ?_
            change wpAnyH _ _ _ _ _ _ _ (Act.put _ (some 40) _) _
            try (simp only [Act.put, List.setIfInBounds_toArray, List.set_cons_zero, List.set_cons_succ])
            refine held_skip 16 rfl (by kernel_rfl) (by kernel_rfl) (by kernel_rfl) (fun _ _ _ h => h) (by rfl) (by assumption) ?_
            change wpAnyH _ _ _ _ _ _ _ (Act.put _ (some 41) _) _
            try (simp only [Act.put, List.setIfInBounds_toArray, List.set_cons_zero, List.set_cons_succ])
            refine wpAnyH_take (i := 17) (v := ?_) rfl (by kernel_rfl) (by kernel_rfl) (by kernel_rfl) (fun _ _ _ h => h) (Or.inl ⟨by rfl, ?_⟩) (by assumption) ?_
            rotate_left
            · intro w' hSw; clear hSw; go_simp; try (with_reducible rfl)
            change wpAnyH _ _ _ _ _ _ _ (Act.put _ (some 42) _) _
            try (simp only [Act.put, List.setIfInBounds_toArray, List.set_cons_zero, List.set_cons_succ])
            refine wpAnyH_done (by kernel_rfl) ?_ _
            refine NoPanic.normal ?_
            clear hHeld
            go_wp2_with fail
            go_ret
            exact ⟨by rw [HV.out]; rfl, stepB hb1 (hu.trans u2).b⟩
          · have kR := fun w => rright_is w r1
            rcases r2 : lessB x y o.ac o.ad with _ | _
            · have HV : Hid (overE o = 27) := by rw [Hid, HR.out, hK.out, HD.out, r1, r2]; rfl
              have kL := fun w => rless_is w r2
              clear HD r1 r2
              go_wp2_with fail
              go_region_held3 (fun w' => Up wr w') (first | assumption | exact Up.drew _ | exact Up.refl _ | exact Up.trans (by assumption) (Up.alloc' _ _) | exact Up.trans (by assumption) (Up.of (by assumption))) (first | (go_at_call 33; refine (kR _).mono ?_; rintro e w3 ⟨rfl, rfl⟩) | (go_at_call 58; refine (kL _).mono ?_; rintro e w4 ⟨rfl, hb4⟩))
              have hv : Up wr w4 := by first | assumption | exact Up.trans (by assumption) (Up.of hb4)
              go_wp2_with fail
              go_ret
              exact ⟨by rw [HV.out]; rfl, stepB hb1 (hu.trans hv).b⟩
            · have kL := fun w => rless_is w r2
              have HD2 : Hid (ovGo o.ac o.ad k (prevAt o.ov k) (o.ov.drop k) = if (decide (k = 0) || lessB (prevAt o.ov k).1 (prevAt o.ov k).2 x y) = true then ovGo o.ac o.ad (k + 1) (x, y) (o.ov.drop (k + 1)) else 10) := by rw [Hid, HD.out, r1, r2]; rfl
              clear HD r1 r2
              go_wp2_with fail
              go_region_held3 (fun w' => Up wr w') (first | assumption | exact Up.drew _ | exact Up.refl _ | exact Up.trans (by assumption) (Up.alloc' _ _) | exact Up.trans (by assumption) (Up.of (by assumption))) (first | (go_at_call 33; refine (kR _).mono ?_; rintro e w3 ⟨rfl, rfl⟩) | (go_at_call 58; refine (kL _).mono ?_; rintro e w4 ⟨rfl, hb4⟩))
              have hv : Up wr w4 := by first | assumption | exact Up.trans (by assumption) (Up.of hb4)
              have huc := hu.trans hv
              by_cases k0 : k = 0
              · subst k0
                have g0 : decide ((0 : Int) < ((0 : Nat) : Int)) = false := by decide
                have HN : Hid (ovGo o.ac o.ad 0 (0, 0) o.ov = ovGo o.ac o.ad 1 (prevAt o.ov 1) (o.ov.drop 1)) := by rw [Hid, hK.out, HD2.out, HPn.out]; rfl
                go_wp2_with fail
                go_quiet (fail)
                go_wp2_with fail
                go_roundw
                case rel => exact ⟨1, by omega, rfl, HN, huc.trans (Up.of (below_drewN (Below.refl _ _) _))⟩
                case measure => simp [intOf]; omega
              · obtain ⟨j, rfl⟩ : ∃ j, k = j + 1 := ⟨k - 1, by omega⟩
                have g0 : decide ((0 : Int) < ((j + 1 : Nat) : Int)) = true := decide_eq_true (by omega)
                obtain ⟨b', off', e', hp0, hp1⟩ := ov_cells hru (k := j) (by omega)
                cases e'
                have HPj := Lib.hid (prevAt_next (l := o.ov) (k := j) (by omega))
                generalize o.ov[j] = q at *
                obtain ⟨px, py⟩ := q
                have HD3 : Hid (ovGo o.ac o.ad (j + 1) (prevAt o.ov (j + 1)) (o.ov.drop (j + 1)) = if lessB px py x y = true then ovGo o.ac o.ad (j + 1 + 1) (x, y) (o.ov.drop (j + 1 + 1)) else 10) := by
                  rw [Hid, HD2.out, HPj.out]; rfl
                clear HD2 HPj
                have s3 := hv.cell hp0
                have s4 := hv.cell hp1
                have g1 := fun w' (u : Up w4 w') => l0 w' (hv.trans u)
                have g2 := fun w' (u : Up w4 w') => l1 w' (hv.trans u)
                have g3 := fun w' (u : Up w4 w') => l2 w' (hv.trans u)
                have g4 := fun w' (u : Up w4 w') => u.cell s3
                have g5 := fun w' (u : Up w4 w') => u.cell s4
                have b1 : IntKind.i64.wrap (((j + 1 : Nat) : Int) - 1) = (j : Int) := by rw [IntWalk.i64_in _ (by omega)]; omega
                have b5 : IntKind.i64.wrap ((j : Int) + 1 - 1) = (j : Int) := by rw [IntWalk.i64_in _ (by omega)]; omega
                have b6 : IntKind.i64.wrap (j : Int) = (j : Int) := IntWalk.i64_in _ (by omega)
                have b2 : (j : Int) < (o.ov.length : Int) := by omega
                have b7 : (j : Int) + 1 < (o.ov.length : Int) := by omega
                have b8 : 0 ≤ (j : Int) + 1 := by omega
                have b9 : j + 1 < o.ov.length := by omega
                have b10 : ((j : Int) + 1).toNat = j + 1 := by omega
                have b3 : 0 ≤ (j : Int) := by omega
                have b4 : j < o.ov.length := by omega
                clear l0 l1 l2 l3 l4 s3 s4 hp0 hp1 kL kR
                rcases r3 : lessB px py x y with _ | _
                · have HV : Hid (overE o = 10) := by rw [Hid, HR.out, hK.out, HD3.out, r3]; rfl
                  have kM := fun w => rless_is w r3
                  clear r3
                  go_wp2_with fail
                  go_region_held3 (fun w' => Up w4 w') (first | assumption | exact Up.drew _ | exact Up.refl _ | exact Up.trans (by assumption) (Up.alloc' _ _) | exact Up.trans (by assumption) (Up.of (by assumption))) (first | (go_at_call 58; refine (kM _).mono ?_; rintro e w5 ⟨rfl, hb5⟩))
                  have hx : Up w4 w5 := by first | assumption | exact Up.trans (by assumption) (Up.of hb5)
                  clear g1 g2 g3 g4 g5
                  go_wp2
                  go_ret
                  exact ⟨by rw [HV.out]; rfl, stepB hb1 (huc.trans hx).b⟩
                · have HN : Hid (ovGo o.ac o.ad 0 (0, 0) o.ov = ovGo o.ac o.ad (j + 1 + 1) (prevAt o.ov (j + 1 + 1)) (o.ov.drop (j + 1 + 1))) := by rw [Hid, hK.out, HD3.out, r3, HPn.out]; rfl
                  have kM := fun w => rless_is w r3
                  clear r3
                  go_wp2_with fail
                  go_region_held3 (fun w' => Up w4 w') (first | assumption | exact Up.drew _ | exact Up.refl _ | exact Up.trans (by assumption) (Up.alloc' _ _) | exact Up.trans (by assumption) (Up.of (by assumption))) (first | (go_at_call 58; refine (kM _).mono ?_; rintro e w5 ⟨rfl, hb5⟩))
                  have hx : Up w4 w5 := by first | assumption | exact Up.trans (by assumption) (Up.of hb5)
                  clear g1 g2 g3 g4 g5
                  go_wp2
                  go_roundw
                  case rel => exact ⟨j + 1 + 1, by omega, by go_num, HN, huc.trans hx⟩
                  case measure => simp [intOf]; omega
        · obtain rfl : k = o.ov.length := by omega
          have t1 : decide ((o.ov.length : Int) < (o.ov.length : Int)) = false := by simp
          have HV : Hid (overE o = 0) := by rw [Hid, HR.out, hK.out, List.drop_length]; rfl
          go_wp2_with fail
          go_ret
          exact ⟨by rw [HV.out]; rfl, stepB hb1 hu.b⟩
    · have HR : Hid (overE o = 11) := by rw [Hid, hE.out, if_neg (by intro e; rw [e] at h0; exact h0 rfl), if_neg h1]
      have p1 : decide (16 < (o.ov.length : Int)) = true := decide_eq_true (by omega)
      clear hE h0 h1
      go_enter Tryd.func38, Tryd.ntmps38
      go_wp2_with fail
      go_ret
      exact ⟨by rw [HR.out]; rfl, hb1.out _⟩
theorem rover_any (w : World) (o : OP) (A : Option Addr) (c : Nat) (ho : o.Bd) (hr : Rd w A (ovL o.ov)) (hc : o.ov.length ≤ c) : Calls Tryd.prog 38 #[opV o A c] w (RetInt (roverE o) w) := by
  unfold roverE
  by_cases h : o.kd = 0
  · rw [if_pos h]; exact rover_add w o A c h
  · rw [if_neg h]; exact rover_more w o A c hr ho.ol hc h

set_option maxRecDepth 100000 in
set_option maxHeartbeats 4000000 in
theorem rcheck_any (w : World) (o : OP) (A : Option Addr) (c : Nat) (ho : o.Bd) (hr : Rd w A (ovL o.ov)) (hc : o.ov.length ≤ c) : Calls Tryd.prog 15 #[opV o A c] w (RetInt (checkE o) w) := by
  have kN := fun w => rnote_any w o A c ho
  have kS := fun w => rset_any w o A c ho.tx
  have kO := fun w' (hb : Below w.heap.size w w') => rover_any w' o A c ho (hr.below hb) hc
  unfold opV opC at kN kS kO ⊢
  have hE := Lib.hid (checkE_ref o)
  rcases h0 : rightB o.ac o.ad with _ | _
  · have HR : Hid (checkE o = 27) := by rw [Hid, hE.out, h0]; rfl
    have kR := fun w => rright_is w h0
    clear h0 hE
    go_enter Tryd.func15, Tryd.ntmps15
    go_wp2_with fail
    refine (kR _).mono ?_
    rintro e w' ⟨rfl, rfl⟩
    go_wp2_with fail
    go_ret
    exact ⟨by rw [HR.out]; rfl, ((Below.refl _ _).alloc (Nat.le_refl _) _).alloc (by simp) _⟩
  · have kR := fun w => rright_is w h0
    rcases h1 : decide (0 ≤ o.kd ∧ o.kd ≤ 2) with _ | _
    · have HR : Hid (checkE o = 14) := by rw [Hid, hE.out, h0, h1]; rfl
      have kK := fun w => within_is w h1
      clear h0 h1 hE
      go_enter Tryd.func15, Tryd.ntmps15
      go_wp2_with fail
      refine (kR _).mono ?_
      rintro e w' ⟨rfl, rfl⟩
      go_wp2_with fail
      refine (kK _).mono ?_
      rintro e w' ⟨rfl, rfl⟩
      go_wp2_with fail
      go_ret
      exact ⟨by rw [HR.out]; rfl, ((Below.refl _ _).alloc (Nat.le_refl _) _).alloc (by simp) _⟩
    · have kK := fun w => within_is w h1
      have hE2 : Hid (checkE o = if recB o = true then orE (noteE o) (orE (rsetE o) (roverE o)) else 2) := by rw [Hid, hE.out, h0, h1]; rfl
      have kI : ∀ w, Calls Tryd.prog 35 #[.int .i64 o.rc] w fun e w' => e = .returned (.bool (recB o)) ∧ w = w' := fun w => ident_any w o.rc
      clear h0 h1 hE
      generalize noteE o = NE at *
      generalize rsetE o = SE at *
      generalize roverE o = OE at *
      rcases h2 : recB o with _ | _
      · have HR : Hid (checkE o = 2) := by rw [Hid, hE2.out, h2]; rfl
        rw [h2] at kI
        clear h2 hE2
        go_enter Tryd.func15, Tryd.ntmps15
        go_wp2_with fail
        refine (kR _).mono ?_
        rintro e w' ⟨rfl, rfl⟩
        go_wp2_with fail
        refine (kK _).mono ?_
        rintro e w' ⟨rfl, rfl⟩
        go_wp2_with fail
        refine (kI _).mono ?_
        rintro e w' ⟨rfl, rfl⟩
        go_wp2_with fail
        go_ret
        exact ⟨by rw [HR.out]; rfl, ((Below.refl _ _).alloc (Nat.le_refl _) _).alloc (by simp) _⟩
      · have HR : Hid (checkE o = orE NE (orE SE OE)) := by rw [Hid, hE2.out, h2]; rfl
        rw [h2] at kI
        clear h2 hE2
        obtain ⟨W1, hW1⟩ : ∃ x, (w.alloc (.cells (opC o A c).toArray 30)).alloc (.cells #[.int .i64 o.ac, .int .i64 o.ad] 23) = x := ⟨_, rfl⟩
        have hb1 : Below w.heap.size w W1 := by rw [← hW1]; exact ((Below.refl _ _).alloc (Nat.le_refl _) _).alloc (by simp) _
        have hoa : OpAt W1 w.heap.size o A c := by rw [← hW1]; exact (OpAt.new ..).up (Up.alloc' _ _)
        unfold opC at hW1
        have HW1 := Lib.hid hW1
        clear hW1
        go_enter Tryd.func15, Tryd.ntmps15
        go_wp2_with fail
        refine (kR _).mono ?_
        rintro e w' ⟨rfl, rfl⟩
        go_wp2_with fail
        refine (kK _).mono ?_
        rintro e w' ⟨rfl, rfl⟩
        go_wp2_with fail
        refine (kI _).mono ?_
        rintro e w' ⟨rfl, rfl⟩
        simp only [HW1.out]
        clear HW1
        have m := hoa
        obtain ⟨⟨m0, m1, m2, m3⟩, ⟨m4, m5, m6, m7, m8, m9, m10⟩, ⟨m11, m12, m13, m14⟩⟩ := m
        go_wp2_with fail
        refine (kN _).mono ?_
        rintro e w2 ⟨rfl, hb2⟩
        have hb2' := stepB hb1 hb2
        have hob := hoa.up (Up.of hb2)
        clear m0 m1 m2 m3 m4 m5 m6 m7 m8 m9 m10 m11 m12 m13 m14
        have m := hob
        obtain ⟨⟨m0, m1, m2, m3⟩, ⟨m4, m5, m6, m7, m8, m9, m10⟩, ⟨m11, m12, m13, m14⟩⟩ := m
        by_cases n0 : NE = 0
        · have q0 : (NE != 0) = false := by simpa using n0
          have HR : Hid (checkE o = orE SE OE) := by rw [Hid, HR.out, orE, if_pos n0]
          clear n0
          go_wp2_with fail
          refine (kS _).mono ?_
          rintro e w3 ⟨rfl, hb3⟩
          have hb3' := stepB hb2' hb3
          have hoc := hob.up (Up.of hb3)
          clear m0 m1 m2 m3 m4 m5 m6 m7 m8 m9 m10 m11 m12 m13 m14
          have m := hoc
          obtain ⟨⟨m0, m1, m2, m3⟩, ⟨m4, m5, m6, m7, m8, m9, m10⟩, ⟨m11, m12, m13, m14⟩⟩ := m
          by_cases s0 : SE = 0
          · have q1 : (SE != 0) = false := by simpa using s0
            have HR : Hid (checkE o = OE) := by rw [Hid, HR.out, orE, if_pos s0]
            clear s0
            go_wp2_with fail
            refine (kO _ hb3').mono ?_
            rintro e w4 ⟨rfl, hb4⟩
            go_wp2_with fail
            go_ret
            exact ⟨by rw [HR.out]; rfl, stepB hb3' hb4⟩
          · have q1 : (SE != 0) = true := by simpa using s0
            have HR : Hid (checkE o = SE) := by rw [Hid, HR.out, orE, if_neg s0]
            clear s0
            go_wp2_with fail
            go_ret
            exact ⟨by rw [HR.out]; rfl, hb3'⟩
        · have q0 : (NE != 0) = true := by simpa using n0
          have HR : Hid (checkE o = NE) := by rw [Hid, HR.out, orE, if_neg n0]
          clear n0
          go_wp2_with fail
          go_ret
          exact ⟨by rw [HR.out]; rfl, hb2'⟩
end Go.Proofs.YtfjiikcbcoohdaaDoor
