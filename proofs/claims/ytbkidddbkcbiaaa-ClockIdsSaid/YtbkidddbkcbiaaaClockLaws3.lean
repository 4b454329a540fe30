/-
  The walk of the statement ClockSees: it returns true and changes nothing that was there. Conditions: the arguments read as their types say.
-/
import Derived.Test.YtbkidddbkcbiaaaClockLaws2
import Derived.Test.YtbkidddbkcbiaaaHeld
import Derived.Deep.DeepCutAuto
namespace Go.Proofs.Ytbkidddbkcbiaaa
open Go.RowKit
set_option linter.unusedVariables false

def moreB (c d x y : Int) : Bool := rightB c d && rightB x y && decide (d = y) && decide (x ≤ c)
theorem num_see (l : List Int) (c d : Int) (i : Nat) (hi : i < 15) : num (seeL l c d) i = if rightB c d ∧ (d - 1).toNat = i then max (num l i) c else num l i := by
  have h0 := num_nonneg l i
  have hj : num (joinL l []) i = num l i := by rw [num_join l [] i hi, num_nil]; omega
  rcases hr : rightB c d with _ | _
  · rw [seeL_no hr, hj, if_neg (by simp)]
  · rw [seeL_yes hr]
    have hjl : (joinL l []).length = 15 := joinN_length _ _ _
    by_cases he : (d - 1).toNat = i
    · rw [if_pos ⟨rfl, he⟩, num_in _ _ (by rw [List.length_set, hjl]; exact hi), he, List.getElem_set_self]
      omega
    · rw [if_neg (fun hh => he hh.2), num_in _ _ (by rw [List.length_set, hjl]; exact hi), List.getElem_set_ne he, ← num_in _ _ (by rw [hjl]; exact hi), hj]
theorem covers_see (l : List Int) (c d x y : Int) : coversB (seeL l c d) x y = (coversB l x y || moreB c d x y) := by
  unfold coversB moreB
  rcases h2 : rightB x y with _ | _
  · simp
  · obtain ⟨a1, a2, a3, a4⟩ := (rightB_iff x y).1 h2
    rw [num_see l c d _ (by omega)]
    rcases h1 : rightB c d with _ | _
    · simp
    · obtain ⟨b1, b2, b3, b4⟩ := (rightB_iff c d).1 h1
      rw [Bool.eq_iff_iff]
      by_cases he : (d - 1).toNat = (y - 1).toNat
      · have : d = y := by omega
        subst this
        simp; omega
      · have : ¬ d = y := by omega
        rw [if_neg (fun hh => he hh.2)]
        simp [this]
theorem leq_see (l : List Int) (c d : Int) : leqB l (seeL l c d) = true := by
  rw [leqB_iff]; intro i hi; rw [num_see l c d i hi]; split <;> omega

set_option maxHeartbeats 4000000 in
theorem walk_ClockSees (w : World) (A : Option Addr) (ca : Nat) (l : List Int) (h : Rd w A (l.map I64)) (hl : l.length ≤ maxLen) (hbd : ∀ n ∈ l, -9223372036854775808 ≤ n ∧ n ≤ 9223372036854775807)
    (c d : Int) (bc : -9223372036854775808 ≤ c ∧ c ≤ 9223372036854775807) (bd : -9223372036854775808 ≤ d ∧ d ≤ 9223372036854775807)
    (x y : Int) (bx : -9223372036854775808 ≤ x ∧ x ≤ 9223372036854775807) (by_ : -9223372036854775808 ≤ y ∧ y ≤ 9223372036854775807) :
    Calls Try.prog 6 #[.slice A l.length ca, .agg #[.int .i64 c, .int .i64 d], .agg #[.int .i64 x, .int .i64 y]] w fun e w' => e = .returned (.bool true) ∧ Below w.heap.size w w' := by
  unfold maxLen at hl
  clear hbd bc bd bx by_
  by_cases hf : l.length ≤ 100
  · have hsl : (seeL l c d).length ≤ 9223372036854775807 := by rw [seeL_length]; omega
    have hcs := Lib.hid (covers_see l c d x y)
    have hleq := leq_see l c d
    go_enter Try.func6, Try.ntmps6
    go_wp2_with fail
    refine (few_yes _ _ _ _ _ _ _ hf (by omega)).mono ?_
    rintro e w' ⟨rfl, rfl⟩
    have s0 : ((((w.alloc (.cells #[.int .i64 c, .int .i64 d] 26)).alloc (.cells #[.int .i64 x, .int .i64 y] 26)).cell? ⟨w.heap.size, 0, none⟩ = some (.int .i64 c) ∧ ((w.alloc (.cells #[.int .i64 c, .int .i64 d] 26)).alloc (.cells #[.int .i64 x, .int .i64 y] 26)).cell? ⟨w.heap.size, 1, none⟩ = some (.int .i64 d)) ∧
       (((w.alloc (.cells #[.int .i64 c, .int .i64 d] 26)).alloc (.cells #[.int .i64 x, .int .i64 y] 26)).cell? ⟨w.heap.size + 1, 0, none⟩ = some (.int .i64 x) ∧ ((w.alloc (.cells #[.int .i64 c, .int .i64 d] 26)).alloc (.cells #[.int .i64 x, .int .i64 y] 26)).cell? ⟨w.heap.size + 1, 1, none⟩ = some (.int .i64 y))) := by
      refine ⟨⟨?_, ?_⟩, ?_, ?_⟩ <;> simp
    have hs0 : Since w ((w.alloc (.cells #[.int .i64 c, .int .i64 d] 26)).alloc (.cells #[.int .i64 x, .int .i64 y] 26)) := ⟨((Below.refl _ _).alloc (Nat.le_refl _) _).alloc (by simp) _⟩
    have r0 := (h.alloc (.cells #[.int .i64 c, .int .i64 d] 26)).alloc (.cells #[.int .i64 x, .int .i64 y] 26)
    clear h
    go_upto_region 3 with fail
    generalize (w.alloc (.cells #[.int .i64 c, .int .i64 d] 26)).alloc (.cells #[.int .i64 x, .int .i64 y] 26) = W at *
    obtain ⟨⟨k0, k1⟩, k2, k3⟩ := s0
    go_cut [7] (fun s7 wx => s7 = .bool (moreB c d x y) ∧ Since w wx ∧ Rd wx A (l.map I64) ∧ ((wx.cell? ⟨w.heap.size, 0, none⟩ = some (.int .i64 c) ∧ wx.cell? ⟨w.heap.size, 1, none⟩ = some (.int .i64 d)) ∧ (wx.cell? ⟨w.heap.size + 1, 0, none⟩ = some (.int .i64 x) ∧ wx.cell? ⟨w.heap.size + 1, 1, none⟩ = some (.int .i64 y))))
    case first =>
      have Hm : Hid (moreB c d x y = (rightB c d && rightB x y && decide (d = y) && decide (x ≤ c))) := rfl
      rcases h1 : rightB c d with _ | _
      · go_wp2_with fail
        refine (rright_no _ _ _ h1).mono ?_
        rintro e w' ⟨rfl, rfl⟩
        go_wp2_with fail
        go_meet
        exact ⟨by rw [Hm.out, h1]; rfl, hs0.step ((Below.refl _ _).alloc (Nat.le_refl _) _), r0.alloc _, keep4 ((Below.refl _ _).alloc (Nat.le_refl _) _) ⟨⟨k0, k1⟩, k2, k3⟩⟩
      · go_wp2_with fail
        refine (rright_yes _ _ _ h1).mono ?_
        rintro e w' ⟨rfl, rfl⟩
        have hs1 := hs0.step ((Below.refl _ _).alloc (Nat.le_refl _) (.cells #[.int .i64 c, .int .i64 d] 26))
        have r1 := r0.alloc (.cells #[.int .i64 c, .int .i64 d] 26)
        obtain ⟨⟨q0, q1⟩, q2, q3⟩ := keep4 ((Below.refl _ _).alloc (Nat.le_refl _) (.cells #[.int .i64 c, .int .i64 d] 26)) ⟨⟨k0, k1⟩, k2, k3⟩
        clear k0 k1 k2 k3 hs0 r0
        generalize W.alloc (.cells #[.int .i64 c, .int .i64 d] 26) = W1 at *
        rcases h2 : rightB x y with _ | _
        · go_wp2_with fail
          refine (rright_no _ _ _ h2).mono ?_
          rintro e w' ⟨rfl, rfl⟩
          go_wp2_with fail
          go_meet
          exact ⟨by rw [Hm.out, h1, h2]; rfl, hs1.step ((Below.refl _ _).alloc (Nat.le_refl _) _), r1.alloc _, keep4 ((Below.refl _ _).alloc (Nat.le_refl _) _) ⟨⟨q0, q1⟩, q2, q3⟩⟩
        · go_wp2_with fail
          refine (rright_yes _ _ _ h2).mono ?_
          rintro e w' ⟨rfl, rfl⟩
          have hs2 := hs1.step ((Below.refl _ _).alloc (Nat.le_refl _) (.cells #[.int .i64 x, .int .i64 y] 26))
          have r2 := r1.alloc (.cells #[.int .i64 x, .int .i64 y] 26)
          obtain ⟨⟨p0, p1⟩, p2, p3⟩ := keep4 ((Below.refl _ _).alloc (Nat.le_refl _) (.cells #[.int .i64 x, .int .i64 y] 26)) ⟨⟨q0, q1⟩, q2, q3⟩
          clear q0 q1 q2 q3 hs1 r1
          generalize W1.alloc (.cells #[.int .i64 x, .int .i64 y] 26) = W2 at *
          by_cases h3 : d = y
          · have h3b : (d == y) = true := by simpa using h3
            have H3 := Lib.hid h3
            clear h3
            go_wp2_with fail
            go_meet
            exact ⟨by rw [Hm.out, h1, h2, decide_eq_true H3.out]; rfl, hs2, r2, ⟨⟨p0, p1⟩, p2, p3⟩⟩
          · have h3b : (d == y) = false := by simpa using h3
            have H3 := Lib.hid h3
            clear h3
            go_wp2_with fail
            go_meet
            exact ⟨by rw [Hm.out, h1, h2, decide_eq_false H3.out]; rfl, hs2, r2, ⟨⟨p0, p1⟩, p2, p3⟩⟩
    case rest =>
      obtain ⟨rfl, hs, rA, s4⟩ := hcut
      clear k0 k1 k2 k3 hs0 r0
      rcases hcv : coversB l x y with _ | _
      · have hcs' : coversB (seeL l c d) x y = moreB c d x y := by rw [hcs.out, hcv, Bool.false_or]
        have rA' := rA.drew
        have hs' : Since w wc.drew := ⟨hs.b.drew⟩
        go_wp2_with fail
        go_region_held3 (fun w' => (w'.cell? ⟨w.heap.size, 0, none⟩ = some (.int .i64 c) ∧ w'.cell? ⟨w.heap.size, 1, none⟩ = some (.int .i64 d)) ∧ (w'.cell? ⟨w.heap.size + 1, 0, none⟩ = some (.int .i64 x) ∧ w'.cell? ⟨w.heap.size + 1, 1, none⟩ = some (.int .i64 y))) (first | exact s4 | exact keep4 (by assumption) (by assumption) | assumption)
          (first | (go_at_call 22; refine (see_any _ A ca l (by assumption) hl c d).mono ?_; intro e w' hj; obtain ⟨J, cj, rfl, rj, hb⟩ := retInts_rd hj; clear hj; have hs := Since.step (w := w) (by assumption) hb; have rA := Rd.below (A := A) (l := l.map I64) (by assumption) hb) | (go_at_call_of 17 (Value.slice A l.length ca); refine (covers_any _ A ca l (by assumption) hl x y).mono ?_; rintro e w' ⟨rfl, hb⟩; have hs := Since.step (w := w) (by assumption) hb; have rA := Rd.below (A := A) (l := l.map I64) (by assumption) hb) | (go_at_call 17; refine (covers_any _ J cj _ rj hsl x y).mono ?_; rintro e w' ⟨rfl, hb⟩; have hs := Since.step (w := w) (by assumption) hb; have rA := Rd.below (A := A) (l := l.map I64) (by assumption) hb) | (go_at_call 16; refine (leq_bool _ true A ca l (by assumption) hl J cj _ rj hsl hleq).mono ?_; rintro e w' ⟨rfl, rfl⟩) | (go_at_call 12; refine (awake_any _).mono ?_; rintro e w' ⟨rfl, hb⟩; have hs := Since.step (w := w) (by assumption) hb))
        go_wp2
        go_ret
        exact ⟨rfl, Since.b (by assumption)⟩
      · have hcs' : coversB (seeL l c d) x y = true := by rw [hcs.out, hcv, Bool.true_or]
        have rA' := rA.drew
        have hs' : Since w wc.drew := ⟨hs.b.drew⟩
        go_wp2_with fail
        refine wp_region_noPanic ?_
        refine wp_region_held_drew (S := (fun w' => (w'.cell? ⟨w.heap.size, 0, none⟩ = some (.int .i64 c) ∧ w'.cell? ⟨w.heap.size, 1, none⟩ = some (.int .i64 d)) ∧ (w'.cell? ⟨w.heap.size + 1, 0, none⟩ = some (.int .i64 x) ∧ w'.cell? ⟨w.heap.size + 1, 1, none⟩ = some (.int .i64 y)))) (by kernel_rfl) s4 (fun hHeld => ?_)
        refine wpAnyH_take (i := 0) (v := ?_) rfl (by kernel_rfl) (by kernel_rfl) (by kernel_rfl) (fun _ _ _ h => h) (Or.inl ⟨by rfl, ?_⟩) (by assumption) ?_
        rotate_left
        · intro w hSw; (try dsimp only at hSw); go_simp; try (with_reducible rfl)
        change wpAnyH _ _ _ _ _ _ _ (Act.put _ (some 32) _) _
        try (simp only [Act.put, List.setIfInBounds_toArray, List.set_cons_zero, List.set_cons_succ])
        refine wpAnyH_take (i := 1) (v := ?_) rfl (by kernel_rfl) (by kernel_rfl) (by kernel_rfl) (fun _ _ _ h => h) (Or.inl ⟨by rfl, ?_⟩) (by assumption) ?_
        rotate_left
        · intro w hSw; (try dsimp only at hSw); go_simp; try (with_reducible rfl)
        change wpAnyH _ _ _ _ _ _ _ (Act.put _ (some 33) _) _
        try (simp only [Act.put, List.setIfInBounds_toArray, List.set_cons_zero, List.set_cons_succ])
        refine wpAnyH_take (i := 3) (v := ?_) rfl (by kernel_rfl) (by kernel_rfl) (by kernel_rfl) (fun _ _ _ h => h) (Or.inl ⟨by rfl, ?_⟩) (by assumption) ?_
        rotate_left
        · intro w hSw; (try dsimp only at hSw); go_simp; try (with_reducible rfl)
        change wpAnyH _ _ _ _ _ _ _ (Act.put _ (some 35) _) _
        try (simp only [Act.put, List.setIfInBounds_toArray, List.set_cons_zero, List.set_cons_succ])
        refine wpAnyH_take (i := 5) (v := ?_) rfl (by kernel_rfl) (by kernel_rfl) (by kernel_rfl) (fun _ _ _ h => h) (Or.inl ⟨by rfl, ?_⟩) (by assumption) ?_
        rotate_left
        · intro w hSw; (try dsimp only at hSw); go_simp; try (with_reducible rfl)
        change wpAnyH _ _ _ _ _ _ _ (Act.put _ (some 37) _) _
        try (simp only [Act.put, List.setIfInBounds_toArray, List.set_cons_zero, List.set_cons_succ])
        refine wpAnyH_take (i := 6) (v := ?_) rfl (by kernel_rfl) (by kernel_rfl) (by kernel_rfl) (fun _ _ _ h => h) (Or.inl ⟨by rfl, ?_⟩) (by assumption) ?_
        rotate_left
        · intro w hSw; (try dsimp only at hSw); go_simp; try (with_reducible rfl)
        change wpAnyH _ _ _ _ _ _ _ (Act.put _ (some 38) _) _
        try (simp only [Act.put, List.setIfInBounds_toArray, List.set_cons_zero, List.set_cons_succ])
        refine wpAnyH_ready (rs := [2]) (by kernel_rfl) (by simp) ?_
        refine AllReadyH.cons rfl (fun K hK => ?_) AllReadyH.nil
        go_simp
        refine (see_any _ A ca l (by assumption) hl c d).mono ?_
        intro e w' hj; obtain ⟨J, cj, rfl, rj, hb⟩ := retInts_rd hj; clear hj; have hs := Since.step (w := w) (by assumption) hb; have rA := Rd.below (A := A) (l := l.map I64) (by assumption) hb
        go_simp
        refine hK.out _ _ ?_ (fun hHeld => ?_)
        · (first | exact keep4 (by assumption) (by assumption) | assumption)
        clear hK K
        refine wpAnyH_ready (rs := [4]) (by kernel_rfl) (by simp) ?_
        refine AllReadyH.cons rfl (fun K hK => ?_) AllReadyH.nil
        go_simp
        refine (covers_any _ J cj _ rj hsl x y).mono ?_
        rintro e w' ⟨rfl, hb⟩; have hs := Since.step (w := w) (by assumption) hb; have rA := Rd.below (A := A) (l := l.map I64) (by assumption) hb
        go_simp
        refine hK.out _ _ ?_ (fun hHeld => ?_)
        · (first | exact keep4 (by assumption) (by assumption) | assumption)
        clear hK K
        refine wpAnyH_ready (rs := [7]) (by kernel_rfl) (by simp) ?_
        refine AllReadyH.cons rfl (fun K hK => ?_) AllReadyH.nil
        go_simp
        refine (covers_any _ A ca l (by assumption) hl x y).mono ?_
        rintro e w' ⟨rfl, hb⟩; have hs := Since.step (w := w) (by assumption) hb; have rA := Rd.below (A := A) (l := l.map I64) (by assumption) hb
        go_simp
        refine hK.out _ _ ?_ (fun hHeld => ?_)
        · (first | exact keep4 (by assumption) (by assumption) | assumption)
        clear hK K
        refine wpAnyH_take (i := 8) (v := ?_) rfl (by kernel_rfl) (by kernel_rfl) (by kernel_rfl) (fun _ _ _ h => h) (Or.inl ⟨by rfl, ?_⟩) (by assumption) ?_
        rotate_left
        · intro w hSw; (try dsimp only at hSw); go_simp; try (with_reducible rfl)
        change wpAnyH _ _ _ _ _ _ _ (Act.put _ (some 40) _) _
        try (simp only [Act.put, List.setIfInBounds_toArray, List.set_cons_zero, List.set_cons_succ])
        refine held_skip 9 rfl (by kernel_rfl) (by kernel_rfl) (by kernel_rfl) (fun _ _ _ h => h) (by rfl) (by assumption) ?_
        change wpAnyH _ _ _ _ _ _ _ (Act.put _ (some 41) _) _
        try (simp only [Act.put, List.setIfInBounds_toArray, List.set_cons_zero, List.set_cons_succ])
        refine wpAnyH_take (i := 10) (v := ?_) rfl (by kernel_rfl) (by kernel_rfl) (by kernel_rfl) (fun _ _ _ h => h) (Or.inl ⟨by rfl, ?_⟩) (by assumption) ?_
        rotate_left
        · intro w hSw; (try dsimp only at hSw); go_simp; try (with_reducible rfl)
        change wpAnyH _ _ _ _ _ _ _ (Act.put _ (some 42) _) _
        try (simp only [Act.put, List.setIfInBounds_toArray, List.set_cons_zero, List.set_cons_succ])
        refine wpAnyH_take (i := 11) (v := ?_) rfl (by kernel_rfl) (by kernel_rfl) (by kernel_rfl) (fun _ _ _ h => h) (Or.inl ⟨by rfl, ?_⟩) (by assumption) ?_
        rotate_left
        · intro w hSw; (try dsimp only at hSw); go_simp; try (with_reducible rfl)
        change wpAnyH _ _ _ _ _ _ _ (Act.put _ (some 43) _) _
        try (simp only [Act.put, List.setIfInBounds_toArray, List.set_cons_zero, List.set_cons_succ])
        refine wpAnyH_take (i := 12) (v := ?_) rfl (by kernel_rfl) (by kernel_rfl) (by kernel_rfl) (fun _ _ _ h => h) (Or.inl ⟨by rfl, ?_⟩) (by assumption) ?_
        rotate_left
        · intro w hSw; (try dsimp only at hSw); go_simp; try (with_reducible rfl)
        change wpAnyH _ _ _ _ _ _ _ (Act.put _ (some 44) _) _
        try (simp only [Act.put, List.setIfInBounds_toArray, List.set_cons_zero, List.set_cons_succ])
        refine wpAnyH_take (i := 13) (v := ?_) rfl (by kernel_rfl) (by kernel_rfl) (by kernel_rfl) (fun _ _ _ h => h) (Or.inl ⟨by rfl, ?_⟩) (by assumption) ?_
        rotate_left
        · intro w hSw; (try dsimp only at hSw); go_simp; try (with_reducible rfl)
        change wpAnyH _ _ _ _ _ _ _ (Act.put _ (some 45) _) _
        try (simp only [Act.put, List.setIfInBounds_toArray, List.set_cons_zero, List.set_cons_succ])
        refine wpAnyH_take (i := 14) (v := ?_) rfl (by kernel_rfl) (by kernel_rfl) (by kernel_rfl) (fun _ _ _ h => h) (Or.inl ⟨by rfl, ?_⟩) (by assumption) ?_
        rotate_left
        · intro w hSw; (try dsimp only at hSw); go_simp; try (with_reducible rfl)
        change wpAnyH _ _ _ _ _ _ _ (Act.put _ (some 46) _) _
        try (simp only [Act.put, List.setIfInBounds_toArray, List.set_cons_zero, List.set_cons_succ])
        refine wpAnyH_take (i := 15) (v := ?_) rfl (by kernel_rfl) (by kernel_rfl) (by kernel_rfl) (fun _ _ _ h => h) (Or.inl ⟨by rfl, ?_⟩) (by assumption) ?_
        rotate_left
        · intro w hSw; (try dsimp only at hSw); go_simp; try (with_reducible rfl)
        change wpAnyH _ _ _ _ _ _ _ (Act.put _ (some 47) _) _
        try (simp only [Act.put, List.setIfInBounds_toArray, List.set_cons_zero, List.set_cons_succ])
        refine wpAnyH_ready (rs := [16]) (by kernel_rfl) (by simp) ?_
        refine AllReadyH.cons rfl (fun K hK => ?_) AllReadyH.nil
        go_simp
        refine (see_any _ A ca l (by assumption) hl c d).mono ?_
        intro e w' hj; obtain ⟨J2, cj2, rfl, rj2, hb⟩ := retInts_rd hj; clear hj; have hs := Since.step (w := w) (by assumption) hb; have rA := Rd.below (A := A) (l := l.map I64) (by assumption) hb
        go_simp
        refine hK.out _ _ ?_ (fun hHeld => ?_)
        · (first | exact keep4 (by assumption) (by assumption) | assumption)
        clear hK K
        refine wpAnyH_ready (rs := [17]) (by kernel_rfl) (by simp) ?_
        refine AllReadyH.cons rfl (fun K hK => ?_) AllReadyH.nil
        go_simp
        refine (leq_bool _ true A ca l (by assumption) hl J2 cj2 _ rj2 hsl hleq).mono ?_
        rintro e w' ⟨rfl, rfl⟩
        go_simp
        refine hK.out _ _ ?_ (fun hHeld => ?_)
        · (first | exact keep4 (by assumption) (by assumption) | assumption)
        clear hK K
        refine wpAnyH_take (i := 18) (v := ?_) rfl (by kernel_rfl) (by kernel_rfl) (by kernel_rfl) (fun _ _ _ h => h) (Or.inl ⟨by rfl, ?_⟩) (by assumption) ?_
        rotate_left
        · intro w hSw; (try dsimp only at hSw); go_simp; try (with_reducible rfl)
        change wpAnyH _ _ _ _ _ _ _ (Act.put _ (some 50) _) _
        try (simp only [Act.put, List.setIfInBounds_toArray, List.set_cons_zero, List.set_cons_succ])
        refine wpAnyH_take (i := 19) (v := ?_) rfl (by kernel_rfl) (by kernel_rfl) (by kernel_rfl) (fun _ _ _ h => h) (Or.inl ⟨by rfl, ?_⟩) (by assumption) ?_
        rotate_left
        · intro w hSw; (try dsimp only at hSw); go_simp; try (with_reducible rfl)
        change wpAnyH _ _ _ _ _ _ _ (Act.put _ (some 51) _) _
        try (simp only [Act.put, List.setIfInBounds_toArray, List.set_cons_zero, List.set_cons_succ])
        refine wpAnyH_ready (rs := [20]) (by kernel_rfl) (by simp) ?_
        refine AllReadyH.cons rfl (fun K hK => ?_) AllReadyH.nil
        go_simp
        refine (awake_any _).mono ?_
        rintro e w' ⟨rfl, hb⟩; have hs := Since.step (w := w) (by assumption) hb
        go_simp
        refine hK.out _ _ ?_ (fun hHeld => ?_)
        · (first | exact keep4 (by assumption) (by assumption) | assumption)
        clear hK K
        refine wpAnyH_take (i := 21) (v := ?_) rfl (by kernel_rfl) (by kernel_rfl) (by kernel_rfl) (fun _ _ _ h => h) (Or.inl ⟨by rfl, ?_⟩) (by assumption) ?_
        rotate_left
        · intro w hSw; (try dsimp only at hSw); go_simp; try (with_reducible rfl)
        change wpAnyH _ _ _ _ _ _ _ (Act.put _ (some 53) _) _
        try (simp only [Act.put, List.setIfInBounds_toArray, List.set_cons_zero, List.set_cons_succ])
        refine wpAnyH_take (i := 22) (v := ?_) rfl (by kernel_rfl) (by kernel_rfl) (by kernel_rfl) (fun _ _ _ h => h) (Or.inl ⟨by rfl, ?_⟩) (by assumption) ?_
        rotate_left
        · intro w hSw; (try dsimp only at hSw); go_simp; try (with_reducible rfl)
        change wpAnyH _ _ _ _ _ _ _ (Act.put _ (some 6) _) _
        try (simp only [Act.put, List.setIfInBounds_toArray, List.set_cons_zero, List.set_cons_succ])
        refine wpAnyH_done (by kernel_rfl) ?_ _
        refine NoPanic.normal ?_
        go_wp2
        go_ret
        exact ⟨rfl, Since.b (by assumption)⟩
  · go_enter Try.func6, Try.ntmps6
    go_wp2_with fail
    refine (few_no _ _ _ _ _ _ _ (by omega)).mono ?_
    rintro e w' ⟨rfl, rfl⟩
    go_wp2_with fail
    refine (awake_any _).mono ?_
    rintro e w' ⟨rfl, hb⟩
    go_wp2_with fail
    go_ret
    exact ⟨rfl, step_below (((Below.refl _ _).alloc (Nat.le_refl _) _).alloc (by simp) _) hb⟩
end Go.Proofs.Ytbkidddbkcbiaaa
