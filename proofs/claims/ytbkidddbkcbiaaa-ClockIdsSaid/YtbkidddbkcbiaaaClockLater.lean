/-
  The walk of the statement ClockLater: it returns true and changes nothing that was there. Conditions: the arguments read as their types say.
-/
import Derived.Test.YtbkidddbkcbiaaaClockLaws3
import Derived.Test.YtbkidddbkcbiaaaClockTotal
namespace Go.Proofs.Ytbkidddbkcbiaaa
open Go.RowKit
set_option linter.unusedVariables false

theorem next_none {l : List Int} {n : Int} (h : nextB l n = false) : nextC l n = 0 ∧ nextD l n = 0 := by unfold nextC nextD; rw [h]; exact ⟨rfl, rfl⟩
theorem next_some {l : List Int} {n : Int} (h : nextB l n = true) : nextC l n = topL l + 1 ∧ nextD l n = n ∧ rightB (topL l + 1) n = true := by
  refine ⟨by unfold nextC; rw [h]; rfl, by unfold nextD; rw [h]; rfl, ?_⟩
  unfold nextB at h; rw [rightB_iff] at *; omega
theorem num_top (l : List Int) (c d : Int) (h : coversB l c d = true) : c ≤ topL l := by
  unfold coversB at h
  rw [Bool.and_eq_true, rightB_iff, decide_eq_true_iff] at h
  have := topN_ge l 15 (d - 1).toNat (by omega)
  unfold topL; omega
theorem next_not (l : List Int) (n : Int) : coversB l (topL l + 1) n = false := by
  rcases h : coversB l (topL l + 1) n with _ | _
  · rfl
  · have := num_top _ _ _ h; omega
theorem cov_less (l : List Int) (c d n : Int) (h : coversB l c d = true) : lessB c d (topL l + 1) n = true := by
  rw [lessB_iff]; have := num_top _ _ _ h; omega
theorem see_next (l : List Int) (c d : Int) (h : rightB c d = true) : coversB (seeL l c d) c d = true := by
  rw [covers_see]; unfold moreB; rw [h]; simp
theorem covers_bool (w : World) (r : Bool) (A : Option Addr) (n : Nat) (l : List Int) (h : Rd w A (l.map I64)) (hl : l.length ≤ 9223372036854775807) (c d : Int) (hr : coversB l c d = r) :
    Calls Try.prog 17 #[.slice A l.length n, .agg #[.int .i64 c, .int .i64 d]] w (RetBool r w) := by
  subst hr; exact covers_any w A n l h hl c d
theorem right_bool (w : World) (r : Bool) (c d : Int) (h : rightB c d = r) : Calls Try.prog 27 #[.agg #[.int .i64 c, .int .i64 d]] w (RetBool r w) := by
  subst h; exact right_bel w c d

set_option maxHeartbeats 4000000 in
theorem walk_ClockLater (w : World) (A : Option Addr) (ca : Nat) (l : List Int) (h : Rd w A (l.map I64)) (hl : l.length ≤ maxLen) (hbd : ∀ n ∈ l, -9223372036854775808 ≤ n ∧ n ≤ 9223372036854775807)
    (n : Int) (lo : -9223372036854775808 ≤ n) (hi : n ≤ 9223372036854775807)
    (c d : Int) (bc : -9223372036854775808 ≤ c ∧ c ≤ 9223372036854775807) (bd : -9223372036854775808 ≤ d ∧ d ≤ 9223372036854775807) :
    Calls Try.prog 10 #[.slice A l.length ca, .int .i64 n, .agg #[.int .i64 c, .int .i64 d]] w fun e w' => e = .returned (.bool true) ∧ Below w.heap.size w w' := by
  unfold maxLen at hl
  have Hbd := Lib.hid (fun n hn => (hbd n hn).2)
  clear hbd bc bd lo hi
  by_cases hf : l.length ≤ 100
  · go_enter Try.func10, Try.ntmps10
    go_wp2_with fail
    refine (few_yes _ _ _ _ _ _ _ hf (by omega)).mono ?_
    rintro e w' ⟨rfl, rfl⟩
    go_wp2_with fail
    have h0 := h.alloc (.cells #[.int .i64 c, .int .i64 d] 26)
    refine (next_any _ _ _ _ h0 hl Hbd.out _).mono ?_
    rintro e w1 ⟨rfl, hb1⟩
    have h1 := h0.below hb1
    have k1 := keep2 hb1 (cell_lit2 w (.int .i64 c) (.int .i64 d) 26)
    have hs1 : Since w w1 := Since.step ⟨(Below.refl _ _).alloc (Nat.le_refl _) _⟩ hb1
    clear h h0 hb1
    rcases hn : nextB l n with _ | _
    · obtain ⟨e1, e2⟩ := next_none hn
      rw [e1, e2]
      clear e1 e2
      have Hn := Lib.hid hn
      clear hn
      have heq : ∀ w, (binOp .eql 26 (.agg #[.int .i64 0, .int .i64 0]) (.agg #[.int .i64 0, .int .i64 0])).run Try.prog w = .ok (.bool true) w := fun w => by
        rw [stamp_eql]; simp
      go_wp2_with fail
      refine (awake_any _).mono ?_
      rintro e w3 ⟨rfl, hb3⟩
      go_wp2_with fail
      go_ret
      exact ⟨rfl, step_below (hs1.b.alloc hs1.b.size _) hb3⟩
    · obtain ⟨e1, e2, hr⟩ := next_some hn
      rw [e1, e2]
      have hnot := next_not l n
      have Hless := Lib.hid (fun h => cov_less l c d n h)
      have hsee := see_next l (topL l + 1) n hr
      have hsl : (seeL l (topL l + 1) n).length ≤ 9223372036854775807 := by rw [seeL_length]; omega
      clear e1 e2 hn
      generalize topL l + 1 = t at *
      have h2 := h1.alloc (.cells #[.int .i64 t, .int .i64 n] 26)
      have k2 := (⟨cell_alloc2 _ k1, cell_lit2 w1 _ _ _⟩ : (((w1.alloc (.cells #[.int .i64 t, .int .i64 n] 26)).cell? ⟨w.heap.size, 0, none⟩ = some (.int .i64 c) ∧ (w1.alloc (.cells #[.int .i64 t, .int .i64 n] 26)).cell? ⟨w.heap.size, 1, none⟩ = some (.int .i64 d)) ∧ ((w1.alloc (.cells #[.int .i64 t, .int .i64 n] 26)).cell? ⟨w1.heap.size, 0, none⟩ = some (.int .i64 t) ∧ (w1.alloc (.cells #[.int .i64 t, .int .i64 n] 26)).cell? ⟨w1.heap.size, 1, none⟩ = some (.int .i64 n))))
      have hs2 : Since w (w1.alloc (.cells #[.int .i64 t, .int .i64 n] 26)) := ⟨hs1.b.alloc hs1.b.size _⟩
      clear k1 h1 hs1
      go_wp2_with fail
      refine (right_bool _ _ _ _ hr).mono ?_
      rintro e w3 ⟨rfl, hb⟩
      have h3 := h2.below hb
      obtain ⟨⟨k0, k1⟩, k3, k4⟩ := keep4 hb k2
      have hs3 := hs2.step hb
      clear h2 k2 hb hs2
      go_wp2_with fail
      refine (covers_bool _ _ _ _ _ h3 hl _ _ hnot).mono ?_
      rintro e w3 ⟨rfl, hb⟩
      have h3 := h3.below hb
      have kk := keep4 hb ⟨⟨k0, k1⟩, k3, k4⟩
      have hs3 := hs3.step hb
      clear k0 k1 k3 k4 hb
      obtain ⟨⟨k0, k1⟩, k3, k4⟩ := kk
      go_wp2_with fail
      rcases hcov : coversB l c d with _ | _
      · refine (covers_bool _ _ _ _ _ h3 hl _ _ hcov).mono ?_
        rintro e w3 ⟨rfl, hb⟩
        have h3 := h3.below hb
        have kk := keep4 hb ⟨⟨k0, k1⟩, k3, k4⟩
        have hs3 := hs3.step hb
        clear k0 k1 k3 k4 hb
        obtain ⟨⟨k0, k1⟩, k3, k4⟩ := kk
        go_wp2_with fail
        generalize w1.heap.size = m1 at *
        clear k0 k1
        have s4 : w3.drew.cell? ⟨m1, 0, none⟩ = some (.int .i64 t) ∧ w3.drew.cell? ⟨m1, 1, none⟩ = some (.int .i64 n) := ⟨k3, k4⟩
        have rA' := h3.drew
        have hs' : Since w w3.drew := ⟨hs3.b.drew⟩
        clear k3 k4
        go_region_held3 (fun w' => (w'.cell? ⟨m1, 0, none⟩ = some (.int .i64 t) ∧ w'.cell? ⟨m1, 1, none⟩ = some (.int .i64 n))) (first | exact s4 | exact keep2 (by assumption) (by assumption) | assumption)
          (first | (go_at_call 22; refine (see_any _ A ca l (by assumption) hl t n).mono ?_; intro e w' hj; obtain ⟨J, cj, rfl, rj, hb⟩ := retInts_rd hj; clear hj; have hs := Since.step (w := w) (by assumption) hb) | (go_at_call 17; refine (covers_bool _ _ J cj _ rj hsl t n hsee).mono ?_; rintro e w' ⟨rfl, hb⟩; have hs := Since.step (w := w) (by assumption) hb) | (go_at_call 12; refine (awake_any _).mono ?_; rintro e w' ⟨rfl, hb⟩; have hs := Since.step (w := w) (by assumption) hb))
        go_wp2
        go_ret
        exact ⟨rfl, Since.b (by assumption)⟩

      · have hles := Hless.out hcov
        refine (covers_bool _ _ _ _ _ h3 hl _ _ hcov).mono ?_
        rintro e w3 ⟨rfl, hb⟩
        have h3 := h3.below hb
        have kk := keep4 hb ⟨⟨k0, k1⟩, k3, k4⟩
        have hs3 := hs3.step hb
        clear k0 k1 k3 k4 hb
        obtain ⟨⟨k0, k1⟩, k3, k4⟩ := kk
        go_wp2_with fail
        refine (less_bool _ _ _ _ _ _ hles).mono ?_
        rintro e w3 ⟨rfl, hb⟩
        have h3 := h3.below hb
        have kk := keep4 hb ⟨⟨k0, k1⟩, k3, k4⟩
        have hs3 := hs3.step hb
        clear k0 k1 k3 k4 hb
        obtain ⟨⟨k0, k1⟩, k3, k4⟩ := kk
        go_wp2_with fail
        generalize w1.heap.size = m1 at *
        clear k0 k1
        have s4 : w3.drew.cell? ⟨m1, 0, none⟩ = some (.int .i64 t) ∧ w3.drew.cell? ⟨m1, 1, none⟩ = some (.int .i64 n) := ⟨k3, k4⟩
        have rA' := h3.drew
        have hs' : Since w w3.drew := ⟨hs3.b.drew⟩
        clear k3 k4
        go_region_held3 (fun w' => (w'.cell? ⟨m1, 0, none⟩ = some (.int .i64 t) ∧ w'.cell? ⟨m1, 1, none⟩ = some (.int .i64 n))) (first | exact s4 | exact keep2 (by assumption) (by assumption) | assumption)
          (first | (go_at_call 22; refine (see_any _ A ca l (by assumption) hl t n).mono ?_; intro e w' hj; obtain ⟨J, cj, rfl, rj, hb⟩ := retInts_rd hj; clear hj; have hs := Since.step (w := w) (by assumption) hb) | (go_at_call 17; refine (covers_bool _ _ J cj _ rj hsl t n hsee).mono ?_; rintro e w' ⟨rfl, hb⟩; have hs := Since.step (w := w) (by assumption) hb) | (go_at_call 12; refine (awake_any _).mono ?_; rintro e w' ⟨rfl, hb⟩; have hs := Since.step (w := w) (by assumption) hb))
        go_wp2
        go_ret
        exact ⟨rfl, Since.b (by assumption)⟩
  · go_enter Try.func10, Try.ntmps10
    go_wp2_with fail
    refine (few_no _ _ _ _ _ _ _ (by omega)).mono ?_
    rintro e w' ⟨rfl, rfl⟩
    go_wp2_with fail
    refine (awake_any _).mono ?_
    rintro e w' ⟨rfl, hb⟩
    go_wp2_with fail
    go_ret
    exact ⟨rfl, step_below ((Below.refl _ _).alloc (Nat.le_refl _) _) hb⟩
end Go.Proofs.Ytbkidddbkcbiaaa
