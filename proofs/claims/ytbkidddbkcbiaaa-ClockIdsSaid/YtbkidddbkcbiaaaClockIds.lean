/-
  The walk of the statement ClockIds: it returns true and changes nothing that was there. Conditions: the arguments read as their types say.
-/
import Derived.Test.YtbkidddbkcbiaaaClockLater
namespace Go.Proofs.Ytbkidddbkcbiaaa
open Go.RowKit
set_option linter.unusedVariables false

theorem id_none {a b : Int} (h : rightB a b = false) : idOf a b = 0 := by unfold idOf; rw [h]; rfl
theorem id_some {a b : Int} (h : rightB a b = true) : idOf a b = 16 * a + b := by unfold idOf; rw [h]; rfl
theorem id_of {a b : Int} (h : rightB a b = true) : ofC (idOf a b) = a ∧ ofD (idOf a b) = b ∧ ofB (idOf a b) = true ∧ -9223372036854775808 ≤ idOf a b ∧ idOf a b ≤ 9223372036854775807 := by
  rw [id_some h]
  have hh := h
  rw [rightB_iff] at hh
  have q1 : (16 * a + b).tdiv 16 = a := by rw [Int.tdiv_eq_ediv_of_nonneg (by omega)]; omega
  have q2 : (16 * a + b).tmod 16 = b := by rw [Int.tmod_eq_emod_of_nonneg (by omega)]; omega
  unfold ofC ofD ofB
  rw [q1, q2, h]
  exact ⟨rfl, rfl, rfl, by omega, by omega⟩
theorem less_id {a b c d : Int} (h : rightB a b = true) (k : rightB c d = true) : lessB a b c d = decide (idOf a b < idOf c d) := by
  rw [id_some h, id_some k]
  rw [rightB_iff] at h k
  unfold lessB
  rw [decide_eq_decide]; omega
theorem of_none {n : Int} (h : ofB n = false) : ofC n = 0 ∧ ofD n = 0 := by unfold ofB at h; unfold ofC ofD; rw [h]; exact ⟨rfl, rfl⟩
theorem of_some {n : Int} (h : ofB n = true) : rightB (ofC n) (ofD n) = true ∧ idOf (ofC n) (ofD n) = n := by
  have q1 : ofC n = n.tdiv 16 := by unfold ofB at h; unfold ofC; rw [h]; rfl
  have q2 : ofD n = n.tmod 16 := by unfold ofB at h; unfold ofD; rw [h]; rfl
  have q3 : rightB (ofC n) (ofD n) = true := by rw [q1, q2]; exact h
  refine ⟨q3, ?_⟩
  rw [id_some q3, q1, q2]
  exact Int.mul_tdiv_add_tmod n 16
theorem id_int (w : World) (r c d : Int) (h : idOf c d = r) : Calls Try.prog 30 #[.agg #[.int .i64 c, .int .i64 d]] w (RetInt r w) := by
  subst h; exact id_any w c d
theorem of_id (w : World) (a b : Int) (h : rightB a b = true) : Calls Try.prog 25 #[.int .i64 (idOf a b)] w (RetStamp a b true w) := by
  obtain ⟨h1, h2, h3, lo, hi⟩ := id_of h
  have := of_any w (idOf a b) lo hi
  rw [h1, h2, h3] at this
  exact this
theorem keep6' {w w' : World} {x y u v s t : Value} {n m k : Nat} (hb : Below w.heap.size w w')
    (h : ((w.cell? ⟨n, 0, none⟩ = some x ∧ w.cell? ⟨n, 1, none⟩ = some y) ∧ (w.cell? ⟨m, 0, none⟩ = some u ∧ w.cell? ⟨m, 1, none⟩ = some v)) ∧ (w.cell? ⟨k, 0, none⟩ = some s ∧ w.cell? ⟨k, 1, none⟩ = some t)) :
    ((w'.cell? ⟨n, 0, none⟩ = some x ∧ w'.cell? ⟨n, 1, none⟩ = some y) ∧ (w'.cell? ⟨m, 0, none⟩ = some u ∧ w'.cell? ⟨m, 1, none⟩ = some v)) ∧ (w'.cell? ⟨k, 0, none⟩ = some s ∧ w'.cell? ⟨k, 1, none⟩ = some t) :=
  ⟨⟨keep2 hb h.1.1, keep2 hb h.1.2⟩, keep2 hb h.2⟩

set_option maxHeartbeats 4000000 in
theorem walk_ClockIds (w : World) (a b : Int) (ba : -9223372036854775808 ≤ a ∧ a ≤ 9223372036854775807) (bb : -9223372036854775808 ≤ b ∧ b ≤ 9223372036854775807)
    (c d : Int) (bc : -9223372036854775808 ≤ c ∧ c ≤ 9223372036854775807) (bd : -9223372036854775808 ≤ d ∧ d ≤ 9223372036854775807) (n : Int) (lo : -9223372036854775808 ≤ n) (hi : n ≤ 9223372036854775807) :
    Calls Try.prog 8 #[.agg #[.int .i64 a, .int .i64 b], .agg #[.int .i64 c, .int .i64 d], .int .i64 n] w fun e w' => e = .returned (.bool true) ∧ Below w.heap.size w w' := by
  clear ba bb bc bd
  have s0 : ((((w.alloc (.cells #[.int .i64 a, .int .i64 b] 26)).alloc (.cells #[.int .i64 c, .int .i64 d] 26)).cell? ⟨w.heap.size, 0, none⟩ = some (.int .i64 a) ∧ ((w.alloc (.cells #[.int .i64 a, .int .i64 b] 26)).alloc (.cells #[.int .i64 c, .int .i64 d] 26)).cell? ⟨w.heap.size, 1, none⟩ = some (.int .i64 b)) ∧ (((w.alloc (.cells #[.int .i64 a, .int .i64 b] 26)).alloc (.cells #[.int .i64 c, .int .i64 d] 26)).cell? ⟨w.heap.size + 1, 0, none⟩ = some (.int .i64 c) ∧ ((w.alloc (.cells #[.int .i64 a, .int .i64 b] 26)).alloc (.cells #[.int .i64 c, .int .i64 d] 26)).cell? ⟨w.heap.size + 1, 1, none⟩ = some (.int .i64 d))) := ⟨cell_alloc2 _ (cell_lit2 w _ _ _), lit_at _ _ _ _ _ (by simp)⟩
  have hs0 : Since w ((w.alloc (.cells #[.int .i64 a, .int .i64 b] 26)).alloc (.cells #[.int .i64 c, .int .i64 d] 26)) := ⟨((Below.refl _ _).alloc (Nat.le_refl _) _).alloc (by simp) _⟩
  rcases ha : rightB a b with _ | _
  · go_enter Try.func8, Try.ntmps8
    go_wp2_with fail
    refine (right_bool _ false a b ha).mono ?_
    rintro e w3 ⟨rfl, hb⟩
    have kk := keep4 hb s0
    have hs0 := hs0.step hb
    clear s0 hb
    have s0 := kk
    clear kk
    obtain ⟨⟨k0, k1⟩, k2, k3⟩ := s0
    go_wp2_with fail
    refine (id_int _ 0 a b (id_none ha)).mono ?_
    rintro e w4 ⟨rfl, hb⟩
    have s0 := keep4 hb ⟨⟨k0, k1⟩, k2, k3⟩
    have hs0 := hs0.step hb
    clear k0 k1 k2 k3 hb
    go_wp2_with fail
    refine (of_any _ n lo hi).mono ?_
    rintro e w5 ⟨rfl, hb⟩
    have hs := Since.step (w := w) (by assumption) hb
    clear hb
    rcases hn : ofB n with _ | _
    · obtain ⟨e1, e2⟩ := of_none hn
      have Hn := Lib.hid hn
      clear hn
      rw [e1, e2]
      clear e1 e2
      have heq : ∀ w, (binOp .eql 26 (.agg #[.int .i64 0, .int .i64 0]) (.agg #[.int .i64 0, .int .i64 0])).run Try.prog w = .ok (.bool true) w := fun w => by
        rw [stamp_eql]; simp
      go_wp2_with fail
      refine (awake_any _).mono ?_
      rintro e w6 ⟨rfl, hb⟩
      have hs := Since.step ⟨hs.b.alloc hs.b.size _⟩ hb
      go_wp2_with fail
      go_ret
      exact ⟨rfl, hs.b⟩
    · obtain ⟨e1, e2⟩ := of_some hn
      have Hn := Lib.hid hn
      clear hn
      generalize ofC n = x at *
      generalize ofD n = y at *
      have s1 := cell_lit2 w5 (.int .i64 x) (.int .i64 y) 26
      have hs : Since w (w5.alloc (.cells #[.int .i64 x, .int .i64 y] 26)) := ⟨hs.b.alloc hs.b.size _⟩
      go_wp2_with fail
      refine (right_bool _ _ _ _ e1).mono ?_
      rintro e w6 ⟨rfl, hb⟩
      have s2 := keep2 hb s1
      have hs := hs.step hb
      clear s1 hb
      obtain ⟨k0, k1⟩ := s2
      go_wp2_with fail
      refine (id_int _ _ _ _ e2).mono ?_
      rintro e w7 ⟨rfl, hb⟩
      have hs := hs.step hb
      clear k0 k1 hb
      go_wp2_with fail
      refine (awake_any _).mono ?_
      rintro e w8 ⟨rfl, hb⟩
      have hs := hs.step hb
      go_wp2_with fail
      go_ret
      exact ⟨rfl, hs.b⟩

  · go_enter Try.func8, Try.ntmps8
    go_wp2_with fail
    refine (right_bool _ true a b ha).mono ?_
    rintro e w3 ⟨rfl, hb⟩
    have kk := keep4 hb s0
    have hs0 := hs0.step hb
    clear s0 hb
    have s0 := kk
    clear kk
    obtain ⟨⟨k0, k1⟩, k2, k3⟩ := s0
    go_wp2_with fail
    refine (id_any _ a b).mono ?_
    rintro e w4 ⟨rfl, hb⟩
    have s0 := keep4 hb ⟨⟨k0, k1⟩, k2, k3⟩
    have hs0 := hs0.step hb
    clear k0 k1 k2 k3 hb
    go_wp2_with fail
    refine (of_id _ a b ha).mono ?_
    rintro e w1 ⟨rfl, hb⟩
    have kk := keep4 hb s0
    have hs0 := hs0.step hb
    clear s0 hb
    have s3 : ((((w1.alloc (.cells #[.int .i64 a, .int .i64 b] 26)).cell? ⟨w.heap.size, 0, none⟩ = some (.int .i64 a) ∧ (w1.alloc (.cells #[.int .i64 a, .int .i64 b] 26)).cell? ⟨w.heap.size, 1, none⟩ = some (.int .i64 b)) ∧ ((w1.alloc (.cells #[.int .i64 a, .int .i64 b] 26)).cell? ⟨w.heap.size + 1, 0, none⟩ = some (.int .i64 c) ∧ (w1.alloc (.cells #[.int .i64 a, .int .i64 b] 26)).cell? ⟨w.heap.size + 1, 1, none⟩ = some (.int .i64 d))) ∧ ((w1.alloc (.cells #[.int .i64 a, .int .i64 b] 26)).cell? ⟨w1.heap.size, 0, none⟩ = some (.int .i64 a) ∧ (w1.alloc (.cells #[.int .i64 a, .int .i64 b] 26)).cell? ⟨w1.heap.size, 1, none⟩ = some (.int .i64 b))) := ⟨⟨cell_alloc2 _ kk.1, cell_alloc2 _ kk.2⟩, cell_lit2 w1 _ _ _⟩
    have hs3 : Since w (w1.alloc (.cells #[.int .i64 a, .int .i64 b] 26)) := ⟨hs0.b.alloc hs0.b.size _⟩
    clear kk hs0
    have hne : ∀ w, (binOp .neq 26 (.agg #[.int .i64 a, .int .i64 b]) (.agg #[.int .i64 a, .int .i64 b])).run Try.prog w = .ok (.bool false) w := fun w => by
      rw [stamp_neq]; simp
    go_wp2_with fail
    generalize w1.heap.size = m1 at *
    generalize w1.alloc (.cells #[.int .i64 a, .int .i64 b] 26) = W at *
    have s4 : (((W.drew.cell? ⟨w.heap.size, 0, none⟩ = some (.int .i64 a) ∧ W.drew.cell? ⟨w.heap.size, 1, none⟩ = some (.int .i64 b)) ∧ (W.drew.cell? ⟨w.heap.size + 1, 0, none⟩ = some (.int .i64 c) ∧ W.drew.cell? ⟨w.heap.size + 1, 1, none⟩ = some (.int .i64 d))) ∧ (W.drew.cell? ⟨m1, 0, none⟩ = some (.int .i64 a) ∧ W.drew.cell? ⟨m1, 1, none⟩ = some (.int .i64 b))) := s3
    have hs' : Since w W.drew := ⟨hs3.b.drew⟩
    clear s3 hs3
    rcases hb0 : rightB c d with _ | _
    · refine wp_region_noPanic ?_
      refine wp_region_held_drew (S := fun w' => (((w'.cell? ⟨w.heap.size, 0, none⟩ = some (.int .i64 a) ∧ w'.cell? ⟨w.heap.size, 1, none⟩ = some (.int .i64 b)) ∧ (w'.cell? ⟨w.heap.size + 1, 0, none⟩ = some (.int .i64 c) ∧ w'.cell? ⟨w.heap.size + 1, 1, none⟩ = some (.int .i64 d))) ∧ (w'.cell? ⟨m1, 0, none⟩ = some (.int .i64 a) ∧ w'.cell? ⟨m1, 1, none⟩ = some (.int .i64 b)))) (by kernel_rfl) s4 (fun hHeld => ?_)
      refine wpAnyH_take (i := 0) (v := ?_) rfl (by kernel_rfl) (by kernel_rfl) (by kernel_rfl) (fun _ _ _ h => h) (Or.inl ⟨by rfl, ?_⟩) (by assumption) ?_
      rotate_left
      · intro w hSw; (try dsimp only at hSw); go_simp; try (with_reducible rfl)
      change wpAnyH _ _ _ _ _ _ _ (Act.put _ (some 19) _) _
      try (simp only [Act.put, List.setIfInBounds_toArray, List.set_cons_zero, List.set_cons_succ])
      refine wpAnyH_take (i := 1) (v := ?_) rfl (by kernel_rfl) (by kernel_rfl) (by kernel_rfl) (fun _ _ _ h => h) (Or.inl ⟨by rfl, ?_⟩) (by assumption) ?_
      rotate_left
      · intro w hSw; (try dsimp only at hSw); go_simp; try (with_reducible rfl)
      change wpAnyH _ _ _ _ _ _ _ (Act.put _ (some 20) _) _
      try (simp only [Act.put, List.setIfInBounds_toArray, List.set_cons_zero, List.set_cons_succ])
      refine wpAnyH_take (i := 2) (v := ?_) rfl (by kernel_rfl) (by kernel_rfl) (by kernel_rfl) (fun _ _ _ h => h) (Or.inl ⟨by rfl, ?_⟩) (by assumption) ?_
      rotate_left
      · intro w hSw; (try dsimp only at hSw); go_simp; try (with_reducible rfl)
      change wpAnyH _ _ _ _ _ _ _ (Act.put _ (some 21) _) _
      try (simp only [Act.put, List.setIfInBounds_toArray, List.set_cons_zero, List.set_cons_succ])
      refine wpAnyH_take (i := 3) (v := ?_) rfl (by kernel_rfl) (by kernel_rfl) (by kernel_rfl) (fun _ _ _ h => h) (Or.inl ⟨by rfl, ?_⟩) (by assumption) ?_
      rotate_left
      · intro w hSw; (try dsimp only at hSw); go_simp; try (with_reducible rfl)
      change wpAnyH _ _ _ _ _ _ _ (Act.put _ (some 22) _) _
      try (simp only [Act.put, List.setIfInBounds_toArray, List.set_cons_zero, List.set_cons_succ])
      refine wpAnyH_take (i := 4) (v := ?_) rfl (by kernel_rfl) (by kernel_rfl) (by kernel_rfl) (fun _ _ _ h => h) (Or.inl ⟨by rfl, ?_⟩) (by assumption) ?_
      rotate_left
      · intro w hSw; (try dsimp only at hSw); go_simp; try (with_reducible rfl)
      change wpAnyH _ _ _ _ _ _ _ (Act.put _ (some 23) _) _
      try (simp only [Act.put, List.setIfInBounds_toArray, List.set_cons_zero, List.set_cons_succ])
      refine wpAnyH_take (i := 5) (v := ?_) rfl (by kernel_rfl) (by kernel_rfl) (by kernel_rfl) (fun _ _ _ h => h) (Or.inl ⟨by rfl, ?_⟩) (by assumption) ?_
      rotate_left
      · intro w hSw; (try dsimp only at hSw); go_simp; try (with_reducible rfl)
      change wpAnyH _ _ _ _ _ _ _ (Act.put _ (some 24) _) _
      try (simp only [Act.put, List.setIfInBounds_toArray, List.set_cons_zero, List.set_cons_succ])
      refine wpAnyH_take (i := 6) (v := ?_) rfl (by kernel_rfl) (by kernel_rfl) (by kernel_rfl) (fun _ _ _ h => h) (Or.inl ⟨by rfl, ?_⟩) (by assumption) ?_
      rotate_left
      · intro w hSw; (try dsimp only at hSw); go_simp; try (with_reducible rfl)
      change wpAnyH _ _ _ _ _ _ _ (Act.put _ (some 25) _) _
      try (simp only [Act.put, List.setIfInBounds_toArray, List.set_cons_zero, List.set_cons_succ])
      refine wpAnyH_take (i := 7) (v := ?_) rfl (by kernel_rfl) (by kernel_rfl) (by kernel_rfl) (fun _ _ _ h => h) (Or.inl ⟨by rfl, ?_⟩) (by assumption) ?_
      rotate_left
      · intro w hSw; (try dsimp only at hSw); go_simp; try (with_reducible rfl)
      change wpAnyH _ _ _ _ _ _ _ (Act.put _ (some 26) _) _
      try (simp only [Act.put, List.setIfInBounds_toArray, List.set_cons_zero, List.set_cons_succ])
      refine wpAnyH_take (i := 8) (v := ?_) rfl (by kernel_rfl) (by kernel_rfl) (by kernel_rfl) (fun _ _ _ h => h) (Or.inl ⟨by rfl, ?_⟩) (by assumption) ?_
      rotate_left
      · intro w hSw; (try dsimp only at hSw); go_simp; try (with_reducible rfl)
      change wpAnyH _ _ _ _ _ _ _ (Act.put _ (some 27) _) _
      try (simp only [Act.put, List.setIfInBounds_toArray, List.set_cons_zero, List.set_cons_succ])
      refine wpAnyH_ready (rs := [9]) (by kernel_rfl) (by simp) ?_
      refine AllReadyH.cons rfl (fun K hK => ?_) AllReadyH.nil
      go_simp
      refine (right_bool _ false c d hb0).mono ?_
      rintro e w' ⟨rfl, hb⟩; have hs := Since.step (w := w) (by assumption) hb
      go_simp
      refine hK.out _ _ ?_ (fun hHeld => ?_)
      · (first | exact keep6' (by assumption) (by assumption) | assumption)
      clear hK K
      refine wpAnyH_take (i := 10) (v := ?_) rfl (by kernel_rfl) (by kernel_rfl) (by kernel_rfl) (fun _ _ _ h => h) (Or.inl ⟨by rfl, ?_⟩) (by assumption) ?_
      rotate_left
      · intro w hSw; (try dsimp only at hSw); go_simp; try (with_reducible rfl)
      change wpAnyH _ _ _ _ _ _ _ (Act.put _ (some 29) _) _
      try (simp only [Act.put, List.setIfInBounds_toArray, List.set_cons_zero, List.set_cons_succ])
      refine held_skip 11 rfl (by kernel_rfl) (by kernel_rfl) (by kernel_rfl) (fun _ _ _ h => h) (by rfl) (by assumption) ?_
      change wpAnyH _ _ _ _ _ _ _ (Act.put _ (some 30) _) _
      try (simp only [Act.put, List.setIfInBounds_toArray, List.set_cons_zero, List.set_cons_succ])
      refine held_skip 12 rfl (by kernel_rfl) (by kernel_rfl) (by kernel_rfl) (fun _ _ _ h => h) (by rfl) (by assumption) ?_
      change wpAnyH _ _ _ _ _ _ _ (Act.put _ (some 31) _) _
      try (simp only [Act.put, List.setIfInBounds_toArray, List.set_cons_zero, List.set_cons_succ])
      refine held_skip 13 rfl (by kernel_rfl) (by kernel_rfl) (by kernel_rfl) (fun _ _ _ h => h) (by rfl) (by assumption) ?_
      change wpAnyH _ _ _ _ _ _ _ (Act.put _ (some 32) _) _
      try (simp only [Act.put, List.setIfInBounds_toArray, List.set_cons_zero, List.set_cons_succ])
      refine held_skip 14 rfl (by kernel_rfl) (by kernel_rfl) (by kernel_rfl) (fun _ _ _ h => h) (by rfl) (by assumption) ?_
      change wpAnyH _ _ _ _ _ _ _ (Act.put _ (some 33) _) _
      try (simp only [Act.put, List.setIfInBounds_toArray, List.set_cons_zero, List.set_cons_succ])
      refine held_skip 15 rfl (by kernel_rfl) (by kernel_rfl) (by kernel_rfl) (fun _ _ _ h => h) (by rfl) (by assumption) ?_
      change wpAnyH _ _ _ _ _ _ _ (Act.put _ (some 34) _) _
      try (simp only [Act.put, List.setIfInBounds_toArray, List.set_cons_zero, List.set_cons_succ])
      refine held_skip 16 rfl (by kernel_rfl) (by kernel_rfl) (by kernel_rfl) (fun _ _ _ h => h) (by rfl) (by assumption) ?_
      change wpAnyH _ _ _ _ _ _ _ (Act.put _ (some 35) _) _
      try (simp only [Act.put, List.setIfInBounds_toArray, List.set_cons_zero, List.set_cons_succ])
      refine held_skip 17 rfl (by kernel_rfl) (by kernel_rfl) (by kernel_rfl) (fun _ _ _ h => h) (by rfl) (by assumption) ?_
      change wpAnyH _ _ _ _ _ _ _ (Act.put _ (some 36) _) _
      try (simp only [Act.put, List.setIfInBounds_toArray, List.set_cons_zero, List.set_cons_succ])
      refine held_skip 18 rfl (by kernel_rfl) (by kernel_rfl) (by kernel_rfl) (fun _ _ _ h => h) (by rfl) (by assumption) ?_
      change wpAnyH _ _ _ _ _ _ _ (Act.put _ (some 37) _) _
      try (simp only [Act.put, List.setIfInBounds_toArray, List.set_cons_zero, List.set_cons_succ])
      refine held_skip 19 rfl (by kernel_rfl) (by kernel_rfl) (by kernel_rfl) (fun _ _ _ h => h) (by rfl) (by assumption) ?_
      change wpAnyH _ _ _ _ _ _ _ (Act.put _ (some 38) _) _
      try (simp only [Act.put, List.setIfInBounds_toArray, List.set_cons_zero, List.set_cons_succ])
      refine wpAnyH_take (i := 20) (v := ?_) rfl (by kernel_rfl) (by kernel_rfl) (by kernel_rfl) (fun _ _ _ h => h) (Or.inl ⟨by rfl, ?_⟩) (by assumption) ?_
      rotate_left
      · intro w hSw; (try dsimp only at hSw); go_simp; try (with_reducible rfl)
      change wpAnyH _ _ _ _ _ _ _ (Act.put _ (some 39) _) _
      try (simp only [Act.put, List.setIfInBounds_toArray, List.set_cons_zero, List.set_cons_succ])
      refine wpAnyH_take (i := 21) (v := ?_) rfl (by kernel_rfl) (by kernel_rfl) (by kernel_rfl) (fun _ _ _ h => h) (Or.inl ⟨by rfl, ?_⟩) (by assumption) ?_
      rotate_left
      · intro w hSw; (try dsimp only at hSw); go_simp; try (with_reducible rfl)
      change wpAnyH _ _ _ _ _ _ _ (Act.put _ (some 40) _) _
      try (simp only [Act.put, List.setIfInBounds_toArray, List.set_cons_zero, List.set_cons_succ])
      refine wpAnyH_done (by kernel_rfl) ?_ _
      refine NoPanic.normal ?_
      go_wp2_with fail
      refine (of_any _ n lo hi).mono ?_
      rintro e w5 ⟨rfl, hb⟩
      have hs := Since.step (w := w) (by assumption) hb
      clear hb
      rcases hn : ofB n with _ | _
      · obtain ⟨e1, e2⟩ := of_none hn
        have Hn := Lib.hid hn
        clear hn
        rw [e1, e2]
        clear e1 e2
        have heq : ∀ w, (binOp .eql 26 (.agg #[.int .i64 0, .int .i64 0]) (.agg #[.int .i64 0, .int .i64 0])).run Try.prog w = .ok (.bool true) w := fun w => by
          rw [stamp_eql]; simp
        go_wp2_with fail
        refine (awake_any _).mono ?_
        rintro e w6 ⟨rfl, hb⟩
        have hs := Since.step ⟨hs.b.alloc hs.b.size _⟩ hb
        go_wp2_with fail
        go_ret
        exact ⟨rfl, hs.b⟩
      · obtain ⟨e1, e2⟩ := of_some hn
        have Hn := Lib.hid hn
        clear hn
        generalize ofC n = x at *
        generalize ofD n = y at *
        have s1 := cell_lit2 w5 (.int .i64 x) (.int .i64 y) 26
        have hs : Since w (w5.alloc (.cells #[.int .i64 x, .int .i64 y] 26)) := ⟨hs.b.alloc hs.b.size _⟩
        go_wp2_with fail
        refine (right_bool _ _ _ _ e1).mono ?_
        rintro e w6 ⟨rfl, hb⟩
        have s2 := keep2 hb s1
        have hs := hs.step hb
        clear s1 hb
        obtain ⟨k0, k1⟩ := s2
        go_wp2_with fail
        refine (id_int _ _ _ _ e2).mono ?_
        rintro e w7 ⟨rfl, hb⟩
        have hs := hs.step hb
        clear k0 k1 hb
        go_wp2_with fail
        refine (awake_any _).mono ?_
        rintro e w8 ⟨rfl, hb⟩
        have hs := hs.step hb
        go_wp2_with fail
        go_ret
        exact ⟨rfl, hs.b⟩

    · have hlid := less_id ha hb0
      go_region_held3 (fun w' => (((w'.cell? ⟨w.heap.size, 0, none⟩ = some (.int .i64 a) ∧ w'.cell? ⟨w.heap.size, 1, none⟩ = some (.int .i64 b)) ∧ (w'.cell? ⟨w.heap.size + 1, 0, none⟩ = some (.int .i64 c) ∧ w'.cell? ⟨w.heap.size + 1, 1, none⟩ = some (.int .i64 d))) ∧ (w'.cell? ⟨m1, 0, none⟩ = some (.int .i64 a) ∧ w'.cell? ⟨m1, 1, none⟩ = some (.int .i64 b)))) (first | exact s4 | exact keep6' (by assumption) (by assumption) | assumption)
        (first | (go_at_call 27; refine (right_bool _ true c d hb0).mono ?_; rintro e w' ⟨rfl, hb⟩; have hs := Since.step (w := w) (by assumption) hb) | (go_at_call 28; refine (less_any _ a b c d).mono ?_; rintro e w' ⟨rfl, hb⟩; have hs := Since.step (w := w) (by assumption) hb) | (go_at_call_of 30 (Value.agg #[Value.int IntKind.i64 a, Value.int IntKind.i64 b]); refine (id_any _ a b).mono ?_; rintro e w' ⟨rfl, hb⟩; have hs := Since.step (w := w) (by assumption) hb) | (go_at_call 30; refine (id_any _ c d).mono ?_; rintro e w' ⟨rfl, hb⟩; have hs := Since.step (w := w) (by assumption) hb))
      go_wp2_with fail
      refine (of_any _ n lo hi).mono ?_
      rintro e w5 ⟨rfl, hb⟩
      have hs := Since.step (w := w) (by assumption) hb
      clear hb
      rcases hn : ofB n with _ | _
      · obtain ⟨e1, e2⟩ := of_none hn
        have Hn := Lib.hid hn
        clear hn
        rw [e1, e2]
        clear e1 e2
        have heq : ∀ w, (binOp .eql 26 (.agg #[.int .i64 0, .int .i64 0]) (.agg #[.int .i64 0, .int .i64 0])).run Try.prog w = .ok (.bool true) w := fun w => by
          rw [stamp_eql]; simp
        go_wp2_with fail
        refine (awake_any _).mono ?_
        rintro e w6 ⟨rfl, hb⟩
        have hs := Since.step ⟨hs.b.alloc hs.b.size _⟩ hb
        go_wp2_with fail
        go_ret
        exact ⟨rfl, hs.b⟩
      · obtain ⟨e1, e2⟩ := of_some hn
        have Hn := Lib.hid hn
        clear hn
        generalize ofC n = x at *
        generalize ofD n = y at *
        have s1 := cell_lit2 w5 (.int .i64 x) (.int .i64 y) 26
        have hs : Since w (w5.alloc (.cells #[.int .i64 x, .int .i64 y] 26)) := ⟨hs.b.alloc hs.b.size _⟩
        go_wp2_with fail
        refine (right_bool _ _ _ _ e1).mono ?_
        rintro e w6 ⟨rfl, hb⟩
        have s2 := keep2 hb s1
        have hs := hs.step hb
        clear s1 hb
        obtain ⟨k0, k1⟩ := s2
        go_wp2_with fail
        refine (id_int _ _ _ _ e2).mono ?_
        rintro e w7 ⟨rfl, hb⟩
        have hs := hs.step hb
        clear k0 k1 hb
        go_wp2_with fail
        refine (awake_any _).mono ?_
        rintro e w8 ⟨rfl, hb⟩
        have hs := hs.step hb
        go_wp2_with fail
        go_ret
        exact ⟨rfl, hs.b⟩
end Go.Proofs.Ytbkidddbkcbiaaa
