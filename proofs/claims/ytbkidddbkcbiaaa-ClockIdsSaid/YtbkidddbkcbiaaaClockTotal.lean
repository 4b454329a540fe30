/-
  The walk of the statement ClockTotal: it returns true and changes nothing that was there. Conditions: the arguments read as their types say.
-/
import Derived.Test.YtbkidddbkcbiaaaClockLaws2
import Derived.Test.YtbkidddbkcbiaaaHeld
import Derived.Deep.DeepCutAuto
namespace Go.Proofs.Ytbkidddbkcbiaaa
open Go.RowKit
set_option linter.unusedVariables false

theorem less_self (a b : Int) : lessB a b a b = false := by rw [lessB_not]; omega
theorem less_anti (a b c d : Int) (h : ¬ (a = c ∧ b = d)) : (lessB a b c d == lessB c d a b) = false := by
  rcases h1 : lessB a b c d with _ | _ <;> rcases h2 : lessB c d a b with _ | _
  · rw [lessB_not] at h1 h2; omega
  · rfl
  · rfl
  · rw [lessB_iff] at h1 h2; omega
theorem less_trans (a b c d x y : Int) (h1 : lessB a b c d = true) (h2 : lessB c d x y = true) : lessB a b x y = true := by
  rw [lessB_iff] at *; omega
theorem less_bool (w : World) (r : Bool) (a b c d : Int) (h : lessB a b c d = r) : Calls Try.prog 28 #[.agg #[.int .i64 a, .int .i64 b], .agg #[.int .i64 c, .int .i64 d]] w (RetBool r w) := by
  subst h; exact less_any w a b c d
theorem keep6 {w w' : World} {x y u v s t : Value} {n m k : Nat} (hb : Below w.heap.size w w')
    (h : (w.cell? ⟨n, 0, none⟩ = some x ∧ w.cell? ⟨n, 1, none⟩ = some y) ∧ (w.cell? ⟨m, 0, none⟩ = some u ∧ w.cell? ⟨m, 1, none⟩ = some v) ∧ (w.cell? ⟨k, 0, none⟩ = some s ∧ w.cell? ⟨k, 1, none⟩ = some t)) :
    (w'.cell? ⟨n, 0, none⟩ = some x ∧ w'.cell? ⟨n, 1, none⟩ = some y) ∧ (w'.cell? ⟨m, 0, none⟩ = some u ∧ w'.cell? ⟨m, 1, none⟩ = some v) ∧ (w'.cell? ⟨k, 0, none⟩ = some s ∧ w'.cell? ⟨k, 1, none⟩ = some t) :=
  ⟨keep2 hb h.1, keep2 hb h.2.1, keep2 hb h.2.2⟩

theorem lit_at (w : World) (n : Nat) (x y : Value) (t : TypeId) (h : w.heap.size = n) : (w.alloc (.cells #[x, y] t)).cell? ⟨n, 0, none⟩ = some x ∧ (w.alloc (.cells #[x, y] t)).cell? ⟨n, 1, none⟩ = some y := by
  subst h; exact cell_lit2 w x y t
set_option maxHeartbeats 4000000 in
theorem walk_ClockTotal (w : World) (a b : Int) (ba : -9223372036854775808 ≤ a ∧ a ≤ 9223372036854775807) (bb : -9223372036854775808 ≤ b ∧ b ≤ 9223372036854775807)
    (c d : Int) (bc : -9223372036854775808 ≤ c ∧ c ≤ 9223372036854775807) (bd : -9223372036854775808 ≤ d ∧ d ≤ 9223372036854775807)
    (x y : Int) (bx : -9223372036854775808 ≤ x ∧ x ≤ 9223372036854775807) (by_ : -9223372036854775808 ≤ y ∧ y ≤ 9223372036854775807) :
    Calls Try.prog 9 #[.agg #[.int .i64 a, .int .i64 b], .agg #[.int .i64 c, .int .i64 d], .agg #[.int .i64 x, .int .i64 y]] w fun e w' => e = .returned (.bool true) ∧ Below w.heap.size w w' := by
  clear ba bb bc bd bx by_
  have hself := less_self a b
  have s0 : (((((w.alloc (.cells #[.int .i64 a, .int .i64 b] 26)).alloc (.cells #[.int .i64 c, .int .i64 d] 26)).alloc (.cells #[.int .i64 x, .int .i64 y] 26)).cell? ⟨w.heap.size, 0, none⟩ = some (.int .i64 a) ∧ (((w.alloc (.cells #[.int .i64 a, .int .i64 b] 26)).alloc (.cells #[.int .i64 c, .int .i64 d] 26)).alloc (.cells #[.int .i64 x, .int .i64 y] 26)).cell? ⟨w.heap.size, 1, none⟩ = some (.int .i64 b)) ∧ ((((w.alloc (.cells #[.int .i64 a, .int .i64 b] 26)).alloc (.cells #[.int .i64 c, .int .i64 d] 26)).alloc (.cells #[.int .i64 x, .int .i64 y] 26)).cell? ⟨w.heap.size + 1, 0, none⟩ = some (.int .i64 c) ∧ (((w.alloc (.cells #[.int .i64 a, .int .i64 b] 26)).alloc (.cells #[.int .i64 c, .int .i64 d] 26)).alloc (.cells #[.int .i64 x, .int .i64 y] 26)).cell? ⟨w.heap.size + 1, 1, none⟩ = some (.int .i64 d)) ∧ ((((w.alloc (.cells #[.int .i64 a, .int .i64 b] 26)).alloc (.cells #[.int .i64 c, .int .i64 d] 26)).alloc (.cells #[.int .i64 x, .int .i64 y] 26)).cell? ⟨w.heap.size + 1 + 1, 0, none⟩ = some (.int .i64 x) ∧ (((w.alloc (.cells #[.int .i64 a, .int .i64 b] 26)).alloc (.cells #[.int .i64 c, .int .i64 d] 26)).alloc (.cells #[.int .i64 x, .int .i64 y] 26)).cell? ⟨w.heap.size + 1 + 1, 1, none⟩ = some (.int .i64 y))) := by
    exact ⟨cell_alloc2 _ (cell_alloc2 _ (cell_lit2 w _ _ _)), cell_alloc2 _ (lit_at _ _ _ _ _ (by simp)), lit_at _ _ _ _ _ (by simp)⟩
  have hs0 : Since w (((w.alloc (.cells #[.int .i64 a, .int .i64 b] 26)).alloc (.cells #[.int .i64 c, .int .i64 d] 26)).alloc (.cells #[.int .i64 x, .int .i64 y] 26)) := ⟨(((Below.refl _ _).alloc (Nat.le_refl _) _).alloc (by simp) _).alloc (by simp; omega) _⟩
  go_enter Try.func9, Try.ntmps9
  go_upto_region 1 with fail
  generalize (((w.alloc (.cells #[.int .i64 a, .int .i64 b] 26)).alloc (.cells #[.int .i64 c, .int .i64 d] 26)).alloc (.cells #[.int .i64 x, .int .i64 y] 26)) = W at *
  go_cut [23] (fun s wx => s = .bool false ∧ Since w wx ∧ ((wx.cell? ⟨w.heap.size, 0, none⟩ = some (.int .i64 a) ∧ wx.cell? ⟨w.heap.size, 1, none⟩ = some (.int .i64 b)) ∧ (wx.cell? ⟨w.heap.size + 1, 0, none⟩ = some (.int .i64 c) ∧ wx.cell? ⟨w.heap.size + 1, 1, none⟩ = some (.int .i64 d)) ∧ (wx.cell? ⟨w.heap.size + 1 + 1, 0, none⟩ = some (.int .i64 x) ∧ wx.cell? ⟨w.heap.size + 1 + 1, 1, none⟩ = some (.int .i64 y))))
  case first =>
    have hs' : Since w W.drew := ⟨hs0.b.drew⟩
    by_cases he : a = c ∧ b = d
    · obtain ⟨rfl, rfl⟩ := he
      have hne : ∀ w, (binOp .neq 26 (.agg #[.int .i64 a, .int .i64 b]) (.agg #[.int .i64 a, .int .i64 b])).run Try.prog w = .ok (.bool false) w := fun w => by
        rw [stamp_neq]; simp
      refine wp_region_noPanic ?_
      refine wp_region_held_drew (S := fun w' => ((w'.cell? ⟨w.heap.size, 0, none⟩ = some (.int .i64 a) ∧ w'.cell? ⟨w.heap.size, 1, none⟩ = some (.int .i64 b)) ∧ (w'.cell? ⟨w.heap.size + 1, 0, none⟩ = some (.int .i64 a) ∧ w'.cell? ⟨w.heap.size + 1, 1, none⟩ = some (.int .i64 b)) ∧ (w'.cell? ⟨w.heap.size + 1 + 1, 0, none⟩ = some (.int .i64 x) ∧ w'.cell? ⟨w.heap.size + 1 + 1, 1, none⟩ = some (.int .i64 y)))) (by kernel_rfl) s0 (fun hHeld => ?_)
      refine wpAnyH_take (i := 0) (v := ?_) rfl (by kernel_rfl) (by kernel_rfl) (by kernel_rfl) (fun _ _ _ h => h) (Or.inl ⟨by rfl, ?_⟩) (by assumption) ?_
      rotate_left
      · intro w hSw; (try dsimp only at hSw); go_simp; try (with_reducible rfl)
      change wpAnyH _ _ _ _ _ _ _ (Act.put _ (some 7) _) _
      try (simp only [Act.put, List.setIfInBounds_toArray, List.set_cons_zero, List.set_cons_succ])
      refine wpAnyH_take (i := 1) (v := ?_) rfl (by kernel_rfl) (by kernel_rfl) (by kernel_rfl) (fun _ _ _ h => h) (Or.inl ⟨by rfl, ?_⟩) (by assumption) ?_
      rotate_left
      · intro w hSw; (try dsimp only at hSw); go_simp; try (with_reducible rfl)
      change wpAnyH _ _ _ _ _ _ _ (Act.put _ (some 8) _) _
      try (simp only [Act.put, List.setIfInBounds_toArray, List.set_cons_zero, List.set_cons_succ])
      refine wpAnyH_ready (rs := [2]) (by kernel_rfl) (by simp) ?_
      refine AllReadyH.cons rfl (fun K hK => ?_) AllReadyH.nil
      go_simp
      refine (less_bool _ false a b a b hself).mono ?_
      rintro e w' ⟨rfl, hb⟩; have hs := Since.step (w := w) (by assumption) hb
      go_simp
      refine hK.out _ _ ?_ (fun hHeld => ?_)
      · (first | exact keep6 (by assumption) (by assumption) | assumption)
      clear hK K
      refine wpAnyH_take (i := 3) (v := ?_) rfl (by kernel_rfl) (by kernel_rfl) (by kernel_rfl) (fun _ _ _ h => h) (Or.inl ⟨by rfl, ?_⟩) (by assumption) ?_
      rotate_left
      · intro w hSw; (try dsimp only at hSw); go_simp; try (with_reducible rfl)
      change wpAnyH _ _ _ _ _ _ _ (Act.put _ (some 10) _) _
      try (simp only [Act.put, List.setIfInBounds_toArray, List.set_cons_zero, List.set_cons_succ])
      refine wpAnyH_take (i := 4) (v := ?_) rfl (by kernel_rfl) (by kernel_rfl) (by kernel_rfl) (fun _ _ _ h => h) (Or.inl ⟨by rfl, ?_⟩) (by assumption) ?_
      rotate_left
      · intro w hSw; (try dsimp only at hSw); go_simp; try (with_reducible rfl)
      change wpAnyH _ _ _ _ _ _ _ (Act.put _ (some 11) _) _
      try (simp only [Act.put, List.setIfInBounds_toArray, List.set_cons_zero, List.set_cons_succ])
      refine wpAnyH_take (i := 5) (v := ?_) rfl (by kernel_rfl) (by kernel_rfl) (by kernel_rfl) (fun _ _ _ h => h) (Or.inl ⟨by rfl, ?_⟩) (by assumption) ?_
      rotate_left
      · intro w hSw; (try dsimp only at hSw); go_simp; try (with_reducible rfl)
      change wpAnyH _ _ _ _ _ _ _ (Act.put _ (some 12) _) _
      try (simp only [Act.put, List.setIfInBounds_toArray, List.set_cons_zero, List.set_cons_succ])
      refine wpAnyH_take (i := 6) (v := ?_) rfl (by kernel_rfl) (by kernel_rfl) (by kernel_rfl) (fun _ _ _ h => h) (Or.inl ⟨by rfl, ?_⟩) (by assumption) ?_
      rotate_left
      · intro w hSw; (try dsimp only at hSw); go_simp; try (with_reducible rfl)
      change wpAnyH _ _ _ _ _ _ _ (Act.put _ (some 13) _) _
      try (simp only [Act.put, List.setIfInBounds_toArray, List.set_cons_zero, List.set_cons_succ])
      refine wpAnyH_take (i := 7) (v := ?_) rfl (by kernel_rfl) (by kernel_rfl) (by kernel_rfl) (fun _ _ _ h => h) (Or.inl ⟨by rfl, ?_⟩) (by assumption) ?_
      rotate_left
      · intro w hSw; (try dsimp only at hSw); go_simp; try (with_reducible rfl)
      change wpAnyH _ _ _ _ _ _ _ (Act.put _ (some 14) _) _
      try (simp only [Act.put, List.setIfInBounds_toArray, List.set_cons_zero, List.set_cons_succ])
      refine held_skip 8 rfl (by kernel_rfl) (by kernel_rfl) (by kernel_rfl) (fun _ _ _ h => h) (by rfl) (by assumption) ?_
      change wpAnyH _ _ _ _ _ _ _ (Act.put _ (some 15) _) _
      try (simp only [Act.put, List.setIfInBounds_toArray, List.set_cons_zero, List.set_cons_succ])
      refine held_skip 9 rfl (by kernel_rfl) (by kernel_rfl) (by kernel_rfl) (fun _ _ _ h => h) (by rfl) (by assumption) ?_
      change wpAnyH _ _ _ _ _ _ _ (Act.put _ (some 16) _) _
      try (simp only [Act.put, List.setIfInBounds_toArray, List.set_cons_zero, List.set_cons_succ])
      refine held_skip 10 rfl (by kernel_rfl) (by kernel_rfl) (by kernel_rfl) (fun _ _ _ h => h) (by rfl) (by assumption) ?_
      change wpAnyH _ _ _ _ _ _ _ (Act.put _ (some 17) _) _
      try (simp only [Act.put, List.setIfInBounds_toArray, List.set_cons_zero, List.set_cons_succ])
      refine held_skip 11 rfl (by kernel_rfl) (by kernel_rfl) (by kernel_rfl) (fun _ _ _ h => h) (by rfl) (by assumption) ?_
      change wpAnyH _ _ _ _ _ _ _ (Act.put _ (some 18) _) _
      try (simp only [Act.put, List.setIfInBounds_toArray, List.set_cons_zero, List.set_cons_succ])
      refine held_skip 12 rfl (by kernel_rfl) (by kernel_rfl) (by kernel_rfl) (fun _ _ _ h => h) (by rfl) (by assumption) ?_
      change wpAnyH _ _ _ _ _ _ _ (Act.put _ (some 19) _) _
      try (simp only [Act.put, List.setIfInBounds_toArray, List.set_cons_zero, List.set_cons_succ])
      refine held_skip 13 rfl (by kernel_rfl) (by kernel_rfl) (by kernel_rfl) (fun _ _ _ h => h) (by rfl) (by assumption) ?_
      change wpAnyH _ _ _ _ _ _ _ (Act.put _ (some 20) _) _
      try (simp only [Act.put, List.setIfInBounds_toArray, List.set_cons_zero, List.set_cons_succ])
      refine held_skip 14 rfl (by kernel_rfl) (by kernel_rfl) (by kernel_rfl) (fun _ _ _ h => h) (by rfl) (by assumption) ?_
      change wpAnyH _ _ _ _ _ _ _ (Act.put _ (some 21) _) _
      try (simp only [Act.put, List.setIfInBounds_toArray, List.set_cons_zero, List.set_cons_succ])
      refine wpAnyH_take (i := 15) (v := ?_) rfl (by kernel_rfl) (by kernel_rfl) (by kernel_rfl) (fun _ _ _ h => h) (Or.inl ⟨by rfl, ?_⟩) (by assumption) ?_
      rotate_left
      · intro w hSw; (try dsimp only at hSw); go_simp; try (with_reducible rfl)
      change wpAnyH _ _ _ _ _ _ _ (Act.put _ (some 22) _) _
      try (simp only [Act.put, List.setIfInBounds_toArray, List.set_cons_zero, List.set_cons_succ])
      refine wpAnyH_take (i := 16) (v := ?_) rfl (by kernel_rfl) (by kernel_rfl) (by kernel_rfl) (fun _ _ _ h => h) (Or.inl ⟨by rfl, ?_⟩) (by assumption) ?_
      rotate_left
      · intro w hSw; (try dsimp only at hSw); go_simp; try (with_reducible rfl)
      change wpAnyH _ _ _ _ _ _ _ (Act.put _ (some 23) _) _
      try (simp only [Act.put, List.setIfInBounds_toArray, List.set_cons_zero, List.set_cons_succ])
      refine wpAnyH_done (by kernel_rfl) ?_ _
      refine NoPanic.normal ?_
      go_wp2_with fail
      go_meet
      exact ⟨rfl, by assumption, by assumption⟩
    · have hne : ∀ w, (binOp .neq 26 (.agg #[.int .i64 a, .int .i64 b]) (.agg #[.int .i64 c, .int .i64 d])).run Try.prog w = .ok (.bool true) w := fun w => by
        rw [stamp_neq, show (a == c && b == d) = false by rw [Bool.and_eq_false_iff]; simp only [beq_eq_false_iff_ne]; omega]; rfl
      have hanti := less_anti a b c d he
      have He := Lib.hid he
      clear he
      go_region_held3 (fun w' => ((w'.cell? ⟨w.heap.size, 0, none⟩ = some (.int .i64 a) ∧ w'.cell? ⟨w.heap.size, 1, none⟩ = some (.int .i64 b)) ∧ (w'.cell? ⟨w.heap.size + 1, 0, none⟩ = some (.int .i64 c) ∧ w'.cell? ⟨w.heap.size + 1, 1, none⟩ = some (.int .i64 d)) ∧ (w'.cell? ⟨w.heap.size + 1 + 1, 0, none⟩ = some (.int .i64 x) ∧ w'.cell? ⟨w.heap.size + 1 + 1, 1, none⟩ = some (.int .i64 y)))) (first | exact s0 | exact keep6 (by assumption) (by assumption) | assumption)
        (first | (go_at_call 28; refine (less_any _ _ _ _ _).mono ?_; rintro e w' ⟨rfl, hb⟩; have hs := Since.step (w := w) (by assumption) hb))
      go_wp2_with fail
      go_meet
      exact ⟨rfl, by assumption, by assumption⟩
  case rest =>
    obtain ⟨rfl, hs, ⟨k0, k1⟩, ⟨k2, k3⟩, k4, k5⟩ := hcut
    clear hs0 s0
    have ht := Lib.hid (less_trans a b c d x y)
    rcases h1 : lessB a b c d with _ | _
    · have H1 := Lib.hid h1
      clear h1
      go_wp2_with fail
      refine (less_bool _ false a b c d H1.out).mono ?_
      rintro e w2 ⟨rfl, hb⟩
      have hs := Since.step (w := w) (by assumption) hb
      have kk := keep6 hb ⟨⟨k0, k1⟩, ⟨k2, k3⟩, k4, k5⟩
      clear k0 k1 k2 k3 k4 k5 hb
      obtain ⟨⟨k0, k1⟩, ⟨k2, k3⟩, k4, k5⟩ := kk
      go_wp2_with fail
      refine (awake_any _).mono ?_
      rintro e w3 ⟨rfl, hb⟩
      have hs := Since.step (w := w) (by assumption) hb
      go_wp2_with fail
      go_ret
      exact ⟨rfl, Since.b (by assumption)⟩
    · have H1 := Lib.hid h1
      clear h1
      rcases h2 : lessB c d x y with _ | _
      · have H2 := Lib.hid h2
        clear h2
        go_wp2_with fail
        refine (less_bool _ true a b c d H1.out).mono ?_
        rintro e w2 ⟨rfl, hb⟩
        have hs := Since.step (w := w) (by assumption) hb
        have kk := keep6 hb ⟨⟨k0, k1⟩, ⟨k2, k3⟩, k4, k5⟩
        clear k0 k1 k2 k3 k4 k5 hb
        obtain ⟨⟨k0, k1⟩, ⟨k2, k3⟩, k4, k5⟩ := kk
        go_wp2_with fail
        refine (less_bool _ false c d x y H2.out).mono ?_
        rintro e w2 ⟨rfl, hb⟩
        have hs := Since.step (w := w) (by assumption) hb
        have kk := keep6 hb ⟨⟨k0, k1⟩, ⟨k2, k3⟩, k4, k5⟩
        clear k0 k1 k2 k3 k4 k5 hb
        obtain ⟨⟨k0, k1⟩, ⟨k2, k3⟩, k4, k5⟩ := kk
        go_wp2_with fail
        refine (awake_any _).mono ?_
        rintro e w3 ⟨rfl, hb⟩
        have hs := Since.step (w := w) (by assumption) hb
        go_wp2_with fail
        go_ret
        exact ⟨rfl, Since.b (by assumption)⟩
      · have H2 := Lib.hid h2
        clear h2
        go_wp2_with fail
        refine (less_bool _ true a b c d H1.out).mono ?_
        rintro e w2 ⟨rfl, hb⟩
        have hs := Since.step (w := w) (by assumption) hb
        have kk := keep6 hb ⟨⟨k0, k1⟩, ⟨k2, k3⟩, k4, k5⟩
        clear k0 k1 k2 k3 k4 k5 hb
        obtain ⟨⟨k0, k1⟩, ⟨k2, k3⟩, k4, k5⟩ := kk
        go_wp2_with fail
        refine (less_bool _ true c d x y H2.out).mono ?_
        rintro e w2 ⟨rfl, hb⟩
        have hs := Since.step (w := w) (by assumption) hb
        have kk := keep6 hb ⟨⟨k0, k1⟩, ⟨k2, k3⟩, k4, k5⟩
        clear k0 k1 k2 k3 k4 k5 hb
        obtain ⟨⟨k0, k1⟩, ⟨k2, k3⟩, k4, k5⟩ := kk
        go_wp2_with fail
        refine (less_bool _ true a b x y (ht.out H1.out H2.out)).mono ?_
        rintro e w2 ⟨rfl, hb⟩
        have hs := Since.step (w := w) (by assumption) hb
        have kk := keep6 hb ⟨⟨k0, k1⟩, ⟨k2, k3⟩, k4, k5⟩
        clear k0 k1 k2 k3 k4 k5 hb
        obtain ⟨⟨k0, k1⟩, ⟨k2, k3⟩, k4, k5⟩ := kk
        go_wp2_with fail
        refine (awake_any _).mono ?_
        rintro e w3 ⟨rfl, hb⟩
        have hs := Since.step (w := w) (by assumption) hb
        go_wp2_with fail
        go_ret
        exact ⟨rfl, Since.b (by assumption)⟩
end Go.Proofs.Ytbkidddbkcbiaaa
