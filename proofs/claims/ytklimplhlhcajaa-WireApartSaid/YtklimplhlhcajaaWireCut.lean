/-
  The walk of the statement WireCut. Conditions: the arguments read as their types say.
-/
import Derived.Test.YtklimplhlhcajaaWireBack
import Derived.Test.YtklimplhlhcajaaSliceTo
namespace Go.Proofs.Ytklimplhlhcajaa
open Go.RowKit
set_option linter.unusedVariables false

set_option maxRecDepth 20000 in
set_option maxHeartbeats 4000000 in
theorem walk_WireCut (w : World) (n : Int) (s : List UInt8) (B : Option Addr) (m : List Int) (d : Nat) (bn : -9223372036854775808 ≤ n ∧ n ≤ 9223372036854775807) (bs : s.length ≤ maxLen) (hB : Rd w B (m.map I64)) (hm : m.length ≤ maxLen)
    (hbd : ∀ n ∈ m, -9223372036854775808 ≤ n ∧ n ≤ 9223372036854775807) (hmd : m.length ≤ d) (cut : Nat) (hcut : cut < 65536) :
    Calls Try.prog 9 #[.agg #[.int .i64 n, .string ⟨s.toArray⟩, .slice B m.length d], .int .u16 cut] w fun e w' => e = .returned (.bool true) ∧ Below w.heap.size w w' := by
  obtain ⟨g0, g1, g2⟩ := box3 w (.int .i64 n) (.string ⟨s.toArray⟩) (.slice B m.length d) 31
  have hbw : Below w.heap.size w (w.alloc (.cells #[.int .i64 n, .string ⟨s.toArray⟩, .slice B m.length d] 31)) := (Below.refl _ _).alloc (Nat.le_refl _) _
  unfold maxLen at bs hm
  by_cases hf : s.length ≤ 300 ∧ m.length ≤ 100
  · obtain ⟨f2, f3⟩ := hf
    have hB := hB.below hbw
    go_enter Try.func9, Try.ntmps9
    go_wp2_with fail
    refine (few_yes _ _ _ _ _ _ _ _ (by decide) (by simpa [ByteArray.size] using f2) f3).mono ?_
    rintro e w' ⟨rfl, rfl⟩
    have Hbd := Lib.hid hbd
    clear hbd
    generalize w.alloc (.cells #[.int .i64 n, .string ⟨s.toArray⟩, .slice B m.length d] 31) = W at *
    go_wp2_with fail
    have ld0 : ∀ w', Up W w' → w'.cell? ⟨w.heap.size, 0, none⟩ = some (.int .i64 n) := fun w' h => h.cell g0
    have ld1 : ∀ w', Up W w' → w'.cell? ⟨w.heap.size, 1, none⟩ = some (.string ⟨s.toArray⟩) := fun w' h => h.cell g1
    have ld2 : ∀ w', Up W w' → w'.cell? ⟨w.heap.size, 2, none⟩ = some (.slice B m.length d) := fun w' h => h.cell g2
    have k1 : ∀ w', Up W w' → Calls Try.prog 14 #[.slice none 0 0, .int .i64 n] w' (RetUp (enc n) w') := fun w' h => (putInt_any _ none 0 [] (Rd.nil _ _) (by decide) n bn.1 bn.2).mono fun _ _ h => h.up
    have k2 : ∀ w', Up W w' → Calls Try.prog 16 #[.slice none 0 0, .string ⟨s.toArray⟩] w' (RetUp (encT s) w') := fun w' h => (putText_any _ none 0 [] (Rd.nil _ _) (by decide) s (by omega)).mono fun _ _ h => h.up
    have k3 : ∀ w', Up W w' → Calls Try.prog 18 #[.slice none 0 0, .slice B m.length d] w' (RetUp (encL m) w') := fun w' h => (putInts_any _ none 0 [] (Rd.nil _ _) (by decide) _ _ m (h.rd hB) (by omega) Hbd.out).mono fun _ _ h => h.up
    have en1 := enc_length n
    have en2 : 1 ≤ (encT s).length := by have := enc_length (s.length : Int); unfold encT; simp only [List.length_append]; omega
    have en3 : 1 ≤ (encL m).length := by have := enc_length (m.length : Int); unfold encL; simp only [List.length_append]; omega
    have en4 := encT_length s
    have en5 := encL_length m
    have q1 : ∀ w' A' c' (k : Nat), k < (enc n).length → Rd w' A' ((enc n).map U8) → Calls Try.prog 12 #[.slice A' k c', .int .i64 0] w' (fun e w'' => e = .returned (.tuple #[.int .i64 0, .int .i64 0, .int .i64 4]) ∧ w' = w'') := by
      intro w' A' c' k hk hr
      have hlen : ((enc n).take k).length = k := by simp; omega
      have he := cut_short n k bn.1 bn.2 hk
      have := int_any w' A' c' ((enc n).take k) (hr.take8 k) (by omega) 0 (by omega) (by omega)
      unfold RetRd at this
      rw [rdN_err (by rw [he]; omega), rdT_err (by rw [he]; omega), he, hlen] at this
      exact this
    have q2 : ∀ w' A' c' (k : Nat), k < (encT s).length → k ≤ c' → Rd w' A' ((encT s).map U8) → Calls Try.prog 20 #[.slice A' k c', .int .i64 0] w' (fun e w'' => e = .returned (.tuple #[.string ⟨#[]⟩, .int .i64 0, .int .i64 4]) ∧ w' = w'') := by
      intro w' A' c' k hk hc hr
      have hlen : ((encT s).take k).length = k := by simp; omega
      have he := tx_cut s k (by omega) hk
      have := textAt_any w' A' c' ((encT s).take k) (by rw [hlen]; exact hc) (hr.take8 k) (by omega) 0 (by omega) (by omega)
      have e1 : txS ((encT s).take k) 0 = [] := by unfold txS; rw [if_neg (by rw [he]; omega)]
      have e2 : txT ((encT s).take k) 0 = 0 := by unfold txT; rw [if_neg (by rw [he]; omega)]
      rw [e1, e2, he, hlen] at this
      exact this
    have q3 : ∀ w' A' c' (k : Nat), k < (encL m).length → Rd w' A' ((encL m).map U8) → Calls Try.prog 22 #[.slice A' k c', .int .i64 0] w' (fun e w'' => (∃ B l c t, e = .returned (.tuple #[.slice B l c, .int .i64 t, .int .i64 4])) ∧ Below w'.heap.size w' w'') := by
      intro w' A' c' k hk hr
      have hlen : ((encL m).take k).length = k := by simp; omega
      have he := is_cut m k (by omega) Hbd.out hk
      have := ints_any w' A' c' ((encL m).take k) (hr.take8 k) (by omega) 0 (by omega) (by omega)
      rw [he, hlen] at this
      refine this.mono ?_
      rintro e w'' ⟨A4, c4, rfl, _, hb⟩
      exact ⟨⟨_, _, _, _, rfl⟩, hb⟩
    generalize enc n = L1 at *
    generalize encT s = L2 at *
    generalize encL m = L3 at *
    clear g0 g1 g2
    refine wp_region_noPanic ?_
    refine wp_region_held_drew (S := fun w' => Up W w') (by kernel_rfl) (Up.drew W) (fun hHeld => ?_)
    refine wpAnyH_take (i := 0) (v := ?_) rfl (by kernel_rfl) (by kernel_rfl) (by kernel_rfl) (fun _ _ _ h => h) (Or.inl ⟨by rfl, ?_⟩) (by assumption) ?_
    rotate_left
    · intro w' hSw; clear hSw; go_simp; try (with_reducible rfl)
    change wpAnyH _ _ _ _ _ _ _ (Act.put _ (some 24) _) _
    try (simp only [Act.put, List.setIfInBounds_toArray, List.set_cons_zero, List.set_cons_succ])
    refine wpAnyH_take (i := 1) (v := ?_) rfl (by kernel_rfl) (by kernel_rfl) (by kernel_rfl) (fun _ _ _ h => h) (Or.inl ⟨by rfl, ?_⟩) (by assumption) ?_
    rotate_left
    · intro w' hS0; go_simp; try (with_reducible rfl)
    change wpAnyH _ _ _ _ _ _ _ (Act.put _ (some 25) _) _
    try (simp only [Act.put, List.setIfInBounds_toArray, List.set_cons_zero, List.set_cons_succ])
    refine wpAnyH_take (i := 3) (v := ?_) rfl (by kernel_rfl) (by kernel_rfl) (by kernel_rfl) (fun _ _ _ h => h) (Or.inl ⟨by rfl, ?_⟩) (by assumption) ?_
    rotate_left
    · intro w' hSw; clear hSw; go_simp; try (with_reducible rfl)
    change wpAnyH _ _ _ _ _ _ _ (Act.put _ (some 27) _) _
    try (simp only [Act.put, List.setIfInBounds_toArray, List.set_cons_zero, List.set_cons_succ])
    refine wpAnyH_take (i := 4) (v := ?_) rfl (by kernel_rfl) (by kernel_rfl) (by kernel_rfl) (fun _ _ _ h => h) (Or.inl ⟨by rfl, ?_⟩) (by assumption) ?_
    rotate_left
    · intro w' hS0; go_simp; try (with_reducible rfl)
    change wpAnyH _ _ _ _ _ _ _ (Act.put _ (some 28) _) _
    try (simp only [Act.put, List.setIfInBounds_toArray, List.set_cons_zero, List.set_cons_succ])
    refine wpAnyH_take (i := 6) (v := ?_) rfl (by kernel_rfl) (by kernel_rfl) (by kernel_rfl) (fun _ _ _ h => h) (Or.inl ⟨by rfl, ?_⟩) (by assumption) ?_
    rotate_left
    · intro w' hSw; clear hSw; go_simp; try (with_reducible rfl)
    change wpAnyH _ _ _ _ _ _ _ (Act.put _ (some 30) _) _
    try (simp only [Act.put, List.setIfInBounds_toArray, List.set_cons_zero, List.set_cons_succ])
    refine wpAnyH_take (i := 7) (v := ?_) rfl (by kernel_rfl) (by kernel_rfl) (by kernel_rfl) (fun _ _ _ h => h) (Or.inl ⟨by rfl, ?_⟩) (by assumption) ?_
    rotate_left
    · intro w' hS0; go_simp; try (with_reducible rfl)
    change wpAnyH _ _ _ _ _ _ _ (Act.put _ (some 31) _) _
    try (simp only [Act.put, List.setIfInBounds_toArray, List.set_cons_zero, List.set_cons_succ])
    refine wpAnyH_ready (rs := [2]) (by kernel_rfl) (by simp) ?_
    refine AllReadyH.cons rfl (fun K hK => ?_) AllReadyH.nil
    go_simp
    refine (k1 _ (Up.drew W)).mono ?_
    rintro e W1 ⟨A1, c1, rfl, x1, rd1, lc1⟩
    have u1 : Up W W1 := Up.trans (Up.drew W) x1
    have v1 : Up W W1 := u1
    refine hK.out _ _ u1 (fun hHeld => ?_)
    clear hK K hHeld
    refine wpAnyH_more (S' := fun w' => Up W1 w') (fun w' h => Up.trans u1 h) _ _ _ _ ?_
    have hHeld := Up.refl W1
    refine wpAnyH_ready (rs := [5]) (by kernel_rfl) (by simp) ?_
    refine AllReadyH.cons rfl (fun K hK => ?_) AllReadyH.nil
    go_simp
    refine (k2 _ v1).mono ?_
    rintro e W2 ⟨A2, c2, rfl, x2, rd2, lc2⟩
    have u2 : Up W1 W2 := x2
    have v2 : Up W W2 := Up.trans v1 u2
    refine hK.out _ _ u2 (fun hHeld => ?_)
    clear hK K hHeld
    refine wpAnyH_more (S' := fun w' => Up W2 w') (fun w' h => Up.trans u2 h) _ _ _ _ ?_
    have hHeld := Up.refl W2
    refine wpAnyH_ready (rs := [8]) (by kernel_rfl) (by simp) ?_
    refine AllReadyH.cons rfl (fun K hK => ?_) AllReadyH.nil
    go_simp
    refine (k3 _ v2).mono ?_
    rintro e W3 ⟨A3, c3, rfl, x3, rd3, lc3⟩
    have u3 : Up W2 W3 := x3
    have v3 : Up W W3 := Up.trans v2 u3
    refine hK.out _ _ u3 (fun hHeld => ?_)
    clear hK K hHeld
    refine wpAnyH_more (S' := fun w' => Up W3 w') (fun w' h => Up.trans u3 h) _ _ _ _ ?_
    have hHeld := Up.refl W3
    refine wpAnyH_take (i := 9) (v := ?_) rfl (by kernel_rfl) (by kernel_rfl) (by kernel_rfl) (fun _ _ _ h => h) (Or.inl ⟨by rfl, ?_⟩) (by assumption) ?_
    rotate_left
    · intro w' hSw; clear hSw; go_simp; try (with_reducible rfl)
    change wpAnyH _ _ _ _ _ _ _ (Act.put _ (some 5) _) _
    try (simp only [Act.put, List.setIfInBounds_toArray, List.set_cons_zero, List.set_cons_succ])
    refine wpAnyH_take (i := 10) (v := ?_) rfl (by kernel_rfl) (by kernel_rfl) (by kernel_rfl) (fun _ _ _ h => h) (Or.inl ⟨by rfl, ?_⟩) (by assumption) ?_
    rotate_left
    · intro w' hSw; clear hSw; go_simp; try (with_reducible rfl)
    change wpAnyH _ _ _ _ _ _ _ (Act.put _ (some 6) _) _
    try (simp only [Act.put, List.setIfInBounds_toArray, List.set_cons_zero, List.set_cons_succ])
    refine wpAnyH_take (i := 11) (v := ?_) rfl (by kernel_rfl) (by kernel_rfl) (by kernel_rfl) (fun _ _ _ h => h) (Or.inl ⟨by rfl, ?_⟩) (by assumption) ?_
    rotate_left
    · intro w' hSw; clear hSw; go_simp; try (with_reducible rfl)
    change wpAnyH _ _ _ _ _ _ _ (Act.put _ (some 7) _) _
    try (simp only [Act.put, List.setIfInBounds_toArray, List.set_cons_zero, List.set_cons_succ])
    refine wpAnyH_done (by kernel_rfl) ?_ _
    refine NoPanic.normal ?_
    clear hHeld
    have rd1 := (u2.trans u3).rd rd1
    have rd2 := u3.rd rd2
    have p1 : ((L1.length : Int) == 0) = false := beq_eq_false_iff_ne.2 (by omega)
    have p2 : ((L2.length : Int) == 0) = false := beq_eq_false_iff_ne.2 (by omega)
    have p3 : ((L3.length : Int) == 0) = false := beq_eq_false_iff_ne.2 (by omega)
    have z1 : ¬ L1 = [] := by intro e; rw [e] at en1; simp at en1
    have z2 : ¬ L2 = [] := by intro e; rw [e] at en2; simp at en2
    have z3 : ¬ L3 = [] := by intro e; rw [e] at en3; simp at en3
    have m1 := Nat.mod_lt cut (show 0 < L1.length by omega)
    have m2 := Nat.mod_lt cut (show 0 < L2.length by omega)
    have m3 := Nat.mod_lt cut (show 0 < L3.length by omega)
    have sl1 := slice_to A1 c1 L1.length lc1 ((cut : Int) % (L1.length : Int)) (cut % L1.length) (by simp) (by omega)
    have sl2 := slice_to A2 c2 L2.length lc2 ((cut : Int) % (L2.length : Int)) (cut % L2.length) (by simp) (by omega)
    have sl3 := slice_to A3 c3 L3.length lc3 ((cut : Int) % (L3.length : Int)) (cut % L3.length) (by simp) (by omega)
    generalize cut % L1.length = j1 at *
    generalize cut % L2.length = j2 at *
    generalize cut % L3.length = j3 at *
    clear k1 k2 k3 ld0 ld1 ld2
    go_wp2_with fail
    refine (q1 _ _ _ _ m1 rd1).mono ?_
    rintro e w' ⟨rfl, rfl⟩
    go_wp2_with fail
    refine (q2 _ _ _ _ m2 (by omega) rd2).mono ?_
    rintro e w' ⟨rfl, rfl⟩
    go_wp2_with fail
    refine (q3 _ _ _ _ m3 rd3).mono ?_
    rintro e w4 ⟨⟨B4, l4, c4, t4, rfl⟩, hb4⟩
    go_wp2_with fail
    refine (awake_any _).mono ?_
    rintro e w5 ⟨rfl, hb5⟩
    go_wp2_with fail
    go_ret
    exact ⟨rfl, step_below (step_below (step_below hbw v3.b) hb4) hb5⟩
  · go_enter Try.func9, Try.ntmps9
    go_wp2_with fail
    refine (few_no _ _ _ _ _ _ _ _ (by intro hc; exact hf ⟨by simpa [ByteArray.size] using hc.2.1, hc.2.2⟩)).mono ?_
    rintro e w' ⟨rfl, rfl⟩
    go_wp2_with fail
    refine (awake_any _).mono ?_
    rintro e w' ⟨rfl, hb⟩
    go_wp2_with fail
    go_ret
    exact ⟨rfl, step_below hbw hb⟩
end Go.Proofs.Ytklimplhlhcajaa
