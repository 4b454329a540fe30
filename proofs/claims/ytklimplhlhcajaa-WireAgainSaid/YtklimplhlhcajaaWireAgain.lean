/-
  The walk of the statement WireAgain. Conditions: the arguments read as their types say.
-/
import Derived.Test.YtklimplhlhcajaaWireCut
namespace Go.Proofs.Ytklimplhlhcajaa
open Go.RowKit
set_option linter.unusedVariables false

section
variable {w : World} {A : Option Addr} {c : Nat} {l : List UInt8}
theorem again_conv (h : Rd w A (l.map U8)) (T : Nat) (hT : T ≤ l.length) : ∀ w', Up w w' → (convert 22 9 (.slice A T c)).run Try.prog w' = .ok (.string ⟨(l.take T).toArray⟩) w' := by
  intro w' hu
  have := str_of w' A c (l.take T) ((hu.rd h).take8 T)
  rwa [show (l.take T).length = T by simp; omega] at this
theorem again_int {KK : Nat} (hE : rdE l ((KK : Nat) : Int) = 0) (h : Rd w A (l.map U8)) (hl : l.length ≤ 300) (k : Nat) (hk : k ≤ l.length) (hkc : k = KK) :
    ∃ (T : Nat) (N : Int), T ≤ l.length ∧
      (∀ w', Up w w' → Calls Try.prog 12 #[.slice A l.length c, .int .i64 k] w' fun e w'' => e = .returned (.tuple #[.int .i64 N, .int .i64 T, .int .i64 0]) ∧ w' = w'') ∧
      (∀ w', Up w w' → Calls Try.prog 14 #[.slice A k c, .int .i64 N] w' (RetStrU (l.take T) w')) ∧
      (∀ w', Up w w' → (convert 22 9 (.slice A T c)).run Try.prog w' = .ok (.string ⟨(l.take T).toArray⟩) w') := by
  subst hkc
  obtain ⟨b1, b2, b3, b4⟩ := read_bound hE
  have r := read_enc hE
  rw [Int.toNat_natCast] at r
  refine ⟨(rdT l k).toNat, rdN l k, by omega, fun w' hu => ?_, fun w' hu => ?_, again_conv h _ (by omega)⟩
  · rw [show (((rdT l k).toNat : Nat) : Int) = rdT l k by omega]
    exact int_ok w' A c l (hu.rd h) (by omega) k (by omega) (by omega) hE
  · have := putInt_any w' A c (l.take k) ((hu.rd h).take8 k) (by simp; omega) (rdN l k) b1 b2
    rw [show (l.take k).length = k by simp; omega, ← r] at this
    exact this.mono fun _ _ h => h.strU
theorem again_int_no {k : Nat} (hE : rdE l ((k : Nat) : Int) ≠ 0) (h : Rd w A (l.map U8)) (hl : l.length ≤ 300) (kk : Nat) (hk : k ≤ l.length) :
    ∀ w', Up w w' → Calls Try.prog 12 #[.slice A l.length c, .int .i64 k] w' fun e w'' => e = .returned (.tuple #[.int .i64 0, .int .i64 0, .int .i64 (rdE l k)]) ∧ w' = w'' :=
  fun w' hu => int_err w' A c l (hu.rd h) (by omega) k (by omega) (by omega) hE
theorem again_tx {KK : Nat} (hE : txE l ((KK : Nat) : Int) = 0) (h : Rd w A (l.map U8)) (hl : l.length ≤ 300) (k : Nat) (hk : k ≤ l.length) (hkc : k = KK) (hlc : l.length ≤ c) :
    ∃ (T : Nat) (N : List UInt8), T ≤ l.length ∧
      (∀ w', Up w w' → Calls Try.prog 20 #[.slice A l.length c, .int .i64 k] w' fun e w'' => e = .returned (.tuple #[.string ⟨N.toArray⟩, .int .i64 T, .int .i64 0]) ∧ w' = w'') ∧
      (∀ w', Up w w' → Calls Try.prog 16 #[.slice A k c, .string ⟨N.toArray⟩] w' (RetStrU (l.take T) w')) ∧
      (∀ w', Up w w' → (convert 22 9 (.slice A T c)).run Try.prog w' = .ok (.string ⟨(l.take T).toArray⟩) w') := by
  subst hkc
  obtain ⟨r, b1, b2, b3⟩ := tx_enc hE
  rw [Int.toNat_natCast] at r
  refine ⟨(txT l k).toNat, txS l k, by omega, fun w' hu => ?_, fun w' hu => ?_, again_conv h _ (by omega)⟩
  · rw [show (((txT l k).toNat : Nat) : Int) = txT l k by omega]
    have := textAt_any w' A c l hlc (hu.rd h) (by omega) k (by omega) (by omega)
    rw [hE] at this
    exact this
  · have := putText_any w' A c (l.take k) ((hu.rd h).take8 k) (by simp; omega) (txS l k) (by omega)
    rw [show (l.take k).length = k by simp; omega, ← r] at this
    exact this.mono fun _ _ h => h.strU
theorem again_tx_no {k : Nat} (hE : txE l ((k : Nat) : Int) ≠ 0) (h : Rd w A (l.map U8)) (hl : l.length ≤ 300) (kk : Nat) (hk : k ≤ l.length) (hlc : l.length ≤ c) :
    ∀ w', Up w w' → Calls Try.prog 20 #[.slice A l.length c, .int .i64 k] w' fun e w'' => e = .returned (.tuple #[.string ⟨#[]⟩, .int .i64 0, .int .i64 (txE l k)]) ∧ w' = w'' := by
  intro w' hu
  have := textAt_any w' A c l hlc (hu.rd h) (by omega) k (by omega) (by omega)
  have e1 : txS l k = [] := by unfold txS; rw [if_neg hE]
  have e2 : txT l k = 0 := by unfold txT; rw [if_neg hE]
  rw [e1, e2] at this
  exact this
theorem again_is {KK : Nat} (hE : isE l ((KK : Nat) : Int) = 0) (h : Rd w A (l.map U8)) (hl : l.length ≤ 300) (k : Nat) (hk : k ≤ l.length) (hkc : k = KK) :
    ∃ (T : Nat), 
      (∀ w', Up w w' → Calls Try.prog 22 #[.slice A l.length c, .int .i64 k] w' (RetList (isL l k) T 0 w')) ∧
      (∀ w' B d, Up w w' → Rd w' B ((isL l k).map I64) → Calls Try.prog 18 #[.slice A k c, .slice B (isL l k).length d] w' (RetStrU (l.take T) w')) ∧ T ≤ l.length ∧
      (∀ w', Up w w' → (convert 22 9 (.slice A T c)).run Try.prog w' = .ok (.string ⟨(l.take T).toArray⟩) w') := by
  subst hkc
  obtain ⟨r, b1, b2, b3⟩ := is_enc hE
  have b4 := isL_len l k
  rw [Int.toNat_natCast] at r
  refine ⟨(isT l k).toNat, fun w' hu => ?_, fun w' B d hu hB => ?_, by omega, again_conv h _ (by omega)⟩
  · rw [show (((isT l k).toNat : Nat) : Int) = isT l k by omega]
    have := ints_any w' A c l (hu.rd h) (by omega) k (by omega) (by omega)
    rw [hE] at this
    exact this
  · have := putInts_any w' A c (l.take k) ((hu.rd h).take8 k) (by simp; omega) B d (isL l k) hB (by omega) b3
    rw [show (l.take k).length = k by simp; omega, ← r] at this
    exact this.mono fun _ _ h => h.strU
theorem again_is_no {k : Nat} (hE : isE l ((k : Nat) : Int) ≠ 0) (h : Rd w A (l.map U8)) (hl : l.length ≤ 300) (kk : Nat) (hk : k ≤ l.length) :
    ∀ w', Up w w' → Calls Try.prog 22 #[.slice A l.length c, .int .i64 k] w' fun e w'' => (∃ B n d t, e = .returned (.tuple #[.slice B n d, .int .i64 t, .int .i64 (isE l k)])) ∧ Below w'.heap.size w' w'' := by
  intro w' hu
  refine (ints_any w' A c l (hu.rd h) (by omega) k (by omega) (by omega)).mono ?_
  rintro e w'' ⟨A4, c4, rfl, _, hb⟩
  exact ⟨⟨_, _, _, _, rfl⟩, hb⟩
end

set_option maxRecDepth 20000 in
set_option maxHeartbeats 8000000 in
theorem walk_WireAgain (w : World) (A : Option Addr) (c : Nat) (l : List UInt8) (hr0 : Rd w A (l.map U8)) (hm : l.length ≤ maxLen) (hlc : l.length ≤ c) (n : Int) (lo : -9223372036854775808 ≤ n) (hi : n ≤ 9223372036854775807) :
    Calls Try.prog 8 #[.slice A l.length c, .int .i64 n] w fun e w' => e = .returned (.bool true) ∧ Below w.heap.size w w' := by
  unfold maxLen at hm
  by_cases hl : l.length ≤ 300
  · by_cases h0 : n < 0
    · have p0 : decide (n < 0) = true := by simpa using h0
      go_enter Try.func8, Try.ntmps8
      go_wp2_with fail
      refine (few_yes _ _ _ _ _ _ _ _ hl (by decide) (by decide)).mono ?_
      rintro e w' ⟨rfl, rfl⟩
      go_wp2_with fail
      refine (awake_any _).mono ?_
      rintro e w' ⟨rfl, hb⟩
      go_wp2_with fail
      go_ret
      exact ⟨rfl, hb⟩
    · by_cases h1 : (l.length : Int) < n
      · have p0 : decide (n < 0) = false := by simpa using h0
        have p1 : decide ((l.length : Int) < n) = true := by simpa using h1
        go_enter Try.func8, Try.ntmps8
        go_wp2_with fail
        refine (few_yes _ _ _ _ _ _ _ _ hl (by decide) (by decide)).mono ?_
        rintro e w' ⟨rfl, rfl⟩
        go_wp2_with fail
        refine (awake_any _).mono ?_
        rintro e w' ⟨rfl, hb⟩
        go_wp2_with fail
        go_ret
        exact ⟨rfl, hb⟩
      · obtain ⟨k, rfl⟩ : ∃ k : Nat, n = k := ⟨n.toNat, by omega⟩
        have hk : k ≤ l.length := by omega
        clear h0 h1 lo hi
        have p1 : decide (l.length < k) = false := by simpa using hk
        have u0 := Up.refl w
        go_enter Try.func8, Try.ntmps8
        go_wp2_with fail
        refine (few_yes _ _ _ _ _ _ _ _ hl (by decide) (by decide)).mono ?_
        rintro e w' ⟨rfl, rfl⟩
        by_cases hE0 : rdE l k = 0
        · obtain ⟨T, N, hT, ci, kc, cvb⟩ := again_int (c := c) hE0 hr0 hl k hk rfl
          clear hE0
          go_wp2_with fail
          refine (ci _ u0).mono ?_
          rintro e w' ⟨rfl, rfl⟩
          clear ci
          have sl1 := slice_to A c l.length hlc (k : Int) k rfl hk
          have sl2 := slice_to A c l.length hlc (T : Int) T rfl hT
          have kc := fun w' (h : Up w w') => kc w' (u0.trans h)
          have cvb := fun w' (h : Up w w') => cvb w' (u0.trans h)
          generalize hTT : l.take T = LT at *
          clear hTT
          go_wp2_with fail
          refine wp_region_noPanic ?_
          refine wp_region_held_drew (S := fun w' => Up w w') (by kernel_rfl) (Up.drew w) (fun hHeld => ?_)
          refine wpAnyH_take (i := 0) (v := ?_) rfl (by kernel_rfl) (by kernel_rfl) (by kernel_rfl) (fun _ _ _ h => h) (Or.inl ⟨by rfl, ?_⟩) (by assumption) ?_
          rotate_left
          · intro w' hSw; clear hSw; go_simp; try (with_reducible rfl)
          change wpAnyH _ _ _ _ _ _ _ (Act.put _ (some 35) _) _
          try (simp only [Act.put, List.setIfInBounds_toArray, List.set_cons_zero, List.set_cons_succ])
          refine wpAnyH_take (i := 1) (v := ?_) rfl (by kernel_rfl) (by kernel_rfl) (by kernel_rfl) (fun _ _ _ h => h) (Or.inl ⟨by rfl, ?_⟩) (by assumption) ?_
          rotate_left
          · intro w' hSw; clear hSw; go_simp; try (with_reducible rfl)
          change wpAnyH _ _ _ _ _ _ _ (Act.put _ (some 36) _) _
          try (simp only [Act.put, List.setIfInBounds_toArray, List.set_cons_zero, List.set_cons_succ])
          refine wpAnyH_take (i := 2) (v := ?_) rfl (by kernel_rfl) (by kernel_rfl) (by kernel_rfl) (fun _ _ _ h => h) (Or.inl ⟨by rfl, ?_⟩) (by assumption) ?_
          rotate_left
          · intro w' hSw; clear hSw; go_simp; try (with_reducible rfl)
          change wpAnyH _ _ _ _ _ _ _ (Act.put _ (some 37) _) _
          try (simp only [Act.put, List.setIfInBounds_toArray, List.set_cons_zero, List.set_cons_succ])
          refine wpAnyH_take (i := 3) (v := ?_) rfl (by kernel_rfl) (by kernel_rfl) (by kernel_rfl) (fun _ _ _ h => h) (Or.inl ⟨by rfl, ?_⟩) (by assumption) ?_
          rotate_left
          · intro w' hSw; clear hSw; go_simp; try (with_reducible rfl)
          change wpAnyH _ _ _ _ _ _ _ (Act.put _ (some 38) _) _
          try (simp only [Act.put, List.setIfInBounds_toArray, List.set_cons_zero, List.set_cons_succ])
          refine wpAnyH_take (i := 4) (v := ?_) rfl (by kernel_rfl) (by kernel_rfl) (by kernel_rfl) (fun _ _ _ h => h) (Or.inl ⟨by rfl, ?_⟩) (by assumption) ?_
          rotate_left
          · intro w' hSw; clear hSw; go_simp; try (with_reducible rfl)
          change wpAnyH _ _ _ _ _ _ _ (Act.put _ (some 39) _) _
          try (simp only [Act.put, List.setIfInBounds_toArray, List.set_cons_zero, List.set_cons_succ])
          refine wpAnyH_take (i := 5) (v := ?_) rfl (by kernel_rfl) (by kernel_rfl) (by kernel_rfl) (fun _ _ _ h => h) (Or.inl ⟨by rfl, ?_⟩) (by assumption) ?_
          rotate_left
          · intro w' hS0; go_simp; try (with_reducible rfl)
          change wpAnyH _ _ _ _ _ _ _ (Act.put _ (some 40) _) _
          try (simp only [Act.put, List.setIfInBounds_toArray, List.set_cons_zero, List.set_cons_succ])
          refine wpAnyH_take (i := 6) (v := ?_) rfl (by kernel_rfl) (by kernel_rfl) (by kernel_rfl) (fun _ _ _ h => h) (Or.inl ⟨by rfl, ?_⟩) (by assumption) ?_
          rotate_left
          · intro w' hSw; clear hSw; go_simp; try (with_reducible rfl)
          change wpAnyH _ _ _ _ _ _ _ (Act.put _ (some 41) _) _
          try (simp only [Act.put, List.setIfInBounds_toArray, List.set_cons_zero, List.set_cons_succ])
          refine wpAnyH_take (i := 9) (v := ?_) rfl (by kernel_rfl) (by kernel_rfl) (by kernel_rfl) (fun _ _ _ h => h) (Or.inl ⟨by rfl, ?_⟩) (by assumption) ?_
          rotate_left
          · intro w' hSw; clear hSw; go_simp; try (with_reducible rfl)
          change wpAnyH _ _ _ _ _ _ _ (Act.put _ (some 44) _) _
          try (simp only [Act.put, List.setIfInBounds_toArray, List.set_cons_zero, List.set_cons_succ])
          refine wpAnyH_take (i := 10) (v := ?_) rfl (by kernel_rfl) (by kernel_rfl) (by kernel_rfl) (fun _ _ _ h => h) (Or.inl ⟨by rfl, ?_⟩) (by assumption) ?_
          rotate_left
          · intro w' hSw; clear hSw; go_simp; try (with_reducible rfl)
          change wpAnyH _ _ _ _ _ _ _ (Act.put _ (some 45) _) _
          try (simp only [Act.put, List.setIfInBounds_toArray, List.set_cons_zero, List.set_cons_succ])
          refine wpAnyH_take (i := 11) (v := ?_) rfl (by kernel_rfl) (by kernel_rfl) (by kernel_rfl) (fun _ _ _ h => h) (Or.inl ⟨by rfl, ?_⟩) (by assumption) ?_
          rotate_left
          · intro w' hS0; go_simp; try (with_reducible rfl)
          change wpAnyH _ _ _ _ _ _ _ (Act.put _ (some 46) _) _
          try (simp only [Act.put, List.setIfInBounds_toArray, List.set_cons_zero, List.set_cons_succ])
          refine wpAnyH_take (i := 12) (v := ?_) rfl (by kernel_rfl) (by kernel_rfl) (by kernel_rfl) (fun _ _ _ h => h) (Or.inl ⟨by rfl, ?_⟩) (by assumption) ?_
          rotate_left
          · intro w' hS0; go_simp; try (with_reducible rfl)
          change wpAnyH _ _ _ _ _ _ _ (Act.put _ (some 47) _) _
          try (simp only [Act.put, List.setIfInBounds_toArray, List.set_cons_zero, List.set_cons_succ])
          refine wpAnyH_ready (rs := [7]) (by kernel_rfl) (by simp) ?_
          refine AllReadyH.cons rfl (fun K hK => ?_) AllReadyH.nil
          go_simp
          refine (kc _ (Up.drew w)).mono ?_
          rintro e W1 ⟨Ax, cx, rfl, x1, cv1⟩
          have u1 : Up w W1 := Up.trans (Up.drew w) x1
          refine hK.out _ _ u1 (fun hHeld => ?_)
          clear hK K hHeld
          refine wpAnyH_more (S' := fun w' => Up W1 w') (fun w' h => Up.trans u1 h) _ _ _ _ ?_
          have hHeld := Up.refl W1
          refine wpAnyH_take (i := 8) (v := ?_) rfl (by kernel_rfl) (by kernel_rfl) (by kernel_rfl) (fun _ _ _ h => h) (Or.inl ⟨by rfl, ?_⟩) (by assumption) ?_
          rotate_left
          · intro w' hS1; have hS0 := Up.trans u1 hS1; go_simp; try (with_reducible rfl)
          change wpAnyH _ _ _ _ _ _ _ (Act.put _ (some 43) _) _
          try (simp only [Act.put, List.setIfInBounds_toArray, List.set_cons_zero, List.set_cons_succ])
          refine wpAnyH_take (i := 13) (v := ?_) rfl (by kernel_rfl) (by kernel_rfl) (by kernel_rfl) (fun _ _ _ h => h) (Or.inl ⟨by rfl, ?_⟩) (by assumption) ?_
          rotate_left
          · intro w' hSw; clear hSw; go_simp; try (with_reducible rfl)
          change wpAnyH _ _ _ _ _ _ _ (Act.put _ (some 48) _) _
          try (simp only [Act.put, List.setIfInBounds_toArray, List.set_cons_zero, List.set_cons_succ])
          refine wpAnyH_take (i := 14) (v := ?_) rfl (by kernel_rfl) (by kernel_rfl) (by kernel_rfl) (fun _ _ _ h => h) (Or.inl ⟨by rfl, ?_⟩) (by assumption) ?_
          rotate_left
          · intro w' hSw; clear hSw; go_simp; try (with_reducible rfl)
          change wpAnyH _ _ _ _ _ _ _ (Act.put _ (some 49) _) _
          try (simp only [Act.put, List.setIfInBounds_toArray, List.set_cons_zero, List.set_cons_succ])
          refine wpAnyH_done (by kernel_rfl) ?_ _
          refine NoPanic.normal ?_
          clear hHeld
          have u1' := Up.trans u0 u1
          by_cases hE1 : txE l k = 0
          · obtain ⟨T, N, hT, ci, kc, cvb⟩ := again_tx hE1 hr0 hl k hk rfl hlc
            clear hE1
            go_wp2_with fail
            refine (ci _ u1').mono ?_
            rintro e w' ⟨rfl, rfl⟩
            clear ci
            have sl1 := slice_to A c l.length hlc (k : Int) k rfl hk
            have sl2 := slice_to A c l.length hlc (T : Int) T rfl hT
            have kc := fun w' (h : Up W1 w') => kc w' (u1'.trans h)
            have cvb := fun w' (h : Up W1 w') => cvb w' (u1'.trans h)
            generalize hTT : l.take T = LT at *
            clear hTT
            go_wp2_with fail
            refine wp_region_noPanic ?_
            refine wp_region_held_drew (S := fun w' => Up W1 w') (by kernel_rfl) (Up.drew W1) (fun hHeld => ?_)
            refine wpAnyH_take (i := 0) (v := ?_) rfl (by kernel_rfl) (by kernel_rfl) (by kernel_rfl) (fun _ _ _ h => h) (Or.inl ⟨by rfl, ?_⟩) (by assumption) ?_
            rotate_left
            · intro w' hSw; clear hSw; go_simp; try (with_reducible rfl)
            change wpAnyH _ _ _ _ _ _ _ (Act.put _ (some 57) _) _
            try (simp only [Act.put, List.setIfInBounds_toArray, List.set_cons_zero, List.set_cons_succ])
            refine wpAnyH_take (i := 1) (v := ?_) rfl (by kernel_rfl) (by kernel_rfl) (by kernel_rfl) (fun _ _ _ h => h) (Or.inl ⟨by rfl, ?_⟩) (by assumption) ?_
            rotate_left
            · intro w' hSw; clear hSw; go_simp; try (with_reducible rfl)
            change wpAnyH _ _ _ _ _ _ _ (Act.put _ (some 58) _) _
            try (simp only [Act.put, List.setIfInBounds_toArray, List.set_cons_zero, List.set_cons_succ])
            refine wpAnyH_take (i := 2) (v := ?_) rfl (by kernel_rfl) (by kernel_rfl) (by kernel_rfl) (fun _ _ _ h => h) (Or.inl ⟨by rfl, ?_⟩) (by assumption) ?_
            rotate_left
            · intro w' hSw; clear hSw; go_simp; try (with_reducible rfl)
            change wpAnyH _ _ _ _ _ _ _ (Act.put _ (some 59) _) _
            try (simp only [Act.put, List.setIfInBounds_toArray, List.set_cons_zero, List.set_cons_succ])
            refine wpAnyH_take (i := 3) (v := ?_) rfl (by kernel_rfl) (by kernel_rfl) (by kernel_rfl) (fun _ _ _ h => h) (Or.inl ⟨by rfl, ?_⟩) (by assumption) ?_
            rotate_left
            · intro w' hSw; clear hSw; go_simp; try (with_reducible rfl)
            change wpAnyH _ _ _ _ _ _ _ (Act.put _ (some 60) _) _
            try (simp only [Act.put, List.setIfInBounds_toArray, List.set_cons_zero, List.set_cons_succ])
            refine wpAnyH_take (i := 4) (v := ?_) rfl (by kernel_rfl) (by kernel_rfl) (by kernel_rfl) (fun _ _ _ h => h) (Or.inl ⟨by rfl, ?_⟩) (by assumption) ?_
            rotate_left
            · intro w' hSw; clear hSw; go_simp; try (with_reducible rfl)
            change wpAnyH _ _ _ _ _ _ _ (Act.put _ (some 61) _) _
            try (simp only [Act.put, List.setIfInBounds_toArray, List.set_cons_zero, List.set_cons_succ])
            refine wpAnyH_take (i := 5) (v := ?_) rfl (by kernel_rfl) (by kernel_rfl) (by kernel_rfl) (fun _ _ _ h => h) (Or.inl ⟨by rfl, ?_⟩) (by assumption) ?_
            rotate_left
            · intro w' hS0; go_simp; try (with_reducible rfl)
            change wpAnyH _ _ _ _ _ _ _ (Act.put _ (some 62) _) _
            try (simp only [Act.put, List.setIfInBounds_toArray, List.set_cons_zero, List.set_cons_succ])
            refine wpAnyH_take (i := 6) (v := ?_) rfl (by kernel_rfl) (by kernel_rfl) (by kernel_rfl) (fun _ _ _ h => h) (Or.inl ⟨by rfl, ?_⟩) (by assumption) ?_
            rotate_left
            · intro w' hSw; clear hSw; go_simp; try (with_reducible rfl)
            change wpAnyH _ _ _ _ _ _ _ (Act.put _ (some 63) _) _
            try (simp only [Act.put, List.setIfInBounds_toArray, List.set_cons_zero, List.set_cons_succ])
            refine wpAnyH_take (i := 9) (v := ?_) rfl (by kernel_rfl) (by kernel_rfl) (by kernel_rfl) (fun _ _ _ h => h) (Or.inl ⟨by rfl, ?_⟩) (by assumption) ?_
            rotate_left
            · intro w' hSw; clear hSw; go_simp; try (with_reducible rfl)
            change wpAnyH _ _ _ _ _ _ _ (Act.put _ (some 66) _) _
            try (simp only [Act.put, List.setIfInBounds_toArray, List.set_cons_zero, List.set_cons_succ])
            refine wpAnyH_take (i := 10) (v := ?_) rfl (by kernel_rfl) (by kernel_rfl) (by kernel_rfl) (fun _ _ _ h => h) (Or.inl ⟨by rfl, ?_⟩) (by assumption) ?_
            rotate_left
            · intro w' hSw; clear hSw; go_simp; try (with_reducible rfl)
            change wpAnyH _ _ _ _ _ _ _ (Act.put _ (some 67) _) _
            try (simp only [Act.put, List.setIfInBounds_toArray, List.set_cons_zero, List.set_cons_succ])
            refine wpAnyH_take (i := 11) (v := ?_) rfl (by kernel_rfl) (by kernel_rfl) (by kernel_rfl) (fun _ _ _ h => h) (Or.inl ⟨by rfl, ?_⟩) (by assumption) ?_
            rotate_left
            · intro w' hS0; go_simp; try (with_reducible rfl)
            change wpAnyH _ _ _ _ _ _ _ (Act.put _ (some 68) _) _
            try (simp only [Act.put, List.setIfInBounds_toArray, List.set_cons_zero, List.set_cons_succ])
            refine wpAnyH_take (i := 12) (v := ?_) rfl (by kernel_rfl) (by kernel_rfl) (by kernel_rfl) (fun _ _ _ h => h) (Or.inl ⟨by rfl, ?_⟩) (by assumption) ?_
            rotate_left
            · intro w' hS0; go_simp; try (with_reducible rfl)
            change wpAnyH _ _ _ _ _ _ _ (Act.put _ (some 69) _) _
            try (simp only [Act.put, List.setIfInBounds_toArray, List.set_cons_zero, List.set_cons_succ])
            refine wpAnyH_ready (rs := [7]) (by kernel_rfl) (by simp) ?_
            refine AllReadyH.cons rfl (fun K hK => ?_) AllReadyH.nil
            go_simp
            refine (kc _ (Up.drew W1)).mono ?_
            rintro e W2 ⟨Ax, cx, rfl, x1, cv1⟩
            have u2 : Up W1 W2 := Up.trans (Up.drew W1) x1
            refine hK.out _ _ u2 (fun hHeld => ?_)
            clear hK K hHeld
            refine wpAnyH_more (S' := fun w' => Up W2 w') (fun w' h => Up.trans u2 h) _ _ _ _ ?_
            have hHeld := Up.refl W2
            refine wpAnyH_take (i := 8) (v := ?_) rfl (by kernel_rfl) (by kernel_rfl) (by kernel_rfl) (fun _ _ _ h => h) (Or.inl ⟨by rfl, ?_⟩) (by assumption) ?_
            rotate_left
            · intro w' hS1; have hS0 := Up.trans u2 hS1; go_simp; try (with_reducible rfl)
            change wpAnyH _ _ _ _ _ _ _ (Act.put _ (some 65) _) _
            try (simp only [Act.put, List.setIfInBounds_toArray, List.set_cons_zero, List.set_cons_succ])
            refine wpAnyH_take (i := 13) (v := ?_) rfl (by kernel_rfl) (by kernel_rfl) (by kernel_rfl) (fun _ _ _ h => h) (Or.inl ⟨by rfl, ?_⟩) (by assumption) ?_
            rotate_left
            · intro w' hSw; clear hSw; go_simp; try (with_reducible rfl)
            change wpAnyH _ _ _ _ _ _ _ (Act.put _ (some 70) _) _
            try (simp only [Act.put, List.setIfInBounds_toArray, List.set_cons_zero, List.set_cons_succ])
            refine wpAnyH_take (i := 14) (v := ?_) rfl (by kernel_rfl) (by kernel_rfl) (by kernel_rfl) (fun _ _ _ h => h) (Or.inl ⟨by rfl, ?_⟩) (by assumption) ?_
            rotate_left
            · intro w' hSw; clear hSw; go_simp; try (with_reducible rfl)
            change wpAnyH _ _ _ _ _ _ _ (Act.put _ (some 71) _) _
            try (simp only [Act.put, List.setIfInBounds_toArray, List.set_cons_zero, List.set_cons_succ])
            refine wpAnyH_done (by kernel_rfl) ?_ _
            refine NoPanic.normal ?_
            clear hHeld
            have u2' := Up.trans u1' u2
            by_cases hE2 : isE l k = 0
            · obtain ⟨T, ci, kc, hT, cvb⟩ := again_is (c := c) hE2 hr0 hl k hk rfl
              clear hE2
              go_wp2_with fail
              refine (ci _ u2').mono ?_
              rintro e W3 ⟨A3, c3, rfl, hown3, hb3⟩
              have u3 := Up.of hb3
              have hr3 := hown3.rd'
              clear ci hown3 hb3
              have sl1 := slice_to A c l.length hlc (k : Int) k rfl hk
              have sl2 := slice_to A c l.length hlc (T : Int) T rfl hT
              have v3 := Up.trans u2' u3
              have kc := fun w' (h : Up W3 w') => kc w' A3 c3 (v3.trans h) (h.rd hr3)
              have cvb := fun w' (h : Up W3 w') => cvb w' (v3.trans h)
              generalize hTT : l.take T = LT at *
              clear hTT
              generalize isL l k = Lm at *
              go_wp2_with fail
              refine wp_region_noPanic ?_
              refine wp_region_held_drew (S := fun w' => Up W3 w') (by kernel_rfl) (Up.drew W3) (fun hHeld => ?_)
              refine wpAnyH_take (i := 0) (v := ?_) rfl (by kernel_rfl) (by kernel_rfl) (by kernel_rfl) (fun _ _ _ h => h) (Or.inl ⟨by rfl, ?_⟩) (by assumption) ?_
              rotate_left
              · intro w' hSw; clear hSw; go_simp; try (with_reducible rfl)
              change wpAnyH _ _ _ _ _ _ _ (Act.put _ (some 79) _) _
              try (simp only [Act.put, List.setIfInBounds_toArray, List.set_cons_zero, List.set_cons_succ])
              refine wpAnyH_take (i := 1) (v := ?_) rfl (by kernel_rfl) (by kernel_rfl) (by kernel_rfl) (fun _ _ _ h => h) (Or.inl ⟨by rfl, ?_⟩) (by assumption) ?_
              rotate_left
              · intro w' hSw; clear hSw; go_simp; try (with_reducible rfl)
              change wpAnyH _ _ _ _ _ _ _ (Act.put _ (some 80) _) _
              try (simp only [Act.put, List.setIfInBounds_toArray, List.set_cons_zero, List.set_cons_succ])
              refine wpAnyH_take (i := 2) (v := ?_) rfl (by kernel_rfl) (by kernel_rfl) (by kernel_rfl) (fun _ _ _ h => h) (Or.inl ⟨by rfl, ?_⟩) (by assumption) ?_
              rotate_left
              · intro w' hSw; clear hSw; go_simp; try (with_reducible rfl)
              change wpAnyH _ _ _ _ _ _ _ (Act.put _ (some 81) _) _
              try (simp only [Act.put, List.setIfInBounds_toArray, List.set_cons_zero, List.set_cons_succ])
              refine wpAnyH_take (i := 3) (v := ?_) rfl (by kernel_rfl) (by kernel_rfl) (by kernel_rfl) (fun _ _ _ h => h) (Or.inl ⟨by rfl, ?_⟩) (by assumption) ?_
              rotate_left
              · intro w' hSw; clear hSw; go_simp; try (with_reducible rfl)
              change wpAnyH _ _ _ _ _ _ _ (Act.put _ (some 82) _) _
              try (simp only [Act.put, List.setIfInBounds_toArray, List.set_cons_zero, List.set_cons_succ])
              refine wpAnyH_take (i := 4) (v := ?_) rfl (by kernel_rfl) (by kernel_rfl) (by kernel_rfl) (fun _ _ _ h => h) (Or.inl ⟨by rfl, ?_⟩) (by assumption) ?_
              rotate_left
              · intro w' hSw; clear hSw; go_simp; try (with_reducible rfl)
              change wpAnyH _ _ _ _ _ _ _ (Act.put _ (some 83) _) _
              try (simp only [Act.put, List.setIfInBounds_toArray, List.set_cons_zero, List.set_cons_succ])
              refine wpAnyH_take (i := 5) (v := ?_) rfl (by kernel_rfl) (by kernel_rfl) (by kernel_rfl) (fun _ _ _ h => h) (Or.inl ⟨by rfl, ?_⟩) (by assumption) ?_
              rotate_left
              · intro w' hS0; go_simp; try (with_reducible rfl)
              change wpAnyH _ _ _ _ _ _ _ (Act.put _ (some 84) _) _
              try (simp only [Act.put, List.setIfInBounds_toArray, List.set_cons_zero, List.set_cons_succ])
              refine wpAnyH_take (i := 6) (v := ?_) rfl (by kernel_rfl) (by kernel_rfl) (by kernel_rfl) (fun _ _ _ h => h) (Or.inl ⟨by rfl, ?_⟩) (by assumption) ?_
              rotate_left
              · intro w' hSw; clear hSw; go_simp; try (with_reducible rfl)
              change wpAnyH _ _ _ _ _ _ _ (Act.put _ (some 85) _) _
              try (simp only [Act.put, List.setIfInBounds_toArray, List.set_cons_zero, List.set_cons_succ])
              refine wpAnyH_take (i := 9) (v := ?_) rfl (by kernel_rfl) (by kernel_rfl) (by kernel_rfl) (fun _ _ _ h => h) (Or.inl ⟨by rfl, ?_⟩) (by assumption) ?_
              rotate_left
              · intro w' hSw; clear hSw; go_simp; try (with_reducible rfl)
              change wpAnyH _ _ _ _ _ _ _ (Act.put _ (some 88) _) _
              try (simp only [Act.put, List.setIfInBounds_toArray, List.set_cons_zero, List.set_cons_succ])
              refine wpAnyH_take (i := 10) (v := ?_) rfl (by kernel_rfl) (by kernel_rfl) (by kernel_rfl) (fun _ _ _ h => h) (Or.inl ⟨by rfl, ?_⟩) (by assumption) ?_
              rotate_left
              · intro w' hSw; clear hSw; go_simp; try (with_reducible rfl)
              change wpAnyH _ _ _ _ _ _ _ (Act.put _ (some 89) _) _
              try (simp only [Act.put, List.setIfInBounds_toArray, List.set_cons_zero, List.set_cons_succ])
              refine wpAnyH_take (i := 11) (v := ?_) rfl (by kernel_rfl) (by kernel_rfl) (by kernel_rfl) (fun _ _ _ h => h) (Or.inl ⟨by rfl, ?_⟩) (by assumption) ?_
              rotate_left
              · intro w' hS0; go_simp; try (with_reducible rfl)
              change wpAnyH _ _ _ _ _ _ _ (Act.put _ (some 90) _) _
              try (simp only [Act.put, List.setIfInBounds_toArray, List.set_cons_zero, List.set_cons_succ])
              refine wpAnyH_take (i := 12) (v := ?_) rfl (by kernel_rfl) (by kernel_rfl) (by kernel_rfl) (fun _ _ _ h => h) (Or.inl ⟨by rfl, ?_⟩) (by assumption) ?_
              rotate_left
              · intro w' hS0; go_simp; try (with_reducible rfl)
              change wpAnyH _ _ _ _ _ _ _ (Act.put _ (some 91) _) _
              try (simp only [Act.put, List.setIfInBounds_toArray, List.set_cons_zero, List.set_cons_succ])
              refine wpAnyH_ready (rs := [7]) (by kernel_rfl) (by simp) ?_
              refine AllReadyH.cons rfl (fun K hK => ?_) AllReadyH.nil
              go_simp
              refine (kc _ (Up.drew W3)).mono ?_
              rintro e W4 ⟨Ax, cx, rfl, x1, cv1⟩
              have u4 : Up W3 W4 := Up.trans (Up.drew W3) x1
              refine hK.out _ _ u4 (fun hHeld => ?_)
              clear hK K hHeld
              refine wpAnyH_more (S' := fun w' => Up W4 w') (fun w' h => Up.trans u4 h) _ _ _ _ ?_
              have hHeld := Up.refl W4
              refine wpAnyH_take (i := 8) (v := ?_) rfl (by kernel_rfl) (by kernel_rfl) (by kernel_rfl) (fun _ _ _ h => h) (Or.inl ⟨by rfl, ?_⟩) (by assumption) ?_
              rotate_left
              · intro w' hS1; have hS0 := Up.trans u4 hS1; go_simp; try (with_reducible rfl)
              change wpAnyH _ _ _ _ _ _ _ (Act.put _ (some 87) _) _
              try (simp only [Act.put, List.setIfInBounds_toArray, List.set_cons_zero, List.set_cons_succ])
              refine wpAnyH_take (i := 13) (v := ?_) rfl (by kernel_rfl) (by kernel_rfl) (by kernel_rfl) (fun _ _ _ h => h) (Or.inl ⟨by rfl, ?_⟩) (by assumption) ?_
              rotate_left
              · intro w' hSw; clear hSw; go_simp; try (with_reducible rfl)
              change wpAnyH _ _ _ _ _ _ _ (Act.put _ (some 92) _) _
              try (simp only [Act.put, List.setIfInBounds_toArray, List.set_cons_zero, List.set_cons_succ])
              refine wpAnyH_take (i := 14) (v := ?_) rfl (by kernel_rfl) (by kernel_rfl) (by kernel_rfl) (fun _ _ _ h => h) (Or.inl ⟨by rfl, ?_⟩) (by assumption) ?_
              rotate_left
              · intro w' hSw; clear hSw; go_simp; try (with_reducible rfl)
              change wpAnyH _ _ _ _ _ _ _ (Act.put _ (some 93) _) _
              try (simp only [Act.put, List.setIfInBounds_toArray, List.set_cons_zero, List.set_cons_succ])
              refine wpAnyH_take (i := 15) (v := ?_) rfl (by kernel_rfl) (by kernel_rfl) (by kernel_rfl) (fun _ _ _ h => h) (Or.inl ⟨by rfl, ?_⟩) (by assumption) ?_
              rotate_left
              · intro w' hSw; clear hSw; go_simp; try (with_reducible rfl)
              change wpAnyH _ _ _ _ _ _ _ (Act.put _ (some 94) _) _
              try (simp only [Act.put, List.setIfInBounds_toArray, List.set_cons_zero, List.set_cons_succ])
              refine wpAnyH_ready (rs := [16]) (by kernel_rfl) (by simp) ?_
              refine AllReadyH.cons rfl (fun K hK => ?_) AllReadyH.nil
              go_simp
              refine (awake_any _).mono ?_
              rintro e W5 ⟨rfl, hb9⟩
              have u5 : Up W4 W5 := Up.of hb9
              refine hK.out _ _ u5 (fun hHeld => ?_)
              clear hK K hHeld
              refine wpAnyH_more (S' := fun w' => Up W5 w') (fun w' h => Up.trans u5 h) _ _ _ _ ?_
              have hHeld := Up.refl W5
              refine wpAnyH_take (i := 17) (v := ?_) rfl (by kernel_rfl) (by kernel_rfl) (by kernel_rfl) (fun _ _ _ h => h) (Or.inl ⟨by rfl, ?_⟩) (by assumption) ?_
              rotate_left
              · intro w' hSw; clear hSw; go_simp; try (with_reducible rfl)
              change wpAnyH _ _ _ _ _ _ _ (Act.put _ (some 96) _) _
              try (simp only [Act.put, List.setIfInBounds_toArray, List.set_cons_zero, List.set_cons_succ])
              refine wpAnyH_take (i := 18) (v := ?_) rfl (by kernel_rfl) (by kernel_rfl) (by kernel_rfl) (fun _ _ _ h => h) (Or.inl ⟨by rfl, ?_⟩) (by assumption) ?_
              rotate_left
              · intro w' hSw; clear hSw; go_simp; try (with_reducible rfl)
              change wpAnyH _ _ _ _ _ _ _ (Act.put _ (some 4) _) _
              try (simp only [Act.put, List.setIfInBounds_toArray, List.set_cons_zero, List.set_cons_succ])
              refine wpAnyH_done (by kernel_rfl) ?_ _
              refine NoPanic.normal ?_
              clear hHeld
              go_wp2
              go_ret
              exact ⟨rfl, (v3.trans (u4.trans u5)).b⟩

            · have ci := again_is_no (c := c) hE2 hr0 hl k hk
              have hb2 : (isE l k != 0) = true := by simp; exact hE2
              generalize isE l k = E2 at *
              clear hE2
              go_wp2_with fail
              refine (ci _ u2').mono ?_
              rintro e W3 ⟨⟨B3, l3, c3, t3, rfl⟩, hb3⟩
              have v3 := Up.trans u2' (Up.of hb3)
              clear ci hb3
              go_wp2_with fail
              refine wp_region_noPanic ?_
              refine wp_region_held_drew (S := fun w' => Up W3 w') (by kernel_rfl) (Up.drew W3) (fun hHeld => ?_)
              refine wpAnyH_take (i := 0) (v := ?_) rfl (by kernel_rfl) (by kernel_rfl) (by kernel_rfl) (fun _ _ _ h => h) (Or.inl ⟨by rfl, ?_⟩) (by assumption) ?_
              rotate_left
              · intro w' hSw; clear hSw; go_simp; try (with_reducible rfl)
              change wpAnyH _ _ _ _ _ _ _ (Act.put _ (some 79) _) _
              try (simp only [Act.put, List.setIfInBounds_toArray, List.set_cons_zero, List.set_cons_succ])
              refine wpAnyH_take (i := 1) (v := ?_) rfl (by kernel_rfl) (by kernel_rfl) (by kernel_rfl) (fun _ _ _ h => h) (Or.inl ⟨by rfl, ?_⟩) (by assumption) ?_
              rotate_left
              · intro w' hSw; clear hSw; go_simp; try (with_reducible rfl)
              change wpAnyH _ _ _ _ _ _ _ (Act.put _ (some 80) _) _
              try (simp only [Act.put, List.setIfInBounds_toArray, List.set_cons_zero, List.set_cons_succ])
              refine wpAnyH_take (i := 2) (v := ?_) rfl (by kernel_rfl) (by kernel_rfl) (by kernel_rfl) (fun _ _ _ h => h) (Or.inl ⟨by rfl, ?_⟩) (by assumption) ?_
              rotate_left
              · intro w' hSw; clear hSw; go_simp; try (with_reducible rfl)
              change wpAnyH _ _ _ _ _ _ _ (Act.put _ (some 81) _) _
              try (simp only [Act.put, List.setIfInBounds_toArray, List.set_cons_zero, List.set_cons_succ])
              refine held_skip 3 rfl (by kernel_rfl) (by kernel_rfl) (by kernel_rfl) (fun _ _ _ h => h) (by rfl) (by assumption) ?_
              change wpAnyH _ _ _ _ _ _ _ (Act.put _ (some 82) _) _
              try (simp only [Act.put, List.setIfInBounds_toArray, List.set_cons_zero, List.set_cons_succ])
              refine held_skip 4 rfl (by kernel_rfl) (by kernel_rfl) (by kernel_rfl) (fun _ _ _ h => h) (by rfl) (by assumption) ?_
              change wpAnyH _ _ _ _ _ _ _ (Act.put _ (some 83) _) _
              try (simp only [Act.put, List.setIfInBounds_toArray, List.set_cons_zero, List.set_cons_succ])
              refine held_skip 5 rfl (by kernel_rfl) (by kernel_rfl) (by kernel_rfl) (fun _ _ _ h => h) (by rfl) (by assumption) ?_
              change wpAnyH _ _ _ _ _ _ _ (Act.put _ (some 84) _) _
              try (simp only [Act.put, List.setIfInBounds_toArray, List.set_cons_zero, List.set_cons_succ])
              refine held_skip 6 rfl (by kernel_rfl) (by kernel_rfl) (by kernel_rfl) (fun _ _ _ h => h) (by rfl) (by assumption) ?_
              change wpAnyH _ _ _ _ _ _ _ (Act.put _ (some 85) _) _
              try (simp only [Act.put, List.setIfInBounds_toArray, List.set_cons_zero, List.set_cons_succ])
              refine held_skip 7 rfl (by kernel_rfl) (by kernel_rfl) (by kernel_rfl) (fun _ _ _ h => h) (by rfl) (by assumption) ?_
              change wpAnyH _ _ _ _ _ _ _ (Act.put _ (some 86) _) _
              try (simp only [Act.put, List.setIfInBounds_toArray, List.set_cons_zero, List.set_cons_succ])
              refine held_skip 8 rfl (by kernel_rfl) (by kernel_rfl) (by kernel_rfl) (fun _ _ _ h => h) (by rfl) (by assumption) ?_
              change wpAnyH _ _ _ _ _ _ _ (Act.put _ (some 87) _) _
              try (simp only [Act.put, List.setIfInBounds_toArray, List.set_cons_zero, List.set_cons_succ])
              refine held_skip 9 rfl (by kernel_rfl) (by kernel_rfl) (by kernel_rfl) (fun _ _ _ h => h) (by rfl) (by assumption) ?_
              change wpAnyH _ _ _ _ _ _ _ (Act.put _ (some 88) _) _
              try (simp only [Act.put, List.setIfInBounds_toArray, List.set_cons_zero, List.set_cons_succ])
              refine held_skip 10 rfl (by kernel_rfl) (by kernel_rfl) (by kernel_rfl) (fun _ _ _ h => h) (by rfl) (by assumption) ?_
              change wpAnyH _ _ _ _ _ _ _ (Act.put _ (some 89) _) _
              try (simp only [Act.put, List.setIfInBounds_toArray, List.set_cons_zero, List.set_cons_succ])
              refine held_skip 11 rfl (by kernel_rfl) (by kernel_rfl) (by kernel_rfl) (fun _ _ _ h => h) (by rfl) (by assumption) ?_
              change wpAnyH _ _ _ _ _ _ _ (Act.put _ (some 90) _) _
              try (simp only [Act.put, List.setIfInBounds_toArray, List.set_cons_zero, List.set_cons_succ])
              refine held_skip 12 rfl (by kernel_rfl) (by kernel_rfl) (by kernel_rfl) (fun _ _ _ h => h) (by rfl) (by assumption) ?_
              change wpAnyH _ _ _ _ _ _ _ (Act.put _ (some 91) _) _
              try (simp only [Act.put, List.setIfInBounds_toArray, List.set_cons_zero, List.set_cons_succ])
              refine held_skip 13 rfl (by kernel_rfl) (by kernel_rfl) (by kernel_rfl) (fun _ _ _ h => h) (by rfl) (by assumption) ?_
              change wpAnyH _ _ _ _ _ _ _ (Act.put _ (some 92) _) _
              try (simp only [Act.put, List.setIfInBounds_toArray, List.set_cons_zero, List.set_cons_succ])
              refine wpAnyH_take (i := 14) (v := ?_) rfl (by kernel_rfl) (by kernel_rfl) (by kernel_rfl) (fun _ _ _ h => h) (Or.inl ⟨by rfl, ?_⟩) (by assumption) ?_
              rotate_left
              · intro w' hSw; clear hSw; go_simp; try (with_reducible rfl)
              change wpAnyH _ _ _ _ _ _ _ (Act.put _ (some 93) _) _
              try (simp only [Act.put, List.setIfInBounds_toArray, List.set_cons_zero, List.set_cons_succ])
              refine wpAnyH_take (i := 15) (v := ?_) rfl (by kernel_rfl) (by kernel_rfl) (by kernel_rfl) (fun _ _ _ h => h) (Or.inl ⟨by rfl, ?_⟩) (by assumption) ?_
              rotate_left
              · intro w' hSw; clear hSw; go_simp; try (with_reducible rfl)
              change wpAnyH _ _ _ _ _ _ _ (Act.put _ (some 94) _) _
              try (simp only [Act.put, List.setIfInBounds_toArray, List.set_cons_zero, List.set_cons_succ])
              refine wpAnyH_ready (rs := [16]) (by kernel_rfl) (by simp) ?_
              refine AllReadyH.cons rfl (fun K hK => ?_) AllReadyH.nil
              go_simp
              refine (awake_any _).mono ?_
              rintro e W5 ⟨rfl, hb9⟩
              have u5 : Up W3 W5 := Up.trans (Up.drew W3) (Up.of hb9)
              refine hK.out _ _ u5 (fun hHeld => ?_)
              clear hK K hHeld
              refine wpAnyH_more (S' := fun w' => Up W5 w') (fun w' h => Up.trans u5 h) _ _ _ _ ?_
              have hHeld := Up.refl W5
              refine wpAnyH_take (i := 17) (v := ?_) rfl (by kernel_rfl) (by kernel_rfl) (by kernel_rfl) (fun _ _ _ h => h) (Or.inl ⟨by rfl, ?_⟩) (by assumption) ?_
              rotate_left
              · intro w' hSw; clear hSw; go_simp; try (with_reducible rfl)
              change wpAnyH _ _ _ _ _ _ _ (Act.put _ (some 96) _) _
              try (simp only [Act.put, List.setIfInBounds_toArray, List.set_cons_zero, List.set_cons_succ])
              refine wpAnyH_take (i := 18) (v := ?_) rfl (by kernel_rfl) (by kernel_rfl) (by kernel_rfl) (fun _ _ _ h => h) (Or.inl ⟨by rfl, ?_⟩) (by assumption) ?_
              rotate_left
              · intro w' hSw; clear hSw; go_simp; try (with_reducible rfl)
              change wpAnyH _ _ _ _ _ _ _ (Act.put _ (some 4) _) _
              try (simp only [Act.put, List.setIfInBounds_toArray, List.set_cons_zero, List.set_cons_succ])
              refine wpAnyH_done (by kernel_rfl) ?_ _
              refine NoPanic.normal ?_
              clear hHeld
              go_wp2
              go_ret
              exact ⟨rfl, (v3.trans u5).b⟩


          · have ci := again_tx_no hE1 hr0 hl k hk hlc
            have hb1 : (txE l k == 0) = false := beq_eq_false_iff_ne.2 hE1
            generalize txE l k = E1 at *
            clear hE1
            go_wp2_with fail
            refine (ci _ u1').mono ?_
            rintro e w' ⟨rfl, rfl⟩
            clear ci
            go_wp2_with fail
            refine wp_region_noPanic ?_
            refine wp_region_held_drew (S := fun w' => Up W1 w') (by kernel_rfl) (Up.drew W1) (fun hHeld => ?_)
            refine wpAnyH_take (i := 0) (v := ?_) rfl (by kernel_rfl) (by kernel_rfl) (by kernel_rfl) (fun _ _ _ h => h) (Or.inl ⟨by rfl, ?_⟩) (by assumption) ?_
            rotate_left
            · intro w' hSw; clear hSw; go_simp; try (with_reducible rfl)
            change wpAnyH _ _ _ _ _ _ _ (Act.put _ (some 57) _) _
            try (simp only [Act.put, List.setIfInBounds_toArray, List.set_cons_zero, List.set_cons_succ])
            refine wpAnyH_take (i := 1) (v := ?_) rfl (by kernel_rfl) (by kernel_rfl) (by kernel_rfl) (fun _ _ _ h => h) (Or.inl ⟨by rfl, ?_⟩) (by assumption) ?_
            rotate_left
            · intro w' hSw; clear hSw; go_simp; try (with_reducible rfl)
            change wpAnyH _ _ _ _ _ _ _ (Act.put _ (some 58) _) _
            try (simp only [Act.put, List.setIfInBounds_toArray, List.set_cons_zero, List.set_cons_succ])
            refine wpAnyH_take (i := 2) (v := ?_) rfl (by kernel_rfl) (by kernel_rfl) (by kernel_rfl) (fun _ _ _ h => h) (Or.inl ⟨by rfl, ?_⟩) (by assumption) ?_
            rotate_left
            · intro w' hSw; clear hSw; go_simp; try (with_reducible rfl)
            change wpAnyH _ _ _ _ _ _ _ (Act.put _ (some 59) _) _
            try (simp only [Act.put, List.setIfInBounds_toArray, List.set_cons_zero, List.set_cons_succ])
            refine held_skip 3 rfl (by kernel_rfl) (by kernel_rfl) (by kernel_rfl) (fun _ _ _ h => h) (by rfl) (by assumption) ?_
            change wpAnyH _ _ _ _ _ _ _ (Act.put _ (some 60) _) _
            try (simp only [Act.put, List.setIfInBounds_toArray, List.set_cons_zero, List.set_cons_succ])
            refine held_skip 4 rfl (by kernel_rfl) (by kernel_rfl) (by kernel_rfl) (fun _ _ _ h => h) (by rfl) (by assumption) ?_
            change wpAnyH _ _ _ _ _ _ _ (Act.put _ (some 61) _) _
            try (simp only [Act.put, List.setIfInBounds_toArray, List.set_cons_zero, List.set_cons_succ])
            refine held_skip 5 rfl (by kernel_rfl) (by kernel_rfl) (by kernel_rfl) (fun _ _ _ h => h) (by rfl) (by assumption) ?_
            change wpAnyH _ _ _ _ _ _ _ (Act.put _ (some 62) _) _
            try (simp only [Act.put, List.setIfInBounds_toArray, List.set_cons_zero, List.set_cons_succ])
            refine held_skip 6 rfl (by kernel_rfl) (by kernel_rfl) (by kernel_rfl) (fun _ _ _ h => h) (by rfl) (by assumption) ?_
            change wpAnyH _ _ _ _ _ _ _ (Act.put _ (some 63) _) _
            try (simp only [Act.put, List.setIfInBounds_toArray, List.set_cons_zero, List.set_cons_succ])
            refine held_skip 7 rfl (by kernel_rfl) (by kernel_rfl) (by kernel_rfl) (fun _ _ _ h => h) (by rfl) (by assumption) ?_
            change wpAnyH _ _ _ _ _ _ _ (Act.put _ (some 64) _) _
            try (simp only [Act.put, List.setIfInBounds_toArray, List.set_cons_zero, List.set_cons_succ])
            refine held_skip 8 rfl (by kernel_rfl) (by kernel_rfl) (by kernel_rfl) (fun _ _ _ h => h) (by rfl) (by assumption) ?_
            change wpAnyH _ _ _ _ _ _ _ (Act.put _ (some 65) _) _
            try (simp only [Act.put, List.setIfInBounds_toArray, List.set_cons_zero, List.set_cons_succ])
            refine held_skip 9 rfl (by kernel_rfl) (by kernel_rfl) (by kernel_rfl) (fun _ _ _ h => h) (by rfl) (by assumption) ?_
            change wpAnyH _ _ _ _ _ _ _ (Act.put _ (some 66) _) _
            try (simp only [Act.put, List.setIfInBounds_toArray, List.set_cons_zero, List.set_cons_succ])
            refine held_skip 10 rfl (by kernel_rfl) (by kernel_rfl) (by kernel_rfl) (fun _ _ _ h => h) (by rfl) (by assumption) ?_
            change wpAnyH _ _ _ _ _ _ _ (Act.put _ (some 67) _) _
            try (simp only [Act.put, List.setIfInBounds_toArray, List.set_cons_zero, List.set_cons_succ])
            refine held_skip 11 rfl (by kernel_rfl) (by kernel_rfl) (by kernel_rfl) (fun _ _ _ h => h) (by rfl) (by assumption) ?_
            change wpAnyH _ _ _ _ _ _ _ (Act.put _ (some 68) _) _
            try (simp only [Act.put, List.setIfInBounds_toArray, List.set_cons_zero, List.set_cons_succ])
            refine held_skip 12 rfl (by kernel_rfl) (by kernel_rfl) (by kernel_rfl) (fun _ _ _ h => h) (by rfl) (by assumption) ?_
            change wpAnyH _ _ _ _ _ _ _ (Act.put _ (some 69) _) _
            try (simp only [Act.put, List.setIfInBounds_toArray, List.set_cons_zero, List.set_cons_succ])
            refine held_skip 13 rfl (by kernel_rfl) (by kernel_rfl) (by kernel_rfl) (fun _ _ _ h => h) (by rfl) (by assumption) ?_
            change wpAnyH _ _ _ _ _ _ _ (Act.put _ (some 70) _) _
            try (simp only [Act.put, List.setIfInBounds_toArray, List.set_cons_zero, List.set_cons_succ])
            refine wpAnyH_take (i := 14) (v := ?_) rfl (by kernel_rfl) (by kernel_rfl) (by kernel_rfl) (fun _ _ _ h => h) (Or.inl ⟨by rfl, ?_⟩) (by assumption) ?_
            rotate_left
            · intro w' hSw; clear hSw; go_simp; try (with_reducible rfl)
            change wpAnyH _ _ _ _ _ _ _ (Act.put _ (some 71) _) _
            try (simp only [Act.put, List.setIfInBounds_toArray, List.set_cons_zero, List.set_cons_succ])
            refine wpAnyH_done (by kernel_rfl) ?_ _
            refine NoPanic.normal ?_
            clear hHeld
            have u2 := Up.drew W1
            generalize World.drew W1 = W2 at *
            have u2' := Up.trans u1' u2
            by_cases hE2 : isE l k = 0
            · obtain ⟨T, ci, kc, hT, cvb⟩ := again_is (c := c) hE2 hr0 hl k hk rfl
              clear hE2
              go_wp2_with fail
              refine (ci _ u2').mono ?_
              rintro e W3 ⟨A3, c3, rfl, hown3, hb3⟩
              have u3 := Up.of hb3
              have hr3 := hown3.rd'
              clear ci hown3 hb3
              have sl1 := slice_to A c l.length hlc (k : Int) k rfl hk
              have sl2 := slice_to A c l.length hlc (T : Int) T rfl hT
              have v3 := Up.trans u2' u3
              have kc := fun w' (h : Up W3 w') => kc w' A3 c3 (v3.trans h) (h.rd hr3)
              have cvb := fun w' (h : Up W3 w') => cvb w' (v3.trans h)
              generalize hTT : l.take T = LT at *
              clear hTT
              generalize isL l k = Lm at *
              go_wp2_with fail
              refine wp_region_noPanic ?_
              refine wp_region_held_drew (S := fun w' => Up W3 w') (by kernel_rfl) (Up.drew W3) (fun hHeld => ?_)
              refine wpAnyH_take (i := 0) (v := ?_) rfl (by kernel_rfl) (by kernel_rfl) (by kernel_rfl) (fun _ _ _ h => h) (Or.inl ⟨by rfl, ?_⟩) (by assumption) ?_
              rotate_left
              · intro w' hSw; clear hSw; go_simp; try (with_reducible rfl)
              change wpAnyH _ _ _ _ _ _ _ (Act.put _ (some 79) _) _
              try (simp only [Act.put, List.setIfInBounds_toArray, List.set_cons_zero, List.set_cons_succ])
              refine wpAnyH_take (i := 1) (v := ?_) rfl (by kernel_rfl) (by kernel_rfl) (by kernel_rfl) (fun _ _ _ h => h) (Or.inl ⟨by rfl, ?_⟩) (by assumption) ?_
              rotate_left
              · intro w' hSw; clear hSw; go_simp; try (with_reducible rfl)
              change wpAnyH _ _ _ _ _ _ _ (Act.put _ (some 80) _) _
              try (simp only [Act.put, List.setIfInBounds_toArray, List.set_cons_zero, List.set_cons_succ])
              refine wpAnyH_take (i := 2) (v := ?_) rfl (by kernel_rfl) (by kernel_rfl) (by kernel_rfl) (fun _ _ _ h => h) (Or.inl ⟨by rfl, ?_⟩) (by assumption) ?_
              rotate_left
              · intro w' hSw; clear hSw; go_simp; try (with_reducible rfl)
              change wpAnyH _ _ _ _ _ _ _ (Act.put _ (some 81) _) _
              try (simp only [Act.put, List.setIfInBounds_toArray, List.set_cons_zero, List.set_cons_succ])
              refine wpAnyH_take (i := 3) (v := ?_) rfl (by kernel_rfl) (by kernel_rfl) (by kernel_rfl) (fun _ _ _ h => h) (Or.inl ⟨by rfl, ?_⟩) (by assumption) ?_
              rotate_left
              · intro w' hSw; clear hSw; go_simp; try (with_reducible rfl)
              change wpAnyH _ _ _ _ _ _ _ (Act.put _ (some 82) _) _
              try (simp only [Act.put, List.setIfInBounds_toArray, List.set_cons_zero, List.set_cons_succ])
              refine wpAnyH_take (i := 4) (v := ?_) rfl (by kernel_rfl) (by kernel_rfl) (by kernel_rfl) (fun _ _ _ h => h) (Or.inl ⟨by rfl, ?_⟩) (by assumption) ?_
              rotate_left
              · intro w' hSw; clear hSw; go_simp; try (with_reducible rfl)
              change wpAnyH _ _ _ _ _ _ _ (Act.put _ (some 83) _) _
              try (simp only [Act.put, List.setIfInBounds_toArray, List.set_cons_zero, List.set_cons_succ])
              refine wpAnyH_take (i := 5) (v := ?_) rfl (by kernel_rfl) (by kernel_rfl) (by kernel_rfl) (fun _ _ _ h => h) (Or.inl ⟨by rfl, ?_⟩) (by assumption) ?_
              rotate_left
              · intro w' hS0; go_simp; try (with_reducible rfl)
              change wpAnyH _ _ _ _ _ _ _ (Act.put _ (some 84) _) _
              try (simp only [Act.put, List.setIfInBounds_toArray, List.set_cons_zero, List.set_cons_succ])
              refine wpAnyH_take (i := 6) (v := ?_) rfl (by kernel_rfl) (by kernel_rfl) (by kernel_rfl) (fun _ _ _ h => h) (Or.inl ⟨by rfl, ?_⟩) (by assumption) ?_
              rotate_left
              · intro w' hSw; clear hSw; go_simp; try (with_reducible rfl)
              change wpAnyH _ _ _ _ _ _ _ (Act.put _ (some 85) _) _
              try (simp only [Act.put, List.setIfInBounds_toArray, List.set_cons_zero, List.set_cons_succ])
              refine wpAnyH_take (i := 9) (v := ?_) rfl (by kernel_rfl) (by kernel_rfl) (by kernel_rfl) (fun _ _ _ h => h) (Or.inl ⟨by rfl, ?_⟩) (by assumption) ?_
              rotate_left
              · intro w' hSw; clear hSw; go_simp; try (with_reducible rfl)
              change wpAnyH _ _ _ _ _ _ _ (Act.put _ (some 88) _) _
              try (simp only [Act.put, List.setIfInBounds_toArray, List.set_cons_zero, List.set_cons_succ])
              refine wpAnyH_take (i := 10) (v := ?_) rfl (by kernel_rfl) (by kernel_rfl) (by kernel_rfl) (fun _ _ _ h => h) (Or.inl ⟨by rfl, ?_⟩) (by assumption) ?_
              rotate_left
              · intro w' hSw; clear hSw; go_simp; try (with_reducible rfl)
              change wpAnyH _ _ _ _ _ _ _ (Act.put _ (some 89) _) _
              try (simp only [Act.put, List.setIfInBounds_toArray, List.set_cons_zero, List.set_cons_succ])
              refine wpAnyH_take (i := 11) (v := ?_) rfl (by kernel_rfl) (by kernel_rfl) (by kernel_rfl) (fun _ _ _ h => h) (Or.inl ⟨by rfl, ?_⟩) (by assumption) ?_
              rotate_left
              · intro w' hS0; go_simp; try (with_reducible rfl)
              change wpAnyH _ _ _ _ _ _ _ (Act.put _ (some 90) _) _
              try (simp only [Act.put, List.setIfInBounds_toArray, List.set_cons_zero, List.set_cons_succ])
              refine wpAnyH_take (i := 12) (v := ?_) rfl (by kernel_rfl) (by kernel_rfl) (by kernel_rfl) (fun _ _ _ h => h) (Or.inl ⟨by rfl, ?_⟩) (by assumption) ?_
              rotate_left
              · intro w' hS0; go_simp; try (with_reducible rfl)
              change wpAnyH _ _ _ _ _ _ _ (Act.put _ (some 91) _) _
              try (simp only [Act.put, List.setIfInBounds_toArray, List.set_cons_zero, List.set_cons_succ])
              refine wpAnyH_ready (rs := [7]) (by kernel_rfl) (by simp) ?_
              refine AllReadyH.cons rfl (fun K hK => ?_) AllReadyH.nil
              go_simp
              refine (kc _ (Up.drew W3)).mono ?_
              rintro e W4 ⟨Ax, cx, rfl, x1, cv1⟩
              have u4 : Up W3 W4 := Up.trans (Up.drew W3) x1
              refine hK.out _ _ u4 (fun hHeld => ?_)
              clear hK K hHeld
              refine wpAnyH_more (S' := fun w' => Up W4 w') (fun w' h => Up.trans u4 h) _ _ _ _ ?_
              have hHeld := Up.refl W4
              refine wpAnyH_take (i := 8) (v := ?_) rfl (by kernel_rfl) (by kernel_rfl) (by kernel_rfl) (fun _ _ _ h => h) (Or.inl ⟨by rfl, ?_⟩) (by assumption) ?_
              rotate_left
              · intro w' hS1; have hS0 := Up.trans u4 hS1; go_simp; try (with_reducible rfl)
              change wpAnyH _ _ _ _ _ _ _ (Act.put _ (some 87) _) _
              try (simp only [Act.put, List.setIfInBounds_toArray, List.set_cons_zero, List.set_cons_succ])
              refine wpAnyH_take (i := 13) (v := ?_) rfl (by kernel_rfl) (by kernel_rfl) (by kernel_rfl) (fun _ _ _ h => h) (Or.inl ⟨by rfl, ?_⟩) (by assumption) ?_
              rotate_left
              · intro w' hSw; clear hSw; go_simp; try (with_reducible rfl)
              change wpAnyH _ _ _ _ _ _ _ (Act.put _ (some 92) _) _
              try (simp only [Act.put, List.setIfInBounds_toArray, List.set_cons_zero, List.set_cons_succ])
              refine wpAnyH_take (i := 14) (v := ?_) rfl (by kernel_rfl) (by kernel_rfl) (by kernel_rfl) (fun _ _ _ h => h) (Or.inl ⟨by rfl, ?_⟩) (by assumption) ?_
              rotate_left
              · intro w' hSw; clear hSw; go_simp; try (with_reducible rfl)
              change wpAnyH _ _ _ _ _ _ _ (Act.put _ (some 93) _) _
              try (simp only [Act.put, List.setIfInBounds_toArray, List.set_cons_zero, List.set_cons_succ])
              refine wpAnyH_take (i := 15) (v := ?_) rfl (by kernel_rfl) (by kernel_rfl) (by kernel_rfl) (fun _ _ _ h => h) (Or.inl ⟨by rfl, ?_⟩) (by assumption) ?_
              rotate_left
              · intro w' hSw; clear hSw; go_simp; try (with_reducible rfl)
              change wpAnyH _ _ _ _ _ _ _ (Act.put _ (some 94) _) _
              try (simp only [Act.put, List.setIfInBounds_toArray, List.set_cons_zero, List.set_cons_succ])
              refine wpAnyH_ready (rs := [16]) (by kernel_rfl) (by simp) ?_
              refine AllReadyH.cons rfl (fun K hK => ?_) AllReadyH.nil
              go_simp
              refine (awake_any _).mono ?_
              rintro e W5 ⟨rfl, hb9⟩
              have u5 : Up W4 W5 := Up.of hb9
              refine hK.out _ _ u5 (fun hHeld => ?_)
              clear hK K hHeld
              refine wpAnyH_more (S' := fun w' => Up W5 w') (fun w' h => Up.trans u5 h) _ _ _ _ ?_
              have hHeld := Up.refl W5
              refine wpAnyH_take (i := 17) (v := ?_) rfl (by kernel_rfl) (by kernel_rfl) (by kernel_rfl) (fun _ _ _ h => h) (Or.inl ⟨by rfl, ?_⟩) (by assumption) ?_
              rotate_left
              · intro w' hSw; clear hSw; go_simp; try (with_reducible rfl)
              change wpAnyH _ _ _ _ _ _ _ (Act.put _ (some 96) _) _
              try (simp only [Act.put, List.setIfInBounds_toArray, List.set_cons_zero, List.set_cons_succ])
              refine wpAnyH_take (i := 18) (v := ?_) rfl (by kernel_rfl) (by kernel_rfl) (by kernel_rfl) (fun _ _ _ h => h) (Or.inl ⟨by rfl, ?_⟩) (by assumption) ?_
              rotate_left
              · intro w' hSw; clear hSw; go_simp; try (with_reducible rfl)
              change wpAnyH _ _ _ _ _ _ _ (Act.put _ (some 4) _) _
              try (simp only [Act.put, List.setIfInBounds_toArray, List.set_cons_zero, List.set_cons_succ])
              refine wpAnyH_done (by kernel_rfl) ?_ _
              refine NoPanic.normal ?_
              clear hHeld
              go_wp2
              go_ret
              exact ⟨rfl, (v3.trans (u4.trans u5)).b⟩

            · have ci := again_is_no (c := c) hE2 hr0 hl k hk
              have hb2 : (isE l k != 0) = true := by simp; exact hE2
              generalize isE l k = E2 at *
              clear hE2
              go_wp2_with fail
              refine (ci _ u2').mono ?_
              rintro e W3 ⟨⟨B3, l3, c3, t3, rfl⟩, hb3⟩
              have v3 := Up.trans u2' (Up.of hb3)
              clear ci hb3
              go_wp2_with fail
              refine wp_region_noPanic ?_
              refine wp_region_held_drew (S := fun w' => Up W3 w') (by kernel_rfl) (Up.drew W3) (fun hHeld => ?_)
              refine wpAnyH_take (i := 0) (v := ?_) rfl (by kernel_rfl) (by kernel_rfl) (by kernel_rfl) (fun _ _ _ h => h) (Or.inl ⟨by rfl, ?_⟩) (by assumption) ?_
              rotate_left
              · intro w' hSw; clear hSw; go_simp; try (with_reducible rfl)
              change wpAnyH _ _ _ _ _ _ _ (Act.put _ (some 79) _) _
              try (simp only [Act.put, List.setIfInBounds_toArray, List.set_cons_zero, List.set_cons_succ])
              refine wpAnyH_take (i := 1) (v := ?_) rfl (by kernel_rfl) (by kernel_rfl) (by kernel_rfl) (fun _ _ _ h => h) (Or.inl ⟨by rfl, ?_⟩) (by assumption) ?_
              rotate_left
              · intro w' hSw; clear hSw; go_simp; try (with_reducible rfl)
              change wpAnyH _ _ _ _ _ _ _ (Act.put _ (some 80) _) _
              try (simp only [Act.put, List.setIfInBounds_toArray, List.set_cons_zero, List.set_cons_succ])
              refine wpAnyH_take (i := 2) (v := ?_) rfl (by kernel_rfl) (by kernel_rfl) (by kernel_rfl) (fun _ _ _ h => h) (Or.inl ⟨by rfl, ?_⟩) (by assumption) ?_
              rotate_left
              · intro w' hSw; clear hSw; go_simp; try (with_reducible rfl)
              change wpAnyH _ _ _ _ _ _ _ (Act.put _ (some 81) _) _
              try (simp only [Act.put, List.setIfInBounds_toArray, List.set_cons_zero, List.set_cons_succ])
              refine held_skip 3 rfl (by kernel_rfl) (by kernel_rfl) (by kernel_rfl) (fun _ _ _ h => h) (by rfl) (by assumption) ?_
              change wpAnyH _ _ _ _ _ _ _ (Act.put _ (some 82) _) _
              try (simp only [Act.put, List.setIfInBounds_toArray, List.set_cons_zero, List.set_cons_succ])
              refine held_skip 4 rfl (by kernel_rfl) (by kernel_rfl) (by kernel_rfl) (fun _ _ _ h => h) (by rfl) (by assumption) ?_
              change wpAnyH _ _ _ _ _ _ _ (Act.put _ (some 83) _) _
              try (simp only [Act.put, List.setIfInBounds_toArray, List.set_cons_zero, List.set_cons_succ])
              refine held_skip 5 rfl (by kernel_rfl) (by kernel_rfl) (by kernel_rfl) (fun _ _ _ h => h) (by rfl) (by assumption) ?_
              change wpAnyH _ _ _ _ _ _ _ (Act.put _ (some 84) _) _
              try (simp only [Act.put, List.setIfInBounds_toArray, List.set_cons_zero, List.set_cons_succ])
              refine held_skip 6 rfl (by kernel_rfl) (by kernel_rfl) (by kernel_rfl) (fun _ _ _ h => h) (by rfl) (by assumption) ?_
              change wpAnyH _ _ _ _ _ _ _ (Act.put _ (some 85) _) _
              try (simp only [Act.put, List.setIfInBounds_toArray, List.set_cons_zero, List.set_cons_succ])
              refine held_skip 7 rfl (by kernel_rfl) (by kernel_rfl) (by kernel_rfl) (fun _ _ _ h => h) (by rfl) (by assumption) ?_
              change wpAnyH _ _ _ _ _ _ _ (Act.put _ (some 86) _) _
              try (simp only [Act.put, List.setIfInBounds_toArray, List.set_cons_zero, List.set_cons_succ])
              refine held_skip 8 rfl (by kernel_rfl) (by kernel_rfl) (by kernel_rfl) (fun _ _ _ h => h) (by rfl) (by assumption) ?_
              change wpAnyH _ _ _ _ _ _ _ (Act.put _ (some 87) _) _
              try (simp only [Act.put, List.setIfInBounds_toArray, List.set_cons_zero, List.set_cons_succ])
              refine held_skip 9 rfl (by kernel_rfl) (by kernel_rfl) (by kernel_rfl) (fun _ _ _ h => h) (by rfl) (by assumption) ?_
              change wpAnyH _ _ _ _ _ _ _ (Act.put _ (some 88) _) _
              try (simp only [Act.put, List.setIfInBounds_toArray, List.set_cons_zero, List.set_cons_succ])
              refine held_skip 10 rfl (by kernel_rfl) (by kernel_rfl) (by kernel_rfl) (fun _ _ _ h => h) (by rfl) (by assumption) ?_
              change wpAnyH _ _ _ _ _ _ _ (Act.put _ (some 89) _) _
              try (simp only [Act.put, List.setIfInBounds_toArray, List.set_cons_zero, List.set_cons_succ])
              refine held_skip 11 rfl (by kernel_rfl) (by kernel_rfl) (by kernel_rfl) (fun _ _ _ h => h) (by rfl) (by assumption) ?_
              change wpAnyH _ _ _ _ _ _ _ (Act.put _ (some 90) _) _
              try (simp only [Act.put, List.setIfInBounds_toArray, List.set_cons_zero, List.set_cons_succ])
              refine held_skip 12 rfl (by kernel_rfl) (by kernel_rfl) (by kernel_rfl) (fun _ _ _ h => h) (by rfl) (by assumption) ?_
              change wpAnyH _ _ _ _ _ _ _ (Act.put _ (some 91) _) _
              try (simp only [Act.put, List.setIfInBounds_toArray, List.set_cons_zero, List.set_cons_succ])
              refine held_skip 13 rfl (by kernel_rfl) (by kernel_rfl) (by kernel_rfl) (fun _ _ _ h => h) (by rfl) (by assumption) ?_
              change wpAnyH _ _ _ _ _ _ _ (Act.put _ (some 92) _) _
              try (simp only [Act.put, List.setIfInBounds_toArray, List.set_cons_zero, List.set_cons_succ])
              refine wpAnyH_take (i := 14) (v := ?_) rfl (by kernel_rfl) (by kernel_rfl) (by kernel_rfl) (fun _ _ _ h => h) (Or.inl ⟨by rfl, ?_⟩) (by assumption) ?_
              rotate_left
              · intro w' hSw; clear hSw; go_simp; try (with_reducible rfl)
              change wpAnyH _ _ _ _ _ _ _ (Act.put _ (some 93) _) _
              try (simp only [Act.put, List.setIfInBounds_toArray, List.set_cons_zero, List.set_cons_succ])
              refine wpAnyH_take (i := 15) (v := ?_) rfl (by kernel_rfl) (by kernel_rfl) (by kernel_rfl) (fun _ _ _ h => h) (Or.inl ⟨by rfl, ?_⟩) (by assumption) ?_
              rotate_left
              · intro w' hSw; clear hSw; go_simp; try (with_reducible rfl)
              change wpAnyH _ _ _ _ _ _ _ (Act.put _ (some 94) _) _
              try (simp only [Act.put, List.setIfInBounds_toArray, List.set_cons_zero, List.set_cons_succ])
              refine wpAnyH_ready (rs := [16]) (by kernel_rfl) (by simp) ?_
              refine AllReadyH.cons rfl (fun K hK => ?_) AllReadyH.nil
              go_simp
              refine (awake_any _).mono ?_
              rintro e W5 ⟨rfl, hb9⟩
              have u5 : Up W3 W5 := Up.trans (Up.drew W3) (Up.of hb9)
              refine hK.out _ _ u5 (fun hHeld => ?_)
              clear hK K hHeld
              refine wpAnyH_more (S' := fun w' => Up W5 w') (fun w' h => Up.trans u5 h) _ _ _ _ ?_
              have hHeld := Up.refl W5
              refine wpAnyH_take (i := 17) (v := ?_) rfl (by kernel_rfl) (by kernel_rfl) (by kernel_rfl) (fun _ _ _ h => h) (Or.inl ⟨by rfl, ?_⟩) (by assumption) ?_
              rotate_left
              · intro w' hSw; clear hSw; go_simp; try (with_reducible rfl)
              change wpAnyH _ _ _ _ _ _ _ (Act.put _ (some 96) _) _
              try (simp only [Act.put, List.setIfInBounds_toArray, List.set_cons_zero, List.set_cons_succ])
              refine wpAnyH_take (i := 18) (v := ?_) rfl (by kernel_rfl) (by kernel_rfl) (by kernel_rfl) (fun _ _ _ h => h) (Or.inl ⟨by rfl, ?_⟩) (by assumption) ?_
              rotate_left
              · intro w' hSw; clear hSw; go_simp; try (with_reducible rfl)
              change wpAnyH _ _ _ _ _ _ _ (Act.put _ (some 4) _) _
              try (simp only [Act.put, List.setIfInBounds_toArray, List.set_cons_zero, List.set_cons_succ])
              refine wpAnyH_done (by kernel_rfl) ?_ _
              refine NoPanic.normal ?_
              clear hHeld
              go_wp2
              go_ret
              exact ⟨rfl, (v3.trans u5).b⟩



        · have ci := again_int_no (c := c) hE0 hr0 hl k hk
          have hb0 : (rdE l k == 0) = false := beq_eq_false_iff_ne.2 hE0
          generalize rdE l k = E0 at *
          clear hE0
          go_wp2_with fail
          refine (ci _ u0).mono ?_
          rintro e w' ⟨rfl, rfl⟩
          clear ci
          go_wp2_with fail
          refine wp_region_noPanic ?_
          refine wp_region_held_drew (S := fun w' => Up w w') (by kernel_rfl) (Up.drew w) (fun hHeld => ?_)
          refine wpAnyH_take (i := 0) (v := ?_) rfl (by kernel_rfl) (by kernel_rfl) (by kernel_rfl) (fun _ _ _ h => h) (Or.inl ⟨by rfl, ?_⟩) (by assumption) ?_
          rotate_left
          · intro w' hSw; clear hSw; go_simp; try (with_reducible rfl)
          change wpAnyH _ _ _ _ _ _ _ (Act.put _ (some 35) _) _
          try (simp only [Act.put, List.setIfInBounds_toArray, List.set_cons_zero, List.set_cons_succ])
          refine wpAnyH_take (i := 1) (v := ?_) rfl (by kernel_rfl) (by kernel_rfl) (by kernel_rfl) (fun _ _ _ h => h) (Or.inl ⟨by rfl, ?_⟩) (by assumption) ?_
          rotate_left
          · intro w' hSw; clear hSw; go_simp; try (with_reducible rfl)
          change wpAnyH _ _ _ _ _ _ _ (Act.put _ (some 36) _) _
          try (simp only [Act.put, List.setIfInBounds_toArray, List.set_cons_zero, List.set_cons_succ])
          refine wpAnyH_take (i := 2) (v := ?_) rfl (by kernel_rfl) (by kernel_rfl) (by kernel_rfl) (fun _ _ _ h => h) (Or.inl ⟨by rfl, ?_⟩) (by assumption) ?_
          rotate_left
          · intro w' hSw; clear hSw; go_simp; try (with_reducible rfl)
          change wpAnyH _ _ _ _ _ _ _ (Act.put _ (some 37) _) _
          try (simp only [Act.put, List.setIfInBounds_toArray, List.set_cons_zero, List.set_cons_succ])
          refine held_skip 3 rfl (by kernel_rfl) (by kernel_rfl) (by kernel_rfl) (fun _ _ _ h => h) (by rfl) (by assumption) ?_
          change wpAnyH _ _ _ _ _ _ _ (Act.put _ (some 38) _) _
          try (simp only [Act.put, List.setIfInBounds_toArray, List.set_cons_zero, List.set_cons_succ])
          refine held_skip 4 rfl (by kernel_rfl) (by kernel_rfl) (by kernel_rfl) (fun _ _ _ h => h) (by rfl) (by assumption) ?_
          change wpAnyH _ _ _ _ _ _ _ (Act.put _ (some 39) _) _
          try (simp only [Act.put, List.setIfInBounds_toArray, List.set_cons_zero, List.set_cons_succ])
          refine held_skip 5 rfl (by kernel_rfl) (by kernel_rfl) (by kernel_rfl) (fun _ _ _ h => h) (by rfl) (by assumption) ?_
          change wpAnyH _ _ _ _ _ _ _ (Act.put _ (some 40) _) _
          try (simp only [Act.put, List.setIfInBounds_toArray, List.set_cons_zero, List.set_cons_succ])
          refine held_skip 6 rfl (by kernel_rfl) (by kernel_rfl) (by kernel_rfl) (fun _ _ _ h => h) (by rfl) (by assumption) ?_
          change wpAnyH _ _ _ _ _ _ _ (Act.put _ (some 41) _) _
          try (simp only [Act.put, List.setIfInBounds_toArray, List.set_cons_zero, List.set_cons_succ])
          refine held_skip 7 rfl (by kernel_rfl) (by kernel_rfl) (by kernel_rfl) (fun _ _ _ h => h) (by rfl) (by assumption) ?_
          change wpAnyH _ _ _ _ _ _ _ (Act.put _ (some 42) _) _
          try (simp only [Act.put, List.setIfInBounds_toArray, List.set_cons_zero, List.set_cons_succ])
          refine held_skip 8 rfl (by kernel_rfl) (by kernel_rfl) (by kernel_rfl) (fun _ _ _ h => h) (by rfl) (by assumption) ?_
          change wpAnyH _ _ _ _ _ _ _ (Act.put _ (some 43) _) _
          try (simp only [Act.put, List.setIfInBounds_toArray, List.set_cons_zero, List.set_cons_succ])
          refine held_skip 9 rfl (by kernel_rfl) (by kernel_rfl) (by kernel_rfl) (fun _ _ _ h => h) (by rfl) (by assumption) ?_
          change wpAnyH _ _ _ _ _ _ _ (Act.put _ (some 44) _) _
          try (simp only [Act.put, List.setIfInBounds_toArray, List.set_cons_zero, List.set_cons_succ])
          refine held_skip 10 rfl (by kernel_rfl) (by kernel_rfl) (by kernel_rfl) (fun _ _ _ h => h) (by rfl) (by assumption) ?_
          change wpAnyH _ _ _ _ _ _ _ (Act.put _ (some 45) _) _
          try (simp only [Act.put, List.setIfInBounds_toArray, List.set_cons_zero, List.set_cons_succ])
          refine held_skip 11 rfl (by kernel_rfl) (by kernel_rfl) (by kernel_rfl) (fun _ _ _ h => h) (by rfl) (by assumption) ?_
          change wpAnyH _ _ _ _ _ _ _ (Act.put _ (some 46) _) _
          try (simp only [Act.put, List.setIfInBounds_toArray, List.set_cons_zero, List.set_cons_succ])
          refine held_skip 12 rfl (by kernel_rfl) (by kernel_rfl) (by kernel_rfl) (fun _ _ _ h => h) (by rfl) (by assumption) ?_
          change wpAnyH _ _ _ _ _ _ _ (Act.put _ (some 47) _) _
          try (simp only [Act.put, List.setIfInBounds_toArray, List.set_cons_zero, List.set_cons_succ])
          refine held_skip 13 rfl (by kernel_rfl) (by kernel_rfl) (by kernel_rfl) (fun _ _ _ h => h) (by rfl) (by assumption) ?_
          change wpAnyH _ _ _ _ _ _ _ (Act.put _ (some 48) _) _
          try (simp only [Act.put, List.setIfInBounds_toArray, List.set_cons_zero, List.set_cons_succ])
          refine wpAnyH_take (i := 14) (v := ?_) rfl (by kernel_rfl) (by kernel_rfl) (by kernel_rfl) (fun _ _ _ h => h) (Or.inl ⟨by rfl, ?_⟩) (by assumption) ?_
          rotate_left
          · intro w' hSw; clear hSw; go_simp; try (with_reducible rfl)
          change wpAnyH _ _ _ _ _ _ _ (Act.put _ (some 49) _) _
          try (simp only [Act.put, List.setIfInBounds_toArray, List.set_cons_zero, List.set_cons_succ])
          refine wpAnyH_done (by kernel_rfl) ?_ _
          refine NoPanic.normal ?_
          clear hHeld
          have u1 := Up.drew w
          generalize World.drew w = W1 at *
          have u1' := Up.trans u0 u1
          by_cases hE1 : txE l k = 0
          · obtain ⟨T, N, hT, ci, kc, cvb⟩ := again_tx hE1 hr0 hl k hk rfl hlc
            clear hE1
            go_wp2_with fail
            refine (ci _ u1').mono ?_
            rintro e w' ⟨rfl, rfl⟩
            clear ci
            have sl1 := slice_to A c l.length hlc (k : Int) k rfl hk
            have sl2 := slice_to A c l.length hlc (T : Int) T rfl hT
            have kc := fun w' (h : Up W1 w') => kc w' (u1'.trans h)
            have cvb := fun w' (h : Up W1 w') => cvb w' (u1'.trans h)
            generalize hTT : l.take T = LT at *
            clear hTT
            go_wp2_with fail
            refine wp_region_noPanic ?_
            refine wp_region_held_drew (S := fun w' => Up W1 w') (by kernel_rfl) (Up.drew W1) (fun hHeld => ?_)
            refine wpAnyH_take (i := 0) (v := ?_) rfl (by kernel_rfl) (by kernel_rfl) (by kernel_rfl) (fun _ _ _ h => h) (Or.inl ⟨by rfl, ?_⟩) (by assumption) ?_
            rotate_left
            · intro w' hSw; clear hSw; go_simp; try (with_reducible rfl)
            change wpAnyH _ _ _ _ _ _ _ (Act.put _ (some 57) _) _
            try (simp only [Act.put, List.setIfInBounds_toArray, List.set_cons_zero, List.set_cons_succ])
            refine wpAnyH_take (i := 1) (v := ?_) rfl (by kernel_rfl) (by kernel_rfl) (by kernel_rfl) (fun _ _ _ h => h) (Or.inl ⟨by rfl, ?_⟩) (by assumption) ?_
            rotate_left
            · intro w' hSw; clear hSw; go_simp; try (with_reducible rfl)
            change wpAnyH _ _ _ _ _ _ _ (Act.put _ (some 58) _) _
            try (simp only [Act.put, List.setIfInBounds_toArray, List.set_cons_zero, List.set_cons_succ])
            refine wpAnyH_take (i := 2) (v := ?_) rfl (by kernel_rfl) (by kernel_rfl) (by kernel_rfl) (fun _ _ _ h => h) (Or.inl ⟨by rfl, ?_⟩) (by assumption) ?_
            rotate_left
            · intro w' hSw; clear hSw; go_simp; try (with_reducible rfl)
            change wpAnyH _ _ _ _ _ _ _ (Act.put _ (some 59) _) _
            try (simp only [Act.put, List.setIfInBounds_toArray, List.set_cons_zero, List.set_cons_succ])
            refine wpAnyH_take (i := 3) (v := ?_) rfl (by kernel_rfl) (by kernel_rfl) (by kernel_rfl) (fun _ _ _ h => h) (Or.inl ⟨by rfl, ?_⟩) (by assumption) ?_
            rotate_left
            · intro w' hSw; clear hSw; go_simp; try (with_reducible rfl)
            change wpAnyH _ _ _ _ _ _ _ (Act.put _ (some 60) _) _
            try (simp only [Act.put, List.setIfInBounds_toArray, List.set_cons_zero, List.set_cons_succ])
            refine wpAnyH_take (i := 4) (v := ?_) rfl (by kernel_rfl) (by kernel_rfl) (by kernel_rfl) (fun _ _ _ h => h) (Or.inl ⟨by rfl, ?_⟩) (by assumption) ?_
            rotate_left
            · intro w' hSw; clear hSw; go_simp; try (with_reducible rfl)
            change wpAnyH _ _ _ _ _ _ _ (Act.put _ (some 61) _) _
            try (simp only [Act.put, List.setIfInBounds_toArray, List.set_cons_zero, List.set_cons_succ])
            refine wpAnyH_take (i := 5) (v := ?_) rfl (by kernel_rfl) (by kernel_rfl) (by kernel_rfl) (fun _ _ _ h => h) (Or.inl ⟨by rfl, ?_⟩) (by assumption) ?_
            rotate_left
            · intro w' hS0; go_simp; try (with_reducible rfl)
            change wpAnyH _ _ _ _ _ _ _ (Act.put _ (some 62) _) _
            try (simp only [Act.put, List.setIfInBounds_toArray, List.set_cons_zero, List.set_cons_succ])
            refine wpAnyH_take (i := 6) (v := ?_) rfl (by kernel_rfl) (by kernel_rfl) (by kernel_rfl) (fun _ _ _ h => h) (Or.inl ⟨by rfl, ?_⟩) (by assumption) ?_
            rotate_left
            · intro w' hSw; clear hSw; go_simp; try (with_reducible rfl)
            change wpAnyH _ _ _ _ _ _ _ (Act.put _ (some 63) _) _
            try (simp only [Act.put, List.setIfInBounds_toArray, List.set_cons_zero, List.set_cons_succ])
            refine wpAnyH_take (i := 9) (v := ?_) rfl (by kernel_rfl) (by kernel_rfl) (by kernel_rfl) (fun _ _ _ h => h) (Or.inl ⟨by rfl, ?_⟩) (by assumption) ?_
            rotate_left
            · intro w' hSw; clear hSw; go_simp; try (with_reducible rfl)
            change wpAnyH _ _ _ _ _ _ _ (Act.put _ (some 66) _) _
            try (simp only [Act.put, List.setIfInBounds_toArray, List.set_cons_zero, List.set_cons_succ])
            refine wpAnyH_take (i := 10) (v := ?_) rfl (by kernel_rfl) (by kernel_rfl) (by kernel_rfl) (fun _ _ _ h => h) (Or.inl ⟨by rfl, ?_⟩) (by assumption) ?_
            rotate_left
            · intro w' hSw; clear hSw; go_simp; try (with_reducible rfl)
            change wpAnyH _ _ _ _ _ _ _ (Act.put _ (some 67) _) _
            try (simp only [Act.put, List.setIfInBounds_toArray, List.set_cons_zero, List.set_cons_succ])
            refine wpAnyH_take (i := 11) (v := ?_) rfl (by kernel_rfl) (by kernel_rfl) (by kernel_rfl) (fun _ _ _ h => h) (Or.inl ⟨by rfl, ?_⟩) (by assumption) ?_
            rotate_left
            · intro w' hS0; go_simp; try (with_reducible rfl)
            change wpAnyH _ _ _ _ _ _ _ (Act.put _ (some 68) _) _
            try (simp only [Act.put, List.setIfInBounds_toArray, List.set_cons_zero, List.set_cons_succ])
            refine wpAnyH_take (i := 12) (v := ?_) rfl (by kernel_rfl) (by kernel_rfl) (by kernel_rfl) (fun _ _ _ h => h) (Or.inl ⟨by rfl, ?_⟩) (by assumption) ?_
            rotate_left
            · intro w' hS0; go_simp; try (with_reducible rfl)
            change wpAnyH _ _ _ _ _ _ _ (Act.put _ (some 69) _) _
            try (simp only [Act.put, List.setIfInBounds_toArray, List.set_cons_zero, List.set_cons_succ])
            refine wpAnyH_ready (rs := [7]) (by kernel_rfl) (by simp) ?_
            refine AllReadyH.cons rfl (fun K hK => ?_) AllReadyH.nil
            go_simp
            refine (kc _ (Up.drew W1)).mono ?_
            rintro e W2 ⟨Ax, cx, rfl, x1, cv1⟩
            have u2 : Up W1 W2 := Up.trans (Up.drew W1) x1
            refine hK.out _ _ u2 (fun hHeld => ?_)
            clear hK K hHeld
            refine wpAnyH_more (S' := fun w' => Up W2 w') (fun w' h => Up.trans u2 h) _ _ _ _ ?_
            have hHeld := Up.refl W2
            refine wpAnyH_take (i := 8) (v := ?_) rfl (by kernel_rfl) (by kernel_rfl) (by kernel_rfl) (fun _ _ _ h => h) (Or.inl ⟨by rfl, ?_⟩) (by assumption) ?_
            rotate_left
            · intro w' hS1; have hS0 := Up.trans u2 hS1; go_simp; try (with_reducible rfl)
            change wpAnyH _ _ _ _ _ _ _ (Act.put _ (some 65) _) _
            try (simp only [Act.put, List.setIfInBounds_toArray, List.set_cons_zero, List.set_cons_succ])
            refine wpAnyH_take (i := 13) (v := ?_) rfl (by kernel_rfl) (by kernel_rfl) (by kernel_rfl) (fun _ _ _ h => h) (Or.inl ⟨by rfl, ?_⟩) (by assumption) ?_
            rotate_left
            · intro w' hSw; clear hSw; go_simp; try (with_reducible rfl)
            change wpAnyH _ _ _ _ _ _ _ (Act.put _ (some 70) _) _
            try (simp only [Act.put, List.setIfInBounds_toArray, List.set_cons_zero, List.set_cons_succ])
            refine wpAnyH_take (i := 14) (v := ?_) rfl (by kernel_rfl) (by kernel_rfl) (by kernel_rfl) (fun _ _ _ h => h) (Or.inl ⟨by rfl, ?_⟩) (by assumption) ?_
            rotate_left
            · intro w' hSw; clear hSw; go_simp; try (with_reducible rfl)
            change wpAnyH _ _ _ _ _ _ _ (Act.put _ (some 71) _) _
            try (simp only [Act.put, List.setIfInBounds_toArray, List.set_cons_zero, List.set_cons_succ])
            refine wpAnyH_done (by kernel_rfl) ?_ _
            refine NoPanic.normal ?_
            clear hHeld
            have u2' := Up.trans u1' u2
            by_cases hE2 : isE l k = 0
            · obtain ⟨T, ci, kc, hT, cvb⟩ := again_is (c := c) hE2 hr0 hl k hk rfl
              clear hE2
              go_wp2_with fail
              refine (ci _ u2').mono ?_
              rintro e W3 ⟨A3, c3, rfl, hown3, hb3⟩
              have u3 := Up.of hb3
              have hr3 := hown3.rd'
              clear ci hown3 hb3
              have sl1 := slice_to A c l.length hlc (k : Int) k rfl hk
              have sl2 := slice_to A c l.length hlc (T : Int) T rfl hT
              have v3 := Up.trans u2' u3
              have kc := fun w' (h : Up W3 w') => kc w' A3 c3 (v3.trans h) (h.rd hr3)
              have cvb := fun w' (h : Up W3 w') => cvb w' (v3.trans h)
              generalize hTT : l.take T = LT at *
              clear hTT
              generalize isL l k = Lm at *
              go_wp2_with fail
              refine wp_region_noPanic ?_
              refine wp_region_held_drew (S := fun w' => Up W3 w') (by kernel_rfl) (Up.drew W3) (fun hHeld => ?_)
              refine wpAnyH_take (i := 0) (v := ?_) rfl (by kernel_rfl) (by kernel_rfl) (by kernel_rfl) (fun _ _ _ h => h) (Or.inl ⟨by rfl, ?_⟩) (by assumption) ?_
              rotate_left
              · intro w' hSw; clear hSw; go_simp; try (with_reducible rfl)
              change wpAnyH _ _ _ _ _ _ _ (Act.put _ (some 79) _) _
              try (simp only [Act.put, List.setIfInBounds_toArray, List.set_cons_zero, List.set_cons_succ])
              refine wpAnyH_take (i := 1) (v := ?_) rfl (by kernel_rfl) (by kernel_rfl) (by kernel_rfl) (fun _ _ _ h => h) (Or.inl ⟨by rfl, ?_⟩) (by assumption) ?_
              rotate_left
              · intro w' hSw; clear hSw; go_simp; try (with_reducible rfl)
              change wpAnyH _ _ _ _ _ _ _ (Act.put _ (some 80) _) _
              try (simp only [Act.put, List.setIfInBounds_toArray, List.set_cons_zero, List.set_cons_succ])
              refine wpAnyH_take (i := 2) (v := ?_) rfl (by kernel_rfl) (by kernel_rfl) (by kernel_rfl) (fun _ _ _ h => h) (Or.inl ⟨by rfl, ?_⟩) (by assumption) ?_
              rotate_left
              · intro w' hSw; clear hSw; go_simp; try (with_reducible rfl)
              change wpAnyH _ _ _ _ _ _ _ (Act.put _ (some 81) _) _
              try (simp only [Act.put, List.setIfInBounds_toArray, List.set_cons_zero, List.set_cons_succ])
              refine wpAnyH_take (i := 3) (v := ?_) rfl (by kernel_rfl) (by kernel_rfl) (by kernel_rfl) (fun _ _ _ h => h) (Or.inl ⟨by rfl, ?_⟩) (by assumption) ?_
              rotate_left
              · intro w' hSw; clear hSw; go_simp; try (with_reducible rfl)
              change wpAnyH _ _ _ _ _ _ _ (Act.put _ (some 82) _) _
              try (simp only [Act.put, List.setIfInBounds_toArray, List.set_cons_zero, List.set_cons_succ])
              refine wpAnyH_take (i := 4) (v := ?_) rfl (by kernel_rfl) (by kernel_rfl) (by kernel_rfl) (fun _ _ _ h => h) (Or.inl ⟨by rfl, ?_⟩) (by assumption) ?_
              rotate_left
              · intro w' hSw; clear hSw; go_simp; try (with_reducible rfl)
              change wpAnyH _ _ _ _ _ _ _ (Act.put _ (some 83) _) _
              try (simp only [Act.put, List.setIfInBounds_toArray, List.set_cons_zero, List.set_cons_succ])
              refine wpAnyH_take (i := 5) (v := ?_) rfl (by kernel_rfl) (by kernel_rfl) (by kernel_rfl) (fun _ _ _ h => h) (Or.inl ⟨by rfl, ?_⟩) (by assumption) ?_
              rotate_left
              · intro w' hS0; go_simp; try (with_reducible rfl)
              change wpAnyH _ _ _ _ _ _ _ (Act.put _ (some 84) _) _
              try (simp only [Act.put, List.setIfInBounds_toArray, List.set_cons_zero, List.set_cons_succ])
              refine wpAnyH_take (i := 6) (v := ?_) rfl (by kernel_rfl) (by kernel_rfl) (by kernel_rfl) (fun _ _ _ h => h) (Or.inl ⟨by rfl, ?_⟩) (by assumption) ?_
              rotate_left
              · intro w' hSw; clear hSw; go_simp; try (with_reducible rfl)
              change wpAnyH _ _ _ _ _ _ _ (Act.put _ (some 85) _) _
              try (simp only [Act.put, List.setIfInBounds_toArray, List.set_cons_zero, List.set_cons_succ])
              refine wpAnyH_take (i := 9) (v := ?_) rfl (by kernel_rfl) (by kernel_rfl) (by kernel_rfl) (fun _ _ _ h => h) (Or.inl ⟨by rfl, ?_⟩) (by assumption) ?_
              rotate_left
              · intro w' hSw; clear hSw; go_simp; try (with_reducible rfl)
              change wpAnyH _ _ _ _ _ _ _ (Act.put _ (some 88) _) _
              try (simp only [Act.put, List.setIfInBounds_toArray, List.set_cons_zero, List.set_cons_succ])
              refine wpAnyH_take (i := 10) (v := ?_) rfl (by kernel_rfl) (by kernel_rfl) (by kernel_rfl) (fun _ _ _ h => h) (Or.inl ⟨by rfl, ?_⟩) (by assumption) ?_
              rotate_left
              · intro w' hSw; clear hSw; go_simp; try (with_reducible rfl)
              change wpAnyH _ _ _ _ _ _ _ (Act.put _ (some 89) _) _
              try (simp only [Act.put, List.setIfInBounds_toArray, List.set_cons_zero, List.set_cons_succ])
              refine wpAnyH_take (i := 11) (v := ?_) rfl (by kernel_rfl) (by kernel_rfl) (by kernel_rfl) (fun _ _ _ h => h) (Or.inl ⟨by rfl, ?_⟩) (by assumption) ?_
              rotate_left
              · intro w' hS0; go_simp; try (with_reducible rfl)
              change wpAnyH _ _ _ _ _ _ _ (Act.put _ (some 90) _) _
              try (simp only [Act.put, List.setIfInBounds_toArray, List.set_cons_zero, List.set_cons_succ])
              refine wpAnyH_take (i := 12) (v := ?_) rfl (by kernel_rfl) (by kernel_rfl) (by kernel_rfl) (fun _ _ _ h => h) (Or.inl ⟨by rfl, ?_⟩) (by assumption) ?_
              rotate_left
              · intro w' hS0; go_simp; try (with_reducible rfl)
              change wpAnyH _ _ _ _ _ _ _ (Act.put _ (some 91) _) _
              try (simp only [Act.put, List.setIfInBounds_toArray, List.set_cons_zero, List.set_cons_succ])
              refine wpAnyH_ready (rs := [7]) (by kernel_rfl) (by simp) ?_
              refine AllReadyH.cons rfl (fun K hK => ?_) AllReadyH.nil
              go_simp
              refine (kc _ (Up.drew W3)).mono ?_
              rintro e W4 ⟨Ax, cx, rfl, x1, cv1⟩
              have u4 : Up W3 W4 := Up.trans (Up.drew W3) x1
              refine hK.out _ _ u4 (fun hHeld => ?_)
              clear hK K hHeld
              refine wpAnyH_more (S' := fun w' => Up W4 w') (fun w' h => Up.trans u4 h) _ _ _ _ ?_
              have hHeld := Up.refl W4
              refine wpAnyH_take (i := 8) (v := ?_) rfl (by kernel_rfl) (by kernel_rfl) (by kernel_rfl) (fun _ _ _ h => h) (Or.inl ⟨by rfl, ?_⟩) (by assumption) ?_
              rotate_left
              · intro w' hS1; have hS0 := Up.trans u4 hS1; go_simp; try (with_reducible rfl)
              change wpAnyH _ _ _ _ _ _ _ (Act.put _ (some 87) _) _
              try (simp only [Act.put, List.setIfInBounds_toArray, List.set_cons_zero, List.set_cons_succ])
              refine wpAnyH_take (i := 13) (v := ?_) rfl (by kernel_rfl) (by kernel_rfl) (by kernel_rfl) (fun _ _ _ h => h) (Or.inl ⟨by rfl, ?_⟩) (by assumption) ?_
              rotate_left
              · intro w' hSw; clear hSw; go_simp; try (with_reducible rfl)
              change wpAnyH _ _ _ _ _ _ _ (Act.put _ (some 92) _) _
              try (simp only [Act.put, List.setIfInBounds_toArray, List.set_cons_zero, List.set_cons_succ])
              refine wpAnyH_take (i := 14) (v := ?_) rfl (by kernel_rfl) (by kernel_rfl) (by kernel_rfl) (fun _ _ _ h => h) (Or.inl ⟨by rfl, ?_⟩) (by assumption) ?_
              rotate_left
              · intro w' hSw; clear hSw; go_simp; try (with_reducible rfl)
              change wpAnyH _ _ _ _ _ _ _ (Act.put _ (some 93) _) _
              try (simp only [Act.put, List.setIfInBounds_toArray, List.set_cons_zero, List.set_cons_succ])
              refine wpAnyH_take (i := 15) (v := ?_) rfl (by kernel_rfl) (by kernel_rfl) (by kernel_rfl) (fun _ _ _ h => h) (Or.inl ⟨by rfl, ?_⟩) (by assumption) ?_
              rotate_left
              · intro w' hSw; clear hSw; go_simp; try (with_reducible rfl)
              change wpAnyH _ _ _ _ _ _ _ (Act.put _ (some 94) _) _
              try (simp only [Act.put, List.setIfInBounds_toArray, List.set_cons_zero, List.set_cons_succ])
              refine wpAnyH_ready (rs := [16]) (by kernel_rfl) (by simp) ?_
              refine AllReadyH.cons rfl (fun K hK => ?_) AllReadyH.nil
              go_simp
              refine (awake_any _).mono ?_
              rintro e W5 ⟨rfl, hb9⟩
              have u5 : Up W4 W5 := Up.of hb9
              refine hK.out _ _ u5 (fun hHeld => ?_)
              clear hK K hHeld
              refine wpAnyH_more (S' := fun w' => Up W5 w') (fun w' h => Up.trans u5 h) _ _ _ _ ?_
              have hHeld := Up.refl W5
              refine wpAnyH_take (i := 17) (v := ?_) rfl (by kernel_rfl) (by kernel_rfl) (by kernel_rfl) (fun _ _ _ h => h) (Or.inl ⟨by rfl, ?_⟩) (by assumption) ?_
              rotate_left
              · intro w' hSw; clear hSw; go_simp; try (with_reducible rfl)
              change wpAnyH _ _ _ _ _ _ _ (Act.put _ (some 96) _) _
              try (simp only [Act.put, List.setIfInBounds_toArray, List.set_cons_zero, List.set_cons_succ])
              refine wpAnyH_take (i := 18) (v := ?_) rfl (by kernel_rfl) (by kernel_rfl) (by kernel_rfl) (fun _ _ _ h => h) (Or.inl ⟨by rfl, ?_⟩) (by assumption) ?_
              rotate_left
              · intro w' hSw; clear hSw; go_simp; try (with_reducible rfl)
              change wpAnyH _ _ _ _ _ _ _ (Act.put _ (some 4) _) _
              try (simp only [Act.put, List.setIfInBounds_toArray, List.set_cons_zero, List.set_cons_succ])
              refine wpAnyH_done (by kernel_rfl) ?_ _
              refine NoPanic.normal ?_
              clear hHeld
              go_wp2
              go_ret
              exact ⟨rfl, (v3.trans (u4.trans u5)).b⟩

            · have ci := again_is_no (c := c) hE2 hr0 hl k hk
              have hb2 : (isE l k != 0) = true := by simp; exact hE2
              generalize isE l k = E2 at *
              clear hE2
              go_wp2_with fail
              refine (ci _ u2').mono ?_
              rintro e W3 ⟨⟨B3, l3, c3, t3, rfl⟩, hb3⟩
              have v3 := Up.trans u2' (Up.of hb3)
              clear ci hb3
              go_wp2_with fail
              refine wp_region_noPanic ?_
              refine wp_region_held_drew (S := fun w' => Up W3 w') (by kernel_rfl) (Up.drew W3) (fun hHeld => ?_)
              refine wpAnyH_take (i := 0) (v := ?_) rfl (by kernel_rfl) (by kernel_rfl) (by kernel_rfl) (fun _ _ _ h => h) (Or.inl ⟨by rfl, ?_⟩) (by assumption) ?_
              rotate_left
              · intro w' hSw; clear hSw; go_simp; try (with_reducible rfl)
              change wpAnyH _ _ _ _ _ _ _ (Act.put _ (some 79) _) _
              try (simp only [Act.put, List.setIfInBounds_toArray, List.set_cons_zero, List.set_cons_succ])
              refine wpAnyH_take (i := 1) (v := ?_) rfl (by kernel_rfl) (by kernel_rfl) (by kernel_rfl) (fun _ _ _ h => h) (Or.inl ⟨by rfl, ?_⟩) (by assumption) ?_
              rotate_left
              · intro w' hSw; clear hSw; go_simp; try (with_reducible rfl)
              change wpAnyH _ _ _ _ _ _ _ (Act.put _ (some 80) _) _
              try (simp only [Act.put, List.setIfInBounds_toArray, List.set_cons_zero, List.set_cons_succ])
              refine wpAnyH_take (i := 2) (v := ?_) rfl (by kernel_rfl) (by kernel_rfl) (by kernel_rfl) (fun _ _ _ h => h) (Or.inl ⟨by rfl, ?_⟩) (by assumption) ?_
              rotate_left
              · intro w' hSw; clear hSw; go_simp; try (with_reducible rfl)
              change wpAnyH _ _ _ _ _ _ _ (Act.put _ (some 81) _) _
              try (simp only [Act.put, List.setIfInBounds_toArray, List.set_cons_zero, List.set_cons_succ])
              refine held_skip 3 rfl (by kernel_rfl) (by kernel_rfl) (by kernel_rfl) (fun _ _ _ h => h) (by rfl) (by assumption) ?_
              change wpAnyH _ _ _ _ _ _ _ (Act.put _ (some 82) _) _
              try (simp only [Act.put, List.setIfInBounds_toArray, List.set_cons_zero, List.set_cons_succ])
              refine held_skip 4 rfl (by kernel_rfl) (by kernel_rfl) (by kernel_rfl) (fun _ _ _ h => h) (by rfl) (by assumption) ?_
              change wpAnyH _ _ _ _ _ _ _ (Act.put _ (some 83) _) _
              try (simp only [Act.put, List.setIfInBounds_toArray, List.set_cons_zero, List.set_cons_succ])
              refine held_skip 5 rfl (by kernel_rfl) (by kernel_rfl) (by kernel_rfl) (fun _ _ _ h => h) (by rfl) (by assumption) ?_
              change wpAnyH _ _ _ _ _ _ _ (Act.put _ (some 84) _) _
              try (simp only [Act.put, List.setIfInBounds_toArray, List.set_cons_zero, List.set_cons_succ])
              refine held_skip 6 rfl (by kernel_rfl) (by kernel_rfl) (by kernel_rfl) (fun _ _ _ h => h) (by rfl) (by assumption) ?_
              change wpAnyH _ _ _ _ _ _ _ (Act.put _ (some 85) _) _
              try (simp only [Act.put, List.setIfInBounds_toArray, List.set_cons_zero, List.set_cons_succ])
              refine held_skip 7 rfl (by kernel_rfl) (by kernel_rfl) (by kernel_rfl) (fun _ _ _ h => h) (by rfl) (by assumption) ?_
              change wpAnyH _ _ _ _ _ _ _ (Act.put _ (some 86) _) _
              try (simp only [Act.put, List.setIfInBounds_toArray, List.set_cons_zero, List.set_cons_succ])
              refine held_skip 8 rfl (by kernel_rfl) (by kernel_rfl) (by kernel_rfl) (fun _ _ _ h => h) (by rfl) (by assumption) ?_
              change wpAnyH _ _ _ _ _ _ _ (Act.put _ (some 87) _) _
              try (simp only [Act.put, List.setIfInBounds_toArray, List.set_cons_zero, List.set_cons_succ])
              refine held_skip 9 rfl (by kernel_rfl) (by kernel_rfl) (by kernel_rfl) (fun _ _ _ h => h) (by rfl) (by assumption) ?_
              change wpAnyH _ _ _ _ _ _ _ (Act.put _ (some 88) _) _
              try (simp only [Act.put, List.setIfInBounds_toArray, List.set_cons_zero, List.set_cons_succ])
              refine held_skip 10 rfl (by kernel_rfl) (by kernel_rfl) (by kernel_rfl) (fun _ _ _ h => h) (by rfl) (by assumption) ?_
              change wpAnyH _ _ _ _ _ _ _ (Act.put _ (some 89) _) _
              try (simp only [Act.put, List.setIfInBounds_toArray, List.set_cons_zero, List.set_cons_succ])
              refine held_skip 11 rfl (by kernel_rfl) (by kernel_rfl) (by kernel_rfl) (fun _ _ _ h => h) (by rfl) (by assumption) ?_
              change wpAnyH _ _ _ _ _ _ _ (Act.put _ (some 90) _) _
              try (simp only [Act.put, List.setIfInBounds_toArray, List.set_cons_zero, List.set_cons_succ])
              refine held_skip 12 rfl (by kernel_rfl) (by kernel_rfl) (by kernel_rfl) (fun _ _ _ h => h) (by rfl) (by assumption) ?_
              change wpAnyH _ _ _ _ _ _ _ (Act.put _ (some 91) _) _
              try (simp only [Act.put, List.setIfInBounds_toArray, List.set_cons_zero, List.set_cons_succ])
              refine held_skip 13 rfl (by kernel_rfl) (by kernel_rfl) (by kernel_rfl) (fun _ _ _ h => h) (by rfl) (by assumption) ?_
              change wpAnyH _ _ _ _ _ _ _ (Act.put _ (some 92) _) _
              try (simp only [Act.put, List.setIfInBounds_toArray, List.set_cons_zero, List.set_cons_succ])
              refine wpAnyH_take (i := 14) (v := ?_) rfl (by kernel_rfl) (by kernel_rfl) (by kernel_rfl) (fun _ _ _ h => h) (Or.inl ⟨by rfl, ?_⟩) (by assumption) ?_
              rotate_left
              · intro w' hSw; clear hSw; go_simp; try (with_reducible rfl)
              change wpAnyH _ _ _ _ _ _ _ (Act.put _ (some 93) _) _
              try (simp only [Act.put, List.setIfInBounds_toArray, List.set_cons_zero, List.set_cons_succ])
              refine wpAnyH_take (i := 15) (v := ?_) rfl (by kernel_rfl) (by kernel_rfl) (by kernel_rfl) (fun _ _ _ h => h) (Or.inl ⟨by rfl, ?_⟩) (by assumption) ?_
              rotate_left
              · intro w' hSw; clear hSw; go_simp; try (with_reducible rfl)
              change wpAnyH _ _ _ _ _ _ _ (Act.put _ (some 94) _) _
              try (simp only [Act.put, List.setIfInBounds_toArray, List.set_cons_zero, List.set_cons_succ])
              refine wpAnyH_ready (rs := [16]) (by kernel_rfl) (by simp) ?_
              refine AllReadyH.cons rfl (fun K hK => ?_) AllReadyH.nil
              go_simp
              refine (awake_any _).mono ?_
              rintro e W5 ⟨rfl, hb9⟩
              have u5 : Up W3 W5 := Up.trans (Up.drew W3) (Up.of hb9)
              refine hK.out _ _ u5 (fun hHeld => ?_)
              clear hK K hHeld
              refine wpAnyH_more (S' := fun w' => Up W5 w') (fun w' h => Up.trans u5 h) _ _ _ _ ?_
              have hHeld := Up.refl W5
              refine wpAnyH_take (i := 17) (v := ?_) rfl (by kernel_rfl) (by kernel_rfl) (by kernel_rfl) (fun _ _ _ h => h) (Or.inl ⟨by rfl, ?_⟩) (by assumption) ?_
              rotate_left
              · intro w' hSw; clear hSw; go_simp; try (with_reducible rfl)
              change wpAnyH _ _ _ _ _ _ _ (Act.put _ (some 96) _) _
              try (simp only [Act.put, List.setIfInBounds_toArray, List.set_cons_zero, List.set_cons_succ])
              refine wpAnyH_take (i := 18) (v := ?_) rfl (by kernel_rfl) (by kernel_rfl) (by kernel_rfl) (fun _ _ _ h => h) (Or.inl ⟨by rfl, ?_⟩) (by assumption) ?_
              rotate_left
              · intro w' hSw; clear hSw; go_simp; try (with_reducible rfl)
              change wpAnyH _ _ _ _ _ _ _ (Act.put _ (some 4) _) _
              try (simp only [Act.put, List.setIfInBounds_toArray, List.set_cons_zero, List.set_cons_succ])
              refine wpAnyH_done (by kernel_rfl) ?_ _
              refine NoPanic.normal ?_
              clear hHeld
              go_wp2
              go_ret
              exact ⟨rfl, (v3.trans u5).b⟩


          · have ci := again_tx_no hE1 hr0 hl k hk hlc
            have hb1 : (txE l k == 0) = false := beq_eq_false_iff_ne.2 hE1
            generalize txE l k = E1 at *
            clear hE1
            go_wp2_with fail
            refine (ci _ u1').mono ?_
            rintro e w' ⟨rfl, rfl⟩
            clear ci
            go_wp2_with fail
            refine wp_region_noPanic ?_
            refine wp_region_held_drew (S := fun w' => Up W1 w') (by kernel_rfl) (Up.drew W1) (fun hHeld => ?_)
            refine wpAnyH_take (i := 0) (v := ?_) rfl (by kernel_rfl) (by kernel_rfl) (by kernel_rfl) (fun _ _ _ h => h) (Or.inl ⟨by rfl, ?_⟩) (by assumption) ?_
            rotate_left
            · intro w' hSw; clear hSw; go_simp; try (with_reducible rfl)
            change wpAnyH _ _ _ _ _ _ _ (Act.put _ (some 57) _) _
            try (simp only [Act.put, List.setIfInBounds_toArray, List.set_cons_zero, List.set_cons_succ])
            refine wpAnyH_take (i := 1) (v := ?_) rfl (by kernel_rfl) (by kernel_rfl) (by kernel_rfl) (fun _ _ _ h => h) (Or.inl ⟨by rfl, ?_⟩) (by assumption) ?_
            rotate_left
            · intro w' hSw; clear hSw; go_simp; try (with_reducible rfl)
            change wpAnyH _ _ _ _ _ _ _ (Act.put _ (some 58) _) _
            try (simp only [Act.put, List.setIfInBounds_toArray, List.set_cons_zero, List.set_cons_succ])
            refine wpAnyH_take (i := 2) (v := ?_) rfl (by kernel_rfl) (by kernel_rfl) (by kernel_rfl) (fun _ _ _ h => h) (Or.inl ⟨by rfl, ?_⟩) (by assumption) ?_
            rotate_left
            · intro w' hSw; clear hSw; go_simp; try (with_reducible rfl)
            change wpAnyH _ _ _ _ _ _ _ (Act.put _ (some 59) _) _
            try (simp only [Act.put, List.setIfInBounds_toArray, List.set_cons_zero, List.set_cons_succ])
            refine held_skip 3 rfl (by kernel_rfl) (by kernel_rfl) (by kernel_rfl) (fun _ _ _ h => h) (by rfl) (by assumption) ?_
            change wpAnyH _ _ _ _ _ _ _ (Act.put _ (some 60) _) _
            try (simp only [Act.put, List.setIfInBounds_toArray, List.set_cons_zero, List.set_cons_succ])
            refine held_skip 4 rfl (by kernel_rfl) (by kernel_rfl) (by kernel_rfl) (fun _ _ _ h => h) (by rfl) (by assumption) ?_
            change wpAnyH _ _ _ _ _ _ _ (Act.put _ (some 61) _) _
            try (simp only [Act.put, List.setIfInBounds_toArray, List.set_cons_zero, List.set_cons_succ])
            refine held_skip 5 rfl (by kernel_rfl) (by kernel_rfl) (by kernel_rfl) (fun _ _ _ h => h) (by rfl) (by assumption) ?_
            change wpAnyH _ _ _ _ _ _ _ (Act.put _ (some 62) _) _
            try (simp only [Act.put, List.setIfInBounds_toArray, List.set_cons_zero, List.set_cons_succ])
            refine held_skip 6 rfl (by kernel_rfl) (by kernel_rfl) (by kernel_rfl) (fun _ _ _ h => h) (by rfl) (by assumption) ?_
            change wpAnyH _ _ _ _ _ _ _ (Act.put _ (some 63) _) _
            try (simp only [Act.put, List.setIfInBounds_toArray, List.set_cons_zero, List.set_cons_succ])
            refine held_skip 7 rfl (by kernel_rfl) (by kernel_rfl) (by kernel_rfl) (fun _ _ _ h => h) (by rfl) (by assumption) ?_
            change wpAnyH _ _ _ _ _ _ _ (Act.put _ (some 64) _) _
            try (simp only [Act.put, List.setIfInBounds_toArray, List.set_cons_zero, List.set_cons_succ])
            refine held_skip 8 rfl (by kernel_rfl) (by kernel_rfl) (by kernel_rfl) (fun _ _ _ h => h) (by rfl) (by assumption) ?_
            change wpAnyH _ _ _ _ _ _ _ (Act.put _ (some 65) _) _
            try (simp only [Act.put, List.setIfInBounds_toArray, List.set_cons_zero, List.set_cons_succ])
            refine held_skip 9 rfl (by kernel_rfl) (by kernel_rfl) (by kernel_rfl) (fun _ _ _ h => h) (by rfl) (by assumption) ?_
            change wpAnyH _ _ _ _ _ _ _ (Act.put _ (some 66) _) _
            try (simp only [Act.put, List.setIfInBounds_toArray, List.set_cons_zero, List.set_cons_succ])
            refine held_skip 10 rfl (by kernel_rfl) (by kernel_rfl) (by kernel_rfl) (fun _ _ _ h => h) (by rfl) (by assumption) ?_
            change wpAnyH _ _ _ _ _ _ _ (Act.put _ (some 67) _) _
            try (simp only [Act.put, List.setIfInBounds_toArray, List.set_cons_zero, List.set_cons_succ])
            refine held_skip 11 rfl (by kernel_rfl) (by kernel_rfl) (by kernel_rfl) (fun _ _ _ h => h) (by rfl) (by assumption) ?_
            change wpAnyH _ _ _ _ _ _ _ (Act.put _ (some 68) _) _
            try (simp only [Act.put, List.setIfInBounds_toArray, List.set_cons_zero, List.set_cons_succ])
            refine held_skip 12 rfl (by kernel_rfl) (by kernel_rfl) (by kernel_rfl) (fun _ _ _ h => h) (by rfl) (by assumption) ?_
            change wpAnyH _ _ _ _ _ _ _ (Act.put _ (some 69) _) _
            try (simp only [Act.put, List.setIfInBounds_toArray, List.set_cons_zero, List.set_cons_succ])
            refine held_skip 13 rfl (by kernel_rfl) (by kernel_rfl) (by kernel_rfl) (fun _ _ _ h => h) (by rfl) (by assumption) ?_
            change wpAnyH _ _ _ _ _ _ _ (Act.put _ (some 70) _) _
            try (simp only [Act.put, List.setIfInBounds_toArray, List.set_cons_zero, List.set_cons_succ])
            refine wpAnyH_take (i := 14) (v := ?_) rfl (by kernel_rfl) (by kernel_rfl) (by kernel_rfl) (fun _ _ _ h => h) (Or.inl ⟨by rfl, ?_⟩) (by assumption) ?_
            rotate_left
            · intro w' hSw; clear hSw; go_simp; try (with_reducible rfl)
            change wpAnyH _ _ _ _ _ _ _ (Act.put _ (some 71) _) _
            try (simp only [Act.put, List.setIfInBounds_toArray, List.set_cons_zero, List.set_cons_succ])
            refine wpAnyH_done (by kernel_rfl) ?_ _
            refine NoPanic.normal ?_
            clear hHeld
            have u2 := Up.drew W1
            generalize World.drew W1 = W2 at *
            have u2' := Up.trans u1' u2
            by_cases hE2 : isE l k = 0
            · obtain ⟨T, ci, kc, hT, cvb⟩ := again_is (c := c) hE2 hr0 hl k hk rfl
              clear hE2
              go_wp2_with fail
              refine (ci _ u2').mono ?_
              rintro e W3 ⟨A3, c3, rfl, hown3, hb3⟩
              have u3 := Up.of hb3
              have hr3 := hown3.rd'
              clear ci hown3 hb3
              have sl1 := slice_to A c l.length hlc (k : Int) k rfl hk
              have sl2 := slice_to A c l.length hlc (T : Int) T rfl hT
              have v3 := Up.trans u2' u3
              have kc := fun w' (h : Up W3 w') => kc w' A3 c3 (v3.trans h) (h.rd hr3)
              have cvb := fun w' (h : Up W3 w') => cvb w' (v3.trans h)
              generalize hTT : l.take T = LT at *
              clear hTT
              generalize isL l k = Lm at *
              go_wp2_with fail
              refine wp_region_noPanic ?_
              refine wp_region_held_drew (S := fun w' => Up W3 w') (by kernel_rfl) (Up.drew W3) (fun hHeld => ?_)
              refine wpAnyH_take (i := 0) (v := ?_) rfl (by kernel_rfl) (by kernel_rfl) (by kernel_rfl) (fun _ _ _ h => h) (Or.inl ⟨by rfl, ?_⟩) (by assumption) ?_
              rotate_left
              · intro w' hSw; clear hSw; go_simp; try (with_reducible rfl)
              change wpAnyH _ _ _ _ _ _ _ (Act.put _ (some 79) _) _
              try (simp only [Act.put, List.setIfInBounds_toArray, List.set_cons_zero, List.set_cons_succ])
              refine wpAnyH_take (i := 1) (v := ?_) rfl (by kernel_rfl) (by kernel_rfl) (by kernel_rfl) (fun _ _ _ h => h) (Or.inl ⟨by rfl, ?_⟩) (by assumption) ?_
              rotate_left
              · intro w' hSw; clear hSw; go_simp; try (with_reducible rfl)
              change wpAnyH _ _ _ _ _ _ _ (Act.put _ (some 80) _) _
              try (simp only [Act.put, List.setIfInBounds_toArray, List.set_cons_zero, List.set_cons_succ])
              refine wpAnyH_take (i := 2) (v := ?_) rfl (by kernel_rfl) (by kernel_rfl) (by kernel_rfl) (fun _ _ _ h => h) (Or.inl ⟨by rfl, ?_⟩) (by assumption) ?_
              rotate_left
              · intro w' hSw; clear hSw; go_simp; try (with_reducible rfl)
              change wpAnyH _ _ _ _ _ _ _ (Act.put _ (some 81) _) _
              try (simp only [Act.put, List.setIfInBounds_toArray, List.set_cons_zero, List.set_cons_succ])
              refine wpAnyH_take (i := 3) (v := ?_) rfl (by kernel_rfl) (by kernel_rfl) (by kernel_rfl) (fun _ _ _ h => h) (Or.inl ⟨by rfl, ?_⟩) (by assumption) ?_
              rotate_left
              · intro w' hSw; clear hSw; go_simp; try (with_reducible rfl)
              change wpAnyH _ _ _ _ _ _ _ (Act.put _ (some 82) _) _
              try (simp only [Act.put, List.setIfInBounds_toArray, List.set_cons_zero, List.set_cons_succ])
              refine wpAnyH_take (i := 4) (v := ?_) rfl (by kernel_rfl) (by kernel_rfl) (by kernel_rfl) (fun _ _ _ h => h) (Or.inl ⟨by rfl, ?_⟩) (by assumption) ?_
              rotate_left
              · intro w' hSw; clear hSw; go_simp; try (with_reducible rfl)
              change wpAnyH _ _ _ _ _ _ _ (Act.put _ (some 83) _) _
              try (simp only [Act.put, List.setIfInBounds_toArray, List.set_cons_zero, List.set_cons_succ])
              refine wpAnyH_take (i := 5) (v := ?_) rfl (by kernel_rfl) (by kernel_rfl) (by kernel_rfl) (fun _ _ _ h => h) (Or.inl ⟨by rfl, ?_⟩) (by assumption) ?_
              rotate_left
              · intro w' hS0; go_simp; try (with_reducible rfl)
              change wpAnyH _ _ _ _ _ _ _ (Act.put _ (some 84) _) _
              try (simp only [Act.put, List.setIfInBounds_toArray, List.set_cons_zero, List.set_cons_succ])
              refine wpAnyH_take (i := 6) (v := ?_) rfl (by kernel_rfl) (by kernel_rfl) (by kernel_rfl) (fun _ _ _ h => h) (Or.inl ⟨by rfl, ?_⟩) (by assumption) ?_
              rotate_left
              · intro w' hSw; clear hSw; go_simp; try (with_reducible rfl)
              change wpAnyH _ _ _ _ _ _ _ (Act.put _ (some 85) _) _
              try (simp only [Act.put, List.setIfInBounds_toArray, List.set_cons_zero, List.set_cons_succ])
              refine wpAnyH_take (i := 9) (v := ?_) rfl (by kernel_rfl) (by kernel_rfl) (by kernel_rfl) (fun _ _ _ h => h) (Or.inl ⟨by rfl, ?_⟩) (by assumption) ?_
              rotate_left
              · intro w' hSw; clear hSw; go_simp; try (with_reducible rfl)
              change wpAnyH _ _ _ _ _ _ _ (Act.put _ (some 88) _) _
              try (simp only [Act.put, List.setIfInBounds_toArray, List.set_cons_zero, List.set_cons_succ])
              refine wpAnyH_take (i := 10) (v := ?_) rfl (by kernel_rfl) (by kernel_rfl) (by kernel_rfl) (fun _ _ _ h => h) (Or.inl ⟨by rfl, ?_⟩) (by assumption) ?_
              rotate_left
              · intro w' hSw; clear hSw; go_simp; try (with_reducible rfl)
              change wpAnyH _ _ _ _ _ _ _ (Act.put _ (some 89) _) _
              try (simp only [Act.put, List.setIfInBounds_toArray, List.set_cons_zero, List.set_cons_succ])
              refine wpAnyH_take (i := 11) (v := ?_) rfl (by kernel_rfl) (by kernel_rfl) (by kernel_rfl) (fun _ _ _ h => h) (Or.inl ⟨by rfl, ?_⟩) (by assumption) ?_
              rotate_left
              · intro w' hS0; go_simp; try (with_reducible rfl)
              change wpAnyH _ _ _ _ _ _ _ (Act.put _ (some 90) _) _
              try (simp only [Act.put, List.setIfInBounds_toArray, List.set_cons_zero, List.set_cons_succ])
              refine wpAnyH_take (i := 12) (v := ?_) rfl (by kernel_rfl) (by kernel_rfl) (by kernel_rfl) (fun _ _ _ h => h) (Or.inl ⟨by rfl, ?_⟩) (by assumption) ?_
              rotate_left
              · intro w' hS0; go_simp; try (with_reducible rfl)
              change wpAnyH _ _ _ _ _ _ _ (Act.put _ (some 91) _) _
              try (simp only [Act.put, List.setIfInBounds_toArray, List.set_cons_zero, List.set_cons_succ])
              refine wpAnyH_ready (rs := [7]) (by kernel_rfl) (by simp) ?_
              refine AllReadyH.cons rfl (fun K hK => ?_) AllReadyH.nil
              go_simp
              refine (kc _ (Up.drew W3)).mono ?_
              rintro e W4 ⟨Ax, cx, rfl, x1, cv1⟩
              have u4 : Up W3 W4 := Up.trans (Up.drew W3) x1
              refine hK.out _ _ u4 (fun hHeld => ?_)
              clear hK K hHeld
              refine wpAnyH_more (S' := fun w' => Up W4 w') (fun w' h => Up.trans u4 h) _ _ _ _ ?_
              have hHeld := Up.refl W4
              refine wpAnyH_take (i := 8) (v := ?_) rfl (by kernel_rfl) (by kernel_rfl) (by kernel_rfl) (fun _ _ _ h => h) (Or.inl ⟨by rfl, ?_⟩) (by assumption) ?_
              rotate_left
              · intro w' hS1; have hS0 := Up.trans u4 hS1; go_simp; try (with_reducible rfl)
              change wpAnyH _ _ _ _ _ _ _ (Act.put _ (some 87) _) _
              try (simp only [Act.put, List.setIfInBounds_toArray, List.set_cons_zero, List.set_cons_succ])
              refine wpAnyH_take (i := 13) (v := ?_) rfl (by kernel_rfl) (by kernel_rfl) (by kernel_rfl) (fun _ _ _ h => h) (Or.inl ⟨by rfl, ?_⟩) (by assumption) ?_
              rotate_left
              · intro w' hSw; clear hSw; go_simp; try (with_reducible rfl)
              change wpAnyH _ _ _ _ _ _ _ (Act.put _ (some 92) _) _
              try (simp only [Act.put, List.setIfInBounds_toArray, List.set_cons_zero, List.set_cons_succ])
              refine wpAnyH_take (i := 14) (v := ?_) rfl (by kernel_rfl) (by kernel_rfl) (by kernel_rfl) (fun _ _ _ h => h) (Or.inl ⟨by rfl, ?_⟩) (by assumption) ?_
              rotate_left
              · intro w' hSw; clear hSw; go_simp; try (with_reducible rfl)
              change wpAnyH _ _ _ _ _ _ _ (Act.put _ (some 93) _) _
              try (simp only [Act.put, List.setIfInBounds_toArray, List.set_cons_zero, List.set_cons_succ])
              refine wpAnyH_take (i := 15) (v := ?_) rfl (by kernel_rfl) (by kernel_rfl) (by kernel_rfl) (fun _ _ _ h => h) (Or.inl ⟨by rfl, ?_⟩) (by assumption) ?_
              rotate_left
              · intro w' hSw; clear hSw; go_simp; try (with_reducible rfl)
              change wpAnyH _ _ _ _ _ _ _ (Act.put _ (some 94) _) _
              try (simp only [Act.put, List.setIfInBounds_toArray, List.set_cons_zero, List.set_cons_succ])
              refine wpAnyH_ready (rs := [16]) (by kernel_rfl) (by simp) ?_
              refine AllReadyH.cons rfl (fun K hK => ?_) AllReadyH.nil
              go_simp
              refine (awake_any _).mono ?_
              rintro e W5 ⟨rfl, hb9⟩
              have u5 : Up W4 W5 := Up.of hb9
              refine hK.out _ _ u5 (fun hHeld => ?_)
              clear hK K hHeld
              refine wpAnyH_more (S' := fun w' => Up W5 w') (fun w' h => Up.trans u5 h) _ _ _ _ ?_
              have hHeld := Up.refl W5
              refine wpAnyH_take (i := 17) (v := ?_) rfl (by kernel_rfl) (by kernel_rfl) (by kernel_rfl) (fun _ _ _ h => h) (Or.inl ⟨by rfl, ?_⟩) (by assumption) ?_
              rotate_left
              · intro w' hSw; clear hSw; go_simp; try (with_reducible rfl)
              change wpAnyH _ _ _ _ _ _ _ (Act.put _ (some 96) _) _
              try (simp only [Act.put, List.setIfInBounds_toArray, List.set_cons_zero, List.set_cons_succ])
              refine wpAnyH_take (i := 18) (v := ?_) rfl (by kernel_rfl) (by kernel_rfl) (by kernel_rfl) (fun _ _ _ h => h) (Or.inl ⟨by rfl, ?_⟩) (by assumption) ?_
              rotate_left
              · intro w' hSw; clear hSw; go_simp; try (with_reducible rfl)
              change wpAnyH _ _ _ _ _ _ _ (Act.put _ (some 4) _) _
              try (simp only [Act.put, List.setIfInBounds_toArray, List.set_cons_zero, List.set_cons_succ])
              refine wpAnyH_done (by kernel_rfl) ?_ _
              refine NoPanic.normal ?_
              clear hHeld
              go_wp2
              go_ret
              exact ⟨rfl, (v3.trans (u4.trans u5)).b⟩

            · have ci := again_is_no (c := c) hE2 hr0 hl k hk
              have hb2 : (isE l k != 0) = true := by simp; exact hE2
              generalize isE l k = E2 at *
              clear hE2
              go_wp2_with fail
              refine (ci _ u2').mono ?_
              rintro e W3 ⟨⟨B3, l3, c3, t3, rfl⟩, hb3⟩
              have v3 := Up.trans u2' (Up.of hb3)
              clear ci hb3
              go_wp2_with fail
              refine wp_region_noPanic ?_
              refine wp_region_held_drew (S := fun w' => Up W3 w') (by kernel_rfl) (Up.drew W3) (fun hHeld => ?_)
              refine wpAnyH_take (i := 0) (v := ?_) rfl (by kernel_rfl) (by kernel_rfl) (by kernel_rfl) (fun _ _ _ h => h) (Or.inl ⟨by rfl, ?_⟩) (by assumption) ?_
              rotate_left
              · intro w' hSw; clear hSw; go_simp; try (with_reducible rfl)
              change wpAnyH _ _ _ _ _ _ _ (Act.put _ (some 79) _) _
              try (simp only [Act.put, List.setIfInBounds_toArray, List.set_cons_zero, List.set_cons_succ])
              refine wpAnyH_take (i := 1) (v := ?_) rfl (by kernel_rfl) (by kernel_rfl) (by kernel_rfl) (fun _ _ _ h => h) (Or.inl ⟨by rfl, ?_⟩) (by assumption) ?_
              rotate_left
              · intro w' hSw; clear hSw; go_simp; try (with_reducible rfl)
              change wpAnyH _ _ _ _ _ _ _ (Act.put _ (some 80) _) _
              try (simp only [Act.put, List.setIfInBounds_toArray, List.set_cons_zero, List.set_cons_succ])
              refine wpAnyH_take (i := 2) (v := ?_) rfl (by kernel_rfl) (by kernel_rfl) (by kernel_rfl) (fun _ _ _ h => h) (Or.inl ⟨by rfl, ?_⟩) (by assumption) ?_
              rotate_left
              · intro w' hSw; clear hSw; go_simp; try (with_reducible rfl)
              change wpAnyH _ _ _ _ _ _ _ (Act.put _ (some 81) _) _
              try (simp only [Act.put, List.setIfInBounds_toArray, List.set_cons_zero, List.set_cons_succ])
              refine held_skip 3 rfl (by kernel_rfl) (by kernel_rfl) (by kernel_rfl) (fun _ _ _ h => h) (by rfl) (by assumption) ?_
              change wpAnyH _ _ _ _ _ _ _ (Act.put _ (some 82) _) _
              try (simp only [Act.put, List.setIfInBounds_toArray, List.set_cons_zero, List.set_cons_succ])
              refine held_skip 4 rfl (by kernel_rfl) (by kernel_rfl) (by kernel_rfl) (fun _ _ _ h => h) (by rfl) (by assumption) ?_
              change wpAnyH _ _ _ _ _ _ _ (Act.put _ (some 83) _) _
              try (simp only [Act.put, List.setIfInBounds_toArray, List.set_cons_zero, List.set_cons_succ])
              refine held_skip 5 rfl (by kernel_rfl) (by kernel_rfl) (by kernel_rfl) (fun _ _ _ h => h) (by rfl) (by assumption) ?_
              change wpAnyH _ _ _ _ _ _ _ (Act.put _ (some 84) _) _
              try (simp only [Act.put, List.setIfInBounds_toArray, List.set_cons_zero, List.set_cons_succ])
              refine held_skip 6 rfl (by kernel_rfl) (by kernel_rfl) (by kernel_rfl) (fun _ _ _ h => h) (by rfl) (by assumption) ?_
              change wpAnyH _ _ _ _ _ _ _ (Act.put _ (some 85) _) _
              try (simp only [Act.put, List.setIfInBounds_toArray, List.set_cons_zero, List.set_cons_succ])
              refine held_skip 7 rfl (by kernel_rfl) (by kernel_rfl) (by kernel_rfl) (fun _ _ _ h => h) (by rfl) (by assumption) ?_
              change wpAnyH _ _ _ _ _ _ _ (Act.put _ (some 86) _) _
              try (simp only [Act.put, List.setIfInBounds_toArray, List.set_cons_zero, List.set_cons_succ])
              refine held_skip 8 rfl (by kernel_rfl) (by kernel_rfl) (by kernel_rfl) (fun _ _ _ h => h) (by rfl) (by assumption) ?_
              change wpAnyH _ _ _ _ _ _ _ (Act.put _ (some 87) _) _
              try (simp only [Act.put, List.setIfInBounds_toArray, List.set_cons_zero, List.set_cons_succ])
              refine held_skip 9 rfl (by kernel_rfl) (by kernel_rfl) (by kernel_rfl) (fun _ _ _ h => h) (by rfl) (by assumption) ?_
              change wpAnyH _ _ _ _ _ _ _ (Act.put _ (some 88) _) _
              try (simp only [Act.put, List.setIfInBounds_toArray, List.set_cons_zero, List.set_cons_succ])
              refine held_skip 10 rfl (by kernel_rfl) (by kernel_rfl) (by kernel_rfl) (fun _ _ _ h => h) (by rfl) (by assumption) ?_
              change wpAnyH _ _ _ _ _ _ _ (Act.put _ (some 89) _) _
              try (simp only [Act.put, List.setIfInBounds_toArray, List.set_cons_zero, List.set_cons_succ])
              refine held_skip 11 rfl (by kernel_rfl) (by kernel_rfl) (by kernel_rfl) (fun _ _ _ h => h) (by rfl) (by assumption) ?_
              change wpAnyH _ _ _ _ _ _ _ (Act.put _ (some 90) _) _
              try (simp only [Act.put, List.setIfInBounds_toArray, List.set_cons_zero, List.set_cons_succ])
              refine held_skip 12 rfl (by kernel_rfl) (by kernel_rfl) (by kernel_rfl) (fun _ _ _ h => h) (by rfl) (by assumption) ?_
              change wpAnyH _ _ _ _ _ _ _ (Act.put _ (some 91) _) _
              try (simp only [Act.put, List.setIfInBounds_toArray, List.set_cons_zero, List.set_cons_succ])
              refine held_skip 13 rfl (by kernel_rfl) (by kernel_rfl) (by kernel_rfl) (fun _ _ _ h => h) (by rfl) (by assumption) ?_
              change wpAnyH _ _ _ _ _ _ _ (Act.put _ (some 92) _) _
              try (simp only [Act.put, List.setIfInBounds_toArray, List.set_cons_zero, List.set_cons_succ])
              refine wpAnyH_take (i := 14) (v := ?_) rfl (by kernel_rfl) (by kernel_rfl) (by kernel_rfl) (fun _ _ _ h => h) (Or.inl ⟨by rfl, ?_⟩) (by assumption) ?_
              rotate_left
              · intro w' hSw; clear hSw; go_simp; try (with_reducible rfl)
              change wpAnyH _ _ _ _ _ _ _ (Act.put _ (some 93) _) _
              try (simp only [Act.put, List.setIfInBounds_toArray, List.set_cons_zero, List.set_cons_succ])
              refine wpAnyH_take (i := 15) (v := ?_) rfl (by kernel_rfl) (by kernel_rfl) (by kernel_rfl) (fun _ _ _ h => h) (Or.inl ⟨by rfl, ?_⟩) (by assumption) ?_
              rotate_left
              · intro w' hSw; clear hSw; go_simp; try (with_reducible rfl)
              change wpAnyH _ _ _ _ _ _ _ (Act.put _ (some 94) _) _
              try (simp only [Act.put, List.setIfInBounds_toArray, List.set_cons_zero, List.set_cons_succ])
              refine wpAnyH_ready (rs := [16]) (by kernel_rfl) (by simp) ?_
              refine AllReadyH.cons rfl (fun K hK => ?_) AllReadyH.nil
              go_simp
              refine (awake_any _).mono ?_
              rintro e W5 ⟨rfl, hb9⟩
              have u5 : Up W3 W5 := Up.trans (Up.drew W3) (Up.of hb9)
              refine hK.out _ _ u5 (fun hHeld => ?_)
              clear hK K hHeld
              refine wpAnyH_more (S' := fun w' => Up W5 w') (fun w' h => Up.trans u5 h) _ _ _ _ ?_
              have hHeld := Up.refl W5
              refine wpAnyH_take (i := 17) (v := ?_) rfl (by kernel_rfl) (by kernel_rfl) (by kernel_rfl) (fun _ _ _ h => h) (Or.inl ⟨by rfl, ?_⟩) (by assumption) ?_
              rotate_left
              · intro w' hSw; clear hSw; go_simp; try (with_reducible rfl)
              change wpAnyH _ _ _ _ _ _ _ (Act.put _ (some 96) _) _
              try (simp only [Act.put, List.setIfInBounds_toArray, List.set_cons_zero, List.set_cons_succ])
              refine wpAnyH_take (i := 18) (v := ?_) rfl (by kernel_rfl) (by kernel_rfl) (by kernel_rfl) (fun _ _ _ h => h) (Or.inl ⟨by rfl, ?_⟩) (by assumption) ?_
              rotate_left
              · intro w' hSw; clear hSw; go_simp; try (with_reducible rfl)
              change wpAnyH _ _ _ _ _ _ _ (Act.put _ (some 4) _) _
              try (simp only [Act.put, List.setIfInBounds_toArray, List.set_cons_zero, List.set_cons_succ])
              refine wpAnyH_done (by kernel_rfl) ?_ _
              refine NoPanic.normal ?_
              clear hHeld
              go_wp2
              go_ret
              exact ⟨rfl, (v3.trans u5).b⟩




  · go_enter Try.func8, Try.ntmps8
    go_wp2_with fail
    refine (few_no _ _ _ _ _ _ _ _ (by omega)).mono ?_
    rintro e w' ⟨rfl, rfl⟩
    go_wp2_with fail
    refine (awake_any _).mono ?_
    rintro e w' ⟨rfl, hb⟩
    go_wp2_with fail
    go_ret
    exact ⟨rfl, hb⟩
end Go.Proofs.Ytklimplhlhcajaa
