/-
  The walk of the statement WireBack. Conditions: the arguments read as their types say.
-/
import Derived.Test.YtklimplhlhcajaaWirePuts
import Derived.Test.YtklimplhlhcajaaWireMath
namespace Go.Proofs.Ytklimplhlhcajaa
open Go.RowKit
set_option linter.unusedVariables false

/-- the call returns new bytes, which read as L -/
def RetUp (L : List UInt8) (w : World) (e : Ending) (w' : World) : Prop := ∃ A c, e = .returned (.slice A L.length c) ∧ Up w w' ∧ Rd w' A (L.map U8) ∧ L.length ≤ c
theorem RetNew.up {l : List UInt8} {w : World} {e : Ending} {w' : World} (h : RetNew U8 5 l w e w') : RetUp l w e w' := by
  obtain ⟨A, c, he, h1, hb⟩ := h
  obtain ⟨A', c', e', q, h3⟩ := h1.rd
  injection e' with e1 e2 e3
  subst e1 e3
  exact ⟨A, c, he, Up.of hb, h3, q⟩

set_option maxRecDepth 20000 in
set_option maxHeartbeats 4000000 in
theorem walk_WireBack (w : World) (A : Option Addr) (c : Nat) (l : List UInt8) (h : Rd w A (l.map U8)) (hl : l.length ≤ maxLen) (hlc : l.length ≤ c)
    (n : Int) (s : List UInt8) (B : Option Addr) (m : List Int) (d : Nat) (bn : -9223372036854775808 ≤ n ∧ n ≤ 9223372036854775807) (bs : s.length ≤ maxLen) (hB : Rd w B (m.map I64)) (hm : m.length ≤ maxLen)
    (hbd : ∀ n ∈ m, -9223372036854775808 ≤ n ∧ n ≤ 9223372036854775807) (hmd : m.length ≤ d)
    (C : Option Addr) (f : Nat) (t : List UInt8) (hC : Rd w C (t.map U8)) (ht : t.length ≤ maxLen) (htf : t.length ≤ f) :
    Calls Try.prog 7 #[.slice A l.length c, .agg #[.int .i64 n, .string ⟨s.toArray⟩, .slice B m.length d], .slice C t.length f] w fun e w' => e = .returned (.bool true) ∧ Below w.heap.size w w' := by
  obtain ⟨i0, hi0, hz0, hz1, hz2⟩ := info_parts info_u8
  obtain ⟨g0, g1, g2⟩ := box3 w (.int .i64 n) (.string ⟨s.toArray⟩) (.slice B m.length d) 31
  have hbw : Below w.heap.size w (w.alloc (.cells #[.int .i64 n, .string ⟨s.toArray⟩, .slice B m.length d] 31)) := (Below.refl _ _).alloc (Nat.le_refl _) _
  unfold maxLen at hl bs hm ht
  by_cases hf : l.length ≤ 300 ∧ s.length ≤ 300 ∧ m.length ≤ 100
  · by_cases hf2 : t.length ≤ 300
    · obtain ⟨f1, f2, f3⟩ := hf
      have hA := h.below hbw
      have hB := hB.below hbw
      have hC := hC.below hbw
      have k0 : decide (300 < (t.length : Int)) = false := by simp; omega
      go_enter Try.func7, Try.ntmps7
      go_wp2_with fail
      refine (few_yes _ _ _ _ _ _ _ _ f1 (by simpa [ByteArray.size] using f2) f3).mono ?_
      rintro e w' ⟨rfl, rfl⟩
      have Hbd := Lib.hid hbd
      clear hbd h
      generalize w.alloc (.cells #[.int .i64 n, .string ⟨s.toArray⟩, .slice B m.length d] 31) = W at *
      go_wp2_with fail
      have ld0 : ∀ w', Up W w' → w'.cell? ⟨w.heap.size, 0, none⟩ = some (.int .i64 n) := fun w' h => h.cell g0
      have ld1 : ∀ w', Up W w' → w'.cell? ⟨w.heap.size, 1, none⟩ = some (.string ⟨s.toArray⟩) := fun w' h => h.cell g1
      have ld2 : ∀ w', Up W w' → w'.cell? ⟨w.heap.size, 2, none⟩ = some (.slice B m.length d) := fun w' h => h.cell g2
      have k1 : ∀ w', Up W w' → Calls Try.prog 14 #[.slice A l.length c, .int .i64 n] w' (RetUp (l ++ enc n) w') := fun w' h => (putInt_any _ _ _ _ (h.rd hA) (by omega) n bn.1 bn.2).mono fun _ _ h => h.up
      have k2 : ∀ w', Up W w' → Calls Try.prog 16 #[.slice A l.length c, .string ⟨s.toArray⟩] w' (RetUp (l ++ encT s) w') := fun w' h => (putText_any _ _ _ _ (h.rd hA) (by omega) s (by omega)).mono fun _ _ h => h.up
      have k3 : ∀ w', Up W w' → Calls Try.prog 18 #[.slice A l.length c, .slice B m.length d] w' (RetUp (l ++ encL m) w') := fun w' h => (putInts_any _ _ _ _ (h.rd hA) (by omega) _ _ m (h.rd hB) (by omega) Hbd.out).mono fun _ _ h => h.up
      have en1 := enc_length n
      have en2 := encT_length s
      have en3 := encL_length m
      obtain ⟨X1, hX1⟩ : ∃ X, X = (l ++ enc n) ++ t := ⟨_, rfl⟩
      obtain ⟨X2, hX2⟩ : ∃ X, X = (l ++ encT s) ++ t := ⟨_, rfl⟩
      obtain ⟨X3, hX3⟩ : ∃ X, X = (l ++ encL m) ++ t := ⟨_, rfl⟩
      have hl1 : X1.length ≤ 1000 ∧ (l ++ enc n).length ≤ 400 := by rw [hX1]; simp only [List.length_append]; omega
      have hl2 : X2.length ≤ 1000 ∧ (l ++ encT s).length ≤ 700 := by rw [hX2]; simp only [List.length_append]; omega
      have hl3 : X3.length ≤ 3000 ∧ (l ++ encL m).length ≤ 2000 := by rw [hX3]; simp only [List.length_append]; omega
      have q1 : ∀ w' A' c', Rd w' A' (X1.map U8) → Calls Try.prog 12 #[.slice A' X1.length c', .int .i64 l.length] w' (fun e w'' => e = .returned (.tuple #[.int .i64 n, .int .i64 ((l ++ enc n).length : Nat), .int .i64 0]) ∧ w' = w'') := by
        intro w' A' c' hr
        have := int_any w' A' c' X1 hr (by omega) (l.length : Int) (by omega) (by omega)
        obtain ⟨r1, r2, r3⟩ := enc_read l n t bn.1 bn.2
        unfold RetRd at this
        rw [hX1, List.append_assoc, r1, r2, r3] at this
        rw [hX1, List.append_assoc, show (l ++ enc n).length = l.length + (enc n).length from List.length_append]
        exact this
      have q2 : ∀ w' A' c', Rd w' A' (X2.map U8) → X2.length ≤ c' → Calls Try.prog 20 #[.slice A' X2.length c', .int .i64 l.length] w' (fun e w'' => e = .returned (.tuple #[.string ⟨s.toArray⟩, .int .i64 ((l ++ encT s).length : Nat), .int .i64 0]) ∧ w' = w'') := by
        intro w' A' c' hr hc
        have := textAt_any w' A' c' X2 hc hr (by omega) (l.length : Int) (by omega) (by omega)
        obtain ⟨r1, r2, r3⟩ := tx_read l s t (by omega)
        rw [hX2, List.append_assoc, r1, r2, r3] at this
        rw [hX2, List.append_assoc]
        exact this
      have q3 : ∀ w' A' c', Rd w' A' (X3.map U8) → Calls Try.prog 22 #[.slice A' X3.length c', .int .i64 l.length] w' (RetList m ((l ++ encL m).length : Nat) 0 w') := by
        intro w' A' c' hr
        have := ints_any w' A' c' X3 hr (by omega) (l.length : Int) (by omega) (by omega)
        have r1 := is_read l m t (by omega) Hbd.out
        unfold isL isT isE at this
        rw [hX3, List.append_assoc, r1] at this
        rw [hX3, List.append_assoc]
        exact this
      have HX1 := Lib.hid hX1
      have HX2 := Lib.hid hX2
      have HX3 := Lib.hid hX3
      clear hX1 hX2 hX3 en1 en2 en3
      generalize l ++ enc n = L1 at *
      generalize l ++ encT s = L2 at *
      generalize l ++ encL m = L3 at *
      clear g0 g1 g2 hA
      refine wp_region_noPanic ?_
      refine wp_region_held_drew (S := fun w' => Up W w') (by kernel_rfl) (Up.drew W) (fun hHeld => ?_)
      refine wpAnyH_take (i := 0) (v := ?_) rfl (by kernel_rfl) (by kernel_rfl) (by kernel_rfl) (fun _ _ _ h => h) (Or.inl ⟨by rfl, ?_⟩) (by assumption) ?_
      rotate_left
      · intro w' hSw; clear hSw; go_simp; try (with_reducible rfl)
      change wpAnyH _ _ _ _ _ _ _ (Act.put _ (some 32) _) _
      try (simp only [Act.put, List.setIfInBounds_toArray, List.set_cons_zero, List.set_cons_succ])
      refine wpAnyH_take (i := 1) (v := ?_) rfl (by kernel_rfl) (by kernel_rfl) (by kernel_rfl) (fun _ _ _ h => h) (Or.inl ⟨by rfl, ?_⟩) (by assumption) ?_
      rotate_left
      · intro w' hSw; clear hSw; go_simp; try (with_reducible rfl)
      change wpAnyH _ _ _ _ _ _ _ (Act.put _ (some 33) _) _
      try (simp only [Act.put, List.setIfInBounds_toArray, List.set_cons_zero, List.set_cons_succ])
      refine wpAnyH_take (i := 2) (v := ?_) rfl (by kernel_rfl) (by kernel_rfl) (by kernel_rfl) (fun _ _ _ h => h) (Or.inl ⟨by rfl, ?_⟩) (by assumption) ?_
      rotate_left
      · intro w' hS0; go_simp; try (with_reducible rfl)
      change wpAnyH _ _ _ _ _ _ _ (Act.put _ (some 34) _) _
      try (simp only [Act.put, List.setIfInBounds_toArray, List.set_cons_zero, List.set_cons_succ])
      refine wpAnyH_take (i := 4) (v := ?_) rfl (by kernel_rfl) (by kernel_rfl) (by kernel_rfl) (fun _ _ _ h => h) (Or.inl ⟨by rfl, ?_⟩) (by assumption) ?_
      rotate_left
      · intro w' hSw; clear hSw; go_simp; try (with_reducible rfl)
      change wpAnyH _ _ _ _ _ _ _ (Act.put _ (some 36) _) _
      try (simp only [Act.put, List.setIfInBounds_toArray, List.set_cons_zero, List.set_cons_succ])
      refine wpAnyH_take (i := 5) (v := ?_) rfl (by kernel_rfl) (by kernel_rfl) (by kernel_rfl) (fun _ _ _ h => h) (Or.inl ⟨by rfl, ?_⟩) (by assumption) ?_
      rotate_left
      · intro w' hSw; clear hSw; go_simp; try (with_reducible rfl)
      change wpAnyH _ _ _ _ _ _ _ (Act.put _ (some 37) _) _
      try (simp only [Act.put, List.setIfInBounds_toArray, List.set_cons_zero, List.set_cons_succ])
      refine wpAnyH_take (i := 6) (v := ?_) rfl (by kernel_rfl) (by kernel_rfl) (by kernel_rfl) (fun _ _ _ h => h) (Or.inl ⟨by rfl, ?_⟩) (by assumption) ?_
      rotate_left
      · intro w' hS0; go_simp; try (with_reducible rfl)
      change wpAnyH _ _ _ _ _ _ _ (Act.put _ (some 38) _) _
      try (simp only [Act.put, List.setIfInBounds_toArray, List.set_cons_zero, List.set_cons_succ])
      refine wpAnyH_take (i := 8) (v := ?_) rfl (by kernel_rfl) (by kernel_rfl) (by kernel_rfl) (fun _ _ _ h => h) (Or.inl ⟨by rfl, ?_⟩) (by assumption) ?_
      rotate_left
      · intro w' hSw; clear hSw; go_simp; try (with_reducible rfl)
      change wpAnyH _ _ _ _ _ _ _ (Act.put _ (some 40) _) _
      try (simp only [Act.put, List.setIfInBounds_toArray, List.set_cons_zero, List.set_cons_succ])
      refine wpAnyH_take (i := 9) (v := ?_) rfl (by kernel_rfl) (by kernel_rfl) (by kernel_rfl) (fun _ _ _ h => h) (Or.inl ⟨by rfl, ?_⟩) (by assumption) ?_
      rotate_left
      · intro w' hSw; clear hSw; go_simp; try (with_reducible rfl)
      change wpAnyH _ _ _ _ _ _ _ (Act.put _ (some 41) _) _
      try (simp only [Act.put, List.setIfInBounds_toArray, List.set_cons_zero, List.set_cons_succ])
      refine wpAnyH_take (i := 10) (v := ?_) rfl (by kernel_rfl) (by kernel_rfl) (by kernel_rfl) (fun _ _ _ h => h) (Or.inl ⟨by rfl, ?_⟩) (by assumption) ?_
      rotate_left
      · intro w' hS0; go_simp; try (with_reducible rfl)
      change wpAnyH _ _ _ _ _ _ _ (Act.put _ (some 42) _) _
      try (simp only [Act.put, List.setIfInBounds_toArray, List.set_cons_zero, List.set_cons_succ])
      refine wpAnyH_ready (rs := [3]) (by kernel_rfl) (by simp) ?_
      refine AllReadyH.cons rfl (fun K hK => ?_) AllReadyH.nil
      go_simp
      refine (k1 _ (Up.drew W)).mono ?_
      rintro e W1 ⟨A1, c1, rfl, x1, rd1, lc1⟩
      have u1 : Up W W1 := Up.trans (Up.drew W) x1
      have v1 : Up W W1 := u1
      refine hK.out _ _ u1 (fun hHeld => ?_)
      clear hK K hHeld
      refine wpAnyH_more (S' := fun w' => Up W1 w') (fun w' h => Up.trans u1 h) _ _ _ _ ?_
      have hHeld := Up.refl W1
      refine wpAnyH_ready (rs := [7]) (by kernel_rfl) (by simp) ?_
      refine AllReadyH.cons rfl (fun K hK => ?_) AllReadyH.nil
      go_simp
      refine (k2 _ v1).mono ?_
      rintro e W2 ⟨A2, c2, rfl, x2, rd2, lc2⟩
      have u2 : Up W1 W2 := x2
      have v2 : Up W W2 := Up.trans v1 u2
      refine hK.out _ _ u2 (fun hHeld => ?_)
      clear hK K hHeld
      refine wpAnyH_more (S' := fun w' => Up W2 w') (fun w' h => Up.trans u2 h) _ _ _ _ ?_
      have hHeld := Up.refl W2
      refine wpAnyH_ready (rs := [11]) (by kernel_rfl) (by simp) ?_
      refine AllReadyH.cons rfl (fun K hK => ?_) AllReadyH.nil
      go_simp
      refine (k3 _ v2).mono ?_
      rintro e W3 ⟨A3, c3, rfl, x3, rd3, lc3⟩
      have u3 : Up W2 W3 := x3
      have v3 : Up W W3 := Up.trans v2 u3
      refine hK.out _ _ u3 (fun hHeld => ?_)
      clear hK K hHeld
      refine wpAnyH_more (S' := fun w' => Up W3 w') (fun w' h => Up.trans u3 h) _ _ _ _ ?_
      have hHeld := Up.refl W3
      refine wpAnyH_take (i := 12) (v := ?_) rfl (by kernel_rfl) (by kernel_rfl) (by kernel_rfl) (fun _ _ _ h => h) (Or.inl ⟨by rfl, ?_⟩) (by assumption) ?_
      rotate_left
      · intro w' hSw; clear hSw; go_simp; try (with_reducible rfl)
      change wpAnyH _ _ _ _ _ _ _ (Act.put _ (some 7) _) _
      try (simp only [Act.put, List.setIfInBounds_toArray, List.set_cons_zero, List.set_cons_succ])
      refine wpAnyH_take (i := 13) (v := ?_) rfl (by kernel_rfl) (by kernel_rfl) (by kernel_rfl) (fun _ _ _ h => h) (Or.inl ⟨by rfl, ?_⟩) (by assumption) ?_
      rotate_left
      · intro w' hSw; clear hSw; go_simp; try (with_reducible rfl)
      change wpAnyH _ _ _ _ _ _ _ (Act.put _ (some 8) _) _
      try (simp only [Act.put, List.setIfInBounds_toArray, List.set_cons_zero, List.set_cons_succ])
      refine wpAnyH_take (i := 14) (v := ?_) rfl (by kernel_rfl) (by kernel_rfl) (by kernel_rfl) (fun _ _ _ h => h) (Or.inl ⟨by rfl, ?_⟩) (by assumption) ?_
      rotate_left
      · intro w' hSw; clear hSw; go_simp; try (with_reducible rfl)
      change wpAnyH _ _ _ _ _ _ _ (Act.put _ (some 9) _) _
      try (simp only [Act.put, List.setIfInBounds_toArray, List.set_cons_zero, List.set_cons_succ])
      refine wpAnyH_done (by kernel_rfl) ?_ _
      refine NoPanic.normal ?_
      clear hHeld
      have ld0 := ld0 _ v3
      have ld1 := ld1 _ v3
      have ld2 := ld2 _ v3
      have rC := v3.rd hC
      have rB := v3.rd hB
      have rd1 := (u2.trans u3).rd rd1
      have rd2 := u3.rd rd2
      clear k1 k2 k3
      go_wp2_with (first
        | (at_builtin
           refine wpList_append_map _ U8 U8_one rfl (.tmp 45) (.tmp 46) _ rfl W3.heap.size 5 i0 _ 1 Try.underlying22 hi0 hz0 hz1 hz2 rfl (some ⟨W3.heap.size, 0, none⟩) 0 [] rfl (.inr ⟨rfl, rfl, _, rfl, Nat.le_refl _, by simp⟩) A1 c1 L1 rfl (rd1.alloc _) (by simp only [maxLen, List.length_nil]; omega) (by simp only [List.length_nil]; omega) (by simp) ?_
           intro Aa ca la wa ea howna hra hga hba hata
           obtain rfl : L1 = la := ea.out.symm
           have ha1 := ((Below.refl W3.heap.size W3).alloc (Nat.le_refl _) (.cells #[] 5)).trans hba
           clear ea hga hba hata hra)
        | (at_builtin
           refine wpList_append_map _ U8 U8_one rfl (.tmp 47) (.tmp 48) _ rfl W3.heap.size 5 i0 _ 1 Try.underlying22 hi0 hz0 hz1 hz2 rfl Aa ca L1 rfl howna C f t rfl (rC.below ha1) (by simp only [maxLen]; omega) (by omega) ha1.size ?_
           intro Ab cb lb wb eb hownb hrb hgb hbb hatb
           obtain rfl : X1 = lb := by rw [HX1.out]; exact eb.out.symm
           have hu1 := Up.of (ha1.trans hbb)
           have hrx := hownb.rd'
           have lcx : X1.length ≤ cb := (by obtain ⟨_, _, e, q, _⟩ := hownb.form; injection e with _ _ e3; omega)
           clear eb hgb hbb hatb hrb howna ha1 hownb)
        | fail)
      refine (q1 _ _ _ hrx).mono ?_
      rintro e w' ⟨rfl, rfl⟩
      have ld0 := hu1.cell ld0
      have ld1 := hu1.cell ld1
      have ld2 := hu1.cell ld2
      have rC := hu1.rd rC
      have rB := hu1.rd rB
      have rd1 := hu1.rd rd1
      have rd2 := hu1.rd rd2
      have rd3 := hu1.rd rd3
      clear hrx lcx
      generalize wb = Y0 at *
      go_wp2_with (first
        | (at_builtin
           refine wpList_append_map _ U8 U8_one rfl (.tmp 57) (.tmp 58) _ rfl Y0.heap.size 5 i0 _ 1 Try.underlying22 hi0 hz0 hz1 hz2 rfl (some ⟨Y0.heap.size, 0, none⟩) 0 [] rfl (.inr ⟨rfl, rfl, _, rfl, Nat.le_refl _, by simp⟩) A2 c2 L2 rfl (rd2.alloc _) (by simp only [maxLen, List.length_nil]; omega) (by simp only [List.length_nil]; omega) (by simp) ?_
           intro Aa ca la wa ea howna hra hga hba hata
           obtain rfl : L2 = la := ea.out.symm
           have ha2 := ((Below.refl Y0.heap.size Y0).alloc (Nat.le_refl _) (.cells #[] 5)).trans hba
           clear ea hga hba hata hra)
        | (at_builtin
           refine wpList_append_map _ U8 U8_one rfl (.tmp 59) (.tmp 60) _ rfl Y0.heap.size 5 i0 _ 1 Try.underlying22 hi0 hz0 hz1 hz2 rfl Aa ca L2 rfl howna C f t rfl (rC.below ha2) (by simp only [maxLen]; omega) (by omega) ha2.size ?_
           intro Ab cb lb wb eb hownb hrb hgb hbb hatb
           obtain rfl : X2 = lb := by rw [HX2.out]; exact eb.out.symm
           have hu2 := Up.of (ha2.trans hbb)
           have hrx := hownb.rd'
           have lcx : X2.length ≤ cb := (by obtain ⟨_, _, e, q, _⟩ := hownb.form; injection e with _ _ e3; omega)
           clear eb hgb hbb hatb hrb howna ha2 hownb)
        | fail)
      refine (q2 _ _ _ hrx lcx).mono ?_
      rintro e w' ⟨rfl, rfl⟩
      have ld0 := hu2.cell ld0
      have ld1 := hu2.cell ld1
      have ld2 := hu2.cell ld2
      have rC := hu2.rd rC
      have rB := hu2.rd rB
      have rd1 := hu2.rd rd1
      have rd2 := hu2.rd rd2
      have rd3 := hu2.rd rd3
      clear hrx lcx
      generalize wb = Y1 at *
      go_wp2_with (first
        | (at_builtin
           refine wpList_append_map _ U8 U8_one rfl (.tmp 69) (.tmp 70) _ rfl Y1.heap.size 5 i0 _ 1 Try.underlying22 hi0 hz0 hz1 hz2 rfl (some ⟨Y1.heap.size, 0, none⟩) 0 [] rfl (.inr ⟨rfl, rfl, _, rfl, Nat.le_refl _, by simp⟩) A3 c3 L3 rfl (rd3.alloc _) (by simp only [maxLen, List.length_nil]; omega) (by simp only [List.length_nil]; omega) (by simp) ?_
           intro Aa ca la wa ea howna hra hga hba hata
           obtain rfl : L3 = la := ea.out.symm
           have ha3 := ((Below.refl Y1.heap.size Y1).alloc (Nat.le_refl _) (.cells #[] 5)).trans hba
           clear ea hga hba hata hra)
        | (at_builtin
           refine wpList_append_map _ U8 U8_one rfl (.tmp 71) (.tmp 72) _ rfl Y1.heap.size 5 i0 _ 1 Try.underlying22 hi0 hz0 hz1 hz2 rfl Aa ca L3 rfl howna C f t rfl (rC.below ha3) (by simp only [maxLen]; omega) (by omega) ha3.size ?_
           intro Ab cb lb wb eb hownb hrb hgb hbb hatb
           obtain rfl : X3 = lb := by rw [HX3.out]; exact eb.out.symm
           have hu3 := Up.of (ha3.trans hbb)
           have hrx := hownb.rd'
           have lcx : X3.length ≤ cb := (by obtain ⟨_, _, e, q, _⟩ := hownb.form; injection e with _ _ e3; omega)
           clear eb hgb hbb hatb hrb howna ha3 hownb)
        | fail)
      refine (q3 _ _ _ hrx).mono ?_
      rintro e w4 ⟨A4, c4, rfl, hown4, hb4⟩
      have ld0 := hu3.cell ld0
      have ld1 := hu3.cell ld1
      have ld2 := hu3.cell ld2
      have rC := hu3.rd rC
      have rB := hu3.rd rB
      have rd1 := hu3.rd rd1
      have rd2 := hu3.rd rd2
      have rd3 := hu3.rd rd3
      clear hrx lcx
      have hY : Up W3 w4 := (hu1.trans (hu2.trans hu3)).trans (Up.of hb4)
      have ld0 := (Up.of hb4).cell ld0
      have ld1 := (Up.of hb4).cell ld1
      have ld2 := (Up.of hb4).cell ld2
      have rB := (Up.of hb4).rd rB
      have r4 := hown4.rd'
      clear hown4 hb4 hu1 hu2 hu3 rC rd1 rd2 rd3
      go_wp2_with fail
      refine (same_yes _ _ _ _ r4 (by omega) _ _ rB).mono ?_
      rintro e w5 ⟨rfl, hb5⟩
      go_wp2_with fail
      refine (awake_any _).mono ?_
      rintro e w6 ⟨rfl, hb6⟩
      go_wp2_with fail
      go_ret
      exact ⟨rfl, step_below (step_below (step_below hbw (v3.trans hY).b) hb5) hb6⟩
    · obtain ⟨f1, f2, f3⟩ := hf
      have k0 : decide (300 < (t.length : Int)) = true := by simp; omega
      go_enter Try.func7, Try.ntmps7
      go_wp2_with fail
      refine (few_yes _ _ _ _ _ _ _ _ f1 (by simpa [ByteArray.size] using f2) f3).mono ?_
      rintro e w' ⟨rfl, rfl⟩
      go_wp2_with fail
      refine (awake_any _).mono ?_
      rintro e w' ⟨rfl, hb⟩
      go_wp2_with fail
      go_ret
      exact ⟨rfl, step_below hbw hb⟩
  · go_enter Try.func7, Try.ntmps7
    go_wp2_with fail
    refine (few_no _ _ _ _ _ _ _ _ (by simpa [ByteArray.size] using hf)).mono ?_
    rintro e w' ⟨rfl, rfl⟩
    go_wp2_with fail
    refine (awake_any _).mono ?_
    rintro e w' ⟨rfl, hb⟩
    go_wp2_with fail
    go_ret
    exact ⟨rfl, step_below hbw hb⟩
end Go.Proofs.Ytklimplhlhcajaa
