/-
  The walk of the statement WirePuts. Conditions: the arguments read as their types say.
-/
import Derived.Test.YtklimplhlhcajaaWireLaws
import Derived.Test.YtklimplhlhcajaaHeld2
namespace Go.Proofs.Ytklimplhlhcajaa
open Go.RowKit
set_option linter.unusedVariables false

/-- the call returns new bytes: as a string they are L, in whatever later world -/
def RetStrU (L : List UInt8) (w : World) (e : Ending) (w' : World) : Prop :=
  ∃ A c, e = .returned (.slice A L.length c) ∧ Up w w' ∧ ∀ w'', Up w' w'' → (convert 22 9 (.slice A L.length c)).run Try.prog w'' = .ok (.string ⟨L.toArray⟩) w''
theorem RetNew.strU {l : List UInt8} {w : World} {e : Ending} {w' : World} (h : RetNew U8 5 l w e w') : RetStrU l w e w' := by
  obtain ⟨A, c, he, hr, hb⟩ := h.rd
  exact ⟨A, c, he, Up.of hb, fun w'' h => str_of w'' A c l (h.rd hr)⟩
/-- the three cells of a boxed struct -/
theorem box3 (w : World) (x y z : Value) (t : TypeId) : (w.alloc (.cells #[x, y, z] t)).cell? ⟨w.heap.size, 0, none⟩ = some x ∧ (w.alloc (.cells #[x, y, z] t)).cell? ⟨w.heap.size, 1, none⟩ = some y ∧ (w.alloc (.cells #[x, y, z] t)).cell? ⟨w.heap.size, 2, none⟩ = some z := by
  refine ⟨?_, ?_, ?_⟩ <;> (rw [cell_of_row _ _ _ _ _ _ (heap_alloc_new w _)]; rfl)

set_option maxRecDepth 20000 in
set_option maxHeartbeats 4000000 in
theorem walk_WirePuts (w : World) (A : Option Addr) (c : Nat) (l : List UInt8) (h : Rd w A (l.map U8)) (hl : l.length ≤ maxLen) (hlc : l.length ≤ c)
    (n : Int) (s : List UInt8) (B : Option Addr) (m : List Int) (d : Nat) (bn : -9223372036854775808 ≤ n ∧ n ≤ 9223372036854775807) (bs : s.length ≤ maxLen) (hB : Rd w B (m.map I64)) (hm : m.length ≤ maxLen)
    (hbd : ∀ n ∈ m, -9223372036854775808 ≤ n ∧ n ≤ 9223372036854775807) (hmd : m.length ≤ d) :
    Calls Try.prog 4 #[.slice A l.length c, .agg #[.int .i64 n, .string ⟨s.toArray⟩, .slice B m.length d]] w fun e w' => e = .returned (.bool true) ∧ Below w.heap.size w w' := by
  by_cases hf : l.length ≤ 300 ∧ s.length ≤ 300 ∧ m.length ≤ 100
  · obtain ⟨f1, f2, f3⟩ := hf
    obtain ⟨g0, g1, g2⟩ := box3 w (.int .i64 n) (.string ⟨s.toArray⟩) (.slice B m.length d) 31
    have hbw : Below w.heap.size w (w.alloc (.cells #[.int .i64 n, .string ⟨s.toArray⟩, .slice B m.length d] 31)) := (Below.refl _ _).alloc (Nat.le_refl _) _
    have hA := h.below hbw
    have hB := hB.below hbw
    go_enter Try.func4, Try.ntmps4
    go_wp2_with fail
    refine (few_yes _ _ _ _ _ _ _ _ f1 (by simpa [ByteArray.size] using f2) f3).mono ?_
    rintro e w' ⟨rfl, rfl⟩
    have Hbd := Lib.hid hbd
    clear hbd h
    generalize w.alloc (.cells #[.int .i64 n, .string ⟨s.toArray⟩, .slice B m.length d] 31) = W at *
    go_wp2_with fail
    have ld0 : ∀ w', Up W w' → w'.cell? ⟨w.heap.size, 0, none⟩ = some (.int .i64 n) := fun w' h => h.cell g0
    have ld1 : ∀ w', Up W w' → w'.cell? ⟨w.heap.size, 1, none⟩ = some (.string ⟨s.toArray⟩) := fun w' h => h.cell g1
    have ld2 : ∀ w', Up W w' → w'.cell? ⟨w.heap.size, 2, none⟩ = some (.slice B m.length d) := fun w' h => h.cell g2
    have k1 : ∀ w', Up W w' → Calls Try.prog 14 #[.slice A l.length c, .int .i64 n] w' (RetStrU (l ++ enc n) w') := fun w' h => (putInt_any _ _ _ _ (h.rd hA) (by omega) n bn.1 bn.2).mono fun _ _ h => h.strU
    have k2 : ∀ w', Up W w' → Calls Try.prog 15 #[.slice A l.length c, .int .i64 n] w' (RetStrU (l ++ enc n) w') := fun w' h => (rputInt_any _ _ _ _ (h.rd hA) (by omega) n bn.1 bn.2).mono fun _ _ h => h.strU
    have k3 : ∀ w', Up W w' → Calls Try.prog 16 #[.slice A l.length c, .string ⟨s.toArray⟩] w' (RetStrU (l ++ encT s) w') := fun w' h => (putText_any _ _ _ _ (h.rd hA) (by omega) s (by omega)).mono fun _ _ h => h.strU
    have k4 : ∀ w', Up W w' → Calls Try.prog 17 #[.slice A l.length c, .string ⟨s.toArray⟩] w' (RetStrU (l ++ encT s) w') := fun w' h => (rputText_any _ _ _ _ (h.rd hA) (by omega) s (by omega)).mono fun _ _ h => h.strU
    have k5 : ∀ w', Up W w' → Calls Try.prog 18 #[.slice A l.length c, .slice B m.length d] w' (RetStrU (l ++ encL m) w') := fun w' h => (putInts_any _ _ _ _ (h.rd hA) (by omega) _ _ m (h.rd hB) (by omega) Hbd.out).mono fun _ _ h => h.strU
    have k6 : ∀ w', Up W w' → Calls Try.prog 19 #[.slice A l.length c, .slice B m.length d] w' (RetStrU (l ++ encL m) w') := fun w' h => (rputInts_any _ _ _ _ (h.rd hA) (by omega) _ _ m (h.rd hB) (by omega) Hbd.out).mono fun _ _ h => h.strU
    generalize l ++ enc n = L1 at *
    generalize l ++ encT s = L2 at *
    generalize l ++ encL m = L3 at *
    clear g0 g1 g2 hA hB
    refine wp_region_noPanic ?_
    refine wp_region_held_drew (S := fun w' => Up W w') (by kernel_rfl) (Up.drew W) (fun hHeld => ?_)
    refine wpAnyH_take (i := 0) (v := ?_) rfl (by kernel_rfl) (by kernel_rfl) (by kernel_rfl) (fun _ _ _ h => h) (Or.inl ⟨by rfl, ?_⟩) (by assumption) ?_
    rotate_left
    · intro w' hSw; clear hSw; go_simp; try (with_reducible rfl)
    change wpAnyH _ _ _ _ _ _ _ (Act.put _ (some 13) _) _
    try (simp only [Act.put, List.setIfInBounds_toArray, List.set_cons_zero, List.set_cons_succ])
    refine wpAnyH_take (i := 1) (v := ?_) rfl (by kernel_rfl) (by kernel_rfl) (by kernel_rfl) (fun _ _ _ h => h) (Or.inl ⟨by rfl, ?_⟩) (by assumption) ?_
    rotate_left
    · intro w' hSw; clear hSw; go_simp; try (with_reducible rfl)
    change wpAnyH _ _ _ _ _ _ _ (Act.put _ (some 14) _) _
    try (simp only [Act.put, List.setIfInBounds_toArray, List.set_cons_zero, List.set_cons_succ])
    refine wpAnyH_take (i := 2) (v := ?_) rfl (by kernel_rfl) (by kernel_rfl) (by kernel_rfl) (fun _ _ _ h => h) (Or.inl ⟨by rfl, ?_⟩) (by assumption) ?_
    rotate_left
    · intro w' hS0; go_simp; try (with_reducible rfl)
    change wpAnyH _ _ _ _ _ _ _ (Act.put _ (some 15) _) _
    try (simp only [Act.put, List.setIfInBounds_toArray, List.set_cons_zero, List.set_cons_succ])
    refine wpAnyH_take (i := 5) (v := ?_) rfl (by kernel_rfl) (by kernel_rfl) (by kernel_rfl) (fun _ _ _ h => h) (Or.inl ⟨by rfl, ?_⟩) (by assumption) ?_
    rotate_left
    · intro w' hSw; clear hSw; go_simp; try (with_reducible rfl)
    change wpAnyH _ _ _ _ _ _ _ (Act.put _ (some 18) _) _
    try (simp only [Act.put, List.setIfInBounds_toArray, List.set_cons_zero, List.set_cons_succ])
    refine wpAnyH_take (i := 6) (v := ?_) rfl (by kernel_rfl) (by kernel_rfl) (by kernel_rfl) (fun _ _ _ h => h) (Or.inl ⟨by rfl, ?_⟩) (by assumption) ?_
    rotate_left
    · intro w' hSw; clear hSw; go_simp; try (with_reducible rfl)
    change wpAnyH _ _ _ _ _ _ _ (Act.put _ (some 19) _) _
    try (simp only [Act.put, List.setIfInBounds_toArray, List.set_cons_zero, List.set_cons_succ])
    refine wpAnyH_take (i := 7) (v := ?_) rfl (by kernel_rfl) (by kernel_rfl) (by kernel_rfl) (fun _ _ _ h => h) (Or.inl ⟨by rfl, ?_⟩) (by assumption) ?_
    rotate_left
    · intro w' hS0; go_simp; try (with_reducible rfl)
    change wpAnyH _ _ _ _ _ _ _ (Act.put _ (some 20) _) _
    try (simp only [Act.put, List.setIfInBounds_toArray, List.set_cons_zero, List.set_cons_succ])
    refine wpAnyH_ready (rs := [3]) (by kernel_rfl) (by simp) ?_
    refine AllReadyH.cons rfl (fun K hK => ?_) AllReadyH.nil
    go_simp
    refine (k1 _ (Up.drew W)).mono ?_
    rintro e W1 ⟨A1, c1, rfl, x1, cv1⟩
    have u1 : Up W W1 := Up.trans (Up.drew W) x1
    have v1 : Up W W1 := u1
    refine hK.out _ _ u1 (fun hHeld => ?_)
    clear hK K hHeld
    refine wpAnyH_more (S' := fun w' => Up W1 w') (fun w' h => Up.trans u1 h) _ _ _ _ ?_
    have hHeld := Up.refl W1
    refine wpAnyH_take (i := 4) (v := ?_) rfl (by kernel_rfl) (by kernel_rfl) (by kernel_rfl) (fun _ _ _ h => h) (Or.inl ⟨by rfl, ?_⟩) (by assumption) ?_
    rotate_left
    · intro w' hS1; have hS0 := Up.trans u1 hS1; go_simp; try (with_reducible rfl)
    change wpAnyH _ _ _ _ _ _ _ (Act.put _ (some 17) _) _
    try (simp only [Act.put, List.setIfInBounds_toArray, List.set_cons_zero, List.set_cons_succ])
    refine wpAnyH_ready (rs := [8]) (by kernel_rfl) (by simp) ?_
    refine AllReadyH.cons rfl (fun K hK => ?_) AllReadyH.nil
    go_simp
    refine (k2 _ v1).mono ?_
    rintro e W2 ⟨A2, c2, rfl, x2, cv2⟩
    have u2 : Up W1 W2 := x2
    have v2 : Up W W2 := Up.trans v1 u2
    refine hK.out _ _ u2 (fun hHeld => ?_)
    clear hK K hHeld
    refine wpAnyH_more (S' := fun w' => Up W2 w') (fun w' h => Up.trans u2 h) _ _ _ _ ?_
    have hHeld := Up.refl W2
    refine wpAnyH_take (i := 9) (v := ?_) rfl (by kernel_rfl) (by kernel_rfl) (by kernel_rfl) (fun _ _ _ h => h) (Or.inl ⟨by rfl, ?_⟩) (by assumption) ?_
    rotate_left
    · intro w' hS2; have hS1 := Up.trans u2 hS2; have hS0 := Up.trans u1 hS1; go_simp; try (with_reducible rfl)
    change wpAnyH _ _ _ _ _ _ _ (Act.put _ (some 22) _) _
    try (simp only [Act.put, List.setIfInBounds_toArray, List.set_cons_zero, List.set_cons_succ])
    refine wpAnyH_take (i := 10) (v := ?_) rfl (by kernel_rfl) (by kernel_rfl) (by kernel_rfl) (fun _ _ _ h => h) (Or.inl ⟨by rfl, ?_⟩) (by assumption) ?_
    rotate_left
    · intro w' hSw; clear hSw; go_simp; try (with_reducible rfl)
    change wpAnyH _ _ _ _ _ _ _ (Act.put _ (some 23) _) _
    try (simp only [Act.put, List.setIfInBounds_toArray, List.set_cons_zero, List.set_cons_succ])
    refine wpAnyH_take (i := 11) (v := ?_) rfl (by kernel_rfl) (by kernel_rfl) (by kernel_rfl) (fun _ _ _ h => h) (Or.inl ⟨by rfl, ?_⟩) (by assumption) ?_
    rotate_left
    · intro w' hSw; clear hSw; go_simp; try (with_reducible rfl)
    change wpAnyH _ _ _ _ _ _ _ (Act.put _ (some 24) _) _
    try (simp only [Act.put, List.setIfInBounds_toArray, List.set_cons_zero, List.set_cons_succ])
    refine wpAnyH_take (i := 12) (v := ?_) rfl (by kernel_rfl) (by kernel_rfl) (by kernel_rfl) (fun _ _ _ h => h) (Or.inl ⟨by rfl, ?_⟩) (by assumption) ?_
    rotate_left
    · intro w' hSw; clear hSw; go_simp; try (with_reducible rfl)
    change wpAnyH _ _ _ _ _ _ _ (Act.put _ (some 25) _) _
    try (simp only [Act.put, List.setIfInBounds_toArray, List.set_cons_zero, List.set_cons_succ])
    refine wpAnyH_take (i := 13) (v := ?_) rfl (by kernel_rfl) (by kernel_rfl) (by kernel_rfl) (fun _ _ _ h => h) (Or.inl ⟨by rfl, ?_⟩) (by assumption) ?_
    rotate_left
    · intro w' hSw; clear hSw; go_simp; try (with_reducible rfl)
    change wpAnyH _ _ _ _ _ _ _ (Act.put _ (some 26) _) _
    try (simp only [Act.put, List.setIfInBounds_toArray, List.set_cons_zero, List.set_cons_succ])
    refine wpAnyH_take (i := 14) (v := ?_) rfl (by kernel_rfl) (by kernel_rfl) (by kernel_rfl) (fun _ _ _ h => h) (Or.inl ⟨by rfl, ?_⟩) (by assumption) ?_
    rotate_left
    · intro w' hS2; have hS1 := Up.trans u2 hS2; have hS0 := Up.trans u1 hS1; go_simp; try (with_reducible rfl)
    change wpAnyH _ _ _ _ _ _ _ (Act.put _ (some 27) _) _
    try (simp only [Act.put, List.setIfInBounds_toArray, List.set_cons_zero, List.set_cons_succ])
    refine wpAnyH_take (i := 17) (v := ?_) rfl (by kernel_rfl) (by kernel_rfl) (by kernel_rfl) (fun _ _ _ h => h) (Or.inl ⟨by rfl, ?_⟩) (by assumption) ?_
    rotate_left
    · intro w' hSw; clear hSw; go_simp; try (with_reducible rfl)
    change wpAnyH _ _ _ _ _ _ _ (Act.put _ (some 30) _) _
    try (simp only [Act.put, List.setIfInBounds_toArray, List.set_cons_zero, List.set_cons_succ])
    refine wpAnyH_take (i := 18) (v := ?_) rfl (by kernel_rfl) (by kernel_rfl) (by kernel_rfl) (fun _ _ _ h => h) (Or.inl ⟨by rfl, ?_⟩) (by assumption) ?_
    rotate_left
    · intro w' hSw; clear hSw; go_simp; try (with_reducible rfl)
    change wpAnyH _ _ _ _ _ _ _ (Act.put _ (some 31) _) _
    try (simp only [Act.put, List.setIfInBounds_toArray, List.set_cons_zero, List.set_cons_succ])
    refine wpAnyH_take (i := 19) (v := ?_) rfl (by kernel_rfl) (by kernel_rfl) (by kernel_rfl) (fun _ _ _ h => h) (Or.inl ⟨by rfl, ?_⟩) (by assumption) ?_
    rotate_left
    · intro w' hS2; have hS1 := Up.trans u2 hS2; have hS0 := Up.trans u1 hS1; go_simp; try (with_reducible rfl)
    change wpAnyH _ _ _ _ _ _ _ (Act.put _ (some 32) _) _
    try (simp only [Act.put, List.setIfInBounds_toArray, List.set_cons_zero, List.set_cons_succ])
    refine wpAnyH_ready (rs := [15]) (by kernel_rfl) (by simp) ?_
    refine AllReadyH.cons rfl (fun K hK => ?_) AllReadyH.nil
    go_simp
    refine (k3 _ v2).mono ?_
    rintro e W3 ⟨A3, c3, rfl, x3, cv3⟩
    have u3 : Up W2 W3 := x3
    have v3 : Up W W3 := Up.trans v2 u3
    refine hK.out _ _ u3 (fun hHeld => ?_)
    clear hK K hHeld
    refine wpAnyH_more (S' := fun w' => Up W3 w') (fun w' h => Up.trans u3 h) _ _ _ _ ?_
    have hHeld := Up.refl W3
    refine wpAnyH_take (i := 16) (v := ?_) rfl (by kernel_rfl) (by kernel_rfl) (by kernel_rfl) (fun _ _ _ h => h) (Or.inl ⟨by rfl, ?_⟩) (by assumption) ?_
    rotate_left
    · intro w' hS3; have hS2 := Up.trans u3 hS3; have hS1 := Up.trans u2 hS2; have hS0 := Up.trans u1 hS1; go_simp; try (with_reducible rfl)
    change wpAnyH _ _ _ _ _ _ _ (Act.put _ (some 29) _) _
    try (simp only [Act.put, List.setIfInBounds_toArray, List.set_cons_zero, List.set_cons_succ])
    refine wpAnyH_ready (rs := [20]) (by kernel_rfl) (by simp) ?_
    refine AllReadyH.cons rfl (fun K hK => ?_) AllReadyH.nil
    go_simp
    refine (k4 _ v3).mono ?_
    rintro e W4 ⟨A4, c4, rfl, x4, cv4⟩
    have u4 : Up W3 W4 := x4
    have v4 : Up W W4 := Up.trans v3 u4
    refine hK.out _ _ u4 (fun hHeld => ?_)
    clear hK K hHeld
    refine wpAnyH_more (S' := fun w' => Up W4 w') (fun w' h => Up.trans u4 h) _ _ _ _ ?_
    have hHeld := Up.refl W4
    refine wpAnyH_take (i := 21) (v := ?_) rfl (by kernel_rfl) (by kernel_rfl) (by kernel_rfl) (fun _ _ _ h => h) (Or.inl ⟨by rfl, ?_⟩) (by assumption) ?_
    rotate_left
    · intro w' hS4; have hS3 := Up.trans u4 hS4; have hS2 := Up.trans u3 hS3; have hS1 := Up.trans u2 hS2; have hS0 := Up.trans u1 hS1; go_simp; try (with_reducible rfl)
    change wpAnyH _ _ _ _ _ _ _ (Act.put _ (some 34) _) _
    try (simp only [Act.put, List.setIfInBounds_toArray, List.set_cons_zero, List.set_cons_succ])
    refine wpAnyH_take (i := 22) (v := ?_) rfl (by kernel_rfl) (by kernel_rfl) (by kernel_rfl) (fun _ _ _ h => h) (Or.inl ⟨by rfl, ?_⟩) (by assumption) ?_
    rotate_left
    · intro w' hSw; clear hSw; go_simp; try (with_reducible rfl)
    change wpAnyH _ _ _ _ _ _ _ (Act.put _ (some 35) _) _
    try (simp only [Act.put, List.setIfInBounds_toArray, List.set_cons_zero, List.set_cons_succ])
    refine wpAnyH_take (i := 23) (v := ?_) rfl (by kernel_rfl) (by kernel_rfl) (by kernel_rfl) (fun _ _ _ h => h) (Or.inl ⟨by rfl, ?_⟩) (by assumption) ?_
    rotate_left
    · intro w' hSw; clear hSw; go_simp; try (with_reducible rfl)
    change wpAnyH _ _ _ _ _ _ _ (Act.put _ (some 36) _) _
    try (simp only [Act.put, List.setIfInBounds_toArray, List.set_cons_zero, List.set_cons_succ])
    refine wpAnyH_take (i := 24) (v := ?_) rfl (by kernel_rfl) (by kernel_rfl) (by kernel_rfl) (fun _ _ _ h => h) (Or.inl ⟨by rfl, ?_⟩) (by assumption) ?_
    rotate_left
    · intro w' hSw; clear hSw; go_simp; try (with_reducible rfl)
    change wpAnyH _ _ _ _ _ _ _ (Act.put _ (some 37) _) _
    try (simp only [Act.put, List.setIfInBounds_toArray, List.set_cons_zero, List.set_cons_succ])
    refine wpAnyH_take (i := 25) (v := ?_) rfl (by kernel_rfl) (by kernel_rfl) (by kernel_rfl) (fun _ _ _ h => h) (Or.inl ⟨by rfl, ?_⟩) (by assumption) ?_
    rotate_left
    · intro w' hSw; clear hSw; go_simp; try (with_reducible rfl)
    change wpAnyH _ _ _ _ _ _ _ (Act.put _ (some 38) _) _
    try (simp only [Act.put, List.setIfInBounds_toArray, List.set_cons_zero, List.set_cons_succ])
    refine wpAnyH_take (i := 26) (v := ?_) rfl (by kernel_rfl) (by kernel_rfl) (by kernel_rfl) (fun _ _ _ h => h) (Or.inl ⟨by rfl, ?_⟩) (by assumption) ?_
    rotate_left
    · intro w' hSw; clear hSw; go_simp; try (with_reducible rfl)
    change wpAnyH _ _ _ _ _ _ _ (Act.put _ (some 39) _) _
    try (simp only [Act.put, List.setIfInBounds_toArray, List.set_cons_zero, List.set_cons_succ])
    refine wpAnyH_take (i := 27) (v := ?_) rfl (by kernel_rfl) (by kernel_rfl) (by kernel_rfl) (fun _ _ _ h => h) (Or.inl ⟨by rfl, ?_⟩) (by assumption) ?_
    rotate_left
    · intro w' hS4; have hS3 := Up.trans u4 hS4; have hS2 := Up.trans u3 hS3; have hS1 := Up.trans u2 hS2; have hS0 := Up.trans u1 hS1; go_simp; try (with_reducible rfl)
    change wpAnyH _ _ _ _ _ _ _ (Act.put _ (some 40) _) _
    try (simp only [Act.put, List.setIfInBounds_toArray, List.set_cons_zero, List.set_cons_succ])
    refine wpAnyH_take (i := 30) (v := ?_) rfl (by kernel_rfl) (by kernel_rfl) (by kernel_rfl) (fun _ _ _ h => h) (Or.inl ⟨by rfl, ?_⟩) (by assumption) ?_
    rotate_left
    · intro w' hSw; clear hSw; go_simp; try (with_reducible rfl)
    change wpAnyH _ _ _ _ _ _ _ (Act.put _ (some 43) _) _
    try (simp only [Act.put, List.setIfInBounds_toArray, List.set_cons_zero, List.set_cons_succ])
    refine wpAnyH_take (i := 31) (v := ?_) rfl (by kernel_rfl) (by kernel_rfl) (by kernel_rfl) (fun _ _ _ h => h) (Or.inl ⟨by rfl, ?_⟩) (by assumption) ?_
    rotate_left
    · intro w' hSw; clear hSw; go_simp; try (with_reducible rfl)
    change wpAnyH _ _ _ _ _ _ _ (Act.put _ (some 44) _) _
    try (simp only [Act.put, List.setIfInBounds_toArray, List.set_cons_zero, List.set_cons_succ])
    refine wpAnyH_take (i := 32) (v := ?_) rfl (by kernel_rfl) (by kernel_rfl) (by kernel_rfl) (fun _ _ _ h => h) (Or.inl ⟨by rfl, ?_⟩) (by assumption) ?_
    rotate_left
    · intro w' hS4; have hS3 := Up.trans u4 hS4; have hS2 := Up.trans u3 hS3; have hS1 := Up.trans u2 hS2; have hS0 := Up.trans u1 hS1; go_simp; try (with_reducible rfl)
    change wpAnyH _ _ _ _ _ _ _ (Act.put _ (some 45) _) _
    try (simp only [Act.put, List.setIfInBounds_toArray, List.set_cons_zero, List.set_cons_succ])
    refine wpAnyH_ready (rs := [28]) (by kernel_rfl) (by simp) ?_
    refine AllReadyH.cons rfl (fun K hK => ?_) AllReadyH.nil
    go_simp
    refine (k5 _ v4).mono ?_
    rintro e W5 ⟨A5, c5, rfl, x5, cv5⟩
    have u5 : Up W4 W5 := x5
    have v5 : Up W W5 := Up.trans v4 u5
    refine hK.out _ _ u5 (fun hHeld => ?_)
    clear hK K hHeld
    refine wpAnyH_more (S' := fun w' => Up W5 w') (fun w' h => Up.trans u5 h) _ _ _ _ ?_
    have hHeld := Up.refl W5
    refine wpAnyH_take (i := 29) (v := ?_) rfl (by kernel_rfl) (by kernel_rfl) (by kernel_rfl) (fun _ _ _ h => h) (Or.inl ⟨by rfl, ?_⟩) (by assumption) ?_
    rotate_left
    · intro w' hS5; have hS4 := Up.trans u5 hS5; have hS3 := Up.trans u4 hS4; have hS2 := Up.trans u3 hS3; have hS1 := Up.trans u2 hS2; have hS0 := Up.trans u1 hS1; go_simp; try (with_reducible rfl)
    change wpAnyH _ _ _ _ _ _ _ (Act.put _ (some 42) _) _
    try (simp only [Act.put, List.setIfInBounds_toArray, List.set_cons_zero, List.set_cons_succ])
    refine wpAnyH_ready (rs := [33]) (by kernel_rfl) (by simp) ?_
    refine AllReadyH.cons rfl (fun K hK => ?_) AllReadyH.nil
    go_simp
    refine (k6 _ v5).mono ?_
    rintro e W6 ⟨A6, c6, rfl, x6, cv6⟩
    have u6 : Up W5 W6 := x6
    have v6 : Up W W6 := Up.trans v5 u6
    refine hK.out _ _ u6 (fun hHeld => ?_)
    clear hK K hHeld
    refine wpAnyH_more (S' := fun w' => Up W6 w') (fun w' h => Up.trans u6 h) _ _ _ _ ?_
    have hHeld := Up.refl W6
    refine wpAnyH_take (i := 34) (v := ?_) rfl (by kernel_rfl) (by kernel_rfl) (by kernel_rfl) (fun _ _ _ h => h) (Or.inl ⟨by rfl, ?_⟩) (by assumption) ?_
    rotate_left
    · intro w' hS6; have hS5 := Up.trans u6 hS6; have hS4 := Up.trans u5 hS5; have hS3 := Up.trans u4 hS4; have hS2 := Up.trans u3 hS3; have hS1 := Up.trans u2 hS2; have hS0 := Up.trans u1 hS1; go_simp; try (with_reducible rfl)
    change wpAnyH _ _ _ _ _ _ _ (Act.put _ (some 47) _) _
    try (simp only [Act.put, List.setIfInBounds_toArray, List.set_cons_zero, List.set_cons_succ])
    refine wpAnyH_take (i := 35) (v := ?_) rfl (by kernel_rfl) (by kernel_rfl) (by kernel_rfl) (fun _ _ _ h => h) (Or.inl ⟨by rfl, ?_⟩) (by assumption) ?_
    rotate_left
    · intro w' hSw; clear hSw; go_simp; try (with_reducible rfl)
    change wpAnyH _ _ _ _ _ _ _ (Act.put _ (some 48) _) _
    try (simp only [Act.put, List.setIfInBounds_toArray, List.set_cons_zero, List.set_cons_succ])
    refine wpAnyH_take (i := 36) (v := ?_) rfl (by kernel_rfl) (by kernel_rfl) (by kernel_rfl) (fun _ _ _ h => h) (Or.inl ⟨by rfl, ?_⟩) (by assumption) ?_
    rotate_left
    · intro w' hSw; clear hSw; go_simp; try (with_reducible rfl)
    change wpAnyH _ _ _ _ _ _ _ (Act.put _ (some 49) _) _
    try (simp only [Act.put, List.setIfInBounds_toArray, List.set_cons_zero, List.set_cons_succ])
    refine wpAnyH_take (i := 37) (v := ?_) rfl (by kernel_rfl) (by kernel_rfl) (by kernel_rfl) (fun _ _ _ h => h) (Or.inl ⟨by rfl, ?_⟩) (by assumption) ?_
    rotate_left
    · intro w' hSw; clear hSw; go_simp; try (with_reducible rfl)
    change wpAnyH _ _ _ _ _ _ _ (Act.put _ (some 50) _) _
    try (simp only [Act.put, List.setIfInBounds_toArray, List.set_cons_zero, List.set_cons_succ])
    refine wpAnyH_ready (rs := [38]) (by kernel_rfl) (by simp) ?_
    refine AllReadyH.cons rfl (fun K hK => ?_) AllReadyH.nil
    go_simp
    refine (awake_any _).mono ?_
    rintro e W7 ⟨rfl, hb7⟩
    have u7 : Up W6 W7 := Up.of hb7
    refine hK.out _ _ u7 (fun hHeld => ?_)
    clear hK K hHeld
    refine wpAnyH_more (S' := fun w' => Up W7 w') (fun w' h => Up.trans u7 h) _ _ _ _ ?_
    have hHeld := Up.refl W7
    refine wpAnyH_take (i := 39) (v := ?_) rfl (by kernel_rfl) (by kernel_rfl) (by kernel_rfl) (fun _ _ _ h => h) (Or.inl ⟨by rfl, ?_⟩) (by assumption) ?_
    rotate_left
    · intro w' hSw; clear hSw; go_simp; try (with_reducible rfl)
    change wpAnyH _ _ _ _ _ _ _ (Act.put _ (some 52) _) _
    try (simp only [Act.put, List.setIfInBounds_toArray, List.set_cons_zero, List.set_cons_succ])
    refine wpAnyH_take (i := 40) (v := ?_) rfl (by kernel_rfl) (by kernel_rfl) (by kernel_rfl) (fun _ _ _ h => h) (Or.inl ⟨by rfl, ?_⟩) (by assumption) ?_
    rotate_left
    · intro w' hSw; clear hSw; go_simp; try (with_reducible rfl)
    change wpAnyH _ _ _ _ _ _ _ (Act.put _ (some 4) _) _
    try (simp only [Act.put, List.setIfInBounds_toArray, List.set_cons_zero, List.set_cons_succ])
    refine wpAnyH_done (by kernel_rfl) ?_ _
    refine NoPanic.normal ?_
    clear hHeld
    go_wp2
    go_ret
    exact ⟨rfl, step_below hbw ((Up.trans v6 u7).b)⟩
  · obtain ⟨g0, g1, g2⟩ := box3 w (.int .i64 n) (.string ⟨s.toArray⟩) (.slice B m.length d) 31
    have hbw : Below w.heap.size w (w.alloc (.cells #[.int .i64 n, .string ⟨s.toArray⟩, .slice B m.length d] 31)) := (Below.refl _ _).alloc (Nat.le_refl _) _
    go_enter Try.func4, Try.ntmps4
    go_wp2_with fail
    refine (few_no _ _ _ _ _ _ _ _ (by simpa [ByteArray.size] using hf)).mono ?_
    rintro e w' ⟨rfl, rfl⟩
    go_wp2_with fail
    refine (awake_any _).mono ?_
    rintro e w' ⟨rfl, hb⟩
    go_wp2_with fail
    go_ret
    exact ⟨rfl, step_below hbw hb⟩
end Go.Proofs.Ytklimplhlhcajaa
