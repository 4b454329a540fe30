/-
  The walk of 'same' of the statements of layer 6, over lists that are equal. Conditions: fewer than a million elements.
-/
import Derived.Test.YthjmdfimnbmbfaaFrameAll
namespace Go.Proofs.Ythjmdfimnbmbfaa
open Go.RowKit
set_option linter.unusedVariables false

theorem Rd.atCT {w : World} {A : Option Addr} {l : List CT} (h : Rd w A (l.map CTv)) {k : Nat} (hk : k < l.length) :
    ∃ b off, A = some ⟨b, off, none⟩ ∧ b < w.heap.size ∧ w.cell? ⟨b, off + k, none⟩ = some (CTv l[k]) := by
  obtain ⟨b, off, e, hb, hc⟩ := h (by intro e; simp at e; subst e; simp at hk)
  exact ⟨b, off, e, hb, hc k _ (by simp [hk])⟩

set_option maxRecDepth 20000 in
set_option maxHeartbeats 2000000 in
theorem same_any (w : World) (ks : List Int) (xs ys : List CT) (Ak Al Ac Ad : Option Addr) (ck cl cc cd : Nat) (hk : Rd w Ak (ks.map I64)) (hl : Rd w Al (ks.map I64)) (hc : Rd w Ac (xs.map CTv)) (hd : Rd w Ad (ys.map CTv))
    (hx : ∀ x ∈ xs, Rd w x.A (x.C.map U8)) (hy : ∀ x ∈ ys, Rd w x.A (x.C.map U8)) (he : contents xs = contents ys) (n1 : ks.length = xs.length) (hlen : ks.length ≤ 1000000) :
    Calls Try.prog 20 #[.slice Ak ks.length ck, .slice Ac xs.length cc, .slice Al ks.length cl, .slice Ad ys.length cd] w fun e w' => e = .returned (.bool true) ∧ Below w.heap.size w w' := by
  have n2 : xs.length = ys.length := by have := congrArg List.length he; simpa [contents] using this
  have p1 : ((ks.length : Int) != (ks.length : Int)) = false := by simp
  have p2 : ((xs.length : Int) != (ys.length : Int)) = false := by simp [n2]
  have p3 : ((ks.length : Int) != (xs.length : Int)) = false := by simp [n1]
  have N := Lib.hid (And.intro n1 (And.intro n2 he))
  clear n1 n2 he
  go_enter Try.func20, Try.ntmps20
  go_wp2
  go_loopw [9] (fun i wr => ∃ j : Nat, j ≤ ks.length ∧ i = .int .i64 j ∧ Up w wr) (fun i _ => ks.length - (intOf i).toNat)
  case atStart => exact ⟨0, by omega, rfl, Up.refl _⟩
  case round =>
    obtain ⟨j, hj, rfl, hu⟩ := hrel
    by_cases hlt : j < ks.length
    · obtain ⟨n1, n2, he⟩ := N.out
      obtain ⟨b1, o1, rfl, hb1, hc1⟩ := hk.at64 hlt
      obtain ⟨b2, o2, rfl, hb2, hc2⟩ := hl.at64 hlt
      obtain ⟨b3, o3, rfl, hb3, hc3⟩ := hc.atCT (k := j) (by omega)
      obtain ⟨b4, o4, rfl, hb4, hc4⟩ := hd.atCT (k := j) (by omega)
      have r3 := hx xs[j] (List.getElem_mem _)
      have r4 := hy (ys[j]'(by omega)) (List.getElem_mem _)
      have eC : xs[j].C = (ys[j]'(by omega)).C := by
        have h1 : (contents xs)[j]? = (contents ys)[j]? := by rw [he]
        simpa [contents, show j < xs.length by omega, show j < ys.length by omega] using h1
      generalize xs[j] = x at *
      generalize (ys[j]'(by omega)) = y at *
      obtain ⟨Ax, Cx, cx⟩ := x
      obtain ⟨Ay, Cy, cy⟩ := y
      have eC : Cx = Cy := eC
      subst eC
      have l1 : ∀ w', Up wr w' → w'.cell? ⟨b1, o1 + j, none⟩ = some (.int .i64 ks[j]) := fun w' h => (hu.trans h).cell hc1
      have l2 : ∀ w', Up wr w' → w'.cell? ⟨b2, o2 + j, none⟩ = some (.int .i64 ks[j]) := fun w' h => (hu.trans h).cell hc2
      have l3 : ∀ w', Up wr w' → w'.cell? ⟨b3, o3 + j, none⟩ = some (.slice Ax Cx.length cx) := fun w' h => (hu.trans h).cell hc3
      have l4 : ∀ w', Up wr w' → w'.cell? ⟨b4, o4 + j, none⟩ = some (.slice Ay Cx.length cy) := fun w' h => (hu.trans h).cell hc4
      have v3 : ∀ w', Up wr w' → (convert 22 9 (.slice Ax Cx.length cx)).run Try.prog w' = .ok (.string ⟨Cx.toArray⟩) w' := fun w' h => str_of w' _ _ _ ((hu.trans h).rd r3)
      have v4 : ∀ w', Up wr w' → (convert 22 9 (.slice Ay Cx.length cy)).run Try.prog w' = .ok (.string ⟨Cx.toArray⟩) w' := fun w' h => str_of w' _ _ _ ((hu.trans h).rd r4)
      have i1 : (j : Int) < ks.length := by omega
      have i2 : (j : Int) < xs.length := by omega
      have i3 : (j : Int) < ys.length := by omega
      generalize ks[j] = kj at *
      have q1 : (kj != kj) = false := by simp
      clear n1 n2 hx hy he r3 r4 hc1 hc2 hc3 hc4 hk hl hc hd
      go_wp2
      refine wp_region_noPanic ?_
      refine wp_region_held_drew (S := fun w' => Up wr w') (by kernel_rfl) (Up.drew wr) (fun hHeld => ?_)
      refine wpAnyH_take (i := 0) (v := ?_) rfl (by kernel_rfl) (by kernel_rfl) (by kernel_rfl) (fun _ _ _ h => h) (Or.inl ⟨by rfl, ?_⟩) (by assumption) ?_
      rotate_left
      · intro w' hSw; clear hSw; go_simp; try (with_reducible rfl)
      change wpAnyH _ _ _ _ _ _ _ (Act.put _ (some 35) _) _
      try (simp only [Act.put, List.setIfInBounds_toArray, List.set_cons_zero, List.set_cons_succ])
      refine wpAnyH_take (i := 1) (v := ?_) rfl (by kernel_rfl) (by kernel_rfl) (by kernel_rfl) (fun _ _ _ h => h) (Or.inl ⟨by rfl, ?_⟩) (by assumption) ?_
      rotate_left
      · intro w' hSw; clear hSw; go_simp; try (with_reducible rfl)
      change wpAnyH _ _ _ _ _ _ _ (Act.put _ (some 36) _) _
      try (simp only [Act.put, List.setIfInBounds_toArray, List.set_cons_zero, List.set_cons_succ])
      refine wpAnyH_take (i := 2) (v := ?_) rfl (by kernel_rfl) (by kernel_rfl) (by kernel_rfl) (fun _ _ _ h => h) (Or.inl ⟨by rfl, ?_⟩) (by assumption) ?_
      rotate_left
      · intro w' hSw; clear hSw; go_simp; try (with_reducible rfl)
      change wpAnyH _ _ _ _ _ _ _ (Act.put _ (some 37) _) _
      try (simp only [Act.put, List.setIfInBounds_toArray, List.set_cons_zero, List.set_cons_succ])
      refine wpAnyH_take (i := 3) (v := ?_) rfl (by kernel_rfl) (by kernel_rfl) (by kernel_rfl) (fun _ _ _ h => h) (Or.inl ⟨by rfl, ?_⟩) (by assumption) ?_
      rotate_left
      · intro w' hS0; go_simp; try (with_reducible rfl)
      change wpAnyH _ _ _ _ _ _ _ (Act.put _ (some 38) _) _
      try (simp only [Act.put, List.setIfInBounds_toArray, List.set_cons_zero, List.set_cons_succ])
      refine wpAnyH_take (i := 4) (v := ?_) rfl (by kernel_rfl) (by kernel_rfl) (by kernel_rfl) (fun _ _ _ h => h) (Or.inl ⟨by rfl, ?_⟩) (by assumption) ?_
      rotate_left
      · intro w' hSw; clear hSw; go_simp; try (with_reducible rfl)
      change wpAnyH _ _ _ _ _ _ _ (Act.put _ (some 39) _) _
      try (simp only [Act.put, List.setIfInBounds_toArray, List.set_cons_zero, List.set_cons_succ])
      refine wpAnyH_take (i := 5) (v := ?_) rfl (by kernel_rfl) (by kernel_rfl) (by kernel_rfl) (fun _ _ _ h => h) (Or.inl ⟨by rfl, ?_⟩) (by assumption) ?_
      rotate_left
      · intro w' hSw; clear hSw; go_simp; try (with_reducible rfl)
      change wpAnyH _ _ _ _ _ _ _ (Act.put _ (some 40) _) _
      try (simp only [Act.put, List.setIfInBounds_toArray, List.set_cons_zero, List.set_cons_succ])
      refine wpAnyH_take (i := 6) (v := ?_) rfl (by kernel_rfl) (by kernel_rfl) (by kernel_rfl) (fun _ _ _ h => h) (Or.inl ⟨by rfl, ?_⟩) (by assumption) ?_
      rotate_left
      · intro w' hSw; clear hSw; go_simp; try (with_reducible rfl)
      change wpAnyH _ _ _ _ _ _ _ (Act.put _ (some 41) _) _
      try (simp only [Act.put, List.setIfInBounds_toArray, List.set_cons_zero, List.set_cons_succ])
      refine wpAnyH_take (i := 7) (v := ?_) rfl (by kernel_rfl) (by kernel_rfl) (by kernel_rfl) (fun _ _ _ h => h) (Or.inl ⟨by rfl, ?_⟩) (by assumption) ?_
      rotate_left
      · intro w' hS0; go_simp; try (with_reducible rfl)
      change wpAnyH _ _ _ _ _ _ _ (Act.put _ (some 42) _) _
      try (simp only [Act.put, List.setIfInBounds_toArray, List.set_cons_zero, List.set_cons_succ])
      refine wpAnyH_take (i := 8) (v := ?_) rfl (by kernel_rfl) (by kernel_rfl) (by kernel_rfl) (fun _ _ _ h => h) (Or.inl ⟨by rfl, ?_⟩) (by assumption) ?_
      rotate_left
      · intro w' hSw; clear hSw; go_simp; try (with_reducible rfl)
      change wpAnyH _ _ _ _ _ _ _ (Act.put _ (some 43) _) _
      try (simp only [Act.put, List.setIfInBounds_toArray, List.set_cons_zero, List.set_cons_succ])
      refine wpAnyH_take (i := 9) (v := ?_) rfl (by kernel_rfl) (by kernel_rfl) (by kernel_rfl) (fun _ _ _ h => h) (Or.inl ⟨by rfl, ?_⟩) (by assumption) ?_
      rotate_left
      · intro w' hSw; clear hSw; go_simp; try (with_reducible rfl)
      change wpAnyH _ _ _ _ _ _ _ (Act.put _ (some 44) _) _
      try (simp only [Act.put, List.setIfInBounds_toArray, List.set_cons_zero, List.set_cons_succ])
      refine wpAnyH_take (i := 10) (v := ?_) rfl (by kernel_rfl) (by kernel_rfl) (by kernel_rfl) (fun _ _ _ h => h) (Or.inl ⟨by rfl, ?_⟩) (by assumption) ?_
      rotate_left
      · intro w' hSw; clear hSw; go_simp; try (with_reducible rfl)
      change wpAnyH _ _ _ _ _ _ _ (Act.put _ (some 45) _) _
      try (simp only [Act.put, List.setIfInBounds_toArray, List.set_cons_zero, List.set_cons_succ])
      refine wpAnyH_take (i := 11) (v := ?_) rfl (by kernel_rfl) (by kernel_rfl) (by kernel_rfl) (fun _ _ _ h => h) (Or.inl ⟨by rfl, ?_⟩) (by assumption) ?_
      rotate_left
      · intro w' hSw; clear hSw; go_simp; try (with_reducible rfl)
      change wpAnyH _ _ _ _ _ _ _ (Act.put _ (some 46) _) _
      try (simp only [Act.put, List.setIfInBounds_toArray, List.set_cons_zero, List.set_cons_succ])
      refine wpAnyH_take (i := 12) (v := ?_) rfl (by kernel_rfl) (by kernel_rfl) (by kernel_rfl) (fun _ _ _ h => h) (Or.inl ⟨by rfl, ?_⟩) (by assumption) ?_
      rotate_left
      · intro w' hSw; clear hSw; go_simp; try (with_reducible rfl)
      change wpAnyH _ _ _ _ _ _ _ (Act.put _ (some 47) _) _
      try (simp only [Act.put, List.setIfInBounds_toArray, List.set_cons_zero, List.set_cons_succ])
      refine wpAnyH_take (i := 13) (v := ?_) rfl (by kernel_rfl) (by kernel_rfl) (by kernel_rfl) (fun _ _ _ h => h) (Or.inl ⟨by rfl, ?_⟩) (by assumption) ?_
      rotate_left
      · intro w' hS0; go_simp; try (with_reducible rfl)
      change wpAnyH _ _ _ _ _ _ _ (Act.put _ (some 48) _) _
      try (simp only [Act.put, List.setIfInBounds_toArray, List.set_cons_zero, List.set_cons_succ])
      refine wpAnyH_take (i := 14) (v := ?_) rfl (by kernel_rfl) (by kernel_rfl) (by kernel_rfl) (fun _ _ _ h => h) (Or.inl ⟨by rfl, ?_⟩) (by assumption) ?_
      rotate_left
      · intro w' hS0; go_simp; try (with_reducible rfl)
      change wpAnyH _ _ _ _ _ _ _ (Act.put _ (some 49) _) _
      try (simp only [Act.put, List.setIfInBounds_toArray, List.set_cons_zero, List.set_cons_succ])
      refine wpAnyH_take (i := 15) (v := ?_) rfl (by kernel_rfl) (by kernel_rfl) (by kernel_rfl) (fun _ _ _ h => h) (Or.inl ⟨by rfl, ?_⟩) (by assumption) ?_
      rotate_left
      · intro w' hSw; clear hSw; go_simp; try (with_reducible rfl)
      change wpAnyH _ _ _ _ _ _ _ (Act.put _ (some 50) _) _
      try (simp only [Act.put, List.setIfInBounds_toArray, List.set_cons_zero, List.set_cons_succ])
      refine wpAnyH_take (i := 16) (v := ?_) rfl (by kernel_rfl) (by kernel_rfl) (by kernel_rfl) (fun _ _ _ h => h) (Or.inl ⟨by rfl, ?_⟩) (by assumption) ?_
      rotate_left
      · intro w' hSw; clear hSw; go_simp; try (with_reducible rfl)
      change wpAnyH _ _ _ _ _ _ _ (Act.put _ (some 51) _) _
      try (simp only [Act.put, List.setIfInBounds_toArray, List.set_cons_zero, List.set_cons_succ])
      refine wpAnyH_take (i := 17) (v := ?_) rfl (by kernel_rfl) (by kernel_rfl) (by kernel_rfl) (fun _ _ _ h => h) (Or.inl ⟨by rfl, ?_⟩) (by assumption) ?_
      rotate_left
      · intro w' hSw; clear hSw; go_simp; try (with_reducible rfl)
      change wpAnyH _ _ _ _ _ _ _ (Act.put _ (some 52) _) _
      try (simp only [Act.put, List.setIfInBounds_toArray, List.set_cons_zero, List.set_cons_succ])
      refine wpAnyH_take (i := 18) (v := ?_) rfl (by kernel_rfl) (by kernel_rfl) (by kernel_rfl) (fun _ _ _ h => h) (Or.inl ⟨by rfl, ?_⟩) (by assumption) ?_
      rotate_left
      · intro w' hS0; go_simp; try (with_reducible rfl)
      change wpAnyH _ _ _ _ _ _ _ (Act.put _ (some 53) _) _
      try (simp only [Act.put, List.setIfInBounds_toArray, List.set_cons_zero, List.set_cons_succ])
      refine wpAnyH_take (i := 19) (v := ?_) rfl (by kernel_rfl) (by kernel_rfl) (by kernel_rfl) (fun _ _ _ h => h) (Or.inl ⟨by rfl, ?_⟩) (by assumption) ?_
      rotate_left
      · intro w' hS0; go_simp; try (with_reducible rfl)
      change wpAnyH _ _ _ _ _ _ _ (Act.put _ (some 54) _) _
      try (simp only [Act.put, List.setIfInBounds_toArray, List.set_cons_zero, List.set_cons_succ])
      refine wpAnyH_take (i := 20) (v := ?_) rfl (by kernel_rfl) (by kernel_rfl) (by kernel_rfl) (fun _ _ _ h => h) (Or.inl ⟨by rfl, ?_⟩) (by assumption) ?_
      rotate_left
      · intro w' hSw; clear hSw; go_simp; try (with_reducible rfl)
      change wpAnyH _ _ _ _ _ _ _ (Act.put _ (some 55) _) _
      try (simp only [Act.put, List.setIfInBounds_toArray, List.set_cons_zero, List.set_cons_succ])
      refine wpAnyH_take (i := 21) (v := ?_) rfl (by kernel_rfl) (by kernel_rfl) (by kernel_rfl) (fun _ _ _ h => h) (Or.inl ⟨by rfl, ?_⟩) (by assumption) ?_
      rotate_left
      · intro w' hSw; clear hSw; go_simp; try (with_reducible rfl)
      change wpAnyH _ _ _ _ _ _ _ (Act.put _ (some 56) _) _
      try (simp only [Act.put, List.setIfInBounds_toArray, List.set_cons_zero, List.set_cons_succ])
      refine wpAnyH_done (by kernel_rfl) ?_ _
      refine NoPanic.normal ?_
      clear hHeld
      go_wp2
      go_roundw
      case rel => exact ⟨j + 1, by omega, by go_num, hu.trans (Up.drew _)⟩
      case measure => simp [intOf]; omega
    · go_wp2
      go_ret
      exact ⟨rfl, hu.b⟩
end Go.Proofs.Ythjmdfimnbmbfaa
