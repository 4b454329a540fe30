/-
  The walks of the reference's within, Identifier, Right (of spans), note and set of layer 49. Conditions: numbers are ints.
-/
import Derived.Test.YtfjiikcbcoohdaaDoorOpsCheck
import Derived.Test.YtfjiikcbcoohdaaDoorRTextWalk2
namespace Go.Proofs.YtfjiikcbcoohdaaDoor
open Go.RowKit
set_option linter.unusedVariables false

set_option maxHeartbeats 400000 in
theorem within_any (w : World) (n a b : Int) : Calls Tryd.prog 34 #[.int .i64 n, .int .i64 a, .int .i64 b] w fun e w' => e = .returned (.bool (decide (a ≤ n ∧ n ≤ b))) ∧ w = w' := by
  go_enter Tryd.func34, Tryd.ntmps34
  go_wp2
  all_goals
    go_ret
    exact ⟨ret_bool (by rw [Bool.eq_iff_iff]; simp; omega), rfl⟩
theorem within_is (w : World) {n a b : Int} {r : Bool} (h : decide (a ≤ n ∧ n ≤ b) = r) : Calls Tryd.prog 34 #[.int .i64 n, .int .i64 a, .int .i64 b] w fun e w' => e = .returned (.bool r) ∧ w = w' := by
  subst h; exact within_any w n a b
set_option maxHeartbeats 400000 in
theorem ident_any (w : World) (n : Int) : Calls Tryd.prog 35 #[.int .i64 n] w fun e w' => e = .returned (.bool (decide (1 ≤ n ∧ n ≤ 1099511627776))) ∧ w = w' := by
  go_enter Tryd.func35, Tryd.ntmps35
  go_wp2
  all_goals
    go_ret
    exact ⟨ret_bool (by rw [Bool.eq_iff_iff]; simp; omega), rfl⟩
set_option maxHeartbeats 400000 in
theorem rspan_any (w : World) (a b : Int) :
    Calls Tryd.prog 60 #[.agg #[.int .i64 a, .int .i64 b]] w fun e w' => e = .returned (.bool (spanB a b)) ∧ w.alloc (.cells #[.int .i64 a, .int .i64 b] 25) = w' := by
  have hi : spanB a b = true ↔ (0 ≤ a ∧ a < b ∧ b ≤ 86400000) := by unfold spanB; exact decide_eq_true_iff
  have H := Lib.hid hi
  clear hi
  go_enter Tryd.func60, Tryd.ntmps60
  go_wp2
  all_goals
    go_ret
    exact ⟨ret_bool (by rw [Bool.eq_iff_iff, H.out]; simp; omega), rfl⟩
theorem rspan_is (w : World) {a b : Int} {r : Bool} (h : spanB a b = r) :
    Calls Tryd.prog 60 #[.agg #[.int .i64 a, .int .i64 b]] w fun e w' => e = .returned (.bool r) ∧ w.alloc (.cells #[.int .i64 a, .int .i64 b] 25) = w' := by
  subst h; exact rspan_any w a b
theorem rless_is (w : World) {r : Bool} {a b c d : Int} (h : lessB a b c d = r) : Calls Tryd.prog 58 #[.agg #[.int .i64 a, .int .i64 b], .agg #[.int .i64 c, .int .i64 d]] w (RetBool r w) := by
  subst h; exact rless_any w a b c d
theorem rof_is (w : World) {r : Bool} {n : Int} (hn : I64b n) (h : ofB n = r) : Calls Tryd.prog 57 #[.int .i64 n] w (RetStamp (ofC n) (ofD n) r w) := by
  subst h; exact rof_any w n hn.1 hn.2
theorem rright_is (w : World) {r : Bool} {c d : Int} (h : rightB c d = r) : Calls Tryd.prog 33 #[.agg #[.int .i64 c, .int .i64 d]] w fun e w' => e = .returned (.bool r) ∧ w.alloc (.cells #[.int .i64 c, .int .i64 d] 23) = w' := by
  subst h; exact rright_any w c d
theorem tier3 (o : OP) : (tierB o = false ∧ decide (0 ≤ o.ti ∧ o.ti ≤ 11) = false) ∨ (tierB o = false ∧ decide (0 ≤ o.ti ∧ o.ti ≤ 11) = true ∧ decide (0 ≤ o.pa ∧ o.pa ≤ 1099511627776) = false) ∨
    (tierB o = false ∧ decide (0 ≤ o.ti ∧ o.ti ≤ 11) = true ∧ decide (0 ≤ o.pa ∧ o.pa ≤ 1099511627776) = true ∧ decide (0 ≤ o.rk ∧ o.rk ≤ 300) = false) ∨
    (tierB o = true ∧ decide (0 ≤ o.ti ∧ o.ti ≤ 11) = true ∧ decide (0 ≤ o.pa ∧ o.pa ≤ 1099511627776) = true ∧ decide (0 ≤ o.rk ∧ o.rk ≤ 300) = true) := by
  unfold tierB
  simp only [decide_eq_true_eq, decide_eq_false_iff_not]
  omega

/-- the error of the note, as the reference says it -/
def noteE (o : OP) : Int := if o.kd = 0 then addedE o else namedE o

set_option maxRecDepth 100000 in
set_option maxHeartbeats 8000000 in
theorem rnote_add (w : World) (o : OP) (A : Option Addr) (c : Nat) (hn : o.nt.length ≤ maxLen) (h0 : o.kd = 0) : Calls Tryd.prog 36 #[opV o A c] w (RetInt (addedE o) w) := by
  unfold opV opC
  have k0 : (o.kd != 0) = false := by simpa using h0
  clear h0
  have kI := fun w => rid_any w o.ac o.ad
  have kT := fun w => rtext_any w o.nt hn
  have hE : Hid (addedE o = if o.id = idOf o.ac o.ad then (if tierB o = true then (if timeB o = true then textE o.nt else 12) else 2) else 1) := rfl
  generalize textE o.nt = TE at *
  generalize idOf o.ac o.ad = ID at *
  by_cases hi : o.id = ID
  · have q0 : (o.id != ID) = false := by simpa using hi
    have q1 : (o.id == ID) = true := beq_iff_eq.2 hi
    have hE := Lib.hid (hE.out.trans (if_pos hi))
    clear hi
    rcases tier3 o with ⟨ht, h1⟩ | ⟨ht, h1, h2⟩ | ⟨ht, h1, h2, h3⟩ | ⟨ht, h1, h2, h3⟩
    · have HR : Hid (addedE o = 2) := by rw [Hid, hE.out, ht]; rfl
      have d1 := fun w => within_is w h1
      clear hE ht h1
      go_enter Tryd.func36, Tryd.ntmps36
      go_wp2_with fail
      obtain ⟨W1, hW1⟩ : ∃ x, (w.alloc (.cells (opC o A c).toArray 30)).alloc (.cells (noteC o).toArray 27) = x := ⟨_, rfl⟩
      have hb1 : Below w.heap.size w W1 := by rw [← hW1]; exact ((Below.refl _ _).alloc (Nat.le_refl _) _).alloc (by simp) _
      have ho : OpAt W1 w.heap.size o A c := by rw [← hW1]; exact (OpAt.new ..).up (Up.alloc' _ _)
      have hN : NoteAt W1 (w.heap.size + 1) o := by rw [← hW1]; exact NoteAt.new _ _ _ _ (by simp)
      have hz : w.heap.size + 1 < W1.heap.size := by rw [← hW1]; simp
      unfold opC noteC at hW1
      simp only [hW1]
      clear hW1
      have l0 := fun w' (u : Up W1 w') => (ho.up u).1.1
      have l1 := fun w' (u : Up W1 w') => (ho.up u).1.2.1
      have l2 := fun w' (u : Up W1 w') => (hN.up u).1
      go_region_held3 (fun w' => Up W1 w') (first | assumption | exact Up.drew _ | exact Up.refl _ | exact Up.trans (by assumption) (Up.alloc' _ _) | exact Up.trans (by assumption) (Up.of (by assumption))) (first | (go_at_call 59; refine (kI _).mono ?_; rintro e w2 ⟨rfl, hb2⟩))
      clear l0 l1 l2
      have hu : Up W1 w2 := by first | assumption | exact Up.trans (by assumption) (Up.of hb2)
      have m := hN.up hu
      obtain ⟨m0, m1, m2, m3, m4, m5, m6⟩ := m
      go_wp2_with fail
      refine (d1 _).mono ?_
      rintro e w' ⟨rfl, rfl⟩
      go_wp2_with fail
      go_ret
      exact ⟨by rw [HR.out]; rfl, stepB hb1 hu.b⟩
    · have HR : Hid (addedE o = 2) := by rw [Hid, hE.out, ht]; rfl
      have d1 := fun w => within_is w h1
      have d2 := fun w => within_is w h2
      clear hE ht h1 h2
      go_enter Tryd.func36, Tryd.ntmps36
      go_wp2_with fail
      obtain ⟨W1, hW1⟩ : ∃ x, (w.alloc (.cells (opC o A c).toArray 30)).alloc (.cells (noteC o).toArray 27) = x := ⟨_, rfl⟩
      have hb1 : Below w.heap.size w W1 := by rw [← hW1]; exact ((Below.refl _ _).alloc (Nat.le_refl _) _).alloc (by simp) _
      have ho : OpAt W1 w.heap.size o A c := by rw [← hW1]; exact (OpAt.new ..).up (Up.alloc' _ _)
      have hN : NoteAt W1 (w.heap.size + 1) o := by rw [← hW1]; exact NoteAt.new _ _ _ _ (by simp)
      have hz : w.heap.size + 1 < W1.heap.size := by rw [← hW1]; simp
      unfold opC noteC at hW1
      simp only [hW1]
      clear hW1
      have l0 := fun w' (u : Up W1 w') => (ho.up u).1.1
      have l1 := fun w' (u : Up W1 w') => (ho.up u).1.2.1
      have l2 := fun w' (u : Up W1 w') => (hN.up u).1
      go_region_held3 (fun w' => Up W1 w') (first | assumption | exact Up.drew _ | exact Up.refl _ | exact Up.trans (by assumption) (Up.alloc' _ _) | exact Up.trans (by assumption) (Up.of (by assumption))) (first | (go_at_call 59; refine (kI _).mono ?_; rintro e w2 ⟨rfl, hb2⟩))
      clear l0 l1 l2
      have hu : Up W1 w2 := by first | assumption | exact Up.trans (by assumption) (Up.of hb2)
      have m := hN.up hu
      obtain ⟨m0, m1, m2, m3, m4, m5, m6⟩ := m
      go_wp2_with fail
      refine (d1 _).mono ?_
      rintro e w' ⟨rfl, rfl⟩
      go_wp2_with fail
      refine (d2 _).mono ?_
      rintro e w' ⟨rfl, rfl⟩
      go_wp2_with fail
      go_ret
      exact ⟨by rw [HR.out]; rfl, stepB hb1 hu.b⟩
    · have HR : Hid (addedE o = 2) := by rw [Hid, hE.out, ht]; rfl
      have d1 := fun w => within_is w h1
      have d2 := fun w => within_is w h2
      have d3 := fun w => within_is w h3
      clear hE ht h1 h2 h3
      go_enter Tryd.func36, Tryd.ntmps36
      go_wp2_with fail
      obtain ⟨W1, hW1⟩ : ∃ x, (w.alloc (.cells (opC o A c).toArray 30)).alloc (.cells (noteC o).toArray 27) = x := ⟨_, rfl⟩
      have hb1 : Below w.heap.size w W1 := by rw [← hW1]; exact ((Below.refl _ _).alloc (Nat.le_refl _) _).alloc (by simp) _
      have ho : OpAt W1 w.heap.size o A c := by rw [← hW1]; exact (OpAt.new ..).up (Up.alloc' _ _)
      have hN : NoteAt W1 (w.heap.size + 1) o := by rw [← hW1]; exact NoteAt.new _ _ _ _ (by simp)
      have hz : w.heap.size + 1 < W1.heap.size := by rw [← hW1]; simp
      unfold opC noteC at hW1
      simp only [hW1]
      clear hW1
      have l0 := fun w' (u : Up W1 w') => (ho.up u).1.1
      have l1 := fun w' (u : Up W1 w') => (ho.up u).1.2.1
      have l2 := fun w' (u : Up W1 w') => (hN.up u).1
      go_region_held3 (fun w' => Up W1 w') (first | assumption | exact Up.drew _ | exact Up.refl _ | exact Up.trans (by assumption) (Up.alloc' _ _) | exact Up.trans (by assumption) (Up.of (by assumption))) (first | (go_at_call 59; refine (kI _).mono ?_; rintro e w2 ⟨rfl, hb2⟩))
      clear l0 l1 l2
      have hu : Up W1 w2 := by first | assumption | exact Up.trans (by assumption) (Up.of hb2)
      have m := hN.up hu
      obtain ⟨m0, m1, m2, m3, m4, m5, m6⟩ := m
      go_wp2_with fail
      refine (d1 _).mono ?_
      rintro e w' ⟨rfl, rfl⟩
      go_wp2_with fail
      refine (d2 _).mono ?_
      rintro e w' ⟨rfl, rfl⟩
      go_wp2_with fail
      refine (d3 _).mono ?_
      rintro e w' ⟨rfl, rfl⟩
      go_wp2_with fail
      go_ret
      exact ⟨by rw [HR.out]; rfl, stepB hb1 hu.b⟩
    · have hE : Hid (addedE o = if timeB o = true then TE else 12) := by rw [Hid, hE.out, ht]; rfl
      have d1 := fun w => within_is w h1
      have d2 := fun w => within_is w h2
      have d3 := fun w => within_is w h3
      clear ht h1 h2 h3
      rcases hs : timeB o with _ | _
      · have h2 := timeB_no hs
        obtain ⟨h2, h3⟩ := h2
        have HR : Hid (addedE o = 12) := by rw [Hid, hE.out, hs]; rfl
        have kS := fun w => rspan_is w h3
        have kn : ∀ w, (binOp .neq 25 (.agg #[.int .i64 o.sf, .int .i64 o.st]) (.agg #[.int .i64 0, .int .i64 0])).run Tryd.prog w = .ok (.bool true) w := fun w => by rw [span_neq, h2]; rfl
        clear hE hs h2 h3
        go_enter Tryd.func36, Tryd.ntmps36
        go_wp2_with fail
        obtain ⟨W1, hW1⟩ : ∃ x, (w.alloc (.cells (opC o A c).toArray 30)).alloc (.cells (noteC o).toArray 27) = x := ⟨_, rfl⟩
        have hb1 : Below w.heap.size w W1 := by rw [← hW1]; exact ((Below.refl _ _).alloc (Nat.le_refl _) _).alloc (by simp) _
        have ho : OpAt W1 w.heap.size o A c := by rw [← hW1]; exact (OpAt.new ..).up (Up.alloc' _ _)
        have hN : NoteAt W1 (w.heap.size + 1) o := by rw [← hW1]; exact NoteAt.new _ _ _ _ (by simp)
        have hz : w.heap.size + 1 < W1.heap.size := by rw [← hW1]; simp
        unfold opC noteC at hW1
        simp only [hW1]
        clear hW1
        have l0 := fun w' (u : Up W1 w') => (ho.up u).1.1
        have l1 := fun w' (u : Up W1 w') => (ho.up u).1.2.1
        have l2 := fun w' (u : Up W1 w') => (hN.up u).1
        go_region_held3 (fun w' => Up W1 w') (first | assumption | exact Up.drew _ | exact Up.refl _ | exact Up.trans (by assumption) (Up.alloc' _ _) | exact Up.trans (by assumption) (Up.of (by assumption))) (first | (go_at_call 59; refine (kI _).mono ?_; rintro e w2 ⟨rfl, hb2⟩))
        clear l0 l1 l2
        have hu : Up W1 w2 := by first | assumption | exact Up.trans (by assumption) (Up.of hb2)
        have m := hN.up hu
        obtain ⟨m0, m1, m2, m3, m4, m5, m6⟩ := m
        go_wp2_with fail
        refine (d1 _).mono ?_
        rintro e w' ⟨rfl, rfl⟩
        go_wp2_with fail
        refine (d2 _).mono ?_
        rintro e w' ⟨rfl, rfl⟩
        go_wp2_with fail
        refine (d3 _).mono ?_
        rintro e w' ⟨rfl, rfl⟩
        go_wp2_with fail
        refine (kS _).mono ?_
        rintro e w3 ⟨rfl, rfl⟩
        go_wp2_with fail
        go_ret
        exact ⟨by rw [HR.out]; rfl, stepB hb1 (hu.trans (Up.alloc' _ _)).b⟩
      · have HR : Hid (addedE o = TE) := by rw [Hid, hE.out, hs]; rfl
        have h2 := timeB_yes hs
        clear hE hs
        rcases h2 with h2 | ⟨h2, h3⟩
        · have kn : ∀ w, (binOp .neq 25 (.agg #[.int .i64 o.sf, .int .i64 o.st]) (.agg #[.int .i64 0, .int .i64 0])).run Tryd.prog w = .ok (.bool false) w := fun w => by rw [span_neq, h2]; rfl
          clear h2
          go_enter Tryd.func36, Tryd.ntmps36
          go_wp2_with fail
          obtain ⟨W1, hW1⟩ : ∃ x, (w.alloc (.cells (opC o A c).toArray 30)).alloc (.cells (noteC o).toArray 27) = x := ⟨_, rfl⟩
          have hb1 : Below w.heap.size w W1 := by rw [← hW1]; exact ((Below.refl _ _).alloc (Nat.le_refl _) _).alloc (by simp) _
          have ho : OpAt W1 w.heap.size o A c := by rw [← hW1]; exact (OpAt.new ..).up (Up.alloc' _ _)
          have hN : NoteAt W1 (w.heap.size + 1) o := by rw [← hW1]; exact NoteAt.new _ _ _ _ (by simp)
          have hz : w.heap.size + 1 < W1.heap.size := by rw [← hW1]; simp
          unfold opC noteC at hW1
          simp only [hW1]
          clear hW1
          have l0 := fun w' (u : Up W1 w') => (ho.up u).1.1
          have l1 := fun w' (u : Up W1 w') => (ho.up u).1.2.1
          have l2 := fun w' (u : Up W1 w') => (hN.up u).1
          go_region_held3 (fun w' => Up W1 w') (first | assumption | exact Up.drew _ | exact Up.refl _ | exact Up.trans (by assumption) (Up.alloc' _ _) | exact Up.trans (by assumption) (Up.of (by assumption))) (first | (go_at_call 59; refine (kI _).mono ?_; rintro e w2 ⟨rfl, hb2⟩))
          clear l0 l1 l2
          have hu : Up W1 w2 := by first | assumption | exact Up.trans (by assumption) (Up.of hb2)
          have m := hN.up hu
          obtain ⟨m0, m1, m2, m3, m4, m5, m6⟩ := m
          go_wp2_with fail
          refine (d1 _).mono ?_
          rintro e w' ⟨rfl, rfl⟩
          go_wp2_with fail
          refine (d2 _).mono ?_
          rintro e w' ⟨rfl, rfl⟩
          go_wp2_with fail
          refine (d3 _).mono ?_
          rintro e w' ⟨rfl, rfl⟩
          go_wp2_with fail
          refine (kT _).mono ?_
          rintro e w3 ⟨rfl, hb3⟩
          go_wp2_with fail
          go_ret
          exact ⟨by rw [HR.out]; rfl, stepB (stepB hb1 hu.b) hb3⟩
        · have kS := fun w => rspan_is w h3
          have kn : ∀ w, (binOp .neq 25 (.agg #[.int .i64 o.sf, .int .i64 o.st]) (.agg #[.int .i64 0, .int .i64 0])).run Tryd.prog w = .ok (.bool true) w := fun w => by rw [span_neq, h2]; rfl
          clear h2 h3
          go_enter Tryd.func36, Tryd.ntmps36
          go_wp2_with fail
          obtain ⟨W1, hW1⟩ : ∃ x, (w.alloc (.cells (opC o A c).toArray 30)).alloc (.cells (noteC o).toArray 27) = x := ⟨_, rfl⟩
          have hb1 : Below w.heap.size w W1 := by rw [← hW1]; exact ((Below.refl _ _).alloc (Nat.le_refl _) _).alloc (by simp) _
          have ho : OpAt W1 w.heap.size o A c := by rw [← hW1]; exact (OpAt.new ..).up (Up.alloc' _ _)
          have hN : NoteAt W1 (w.heap.size + 1) o := by rw [← hW1]; exact NoteAt.new _ _ _ _ (by simp)
          have hz : w.heap.size + 1 < W1.heap.size := by rw [← hW1]; simp
          unfold opC noteC at hW1
          simp only [hW1]
          clear hW1
          have l0 := fun w' (u : Up W1 w') => (ho.up u).1.1
          have l1 := fun w' (u : Up W1 w') => (ho.up u).1.2.1
          have l2 := fun w' (u : Up W1 w') => (hN.up u).1
          go_region_held3 (fun w' => Up W1 w') (first | assumption | exact Up.drew _ | exact Up.refl _ | exact Up.trans (by assumption) (Up.alloc' _ _) | exact Up.trans (by assumption) (Up.of (by assumption))) (first | (go_at_call 59; refine (kI _).mono ?_; rintro e w2 ⟨rfl, hb2⟩))
          clear l0 l1 l2
          have hu : Up W1 w2 := by first | assumption | exact Up.trans (by assumption) (Up.of hb2)
          have m := hN.up hu
          obtain ⟨m0, m1, m2, m3, m4, m5, m6⟩ := m
          go_wp2_with fail
          refine (d1 _).mono ?_
          rintro e w' ⟨rfl, rfl⟩
          go_wp2_with fail
          refine (d2 _).mono ?_
          rintro e w' ⟨rfl, rfl⟩
          go_wp2_with fail
          refine (d3 _).mono ?_
          rintro e w' ⟨rfl, rfl⟩
          have hu3 : Up W1 (w2.alloc (.cells #[.int .i64 o.sf, .int .i64 o.st] 25)) := hu.trans (Up.alloc' _ _)
          have n := hN.up hu3
          obtain ⟨n0, n1, n2, n3, n4, n5, n6⟩ := n
          go_wp2_with fail
          refine (kS _).mono ?_
          rintro e w3 ⟨rfl, rfl⟩
          go_wp2_with fail
          refine (kT _).mono ?_
          rintro e w4 ⟨rfl, hb4⟩
          go_wp2_with fail
          go_ret
          exact ⟨by rw [HR.out]; rfl, stepB (stepB hb1 hu3.b) hb4⟩
  · have q0 : (o.id != ID) = true := by simpa using hi
    have q1 : (o.id == ID) = false := beq_eq_false_iff_ne.2 hi
    have HR := Lib.hid (hE.out.trans (if_neg hi))
    clear hi hE
    go_enter Tryd.func36, Tryd.ntmps36
    go_wp2_with fail
    obtain ⟨W1, hW1⟩ : ∃ x, (w.alloc (.cells (opC o A c).toArray 30)).alloc (.cells (noteC o).toArray 27) = x := ⟨_, rfl⟩
    have hb1 : Below w.heap.size w W1 := by rw [← hW1]; exact ((Below.refl _ _).alloc (Nat.le_refl _) _).alloc (by simp) _
    have ho : OpAt W1 w.heap.size o A c := by rw [← hW1]; exact (OpAt.new ..).up (Up.alloc' _ _)
    have hN : NoteAt W1 (w.heap.size + 1) o := by rw [← hW1]; exact NoteAt.new _ _ _ _ (by simp)
    have hz : w.heap.size + 1 < W1.heap.size := by rw [← hW1]; simp
    unfold opC noteC at hW1
    simp only [hW1]
    clear hW1
    have l0 := fun w' (u : Up W1 w') => (ho.up u).1.1
    have l1 := fun w' (u : Up W1 w') => (ho.up u).1.2.1
    have l2 := fun w' (u : Up W1 w') => (hN.up u).1
    go_region_held3 (fun w' => Up W1 w') (first | assumption | exact Up.drew _ | exact Up.refl _ | exact Up.trans (by assumption) (Up.alloc' _ _) | exact Up.trans (by assumption) (Up.of (by assumption))) (first | (go_at_call 59; refine (kI _).mono ?_; rintro e w2 ⟨rfl, hb2⟩))
    clear l0 l1 l2
    have hu : Up W1 w2 := by first | assumption | exact Up.trans (by assumption) (Up.of hb2)
    have m := hN.up hu
    obtain ⟨m0, m1, m2, m3, m4, m5, m6⟩ := m
    go_wp2
    go_ret
    exact ⟨by rw [HR.out]; rfl, stepB hb1 hu.b⟩

set_option maxRecDepth 100000 in
set_option maxHeartbeats 8000000 in
theorem rnote_named (w : World) (o : OP) (A : Option Addr) (c : Nat) (hn : I64b o.id) (h0 : o.kd ≠ 0) : Calls Tryd.prog 36 #[opV o A c] w (RetInt (namedE o) w) := by
  unfold opV opC
  have k0 : (o.kd != 0) = true := by simpa using h0
  clear h0
  have hE : Hid (namedE o = if (ofB o.id && lessB (ofC o.id) (ofD o.id) o.ac o.ad && bareB o) = true then 0 else 1) := rfl
  have kn := note_neq o
  rcases h1 : ofB o.id with _ | _
  · have kO := fun w => rof_is w hn h1
    have HR : Hid (namedE o = 1) := by rw [Hid, hE.out, h1]; rfl
    clear hE h1 kn
    go_enter Tryd.func36, Tryd.ntmps36
    go_wp2_with fail
    obtain ⟨W1, hW1⟩ : ∃ x, (w.alloc (.cells (opC o A c).toArray 30)).alloc (.cells (noteC o).toArray 27) = x := ⟨_, rfl⟩
    have hb1 : Below w.heap.size w W1 := by rw [← hW1]; exact ((Below.refl _ _).alloc (Nat.le_refl _) _).alloc (by simp) _
    have ho : OpAt W1 w.heap.size o A c := by rw [← hW1]; exact (OpAt.new ..).up (Up.alloc' _ _)
    have hN : NoteAt W1 (w.heap.size + 1) o := by rw [← hW1]; exact NoteAt.new _ _ _ _ (by simp)
    have hz : w.heap.size + 1 < W1.heap.size := by rw [← hW1]; simp
    unfold opC noteC at hW1
    simp only [hW1]
    clear hW1
    have m := hN
    obtain ⟨m0, m1, m2, m3, m4, m5, m6⟩ := m
    have m := ho
    obtain ⟨⟨o0, o1, o2, o3⟩, -, -⟩ := m
    go_wp2_with fail
    refine (kO _).mono ?_
    rintro e w2 ⟨rfl, hb2⟩
    have hb3 := stepB hb1 hb2
    go_wp2_with fail
    go_ret
    exact ⟨by rw [HR.out]; rfl, hb3.alloc hb3.size _⟩
  · have kO := fun w => rof_is w hn h1
    rcases h2 : lessB (ofC o.id) (ofD o.id) o.ac o.ad with _ | _
    · have kL := fun w => rless_is w h2
      have HR : Hid (namedE o = 1) := by rw [Hid, hE.out, h1, h2]; rfl
      clear hE h1 h2 kn
      generalize ofC o.id = X at *
      generalize ofD o.id = Y at *
      go_enter Tryd.func36, Tryd.ntmps36
      go_wp2_with fail
      obtain ⟨W1, hW1⟩ : ∃ x, (w.alloc (.cells (opC o A c).toArray 30)).alloc (.cells (noteC o).toArray 27) = x := ⟨_, rfl⟩
      have hb1 : Below w.heap.size w W1 := by rw [← hW1]; exact ((Below.refl _ _).alloc (Nat.le_refl _) _).alloc (by simp) _
      have ho : OpAt W1 w.heap.size o A c := by rw [← hW1]; exact (OpAt.new ..).up (Up.alloc' _ _)
      have hN : NoteAt W1 (w.heap.size + 1) o := by rw [← hW1]; exact NoteAt.new _ _ _ _ (by simp)
      have hz : w.heap.size + 1 < W1.heap.size := by rw [← hW1]; simp
      unfold opC noteC at hW1
      simp only [hW1]
      clear hW1
      have m := hN
      obtain ⟨m0, m1, m2, m3, m4, m5, m6⟩ := m
      have m := ho
      obtain ⟨⟨o0, o1, o2, o3⟩, -, -⟩ := m
      go_wp2_with fail
      refine (kO _).mono ?_
      rintro e w2 ⟨rfl, hb2⟩
      have hu := (Up.of hb2).trans (Up.alloc' _ (.cells #[.int .i64 X, .int .i64 Y] 23))
      have m := ho.up hu
      obtain ⟨⟨p0, p1, p2, p3⟩, -, -⟩ := m
      clear kO hb2
      go_wp2_with fail
      refine (kL _).mono ?_
      rintro e w4 ⟨rfl, hb4⟩
      go_wp2_with fail
      go_ret
      exact ⟨by rw [HR.out]; rfl, stepB (stepB hb1 hu.b) hb4⟩
    · have kL := fun w => rless_is w h2
      have hE2 : Hid (namedE o = if bareB o = true then 0 else 1) := by rw [Hid, hE.out, h1, h2]; rfl
      clear hE h1 h2
      generalize ofC o.id = X at *
      generalize ofD o.id = Y at *
      rcases h3 : bareB o with _ | _
      all_goals
        have HR := Lib.hid hE2.out
        rw [h3] at HR kn
        clear hE2 h3
        go_enter Tryd.func36, Tryd.ntmps36
        go_wp2_with fail
        obtain ⟨W1, hW1⟩ : ∃ x, (w.alloc (.cells (opC o A c).toArray 30)).alloc (.cells (noteC o).toArray 27) = x := ⟨_, rfl⟩
        have hb1 : Below w.heap.size w W1 := by rw [← hW1]; exact ((Below.refl _ _).alloc (Nat.le_refl _) _).alloc (by simp) _
        have ho : OpAt W1 w.heap.size o A c := by rw [← hW1]; exact (OpAt.new ..).up (Up.alloc' _ _)
        have hN : NoteAt W1 (w.heap.size + 1) o := by rw [← hW1]; exact NoteAt.new _ _ _ _ (by simp)
        have hz : w.heap.size + 1 < W1.heap.size := by rw [← hW1]; simp
        unfold opC noteC at hW1
        simp only [hW1]
        clear hW1
        have m := hN
        obtain ⟨m0, m1, m2, m3, m4, m5, m6⟩ := m
        have m := ho
        obtain ⟨⟨o0, o1, o2, o3⟩, -, -⟩ := m
        go_wp2_with fail
        refine (kO _).mono ?_
        rintro e w2 ⟨rfl, hb2⟩
        have hu := (Up.of hb2).trans (Up.alloc' _ (.cells #[.int .i64 X, .int .i64 Y] 23))
        have m := ho.up hu
        obtain ⟨⟨p0, p1, p2, p3⟩, -, -⟩ := m
        clear kO hb2
        go_wp2_with fail
        refine (kL _).mono ?_
        rintro e w4 ⟨rfl, hb4⟩
        have m := hN.up (hu.trans (Up.of hb4))
        obtain ⟨n0, n1, n2, n3, n4, n5, n6⟩ := m
        go_wp2_with fail
        go_ret
        exact ⟨by rw [HR.out]; rfl, stepB (stepB hb1 hu.b) hb4⟩

end Go.Proofs.YtfjiikcbcoohdaaDoor
