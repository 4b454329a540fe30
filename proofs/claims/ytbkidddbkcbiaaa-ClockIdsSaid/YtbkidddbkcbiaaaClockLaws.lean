/-
  The walks of the statements ClockNext, ClockLeast: each returns true and changes nothing that was there. Conditions: the arguments read as their types say.
-/
import Derived.Test.YtbkidddbkcbiaaaClockAwake
namespace Go.Proofs.Ytbkidddbkcbiaaa
open Go.RowKit
set_option linter.unusedVariables false

/-- nothing that was in w has changed: kept apart from 'Below', so that 'assumption' does not take the one for the other -/
structure Since (w W : World) : Prop where
  b : Below w.heap.size w W
theorem Since.step {w W W' : World} (h : Since w W) (hb : Below W.heap.size W W') : Since w W' := ⟨h.b.trans (hb.mono h.b.size)⟩
theorem step_below {w W W' : World} (h : Below w.heap.size w W) (hb : Below W.heap.size W W') : Below w.heap.size w W' := h.trans (hb.mono h.size)

set_option maxHeartbeats 1000000 in
theorem walk_ClockNext (w : World) (A : Option Addr) (c : Nat) (l : List Int) (h : Rd w A (l.map I64)) (hl : l.length ≤ maxLen) (hbd : ∀ n ∈ l, -9223372036854775808 ≤ n ∧ n ≤ 9223372036854775807)
    (n : Int) (lo : -9223372036854775808 ≤ n) (hi : n ≤ 9223372036854775807) :
    Calls Try.prog 3 #[.slice A l.length c, .int .i64 n] w fun e w' => e = .returned (.bool true) ∧ Below w.heap.size w w' := by
  unfold maxLen at hl
  have Hbd := Lib.hid (fun n hn => (hbd n hn).2)
  clear hbd
  by_cases hf : l.length ≤ 100
  · go_enter Try.func3, Try.ntmps3
    go_wp2_with fail
    refine (few_yes _ _ _ _ _ _ _ hf (by omega)).mono ?_
    rintro e w' ⟨rfl, rfl⟩
    go_wp2_with fail
    refine (next_any _ _ _ _ h hl Hbd.out _).mono ?_
    rintro e w1 ⟨rfl, hb1⟩
    have h1 := (h.below hb1).alloc (.cells #[.int .i64 (nextC l n), .int .i64 (nextD l n)] 26)
    go_wp2_with fail
    refine (rnext_any _ _ _ _ h1 hl Hbd.out _).mono ?_
    rintro e w2 ⟨rfl, hb2⟩
    obtain ⟨s0, s1⟩ := box2' w1.heap.size rfl hb2
    have hbw : Below w.heap.size w w2 := (hb1.alloc hb1.size _).trans (hb2.mono (by have := hb1.size; simp; omega))
    clear h1 hb1 hb2
    have heq : ∀ w, (binOp .eql 26 (.agg #[.int .i64 (nextC l n), .int .i64 (nextD l n)]) (.agg #[.int .i64 (nextC l n), .int .i64 (nextD l n)])).run Try.prog w = .ok (.bool true) w := fun w => by
      rw [stamp_eql]; simp
    have l0 := lt_of_cell2 s0
    go_wp2_with fail
    refine (awake_any _).mono ?_
    rintro e w3 ⟨rfl, hb3⟩
    go_wp2_with fail
    go_ret
    exact ⟨rfl, step_below (hbw.alloc hbw.size _) hb3⟩
  · go_enter Try.func3, Try.ntmps3
    go_wp2_with fail
    refine (few_no _ _ _ _ _ _ _ (by omega)).mono ?_
    rintro e w' ⟨rfl, rfl⟩
    go_wp2_with fail
    refine (awake_any _).mono ?_
    rintro e w' ⟨rfl, hb⟩
    go_wp2_with fail
    go_ret
    exact ⟨rfl, hb⟩

theorem leq_join_l (a b : List Int) : leqB a (joinL a b) = true := by
  rw [leqB_iff]; intro i hi; rw [num_join a b i hi]; omega
theorem leq_join_r (a b : List Int) : leqB b (joinL a b) = true := by
  rw [leqB_iff]; intro i hi; rw [num_join a b i hi]; omega
theorem join_leq (a b c : List Int) (h1 : leqB a c = true) (h2 : leqB b c = true) : leqB (joinL a b) c = true := by
  rw [leqB_iff] at *; intro i hi; rw [num_join a b i hi]; have := h1 i hi; have := h2 i hi; omega

/-- as RetInts, the slice's reading at hand -/
theorem retInts_rd {l : List Int} {w : World} {e : Ending} {w' : World} (h : RetInts l w e w') : ∃ A c, e = .returned (.slice A l.length c) ∧ Rd w' A (l.map I64) ∧ Below w.heap.size w w' := by
  obtain ⟨A, c, rfl, hown, hb⟩ := h
  obtain ⟨A', c', hv, _, hr⟩ := hown.rd
  injection hv with e1
  subst e1
  exact ⟨A, c, rfl, hr, hb⟩
theorem leq_bool (w : World) (b : Bool) (A : Option Addr) (c : Nat) (l : List Int) (h : Rd w A (l.map I64)) (hl : l.length ≤ 9223372036854775807) (B : Option Addr) (d : Nat) (m : List Int) (k : Rd w B (m.map I64)) (hm : m.length ≤ 9223372036854775807) (hb : leqB l m = b) :
    Calls Try.prog 16 #[.slice A l.length c, .slice B m.length d] w fun e w' => e = .returned (.bool b) ∧ w = w' := by
  subst hb; exact leq_any w A c l h hl B d m k hm

set_option maxHeartbeats 1000000 in
theorem walk_ClockLeast (w : World) (A : Option Addr) (c : Nat) (l : List Int) (h : Rd w A (l.map I64)) (hl : l.length ≤ maxLen) (hbd : ∀ n ∈ l, -9223372036854775808 ≤ n ∧ n ≤ 9223372036854775807)
    (B : Option Addr) (d : Nat) (m : List Int) (k : Rd w B (m.map I64)) (hm : m.length ≤ maxLen) (hbm : ∀ n ∈ m, -9223372036854775808 ≤ n ∧ n ≤ 9223372036854775807)
    (D : Option Addr) (f : Nat) (o : List Int) (q : Rd w D (o.map I64)) (ho : o.length ≤ maxLen) (hbo : ∀ n ∈ o, -9223372036854775808 ≤ n ∧ n ≤ 9223372036854775807) :
    Calls Try.prog 4 #[.slice A l.length c, .slice B m.length d, .slice D o.length f] w fun e w' => e = .returned (.bool true) ∧ Below w.heap.size w w' := by
  unfold maxLen at hl hm ho
  clear hbd hbm hbo
  by_cases hf : l.length ≤ 100 ∧ m.length ≤ 100
  · by_cases hfo : o.length ≤ 100
    · have g1 := Lib.hid (leq_join_l l m)
      have g2 := Lib.hid (leq_join_r l m)
      have g3 := Lib.hid (join_leq l m o)
      have hjl : (joinL l m).length ≤ 15 := by rw [joinL, joinN_length]; omega
      have hjg : 15 ≤ (joinL l m).length := by rw [joinL, joinN_length]; omega
      have hjne : (((joinL l m).length : Int) != 15) = false := by rw [joinL, joinN_length]; rfl
      have kfo : decide ((100 : Int) < (o.length : Int)) = false := by simp; omega
      generalize hjj : joinL l m = j at *
      have Hjj := Lib.hid hjj
      clear hjj
      rcases hq1 : leqB l o with _ | _
      · go_enter Try.func4, Try.ntmps4
        go_wp2_with fail
        refine (few_yes _ _ _ _ _ _ _ hf.1 hf.2).mono ?_
        rintro e w' ⟨rfl, rfl⟩
        go_wp2_with fail
        refine (join_any _ _ _ _ h hl _ _ _ k hm).mono ?_
        intro e w1 hj
        obtain ⟨J, cj, rfl, rj, hb1⟩ := retInts_rd hj
        clear hj
        rw [Hjj.out] at rj ⊢
        have hA := h.below hb1
        have hB := k.below hb1
        have hC := q.below hb1
        go_wp2_with fail
        refine (leq_bool _ true _ _ _ hA hl _ _ _ rj (by omega) g1.out).mono ?_
        rintro e w' ⟨rfl, rfl⟩
        go_wp2_with fail
        refine (leq_bool _ true _ _ _ hB hm _ _ _ rj (by omega) g2.out).mono ?_
        rintro e w' ⟨rfl, rfl⟩
        go_wp2_with fail
        refine (leq_bool _ false _ _ _ hA hl _ _ _ hC ho hq1).mono ?_
        rintro e w' ⟨rfl, rfl⟩
        go_wp2_with fail
        refine (awake_any _).mono ?_
        rintro e w3 ⟨rfl, hb3⟩
        go_wp2_with fail
        go_ret
        exact ⟨rfl, step_below hb1 hb3⟩
      · rcases hq2 : leqB m o with _ | _
        · go_enter Try.func4, Try.ntmps4
          go_wp2_with fail
          refine (few_yes _ _ _ _ _ _ _ hf.1 hf.2).mono ?_
          rintro e w' ⟨rfl, rfl⟩
          go_wp2_with fail
          refine (join_any _ _ _ _ h hl _ _ _ k hm).mono ?_
          intro e w1 hj
          obtain ⟨J, cj, rfl, rj, hb1⟩ := retInts_rd hj
          clear hj
          rw [Hjj.out] at rj ⊢
          have hA := h.below hb1
          have hB := k.below hb1
          have hC := q.below hb1
          go_wp2_with fail
          refine (leq_bool _ true _ _ _ hA hl _ _ _ rj (by omega) g1.out).mono ?_
          rintro e w' ⟨rfl, rfl⟩
          go_wp2_with fail
          refine (leq_bool _ true _ _ _ hB hm _ _ _ rj (by omega) g2.out).mono ?_
          rintro e w' ⟨rfl, rfl⟩
          go_wp2_with fail
          refine (leq_bool _ true _ _ _ hA hl _ _ _ hC ho hq1).mono ?_
          rintro e w' ⟨rfl, rfl⟩
          go_wp2_with fail
          refine (leq_bool _ false _ _ _ hB hm _ _ _ hC ho hq2).mono ?_
          rintro e w' ⟨rfl, rfl⟩
          go_wp2_with fail
          refine (awake_any _).mono ?_
          rintro e w3 ⟨rfl, hb3⟩
          go_wp2_with fail
          go_ret
          exact ⟨rfl, step_below hb1 hb3⟩
        · have hq3 := g3.out hq1 hq2
          go_enter Try.func4, Try.ntmps4
          go_wp2_with fail
          refine (few_yes _ _ _ _ _ _ _ hf.1 hf.2).mono ?_
          rintro e w' ⟨rfl, rfl⟩
          go_wp2_with fail
          refine (join_any _ _ _ _ h hl _ _ _ k hm).mono ?_
          intro e w1 hj
          obtain ⟨J, cj, rfl, rj, hb1⟩ := retInts_rd hj
          clear hj
          rw [Hjj.out] at rj ⊢
          have hA := h.below hb1
          have hB := k.below hb1
          have hC := q.below hb1
          go_wp2_with fail
          refine (leq_bool _ true _ _ _ hA hl _ _ _ rj (by omega) g1.out).mono ?_
          rintro e w' ⟨rfl, rfl⟩
          go_wp2_with fail
          refine (leq_bool _ true _ _ _ hB hm _ _ _ rj (by omega) g2.out).mono ?_
          rintro e w' ⟨rfl, rfl⟩
          go_wp2_with fail
          refine (leq_bool _ true _ _ _ hA hl _ _ _ hC ho hq1).mono ?_
          rintro e w' ⟨rfl, rfl⟩
          go_wp2_with fail
          refine (leq_bool _ true _ _ _ hB hm _ _ _ hC ho hq2).mono ?_
          rintro e w' ⟨rfl, rfl⟩
          go_wp2_with fail
          refine (leq_bool _ true _ _ _ rj (by omega) _ _ _ hC ho hq3).mono ?_
          rintro e w' ⟨rfl, rfl⟩
          go_wp2_with fail
          refine (awake_any _).mono ?_
          rintro e w3 ⟨rfl, hb3⟩
          go_wp2_with fail
          go_ret
          exact ⟨rfl, step_below hb1 hb3⟩
    · have kfo : decide ((100 : Int) < (o.length : Int)) = true := by simp; omega
      go_enter Try.func4, Try.ntmps4
      go_wp2_with fail
      refine (few_yes _ _ _ _ _ _ _ hf.1 hf.2).mono ?_
      rintro e w' ⟨rfl, rfl⟩
      go_wp2_with fail
      refine (awake_any _).mono ?_
      rintro e w3 ⟨rfl, hb3⟩
      go_wp2_with fail
      go_ret
      exact ⟨rfl, hb3⟩
  · go_enter Try.func4, Try.ntmps4
    go_wp2_with fail
    refine (few_no _ _ _ _ _ _ _ hf).mono ?_
    rintro e w' ⟨rfl, rfl⟩
    go_wp2_with fail
    refine (awake_any _).mono ?_
    rintro e w' ⟨rfl, hb⟩
    go_wp2_with fail
    go_ret
    exact ⟨rfl, hb⟩
end Go.Proofs.Ytbkidddbkcbiaaa
