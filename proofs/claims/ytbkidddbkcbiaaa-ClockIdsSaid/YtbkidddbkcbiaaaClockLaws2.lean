/-
  The walks of the statements ClockStamps, ClockVectors: each returns true and changes nothing that was there. Conditions: the arguments read as their types say.
-/
import Derived.Test.YtbkidddbkcbiaaaClockLaws
namespace Go.Proofs.Ytbkidddbkcbiaaa
open Go.RowKit
set_option linter.unusedVariables false

theorem cell_alloc2 {w : World} {n : Nat} {x y : Value} (o : Obj) (h : w.cell? ⟨n, 0, none⟩ = some x ∧ w.cell? ⟨n, 1, none⟩ = some y) :
    (w.alloc o).cell? ⟨n, 0, none⟩ = some x ∧ (w.alloc o).cell? ⟨n, 1, none⟩ = some y := keep2 ((Below.refl _ _).alloc (Nat.le_refl _) o) h
theorem right_bel (w : World) (c d : Int) : Calls Try.prog 27 #[.agg #[.int .i64 c, .int .i64 d]] w (RetBool (rightB c d) w) :=
  (right_any w c d).mono fun e w' ⟨he, hw⟩ => ⟨he, by rw [← hw]; exact (Below.refl _ _).alloc (Nat.le_refl _) _⟩
theorem rright_bel (w : World) (c d : Int) : Calls Try.prog 24 #[.agg #[.int .i64 c, .int .i64 d]] w (RetBool (rightB c d) w) :=
  (rright_any w c d).mono fun e w' ⟨he, hw⟩ => ⟨he, by rw [← hw]; exact (Below.refl _ _).alloc (Nat.le_refl _) _⟩
/-- two boxes of two cells each -/
def Two (w : World) (n m : Nat) (x y u v : Value) : Prop := (w.cell? ⟨n, 0, none⟩ = some x ∧ w.cell? ⟨n, 1, none⟩ = some y) ∧ (w.cell? ⟨m, 0, none⟩ = some u ∧ w.cell? ⟨m, 1, none⟩ = some v)
theorem keep4 {w w' : World} {x y u v : Value} {n m : Nat} (hb : Below w.heap.size w w') (h : (w.cell? ⟨n, 0, none⟩ = some x ∧ w.cell? ⟨n, 1, none⟩ = some y) ∧ (w.cell? ⟨m, 0, none⟩ = some u ∧ w.cell? ⟨m, 1, none⟩ = some v)) :
    (w'.cell? ⟨n, 0, none⟩ = some x ∧ w'.cell? ⟨n, 1, none⟩ = some y) ∧ (w'.cell? ⟨m, 0, none⟩ = some u ∧ w'.cell? ⟨m, 1, none⟩ = some v) := ⟨keep2 hb h.1, keep2 hb h.2⟩
theorem keep8 {w w' : World} {x y u v x' y' u' v' : Value} {n m n' m' : Nat} (hb : Below w.heap.size w w')
    (h : ((w.cell? ⟨n, 0, none⟩ = some x ∧ w.cell? ⟨n, 1, none⟩ = some y) ∧ (w.cell? ⟨m, 0, none⟩ = some u ∧ w.cell? ⟨m, 1, none⟩ = some v)) ∧ ((w.cell? ⟨n', 0, none⟩ = some x' ∧ w.cell? ⟨n', 1, none⟩ = some y') ∧ (w.cell? ⟨m', 0, none⟩ = some u' ∧ w.cell? ⟨m', 1, none⟩ = some v'))) :
    ((w'.cell? ⟨n, 0, none⟩ = some x ∧ w'.cell? ⟨n, 1, none⟩ = some y) ∧ (w'.cell? ⟨m, 0, none⟩ = some u ∧ w'.cell? ⟨m, 1, none⟩ = some v)) ∧ ((w'.cell? ⟨n', 0, none⟩ = some x' ∧ w'.cell? ⟨n', 1, none⟩ = some y') ∧ (w'.cell? ⟨m', 0, none⟩ = some u' ∧ w'.cell? ⟨m', 1, none⟩ = some v')) :=
  ⟨keep4 hb h.1, keep4 hb h.2⟩

set_option maxHeartbeats 2000000 in
theorem walk_ClockStamps (w : World) (a b : Int) (ba : -9223372036854775808 ≤ a ∧ a ≤ 9223372036854775807) (bb : -9223372036854775808 ≤ b ∧ b ≤ 9223372036854775807)
    (c d : Int) (bc : -9223372036854775808 ≤ c ∧ c ≤ 9223372036854775807) (bd : -9223372036854775808 ≤ d ∧ d ≤ 9223372036854775807) (n : Int) (lo : -9223372036854775808 ≤ n) (hi : n ≤ 9223372036854775807) :
    Calls Try.prog 7 #[.agg #[.int .i64 a, .int .i64 b], .agg #[.int .i64 c, .int .i64 d], .int .i64 n] w fun e w' => e = .returned (.bool true) ∧ Below w.heap.size w w' := by
  clear ba bb bc bd
  have heq : ∀ w, (binOp .eql 26 (.agg #[.int .i64 (ofC n), .int .i64 (ofD n)]) (.agg #[.int .i64 (ofC n), .int .i64 (ofD n)])).run Try.prog w = .ok (.bool true) w := fun w => by
    rw [stamp_eql]; simp
  go_enter Try.func7, Try.ntmps7
  go_wp2_with fail
  refine (of_any _ n lo hi).mono ?_
  rintro e w1 ⟨rfl, hb1⟩
  have s1 := keep4 (n := w.heap.size) (m := w.heap.size + 1) (x := .int .i64 a) (y := .int .i64 b) (u := .int .i64 c) (v := .int .i64 d) hb1 (by refine ⟨⟨?_, ?_⟩, ?_, ?_⟩ <;> simp)
  have hbw1 : Below w.heap.size w w1 := step_below (((Below.refl _ _).alloc (Nat.le_refl _) _).alloc (by simp) _) hb1
  clear hb1
  go_wp2_with fail
  refine (rof_any _ n lo hi).mono ?_
  rintro e w2 ⟨rfl, hb2⟩
  have s2 := keep4 hb2 ⟨cell_alloc2 _ s1.1, cell_alloc2 _ s1.2⟩
  have t2 := box2' w1.heap.size rfl hb2
  have hbw2 : Below w.heap.size w w2 := step_below (hbw1.alloc hbw1.size _) hb2
  clear hb2 s1 hbw1
  have s3 := (⟨⟨cell_alloc2 _ s2.1, cell_alloc2 _ s2.2⟩, cell_alloc2 _ t2, cell_lit2 w2 (.int .i64 (ofC n)) (.int .i64 (ofD n)) 26⟩ :
    (((w2.alloc (.cells #[.int .i64 (ofC n), .int .i64 (ofD n)] 26)).cell? ⟨w.heap.size, 0, none⟩ = some (.int .i64 a) ∧ (w2.alloc (.cells #[.int .i64 (ofC n), .int .i64 (ofD n)] 26)).cell? ⟨w.heap.size, 1, none⟩ = some (.int .i64 b)) ∧
     ((w2.alloc (.cells #[.int .i64 (ofC n), .int .i64 (ofD n)] 26)).cell? ⟨w.heap.size + 1, 0, none⟩ = some (.int .i64 c) ∧ (w2.alloc (.cells #[.int .i64 (ofC n), .int .i64 (ofD n)] 26)).cell? ⟨w.heap.size + 1, 1, none⟩ = some (.int .i64 d))) ∧
    (((w2.alloc (.cells #[.int .i64 (ofC n), .int .i64 (ofD n)] 26)).cell? ⟨w1.heap.size, 0, none⟩ = some (.int .i64 (ofC n)) ∧ (w2.alloc (.cells #[.int .i64 (ofC n), .int .i64 (ofD n)] 26)).cell? ⟨w1.heap.size, 1, none⟩ = some (.int .i64 (ofD n))) ∧
     ((w2.alloc (.cells #[.int .i64 (ofC n), .int .i64 (ofD n)] 26)).cell? ⟨w2.heap.size, 0, none⟩ = some (.int .i64 (ofC n)) ∧ (w2.alloc (.cells #[.int .i64 (ofC n), .int .i64 (ofD n)] 26)).cell? ⟨w2.heap.size, 1, none⟩ = some (.int .i64 (ofD n)))))
  have hbw3 := hbw2.alloc hbw2.size (.cells #[.int .i64 (ofC n), .int .i64 (ofD n)] 26)
  clear hbw2 s2 t2
  generalize w1.heap.size = m1 at *
  go_wp2_with fail
  generalize w2.alloc (.cells #[.int .i64 (ofC n), .int .i64 (ofD n)] 26) = W at *
  have hbw4 : Since w W.drew := ⟨hbw3.drew⟩
  have s4 := (show ((W.drew.cell? ⟨w.heap.size, 0, none⟩ = some (.int .i64 a) ∧ W.drew.cell? ⟨w.heap.size, 1, none⟩ = some (.int .i64 b)) ∧ (W.drew.cell? ⟨w.heap.size + 1, 0, none⟩ = some (.int .i64 c) ∧ W.drew.cell? ⟨w.heap.size + 1, 1, none⟩ = some (.int .i64 d))) ∧ ((W.drew.cell? ⟨m1, 0, none⟩ = some (.int .i64 (ofC n)) ∧ W.drew.cell? ⟨m1, 1, none⟩ = some (.int .i64 (ofD n))) ∧ (W.drew.cell? ⟨w2.heap.size, 0, none⟩ = some (.int .i64 (ofC n)) ∧ W.drew.cell? ⟨w2.heap.size, 1, none⟩ = some (.int .i64 (ofD n)))) from s3)
  clear hbw3 s3
  go_region_held3 (fun w' => ((w'.cell? ⟨w.heap.size, 0, none⟩ = some (.int .i64 a) ∧ w'.cell? ⟨w.heap.size, 1, none⟩ = some (.int .i64 b)) ∧ (w'.cell? ⟨w.heap.size + 1, 0, none⟩ = some (.int .i64 c) ∧ w'.cell? ⟨w.heap.size + 1, 1, none⟩ = some (.int .i64 d))) ∧ ((w'.cell? ⟨m1, 0, none⟩ = some (.int .i64 (ofC n)) ∧ w'.cell? ⟨m1, 1, none⟩ = some (.int .i64 (ofD n))) ∧ (w'.cell? ⟨w2.heap.size, 0, none⟩ = some (.int .i64 (ofC n)) ∧ w'.cell? ⟨w2.heap.size, 1, none⟩ = some (.int .i64 (ofD n))))) (first | exact s4 | exact keep8 (by assumption) (by assumption))
    (first | (go_at_call 27; refine (right_bel _ a b).mono ?_; rintro e w' ⟨rfl, hb⟩; have hs := Since.step (w := w) (by assumption) hb) | (go_at_call 24; refine (rright_bel _ a b).mono ?_; rintro e w' ⟨rfl, hb⟩; have hs := Since.step (w := w) (by assumption) hb) | (go_at_call 28; refine (less_any _ a b c d).mono ?_; rintro e w' ⟨rfl, hb⟩; have hs := Since.step (w := w) (by assumption) hb) | (go_at_call 29; refine (rless_any _ a b c d).mono ?_; rintro e w' ⟨rfl, hb⟩; have hs := Since.step (w := w) (by assumption) hb) | (go_at_call 30; refine (id_any _ a b).mono ?_; rintro e w' ⟨rfl, hb⟩; have hs := Since.step (w := w) (by assumption) hb) | (go_at_call 31; refine (rid_any _ a b).mono ?_; rintro e w' ⟨rfl, hb⟩; have hs := Since.step (w := w) (by assumption) hb) | (go_at_call 12; refine (awake_any _).mono ?_; rintro e w' ⟨rfl, hb⟩; have hs := Since.step (w := w) (by assumption) hb))
  go_wp2
  go_ret
  exact ⟨rfl, Since.b (by assumption)⟩

set_option maxHeartbeats 4000000 in
theorem walk_ClockVectors (w : World) (A : Option Addr) (ca : Nat) (l : List Int) (h : Rd w A (l.map I64)) (hl : l.length ≤ maxLen) (hbd : ∀ n ∈ l, -9223372036854775808 ≤ n ∧ n ≤ 9223372036854775807)
    (B : Option Addr) (cb : Nat) (m : List Int) (k : Rd w B (m.map I64)) (hm : m.length ≤ maxLen) (hbm : ∀ n ∈ m, -9223372036854775808 ≤ n ∧ n ≤ 9223372036854775807)
    (c d : Int) (bc : -9223372036854775808 ≤ c ∧ c ≤ 9223372036854775807) (bd : -9223372036854775808 ≤ d ∧ d ≤ 9223372036854775807) :
    Calls Try.prog 5 #[.slice A l.length ca, .slice B m.length cb, .agg #[.int .i64 c, .int .i64 d]] w fun e w' => e = .returned (.bool true) ∧ Below w.heap.size w w' := by
  unfold maxLen at hl hm
  clear hbd hbm bc bd
  by_cases hf : l.length ≤ 100 ∧ m.length ≤ 100
  · have hjl : (joinL l m).length ≤ 9223372036854775807 := by rw [joinL, joinN_length]; omega
    have hsl : (seeL l c d).length ≤ 9223372036854775807 := by rw [seeL_length]; omega
    go_enter Try.func5, Try.ntmps5
    go_wp2_with fail
    refine (few_yes _ _ _ _ _ _ _ hf.1 hf.2).mono ?_
    rintro e w' ⟨rfl, rfl⟩
    go_wp2_with fail
    have rA := (h.alloc (.cells #[.int .i64 c, .int .i64 d] 26)).drew
    have rB := (k.alloc (.cells #[.int .i64 c, .int .i64 d] 26)).drew
    have hs : Since w (w.alloc (.cells #[.int .i64 c, .int .i64 d] 26)).drew := ⟨((Below.refl _ _).alloc (Nat.le_refl _) _).drew⟩
    have s4 := cell_lit2 w (.int .i64 c) (.int .i64 d) 26
    clear h k
    generalize w.alloc (.cells #[.int .i64 c, .int .i64 d] 26) = W at *
    go_region_held3 (fun w' => w'.cell? ⟨w.heap.size, 0, none⟩ = some (.int .i64 c) ∧ w'.cell? ⟨w.heap.size, 1, none⟩ = some (.int .i64 d)) (first | exact s4 | exact keep2 (by assumption) (by assumption) | assumption)
      (first | (go_at_call 17; refine (covers_any _ A ca l (by assumption) hl c d).mono ?_; rintro e w' ⟨rfl, hb⟩; have hs := Since.step (w := w) (by assumption) hb; have rA := Rd.below (A := A) (l := l.map I64) (by assumption) hb; have rB := Rd.below (A := B) (l := m.map I64) (by assumption) hb) | (go_at_call 18; refine (rcovers_any _ A ca l (by assumption) hl c d).mono ?_; rintro e w' ⟨rfl, hb⟩; have hs := Since.step (w := w) (by assumption) hb; have rA := Rd.below (A := A) (l := l.map I64) (by assumption) hb; have rB := Rd.below (A := B) (l := m.map I64) (by assumption) hb) | (go_at_call 16; refine (leq_any _ A ca l (by assumption) hl B cb m (by assumption) hm).mono ?_; rintro e w' ⟨rfl, rfl⟩) | (go_at_call 19; refine (rleq_any _ A ca l (by assumption) hl B cb m (by assumption) hm).mono ?_; rintro e w' ⟨rfl, rfl⟩) | (go_at_call 15; refine (join_any _ A ca l (by assumption) hl B cb m (by assumption) hm).mono ?_; intro e w' hj; obtain ⟨J, cj, rfl, rj, hb⟩ := retInts_rd hj; clear hj; have hs := Since.step (w := w) (by assumption) hb; have rA := Rd.below (A := A) (l := l.map I64) (by assumption) hb; have rB := Rd.below (A := B) (l := m.map I64) (by assumption) hb) | (go_at_call 21; refine (rjoin_any _ A ca l (by assumption) hl B cb m (by assumption) hm).mono ?_; intro e w' hj; obtain ⟨J2, cj2, rfl, rj2, hb⟩ := retInts_rd hj; clear hj; have rj1 := rj.below hb; have hs := Since.step (w := w) (by assumption) hb; have rA := Rd.below (A := A) (l := l.map I64) (by assumption) hb; have rB := Rd.below (A := B) (l := m.map I64) (by assumption) hb) | (go_at_call 22; refine (see_any _ A ca l (by assumption) hl c d).mono ?_; intro e w' hj; obtain ⟨J, cj, rfl, rj, hb⟩ := retInts_rd hj; clear hj; have hs := Since.step (w := w) (by assumption) hb; have rA := Rd.below (A := A) (l := l.map I64) (by assumption) hb; have rB := Rd.below (A := B) (l := m.map I64) (by assumption) hb) | (go_at_call 23; refine (rsee_any _ A ca l (by assumption) hl c d).mono ?_; intro e w' hj; obtain ⟨J2, cj2, rfl, rj2, hb⟩ := retInts_rd hj; clear hj; have rj1 := rj.below hb; have hs := Since.step (w := w) (by assumption) hb; have rA := Rd.below (A := A) (l := l.map I64) (by assumption) hb; have rB := Rd.below (A := B) (l := m.map I64) (by assumption) hb) | (go_at_call 20; refine (same_yes _ J cj _ rj1 (by first | exact hjl | exact hsl) J2 cj2 rj2).mono ?_; rintro e w' ⟨rfl, hb⟩; have hs := Since.step (w := w) (by assumption) hb; have rA := Rd.below (A := A) (l := l.map I64) (by assumption) hb; have rB := Rd.below (A := B) (l := m.map I64) (by assumption) hb) | (go_at_call 12; refine (awake_any _).mono ?_; rintro e w' ⟨rfl, hb⟩; have hs := Since.step (w := w) (by assumption) hb))
    go_wp2
    go_ret
    exact ⟨rfl, Since.b (by assumption)⟩
  · go_enter Try.func5, Try.ntmps5
    go_wp2_with fail
    refine (few_no _ _ _ _ _ _ _ hf).mono ?_
    rintro e w' ⟨rfl, rfl⟩
    go_wp2_with fail
    refine (awake_any _).mono ?_
    rintro e w' ⟨rfl, hb⟩
    go_wp2_with fail
    go_ret
    exact ⟨rfl, step_below ((Below.refl _ _).alloc (Nat.le_refl _) _) hb⟩
end Go.Proofs.Ytbkidddbkcbiaaa
