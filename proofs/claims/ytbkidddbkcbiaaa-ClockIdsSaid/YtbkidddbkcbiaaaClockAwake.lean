/-
  The walks of 'few' and 'awake' of the statements about layer 7: the chapter's examples hold. Conditions: none.
-/
import Derived.Test.YtbkidddbkcbiaaaClockOf
namespace Go.Proofs.Ytbkidddbkcbiaaa
open Go.RowKit
set_option linter.unusedVariables false

theorem of32 (w : World) : Calls Try.prog 25 #[.int .i64 32] w (RetStamp 0 0 false w) := by
  have h := of_any w 32 (by omega) (by omega)
  rw [show ofC 32 = 0 by decide, show ofD 32 = 0 by decide, show ofB 32 = false by decide] at h
  exact h
theorem of35 (w : World) : Calls Try.prog 25 #[.int .i64 35] w (RetStamp 2 3 true w) := by
  have h := of_any w 35 (by omega) (by omega)
  rw [show ofC 35 = 2 by decide, show ofD 35 = 3 by decide, show ofB 35 = true by decide] at h
  exact h
theorem id23 (w : World) : Calls Try.prog 30 #[.agg #[.int .i64 2, .int .i64 3]] w (RetInt 35 w) := by
  have h := id_any w 2 3
  rw [show idOf 2 3 = 35 by decide] at h
  exact h
theorem next49 (w : World) (n : Nat) (h : n = w.heap.size) : Calls Try.prog 13 #[.slice (some ⟨n, 0, none⟩) 2 2, .int .i64 1] (w.alloc (.cells #[.int .i64 4, .int .i64 9] 3)) (RetStamp 10 1 true (w.alloc (.cells #[.int .i64 4, .int .i64 9] 3))) := by
  subst h
  have h := next_any _ (some ⟨w.heap.size, 0, none⟩) 2 [4, 9] (Rd.new w [I64 4, I64 9] 3 (0, 0)) (by simp) (by simp) 1
  rw [show nextC [4, 9] 1 = 10 by decide, show nextD [4, 9] 1 = 1 by decide, show nextB [4, 9] 1 = true by decide] at h
  exact h
theorem covers49 (w : World) (n : Nat) (h : n = w.heap.size) : Calls Try.prog 17 #[.slice (some ⟨n, 0, none⟩) 2 2, .agg #[.int .i64 9, .int .i64 2]] (w.alloc (.cells #[.int .i64 4, .int .i64 9] 3)) (RetBool true (w.alloc (.cells #[.int .i64 4, .int .i64 9] 3))) := by
  subst h
  have h := covers_any _ (some ⟨w.heap.size, 0, none⟩) 2 [4, 9] (Rd.new w [I64 4, I64 9] 3 (0, 0)) (by simp) 9 2
  rw [show coversB [4, 9] 9 2 = true by decide] at h
  exact h
theorem leq2 (w : World) (xs ys : List Int) (n m c d : Nat) (hn : n = w.heap.size) (hm : m = w.heap.size + 1) (hx : xs.length ≤ 2) (hy : ys.length ≤ 2) (b : Bool) (hb : leqB xs ys = b) :
    Calls Try.prog 16 #[.slice (some ⟨n, 0, none⟩) xs.length c, .slice (some ⟨m, 0, none⟩) ys.length d] ((w.alloc (.cells (xs.map I64).toArray 3)).alloc (.cells (ys.map I64).toArray 3))
      fun e w' => e = .returned (.bool b) ∧ ((w.alloc (.cells (xs.map I64).toArray 3)).alloc (.cells (ys.map I64).toArray 3)) = w' := by
  subst hb
  exact leq_any _ (some ⟨n, 0, none⟩) c xs ((Rd.newAt w _ _ _ _ hn).alloc _) (by omega) (some ⟨m, 0, none⟩) d ys (Rd.newAt _ _ _ _ _ (by simp; omega)) (by omega)
theorem join00 (w : World) : Calls Try.prog 15 #[.slice none 0 0, .slice none 0 0] w (RetInts (joinL [] []) w) :=
  join_any w none 0 [] (Rd.nil _ _) (by simp) none 0 [] (Rd.nil _ _) (by simp)

theorem lt_of_cell2 {w : World} {a : Addr} {u : Value} (h : w.cell? a = some u) : a.block < w.heap.size := World.block_lt_of_cell? w a h
theorem box2' {w w' : World} {x y : Value} {t : TypeId} (n : Nat) (hn : n = w.heap.size) (hb : Below (w.alloc (.cells #[x, y] t)).heap.size (w.alloc (.cells #[x, y] t)) w') :
    w'.cell? ⟨n, 0, none⟩ = some x ∧ w'.cell? ⟨n, 1, none⟩ = some y := by
  subst hn; exact box2 (hb.mono (by simp))
theorem keep2 {w w' : World} {x y : Value} {n : Nat} (hb : Below w.heap.size w w') (h : w.cell? ⟨n, 0, none⟩ = some x ∧ w.cell? ⟨n, 1, none⟩ = some y) :
    w'.cell? ⟨n, 0, none⟩ = some x ∧ w'.cell? ⟨n, 1, none⟩ = some y := by
  have l0 : n < w.heap.size := by
    rcases Nat.lt_or_ge n w.heap.size with hlt | hge
    · exact hlt
    · have := h.1; simp [World.cell?, Array.getElem?_eq_none hge] at this
  exact ⟨(hb.cell (p := ⟨n, 0, none⟩) l0).trans h.1, (hb.cell (p := ⟨n, 1, none⟩) l0).trans h.2⟩

set_option maxHeartbeats 2000000 in
theorem awake_any (w : World) : Calls Try.prog 12 #[] w (RetBool true w) := by
  go_enter Try.func12, Try.ntmps12
  go_wp2_with fail
  refine (of32 _).mono ?_
  rintro e w1 ⟨rfl, hb1⟩
  go_wp2_with fail
  refine (of35 _).mono ?_
  rintro e w2 ⟨rfl, hb2⟩
  go_wp2_with fail
  refine (next49 (w2.alloc (.cells #[.int .i64 2, .int .i64 3] 26)) _ (by simp)).mono ?_
  rintro e w3 ⟨rfl, hb3⟩
  have s3 := keep2 (n := w2.heap.size) (x := .int .i64 2) (y := .int .i64 3) hb3 (by constructor <;> simp)
  have hbw2 : Below w.heap.size w w2 := (hb1.alloc hb1.size _).trans (hb2.mono (by have := hb1.size; simp; omega))
  have hbw3 : Below w.heap.size w w3 := ((hbw2.alloc hbw2.size _).alloc (by have := hbw2.size; simp; omega) _).trans (hb3.mono (by have := hbw2.size; simp; omega))
  go_wp2_with fail
  refine (id23 _).mono ?_
  rintro e w4 ⟨rfl, hb4'⟩
  obtain ⟨s0, s1⟩ := keep2 (n := w2.heap.size) (x := .int .i64 2) (y := .int .i64 3) hb4' (by
    have l0 := lt_of_cell2 s3.1
    exact ⟨(World.cell?_alloc_lt w3 _ ⟨w2.heap.size, 0, none⟩ l0).trans s3.1, (World.cell?_alloc_lt w3 _ ⟨w2.heap.size, 1, none⟩ l0).trans s3.2⟩)
  obtain ⟨n0, n1⟩ := box2' w3.heap.size rfl hb4'
  have hb4 : Below w.heap.size w w4 := (hbw3.alloc hbw3.size _).trans (hb4'.mono (by have := hbw3.size; simp; omega))
  clear hb4' s3 hb1 hb2 hb3 hbw2 hbw3
  go_wp2_with fail
  refine (leq2 w4 [1] [1, 0] _ _ _ _ rfl rfl (by simp) (by simp) true (by decide)).mono ?_
  rintro e w' ⟨rfl, rfl⟩
  have hb5 := (hb4.alloc hb4.size (.cells #[.int .i64 1] 3)).alloc (by have := hb4.size; simp; omega) (.cells #[.int .i64 1, .int .i64 0] 3)
  change Below w.heap.size w ((w4.alloc (.cells (List.map I64 [1]).toArray 3)).alloc (.cells (List.map I64 [1, 0]).toArray 3)) at hb5
  generalize (w4.alloc (.cells (List.map I64 [1]).toArray 3)).alloc (.cells (List.map I64 [1, 0]).toArray 3) = w5 at *
  go_wp2_with fail
  refine (leq2 w5 [1, 0] [1] _ _ _ _ rfl rfl (by simp) (by simp) true (by decide)).mono ?_
  rintro e w' ⟨rfl, rfl⟩
  have hb6 := (hb5.alloc hb5.size (.cells #[.int .i64 1, .int .i64 0] 3)).alloc (by have := hb5.size; simp; omega) (.cells #[.int .i64 1] 3)
  change Below w.heap.size w ((w5.alloc (.cells (List.map I64 [1, 0]).toArray 3)).alloc (.cells (List.map I64 [1]).toArray 3)) at hb6
  generalize (w5.alloc (.cells (List.map I64 [1, 0]).toArray 3)).alloc (.cells (List.map I64 [1]).toArray 3) = w6 at *
  go_wp2_with fail
  refine (leq2 w6 [0, 2] [1] _ _ _ _ rfl rfl (by simp) (by simp) false (by decide)).mono ?_
  rintro e w' ⟨rfl, rfl⟩
  have hb7 := (hb6.alloc hb6.size (.cells #[.int .i64 0, .int .i64 2] 3)).alloc (by have := hb6.size; simp; omega) (.cells #[.int .i64 1] 3)
  change Below w.heap.size w ((w6.alloc (.cells (List.map I64 [0, 2]).toArray 3)).alloc (.cells (List.map I64 [1]).toArray 3)) at hb7
  generalize (w6.alloc (.cells (List.map I64 [0, 2]).toArray 3)).alloc (.cells (List.map I64 [1]).toArray 3) = w7 at *
  go_wp2_with fail
  refine (covers49 w7 _ rfl).mono ?_
  rintro e w8 ⟨rfl, hb8'⟩
  have hb8 : Below w.heap.size w w8 := (hb7.alloc hb7.size _).trans (hb8'.mono (by have := hb7.size; simp; omega))
  go_wp2_with fail
  refine (join00 _).mono ?_
  rintro e w9 ⟨A9, c9, rfl, _, hb9'⟩
  rw [show (joinL [] []).length = 15 from joinN_length _ _ _]
  go_wp2_with fail
  go_ret
  exact ⟨rfl, hb8.trans (hb9'.mono hb8.size)⟩

set_option maxHeartbeats 400000 in
theorem few_yes (A B : Option Addr) (n m c d : Nat) (w : World) (h1 : n ≤ 100) (h2 : m ≤ 100) :
    Calls Try.prog 11 #[.slice A n c, .slice B m d] w fun e w' => e = .returned (.bool true) ∧ w = w' := by
  have k2 : decide ((m : Int) ≤ 100) = true := by simp; omega
  go_enter Try.func11, Try.ntmps11
  go_wp2
  go_ret
  exact ⟨rfl, rfl⟩
set_option maxHeartbeats 400000 in
theorem few_no (A B : Option Addr) (n m c d : Nat) (w : World) (h : ¬ (n ≤ 100 ∧ m ≤ 100)) :
    Calls Try.prog 11 #[.slice A n c, .slice B m d] w fun e w' => e = .returned (.bool false) ∧ w = w' := by
  by_cases h1 : n ≤ 100
  · have h2 : ¬ m ≤ 100 := by omega
    have k2 : decide ((m : Int) ≤ 100) = false := by simp; omega
    clear h
    go_enter Try.func11, Try.ntmps11
    go_wp2
    go_ret
    exact ⟨rfl, rfl⟩
  · clear h
    go_enter Try.func11, Try.ntmps11
    go_wp2
    go_ret
    exact ⟨rfl, rfl⟩
end Go.Proofs.Ytbkidddbkcbiaaa
