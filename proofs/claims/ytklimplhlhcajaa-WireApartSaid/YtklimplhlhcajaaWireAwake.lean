/-
  The walks of the functions that all statements of layer 4 share: awake (the chapter's examples), few, Same. Conditions: none.
-/
import Derived.Test.YtklimplhlhcajaaWireLists
import Derived.Test.YtklimplhlhcajaaWireRPut
import Derived.Lib.SlBytesConst
import Derived.Deep.QuietTactic
import Derived.BigQuiet
namespace Go.Proofs.Ytklimplhlhcajaa
open Go.RowKit
set_option linter.unusedVariables false

theorem wcallA (w : World) : Calls Try.prog 12 #[.slice (some ⟨w.heap.size, 0, none⟩) 2 2, .int .i64 0] (w.alloc (.cells #[.int .u8 128, .int .u8 0] 5))
    fun e w' => e = .returned (.tuple #[.int .i64 0, .int .i64 0, .int .i64 3]) ∧ (w.alloc (.cells #[.int .u8 128, .int .u8 0] 5)) = w' := by
  have h := int_any _ (some ⟨w.heap.size, 0, none⟩) 2 [128, 0] (Rd.new w _ 5 (0, 0)) (by decide) 0 (by decide) (by decide)
  unfold RetRd at h
  rw [show rdN [128, 0] 0 = 0 by decide, show rdT [128, 0] 0 = 0 by decide, show rdE [128, 0] 0 = 3 by decide] at h
  exact h
theorem wcallB (w : World) : Calls Try.prog 12 #[.slice (some ⟨w.heap.size, 0, none⟩) 1 1, .int .i64 0] (w.alloc (.cells #[.int .u8 128] 5))
    fun e w' => e = .returned (.tuple #[.int .i64 0, .int .i64 0, .int .i64 4]) ∧ (w.alloc (.cells #[.int .u8 128] 5)) = w' := by
  have h := int_any _ (some ⟨w.heap.size, 0, none⟩) 1 [128] (Rd.new w _ 5 (0, 0)) (by decide) 0 (by decide) (by decide)
  unfold RetRd at h
  rw [show rdN [128] 0 = 0 by decide, show rdT [128] 0 = 0 by decide, show rdE [128] 0 = 4 by decide] at h
  exact h
theorem wcallC (w : World) : Calls Try.prog 12 #[.slice (some ⟨w.heap.size, 0, none⟩) 3 3, .int .i64 1] (w.alloc (.cells #[.int .u8 7, .int .u8 128, .int .u8 1] 5))
    fun e w' => e = .returned (.tuple #[.int .i64 64, .int .i64 3, .int .i64 0]) ∧ (w.alloc (.cells #[.int .u8 7, .int .u8 128, .int .u8 1] 5)) = w' := by
  have h := int_any _ (some ⟨w.heap.size, 0, none⟩) 3 [7, 128, 1] (Rd.new w _ 5 (0, 0)) (by decide) 1 (by decide) (by decide)
  unfold RetRd at h
  rw [show rdN [7, 128, 1] 1 = 64 by decide, show rdT [7, 128, 1] 1 = 3 by decide, show rdE [7, 128, 1] 1 = 0 by decide] at h
  exact h
theorem wcallD (w : World) : Calls Try.prog 20 #[.slice (some ⟨w.heap.size, 0, none⟩) 3 3, .int .i64 0] (w.alloc (.cells #[.int .u8 4, .int .u8 97, .int .u8 98] 5))
    fun e w' => e = .returned (.tuple #[.string ⟨#[97, 98]⟩, .int .i64 3, .int .i64 0]) ∧ (w.alloc (.cells #[.int .u8 4, .int .u8 97, .int .u8 98] 5)) = w' := by
  have h := textAt_any _ (some ⟨w.heap.size, 0, none⟩) 3 [4, 97, 98] (by decide) (Rd.new w _ 5 (0, 0)) (by decide) 0 (by decide) (by decide)
  rw [show txS [4, 97, 98] 0 = [97, 98] by decide, show txT [4, 97, 98] 0 = 3 by decide, show txE [4, 97, 98] 0 = 0 by decide] at h
  exact h
/-- a string of new bytes -/
def RetStrB (n : Nat) (l : List UInt8) (w : World) (e : Ending) (w' : World) : Prop :=
  ∃ A c, e = .returned (.slice A n c) ∧ Below w.heap.size w w' ∧ (convert 22 9 (.slice A n c)).run Try.prog w' = .ok (.string ⟨l.toArray⟩) w'
theorem RetNew.str {l : List UInt8} {w : World} {e : Ending} {w' : World} (h : RetNew U8 5 l w e w') : RetStrB l.length l w e w' := by
  obtain ⟨A, c, he, hr, hb⟩ := h.rd
  exact ⟨A, c, he, hb, str_of w' A c l hr⟩
theorem wcallE (w : World) : Calls Try.prog 14 #[.slice none 0 0, .int .i64 (-1)] w (RetStrB 1 [1] w) := by
  have h := putInt_any w none 0 [] (Rd.nil _ _) (by decide) (-1) (by decide) (by decide)
  rw [show ([] : List UInt8) ++ enc (-1) = [1] by decide] at h
  exact h.mono fun _ _ h => h.str
theorem wcallF (w : World) : Calls Try.prog 14 #[.slice (some ⟨w.heap.size, 0, none⟩) 1 1, .int .i64 64] (w.alloc (.cells #[.int .u8 9] 5)) (RetStrB 3 [9, 128, 1] (w.alloc (.cells #[.int .u8 9] 5))) := by
  have h := putInt_any _ (some ⟨w.heap.size, 0, none⟩) 1 [9] (Rd.new w _ 5 (0, 0)) (by decide) 64 (by decide) (by decide)
  rw [show [9] ++ enc 64 = [9, 128, 1] by decide] at h
  exact h.mono fun _ _ h => h.str
theorem wcallG (w : World) : Calls Try.prog 18 #[.slice none 0 0, .slice (some ⟨w.heap.size, 0, none⟩) 2 2] (w.alloc (.cells #[.int .i64 1, .int .i64 (-1)] 3)) (RetStrB 3 [4, 2, 1] (w.alloc (.cells #[.int .i64 1, .int .i64 (-1)] 3))) := by
  have h := putInts_any _ none 0 [] (Rd.nil _ _) (by decide) (some ⟨w.heap.size, 0, none⟩) 2 [1, -1] (Rd.new w _ 3 (0, 0)) (by decide) (by decide)
  rw [show ([] : List UInt8) ++ encL [1, -1] = [4, 2, 1] by decide] at h
  exact h.mono fun _ _ h => h.str

set_option maxRecDepth 20000 in
set_option maxHeartbeats 1000000 in
theorem awake_any (w : World) : Calls Try.prog 11 #[] w fun e w' => e = .returned (.bool true) ∧ Below w.heap.size w w' := by
  go_enter Try.func11, Try.ntmps11
  go_wp2_with fail
  refine (wcallA _).mono ?_
  rintro e w' ⟨rfl, rfl⟩
  have hb0 := (Below.refl w.heap.size w).alloc (Nat.le_refl _) (.cells #[.int .u8 128, .int .u8 0] 5)
  generalize w.alloc (.cells #[.int .u8 128, .int .u8 0] 5) = w1 at *
  go_wp2_with fail
  refine (wcallB _).mono ?_
  rintro e w' ⟨rfl, rfl⟩
  have hb1 := hb0.alloc hb0.size (.cells #[.int .u8 128] 5)
  generalize w1.alloc (.cells #[.int .u8 128] 5) = w2 at *
  go_wp2_with fail
  refine (wcallC _).mono ?_
  rintro e w' ⟨rfl, rfl⟩
  have hb2 := hb1.alloc hb1.size (.cells #[.int .u8 7, .int .u8 128, .int .u8 1] 5)
  generalize w2.alloc (.cells #[.int .u8 7, .int .u8 128, .int .u8 1] 5) = w3 at *
  go_wp2_with fail
  refine (wcallD _).mono ?_
  rintro e w' ⟨rfl, rfl⟩
  have hb3 := hb2.alloc hb2.size (.cells #[.int .u8 4, .int .u8 97, .int .u8 98] 5)
  generalize w3.alloc (.cells #[.int .u8 4, .int .u8 97, .int .u8 98] 5) = w4 at *
  clear hb0 hb1 hb2
  go_wp2_with fail
  refine (wcallE _).mono ?_
  rintro e w5 ⟨A5, c5, rfl, hb5, hs5⟩
  have hb5 := hb3.trans (hb5.mono hb3.size)
  clear hb3
  go_wp2_with fail
  refine (wcallF _).mono ?_
  rintro e w6 ⟨A6, c6, rfl, hb6, hs6⟩
  have hb6 := (hb5.alloc hb5.size _).trans (hb6.mono (by simp; have := hb5.size; omega))
  clear hb5 hs5
  go_wp2_with fail
  refine (wcallG _).mono ?_
  rintro e w7 ⟨A7, c7, rfl, hb7, hs7⟩
  have hb7 := (hb6.alloc hb6.size _).trans (hb7.mono (by simp; have := hb6.size; omega))
  clear hb6 hs6
  go_wp2_with fail
  go_ret
  exact ⟨rfl, hb7⟩

set_option maxHeartbeats 400000 in
theorem few_yes (w : World) (A B : Option Addr) (n m c d : Nat) (s : ByteArray) (h1 : n ≤ 300) (h2 : s.size ≤ 300) (h3 : m ≤ 100) :
    Calls Try.prog 10 #[.slice A n c, .string s, .slice B m d] w fun e w' => e = .returned (.bool true) ∧ w = w' := by
  have k1 : decide ((n : Int) ≤ 300) = true := by simp; omega
  have k2 : decide ((s.size : Int) ≤ 300) = true := by simp; omega
  have k3 : decide ((m : Int) ≤ 100) = true := by simp; omega
  go_enter Try.func10, Try.ntmps10
  go_wp2
  go_ret
  exact ⟨rfl, rfl⟩
set_option maxHeartbeats 400000 in
theorem few_no (w : World) (A B : Option Addr) (n m c d : Nat) (s : ByteArray) (h : ¬ (n ≤ 300 ∧ s.size ≤ 300 ∧ m ≤ 100)) :
    Calls Try.prog 10 #[.slice A n c, .string s, .slice B m d] w fun e w' => e = .returned (.bool false) ∧ w = w' := by
  by_cases h1 : n ≤ 300
  · have k1 : decide ((n : Int) ≤ 300) = true := by simp; omega
    by_cases h2 : s.size ≤ 300
    · have k2 : decide ((s.size : Int) ≤ 300) = true := by simp; omega
      have k3 : decide ((m : Int) ≤ 100) = false := by simp; omega
      clear h
      go_enter Try.func10, Try.ntmps10
      go_wp2
      go_ret
      exact ⟨rfl, rfl⟩
    · have k2 : decide ((s.size : Int) ≤ 300) = false := by simp; omega
      clear h
      go_enter Try.func10, Try.ntmps10
      go_wp2
      go_ret
      exact ⟨rfl, rfl⟩
  · have k1 : decide ((n : Int) ≤ 300) = false := by simp; omega
    clear h
    go_enter Try.func10, Try.ntmps10
    go_wp2
    go_ret
    exact ⟨rfl, rfl⟩

set_option maxHeartbeats 1000000 in
theorem same_yes (w : World) (A : Option Addr) (c : Nat) (l : List Int) (h : Rd w A (l.map I64)) (hl : l.length ≤ 9223372036854775807) (B : Option Addr) (d : Nat) (k : Rd w B (l.map I64)) :
    Calls Try.prog 24 #[.slice A l.length c, .slice B l.length d] w fun e w' => e = .returned (.bool true) ∧ Below w.heap.size w w' := by
  have hne : ((l.length : Int) != (l.length : Int)) = false := by simp
  go_enter Try.func24, Try.ntmps24
  go_wp2
  go_loopw [13] (fun i wr => ∃ j m : Nat, j ≤ l.length ∧ i = .int .i64 j ∧ wr = w.drewN m) (fun i _ => l.length - (intOf i).toNat)
  case atStart => exact ⟨0, 0, by omega, rfl, rfl⟩
  case round =>
    obtain ⟨j, m, hj, rfl, rfl⟩ := hrel
    by_cases hlt : j < l.length
    · obtain ⟨b1, o1, rfl, hb1, hc1⟩ := h.at64 hlt
      obtain ⟨b2, o2, rfl, hb2, hc2⟩ := k.at64 hlt
      have i1 : (j : Int) < l.length := by omega
      go_wp2
      go_quiet (fail)
      go_wp2
      go_roundw
      case rel => exact ⟨j + 1, m + nq, by omega, by go_num, rfl⟩
      case measure => simp [intOf]; omega
    · go_wp2
      go_ret
      exact ⟨rfl, below_drewN (Below.refl _ _) _⟩
end Go.Proofs.Ytklimplhlhcajaa
