/-
  The walks of 'few' and 'awake' of the statements about layer 5: the chapter's examples hold. Conditions: none.
-/
import Derived.Test.YtnkdaaenobahkaaUnhex
import Derived.Lib.SlBytesConst
namespace Go.Proofs.Ytnkdaaenobahkaa
open Go.RowKit
set_option linter.unusedVariables false

def sA : ByteArray := ⟨#[52, 48, 48, 48, 48, 48, 48, 48, 48, 48, 48, 48, 48, 48, 48, 48]⟩
def sB : ByteArray := ⟨#[50, 70, 54, 51, 100, 99, 52, 99, 56, 54, 48, 49, 101, 99, 56, 99]⟩
def sC : ByteArray := ⟨#[50, 102, 54, 51, 100, 99, 52, 99, 56, 54, 48, 49, 101, 99, 56, 99]⟩
theorem uA : unhex sA.data.toList = none := by decide +kernel
theorem uB : unhex sB.data.toList = none := by decide +kernel
theorem uC : unhex sC.data.toList = some 3414815163700866188 := by decide +kernel
theorem callA (w : World) : Calls Try.prog 21 #[.string ⟨#[52, 48, 48, 48, 48, 48, 48, 48, 48, 48, 48, 48, 48, 48, 48, 48]⟩] w fun e w' => e = .returned (.tuple #[.int .i64 0, .bool false]) ∧ w = w' := by
  have h := unhex_any sA w (by decide)
  rw [uA] at h
  exact h
theorem callB (w : World) : Calls Try.prog 21 #[.string ⟨#[50, 70, 54, 51, 100, 99, 52, 99, 56, 54, 48, 49, 101, 99, 56, 99]⟩] w fun e w' => e = .returned (.tuple #[.int .i64 0, .bool false]) ∧ w = w' := by
  have h := unhex_any sB w (by decide)
  rw [uB] at h
  exact h
theorem callC (w : World) : Calls Try.prog 21 #[.string ⟨#[50, 102, 54, 51, 100, 99, 52, 99, 56, 54, 48, 49, 101, 99, 56, 99]⟩] w fun e w' => e = .returned (.tuple #[.int .i64 3414815163700866188, .bool true]) ∧ w = w' := by
  have h := unhex_any sC w (by decide)
  rw [uC] at h
  exact h

theorem v1 : crc [49, 50, 51, 52, 53, 54, 55, 56, 57] = 3421780262 := by decide +kernel
theorem v2 : crc [] = 0 := by decide +kernel
theorem v3 : hash [97] = 3414815163700866188 := by decide +kernel
theorem v4 : hash [] = 860922984064492325 := by decide +kernel
theorem v5 : (⟨(hex 3414815163700866188).toArray⟩ : ByteArray) = sC := by decide +kernel
theorem v6 : (⟨(hex (-1)).toArray⟩ : ByteArray) = ⟨#[51, 102, 102, 102, 102, 102, 102, 102, 102, 102, 102, 102, 102, 102, 102, 102]⟩ := by decide +kernel

theorem callD (w : World) : Calls Try.prog 13 #[.slice (some ⟨w.heap.size, 0, none⟩) 9 9]
    (w.alloc (.cells #[.int .u8 49, .int .u8 50, .int .u8 51, .int .u8 52, .int .u8 53, .int .u8 54, .int .u8 55, .int .u8 56, .int .u8 57] 5 (9, 10)))
    fun e w' => e = .returned (.int .i64 3421780262) ∧ (w.alloc (.cells #[.int .u8 49, .int .u8 50, .int .u8 51, .int .u8 52, .int .u8 53, .int .u8 54, .int .u8 55, .int .u8 56, .int .u8 57] 5 (9, 10))) = w' := by
  have h := crc_any (some ⟨w.heap.size, 0, none⟩) 9 [49, 50, 51, 52, 53, 54, 55, 56, 57] _ (Rd.new w _ 5 (9, 10)) (by decide)
  rw [v1] at h
  exact h
theorem callE (w : World) : Calls Try.prog 13 #[.slice none 0 0] w fun e w' => e = .returned (.int .i64 0) ∧ w = w' := by
  have h := crc_any none 0 [] w (Rd.nil _ _) (by decide)
  rw [v2] at h
  exact h
theorem callF (w : World) : Calls Try.prog 15 #[.slice (some ⟨w.heap.size, 0, none⟩) 1 1] (w.alloc (.cells #[.int .u8 97] 5 (1, 2)))
    fun e w' => e = .returned (.int .i64 3414815163700866188) ∧ (w.alloc (.cells #[.int .u8 97] 5 (1, 2))) = w' := by
  have h := hash_any (some ⟨w.heap.size, 0, none⟩) 1 [97] _ (Rd.new w _ 5 (1, 2)) (by decide)
  rw [v3] at h
  exact h
theorem callG (w : World) : Calls Try.prog 15 #[.slice none 0 0] w fun e w' => e = .returned (.int .i64 860922984064492325) ∧ w = w' := by
  have h := hash_any none 0 [] w (Rd.nil _ _) (by decide)
  rw [v4] at h
  exact h
theorem callH (w : World) : Calls Try.prog 19 #[.int .i64 3414815163700866188] w fun e w' => e = .returned (.string ⟨#[50, 102, 54, 51, 100, 99, 52, 99, 56, 54, 48, 49, 101, 99, 56, 99]⟩) ∧ Below w.heap.size w w' := by
  have h := hex_any 3414815163700866188 w
  rw [v5] at h
  exact h
theorem callI (w : World) : Calls Try.prog 19 #[.int .i64 (-1)] w fun e w' => e = .returned (.string ⟨#[51, 102, 102, 102, 102, 102, 102, 102, 102, 102, 102, 102, 102, 102, 102, 102]⟩) ∧ Below w.heap.size w w' := by
  have h := hex_any (-1) w
  rw [v6] at h
  exact h

set_option maxHeartbeats 1000000 in
theorem awake_any (w : World) : Calls Try.prog 12 #[] w fun e w' => e = .returned (.bool true) ∧ Below w.heap.size w w' := by
  have kc := fun (w : World) (C : Array Value) (n c : Nat) => Lib.run_convert_bytes_const (P := Try.prog) w 22 5 C n c Try.underlying22 Try.underlying5
  go_enter Try.func12, Try.ntmps12
  go_wp2_with fail
  refine (callA _).mono ?_
  rintro e w' ⟨rfl, rfl⟩
  go_wp2_with fail
  refine (callB _).mono ?_
  rintro e w' ⟨rfl, rfl⟩
  go_wp2_with fail
  refine (callC _).mono ?_
  rintro e w' ⟨rfl, rfl⟩
  go_wp2_with fail
  refine (callD _).mono ?_
  rintro e w' ⟨rfl, rfl⟩
  go_wp2_with fail
  refine (callE _).mono ?_
  rintro e w' ⟨rfl, rfl⟩
  have hb0 : Below w.heap.size w (w.alloc (.cells #[.int .u8 49, .int .u8 50, .int .u8 51, .int .u8 52, .int .u8 53, .int .u8 54, .int .u8 55, .int .u8 56, .int .u8 57] 5 (9, 10))) := (Below.refl _ _).alloc (Nat.le_refl _) _
  generalize w.alloc (.cells #[.int .u8 49, .int .u8 50, .int .u8 51, .int .u8 52, .int .u8 53, .int .u8 54, .int .u8 55, .int .u8 56, .int .u8 57] 5 (9, 10)) = w1 at *
  go_wp2_with fail
  refine (callF w1).mono ?_
  rintro e w' ⟨rfl, rfl⟩
  have hb1 := hb0.alloc hb0.size (.cells #[.int .u8 97] 5 (1, 2))
  generalize w1.alloc (.cells #[.int .u8 97] 5 (1, 2)) = w2 at *
  go_wp2_with fail
  refine (callG _).mono ?_
  rintro e w' ⟨rfl, rfl⟩
  go_wp2_with fail
  refine (callH _).mono ?_
  rintro e w3 ⟨rfl, hb2⟩
  go_wp2_with fail
  refine (callI _).mono ?_
  rintro e w4 ⟨rfl, hb3⟩
  go_wp2_with fail
  go_ret
  exact ⟨rfl, (hb1.trans (hb2.mono hb1.size)).trans (hb3.mono (Nat.le_trans hb1.size hb2.size))⟩

set_option maxHeartbeats 400000 in
theorem few_yes (A B : Option Addr) (n m c d : Nat) (w : World) (h1 : n ≤ 5000) (h2 : m ≤ 5000) :
    Calls Try.prog 11 #[.slice A n c, .slice B m d] w fun e w' => e = .returned (.bool true) ∧ w = w' := by
  have k2 : decide ((m : Int) ≤ 5000) = true := by simp; omega
  go_enter Try.func11, Try.ntmps11
  go_wp2
  go_ret
  exact ⟨rfl, rfl⟩
set_option maxHeartbeats 400000 in
theorem few_no (A B : Option Addr) (n m c d : Nat) (w : World) (h : ¬ (n ≤ 5000 ∧ m ≤ 5000)) :
    Calls Try.prog 11 #[.slice A n c, .slice B m d] w fun e w' => e = .returned (.bool false) ∧ w = w' := by
  by_cases h1 : n ≤ 5000
  · have h2 : ¬ m ≤ 5000 := by omega
    have k2 : decide ((m : Int) ≤ 5000) = false := by simp; omega
    clear h
    go_enter Try.func11, Try.ntmps11
    go_wp2
    go_ret
    exact ⟨rfl, rfl⟩
  · clear h
    go_enter Try.func11, Try.ntmps11
    go_wp2
    go_ret
    exact ⟨rfl, rfl⟩
end Go.Proofs.Ytnkdaaenobahkaa
