/-
  The walks of Hex and Unhex of layer 5 and of its reference. Conditions: none.
-/
import Derived.Test.YtnkdaaenobahkaaSums
namespace Go.Proofs.Ytnkdaaenobahkaa
open Go.RowKit
set_option linter.unusedVariables false

def hexArr (j x : Nat) : Array Value := ((List.replicate (16 - j) (0 : UInt8) ++ hexL j x).map U8).toArray

theorem hexArr_zero {j x : Nat} (h : j < 16) : (hexArr j x)[15 - j]? = some (.int .u8 0) := by
  simp [hexArr, List.getElem?_append, show 15 - j < 16 - j by omega, U8]

theorem hexArr_next {j x : Nat} (h : j < 16) : (hexArr j x).setIfInBounds (15 - j) (U8 (hexDig (x / 16 ^ j % 16))) = hexArr (j + 1) x := by
  unfold hexArr
  rw [List.setIfInBounds_toArray, ← List.map_set]
  congr 2
  rw [List.set_append_left _ _ (by simp; omega)]
  rw [show 16 - j = (15 - j) + 1 by omega, List.replicate_succ', List.set_append_right _ _ (by simp)]
  simp [hexL, show 16 - (j + 1) = 15 - j by omega]
theorem dig_at (d : Nat) (h : d < (⟨#[48, 49, 50, 51, 52, 53, 54, 55, 56, 57, 97, 98, 99, 100, 101, 102]⟩ : ByteArray).size) :
    (⟨#[48, 49, 50, 51, 52, 53, 54, 55, 56, 57, 97, 98, 99, 100, 101, 102]⟩ : ByteArray)[d] = hexDig d := by
  have h' : d < 16 := h
  have k : ∀ d : Fin 16, (⟨#[48, 49, 50, 51, 52, 53, 54, 55, 56, 57, 97, 98, 99, 100, 101, 102]⟩ : ByteArray)[d.val]'(d.isLt) = hexDig d.val := by decide
  exact k ⟨d, h'⟩

set_option maxHeartbeats 400000 in
theorem hex_any (n : Int) (w : World) :
    Calls Try.prog 19 #[.int .i64 n] w fun e w' => e = .returned (.string ⟨(hex n).toArray⟩) ∧ Below w.heap.size w w' := by
  go_enter Try.func19, Try.ntmps19
  go_wp2
  rw [w64_low]
  go_loopw [4, 5] (fun x i wr => ∃ j : Nat, j ≤ 16 ∧ i = .int .i64 (15 - (j : Int)) ∧ x = .int .u64 ((low62 n / 16 ^ j : Nat) : Int) ∧ wr = w.alloc (.cells (hexArr j (low62 n)) 44)) (fun _ i _ => (intOf i + 1).toNat)
  case atStart => exact ⟨0, by omega, rfl, by simp, rfl⟩
  case round =>
    obtain ⟨j, hj, rfl, rfl, rfl⟩ := hrel
    by_cases hlt : j < 16
    · have hz : (hexArr j (low62 n))[15 - j]? = some (.int .u8 0) := hexArr_zero hlt
      generalize hx : low62 n / 16 ^ j = xj
      have hxl : xj < 18446744073709551616 := by rw [← hx]; exact Nat.lt_of_le_of_lt (Nat.div_le_self _ _) (by have := low62_lt n; omega)
      have Hx := Lib.hid hx
      clear hx
      go_wp2
      go_roundw
      case rel =>
        refine ⟨j + 1, by omega, by go_num, int_eq ?_, ?_⟩
        · rw [Nat.pow_succ, ← Nat.div_div_eq_div_mul, Hx.out]; rfl
        · rw [dig_at, ← hexArr_next hlt, Hx.out]; rfl
      case measure => simp [intOf]; omega
    · obtain rfl : j = 16 := by omega
      have hrd : Rd (w.alloc (.cells (hexArr 16 (low62 n)) 44)) (some ⟨w.heap.size, 0, none⟩) ((hexL 16 (low62 n)).map U8) := by
        intro _
        refine ⟨w.heap.size, 0, rfl, by simp, fun j u hu => ?_⟩
        rw [Nat.zero_add, cell_of_row _ _ _ _ _ _ (heap_alloc_new w _)]
        simpa [hexArr] using hu
      have hs1 := str_of _ _ 16 _ hrd
      rw [hexL_length] at hs1
      go_wp2
      go_ret
      exact ⟨rfl, (Below.refl _ _).alloc (Nat.le_refl _) _⟩

set_option maxHeartbeats 400000 in
theorem rhex_any (n : Int) (w : World) :
    Calls Try.prog 20 #[.int .i64 n] w fun e w' => e = .returned (.string ⟨(hex n).toArray⟩) ∧ Below w.heap.size w w' := by
  go_enter Try.func20, Try.ntmps20
  go_wp2
  rw [w64_low]
  go_loopw [3, 4, 5] (fun x s i wr => ∃ j : Nat, j ≤ 16 ∧ i = .int .i64 j ∧ x = .int .u64 ((low62 n / 16 ^ j : Nat) : Int) ∧ s = .string ⟨(hexL j (low62 n)).toArray⟩ ∧ Below w.heap.size w wr) (fun _ _ i _ => (16 - intOf i).toNat)
  case atStart => exact ⟨0, by omega, rfl, by simp, rfl, Below.refl _ _⟩
  case round =>
    obtain ⟨j, hj, rfl, rfl, rfl, hb⟩ := hrel
    by_cases hlt : j < 16
    · generalize hx : low62 n / 16 ^ j = xj
      have hxl : xj < 18446744073709551616 := by rw [← hx]; exact Nat.lt_of_le_of_lt (Nat.div_le_self _ _) (by have := low62_lt n; omega)
      have Hx := Lib.hid hx
      clear hx
      have s1 := str_one wr (48 + ↑xj % 16) (by omega) (by omega)
      have s2 := str_one wr (97 + ↑xj % 16 - 10) (by omega) (by omega)
      have hlen : ¬ 9223372036854775807 < 1 + (hexL j (low62 n)).length := by rw [hexL_length]; omega
      go_wp2
      · have ht : (↑xj : Int) % 16 < 10 := by assumption
        go_roundw
        case rel =>
          refine ⟨j + 1, by omega, by go_num, int_eq ?_, ?_, hb.alloc hb.size _⟩
          · rw [Nat.pow_succ, ← Nat.div_div_eq_div_mul, Hx.out]; rfl
          · rw [hexL, Hx.out, hexDig, if_pos (by omega)]
            simp only [Value.string.injEq, ByteArray.ext_iff, ByteArray.data_append, List.append_toArray]
            simp
        case measure => simp [intOf]; omega
      · have ht : 10 ≤ (↑xj : Int) % 16 := by assumption
        go_roundw
        case rel =>
          refine ⟨j + 1, by omega, by go_num, int_eq ?_, ?_, hb.alloc hb.size _⟩
          · rw [Nat.pow_succ, ← Nat.div_div_eq_div_mul, Hx.out]; rfl
          · rw [hexL, Hx.out, hexDig, if_neg (by omega), show 97 + xj % 16 - 10 = 87 + xj % 16 by omega]
            simp only [Value.string.injEq, ByteArray.ext_iff, ByteArray.data_append, List.append_toArray]
            simp
        case measure => simp [intOf]; omega
    · obtain rfl : j = 16 := by omega
      go_wp2
      go_ret
      exact ⟨rfl, hb⟩
end Go.Proofs.Ytnkdaaenobahkaa
