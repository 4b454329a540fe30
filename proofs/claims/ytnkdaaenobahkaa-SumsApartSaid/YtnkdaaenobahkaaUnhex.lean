/-
  The walks of Unhex of layer 5 and of its reference. Conditions: none but that the string's length is an int.
-/
import Derived.Test.YtnkdaaenobahkaaHex
namespace Go.Proofs.Ytnkdaaenobahkaa
open Go.RowKit
set_option linter.unusedVariables false

theorem take_snoc (s : ByteArray) (k : Nat) (h : k < s.size) : s.data.toList.take (k + 1) = s.data.toList.take k ++ [s[k]] := by
  rw [List.take_succ_eq_append_getElem (by simpa using h)]; rfl
theorem hvs_take (s : ByteArray) (k : Nat) (h : k < s.size) : hvs (s.data.toList.take (k + 1)) = hvStep (hvs (s.data.toList.take k)) s[k] := by
  rw [take_snoc s k h, hvs_snoc]
theorem unhex_none (s : ByteArray) (k : Nat) (h : hvs (s.data.toList.take k) = none) : unhex s.data.toList = none := by
  unfold unhex
  split
  · rw [show hvs s.data.toList = none by
      rw [← List.take_append_drop k s.data.toList]; exact hvs_none h]
    rfl
  · rfl
theorem hvs_dig {x : Nat} {c : UInt8} (h1 : 48 ≤ (c.toNat : Int)) (h2 : (c.toNat : Int) ≤ 57) : hvStep (some x) c = some (16 * x + (c.toNat - 48)) := by
  simp [hvStep, hexVal, show 48 ≤ c.toNat by omega, show c.toNat ≤ 57 by omega]
theorem hvs_let {x : Nat} {c : UInt8} (h1 : 97 ≤ (c.toNat : Int)) (h2 : (c.toNat : Int) ≤ 102) : hvStep (some x) c = some (16 * x + (c.toNat - 87)) := by
  simp [hvStep, hexVal, show 97 ≤ c.toNat by omega, show c.toNat ≤ 102 by omega, show ¬ c.toNat ≤ 57 by omega]
theorem hvs_bad {o : Option Nat} {c : UInt8} (h1 : ¬ (48 ≤ c.toNat ∧ c.toNat ≤ 57)) (h2 : ¬ (97 ≤ c.toNat ∧ c.toNat ≤ 102)) : hvStep o c = none := by
  cases o <;> simp [hvStep, hexVal, h1, h2]

theorem str_cons (s : ByteArray) (h : 0 < s.size) : s.data.toList = s[0] :: s.data.toList.drop 1 := by
  have h' : 0 < s.data.toList.length := by simpa using h
  have h2 := List.drop_eq_getElem_cons h'
  rw [List.drop_zero] at h2
  exact h2

theorem unhex_big (s : ByteArray) (h0 : 0 < s.size) (h : s.size = 16) (hf : 51 < s[0].toNat) : unhex s.data.toList = none := by
  have h1 := str_cons s (by omega)
  unfold unhex
  rw [if_pos (by simpa using h)]
  rcases hv : hvs s.data.toList with _ | x
  · rfl
  · rw [h1] at hv
    have h2 := (hvs_first hv).2 hf
    have h3 : (s.data.toList.drop 1).length = 15 := by simp; omega
    rw [h3] at h2
    rw [Option.filter, if_neg]
    simpa using h2
theorem hvs_low (s : ByteArray) (h0 : 0 < s.size) (k : Nat) (hk : k < 16) (h : s.size = 16) (hf : s[0].toNat ≤ 51) {x : Nat} (hx : hvs (s.data.toList.take k) = some x) : x < 288230376151711744 := by
  rcases k with _ | k
  · simp [hvs] at hx; omega
  · rw [str_cons s (by omega), List.take_succ_cons] at hx
    have h2 := (hvs_first hx).1 hf
    have h3 : (List.take k (s.data.toList.drop 1)).length = k := by simp; omega
    rw [h3] at h2
    have h4 : 16 ^ k ≤ 16 ^ 14 := Nat.pow_le_pow_right (by omega) (by omega)
    omega
theorem unhex_all (s : ByteArray) (h0 : 0 < s.size) (h : s.size = 16) (hf : s[0].toNat ≤ 51) {x : Nat} (hx : hvs s.data.toList = some x) : unhex s.data.toList = some x := by
  have h0 := hx
  rw [str_cons s (by omega)] at h0
  have h2 := (hvs_first h0).1 hf
  have h3 : (s.data.toList.drop 1).length = 15 := by simp; omega
  rw [h3] at h2
  unfold unhex
  rw [if_pos (by simpa using h), hx, Option.filter, if_pos]
  simpa using h2

set_option maxHeartbeats 1000000 in
theorem unhex_any (s : ByteArray) (w : World) (hs : s.size ≤ 9223372036854775807) :
    Calls Try.prog 21 #[.string s] w fun e w' =>
      e = .returned (.tuple #[.int .i64 ((unhex s.data.toList).getD 0 : Nat), .bool (unhex s.data.toList).isSome]) ∧ w = w' := by
  by_cases h16 : s.size = 16
  · have h0 : 0 < s.size := by omega
    by_cases hf : 51 < s[0].toNat
    · rw [unhex_big s h0 h16 hf]
      have hb : ((s.size : Int) != 16) = false := by simp; omega
      have hf' : (51 : Int) < s[0].toNat := by omega
      clear h16
      go_enter Try.func21, Try.ntmps21
      go_wp2
      go_ret2
      exact ⟨rfl, rfl⟩
    · have hb : ((s.size : Int) != 16) = false := by simp; omega
      have hle : s[0].toNat ≤ 51 := by omega
      have H16 := Lib.hid h16
      have hge : 16 ≤ s.size := by omega
      have hse : s.size ≤ 16 := by omega
      clear h16 hf
      have hle' : ¬ (51 : Int) < s[0].toNat := by omega
      go_enter Try.func21, Try.ntmps21
      go_wp2
      go_loop [4, 17] (fun n i => ∃ k x : Nat, k ≤ 16 ∧ i = .int .i64 k ∧ n = .int .i64 x ∧ hvs (s.data.toList.take k) = some x) (fun _ i => 16 - (intOf i).toNat)
      case atStart => exact ⟨0, 0, by omega, rfl, rfl, rfl⟩
      case round =>
        obtain ⟨k, x, hk, rfl, rfl, hx⟩ := hrel
        have Hx := Lib.hid hx
        clear hx
        by_cases hlt : k < 16
        · have hlt' : k < s.size := by omega
          have hxl := hvs_low s h0 k hlt H16.out hle Hx.out
          have hc := s[k].toNat_lt
          go_wp2
          · go_round
            case rel => exact ⟨k + 1, 16 * x + (s[k].toNat - 48), by omega, by go_num, int_eq (by omega), by rw [hvs_take s k hlt', Hx.out]; exact hvs_dig ‹_› ‹_›⟩
            case measure => simp [intOf]; omega
          · go_round
            case rel => exact ⟨k + 1, 16 * x + (s[k].toNat - 87), by omega, by go_num, int_eq (by omega), by rw [hvs_take s k hlt', Hx.out]; exact hvs_let ‹_› ‹_›⟩
            case measure => simp [intOf]; omega
          all_goals
            have hbad : unhex s.data.toList = none := unhex_none s (k + 1) (by rw [hvs_take s k hlt']; exact hvs_bad (by omega) (by omega))
            go_ret2
            rw [hbad]
            exact ⟨rfl, rfl⟩
        · obtain rfl : k = 16 := by omega
          have hall := Lib.hid (unhex_all s h0 H16.out hle (x := x) (by
            have := Hx.out
            rwa [List.take_of_length_le (by simp; omega)] at this))
          go_wp2
          go_ret2
          rw [hall.out]
          exact ⟨rfl, rfl⟩
  · have hb : ((s.size : Int) != 16) = true := by simp; omega
    have hn : unhex s.data.toList = none := by
      unfold unhex; rw [if_neg]; simpa using h16
    rw [hn]
    go_enter Try.func21, Try.ntmps21
    go_wp2
    go_ret2
    exact ⟨rfl, rfl⟩

theorem hvs_low15 (s : ByteArray) (k : Nat) (hk : k < 16) {x : Nat} (hx : hvs (s.data.toList.take k) = some x) : x < 1152921504606846976 := by
  have h1 := hvs_lt hx
  have h2 : (List.take k s.data.toList).length ≤ k := List.length_take_le _ _
  have h4 : 16 ^ (List.take k s.data.toList).length ≤ 16 ^ 15 := Nat.pow_le_pow_right (by omega) (by omega)
  omega
theorem unhex_in (s : ByteArray) (h : s.size = 16) {x : Nat} (hx : hvs s.data.toList = some x) :
    (x < 4611686018427387904 → unhex s.data.toList = some x) ∧ (¬ x < 4611686018427387904 → unhex s.data.toList = none) := by
  unfold unhex
  rw [if_pos (by simpa using h), hx, Option.filter]
  constructor
  · intro h1; rw [if_pos (by simpa using h1)]
  · intro h1; rw [if_neg (by simpa using h1)]

set_option maxHeartbeats 1000000 in
theorem runhex_any (s : ByteArray) (w : World) (hs : s.size ≤ 9223372036854775807) :
    Calls Try.prog 22 #[.string s] w fun e w' =>
      e = .returned (.tuple #[.int .i64 ((unhex s.data.toList).getD 0 : Nat), .bool (unhex s.data.toList).isSome]) ∧ w = w' := by
  by_cases h16 : s.size = 16
  · have hb : ((s.size : Int) != 16) = false := by simp; omega
    have H16 := Lib.hid h16
    have hge : 16 ≤ s.size := by omega
    have hse : s.size ≤ 16 := by omega
    clear h16
    go_enter Try.func22, Try.ntmps22
    go_wp2
    go_loop [4, 5] (fun n i => ∃ k x : Nat, k ≤ 16 ∧ i = .int .i64 k ∧ n = .int .u64 x ∧ hvs (s.data.toList.take k) = some x) (fun _ i => 16 - (intOf i).toNat)
    case atStart => exact ⟨0, 0, by omega, rfl, rfl, rfl⟩
    case round =>
      obtain ⟨k, x, hk, rfl, rfl, hx⟩ := hrel
      have Hx := Lib.hid hx
      clear hx
      by_cases hlt : k < 16
      · have hlt' : k < s.size := by omega
        have hxl := hvs_low15 s k hlt Hx.out
        have hc := s[k].toNat_lt
        go_wp2
        · go_round
          case rel => exact ⟨k + 1, 16 * x + (s[k].toNat - 48), by omega, by go_num, int_eq (by omega), by rw [hvs_take s k hlt', Hx.out]; exact hvs_dig ‹_› ‹_›⟩
          case measure => simp [intOf]; omega
        · go_round
          case rel => exact ⟨k + 1, 16 * x + (s[k].toNat - 87), by omega, by go_num, int_eq (by omega), by rw [hvs_take s k hlt', Hx.out]; exact hvs_let ‹_› ‹_›⟩
          case measure => simp [intOf]; omega
        all_goals
          have hbad : unhex s.data.toList = none := unhex_none s (k + 1) (by rw [hvs_take s k hlt']; exact hvs_bad (by omega) (by omega))
          go_ret2
          rw [hbad]
          exact ⟨rfl, rfl⟩
      · obtain rfl : k = 16 := by omega
        have hin := unhex_in s H16.out (x := x) (by
          have := Hx.out
          rwa [List.take_of_length_le (by simp; omega)] at this)
        have Hin := Lib.hid hin
        clear hin
        by_cases hxx : x < 4611686018427387904
        · go_wp2
          go_ret2
          rw [Hin.out.1 hxx]
          exact ⟨rfl, rfl⟩
        · go_wp2
          go_ret2
          rw [Hin.out.2 hxx]
          exact ⟨rfl, rfl⟩
  · have hb : ((s.size : Int) != 16) = true := by simp; omega
    have hn : unhex s.data.toList = none := by
      unfold unhex; rw [if_neg]; simpa using h16
    rw [hn]
    go_enter Try.func22, Try.ntmps22
    go_wp2
    go_ret2
    exact ⟨rfl, rfl⟩
end Go.Proofs.Ytnkdaaenobahkaa
