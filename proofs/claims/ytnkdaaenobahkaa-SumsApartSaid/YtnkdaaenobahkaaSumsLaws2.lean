/-
  The walks of the statements SumsBack and SumsMore: each returns true and changes nothing that was there. Conditions: the arguments read as their types say.
-/
import Derived.Test.YtnkdaaenobahkaaSumsAwake
import Derived.Test.YtnkdaaenobahkaaSumsMath
import Derived.Test.YtnkdaaenobahkaaAppend
namespace Go.Proofs.Ytnkdaaenobahkaa
open Go.RowKit
set_option linter.unusedVariables false

theorem unhexhex_any (n : Int) (w : World) : Calls Try.prog 21 #[.string ⟨(hex n).toArray⟩] w fun e w' => e = .returned (.tuple #[.int .i64 (low62 n : Nat), .bool true]) ∧ w = w' := by
  have hsz : (⟨(hex n).toArray⟩ : ByteArray).size ≤ 9223372036854775807 := by
    show (hex n).toArray.size ≤ _
    have : (hex n).length = 16 := hexL_length 16 _
    simp [this]
  have h := unhex_any ⟨(hex n).toArray⟩ w hsz
  have e : unhex (⟨(hex n).toArray⟩ : ByteArray).data.toList = some (low62 n) := by simpa using unhex_hex n
  rw [e] at h
  exact h

theorem shl2 (n : Int) : wrap64 (IntKind.u64.wrap (IntKind.u64.wrap n * 4) / 4) = ((low62 n : Nat) : Int) := by
  have h : IntKind.u64.wrap (IntKind.u64.wrap n * 4) / 4 = ((low62 n : Nat) : Int) := by
    rw [IntKind.wrap_u64, IntKind.wrap_u64]; unfold low62; omega
  rw [h]
  have := low62_lt n
  exact IntWalk.wrap64_in _ ⟨by omega, by omega⟩
theorem unhex_no (s : ByteArray) (w : World) (hs : s.size ≤ 9223372036854775807) (h : unhex s.data.toList = none) :
    Calls Try.prog 21 #[.string s] w fun e w' => e = .returned (.tuple #[.int .i64 0, .bool false]) ∧ w = w' := by
  have := unhex_any s w hs
  rw [h] at this
  exact this
theorem unhex_yes (s : ByteArray) (k : Nat) (w : World) (hs : s.size ≤ 9223372036854775807) (h : unhex s.data.toList = some k) :
    Calls Try.prog 21 #[.string s] w fun e w' => e = .returned (.tuple #[.int .i64 k, .bool true]) ∧ w = w' := by
  have := unhex_any s w hs
  rw [h] at this
  exact this
theorem hexback_any (s : ByteArray) (k : Nat) (w : World) (h : unhex s.data.toList = some k) :
    Calls Try.prog 19 #[.int .i64 k] w fun e w' => e = .returned (.string s) ∧ Below w.heap.size w w' := by
  have := hex_any (k : Int) w
  rw [hex_unhex _ _ h] at this
  exact this

set_option maxHeartbeats 1000000 in
theorem walk_SumsBack (w : World) (n : Int) (lo : -9223372036854775808 ≤ n) (hi : n ≤ 9223372036854775807) (s : ByteArray) (hs : s.size ≤ maxLen) :
    Calls Try.prog 7 #[.int .i64 n, .string s] w fun e w' => e = .returned (.bool true) ∧ Below w.heap.size w w' := by
  unfold maxLen at hs
  by_cases hf : s.size ≤ 300
  · have hne : (((low62 n : Nat) : Int) != wrap64 (IntKind.u64.wrap (IntKind.u64.wrap n * 4) / 4)) = false := by rw [shl2]; simp
    rcases hu : unhex s.data.toList with _ | k
    · have Hu := Lib.hid hu
      clear hu
      go_enter Try.func7, Try.ntmps7
      go_wp2_with fail
      refine (hex_any _ _).mono ?_
      rintro e w1 ⟨rfl, hb1⟩
      go_wp2_with fail
      refine (unhexhex_any _ _).mono ?_
      rintro e w' ⟨rfl, rfl⟩
      go_wp2_with fail
      refine (unhex_no s _ hs Hu.out).mono ?_
      rintro e w' ⟨rfl, rfl⟩
      go_wp2_with fail
      refine (awake_any _).mono ?_
      rintro e w2 ⟨rfl, hb2⟩
      go_wp2_with fail
      go_ret
      exact ⟨rfl, hb1.trans (hb2.mono hb1.size)⟩
    · have Hu := Lib.hid hu
      clear hu
      go_enter Try.func7, Try.ntmps7
      go_wp2_with fail
      refine (hex_any _ _).mono ?_
      rintro e w1 ⟨rfl, hb1⟩
      go_wp2_with fail
      refine (unhexhex_any _ _).mono ?_
      rintro e w' ⟨rfl, rfl⟩
      go_wp2_with fail
      refine (unhex_yes s k _ hs Hu.out).mono ?_
      rintro e w' ⟨rfl, rfl⟩
      go_wp2_with fail
      refine (hexback_any s k _ Hu.out).mono ?_
      rintro e w2 ⟨rfl, hb2⟩
      go_wp2_with fail
      refine (awake_any _).mono ?_
      rintro e w3 ⟨rfl, hb3⟩
      go_wp2_with fail
      go_ret
      exact ⟨rfl, (hb1.trans (hb2.mono hb1.size)).trans (hb3.mono (Nat.le_trans hb1.size hb2.size))⟩
  · go_enter Try.func7, Try.ntmps7
    go_wp2_with fail
    refine (awake_any _).mono ?_
    rintro e w' ⟨rfl, hb⟩
    go_wp2_with fail
    go_ret
    exact ⟨rfl, hb⟩

set_option maxHeartbeats 1000000 in
theorem walk_SumsMore (w : World) (n : Int) (lo : -9223372036854775808 ≤ n) (hi : n ≤ 9223372036854775807) (A : Option Addr) (c : Nat) (l : List UInt8) (h : Rd w A (l.map U8)) (hl : l.length ≤ maxLen)
    (B : Option Addr) (d : Nat) (m : List UInt8) (k : Rd w B (m.map U8)) (hm : m.length ≤ maxLen) :
    Calls Try.prog 8 #[.int .i64 n, .slice A l.length c, .slice B m.length d] w fun e w' => e = .returned (.bool true) ∧ Below w.heap.size w w' := by
  unfold maxLen at hl hm
  by_cases hf : l.length ≤ 5000 ∧ m.length ≤ 5000
  · obtain ⟨i0, hi0, hz0, hz1, hz2⟩ := info_parts info_u8
    have hf1 := hf.1
    have hf2 := hf.2
    clear hf
    go_enter Try.func8, Try.ntmps8
    go_wp2_with fail
    refine (few_yes _ _ _ _ _ _ _ hf1 hf2).mono ?_
    rintro e w' ⟨rfl, rfl⟩
    go_wp2_with (first
      | (at_builtin
         refine wpList_append_map _ U8 U8_one rfl (.tmp 13) (.tmp 14) _ rfl w.heap.size 5 i0 _ 1 Try.underlying22 hi0 hz0 hz1 hz2 rfl none 0 [] rfl (Own.nil _ _ _ _) A c l rfl h (by simp only [maxLen, List.length_nil]; omega) (by simp only [List.length_nil]; omega) (Nat.le_refl _) ?_
         intro A1 c1 l1 w1 e1 hown1 hr1 hg1 hb1 hat1
         have hl1 : l1.length ≤ 5000 := by rw [e1.out]; simpa using hf1)
      | (at_builtin
         refine wpList_append_map _ U8 U8_one rfl (.tmp 16) (.tmp 17) _ rfl w.heap.size 5 i0 _ 1 Try.underlying22 hi0 hz0 hz1 hz2 rfl A1 c1 l1 rfl hown1 B d m rfl (k.below hb1) (by simp only [maxLen]; omega) (by omega) hb1.size ?_
         intro A2 c2 l2 w2 e2 hown2 hr2 hg2 hb2 hat2)
      | fail)
    have hb12 := hb1.trans hb2
    have e12 : Hid (l2 = l ++ m) := by
      have := e2.out; rw [e1.out] at this; simpa [Hid] using this
    have hl2 : l2.length ≤ 9223372036854775807 := by rw [e12.out]; simp; omega
    have hA := h.below hb12
    have hB := k.below hb12
    clear e1 e2 hown1 hown2 hr1 hg1 hg2 hat1 hat2 h k
    refine (more_any _ _ _ _ _ hA hl).mono ?_
    rintro e w' ⟨rfl, rfl⟩
    go_wp2_with fail
    refine (more_any _ _ _ _ _ hB hm).mono ?_
    rintro e w' ⟨rfl, rfl⟩
    rw [more_append, ← e12.out]
    go_wp2_with fail
    refine (more_any _ _ _ _ _ hr2 hl2).mono ?_
    rintro e w' ⟨rfl, rfl⟩
    go_wp2_with fail
    refine (hash_any _ _ _ _ hA hl).mono ?_
    rintro e w' ⟨rfl, rfl⟩
    go_wp2_with fail
    refine (more_any _ _ _ _ _ hB hm).mono ?_
    rintro e w' ⟨rfl, rfl⟩
    rw [show more (hash l : Nat) m = hash l2 by unfold hash; rw [more_append, ← e12.out]]
    go_wp2_with fail
    refine (hash_any _ _ _ _ hr2 hl2).mono ?_
    rintro e w' ⟨rfl, rfl⟩
    go_wp2_with fail
    refine (awake_any _).mono ?_
    rintro e w3 ⟨rfl, hb3⟩
    go_wp2_with fail
    go_ret
    exact ⟨rfl, hb12.trans (hb3.mono hb12.size)⟩
  · go_enter Try.func8, Try.ntmps8
    go_wp2_with fail
    refine (few_no _ _ _ _ _ _ _ hf).mono ?_
    rintro e w' ⟨rfl, rfl⟩
    go_wp2_with fail
    refine (awake_any _).mono ?_
    rintro e w' ⟨rfl, hb⟩
    go_wp2_with fail
    go_ret
    exact ⟨rfl, hb⟩
end Go.Proofs.Ytnkdaaenobahkaa
