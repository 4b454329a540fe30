/-
  The walk of the statement SumsApart: it returns true and changes nothing that was there. Conditions: the arguments read as their types say.
-/
import Derived.Test.YtnkdaaenobahkaaSumsLaws3
import Derived.OpenShut
namespace Go.Proofs.Ytnkdaaenobahkaa
open Go.RowKit
set_option linter.unusedVariables false

theorem shl_eq (g h : Int) : (IntKind.u64.wrap (IntKind.u64.wrap g * 4) == IntKind.u64.wrap (IntKind.u64.wrap h * 4)) = decide (low62 g = low62 h) := by
  rw [Bool.eq_iff_iff, beq_iff_eq, decide_eq_true_iff]
  simp only [IntKind.wrap_u64]
  unfold low62
  omega
theorem more_eq (g h : Int) (l : List UInt8) : (((more g l : Nat) : Int) == ((more h l : Nat) : Int)) = decide (low62 g = low62 h) := by
  rw [Bool.eq_iff_iff, beq_iff_eq, decide_eq_true_iff, ← more_iff g h l]
  omega

theorem wrap64_bd (n : Int) : -9223372036854775808 ≤ wrap64 n ∧ wrap64 n ≤ 9223372036854775807 := bounds_i64 (wrap64_wf n)
theorem changed_one (w : World) (A : Option Addr) (c : Nat) (l : List UInt8) (h : Rd w A (l.map U8)) (hl : l.length ≤ 5000) (k : Int) (lo : -9223372036854775808 ≤ k) (hi : k ≤ 9223372036854775807) (x : UInt8) :
    Calls Try.prog 23 #[.slice A l.length c, .int .i64 k, .agg #[.int .u8 x.toNat, .int .u8 0, .int .u8 0, .int .u8 0]] w (RetBytes (chg l k [x, 0, 0, 0] 4) w) :=
  changed_any w A c l h hl k lo hi x 0 0 0

set_option maxHeartbeats 2000000 in
theorem walk_SumsApart (w : World) (g : Int) (lo0 : -9223372036854775808 ≤ g) (hi0 : g ≤ 9223372036854775807) (n : Int) (lo : -9223372036854775808 ≤ n) (hi : n ≤ 9223372036854775807)
    (A : Option Addr) (c : Nat) (l : List UInt8) (h : Rd w A (l.map U8)) (hl : l.length ≤ maxLen) (x : UInt8) :
    Calls Try.prog 10 #[.int .i64 g, .int .i64 n, .slice A l.length c, .int .u8 x.toNat] w fun e w' => e = .returned (.bool true) ∧ Below w.heap.size w w' := by
  unfold maxLen at hl
  by_cases hf : l.length ≤ 5000
  · have q1 := more_eq g n l
    have q2 := shl_eq g n
    generalize decide (low62 g = low62 n) = bb at *
    by_cases hz : 0 < l.length
    · go_enter Try.func10, Try.ntmps10
      go_wp2_with fail
      refine (few_yes _ _ _ _ _ _ _ hf (by omega)).mono ?_
      rintro e w' ⟨rfl, rfl⟩
      go_wp2_with fail
      refine (more_any _ _ _ _ _ h hl).mono ?_
      rintro e w' ⟨rfl, rfl⟩
      go_wp2_with fail
      refine (more_any _ _ _ _ _ h hl).mono ?_
      rintro e w' ⟨rfl, rfl⟩
      go_wp2_with fail
      have hk0 := wrap64_bd ((IntKind.u64.wrap n).tmod ↑l.length)
      generalize wrap64 ((IntKind.u64.wrap n).tmod ↑l.length) = k at *
      have lok := hk0.1
      have hik := hk0.2
      clear hk0
      have hc4 := Lib.hid (chg_hash l k x)
      have Hlen := Lib.hid (chg_length l k [x, 0, 0, 0] 4)
      refine (changed_one _ A c l h hf k lok hik x).mono ?_
      rintro e w2 ⟨B, d, rfl, hk, hb⟩
      have hml : (chg l k [x, 0, 0, 0] 4).length ≤ 9223372036854775807 := by rw [Hlen.out]; omega
      generalize chg l k [x, 0, 0, 0] 4 = m at *
      clear Hlen
      have h2 := h.below hb
      by_cases hq : l = m
      · subst hq
        go_wp2_with fail
        refine (equal_any _ _ _ _ h2 _ _ _ hk).mono ?_
        rintro e w' ⟨rfl, rfl⟩
        go_wp2_with fail
        refine (hash_any _ _ _ _ h2 hl).mono ?_
        rintro e w' ⟨rfl, rfl⟩
        go_wp2_with fail
        refine (hash_any _ _ _ _ hk hml).mono ?_
        rintro e w' ⟨rfl, rfl⟩
        go_wp2_with fail
        refine (awake_any _).mono ?_
        rintro e w3 ⟨rfl, hb3⟩
        go_wp2_with fail
        go_ret
        exact ⟨rfl, hb.trans (hb3.mono hb.size)⟩
      · have q3 : (l == m) = false := by simpa using hq
        have q4 : (((hash l : Nat) : Int) == ((hash m : Nat) : Int)) = false := by
          have := mt hc4.out.1 hq
          simp; omega
        have Hq := Lib.hid hq
        clear hq
        go_wp2_with fail
        refine (equal_any _ _ _ _ h2 _ _ _ hk).mono ?_
        rintro e w' ⟨rfl, rfl⟩
        go_wp2_with fail
        refine (hash_any _ _ _ _ h2 hl).mono ?_
        rintro e w' ⟨rfl, rfl⟩
        go_wp2_with fail
        refine (hash_any _ _ _ _ hk hml).mono ?_
        rintro e w' ⟨rfl, rfl⟩
        go_wp2_with fail
        refine (awake_any _).mono ?_
        rintro e w3 ⟨rfl, hb3⟩
        go_wp2_with fail
        go_ret
        exact ⟨rfl, hb.trans (hb3.mono hb.size)⟩
    · go_enter Try.func10, Try.ntmps10
      go_wp2_with fail
      refine (few_yes _ _ _ _ _ _ _ hf (by omega)).mono ?_
      rintro e w' ⟨rfl, rfl⟩
      go_wp2_with fail
      refine (more_any _ _ _ _ _ h hl).mono ?_
      rintro e w' ⟨rfl, rfl⟩
      go_wp2_with fail
      refine (more_any _ _ _ _ _ h hl).mono ?_
      rintro e w' ⟨rfl, rfl⟩
      go_wp2_with fail
      have hc4 := Lib.hid (chg_hash l 0 x)
      have Hlen := Lib.hid (chg_length l 0 [x, 0, 0, 0] 4)
      refine (changed_one _ A c l h hf 0 (by omega) (by omega) x).mono ?_
      rintro e w2 ⟨B, d, rfl, hk, hb⟩
      have hml : (chg l 0 [x, 0, 0, 0] 4).length ≤ 9223372036854775807 := by rw [Hlen.out]; omega
      generalize chg l 0 [x, 0, 0, 0] 4 = m at *
      clear Hlen
      have h2 := h.below hb
      by_cases hq : l = m
      · subst hq
        go_wp2_with fail
        refine (equal_any _ _ _ _ h2 _ _ _ hk).mono ?_
        rintro e w' ⟨rfl, rfl⟩
        go_wp2_with fail
        refine (hash_any _ _ _ _ h2 hl).mono ?_
        rintro e w' ⟨rfl, rfl⟩
        go_wp2_with fail
        refine (hash_any _ _ _ _ hk hml).mono ?_
        rintro e w' ⟨rfl, rfl⟩
        go_wp2_with fail
        refine (awake_any _).mono ?_
        rintro e w3 ⟨rfl, hb3⟩
        go_wp2_with fail
        go_ret
        exact ⟨rfl, hb.trans (hb3.mono hb.size)⟩
      · have q3 : (l == m) = false := by simpa using hq
        have q4 : (((hash l : Nat) : Int) == ((hash m : Nat) : Int)) = false := by
          have := mt hc4.out.1 hq
          simp; omega
        have Hq := Lib.hid hq
        clear hq
        go_wp2_with fail
        refine (equal_any _ _ _ _ h2 _ _ _ hk).mono ?_
        rintro e w' ⟨rfl, rfl⟩
        go_wp2_with fail
        refine (hash_any _ _ _ _ h2 hl).mono ?_
        rintro e w' ⟨rfl, rfl⟩
        go_wp2_with fail
        refine (hash_any _ _ _ _ hk hml).mono ?_
        rintro e w' ⟨rfl, rfl⟩
        go_wp2_with fail
        refine (awake_any _).mono ?_
        rintro e w3 ⟨rfl, hb3⟩
        go_wp2_with fail
        go_ret
        exact ⟨rfl, hb.trans (hb3.mono hb.size)⟩
  · go_enter Try.func10, Try.ntmps10
    go_wp2_with fail
    refine (few_no _ _ _ _ _ _ _ (by omega)).mono ?_
    rintro e w' ⟨rfl, rfl⟩
    go_wp2_with fail
    refine (awake_any _).mono ?_
    rintro e w' ⟨rfl, hb⟩
    go_wp2_with fail
    go_ret
    exact ⟨rfl, hb⟩
end Go.Proofs.Ytnkdaaenobahkaa
