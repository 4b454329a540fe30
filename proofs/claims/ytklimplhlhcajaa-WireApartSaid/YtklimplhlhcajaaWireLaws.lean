/-
  The walks of the statements WireInts and WireLists. Conditions: the arguments read as their types say.
-/
import Derived.Test.YtklimplhlhcajaaWireAwake
namespace Go.Proofs.Ytklimplhlhcajaa
open Go.RowKit
set_option linter.unusedVariables false

theorem step_below {w W W' : World} (h : Below w.heap.size w W) (hb : Below W.heap.size W W') : Below w.heap.size w W' := h.trans (hb.mono h.size)

theorem rdM_len (b : List UInt8) : ∀ (n : Nat) (q : Int), 0 ≤ q → q ≤ b.length → (rdM b n q).1 = 0 → q + (rdM b n q).2.1.length ≤ (rdM b n q).2.2 ∧ (rdM b n q).2.2 ≤ b.length := by
  intro n
  induction n with
  | zero => intro q h0 h1 _; exact ⟨by simp [rdM], h1⟩
  | succ n ih =>
    intro q h0 h1 h
    rw [rdM] at h ⊢
    by_cases hE : rdE b q = 0
    · rw [if_pos hE] at h ⊢
      obtain ⟨_, _, k3, k4⟩ := read_bound hE
      by_cases hR : (rdM b n (rdT b q)).1 = 0
      · rw [if_pos hR]
        have := ih (rdT b q) (by omega) k4 hR
        simp only [List.length_cons]
        omega
      · rw [if_neg hR] at h; exact absurd h hR
    · rw [if_neg hE] at h; exact absurd h hE
theorem isL_len (b : List UInt8) (a : Int) : (isL b a).length ≤ b.length := by
  unfold isL isR
  split
  · rename_i h
    obtain ⟨_, _, k3, k4⟩ := len_bound h
    by_cases hR : (rdM b (lenN b a).toNat (lenT b a)).1 = 0
    · have := rdM_len b _ _ k3 k4 hR; omega
    · rw [rdM_err _ _ _ hR]; simp
  · simp

set_option maxHeartbeats 1000000 in
theorem walk_WireInts (w : World) (A : Option Addr) (c : Nat) (l : List UInt8) (h : Rd w A (l.map U8)) (hl : l.length ≤ maxLen) (hlc : l.length ≤ c) (n : Int) (lo : -9223372036854775808 ≤ n) (hi : n ≤ 9223372036854775807) :
    Calls Try.prog 3 #[.slice A l.length c, .int .i64 n] w fun e w' => e = .returned (.bool true) ∧ Below w.heap.size w w' := by
  by_cases hf : l.length ≤ 300
  · have q1 : (rdN l n == rdN l n) = true := by simp
    have q2 : (rdT l n == rdT l n) = true := by simp
    have q3 : (rdE l n == rdE l n) = true := by simp
    go_enter Try.func3, Try.ntmps3
    go_wp2_with fail
    refine (few_yes _ _ _ _ _ _ _ _ hf (by decide) (by decide)).mono ?_
    rintro e w' ⟨rfl, rfl⟩
    go_wp2_with fail
    refine (int_any _ _ _ _ h (by omega) _ lo hi).mono ?_
    rintro e w' ⟨rfl, rfl⟩
    go_wp2_with fail
    refine (rint_any _ _ _ _ h (by omega) _ lo hi).mono ?_
    rintro e w' ⟨rfl, rfl⟩
    go_wp2_with fail
    refine (awake_any _).mono ?_
    rintro e w3 ⟨rfl, hb3⟩
    go_wp2_with fail
    go_ret
    exact ⟨rfl, hb3⟩
  · go_enter Try.func3, Try.ntmps3
    go_wp2_with fail
    refine (few_no _ _ _ _ _ _ _ _ (by omega)).mono ?_
    rintro e w' ⟨rfl, rfl⟩
    go_wp2_with fail
    refine (awake_any _).mono ?_
    rintro e w' ⟨rfl, hb⟩
    go_wp2_with fail
    go_ret
    exact ⟨rfl, hb⟩

set_option maxHeartbeats 1000000 in
theorem walk_WireLists (w : World) (A : Option Addr) (c : Nat) (l : List UInt8) (h : Rd w A (l.map U8)) (hl : l.length ≤ maxLen) (hlc : l.length ≤ c) (n : Int) (lo : -9223372036854775808 ≤ n) (hi : n ≤ 9223372036854775807) :
    Calls Try.prog 6 #[.slice A l.length c, .int .i64 n] w fun e w' => e = .returned (.bool true) ∧ Below w.heap.size w w' := by
  by_cases hf : l.length ≤ 300
  · go_enter Try.func6, Try.ntmps6
    go_wp2_with fail
    refine (few_yes _ _ _ _ _ _ _ _ hf (by decide) (by decide)).mono ?_
    rintro e w' ⟨rfl, rfl⟩
    go_wp2_with fail
    refine (textAt_any _ _ _ _ hlc h (by omega) _ lo hi).mono ?_
    rintro e w' ⟨rfl, rfl⟩
    go_wp2_with fail
    refine (rtextAt_any _ _ _ _ hlc h (by omega) _ lo hi).mono ?_
    rintro e w' ⟨rfl, rfl⟩
    go_wp2_with fail
    refine (ints_any _ _ _ _ h (by omega) _ lo hi).mono ?_
    rintro e w1 ⟨A1, c1, rfl, hown1, hb1⟩
    go_wp2_with fail
    refine (rints_any _ _ _ _ (h.below hb1) (by omega) _ lo hi).mono ?_
    rintro e w2 ⟨A2, c2, rfl, hown2, hb2⟩
    have hlen : (isL l n).length ≤ 9223372036854775807 := by have := isL_len l n; omega
    go_wp2_with fail
    refine (same_yes _ _ _ _ (hown1.rd'.below hb2) hlen _ _ hown2.rd').mono ?_
    rintro e w3 ⟨rfl, hb3⟩
    go_wp2_with fail
    refine (awake_any _).mono ?_
    rintro e w4 ⟨rfl, hb4⟩
    go_wp2_with fail
    go_ret
    exact ⟨rfl, step_below (step_below (step_below hb1 hb2) hb3) hb4⟩
  · go_enter Try.func6, Try.ntmps6
    go_wp2_with fail
    refine (few_no _ _ _ _ _ _ _ _ (by omega)).mono ?_
    rintro e w' ⟨rfl, rfl⟩
    go_wp2_with fail
    refine (awake_any _).mono ?_
    rintro e w' ⟨rfl, hb⟩
    go_wp2_with fail
    go_ret
    exact ⟨rfl, hb⟩
end Go.Proofs.Ytklimplhlhcajaa
