/-
  The walks of the statements FrameSeals, FrameOpens, FrameBack and FrameLimits. Conditions: the arguments read as their types say.
-/
import Derived.Test.YthjmdfimnbmbfaaFrameAwake
import Derived.Deep.OwnRows
namespace Go.Proofs.Ythjmdfimnbmbfaa
open Go.RowKit
set_option linter.unusedVariables false

theorem Own.cap {w : World} {base : Nat} {e : TypeId} {size : Nat} {A : Option Addr} {n c : Nat} {xs : List Value} (h : Own w base e size (.slice A n c) n xs) : n ≤ c := by
  obtain ⟨_, _, e, q, _⟩ := h.form
  injection e with _ _ e3
  omega

set_option maxHeartbeats 1000000 in
theorem walk_FrameSeals (w : World) (kind : Int) (lo : -9223372036854775808 ≤ kind) (hi : kind ≤ 9223372036854775807) (A : Option Addr) (c : Nat) (l : List UInt8) (h : Rd w A (l.map U8)) (hl : l.length ≤ maxLen) (hlc : l.length ≤ c) :
    Calls Try.prog 3 #[.int .i64 kind, .slice A l.length c] w fun e w' => e = .returned (.bool true) ∧ Below w.heap.size w w' := by
  unfold maxLen at hl
  by_cases hf : l.length ≤ 3000
  · have p0 : decide (3000 < (l.length : Int)) = false := by simp; omega
    have q3 : (slE kind l.length == slE kind l.length) = true := by simp
    go_enter Try.func3, Try.ntmps3
    go_wp2_with fail
    refine (copied_any _ _ _ _ h (by omega)).mono ?_
    rintro e w1 ⟨A1, c1, rfl, hown1, hb1⟩
    go_wp2_with fail
    refine (seal_any _ _ lo hi _ _ _ hown1.rd' (by omega)).mono ?_
    rintro e w2 ⟨A2, c2, rfl, hown2, hb2⟩
    have hb2' := step_below hb1 hb2
    go_wp2_with fail
    refine (rseal_any _ _ lo hi _ _ _ (h.below hb2') (by omega)).mono ?_
    rintro e w3 ⟨A3, c3, rfl, hown3, hb3⟩
    have cv2 := str_of w3 A2 c2 _ (hown2.rd'.below hb3)
    have cv3 := str_of w3 A3 c3 _ hown3.rd'
    have hb3' := step_below hb2' hb3
    generalize slB kind l = L at *
    generalize slE kind l.length = E at *
    clear hown1 hown2 hown3 hb1 hb2 hb3
    go_wp2_with fail
    refine (awake_any _).mono ?_
    rintro e w4 ⟨rfl, hb4⟩
    go_wp2_with fail
    go_ret
    exact ⟨rfl, step_below hb3' hb4⟩
  · have p0 : decide (3000 < (l.length : Int)) = true := by simp; omega
    go_enter Try.func3, Try.ntmps3
    go_wp2_with fail
    refine (awake_any _).mono ?_
    rintro e w' ⟨rfl, hb⟩
    go_wp2_with fail
    go_ret
    exact ⟨rfl, hb⟩

set_option maxHeartbeats 1000000 in
theorem walk_FrameOpens (w : World) (A : Option Addr) (c : Nat) (l : List UInt8) (h : Rd w A (l.map U8)) (hl : l.length ≤ maxLen) (hlc : l.length ≤ c) (n : Int) (lo : -9223372036854775808 ≤ n) (hi : n ≤ 9223372036854775807) :
    Calls Try.prog 4 #[.slice A l.length c, .int .i64 n] w fun e w' => e = .returned (.bool true) ∧ Below w.heap.size w w' := by
  unfold maxLen at hl
  by_cases hf : l.length ≤ 3000
  · have p0 : decide (3000 < (l.length : Int)) = false := by simp; omega
    obtain ⟨⟨E, K, C, T⟩, hR⟩ : ∃ r, opR l n = r := ⟨_, rfl⟩
    have q1 : (K == K) = true := by simp
    have q2 : (T == T) = true := by simp
    have q3 : (E == E) = true := by simp
    go_enter Try.func4, Try.ntmps4
    go_wp2_with fail
    refine (copied_any _ _ _ _ h (by omega)).mono ?_
    rintro e w1 ⟨A1, c1, rfl, hown1, hb1⟩
    go_wp2_with fail
    refine (open_val _ _ _ _ hown1.cap hown1.rd' (by omega) _ lo hi hR).mono ?_
    rintro e w2 ⟨A2, c2, rfl, hr2, _, hb2⟩
    have hb2' := step_below hb1 hb2
    go_wp2_with fail
    refine (ropen_val _ _ _ _ hlc (h.below hb2') (by omega) _ lo hi hR).mono ?_
    rintro e w3 ⟨A3, c3, rfl, hr3, _, hb3⟩
    have cv2 := str_of w3 A2 c2 _ (hr2.below hb3)
    have cv3 := str_of w3 A3 c3 _ hr3
    have hb3' := step_below hb2' hb3
    clear hown1 hr2 hr3 hb1 hb2 hb3 hR
    go_wp2_with fail
    refine (awake_any _).mono ?_
    rintro e w4 ⟨rfl, hb4⟩
    go_wp2_with fail
    go_ret
    exact ⟨rfl, step_below hb3' hb4⟩
  · have p0 : decide (3000 < (l.length : Int)) = true := by simp; omega
    go_enter Try.func4, Try.ntmps4
    go_wp2_with fail
    refine (awake_any _).mono ?_
    rintro e w' ⟨rfl, hb⟩
    go_wp2_with fail
    go_ret
    exact ⟨rfl, hb⟩

/-- Seal of what is right -/
theorem seal_ok (w : World) (kind : Int) (h1 : 1 ≤ kind) (h2 : kind ≤ 255) (A : Option Addr) (c : Nat) (b : List UInt8) (h : Rd w A (b.map U8)) (hl : b.length ≤ 1048576) :
    Calls Try.prog 12 #[.int .i64 kind, .slice A b.length c] w (RetSeal (fseal kind b) 0 w) := by
  have := seal_any w kind (by omega) (by omega) A c b h (by omega)
  obtain ⟨e1, e2⟩ := sl_ok (kind := kind) (b := b) (by omega) (by omega)
  rw [e1, e2] at this; exact this

set_option maxRecDepth 20000 in
set_option maxHeartbeats 2000000 in
theorem walk_FrameBack (w : World) (kind : Int) (lo : -9223372036854775808 ≤ kind) (hi : kind ≤ 9223372036854775807) (A : Option Addr) (c : Nat) (l : List UInt8) (h : Rd w A (l.map U8)) (hl : l.length ≤ maxLen) (hlc : l.length ≤ c)
    (B : Option Addr) (d : Nat) (m : List UInt8) (hB : Rd w B (m.map U8)) (hm : m.length ≤ maxLen) (hmd : m.length ≤ d) (C : Option Addr) (f : Nat) (t : List UInt8) (hC : Rd w C (t.map U8)) (ht : t.length ≤ maxLen) (htf : t.length ≤ f) :
    Calls Try.prog 5 #[.int .i64 kind, .slice A l.length c, .slice B m.length d, .slice C t.length f] w fun e w' => e = .returned (.bool true) ∧ Below w.heap.size w w' := by
  unfold maxLen at hl hm ht
  obtain ⟨i0, hi0, hz0, hz1, hz2⟩ := info_parts info_u8
  by_cases hf : (1 ≤ kind ∧ kind ≤ 255) ∧ l.length ≤ 3000 ∧ m.length ≤ 3000 ∧ t.length ≤ 3000
  · obtain ⟨⟨h1, h2⟩, h3, h4, h5⟩ := hf
    have p1 : decide (kind < 1) = false := by simp; omega
    have p2 : decide (255 < kind) = false := by simp; omega
    have p3 : decide (3000 < (l.length : Int)) = false := by simp; omega
    have p4 : decide (3000 < (m.length : Int)) = false := by simp; omega
    have p5 : decide (3000 < (t.length : Int)) = false := by simp; omega
    have hsl := fseal_length kind l
    have hen := enc_length (l.length : Int)
    have hR := op_seal m t kind l h1 h2 (by omega)
    have hS := Lib.hid (fun w' A' c' (hr : Rd w' A' (l.map U8)) => seal_ok w' kind h1 h2 A' c' l hr (by omega))
    have p6 : (kind == kind) = true := by simp
    obtain ⟨X, hX⟩ : ∃ X, X = (m ++ fseal kind l) ++ t := ⟨_, rfl⟩
    have hXl : X.length ≤ 20000 := by rw [hX]; simp only [List.length_append]; omega
    rw [← List.append_assoc, ← hX] at hR
    obtain ⟨Y, hY⟩ : ∃ Y, Y = m ++ fseal kind l := ⟨_, rfl⟩
    have hYl : Y.length ≤ 10000 := by rw [hY]; simp only [List.length_append]; omega
    rw [← hY] at hR hX
    have p7 : decide ((fseal kind l).length < l.length + 7) = false := by simp; omega
    have p7' : decide (((fseal kind l).length : Int) < (l.length : Int) + 7) = false := by simp; omega
    have p8 : (((Y.length : Nat) : Int) == (m.length : Int) + ((fseal kind l).length : Int)) = true := by rw [hY, List.length_append]; simp
    have hFl : (fseal kind l).length ≤ 4000 := by omega
    have HX := Lib.hid hX
    have HY := Lib.hid hY
    have HR := Lib.hid hR
    clear hX hY hR hsl hen
    generalize fseal kind l = F at *
    go_enter Try.func5, Try.ntmps5
    go_wp2_with fail
    refine (copied_any _ _ _ _ h (by omega)).mono ?_
    rintro e w1 ⟨A1, c1, rfl, hown1, hb1⟩
    go_wp2_with fail
    refine (hS.out _ _ _ hown1.rd').mono ?_
    rintro e w2 ⟨A2, c2, rfl, hown2, hb2⟩
    have hr2 := hown2.rd'
    have hb2 := step_below hb1 hb2
    clear hown1 hown2 hb1
    go_wp2_with fail
    refine (copied_any _ _ _ _ (hB.below hb2) (by omega)).mono ?_
    rintro e w3 ⟨A3, c3, rfl, hown3, hb3⟩
    have hr3 := hr2.below hb3
    have hb3' := step_below hb2 hb3
    have s23 := hb2.size
    clear hr2
    go_wp2_with (first
      | (at_builtin
         refine wpList_append_map _ U8 U8_one rfl (.tmp 56) (.tmp 57) _ rfl w2.heap.size 5 i0 _ 1 Try.underlying22 hi0 hz0 hz1 hz2 rfl A3 c3 m rfl hown3 A2 c2 F rfl hr3 (by simp only [maxLen]; omega) (by omega) hb3.size ?_
         intro A4 c4 l4 w4 e4 hown4 hr4 hg4 hb4 hat4
         obtain rfl : Y = l4 := by rw [HY.out]; exact e4.out.symm
         have hb4' : Below w.heap.size w w4 := hb3'.trans (hb4.mono s23)
         have hb4s := Nat.le_trans hb3.size hb4.size
         clear hg4 hat4 e4 hr4 hb4)
      | (at_builtin
         refine wpList_append_map _ U8 U8_one rfl (.tmp 58) (.tmp 59) _ rfl w2.heap.size 5 i0 _ 1 Try.underlying22 hi0 hz0 hz1 hz2 rfl A4 c4 Y rfl hown4 C f t rfl (hC.below hb4') (by simp only [maxLen]; omega) (by omega) hb4s ?_
         intro A5 c5 l5 w5 e5 hown5 hr5 hg5 hb5 hat5
         obtain rfl : X = l5 := by rw [HX.out]; exact e5.out.symm
         have hb5' : Below w.heap.size w w5 := hb4'.trans (hb5.mono s23)
         have hc5 := hown5.cap
         clear hg5 hat5 e5 hown5 hown4 hb5)
      | fail)
    clear hown3 hr3 hb3 hb4' hb4s
    refine (open_val _ _ _ _ hc5 hr5 (by omega) _ (by omega) (by omega) HR.out).mono ?_
    rintro e w6 ⟨A6, c6, rfl, hr6, _, hb6⟩
    have hb6 := step_below hb5' hb6
    have cv1 := str_of w6 A6 c6 _ hr6
    have cv2 := str_of w6 A c _ (h.below hb6)
    clear hr6 hr5 hb5' HR HX HY hS
    go_wp2_with fail
    refine (awake_any _).mono ?_
    rintro e w7 ⟨rfl, hb7⟩
    go_wp2_with fail
    go_ret
    exact ⟨rfl, step_below hb6 hb7⟩
  · by_cases h1 : kind < 1
    · have p1 : decide (kind < 1) = true := by simpa using h1
      go_enter Try.func5, Try.ntmps5
      go_wp2_with fail
      refine (awake_any _).mono ?_
      rintro e w' ⟨rfl, hb⟩
      go_wp2_with fail
      go_ret
      exact ⟨rfl, hb⟩
    · have p1 : decide (kind < 1) = false := by simpa using h1
      by_cases h2 : 255 < kind
      · have p2 : decide (255 < kind) = true := by simpa using h2
        go_enter Try.func5, Try.ntmps5
        go_wp2_with fail
        refine (awake_any _).mono ?_
        rintro e w' ⟨rfl, hb⟩
        go_wp2_with fail
        go_ret
        exact ⟨rfl, hb⟩
      · have p2 : decide (255 < kind) = false := by simpa using h2
        by_cases h3 : 3000 < l.length
        · have p3 : decide (3000 < (l.length : Int)) = true := by simp; omega
          go_enter Try.func5, Try.ntmps5
          go_wp2_with fail
          refine (awake_any _).mono ?_
          rintro e w' ⟨rfl, hb⟩
          go_wp2_with fail
          go_ret
          exact ⟨rfl, hb⟩
        · have p3 : decide (3000 < (l.length : Int)) = false := by simp; omega
          by_cases h4 : 3000 < m.length
          · have p4 : decide (3000 < (m.length : Int)) = true := by simp; omega
            go_enter Try.func5, Try.ntmps5
            go_wp2_with fail
            refine (awake_any _).mono ?_
            rintro e w' ⟨rfl, hb⟩
            go_wp2_with fail
            go_ret
            exact ⟨rfl, hb⟩
          · have p4 : decide (3000 < (m.length : Int)) = false := by simp; omega
            have p5 : decide (3000 < (t.length : Int)) = true := by simp; omega
            clear hf
            go_enter Try.func5, Try.ntmps5
            go_wp2_with fail
            refine (awake_any _).mono ?_
            rintro e w' ⟨rfl, hb⟩
            go_wp2_with fail
            go_ret
            exact ⟨rfl, hb⟩
end Go.Proofs.Ythjmdfimnbmbfaa
