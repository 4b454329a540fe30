/-
  The walk of the reference's PutInt. Conditions: lengths below the model's bound.
-/
import Derived.Test.YthjmdfimnbmbfaaWirePut
namespace Go.Proofs.Ythjmdfimnbmbfaa
open Go.RowKit
set_option linter.unusedVariables false

theorem zig_val (n : Int) : (n < 0 → ((zig n : Nat) : Int) = -2 * n - 1) ∧ (0 ≤ n → ((zig n : Nat) : Int) = 2 * n) := by
  unfold zig; constructor
  · intro h; rw [if_neg (by omega)]; omega
  · intro h; rw [if_pos h]; omega
theorem r8_high (x : Nat) (h : x < 18446744073709551616) : ((x : Int) % 128 + 128) % 256 = (((UInt8.ofNat (x % 128 + 128)).toNat : Nat) : Int) := by
  rw [byte_nat _ (by omega)]; omega

def RPutRel (w : World) (l : List UInt8) (n : Int) (x v : Value) (wr : World) : Prop :=
  ∃ (f y : Nat) (A1 : Option Addr) (c1 : Nat) (l1 : List UInt8), v = .slice A1 l1.length c1 ∧ x = .int .u64 y ∧ y < 2 ^ (7 * f + 1) ∧ l1 ++ vb f y = l ++ enc n ∧
    Own wr w.heap.size 5 1 (.slice A1 l1.length c1) l1.length (l1.map U8) ∧ Below w.heap.size w wr ∧ y < 18446744073709551616

set_option maxRecDepth 20000 in
set_option maxHeartbeats 2000000 in
theorem rputInt_any (w : World) (A : Option Addr) (c : Nat) (l : List UInt8) (h : Rd w A (l.map U8)) (hl : l.length ≤ 140737488355000) (n : Int) (lo : -9223372036854775808 ≤ n) (hi : n ≤ 9223372036854775807) :
    Calls Try.prog 23 #[.slice A l.length c, .int .i64 n] w (RetNew U8 5 (l ++ enc n) w) := by
  obtain ⟨i0, hi0, hz0, hz1, hz2⟩ := info_parts info_u8
  have hzl := zig_lt lo hi
  have hen := enc_length n
  have Hst : Hid (zig n < 2 ^ (7 * 9 + 1) ∧ l ++ vb 9 (zig n) = l ++ enc n) := ⟨by simpa using hzl, rfl⟩
  have q0 := Lib.hid (zig_val n)
  by_cases hn : n < 0
  all_goals
    generalize zig n = z at *
    go_enter Try.func23, Try.ntmps23
    go_wp2_with (first
      | (at_builtin
         refine wpList_append_map _ U8 U8_one rfl (.tmp 18) (.tmp 19) _ rfl w.heap.size 5 i0 _ 1 Try.underlying22 hi0 hz0 hz1 hz2 rfl (some ⟨w.heap.size, 0, none⟩) 0 [] rfl (.inr ⟨rfl, rfl, _, rfl, Nat.le_refl _, by simp⟩) A c l rfl (h.alloc _) (by simp only [maxLen, List.length_nil]; omega) (by simp only [List.length_nil]; omega) (by simp) ?_
         intro A1 c1 l1 w1 e1 hown1 hr1 hg1 hb1 hat1
         obtain rfl : l = l1 := e1.out.symm
         have hb1' := ((Below.refl w.heap.size w).alloc (Nat.le_refl _) (.cells #[] 5)).trans hb1
         clear hg1 hat1 e1 hb1)
      | fail)
    go_loopw [5, 6] (RPutRel w l n) (fun x _ _ => (intOf x).toNat)
    case atStart => exact ⟨9, z, A1, c1, l, rfl, int_eq (by have := q0.out.1; have := q0.out.2; omega), Hst.out.1, Hst.out.2, hown1, hb1', hzl⟩
    case round =>
      clear Hst hown1 hb1' hr1 h q0
      obtain ⟨f, y, A1, c1, l1, rfl, rfl, hy, hll, hown, hgr, hyl⟩ := hrel
      have hlen : l1.length + (vb f y).length = l.length + (enc n).length := by
        have := congrArg List.length hll; simpa using this
      have hvl := List.length_pos_iff.2 (vb_ne f y)
      have hl1 : l1.length + 1 ≤ l.length + 10 := by omega
      have Hll := Lib.hid hll
      have Hy := Lib.hid hy
      have hbw : w.heap.size ≤ wr.heap.size := hgr.size
      clear hll hy hlen hvl
      by_cases hlt : y < 128
      · have Hv : Hid (vb f y = [UInt8.ofNat y]) := by
          rcases f with _ | f
          · rfl
          · exact if_pos hlt
        have hrd : ∀ wx : World, Rd (wx.alloc (.cells #[.int .u8 (y : Int)] 5)) (some ⟨wx.heap.size, 0, none⟩) ([UInt8.ofNat y].map U8) := fun wx => by
          have e : U8 (UInt8.ofNat y) = .int .u8 (y : Int) := by unfold U8; rw [byte_nat _ (by omega)]
          have := Rd.new wx [U8 (UInt8.ofNat y)] 5 (0, 0)
          rw [e] at this
          rw [List.map_cons, List.map_nil, e]
          exact this
        generalize UInt8.ofNat y = hc at *
        go_wp2_with (first
          | (at_builtin
             refine wpList_append_map _ U8 U8_one rfl (.tmp 32) (.tmp 35) _ rfl w.heap.size 5 i0 _ 1 Try.underlying22 hi0 hz0 hz1 hz2 rfl A1 c1 l1 rfl (hown.alloc _) (some ⟨wr.heap.size, 0, none⟩) 1 [hc] rfl (hrd _) (by simp only [maxLen, List.length_cons, List.length_nil]; omega) (by simp only [List.length_cons, List.length_nil]; omega) (by simp; omega) ?_
             intro A2 c2 l2 w2 e2 hown2 hr2 hg2 hb2 hat2)
          | fail)
        have hl2 : l2 = l ++ enc n := by rw [e2.out, ← Hll.out, Hv.out]
        subst hl2
        go_ret
        exact ⟨A2, c2, rfl, hown2, (hgr.alloc hgr.size _).trans hb2⟩
      · obtain ⟨f, rfl⟩ : ∃ f', f = f' + 1 := by
          rcases f with _ | f
          · have := Hy.out; simp at this; omega
          · exact ⟨f, rfl⟩
        have Hv : Hid (vb (f + 1) y = UInt8.ofNat (y % 128 + 128) :: vb f (y / 128)) := if_neg hlt
        have q1 := r8_high y hyl
        have hrd : ∀ wx : World, Rd (wx.alloc (.cells #[.int .u8 ((y : Int) % 128 + 128)] 5)) (some ⟨wx.heap.size, 0, none⟩) ([UInt8.ofNat (y % 128 + 128)].map U8) := fun wx => by
          have e : U8 (UInt8.ofNat (y % 128 + 128)) = .int .u8 ((y : Int) % 128 + 128) := by unfold U8; rw [byte_nat _ (by omega)]; exact int_eq (by omega)
          have := Rd.new wx [U8 (UInt8.ofNat (y % 128 + 128))] 5 (0, 0)
          rw [e] at this
          rw [List.map_cons, List.map_nil, e]
          exact this
        generalize UInt8.ofNat (y % 128 + 128) = hc at *
        clear q1
        go_wp2_with (first
          | (at_builtin
             refine wpList_append_map _ U8 U8_one rfl (.tmp 23) (.tmp 28) _ rfl w.heap.size 5 i0 _ 1 Try.underlying22 hi0 hz0 hz1 hz2 rfl A1 c1 l1 rfl (hown.alloc _) (some ⟨wr.heap.size, 0, none⟩) 1 [hc] rfl (hrd _) (by simp only [maxLen, List.length_cons, List.length_nil]; omega) (by simp only [List.length_cons, List.length_nil]; omega) (by simp; omega) ?_
             intro A2 c2 l2 w2 e2 hown2 hr2 hg2 hb2 hat2)
          | fail)
        go_roundw
        case rel =>
          refine ⟨f, y / 128, A2, c2, l2, rfl, int_eq (by omega), ?_, ?_, hown2, (hgr.alloc hgr.size _).trans hb2, by omega⟩
          · have := Hy.out
            rw [show 7 * (f + 1) + 1 = (7 * f + 1) + 7 by omega, Nat.pow_add] at this
            omega
          · rw [e2.out, List.append_assoc, List.singleton_append, ← Hv.out]; exact Hll.out
        case measure => simp [intOf]; omega
end Go.Proofs.Ythjmdfimnbmbfaa
