/-
  The walks of the writers of layer 4: slices.Clone of bytes, varint, PutInt. Conditions: lengths below the model's bound.
-/
import Derived.Test.YtfjiikcbcoohdaaDoorWireBits
import Derived.Test.YtfjiikcbcoohdaaDoorGrow
import Derived.Test.YtfjiikcbcoohdaaDoorSeat8
namespace Go.Proofs.YtfjiikcbcoohdaaDoor
open Go.RowKit
set_option linter.unusedVariables false

set_option maxHeartbeats 1000000 in
theorem clone8_any (w : World) (A : Option Addr) (c : Nat) (l : List UInt8) (h : Rd w A (l.map U8)) (hl : l.length ≤ 140737488355328) :
    Calls Tryd.prog 63 #[.slice A l.length c] w (RetNew U8 5 l w) := by
  obtain ⟨i0, hi0, hz0, hz1, hz2⟩ := info_parts info_u8
  have kn := fun (w : World) (A : Option Addr) (n c : Nat) => Lib.run_eql_slice_nil (P := Tryd.prog) w 35 _ A n c 0 0 Tryd.underlying35
  rcases A with _ | a
  · obtain rfl : l = [] := by
      rcases l with _ | ⟨x, l⟩
      · rfl
      · obtain ⟨_, _, e, _⟩ := h (by simp); cases e
    have kn0 : Option.isNone (none : Option Addr) = true := rfl
    go_enter Tryd.func63, Tryd.ntmps63
    go_wp2
    go_ret
    exact ⟨none, 0, rfl, Own.nil _ _ _ _, Below.refl _ _⟩
  · have kn0 : Option.isNone (some a) = false := rfl
    go_enter Tryd.func63, Tryd.ntmps63
    go_wp2_with (first
      | (at_builtin
         refine wpList_append_map _ U8 U8_one rfl (.tmp 5) (.tmp 6) _ rfl w.heap.size 5 i0 _ 1 Tryd.underlying35 hi0 hz0 hz1 hz2 rfl (some ⟨w.heap.size, 0, none⟩) 0 [] rfl (.inr ⟨rfl, rfl, _, rfl, Nat.le_refl _, by simp⟩) (some a) c l rfl (h.alloc _) (by simp only [maxLen, List.length_nil]; omega) (by simp only [List.length_nil]; omega) (by simp) ?_
         intro A1 c1 l1 w1 e1 hown1 hr1 hg1 hb1 hat1
         obtain rfl : l = l1 := e1.out.symm)
      | fail)
    go_ret
    exact ⟨A1, c1, rfl, hown1, ((Below.refl _ _).alloc (Nat.le_refl _) _).trans hb1⟩

theorem xor_ones (y : Nat) (h : y < 18446744073709551616) : y ^^^ 18446744073709551615 = 18446744073709551615 - y := by
  have h1 : (BitVec.ofNat 64 y ^^^ BitVec.allOnes 64).toNat = y ^^^ 18446744073709551615 := by
    rw [BitVec.toNat_xor, BitVec.toNat_ofNat, Nat.mod_eq_of_lt (by omega)]; rfl
  rw [← h1, BitVec.xor_allOnes, BitVec.toNat_not, BitVec.toNat_ofNat, Nat.mod_eq_of_lt (by omega)]
theorem w64_zig (n : Int) (lo : -9223372036854775808 ≤ n) (hi : n ≤ 9223372036854775807) :
    bits BinOp.xor IntKind.u64 (IntKind.u64.wrap (IntKind.u64.wrap n * 2)) (IntKind.u64.wrap (n / 9223372036854775808)) = ((zig n : Nat) : Int) := by
  rw [IntKind.wrap_u64, IntKind.wrap_u64, IntKind.wrap_u64]
  unfold zig
  by_cases h : 0 ≤ n
  · rw [if_pos h, show (n % 18446744073709551616 * 2 % 18446744073709551616) = (((2 * n).toNat : Nat) : Int) by omega, show (n / 9223372036854775808 % 18446744073709551616) = ((0 : Nat) : Int) by omega,
      u64_xor_nat _ _ (by omega) (by omega), Nat.xor_zero]
  · rw [if_neg h, show (n % 18446744073709551616 * 2 % 18446744073709551616) = (((2 * n + 18446744073709551616).toNat : Nat) : Int) by omega,
      show (n / 9223372036854775808 % 18446744073709551616) = ((18446744073709551615 : Nat) : Int) by omega, u64_xor_nat _ _ (by omega) (by omega), xor_ones _ (by omega)]
    omega
theorem w8_high (x : Nat) : bits BinOp.or IntKind.u8 ((x : Int) % 256) 128 = (((UInt8.ofNat (x % 128 + 128)).toNat : Nat) : Int) := by
  rw [byte_nat _ (by omega), show ((x : Int) % 256) = ((x % 256 : Nat) : Int) by omega, show (128 : Int) = ((128 : Nat) : Int) from rfl, u8_or_nat _ _ (by omega) (by omega)]
  have h : x % 256 % 2 ^ 7 = x % 128 := by omega
  have h2 : x % 256 ||| 128 = x % 128 + 128 := by
    rcases Nat.lt_or_ge (x % 256) 128 with h1 | h1
    · rw [Nat.or_comm, nat_join 7 128 _ (by decide) (by omega)]; omega
    · have e : x % 256 = 128 + x % 128 := by omega
      have e2 : (128 + x % 128 : Nat) = 128 ||| x % 128 := (nat_join 7 128 _ (by decide) (by omega)).symm
      rw [e, e2, Nat.or_comm, ← Nat.or_assoc, Nat.or_self, ← e2]; omega
  rw [h2]

def VarRel (w : World) (base : Nat) (v0 : Value) (l : List UInt8) (n : Int) (v x : Value) (wr : World) : Prop :=
  ∃ (f y : Nat) (A1 : Option Addr) (c1 : Nat) (l1 : List UInt8), v = .slice A1 l1.length c1 ∧ x = .int .u64 y ∧ y < 2 ^ (7 * f + 1) ∧ l1 ++ vb f y = l ++ enc n ∧
    Own wr base 5 1 (.slice A1 l1.length c1) l1.length (l1.map U8) ∧ Gr base v0 w (.slice A1 l1.length c1) wr ∧ y < 18446744073709551616

set_option maxRecDepth 20000 in
set_option maxHeartbeats 1000000 in
theorem varint_any (w : World) (base : Nat) (hbase : base ≤ w.heap.size) (A : Option Addr) (c : Nat) (l : List UInt8) (h : Own w base 5 1 (.slice A l.length c) l.length (l.map U8)) (hl : l.length ≤ 140737488355000)
    (n : Int) (lo : -9223372036854775808 ≤ n) (hi : n ≤ 9223372036854775807) :
    Calls Tryd.prog 62 #[.slice A l.length c, .int .i64 n] w (RetGr U8 5 base (.slice A l.length c) (l ++ enc n) w) := by
  obtain ⟨i0, hi0, hz0, hz1, hz2⟩ := info_parts info_u8
  have hzl := zig_lt lo hi
  have hen := enc_length n
  have hw := w64_zig n lo hi
  have hst : VarRel w base (.slice A l.length c) l n (.slice A l.length c) (.int .u64 (zig n)) w :=
    ⟨9, zig n, A, c, l, rfl, rfl, by simpa using hzl, rfl, h, Gr.refl _ _ _, hzl⟩
  have Hst := Lib.hid hst
  clear hst
  generalize zig n = z at *
  go_enter Tryd.func62, Tryd.ntmps62
  go_wp2
  go_loopw [0, 5] (VarRel w base (.slice A l.length c) l n) (fun _ x _ => (intOf x).toNat)
  case atStart => exact Hst.out
  case round =>
    clear Hst h
    obtain ⟨f, y, A1, c1, l1, rfl, rfl, hy, hll, hown, hgr, hyl⟩ := hrel
    have hlen : l1.length + (vb f y).length = l.length + (enc n).length := by
      have := congrArg List.length hll; simpa using this
    have hvl := List.length_pos_iff.2 (vb_ne f y)
    have hl1 : l1.length + 1 ≤ l.length + 10 := by omega
    have Hll := Lib.hid hll
    have Hy := Lib.hid hy
    have hbw : base ≤ wr.heap.size := Nat.le_trans hbase hgr.bel.size
    clear hll hy hlen hvl
    by_cases hlt : y < 128
    · have Hv : Hid (vb f y = [UInt8.ofNat y]) := by
        rcases f with _ | f
        · rfl
        · exact if_pos hlt
      have hrd : ∀ wx : World, Rd (wx.alloc (.cells #[.int .u8 (y : Int)] 5)) (some ⟨wx.heap.size, 0, none⟩) ([UInt8.ofNat y].map U8) := fun wx => by
        have e : U8 (UInt8.ofNat y) = .int .u8 (y : Int) := by unfold U8; rw [byte_nat _ (by omega)]
        have := Rd.new wx [U8 (UInt8.ofNat y)] 5 (0, 0)
        rw [e] at this
        rw [List.map_cons, List.map_nil, e]
        exact this
      generalize UInt8.ofNat y = hc at *
      go_wp2_with (first
        | (at_builtin
           refine wpList_append_map _ U8 U8_one rfl (.tmp 23) (.tmp 26) _ rfl base 5 i0 _ 1 Tryd.underlying35 hi0 hz0 hz1 hz2 rfl A1 c1 l1 rfl (hown.alloc _) (some ⟨wr.heap.size, 0, none⟩) 1 [hc] rfl (hrd _) (by simp only [maxLen, List.length_cons, List.length_nil]; omega) (by simp only [List.length_cons, List.length_nil]; omega) (by simp; omega) ?_
           intro A2 c2 l2 w2 e2 hown2 hr2 hg2 hb2 hat2)
        | fail)
      have hl2 : l2 = l ++ enc n := by rw [e2.out, ← Hll.out, Hv.out]
      subst hl2
      go_ret
      exact ⟨A2, c2, rfl, hown2, (hgr.alloc hbase _).trans ⟨hg2, hat2, hb2⟩⟩
    · obtain ⟨f, rfl⟩ : ∃ f', f = f' + 1 := by
        rcases f with _ | f
        · have := Hy.out; simp at this; omega
        · exact ⟨f, rfl⟩
      have Hv : Hid (vb (f + 1) y = UInt8.ofNat (y % 128 + 128) :: vb f (y / 128)) := if_neg hlt
      have q1 := w8_high y
      generalize UInt8.ofNat (y % 128 + 128) = hc at *
      go_wp2_with (first
        | (at_builtin
           refine wpList_append_map _ U8 U8_one rfl (.tmp 15) (.tmp 19) _ rfl base 5 i0 _ 1 Tryd.underlying35 hi0 hz0 hz1 hz2 rfl A1 c1 l1 rfl (hown.alloc _) (some ⟨wr.heap.size, 0, none⟩) 1 [hc] rfl (Rd.new _ _ _ _) (by simp only [maxLen, List.length_cons, List.length_nil]; omega) (by simp only [List.length_cons, List.length_nil]; omega) (by simp; omega) ?_
           intro A2 c2 l2 w2 e2 hown2 hr2 hg2 hb2 hat2)
        | fail)
      go_roundw
      case rel =>
        refine ⟨f, y / 128, A2, c2, l2, rfl, int_eq (by omega), ?_, ?_, hown2, (hgr.alloc hbase _).trans ⟨hg2, hat2, hb2⟩, by omega⟩
        · have := Hy.out
          rw [show 7 * (f + 1) + 1 = (7 * f + 1) + 7 by omega, Nat.pow_add] at this
          omega
        · rw [e2.out, List.append_assoc, List.singleton_append, ← Hv.out]; exact Hll.out
      case measure => simp [intOf]; omega
set_option maxHeartbeats 1000000 in
theorem putInt_any (w : World) (A : Option Addr) (c : Nat) (l : List UInt8) (h : Rd w A (l.map U8)) (hl : l.length ≤ 140737488355000) (n : Int) (lo : -9223372036854775808 ≤ n) (hi : n ≤ 9223372036854775807) :
    Calls Tryd.prog 39 #[.slice A l.length c, .int .i64 n] w (RetNew U8 5 (l ++ enc n) w) := by
  go_enter Tryd.func39, Tryd.ntmps39
  go_wp2_with fail
  refine (clone8_any _ _ _ _ h (by omega)).mono ?_
  rintro e w1 ⟨A1, c1, rfl, hown1, hb1⟩
  go_wp2_with fail
  refine (varint_any _ w.heap.size hb1.size _ _ _ hown1 hl n lo hi).mono ?_
  rintro e w2 ⟨A2, c2, rfl, hown2, hg2⟩
  generalize l ++ enc n = L at *
  go_wp2_with fail
  go_ret
  exact ⟨A2, c2, rfl, hown2, hb1.trans hg2.bel⟩
end Go.Proofs.YtfjiikcbcoohdaaDoor
