/-
  The plain functions of layer 4 for texts and lists, with the small lemmas that their walks use. Conditions: none.
  The walks of the writers of layer 4: slices.Clone of bytes, varint, PutInt. Conditions: lengths below the model's bound.
  '[]byte(s)' of a string that is no constant: it makes new memory that reads as the string's bytes. Conditions: none.
  The walks of PutText and PutInts. Conditions: lengths below the model's bound.
  Plain laws of layer 4: what was put is read; what is read was put; a beginning is too short. Conditions: none; no program in sight.
-/
import Derived.Test.YtcomeidcmcegfaaGreatDoorZA
import Derived.Test.YtcomeidcmcegfaaGreatDoorZB
import Derived.Test.YtcomeidcmcegfaaGreatDoorZC
import Derived.Lib.ConvBytes
namespace Go.Proofs.YtcomeidcmcegfaaGreatDoor
open Go.RowKit
set_option linter.unusedVariables false
theorem rdN_err {b : List UInt8} {a : Int} (h : rdE b a ≠ 0) : rdN b a = 0 := by unfold rdN; rw [if_neg h]
theorem rdT_err {b : List UInt8} {a : Int} (h : rdE b a ≠ 0) : rdT b a = 0 := by unfold rdT; rw [if_neg h]
def lenE (b : List UInt8) (a : Int) : Int := if rdE b a = 0 ∧ rdN b a < 0 then 3 else rdE b a
def lenN (b : List UInt8) (a : Int) : Int := if lenE b a = 0 then rdN b a else 0
def lenT (b : List UInt8) (a : Int) : Int := if lenE b a = 0 then rdT b a else 0
theorem lenN_err {b : List UInt8} {a : Int} (h : lenE b a ≠ 0) : lenN b a = 0 := by unfold lenN; rw [if_neg h]
theorem lenT_err {b : List UInt8} {a : Int} (h : lenE b a ≠ 0) : lenT b a = 0 := by unfold lenT; rw [if_neg h]
theorem len_neg {b : List UInt8} {a : Int} (h : rdE b a = 0) (hn : rdN b a < 0) : lenE b a = 3 ∧ lenN b a = 0 ∧ lenT b a = 0 := by
 have e : lenE b a = 3 := by unfold lenE; rw [if_pos ⟨h, hn⟩]
 exact ⟨e, lenN_err (by omega), lenT_err (by omega)⟩
theorem len_ok {b : List UInt8} {a : Int} (h : rdE b a = 0) (hn : 0 ≤ rdN b a) : lenE b a = 0 ∧ lenN b a = rdN b a ∧ lenT b a = rdT b a := by
 have e : lenE b a = 0 := by unfold lenE; rw [if_neg (by omega)]; exact h
 exact ⟨e, by unfold lenN; rw [if_pos e], by unfold lenT; rw [if_pos e]⟩
theorem len_err {b : List UInt8} {a : Int} (h : rdE b a ≠ 0) : lenE b a = rdE b a ∧ lenN b a = 0 ∧ lenT b a = 0 := by
 have e : lenE b a = rdE b a := by unfold lenE; rw [if_neg (fun c => h c.1)]
 exact ⟨e, lenN_err (by rw [e]; exact h), lenT_err (by rw [e]; exact h)⟩
theorem lenE_ok {b : List UInt8} {a : Int} (h : lenE b a = 0) : rdE b a = 0 ∧ 0 ≤ rdN b a := by
 unfold lenE at h
 split at h
 ·omega
 ·rename_i h1; exact ⟨h, by omega⟩
theorem len_bound {b : List UInt8} {a : Int} (h : lenE b a = 0) : 0 ≤ lenN b a ∧ lenN b a ≤ 9223372036854775807 ∧ 0 ≤ lenT b a ∧ lenT b a ≤ b.length := by
 obtain ⟨h1, h2⟩ := lenE_ok h
 obtain ⟨e0, e1, e2⟩ := len_ok h1 h2
 obtain ⟨k1, k2, k3, k4⟩ := read_bound h1
 have := (rdE_ok h1).1
 rw [e1, e2]
 exact ⟨h2, k2, by omega, k4⟩
def txE (b : List UInt8) (a : Int) : Int := if lenE b a = 0 then (if lenN b a > b.length - lenT b a then 4 else 0) else lenE b a
def txS (b : List UInt8) (a : Int) : List UInt8 := if txE b a = 0 then (b.drop (lenT b a).toNat).take (lenN b a).toNat else []
def txT (b : List UInt8) (a : Int) : Int := if txE b a = 0 then lenT b a + lenN b a else 0
theorem tx_short {b : List UInt8} {a : Int} (h : lenE b a = 0) (hn : lenN b a > b.length - lenT b a) : txE b a = 4 ∧ txS b a = [] ∧ txT b a = 0 := by
 have e : txE b a = 4 := by unfold txE; rw [if_pos h, if_pos hn]
 exact ⟨e, by unfold txS; rw [if_neg (by omega)], by unfold txT; rw [if_neg (by omega)]⟩
theorem tx_ok {b : List UInt8} {a : Int} (h : lenE b a = 0) (hn : ¬ lenN b a > b.length - lenT b a) : txE b a = 0 ∧ txS b a = (b.drop (lenT b a).toNat).take (lenN b a).toNat ∧ txT b a = lenT b a + lenN b a := by
 have e : txE b a = 0 := by unfold txE; rw [if_pos h, if_neg hn]
 exact ⟨e, by unfold txS; rw [if_pos e], by unfold txT; rw [if_pos e]⟩
theorem tx_err {b : List UInt8} {a : Int} (h : lenE b a ≠ 0) : txE b a = lenE b a ∧ txS b a = [] ∧ txT b a = 0 := by
 have e : txE b a = lenE b a := by unfold txE; rw [if_neg h]
 exact ⟨e, by unfold txS; rw [if_neg (by rw [e]; exact h)], by unfold txT; rw [if_neg (by rw [e]; exact h)]⟩
def rdM (b : List UInt8) : Nat → Int → Int × List Int × Int
 | 0, q => (0, [], q)
 | n+1, q => if rdE b q = 0 then (if (rdM b n (rdT b q)).1 = 0 then (0, rdN b q :: (rdM b n (rdT b q)).2.1, (rdM b n (rdT b q)).2.2) else ((rdM b n (rdT b q)).1, [], 0)) else (rdE b q, [], 0)
def combM (l : List Int) (r : Int × List Int × Int) : Int × List Int × Int := if r.1 = 0 then (0, l ++ r.2.1, r.2.2) else (r.1, [], 0)
theorem rdM_err (b : List UInt8) (n : Nat) (q : Int) (h : (rdM b n q).1 ≠ 0) : (rdM b n q).2 = ([], 0) := by
 rcases n with _ | n
 ·exact absurd rfl h
 ·rw [rdM] at h ⊢
  split at h
  ·rename_i h1
   rw [if_pos h1]
   split at h
   ·exact absurd rfl h
   ·rename_i h2; rw [if_neg h2]
  ·rename_i h1; rw [if_neg h1]
theorem combM_nil (b : List UInt8) (n : Nat) (q : Int) : combM [] (rdM b n q) = rdM b n q := by
 unfold combM
 split
 ·rename_i h; rw [List.nil_append, ← h]
 ·rename_i h; rw [← rdM_err b n q h]
theorem ints_next {b : List UInt8} {m j : Nat} {t q : Int} {l : List Int} (hj : j < m) (hE : rdE b q = 0) (h : combM l (rdM b (m - j) q) = rdM b m t) :
 combM (l ++ [rdN b q]) (rdM b (m - (j + 1)) (rdT b q)) = rdM b m t := by
 rw [← h, show m - j = (m - (j + 1)) + 1 by omega, rdM, if_pos hE]
 generalize rdM b (m - (j + 1)) (rdT b q) = r
 by_cases h1 : r.1 = 0
 ·rw [if_pos h1]; simp [combM, h1]
 ·rw [if_neg h1]; simp [combM, h1]
theorem ints_stop {b : List UInt8} {m j : Nat} {t q : Int} {l : List Int} (hj : j < m) (hE : rdE b q ≠ 0) (h : combM l (rdM b (m - j) q) = rdM b m t) : rdM b m t = (rdE b q, [], 0) := by
 rw [← h, show m - j = (m - (j + 1)) + 1 by omega, rdM, if_neg hE]
 simp [combM, hE]
theorem ints_end {b : List UInt8} {m j : Nat} {t q : Int} {l : List Int} (hj : m ≤ j) (h : combM l (rdM b (m - j) q) = rdM b m t) : rdM b m t = (0, l, q) := by
 rw [← h, show m - j = 0 by omega, rdM]
 simp [combM]
def ListRel (w : World) (b : List UInt8) (m : Nat) (t : Int) (vq vl vi : Value) (wr : World) : Prop :=
 ∃ (j : Nat) (A1 : Option Addr) (c1 : Nat) (l1 : List Int) (q : Int), j ≤ m ∧ vq = .int .i64 q ∧ vi = .int .i64 j ∧ vl = .slice A1 l1.length c1 ∧ 0 ≤ q ∧ q ≤ b.length ∧ l1.length ≤ q ∧
  combM l1 (rdM b (m - j) q) = rdM b m t ∧ Own wr w.heap.size 3 1 (.slice A1 l1.length c1) l1.length (l1.map I64) ∧ Below w.heap.size w wr
theorem ListRel.start (w : World) (b : List UInt8) (m : Nat) (t : Int) (h0 : 0 ≤ t) (h1 : t ≤ b.length) : ListRel w b m t (.int .i64 t) (.slice none 0 0) (.int .i64 0) w :=
 ⟨0, none, 0, [], t, by omega, rfl, rfl, rfl, h0, h1, by simpa using h0, combM_nil b m t, Own.nil _ _ _ _, Below.refl _ _⟩
theorem Rd.part {w : World} {b off : Nat} {l : List UInt8} (h : Rd w (some ⟨b, off, none⟩) (l.map U8)) (k m : Nat) : Rd w (some ⟨b, off + k, none⟩) (((l.drop k).take m).map U8) := by
 intro hne
 have hl : l.map U8 ≠ [] := by
  intro e; simp at e; subst e; simp at hne
 obtain ⟨b', off', e, hb, hc⟩ := h hl
 injection e with e
 injection e with e1 e2
 subst e1 e2
 refine ⟨b, off + k, rfl, hb, fun j u hu => ?_⟩
 rw [Nat.add_assoc]
 apply hc
 have hj : j < ((l.drop k).take m).length := by have := (List.getElem?_eq_some_iff.1 hu).1; simpa using this
 have hj' : j < m ∧ k + j < l.length := by simp at hj; omega
 rw [← hu]
 simp [hj']
theorem slice_run (w : World) (A : Option Addr) (c : Nat) (b : List UInt8) (hc : b.length ≤ c) (h : Rd w A (b.map U8)) (k m : Nat) (hk : k + m ≤ b.length) :
 ∃ A', (Instr.slice 22 (.slice A b.length c) (some (.int .i64 (k : Int))) (some (.int .i64 ((k : Int) + (m : Int)))) none).run Tryz.prog w = .ok (.slice A' m (c - k)) w ∧ Rd w A' (((b.drop k).take m).map U8) := by
 have hel : Tryz.prog.elem 22 = 5 := by kernel_rfl
 have h1 := run_slice_lh (P := Tryz.prog) (w := w) 22 A b.length c (by rw [hel]; exact Tryz.underlying22) .i64 .i64 (k : Int) ((k : Int) + (m : Int)) (by omega) (by omega) (by omega)
 have hsz : (sizeOf (Tryz.prog.elem 22)).run Tryz.prog w = .ok 1 w := by
  rw [hel]
  obtain ⟨i0, hi0, hz0, hz1, hz2⟩ := info_parts info_u8
  simp [sizeOf, typeInfo, hi0, hz1]
 rw [hsz] at h1
 simp only [Result.andThen_ok, sliced, Int.toNat_natCast, Nat.mul_one] at h1
 rw [show ((k : Int) + (m : Int)).toNat - k = m by omega] at h1
 refine ⟨_, h1, ?_⟩
 by_cases hck : c = k
 ·rw [if_pos hck]
  obtain rfl : m = 0 := by omega
  exact Rd.nil _ _
 ·rw [if_neg hck]
  rcases Nat.eq_zero_or_pos m with h0 | h0
  ·subst h0; exact Rd.nil _ _
  ·obtain ⟨b', off', e, _, _⟩ := h (by intro e; have := congrArg List.length e; simp at this; subst this; simp at hk; omega)
   subst e
   show Rd w (some ((⟨b', off', none⟩ : Addr).add k)) _
   rw [add_plain]
   exact h.part k m
end Go.Proofs.YtcomeidcmcegfaaGreatDoor
namespace Go.Proofs.YtcomeidcmcegfaaGreatDoor
open Go.RowKit
set_option linter.unusedVariables false
set_option maxHeartbeats 1000000 in
theorem clone8_any (w : World) (A : Option Addr) (c : Nat) (l : List UInt8) (h : Rd w A (l.map U8)) (hl : l.length ≤ 140737488355328) :
 Calls Tryz.prog 74 #[.slice A l.length c] w (RetNew U8 5 l w) := by
 obtain ⟨i0, hi0, hz0, hz1, hz2⟩ := info_parts info_u8
 have kn := fun (w : World) (A : Option Addr) (n c : Nat) => Lib.run_eql_slice_nil (P := Tryz.prog) w 22 _ A n c 0 0 Tryz.underlying22
 rcases A with _ | a
 ·obtain rfl : l = [] := by
   rcases l with _ | ⟨x, l⟩
   ·rfl
   ·obtain ⟨_, _, e, _⟩ := h (by simp); cases e
  have kn0 : Option.isNone (none : Option Addr) = true := rfl
  go_enter Tryz.func74, Tryz.ntmps74
  go_wp2
  go_ret
  exact ⟨none, 0, rfl, Own.nil _ _ _ _, Below.refl _ _⟩
 ·have kn0 : Option.isNone (some a) = false := rfl
  go_enter Tryz.func74, Tryz.ntmps74
  go_wp2_with (first
   | (at_builtin
      refine wpList_append_map _ U8 U8_one rfl (.tmp 5) (.tmp 6) _ rfl w.heap.size 5 i0 _ 1 Tryz.underlying22 hi0 hz0 hz1 hz2 rfl (some ⟨w.heap.size, 0, none⟩) 0 [] rfl (.inr ⟨rfl, rfl, _, rfl, Nat.le_refl _, by simp⟩) (some a) c l rfl (h.alloc _) (by simp only [maxLen, List.length_nil]; omega) (by simp only [List.length_nil]; omega) (by simp) ?_
      intro A1 c1 l1 w1 e1 hown1 hr1 hg1 hb1 hat1
      obtain rfl : l = l1 := e1.out.symm)
   | fail)
  go_ret
  exact ⟨A1, c1, rfl, hown1, ((Below.refl _ _).alloc (Nat.le_refl _) _).trans hb1⟩
theorem xor_ones (y : Nat) (h : y < 18446744073709551616) : y ^^^ 18446744073709551615 = 18446744073709551615 - y := by
 have h1 : (BitVec.ofNat 64 y ^^^ BitVec.allOnes 64).toNat = y ^^^ 18446744073709551615 := by
  rw [BitVec.toNat_xor, BitVec.toNat_ofNat, Nat.mod_eq_of_lt (by omega)]; rfl
 rw [← h1, BitVec.xor_allOnes, BitVec.toNat_not, BitVec.toNat_ofNat, Nat.mod_eq_of_lt (by omega)]
theorem w64_zig (n : Int) (lo : -9223372036854775808 ≤ n) (hi : n ≤ 9223372036854775807) :
 bits BinOp.xor IntKind.u64 (IntKind.u64.wrap (IntKind.u64.wrap n * 2)) (IntKind.u64.wrap (n / 9223372036854775808)) = ((zig n : Nat) : Int) := by
 rw [IntKind.wrap_u64, IntKind.wrap_u64, IntKind.wrap_u64]
 unfold zig
 by_cases h : 0 ≤ n
 ·rw [if_pos h, show (n % 18446744073709551616 * 2 % 18446744073709551616) = (((2 * n).toNat : Nat) : Int) by omega, show (n / 9223372036854775808 % 18446744073709551616) = ((0 : Nat) : Int) by omega,
   u64_xor_nat _ _ (by omega) (by omega), Nat.xor_zero]
 ·rw [if_neg h, show (n % 18446744073709551616 * 2 % 18446744073709551616) = (((2 * n + 18446744073709551616).toNat : Nat) : Int) by omega,
   show (n / 9223372036854775808 % 18446744073709551616) = ((18446744073709551615 : Nat) : Int) by omega, u64_xor_nat _ _ (by omega) (by omega), xor_ones _ (by omega)]
  omega
theorem w8_high (x : Nat) : bits BinOp.or IntKind.u8 ((x : Int) % 256) 128 = (((UInt8.ofNat (x % 128 + 128)).toNat : Nat) : Int) := by
 rw [byte_nat _ (by omega), show ((x : Int) % 256) = ((x % 256 : Nat) : Int) by omega, show (128 : Int) = ((128 : Nat) : Int) from rfl, u8_or_nat _ _ (by omega) (by omega)]
 have h : x % 256 % 2 ^ 7 = x % 128 := by omega
 have h2 : x % 256 ||| 128 = x % 128 + 128 := by
  rcases Nat.lt_or_ge (x % 256) 128 with h1 | h1
  ·rw [Nat.or_comm, nat_join 7 128 _ (by decide) (by omega)]; omega
  ·have e : x % 256 = 128 + x % 128 := by omega
   have e2 : (128 + x % 128 : Nat) = 128 ||| x % 128 := (nat_join 7 128 _ (by decide) (by omega)).symm
   rw [e, e2, Nat.or_comm, ← Nat.or_assoc, Nat.or_self, ← e2]; omega
 rw [h2]
def VarRel (w : World) (base : Nat) (v0 : Value) (l : List UInt8) (n : Int) (v x : Value) (wr : World) : Prop :=
 ∃ (f y : Nat) (A1 : Option Addr) (c1 : Nat) (l1 : List UInt8), v = .slice A1 l1.length c1 ∧ x = .int .u64 y ∧ y < 2 ^ (7 * f + 1) ∧ l1 ++ vb f y = l ++ enc n ∧
  Own wr base 5 1 (.slice A1 l1.length c1) l1.length (l1.map U8) ∧ Gr base v0 w (.slice A1 l1.length c1) wr ∧ y < 18446744073709551616
set_option maxRecDepth 20000 in
set_option maxHeartbeats 1000000 in
theorem varint_any (w : World) (base : Nat) (hbase : base ≤ w.heap.size) (A : Option Addr) (c : Nat) (l : List UInt8) (h : Own w base 5 1 (.slice A l.length c) l.length (l.map U8)) (hl : l.length ≤ 140737488355000)
 (n : Int) (lo : -9223372036854775808 ≤ n) (hi : n ≤ 9223372036854775807) :
 Calls Tryz.prog 73 #[.slice A l.length c, .int .i64 n] w (RetGr U8 5 base (.slice A l.length c) (l ++ enc n) w) := by
 obtain ⟨i0, hi0, hz0, hz1, hz2⟩ := info_parts info_u8
 have hzl := zig_lt lo hi
 have hen := enc_length n
 have hw := w64_zig n lo hi
 have hst : VarRel w base (.slice A l.length c) l n (.slice A l.length c) (.int .u64 (zig n)) w :=
  ⟨9, zig n, A, c, l, rfl, rfl, by simpa using hzl, rfl, h, Gr.refl _ _ _, hzl⟩
 have Hst := Lib.hid hst
 clear hst
 generalize zig n = z at *
 go_enter Tryz.func73, Tryz.ntmps73
 go_wp2
 go_loopw [0, 5] (VarRel w base (.slice A l.length c) l n) (fun _ x _ => (intOf x).toNat)
 case atStart => exact Hst.out
 case round =>
  clear Hst h
  obtain ⟨f, y, A1, c1, l1, rfl, rfl, hy, hll, hown, hgr, hyl⟩ := hrel
  have hlen : l1.length + (vb f y).length = l.length + (enc n).length := by
   have := congrArg List.length hll; simpa using this
  have hvl := List.length_pos_iff.2 (vb_ne f y)
  have hl1 : l1.length + 1 ≤ l.length + 10 := by omega
  have Hll := Lib.hid hll
  have Hy := Lib.hid hy
  have hbw : base ≤ wr.heap.size := Nat.le_trans hbase hgr.bel.size
  clear hll hy hlen hvl
  by_cases hlt : y < 128
  ·have Hv : Hid (vb f y = [UInt8.ofNat y]) := by
    rcases f with _ | f
    ·rfl
    ·exact if_pos hlt
   have hrd : ∀ wx : World, Rd (wx.alloc (.cells #[.int .u8 (y : Int)] 5)) (some ⟨wx.heap.size, 0, none⟩) ([UInt8.ofNat y].map U8) := fun wx => by
    have e : U8 (UInt8.ofNat y) = .int .u8 (y : Int) := by unfold U8; rw [byte_nat _ (by omega)]
    have := Rd.new wx [U8 (UInt8.ofNat y)] 5 (0, 0)
    rw [e] at this
    rw [List.map_cons, List.map_nil, e]
    exact this
   generalize UInt8.ofNat y = hc at *
   go_wp2_with (first
    | (at_builtin
       refine wpList_append_map _ U8 U8_one rfl (.tmp 23) (.tmp 26) _ rfl base 5 i0 _ 1 Tryz.underlying22 hi0 hz0 hz1 hz2 rfl A1 c1 l1 rfl (hown.alloc _) (some ⟨wr.heap.size, 0, none⟩) 1 [hc] rfl (hrd _) (by simp only [maxLen, List.length_cons, List.length_nil]; omega) (by simp only [List.length_cons, List.length_nil]; omega) (by simp; omega) ?_
       intro A2 c2 l2 w2 e2 hown2 hr2 hg2 hb2 hat2)
    | fail)
   have hl2 : l2 = l ++ enc n := by rw [e2.out, ← Hll.out, Hv.out]
   subst hl2
   go_ret
   exact ⟨A2, c2, rfl, hown2, (hgr.alloc hbase _).trans ⟨hg2, hat2, hb2⟩⟩
  ·obtain ⟨f, rfl⟩ : ∃ f', f = f' + 1 := by
    rcases f with _ | f
    ·have := Hy.out; simp at this; omega
    ·exact ⟨f, rfl⟩
   have Hv : Hid (vb (f + 1) y = UInt8.ofNat (y % 128 + 128) :: vb f (y / 128)) := if_neg hlt
   have q1 := w8_high y
   generalize UInt8.ofNat (y % 128 + 128) = hc at *
   go_wp2_with (first
    | (at_builtin
       refine wpList_append_map _ U8 U8_one rfl (.tmp 15) (.tmp 19) _ rfl base 5 i0 _ 1 Tryz.underlying22 hi0 hz0 hz1 hz2 rfl A1 c1 l1 rfl (hown.alloc _) (some ⟨wr.heap.size, 0, none⟩) 1 [hc] rfl (Rd.new _ _ _ _) (by simp only [maxLen, List.length_cons, List.length_nil]; omega) (by simp only [List.length_cons, List.length_nil]; omega) (by simp; omega) ?_
       intro A2 c2 l2 w2 e2 hown2 hr2 hg2 hb2 hat2)
    | fail)
   go_roundw
   case rel =>
    refine ⟨f, y / 128, A2, c2, l2, rfl, int_eq (by omega), ?_, ?_, hown2, (hgr.alloc hbase _).trans ⟨hg2, hat2, hb2⟩, by omega⟩
    ·have := Hy.out
     rw [show 7 * (f + 1) + 1 = (7 * f + 1) + 7 by omega, Nat.pow_add] at this
     omega
    ·rw [e2.out, List.append_assoc, List.singleton_append, ← Hv.out]; exact Hll.out
   case measure => simp [intOf]; omega
set_option maxHeartbeats 1000000 in
theorem putInt_any (w : World) (A : Option Addr) (c : Nat) (l : List UInt8) (h : Rd w A (l.map U8)) (hl : l.length ≤ 140737488355000) (n : Int) (lo : -9223372036854775808 ≤ n) (hi : n ≤ 9223372036854775807) :
 Calls Tryz.prog 41 #[.slice A l.length c, .int .i64 n] w (RetNew U8 5 (l ++ enc n) w) := by
 go_enter Tryz.func41, Tryz.ntmps41
 go_wp2_with fail
 refine (clone8_any _ _ _ _ h (by omega)).mono ?_
 rintro e w1 ⟨A1, c1, rfl, hown1, hb1⟩
 go_wp2_with fail
 refine (varint_any _ w.heap.size hb1.size _ _ _ hown1 hl n lo hi).mono ?_
 rintro e w2 ⟨A2, c2, rfl, hown2, hg2⟩
 generalize l ++ enc n = L at *
 go_wp2_with fail
 go_ret
 exact ⟨A2, c2, rfl, hown2, hb1.trans hg2.bel⟩
end Go.Proofs.YtcomeidcmcegfaaGreatDoor
namespace Go.Proofs.YtcomeidcmcegfaaGreatDoor
open Go.RowKit
set_option linter.unusedVariables false
theorem conv_str (w : World) (s : List UInt8) : ∃ c w', (convert 9 22 (.string ⟨s.toArray⟩)).run Tryz.prog w = .ok (.slice (some ⟨w.heap.size, 0, none⟩) s.length c) w' ∧
 Rd w' (some ⟨w.heap.size, 0, none⟩) (s.map U8) ∧ Below w.heap.size w w' ∧ w.grownBy w' none := by
 have h := Lib.run_convert_string_bytes (P := Tryz.prog) w 9 22 5 ⟨s.toArray⟩ Tryz.underlying9 Tryz.underlying22 Tryz.underlying5
 have hsz : (ByteArray.mk s.toArray).size = s.length := by simp [ByteArray.size]
 refine ⟨_, _, by rw [h, hsz], ?_, ?_, ?_⟩
 ·intro _
  refine ⟨w.heap.size, 0, rfl, by rw [Lib.bytesWorld_size]; omega, fun j u hu => ?_⟩
  have hj : j < s.length := by have := (List.getElem?_eq_some_iff.1 hu).1; simpa using this
  rw [Nat.zero_add, Lib.bytesWorld_cell _ _ _ _ (by rw [hsz]; exact hj)]
  rw [← hu]
  simp [List.getD, hj, U8]
 ·exact ⟨rfl, rfl, rfl, by rw [Lib.bytesWorld_size]; omega, fun k hk => Lib.bytesWorld_at_old w _ _ k hk⟩
 ·exact ⟨rfl, rfl, rfl, by rw [Lib.bytesWorld_size]; omega, fun k hk _ => Lib.bytesWorld_at_old w _ _ k hk⟩
theorem Gr.kept {base : Nat} {v v' : Value} {w w' w'' : World} (h : Gr base v w v' w') (hb : base ≤ w'.heap.size) (hg : w'.grownBy w'' none) : Gr base v w v' w'' :=
 h.trans ⟨⟨hg.os, hg.tape, hg.output, hg.size, fun k hk _ => hg.block k hk (by simp)⟩, fun _ h => .inl h, (Below.refl _ _).grown hg hb (by simp)⟩
end Go.Proofs.YtcomeidcmcegfaaGreatDoor
namespace Go.Proofs.YtcomeidcmcegfaaGreatDoor
open Go.RowKit
set_option linter.unusedVariables false
set_option maxHeartbeats 1000000 in
theorem put1_any (w : World) (base : Nat) (hbase : base ≤ w.heap.size) (A : Option Addr) (c : Nat) (l : List UInt8) (h : Own w base 5 1 (.slice A l.length c) l.length (l.map U8)) (hl : l.length ≤ 140737488355000) (x : UInt8) :
 Calls Tryz.prog 76 #[.slice A l.length c, .int .u8 x.toNat] w (RetGr U8 5 base (.slice A l.length c) (l ++ [x]) w) := by
 obtain ⟨i0, hi0, hz0, hz1, hz2⟩ := info_parts info_u8
 go_enter Tryz.func76, Tryz.ntmps76
 go_wp2_with (first
  | (at_builtin
     refine wpList_append_map _ U8 U8_one rfl (.tmp 5) (.tmp 7) _ rfl base 5 i0 _ 1 Tryz.underlying22 hi0 hz0 hz1 hz2 rfl A c l rfl (h.alloc _) (some ⟨w.heap.size, 0, none⟩) 1 [x] rfl (Rd.new _ _ _ _) (by simp only [maxLen, List.length_cons, List.length_nil]; omega) (by simp only [List.length_cons, List.length_nil]; omega) (by simp; omega) ?_
     intro A2 c2 l2 w2 e2 hown2 hr2 hg2 hb2 hat2
     obtain rfl : l ++ [x] = l2 := e2.out.symm
     generalize l ++ [x] = L at *)
  | fail)
 go_ret
 exact ⟨A2, c2, rfl, hown2, ((Gr.refl _ _ _).alloc hbase _).trans ⟨hg2, hat2, hb2⟩⟩
def PutRel {α : Type} (f : α → Value) (en : α → List UInt8) (w : World) (base : Nat) (v0 : Value) (l0 : List UInt8) (l : List α) (B : Option Addr) (v i : Value) (wr : World) : Prop :=
 ∃ (j : Nat) (A1 : Option Addr) (c1 : Nat) (l1 : List UInt8), j ≤ l.length ∧ i = .int .i64 j ∧ v = .slice A1 l1.length c1 ∧ l1 = l0 ++ (l.take j).flatMap en ∧
  Own wr base 5 1 (.slice A1 l1.length c1) l1.length (l1.map U8) ∧ Gr base v0 w (.slice A1 l1.length c1) wr ∧ Rd wr B (l.map f) ∧ Apart B (l.map f) (.slice A1 l1.length c1)
theorem flat_len {α : Type} (en : α → List UInt8) (N : Nat) (h : ∀ x, (en x).length ≤ N) (l : List α) : (l.flatMap en).length ≤ l.length * N := by
 induction l with
 | nil => simp
 | cons a l ih => have := h a; simp only [List.flatMap_cons, List.length_append, List.length_cons]; rw [Nat.add_mul]; omega
theorem flat_take {α : Type} (en : α → List UInt8) (l : List α) (j : Nat) (h : j < l.length) : (l.take (j + 1)).flatMap en = (l.take j).flatMap en ++ en l[j] := by
 rw [List.take_succ_eq_append_getElem h, List.flatMap_append]; simp
theorem flat_one (s : List UInt8) : s.flatMap (fun x => [x]) = s := by
 induction s with
 | nil => rfl
 | cons a s ih => simp only [List.flatMap_cons, ih]; rfl
def encT (s : List UInt8) : List UInt8 := enc s.length ++ s
theorem encT_length (s : List UInt8) : (encT s).length ≤ s.length + 10 := by
 have := enc_length (s.length : Int); unfold encT; simp; omega
set_option maxRecDepth 20000 in
set_option maxHeartbeats 1000000 in
theorem put8_any (w : World) (base : Nat) (hbase : base ≤ w.heap.size) (A : Option Addr) (c : Nat) (l : List UInt8) (h : Own w base 5 1 (.slice A l.length c) l.length (l.map U8)) (hl : l.length ≤ 100000000)
 (B : Option Addr) (d : Nat) (s : List UInt8) (hs : s.length ≤ 100000000) (hr : Rd w B (s.map U8)) (hap : Apart B (s.map U8) (.slice A l.length c)) :
 Calls Tryz.prog 75 #[.slice A l.length c, .slice B s.length d, .func (.func 76) #[] #[]] w (RetGr U8 5 base (.slice A l.length c) (l ++ encT s) w) := by
 have hen := enc_length (s.length : Int)
 go_enter Tryz.func75, Tryz.ntmps75
 go_wp2_with fail
 refine (varint_any _ base hbase _ _ _ h (by omega) _ (by omega) (by omega)).mono ?_
 rintro e w1 ⟨A1, c1, rfl, hown1, hg1⟩
 have hL : (l ++ enc s.length).length ≤ 100000010 := by simp; omega
 have HE : Hid (l ++ encT s = (l ++ enc s.length) ++ s) := by unfold encT; exact (List.append_assoc _ _ _).symm
 generalize l ++ enc s.length = L at *
 generalize l ++ encT s = LT at *
 go_wp2_with fail
 go_loopw [0, 15] (PutRel U8 (fun x => [x]) w base (.slice A l.length c) L s B) (fun _ i _ => s.length - (intOf i).toNat)
 case atStart => exact ⟨0, A1, c1, L, by omega, rfl, rfl, by simp, hown1, hg1, hg1.rd hr hap, hg1.apart hr hap⟩
 case round =>
  clear hown1 hg1
  obtain ⟨j, A1, c1, l1, hj, rfl, rfl, e1, hown1, hg1, hr1, hap1⟩ := hrel
  have E1 := Lib.hid e1
  have hl1 : l1.length ≤ 200000010 := by
   have := flat_len (fun x : UInt8 => [x]) 1 (fun _ => by simp) (s.take j)
   rw [e1, List.length_append]; simp only [List.length_take] at this; omega
  clear e1
  have hbw : base ≤ wr.heap.size := Nat.le_trans hbase hg1.bel.size
  by_cases hlt : j < s.length
  ·obtain ⟨b, off, rfl, hb, hck⟩ := hr1.at8 hlt
   have HF := Lib.hid (flat_take (fun x : UInt8 => [x]) s j hlt)
   generalize s[j] = x at *
   go_wp2_with fail
   refine (put1_any _ base hbw _ _ _ hown1 (by omega) x).mono ?_
   rintro e w2 ⟨A2, c2, rfl, hown2, hg2⟩
   have E2 : Hid (l1 ++ [x] = L ++ (s.take (j + 1)).flatMap (fun x => [x])) := by rw [Hid, HF.out, E1.out, List.append_assoc]
   generalize l1 ++ [x] = l2 at *
   go_wp2_with fail
   go_roundw
   case rel => exact ⟨j + 1, A2, c2, l2, by omega, by go_num, rfl, E2.out, hown2, hg1.trans hg2, hg2.rd hr1 hap1, hg2.apart hr1 hap1⟩
   case measure => simp [intOf]; omega
  ·obtain rfl : l1 = LT := by rw [E1.out, HE.out, List.take_of_length_le (by omega), flat_one]
   go_wp2
   go_ret
   exact ⟨A1, c1, rfl, hown1, hg1⟩
set_option maxHeartbeats 1000000 in
theorem putText_any (w : World) (A : Option Addr) (c : Nat) (l : List UInt8) (h : Rd w A (l.map U8)) (hl : l.length ≤ 100000000) (s : List UInt8) (hs : s.length ≤ 100000000) :
 Calls Tryz.prog 42 #[.slice A l.length c, .string ⟨s.toArray⟩] w (RetNew U8 5 (l ++ encT s) w) := by
 go_enter Tryz.func42, Tryz.ntmps42
 go_wp2_with fail
 refine (clone8_any _ _ _ _ h (by omega)).mono ?_
 rintro e w1 ⟨A1, c1, rfl, hown1, hb1⟩
 obtain ⟨c2, w2, hcv, hr2, hb2, hg2⟩ := conv_str w1 s
 go_wp2_with fail
 clear hcv
 refine (put8_any _ w.heap.size (Nat.le_trans hb1.size hb2.size) _ _ _ (hown1.below (B := 0) hb2) hl _ _ _ hs hr2 ?_).mono ?_
 ·intro _ b off e hk
  injection e with e
  injection e with e1 e2
  subst e1
  have := (hown1.lt _ hk).2
  omega
 rintro e w3 ⟨A3, c3, rfl, hown3, hg3⟩
 generalize l ++ encT s = L at *
 go_wp2_with fail
 go_ret
 exact ⟨A3, c3, rfl, hown3, (hb1.trans (hb2.mono hb1.size)).trans hg3.bel⟩
end Go.Proofs.YtcomeidcmcegfaaGreatDoor
namespace Go.Proofs.YtcomeidcmcegfaaGreatDoor
open Go.RowKit
set_option linter.unusedVariables false
theorem tx_read (l s t : List UInt8) (hs : s.length ≤ 9223372036854775807) :
 txE (l ++ (encT s ++ t)) (l.length : Int) = 0 ∧ txS (l ++ (encT s ++ t)) (l.length : Int) = s ∧ txT (l ++ (encT s ++ t)) (l.length : Int) = (((l ++ encT s).length : Nat) : Int) := by
 have e : l ++ (encT s ++ t) = l ++ (enc s.length ++ (s ++ t)) := by unfold encT; rw [List.append_assoc]
 obtain ⟨h0, h1, h2⟩ := enc_read l (s.length : Int) (s ++ t) (by omega) (by omega)
 rw [e]
 obtain ⟨k0, k1, k2⟩ := len_ok h0 (by rw [h1]; omega)
 rw [h1] at k1
 rw [h2] at k2
 have hlen : (l ++ (enc s.length ++ (s ++ t))).length = l.length + (enc s.length).length + s.length + t.length := by simp only [List.length_append]; omega
 obtain ⟨t0, t1, t2⟩ := tx_ok k0 (by rw [k1, k2, hlen]; omega)
 refine ⟨t0, ?_, ?_⟩
 ·rw [t1, k1, k2, Int.toNat_natCast, Int.toNat_natCast, ← List.append_assoc, List.drop_left' (by simp)]
  simp
 ·rw [t2, k1, k2]; unfold encT; simp only [List.length_append]; omega
theorem tx_enc {b : List UInt8} {a : Int} (h : txE b a = 0) : b.take (txT b a).toNat = b.take a.toNat ++ encT (txS b a) ∧ 0 ≤ txT b a ∧ txT b a ≤ b.length ∧ (txS b a).length ≤ b.length := by
 have hl : lenE b a = 0 := by
  by_cases h0 : lenE b a = 0
  ·exact h0
  ·have := (tx_err h0).1; omega
 have hn : ¬ lenN b a > b.length - lenT b a := fun hc => by have := (tx_short hl hc).1; omega
 obtain ⟨h1, h2⟩ := lenE_ok hl
 obtain ⟨_, k1, k2⟩ := len_ok h1 h2
 obtain ⟨b1, b2, b3, b4⟩ := len_bound hl
 obtain ⟨_, t1, t2⟩ := tx_ok hl hn
 have r := read_enc h1
 have hlen : ((b.drop (lenT b a).toNat).take (lenN b a).toNat).length = (lenN b a).toNat := by simp; omega
 rw [t1, t2]
 refine ⟨?_, by omega, by omega, by rw [hlen]; omega⟩
 unfold encT
 rw [hlen, show ((lenN b a).toNat : Int) = lenN b a by omega, ← List.append_assoc, k1, ← r, k2, show (rdT b a + rdN b a).toNat = (rdT b a).toNat + (rdN b a).toNat by rw [k1, k2] at *; omega, List.take_add]
theorem rdE_cut (l : List UInt8) (n : Int) (k : Nat) (lo : -9223372036854775808 ≤ n) (hi : n ≤ 9223372036854775807) (h : k < (enc n).length) : rdE (l ++ (enc n).take k) (l.length : Int) = 4 := by
 have hr := rdv_cut 9 10 0 (zig n) k (by omega) (by omega) (by omega) (by have := zig_lt lo hi; simpa using this) h
 rw [rdE_in (by simp), List.drop_left' rfl]
 unfold enc
 rw [hr]; rfl
end Go.Proofs.YtcomeidcmcegfaaGreatDoor
