/-
  The walk of wire.Int. Conditions: the bytes read as a list.
  The walk of the reference's Int. Conditions: the bytes read as a list.
  The walks of length, TextAt and Ints of layer 4 and of the reference. Conditions: at most a thousand million bytes.
-/
import Derived.Test.YtcomeidcmcegfaaDoorZA
import Derived.Test.YtcomeidcmcegfaaDoorZB
import Derived.Test.YtcomeidcmcegfaaDoorZC
import Derived.Test.YtcomeidcmcegfaaDoorZD
namespace Go.Proofs.YtcomeidcmcegfaaDoor
open Go.RowKit
set_option linter.unusedVariables false
def RetRd (b : List UInt8) (a : Int) (w : World) (e : Ending) (w' : World) : Prop := e = .returned (.tuple #[.int .i64 (rdN b a), .int .i64 (rdT b a), .int .i64 (rdE b a)]) ∧ w = w'
theorem retRd {b : List UInt8} {a x y z : Int} {w : World} (h : rdE b a = z ∧ rdN b a = x ∧ rdT b a = y) : RetRd b a w (.returned (.tuple #[.int .i64 x, .int .i64 y, .int .i64 z])) w := by
 obtain ⟨rfl, rfl, rfl⟩ := h; exact ⟨rfl, rfl⟩
set_option maxRecDepth 20000 in
set_option maxHeartbeats 1000000 in
theorem int_any (w : World) (A : Option Addr) (c : Nat) (b : List UInt8) (h : Rd w A (b.map U8)) (hl : b.length ≤ 9223372036854775807) (a : Int) (lo : -9223372036854775808 ≤ a) (hi : a ≤ 9223372036854775807) :
 Calls Tryd.prog 83 #[.slice A b.length c, .int .i64 a] w (RetRd b a w) := by
 by_cases h0 : a < 0
 ·have e0 := Lib.hid (rd_range (b := b) (Or.inl h0))
  go_enter Tryd.func83, Tryd.ntmps83
  go_wp2
  exact bodyPost_ret (v := .tuple #[.int .i64 0, .int .i64 0, .int .i64 2]) (by simp [results, Tryd.results83, go_sem]) rfl (retRd e0.out)
 ·by_cases h1 : (b.length : Int) < a
  ·have e0 := Lib.hid (rd_range (b := b) (Or.inr h1))
   go_enter Tryd.func83, Tryd.ntmps83
   go_wp2
   exact bodyPost_ret (v := .tuple #[.int .i64 0, .int .i64 0, .int .i64 2]) (by simp [results, Tryd.results83, go_sem]) rfl (retRd e0.out)
  ·obtain ⟨k, rfl⟩ : ∃ k : Nat, a = k := ⟨a.toNat, by omega⟩
   have hk : k ≤ b.length := by omega
   clear h0 h1 lo hi
   go_enter Tryd.func83, Tryd.ntmps83
   go_wp2
   go_loop [7, 18] (fun x i => ∃ j v : Nat, x = .int .u64 v ∧ i = .int .i64 j ∧ Reads b k j v) (fun x i => 10 - (intOf i).toNat)
   case atStart => exact ⟨0, 0, rfl, rfl, Reads.start b k hk⟩
   case round =>
    obtain ⟨j, v, rfl, rfl, hR⟩ := hrel
    have hj : j ≤ 10 := hR.1
    have hkj : k + j ≤ b.length := hR.2.1
    have HR := Lib.hid hR
    clear hR
    by_cases hlt : j < 10
    ·have hv := HR.out.lt hlt
     by_cases hin : k + j < b.length
     ·obtain ⟨bb, off, rfl, hb, hck⟩ := h.at8 hin
      have hcn := b[k + j].toNat_lt
      generalize hcc : b[k + j].toNat = ch at *
      have Hcc := Lib.hid hcc
      clear hcc
      obtain ⟨d, hd⟩ : ∃ d, d = ch % 128 := ⟨_, rfl⟩
      obtain ⟨x, hx⟩ : ∃ x, x = nextX v d j := ⟨_, rfl⟩
      have q1 : bits BinOp.and IntKind.u8 (ch : Int) 127 = (d : Int) := by rw [hd]; exact w8_low7 ch (by omega)
      have q2 : IntKind.u64.wrap (d : Int) = (d : Int) := w64_small d (by omega)
      have q3 : bits BinOp.or IntKind.u64 (v : Int) (IntKind.u64.wrap ((d : Int) * 2 ^ (7 * j))) = (x : Int) := by rw [hx]; exact w64_next v d j hv
      have hxl : x < 18446744073709551616 := by rw [hx]; exact nextX_lt v d j hv
      have Hd := Lib.hid hd
      have Hx := Lib.hid hx
      clear hd hx
      by_cases hc : ch < 128
      ·by_cases hbad : (ch = 0 ∧ 0 < j) ∨ (j = 9 ∧ 1 < ch)
       ·have e0 := Lib.hid (HR.out.bad hlt hin Hcc.out hc hbad)
        clear Hcc q1 q2 q3
        rcases hbad with ⟨h1, h2⟩ | ⟨h1, h2⟩
        ·obtain rfl : ch = 0 := h1
         go_wp2_with fail
         exact bodyPost_ret (v := .tuple #[.int .i64 0, .int .i64 0, .int .i64 3]) (by simp [results, Tryd.results83, go_sem]) rfl (retRd e0.out)
        ·have h3 : 9 ≤ j := by omega
         clear h1
         go_wp2_with fail
         exact bodyPost_ret (v := .tuple #[.int .i64 0, .int .i64 0, .int .i64 3]) (by simp [results, Tryd.results83, go_sem]) rfl (retRd e0.out)
       ·have e0 := Lib.hid (HR.out.ok hlt hin Hcc.out hc hbad)
        have hdc : d = ch := by rw [Hd.out]; omega
        rw [← hdc, ← Hx.out] at e0
        clear hdc
        by_cases hz : ch = 0
        ·obtain rfl : j = 0 := by omega
         obtain rfl : v = 0 := by have := HR.out.2.2.1; simp at this; exact this
         subst hz
         obtain rfl : d = 0 := Hd.out
         rw [Hx.out] at e0
         clear q1 q2 q3 hbad hcn
         have hck' : w.cell? ⟨bb, off + k, none⟩ = some (.int .u8 0) := hck
         clear hck
         go_wp2_with fail
         exact bodyPost_ret (v := .tuple #[.int .i64 _, .int .i64 (↑k + 1), .int .i64 0]) (by simp [results, Tryd.results83, go_sem]; rfl) rfl (retRd (by rw [unzig0]; simpa using e0.out))
        ·have e1 := Lib.hid (w64_unzig x hxl)
         by_cases h9 : 9 ≤ j
         ·have h1 : ch ≤ 1 := by omega
          clear hbad
          go_wp2_with fail
          exact bodyPost_ret (v := .tuple #[.int .i64 _, .int .i64 (↑k + 9 + 1), .int .i64 0]) (by simp [results, Tryd.results83, go_sem]; rfl) rfl (retRd (by rw [e1.out, show (9 : Int) = (j : Int) by omega]; exact e0.out))
         ·clear hbad
          go_wp2_with fail
          exact bodyPost_ret (v := .tuple #[.int .i64 _, .int .i64 (↑k + ↑j + 1), .int .i64 0]) (by simp [results, Tryd.results83, go_sem]; rfl) rfl (retRd (by rw [e1.out]; exact e0.out))
      ·have HN := Lib.hid (HR.out.next hlt hin Hcc.out (by omega) Hd.out)
       rw [← Hx.out] at HN
       go_wp2_with fail
       go_round
       case rel => exact ⟨j + 1, x, rfl, by go_num, HN.out⟩
       case measure => simp [intOf]; omega
     ·have e0 := Lib.hid (HR.out.short hlt hin)
      go_wp2_with fail
      exact bodyPost_ret (v := .tuple #[.int .i64 0, .int .i64 0, .int .i64 4]) (by simp [results, Tryd.results83, go_sem]) rfl (retRd e0.out)
    ·obtain rfl : j = 10 := by omega
     have e0 := Lib.hid HR.out.long
     go_wp2_with fail
     exact bodyPost_ret (v := .tuple #[.int .i64 0, .int .i64 0, .int .i64 3]) (by simp [results, Tryd.results83, go_sem]) rfl (retRd e0.out)
end Go.Proofs.YtcomeidcmcegfaaDoor
namespace Go.Proofs.YtcomeidcmcegfaaDoor
open Go.RowKit
set_option linter.unusedVariables false
def val : List UInt8 → Nat
 | [] => 0
 | c :: s => c.toNat % 128 + 128 * val s
theorem val_lt (l : List UInt8) : val l < 128 ^ l.length := by
 induction l with
 | nil => simp [val]
 | cons c l ih => rw [val, List.length_cons, Nat.pow_succ]; omega
theorem val_snoc (l : List UInt8) (c : UInt8) : val (l ++ [c]) = val l + 128 ^ l.length * (c.toNat % 128) := by
 induction l with
 | nil => simp [val]
 | cons a l ih => rw [List.cons_append, val, ih, val, List.length_cons, Nat.pow_succ, Nat.mul_add, ← Nat.mul_assoc, Nat.mul_comm 128 (128 ^ l.length)]; omega
def pre (b : List UInt8) (k j : Nat) : List UInt8 := (b.drop k).take j
theorem pre_len {b : List UInt8} {k j : Nat} (h : k + j ≤ b.length) : (pre b k j).length = j := by unfold pre; simp; omega
theorem pre_next {b : List UInt8} {k j : Nat} (h : k + j < b.length) : pre b k (j + 1) = pre b k j ++ [b[k + j]] := by
 unfold pre
 rw [List.take_succ_eq_append_getElem (by simp; omega)]
 simp
theorem val_next {b : List UInt8} {k j : Nat} (h : k + j < b.length) : val (pre b k (j + 1)) = val (pre b k j) + 128 ^ j * (b[k + j].toNat % 128) := by
 rw [pre_next h, val_snoc, pre_len (by omega)]
theorem Reads.pre {b : List UInt8} {k j : Nat} (h : Reads b k j (val (pre b k j))) (hj : j < 10) (hin : k + j < b.length) (h8 : 128 ≤ b[k + j].toNat) : Reads b k (j + 1) (val (pre b k (j + 1))) := by
 have hlt := b[k + j].toNat_lt
 have he := h.at hj hin
 rw [comb_next _ _ _ _ _ (by omega)] at he
 refine ⟨by omega, by omega, .inr ?_, ?_⟩
 ·have := val_lt (Go.Proofs.YtcomeidcmcegfaaDoor.pre b k (j + 1)); rwa [pre_len (by omega)] at this
 ·rw [val_next hin, show b[k + j].toNat % 128 = b[k + j].toNat - 128 by omega, show 10 - (j + 1) = 9 - j by omega, show k + (j + 1) = k + j + 1 by omega]
  exact he
end Go.Proofs.YtcomeidcmcegfaaDoor
namespace Go.Proofs.YtcomeidcmcegfaaDoor
open Go.RowKit
set_option linter.unusedVariables false
theorem int_ok (w : World) (A : Option Addr) (c : Nat) (b : List UInt8) (h : Rd w A (b.map U8)) (hl : b.length ≤ 1000000000) (a : Int) (lo : -9223372036854775808 ≤ a) (hi : a ≤ 9223372036854775807) (h0 : rdE b a = 0) :
 Calls Tryd.prog 83 #[.slice A b.length c, .int .i64 a] w fun e w' => e = .returned (.tuple #[.int .i64 (rdN b a), .int .i64 (rdT b a), .int .i64 0]) ∧ w = w' := by
 have := int_any w A c b h (by omega) a lo hi
 unfold RetRd at this; rw [h0] at this; exact this
theorem int_err (w : World) (A : Option Addr) (c : Nat) (b : List UInt8) (h : Rd w A (b.map U8)) (hl : b.length ≤ 1000000000) (a : Int) (lo : -9223372036854775808 ≤ a) (hi : a ≤ 9223372036854775807) (h0 : rdE b a ≠ 0) :
 Calls Tryd.prog 83 #[.slice A b.length c, .int .i64 a] w fun e w' => e = .returned (.tuple #[.int .i64 0, .int .i64 0, .int .i64 (rdE b a)]) ∧ w = w' := by
 have := int_any w A c b h (by omega) a lo hi
 unfold RetRd at this; rw [rdN_err h0, rdT_err h0] at this; exact this
set_option maxRecDepth 100000 in
set_option maxHeartbeats 1000000 in
theorem len_any (w : World) (A : Option Addr) (c : Nat) (b : List UInt8) (h : Rd w A (b.map U8)) (hl : b.length ≤ 1000000000) (a : Int) (lo : -9223372036854775808 ≤ a) (hi : a ≤ 9223372036854775807) :
 Calls Tryd.prog 114 #[.slice A b.length c, .int .i64 a] w fun e w' => e = .returned (.tuple #[.int .i64 (lenN b a), .int .i64 (lenT b a), .int .i64 (lenE b a)]) ∧ w = w' := by
 by_cases h0 : rdE b a = 0
 ·obtain ⟨n1, n2, n3, n4⟩ := read_bound h0
  by_cases hn : rdN b a < 0
  ·have H := Lib.hid (len_neg h0 hn)
   go_enter Tryd.func114, Tryd.ntmps114
   go_wp2_with fail
   refine (int_ok _ _ _ _ h hl _ lo hi h0).mono ?_
   rintro e w' ⟨rfl, rfl⟩
   generalize rdN b a = n at *
   generalize rdT b a = t at *
   clear h0
   go_wp2_with fail
   exact bodyPost_ret (v := .tuple #[.int .i64 0, .int .i64 0, .int .i64 3]) (by simp [results, Tryd.results114, go_sem]) rfl ⟨by obtain ⟨e0, e1, e2⟩ := H.out; rw [e0, e1, e2], rfl⟩
  ·have H := Lib.hid (len_ok h0 (by omega))
   go_enter Tryd.func114, Tryd.ntmps114
   go_wp2_with fail
   refine (int_ok _ _ _ _ h hl _ lo hi h0).mono ?_
   rintro e w' ⟨rfl, rfl⟩
   generalize rdN b a = n at *
   generalize rdT b a = t at *
   clear h0
   go_wp2_with fail
   exact bodyPost_ret (v := .tuple #[.int .i64 n, .int .i64 t, .int .i64 0]) (by simp [results, Tryd.results114, go_sem]) rfl ⟨by obtain ⟨e0, e1, e2⟩ := H.out; rw [e0, e1, e2], rfl⟩
 ·have H := Lib.hid (len_err h0)
  have hb : (rdE b a == 0) = false := by simp; exact h0
  go_enter Tryd.func114, Tryd.ntmps114
  go_wp2_with fail
  refine (int_err _ _ _ _ h hl _ lo hi h0).mono ?_
  rintro e w' ⟨rfl, rfl⟩
  generalize rdE b a = n at *
  clear h0
  go_wp2_with fail
  exact bodyPost_ret (v := .tuple #[.int .i64 0, .int .i64 0, .int .i64 n]) (by simp [results, Tryd.results114, go_sem]) rfl ⟨by obtain ⟨e0, e1, e2⟩ := H.out; rw [e0, e1, e2], rfl⟩
set_option maxRecDepth 100000 in
set_option maxHeartbeats 1000000 in
theorem textAt_any (w : World) (A : Option Addr) (c : Nat) (b : List UInt8) (hbc : b.length ≤ c) (h : Rd w A (b.map U8)) (hl : b.length ≤ 1000000000) (a : Int) (lo : -9223372036854775808 ≤ a) (hi : a ≤ 9223372036854775807) :
 Calls Tryd.prog 103 #[.slice A b.length c, .int .i64 a] w fun e w' => e = .returned (.tuple #[.string ⟨(txS b a).toArray⟩, .int .i64 (txT b a), .int .i64 (txE b a)]) ∧ w = w' := by
 by_cases h0 : lenE b a = 0
 ·obtain ⟨n1, n2, n3, n4⟩ := len_bound h0
  have hL := len_any w A c b h hl a lo hi
  rw [h0] at hL
  by_cases hn : lenN b a > b.length - lenT b a
  ·have H := Lib.hid (tx_short h0 hn)
   clear h0
   generalize lenN b a = n at *
   generalize lenT b a = t at *
   go_enter Tryd.func103, Tryd.ntmps103
   go_wp2_with fail
   refine hL.mono ?_
   rintro e w' ⟨rfl, rfl⟩
   clear hL
   go_wp2_with fail
   exact bodyPost_ret (v := .tuple #[.string ⟨#[]⟩, .int .i64 0, .int .i64 4]) (by simp [results, Tryd.results103, go_sem]) rfl ⟨by obtain ⟨e0, e1, e2⟩ := H.out; rw [e0, e1, e2], rfl⟩
  ·have H := Lib.hid (tx_ok h0 hn)
   clear h0
   generalize lenN b a = n at *
   generalize lenT b a = t at *
   obtain ⟨k, rfl⟩ : ∃ k : Nat, t = k := ⟨t.toNat, by omega⟩
   obtain ⟨m, rfl⟩ : ∃ m : Nat, n = m := ⟨n.toNat, by omega⟩
   rw [Int.toNat_natCast, Int.toNat_natCast] at H
   obtain ⟨A', hsl, hA'⟩ := slice_run w A c b hbc h k m (by omega)
   have hlm : ((b.drop k).take m).length = m := by simp; omega
   have hst := str_of w A' (c - k) ((b.drop k).take m) hA'
   rw [hlm] at hst
   clear hlm hA'
   generalize (b.drop k).take m = s at *
   go_enter Tryd.func103, Tryd.ntmps103
   go_wp2_with fail
   refine hL.mono ?_
   rintro e w' ⟨rfl, rfl⟩
   clear hL
   go_wp2_with fail
   exact bodyPost_ret (v := .tuple #[.string ⟨s.toArray⟩, .int .i64 (↑k + ↑m), .int .i64 0]) (by simp [results, Tryd.results103, go_sem]) rfl ⟨by obtain ⟨e0, e1, e2⟩ := H.out; rw [e0, e1, e2], rfl⟩
 ·have H := Lib.hid (tx_err h0)
  have hL := len_any w A c b h hl a lo hi
  rw [lenN_err h0, lenT_err h0] at hL
  have hb : (lenE b a == 0) = false := by simp; exact h0
  have hb' : (lenE b a != 0) = true := by simp; exact h0
  generalize lenE b a = n at *
  clear h0
  go_enter Tryd.func103, Tryd.ntmps103
  go_wp2_with fail
  refine hL.mono ?_
  rintro e w' ⟨rfl, rfl⟩
  clear hL
  go_wp2_with fail
  exact bodyPost_ret (v := .tuple #[.string ⟨#[]⟩, .int .i64 0, .int .i64 n]) (by simp [results, Tryd.results103, go_sem]) rfl ⟨by obtain ⟨e0, e1, e2⟩ := H.out; rw [e0, e1, e2], rfl⟩
end Go.Proofs.YtcomeidcmcegfaaDoor
