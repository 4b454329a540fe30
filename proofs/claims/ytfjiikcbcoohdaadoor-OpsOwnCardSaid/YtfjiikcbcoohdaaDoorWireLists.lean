/-
  The walks of length, TextAt and Ints of layer 4 and of the reference. Conditions: at most a thousand million bytes.
-/
import Derived.Test.YtfjiikcbcoohdaaDoorWireRInt
import Derived.Test.YtfjiikcbcoohdaaDoorGrow
import Derived.Test.YtfjiikcbcoohdaaDoorWireList
namespace Go.Proofs.YtfjiikcbcoohdaaDoor
open Go.RowKit
set_option linter.unusedVariables false

theorem int_ok (w : World) (A : Option Addr) (c : Nat) (b : List UInt8) (h : Rd w A (b.map U8)) (hl : b.length ≤ 1000000000) (a : Int) (lo : -9223372036854775808 ≤ a) (hi : a ≤ 9223372036854775807) (h0 : rdE b a = 0) :
    Calls Tryd.prog 67 #[.slice A b.length c, .int .i64 a] w fun e w' => e = .returned (.tuple #[.int .i64 (rdN b a), .int .i64 (rdT b a), .int .i64 0]) ∧ w = w' := by
  have := int_any w A c b h (by omega) a lo hi
  unfold RetRd at this; rw [h0] at this; exact this
theorem int_err (w : World) (A : Option Addr) (c : Nat) (b : List UInt8) (h : Rd w A (b.map U8)) (hl : b.length ≤ 1000000000) (a : Int) (lo : -9223372036854775808 ≤ a) (hi : a ≤ 9223372036854775807) (h0 : rdE b a ≠ 0) :
    Calls Tryd.prog 67 #[.slice A b.length c, .int .i64 a] w fun e w' => e = .returned (.tuple #[.int .i64 0, .int .i64 0, .int .i64 (rdE b a)]) ∧ w = w' := by
  have := int_any w A c b h (by omega) a lo hi
  unfold RetRd at this; rw [rdN_err h0, rdT_err h0] at this; exact this

set_option maxRecDepth 100000 in
set_option maxHeartbeats 1000000 in
theorem len_any (w : World) (A : Option Addr) (c : Nat) (b : List UInt8) (h : Rd w A (b.map U8)) (hl : b.length ≤ 1000000000) (a : Int) (lo : -9223372036854775808 ≤ a) (hi : a ≤ 9223372036854775807) :
    Calls Tryd.prog 74 #[.slice A b.length c, .int .i64 a] w fun e w' => e = .returned (.tuple #[.int .i64 (lenN b a), .int .i64 (lenT b a), .int .i64 (lenE b a)]) ∧ w = w' := by
  by_cases h0 : rdE b a = 0
  · obtain ⟨n1, n2, n3, n4⟩ := read_bound h0
    by_cases hn : rdN b a < 0
    · have H := Lib.hid (len_neg h0 hn)
      go_enter Tryd.func74, Tryd.ntmps74
      go_wp2_with fail
      refine (int_ok _ _ _ _ h hl _ lo hi h0).mono ?_
      rintro e w' ⟨rfl, rfl⟩
      generalize rdN b a = n at *
      generalize rdT b a = t at *
      clear h0
      go_wp2_with fail
      exact bodyPost_ret (v := .tuple #[.int .i64 0, .int .i64 0, .int .i64 3]) (by simp [results, Tryd.results74, go_sem]) rfl ⟨by obtain ⟨e0, e1, e2⟩ := H.out; rw [e0, e1, e2], rfl⟩
    · have H := Lib.hid (len_ok h0 (by omega))
      go_enter Tryd.func74, Tryd.ntmps74
      go_wp2_with fail
      refine (int_ok _ _ _ _ h hl _ lo hi h0).mono ?_
      rintro e w' ⟨rfl, rfl⟩
      generalize rdN b a = n at *
      generalize rdT b a = t at *
      clear h0
      go_wp2_with fail
      exact bodyPost_ret (v := .tuple #[.int .i64 n, .int .i64 t, .int .i64 0]) (by simp [results, Tryd.results74, go_sem]) rfl ⟨by obtain ⟨e0, e1, e2⟩ := H.out; rw [e0, e1, e2], rfl⟩
  · have H := Lib.hid (len_err h0)
    have hb : (rdE b a == 0) = false := by simp; exact h0
    go_enter Tryd.func74, Tryd.ntmps74
    go_wp2_with fail
    refine (int_err _ _ _ _ h hl _ lo hi h0).mono ?_
    rintro e w' ⟨rfl, rfl⟩
    generalize rdE b a = n at *
    clear h0
    go_wp2_with fail
    exact bodyPost_ret (v := .tuple #[.int .i64 0, .int .i64 0, .int .i64 n]) (by simp [results, Tryd.results74, go_sem]) rfl ⟨by obtain ⟨e0, e1, e2⟩ := H.out; rw [e0, e1, e2], rfl⟩

set_option maxRecDepth 100000 in
set_option maxHeartbeats 1000000 in
theorem textAt_any (w : World) (A : Option Addr) (c : Nat) (b : List UInt8) (hbc : b.length ≤ c) (h : Rd w A (b.map U8)) (hl : b.length ≤ 1000000000) (a : Int) (lo : -9223372036854775808 ≤ a) (hi : a ≤ 9223372036854775807) :
    Calls Tryd.prog 68 #[.slice A b.length c, .int .i64 a] w fun e w' => e = .returned (.tuple #[.string ⟨(txS b a).toArray⟩, .int .i64 (txT b a), .int .i64 (txE b a)]) ∧ w = w' := by
  by_cases h0 : lenE b a = 0
  · obtain ⟨n1, n2, n3, n4⟩ := len_bound h0
    have hL := len_any w A c b h hl a lo hi
    rw [h0] at hL
    by_cases hn : lenN b a > b.length - lenT b a
    · have H := Lib.hid (tx_short h0 hn)
      clear h0
      generalize lenN b a = n at *
      generalize lenT b a = t at *
      go_enter Tryd.func68, Tryd.ntmps68
      go_wp2_with fail
      refine hL.mono ?_
      rintro e w' ⟨rfl, rfl⟩
      clear hL
      go_wp2_with fail
      exact bodyPost_ret (v := .tuple #[.string ⟨#[]⟩, .int .i64 0, .int .i64 4]) (by simp [results, Tryd.results68, go_sem]) rfl ⟨by obtain ⟨e0, e1, e2⟩ := H.out; rw [e0, e1, e2], rfl⟩
    · have H := Lib.hid (tx_ok h0 hn)
      clear h0
      generalize lenN b a = n at *
      generalize lenT b a = t at *
      obtain ⟨k, rfl⟩ : ∃ k : Nat, t = k := ⟨t.toNat, by omega⟩
      obtain ⟨m, rfl⟩ : ∃ m : Nat, n = m := ⟨n.toNat, by omega⟩
      rw [Int.toNat_natCast, Int.toNat_natCast] at H
      obtain ⟨A', hsl, hA'⟩ := slice_run w A c b hbc h k m (by omega)
      have hlm : ((b.drop k).take m).length = m := by simp; omega
      have hst := str_of w A' (c - k) ((b.drop k).take m) hA'
      rw [hlm] at hst
      clear hlm hA'
      generalize (b.drop k).take m = s at *
      go_enter Tryd.func68, Tryd.ntmps68
      go_wp2_with fail
      refine hL.mono ?_
      rintro e w' ⟨rfl, rfl⟩
      clear hL
      go_wp2_with fail
      exact bodyPost_ret (v := .tuple #[.string ⟨s.toArray⟩, .int .i64 (↑k + ↑m), .int .i64 0]) (by simp [results, Tryd.results68, go_sem]) rfl ⟨by obtain ⟨e0, e1, e2⟩ := H.out; rw [e0, e1, e2], rfl⟩
  · have H := Lib.hid (tx_err h0)
    have hL := len_any w A c b h hl a lo hi
    rw [lenN_err h0, lenT_err h0] at hL
    have hb : (lenE b a == 0) = false := by simp; exact h0
    have hb' : (lenE b a != 0) = true := by simp; exact h0
    generalize lenE b a = n at *
    clear h0
    go_enter Tryd.func68, Tryd.ntmps68
    go_wp2_with fail
    refine hL.mono ?_
    rintro e w' ⟨rfl, rfl⟩
    clear hL
    go_wp2_with fail
    exact bodyPost_ret (v := .tuple #[.string ⟨#[]⟩, .int .i64 0, .int .i64 n]) (by simp [results, Tryd.results68, go_sem]) rfl ⟨by obtain ⟨e0, e1, e2⟩ := H.out; rw [e0, e1, e2], rfl⟩

theorem rint_ok (w : World) (A : Option Addr) (c : Nat) (b : List UInt8) (h : Rd w A (b.map U8)) (hl : b.length ≤ 1000000000) (a : Int) (lo : -9223372036854775808 ≤ a) (hi : a ≤ 9223372036854775807) (h0 : rdE b a = 0) :
    Calls Tryd.prog 47 #[.slice A b.length c, .int .i64 a] w fun e w' => e = .returned (.tuple #[.int .i64 (rdN b a), .int .i64 (rdT b a), .int .i64 0]) ∧ w = w' := by
  have := rint_any w A c b h (by omega) a lo hi
  unfold RetRd at this; rw [h0] at this; exact this
theorem rint_err (w : World) (A : Option Addr) (c : Nat) (b : List UInt8) (h : Rd w A (b.map U8)) (hl : b.length ≤ 1000000000) (a : Int) (lo : -9223372036854775808 ≤ a) (hi : a ≤ 9223372036854775807) (h0 : rdE b a ≠ 0) :
    Calls Tryd.prog 47 #[.slice A b.length c, .int .i64 a] w fun e w' => e = .returned (.tuple #[.int .i64 0, .int .i64 0, .int .i64 (rdE b a)]) ∧ w = w' := by
  have := rint_any w A c b h (by omega) a lo hi
  unfold RetRd at this; rw [rdN_err h0, rdT_err h0] at this; exact this

set_option maxRecDepth 100000 in
set_option maxHeartbeats 1000000 in
theorem rlen_any (w : World) (A : Option Addr) (c : Nat) (b : List UInt8) (h : Rd w A (b.map U8)) (hl : b.length ≤ 1000000000) (a : Int) (lo : -9223372036854775808 ≤ a) (hi : a ≤ 9223372036854775807) :
    Calls Tryd.prog 75 #[.slice A b.length c, .int .i64 a] w fun e w' => e = .returned (.tuple #[.int .i64 (lenN b a), .int .i64 (lenT b a), .int .i64 (lenE b a)]) ∧ w = w' := by
  by_cases h0 : rdE b a = 0
  · obtain ⟨n1, n2, n3, n4⟩ := read_bound h0
    by_cases hn : rdN b a < 0
    · have H := Lib.hid (len_neg h0 hn)
      go_enter Tryd.func75, Tryd.ntmps75
      go_wp2_with fail
      refine (rint_ok _ _ _ _ h hl _ lo hi h0).mono ?_
      rintro e w' ⟨rfl, rfl⟩
      generalize rdN b a = n at *
      generalize rdT b a = t at *
      clear h0
      go_wp2_with fail
      exact bodyPost_ret (v := .tuple #[.int .i64 0, .int .i64 0, .int .i64 3]) (by simp [results, Tryd.results75, go_sem]) rfl ⟨by obtain ⟨e0, e1, e2⟩ := H.out; rw [e0, e1, e2], rfl⟩
    · have H := Lib.hid (len_ok h0 (by omega))
      go_enter Tryd.func75, Tryd.ntmps75
      go_wp2_with fail
      refine (rint_ok _ _ _ _ h hl _ lo hi h0).mono ?_
      rintro e w' ⟨rfl, rfl⟩
      generalize rdN b a = n at *
      generalize rdT b a = t at *
      clear h0
      go_wp2_with fail
      exact bodyPost_ret (v := .tuple #[.int .i64 n, .int .i64 t, .int .i64 0]) (by simp [results, Tryd.results75, go_sem]) rfl ⟨by obtain ⟨e0, e1, e2⟩ := H.out; rw [e0, e1, e2], rfl⟩
  · have H := Lib.hid (len_err h0)
    have hb : (rdE b a == 0) = false := by simp; exact h0
    go_enter Tryd.func75, Tryd.ntmps75
    go_wp2_with fail
    refine (rint_err _ _ _ _ h hl _ lo hi h0).mono ?_
    rintro e w' ⟨rfl, rfl⟩
    generalize rdE b a = n at *
    clear h0
    go_wp2_with fail
    exact bodyPost_ret (v := .tuple #[.int .i64 0, .int .i64 0, .int .i64 n]) (by simp [results, Tryd.results75, go_sem]) rfl ⟨by obtain ⟨e0, e1, e2⟩ := H.out; rw [e0, e1, e2], rfl⟩

set_option maxRecDepth 100000 in
set_option maxHeartbeats 1000000 in
theorem rtextAt_any (w : World) (A : Option Addr) (c : Nat) (b : List UInt8) (hbc : b.length ≤ c) (h : Rd w A (b.map U8)) (hl : b.length ≤ 1000000000) (a : Int) (lo : -9223372036854775808 ≤ a) (hi : a ≤ 9223372036854775807) :
    Calls Tryd.prog 69 #[.slice A b.length c, .int .i64 a] w fun e w' => e = .returned (.tuple #[.string ⟨(txS b a).toArray⟩, .int .i64 (txT b a), .int .i64 (txE b a)]) ∧ w = w' := by
  by_cases h0 : lenE b a = 0
  · obtain ⟨n1, n2, n3, n4⟩ := len_bound h0
    have hL := rlen_any w A c b h hl a lo hi
    rw [h0] at hL
    by_cases hn : lenN b a > b.length - lenT b a
    · have H := Lib.hid (tx_short h0 hn)
      clear h0
      generalize lenN b a = n at *
      generalize lenT b a = t at *
      go_enter Tryd.func69, Tryd.ntmps69
      go_wp2_with fail
      refine hL.mono ?_
      rintro e w' ⟨rfl, rfl⟩
      clear hL
      go_wp2_with fail
      exact bodyPost_ret (v := .tuple #[.string ⟨#[]⟩, .int .i64 0, .int .i64 4]) (by simp [results, Tryd.results69, go_sem]) rfl ⟨by obtain ⟨e0, e1, e2⟩ := H.out; rw [e0, e1, e2], rfl⟩
    · have H := Lib.hid (tx_ok h0 hn)
      clear h0
      generalize lenN b a = n at *
      generalize lenT b a = t at *
      obtain ⟨k, rfl⟩ : ∃ k : Nat, t = k := ⟨t.toNat, by omega⟩
      obtain ⟨m, rfl⟩ : ∃ m : Nat, n = m := ⟨n.toNat, by omega⟩
      rw [Int.toNat_natCast, Int.toNat_natCast] at H
      obtain ⟨A', hsl, hA'⟩ := slice_run w A c b hbc h k m (by omega)
      have hlm : ((b.drop k).take m).length = m := by simp; omega
      have hst := str_of w A' (c - k) ((b.drop k).take m) hA'
      rw [hlm] at hst
      clear hlm hA'
      generalize (b.drop k).take m = s at *
      go_enter Tryd.func69, Tryd.ntmps69
      go_wp2_with fail
      refine hL.mono ?_
      rintro e w' ⟨rfl, rfl⟩
      clear hL
      go_wp2_with fail
      exact bodyPost_ret (v := .tuple #[.string ⟨s.toArray⟩, .int .i64 (↑k + ↑m), .int .i64 0]) (by simp [results, Tryd.results69, go_sem]) rfl ⟨by obtain ⟨e0, e1, e2⟩ := H.out; rw [e0, e1, e2], rfl⟩
  · have H := Lib.hid (tx_err h0)
    have hL := rlen_any w A c b h hl a lo hi
    rw [lenN_err h0, lenT_err h0] at hL
    have hb : (lenE b a == 0) = false := by simp; exact h0
    have hb' : (lenE b a != 0) = true := by simp; exact h0
    generalize lenE b a = n at *
    clear h0
    go_enter Tryd.func69, Tryd.ntmps69
    go_wp2_with fail
    refine hL.mono ?_
    rintro e w' ⟨rfl, rfl⟩
    clear hL
    go_wp2_with fail
    exact bodyPost_ret (v := .tuple #[.string ⟨#[]⟩, .int .i64 0, .int .i64 n]) (by simp [results, Tryd.results69, go_sem]) rfl ⟨by obtain ⟨e0, e1, e2⟩ := H.out; rw [e0, e1, e2], rfl⟩

end Go.Proofs.YtfjiikcbcoohdaaDoor
