/-
  The walks of length, TextAt and Ints of layer 4 and of the reference. Conditions: at most a thousand million bytes.
-/
import Derived.Test.YtklimplhlhcajaaWireRInt
import Derived.Test.YtklimplhlhcajaaGrow
import Derived.Test.YtklimplhlhcajaaWireList
namespace Go.Proofs.Ytklimplhlhcajaa
open Go.RowKit
set_option linter.unusedVariables false

theorem int_ok (w : World) (A : Option Addr) (c : Nat) (b : List UInt8) (h : Rd w A (b.map U8)) (hl : b.length ≤ 1000000000) (a : Int) (lo : -9223372036854775808 ≤ a) (hi : a ≤ 9223372036854775807) (h0 : rdE b a = 0) :
    Calls Try.prog 12 #[.slice A b.length c, .int .i64 a] w fun e w' => e = .returned (.tuple #[.int .i64 (rdN b a), .int .i64 (rdT b a), .int .i64 0]) ∧ w = w' := by
  have := int_any w A c b h (by omega) a lo hi
  unfold RetRd at this; rw [h0] at this; exact this
theorem int_err (w : World) (A : Option Addr) (c : Nat) (b : List UInt8) (h : Rd w A (b.map U8)) (hl : b.length ≤ 1000000000) (a : Int) (lo : -9223372036854775808 ≤ a) (hi : a ≤ 9223372036854775807) (h0 : rdE b a ≠ 0) :
    Calls Try.prog 12 #[.slice A b.length c, .int .i64 a] w fun e w' => e = .returned (.tuple #[.int .i64 0, .int .i64 0, .int .i64 (rdE b a)]) ∧ w = w' := by
  have := int_any w A c b h (by omega) a lo hi
  unfold RetRd at this; rw [rdN_err h0, rdT_err h0] at this; exact this

set_option maxHeartbeats 1000000 in
theorem len_any (w : World) (A : Option Addr) (c : Nat) (b : List UInt8) (h : Rd w A (b.map U8)) (hl : b.length ≤ 1000000000) (a : Int) (lo : -9223372036854775808 ≤ a) (hi : a ≤ 9223372036854775807) :
    Calls Try.prog 30 #[.slice A b.length c, .int .i64 a] w fun e w' => e = .returned (.tuple #[.int .i64 (lenN b a), .int .i64 (lenT b a), .int .i64 (lenE b a)]) ∧ w = w' := by
  by_cases h0 : rdE b a = 0
  · obtain ⟨n1, n2, n3, n4⟩ := read_bound h0
    by_cases hn : rdN b a < 0
    · have H := Lib.hid (len_neg h0 hn)
      go_enter Try.func30, Try.ntmps30
      go_wp2_with fail
      refine (int_ok _ _ _ _ h hl _ lo hi h0).mono ?_
      rintro e w' ⟨rfl, rfl⟩
      generalize rdN b a = n at *
      generalize rdT b a = t at *
      clear h0
      go_wp2_with fail
      exact bodyPost_ret (v := .tuple #[.int .i64 0, .int .i64 0, .int .i64 3]) (by simp [results, Try.results30, go_sem]) rfl ⟨by obtain ⟨e0, e1, e2⟩ := H.out; rw [e0, e1, e2], rfl⟩
    · have H := Lib.hid (len_ok h0 (by omega))
      go_enter Try.func30, Try.ntmps30
      go_wp2_with fail
      refine (int_ok _ _ _ _ h hl _ lo hi h0).mono ?_
      rintro e w' ⟨rfl, rfl⟩
      generalize rdN b a = n at *
      generalize rdT b a = t at *
      clear h0
      go_wp2_with fail
      exact bodyPost_ret (v := .tuple #[.int .i64 n, .int .i64 t, .int .i64 0]) (by simp [results, Try.results30, go_sem]) rfl ⟨by obtain ⟨e0, e1, e2⟩ := H.out; rw [e0, e1, e2], rfl⟩
  · have H := Lib.hid (len_err h0)
    have hb : (rdE b a == 0) = false := by simp; exact h0
    go_enter Try.func30, Try.ntmps30
    go_wp2_with fail
    refine (int_err _ _ _ _ h hl _ lo hi h0).mono ?_
    rintro e w' ⟨rfl, rfl⟩
    generalize rdE b a = n at *
    clear h0
    go_wp2_with fail
    exact bodyPost_ret (v := .tuple #[.int .i64 0, .int .i64 0, .int .i64 n]) (by simp [results, Try.results30, go_sem]) rfl ⟨by obtain ⟨e0, e1, e2⟩ := H.out; rw [e0, e1, e2], rfl⟩

set_option maxHeartbeats 1000000 in
theorem textAt_any (w : World) (A : Option Addr) (c : Nat) (b : List UInt8) (hbc : b.length ≤ c) (h : Rd w A (b.map U8)) (hl : b.length ≤ 1000000000) (a : Int) (lo : -9223372036854775808 ≤ a) (hi : a ≤ 9223372036854775807) :
    Calls Try.prog 20 #[.slice A b.length c, .int .i64 a] w fun e w' => e = .returned (.tuple #[.string ⟨(txS b a).toArray⟩, .int .i64 (txT b a), .int .i64 (txE b a)]) ∧ w = w' := by
  by_cases h0 : lenE b a = 0
  · obtain ⟨n1, n2, n3, n4⟩ := len_bound h0
    have hL := len_any w A c b h hl a lo hi
    rw [h0] at hL
    by_cases hn : lenN b a > b.length - lenT b a
    · have H := Lib.hid (tx_short h0 hn)
      clear h0
      generalize lenN b a = n at *
      generalize lenT b a = t at *
      go_enter Try.func20, Try.ntmps20
      go_wp2_with fail
      refine hL.mono ?_
      rintro e w' ⟨rfl, rfl⟩
      clear hL
      go_wp2_with fail
      exact bodyPost_ret (v := .tuple #[.string ⟨#[]⟩, .int .i64 0, .int .i64 4]) (by simp [results, Try.results20, go_sem]) rfl ⟨by obtain ⟨e0, e1, e2⟩ := H.out; rw [e0, e1, e2], rfl⟩
    · have H := Lib.hid (tx_ok h0 hn)
      clear h0
      generalize lenN b a = n at *
      generalize lenT b a = t at *
      obtain ⟨k, rfl⟩ : ∃ k : Nat, t = k := ⟨t.toNat, by omega⟩
      obtain ⟨m, rfl⟩ : ∃ m : Nat, n = m := ⟨n.toNat, by omega⟩
      rw [Int.toNat_natCast, Int.toNat_natCast] at H
      obtain ⟨A', hsl, hA'⟩ := slice_run w A c b hbc h k m (by omega)
      have hlm : ((b.drop k).take m).length = m := by simp; omega
      have hst := str_of w A' (c - k) ((b.drop k).take m) hA'
      rw [hlm] at hst
      clear hlm hA'
      generalize (b.drop k).take m = s at *
      go_enter Try.func20, Try.ntmps20
      go_wp2_with fail
      refine hL.mono ?_
      rintro e w' ⟨rfl, rfl⟩
      clear hL
      go_wp2_with fail
      exact bodyPost_ret (v := .tuple #[.string ⟨s.toArray⟩, .int .i64 (↑k + ↑m), .int .i64 0]) (by simp [results, Try.results20, go_sem]) rfl ⟨by obtain ⟨e0, e1, e2⟩ := H.out; rw [e0, e1, e2], rfl⟩
  · have H := Lib.hid (tx_err h0)
    have hL := len_any w A c b h hl a lo hi
    rw [lenN_err h0, lenT_err h0] at hL
    have hb : (lenE b a == 0) = false := by simp; exact h0
    have hb' : (lenE b a != 0) = true := by simp; exact h0
    generalize lenE b a = n at *
    clear h0
    go_enter Try.func20, Try.ntmps20
    go_wp2_with fail
    refine hL.mono ?_
    rintro e w' ⟨rfl, rfl⟩
    clear hL
    go_wp2_with fail
    exact bodyPost_ret (v := .tuple #[.string ⟨#[]⟩, .int .i64 0, .int .i64 n]) (by simp [results, Try.results20, go_sem]) rfl ⟨by obtain ⟨e0, e1, e2⟩ := H.out; rw [e0, e1, e2], rfl⟩

set_option maxRecDepth 20000 in
set_option maxHeartbeats 1000000 in
theorem ints_any (w : World) (A : Option Addr) (c : Nat) (b : List UInt8) (h : Rd w A (b.map U8)) (hl : b.length ≤ 1000000000) (a : Int) (lo : -9223372036854775808 ≤ a) (hi : a ≤ 9223372036854775807) :
    Calls Try.prog 22 #[.slice A b.length c, .int .i64 a] w (RetList (isL b a) (isT b a) (isE b a) w) := by
  obtain ⟨i0, hi0, hz0, hz1, hz2⟩ := info_parts info_int
  by_cases h0 : lenE b a = 0
  · obtain ⟨n1, n2, n3, n4⟩ := len_bound h0
    have hL := len_any w A c b h hl a lo hi
    rw [h0] at hL
    have H := Lib.hid (is_ok h0)
    clear h0
    generalize lenN b a = n at *
    generalize lenT b a = t at *
    obtain ⟨m, rfl⟩ : ∃ m : Nat, n = m := ⟨n.toNat, by omega⟩
    rw [Int.toNat_natCast] at H
    go_enter Try.func22, Try.ntmps22
    go_wp2_with fail
    refine hL.mono ?_
    rintro e w' ⟨rfl, rfl⟩
    clear hL
    go_wp2_with fail
    go_loopw [8, 10, 25] (ListRel w b m t) (fun _ _ i _ => m - (intOf i).toNat)
    case atStart => exact ListRel.start w b m t (by omega) n4
    case round =>
      obtain ⟨j, A1, c1, l1, q, hj, rfl, rfl, rfl, hq1, hq2, hll, hcm, hown, hb⟩ := hrel
      have HC := Lib.hid hcm
      clear hcm
      by_cases hlt : j < m
      · by_cases hE : rdE b q = 0
        · obtain ⟨k1, k2, k3, k4⟩ := read_bound hE
          have HN := Lib.hid (ints_next hlt hE HC.out)
          go_wp2_with fail
          refine (int_ok _ _ _ _ (h.below hb) hl _ (by omega) (by omega) hE).mono ?_
          rintro e w' ⟨rfl, rfl⟩
          clear hE
          generalize rdN b q = x at *
          generalize rdT b q = q' at *
          go_wp2_with (first
            | (at_builtin
               refine wpList_append_map _ I64 I64_one rfl (.tmp 37) (.tmp 39) _ rfl w.heap.size 3 i0 _ 8 Try.underlying29 hi0 hz0 hz1 hz2 rfl A1 c1 l1 rfl (hown.alloc _) (some ⟨wr.heap.size, 0, none⟩) 1 [x] rfl (Rd.new _ _ _ _) (by simp only [maxLen, List.length_cons, List.length_nil]; omega) (by simp only [List.length_cons, List.length_nil]; omega) (by simp; have := hb.size; omega) ?_
               intro A2 c2 l2 w2 e2 hown2 hr2 hg2 hb2 hat2)
            | fail)
          go_roundw
          case rel =>
            have e2' := e2.out
            exact ⟨j + 1, A2, c2, l2, q', by omega, rfl, by go_num, rfl, by omega, k4, by rw [e2', List.length_append]; simp; omega, by rw [e2']; exact HN.out, hown2, (hb.alloc hb.size _).trans hb2⟩
          case measure => simp [intOf]; omega
        · have HN := Lib.hid (ints_stop hlt hE HC.out)
          have hb1 : (rdE b q == 0) = false := by simp; exact hE
          have hb2 : (rdE b q != 0) = true := by simp; exact hE
          go_wp2_with fail
          refine (int_err _ _ _ _ (h.below hb) hl _ (by omega) (by omega) hE).mono ?_
          rintro e w' ⟨rfl, rfl⟩
          clear hE
          generalize rdE b q = x at *
          go_wp2_with fail
          exact bodyPost_ret (v := .tuple #[.slice none 0 0, .int .i64 0, .int .i64 x]) (by simp [results, Try.results22, go_sem]) rfl (retList (H.out.trans HN.out) (Own.nil _ _ _ _) hb)
      · have HN := Lib.hid (ints_end (by omega) HC.out)
        go_wp2
        exact bodyPost_ret (v := .tuple #[.slice A1 l1.length c1, .int .i64 q, .int .i64 0]) (by simp [results, Try.results22, go_sem]) rfl (retList (H.out.trans HN.out) hown hb)
  · have H := Lib.hid (is_err h0)
    have hL := len_any w A c b h hl a lo hi
    rw [lenN_err h0, lenT_err h0] at hL
    have hb : (lenE b a == 0) = false := by simp; exact h0
    have hb' : (lenE b a != 0) = true := by simp; exact h0
    generalize lenE b a = n at *
    clear h0
    go_enter Try.func22, Try.ntmps22
    go_wp2_with fail
    refine hL.mono ?_
    rintro e w' ⟨rfl, rfl⟩
    clear hL
    go_wp2_with fail
    exact bodyPost_ret (v := .tuple #[.slice none 0 0, .int .i64 0, .int .i64 n]) (by simp [results, Try.results22, go_sem]) rfl (retList H.out (Own.nil _ _ _ _) (Below.refl _ _))

theorem rint_ok (w : World) (A : Option Addr) (c : Nat) (b : List UInt8) (h : Rd w A (b.map U8)) (hl : b.length ≤ 1000000000) (a : Int) (lo : -9223372036854775808 ≤ a) (hi : a ≤ 9223372036854775807) (h0 : rdE b a = 0) :
    Calls Try.prog 13 #[.slice A b.length c, .int .i64 a] w fun e w' => e = .returned (.tuple #[.int .i64 (rdN b a), .int .i64 (rdT b a), .int .i64 0]) ∧ w = w' := by
  have := rint_any w A c b h (by omega) a lo hi
  unfold RetRd at this; rw [h0] at this; exact this
theorem rint_err (w : World) (A : Option Addr) (c : Nat) (b : List UInt8) (h : Rd w A (b.map U8)) (hl : b.length ≤ 1000000000) (a : Int) (lo : -9223372036854775808 ≤ a) (hi : a ≤ 9223372036854775807) (h0 : rdE b a ≠ 0) :
    Calls Try.prog 13 #[.slice A b.length c, .int .i64 a] w fun e w' => e = .returned (.tuple #[.int .i64 0, .int .i64 0, .int .i64 (rdE b a)]) ∧ w = w' := by
  have := rint_any w A c b h (by omega) a lo hi
  unfold RetRd at this; rw [rdN_err h0, rdT_err h0] at this; exact this

set_option maxHeartbeats 1000000 in
theorem rlen_any (w : World) (A : Option Addr) (c : Nat) (b : List UInt8) (h : Rd w A (b.map U8)) (hl : b.length ≤ 1000000000) (a : Int) (lo : -9223372036854775808 ≤ a) (hi : a ≤ 9223372036854775807) :
    Calls Try.prog 31 #[.slice A b.length c, .int .i64 a] w fun e w' => e = .returned (.tuple #[.int .i64 (lenN b a), .int .i64 (lenT b a), .int .i64 (lenE b a)]) ∧ w = w' := by
  by_cases h0 : rdE b a = 0
  · obtain ⟨n1, n2, n3, n4⟩ := read_bound h0
    by_cases hn : rdN b a < 0
    · have H := Lib.hid (len_neg h0 hn)
      go_enter Try.func31, Try.ntmps31
      go_wp2_with fail
      refine (rint_ok _ _ _ _ h hl _ lo hi h0).mono ?_
      rintro e w' ⟨rfl, rfl⟩
      generalize rdN b a = n at *
      generalize rdT b a = t at *
      clear h0
      go_wp2_with fail
      exact bodyPost_ret (v := .tuple #[.int .i64 0, .int .i64 0, .int .i64 3]) (by simp [results, Try.results31, go_sem]) rfl ⟨by obtain ⟨e0, e1, e2⟩ := H.out; rw [e0, e1, e2], rfl⟩
    · have H := Lib.hid (len_ok h0 (by omega))
      go_enter Try.func31, Try.ntmps31
      go_wp2_with fail
      refine (rint_ok _ _ _ _ h hl _ lo hi h0).mono ?_
      rintro e w' ⟨rfl, rfl⟩
      generalize rdN b a = n at *
      generalize rdT b a = t at *
      clear h0
      go_wp2_with fail
      exact bodyPost_ret (v := .tuple #[.int .i64 n, .int .i64 t, .int .i64 0]) (by simp [results, Try.results31, go_sem]) rfl ⟨by obtain ⟨e0, e1, e2⟩ := H.out; rw [e0, e1, e2], rfl⟩
  · have H := Lib.hid (len_err h0)
    have hb : (rdE b a == 0) = false := by simp; exact h0
    go_enter Try.func31, Try.ntmps31
    go_wp2_with fail
    refine (rint_err _ _ _ _ h hl _ lo hi h0).mono ?_
    rintro e w' ⟨rfl, rfl⟩
    generalize rdE b a = n at *
    clear h0
    go_wp2_with fail
    exact bodyPost_ret (v := .tuple #[.int .i64 0, .int .i64 0, .int .i64 n]) (by simp [results, Try.results31, go_sem]) rfl ⟨by obtain ⟨e0, e1, e2⟩ := H.out; rw [e0, e1, e2], rfl⟩

set_option maxHeartbeats 1000000 in
theorem rtextAt_any (w : World) (A : Option Addr) (c : Nat) (b : List UInt8) (hbc : b.length ≤ c) (h : Rd w A (b.map U8)) (hl : b.length ≤ 1000000000) (a : Int) (lo : -9223372036854775808 ≤ a) (hi : a ≤ 9223372036854775807) :
    Calls Try.prog 21 #[.slice A b.length c, .int .i64 a] w fun e w' => e = .returned (.tuple #[.string ⟨(txS b a).toArray⟩, .int .i64 (txT b a), .int .i64 (txE b a)]) ∧ w = w' := by
  by_cases h0 : lenE b a = 0
  · obtain ⟨n1, n2, n3, n4⟩ := len_bound h0
    have hL := rlen_any w A c b h hl a lo hi
    rw [h0] at hL
    by_cases hn : lenN b a > b.length - lenT b a
    · have H := Lib.hid (tx_short h0 hn)
      clear h0
      generalize lenN b a = n at *
      generalize lenT b a = t at *
      go_enter Try.func21, Try.ntmps21
      go_wp2_with fail
      refine hL.mono ?_
      rintro e w' ⟨rfl, rfl⟩
      clear hL
      go_wp2_with fail
      exact bodyPost_ret (v := .tuple #[.string ⟨#[]⟩, .int .i64 0, .int .i64 4]) (by simp [results, Try.results21, go_sem]) rfl ⟨by obtain ⟨e0, e1, e2⟩ := H.out; rw [e0, e1, e2], rfl⟩
    · have H := Lib.hid (tx_ok h0 hn)
      clear h0
      generalize lenN b a = n at *
      generalize lenT b a = t at *
      obtain ⟨k, rfl⟩ : ∃ k : Nat, t = k := ⟨t.toNat, by omega⟩
      obtain ⟨m, rfl⟩ : ∃ m : Nat, n = m := ⟨n.toNat, by omega⟩
      rw [Int.toNat_natCast, Int.toNat_natCast] at H
      obtain ⟨A', hsl, hA'⟩ := slice_run w A c b hbc h k m (by omega)
      have hlm : ((b.drop k).take m).length = m := by simp; omega
      have hst := str_of w A' (c - k) ((b.drop k).take m) hA'
      rw [hlm] at hst
      clear hlm hA'
      generalize (b.drop k).take m = s at *
      go_enter Try.func21, Try.ntmps21
      go_wp2_with fail
      refine hL.mono ?_
      rintro e w' ⟨rfl, rfl⟩
      clear hL
      go_wp2_with fail
      exact bodyPost_ret (v := .tuple #[.string ⟨s.toArray⟩, .int .i64 (↑k + ↑m), .int .i64 0]) (by simp [results, Try.results21, go_sem]) rfl ⟨by obtain ⟨e0, e1, e2⟩ := H.out; rw [e0, e1, e2], rfl⟩
  · have H := Lib.hid (tx_err h0)
    have hL := rlen_any w A c b h hl a lo hi
    rw [lenN_err h0, lenT_err h0] at hL
    have hb : (lenE b a == 0) = false := by simp; exact h0
    have hb' : (lenE b a != 0) = true := by simp; exact h0
    generalize lenE b a = n at *
    clear h0
    go_enter Try.func21, Try.ntmps21
    go_wp2_with fail
    refine hL.mono ?_
    rintro e w' ⟨rfl, rfl⟩
    clear hL
    go_wp2_with fail
    exact bodyPost_ret (v := .tuple #[.string ⟨#[]⟩, .int .i64 0, .int .i64 n]) (by simp [results, Try.results21, go_sem]) rfl ⟨by obtain ⟨e0, e1, e2⟩ := H.out; rw [e0, e1, e2], rfl⟩

set_option maxRecDepth 20000 in
set_option maxHeartbeats 1000000 in
theorem rints_any (w : World) (A : Option Addr) (c : Nat) (b : List UInt8) (h : Rd w A (b.map U8)) (hl : b.length ≤ 1000000000) (a : Int) (lo : -9223372036854775808 ≤ a) (hi : a ≤ 9223372036854775807) :
    Calls Try.prog 23 #[.slice A b.length c, .int .i64 a] w (RetList (isL b a) (isT b a) (isE b a) w) := by
  obtain ⟨i0, hi0, hz0, hz1, hz2⟩ := info_parts info_int
  by_cases h0 : lenE b a = 0
  · obtain ⟨n1, n2, n3, n4⟩ := len_bound h0
    have hL := rlen_any w A c b h hl a lo hi
    rw [h0] at hL
    have H := Lib.hid (is_ok h0)
    clear h0
    generalize lenN b a = n at *
    generalize lenT b a = t at *
    obtain ⟨m, rfl⟩ : ∃ m : Nat, n = m := ⟨n.toNat, by omega⟩
    rw [Int.toNat_natCast] at H
    go_enter Try.func23, Try.ntmps23
    go_wp2_with fail
    refine hL.mono ?_
    rintro e w' ⟨rfl, rfl⟩
    clear hL
    go_wp2_with fail
    go_loopw [8, 10, 11] (ListRel w b m t) (fun _ _ i _ => m - (intOf i).toNat)
    case atStart => exact ListRel.start w b m t (by omega) n4
    case round =>
      obtain ⟨j, A1, c1, l1, q, hj, rfl, rfl, rfl, hq1, hq2, hll, hcm, hown, hb⟩ := hrel
      have HC := Lib.hid hcm
      clear hcm
      by_cases hlt : j < m
      · by_cases hE : rdE b q = 0
        · obtain ⟨k1, k2, k3, k4⟩ := read_bound hE
          have HN := Lib.hid (ints_next hlt hE HC.out)
          go_wp2_with fail
          refine (rint_ok _ _ _ _ (h.below hb) hl _ (by omega) (by omega) hE).mono ?_
          rintro e w' ⟨rfl, rfl⟩
          clear hE
          generalize rdN b q = x at *
          generalize rdT b q = q' at *
          go_wp2_with (first
            | (at_builtin
               refine wpList_append_map _ I64 I64_one rfl (.tmp 40) (.tmp 42) _ rfl w.heap.size 3 i0 _ 8 Try.underlying29 hi0 hz0 hz1 hz2 rfl A1 c1 l1 rfl (hown.alloc _) (some ⟨wr.heap.size, 0, none⟩) 1 [x] rfl (Rd.new _ _ _ _) (by simp only [maxLen, List.length_cons, List.length_nil]; omega) (by simp only [List.length_cons, List.length_nil]; omega) (by simp; have := hb.size; omega) ?_
               intro A2 c2 l2 w2 e2 hown2 hr2 hg2 hb2 hat2)
            | fail)
          go_roundw
          case rel =>
            have e2' := e2.out
            exact ⟨j + 1, A2, c2, l2, q', by omega, rfl, by go_num, rfl, by omega, k4, by rw [e2', List.length_append]; simp; omega, by rw [e2']; exact HN.out, hown2, (hb.alloc hb.size _).trans hb2⟩
          case measure => simp [intOf]; omega
        · have HN := Lib.hid (ints_stop hlt hE HC.out)
          have hb1 : (rdE b q == 0) = false := by simp; exact hE
          have hb2 : (rdE b q != 0) = true := by simp; exact hE
          go_wp2_with fail
          refine (rint_err _ _ _ _ (h.below hb) hl _ (by omega) (by omega) hE).mono ?_
          rintro e w' ⟨rfl, rfl⟩
          clear hE
          generalize rdE b q = x at *
          go_wp2_with fail
          exact bodyPost_ret (v := .tuple #[.slice none 0 0, .int .i64 0, .int .i64 x]) (by simp [results, Try.results23, go_sem]) rfl (retList (H.out.trans HN.out) (Own.nil _ _ _ _) hb)
      · have HN := Lib.hid (ints_end (by omega) HC.out)
        go_wp2
        exact bodyPost_ret (v := .tuple #[.slice A1 l1.length c1, .int .i64 q, .int .i64 0]) (by simp [results, Try.results23, go_sem]) rfl (retList (H.out.trans HN.out) hown hb)
  · have H := Lib.hid (is_err h0)
    have hL := rlen_any w A c b h hl a lo hi
    rw [lenN_err h0, lenT_err h0] at hL
    have hb : (lenE b a == 0) = false := by simp; exact h0
    have hb' : (lenE b a != 0) = true := by simp; exact h0
    generalize lenE b a = n at *
    clear h0
    go_enter Try.func23, Try.ntmps23
    go_wp2_with fail
    refine hL.mono ?_
    rintro e w' ⟨rfl, rfl⟩
    clear hL
    go_wp2_with fail
    exact bodyPost_ret (v := .tuple #[.slice none 0 0, .int .i64 0, .int .i64 n]) (by simp [results, Try.results23, go_sem]) rfl (retList H.out (Own.nil _ _ _ _) (Below.refl _ _))
end Go.Proofs.Ytklimplhlhcajaa
