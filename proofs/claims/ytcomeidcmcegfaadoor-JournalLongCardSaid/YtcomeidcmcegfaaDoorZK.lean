/-
  The walk of the reference's PutInt. Conditions: lengths below the model's bound.
  The walks of the reference's PutText and PutInts. Conditions: lengths below the model's bound.
  The walks of puts and Bytes of the reference's layer 49. Conditions: the operation reads as its type says.
  The walks of Seal of layer 6 and of the reference. Conditions: the content reads as a list.
-/
import Derived.Test.YtcomeidcmcegfaaDoorZD
import Derived.Test.YtcomeidcmcegfaaDoorZF
import Derived.Test.YtcomeidcmcegfaaDoorZJ
import Derived.Deep.DeepCutAuto
import Derived.Test.YtcomeidcmcegfaaDoorFrameCrc
namespace Go.Proofs.YtcomeidcmcegfaaDoor
open Go.RowKit
set_option linter.unusedVariables false

theorem zig_val (n : Int) : (n < 0 → ((zig n : Nat) : Int) = -2 * n - 1) ∧ (0 ≤ n → ((zig n : Nat) : Int) = 2 * n) := by
  unfold zig; constructor
  · intro h; rw [if_neg (by omega)]; omega
  · intro h; rw [if_pos h]; omega
theorem r8_high (x : Nat) (h : x < 18446744073709551616) : ((x : Int) % 128 + 128) % 256 = (((UInt8.ofNat (x % 128 + 128)).toNat : Nat) : Int) := by
  rw [byte_nat _ (by omega)]; omega

def RPutRel (w : World) (l : List UInt8) (n : Int) (x v : Value) (wr : World) : Prop :=
  ∃ (f y : Nat) (A1 : Option Addr) (c1 : Nat) (l1 : List UInt8), v = .slice A1 l1.length c1 ∧ x = .int .u64 y ∧ y < 2 ^ (7 * f + 1) ∧ l1 ++ vb f y = l ++ enc n ∧
    Own wr w.heap.size 5 1 (.slice A1 l1.length c1) l1.length (l1.map U8) ∧ Below w.heap.size w wr ∧ y < 18446744073709551616

set_option maxRecDepth 20000 in
set_option maxHeartbeats 2000000 in
theorem rputInt_any (w : World) (A : Option Addr) (c : Nat) (l : List UInt8) (h : Rd w A (l.map U8)) (hl : l.length ≤ 140737488355000) (n : Int) (lo : -9223372036854775808 ≤ n) (hi : n ≤ 9223372036854775807) :
    Calls Tryd.prog 61 #[.slice A l.length c, .int .i64 n] w (RetNew U8 5 (l ++ enc n) w) := by
  obtain ⟨i0, hi0, hz0, hz1, hz2⟩ := info_parts info_u8
  have hzl := zig_lt lo hi
  have hen := enc_length n
  have Hst : Hid (zig n < 2 ^ (7 * 9 + 1) ∧ l ++ vb 9 (zig n) = l ++ enc n) := ⟨by simpa using hzl, rfl⟩
  have q0 := Lib.hid (zig_val n)
  by_cases hn : n < 0
  all_goals
    generalize zig n = z at *
    go_enter Tryd.func61, Tryd.ntmps61
    go_wp2_with (first
      | (at_builtin
         refine wpList_append_map _ U8 U8_one rfl (.tmp 18) (.tmp 19) _ rfl w.heap.size 5 i0 _ 1 Tryd.underlying25 hi0 hz0 hz1 hz2 rfl (some ⟨w.heap.size, 0, none⟩) 0 [] rfl (.inr ⟨rfl, rfl, _, rfl, Nat.le_refl _, by simp⟩) A c l rfl (h.alloc _) (by simp only [maxLen, List.length_nil]; omega) (by simp only [List.length_nil]; omega) (by simp) ?_
         intro A1 c1 l1 w1 e1 hown1 hr1 hg1 hb1 hat1
         obtain rfl : l = l1 := e1.out.symm
         have hb1' := ((Below.refl w.heap.size w).alloc (Nat.le_refl _) (.cells #[] 5)).trans hb1
         clear hg1 hat1 e1 hb1)
      | fail)
    go_loopw [5, 6] (RPutRel w l n) (fun x _ _ => (intOf x).toNat)
    case atStart => exact ⟨9, z, A1, c1, l, rfl, int_eq (by have := q0.out.1; have := q0.out.2; omega), Hst.out.1, Hst.out.2, hown1, hb1', hzl⟩
    case round =>
      clear Hst hown1 hb1' hr1 h q0
      obtain ⟨f, y, A1, c1, l1, rfl, rfl, hy, hll, hown, hgr, hyl⟩ := hrel
      have hlen : l1.length + (vb f y).length = l.length + (enc n).length := by
        have := congrArg List.length hll; simpa using this
      have hvl := List.length_pos_iff.2 (vb_ne f y)
      have hl1 : l1.length + 1 ≤ l.length + 10 := by omega
      have Hll := Lib.hid hll
      have Hy := Lib.hid hy
      have hbw : w.heap.size ≤ wr.heap.size := hgr.size
      clear hll hy hlen hvl
      by_cases hlt : y < 128
      · have Hv : Hid (vb f y = [UInt8.ofNat y]) := by
          rcases f with _ | f
          · rfl
          · exact if_pos hlt
        have hrd : ∀ wx : World, Rd (wx.alloc (.cells #[.int .u8 (y : Int)] 5)) (some ⟨wx.heap.size, 0, none⟩) ([UInt8.ofNat y].map U8) := fun wx => by
          have e : U8 (UInt8.ofNat y) = .int .u8 (y : Int) := by unfold U8; rw [byte_nat _ (by omega)]
          have := Rd.new wx [U8 (UInt8.ofNat y)] 5 (0, 0)
          rw [e] at this
          rw [List.map_cons, List.map_nil, e]
          exact this
        generalize UInt8.ofNat y = hc at *
        go_wp2_with (first
          | (at_builtin
             refine wpList_append_map _ U8 U8_one rfl (.tmp 32) (.tmp 35) _ rfl w.heap.size 5 i0 _ 1 Tryd.underlying25 hi0 hz0 hz1 hz2 rfl A1 c1 l1 rfl (hown.alloc _) (some ⟨wr.heap.size, 0, none⟩) 1 [hc] rfl (hrd _) (by simp only [maxLen, List.length_cons, List.length_nil]; omega) (by simp only [List.length_cons, List.length_nil]; omega) (by simp; omega) ?_
             intro A2 c2 l2 w2 e2 hown2 hr2 hg2 hb2 hat2)
          | fail)
        have hl2 : l2 = l ++ enc n := by rw [e2.out, ← Hll.out, Hv.out]
        subst hl2
        go_ret
        exact ⟨A2, c2, rfl, hown2, (hgr.alloc hgr.size _).trans hb2⟩
      · obtain ⟨f, rfl⟩ : ∃ f', f = f' + 1 := by
          rcases f with _ | f
          · have := Hy.out; simp at this; omega
          · exact ⟨f, rfl⟩
        have Hv : Hid (vb (f + 1) y = UInt8.ofNat (y % 128 + 128) :: vb f (y / 128)) := if_neg hlt
        have q1 := r8_high y hyl
        have hrd : ∀ wx : World, Rd (wx.alloc (.cells #[.int .u8 ((y : Int) % 128 + 128)] 5)) (some ⟨wx.heap.size, 0, none⟩) ([UInt8.ofNat (y % 128 + 128)].map U8) := fun wx => by
          have e : U8 (UInt8.ofNat (y % 128 + 128)) = .int .u8 ((y : Int) % 128 + 128) := by unfold U8; rw [byte_nat _ (by omega)]; exact int_eq (by omega)
          have := Rd.new wx [U8 (UInt8.ofNat (y % 128 + 128))] 5 (0, 0)
          rw [e] at this
          rw [List.map_cons, List.map_nil, e]
          exact this
        generalize UInt8.ofNat (y % 128 + 128) = hc at *
        clear q1
        go_wp2_with (first
          | (at_builtin
             refine wpList_append_map _ U8 U8_one rfl (.tmp 23) (.tmp 28) _ rfl w.heap.size 5 i0 _ 1 Tryd.underlying25 hi0 hz0 hz1 hz2 rfl A1 c1 l1 rfl (hown.alloc _) (some ⟨wr.heap.size, 0, none⟩) 1 [hc] rfl (hrd _) (by simp only [maxLen, List.length_cons, List.length_nil]; omega) (by simp only [List.length_cons, List.length_nil]; omega) (by simp; omega) ?_
             intro A2 c2 l2 w2 e2 hown2 hr2 hg2 hb2 hat2)
          | fail)
        go_roundw
        case rel =>
          refine ⟨f, y / 128, A2, c2, l2, rfl, int_eq (by omega), ?_, ?_, hown2, (hgr.alloc hgr.size _).trans hb2, by omega⟩
          · have := Hy.out
            rw [show 7 * (f + 1) + 1 = (7 * f + 1) + 7 by omega, Nat.pow_add] at this
            omega
          · rw [e2.out, List.append_assoc, List.singleton_append, ← Hv.out]; exact Hll.out
        case measure => simp [intOf]; omega
end Go.Proofs.YtcomeidcmcegfaaDoor

namespace Go.Proofs.YtcomeidcmcegfaaDoor
open Go.RowKit
set_option linter.unusedVariables false

set_option maxHeartbeats 1000000 in
theorem rputText_any (w : World) (A : Option Addr) (c : Nat) (l : List UInt8) (h : Rd w A (l.map U8)) (hl : l.length ≤ 100000000) (s : List UInt8) (hs : s.length ≤ 100000000) :
    Calls Tryd.prog 60 #[.slice A l.length c, .string ⟨s.toArray⟩] w (RetNew U8 5 (l ++ encT s) w) := by
  obtain ⟨i0, hi0, hz0, hz1, hz2⟩ := info_parts info_u8
  have hen := enc_length (s.length : Int)
  go_enter Tryd.func60, Tryd.ntmps60
  go_wp2_with fail
  refine (rputInt_any _ _ _ _ h (by omega) _ (by omega) (by omega)).mono ?_
  rintro e w1 ⟨A1, c1, rfl, hown1, hb1⟩
  have hL : (l ++ enc s.length).length ≤ 100000010 := by simp; omega
  have HE : Hid (l ++ encT s = (l ++ enc s.length) ++ s) := by unfold encT; exact (List.append_assoc _ _ _).symm
  generalize l ++ enc s.length = L at *
  generalize l ++ encT s = LT at *
  obtain ⟨c2, w2, hcv, hr2, hb2, hg2⟩ := conv_str w1 s
  go_wp2_with (first
    | (at_builtin
       refine wpList_append_map _ U8 U8_one rfl (.tmp 10) (.tmp 12) _ rfl w.heap.size 5 i0 _ 1 Tryd.underlying25 hi0 hz0 hz1 hz2 rfl A1 c1 L rfl (hown1.below (B := 0) hb2) (some ⟨w1.heap.size, 0, none⟩) c2 s rfl hr2 (by simp only [maxLen]; omega) (by omega) (Nat.le_trans hb1.size hb2.size) ?_
       intro A3 c3 l3 w3 e3 hown3 hr3 hg3 hb3 hat3
       obtain rfl : LT = l3 := by rw [HE.out]; exact e3.out.symm)
    | fail)
  go_ret
  exact ⟨A3, c3, rfl, hown3, (hb1.trans (hb2.mono hb1.size)).trans hb3⟩

def RPutsRel (w : World) (l0 : List UInt8) (l : List Int) (v i : Value) (wr : World) : Prop :=
  ∃ (j : Nat) (A1 : Option Addr) (c1 : Nat) (l1 : List UInt8), j ≤ l.length ∧ i = .int .i64 j ∧ v = .slice A1 l1.length c1 ∧ l1 = l0 ++ (l.take j).flatMap enc ∧
    Own wr w.heap.size 5 1 (.slice A1 l1.length c1) l1.length (l1.map U8) ∧ Below w.heap.size w wr
end Go.Proofs.YtcomeidcmcegfaaDoor

namespace Go.Proofs.YtcomeidcmcegfaaDoor
open Go.RowKit
set_option linter.unusedVariables false

theorem rputInt_ex (w : World) (A : Option Addr) (c : Nat) (l : List UInt8) (h : Rd w A (l.map U8)) (hl : l.length ≤ 100000) (n : Int) (hn : I64b n) :
    Calls Tryd.prog 61 #[.slice A l.length c, .int .i64 n] w (RetEx (l ++ enc n) (l.length + 10) w) :=
  (rputInt_any w A c l h (by omega) n hn.1 hn.2).mono fun _ _ h => RetEx.of h (by rw [List.length_append]; have := (enc_length n).2; omega)
theorem rputText_ex (w : World) (A : Option Addr) (c : Nat) (l : List UInt8) (h : Rd w A (l.map U8)) (hl : l.length ≤ 100000) (s : List UInt8) (hs : s.length ≤ 200) :
    Calls Tryd.prog 60 #[.slice A l.length c, .string ⟨s.toArray⟩] w (RetEx (l ++ encT s) (l.length + 210) w) :=
  (rputText_any w A c l h (by omega) s (by omega)).mono fun _ _ h => RetEx.of h (by unfold encT; rw [List.length_append, List.length_append]; have := (enc_length (s.length : Int)).2; omega)
def PutsRel (W : World) (l : List UInt8) (m : List Int) (vb vi : Value) (wr : World) : Prop :=
  ∃ (k : Nat) (L : List UInt8) (A : Option Addr) (c : Nat), k ≤ m.length ∧ vi = .int .i64 k ∧ vb = .slice A L.length c ∧ Hid (L = l ++ (m.take k).flatMap enc) ∧ L.length ≤ l.length + 10 * k ∧ Rd wr A (L.map U8) ∧
    (0 < k → Own wr W.heap.size 5 1 (.slice A L.length c) L.length (L.map U8)) ∧ Up W wr

set_option maxRecDepth 100000 in
set_option maxHeartbeats 4000000 in
theorem puts_ex (w : World) (A : Option Addr) (c : Nat) (l : List UInt8) (h : Rd w A (l.map U8)) (hl : l.length ≤ 50000) (B : Option Addr) (d : Nat) (m : List Int) (hB : Rd w B (m.map I64)) (hm : m.length ≤ 1000) (h1 : 0 < m.length) (hb : ∀ n ∈ m, I64b n) :
    Calls Tryd.prog 59 #[.slice A l.length c, .slice B m.length d] w (RetEx (l ++ m.flatMap enc) (l.length + 10 * m.length) w) := by
  go_enter Tryd.func59, Tryd.ntmps59
  go_wp2_with fail
  go_loopw [0, 8] (PutsRel w l m) (fun _ i _ => m.length - (intOf i).toNat)
  case atStart => exact ⟨0, l, A, c, by omega, rfl, rfl, by rw [Hid]; simp, by omega, h, fun h => by omega, Up.refl _⟩
  case round =>
    obtain ⟨k, L, AL, cL, hk, rfl, rfl, hL, hLl, hRL, hown, hu⟩ := hrel
    by_cases hlt : k < m.length
    · have t1 : decide ((k : Int) < (m.length : Int)) = true := decide_eq_true (by omega)
      have t2 : (k : Int) < (m.length : Int) := by omega
      have t3 : 0 ≤ (k : Int) := by omega
      obtain ⟨b, off, rfl, _, hck⟩ := (hu.rd hB).at64 hlt
      have HN := Lib.hid (flat_enc_next m k hlt)
      have hx := Lib.hid (hb _ (List.getElem_mem hlt))
      generalize m[k] = x at *
      go_wp2_with fail
      refine (rputInt_ex _ _ _ _ hRL (by omega) _ hx.out).mono ?_
      rintro e w5 ⟨L2, A2, c2, hL2, hl2, rfl, hown2, hr2, hb5⟩
      go_wp2_with fail
      go_roundw
      case rel => exact ⟨k + 1, L2, A2, c2, hlt, by go_num, rfl, by rw [Hid, hL2.out, HN.out, hL.out]; simp only [List.append_assoc], by omega, hr2, fun _ => hown2.lower hu.b.size, hu.trans (Up.of hb5)⟩
      case measure => simp [intOf]; omega
    · obtain rfl : k = m.length := by omega
      have t1 : decide ((m.length : Int) < (m.length : Int)) = false := by simp
      have hown := hown h1
      have hL : Hid (L = l ++ m.flatMap enc) := by rw [Hid, hL.out, List.take_length]
      go_wp2_with fail
      go_ret
      exact ⟨L, AL, cL, hL, hLl, rfl, hown, hRL, hu.b⟩

def ByRel (W : World) (base : Nat) (P : List UInt8) (n : Nat) (vb : Value) (wr : World) : Prop :=
  ∃ (L : List UInt8) (A : Option Addr) (c : Nat), vb = .slice A L.length c ∧ Hid (L = P) ∧ L.length ≤ n ∧ Own wr base 5 1 (.slice A L.length c) L.length (L.map U8) ∧ Up W wr ∧ ∃ wy, wy = wr
theorem szUp {W w' w5 : World} (u : Up W w') (hb : Below w'.heap.size w' w5) : W.heap.size ≤ w5.heap.size := Nat.le_trans u.b.size hb.size
theorem one_bd {n : Int} (h : I64b n) : ∀ x ∈ [n], I64b x := by intro x hx; rw [List.mem_singleton.1 hx]; exact h
theorem two_bd {n m : Int} (h : I64b n) (k : I64b m) : ∀ x ∈ [n, m], I64b x := by
  intro x hx
  rcases List.mem_cons.1 hx with rfl | hx
  · exact h
  · rw [List.mem_singleton.1 hx]; exact k
theorem flat1 (n : Int) : [n].flatMap enc = enc n := by simp
theorem flat2 (n m : Int) : [n, m].flatMap enc = enc n ++ enc m := by simp
theorem puts1 (w : World) (A : Option Addr) (c : Nat) (l : List UInt8) (h : Rd w A (l.map U8)) (hl : l.length ≤ 50000) (B : Option Addr) (x : Int) (hB : Rd w B [I64 x]) (hx : I64b x) :
    Calls Tryd.prog 59 #[.slice A l.length c, .slice B 1 1] w (RetEx (l ++ enc x) (l.length + 10) w) := by
  have := puts_ex w A c l h hl B 1 [x] hB (by simp) (by simp) (one_bd hx)
  rwa [flat1] at this
theorem puts2 (w : World) (A : Option Addr) (c : Nat) (l : List UInt8) (h : Rd w A (l.map U8)) (hl : l.length ≤ 50000) (B : Option Addr) (x y : Int) (hB : Rd w B [I64 x, I64 y]) (hx : I64b x) (hy : I64b y) :
    Calls Tryd.prog 59 #[.slice A l.length c, .slice B 2 2] w (RetEx (l ++ (enc x ++ enc y)) (l.length + 20) w) := by
  have := puts_ex w A c l h hl B 2 [x, y] hB (by simp) (by simp) (two_bd hx hy)
  rwa [flat2] at this

set_option maxRecDepth 100000 in
set_option maxHeartbeats 8000000 in
theorem rbytes_no (w : World) (o : OP) (A : Option Addr) (c : Nat) (ho : o.Bd) (hr : Rd w A (ovL o.ov)) (hc : o.ov.length ≤ c) (h0 : checkE o ≠ 0) : Calls Tryd.prog 34 #[opV o A c] w (RetBy [] (checkE o) w) := by
  have kC := fun w' (hb : Below w.heap.size w w') => rcheck_any w' o A c ho (hr.below hb) hc
  unfold opV opC at kC ⊢
  have q0 : (checkE o != 0) = true := by simpa using h0
  clear h0
  generalize checkE o = E at *
  go_enter Tryd.func34, Tryd.ntmps34
  go_wp2_with fail
  refine (kC _ ((Below.refl _ _).alloc (Nat.le_refl _) _)).mono ?_
  rintro e w2 ⟨rfl, hb2⟩
  have hb3 := stepB ((Below.refl w.heap.size w).alloc (Nat.le_refl _) _) hb2
  go_wp2_with fail
  exact bodyPost_ret (v := .tuple #[.slice none 0 0, .int .i64 E]) (by simp [results, Tryd.results34, go_sem]) rfl ⟨_, _, rfl, Own.nil _ _ _ _, hb3⟩

set_option maxRecDepth 100000 in
set_option maxHeartbeats 16000000 in
theorem rbytes_ok (w : World) (o : OP) (A : Option Addr) (c : Nat) (ho : o.Bd) (hr : Rd w A (ovL o.ov)) (hc : o.ov.length ≤ c) (h0 : checkE o = 0) : Calls Tryd.prog 34 #[opV o A c] w (RetBy (opB o) 0 w) := by
  have kC := fun w' (hb : Below w.heap.size w w') => rcheck_any w' o A c ho (hr.below hb) hc
  obtain ⟨s1, s2, s3⟩ := check_size h0
  unfold opV opC at kC ⊢
  rw [h0] at kC
  clear h0
  go_enter Tryd.func34, Tryd.ntmps34
  go_wp2_with fail
  refine (kC _ ((Below.refl _ _).alloc (Nat.le_refl _) _)).mono ?_
  rintro e w2 ⟨rfl, hb2⟩
  have hb3 := stepB ((Below.refl w.heap.size w).alloc (Nat.le_refl _) _) hb2
  have hoa : OpAt w2 w.heap.size o A c := (OpAt.new w o A c 38).up (Up.of hb2)
  have hz : w.heap.size < w2.heap.size := by have := hb2.size; simp at this; omega
  clear hb2 kC
  have m := hoa
  obtain ⟨⟨m0, m1, m2, m3⟩, ⟨m4, m5, m6, m7, m8, m9, m10⟩, ⟨m11, m12, m13, m14⟩⟩ := m
  go_wp2_with fail
  obtain ⟨W3, hW3⟩ : ∃ x, (w2.alloc (.cells (noteC o).toArray 35)).alloc (.cells ((ints10 o).map I64).toArray 3) = x := ⟨_, rfl⟩
  have hu3 : Up w2 W3 := by rw [← hW3]; exact (Up.alloc' _ _).trans (Up.alloc' _ _)
  have hN : NoteAt W3 w2.heap.size o := by rw [← hW3]; exact (NoteAt.new _ _ _ _ rfl).up (Up.alloc' _ _)
  have hI : Rd W3 (some ⟨w2.heap.size + 1, 0, none⟩) ((ints10 o).map I64) := by rw [← hW3]; exact Rd.newAt _ _ _ _ _ (by simp)
  have hz3 : w2.heap.size + 1 < W3.heap.size := by rw [← hW3]; simp
  have hoW : OpAt W3 w.heap.size o A c := hoa.up hu3
  have kP : Calls Tryd.prog 59 #[.slice none 0 0, .slice (some ⟨w2.heap.size + 1, 0, none⟩) 10 10] W3 (RetEx ((ints10 o).flatMap enc) 100 W3) := puts_ex W3 none 0 [] (Rd.nil _ _) (by simp) _ 10 (ints10 o) hI (by simp [ints10]) (by simp [ints10]) (ints10_get o ho)
  unfold noteC ints10 at hW3
  simp only [List.map_cons, List.map_nil, I64] at hW3
  simp only [hW3]
  clear hW3 m0 m1 m2 m3 m4 m5 m6 m7 m8 m9 m10 m11 m12 m13 m14 hI
  generalize hI10 : (ints10 o).flatMap enc = I10 at kP
  have HI10 := Lib.hid hI10
  clear hI10
  refine kP.mono ?_
  rintro e w4 ⟨L4, A4, c4, hL4, hl4, rfl, hown4, hr4, hb4⟩
  have hu4 := Up.of hb4
  have hN4 := hN.up hu4
  have ho4 := hoW.up hu4
  clear hown4 hb4 kP
  obtain ⟨-, -, -, -, -, -, m6⟩ := hN4
  have r10 := fun w' (u : Up w4 w') => u.cell m6
  have r11 := fun w' (u : Up w4 w') => (ho4.up u).2.2.1
  have r12 := fun w' (u : Up w4 w') => (ho4.up u).2.2.2.1
  have b11 := Lib.hid ho.se
  have b12 := Lib.hid ho.nn
  have b14 := Lib.hid (i64b_nat (n := o.ov.length) (by omega))
  have hz4 : w.heap.size ≤ w4.heap.size := Nat.le_trans (by omega) hu4.b.size
  clear m6 hN hoW hoa
  go_upto_region 6 with fail
  go_cut [6] (ByRel w4 w.heap.size (I10 ++ (encT o.nt ++ (enc o.se ++ enc o.nn))) 400)
  case first =>
    go_region_held3 (fun w' => Up w4 w') (first | assumption | exact Up.drew _ | exact Up.refl _ | exact Up.trans (by assumption) (Up.alloc' _ _) | exact Up.trans (by assumption) (Up.of (by assumption))) (first | (go_at_call 60; refine (rputText_ex _ _ _ _ (Up.rd (by assumption) hr4) (by omega) _ s1).mono ?_; rintro e w5 ⟨L5, A5, c5, hL5, hl5, rfl, hown5, hr5, hb5⟩; have hs5 := szUp (W := w4) (by assumption) hb5) | (go_at_call 59; refine (puts2 _ _ _ _ (by first | assumption | exact Rd.alloc (by assumption) _) (by omega) _ _ _ (by first | exact Rd.newAt _ [I64 _, I64 _] _ _ _ (by simp) | exact Rd.newAtD _ [I64 _, I64 _] _ _ _ (by simp) | exact Rd.below (Rd.newAt _ [I64 _, I64 _] _ _ _ (by simp)) hb5 | exact Rd.below (Rd.newAtD _ [I64 _, I64 _] _ _ _ (by simp)) hb5) b11.out b12.out).mono ?_; rintro e w7 ⟨L7, A7, c7, hL7, hl7, rfl, hown7, hr7, hb7⟩))
    all_goals
      clear r10 r11 r12
      go_wp2_with fail
      go_meet
      exact ⟨L7, A7, c7, rfl, by rw [Hid, hL7.out, hL5.out, hL4.out]; simp only [List.append_assoc], by omega, hown7.lower (by first | omega | (simp; omega)), by assumption, _, rfl⟩
  case rest =>
    clear r10 r11 r12 hr4
    obtain ⟨L7, A7, c7, rfl, hL7, hl7, hown7, hu7, wx, hwx⟩ := hcut
    subst hwx
    have ho7 := ho4.up hu7
    have hr7 := hown7.rd'
    have hz7 : w.heap.size ≤ wx.heap.size := Nat.le_trans hz4 hu7.b.size
    have r13 := fun w' (u : Up wx w') => (ho7.up u).2.2.2.2.1
    have r14 := fun w' (u : Up wx w') => (ho7.up u).2.2.2.2.2
    go_upto_region 7 with fail
    go_cut [6] (ByRel wx w.heap.size (L7 ++ (encT o.tx ++ enc o.ov.length)) 700)
    case first =>
      go_region_held3 (fun w' => Up wx w') (first | assumption | exact Up.drew _ | exact Up.refl _ | exact Up.trans (by assumption) (Up.alloc' _ _) | exact Up.trans (by assumption) (Up.of (by assumption))) (first | (go_at_call 60; refine (rputText_ex _ _ _ _ (Up.rd (by assumption) hr7) (by omega) _ s2).mono ?_; rintro e w5 ⟨L5, A5, c5, hL5, hl5, rfl, hown5, hr5, hb5⟩; have hs5 := szUp (W := wx) (by assumption) hb5) | (go_at_call 59; refine (puts1 _ _ _ _ (by first | assumption | exact Rd.alloc (by assumption) _) (by omega) _ _ (by first | exact Rd.newAt _ [I64 _] _ _ _ (by simp) | exact Rd.newAtD _ [I64 _] _ _ _ (by simp) | exact Rd.below (Rd.newAt _ [I64 _] _ _ _ (by simp)) hb5 | exact Rd.below (Rd.newAtD _ [I64 _] _ _ _ (by simp)) hb5) b14.out).mono ?_; rintro e w8 ⟨L8, A8, c8, hL8, hl8, rfl, hown8, hr8, hb8⟩))
      all_goals
        clear r13 r14
        go_wp2_with fail
        go_meet
        exact ⟨L8, A8, c8, rfl, by rw [Hid, hL8.out, hL5.out]; simp only [List.append_assoc], by omega, hown8.lower (by first | omega | (simp; omega)), by assumption, _, rfl⟩
    case rest =>
      clear r13 r14 hr7 hown7
      obtain ⟨L9, A9, c9, rfl, hL9, hl9, hown9, hu9, w9, hw9⟩ := hcut
      subst hw9
      have hL9' : Hid (L9 = (ints10 o).flatMap enc ++ (encT o.nt ++ (enc o.se ++ (enc o.nn ++ (encT o.tx ++ enc o.ov.length))))) := by
        rw [Hid, hL9.out, hL7.out, HI10.out]; simp only [List.append_assoc]
      have hoB := ho7.up hu9
      have hUB := hu3.trans (hu4.trans (hu7.trans hu9))
      have hrB := (hr.below hb3).below hUB.b
      have hbB := stepB hb3 hUB.b
      clear ho7 ho4 hu7 hu9 hL9 hL7 HI10 hL4
      have m := hoB
      obtain ⟨-, -, ⟨-, -, -, m14⟩⟩ := m
      go_wp2_with fail
      go_loopw [6, 63] (BytesRel2 w9 w.heap.size L9 o.ov) (fun _ i _ => o.ov.length - (intOf i).toNat)
      case atStart => exact ⟨0, L9, A9, c9, by omega, rfl, rfl, by rw [Hid]; simp [ovEnc], by omega, hown9, Up.refl _⟩
      case round =>
        clear hown9
        obtain ⟨k, L, AL, cL, hk, rfl, rfl, hL, hLl, hown, hu⟩ := hrel
        by_cases hlt : k < o.ov.length
        · have t1 : decide ((k : Int) < (o.ov.length : Int)) = true := decide_eq_true (by omega)
          have t2 : (k : Int) < (o.ov.length : Int) := by omega
          have t3 : 0 ≤ (k : Int) := by omega
          obtain ⟨b, off, e1, hc0, hc1⟩ := ov_cells (hu.rd hrB) hlt
          cases e1
          have HN := Lib.hid (ovEnc_next o.ov k hlt)
          have hx := Lib.hid (ho.ov _ (List.getElem_mem hlt))
          generalize o.ov[k] = q at *
          obtain ⟨x, y⟩ := q
          dsimp only at hc0 hc1
          have hor := hoB.up hu
          have l0 := fun w' (u : Up wr w') => u.cell hc0
          have l1 := fun w' (u : Up wr w') => u.cell hc1
          have l2 := fun w' (u : Up wr w') => (hor.up u).2.2.2.2.2
          have hR4 := hown.rd'
          have hx1 : Hid (I64b x) := hx.out.1
          have hx2 : Hid (I64b y) := hx.out.2
          have hzr : w.heap.size ≤ wr.heap.size := Nat.le_trans hbB.size hu.b.size
          clear hc0 hc1 m14
          go_wp2_with fail
          go_region_held3 (fun w' => Up wr w') (first | assumption | exact Up.drew _ | exact Up.refl _ | exact Up.trans (by assumption) (Up.alloc' _ _) | exact Up.trans (by assumption) (Up.of (by assumption))) (first | (go_at_call 59; refine (puts2 _ _ _ _ (Up.rd (by assumption) hR4) (by omega) _ _ _ (by first | exact Rd.newAt _ [I64 _, I64 _] _ _ _ (by simp) | exact Rd.newAtD _ [I64 _, I64 _] _ _ _ (by simp)) hx1.out hx2.out).mono ?_; rintro e w7 ⟨L7, A7, c7, hL7, hl7, rfl, hown7, hr7, hb7⟩))
          have hu7 : Up wr w7 := by assumption
          clear l0 l1 l2
          go_wp2_with fail
          go_roundw
          case rel => exact ⟨k + 1, L7, A7, c7, hlt, by go_num, rfl, by rw [Hid, hL7.out, hL.out, HN.out]; simp only [List.append_assoc], by omega, hown7.lower (by first | omega | (simp; omega)), hu.trans hu7⟩
          case measure => simp [intOf]; omega
        · obtain rfl : k = o.ov.length := by omega
          have t1 : decide ((o.ov.length : Int) < (o.ov.length : Int)) = false := by simp
          have hF : L = opB o := by
            rw [hL.out, hL9'.out, List.take_length]; unfold opB; simp only [List.append_assoc]
          subst hF
          generalize hG : opB o = G at *
          go_wp2_with fail
          exact bodyPost_ret (v := .tuple #[.slice AL G.length cL, .int .i64 0]) (by simp [results, Tryd.results34, go_sem]) rfl ⟨_, _, rfl, hown, stepB hbB hu.b⟩
theorem rbytes_any (w : World) (o : OP) (A : Option Addr) (c : Nat) (ho : o.Bd) (hr : Rd w A (ovL o.ov)) (hc : o.ov.length ≤ c) : Calls Tryd.prog 34 #[opV o A c] w (RetBy (bytesR o) (checkE o) w) := by
  unfold bytesR
  by_cases h : checkE o = 0
  · rw [if_pos h, h]; exact rbytes_ok w o A c ho hr hc h
  · rw [if_neg h]; exact rbytes_no w o A c ho hr hc h
end Go.Proofs.YtcomeidcmcegfaaDoor

namespace Go.Proofs.YtcomeidcmcegfaaDoor
open Go.RowKit
set_option linter.unusedVariables false

/-- the call returns new bytes and an error -/
def RetSeal (L : List UInt8) (x : Int) (w : World) (en : Ending) (w' : World) : Prop :=
  ∃ A c, en = .returned (.tuple #[.slice A L.length c, .int .i64 x]) ∧ Own w' w.heap.size 5 1 (.slice A L.length c) L.length (L.map U8) ∧ Below w.heap.size w w'
theorem sl_arg {kind : Int} {b : List UInt8} (h : kind < 1 ∨ 255 < kind) : slE kind b.length = 1 ∧ slB kind b = [] := by
  have e : slE kind b.length = 1 := by unfold slE; rw [if_pos h]
  exact ⟨e, by unfold slB; rw [if_neg (by omega)]⟩
theorem sl_long {kind : Int} {b : List UInt8} (h : ¬ (kind < 1 ∨ 255 < kind)) (h2 : 1048576 < b.length) : slE kind b.length = 5 ∧ slB kind b = [] := by
  have e : slE kind b.length = 5 := by unfold slE; rw [if_neg h, if_pos h2]
  exact ⟨e, by unfold slB; rw [if_neg (by omega)]⟩
theorem sl_ok {kind : Int} {b : List UInt8} (h : ¬ (kind < 1 ∨ 255 < kind)) (h2 : ¬ 1048576 < b.length) : slE kind b.length = 0 ∧ slB kind b = fseal kind b := by
  have e : slE kind b.length = 0 := by unfold slE; rw [if_neg h, if_neg h2]
  exact ⟨e, by unfold slB; rw [if_pos e]⟩
theorem retSeal {kind : Int} {b L : List UInt8} {x : Int} {w w' : World} {A : Option Addr} {c : Nat} (h : slE kind b.length = x ∧ slB kind b = L) (ho : Own w' w.heap.size 5 1 (.slice A L.length c) L.length (L.map U8)) (hb : Below w.heap.size w w') :
    RetSeal (slB kind b) (slE kind b.length) w (.returned (.tuple #[.slice A L.length c, .int .i64 x])) w' := by
  obtain ⟨rfl, rfl⟩ := h; exact ⟨A, c, rfl, ho, hb⟩

set_option maxRecDepth 20000 in
set_option maxHeartbeats 1000000 in
theorem seal_any (w : World) (kind : Int) (lo : -9223372036854775808 ≤ kind) (hi : kind ≤ 9223372036854775807) (A : Option Addr) (c : Nat) (b : List UInt8) (h : Rd w A (b.map U8)) (hl : b.length ≤ 9223372036854775807) :
    Calls Tryd.prog 29 #[.int .i64 kind, .slice A b.length c] w (RetSeal (slB kind b) (slE kind b.length) w) := by
  obtain ⟨i0, hi0, hz0, hz1, hz2⟩ := info_parts info_u8
  by_cases h1 : kind < 1
  · have H := Lib.hid (sl_arg (b := b) (Or.inl h1))
    go_enter Tryd.func29, Tryd.ntmps29
    go_wp2
    exact bodyPost_ret (v := .tuple #[.slice none 0 0, .int .i64 1]) (by simp [results, Tryd.results29, go_sem]) rfl (retSeal H.out (Own.nil _ _ _ _) (Below.refl _ _))
  · by_cases h2 : 255 < kind
    · have H := Lib.hid (sl_arg (b := b) (Or.inr h2))
      go_enter Tryd.func29, Tryd.ntmps29
      go_wp2
      exact bodyPost_ret (v := .tuple #[.slice none 0 0, .int .i64 1]) (by simp [results, Tryd.results29, go_sem]) rfl (retSeal H.out (Own.nil _ _ _ _) (Below.refl _ _))
    · by_cases h3 : 1048576 < b.length
      · have H := Lib.hid (sl_long (b := b) (kind := kind) (by omega) h3)
        go_enter Tryd.func29, Tryd.ntmps29
        go_wp2
        exact bodyPost_ret (v := .tuple #[.slice none 0 0, .int .i64 5]) (by simp [results, Tryd.results29, go_sem]) rfl (retSeal H.out (Own.nil _ _ _ _) (Below.refl _ _))
      · have H := Lib.hid (sl_ok (b := b) (kind := kind) (by omega) h3)
        have en1 := enc_length (b.length : Int)
        have hkb : ((UInt8.ofNat kind.toNat).toNat : Int) = kind := kind_byte (by omega) (by omega)
        have hrd : ∀ wx : World, Rd (wx.alloc (.cells #[.int .u8 76, .int .u8 kind] 5)) (some ⟨wx.heap.size, 0, none⟩) (([76, UInt8.ofNat kind.toNat] : List UInt8).map U8) := fun wx => by
          have e : U8 (UInt8.ofNat kind.toNat) = .int .u8 kind := by unfold U8; rw [hkb]
          have := Rd.new wx [U8 76, U8 (UInt8.ofNat kind.toNat)] 5 (0, 0)
          rw [e] at this
          rw [List.map_cons, List.map_cons, List.map_nil, e]
          exact this
        have hK : ∀ w' : World, Calls Tryd.prog 31 #[.slice (some ⟨w'.heap.size, 0, none⟩) 2 2, .int .i64 b.length] (w'.alloc (.cells #[.int .u8 76, .int .u8 kind] 5)) (RetNew U8 5 (fhead kind b.length) (w'.alloc (.cells #[.int .u8 76, .int .u8 kind] 5))) := fun w' =>
          putInt_any _ (some ⟨w'.heap.size, 0, none⟩) 2 [76, UInt8.ofNat kind.toNat] (hrd w') (by simp) (b.length : Int) (by omega) (by omega)
        have hHl : (fhead kind b.length).length ≤ 20 := by rw [fhead_length]; omega
        have HM : Hid (fmsg kind b = fhead kind b.length ++ b) := rfl
        have HS : Hid (fseal kind b = fmsg kind b ++ tail4 (crc (fmsg kind b))) := rfl
        have hMl : (fmsg kind b).length ≤ 1048600 := by rw [fmsg_length]; omega
        have hcl := crc_lt (fmsg kind b)
        generalize fhead kind b.length = HH at *
        generalize fseal kind b = SS at *
        generalize fmsg kind b = MM at *
        clear hrd hkb
        go_enter Tryd.func29, Tryd.ntmps29
        go_wp2_with fail
        refine (hK _).mono ?_
        rintro e w1 ⟨A1, c1, rfl, hown1, hb1⟩
        have hb1 : Below w.heap.size w w1 := ((Below.refl w.heap.size w).alloc (Nat.le_refl _) (.cells #[.int .u8 76, .int .u8 kind] 5)).trans (hb1.mono (by simp))
        have hown1 := hown1.lower (b' := w.heap.size) (by simp)
        clear hK
        go_wp2_with (first
          | (at_builtin
             refine wpList_append_map _ U8 U8_one rfl (.tmp 22) (.tmp 23) _ rfl w.heap.size 5 i0 _ 1 Tryd.underlying25 hi0 hz0 hz1 hz2 rfl A1 c1 HH rfl hown1 A c b rfl (h.below hb1) (by simp only [maxLen]; omega) (by omega) hb1.size ?_
             intro A2 c2 l2 w2 e2 hown2 hrq hgq hb2 hatq
             clear hrq hgq hatq
             obtain rfl : MM = l2 := by rw [HM.out]; exact e2.out.symm
             have hb2 := hb1.trans hb2
             clear e2)
          | fail)
        refine (crc4_any _ _ _ _ hown2.rd' (by omega)).mono ?_
        rintro e w3 ⟨rfl, hb3⟩
        have hown3 := (hown2.below (B := 0) hb3)
        have hb3 := hb2.trans (hb3.mono hb2.size)
        clear hown1 hown2 hb1 hb2
        have HT : Hid (SS = MM ++ tail4 (crc MM)) := HS.out
        have hrT : Rd (w3.alloc (.cells #[tb (crc MM) 0, tb (crc MM) 1, tb (crc MM) 2, tb (crc MM) 3] 75)) (some ⟨w3.heap.size, 0, none⟩) ((tail4 (crc MM)).map U8) := by
          rw [tb_tail]; exact Rd.new w3 _ _ _
        generalize crc MM = n at *
        unfold tb at *
        generalize ((n / 256 ^ 0 % 256 : Nat) : Int) = t0 at *
        generalize ((n / 256 ^ 1 % 256 : Nat) : Int) = t1 at *
        generalize ((n / 256 ^ 2 % 256 : Nat) : Int) = t2 at *
        generalize ((n / 256 ^ 3 % 256 : Nat) : Int) = t3 at *
        go_wp2_with (first
          | (at_builtin
             refine wpList_append_map _ U8 U8_one rfl (.tmp 27) (.tmp 28) _ rfl w.heap.size 5 i0 _ 1 Tryd.underlying25 hi0 hz0 hz1 hz2 rfl A2 c2 MM rfl (hown3.alloc _) (some ⟨w3.heap.size, 0, none⟩) 4 (tail4 n) rfl hrT (by simp only [maxLen, tail4_length]; omega) (by simp only [tail4_length]; omega) (by simp; have := hb3.size; omega) ?_
             intro A9 c9 l9 w9 e9 hown9 hrq hgq hb9 hatq
             clear hrq hgq hatq
             obtain rfl : SS = l9 := by rw [HT.out]; exact e9.out.symm)
          | fail)
        exact bodyPost_ret (v := .tuple #[.slice A9 SS.length c9, .int .i64 0]) (by simp [results, Tryd.results29, go_sem]) rfl (retSeal H.out hown9 ((hb3.alloc hb3.size _).trans hb9))

set_option maxRecDepth 20000 in
set_option maxHeartbeats 1000000 in
theorem rseal_any (w : World) (kind : Int) (lo : -9223372036854775808 ≤ kind) (hi : kind ≤ 9223372036854775807) (A : Option Addr) (c : Nat) (b : List UInt8) (h : Rd w A (b.map U8)) (hl : b.length ≤ 9223372036854775807) :
    Calls Tryd.prog 35 #[.int .i64 kind, .slice A b.length c] w (RetSeal (slB kind b) (slE kind b.length) w) := by
  obtain ⟨i0, hi0, hz0, hz1, hz2⟩ := info_parts info_u8
  by_cases h1 : kind < 1
  · have H := Lib.hid (sl_arg (b := b) (Or.inl h1))
    go_enter Tryd.func35, Tryd.ntmps35
    go_wp2
    exact bodyPost_ret (v := .tuple #[.slice none 0 0, .int .i64 1]) (by simp [results, Tryd.results35, go_sem]) rfl (retSeal H.out (Own.nil _ _ _ _) (Below.refl _ _))
  · by_cases h2 : 255 < kind
    · have H := Lib.hid (sl_arg (b := b) (Or.inr h2))
      go_enter Tryd.func35, Tryd.ntmps35
      go_wp2
      exact bodyPost_ret (v := .tuple #[.slice none 0 0, .int .i64 1]) (by simp [results, Tryd.results35, go_sem]) rfl (retSeal H.out (Own.nil _ _ _ _) (Below.refl _ _))
    · by_cases h3 : 1048576 < b.length
      · have H := Lib.hid (sl_long (b := b) (kind := kind) (by omega) h3)
        go_enter Tryd.func35, Tryd.ntmps35
        go_wp2
        exact bodyPost_ret (v := .tuple #[.slice none 0 0, .int .i64 5]) (by simp [results, Tryd.results35, go_sem]) rfl (retSeal H.out (Own.nil _ _ _ _) (Below.refl _ _))
      · have H := Lib.hid (sl_ok (b := b) (kind := kind) (by omega) h3)
        have en1 := enc_length (b.length : Int)
        have hkb : ((UInt8.ofNat kind.toNat).toNat : Int) = kind := kind_byte (by omega) (by omega)
        have hrd : ∀ wx : World, Rd (wx.alloc (.cells #[.int .u8 76, .int .u8 kind] 5)) (some ⟨wx.heap.size, 0, none⟩) (([76, UInt8.ofNat kind.toNat] : List UInt8).map U8) := fun wx => by
          have e : U8 (UInt8.ofNat kind.toNat) = .int .u8 kind := by unfold U8; rw [hkb]
          have := Rd.new wx [U8 76, U8 (UInt8.ofNat kind.toNat)] 5 (0, 0)
          rw [e] at this
          rw [List.map_cons, List.map_cons, List.map_nil, e]
          exact this
        have hK : ∀ w' : World, Calls Tryd.prog 61 #[.slice (some ⟨w'.heap.size, 0, none⟩) 2 2, .int .i64 b.length] (w'.alloc (.cells #[.int .u8 76, .int .u8 kind] 5)) (RetNew U8 5 (fhead kind b.length) (w'.alloc (.cells #[.int .u8 76, .int .u8 kind] 5))) := fun w' =>
          rputInt_any _ (some ⟨w'.heap.size, 0, none⟩) 2 [76, UInt8.ofNat kind.toNat] (hrd w') (by simp) (b.length : Int) (by omega) (by omega)
        have hHl : (fhead kind b.length).length ≤ 20 := by rw [fhead_length]; omega
        have HM : Hid (fmsg kind b = fhead kind b.length ++ b) := rfl
        have HS : Hid (fseal kind b = fmsg kind b ++ tail4 (crc (fmsg kind b))) := rfl
        have hMl : (fmsg kind b).length ≤ 1048600 := by rw [fmsg_length]; omega
        have hcl := crc_lt (fmsg kind b)
        generalize fhead kind b.length = HH at *
        generalize fseal kind b = SS at *
        generalize fmsg kind b = MM at *
        clear hrd hkb
        go_enter Tryd.func35, Tryd.ntmps35
        go_wp2_with fail
        refine (hK _).mono ?_
        rintro e w1 ⟨A1, c1, rfl, hown1, hb1⟩
        have hb1 : Below w.heap.size w w1 := ((Below.refl w.heap.size w).alloc (Nat.le_refl _) (.cells #[.int .u8 76, .int .u8 kind] 5)).trans (hb1.mono (by simp))
        have hown1 := hown1.lower (b' := w.heap.size) (by simp)
        clear hK
        go_wp2_with (first
          | (at_builtin
             refine wpList_append_map _ U8 U8_one rfl (.tmp 22) (.tmp 23) _ rfl w.heap.size 5 i0 _ 1 Tryd.underlying25 hi0 hz0 hz1 hz2 rfl (some ⟨w1.heap.size, 0, none⟩) 0 [] rfl (.inr ⟨rfl, rfl, _, rfl, hb1.size, by simp⟩) A1 c1 HH rfl (hown1.rd'.alloc _) (by simp only [maxLen, List.length_nil]; omega) (by simp only [List.length_nil]; omega) (by simp; have := hb1.size; omega) ?_
             intro A2 c2 l2 w2 e2 hown2 hrq hgq hb2 hatq
             clear hrq hgq hatq
             obtain rfl : HH = l2 := e2.out.symm
             have hb2 := (hb1.alloc hb1.size _).trans hb2
             clear e2)
          | (at_builtin
             refine wpList_append_map _ U8 U8_one rfl (.tmp 24) (.tmp 25) _ rfl w.heap.size 5 i0 _ 1 Tryd.underlying25 hi0 hz0 hz1 hz2 rfl A2 c2 HH rfl hown2 A c b rfl (h.below hb2) (by simp only [maxLen]; omega) (by omega) hb2.size ?_
             intro A3 c3 l3 w3 e3 hown3 hrq hgq hb3 hatq
             clear hrq hgq hatq
             obtain rfl : MM = l3 := by rw [HM.out]; exact e3.out.symm
             have hb3 := hb2.trans hb3
             clear e3)
          | fail)
        refine (rcrc_any _ _ _ _ hown3.rd' (by omega)).mono ?_
        rintro e w' ⟨rfl, rfl⟩
        have HT : Hid (SS = MM ++ tail4 (crc MM)) := HS.out
        generalize crc MM = n at *
        go_wp2_with fail
        refine (rtail_any _ n hcl).mono ?_
        rintro e w4 ⟨A4, c4, rfl, hown4, hb4⟩
        have hr4 := hown4.rd'
        have hown3 := hown3.below (B := 0) hb4
        have hb4 := hb3.trans (hb4.mono hb3.size)
        have ht4 : (tail4 n).length ≤ 4 := Nat.le_of_eq (tail4_length n)
        generalize tail4 n = T4 at *
        clear hown4 hown2 hown1 hb1 hb2 hb3
        go_wp2_with (first
          | (at_builtin
             refine wpList_append_map _ U8 U8_one rfl (.tmp 27) (.tmp 30) _ rfl w.heap.size 5 i0 _ 1 Tryd.underlying25 hi0 hz0 hz1 hz2 rfl A3 c3 MM rfl hown3 A4 c4 T4 rfl hr4 (by simp only [maxLen]; omega) (by omega) hb4.size ?_
             intro A9 c9 l9 w9 e9 hown9 hrq hgq hb9 hatq
             clear hrq hgq hatq
             obtain rfl : SS = l9 := by rw [HT.out]; exact e9.out.symm)
          | fail)
        exact bodyPost_ret (v := .tuple #[.slice A9 SS.length c9, .int .i64 0]) (by simp [results, Tryd.results35, go_sem]) rfl (retSeal H.out hown9 (hb4.trans hb9))
end Go.Proofs.YtcomeidcmcegfaaDoor
