/-
  The walk of Bytes of layer 49. Conditions: the operation reads as its type says; utf8's tables lie as their initialisers lay them.
-/
import Derived.Test.YtfjiikcbcoohdaaDoorOpsCheck
namespace Go.Proofs.YtfjiikcbcoohdaaDoor
open Go.RowKit
set_option linter.unusedVariables false

theorem orE_zero {a b : Int} (h : orE a b = 0) : a = 0 ∧ b = 0 := by
  unfold orE at h; split at h
  · exact ⟨by assumption, h⟩
  · omega
theorem textE_len {s : List UInt8} (h : textE s = 0) : s.length ≤ 200 := by
  unfold textE at h; split at h <;> omega
/-- what a right operation has -/
theorem check_size {o : OP} (h : checkE o = 0) : o.nt.length ≤ 200 ∧ o.tx.length ≤ 200 ∧ o.ov.length ≤ 16 := by
  unfold checkE at h
  by_cases g1 : rightB o.ac o.ad = true
  rotate_left
  · rw [if_neg g1] at h; exact absurd h (by decide)
  rw [if_pos g1] at h
  by_cases g2 : 0 ≤ o.kd ∧ o.kd ≤ 2
  rotate_left
  · rw [if_neg g2] at h; exact absurd h (by decide)
  rw [if_pos g2] at h
  by_cases g3 : recB o = true
  rotate_left
  · rw [if_neg g3] at h; exact absurd h (by decide)
  rw [if_pos g3] at h
  have pl : plainE o = 0 → o.tx = [] := by
    unfold plainE; intro h; split at h
    · rename_i h1; exact h1.2.2
    · exact absurd h (by decide)
  have nn : noneE o = 0 → o.ov = [] := by
    unfold noneE; intro h; split at h
    · assumption
    · exact absurd h (by decide)
  have nm : namedE o = 0 → o.nt = [] := by
    unfold namedE; intro h; split at h
    · rename_i h1
      simp only [Bool.and_eq_true] at h1
      have := of_decide_eq_true h1.2
      exact this.2.2.2.2.2
    · exact absurd h (by decide)
  have ov : overE o = 0 → o.ov.length ≤ 16 := by
    unfold overE; intro h; split at h
    · exact absurd h (by decide)
    · split at h
      · assumption
      · exact absurd h (by decide)
  have ad : addedE o = 0 → o.nt.length ≤ 200 := by
    unfold addedE; intro h
    repeat' split at h
    all_goals first | exact textE_len h | exact absurd h (by decide)
  have st : setE o = 0 → o.tx.length ≤ 200 := by
    unfold setE; intro h
    repeat' split at h
    all_goals first | exact textE_len h | (rename_i h1; rw [h1]; simp) | exact absurd h (by decide)
  split at h
  · obtain ⟨h1, h2⟩ := orE_zero h
    obtain ⟨h2, h3⟩ := orE_zero h2
    rw [pl h2, nn h3]
    exact ⟨ad h1, by simp, by simp⟩
  · obtain ⟨h1, h2⟩ := orE_zero h
    obtain ⟨h2, h3⟩ := orE_zero h2
    rw [nm h1]
    refine ⟨by simp, ?_, ov h3⟩
    split at h2
    · exact st h2
    · rw [pl h2]; simp
/-- the call returns bytes; they lie in memory of their own -/
def RetEx (l : List UInt8) (m : Nat) (w : World) (e : Ending) (w' : World) : Prop :=
  ∃ L A c, Hid (L = l) ∧ L.length ≤ m ∧ e = .returned (.slice A L.length c) ∧ Own w' w.heap.size 5 1 (.slice A L.length c) L.length (L.map U8) ∧ Rd w' A (L.map U8) ∧ Below w.heap.size w w'
theorem RetEx.of {l : List UInt8} {m : Nat} {w : World} {e : Ending} {w' : World} (h : RetNew U8 5 l w e w') (hm : l.length ≤ m) : RetEx l m w e w' := by
  obtain ⟨A, c, h1, h2, h3⟩ := h
  exact ⟨l, A, c, rfl, hm, h1, h2, h2.rd', h3⟩
theorem putInt_ex (w : World) (A : Option Addr) (c : Nat) (l : List UInt8) (h : Rd w A (l.map U8)) (hl : l.length ≤ 100000) (n : Int) (hn : I64b n) :
    Calls Tryd.prog 39 #[.slice A l.length c, .int .i64 n] w (RetEx (l ++ enc n) (l.length + 10) w) :=
  (putInt_any w A c l h (by omega) n hn.1 hn.2).mono fun _ _ h => RetEx.of h (by rw [List.length_append]; have := (enc_length n).2; omega)
theorem putText_ex (w : World) (A : Option Addr) (c : Nat) (l : List UInt8) (h : Rd w A (l.map U8)) (hl : l.length ≤ 100000) (s : List UInt8) (hs : s.length ≤ 200) :
    Calls Tryd.prog 40 #[.slice A l.length c, .string ⟨s.toArray⟩] w (RetEx (l ++ encT s) (l.length + 210) w) :=
  (putText_any w A c l h (by omega) s (by omega)).mono fun _ _ h => RetEx.of h (by unfold encT; rw [List.length_append, List.length_append]; have := (enc_length (s.length : Int)).2; omega)
def RetBy (l : List UInt8) (n : Int) (w : World) (e : Ending) (w' : World) : Prop :=
  ∃ A c, e = .returned (.tuple #[.slice A l.length c, .int .i64 n]) ∧ Own w' w.heap.size 5 1 (.slice A l.length c) l.length (l.map U8) ∧ Below w.heap.size w w'
theorem i64b_nat {n : Nat} (h : n ≤ 1000000) : I64b (n : Int) := ⟨by omega, by omega⟩
theorem ints10_get (o : OP) (ho : o.Bd) : ∀ n ∈ ints10 o, I64b n := by
  intro n hn
  simp only [ints10, List.mem_cons, List.not_mem_nil, or_false] at hn
  rcases hn with rfl | rfl | rfl | rfl | rfl | rfl | rfl | rfl | rfl | rfl
  · exact ho.ac
  · exact ho.ad
  · exact ho.kd
  · exact ho.rc
  · exact ho.id
  · exact ho.ti
  · exact ho.pa
  · exact ho.sf
  · exact ho.st
  · exact ho.rk
theorem flat_enc_next (l : List Int) (k : Nat) (hk : k < l.length) : (l.take (k + 1)).flatMap enc = (l.take k).flatMap enc ++ enc l[k] := by
  rw [List.take_succ_eq_append_getElem hk, List.flatMap_append]; simp
theorem ovEnc_next (l : List (Int × Int)) (k : Nat) (hk : k < l.length) : ovEnc (l.take (k + 1)) = ovEnc (l.take k) ++ (enc l[k].1 ++ enc l[k].2) := by
  unfold ovEnc; rw [List.take_succ_eq_append_getElem hk, List.flatMap_append]; simp
def BytesRel1 (W : World) (l : List Int) (vb vi : Value) (wr : World) : Prop :=
  ∃ (k : Nat) (L : List UInt8) (A : Option Addr) (c : Nat), k ≤ l.length ∧ vi = .int .i64 k ∧ vb = .slice A L.length c ∧ Hid (L = (l.take k).flatMap enc) ∧ L.length ≤ 10 * k ∧ Rd wr A (L.map U8) ∧ Up W wr
def BytesRel2 (W : World) (base : Nat) (P : List UInt8) (l : List (Int × Int)) (vb vi : Value) (wr : World) : Prop :=
  ∃ (k : Nat) (L : List UInt8) (A : Option Addr) (c : Nat), k ≤ l.length ∧ vi = .int .i64 k ∧ vb = .slice A L.length c ∧ Hid (L = P ++ ovEnc (l.take k)) ∧ L.length ≤ 1000 + 20 * k ∧ Own wr base 5 1 (.slice A L.length c) L.length (L.map U8) ∧ Up W wr

set_option maxRecDepth 100000 in
set_option maxHeartbeats 8000000 in
theorem bytes_no (w : World) (o : OP) (A : Option Addr) (c : Nat) (ho : o.Bd) (hr : Rd w A (ovL o.ov)) (hc : o.ov.length ≤ c) (hT : Tabs w) (h0 : checkE o ≠ 0) : Calls Tryd.prog 16 #[opV o A c] w (RetBy [] (checkE o) w) := by
  have kC := fun w' (hb : Below w.heap.size w w') => check_any w' o A c ho (hr.below hb) hc (hT.below hb)
  unfold opV opC at kC ⊢
  have q0 : (checkE o != 0) = true := by simpa using h0
  clear h0
  generalize checkE o = E at *
  go_enter Tryd.func16, Tryd.ntmps16
  go_wp2_with fail
  refine (kC _ ((Below.refl _ _).alloc (Nat.le_refl _) _)).mono ?_
  rintro e w2 ⟨rfl, hb2⟩
  have hb3 := stepB ((Below.refl w.heap.size w).alloc (Nat.le_refl _) _) hb2
  go_wp2_with fail
  exact bodyPost_ret (v := .tuple #[.slice none 0 0, .int .i64 E]) (by simp [results, Tryd.results16, go_sem]) rfl ⟨_, _, rfl, Own.nil _ _ _ _, hb3⟩

set_option maxRecDepth 100000 in
set_option maxHeartbeats 16000000 in
theorem bytes_ok (w : World) (o : OP) (A : Option Addr) (c : Nat) (ho : o.Bd) (hr : Rd w A (ovL o.ov)) (hc : o.ov.length ≤ c) (hT : Tabs w) (h0 : checkE o = 0) : Calls Tryd.prog 16 #[opV o A c] w (RetBy (opB o) 0 w) := by
  have kC := fun w' (hb : Below w.heap.size w w') => check_any w' o A c ho (hr.below hb) hc (hT.below hb)
  obtain ⟨s1, s2, s3⟩ := check_size h0
  unfold opV opC at kC ⊢
  rw [h0] at kC
  clear h0
  go_enter Tryd.func16, Tryd.ntmps16
  go_wp2_with fail
  refine (kC _ ((Below.refl _ _).alloc (Nat.le_refl _) _)).mono ?_
  rintro e w2 ⟨rfl, hb2⟩
  have hb3 := stepB ((Below.refl w.heap.size w).alloc (Nat.le_refl _) _) hb2
  have hoa : OpAt w2 w.heap.size o A c := (OpAt.new w o A c 30).up (Up.of hb2)
  have hz : w.heap.size < w2.heap.size := by have := hb2.size; simp at this; omega
  clear hb2 kC
  have m := hoa
  obtain ⟨⟨m0, m1, m2, m3⟩, ⟨m4, m5, m6, m7, m8, m9, m10⟩, ⟨m11, m12, m13, m14⟩⟩ := m
  go_wp2_with fail
  obtain ⟨W3, hW3⟩ : ∃ x, (w2.alloc (.cells (noteC o).toArray 27)).alloc (.cells ((ints10 o).map I64).toArray 3) = x := ⟨_, rfl⟩
  have hu3 : Up w2 W3 := by rw [← hW3]; exact (Up.alloc' _ _).trans (Up.alloc' _ _)
  have hN : NoteAt W3 w2.heap.size o := by rw [← hW3]; exact (NoteAt.new _ _ _ _ rfl).up (Up.alloc' _ _)
  have hI : Rd W3 (some ⟨w2.heap.size + 1, 0, none⟩) ((ints10 o).map I64) := by rw [← hW3]; exact Rd.newAt _ _ _ _ _ (by simp)
  have hz3 : w2.heap.size + 1 < W3.heap.size := by rw [← hW3]; simp
  have hoW : OpAt W3 w.heap.size o A c := hoa.up hu3
  unfold noteC ints10 at hW3
  simp only [List.map_cons, List.map_nil, I64] at hW3
  simp only [hW3]
  clear hW3 m0 m1 m2 m3 m4 m5 m6 m7 m8 m9 m10 m11 m12 m13 m14
  go_loopw [6, 44] (BytesRel1 W3 (ints10 o)) (fun _ i _ => 10 - (intOf i).toNat)
  case atStart => exact ⟨0, [], none, 0, by omega, rfl, rfl, rfl, by simp, Rd.nil _ _, Up.refl _⟩
  case round =>
    obtain ⟨k, L, AL, cL, hk, rfl, rfl, hL, hLl, hRL, hu⟩ := hrel
    have hk' : k ≤ 10 := hk
    by_cases hlt : k < 10
    · have t1 : decide ((k : Int) < 10) = true := decide_eq_true (by omega)
      have hkl : k < (ints10 o).length := hlt
      obtain ⟨b, off, e1, _, hck⟩ := (hu.rd hI).at64 hkl
      cases e1
      have HN := Lib.hid (flat_enc_next (ints10 o) k hkl)
      have hx := ints10_get o ho _ (List.getElem_mem hkl)
      have hx := Lib.hid hx
      generalize (ints10 o)[k] = x at *
      rw [Nat.zero_add] at hck
      go_wp2_with fail
      refine (putInt_ex _ _ _ _ hRL (by omega) _ hx.out).mono ?_
      rintro e w5 ⟨L2, A2, c2, hL2, hl2, rfl, hown2, hr2, hb5⟩
      go_wp2_with fail
      go_roundw
      case rel => exact ⟨k + 1, L2, A2, c2, hlt, by go_num, rfl, by rw [Hid, hL2.out, HN.out, hL.out], by omega, hr2, hu.trans (Up.of hb5)⟩
      case measure => simp [intOf]; omega
    · obtain rfl : k = 10 := by omega
      have t1 : decide (((10 : Nat) : Int) < 10) = false := by decide
      have hL1 : Hid (L = (ints10 o).flatMap enc) := by rw [Hid, hL.out]; rfl
      clear hL hI
      have m := hN.up hu
      obtain ⟨m0, m1, m2, m3, m4, m5, m6⟩ := m
      go_wp2_with fail
      refine (putText_ex _ _ _ _ hRL (by omega) _ s1).mono ?_
      rintro e w5 ⟨L5, A5, c5, hL5, hl5, rfl, hown5, hr5, hb5⟩
      have hu5 := hu.trans (Up.of hb5)
      clear hown5 hb5 m0 m1 m2 m3 m4 m5 m6
      have ho5 := hoW.up hu5
      have r11 := fun w' (u : Up w5 w') => (ho5.up u).2.2.1
      have r12 := fun w' (u : Up w5 w') => (ho5.up u).2.2.2.1
      have r13 := fun w' (u : Up w5 w') => (ho5.up u).2.2.2.2.1
      have r14 := fun w' (u : Up w5 w') => (ho5.up u).2.2.2.2.2
      have b11 := Lib.hid ho.se
      have b12 := Lib.hid ho.nn
      have b14 := Lib.hid (i64b_nat (n := o.ov.length) (by omega))
      go_wp2_with fail
      go_region_held3 (fun w' => Up w5 w') (first | assumption | exact Up.drew _ | exact Up.refl _ | exact Up.trans (by assumption) (Up.alloc' _ _) | exact Up.trans (by assumption) (Up.of (by assumption))) (first | (go_at_call_of 39 (Value.slice A5 L5.length c5); refine (putInt_ex _ _ _ _ (by first | assumption | exact Rd.drew (by assumption)) (by omega) _ b11.out).mono ?_; rintro e w6 ⟨L6, A6, c6, hL6, hl6, rfl, hown6, hr6, hb6⟩) | (go_at_call 39; refine (putInt_ex _ _ _ _ (by assumption) (by omega) _ b12.out).mono ?_; rintro e w7 ⟨L7, A7, c7, hL7, hl7, rfl, hown7, hr7, hb7⟩))
      have hu7 : Up w5 w7 := by assumption
      clear hown6 hown7 hr6 hb6 hb7 hr5
      have s11 := fun w' (u : Up w7 w') => r11 w' (hu7.trans u)
      have s13 := fun w' (u : Up w7 w') => r13 w' (hu7.trans u)
      have s14 := fun w' (u : Up w7 w') => r14 w' (hu7.trans u)
      clear r11 r12 r13 r14
      go_wp2_with fail
      go_region_held3 (fun w' => Up w7 w') (first | assumption | exact Up.drew _ | exact Up.refl _ | exact Up.trans (by assumption) (Up.alloc' _ _) | exact Up.trans (by assumption) (Up.of (by assumption))) (first | (go_at_call 40; refine (putText_ex _ _ _ _ (by first | assumption | exact Rd.drew (by assumption)) (by omega) _ s2).mono ?_; rintro e w8 ⟨L8, A8, c8, hL8, hl8, rfl, hown8, hr8, hb8⟩) | (go_at_call 39; refine (putInt_ex _ _ _ _ (by assumption) (by omega) _ b14.out).mono ?_; rintro e w9 ⟨L9, A9, c9, hL9, hl9, rfl, hown9, hr9, hb9⟩))
      have hu9 : Up w7 w9 := by assumption
      have hL9' : Hid (L9 = (ints10 o).flatMap enc ++ (encT o.nt ++ (enc o.se ++ (enc o.nn ++ (encT o.tx ++ enc o.ov.length))))) := by
        rw [Hid, hL9.out, hL8.out, hL7.out, hL6.out, hL5.out, hL1.out]; simp only [List.append_assoc]
      have hzz : w.heap.size ≤ w8.heap.size := by
        have h1 := hz3
        have h2 := (hu5.trans (hu7.trans (show Up w7 w8 by first | assumption | exact Up.trans (Up.drew _) (Up.of hb8) | exact Up.of hb8))).b.size
        omega
      have hownB := hown9.lower hzz
      clear hown8 hown9 hr8 hr9 hb8 hb9 hL8 hL7 hL6 hL5 hL1 hL9
      have hoB := ho5.up (hu7.trans hu9)
      have hUB := hu3.trans (hu5.trans (hu7.trans hu9))
      have hrB := (hr.below hb3).below hUB.b
      have hbB := stepB hb3 hUB.b
      clear s11 s13 s14 ho5 hu5 hu7 hu9 hRL hu
      have m := hoB
      obtain ⟨-, -, ⟨-, -, -, m14⟩⟩ := m
      go_wp2_with fail
      go_loopw [6, 74] (BytesRel2 w9 w.heap.size L9 o.ov) (fun _ i _ => o.ov.length - (intOf i).toNat)
      case atStart => exact ⟨0, L9, A9, c9, by omega, rfl, rfl, by rw [Hid]; simp [ovEnc], by omega, hownB, Up.refl _⟩
      case round =>
        clear hownB
        obtain ⟨k, L, AL, cL, hk, rfl, rfl, hL, hLl, hown, hu⟩ := hrel
        by_cases hlt : k < o.ov.length
        · have t1 : decide ((k : Int) < (o.ov.length : Int)) = true := decide_eq_true (by omega)
          have t2 : (k : Int) < (o.ov.length : Int) := by omega
          have t3 : 0 ≤ (k : Int) := by omega
          obtain ⟨b, off, e1, hc0, hc1⟩ := ov_cells (hu.rd hrB) hlt
          cases e1
          have HN := Lib.hid (ovEnc_next o.ov k hlt)
          have hx := Lib.hid (ho.ov _ (List.getElem_mem hlt))
          generalize o.ov[k] = q at *
          obtain ⟨x, y⟩ := q
          dsimp only at hc0 hc1
          go_wp2_with fail
          obtain ⟨W4, hW4⟩ : ∃ z, wr.alloc (.cells #[.int .i64 x, .int .i64 y] 23) = z := ⟨_, rfl⟩
          have hu4 : Up wr W4 := by rw [← hW4]; exact Up.alloc' _ _
          have s0 : W4.cell? ⟨wr.heap.size, 0, none⟩ = some (.int .i64 x) := by rw [← hW4]; exact (cell_lit2 wr _ _ _).1
          have s1 : W4.cell? ⟨wr.heap.size, 1, none⟩ = some (.int .i64 y) := by rw [← hW4]; exact (cell_lit2 wr _ _ _).2
          simp only [hW4]
          clear hW4
          have l0 := fun w' (u : Up W4 w') => u.cell s0
          have l1 := fun w' (u : Up W4 w') => u.cell s1
          have hR4 := hu4.rd hown.rd'
          have hx1 : Hid (I64b x) := hx.out.1
          have hx2 : Hid (I64b y) := hx.out.2
          clear s0 s1 hc0 hc1
          go_region_held3 (fun w' => Up W4 w') (first | assumption | exact Up.drew _ | exact Up.refl _ | exact Up.trans (by assumption) (Up.alloc' _ _) | exact Up.trans (by assumption) (Up.of (by assumption))) (first | (go_at_call_of 39 (Value.slice AL L.length cL); refine (putInt_ex _ _ _ _ (by first | exact hR4 | exact Rd.drew hR4) (by omega) _ hx1.out).mono ?_; rintro e w6 ⟨L6, A6, c6, hL6, hl6, rfl, hown6, hr6, hb6⟩) | (go_at_call 39; refine (putInt_ex _ _ _ _ (by assumption) (by omega) _ hx2.out).mono ?_; rintro e w7 ⟨L7, A7, c7, hL7, hl7, rfl, hown7, hr7, hb7⟩))
          have hu7 : Up W4 w7 := by assumption
          have hz6 : w.heap.size ≤ w6.heap.size := Nat.le_trans hbB.size (hu.trans (hu4.trans (show Up W4 w6 by first | assumption | exact Up.trans (Up.drew _) (Up.of hb6) | exact Up.of hb6))).b.size
          go_wp2_with fail
          go_roundw
          case rel => exact ⟨k + 1, L7, A7, c7, hlt, by go_num, rfl, by rw [Hid, hL7.out, hL6.out, hL.out, HN.out]; simp only [List.append_assoc], by omega, hown7.lower hz6, hu.trans (hu4.trans hu7)⟩
          case measure => simp [intOf]; omega
        · obtain rfl : k = o.ov.length := by omega
          have t1 : decide ((o.ov.length : Int) < (o.ov.length : Int)) = false := by simp
          have hF : L = opB o := by
            rw [hL.out, hL9'.out, List.take_length]; unfold opB; simp only [List.append_assoc]
          subst hF
          generalize hG : opB o = G at *
          go_wp2_with fail
          exact bodyPost_ret (v := .tuple #[.slice AL G.length cL, .int .i64 0]) (by simp [results, Tryd.results16, go_sem]) rfl ⟨_, _, rfl, hown, stepB hbB hu.b⟩
theorem bytes_any (w : World) (o : OP) (A : Option Addr) (c : Nat) (ho : o.Bd) (hr : Rd w A (ovL o.ov)) (hc : o.ov.length ≤ c) (hT : Tabs w) : Calls Tryd.prog 16 #[opV o A c] w (RetBy (bytesR o) (checkE o) w) := by
  unfold bytesR
  by_cases h : checkE o = 0
  · rw [if_pos h, h]; exact bytes_ok w o A c ho hr hc hT h
  · rw [if_neg h]; exact bytes_no w o A c ho hr hc hT h
end Go.Proofs.YtfjiikcbcoohdaaDoor
