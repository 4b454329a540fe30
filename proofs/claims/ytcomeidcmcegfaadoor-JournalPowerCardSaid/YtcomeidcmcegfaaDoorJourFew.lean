/-
  The walks of few and same of the statements of layer 53. Conditions: the operations are readable.
-/
import Derived.Test.YtcomeidcmcegfaaDoorZL
import Derived.Test.YtcomeidcmcegfaaDoorZN
import Derived.Test.YtcomeidcmcegfaaDoorHeld2
namespace Go.Proofs.YtcomeidcmcegfaaDoor
open Go.RowKit
set_option linter.unusedVariables false
set_option linter.unusedSimpArgs false
def sameL : List OP → List OP → Bool
 | [], [] => true
 | a :: l, b :: m => sameB a b && sameL l m
 | _, _ => false
theorem sameL_iff : ∀ (l m : List OP), sameL l m = true ↔ l = m
 | [], [] => by simp [sameL]
 | [], b :: m => by simp [sameL]
 | a :: l, [] => by simp [sameL]
 | a :: l, b :: m => by rw [sameL, Bool.and_eq_true, sameB_iff, sameL_iff l m]; simp
theorem sameL_not {l m : List OP} (h : l ≠ m) : sameL l m = false := by
 rcases e : sameL l m with _ | _
 ·rfl
 ·exact absurd ((sameL_iff l m).1 e) h
theorem sameL_self (l : List OP) : sameL l l = true := (sameL_iff l l).2 rfl
def SameRel (w : World) (xs ys : List OX) (vi : Value) (wr : World) : Prop := ∃ k : Nat, k ≤ xs.length ∧ vi = .int .i64 k ∧ Up w wr ∧ Hid ((opL xs).take k = (opL ys).take k)
theorem take_more {l m : List OP} {k : Nat} (h : l.take k = m.take k) (hl : k < l.length) (hm : k < m.length) (e : l[k] = m[k]) : l.take (k + 1) = m.take (k + 1) := by
 rw [List.take_succ_eq_append_getElem hl, List.take_succ_eq_append_getElem hm, h, e]
theorem ne_at' {l m : List OP} {k : Nat} (hl : k < l.length) (hm : k < m.length) (e : l[k] ≠ m[k]) : l ≠ m := by rintro rfl; exact e rfl
set_option maxRecDepth 100000 in
set_option maxHeartbeats 8000000 in
theorem same_any (w : World) (A B : Option Addr) (c d : Nat) (xs ys : List OX) (hx : OpsRd w A xs) (hy : OpsRd w B ys) (hl : xs.length ≤ maxLen) (hm : ys.length ≤ maxLen) :
 Calls Tryd.prog 17 #[.slice A xs.length c, .slice B ys.length d] w (RetBool (sameL (opL xs) (opL ys)) w) := by
 unfold maxLen at hl hm
 by_cases h0 : ys.length = xs.length
 rotate_left
 ·have HX : Hid (sameL (opL xs) (opL ys) = false) := sameL_not (by intro e; apply h0; rw [← opL_len xs, ← opL_len ys, e])
  have q0 : ((xs.length : Int) != (ys.length : Int)) = true := by simp; omega
  have q1 : (xs.length != ys.length) = true := by simp; omega
  have q2 : ((xs.length : Int) == (ys.length : Int)) = false := by simp; omega
  have q3 : (xs.length == ys.length) = false := by simp; omega
  clear h0
  go_enter Tryd.func17, Tryd.ntmps17
  go_wp2_with fail
  go_ret
  exact ⟨by rw [HX.out]; rfl, Below.refl _ _⟩
 have HL := Lib.hid h0
 rw [h0] at hm ⊢
 clear h0
 go_enter Tryd.func17, Tryd.ntmps17
 go_wp2_with fail
 go_loopw [5] (SameRel w xs ys) (fun i _ => xs.length - (intOf i).toNat)
 case atStart => exact ⟨0, Nat.zero_le _, rfl, Up.refl _, rfl⟩
 case round =>
  obtain ⟨k, hk, rfl, hu, hK⟩ := hrel
  by_cases hlt : k < xs.length
  ·have t1 : decide ((k : Int) < (xs.length : Int)) = true := decide_eq_true (by omega)
   have t2 : (k : Int) < (xs.length : Int) := by omega
   have t3 : 0 ≤ (k : Int) := by omega
   have hlt' : k < ys.length := by have := HL.out; omega
   obtain ⟨b, off, rfl, -, hrg⟩ := (hx.below hu.b).range hlt
   obtain ⟨b', off', rfl, -, hrg'⟩ := (hy.below hu.b).range hlt'
   have ox := (hx.below hu.b).ok _ (List.getElem_mem hlt)
   have oy := (hy.below hu.b).ok _ (List.getElem_mem hlt')
   have HT := Lib.hid (fun e => take_more hK.out (by rw [opL_len]; exact hlt) (by rw [opL_len]; exact hlt') e)
   have HN := Lib.hid (fun e => ne_at' (l := opL xs) (m := opL ys) (k := k) (by rw [opL_len]; exact hlt) (by rw [opL_len]; exact hlt') e)
   simp only [opL_get xs k hlt, opL_get ys k hlt'] at HT HN
   generalize xs[k] = x at *
   generalize ys[k] = y at *
   have kS := fun w' (u : Up wr w') => rsame_any w' x.o y.o x.A y.A x.c y.c (ox.rd.below u.b) (oy.rd.below u.b) (ox.bd.ol) (oy.bd.ol)
   unfold opV opC at kS
   have m0 : ∀ w', Up wr w' → w'.cell? ⟨b, off + k * 15, none⟩ = some (.int .i64 x.o.ac) := fun w' u => u.cell (hrg 0 _ rfl)
   have m1 : ∀ w', Up wr w' → w'.cell? ⟨b, off + k * 15 + 1, none⟩ = some (.int .i64 x.o.ad) := fun w' u => u.cell (hrg 1 _ rfl)
   have m2 : ∀ w', Up wr w' → w'.cell? ⟨b, off + k * 15 + 2, none⟩ = some (.int .i64 x.o.kd) := fun w' u => u.cell (hrg 2 _ rfl)
   have m3 : ∀ w', Up wr w' → w'.cell? ⟨b, off + k * 15 + 3, none⟩ = some (.int .i64 x.o.rc) := fun w' u => u.cell (hrg 3 _ rfl)
   have m4 : ∀ w', Up wr w' → w'.cell? ⟨b, off + k * 15 + 4, none⟩ = some (.int .i64 x.o.id) := fun w' u => u.cell (hrg 4 _ rfl)
   have m5 : ∀ w', Up wr w' → w'.cell? ⟨b, off + k * 15 + 5, none⟩ = some (.int .i64 x.o.ti) := fun w' u => u.cell (hrg 5 _ rfl)
   have m6 : ∀ w', Up wr w' → w'.cell? ⟨b, off + k * 15 + 6, none⟩ = some (.int .i64 x.o.pa) := fun w' u => u.cell (hrg 6 _ rfl)
   have m7 : ∀ w', Up wr w' → w'.cell? ⟨b, off + k * 15 + 7, none⟩ = some (.int .i64 x.o.sf) := fun w' u => u.cell (hrg 7 _ rfl)
   have m8 : ∀ w', Up wr w' → w'.cell? ⟨b, off + k * 15 + 8, none⟩ = some (.int .i64 x.o.st) := fun w' u => u.cell (hrg 8 _ rfl)
   have m9 : ∀ w', Up wr w' → w'.cell? ⟨b, off + k * 15 + 9, none⟩ = some (.int .i64 x.o.rk) := fun w' u => u.cell (hrg 9 _ rfl)
   have m10 : ∀ w', Up wr w' → w'.cell? ⟨b, off + k * 15 + 10, none⟩ = some (.string ⟨x.o.nt.toArray⟩) := fun w' u => u.cell (hrg 10 _ rfl)
   have m11 : ∀ w', Up wr w' → w'.cell? ⟨b, off + k * 15 + 11, none⟩ = some (.int .i64 x.o.se) := fun w' u => u.cell (hrg 11 _ rfl)
   have m12 : ∀ w', Up wr w' → w'.cell? ⟨b, off + k * 15 + 12, none⟩ = some (.int .i64 x.o.nn) := fun w' u => u.cell (hrg 12 _ rfl)
   have m13 : ∀ w', Up wr w' → w'.cell? ⟨b, off + k * 15 + 13, none⟩ = some (.string ⟨x.o.tx.toArray⟩) := fun w' u => u.cell (hrg 13 _ rfl)
   have m14 : ∀ w', Up wr w' → w'.cell? ⟨b, off + k * 15 + 14, none⟩ = some (.slice x.A x.o.ov.length x.c) := fun w' u => u.cell (hrg 14 _ rfl)
   have n0 : ∀ w', Up wr w' → w'.cell? ⟨b', off' + k * 15, none⟩ = some (.int .i64 y.o.ac) := fun w' u => u.cell (hrg' 0 _ rfl)
   have n1 : ∀ w', Up wr w' → w'.cell? ⟨b', off' + k * 15 + 1, none⟩ = some (.int .i64 y.o.ad) := fun w' u => u.cell (hrg' 1 _ rfl)
   have n2 : ∀ w', Up wr w' → w'.cell? ⟨b', off' + k * 15 + 2, none⟩ = some (.int .i64 y.o.kd) := fun w' u => u.cell (hrg' 2 _ rfl)
   have n3 : ∀ w', Up wr w' → w'.cell? ⟨b', off' + k * 15 + 3, none⟩ = some (.int .i64 y.o.rc) := fun w' u => u.cell (hrg' 3 _ rfl)
   have n4 : ∀ w', Up wr w' → w'.cell? ⟨b', off' + k * 15 + 4, none⟩ = some (.int .i64 y.o.id) := fun w' u => u.cell (hrg' 4 _ rfl)
   have n5 : ∀ w', Up wr w' → w'.cell? ⟨b', off' + k * 15 + 5, none⟩ = some (.int .i64 y.o.ti) := fun w' u => u.cell (hrg' 5 _ rfl)
   have n6 : ∀ w', Up wr w' → w'.cell? ⟨b', off' + k * 15 + 6, none⟩ = some (.int .i64 y.o.pa) := fun w' u => u.cell (hrg' 6 _ rfl)
   have n7 : ∀ w', Up wr w' → w'.cell? ⟨b', off' + k * 15 + 7, none⟩ = some (.int .i64 y.o.sf) := fun w' u => u.cell (hrg' 7 _ rfl)
   have n8 : ∀ w', Up wr w' → w'.cell? ⟨b', off' + k * 15 + 8, none⟩ = some (.int .i64 y.o.st) := fun w' u => u.cell (hrg' 8 _ rfl)
   have n9 : ∀ w', Up wr w' → w'.cell? ⟨b', off' + k * 15 + 9, none⟩ = some (.int .i64 y.o.rk) := fun w' u => u.cell (hrg' 9 _ rfl)
   have n10 : ∀ w', Up wr w' → w'.cell? ⟨b', off' + k * 15 + 10, none⟩ = some (.string ⟨y.o.nt.toArray⟩) := fun w' u => u.cell (hrg' 10 _ rfl)
   have n11 : ∀ w', Up wr w' → w'.cell? ⟨b', off' + k * 15 + 11, none⟩ = some (.int .i64 y.o.se) := fun w' u => u.cell (hrg' 11 _ rfl)
   have n12 : ∀ w', Up wr w' → w'.cell? ⟨b', off' + k * 15 + 12, none⟩ = some (.int .i64 y.o.nn) := fun w' u => u.cell (hrg' 12 _ rfl)
   have n13 : ∀ w', Up wr w' → w'.cell? ⟨b', off' + k * 15 + 13, none⟩ = some (.string ⟨y.o.tx.toArray⟩) := fun w' u => u.cell (hrg' 13 _ rfl)
   have n14 : ∀ w', Up wr w' → w'.cell? ⟨b', off' + k * 15 + 14, none⟩ = some (.slice y.A y.o.ov.length y.c) := fun w' u => u.cell (hrg' 14 _ rfl)
   have hrg := Lib.hid hrg
   have hrg' := Lib.hid hrg'
   have hu' := Lib.hid hu
   by_cases he : x.o = y.o
   ·have e1 : sameB x.o y.o = true := (sameB_iff _ _).2 he
    have HT := Lib.hid (HT.out he)
    rw [e1] at kS
    clear he HN hu ox oy
    go_wp2_with fail
    refine wp_region_noPanic ?_
    refine wp_region_held_drew (S := fun w' => Up wr w') (by kernel_rfl) (Up.drew wr) (fun hHeld => ?_)
    refine tk 0 17 (v := ?_) ?_ ?_
    rotate_left
    ·intro w' hSw; clear hSw; go_simp; try (with_reducible rfl)
    try simp only [tkA, tkB, tkC]
    refine tk 1 18 (v := ?_) ?_ ?_
    rotate_left
    ·intro w' hSw; clear hSw; go_simp; try (with_reducible rfl)
    try simp only [tkA, tkB, tkC]
    refine tk 2 19 (v := ?_) ?_ ?_
    rotate_left
    ·intro w' hSw; clear hSw; go_simp; try (with_reducible rfl)
    try simp only [tkA, tkB, tkC]
    refine tk 3 20 (v := ?_) ?_ ?_
    rotate_left
    ·intro w' hS0; go_simp; try (with_reducible rfl)
    try simp only [tkA, tkB, tkC]
    refine tk 4 21 (v := ?_) ?_ ?_
    rotate_left
    ·intro w' hSw; clear hSw; go_simp; try (with_reducible rfl)
    try simp only [tkA, tkB, tkC]
    refine tk 5 22 (v := ?_) ?_ ?_
    rotate_left
    ·intro w' hSw; clear hSw; go_simp; try (with_reducible rfl)
    try simp only [tkA, tkB, tkC]
    refine tk 6 23 (v := ?_) ?_ ?_
    rotate_left
    ·intro w' hSw; clear hSw; go_simp; try (with_reducible rfl)
    try simp only [tkA, tkB, tkC]
    refine tk 7 24 (v := ?_) ?_ ?_
    rotate_left
    ·intro w' hS0; go_simp; try (with_reducible rfl)
    try simp only [tkA, tkB, tkC]
    refine wpAnyH_ready (rs := [8]) (by kernel_rfl) (by simp) ?_
    refine AllReadyH.cons rfl (fun K hK => ?_) AllReadyH.nil
    go_simp
    go_at_call 28
    refine (kS _ ‹_›).mono ?_
    rintro e w5 ⟨rfl, hb5⟩
    have hu5 : Up wr w5 := (Up.drew _).trans (Up.of hb5)
    refine hK.out _ _ hu5 (fun hHeld => ?_)
    clear hK K hHeld
    refine wpAnyH_more (S' := fun w' => Up w5 w') (fun w' h => Up.trans hu5 h) _ _ _ _ ?_
    have hHeld := Up.refl w5
    refine tk 9 26 (v := ?_) ?_ ?_
    rotate_left
    ·intro w' hSw; clear hSw; go_simp; try (with_reducible rfl)
    try simp only [tkA, tkB, tkC]
    refine wpAnyH_done (by kernel_rfl) ?_ _
    refine NoPanic.normal ?_
    clear hHeld
    have hu5 := Lib.hid hu5
    go_wp2_with fail
    go_roundw
    case rel => exact ⟨k + 1, by omega, by go_num, hu'.out.trans hu5.out, HT⟩
    case measure => simp [intOf]; omega
   ·have e1 : sameB x.o y.o = false := by
     rcases e : sameB x.o y.o with _ | _
     ·rfl
     ·exact absurd ((sameB_iff _ _).1 e) he
    have HN := Lib.hid (HN.out he)
    rw [e1] at kS
    clear he HT hu ox oy
    go_wp2_with fail
    refine wp_region_noPanic ?_
    refine wp_region_held_drew (S := fun w' => Up wr w') (by kernel_rfl) (Up.drew wr) (fun hHeld => ?_)
    refine tk 0 17 (v := ?_) ?_ ?_
    rotate_left
    ·intro w' hSw; clear hSw; go_simp; try (with_reducible rfl)
    try simp only [tkA, tkB, tkC]
    refine tk 1 18 (v := ?_) ?_ ?_
    rotate_left
    ·intro w' hSw; clear hSw; go_simp; try (with_reducible rfl)
    try simp only [tkA, tkB, tkC]
    refine tk 2 19 (v := ?_) ?_ ?_
    rotate_left
    ·intro w' hSw; clear hSw; go_simp; try (with_reducible rfl)
    try simp only [tkA, tkB, tkC]
    refine tk 3 20 (v := ?_) ?_ ?_
    rotate_left
    ·intro w' hS0; go_simp; try (with_reducible rfl)
    try simp only [tkA, tkB, tkC]
    refine tk 4 21 (v := ?_) ?_ ?_
    rotate_left
    ·intro w' hSw; clear hSw; go_simp; try (with_reducible rfl)
    try simp only [tkA, tkB, tkC]
    refine tk 5 22 (v := ?_) ?_ ?_
    rotate_left
    ·intro w' hSw; clear hSw; go_simp; try (with_reducible rfl)
    try simp only [tkA, tkB, tkC]
    refine tk 6 23 (v := ?_) ?_ ?_
    rotate_left
    ·intro w' hSw; clear hSw; go_simp; try (with_reducible rfl)
    try simp only [tkA, tkB, tkC]
    refine tk 7 24 (v := ?_) ?_ ?_
    rotate_left
    ·intro w' hS0; go_simp; try (with_reducible rfl)
    try simp only [tkA, tkB, tkC]
    refine wpAnyH_ready (rs := [8]) (by kernel_rfl) (by simp) ?_
    refine AllReadyH.cons rfl (fun K hK => ?_) AllReadyH.nil
    go_simp
    go_at_call 28
    refine (kS _ ‹_›).mono ?_
    rintro e w5 ⟨rfl, hb5⟩
    have hu5 : Up wr w5 := (Up.drew _).trans (Up.of hb5)
    refine hK.out _ _ hu5 (fun hHeld => ?_)
    clear hK K hHeld
    refine wpAnyH_more (S' := fun w' => Up w5 w') (fun w' h => Up.trans hu5 h) _ _ _ _ ?_
    have hHeld := Up.refl w5
    refine tk 9 26 (v := ?_) ?_ ?_
    rotate_left
    ·intro w' hSw; clear hSw; go_simp; try (with_reducible rfl)
    try simp only [tkA, tkB, tkC]
    refine wpAnyH_done (by kernel_rfl) ?_ _
    refine NoPanic.normal ?_
    clear hHeld
    have hu5 := Lib.hid hu5
    go_wp2_with fail
    go_ret
    exact ⟨by rw [sameL_not HN.out]; rfl, (hu'.out.trans hu5.out).b⟩
  ·obtain rfl : k = xs.length := by omega
   have t1 : decide ((xs.length : Int) < (xs.length : Int)) = false := by simp
   have HX : Hid (sameL (opL xs) (opL ys) = true) := (sameL_iff _ _).2 (by
    have h := hK.out
    rw [← opL_len xs, List.take_length, opL_len, ← HL.out, ← opL_len ys, List.take_length] at h
    exact h)
   go_wp2_with fail
   go_ret
   exact ⟨by rw [HX.out]; rfl, hu.b⟩
end Go.Proofs.YtcomeidcmcegfaaDoor
