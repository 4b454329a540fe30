/-
  The walks of Has and clash of the reference's layer 51. Conditions: the operations are readable.
  The walk of put of the reference's layer 51. Conditions: the operations are readable; at most a hundred million of them.
-/
import Derived.Test.YtcomeidcmcegfaaGreatDoorZW
import Derived.Test.YtcomeidcmcegfaaGreatDoorZU
import Derived.Test.YtcomeidcmcegfaaGreatDoorZS
namespace Go.Proofs.YtcomeidcmcegfaaGreatDoor
open Go.RowKit
set_option linter.unusedVariables false
set_option linter.unusedSimpArgs false
theorem row_yields {P : Program} {ops : Array Oper} {S : World → Prop} {op : Oper} {a : Act} (hw : Region.wanted op (yielded ops a.tmps) = true) (ty : TypeId) (x : Operand) (ho : op.op = .load ty x)
 (g : Nat) (hx : a.eval x = .pointer (some ⟨g, 0, none⟩)) (t : TypeId) (c : Array Value) (d : TypeDesc) (hS : ∀ w, S w → Blk w g t c)
 (hu : P.underlying ty = some d) (hd : (match d with | .struct _ | .array _ _ => true | _ => false) = true) (hi : (P.info? ty).map (·.size) = some c.size) : YieldsIf P ops S op (.agg c) a :=
 .inl ⟨hw, fun w hw' => by
  have hrun := run_loadVar_row (P := P) w g t ty c (0, 0) d (hS w hw') hu hd hi
  unfold execOp
  simp only [ho, hx, Instr.loadAt, Instr.sureAddr, Sem.run_bind, Sem.run_pure, Result.andThen_ok, hrun]⟩
def HasR (wb : World) (xs : List OX) (q : OP → Bool) (vi : Value) (wr : World) : Prop := ∃ k : Nat, k ≤ xs.length ∧ vi = .int .i64 k ∧ Up wb wr ∧ Hid ((opL xs).any q = ((opL xs).drop k).any q)
set_option maxRecDepth 100000 in
set_option maxHeartbeats 8000000 in
theorem rhas_any (w : World) (A : Option Addr) (c : Nat) (xs : List OX) (o : OP) (Ao : Option Addr) (co : Nat) (hx : OpsRd w A xs) (hl : xs.length ≤ maxLen) (ho : OX.Ok w ⟨o, Ao, co⟩) :
 Calls Tryz.prog 33 #[.slice A xs.length c, opV o Ao co] w (RetBool (hasB (opL xs) o) w) := by
 unfold maxLen at hl
 have HR : Hid (hasB (opL xs) o = (opL xs).any fun p => sameB p o) := rfl
 obtain ⟨q, hq⟩ : ∃ q : OP → Bool, q = fun p => sameB p o := ⟨_, rfl⟩
 have Hq : Hid (∀ p, q p = sameB p o) := fun p => by rw [hq]
 rw [← hq] at HR
 clear hq
 have hb0 := Up.alloc' w (.cells (opC o Ao co).toArray 43)
 have hZ := Blk.new w 43 (opC o Ao co).toArray
 have hx' := hx.below hb0.b
 have ho' := ho.below hb0.b
 have HB0 := Lib.hid hb0
 clear hx ho hb0
 unfold opV opC
 go_enter Tryz.func33, Tryz.ntmps33
 go_wp2_with fail
 go_loopw [5] (HasR (w.alloc (.cells (opC o Ao co).toArray 43)) xs q) (fun i _ => xs.length - (intOf i).toNat)
 case atStart => exact ⟨0, Nat.zero_le _, rfl, Up.refl _, rfl⟩
 case round =>
  obtain ⟨k, hk, rfl, hu, hK⟩ := hrel
  by_cases hlt : k < xs.length
  ·have t1 : decide ((k : Int) < (xs.length : Int)) = true := decide_eq_true (by omega)
   have t2 : (k : Int) < (xs.length : Int) := by omega
   have t3 : 0 ≤ (k : Int) := by omega
   obtain ⟨b, off, rfl, -, hrg⟩ := hx'.range hlt
   have ox := (hx'.below hu.b).ok _ (List.getElem_mem hlt)
   have oy := ho'.below hu.b
   have hH := Lib.hid (any_hit (p := q) (l := opL xs) (k := k) (by rw [opL_len]; exact hlt) hK.out)
   have hN := Lib.hid (any_next (p := q) (l := opL xs) (k := k) (by rw [opL_len]; exact hlt) hK.out)
   simp only [opL_get xs k hlt] at hH hN
   generalize xs[k] = x at *
   have kS := fun w' (u : Up wr w') => rsame_any w' x.o o x.A Ao x.c co (ox.rd.below u.b) (oy.rd.below u.b) (ox.bd.ol) (oy.bd.ol)
   unfold opV opC at kS
   have m0 : ∀ w', Up wr w' → w'.cell? ⟨b, off + k * 15, none⟩ = some (.int .i64 x.o.ac) := fun w' u => (hu.trans u).cell (hrg 0 _ rfl)
   have m1 : ∀ w', Up wr w' → w'.cell? ⟨b, off + k * 15 + 1, none⟩ = some (.int .i64 x.o.ad) := fun w' u => (hu.trans u).cell (hrg 1 _ rfl)
   have m2 : ∀ w', Up wr w' → w'.cell? ⟨b, off + k * 15 + 2, none⟩ = some (.int .i64 x.o.kd) := fun w' u => (hu.trans u).cell (hrg 2 _ rfl)
   have m3 : ∀ w', Up wr w' → w'.cell? ⟨b, off + k * 15 + 3, none⟩ = some (.int .i64 x.o.rc) := fun w' u => (hu.trans u).cell (hrg 3 _ rfl)
   have m4 : ∀ w', Up wr w' → w'.cell? ⟨b, off + k * 15 + 4, none⟩ = some (.int .i64 x.o.id) := fun w' u => (hu.trans u).cell (hrg 4 _ rfl)
   have m5 : ∀ w', Up wr w' → w'.cell? ⟨b, off + k * 15 + 5, none⟩ = some (.int .i64 x.o.ti) := fun w' u => (hu.trans u).cell (hrg 5 _ rfl)
   have m6 : ∀ w', Up wr w' → w'.cell? ⟨b, off + k * 15 + 6, none⟩ = some (.int .i64 x.o.pa) := fun w' u => (hu.trans u).cell (hrg 6 _ rfl)
   have m7 : ∀ w', Up wr w' → w'.cell? ⟨b, off + k * 15 + 7, none⟩ = some (.int .i64 x.o.sf) := fun w' u => (hu.trans u).cell (hrg 7 _ rfl)
   have m8 : ∀ w', Up wr w' → w'.cell? ⟨b, off + k * 15 + 8, none⟩ = some (.int .i64 x.o.st) := fun w' u => (hu.trans u).cell (hrg 8 _ rfl)
   have m9 : ∀ w', Up wr w' → w'.cell? ⟨b, off + k * 15 + 9, none⟩ = some (.int .i64 x.o.rk) := fun w' u => (hu.trans u).cell (hrg 9 _ rfl)
   have m10 : ∀ w', Up wr w' → w'.cell? ⟨b, off + k * 15 + 10, none⟩ = some (.string ⟨x.o.nt.toArray⟩) := fun w' u => (hu.trans u).cell (hrg 10 _ rfl)
   have m11 : ∀ w', Up wr w' → w'.cell? ⟨b, off + k * 15 + 11, none⟩ = some (.int .i64 x.o.se) := fun w' u => (hu.trans u).cell (hrg 11 _ rfl)
   have m12 : ∀ w', Up wr w' → w'.cell? ⟨b, off + k * 15 + 12, none⟩ = some (.int .i64 x.o.nn) := fun w' u => (hu.trans u).cell (hrg 12 _ rfl)
   have m13 : ∀ w', Up wr w' → w'.cell? ⟨b, off + k * 15 + 13, none⟩ = some (.string ⟨x.o.tx.toArray⟩) := fun w' u => (hu.trans u).cell (hrg 13 _ rfl)
   have m14 : ∀ w', Up wr w' → w'.cell? ⟨b, off + k * 15 + 14, none⟩ = some (.slice x.A x.o.ov.length x.c) := fun w' u => (hu.trans u).cell (hrg 14 _ rfl)
   have hZr := hZ.up hu
   have hu' := Lib.hid hu
   clear hrg ox oy
   rcases hsm : sameB x.o o with _ | _
   ·have HP := Lib.hid (hN.out ((Hq.out _).trans hsm))
    simp only [hsm] at kS
    clear hsm hu
    go_wp2_with fail
    refine wp_region_noPanic ?_
    refine wp_region_held_drew (S := fun w' => Up wr w') (by kernel_rfl) (Up.drew wr) (fun hHeld => ?_)
    refine tk 0 12 (v := ?_) ?_ ?_
    rotate_left
    ·intro w' hSw; clear hSw; go_simp; try (with_reducible rfl)
    try simp only [tkA, tkB, tkC]
    refine tk 1 13 (v := ?_) ?_ ?_
    rotate_left
    ·intro w' hSw; clear hSw; go_simp; try (with_reducible rfl)
    try simp only [tkA, tkB, tkC]
    refine tk 2 14 (v := ?_) ?_ ?_
    rotate_left
    ·intro w' hSw; clear hSw; go_simp; try (with_reducible rfl)
    try simp only [tkA, tkB, tkC]
    refine tk 3 15 (v := ?_) ?_ ?_
    rotate_left
    ·intro w' hS0; go_simp; try (with_reducible rfl)
    try simp only [tkA, tkB, tkC]
    refine wpAnyH_take (i := 4) (v := .agg (opC o Ao co).toArray) rfl (by kernel_rfl) (by kernel_rfl) (by kernel_rfl) (fun _ _ _ h => h) (row_yields (by rfl) _ _ rfl w.heap.size (by go_simp) _ (opC o Ao co).toArray _ (fun w' h => Blk.up hZr h) Tryz.underlying43 rfl (by kernel_rfl)) (by assumption) ?_
    change wpAnyH _ _ _ _ _ _ _ (Act.put _ (some 16) _) _
    try simp only [Act.put, tkA, tkB, tkC]
    refine wpAnyH_ready (rs := [5]) (by kernel_rfl) (by simp) ?_
    refine AllReadyH.cons rfl (fun K hK => ?_) AllReadyH.nil
    go_simp
    go_at_call 12
    refine (kS _ hHeld).mono ?_
    rintro e w9 ⟨rfl, hb9⟩
    have hu9 : Up wr w9 := hHeld.trans (Up.of hb9)
    refine hK.out _ _ hu9 (fun hHeld => ?_)
    clear hK K hHeld
    refine wpAnyH_more (S' := fun w' => Up w9 w') (fun w' h => Up.trans hu9 h) _ _ _ _ ?_
    have hHeld := Up.refl w9
    refine wpAnyH_done (by kernel_rfl) ?_ _
    refine NoPanic.normal ?_
    clear hHeld
    have hu5 := Lib.hid hu9
    clear hu9 hb9
    go_wp2_with fail
    go_roundw
    case rel => exact ⟨k + 1, hlt, by go_num, hu'.out.trans hu5.out, HP.out⟩
    case measure => simp [intOf]; omega
   ·have HP := Lib.hid (hH.out ((Hq.out _).trans hsm))
    simp only [hsm] at kS
    clear hsm hu
    go_wp2_with fail
    refine wp_region_noPanic ?_
    refine wp_region_held_drew (S := fun w' => Up wr w') (by kernel_rfl) (Up.drew wr) (fun hHeld => ?_)
    refine tk 0 12 (v := ?_) ?_ ?_
    rotate_left
    ·intro w' hSw; clear hSw; go_simp; try (with_reducible rfl)
    try simp only [tkA, tkB, tkC]
    refine tk 1 13 (v := ?_) ?_ ?_
    rotate_left
    ·intro w' hSw; clear hSw; go_simp; try (with_reducible rfl)
    try simp only [tkA, tkB, tkC]
    refine tk 2 14 (v := ?_) ?_ ?_
    rotate_left
    ·intro w' hSw; clear hSw; go_simp; try (with_reducible rfl)
    try simp only [tkA, tkB, tkC]
    refine tk 3 15 (v := ?_) ?_ ?_
    rotate_left
    ·intro w' hS0; go_simp; try (with_reducible rfl)
    try simp only [tkA, tkB, tkC]
    refine wpAnyH_take (i := 4) (v := .agg (opC o Ao co).toArray) rfl (by kernel_rfl) (by kernel_rfl) (by kernel_rfl) (fun _ _ _ h => h) (row_yields (by rfl) _ _ rfl w.heap.size (by go_simp) _ (opC o Ao co).toArray _ (fun w' h => Blk.up hZr h) Tryz.underlying43 rfl (by kernel_rfl)) (by assumption) ?_
    change wpAnyH _ _ _ _ _ _ _ (Act.put _ (some 16) _) _
    try simp only [Act.put, tkA, tkB, tkC]
    refine wpAnyH_ready (rs := [5]) (by kernel_rfl) (by simp) ?_
    refine AllReadyH.cons rfl (fun K hK => ?_) AllReadyH.nil
    go_simp
    go_at_call 12
    refine (kS _ hHeld).mono ?_
    rintro e w9 ⟨rfl, hb9⟩
    have hu9 : Up wr w9 := hHeld.trans (Up.of hb9)
    refine hK.out _ _ hu9 (fun hHeld => ?_)
    clear hK K hHeld
    refine wpAnyH_more (S' := fun w' => Up w9 w') (fun w' h => Up.trans hu9 h) _ _ _ _ ?_
    have hHeld := Up.refl w9
    refine wpAnyH_done (by kernel_rfl) ?_ _
    refine NoPanic.normal ?_
    clear hHeld
    have hu5 := Lib.hid hu9
    clear hu9 hb9
    go_wp2_with fail
    go_ret
    exact ⟨by rw [HR.out, HP.out]; rfl, (HB0.out.trans (hu'.out.trans hu5.out)).b⟩
  ·obtain rfl : k = xs.length := by omega
   have t1 : decide ((xs.length : Int) < (xs.length : Int)) = false := by simp
   have HP := Lib.hid (any_end (p := q) (l := opL xs) (by rw [opL_len]; exact hK.out))
   go_wp2_with fail
   go_ret
   exact ⟨by rw [HR.out, HP.out]; rfl, (HB0.out.trans hu).b⟩
set_option maxRecDepth 100000 in
set_option maxHeartbeats 8000000 in
theorem rclash_any (w : World) (A : Option Addr) (c : Nat) (xs : List OX) (o : OP) (Ao : Option Addr) (co : Nat) (hx : OpsRd w A xs) (hl : xs.length ≤ maxLen) (ho : OX.Ok w ⟨o, Ao, co⟩) :
 Calls Tryz.prog 32 #[.slice A xs.length c, opV o Ao co] w (RetBool (clashB (opL xs) o) w) := by
 unfold maxLen at hl
 have HR : Hid (clashB (opL xs) o = (opL xs).any fun p => atEq p o && !sameB p o) := rfl
 obtain ⟨q, hq⟩ : ∃ q : OP → Bool, q = fun p => atEq p o && !sameB p o := ⟨_, rfl⟩
 have Hq : Hid (∀ p, q p = ((p.ac == o.ac && p.ad == o.ad) && !sameB p o)) := fun p => by
  subst hq
  have e : atEq p o = (p.ac == o.ac && p.ad == o.ad) := by
   rw [Bool.eq_iff_iff, atEq_iff, Bool.and_eq_true, beq_iff_eq, beq_iff_eq]
  show (atEq p o && _) = _
  rw [e]
 rw [← hq] at HR
 clear hq
 have hb0 := Up.alloc' w (.cells (opC o Ao co).toArray 43)
 have hZ := Blk.new w 43 (opC o Ao co).toArray
 have hx' := hx.below hb0.b
 have ho' := ho.below hb0.b
 have HB0 := Lib.hid hb0
 clear hx ho hb0
 unfold opV opC
 go_enter Tryz.func32, Tryz.ntmps32
 go_wp2_with fail
 go_loopw [5] (HasR (w.alloc (.cells (opC o Ao co).toArray 43)) xs q) (fun i _ => xs.length - (intOf i).toNat)
 case atStart => exact ⟨0, Nat.zero_le _, rfl, Up.refl _, rfl⟩
 case round =>
  obtain ⟨k, hk, rfl, hu, hK⟩ := hrel
  by_cases hlt : k < xs.length
  ·have t1 : decide ((k : Int) < (xs.length : Int)) = true := decide_eq_true (by omega)
   have t2 : (k : Int) < (xs.length : Int) := by omega
   have t3 : 0 ≤ (k : Int) := by omega
   obtain ⟨b, off, rfl, -, hrg⟩ := hx'.range hlt
   have ox := (hx'.below hu.b).ok _ (List.getElem_mem hlt)
   have oy := ho'.below hu.b
   have hH := Lib.hid (any_hit (p := q) (l := opL xs) (k := k) (by rw [opL_len]; exact hlt) hK.out)
   have hN := Lib.hid (any_next (p := q) (l := opL xs) (k := k) (by rw [opL_len]; exact hlt) hK.out)
   simp only [opL_get xs k hlt] at hH hN
   generalize xs[k] = x at *
   have kS := fun w' (u : Up wr w') => rsame_any w' x.o o x.A Ao x.c co (ox.rd.below u.b) (oy.rd.below u.b) (ox.bd.ol) (oy.bd.ol)
   unfold opV opC at kS
   have m0 : ∀ w', Up wr w' → w'.cell? ⟨b, off + k * 15, none⟩ = some (.int .i64 x.o.ac) := fun w' u => (hu.trans u).cell (hrg 0 _ rfl)
   have m1 : ∀ w', Up wr w' → w'.cell? ⟨b, off + k * 15 + 1, none⟩ = some (.int .i64 x.o.ad) := fun w' u => (hu.trans u).cell (hrg 1 _ rfl)
   have m2 : ∀ w', Up wr w' → w'.cell? ⟨b, off + k * 15 + 2, none⟩ = some (.int .i64 x.o.kd) := fun w' u => (hu.trans u).cell (hrg 2 _ rfl)
   have m3 : ∀ w', Up wr w' → w'.cell? ⟨b, off + k * 15 + 3, none⟩ = some (.int .i64 x.o.rc) := fun w' u => (hu.trans u).cell (hrg 3 _ rfl)
   have m4 : ∀ w', Up wr w' → w'.cell? ⟨b, off + k * 15 + 4, none⟩ = some (.int .i64 x.o.id) := fun w' u => (hu.trans u).cell (hrg 4 _ rfl)
   have m5 : ∀ w', Up wr w' → w'.cell? ⟨b, off + k * 15 + 5, none⟩ = some (.int .i64 x.o.ti) := fun w' u => (hu.trans u).cell (hrg 5 _ rfl)
   have m6 : ∀ w', Up wr w' → w'.cell? ⟨b, off + k * 15 + 6, none⟩ = some (.int .i64 x.o.pa) := fun w' u => (hu.trans u).cell (hrg 6 _ rfl)
   have m7 : ∀ w', Up wr w' → w'.cell? ⟨b, off + k * 15 + 7, none⟩ = some (.int .i64 x.o.sf) := fun w' u => (hu.trans u).cell (hrg 7 _ rfl)
   have m8 : ∀ w', Up wr w' → w'.cell? ⟨b, off + k * 15 + 8, none⟩ = some (.int .i64 x.o.st) := fun w' u => (hu.trans u).cell (hrg 8 _ rfl)
   have m9 : ∀ w', Up wr w' → w'.cell? ⟨b, off + k * 15 + 9, none⟩ = some (.int .i64 x.o.rk) := fun w' u => (hu.trans u).cell (hrg 9 _ rfl)
   have m10 : ∀ w', Up wr w' → w'.cell? ⟨b, off + k * 15 + 10, none⟩ = some (.string ⟨x.o.nt.toArray⟩) := fun w' u => (hu.trans u).cell (hrg 10 _ rfl)
   have m11 : ∀ w', Up wr w' → w'.cell? ⟨b, off + k * 15 + 11, none⟩ = some (.int .i64 x.o.se) := fun w' u => (hu.trans u).cell (hrg 11 _ rfl)
   have m12 : ∀ w', Up wr w' → w'.cell? ⟨b, off + k * 15 + 12, none⟩ = some (.int .i64 x.o.nn) := fun w' u => (hu.trans u).cell (hrg 12 _ rfl)
   have m13 : ∀ w', Up wr w' → w'.cell? ⟨b, off + k * 15 + 13, none⟩ = some (.string ⟨x.o.tx.toArray⟩) := fun w' u => (hu.trans u).cell (hrg 13 _ rfl)
   have m14 : ∀ w', Up wr w' → w'.cell? ⟨b, off + k * 15 + 14, none⟩ = some (.slice x.A x.o.ov.length x.c) := fun w' u => (hu.trans u).cell (hrg 14 _ rfl)
   have hZr := hZ.up hu
   have y0 : ∀ w', Up wr w' → w'.cell? ⟨w.heap.size, 0, none⟩ = some (.int .i64 o.ac) := fun w' u => by rw [(hZr.up u).cell]; rfl
   have y1 : ∀ w', Up wr w' → w'.cell? ⟨w.heap.size, 1, none⟩ = some (.int .i64 o.ad) := fun w' u => by rw [(hZr.up u).cell]; rfl
   have hs := fun w => stamp_eql x.o.ac x.o.ad o.ac o.ad w
   have hu' := Lib.hid hu
   clear hrg ox oy
   rcases e1 : (x.o.ac == o.ac && x.o.ad == o.ad) with _ | _
   ·have HP := Lib.hid (hN.out (by rw [Hq.out, e1]; rfl))
    rw [e1] at hs
    clear e1 hu kS
    go_wp2_with fail
    refine wp_region_noPanic ?_
    refine wp_region_held_drew (S := fun w' => Up wr w') (by kernel_rfl) (Up.drew wr) (fun hHeld => ?_)
    refine tk 0 12 (v := ?_) ?_ ?_
    rotate_left
    ·intro w' hSw; clear hSw; go_simp; try (with_reducible rfl)
    try simp only [tkA, tkB, tkC]
    refine tk 1 13 (v := ?_) ?_ ?_
    rotate_left
    ·intro w' hSw; clear hSw; go_simp; try (with_reducible rfl)
    try simp only [tkA, tkB, tkC]
    refine tk 2 14 (v := ?_) ?_ ?_
    rotate_left
    ·intro w' hSw; clear hSw; go_simp; try (with_reducible rfl)
    try simp only [tkA, tkB, tkC]
    refine tk 3 15 (v := ?_) ?_ ?_
    rotate_left
    ·intro w' hSw; clear hSw; go_simp; try (with_reducible rfl)
    try simp only [tkA, tkB, tkC]
    refine tk 4 16 (v := ?_) ?_ ?_
    rotate_left
    ·intro w' hS0; go_simp; try (with_reducible rfl)
    try simp only [tkA, tkB, tkC]
    refine tk 5 17 (v := ?_) ?_ ?_
    rotate_left
    ·intro w' hSw; clear hSw; go_simp; try (with_reducible rfl)
    try simp only [tkA, tkB, tkC]
    refine tk 6 18 (v := ?_) ?_ ?_
    rotate_left
    ·intro w' hS0; go_simp; try (with_reducible rfl)
    try simp only [tkA, tkB, tkC]
    refine tk 7 19 (v := ?_) ?_ ?_
    rotate_left
    ·intro w' hSw; clear hSw; go_simp; try (with_reducible rfl)
    try simp only [tkA, tkB, tkC]
    refine tk 8 20 (v := ?_) ?_ ?_
    rotate_left
    ·intro w' hSw; clear hSw; go_simp; try (with_reducible rfl)
    try simp only [tkA, tkB, tkC]
    refine held_skip 9 rfl (by kernel_rfl) (by kernel_rfl) (by kernel_rfl) (fun _ _ _ h => h) (by rfl) (by assumption) ?_
    change wpAnyH _ _ _ _ _ _ _ (Act.put _ (some 21) _) _
    try simp only [Act.put, tkA, tkB, tkC]
    refine held_skip 10 rfl (by kernel_rfl) (by kernel_rfl) (by kernel_rfl) (fun _ _ _ h => h) (by rfl) (by assumption) ?_
    change wpAnyH _ _ _ _ _ _ _ (Act.put _ (some 22) _) _
    try simp only [Act.put, tkA, tkB, tkC]
    refine held_skip 11 rfl (by kernel_rfl) (by kernel_rfl) (by kernel_rfl) (fun _ _ _ h => h) (by rfl) (by assumption) ?_
    change wpAnyH _ _ _ _ _ _ _ (Act.put _ (some 23) _) _
    try simp only [Act.put, tkA, tkB, tkC]
    refine held_skip 12 rfl (by kernel_rfl) (by kernel_rfl) (by kernel_rfl) (fun _ _ _ h => h) (by rfl) (by assumption) ?_
    change wpAnyH _ _ _ _ _ _ _ (Act.put _ (some 24) _) _
    try simp only [Act.put, tkA, tkB, tkC]
    refine held_skip 13 rfl (by kernel_rfl) (by kernel_rfl) (by kernel_rfl) (fun _ _ _ h => h) (by rfl) (by assumption) ?_
    change wpAnyH _ _ _ _ _ _ _ (Act.put _ (some 25) _) _
    try simp only [Act.put, tkA, tkB, tkC]
    refine held_skip 14 rfl (by kernel_rfl) (by kernel_rfl) (by kernel_rfl) (fun _ _ _ h => h) (by rfl) (by assumption) ?_
    change wpAnyH _ _ _ _ _ _ _ (Act.put _ (some 26) _) _
    try simp only [Act.put, tkA, tkB, tkC]
    refine held_skip 15 rfl (by kernel_rfl) (by kernel_rfl) (by kernel_rfl) (fun _ _ _ h => h) (by rfl) (by assumption) ?_
    change wpAnyH _ _ _ _ _ _ _ (Act.put _ (some 27) _) _
    try simp only [Act.put, tkA, tkB, tkC]
    refine tk 16 28 (v := ?_) ?_ ?_
    rotate_left
    ·intro w' hSw; clear hSw; go_simp; try (with_reducible rfl)
    try simp only [tkA, tkB, tkC]
    refine wpAnyH_done (by kernel_rfl) ?_ _
    refine NoPanic.normal ?_
    clear hHeld
    go_wp2_with fail
    go_roundw
    case rel => exact ⟨k + 1, hlt, by go_num, hu'.out.trans (Up.drew wr), HP.out⟩
    case measure => simp [intOf]; omega
   ·rw [e1] at hs
    have He := Lib.hid e1
    clear e1
    rcases hsm : sameB x.o o with _ | _
    ·have HP := Lib.hid (hH.out (by rw [Hq.out, He.out, hsm]; rfl))
     simp only [hsm] at kS
     clear hsm hu
     go_wp2_with fail
     refine wp_region_noPanic ?_
     refine wp_region_held_drew (S := fun w' => Up wr w') (by kernel_rfl) (Up.drew wr) (fun hHeld => ?_)
     refine tk 0 12 (v := ?_) ?_ ?_
     rotate_left
     ·intro w' hSw; clear hSw; go_simp; try (with_reducible rfl)
     try simp only [tkA, tkB, tkC]
     refine tk 1 13 (v := ?_) ?_ ?_
     rotate_left
     ·intro w' hSw; clear hSw; go_simp; try (with_reducible rfl)
     try simp only [tkA, tkB, tkC]
     refine tk 2 14 (v := ?_) ?_ ?_
     rotate_left
     ·intro w' hSw; clear hSw; go_simp; try (with_reducible rfl)
     try simp only [tkA, tkB, tkC]
     refine tk 3 15 (v := ?_) ?_ ?_
     rotate_left
     ·intro w' hSw; clear hSw; go_simp; try (with_reducible rfl)
     try simp only [tkA, tkB, tkC]
     refine tk 4 16 (v := ?_) ?_ ?_
     rotate_left
     ·intro w' hS0; go_simp; try (with_reducible rfl)
     try simp only [tkA, tkB, tkC]
     refine tk 5 17 (v := ?_) ?_ ?_
     rotate_left
     ·intro w' hSw; clear hSw; go_simp; try (with_reducible rfl)
     try simp only [tkA, tkB, tkC]
     refine tk 6 18 (v := ?_) ?_ ?_
     rotate_left
     ·intro w' hS0; go_simp; try (with_reducible rfl)
     try simp only [tkA, tkB, tkC]
     refine tk 7 19 (v := ?_) ?_ ?_
     rotate_left
     ·intro w' hSw; clear hSw; go_simp; try (with_reducible rfl)
     try simp only [tkA, tkB, tkC]
     refine tk 8 20 (v := ?_) ?_ ?_
     rotate_left
     ·intro w' hSw; clear hSw; go_simp; try (with_reducible rfl)
     try simp only [tkA, tkB, tkC]
     refine tk 9 21 (v := ?_) ?_ ?_
     rotate_left
     ·intro w' hSw; clear hSw; go_simp; try (with_reducible rfl)
     try simp only [tkA, tkB, tkC]
     refine tk 10 22 (v := ?_) ?_ ?_
     rotate_left
     ·intro w' hSw; clear hSw; go_simp; try (with_reducible rfl)
     try simp only [tkA, tkB, tkC]
     refine tk 11 23 (v := ?_) ?_ ?_
     rotate_left
     ·intro w' hSw; clear hSw; go_simp; try (with_reducible rfl)
     try simp only [tkA, tkB, tkC]
     refine tk 12 24 (v := ?_) ?_ ?_
     rotate_left
     ·intro w' hS0; go_simp; try (with_reducible rfl)
     try simp only [tkA, tkB, tkC]
     refine wpAnyH_take (i := 13) (v := .agg (opC o Ao co).toArray) rfl (by kernel_rfl) (by kernel_rfl) (by kernel_rfl) (fun _ _ _ h => h) (row_yields (by rfl) _ _ rfl w.heap.size (by go_simp) _ (opC o Ao co).toArray _ (fun w' h => Blk.up hZr h) Tryz.underlying43 rfl (by kernel_rfl)) (by assumption) ?_
     change wpAnyH _ _ _ _ _ _ _ (Act.put _ (some 25) _) _
     try simp only [Act.put, tkA, tkB, tkC]
     refine wpAnyH_ready (rs := [14]) (by kernel_rfl) (by simp) ?_
     refine AllReadyH.cons rfl (fun K hK => ?_) AllReadyH.nil
     go_simp
     go_at_call 12
     refine (kS _ hHeld).mono ?_
     rintro e w9 ⟨rfl, hb9⟩
     have hu9 : Up wr w9 := hHeld.trans (Up.of hb9)
     refine hK.out _ _ hu9 (fun hHeld => ?_)
     clear hK K hHeld
     refine wpAnyH_more (S' := fun w' => Up w9 w') (fun w' h => Up.trans hu9 h) _ _ _ _ ?_
     have hHeld := Up.refl w9
     refine tk 15 27 (v := ?_) ?_ ?_
     rotate_left
     ·intro w' hSw; clear hSw; go_simp; try (with_reducible rfl)
     try simp only [tkA, tkB, tkC]
     refine tk 16 28 (v := ?_) ?_ ?_
     rotate_left
     ·intro w' hSw; clear hSw; go_simp; try (with_reducible rfl)
     try simp only [tkA, tkB, tkC]
     refine wpAnyH_done (by kernel_rfl) ?_ _
     refine NoPanic.normal ?_
     clear hHeld
     have hu5 := Lib.hid hu9
     clear hu9 hb9
     go_wp2_with fail
     go_ret
     exact ⟨by rw [HR.out, HP.out]; rfl, (HB0.out.trans (hu'.out.trans hu5.out)).b⟩
    ·have HP := Lib.hid (hN.out (by rw [Hq.out, He.out, hsm]; rfl))
     simp only [hsm] at kS
     clear hsm hu
     go_wp2_with fail
     refine wp_region_noPanic ?_
     refine wp_region_held_drew (S := fun w' => Up wr w') (by kernel_rfl) (Up.drew wr) (fun hHeld => ?_)
     refine tk 0 12 (v := ?_) ?_ ?_
     rotate_left
     ·intro w' hSw; clear hSw; go_simp; try (with_reducible rfl)
     try simp only [tkA, tkB, tkC]
     refine tk 1 13 (v := ?_) ?_ ?_
     rotate_left
     ·intro w' hSw; clear hSw; go_simp; try (with_reducible rfl)
     try simp only [tkA, tkB, tkC]
     refine tk 2 14 (v := ?_) ?_ ?_
     rotate_left
     ·intro w' hSw; clear hSw; go_simp; try (with_reducible rfl)
     try simp only [tkA, tkB, tkC]
     refine tk 3 15 (v := ?_) ?_ ?_
     rotate_left
     ·intro w' hSw; clear hSw; go_simp; try (with_reducible rfl)
     try simp only [tkA, tkB, tkC]
     refine tk 4 16 (v := ?_) ?_ ?_
     rotate_left
     ·intro w' hS0; go_simp; try (with_reducible rfl)
     try simp only [tkA, tkB, tkC]
     refine tk 5 17 (v := ?_) ?_ ?_
     rotate_left
     ·intro w' hSw; clear hSw; go_simp; try (with_reducible rfl)
     try simp only [tkA, tkB, tkC]
     refine tk 6 18 (v := ?_) ?_ ?_
     rotate_left
     ·intro w' hS0; go_simp; try (with_reducible rfl)
     try simp only [tkA, tkB, tkC]
     refine tk 7 19 (v := ?_) ?_ ?_
     rotate_left
     ·intro w' hSw; clear hSw; go_simp; try (with_reducible rfl)
     try simp only [tkA, tkB, tkC]
     refine tk 8 20 (v := ?_) ?_ ?_
     rotate_left
     ·intro w' hSw; clear hSw; go_simp; try (with_reducible rfl)
     try simp only [tkA, tkB, tkC]
     refine tk 9 21 (v := ?_) ?_ ?_
     rotate_left
     ·intro w' hSw; clear hSw; go_simp; try (with_reducible rfl)
     try simp only [tkA, tkB, tkC]
     refine tk 10 22 (v := ?_) ?_ ?_
     rotate_left
     ·intro w' hSw; clear hSw; go_simp; try (with_reducible rfl)
     try simp only [tkA, tkB, tkC]
     refine tk 11 23 (v := ?_) ?_ ?_
     rotate_left
     ·intro w' hSw; clear hSw; go_simp; try (with_reducible rfl)
     try simp only [tkA, tkB, tkC]
     refine tk 12 24 (v := ?_) ?_ ?_
     rotate_left
     ·intro w' hS0; go_simp; try (with_reducible rfl)
     try simp only [tkA, tkB, tkC]
     refine wpAnyH_take (i := 13) (v := .agg (opC o Ao co).toArray) rfl (by kernel_rfl) (by kernel_rfl) (by kernel_rfl) (fun _ _ _ h => h) (row_yields (by rfl) _ _ rfl w.heap.size (by go_simp) _ (opC o Ao co).toArray _ (fun w' h => Blk.up hZr h) Tryz.underlying43 rfl (by kernel_rfl)) (by assumption) ?_
     change wpAnyH _ _ _ _ _ _ _ (Act.put _ (some 25) _) _
     try simp only [Act.put, tkA, tkB, tkC]
     refine wpAnyH_ready (rs := [14]) (by kernel_rfl) (by simp) ?_
     refine AllReadyH.cons rfl (fun K hK => ?_) AllReadyH.nil
     go_simp
     go_at_call 12
     refine (kS _ hHeld).mono ?_
     rintro e w9 ⟨rfl, hb9⟩
     have hu9 : Up wr w9 := hHeld.trans (Up.of hb9)
     refine hK.out _ _ hu9 (fun hHeld => ?_)
     clear hK K hHeld
     refine wpAnyH_more (S' := fun w' => Up w9 w') (fun w' h => Up.trans hu9 h) _ _ _ _ ?_
     have hHeld := Up.refl w9
     refine tk 15 27 (v := ?_) ?_ ?_
     rotate_left
     ·intro w' hSw; clear hSw; go_simp; try (with_reducible rfl)
     try simp only [tkA, tkB, tkC]
     refine tk 16 28 (v := ?_) ?_ ?_
     rotate_left
     ·intro w' hSw; clear hSw; go_simp; try (with_reducible rfl)
     try simp only [tkA, tkB, tkC]
     refine wpAnyH_done (by kernel_rfl) ?_ _
     refine NoPanic.normal ?_
     clear hHeld
     have hu5 := Lib.hid hu9
     clear hu9 hb9
     go_wp2_with fail
     go_roundw
     case rel => exact ⟨k + 1, hlt, by go_num, hu'.out.trans hu5.out, HP.out⟩
     case measure => simp [intOf]; omega
  ·obtain rfl : k = xs.length := by omega
   have t1 : decide ((xs.length : Int) < (xs.length : Int)) = false := by simp
   have HP := Lib.hid (any_end (p := q) (l := opL xs) (by rw [opL_len]; exact hK.out))
   go_wp2_with fail
   go_ret
   exact ⟨by rw [HR.out, HP.out]; rfl, (HB0.out.trans hu).b⟩
end Go.Proofs.YtcomeidcmcegfaaGreatDoor
namespace Go.Proofs.YtcomeidcmcegfaaGreatDoor
open Go.RowKit
set_option linter.unusedVariables false
set_option linter.unusedSimpArgs false
theorem opC_oneM (o : OP) (A : Option Addr) (c : Nat) : ∀ u ∈ opC o A c, u.oneCell' = true := by
 intro u hu
 exact List.all_eq_true.1 (show (opC o A c).all (·.oneCell') = true by simp [opC, Value.oneCell']) u hu
theorem opsC_one (xs : List OX) : ∀ u ∈ opsC xs, u.oneCell' = true := by
 intro u hu
 obtain ⟨x, _, hx⟩ := List.mem_flatMap.1 hu
 exact opC_oneM _ _ _ u hx
theorem blk_rd {w : World} {g : Nat} {t : TypeId} {l : List Value} (h : Blk w g t l.toArray) : Rd w (some ⟨g, 0, none⟩) l := by
 intro _
 refine ⟨_, 0, rfl, h.lt, fun j u hu => ?_⟩
 rw [Nat.zero_add, h.cell]
 simpa using hu
def RetOps (l : List OP) (w : World) (e : Ending) (w' : World) : Prop :=
 ∃ A ys c, e = .returned (.slice A ys.length c) ∧ opL ys = l ∧ OpsRd w' A ys ∧ ys.length ≤ c ∧ Below w.heap.size w w' ∧ From A (opsC ys) w.heap.size
theorem put_fin {w W0 V : World} {A Ao A' : Option Addr} {co c' k : Nat} {xs : List OX} {o : OP} (hx : OpsRd w A xs) (ho : OX.Ok w ⟨o, Ao, co⟩) (hb : Below w.heap.size w V) (hk : k ≤ xs.length) (HP : putN (opL xs) o = k)
 (ow : Own V W0.heap.size 43 15 (.slice A' (k + 1 + (xs.length - k)) c') (k + 1 + (xs.length - k)) (opsC (xs.take k) ++ opC o Ao co ++ opsC (xs.drop k))) (h0 : w.heap.size ≤ W0.heap.size) :
 RetOps (putO (opL xs) o) w (.returned (.slice A' (k + 1 + (xs.length - k)) c')) V := by
 have hlen : (xs.take k ++ (⟨o, Ao, co⟩ : OX) :: xs.drop k).length = k + 1 + (xs.length - k) := by
  rw [List.length_append, List.length_cons, List.length_take, List.length_drop, Nat.min_eq_left hk]; omega
 have hcs : opsC (xs.take k ++ (⟨o, Ao, co⟩ : OX) :: xs.drop k) = opsC (xs.take k) ++ opC o Ao co ++ opsC (xs.drop k) := by
  rw [opsC_app, List.append_assoc]; rfl
 have hcap : k + 1 + (xs.length - k) ≤ c' := by
  obtain ⟨_, _, e, h, -⟩ := ow.form
  injection e with _ _ e
  rw [e]; exact h
 refine ⟨A', xs.take k ++ (⟨o, Ao, co⟩ : OX) :: xs.drop k, c', by rw [hlen], ?_, ⟨?_, ?_⟩, by rw [hlen]; exact hcap, hb, ?_⟩
 ·unfold putO
  rw [HP]
  simp [opL]
 ·rw [hcs]; exact ow.rd'
 ·intro y hy
  rcases List.mem_append.1 hy with hy | hy
  ·exact (hx.ok y (List.mem_of_mem_take hy)).below hb
  ·rcases List.mem_cons.1 hy with rfl | hy
   ·exact ho.below hb
   ·exact (hx.ok y (List.mem_of_mem_drop hy)).below hb
 ·rw [hcs]; exact ow.fromB h0
def PutR (wb : World) (xs : List OX) (o : OP) (vi : Value) (wr : World) : Prop := ∃ k : Nat, k ≤ xs.length ∧ vi = .int .i64 k ∧ Up wb wr ∧ Hid (putN (opL xs) o = putAt (opL xs) o k)
set_option maxRecDepth 100000 in
set_option maxHeartbeats 16000000 in
theorem rput_any (w : World) (A : Option Addr) (c : Nat) (xs : List OX) (o : OP) (Ao : Option Addr) (co : Nat) (hx : OpsRd w A xs) (hc : xs.length ≤ c) (hl : xs.length ≤ 100000000) (ho : OX.Ok w ⟨o, Ao, co⟩) :
 Calls Tryz.prog 34 #[.slice A xs.length c, opV o Ao co] w (RetOps (putO (opL xs) o) w) := by
 obtain ⟨i0, hi, hz0, hz1, hz2⟩ := info_parts info_op
 have hb0 := Up.alloc' w (.cells (opC o Ao co).toArray 43)
 have hZ := Blk.new w 43 (opC o Ao co).toArray
 have hx' := hx.below hb0.b
 have HB0 := Lib.hid hb0
 clear hb0
 unfold opV opC
 go_enter Tryz.func34, Tryz.ntmps34
 go_wp2_with fail
 go_loopw [5] (PutR (w.alloc (.cells (opC o Ao co).toArray 43)) xs o) (fun i _ => (intOf i).toNat)
 case atStart => exact ⟨xs.length, Nat.le_refl _, rfl, Up.refl _, by rw [Hid, putN, opL_len]⟩
 case round =>
  obtain ⟨k, hk, rfl, hu, hK⟩ := hrel
  have hZr := hZ.up hu
  have y0 : ∀ w', Up wr w' → w'.cell? ⟨w.heap.size, 0, none⟩ = some (.int .i64 o.ac) := fun w' u => by rw [(hZr.up u).cell]; rfl
  have y1 : ∀ w', Up wr w' → w'.cell? ⟨w.heap.size, 1, none⟩ = some (.int .i64 o.ad) := fun w' u => by rw [(hZr.up u).cell]; rfl
  by_cases h0 : k = 0
  ·have HP : Hid (putN (opL xs) o = k) := by rw [Hid, hK.out, h0]; rfl
   have t1 : decide (0 < (k : Int)) = false := decide_eq_false (by omega)
   have t2 : decide (0 < k) = false := decide_eq_false (by omega)
   have HU := Lib.hid hu
   clear h0 hu
   go_wp2_with fail
   refine wp_region_noPanic ?_
   refine wp_region_held_drew (S := fun w' => Up wr w') (by kernel_rfl) (Up.drew wr) (fun hHeld => ?_)
   refine tk 0 8 (v := ?_) ?_ ?_
   rotate_left
   ·intro w' hSw; clear hSw; go_simp; try (with_reducible rfl)
   try simp only [tkA, tkB, tkC]
   refine tk 1 9 (v := ?_) ?_ ?_
   rotate_left
   ·intro w' hSw; clear hSw; go_simp; try (with_reducible rfl)
   try simp only [tkA, tkB, tkC]
   refine tk 2 10 (v := ?_) ?_ ?_
   rotate_left
   ·intro w' hSw; clear hSw; go_simp; try (with_reducible rfl)
   try simp only [tkA, tkB, tkC]
   refine held_skip 3 rfl (by kernel_rfl) (by kernel_rfl) (by kernel_rfl) (fun _ _ _ h => h) (by rfl) (by assumption) ?_
   change wpAnyH _ _ _ _ _ _ _ (Act.put _ (some 11) _) _
   try simp only [Act.put, tkA, tkB, tkC]
   refine held_skip 4 rfl (by kernel_rfl) (by kernel_rfl) (by kernel_rfl) (fun _ _ _ h => h) (by rfl) (by assumption) ?_
   change wpAnyH _ _ _ _ _ _ _ (Act.put _ (some 12) _) _
   try simp only [Act.put, tkA, tkB, tkC]
   refine held_skip 5 rfl (by kernel_rfl) (by kernel_rfl) (by kernel_rfl) (fun _ _ _ h => h) (by rfl) (by assumption) ?_
   change wpAnyH _ _ _ _ _ _ _ (Act.put _ (some 13) _) _
   try simp only [Act.put, tkA, tkB, tkC]
   refine held_skip 6 rfl (by kernel_rfl) (by kernel_rfl) (by kernel_rfl) (fun _ _ _ h => h) (by rfl) (by assumption) ?_
   change wpAnyH _ _ _ _ _ _ _ (Act.put _ (some 14) _) _
   try simp only [Act.put, tkA, tkB, tkC]
   refine held_skip 7 rfl (by kernel_rfl) (by kernel_rfl) (by kernel_rfl) (fun _ _ _ h => h) (by rfl) (by assumption) ?_
   change wpAnyH _ _ _ _ _ _ _ (Act.put _ (some 15) _) _
   try simp only [Act.put, tkA, tkB, tkC]
   refine held_skip 8 rfl (by kernel_rfl) (by kernel_rfl) (by kernel_rfl) (fun _ _ _ h => h) (by rfl) (by assumption) ?_
   change wpAnyH _ _ _ _ _ _ _ (Act.put _ (some 16) _) _
   try simp only [Act.put, tkA, tkB, tkC]
   refine held_skip 9 rfl (by kernel_rfl) (by kernel_rfl) (by kernel_rfl) (fun _ _ _ h => h) (by rfl) (by assumption) ?_
   change wpAnyH _ _ _ _ _ _ _ (Act.put _ (some 17) _) _
   try simp only [Act.put, tkA, tkB, tkC]
   refine held_skip 10 rfl (by kernel_rfl) (by kernel_rfl) (by kernel_rfl) (fun _ _ _ h => h) (by rfl) (by assumption) ?_
   change wpAnyH _ _ _ _ _ _ _ (Act.put _ (some 18) _) _
   try simp only [Act.put, tkA, tkB, tkC]
   refine held_skip 11 rfl (by kernel_rfl) (by kernel_rfl) (by kernel_rfl) (fun _ _ _ h => h) (by rfl) (by assumption) ?_
   change wpAnyH _ _ _ _ _ _ _ (Act.put _ (some 19) _) _
   try simp only [Act.put, tkA, tkB, tkC]
   refine tk 12 20 (v := ?_) ?_ ?_
   rotate_left
   ·intro w' hSw; clear hSw; go_simp; try (with_reducible rfl)
   try simp only [tkA, tkB, tkC]
   refine wpAnyH_done (by kernel_rfl) ?_ _
   refine NoPanic.normal ?_
   clear hHeld
   go_wp2_with fail
   have U0 := HU.out.trans (Up.drew wr)
   generalize wr.drew = W0 at *
   clear y0 y1 hZr
   have s1 := fun w' => slice_opsH A c xs.length hc (k : Int) k rfl hk w'
   have s2 := fun w' => slice_opsL A c xs.length hc (k : Int) k rfl hk w'
   have rT := (hx'.below U0.b).takeK k
   have rD := (hx'.below U0.b).dropK (c := c) hc hk
   have hZ0 := hZ.up U0
   refine wp_region_noPanic ?_
   refine wp_region_held_drew (S := fun w' => Up W0 w') (by kernel_rfl) (Up.drew W0) (fun hHeld => ?_)
   refine tk 1 24 (v := ?_) ?_ ?_
   rotate_left
   ·intro w' hSw; clear hSw; go_simp; try (with_reducible rfl)
   try simp only [tkA, tkB, tkC]
   refine tk 2 25 (v := ?_) ?_ ?_
   rotate_left
   ·intro w' hSw; clear hSw; go_simp; try (with_reducible rfl)
   try simp only [tkA, tkB, tkC]
   refine tk 3 26 (v := ?_) ?_ ?_
   rotate_left
   ·intro w' hSw; clear hSw; go_simp; try (with_reducible rfl)
   try simp only [tkA, tkB, tkC]
   refine wpAnyH_take (i := 5) (v := .agg (opC o Ao co).toArray) rfl (by kernel_rfl) (by kernel_rfl) (by kernel_rfl) (fun _ _ _ h => h) (row_yields (by rfl) _ _ rfl w.heap.size (by go_simp) _ (opC o Ao co).toArray _ (fun w' h => Blk.up hZ0 h) Tryz.underlying43 rfl (by kernel_rfl)) (by assumption) ?_
   change wpAnyH _ _ _ _ _ _ _ (Act.put _ (some 28) _) _
   try simp only [Act.put, tkA, tkB, tkC]
   refine tk 8 31 (v := ?_) ?_ ?_
   rotate_left
   ·intro w' hSw; clear hSw; go_simp; try (with_reducible rfl)
   try simp only [tkA, tkB, tkC]
   refine tk 9 32 (v := ?_) ?_ ?_
   rotate_left
   ·intro w' hSw; clear hSw; go_simp; try (with_reducible rfl)
   try simp only [tkA, tkB, tkC]
   refine tk 10 33 (v := ?_) ?_ ?_
   rotate_left
   ·intro w' hSw; clear hSw; go_simp; try (with_reducible rfl)
   try simp only [tkA, tkB, tkC]
   generalize W0.drew = V0 at *
   refine wpAnyH_ready (rs := [0, 6]) (by kernel_rfl) (by simp) ?_
   refine AllReadyH.cons rfl (fun K hK => ?_) (AllReadyH.cons rfl (fun K hK => ?_) AllReadyH.nil)
   ·go_simp
    have u : Up W0 (V0.alloc (.cells #[] 43)) := hHeld.trans (Up.alloc' V0 (.cells #[] 43))
    have ow : Own (V0.alloc (.cells #[] 43)) W0.heap.size 43 15 (.slice (some ⟨V0.heap.size, 0, none⟩) 0 0) 0 [] := .inr ⟨rfl, rfl, _, rfl, hHeld.b.size, by simp⟩
    have hlt : V0.heap.size < (V0.alloc (.cells #[] 43)).heap.size := by simp
    generalize V0.alloc (.cells #[] 43) = V1 at *
    refine hK.out _ _ u (fun hHeld => ?_)
    clear hK K u
    refine wpAnyH_ready (rs := [4, 6]) (by kernel_rfl) (by simp) ?_
    refine AllReadyH.cons rfl (fun K hK => ?_) (AllReadyH.cons rfl (fun K hK => ?_) AllReadyH.nil)
    ·rw [if_pos (by rfl)]
     refine wp_append_Own _ (.tmp 23) (.tmp 26) 25 rfl W0.heap.size 43 i0 _ 15 152 Tryz.underlying25 hi hz0 hz1 hz2 rfl (by decide) (.slice (some ⟨V0.heap.size, 0, none⟩) 0 0) 0 [] rfl ow A k c (opsC (xs.take k)) rfl (by rw [opsC_size, List.length_take, Nat.min_eq_left hk]) (hHeld.rd rT.rd) (opsC_one _) (by unfold maxLen; omega) (by omega) hHeld.b.size ?_
     intro v9 V2 ow' gr9 hb9 hat9
     have u : Up W0 V2 := ⟨hHeld.b.trans hb9⟩
     clear ow
     have ow : Own V2 W0.heap.size 43 15 v9 k (opsC (xs.take k)) := by simpa only [Nat.zero_add, List.nil_append] using ow'
     obtain ⟨A27, c27, rfl, -, -⟩ := ow.rd
     clear ow' gr9 hb9 hat9
     refine hK.out _ _ u (fun hHeld => ?_)
     clear hK K u
     change wpAnyH _ _ _ _ _ _ _ (Act.put _ (some 27) _) _
     try simp only [Act.put, tkA, tkB, tkC]
     refine wpAnyH_ready (rs := [6]) (by kernel_rfl) (by simp) ?_
     refine AllReadyH.cons rfl (fun K hK => ?_) AllReadyH.nil
     unfold opC
     go_simp
     change K _ (V2.alloc (.cells (opC o Ao co).toArray 43))
     have u : Up W0 (V2.alloc (.cells (opC o Ao co).toArray 43)) := hHeld.trans (Up.alloc' V2 _)
     have bx := Blk.new V2 43 (opC o Ao co).toArray
     have ow := ow.alloc (.cells (opC o Ao co).toArray 43)
     generalize (V2.alloc (.cells (opC o Ao co).toArray 43)) = V3 at *
     refine hK.out _ _ u (fun hHeld => ?_)
     clear hK K u
     refine wpAnyH_ready (rs := [7]) (by kernel_rfl) (by simp) ?_
     refine AllReadyH.cons rfl (fun K hK => ?_) AllReadyH.nil
     rw [if_pos (by rfl)]
     refine wp_append_Own _ (.tmp 27) (.tmp 29) 25 rfl W0.heap.size 43 i0 _ 15 152 Tryz.underlying25 hi hz0 hz1 hz2 rfl (by decide) (.slice A27 k c27) k (opsC (xs.take k)) rfl ow (some ⟨V2.heap.size, 0, none⟩) 1 1 (opC o Ao co) rfl rfl (blk_rd bx) (opC_oneM _ _ _) (by unfold maxLen; omega) (by omega) hHeld.b.size ?_
     intro v9 V4 ow' gr9 hb9 hat9
     have u : Up W0 V4 := ⟨hHeld.b.trans hb9⟩
     clear ow
     have ow : Own V4 W0.heap.size 43 15 v9 (k + 1) (opsC (xs.take k) ++ opC o Ao co) := by simpa only [Nat.zero_add, List.nil_append] using ow'
     obtain ⟨A30, c30, rfl, -, -⟩ := ow.rd
     clear ow' gr9 hb9 hat9
     refine hK.out _ _ u (fun hHeld => ?_)
     clear hK K u
     change wpAnyH _ _ _ _ _ _ _ (Act.put _ (some 30) _) _
     try simp only [Act.put, tkA, tkB, tkC]
     refine wpAnyH_ready (rs := [11]) (by kernel_rfl) (by simp) ?_
     refine AllReadyH.cons rfl (fun K hK => ?_) AllReadyH.nil
     rw [if_pos (by rfl)]
     refine wp_append_Own _ (.tmp 30) (.tmp 33) 25 rfl W0.heap.size 43 i0 _ 15 152 Tryz.underlying25 hi hz0 hz1 hz2 rfl (by decide) (.slice A30 (k + 1) c30) (k + 1) (opsC (xs.take k) ++ opC o Ao co) rfl ow (offOp A c k) (xs.length - k) (c - k) (opsC (xs.drop k)) rfl (by rw [opsC_size, List.length_drop]) (hHeld.rd rD.rd) (opsC_one _) (by unfold maxLen; omega) (by omega) hHeld.b.size ?_
     intro v9 V5 ow' gr9 hb9 hat9
     have u : Up W0 V5 := ⟨hHeld.b.trans hb9⟩
     clear ow
     have ow : Own V5 W0.heap.size 43 15 v9 (k + 1 + (xs.length - k)) (opsC (xs.take k) ++ opC o Ao co ++ opsC (xs.drop k)) := by simpa only [Nat.zero_add, List.nil_append] using ow'
     obtain ⟨A34, c34, rfl, -, -⟩ := ow.rd
     clear ow' gr9 hb9 hat9
     refine hK.out _ _ u (fun hHeld => ?_)
     clear hK K u
     change wpAnyH _ _ _ _ _ _ _ (Act.put _ (some 34) _) _
     try simp only [Act.put, tkA, tkB, tkC]
     refine tk 12 4 (v := ?_) ?_ ?_
     rotate_left
     ·intro w' hSw; clear hSw; go_simp; try (with_reducible rfl)
     try simp only [tkA, tkB, tkC]
     refine wpAnyH_done (by kernel_rfl) ?_ _
     refine NoPanic.normal ?_
     have uF := hHeld
     clear hHeld
     go_wp2_with fail
     go_ret
     exact put_fin hx ho (HB0.out.trans (U0.trans uF)).b hk HP.out ow (HB0.out.trans U0).b.size
    ·unfold opC
     go_simp
     change K _ (V1.alloc (.cells (opC o Ao co).toArray 43))
     have u : Up W0 (V1.alloc (.cells (opC o Ao co).toArray 43)) := hHeld.trans (Up.alloc' V1 _)
     have bx := Blk.new V1 43 (opC o Ao co).toArray
     have ow := ow.alloc (.cells (opC o Ao co).toArray 43)
     have hne : V1.heap.size ≠ V0.heap.size := Nat.ne_of_gt hlt
     generalize (V1.alloc (.cells (opC o Ao co).toArray 43)) = V2 at *
     refine hK.out _ _ u (fun hHeld => ?_)
     clear hK K u
     refine wpAnyH_ready (rs := [4]) (by kernel_rfl) (by simp) ?_
     refine AllReadyH.cons rfl (fun K hK => ?_) AllReadyH.nil
     rw [if_pos (by rfl)]
     refine wp_append_Own _ (.tmp 23) (.tmp 26) 25 rfl W0.heap.size 43 i0 _ 15 152 Tryz.underlying25 hi hz0 hz1 hz2 rfl (by decide) (.slice (some ⟨V0.heap.size, 0, none⟩) 0 0) 0 [] rfl ow A k c (opsC (xs.take k)) rfl (by rw [opsC_size, List.length_take, Nat.min_eq_left hk]) (hHeld.rd rT.rd) (opsC_one _) (by unfold maxLen; omega) (by omega) hHeld.b.size ?_
     intro v9 V3 ow' gr9 hb9 hat9
     have u : Up W0 V3 := ⟨hHeld.b.trans hb9⟩
     have bx := bx.kept gr9 (by simpa [Value.ownBlock] using hne)
     clear ow
     have ow : Own V3 W0.heap.size 43 15 v9 k (opsC (xs.take k)) := by simpa only [Nat.zero_add, List.nil_append] using ow'
     obtain ⟨A27, c27, rfl, -, -⟩ := ow.rd
     clear ow' gr9 hb9 hat9
     refine hK.out _ _ u (fun hHeld => ?_)
     clear hK K u
     change wpAnyH _ _ _ _ _ _ _ (Act.put _ (some 27) _) _
     try simp only [Act.put, tkA, tkB, tkC]
     refine wpAnyH_ready (rs := [7]) (by kernel_rfl) (by simp) ?_
     refine AllReadyH.cons rfl (fun K hK => ?_) AllReadyH.nil
     rw [if_pos (by rfl)]
     refine wp_append_Own _ (.tmp 27) (.tmp 29) 25 rfl W0.heap.size 43 i0 _ 15 152 Tryz.underlying25 hi hz0 hz1 hz2 rfl (by decide) (.slice A27 k c27) k (opsC (xs.take k)) rfl ow (some ⟨V1.heap.size, 0, none⟩) 1 1 (opC o Ao co) rfl rfl (blk_rd bx) (opC_oneM _ _ _) (by unfold maxLen; omega) (by omega) hHeld.b.size ?_
     intro v9 V4 ow' gr9 hb9 hat9
     have u : Up W0 V4 := ⟨hHeld.b.trans hb9⟩
     clear ow
     have ow : Own V4 W0.heap.size 43 15 v9 (k + 1) (opsC (xs.take k) ++ opC o Ao co) := by simpa only [Nat.zero_add, List.nil_append] using ow'
     obtain ⟨A30, c30, rfl, -, -⟩ := ow.rd
     clear ow' gr9 hb9 hat9
     refine hK.out _ _ u (fun hHeld => ?_)
     clear hK K u
     change wpAnyH _ _ _ _ _ _ _ (Act.put _ (some 30) _) _
     try simp only [Act.put, tkA, tkB, tkC]
     refine wpAnyH_ready (rs := [11]) (by kernel_rfl) (by simp) ?_
     refine AllReadyH.cons rfl (fun K hK => ?_) AllReadyH.nil
     rw [if_pos (by rfl)]
     refine wp_append_Own _ (.tmp 30) (.tmp 33) 25 rfl W0.heap.size 43 i0 _ 15 152 Tryz.underlying25 hi hz0 hz1 hz2 rfl (by decide) (.slice A30 (k + 1) c30) (k + 1) (opsC (xs.take k) ++ opC o Ao co) rfl ow (offOp A c k) (xs.length - k) (c - k) (opsC (xs.drop k)) rfl (by rw [opsC_size, List.length_drop]) (hHeld.rd rD.rd) (opsC_one _) (by unfold maxLen; omega) (by omega) hHeld.b.size ?_
     intro v9 V5 ow' gr9 hb9 hat9
     have u : Up W0 V5 := ⟨hHeld.b.trans hb9⟩
     clear ow
     have ow : Own V5 W0.heap.size 43 15 v9 (k + 1 + (xs.length - k)) (opsC (xs.take k) ++ opC o Ao co ++ opsC (xs.drop k)) := by simpa only [Nat.zero_add, List.nil_append] using ow'
     obtain ⟨A34, c34, rfl, -, -⟩ := ow.rd
     clear ow' gr9 hb9 hat9
     refine hK.out _ _ u (fun hHeld => ?_)
     clear hK K u
     change wpAnyH _ _ _ _ _ _ _ (Act.put _ (some 34) _) _
     try simp only [Act.put, tkA, tkB, tkC]
     refine tk 12 4 (v := ?_) ?_ ?_
     rotate_left
     ·intro w' hSw; clear hSw; go_simp; try (with_reducible rfl)
     try simp only [tkA, tkB, tkC]
     refine wpAnyH_done (by kernel_rfl) ?_ _
     refine NoPanic.normal ?_
     have uF := hHeld
     clear hHeld
     go_wp2_with fail
     go_ret
     exact put_fin hx ho (HB0.out.trans (U0.trans uF)).b hk HP.out ow (HB0.out.trans U0).b.size
   ·unfold opC
    go_simp
    change K _ (V0.alloc (.cells (opC o Ao co).toArray 43))
    have u : Up W0 (V0.alloc (.cells (opC o Ao co).toArray 43)) := hHeld.trans (Up.alloc' V0 _)
    have bx := Blk.new V0 43 (opC o Ao co).toArray
    generalize (V0.alloc (.cells (opC o Ao co).toArray 43)) = V1 at *
    refine hK.out _ _ u (fun hHeld => ?_)
    clear hK K u
    refine wpAnyH_ready (rs := [0]) (by kernel_rfl) (by simp) ?_
    refine AllReadyH.cons rfl (fun K hK => ?_) AllReadyH.nil
    go_simp
    have u : Up W0 (V1.alloc (.cells #[] 43)) := hHeld.trans (Up.alloc' V1 (.cells #[] 43))
    have ow : Own (V1.alloc (.cells #[] 43)) W0.heap.size 43 15 (.slice (some ⟨V1.heap.size, 0, none⟩) 0 0) 0 [] := .inr ⟨rfl, rfl, _, rfl, hHeld.b.size, by simp⟩
    have hne : V0.heap.size ≠ V1.heap.size := Nat.ne_of_lt bx.lt
    have bx := bx.up (Up.alloc' V1 (.cells #[] 43))
    generalize V1.alloc (.cells #[] 43) = V2 at *
    refine hK.out _ _ u (fun hHeld => ?_)
    clear hK K u
    refine wpAnyH_ready (rs := [4]) (by kernel_rfl) (by simp) ?_
    refine AllReadyH.cons rfl (fun K hK => ?_) AllReadyH.nil
    rw [if_pos (by rfl)]
    refine wp_append_Own _ (.tmp 23) (.tmp 26) 25 rfl W0.heap.size 43 i0 _ 15 152 Tryz.underlying25 hi hz0 hz1 hz2 rfl (by decide) (.slice (some ⟨V1.heap.size, 0, none⟩) 0 0) 0 [] rfl ow A k c (opsC (xs.take k)) rfl (by rw [opsC_size, List.length_take, Nat.min_eq_left hk]) (hHeld.rd rT.rd) (opsC_one _) (by unfold maxLen; omega) (by omega) hHeld.b.size ?_
    intro v9 V3 ow' gr9 hb9 hat9
    have u : Up W0 V3 := ⟨hHeld.b.trans hb9⟩
    have bx := bx.kept gr9 (by simpa [Value.ownBlock] using hne)
    clear ow
    have ow : Own V3 W0.heap.size 43 15 v9 k (opsC (xs.take k)) := by simpa only [Nat.zero_add, List.nil_append] using ow'
    obtain ⟨A27, c27, rfl, -, -⟩ := ow.rd
    clear ow' gr9 hb9 hat9
    refine hK.out _ _ u (fun hHeld => ?_)
    clear hK K u
    change wpAnyH _ _ _ _ _ _ _ (Act.put _ (some 27) _) _
    try simp only [Act.put, tkA, tkB, tkC]
    refine wpAnyH_ready (rs := [7]) (by kernel_rfl) (by simp) ?_
    refine AllReadyH.cons rfl (fun K hK => ?_) AllReadyH.nil
    rw [if_pos (by rfl)]
    refine wp_append_Own _ (.tmp 27) (.tmp 29) 25 rfl W0.heap.size 43 i0 _ 15 152 Tryz.underlying25 hi hz0 hz1 hz2 rfl (by decide) (.slice A27 k c27) k (opsC (xs.take k)) rfl ow (some ⟨V0.heap.size, 0, none⟩) 1 1 (opC o Ao co) rfl rfl (blk_rd bx) (opC_oneM _ _ _) (by unfold maxLen; omega) (by omega) hHeld.b.size ?_
    intro v9 V4 ow' gr9 hb9 hat9
    have u : Up W0 V4 := ⟨hHeld.b.trans hb9⟩
    clear ow
    have ow : Own V4 W0.heap.size 43 15 v9 (k + 1) (opsC (xs.take k) ++ opC o Ao co) := by simpa only [Nat.zero_add, List.nil_append] using ow'
    obtain ⟨A30, c30, rfl, -, -⟩ := ow.rd
    clear ow' gr9 hb9 hat9
    refine hK.out _ _ u (fun hHeld => ?_)
    clear hK K u
    change wpAnyH _ _ _ _ _ _ _ (Act.put _ (some 30) _) _
    try simp only [Act.put, tkA, tkB, tkC]
    refine wpAnyH_ready (rs := [11]) (by kernel_rfl) (by simp) ?_
    refine AllReadyH.cons rfl (fun K hK => ?_) AllReadyH.nil
    rw [if_pos (by rfl)]
    refine wp_append_Own _ (.tmp 30) (.tmp 33) 25 rfl W0.heap.size 43 i0 _ 15 152 Tryz.underlying25 hi hz0 hz1 hz2 rfl (by decide) (.slice A30 (k + 1) c30) (k + 1) (opsC (xs.take k) ++ opC o Ao co) rfl ow (offOp A c k) (xs.length - k) (c - k) (opsC (xs.drop k)) rfl (by rw [opsC_size, List.length_drop]) (hHeld.rd rD.rd) (opsC_one _) (by unfold maxLen; omega) (by omega) hHeld.b.size ?_
    intro v9 V5 ow' gr9 hb9 hat9
    have u : Up W0 V5 := ⟨hHeld.b.trans hb9⟩
    clear ow
    have ow : Own V5 W0.heap.size 43 15 v9 (k + 1 + (xs.length - k)) (opsC (xs.take k) ++ opC o Ao co ++ opsC (xs.drop k)) := by simpa only [Nat.zero_add, List.nil_append] using ow'
    obtain ⟨A34, c34, rfl, -, -⟩ := ow.rd
    clear ow' gr9 hb9 hat9
    refine hK.out _ _ u (fun hHeld => ?_)
    clear hK K u
    change wpAnyH _ _ _ _ _ _ _ (Act.put _ (some 34) _) _
    try simp only [Act.put, tkA, tkB, tkC]
    refine tk 12 4 (v := ?_) ?_ ?_
    rotate_left
    ·intro w' hSw; clear hSw; go_simp; try (with_reducible rfl)
    try simp only [tkA, tkB, tkC]
    refine wpAnyH_done (by kernel_rfl) ?_ _
    refine NoPanic.normal ?_
    have uF := hHeld
    clear hHeld
    go_wp2_with fail
    go_ret
    exact put_fin hx ho (HB0.out.trans (U0.trans uF)).b hk HP.out ow (HB0.out.trans U0).b.size
  ·obtain ⟨j, hj⟩ : ∃ j, k = j + 1 := ⟨k - 1, by omega⟩
   have hlt : j < xs.length := by omega
   have t1 : decide (0 < (k : Int)) = true := decide_eq_true (by omega)
   have t2 : decide (0 < k) = true := decide_eq_true (by omega)
   have t3 : IntKind.i64.wrap ((k : Int) - 1) = (j : Int) := by rw [IntWalk.i64_in _ (by omega)]; omega
   have t4 : 0 ≤ (j : Int) := by omega
   have t6 : IntKind.i64.wrap (j : Int) = (j : Int) := IntWalk.i64_in _ (by omega)
   have t5 : (j : Int) < (xs.length : Int) := by omega
   obtain ⟨b, off, rfl, -, hrg⟩ := hx'.range hlt
   have hG := Lib.hid (fun h => putAt_go (l := opL xs) (o := o) (k := j) (by rw [opL_len]; exact hlt) (n := putN (opL xs) o) (by rw [hK.out, hj]) h)
   have hS := Lib.hid (fun h => putAt_stop (l := opL xs) (o := o) (k := j) (by rw [opL_len]; exact hlt) (n := putN (opL xs) o) (by rw [hK.out, hj]) h)
   simp only [opL_get xs j hlt] at hG hS
   generalize hxj : xs[j] = x at *
   have HJ := Lib.hid hj
   have m0 : ∀ w', Up wr w' → w'.cell? ⟨b, off + j * 15, none⟩ = some (.int .i64 x.o.ac) := fun w' u => (hu.trans u).cell (hrg 0 _ rfl)
   have m1 : ∀ w', Up wr w' → w'.cell? ⟨b, off + j * 15 + 1, none⟩ = some (.int .i64 x.o.ad) := fun w' u => (hu.trans u).cell (hrg 1 _ rfl)
   rcases e1 : lessB o.ac o.ad x.o.ac x.o.ad with _ | _
   ·have HP : Hid (putN (opL xs) o = k) := by rw [Hid, hS.out e1, hj]
    have kL := fun w' => rless_is w' e1
    have HU := Lib.hid hu
    clear h0 hu e1 hG hS hj
    go_wp2_with fail
    refine wp_region_noPanic ?_
    refine wp_region_held_drew (S := fun w' => Up wr w') (by kernel_rfl) (Up.drew wr) (fun hHeld => ?_)
    refine tk 0 8 (v := ?_) ?_ ?_
    rotate_left
    ·intro w' hSw; clear hSw; go_simp; try (with_reducible rfl)
    try simp only [tkA, tkB, tkC]
    refine tk 1 9 (v := ?_) ?_ ?_
    rotate_left
    ·intro w' hSw; clear hSw; go_simp; try (with_reducible rfl)
    try simp only [tkA, tkB, tkC]
    refine tk 2 10 (v := ?_) ?_ ?_
    rotate_left
    ·intro w' hSw; clear hSw; go_simp; try (with_reducible rfl)
    try simp only [tkA, tkB, tkC]
    refine tk 3 11 (v := ?_) ?_ ?_
    rotate_left
    ·intro w' hSw; clear hSw; go_simp; try (with_reducible rfl)
    try simp only [tkA, tkB, tkC]
    refine tk 4 12 (v := ?_) ?_ ?_
    rotate_left
    ·intro w' hS0; go_simp; try (with_reducible rfl)
    try simp only [tkA, tkB, tkC]
    refine tk 5 13 (v := ?_) ?_ ?_
    rotate_left
    ·intro w' hSw; clear hSw; go_simp; try (with_reducible rfl)
    try simp only [tkA, tkB, tkC]
    refine tk 6 14 (v := ?_) ?_ ?_
    rotate_left
    ·intro w' hSw; clear hSw; go_simp; try (with_reducible rfl)
    try simp only [tkA, tkB, tkC]
    refine tk 7 15 (v := ?_) ?_ ?_
    rotate_left
    ·intro w' hSw; clear hSw; go_simp; try (with_reducible rfl)
    try simp only [tkA, tkB, tkC]
    refine tk 8 16 (v := ?_) ?_ ?_
    rotate_left
    ·intro w' hSw; clear hSw; go_simp; try (with_reducible rfl)
    try simp only [tkA, tkB, tkC]
    refine tk 9 17 (v := ?_) ?_ ?_
    rotate_left
    ·intro w' hSw; clear hSw; go_simp; try (with_reducible rfl)
    try simp only [tkA, tkB, tkC]
    refine tk 10 18 (v := ?_) ?_ ?_
    rotate_left
    ·intro w' hS0; go_simp; try (with_reducible rfl)
    try simp only [tkA, tkB, tkC]
    refine wpAnyH_ready (rs := [11]) (by kernel_rfl) (by simp) ?_
    refine AllReadyH.cons rfl (fun K hK => ?_) AllReadyH.nil
    go_simp
    go_at_call 59
    refine (kL _).mono ?_
    rintro e w9 ⟨rfl, hb9⟩
    have hu9 : Up wr w9 := hHeld.trans (Up.of hb9)
    refine hK.out _ _ hu9 (fun hHeld => ?_)
    clear hK K hHeld
    refine wpAnyH_more (S' := fun w' => Up w9 w') (fun w' h => Up.trans hu9 h) _ _ _ _ ?_
    have hHeld := Up.refl w9
    refine tk 12 20 (v := ?_) ?_ ?_
    rotate_left
    ·intro w' hSw; clear hSw; go_simp; try (with_reducible rfl)
    try simp only [tkA, tkB, tkC]
    refine wpAnyH_done (by kernel_rfl) ?_ _
    refine NoPanic.normal ?_
    clear hHeld
    go_wp2_with fail
    have U0 := HU.out.trans hu9
    clear hb9 hu9 y0 y1 m0 m1 hZr hrg
    generalize w9 = W0 at *
    generalize (some (⟨b, off, none⟩ : Addr)) = A at *
    have s1 := fun w' => slice_opsH A c xs.length hc (k : Int) k rfl hk w'
    have s2 := fun w' => slice_opsL A c xs.length hc (k : Int) k rfl hk w'
    have rT := (hx'.below U0.b).takeK k
    have rD := (hx'.below U0.b).dropK (c := c) hc hk
    have hZ0 := hZ.up U0
    refine wp_region_noPanic ?_
    refine wp_region_held_drew (S := fun w' => Up W0 w') (by kernel_rfl) (Up.drew W0) (fun hHeld => ?_)
    refine tk 1 24 (v := ?_) ?_ ?_
    rotate_left
    ·intro w' hSw; clear hSw; go_simp; try (with_reducible rfl)
    try simp only [tkA, tkB, tkC]
    refine tk 2 25 (v := ?_) ?_ ?_
    rotate_left
    ·intro w' hSw; clear hSw; go_simp; try (with_reducible rfl)
    try simp only [tkA, tkB, tkC]
    refine tk 3 26 (v := ?_) ?_ ?_
    rotate_left
    ·intro w' hSw; clear hSw; go_simp; try (with_reducible rfl)
    try simp only [tkA, tkB, tkC]
    refine wpAnyH_take (i := 5) (v := .agg (opC o Ao co).toArray) rfl (by kernel_rfl) (by kernel_rfl) (by kernel_rfl) (fun _ _ _ h => h) (row_yields (by rfl) _ _ rfl w.heap.size (by go_simp) _ (opC o Ao co).toArray _ (fun w' h => Blk.up hZ0 h) Tryz.underlying43 rfl (by kernel_rfl)) (by assumption) ?_
    change wpAnyH _ _ _ _ _ _ _ (Act.put _ (some 28) _) _
    try simp only [Act.put, tkA, tkB, tkC]
    refine tk 8 31 (v := ?_) ?_ ?_
    rotate_left
    ·intro w' hSw; clear hSw; go_simp; try (with_reducible rfl)
    try simp only [tkA, tkB, tkC]
    refine tk 9 32 (v := ?_) ?_ ?_
    rotate_left
    ·intro w' hSw; clear hSw; go_simp; try (with_reducible rfl)
    try simp only [tkA, tkB, tkC]
    refine tk 10 33 (v := ?_) ?_ ?_
    rotate_left
    ·intro w' hSw; clear hSw; go_simp; try (with_reducible rfl)
    try simp only [tkA, tkB, tkC]
    generalize W0.drew = V0 at *
    refine wpAnyH_ready (rs := [0, 6]) (by kernel_rfl) (by simp) ?_
    refine AllReadyH.cons rfl (fun K hK => ?_) (AllReadyH.cons rfl (fun K hK => ?_) AllReadyH.nil)
    ·go_simp
     have u : Up W0 (V0.alloc (.cells #[] 43)) := hHeld.trans (Up.alloc' V0 (.cells #[] 43))
     have ow : Own (V0.alloc (.cells #[] 43)) W0.heap.size 43 15 (.slice (some ⟨V0.heap.size, 0, none⟩) 0 0) 0 [] := .inr ⟨rfl, rfl, _, rfl, hHeld.b.size, by simp⟩
     have hlt : V0.heap.size < (V0.alloc (.cells #[] 43)).heap.size := by simp
     generalize V0.alloc (.cells #[] 43) = V1 at *
     refine hK.out _ _ u (fun hHeld => ?_)
     clear hK K u
     refine wpAnyH_ready (rs := [4, 6]) (by kernel_rfl) (by simp) ?_
     refine AllReadyH.cons rfl (fun K hK => ?_) (AllReadyH.cons rfl (fun K hK => ?_) AllReadyH.nil)
     ·rw [if_pos (by rfl)]
      refine wp_append_Own _ (.tmp 23) (.tmp 26) 25 rfl W0.heap.size 43 i0 _ 15 152 Tryz.underlying25 hi hz0 hz1 hz2 rfl (by decide) (.slice (some ⟨V0.heap.size, 0, none⟩) 0 0) 0 [] rfl ow A k c (opsC (xs.take k)) rfl (by rw [opsC_size, List.length_take, Nat.min_eq_left hk]) (hHeld.rd rT.rd) (opsC_one _) (by unfold maxLen; omega) (by omega) hHeld.b.size ?_
      intro v9 V2 ow' gr9 hb9 hat9
      have u : Up W0 V2 := ⟨hHeld.b.trans hb9⟩
      clear ow
      have ow : Own V2 W0.heap.size 43 15 v9 k (opsC (xs.take k)) := by simpa only [Nat.zero_add, List.nil_append] using ow'
      obtain ⟨A27, c27, rfl, -, -⟩ := ow.rd
      clear ow' gr9 hb9 hat9
      refine hK.out _ _ u (fun hHeld => ?_)
      clear hK K u
      change wpAnyH _ _ _ _ _ _ _ (Act.put _ (some 27) _) _
      try simp only [Act.put, tkA, tkB, tkC]
      refine wpAnyH_ready (rs := [6]) (by kernel_rfl) (by simp) ?_
      refine AllReadyH.cons rfl (fun K hK => ?_) AllReadyH.nil
      unfold opC
      go_simp
      change K _ (V2.alloc (.cells (opC o Ao co).toArray 43))
      have u : Up W0 (V2.alloc (.cells (opC o Ao co).toArray 43)) := hHeld.trans (Up.alloc' V2 _)
      have bx := Blk.new V2 43 (opC o Ao co).toArray
      have ow := ow.alloc (.cells (opC o Ao co).toArray 43)
      generalize (V2.alloc (.cells (opC o Ao co).toArray 43)) = V3 at *
      refine hK.out _ _ u (fun hHeld => ?_)
      clear hK K u
      refine wpAnyH_ready (rs := [7]) (by kernel_rfl) (by simp) ?_
      refine AllReadyH.cons rfl (fun K hK => ?_) AllReadyH.nil
      rw [if_pos (by rfl)]
      refine wp_append_Own _ (.tmp 27) (.tmp 29) 25 rfl W0.heap.size 43 i0 _ 15 152 Tryz.underlying25 hi hz0 hz1 hz2 rfl (by decide) (.slice A27 k c27) k (opsC (xs.take k)) rfl ow (some ⟨V2.heap.size, 0, none⟩) 1 1 (opC o Ao co) rfl rfl (blk_rd bx) (opC_oneM _ _ _) (by unfold maxLen; omega) (by omega) hHeld.b.size ?_
      intro v9 V4 ow' gr9 hb9 hat9
      have u : Up W0 V4 := ⟨hHeld.b.trans hb9⟩
      clear ow
      have ow : Own V4 W0.heap.size 43 15 v9 (k + 1) (opsC (xs.take k) ++ opC o Ao co) := by simpa only [Nat.zero_add, List.nil_append] using ow'
      obtain ⟨A30, c30, rfl, -, -⟩ := ow.rd
      clear ow' gr9 hb9 hat9
      refine hK.out _ _ u (fun hHeld => ?_)
      clear hK K u
      change wpAnyH _ _ _ _ _ _ _ (Act.put _ (some 30) _) _
      try simp only [Act.put, tkA, tkB, tkC]
      refine wpAnyH_ready (rs := [11]) (by kernel_rfl) (by simp) ?_
      refine AllReadyH.cons rfl (fun K hK => ?_) AllReadyH.nil
      rw [if_pos (by rfl)]
      refine wp_append_Own _ (.tmp 30) (.tmp 33) 25 rfl W0.heap.size 43 i0 _ 15 152 Tryz.underlying25 hi hz0 hz1 hz2 rfl (by decide) (.slice A30 (k + 1) c30) (k + 1) (opsC (xs.take k) ++ opC o Ao co) rfl ow (offOp A c k) (xs.length - k) (c - k) (opsC (xs.drop k)) rfl (by rw [opsC_size, List.length_drop]) (hHeld.rd rD.rd) (opsC_one _) (by unfold maxLen; omega) (by omega) hHeld.b.size ?_
      intro v9 V5 ow' gr9 hb9 hat9
      have u : Up W0 V5 := ⟨hHeld.b.trans hb9⟩
      clear ow
      have ow : Own V5 W0.heap.size 43 15 v9 (k + 1 + (xs.length - k)) (opsC (xs.take k) ++ opC o Ao co ++ opsC (xs.drop k)) := by simpa only [Nat.zero_add, List.nil_append] using ow'
      obtain ⟨A34, c34, rfl, -, -⟩ := ow.rd
      clear ow' gr9 hb9 hat9
      refine hK.out _ _ u (fun hHeld => ?_)
      clear hK K u
      change wpAnyH _ _ _ _ _ _ _ (Act.put _ (some 34) _) _
      try simp only [Act.put, tkA, tkB, tkC]
      refine tk 12 4 (v := ?_) ?_ ?_
      rotate_left
      ·intro w' hSw; clear hSw; go_simp; try (with_reducible rfl)
      try simp only [tkA, tkB, tkC]
      refine wpAnyH_done (by kernel_rfl) ?_ _
      refine NoPanic.normal ?_
      have uF := hHeld
      clear hHeld
      go_wp2_with fail
      go_ret
      exact put_fin hx ho (HB0.out.trans (U0.trans uF)).b hk HP.out ow (HB0.out.trans U0).b.size
     ·unfold opC
      go_simp
      change K _ (V1.alloc (.cells (opC o Ao co).toArray 43))
      have u : Up W0 (V1.alloc (.cells (opC o Ao co).toArray 43)) := hHeld.trans (Up.alloc' V1 _)
      have bx := Blk.new V1 43 (opC o Ao co).toArray
      have ow := ow.alloc (.cells (opC o Ao co).toArray 43)
      have hne : V1.heap.size ≠ V0.heap.size := Nat.ne_of_gt hlt
      generalize (V1.alloc (.cells (opC o Ao co).toArray 43)) = V2 at *
      refine hK.out _ _ u (fun hHeld => ?_)
      clear hK K u
      refine wpAnyH_ready (rs := [4]) (by kernel_rfl) (by simp) ?_
      refine AllReadyH.cons rfl (fun K hK => ?_) AllReadyH.nil
      rw [if_pos (by rfl)]
      refine wp_append_Own _ (.tmp 23) (.tmp 26) 25 rfl W0.heap.size 43 i0 _ 15 152 Tryz.underlying25 hi hz0 hz1 hz2 rfl (by decide) (.slice (some ⟨V0.heap.size, 0, none⟩) 0 0) 0 [] rfl ow A k c (opsC (xs.take k)) rfl (by rw [opsC_size, List.length_take, Nat.min_eq_left hk]) (hHeld.rd rT.rd) (opsC_one _) (by unfold maxLen; omega) (by omega) hHeld.b.size ?_
      intro v9 V3 ow' gr9 hb9 hat9
      have u : Up W0 V3 := ⟨hHeld.b.trans hb9⟩
      have bx := bx.kept gr9 (by simpa [Value.ownBlock] using hne)
      clear ow
      have ow : Own V3 W0.heap.size 43 15 v9 k (opsC (xs.take k)) := by simpa only [Nat.zero_add, List.nil_append] using ow'
      obtain ⟨A27, c27, rfl, -, -⟩ := ow.rd
      clear ow' gr9 hb9 hat9
      refine hK.out _ _ u (fun hHeld => ?_)
      clear hK K u
      change wpAnyH _ _ _ _ _ _ _ (Act.put _ (some 27) _) _
      try simp only [Act.put, tkA, tkB, tkC]
      refine wpAnyH_ready (rs := [7]) (by kernel_rfl) (by simp) ?_
      refine AllReadyH.cons rfl (fun K hK => ?_) AllReadyH.nil
      rw [if_pos (by rfl)]
      refine wp_append_Own _ (.tmp 27) (.tmp 29) 25 rfl W0.heap.size 43 i0 _ 15 152 Tryz.underlying25 hi hz0 hz1 hz2 rfl (by decide) (.slice A27 k c27) k (opsC (xs.take k)) rfl ow (some ⟨V1.heap.size, 0, none⟩) 1 1 (opC o Ao co) rfl rfl (blk_rd bx) (opC_oneM _ _ _) (by unfold maxLen; omega) (by omega) hHeld.b.size ?_
      intro v9 V4 ow' gr9 hb9 hat9
      have u : Up W0 V4 := ⟨hHeld.b.trans hb9⟩
      clear ow
      have ow : Own V4 W0.heap.size 43 15 v9 (k + 1) (opsC (xs.take k) ++ opC o Ao co) := by simpa only [Nat.zero_add, List.nil_append] using ow'
      obtain ⟨A30, c30, rfl, -, -⟩ := ow.rd
      clear ow' gr9 hb9 hat9
      refine hK.out _ _ u (fun hHeld => ?_)
      clear hK K u
      change wpAnyH _ _ _ _ _ _ _ (Act.put _ (some 30) _) _
      try simp only [Act.put, tkA, tkB, tkC]
      refine wpAnyH_ready (rs := [11]) (by kernel_rfl) (by simp) ?_
      refine AllReadyH.cons rfl (fun K hK => ?_) AllReadyH.nil
      rw [if_pos (by rfl)]
      refine wp_append_Own _ (.tmp 30) (.tmp 33) 25 rfl W0.heap.size 43 i0 _ 15 152 Tryz.underlying25 hi hz0 hz1 hz2 rfl (by decide) (.slice A30 (k + 1) c30) (k + 1) (opsC (xs.take k) ++ opC o Ao co) rfl ow (offOp A c k) (xs.length - k) (c - k) (opsC (xs.drop k)) rfl (by rw [opsC_size, List.length_drop]) (hHeld.rd rD.rd) (opsC_one _) (by unfold maxLen; omega) (by omega) hHeld.b.size ?_
      intro v9 V5 ow' gr9 hb9 hat9
      have u : Up W0 V5 := ⟨hHeld.b.trans hb9⟩
      clear ow
      have ow : Own V5 W0.heap.size 43 15 v9 (k + 1 + (xs.length - k)) (opsC (xs.take k) ++ opC o Ao co ++ opsC (xs.drop k)) := by simpa only [Nat.zero_add, List.nil_append] using ow'
      obtain ⟨A34, c34, rfl, -, -⟩ := ow.rd
      clear ow' gr9 hb9 hat9
      refine hK.out _ _ u (fun hHeld => ?_)
      clear hK K u
      change wpAnyH _ _ _ _ _ _ _ (Act.put _ (some 34) _) _
      try simp only [Act.put, tkA, tkB, tkC]
      refine tk 12 4 (v := ?_) ?_ ?_
      rotate_left
      ·intro w' hSw; clear hSw; go_simp; try (with_reducible rfl)
      try simp only [tkA, tkB, tkC]
      refine wpAnyH_done (by kernel_rfl) ?_ _
      refine NoPanic.normal ?_
      have uF := hHeld
      clear hHeld
      go_wp2_with fail
      go_ret
      exact put_fin hx ho (HB0.out.trans (U0.trans uF)).b hk HP.out ow (HB0.out.trans U0).b.size
    ·unfold opC
     go_simp
     change K _ (V0.alloc (.cells (opC o Ao co).toArray 43))
     have u : Up W0 (V0.alloc (.cells (opC o Ao co).toArray 43)) := hHeld.trans (Up.alloc' V0 _)
     have bx := Blk.new V0 43 (opC o Ao co).toArray
     generalize (V0.alloc (.cells (opC o Ao co).toArray 43)) = V1 at *
     refine hK.out _ _ u (fun hHeld => ?_)
     clear hK K u
     refine wpAnyH_ready (rs := [0]) (by kernel_rfl) (by simp) ?_
     refine AllReadyH.cons rfl (fun K hK => ?_) AllReadyH.nil
     go_simp
     have u : Up W0 (V1.alloc (.cells #[] 43)) := hHeld.trans (Up.alloc' V1 (.cells #[] 43))
     have ow : Own (V1.alloc (.cells #[] 43)) W0.heap.size 43 15 (.slice (some ⟨V1.heap.size, 0, none⟩) 0 0) 0 [] := .inr ⟨rfl, rfl, _, rfl, hHeld.b.size, by simp⟩
     have hne : V0.heap.size ≠ V1.heap.size := Nat.ne_of_lt bx.lt
     have bx := bx.up (Up.alloc' V1 (.cells #[] 43))
     generalize V1.alloc (.cells #[] 43) = V2 at *
     refine hK.out _ _ u (fun hHeld => ?_)
     clear hK K u
     refine wpAnyH_ready (rs := [4]) (by kernel_rfl) (by simp) ?_
     refine AllReadyH.cons rfl (fun K hK => ?_) AllReadyH.nil
     rw [if_pos (by rfl)]
     refine wp_append_Own _ (.tmp 23) (.tmp 26) 25 rfl W0.heap.size 43 i0 _ 15 152 Tryz.underlying25 hi hz0 hz1 hz2 rfl (by decide) (.slice (some ⟨V1.heap.size, 0, none⟩) 0 0) 0 [] rfl ow A k c (opsC (xs.take k)) rfl (by rw [opsC_size, List.length_take, Nat.min_eq_left hk]) (hHeld.rd rT.rd) (opsC_one _) (by unfold maxLen; omega) (by omega) hHeld.b.size ?_
     intro v9 V3 ow' gr9 hb9 hat9
     have u : Up W0 V3 := ⟨hHeld.b.trans hb9⟩
     have bx := bx.kept gr9 (by simpa [Value.ownBlock] using hne)
     clear ow
     have ow : Own V3 W0.heap.size 43 15 v9 k (opsC (xs.take k)) := by simpa only [Nat.zero_add, List.nil_append] using ow'
     obtain ⟨A27, c27, rfl, -, -⟩ := ow.rd
     clear ow' gr9 hb9 hat9
     refine hK.out _ _ u (fun hHeld => ?_)
     clear hK K u
     change wpAnyH _ _ _ _ _ _ _ (Act.put _ (some 27) _) _
     try simp only [Act.put, tkA, tkB, tkC]
     refine wpAnyH_ready (rs := [7]) (by kernel_rfl) (by simp) ?_
     refine AllReadyH.cons rfl (fun K hK => ?_) AllReadyH.nil
     rw [if_pos (by rfl)]
     refine wp_append_Own _ (.tmp 27) (.tmp 29) 25 rfl W0.heap.size 43 i0 _ 15 152 Tryz.underlying25 hi hz0 hz1 hz2 rfl (by decide) (.slice A27 k c27) k (opsC (xs.take k)) rfl ow (some ⟨V0.heap.size, 0, none⟩) 1 1 (opC o Ao co) rfl rfl (blk_rd bx) (opC_oneM _ _ _) (by unfold maxLen; omega) (by omega) hHeld.b.size ?_
     intro v9 V4 ow' gr9 hb9 hat9
     have u : Up W0 V4 := ⟨hHeld.b.trans hb9⟩
     clear ow
     have ow : Own V4 W0.heap.size 43 15 v9 (k + 1) (opsC (xs.take k) ++ opC o Ao co) := by simpa only [Nat.zero_add, List.nil_append] using ow'
     obtain ⟨A30, c30, rfl, -, -⟩ := ow.rd
     clear ow' gr9 hb9 hat9
     refine hK.out _ _ u (fun hHeld => ?_)
     clear hK K u
     change wpAnyH _ _ _ _ _ _ _ (Act.put _ (some 30) _) _
     try simp only [Act.put, tkA, tkB, tkC]
     refine wpAnyH_ready (rs := [11]) (by kernel_rfl) (by simp) ?_
     refine AllReadyH.cons rfl (fun K hK => ?_) AllReadyH.nil
     rw [if_pos (by rfl)]
     refine wp_append_Own _ (.tmp 30) (.tmp 33) 25 rfl W0.heap.size 43 i0 _ 15 152 Tryz.underlying25 hi hz0 hz1 hz2 rfl (by decide) (.slice A30 (k + 1) c30) (k + 1) (opsC (xs.take k) ++ opC o Ao co) rfl ow (offOp A c k) (xs.length - k) (c - k) (opsC (xs.drop k)) rfl (by rw [opsC_size, List.length_drop]) (hHeld.rd rD.rd) (opsC_one _) (by unfold maxLen; omega) (by omega) hHeld.b.size ?_
     intro v9 V5 ow' gr9 hb9 hat9
     have u : Up W0 V5 := ⟨hHeld.b.trans hb9⟩
     clear ow
     have ow : Own V5 W0.heap.size 43 15 v9 (k + 1 + (xs.length - k)) (opsC (xs.take k) ++ opC o Ao co ++ opsC (xs.drop k)) := by simpa only [Nat.zero_add, List.nil_append] using ow'
     obtain ⟨A34, c34, rfl, -, -⟩ := ow.rd
     clear ow' gr9 hb9 hat9
     refine hK.out _ _ u (fun hHeld => ?_)
     clear hK K u
     change wpAnyH _ _ _ _ _ _ _ (Act.put _ (some 34) _) _
     try simp only [Act.put, tkA, tkB, tkC]
     refine tk 12 4 (v := ?_) ?_ ?_
     rotate_left
     ·intro w' hSw; clear hSw; go_simp; try (with_reducible rfl)
     try simp only [tkA, tkB, tkC]
     refine wpAnyH_done (by kernel_rfl) ?_ _
     refine NoPanic.normal ?_
     have uF := hHeld
     clear hHeld
     go_wp2_with fail
     go_ret
     exact put_fin hx ho (HB0.out.trans (U0.trans uF)).b hk HP.out ow (HB0.out.trans U0).b.size
   ·have HP := Lib.hid (hG.out e1)
    have kL := fun w' => rless_is w' e1
    have HU := Lib.hid hu
    clear h0 hu e1 hG hS hj
    go_wp2_with fail
    refine wp_region_noPanic ?_
    refine wp_region_held_drew (S := fun w' => Up wr w') (by kernel_rfl) (Up.drew wr) (fun hHeld => ?_)
    refine tk 0 8 (v := ?_) ?_ ?_
    rotate_left
    ·intro w' hSw; clear hSw; go_simp; try (with_reducible rfl)
    try simp only [tkA, tkB, tkC]
    refine tk 1 9 (v := ?_) ?_ ?_
    rotate_left
    ·intro w' hSw; clear hSw; go_simp; try (with_reducible rfl)
    try simp only [tkA, tkB, tkC]
    refine tk 2 10 (v := ?_) ?_ ?_
    rotate_left
    ·intro w' hSw; clear hSw; go_simp; try (with_reducible rfl)
    try simp only [tkA, tkB, tkC]
    refine tk 3 11 (v := ?_) ?_ ?_
    rotate_left
    ·intro w' hSw; clear hSw; go_simp; try (with_reducible rfl)
    try simp only [tkA, tkB, tkC]
    refine tk 4 12 (v := ?_) ?_ ?_
    rotate_left
    ·intro w' hS0; go_simp; try (with_reducible rfl)
    try simp only [tkA, tkB, tkC]
    refine tk 5 13 (v := ?_) ?_ ?_
    rotate_left
    ·intro w' hSw; clear hSw; go_simp; try (with_reducible rfl)
    try simp only [tkA, tkB, tkC]
    refine tk 6 14 (v := ?_) ?_ ?_
    rotate_left
    ·intro w' hSw; clear hSw; go_simp; try (with_reducible rfl)
    try simp only [tkA, tkB, tkC]
    refine tk 7 15 (v := ?_) ?_ ?_
    rotate_left
    ·intro w' hSw; clear hSw; go_simp; try (with_reducible rfl)
    try simp only [tkA, tkB, tkC]
    refine tk 8 16 (v := ?_) ?_ ?_
    rotate_left
    ·intro w' hSw; clear hSw; go_simp; try (with_reducible rfl)
    try simp only [tkA, tkB, tkC]
    refine tk 9 17 (v := ?_) ?_ ?_
    rotate_left
    ·intro w' hSw; clear hSw; go_simp; try (with_reducible rfl)
    try simp only [tkA, tkB, tkC]
    refine tk 10 18 (v := ?_) ?_ ?_
    rotate_left
    ·intro w' hS0; go_simp; try (with_reducible rfl)
    try simp only [tkA, tkB, tkC]
    refine wpAnyH_ready (rs := [11]) (by kernel_rfl) (by simp) ?_
    refine AllReadyH.cons rfl (fun K hK => ?_) AllReadyH.nil
    go_simp
    go_at_call 59
    refine (kL _).mono ?_
    rintro e w9 ⟨rfl, hb9⟩
    have hu9 : Up wr w9 := hHeld.trans (Up.of hb9)
    refine hK.out _ _ hu9 (fun hHeld => ?_)
    clear hK K hHeld
    refine wpAnyH_more (S' := fun w' => Up w9 w') (fun w' h => Up.trans hu9 h) _ _ _ _ ?_
    have hHeld := Up.refl w9
    refine tk 12 20 (v := ?_) ?_ ?_
    rotate_left
    ·intro w' hSw; clear hSw; go_simp; try (with_reducible rfl)
    try simp only [tkA, tkB, tkC]
    refine wpAnyH_done (by kernel_rfl) ?_ _
    refine NoPanic.normal ?_
    clear hHeld
    have hu5 := Lib.hid hu9
    clear hu9 hb9
    go_wp2_with fail
    go_roundw
    case rel => exact ⟨j, by have := HJ.out; omega, by go_num, HU.out.trans hu5.out, HP.out⟩
    case measure => have := HJ.out; simp [intOf]; omega
end Go.Proofs.YtcomeidcmcegfaaGreatDoor
