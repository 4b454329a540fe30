/-
  The walk of one of the reference's layer 50: the error of the operation with an index. Conditions: the operations are readable; at most a hundred million of them.
  The walks of Check, Same and Light of the reference's layer 50. Conditions: the operations and the vectors are readable.
  The walks of Same and Light of the reference's layer 50. Conditions: the operations and the vectors are readable.
-/
import Derived.Test.YtcomeidcmcegfaaGreatDoorZV
import Derived.Test.YtcomeidcmcegfaaGreatDoorZU
import Derived.Test.YtcomeidcmcegfaaGreatDoorZJ
namespace Go.Proofs.YtcomeidcmcegfaaGreatDoor
open Go.RowKit
set_option linter.unusedVariables false
set_option linter.unusedSimpArgs false
theorem opL_take (xs : List OX) (k : Nat) : (opL xs).take k = opL (xs.take k) := by simp [opL, List.map_take]
def rfK (pre : List OP) (o : OP) (s : Int × Int) : Nat → Bool
 | 0 => false
 | f + 1 => rfK pre o s f || fndB pre o s f
theorem rfK3 (pre : List OP) (o : OP) (s : Int × Int) : rfK pre o s 3 = fnd3 pre o s := by simp [rfK, fnd3]
def RoRel (w1 : World) (pre : List OP) (o : OP) (vi : Value) (wr : World) : Prop := ∃ j : Nat, j ≤ o.ov.length ∧ vi = .int .i64 j ∧ Up w1 wr ∧ Hid (o.ov.all (fnd3 pre o) = (o.ov.drop j).all (fnd3 pre o))
def RfRel (w1 : World) (pre : List OP) (o : OP) (s : Int × Int) (vb vi : Value) (wr : World) : Prop := ∃ f : Nat, f ≤ 3 ∧ vi = .int .i64 f ∧ vb = .bool (rfK pre o s f) ∧ Up w1 wr
theorem wp_cutA {P : Program} {c : Code} {Q : Exit → Act → World → Prop} {a : Act} {w : World} (R : Act → Act → World → Prop) (h1 : c.wp P (fun e a' w' => e = .normal ∧ R a a' w') a w) (h2 : ∀ a' w', R a a' w' → Q .normal a' w') : c.wp P Q a w :=
 Code.wp_mono (by rintro e a' w' ⟨rfl, h⟩; exact h2 a' w' h) h1
theorem RetAdd.one {xs : List OX} {id : Int} {w w' : World} {e : Ending} (h : RetAdd xs id w e w') : ∃ (o' : OP) (A' : Option Addr) (c' : Nat) (kb : Bool), e = .returned (.tuple #[.agg #[.int .i64 o'.ac, .int .i64 o'.ad, .int .i64 o'.kd, .int .i64 o'.rc, .int .i64 o'.id, .int .i64 o'.ti, .int .i64 o'.pa, .int .i64 o'.sf, .int .i64 o'.st, .int .i64 o'.rk, .string ⟨o'.nt.toArray⟩, .int .i64 o'.se, .int .i64 o'.nn, .string ⟨o'.tx.toArray⟩, .slice A' o'.ov.length c'], .bool kb]) ∧ Below w.heap.size w w' ∧ ((kb = true ∧ firstAdd (opL xs) id = some o') ∨ (kb = false ∧ firstAdd (opL xs) id = none)) := by
 obtain ⟨hb, ⟨x, -, hf, rfl⟩ | ⟨hf, rfl⟩⟩ := h
 ·exact ⟨x.o, x.A, x.c, true, rfl, hb, .inl ⟨rfl, hf⟩⟩
 ·exact ⟨OP.zero, none, 0, false, rfl, hb, .inr ⟨rfl, hf⟩⟩
set_option maxRecDepth 100000 in
set_option maxHeartbeats 16000000 in
theorem rone_any (w : World) (A : Option Addr) (c : Nat) (xs : List OX) (hx : OpsRd w A xs) (hxc : xs.length ≤ c) (hl : xs.length ≤ 100000000) (k : Nat) (hk : k < xs.length) :
 Calls Tryz.prog 61 #[.slice A xs.length c, .int .i64 k] w (RetInt (oneX firstAdd ((opL xs).take k) xs[k].o) w) := by
 have t2 : (k : Int) < (xs.length : Int) := by omega
 have t3 : 0 ≤ (k : Int) := by omega
 have hsl : ∀ w', (Instr.slice 25 (.slice A xs.length c) none (some (.int .i64 k)) none).run Tryz.prog w' = .ok (.slice A k c) w' := fun w' => slice_opsH A c xs.length hxc k k rfl (by omega) w'
 have hxk := hx.takeK k
 have hlk : (xs.take k).length = k := by rw [List.length_take]; omega
 have kA := fun w' id (h : OpsRd w' A (xs.take k)) => radded_any w' A c (xs.take k) h (by rw [hlk]; unfold maxLen; omega) id
 have kW := fun w' s nt f (h : OpsRd w' A (xs.take k)) => rwriter_any w' A c (xs.take k) h (by rw [hlk]; unfold maxLen; omega) s nt f
 rw [hlk] at kA kW
 have hprev := Lib.hid (fun (m : Nat) (h : k = m + 1) => lastS_take (l := opL xs) (k := m) (by rw [opL_len]; omega))
 simp only [opL_take] at hprev ⊢
 obtain ⟨b, off, eA, hblt, hrg⟩ := hx.range hk
 obtain ⟨bdo, ro, qo⟩ := hx.ok _ (List.getElem_mem hk)
 have hmem := List.getElem_mem hk
 have hpr := Lib.hid (fun (m : Nat) (h : k = m + 1) => hx.range (k := m) (by omega))
 have hpo := Lib.hid (fun (m : Nat) (h : k = m + 1) => opL_get xs m (by omega))
 generalize hxx : xs[k] = x at *
 obtain ⟨o, Ao, co⟩ := x
 dsimp only at bdo ro qo ⊢
 have HR : Hid (oneX firstAdd (opL (xs.take k)) o = if checkE o = 0 then (if lessB (lastS (opL (xs.take k))).1 (lastS (opL (xs.take k))).2 o.ac o.ad = true then (if addOk firstAdd (opL (xs.take k)) o = true then (if o.ov.all (fnd3 (opL (xs.take k)) o) = true then 0 else 27) else 9) else 10) else checkE o) := rfl
 clear hxx hmem
 subst eA
 have m0 : w.cell? ⟨b, off + k * 15, none⟩ = some (.int .i64 o.ac) := hrg 0 _ rfl
 have m1 : w.cell? ⟨b, off + k * 15 + 1, none⟩ = some (.int .i64 o.ad) := hrg 1 _ rfl
 have m2 : w.cell? ⟨b, off + k * 15 + 2, none⟩ = some (.int .i64 o.kd) := hrg 2 _ rfl
 have m3 : w.cell? ⟨b, off + k * 15 + 3, none⟩ = some (.int .i64 o.rc) := hrg 3 _ rfl
 have m4 : w.cell? ⟨b, off + k * 15 + 4, none⟩ = some (.int .i64 o.id) := hrg 4 _ rfl
 have m5 : w.cell? ⟨b, off + k * 15 + 5, none⟩ = some (.int .i64 o.ti) := hrg 5 _ rfl
 have m6 : w.cell? ⟨b, off + k * 15 + 6, none⟩ = some (.int .i64 o.pa) := hrg 6 _ rfl
 have m7 : w.cell? ⟨b, off + k * 15 + 7, none⟩ = some (.int .i64 o.sf) := hrg 7 _ rfl
 have m8 : w.cell? ⟨b, off + k * 15 + 8, none⟩ = some (.int .i64 o.st) := hrg 8 _ rfl
 have m9 : w.cell? ⟨b, off + k * 15 + 9, none⟩ = some (.int .i64 o.rk) := hrg 9 _ rfl
 have m10 : w.cell? ⟨b, off + k * 15 + 10, none⟩ = some (.string ⟨o.nt.toArray⟩) := hrg 10 _ rfl
 have m11 : w.cell? ⟨b, off + k * 15 + 11, none⟩ = some (.int .i64 o.se) := hrg 11 _ rfl
 have m12 : w.cell? ⟨b, off + k * 15 + 12, none⟩ = some (.int .i64 o.nn) := hrg 12 _ rfl
 have m13 : w.cell? ⟨b, off + k * 15 + 13, none⟩ = some (.string ⟨o.tx.toArray⟩) := hrg 13 _ rfl
 have m14 : w.cell? ⟨b, off + k * 15 + 14, none⟩ = some (.slice Ao o.ov.length co) := hrg 14 _ rfl
 clear hrg
 have hB := Blk.new w 43 (opC o Ao co).toArray
 have hu0 := Up.alloc' w (.cells (opC o Ao co).toArray 43)
 have kC := rcheck_any (w.alloc (.cells (opC o Ao co).toArray 43)) o Ao co bdo (ro.below hu0.b) qo
 unfold opV opC at kC
 have HU0 := Lib.hid hu0
 have hRo := ro.below hu0.b
 have hXk := hxk.below hu0.b
 unfold opC at hB HU0 hRo hXk
 clear hu0 ro hxk
 go_enter Tryz.func61, Tryz.ntmps61
 go_wp2_with fail
 refine kC.mono ?_
 rintro e w2 ⟨rfl, hb2⟩
 have u02 := HU0.out.trans (Up.of hb2)
 have hB2 := hB.up (Up.of hb2)
 have hR2 := hRo.below hb2
 have hX2 := hXk.below hb2
 have HU2 := Lib.hid u02
 have hpc : Hid (∀ m, k = m + 1 → ∀ w', Up w2 w' → w'.cell? ⟨b, off + m * 15, none⟩ = some (.int .i64 (lastS (opL (xs.take k))).1) ∧ w'.cell? ⟨b, off + m * 15 + 1, none⟩ = some (.int .i64 (lastS (opL (xs.take k))).2)) := by
  intro m hm w' u
  obtain ⟨b', off', e, hb', hg'⟩ := hpr.out m hm
  cases e
  have h2 := hprev.out m hm
  rw [← hm] at h2
  rw [h2, hpo.out m hm]
  exact ⟨u.cell (u02.cell (hg' 0 _ rfl)), u.cell (u02.cell (hg' 1 _ rfl))⟩
 clear hpr hprev hpo kC hB hRo hXk hb2 u02 m0 m1 m2 m3 m4 m5 m6 m7 m8 m9 m10 m11 m12 m13 m14
 have HZ : Hid (k = 0 → firstAdd (opL (xs.take k)) o.id = none) := by rintro rfl; rfl
 have HLZ : Hid (k = 0 → checkE o = 0 → lessB (lastS (opL (xs.take k))).1 (lastS (opL (xs.take k))).2 o.ac o.ad = true) := by rintro rfl h; exact less_zero h
 generalize hpre : opL (xs.take k) = pre at *
 by_cases h0 : checkE o = 0
 rotate_left
 ·replace HR := Lib.hid (HR.out.trans (if_neg h0))
  generalize checkE o = E at *
  have q1 : (E != 0) = true := by simpa using h0
  have q2 : (E == 0) = false := by simpa using h0
  clear h0
  go_wp2_with fail
  go_ret
  exact ⟨by rw [HR.out]; rfl, HU2.out.b⟩
 have HLZ := Lib.hid (fun h => HLZ.out h h0)
 have HOV := Lib.hid (fun h => (check_add h0 h).2)
 replace HR := Lib.hid (HR.out.trans (if_pos h0))
 rw [h0]
 clear h0
 generalize lastS pre = L at *
 obtain ⟨lc, ld⟩ := L
 dsimp only at HR hpc HLZ
 have y0 : ∀ w', Up w2 w' → w'.cell? ⟨w.heap.size, 0, none⟩ = some (.int .i64 o.ac) := fun w' u => by rw [(hB2.up u).cell]; rfl
 have y1 : ∀ w', Up w2 w' → w'.cell? ⟨w.heap.size, 1, none⟩ = some (.int .i64 o.ad) := fun w' u => by rw [(hB2.up u).cell]; rfl
 have kL := fun w' => rless_any w' lc ld o.ac o.ad
 by_cases hk0 : k = 0
 ·replace HR := Lib.hid (HR.out.trans (if_pos (HLZ.out hk0)))
  have HZ := Lib.hid (HZ.out hk0)
  have t5 : decide (0 < (k : Int)) = false := decide_eq_false (by omega)
  have t5n : decide (0 < k) = false := decide_eq_false (by omega)
  clear hk0 kL hpc HLZ
  go_wp2_with fail
  refine wp_region_noPanic ?_
  refine wp_region_held_drew (S := fun w' => Up w2 w') (by kernel_rfl) (Up.drew w2) (fun hHeld => ?_)
  refine tk 0 21 (v := ?_) ?_ ?_
  rotate_left
  ·intro w' hSw; clear hSw; go_simp; try (with_reducible rfl)
  try simp only [tkA, tkB, tkC]
  refine tk 1 22 (v := ?_) ?_ ?_
  rotate_left
  ·intro w' hSw; clear hSw; go_simp; try (with_reducible rfl)
  try simp only [tkA, tkB, tkC]
  refine tk 2 23 (v := ?_) ?_ ?_
  rotate_left
  ·intro w' hSw; clear hSw; go_simp; try (with_reducible rfl)
  try simp only [tkA, tkB, tkC]
  refine held_skip 3 rfl (by kernel_rfl) (by kernel_rfl) (by kernel_rfl) (fun _ _ _ h => h) (by rfl) (by assumption) ?_
  change wpAnyH _ _ _ _ _ _ _ (Act.put _ (some 24) _) _
  try simp only [Act.put, tkA, tkB, tkC]
  refine held_skip 4 rfl (by kernel_rfl) (by kernel_rfl) (by kernel_rfl) (fun _ _ _ h => h) (by rfl) (by assumption) ?_
  change wpAnyH _ _ _ _ _ _ _ (Act.put _ (some 25) _) _
  try simp only [Act.put, tkA, tkB, tkC]
  refine held_skip 5 rfl (by kernel_rfl) (by kernel_rfl) (by kernel_rfl) (fun _ _ _ h => h) (by rfl) (by assumption) ?_
  change wpAnyH _ _ _ _ _ _ _ (Act.put _ (some 26) _) _
  try simp only [Act.put, tkA, tkB, tkC]
  refine held_skip 6 rfl (by kernel_rfl) (by kernel_rfl) (by kernel_rfl) (fun _ _ _ h => h) (by rfl) (by assumption) ?_
  change wpAnyH _ _ _ _ _ _ _ (Act.put _ (some 27) _) _
  try simp only [Act.put, tkA, tkB, tkC]
  refine held_skip 7 rfl (by kernel_rfl) (by kernel_rfl) (by kernel_rfl) (fun _ _ _ h => h) (by rfl) (by assumption) ?_
  change wpAnyH _ _ _ _ _ _ _ (Act.put _ (some 28) _) _
  try simp only [Act.put, tkA, tkB, tkC]
  refine held_skip 8 rfl (by kernel_rfl) (by kernel_rfl) (by kernel_rfl) (fun _ _ _ h => h) (by rfl) (by assumption) ?_
  change wpAnyH _ _ _ _ _ _ _ (Act.put _ (some 29) _) _
  try simp only [Act.put, tkA, tkB, tkC]
  refine held_skip 9 rfl (by kernel_rfl) (by kernel_rfl) (by kernel_rfl) (fun _ _ _ h => h) (by rfl) (by assumption) ?_
  change wpAnyH _ _ _ _ _ _ _ (Act.put _ (some 30) _) _
  try simp only [Act.put, tkA, tkB, tkC]
  refine held_skip 10 rfl (by kernel_rfl) (by kernel_rfl) (by kernel_rfl) (fun _ _ _ h => h) (by rfl) (by assumption) ?_
  change wpAnyH _ _ _ _ _ _ _ (Act.put _ (some 31) _) _
  try simp only [Act.put, tkA, tkB, tkC]
  refine held_skip 11 rfl (by kernel_rfl) (by kernel_rfl) (by kernel_rfl) (fun _ _ _ h => h) (by rfl) (by assumption) ?_
  change wpAnyH _ _ _ _ _ _ _ (Act.put _ (some 32) _) _
  try simp only [Act.put, tkA, tkB, tkC]
  refine held_skip 12 rfl (by kernel_rfl) (by kernel_rfl) (by kernel_rfl) (fun _ _ _ h => h) (by rfl) (by assumption) ?_
  change wpAnyH _ _ _ _ _ _ _ (Act.put _ (some 33) _) _
  try simp only [Act.put, tkA, tkB, tkC]
  refine tk 13 34 (v := ?_) ?_ ?_
  rotate_left
  ·intro w' hSw; clear hSw; go_simp; try (with_reducible rfl)
  try simp only [tkA, tkB, tkC]
  refine wpAnyH_done (by kernel_rfl) ?_ _
  refine NoPanic.normal ?_
  clear hHeld
  have u3 := Up.drew w2
  generalize w2.drew = w3 at *
  clear y0 y1
  have HU3 := Lib.hid (HU2.out.trans u3)
  have hB3 := hB2.up u3
  have hR3 := hR2.below u3.b
  have hX3 := hX2.below u3.b
  have c2 : w3.cell? ⟨w.heap.size, 2, none⟩ = some (.int .i64 o.kd) := by rw [hB3.cell]; rfl
  clear u3 hB2 hR2 hX2
  rcases hkd : (o.kd == 0) with _ | _
  rotate_left
  ·have hadd : addOk firstAdd pre o = true := by unfold addOk; rw [hkd]; rfl
   have hova : o.ov.all (fnd3 pre o) = true := by rw [HOV.out (beq_iff_eq.1 hkd)]; rfl
   replace HR := Lib.hid (HR.out.trans (if_pos hadd))
   replace HR := Lib.hid (HR.out.trans (if_pos hova))
   clear hadd hova
   go_wp2_with fail
   go_ret
   exact ⟨by rw [HR.out]; rfl, HU3.out.b⟩
  have s4 : ∀ w', Up w3 w' → w'.cell? ⟨w.heap.size, 4, none⟩ = some (.int .i64 o.id) := fun w' u => by rw [(hB3.up u).cell]; rfl
  have kA' := fun w' (u : Up w3 w') => kA w' o.id (hX3.below u.b)
  have Hkd := Lib.hid hkd
  go_wp2_with fail
  clear hkd c2
  refine wp_cutA (fun a a' w' => ∃ (G : Nat) (o' : OP) (A' : Option Addr) (c' : Nat) (kb : Bool), a' = { tmps := ((((((((((((a.tmps.setIfInBounds 39 (.slice (some ⟨b, off, none⟩) xs.length c)).setIfInBounds 40 (.int .i64 k)).setIfInBounds 41 (.slice (some ⟨b, off, none⟩) k c)).setIfInBounds 42 (.pointer (some ⟨w.heap.size, 4, none⟩))).setIfInBounds 43 (.pointer (some ⟨w.heap.size, 4, none⟩))).setIfInBounds 44 (.int .i64 o.id)).setIfInBounds 45 (.tuple #[.agg #[.int .i64 o'.ac, .int .i64 o'.ad, .int .i64 o'.kd, .int .i64 o'.rc, .int .i64 o'.id, .int .i64 o'.ti, .int .i64 o'.pa, .int .i64 o'.sf, .int .i64 o'.st, .int .i64 o'.rk, .string ⟨o'.nt.toArray⟩, .int .i64 o'.se, .int .i64 o'.nn, .string ⟨o'.tx.toArray⟩, .slice A' o'.ov.length c'], .bool kb])).setIfInBounds 38 (.tuple #[.agg #[.int .i64 o'.ac, .int .i64 o'.ad, .int .i64 o'.kd, .int .i64 o'.rc, .int .i64 o'.id, .int .i64 o'.ti, .int .i64 o'.pa, .int .i64 o'.sf, .int .i64 o'.st, .int .i64 o'.rk, .string ⟨o'.nt.toArray⟩, .int .i64 o'.se, .int .i64 o'.nn, .string ⟨o'.tx.toArray⟩, .slice A' o'.ov.length c'], .bool kb])).setIfInBounds 46 (.agg #[.int .i64 o'.ac, .int .i64 o'.ad, .int .i64 o'.kd, .int .i64 o'.rc, .int .i64 o'.id, .int .i64 o'.ti, .int .i64 o'.pa, .int .i64 o'.sf, .int .i64 o'.st, .int .i64 o'.rk, .string ⟨o'.nt.toArray⟩, .int .i64 o'.se, .int .i64 o'.nn, .string ⟨o'.tx.toArray⟩, .slice A' o'.ov.length c'])).setIfInBounds 47 (.bool kb)).setIfInBounds 7 (.pointer (some ⟨G, 0, none⟩))).setIfInBounds 8 (.bool kb)), defers := [] } ∧ Blk w' G 43 (opC o' A' c').toArray ∧ Up w3 w' ∧ ((kb = true ∧ firstAdd pre o.id = some o') ∨ (kb = false ∧ firstAdd pre o.id = none))) ?_ ?_
  refine wp_region_noPanic ?_
  refine wp_region_held_drew (S := fun w' => Up w3 w') (by kernel_rfl) (Up.drew w3) (fun hHeld => ?_)
  refine tk 0 39 (v := ?_) ?_ ?_
  rotate_left
  ·intro w' hSw; clear hSw; go_simp; try (with_reducible rfl)
  try simp only [tkA, tkB, tkC]
  refine tk 1 40 (v := ?_) ?_ ?_
  rotate_left
  ·intro w' hSw; clear hSw; go_simp; try (with_reducible rfl)
  try simp only [tkA, tkB, tkC]
  refine tk 2 41 (v := ?_) ?_ ?_
  rotate_left
  ·intro w' hS0; go_simp; try (with_reducible rfl)
  try simp only [tkA, tkB, tkC]
  refine tk 3 42 (v := ?_) ?_ ?_
  rotate_left
  ·intro w' hSw; clear hSw; go_simp; try (with_reducible rfl)
  try simp only [tkA, tkB, tkC]
  refine tk 4 43 (v := ?_) ?_ ?_
  rotate_left
  ·intro w' hSw; clear hSw; go_simp; try (with_reducible rfl)
  try simp only [tkA, tkB, tkC]
  refine tk 5 44 (v := ?_) ?_ ?_
  rotate_left
  ·intro w' hS0; go_simp; try (with_reducible rfl)
  try simp only [tkA, tkB, tkC]
  refine wpAnyH_ready (rs := [6, 10]) (by kernel_rfl) (by simp) ?_
  refine AllReadyH.cons rfl (fun K hK => ?_) (AllReadyH.cons rfl (fun K hK => ?_) AllReadyH.nil)
  ·go_simp
   go_at_call 88
   refine (kA' _ (Up.drew _)).mono ?_
   rintro e w4 hret
   obtain ⟨o', A', c', kb, rfl, hb4, hcase⟩ := RetAdd.one hret
   clear hret
   have hu4 : Up w3 w4 := (Up.drew _).trans (Up.of hb4)
   refine hK.out _ _ hu4 (fun hHeld => ?_)
   clear hK K
   refine tk 7 38 (v := ?_) ?_ ?_
   rotate_left
   ·intro w' hSw; clear hSw; go_simp; try (with_reducible rfl)
   try simp only [tkA, tkB, tkC]
   refine tk 8 46 (v := ?_) ?_ ?_
   rotate_left
   ·intro w' hSw; clear hSw; go_simp; try (with_reducible rfl)
   try simp only [tkA, tkB, tkC]
   refine tk 9 47 (v := ?_) ?_ ?_
   rotate_left
   ·intro w' hSw; clear hSw; go_simp; try (with_reducible rfl)
   try simp only [tkA, tkB, tkC]
   refine wpAnyH_ready (rs := [10]) (by kernel_rfl) (by simp) ?_
   refine AllReadyH.cons rfl (fun K hK => ?_) AllReadyH.nil
   go_simp
   refine hK.out _ _ (hu4.trans (Up.alloc' _ _)) (fun hHeld => ?_)
   clear hK K
   refine wpAnyH_ready (rs := [11]) (by kernel_rfl) (by simp) ?_
   refine AllReadyH.cons rfl (fun K hK => ?_) AllReadyH.nil
   go_simp
   refine hK.out _ _ (hu4.trans (Up.alloc' _ _)) (fun hHeld => ?_)
   clear hK K
   refine tk 12 8 (v := ?_) ?_ ?_
   rotate_left
   ·intro w' hSw; clear hSw; go_simp; try (with_reducible rfl)
   try simp only [tkA, tkB, tkC]
   refine wpAnyH_done (by kernel_rfl) ?_ _
   refine NoPanic.normal ?_
   clear hHeld
   exact ⟨rfl, _, o', A', c', kb, rfl, Blk.new _ _ _, hu4.trans (Up.alloc' _ _), by rw [hpre] at hcase; exact hcase⟩
  ·go_simp
   refine hK.out _ _ ((Up.drew _).trans (Up.alloc' _ _)) (fun hHeld => ?_)
   clear hK K
   refine wpAnyH_ready (rs := [6]) (by kernel_rfl) (by simp) ?_
   refine AllReadyH.cons rfl (fun K hK => ?_) AllReadyH.nil
   go_simp
   go_at_call 88
   refine (kA' _ hHeld).mono ?_
   rintro e w4 hret
   obtain ⟨o', A', c', kb, rfl, hb4, hcase⟩ := RetAdd.one hret
   clear hret
   have hu4 : Up w3 w4 := hHeld.trans (Up.of hb4)
   have hG4 : Blk w4 w3.heap.size 43 (opC OP.zero none 0).toArray := (Blk.new w3.drew 43 (opC OP.zero none 0).toArray).up (Up.of hb4)
   obtain ⟨⟨g0, g1, g2, g3⟩, ⟨g4, g5, g6, g7, g8, g9, g10⟩, ⟨g11, g12, g13, g14⟩⟩ := blk_opAtJ hG4
   have e0 := hG4.free 0
   have e1 := hG4.free 1
   have e2 := hG4.free 2
   have e3 := hG4.free 3
   have e4 := hG4.free 4
   have e5 := hG4.free 5
   have e6 := hG4.free 6
   have e7 := hG4.free 7
   have e8 := hG4.free 8
   have e9 := hG4.free 9
   have e10 := hG4.free 10
   have e11 := hG4.free 11
   have e12 := hG4.free 12
   have e13 := hG4.free 13
   have e14 := hG4.free 14
   refine hK.out _ _ hu4 (fun hHeld => ?_)
   clear hK K
   refine tk 7 38 (v := ?_) ?_ ?_
   rotate_left
   ·intro w' hSw; clear hSw; go_simp; try (with_reducible rfl)
   try simp only [tkA, tkB, tkC]
   refine tk 8 46 (v := ?_) ?_ ?_
   rotate_left
   ·intro w' hSw; clear hSw; go_simp; try (with_reducible rfl)
   try simp only [tkA, tkB, tkC]
   refine tk 9 47 (v := ?_) ?_ ?_
   rotate_left
   ·intro w' hSw; clear hSw; go_simp; try (with_reducible rfl)
   try simp only [tkA, tkB, tkC]
   refine wpAnyH_ready (rs := [11]) (by kernel_rfl) (by simp) ?_
   refine AllReadyH.cons rfl (fun K hK => ?_) AllReadyH.nil
   go_simp
   have hu5 : Up w3 (set15 w4 w3.heap.size o' A' c') := Up.of (set15_below hu4.b (Nat.le_refl _))
   refine hK.out _ _ hu5 (fun hHeld => ?_)
   clear hK K
   refine tk 12 8 (v := ?_) ?_ ?_
   rotate_left
   ·intro w' hSw; clear hSw; go_simp; try (with_reducible rfl)
   try simp only [tkA, tkB, tkC]
   refine wpAnyH_done (by kernel_rfl) ?_ _
   refine NoPanic.normal ?_
   clear hHeld
   exact ⟨rfl, _, o', A', c', kb, rfl, set15_blk hG4, hu5, by rw [hpre] at hcase; exact hcase⟩
  rintro a' w5 ⟨G, o', A', c', kb, rfl, hG, u5, hcase⟩
  simp only [List.setIfInBounds_toArray, List.set_cons_zero, List.set_cons_succ]
  have HU5 := Lib.hid (HU3.out.trans u5)
  have hB5 := hB3.up u5
  have hR5 := hR3.below u5.b
  have hX5 := hX3.below u5.b
  have d0 : w5.cell? ⟨G, 3, none⟩ = some (.int .i64 o'.rc) := by rw [hG.cell]; rfl
  have d1 : w5.cell? ⟨w.heap.size, 3, none⟩ = some (.int .i64 o.rc) := by rw [hB5.cell]; rfl
  clear u5 hB3 hR3 hX3 kA' s4
  rcases hcase with ⟨rfl, hfa⟩ | ⟨rfl, hfa⟩
  rotate_left
  ·have hadd : ¬ addOk firstAdd pre o = true := by unfold addOk; rw [Hkd.out, hfa]; simp
   replace HR := Lib.hid (HR.out.trans (if_neg hadd))
   clear hadd hfa
   go_wp2_with fail
   go_ret
   exact ⟨by rw [HR.out]; rfl, HU5.out.b⟩
  ·rw [HZ.out] at hfa; cases hfa
 ·obtain ⟨m, hm⟩ : ∃ m, k = m + 1 := ⟨k - 1, by omega⟩
  have z0 := fun w' u => (hpc.out m hm w' u).1
  have z1 := fun w' u => (hpc.out m hm w' u).2
  have t5 : decide (0 < (k : Int)) = true := decide_eq_true (by omega)
  have t5n : decide (0 < k) = true := decide_eq_true (by omega)
  have t6 : IntKind.i64.wrap ((k : Int) - 1) = (m : Int) := by rw [IntWalk.i64_in _ (by omega)]; omega
  have t7 : (m : Int) < (xs.length : Int) := by omega
  have t8 : 0 ≤ (m : Int) := by omega
  have HM := Lib.hid hm
  clear hk0 hpc HLZ HZ hm
  rcases hle : lessB lc ld o.ac o.ad with _ | _
  ·replace HR := Lib.hid (HR.out.trans (if_neg (by rw [hle]; decide)))
   simp only [hle] at kL
   clear hle
   go_wp2_with fail
   refine wp_region_noPanic ?_
   refine wp_region_held_drew (S := fun w' => Up w2 w') (by kernel_rfl) (Up.drew w2) (fun hHeld => ?_)
   refine tk 0 21 (v := ?_) ?_ ?_
   rotate_left
   ·intro w' hSw; clear hSw; go_simp; try (with_reducible rfl)
   try simp only [tkA, tkB, tkC]
   refine tk 1 22 (v := ?_) ?_ ?_
   rotate_left
   ·intro w' hSw; clear hSw; go_simp; try (with_reducible rfl)
   try simp only [tkA, tkB, tkC]
   refine tk 2 23 (v := ?_) ?_ ?_
   rotate_left
   ·intro w' hSw; clear hSw; go_simp; try (with_reducible rfl)
   try simp only [tkA, tkB, tkC]
   refine tk 3 24 (v := ?_) ?_ ?_
   rotate_left
   ·intro w' hSw; clear hSw; go_simp; try (with_reducible rfl)
   try simp only [tkA, tkB, tkC]
   refine tk 4 25 (v := ?_) ?_ ?_
   rotate_left
   ·intro w' hSw; clear hSw; go_simp; try (with_reducible rfl)
   try simp only [tkA, tkB, tkC]
   refine tk 5 26 (v := ?_) ?_ ?_
   rotate_left
   ·intro w' hSw; clear hSw; go_simp; try (with_reducible rfl)
   try simp only [tkA, tkB, tkC]
   refine tk 6 27 (v := ?_) ?_ ?_
   rotate_left
   ·intro w' hSw; clear hSw; go_simp; try (with_reducible rfl)
   try simp only [tkA, tkB, tkC]
   refine tk 7 28 (v := ?_) ?_ ?_
   rotate_left
   ·intro w' hSw; clear hSw; go_simp; try (with_reducible rfl)
   try simp only [tkA, tkB, tkC]
   refine tk 8 29 (v := ?_) ?_ ?_
   rotate_left
   ·intro w' hS0; go_simp; try (with_reducible rfl)
   try simp only [tkA, tkB, tkC]
   refine tk 9 30 (v := ?_) ?_ ?_
   rotate_left
   ·intro w' hSw; clear hSw; go_simp; try (with_reducible rfl)
   try simp only [tkA, tkB, tkC]
   refine tk 10 31 (v := ?_) ?_ ?_
   rotate_left
   ·intro w' hS0; go_simp; try (with_reducible rfl)
   try simp only [tkA, tkB, tkC]
   refine wpAnyH_ready (rs := [11]) (by kernel_rfl) (by simp) ?_
   refine AllReadyH.cons rfl (fun K hK => ?_) AllReadyH.nil
   go_simp
   go_at_call 59
   refine (kL _).mono ?_
   rintro e w3 ⟨rfl, hb3⟩
   have u3 : Up w2 w3 := hHeld.trans (Up.of hb3)
   refine hK.out _ _ u3 (fun hHeld => ?_)
   clear hK K hHeld
   refine wpAnyH_more (S' := fun w' => Up w3 w') (fun w' h => Up.trans u3 h) _ _ _ _ ?_
   have hHeld := Up.refl w3
   refine tk 12 33 (v := ?_) ?_ ?_
   rotate_left
   ·intro w' hSw; clear hSw; go_simp; try (with_reducible rfl)
   try simp only [tkA, tkB, tkC]
   refine tk 13 34 (v := ?_) ?_ ?_
   rotate_left
   ·intro w' hSw; clear hSw; go_simp; try (with_reducible rfl)
   try simp only [tkA, tkB, tkC]
   refine wpAnyH_done (by kernel_rfl) ?_ _
   refine NoPanic.normal ?_
   clear hHeld
   have U3 := Lib.hid u3
   clear u3 hb3
   go_wp2_with fail
   go_ret
   exact ⟨by rw [HR.out]; rfl, (HU2.out.trans U3.out).b⟩
  ·replace HR := Lib.hid (HR.out.trans (if_pos hle))
   simp only [hle] at kL
   clear hle
   go_wp2_with fail
   refine wp_region_noPanic ?_
   refine wp_region_held_drew (S := fun w' => Up w2 w') (by kernel_rfl) (Up.drew w2) (fun hHeld => ?_)
   refine tk 0 21 (v := ?_) ?_ ?_
   rotate_left
   ·intro w' hSw; clear hSw; go_simp; try (with_reducible rfl)
   try simp only [tkA, tkB, tkC]
   refine tk 1 22 (v := ?_) ?_ ?_
   rotate_left
   ·intro w' hSw; clear hSw; go_simp; try (with_reducible rfl)
   try simp only [tkA, tkB, tkC]
   refine tk 2 23 (v := ?_) ?_ ?_
   rotate_left
   ·intro w' hSw; clear hSw; go_simp; try (with_reducible rfl)
   try simp only [tkA, tkB, tkC]
   refine tk 3 24 (v := ?_) ?_ ?_
   rotate_left
   ·intro w' hSw; clear hSw; go_simp; try (with_reducible rfl)
   try simp only [tkA, tkB, tkC]
   refine tk 4 25 (v := ?_) ?_ ?_
   rotate_left
   ·intro w' hSw; clear hSw; go_simp; try (with_reducible rfl)
   try simp only [tkA, tkB, tkC]
   refine tk 5 26 (v := ?_) ?_ ?_
   rotate_left
   ·intro w' hSw; clear hSw; go_simp; try (with_reducible rfl)
   try simp only [tkA, tkB, tkC]
   refine tk 6 27 (v := ?_) ?_ ?_
   rotate_left
   ·intro w' hSw; clear hSw; go_simp; try (with_reducible rfl)
   try simp only [tkA, tkB, tkC]
   refine tk 7 28 (v := ?_) ?_ ?_
   rotate_left
   ·intro w' hSw; clear hSw; go_simp; try (with_reducible rfl)
   try simp only [tkA, tkB, tkC]
   refine tk 8 29 (v := ?_) ?_ ?_
   rotate_left
   ·intro w' hS0; go_simp; try (with_reducible rfl)
   try simp only [tkA, tkB, tkC]
   refine tk 9 30 (v := ?_) ?_ ?_
   rotate_left
   ·intro w' hSw; clear hSw; go_simp; try (with_reducible rfl)
   try simp only [tkA, tkB, tkC]
   refine tk 10 31 (v := ?_) ?_ ?_
   rotate_left
   ·intro w' hS0; go_simp; try (with_reducible rfl)
   try simp only [tkA, tkB, tkC]
   refine wpAnyH_ready (rs := [11]) (by kernel_rfl) (by simp) ?_
   refine AllReadyH.cons rfl (fun K hK => ?_) AllReadyH.nil
   go_simp
   go_at_call 59
   refine (kL _).mono ?_
   rintro e w3 ⟨rfl, hb3⟩
   have u3 : Up w2 w3 := hHeld.trans (Up.of hb3)
   refine hK.out _ _ u3 (fun hHeld => ?_)
   clear hK K hHeld
   refine wpAnyH_more (S' := fun w' => Up w3 w') (fun w' h => Up.trans u3 h) _ _ _ _ ?_
   have hHeld := Up.refl w3
   refine tk 12 33 (v := ?_) ?_ ?_
   rotate_left
   ·intro w' hSw; clear hSw; go_simp; try (with_reducible rfl)
   try simp only [tkA, tkB, tkC]
   refine tk 13 34 (v := ?_) ?_ ?_
   rotate_left
   ·intro w' hSw; clear hSw; go_simp; try (with_reducible rfl)
   try simp only [tkA, tkB, tkC]
   refine wpAnyH_done (by kernel_rfl) ?_ _
   refine NoPanic.normal ?_
   clear hHeld
   clear y0 y1 z0 z1 kL
   have HU3 := Lib.hid (HU2.out.trans u3)
   have hB3 := hB2.up u3
   have hR3 := hR2.below u3.b
   have hX3 := hX2.below u3.b
   have c2 : w3.cell? ⟨w.heap.size, 2, none⟩ = some (.int .i64 o.kd) := by rw [hB3.cell]; rfl
   clear u3 hB2 hR2 hX2
   rcases hkd : (o.kd == 0) with _ | _
   rotate_left
   ·have hadd : addOk firstAdd pre o = true := by unfold addOk; rw [hkd]; rfl
    have hova : o.ov.all (fnd3 pre o) = true := by rw [HOV.out (beq_iff_eq.1 hkd)]; rfl
    replace HR := Lib.hid (HR.out.trans (if_pos hadd))
    replace HR := Lib.hid (HR.out.trans (if_pos hova))
    clear hadd hova
    go_wp2_with fail
    go_ret
    exact ⟨by rw [HR.out]; rfl, HU3.out.b⟩
   have s4 : ∀ w', Up w3 w' → w'.cell? ⟨w.heap.size, 4, none⟩ = some (.int .i64 o.id) := fun w' u => by rw [(hB3.up u).cell]; rfl
   have kA' := fun w' (u : Up w3 w') => kA w' o.id (hX3.below u.b)
   have Hkd := Lib.hid hkd
   go_wp2_with fail
   clear hkd c2
   refine wp_cutA (fun a a' w' => ∃ (G : Nat) (o' : OP) (A' : Option Addr) (c' : Nat) (kb : Bool), a' = { tmps := ((((((((((((a.tmps.setIfInBounds 39 (.slice (some ⟨b, off, none⟩) xs.length c)).setIfInBounds 40 (.int .i64 k)).setIfInBounds 41 (.slice (some ⟨b, off, none⟩) k c)).setIfInBounds 42 (.pointer (some ⟨w.heap.size, 4, none⟩))).setIfInBounds 43 (.pointer (some ⟨w.heap.size, 4, none⟩))).setIfInBounds 44 (.int .i64 o.id)).setIfInBounds 45 (.tuple #[.agg #[.int .i64 o'.ac, .int .i64 o'.ad, .int .i64 o'.kd, .int .i64 o'.rc, .int .i64 o'.id, .int .i64 o'.ti, .int .i64 o'.pa, .int .i64 o'.sf, .int .i64 o'.st, .int .i64 o'.rk, .string ⟨o'.nt.toArray⟩, .int .i64 o'.se, .int .i64 o'.nn, .string ⟨o'.tx.toArray⟩, .slice A' o'.ov.length c'], .bool kb])).setIfInBounds 38 (.tuple #[.agg #[.int .i64 o'.ac, .int .i64 o'.ad, .int .i64 o'.kd, .int .i64 o'.rc, .int .i64 o'.id, .int .i64 o'.ti, .int .i64 o'.pa, .int .i64 o'.sf, .int .i64 o'.st, .int .i64 o'.rk, .string ⟨o'.nt.toArray⟩, .int .i64 o'.se, .int .i64 o'.nn, .string ⟨o'.tx.toArray⟩, .slice A' o'.ov.length c'], .bool kb])).setIfInBounds 46 (.agg #[.int .i64 o'.ac, .int .i64 o'.ad, .int .i64 o'.kd, .int .i64 o'.rc, .int .i64 o'.id, .int .i64 o'.ti, .int .i64 o'.pa, .int .i64 o'.sf, .int .i64 o'.st, .int .i64 o'.rk, .string ⟨o'.nt.toArray⟩, .int .i64 o'.se, .int .i64 o'.nn, .string ⟨o'.tx.toArray⟩, .slice A' o'.ov.length c'])).setIfInBounds 47 (.bool kb)).setIfInBounds 7 (.pointer (some ⟨G, 0, none⟩))).setIfInBounds 8 (.bool kb)), defers := [] } ∧ Blk w' G 43 (opC o' A' c').toArray ∧ Up w3 w' ∧ ((kb = true ∧ firstAdd pre o.id = some o') ∨ (kb = false ∧ firstAdd pre o.id = none))) ?_ ?_
   refine wp_region_noPanic ?_
   refine wp_region_held_drew (S := fun w' => Up w3 w') (by kernel_rfl) (Up.drew w3) (fun hHeld => ?_)
   refine tk 0 39 (v := ?_) ?_ ?_
   rotate_left
   ·intro w' hSw; clear hSw; go_simp; try (with_reducible rfl)
   try simp only [tkA, tkB, tkC]
   refine tk 1 40 (v := ?_) ?_ ?_
   rotate_left
   ·intro w' hSw; clear hSw; go_simp; try (with_reducible rfl)
   try simp only [tkA, tkB, tkC]
   refine tk 2 41 (v := ?_) ?_ ?_
   rotate_left
   ·intro w' hS0; go_simp; try (with_reducible rfl)
   try simp only [tkA, tkB, tkC]
   refine tk 3 42 (v := ?_) ?_ ?_
   rotate_left
   ·intro w' hSw; clear hSw; go_simp; try (with_reducible rfl)
   try simp only [tkA, tkB, tkC]
   refine tk 4 43 (v := ?_) ?_ ?_
   rotate_left
   ·intro w' hSw; clear hSw; go_simp; try (with_reducible rfl)
   try simp only [tkA, tkB, tkC]
   refine tk 5 44 (v := ?_) ?_ ?_
   rotate_left
   ·intro w' hS0; go_simp; try (with_reducible rfl)
   try simp only [tkA, tkB, tkC]
   refine wpAnyH_ready (rs := [6, 10]) (by kernel_rfl) (by simp) ?_
   refine AllReadyH.cons rfl (fun K hK => ?_) (AllReadyH.cons rfl (fun K hK => ?_) AllReadyH.nil)
   ·go_simp
    go_at_call 88
    refine (kA' _ (Up.drew _)).mono ?_
    rintro e w4 hret
    obtain ⟨o', A', c', kb, rfl, hb4, hcase⟩ := RetAdd.one hret
    clear hret
    have hu4 : Up w3 w4 := (Up.drew _).trans (Up.of hb4)
    refine hK.out _ _ hu4 (fun hHeld => ?_)
    clear hK K
    refine tk 7 38 (v := ?_) ?_ ?_
    rotate_left
    ·intro w' hSw; clear hSw; go_simp; try (with_reducible rfl)
    try simp only [tkA, tkB, tkC]
    refine tk 8 46 (v := ?_) ?_ ?_
    rotate_left
    ·intro w' hSw; clear hSw; go_simp; try (with_reducible rfl)
    try simp only [tkA, tkB, tkC]
    refine tk 9 47 (v := ?_) ?_ ?_
    rotate_left
    ·intro w' hSw; clear hSw; go_simp; try (with_reducible rfl)
    try simp only [tkA, tkB, tkC]
    refine wpAnyH_ready (rs := [10]) (by kernel_rfl) (by simp) ?_
    refine AllReadyH.cons rfl (fun K hK => ?_) AllReadyH.nil
    go_simp
    refine hK.out _ _ (hu4.trans (Up.alloc' _ _)) (fun hHeld => ?_)
    clear hK K
    refine wpAnyH_ready (rs := [11]) (by kernel_rfl) (by simp) ?_
    refine AllReadyH.cons rfl (fun K hK => ?_) AllReadyH.nil
    go_simp
    refine hK.out _ _ (hu4.trans (Up.alloc' _ _)) (fun hHeld => ?_)
    clear hK K
    refine tk 12 8 (v := ?_) ?_ ?_
    rotate_left
    ·intro w' hSw; clear hSw; go_simp; try (with_reducible rfl)
    try simp only [tkA, tkB, tkC]
    refine wpAnyH_done (by kernel_rfl) ?_ _
    refine NoPanic.normal ?_
    clear hHeld
    exact ⟨rfl, _, o', A', c', kb, rfl, Blk.new _ _ _, hu4.trans (Up.alloc' _ _), by rw [hpre] at hcase; exact hcase⟩
   ·go_simp
    refine hK.out _ _ ((Up.drew _).trans (Up.alloc' _ _)) (fun hHeld => ?_)
    clear hK K
    refine wpAnyH_ready (rs := [6]) (by kernel_rfl) (by simp) ?_
    refine AllReadyH.cons rfl (fun K hK => ?_) AllReadyH.nil
    go_simp
    go_at_call 88
    refine (kA' _ hHeld).mono ?_
    rintro e w4 hret
    obtain ⟨o', A', c', kb, rfl, hb4, hcase⟩ := RetAdd.one hret
    clear hret
    have hu4 : Up w3 w4 := hHeld.trans (Up.of hb4)
    have hG4 : Blk w4 w3.heap.size 43 (opC OP.zero none 0).toArray := (Blk.new w3.drew 43 (opC OP.zero none 0).toArray).up (Up.of hb4)
    obtain ⟨⟨g0, g1, g2, g3⟩, ⟨g4, g5, g6, g7, g8, g9, g10⟩, ⟨g11, g12, g13, g14⟩⟩ := blk_opAtJ hG4
    have e0 := hG4.free 0
    have e1 := hG4.free 1
    have e2 := hG4.free 2
    have e3 := hG4.free 3
    have e4 := hG4.free 4
    have e5 := hG4.free 5
    have e6 := hG4.free 6
    have e7 := hG4.free 7
    have e8 := hG4.free 8
    have e9 := hG4.free 9
    have e10 := hG4.free 10
    have e11 := hG4.free 11
    have e12 := hG4.free 12
    have e13 := hG4.free 13
    have e14 := hG4.free 14
    refine hK.out _ _ hu4 (fun hHeld => ?_)
    clear hK K
    refine tk 7 38 (v := ?_) ?_ ?_
    rotate_left
    ·intro w' hSw; clear hSw; go_simp; try (with_reducible rfl)
    try simp only [tkA, tkB, tkC]
    refine tk 8 46 (v := ?_) ?_ ?_
    rotate_left
    ·intro w' hSw; clear hSw; go_simp; try (with_reducible rfl)
    try simp only [tkA, tkB, tkC]
    refine tk 9 47 (v := ?_) ?_ ?_
    rotate_left
    ·intro w' hSw; clear hSw; go_simp; try (with_reducible rfl)
    try simp only [tkA, tkB, tkC]
    refine wpAnyH_ready (rs := [11]) (by kernel_rfl) (by simp) ?_
    refine AllReadyH.cons rfl (fun K hK => ?_) AllReadyH.nil
    go_simp
    have hu5 : Up w3 (set15 w4 w3.heap.size o' A' c') := Up.of (set15_below hu4.b (Nat.le_refl _))
    refine hK.out _ _ hu5 (fun hHeld => ?_)
    clear hK K
    refine tk 12 8 (v := ?_) ?_ ?_
    rotate_left
    ·intro w' hSw; clear hSw; go_simp; try (with_reducible rfl)
    try simp only [tkA, tkB, tkC]
    refine wpAnyH_done (by kernel_rfl) ?_ _
    refine NoPanic.normal ?_
    clear hHeld
    exact ⟨rfl, _, o', A', c', kb, rfl, set15_blk hG4, hu5, by rw [hpre] at hcase; exact hcase⟩
   rintro a' w5 ⟨G, o', A', c', kb, rfl, hG, u5, hcase⟩
   simp only [List.setIfInBounds_toArray, List.set_cons_zero, List.set_cons_succ]
   have HU5 := Lib.hid (HU3.out.trans u5)
   have hB5 := hB3.up u5
   have hR5 := hR3.below u5.b
   have hX5 := hX3.below u5.b
   have d0 : w5.cell? ⟨G, 3, none⟩ = some (.int .i64 o'.rc) := by rw [hG.cell]; rfl
   have d1 : w5.cell? ⟨w.heap.size, 3, none⟩ = some (.int .i64 o.rc) := by rw [hB5.cell]; rfl
   clear u5 hB3 hR3 hX3 kA' s4
   rcases hcase with ⟨rfl, hfa⟩ | ⟨rfl, hfa⟩
   rotate_left
   ·have hadd : ¬ addOk firstAdd pre o = true := by unfold addOk; rw [Hkd.out, hfa]; simp
    replace HR := Lib.hid (HR.out.trans (if_neg hadd))
    clear hadd hfa
    go_wp2_with fail
    go_ret
    exact ⟨by rw [HR.out]; rfl, HU5.out.b⟩
   ·rcases hrc : (o'.rc == o.rc) with _ | _
    ·have hadd : ¬ addOk firstAdd pre o = true := by unfold addOk; rw [Hkd.out, hfa]; simpa using hrc
     replace HR := Lib.hid (HR.out.trans (if_neg hadd))
     have q1 : (o'.rc != o.rc) = true := by rw [bne, hrc]; rfl
     clear hadd hfa
     go_wp2_with fail
     go_ret
     exact ⟨by rw [HR.out]; rfl, HU5.out.b⟩
    have hadd : addOk firstAdd pre o = true := by unfold addOk; rw [Hkd.out, hfa]; simpa using hrc
    replace HR := Lib.hid (HR.out.trans (if_pos hadd))
    have q1 : (o'.rc != o.rc) = false := by rw [bne, hrc]; rfl
    clear hadd hfa
    go_wp2_with fail
    clear d0 d1 hG
    have hol := bdo.ol
    unfold maxLen at hol
    go_loopw [9] (RoRel w5 pre o) (fun i _ => o.ov.length - (intOf i).toNat)
    case atStart => exact ⟨0, Nat.zero_le _, rfl, Up.refl _, rfl⟩
    case round =>
     obtain ⟨j, hj, rfl, hu, hK⟩ := hrel
     have c14 : wr.cell? ⟨w.heap.size, 14, none⟩ = some (.slice Ao o.ov.length co) := by rw [(hB5.up hu).cell]; rfl
     by_cases hlt : j < o.ov.length
     ·have j1 : decide ((j : Int) < (o.ov.length : Int)) = true := decide_eq_true (by omega)
      have j2 : (j : Int) < (o.ov.length : Int) := by omega
      have j3 : 0 ≤ (j : Int) := by omega
      obtain ⟨b2, off2, rfl, q0, q1'⟩ := ov_cells hR5 hlt
      have hH := Lib.hid (all_no (p := fnd3 pre o) hlt hK.out)
      have hN := Lib.hid (all_next (p := fnd3 pre o) hlt hK.out)
      generalize o.ov[j] = sj at *
      go_wp2_with fail
      clear c14
      go_loopw [10, 11] (RfRel w5 pre o sj) (fun _ i _ => 3 - (intOf i).toNat)
      case atStart => exact ⟨0, by omega, rfl, rfl, hu⟩
      case round =>
       obtain ⟨f, hf, rfl, rfl, hu'⟩ := hrel
       by_cases hf3 : f < 3
       ·have f1 : decide ((f : Int) ≤ 2) = true := decide_eq_true (by omega)
        have HF : Hid (rfK pre o sj (f + 1) = (rfK pre o sj f || ((o.kd == 2 || (f : Int) == o.se) && wsB pre sj o.id f))) := rfl
        have s2 : ∀ w', Up wr w' → w'.cell? ⟨w.heap.size, 2, none⟩ = some (.int .i64 o.kd) := fun w' u => by rw [(hB5.up (hu'.trans u)).cell]; rfl
        have s4 : ∀ w', Up wr w' → w'.cell? ⟨w.heap.size, 4, none⟩ = some (.int .i64 o.id) := fun w' u => by rw [(hB5.up (hu'.trans u)).cell]; rfl
        have s11 : ∀ w', Up wr w' → w'.cell? ⟨w.heap.size, 11, none⟩ = some (.int .i64 o.se) := fun w' u => by rw [(hB5.up (hu'.trans u)).cell]; rfl
        have s14 : ∀ w', Up wr w' → w'.cell? ⟨w.heap.size, 14, none⟩ = some (.slice (some ⟨b2, off2, none⟩) o.ov.length co) := fun w' u => by rw [(hB5.up (hu'.trans u)).cell]; rfl
        have v0 : ∀ w', Up wr w' → w'.cell? ⟨b2, off2 + j * 2, none⟩ = some (.int .i64 sj.1) := fun w' u => (hu'.trans u).cell q0
        have v1 : ∀ w', Up wr w' → w'.cell? ⟨b2, off2 + j * 2 + 1, none⟩ = some (.int .i64 sj.2) := fun w' u => (hu'.trans u).cell q1'
        have kW' := fun w' (u : Up wr w') => kW w' sj o.id f (hX5.below (hu'.trans u).b)
        rcases hb : rfK pre o sj f with _ | _
        rotate_left
        ·rw [hb] at HF
         clear hb kW'
         go_wp2_with fail
         refine wp_region_noPanic ?_
         refine wp_region_held_drew (S := fun w' => Up wr w') (by kernel_rfl) (Up.drew wr) (fun hHeld => ?_)
         refine tk 0 68 (v := ?_) ?_ ?_
         rotate_left
         ·intro w' hSw; clear hSw; go_simp; try (with_reducible rfl)
         try simp only [tkA, tkB, tkC]
         refine tk 1 69 (v := ?_) ?_ ?_
         rotate_left
         ·intro w' hSw; clear hSw; go_simp; try (with_reducible rfl)
         try simp only [tkA, tkB, tkC]
         refine held_skip 2 rfl (by kernel_rfl) (by kernel_rfl) (by kernel_rfl) (fun _ _ _ h => h) (by rfl) (by assumption) ?_
         change wpAnyH _ _ _ _ _ _ _ (Act.put _ (some 70) _) _
         try simp only [Act.put, tkA, tkB, tkC]
         refine held_skip 3 rfl (by kernel_rfl) (by kernel_rfl) (by kernel_rfl) (fun _ _ _ h => h) (by rfl) (by assumption) ?_
         change wpAnyH _ _ _ _ _ _ _ (Act.put _ (some 71) _) _
         try simp only [Act.put, tkA, tkB, tkC]
         refine held_skip 4 rfl (by kernel_rfl) (by kernel_rfl) (by kernel_rfl) (fun _ _ _ h => h) (by rfl) (by assumption) ?_
         change wpAnyH _ _ _ _ _ _ _ (Act.put _ (some 72) _) _
         try simp only [Act.put, tkA, tkB, tkC]
         refine held_skip 5 rfl (by kernel_rfl) (by kernel_rfl) (by kernel_rfl) (fun _ _ _ h => h) (by rfl) (by assumption) ?_
         change wpAnyH _ _ _ _ _ _ _ (Act.put _ (some 73) _) _
         try simp only [Act.put, tkA, tkB, tkC]
         refine held_skip 6 rfl (by kernel_rfl) (by kernel_rfl) (by kernel_rfl) (fun _ _ _ h => h) (by rfl) (by assumption) ?_
         change wpAnyH _ _ _ _ _ _ _ (Act.put _ (some 74) _) _
         try simp only [Act.put, tkA, tkB, tkC]
         refine held_skip 7 rfl (by kernel_rfl) (by kernel_rfl) (by kernel_rfl) (fun _ _ _ h => h) (by rfl) (by assumption) ?_
         change wpAnyH _ _ _ _ _ _ _ (Act.put _ (some 75) _) _
         try simp only [Act.put, tkA, tkB, tkC]
         refine held_skip 8 rfl (by kernel_rfl) (by kernel_rfl) (by kernel_rfl) (fun _ _ _ h => h) (by rfl) (by assumption) ?_
         change wpAnyH _ _ _ _ _ _ _ (Act.put _ (some 76) _) _
         try simp only [Act.put, tkA, tkB, tkC]
         refine held_skip 9 rfl (by kernel_rfl) (by kernel_rfl) (by kernel_rfl) (fun _ _ _ h => h) (by rfl) (by assumption) ?_
         change wpAnyH _ _ _ _ _ _ _ (Act.put _ (some 77) _) _
         try simp only [Act.put, tkA, tkB, tkC]
         refine held_skip 10 rfl (by kernel_rfl) (by kernel_rfl) (by kernel_rfl) (fun _ _ _ h => h) (by rfl) (by assumption) ?_
         change wpAnyH _ _ _ _ _ _ _ (Act.put _ (some 78) _) _
         try simp only [Act.put, tkA, tkB, tkC]
         refine held_skip 11 rfl (by kernel_rfl) (by kernel_rfl) (by kernel_rfl) (fun _ _ _ h => h) (by rfl) (by assumption) ?_
         change wpAnyH _ _ _ _ _ _ _ (Act.put _ (some 79) _) _
         try simp only [Act.put, tkA, tkB, tkC]
         refine held_skip 12 rfl (by kernel_rfl) (by kernel_rfl) (by kernel_rfl) (fun _ _ _ h => h) (by rfl) (by assumption) ?_
         change wpAnyH _ _ _ _ _ _ _ (Act.put _ (some 80) _) _
         try simp only [Act.put, tkA, tkB, tkC]
         refine held_skip 13 rfl (by kernel_rfl) (by kernel_rfl) (by kernel_rfl) (fun _ _ _ h => h) (by rfl) (by assumption) ?_
         change wpAnyH _ _ _ _ _ _ _ (Act.put _ (some 81) _) _
         try simp only [Act.put, tkA, tkB, tkC]
         refine held_skip 14 rfl (by kernel_rfl) (by kernel_rfl) (by kernel_rfl) (fun _ _ _ h => h) (by rfl) (by assumption) ?_
         change wpAnyH _ _ _ _ _ _ _ (Act.put _ (some 82) _) _
         try simp only [Act.put, tkA, tkB, tkC]
         refine held_skip 15 rfl (by kernel_rfl) (by kernel_rfl) (by kernel_rfl) (fun _ _ _ h => h) (by rfl) (by assumption) ?_
         change wpAnyH _ _ _ _ _ _ _ (Act.put _ (some 83) _) _
         try simp only [Act.put, tkA, tkB, tkC]
         refine held_skip 16 rfl (by kernel_rfl) (by kernel_rfl) (by kernel_rfl) (fun _ _ _ h => h) (by rfl) (by assumption) ?_
         change wpAnyH _ _ _ _ _ _ _ (Act.put _ (some 84) _) _
         try simp only [Act.put, tkA, tkB, tkC]
         refine held_skip 17 rfl (by kernel_rfl) (by kernel_rfl) (by kernel_rfl) (fun _ _ _ h => h) (by rfl) (by assumption) ?_
         change wpAnyH _ _ _ _ _ _ _ (Act.put _ (some 85) _) _
         try simp only [Act.put, tkA, tkB, tkC]
         refine held_skip 18 rfl (by kernel_rfl) (by kernel_rfl) (by kernel_rfl) (fun _ _ _ h => h) (by rfl) (by assumption) ?_
         change wpAnyH _ _ _ _ _ _ _ (Act.put _ (some 86) _) _
         try simp only [Act.put, tkA, tkB, tkC]
         refine held_skip 19 rfl (by kernel_rfl) (by kernel_rfl) (by kernel_rfl) (fun _ _ _ h => h) (by rfl) (by assumption) ?_
         change wpAnyH _ _ _ _ _ _ _ (Act.put _ (some 87) _) _
         try simp only [Act.put, tkA, tkB, tkC]
         refine held_skip 20 rfl (by kernel_rfl) (by kernel_rfl) (by kernel_rfl) (fun _ _ _ h => h) (by rfl) (by assumption) ?_
         change wpAnyH _ _ _ _ _ _ _ (Act.put _ (some 88) _) _
         try simp only [Act.put, tkA, tkB, tkC]
         refine held_skip 21 rfl (by kernel_rfl) (by kernel_rfl) (by kernel_rfl) (fun _ _ _ h => h) (by rfl) (by assumption) ?_
         change wpAnyH _ _ _ _ _ _ _ (Act.put _ (some 89) _) _
         try simp only [Act.put, tkA, tkB, tkC]
         refine held_skip 22 rfl (by kernel_rfl) (by kernel_rfl) (by kernel_rfl) (fun _ _ _ h => h) (by rfl) (by assumption) ?_
         change wpAnyH _ _ _ _ _ _ _ (Act.put _ (some 90) _) _
         try simp only [Act.put, tkA, tkB, tkC]
         refine held_skip 23 rfl (by kernel_rfl) (by kernel_rfl) (by kernel_rfl) (fun _ _ _ h => h) (by rfl) (by assumption) ?_
         change wpAnyH _ _ _ _ _ _ _ (Act.put _ (some 91) _) _
         try simp only [Act.put, tkA, tkB, tkC]
         refine held_skip 24 rfl (by kernel_rfl) (by kernel_rfl) (by kernel_rfl) (fun _ _ _ h => h) (by rfl) (by assumption) ?_
         change wpAnyH _ _ _ _ _ _ _ (Act.put _ (some 92) _) _
         try simp only [Act.put, tkA, tkB, tkC]
         refine held_skip 25 rfl (by kernel_rfl) (by kernel_rfl) (by kernel_rfl) (fun _ _ _ h => h) (by rfl) (by assumption) ?_
         change wpAnyH _ _ _ _ _ _ _ (Act.put _ (some 93) _) _
         try simp only [Act.put, tkA, tkB, tkC]
         refine tk 26 94 (v := ?_) ?_ ?_
         rotate_left
         ·intro w' hSw; clear hSw; go_simp; try (with_reducible rfl)
         try simp only [tkA, tkB, tkC]
         refine tk 27 10 (v := ?_) ?_ ?_
         rotate_left
         ·intro w' hSw; clear hSw; go_simp; try (with_reducible rfl)
         try simp only [tkA, tkB, tkC]
         refine wpAnyH_done (by kernel_rfl) ?_ _
         refine NoPanic.normal ?_
         clear hHeld
         have u9 : Up w5 wr.drew := hu'.trans (Up.drew wr)
         have U9 := Lib.hid u9
         clear u9
         go_wp2_with fail
         go_roundw
         case rel => exact ⟨f + 1, by omega, by go_num, by rw [HF.out]; simp, U9.out⟩
         case measure => simp [intOf]; omega
        ·rw [hb] at HF
         clear hb
         rcases hk2 : (o.kd == 2) with _ | _
         ·rcases hse : ((f : Int) == o.se) with _ | _
          ·rw [hk2, hse] at HF
           clear kW'
           go_wp2_with fail
           refine wp_region_noPanic ?_
           refine wp_region_held_drew (S := fun w' => Up wr w') (by kernel_rfl) (Up.drew wr) (fun hHeld => ?_)
           refine tk 0 68 (v := ?_) ?_ ?_
           rotate_left
           ·intro w' hSw; clear hSw; go_simp; try (with_reducible rfl)
           try simp only [tkA, tkB, tkC]
           refine tk 1 69 (v := ?_) ?_ ?_
           rotate_left
           ·intro w' hSw; clear hSw; go_simp; try (with_reducible rfl)
           try simp only [tkA, tkB, tkC]
           refine tk 2 70 (v := ?_) ?_ ?_
           rotate_left
           ·intro w' hSw; clear hSw; go_simp; try (with_reducible rfl)
           try simp only [tkA, tkB, tkC]
           refine tk 3 71 (v := ?_) ?_ ?_
           rotate_left
           ·intro w' hS0; go_simp; try (with_reducible rfl)
           try simp only [tkA, tkB, tkC]
           refine tk 4 72 (v := ?_) ?_ ?_
           rotate_left
           ·intro w' hSw; clear hSw; go_simp; try (with_reducible rfl)
           try simp only [tkA, tkB, tkC]
           refine tk 5 73 (v := ?_) ?_ ?_
           rotate_left
           ·intro w' hSw; clear hSw; go_simp; try (with_reducible rfl)
           try simp only [tkA, tkB, tkC]
           refine tk 6 74 (v := ?_) ?_ ?_
           rotate_left
           ·intro w' hSw; clear hSw; go_simp; try (with_reducible rfl)
           try simp only [tkA, tkB, tkC]
           refine tk 7 75 (v := ?_) ?_ ?_
           rotate_left
           ·intro w' hSw; clear hSw; go_simp; try (with_reducible rfl)
           try simp only [tkA, tkB, tkC]
           refine tk 8 76 (v := ?_) ?_ ?_
           rotate_left
           ·intro w' hS0; go_simp; try (with_reducible rfl)
           try simp only [tkA, tkB, tkC]
           refine tk 9 77 (v := ?_) ?_ ?_
           rotate_left
           ·intro w' hSw; clear hSw; go_simp; try (with_reducible rfl)
           try simp only [tkA, tkB, tkC]
           refine tk 10 78 (v := ?_) ?_ ?_
           rotate_left
           ·intro w' hSw; clear hSw; go_simp; try (with_reducible rfl)
           try simp only [tkA, tkB, tkC]
           refine tk 11 79 (v := ?_) ?_ ?_
           rotate_left
           ·intro w' hSw; clear hSw; go_simp; try (with_reducible rfl)
           try simp only [tkA, tkB, tkC]
           refine held_skip 12 rfl (by kernel_rfl) (by kernel_rfl) (by kernel_rfl) (fun _ _ _ h => h) (by rfl) (by assumption) ?_
           change wpAnyH _ _ _ _ _ _ _ (Act.put _ (some 80) _) _
           try simp only [Act.put, tkA, tkB, tkC]
           refine held_skip 13 rfl (by kernel_rfl) (by kernel_rfl) (by kernel_rfl) (fun _ _ _ h => h) (by rfl) (by assumption) ?_
           change wpAnyH _ _ _ _ _ _ _ (Act.put _ (some 81) _) _
           try simp only [Act.put, tkA, tkB, tkC]
           refine held_skip 14 rfl (by kernel_rfl) (by kernel_rfl) (by kernel_rfl) (fun _ _ _ h => h) (by rfl) (by assumption) ?_
           change wpAnyH _ _ _ _ _ _ _ (Act.put _ (some 82) _) _
           try simp only [Act.put, tkA, tkB, tkC]
           refine held_skip 15 rfl (by kernel_rfl) (by kernel_rfl) (by kernel_rfl) (fun _ _ _ h => h) (by rfl) (by assumption) ?_
           change wpAnyH _ _ _ _ _ _ _ (Act.put _ (some 83) _) _
           try simp only [Act.put, tkA, tkB, tkC]
           refine held_skip 16 rfl (by kernel_rfl) (by kernel_rfl) (by kernel_rfl) (fun _ _ _ h => h) (by rfl) (by assumption) ?_
           change wpAnyH _ _ _ _ _ _ _ (Act.put _ (some 84) _) _
           try simp only [Act.put, tkA, tkB, tkC]
           refine held_skip 17 rfl (by kernel_rfl) (by kernel_rfl) (by kernel_rfl) (fun _ _ _ h => h) (by rfl) (by assumption) ?_
           change wpAnyH _ _ _ _ _ _ _ (Act.put _ (some 85) _) _
           try simp only [Act.put, tkA, tkB, tkC]
           refine held_skip 18 rfl (by kernel_rfl) (by kernel_rfl) (by kernel_rfl) (fun _ _ _ h => h) (by rfl) (by assumption) ?_
           change wpAnyH _ _ _ _ _ _ _ (Act.put _ (some 86) _) _
           try simp only [Act.put, tkA, tkB, tkC]
           refine held_skip 19 rfl (by kernel_rfl) (by kernel_rfl) (by kernel_rfl) (fun _ _ _ h => h) (by rfl) (by assumption) ?_
           change wpAnyH _ _ _ _ _ _ _ (Act.put _ (some 87) _) _
           try simp only [Act.put, tkA, tkB, tkC]
           refine held_skip 20 rfl (by kernel_rfl) (by kernel_rfl) (by kernel_rfl) (fun _ _ _ h => h) (by rfl) (by assumption) ?_
           change wpAnyH _ _ _ _ _ _ _ (Act.put _ (some 88) _) _
           try simp only [Act.put, tkA, tkB, tkC]
           refine held_skip 21 rfl (by kernel_rfl) (by kernel_rfl) (by kernel_rfl) (fun _ _ _ h => h) (by rfl) (by assumption) ?_
           change wpAnyH _ _ _ _ _ _ _ (Act.put _ (some 89) _) _
           try simp only [Act.put, tkA, tkB, tkC]
           refine held_skip 22 rfl (by kernel_rfl) (by kernel_rfl) (by kernel_rfl) (fun _ _ _ h => h) (by rfl) (by assumption) ?_
           change wpAnyH _ _ _ _ _ _ _ (Act.put _ (some 90) _) _
           try simp only [Act.put, tkA, tkB, tkC]
           refine held_skip 23 rfl (by kernel_rfl) (by kernel_rfl) (by kernel_rfl) (fun _ _ _ h => h) (by rfl) (by assumption) ?_
           change wpAnyH _ _ _ _ _ _ _ (Act.put _ (some 91) _) _
           try simp only [Act.put, tkA, tkB, tkC]
           refine held_skip 24 rfl (by kernel_rfl) (by kernel_rfl) (by kernel_rfl) (fun _ _ _ h => h) (by rfl) (by assumption) ?_
           change wpAnyH _ _ _ _ _ _ _ (Act.put _ (some 92) _) _
           try simp only [Act.put, tkA, tkB, tkC]
           refine tk 25 93 (v := ?_) ?_ ?_
           rotate_left
           ·intro w' hSw; clear hSw; go_simp; try (with_reducible rfl)
           try simp only [tkA, tkB, tkC]
           refine tk 26 94 (v := ?_) ?_ ?_
           rotate_left
           ·intro w' hSw; clear hSw; go_simp; try (with_reducible rfl)
           try simp only [tkA, tkB, tkC]
           refine tk 27 10 (v := ?_) ?_ ?_
           rotate_left
           ·intro w' hSw; clear hSw; go_simp; try (with_reducible rfl)
           try simp only [tkA, tkB, tkC]
           refine wpAnyH_done (by kernel_rfl) ?_ _
           refine NoPanic.normal ?_
           clear hHeld
           have u9 : Up w5 wr.drew := hu'.trans (Up.drew wr)
           have U9 := Lib.hid u9
           clear u9 hk2 hse
           go_wp2_with fail
           go_roundw
           case rel => exact ⟨f + 1, by omega, by go_num, by rw [HF.out]; simp, U9.out⟩
           case measure => simp [intOf]; omega
          ·rw [hk2, hse] at HF
           generalize wsB pre sj o.id f = vb at *
           go_wp2_with fail
           refine wp_region_noPanic ?_
           refine wp_region_held_drew (S := fun w' => Up wr w') (by kernel_rfl) (Up.drew wr) (fun hHeld => ?_)
           refine tk 0 68 (v := ?_) ?_ ?_
           rotate_left
           ·intro w' hSw; clear hSw; go_simp; try (with_reducible rfl)
           try simp only [tkA, tkB, tkC]
           refine tk 1 69 (v := ?_) ?_ ?_
           rotate_left
           ·intro w' hSw; clear hSw; go_simp; try (with_reducible rfl)
           try simp only [tkA, tkB, tkC]
           refine tk 2 70 (v := ?_) ?_ ?_
           rotate_left
           ·intro w' hSw; clear hSw; go_simp; try (with_reducible rfl)
           try simp only [tkA, tkB, tkC]
           refine tk 3 71 (v := ?_) ?_ ?_
           rotate_left
           ·intro w' hS0; go_simp; try (with_reducible rfl)
           try simp only [tkA, tkB, tkC]
           refine tk 4 72 (v := ?_) ?_ ?_
           rotate_left
           ·intro w' hSw; clear hSw; go_simp; try (with_reducible rfl)
           try simp only [tkA, tkB, tkC]
           refine tk 5 73 (v := ?_) ?_ ?_
           rotate_left
           ·intro w' hSw; clear hSw; go_simp; try (with_reducible rfl)
           try simp only [tkA, tkB, tkC]
           refine tk 6 74 (v := ?_) ?_ ?_
           rotate_left
           ·intro w' hSw; clear hSw; go_simp; try (with_reducible rfl)
           try simp only [tkA, tkB, tkC]
           refine tk 7 75 (v := ?_) ?_ ?_
           rotate_left
           ·intro w' hSw; clear hSw; go_simp; try (with_reducible rfl)
           try simp only [tkA, tkB, tkC]
           refine tk 8 76 (v := ?_) ?_ ?_
           rotate_left
           ·intro w' hS0; go_simp; try (with_reducible rfl)
           try simp only [tkA, tkB, tkC]
           refine tk 9 77 (v := ?_) ?_ ?_
           rotate_left
           ·intro w' hSw; clear hSw; go_simp; try (with_reducible rfl)
           try simp only [tkA, tkB, tkC]
           refine tk 10 78 (v := ?_) ?_ ?_
           rotate_left
           ·intro w' hSw; clear hSw; go_simp; try (with_reducible rfl)
           try simp only [tkA, tkB, tkC]
           refine tk 11 79 (v := ?_) ?_ ?_
           rotate_left
           ·intro w' hSw; clear hSw; go_simp; try (with_reducible rfl)
           try simp only [tkA, tkB, tkC]
           refine tk 12 80 (v := ?_) ?_ ?_
           rotate_left
           ·intro w' hSw; clear hSw; go_simp; try (with_reducible rfl)
           try simp only [tkA, tkB, tkC]
           refine tk 13 81 (v := ?_) ?_ ?_
           rotate_left
           ·intro w' hSw; clear hSw; go_simp; try (with_reducible rfl)
           try simp only [tkA, tkB, tkC]
           refine tk 14 82 (v := ?_) ?_ ?_
           rotate_left
           ·intro w' hS0; go_simp; try (with_reducible rfl)
           try simp only [tkA, tkB, tkC]
           refine tk 15 83 (v := ?_) ?_ ?_
           rotate_left
           ·intro w' hSw; clear hSw; go_simp; try (with_reducible rfl)
           try simp only [tkA, tkB, tkC]
           refine tk 16 84 (v := ?_) ?_ ?_
           rotate_left
           ·intro w' hS0; go_simp; try (with_reducible rfl)
           try simp only [tkA, tkB, tkC]
           refine tk 17 85 (v := ?_) ?_ ?_
           rotate_left
           ·intro w' hSw; clear hSw; go_simp; try (with_reducible rfl)
           try simp only [tkA, tkB, tkC]
           refine tk 18 86 (v := ?_) ?_ ?_
           rotate_left
           ·intro w' hSw; clear hSw; go_simp; try (with_reducible rfl)
           try simp only [tkA, tkB, tkC]
           refine tk 19 87 (v := ?_) ?_ ?_
           rotate_left
           ·intro w' hS0; go_simp; try (with_reducible rfl)
           try simp only [tkA, tkB, tkC]
           refine tk 20 88 (v := ?_) ?_ ?_
           rotate_left
           ·intro w' hSw; clear hSw; go_simp; try (with_reducible rfl)
           try simp only [tkA, tkB, tkC]
           refine tk 21 89 (v := ?_) ?_ ?_
           rotate_left
           ·intro w' hSw; clear hSw; go_simp; try (with_reducible rfl)
           try simp only [tkA, tkB, tkC]
           refine tk 22 90 (v := ?_) ?_ ?_
           rotate_left
           ·intro w' hS0; go_simp; try (with_reducible rfl)
           try simp only [tkA, tkB, tkC]
           refine tk 23 91 (v := ?_) ?_ ?_
           rotate_left
           ·intro w' hSw; clear hSw; go_simp; try (with_reducible rfl)
           try simp only [tkA, tkB, tkC]
           refine wpAnyH_ready (rs := [24]) (by kernel_rfl) (by simp) ?_
           refine AllReadyH.cons rfl (fun K hK => ?_) AllReadyH.nil
           go_simp
           go_at_call 89
           refine (kW' _ hHeld).mono ?_
           rintro e w9 ⟨rfl, hb9⟩
           have hu9 : Up wr w9 := hHeld.trans (Up.of hb9)
           refine hK.out _ _ hu9 (fun hHeld => ?_)
           clear hK K hHeld
           refine wpAnyH_more (S' := fun w' => Up w9 w') (fun w' h => Up.trans hu9 h) _ _ _ _ ?_
           have hHeld := Up.refl w9
           refine tk 25 93 (v := ?_) ?_ ?_
           rotate_left
           ·intro w' hSw; clear hSw; go_simp; try (with_reducible rfl)
           try simp only [tkA, tkB, tkC]
           refine tk 26 94 (v := ?_) ?_ ?_
           rotate_left
           ·intro w' hSw; clear hSw; go_simp; try (with_reducible rfl)
           try simp only [tkA, tkB, tkC]
           refine tk 27 10 (v := ?_) ?_ ?_
           rotate_left
           ·intro w' hSw; clear hSw; go_simp; try (with_reducible rfl)
           try simp only [tkA, tkB, tkC]
           refine wpAnyH_done (by kernel_rfl) ?_ _
           refine NoPanic.normal ?_
           clear hHeld
           have u9 : Up w5 w9 := hu'.trans hu9
           have U9 := Lib.hid u9
           clear u9 hk2 hse hu9 hb9
           go_wp2_with fail
           go_roundw
           case rel => exact ⟨f + 1, by omega, by go_num, by rw [HF.out]; simp, U9.out⟩
           case measure => simp [intOf]; omega
         ·rw [hk2] at HF
          ·generalize wsB pre sj o.id f = vb at *
           go_wp2_with fail
           refine wp_region_noPanic ?_
           refine wp_region_held_drew (S := fun w' => Up wr w') (by kernel_rfl) (Up.drew wr) (fun hHeld => ?_)
           refine tk 0 68 (v := ?_) ?_ ?_
           rotate_left
           ·intro w' hSw; clear hSw; go_simp; try (with_reducible rfl)
           try simp only [tkA, tkB, tkC]
           refine tk 1 69 (v := ?_) ?_ ?_
           rotate_left
           ·intro w' hSw; clear hSw; go_simp; try (with_reducible rfl)
           try simp only [tkA, tkB, tkC]
           refine tk 2 70 (v := ?_) ?_ ?_
           rotate_left
           ·intro w' hSw; clear hSw; go_simp; try (with_reducible rfl)
           try simp only [tkA, tkB, tkC]
           refine tk 3 71 (v := ?_) ?_ ?_
           rotate_left
           ·intro w' hS0; go_simp; try (with_reducible rfl)
           try simp only [tkA, tkB, tkC]
           refine tk 4 72 (v := ?_) ?_ ?_
           rotate_left
           ·intro w' hSw; clear hSw; go_simp; try (with_reducible rfl)
           try simp only [tkA, tkB, tkC]
           refine tk 5 73 (v := ?_) ?_ ?_
           rotate_left
           ·intro w' hSw; clear hSw; go_simp; try (with_reducible rfl)
           try simp only [tkA, tkB, tkC]
           refine held_skip 6 rfl (by kernel_rfl) (by kernel_rfl) (by kernel_rfl) (fun _ _ _ h => h) (by rfl) (by assumption) ?_
           change wpAnyH _ _ _ _ _ _ _ (Act.put _ (some 74) _) _
           try simp only [Act.put, tkA, tkB, tkC]
           refine held_skip 7 rfl (by kernel_rfl) (by kernel_rfl) (by kernel_rfl) (fun _ _ _ h => h) (by rfl) (by assumption) ?_
           change wpAnyH _ _ _ _ _ _ _ (Act.put _ (some 75) _) _
           try simp only [Act.put, tkA, tkB, tkC]
           refine held_skip 8 rfl (by kernel_rfl) (by kernel_rfl) (by kernel_rfl) (fun _ _ _ h => h) (by rfl) (by assumption) ?_
           change wpAnyH _ _ _ _ _ _ _ (Act.put _ (some 76) _) _
           try simp only [Act.put, tkA, tkB, tkC]
           refine held_skip 9 rfl (by kernel_rfl) (by kernel_rfl) (by kernel_rfl) (fun _ _ _ h => h) (by rfl) (by assumption) ?_
           change wpAnyH _ _ _ _ _ _ _ (Act.put _ (some 77) _) _
           try simp only [Act.put, tkA, tkB, tkC]
           refine tk 10 78 (v := ?_) ?_ ?_
           rotate_left
           ·intro w' hSw; clear hSw; go_simp; try (with_reducible rfl)
           try simp only [tkA, tkB, tkC]
           refine tk 11 79 (v := ?_) ?_ ?_
           rotate_left
           ·intro w' hSw; clear hSw; go_simp; try (with_reducible rfl)
           try simp only [tkA, tkB, tkC]
           refine tk 12 80 (v := ?_) ?_ ?_
           rotate_left
           ·intro w' hSw; clear hSw; go_simp; try (with_reducible rfl)
           try simp only [tkA, tkB, tkC]
           refine tk 13 81 (v := ?_) ?_ ?_
           rotate_left
           ·intro w' hSw; clear hSw; go_simp; try (with_reducible rfl)
           try simp only [tkA, tkB, tkC]
           refine tk 14 82 (v := ?_) ?_ ?_
           rotate_left
           ·intro w' hS0; go_simp; try (with_reducible rfl)
           try simp only [tkA, tkB, tkC]
           refine tk 15 83 (v := ?_) ?_ ?_
           rotate_left
           ·intro w' hSw; clear hSw; go_simp; try (with_reducible rfl)
           try simp only [tkA, tkB, tkC]
           refine tk 16 84 (v := ?_) ?_ ?_
           rotate_left
           ·intro w' hS0; go_simp; try (with_reducible rfl)
           try simp only [tkA, tkB, tkC]
           refine tk 17 85 (v := ?_) ?_ ?_
           rotate_left
           ·intro w' hSw; clear hSw; go_simp; try (with_reducible rfl)
           try simp only [tkA, tkB, tkC]
           refine tk 18 86 (v := ?_) ?_ ?_
           rotate_left
           ·intro w' hSw; clear hSw; go_simp; try (with_reducible rfl)
           try simp only [tkA, tkB, tkC]
           refine tk 19 87 (v := ?_) ?_ ?_
           rotate_left
           ·intro w' hS0; go_simp; try (with_reducible rfl)
           try simp only [tkA, tkB, tkC]
           refine tk 20 88 (v := ?_) ?_ ?_
           rotate_left
           ·intro w' hSw; clear hSw; go_simp; try (with_reducible rfl)
           try simp only [tkA, tkB, tkC]
           refine tk 21 89 (v := ?_) ?_ ?_
           rotate_left
           ·intro w' hSw; clear hSw; go_simp; try (with_reducible rfl)
           try simp only [tkA, tkB, tkC]
           refine tk 22 90 (v := ?_) ?_ ?_
           rotate_left
           ·intro w' hS0; go_simp; try (with_reducible rfl)
           try simp only [tkA, tkB, tkC]
           refine tk 23 91 (v := ?_) ?_ ?_
           rotate_left
           ·intro w' hSw; clear hSw; go_simp; try (with_reducible rfl)
           try simp only [tkA, tkB, tkC]
           refine wpAnyH_ready (rs := [24]) (by kernel_rfl) (by simp) ?_
           refine AllReadyH.cons rfl (fun K hK => ?_) AllReadyH.nil
           go_simp
           go_at_call 89
           refine (kW' _ hHeld).mono ?_
           rintro e w9 ⟨rfl, hb9⟩
           have hu9 : Up wr w9 := hHeld.trans (Up.of hb9)
           refine hK.out _ _ hu9 (fun hHeld => ?_)
           clear hK K hHeld
           refine wpAnyH_more (S' := fun w' => Up w9 w') (fun w' h => Up.trans hu9 h) _ _ _ _ ?_
           have hHeld := Up.refl w9
           refine tk 25 93 (v := ?_) ?_ ?_
           rotate_left
           ·intro w' hSw; clear hSw; go_simp; try (with_reducible rfl)
           try simp only [tkA, tkB, tkC]
           refine tk 26 94 (v := ?_) ?_ ?_
           rotate_left
           ·intro w' hSw; clear hSw; go_simp; try (with_reducible rfl)
           try simp only [tkA, tkB, tkC]
           refine tk 27 10 (v := ?_) ?_ ?_
           rotate_left
           ·intro w' hSw; clear hSw; go_simp; try (with_reducible rfl)
           try simp only [tkA, tkB, tkC]
           refine wpAnyH_done (by kernel_rfl) ?_ _
           refine NoPanic.normal ?_
           clear hHeld
           have u9 : Up w5 w9 := hu'.trans hu9
           have U9 := Lib.hid u9
           clear u9 hk2 hu9 hb9
           go_wp2_with fail
           go_roundw
           case rel => exact ⟨f + 1, by omega, by go_num, by rw [HF.out]; simp, U9.out⟩
           case measure => simp [intOf]; omega
       ·obtain rfl : f = 3 := by omega
        rw [rfK3]
        have f1 : decide ((3 : Int) ≤ 2) = false := by decide
        rcases hv : fnd3 pre o sj with _ | _
        ·have HH := Lib.hid (hH.out hv)
         clear hv
         go_wp2_with fail
         go_ret
         exact ⟨by rw [HR.out, HH.out]; rfl, (HU5.out.trans hu').b⟩
        ·have HH := Lib.hid (hN.out hv)
         clear hv
         go_wp2_with fail
         go_roundw
         case rel => exact ⟨j + 1, hlt, by go_num, hu', HH.out⟩
         case measure => simp [intOf]; omega
     ·obtain rfl : j = o.ov.length := by omega
      have j1 : decide ((o.ov.length : Int) < (o.ov.length : Int)) = false := by simp
      have HH := Lib.hid (all_end (p := fnd3 pre o) hK.out)
      go_wp2_with fail
      go_ret
      exact ⟨by rw [HR.out, HH.out]; rfl, (HU5.out.trans hu).b⟩
end Go.Proofs.YtcomeidcmcegfaaGreatDoor
namespace Go.Proofs.YtcomeidcmcegfaaGreatDoor
open Go.RowKit
set_option linter.unusedVariables false
set_option linter.unusedSimpArgs false
def RcRel (w : World) (xs : List OX) (vi : Value) (wr : World) : Prop := ∃ k : Nat, k ≤ xs.length ∧ vi = .int .i64 k ∧ Up w wr ∧ Hid (chkX firstAdd [] (opL xs) = chkX firstAdd ((opL xs).take k) ((opL xs).drop k))
set_option maxRecDepth 100000 in
set_option maxHeartbeats 8000000 in
theorem rrepCheck_any (w : World) (dev : Int) (As : Option Addr) (cs : Nat) (seen : List Int) (Ax : Option Addr) (cx : Nat) (xs : List OX) (hs : Rd w As (seen.map I64)) (hsl : seen.length ≤ maxLen) (hx : OpsRd w Ax xs) (hxc : xs.length ≤ cx) :
 Calls Tryz.prog 36 #[.agg #[.int .i64 dev, .slice As seen.length cs, .slice Ax xs.length cx]] w (RetInt (chkE dev (opL xs) seen) w) := by
 have HR := Lib.hid (chkE_first dev (opL xs) seen)
 have hb0 := Up.alloc' w (.cells #[.int .i64 dev, .slice As seen.length cs, .slice Ax xs.length cx] 27)
 have HB0 := Lib.hid hb0
 by_cases d1 : dev < 1
 ·have t1 : decide (dev < 1) = true := decide_eq_true d1
  replace HR := Lib.hid (HR.out.trans (if_pos (.inl d1)))
  clear d1 hb0
  go_enter Tryz.func36, Tryz.ntmps36
  go_wp2_with fail
  go_ret
  exact ⟨by rw [HR.out]; rfl, HB0.out.b⟩
 have t1 : decide (dev < 1) = false := decide_eq_false d1
 by_cases d2 : 15 < dev
 ·have t2 : decide (15 < dev) = true := decide_eq_true d2
  replace HR := Lib.hid (HR.out.trans (if_pos (.inr d2)))
  clear d1 d2 hb0
  go_enter Tryz.func36, Tryz.ntmps36
  go_wp2_with fail
  go_ret
  exact ⟨by rw [HR.out]; rfl, HB0.out.b⟩
 have t2 : decide (15 < dev) = false := decide_eq_false d2
 replace HR := Lib.hid (HR.out.trans (if_neg (by omega)))
 clear d1 d2
 by_cases d3 : 400 < xs.length
 ·have t3 : decide (400 < (xs.length : Int)) = true := decide_eq_true (by omega)
  replace HR := Lib.hid (HR.out.trans (if_pos (by rw [opL_len]; exact d3)))
  clear d3 hb0
  go_enter Tryz.func36, Tryz.ntmps36
  go_wp2_with fail
  go_ret
  exact ⟨by rw [HR.out]; rfl, HB0.out.b⟩
 have t3 : decide (400 < (xs.length : Int)) = false := decide_eq_false (by omega)
 replace HR := Lib.hid (HR.out.trans (if_neg (by rw [opL_len]; exact d3)))
 have hBr := Blk.new w 27 #[.int .i64 dev, .slice As seen.length cs, .slice Ax xs.length cx]
 go_enter Tryz.func36, Tryz.ntmps36
 go_wp2_with fail
 generalize w.alloc (.cells #[.int .i64 dev, .slice As seen.length cs, .slice Ax xs.length cx] 27) = wb at *
 have hs' := hs.below hb0.b
 have hx' := hx.below hb0.b
 clear hb0 hs hx
 go_loopw [3] (RcRel wb xs) (fun i _ => xs.length - (intOf i).toNat)
 case atStart => exact ⟨0, Nat.zero_le _, rfl, Up.refl _, rfl⟩
 case round =>
  obtain ⟨k, hk, rfl, hu, hX⟩ := hrel
  have cr2 : wr.cell? ⟨w.heap.size, 2, none⟩ = some (.slice Ax xs.length cx) := by rw [(hBr.up hu).cell]; rfl
  by_cases hlt : k < xs.length
  ·have t4 : decide ((k : Int) < (xs.length : Int)) = true := decide_eq_true (by omega)
   have hlt' : k < (opL xs).length := by rw [opL_len]; exact hlt
   have hC := Lib.hid (chkX_consF (opL xs) k hlt')
   simp only [opL_get xs k hlt] at hC
   have kO := rone_any wr Ax cx xs (hx'.below hu.b) hxc (by omega) k hlt
   generalize oneX firstAdd ((opL xs).take k) xs[k].o = E at *
   by_cases he : E = 0
   ·have he' := Lib.hid he
    rw [he] at kO
    clear he
    go_wp2_with fail
    refine kO.mono ?_
    rintro e w5 ⟨rfl, hb5⟩
    have U5 := Lib.hid (hu.trans (Up.of hb5))
    clear kO hb5
    go_wp2_with fail
    go_roundw
    case rel => exact ⟨k + 1, hlt, by go_num, U5.out, by rw [Hid, hX.out, hC.out, if_pos he'.out]⟩
    case measure => simp [intOf]; omega
   ·have q1 : (E != 0) = true := by simpa using he
    have q2 : (E == 0) = false := by simpa using he
    have he' := Lib.hid he
    go_wp2_with fail
    refine kO.mono ?_
    rintro e w5 ⟨rfl, hb5⟩
    have U5 := Lib.hid (hu.trans (Up.of hb5))
    clear kO hb5
    go_wp2_with fail
    go_ret
    exact ⟨by rw [HR.out, hX.out, hC.out, if_neg he'.out, if_neg he'.out]; rfl, (HB0.out.trans U5.out).b⟩
  ·obtain rfl : k = xs.length := by omega
   have t4 : decide ((xs.length : Int) < (xs.length : Int)) = false := by simp
   have hX0 : Hid (chkX firstAdd [] (opL xs) = 0) := by rw [Hid, hX.out, ← opL_len xs, List.take_length, List.drop_length]; rfl
   have hrt := chkX_rights hX0.out
   have s1 : ∀ w', Up wr w' → w'.cell? ⟨w.heap.size, 1, none⟩ = some (.slice As seen.length cs) := fun w' u => by rw [(hBr.up (hu.trans u)).cell]; rfl
   have s2 : ∀ w', Up wr w' → w'.cell? ⟨w.heap.size, 2, none⟩ = some (.slice Ax xs.length cx) := fun w' u => by rw [(hBr.up (hu.trans u)).cell]; rfl
   have kS := fun w' (u : Up wr w') => rseen_any w' Ax cx xs (hx'.below (hu.trans u).b) (by omega) hrt
   have kN := fun w' B c' (u : Up wr w') (h : Rd w' B ((seenOf (opL xs)).map I64)) => nsame_any w' As B seen (seenOf (opL xs)) cs c' (hs'.below (hu.trans u).b) h hsl (by rw [seen15]; unfold maxLen; omega)
   unfold RetInts at kS
   rw [seen15] at kN
   simp only [seen15] at kS
   have U0 := Lib.hid hu
   clear hX hrt hu
   generalize hsn : seenOf (opL xs) = Z at *
   by_cases he : seen = Z
   ·replace HR := Lib.hid (HR.out.trans ((if_pos hX0.out).trans (if_pos he)))
    rw [show (seen == Z) = true from beq_iff_eq.2 he] at kN
    clear he hsn
    go_wp2_with fail
    refine wp_region_noPanic ?_
    refine wp_region_held_drew (S := fun w' => Up wr w') (by kernel_rfl) (Up.drew wr) (fun hHeld => ?_)
    refine tk 0 31 (v := ?_) ?_ ?_
    rotate_left
    ·intro w' hSw; clear hSw; go_simp; try (with_reducible rfl)
    try simp only [tkA, tkB, tkC]
    refine tk 1 32 (v := ?_) ?_ ?_
    rotate_left
    ·intro w' hS0; go_simp; try (with_reducible rfl)
    try simp only [tkA, tkB, tkC]
    refine tk 2 33 (v := ?_) ?_ ?_
    rotate_left
    ·intro w' hSw; clear hSw; go_simp; try (with_reducible rfl)
    try simp only [tkA, tkB, tkC]
    refine tk 3 34 (v := ?_) ?_ ?_
    rotate_left
    ·intro w' hS0; go_simp; try (with_reducible rfl)
    try simp only [tkA, tkB, tkC]
    refine wpAnyH_ready (rs := [4]) (by kernel_rfl) (by simp) ?_
    refine AllReadyH.cons rfl (fun K hK => ?_) AllReadyH.nil
    go_simp
    go_at_call 62
    refine (kS _ hHeld).mono ?_
    rintro e w8 ⟨B8, c8, rfl, ho8, hb8⟩
    have hu8 : Up wr w8 := hHeld.trans (Up.of hb8)
    refine hK.out _ _ hu8 (fun hHeld => ?_)
    clear hK K hHeld
    refine wpAnyH_more (S' := fun w' => Up w8 w') (fun w' h => Up.trans hu8 h) _ _ _ _ ?_
    have hHeld := Up.refl w8
    refine wpAnyH_ready (rs := [5]) (by kernel_rfl) (by simp) ?_
    refine AllReadyH.cons rfl (fun K hK => ?_) AllReadyH.nil
    go_simp
    go_at_call 19
    refine (kN _ B8 c8 (hu8.trans hHeld) (ho8.rd'.below hHeld.b)).mono ?_
    rintro e w9 ⟨rfl, hb9⟩
    have hu9 : Up w8 w9 := hHeld.trans (Up.of hb9)
    refine hK.out _ _ hu9 (fun hHeld => ?_)
    clear hK K hHeld
    refine wpAnyH_more (S' := fun w' => Up w9 w') (fun w' h => Up.trans hu9 h) _ _ _ _ ?_
    have hHeld := Up.refl w9
    refine tk 6 37 (v := ?_) ?_ ?_
    rotate_left
    ·intro w' hSw; clear hSw; go_simp; try (with_reducible rfl)
    try simp only [tkA, tkB, tkC]
    refine wpAnyH_done (by kernel_rfl) ?_ _
    refine NoPanic.normal ?_
    clear hHeld
    have U9 := Lib.hid (Up.trans hu8 hu9)
    clear hu8 hu9 hb8 hb9
    go_wp2_with fail
    go_ret
    exact ⟨by rw [HR.out]; rfl, ((HB0.out.trans U0.out).trans U9.out).b⟩
   ·replace HR := Lib.hid (HR.out.trans ((if_pos hX0.out).trans (if_neg he)))
    rw [show (seen == Z) = false from beq_eq_false_iff_ne.2 he] at kN
    clear he hsn
    go_wp2_with fail
    refine wp_region_noPanic ?_
    refine wp_region_held_drew (S := fun w' => Up wr w') (by kernel_rfl) (Up.drew wr) (fun hHeld => ?_)
    refine tk 0 31 (v := ?_) ?_ ?_
    rotate_left
    ·intro w' hSw; clear hSw; go_simp; try (with_reducible rfl)
    try simp only [tkA, tkB, tkC]
    refine tk 1 32 (v := ?_) ?_ ?_
    rotate_left
    ·intro w' hS0; go_simp; try (with_reducible rfl)
    try simp only [tkA, tkB, tkC]
    refine tk 2 33 (v := ?_) ?_ ?_
    rotate_left
    ·intro w' hSw; clear hSw; go_simp; try (with_reducible rfl)
    try simp only [tkA, tkB, tkC]
    refine tk 3 34 (v := ?_) ?_ ?_
    rotate_left
    ·intro w' hS0; go_simp; try (with_reducible rfl)
    try simp only [tkA, tkB, tkC]
    refine wpAnyH_ready (rs := [4]) (by kernel_rfl) (by simp) ?_
    refine AllReadyH.cons rfl (fun K hK => ?_) AllReadyH.nil
    go_simp
    go_at_call 62
    refine (kS _ hHeld).mono ?_
    rintro e w8 ⟨B8, c8, rfl, ho8, hb8⟩
    have hu8 : Up wr w8 := hHeld.trans (Up.of hb8)
    refine hK.out _ _ hu8 (fun hHeld => ?_)
    clear hK K hHeld
    refine wpAnyH_more (S' := fun w' => Up w8 w') (fun w' h => Up.trans hu8 h) _ _ _ _ ?_
    have hHeld := Up.refl w8
    refine wpAnyH_ready (rs := [5]) (by kernel_rfl) (by simp) ?_
    refine AllReadyH.cons rfl (fun K hK => ?_) AllReadyH.nil
    go_simp
    go_at_call 19
    refine (kN _ B8 c8 (hu8.trans hHeld) (ho8.rd'.below hHeld.b)).mono ?_
    rintro e w9 ⟨rfl, hb9⟩
    have hu9 : Up w8 w9 := hHeld.trans (Up.of hb9)
    refine hK.out _ _ hu9 (fun hHeld => ?_)
    clear hK K hHeld
    refine wpAnyH_more (S' := fun w' => Up w9 w') (fun w' h => Up.trans hu9 h) _ _ _ _ ?_
    have hHeld := Up.refl w9
    refine tk 6 37 (v := ?_) ?_ ?_
    rotate_left
    ·intro w' hSw; clear hSw; go_simp; try (with_reducible rfl)
    try simp only [tkA, tkB, tkC]
    refine wpAnyH_done (by kernel_rfl) ?_ _
    refine NoPanic.normal ?_
    clear hHeld
    have U9 := Lib.hid (Up.trans hu8 hu9)
    clear hu8 hu9 hb8 hb9
    go_wp2_with fail
    go_ret
    exact ⟨by rw [HR.out]; rfl, ((HB0.out.trans U0.out).trans U9.out).b⟩
end Go.Proofs.YtcomeidcmcegfaaGreatDoor
namespace Go.Proofs.YtcomeidcmcegfaaGreatDoor
open Go.RowKit
set_option linter.unusedVariables false
set_option linter.unusedSimpArgs false
def SamR (wb : World) (xs ys : List OX) (vi : Value) (wr : World) : Prop := ∃ k : Nat, k ≤ xs.length ∧ vi = .int .i64 k ∧ Up wb wr ∧ Hid ((opL xs).take k = (opL ys).take k)
def sameR (d1 d2 : Int) (s1 s2 : List Int) (l m : List OP) : Bool := d1 == d2 && (s1 == s2 && sameL l m)
set_option maxRecDepth 100000 in
set_option maxHeartbeats 16000000 in
theorem rrepSame_any (w : World) (d1 d2 : Int) (A1 A2 : Option Addr) (c1 c2 : Nat) (s1 s2 : List Int) (X1 X2 : Option Addr) (k1 k2 : Nat) (xs ys : List OX) (hs1 : Rd w A1 (s1.map I64)) (hs2 : Rd w A2 (s2.map I64)) (hl1 : s1.length ≤ maxLen) (hl2 : s2.length ≤ maxLen)
 (hx : OpsRd w X1 xs) (hy : OpsRd w X2 ys) (hxl : xs.length ≤ maxLen) (hyl : ys.length ≤ maxLen) :
 Calls Tryz.prog 7 #[.agg #[.int .i64 d1, .slice A1 s1.length c1, .slice X1 xs.length k1], .agg #[.int .i64 d2, .slice A2 s2.length c2, .slice X2 ys.length k2]] w (RetBool (sameR d1 d2 s1 s2 (opL xs) (opL ys)) w) := by
 unfold maxLen at hxl hyl
 have hb0 : Up w ((w.alloc (.cells #[.int .i64 d1, .slice A1 s1.length c1, .slice X1 xs.length k1] 27)).alloc (.cells #[.int .i64 d2, .slice A2 s2.length c2, .slice X2 ys.length k2] 27)) := (Up.alloc' _ _).trans (Up.alloc' _ _)
 have hBr : Blk ((w.alloc (.cells #[.int .i64 d1, .slice A1 s1.length c1, .slice X1 xs.length k1] 27)).alloc (.cells #[.int .i64 d2, .slice A2 s2.length c2, .slice X2 ys.length k2] 27)) w.heap.size 27 #[.int .i64 d1, .slice A1 s1.length c1, .slice X1 xs.length k1] := (Blk.new w _ _).up (Up.alloc' _ _)
 have hBs : Blk ((w.alloc (.cells #[.int .i64 d1, .slice A1 s1.length c1, .slice X1 xs.length k1] 27)).alloc (.cells #[.int .i64 d2, .slice A2 s2.length c2, .slice X2 ys.length k2] 27)) (w.heap.size + 1) 27 #[.int .i64 d2, .slice A2 s2.length c2, .slice X2 ys.length k2] := by
  have := Blk.new (w.alloc (.cells #[.int .i64 d1, .slice A1 s1.length c1, .slice X1 xs.length k1] 27)) 27 #[.int .i64 d2, .slice A2 s2.length c2, .slice X2 ys.length k2]
  rw [World.size_alloc] at this
  exact this
 have HB0 := Lib.hid hb0
 by_cases hd : d1 = d2
 rotate_left
 ·have q0 : (d1 != d2) = true := bne_iff_ne.2 hd
  have HX : Hid (sameR d1 d2 s1 s2 (opL xs) (opL ys) = false) := by rw [Hid, sameR, beq_eq_false_iff_ne.2 hd]; rfl
  clear hd hb0 hBr hBs
  go_enter Tryz.func7, Tryz.ntmps7
  go_wp2_with fail
  go_ret
  exact ⟨by rw [HX.out]; rfl, HB0.out.b⟩
 have q0 : (d1 != d2) = false := by simp [hd]
 have HD : Hid (sameR d1 d2 s1 s2 (opL xs) (opL ys) = (s1 == s2 && sameL (opL xs) (opL ys))) := by rw [Hid, sameR, beq_iff_eq.2 hd]; rfl
 clear hd
 have kN := nsame_any _ A1 A2 s1 s2 c1 c2 (hs1.below hb0.b) (hs2.below hb0.b) hl1 hl2
 have hx' := hx.below hb0.b
 have hy' := hy.below hb0.b
 clear hb0 hs1 hs2 hx hy hl1 hl2
 rcases hn : (s1 == s2) with _ | _
 ·have HX := Lib.hid (HD.out.trans (by rw [hn]; rfl : (s1 == s2 && sameL (opL xs) (opL ys)) = false))
  rw [hn] at kN
  clear hn hBr hBs
  go_enter Tryz.func7, Tryz.ntmps7
  go_wp2_with fail
  refine kN.mono ?_
  rintro e w5 ⟨rfl, hb5⟩
  have U5 := Lib.hid (HB0.out.trans (Up.of hb5))
  clear kN hb5
  go_wp2_with fail
  go_ret
  exact ⟨by rw [HX.out]; rfl, U5.out.b⟩
 have HX := Lib.hid (HD.out.trans (by rw [hn]; rfl : (s1 == s2 && sameL (opL xs) (opL ys)) = sameL (opL xs) (opL ys)))
 rw [hn] at kN
 clear hn
 go_enter Tryz.func7, Tryz.ntmps7
 go_wp2_with fail
 refine kN.mono ?_
 rintro e wb ⟨rfl, hbb⟩
 have ub := Up.of hbb
 have U5 := Lib.hid (HB0.out.trans ub)
 have hBr5 := hBr.up ub
 have hBs5 := hBs.up ub
 clear hBr hBs
 have hx := hx'.below ub.b
 have hy := hy'.below ub.b
 have c2a : wb.cell? ⟨w.heap.size, 2, none⟩ = some (.slice X1 xs.length k1) := by rw [hBr5.cell]; rfl
 have c2b : wb.cell? ⟨w.heap.size + 1, 2, none⟩ = some (.slice X2 ys.length k2) := by rw [hBs5.cell]; rfl
 clear kN hbb hx' hy' ub
 by_cases h0 : ys.length = xs.length
 rotate_left
 ·have HZ : Hid (sameL (opL xs) (opL ys) = false) := sameL_not (by intro e; apply h0; rw [← opL_len xs, ← opL_len ys, e])
  have q1 : ((xs.length : Int) != (ys.length : Int)) = true := by simp; omega
  have q2 : (xs.length != ys.length) = true := by simp; omega
  have q3 : ((xs.length : Int) == (ys.length : Int)) = false := by simp; omega
  have q4 : (xs.length == ys.length) = false := by simp; omega
  clear h0 hBr5 hBs5 hx hy
  go_wp2_with fail
  go_ret
  exact ⟨by rw [HX.out, HZ.out]; rfl, U5.out.b⟩
 have HL := Lib.hid h0
 rw [h0] at hyl c2b hBs5 ⊢
 have q1 : ((xs.length : Int) != (xs.length : Int)) = false := by simp
 clear h0
 go_wp2_with fail
 clear c2a c2b
 go_loopw [5] (SamR wb xs ys) (fun i _ => xs.length - (intOf i).toNat)
 case atStart => exact ⟨0, Nat.zero_le _, rfl, Up.refl _, rfl⟩
 case round =>
  obtain ⟨k, hk, rfl, hu, hK⟩ := hrel
  have c2a : wr.cell? ⟨w.heap.size, 2, none⟩ = some (.slice X1 xs.length k1) := by rw [(hBr5.up hu).cell]; rfl
  by_cases hlt : k < xs.length
  ·have t1 : decide ((k : Int) < (xs.length : Int)) = true := decide_eq_true (by omega)
   have t2 : (k : Int) < (xs.length : Int) := by omega
   have t3 : 0 ≤ (k : Int) := by omega
   have hlt' : k < ys.length := by have := HL.out; omega
   obtain ⟨b, off, rfl, -, hrg⟩ := hx.range hlt
   obtain ⟨b', off', rfl, -, hrg'⟩ := hy.range hlt'
   have ox := (hx.below hu.b).ok _ (List.getElem_mem hlt)
   have oy := (hy.below hu.b).ok _ (List.getElem_mem hlt')
   have HT := Lib.hid (fun e => take_more hK.out (by rw [opL_len]; exact hlt) (by rw [opL_len]; exact hlt') e)
   have HN := Lib.hid (fun e => ne_at' (l := opL xs) (m := opL ys) (k := k) (by rw [opL_len]; exact hlt) (by rw [opL_len]; exact hlt') e)
   simp only [opL_get xs k hlt, opL_get ys k hlt'] at HT HN
   generalize xs[k] = x at *
   generalize ys[k] = y at *
   have kS := fun w' (u : Up wr w') => rsame_any w' x.o y.o x.A y.A x.c y.c (ox.rd.below u.b) (oy.rd.below u.b) (ox.bd.ol) (oy.bd.ol)
   unfold opV opC at kS
   have sa : ∀ w', Up wr w' → w'.cell? ⟨w.heap.size, 2, none⟩ = some (.slice (some ⟨b, off, none⟩) xs.length k1) := fun w' u => by rw [(hBr5.up (hu.trans u)).cell]; rfl
   have sb : ∀ w', Up wr w' → w'.cell? ⟨w.heap.size + 1, 2, none⟩ = some (.slice (some ⟨b', off', none⟩) xs.length k2) := fun w' u => by rw [(hBs5.up (hu.trans u)).cell]; rfl
   have m0 : ∀ w', Up wr w' → w'.cell? ⟨b, off + k * 15, none⟩ = some (.int .i64 x.o.ac) := fun w' u => (hu.trans u).cell (hrg 0 _ rfl)
   have m1 : ∀ w', Up wr w' → w'.cell? ⟨b, off + k * 15 + 1, none⟩ = some (.int .i64 x.o.ad) := fun w' u => (hu.trans u).cell (hrg 1 _ rfl)
   have m2 : ∀ w', Up wr w' → w'.cell? ⟨b, off + k * 15 + 2, none⟩ = some (.int .i64 x.o.kd) := fun w' u => (hu.trans u).cell (hrg 2 _ rfl)
   have m3 : ∀ w', Up wr w' → w'.cell? ⟨b, off + k * 15 + 3, none⟩ = some (.int .i64 x.o.rc) := fun w' u => (hu.trans u).cell (hrg 3 _ rfl)
   have m4 : ∀ w', Up wr w' → w'.cell? ⟨b, off + k * 15 + 4, none⟩ = some (.int .i64 x.o.id) := fun w' u => (hu.trans u).cell (hrg 4 _ rfl)
   have m5 : ∀ w', Up wr w' → w'.cell? ⟨b, off + k * 15 + 5, none⟩ = some (.int .i64 x.o.ti) := fun w' u => (hu.trans u).cell (hrg 5 _ rfl)
   have m6 : ∀ w', Up wr w' → w'.cell? ⟨b, off + k * 15 + 6, none⟩ = some (.int .i64 x.o.pa) := fun w' u => (hu.trans u).cell (hrg 6 _ rfl)
   have m7 : ∀ w', Up wr w' → w'.cell? ⟨b, off + k * 15 + 7, none⟩ = some (.int .i64 x.o.sf) := fun w' u => (hu.trans u).cell (hrg 7 _ rfl)
   have m8 : ∀ w', Up wr w' → w'.cell? ⟨b, off + k * 15 + 8, none⟩ = some (.int .i64 x.o.st) := fun w' u => (hu.trans u).cell (hrg 8 _ rfl)
   have m9 : ∀ w', Up wr w' → w'.cell? ⟨b, off + k * 15 + 9, none⟩ = some (.int .i64 x.o.rk) := fun w' u => (hu.trans u).cell (hrg 9 _ rfl)
   have m10 : ∀ w', Up wr w' → w'.cell? ⟨b, off + k * 15 + 10, none⟩ = some (.string ⟨x.o.nt.toArray⟩) := fun w' u => (hu.trans u).cell (hrg 10 _ rfl)
   have m11 : ∀ w', Up wr w' → w'.cell? ⟨b, off + k * 15 + 11, none⟩ = some (.int .i64 x.o.se) := fun w' u => (hu.trans u).cell (hrg 11 _ rfl)
   have m12 : ∀ w', Up wr w' → w'.cell? ⟨b, off + k * 15 + 12, none⟩ = some (.int .i64 x.o.nn) := fun w' u => (hu.trans u).cell (hrg 12 _ rfl)
   have m13 : ∀ w', Up wr w' → w'.cell? ⟨b, off + k * 15 + 13, none⟩ = some (.string ⟨x.o.tx.toArray⟩) := fun w' u => (hu.trans u).cell (hrg 13 _ rfl)
   have m14 : ∀ w', Up wr w' → w'.cell? ⟨b, off + k * 15 + 14, none⟩ = some (.slice x.A x.o.ov.length x.c) := fun w' u => (hu.trans u).cell (hrg 14 _ rfl)
   have n0 : ∀ w', Up wr w' → w'.cell? ⟨b', off' + k * 15, none⟩ = some (.int .i64 y.o.ac) := fun w' u => (hu.trans u).cell (hrg' 0 _ rfl)
   have n1 : ∀ w', Up wr w' → w'.cell? ⟨b', off' + k * 15 + 1, none⟩ = some (.int .i64 y.o.ad) := fun w' u => (hu.trans u).cell (hrg' 1 _ rfl)
   have n2 : ∀ w', Up wr w' → w'.cell? ⟨b', off' + k * 15 + 2, none⟩ = some (.int .i64 y.o.kd) := fun w' u => (hu.trans u).cell (hrg' 2 _ rfl)
   have n3 : ∀ w', Up wr w' → w'.cell? ⟨b', off' + k * 15 + 3, none⟩ = some (.int .i64 y.o.rc) := fun w' u => (hu.trans u).cell (hrg' 3 _ rfl)
   have n4 : ∀ w', Up wr w' → w'.cell? ⟨b', off' + k * 15 + 4, none⟩ = some (.int .i64 y.o.id) := fun w' u => (hu.trans u).cell (hrg' 4 _ rfl)
   have n5 : ∀ w', Up wr w' → w'.cell? ⟨b', off' + k * 15 + 5, none⟩ = some (.int .i64 y.o.ti) := fun w' u => (hu.trans u).cell (hrg' 5 _ rfl)
   have n6 : ∀ w', Up wr w' → w'.cell? ⟨b', off' + k * 15 + 6, none⟩ = some (.int .i64 y.o.pa) := fun w' u => (hu.trans u).cell (hrg' 6 _ rfl)
   have n7 : ∀ w', Up wr w' → w'.cell? ⟨b', off' + k * 15 + 7, none⟩ = some (.int .i64 y.o.sf) := fun w' u => (hu.trans u).cell (hrg' 7 _ rfl)
   have n8 : ∀ w', Up wr w' → w'.cell? ⟨b', off' + k * 15 + 8, none⟩ = some (.int .i64 y.o.st) := fun w' u => (hu.trans u).cell (hrg' 8 _ rfl)
   have n9 : ∀ w', Up wr w' → w'.cell? ⟨b', off' + k * 15 + 9, none⟩ = some (.int .i64 y.o.rk) := fun w' u => (hu.trans u).cell (hrg' 9 _ rfl)
   have n10 : ∀ w', Up wr w' → w'.cell? ⟨b', off' + k * 15 + 10, none⟩ = some (.string ⟨y.o.nt.toArray⟩) := fun w' u => (hu.trans u).cell (hrg' 10 _ rfl)
   have n11 : ∀ w', Up wr w' → w'.cell? ⟨b', off' + k * 15 + 11, none⟩ = some (.int .i64 y.o.se) := fun w' u => (hu.trans u).cell (hrg' 11 _ rfl)
   have n12 : ∀ w', Up wr w' → w'.cell? ⟨b', off' + k * 15 + 12, none⟩ = some (.int .i64 y.o.nn) := fun w' u => (hu.trans u).cell (hrg' 12 _ rfl)
   have n13 : ∀ w', Up wr w' → w'.cell? ⟨b', off' + k * 15 + 13, none⟩ = some (.string ⟨y.o.tx.toArray⟩) := fun w' u => (hu.trans u).cell (hrg' 13 _ rfl)
   have n14 : ∀ w', Up wr w' → w'.cell? ⟨b', off' + k * 15 + 14, none⟩ = some (.slice y.A y.o.ov.length y.c) := fun w' u => (hu.trans u).cell (hrg' 14 _ rfl)
   have hu' := Lib.hid hu
   clear hrg hrg' ox oy
   rcases hsm : sameB x.o y.o with _ | _
   ·have HN := Lib.hid (HN.out (fun e => by rw [e, sameB_self] at hsm; cases hsm))
    simp only [hsm] at kS
    clear hsm hu HT
    go_wp2_with fail
    refine wp_region_noPanic ?_
    refine wp_region_held_drew (S := fun w' => Up wr w') (by kernel_rfl) (Up.drew wr) (fun hHeld => ?_)
    refine tk 0 35 (v := ?_) ?_ ?_
    rotate_left
    ·intro w' hSw; clear hSw; go_simp; try (with_reducible rfl)
    try simp only [tkA, tkB, tkC]
    refine tk 1 36 (v := ?_) ?_ ?_
    rotate_left
    ·intro w' hS0; go_simp; try (with_reducible rfl)
    try simp only [tkA, tkB, tkC]
    refine tk 2 37 (v := ?_) ?_ ?_
    rotate_left
    ·intro w' hSw; clear hSw; go_simp; try (with_reducible rfl)
    try simp only [tkA, tkB, tkC]
    refine tk 3 38 (v := ?_) ?_ ?_
    rotate_left
    ·intro w' hSw; clear hSw; go_simp; try (with_reducible rfl)
    try simp only [tkA, tkB, tkC]
    refine tk 4 39 (v := ?_) ?_ ?_
    rotate_left
    ·intro w' hS0; go_simp; try (with_reducible rfl)
    try simp only [tkA, tkB, tkC]
    refine tk 5 40 (v := ?_) ?_ ?_
    rotate_left
    ·intro w' hSw; clear hSw; go_simp; try (with_reducible rfl)
    try simp only [tkA, tkB, tkC]
    refine tk 6 41 (v := ?_) ?_ ?_
    rotate_left
    ·intro w' hS0; go_simp; try (with_reducible rfl)
    try simp only [tkA, tkB, tkC]
    refine tk 7 42 (v := ?_) ?_ ?_
    rotate_left
    ·intro w' hSw; clear hSw; go_simp; try (with_reducible rfl)
    try simp only [tkA, tkB, tkC]
    refine tk 8 43 (v := ?_) ?_ ?_
    rotate_left
    ·intro w' hSw; clear hSw; go_simp; try (with_reducible rfl)
    try simp only [tkA, tkB, tkC]
    refine tk 9 44 (v := ?_) ?_ ?_
    rotate_left
    ·intro w' hS0; go_simp; try (with_reducible rfl)
    try simp only [tkA, tkB, tkC]
    refine wpAnyH_ready (rs := [10]) (by kernel_rfl) (by simp) ?_
    refine AllReadyH.cons rfl (fun K hK => ?_) AllReadyH.nil
    go_simp
    go_at_call 12
    refine (kS _ hHeld).mono ?_
    rintro e w9 ⟨rfl, hb9⟩
    have hu9 : Up wr w9 := hHeld.trans (Up.of hb9)
    refine hK.out _ _ hu9 (fun hHeld => ?_)
    clear hK K hHeld
    refine wpAnyH_more (S' := fun w' => Up w9 w') (fun w' h => Up.trans hu9 h) _ _ _ _ ?_
    have hHeld := Up.refl w9
    refine tk 11 46 (v := ?_) ?_ ?_
    rotate_left
    ·intro w' hSw; clear hSw; go_simp; try (with_reducible rfl)
    try simp only [tkA, tkB, tkC]
    refine wpAnyH_done (by kernel_rfl) ?_ _
    refine NoPanic.normal ?_
    clear hHeld
    have hu5 := Lib.hid hu9
    clear hu9 hb9
    go_wp2_with fail
    go_ret
    exact ⟨by rw [HX.out, sameL_not HN.out]; rfl, (U5.out.trans (hu'.out.trans hu5.out)).b⟩
   ·have HT := Lib.hid (HT.out ((sameB_iff _ _).1 hsm))
    simp only [hsm] at kS
    clear hsm hu HN
    go_wp2_with fail
    refine wp_region_noPanic ?_
    refine wp_region_held_drew (S := fun w' => Up wr w') (by kernel_rfl) (Up.drew wr) (fun hHeld => ?_)
    refine tk 0 35 (v := ?_) ?_ ?_
    rotate_left
    ·intro w' hSw; clear hSw; go_simp; try (with_reducible rfl)
    try simp only [tkA, tkB, tkC]
    refine tk 1 36 (v := ?_) ?_ ?_
    rotate_left
    ·intro w' hS0; go_simp; try (with_reducible rfl)
    try simp only [tkA, tkB, tkC]
    refine tk 2 37 (v := ?_) ?_ ?_
    rotate_left
    ·intro w' hSw; clear hSw; go_simp; try (with_reducible rfl)
    try simp only [tkA, tkB, tkC]
    refine tk 3 38 (v := ?_) ?_ ?_
    rotate_left
    ·intro w' hSw; clear hSw; go_simp; try (with_reducible rfl)
    try simp only [tkA, tkB, tkC]
    refine tk 4 39 (v := ?_) ?_ ?_
    rotate_left
    ·intro w' hS0; go_simp; try (with_reducible rfl)
    try simp only [tkA, tkB, tkC]
    refine tk 5 40 (v := ?_) ?_ ?_
    rotate_left
    ·intro w' hSw; clear hSw; go_simp; try (with_reducible rfl)
    try simp only [tkA, tkB, tkC]
    refine tk 6 41 (v := ?_) ?_ ?_
    rotate_left
    ·intro w' hS0; go_simp; try (with_reducible rfl)
    try simp only [tkA, tkB, tkC]
    refine tk 7 42 (v := ?_) ?_ ?_
    rotate_left
    ·intro w' hSw; clear hSw; go_simp; try (with_reducible rfl)
    try simp only [tkA, tkB, tkC]
    refine tk 8 43 (v := ?_) ?_ ?_
    rotate_left
    ·intro w' hSw; clear hSw; go_simp; try (with_reducible rfl)
    try simp only [tkA, tkB, tkC]
    refine tk 9 44 (v := ?_) ?_ ?_
    rotate_left
    ·intro w' hS0; go_simp; try (with_reducible rfl)
    try simp only [tkA, tkB, tkC]
    refine wpAnyH_ready (rs := [10]) (by kernel_rfl) (by simp) ?_
    refine AllReadyH.cons rfl (fun K hK => ?_) AllReadyH.nil
    go_simp
    go_at_call 12
    refine (kS _ hHeld).mono ?_
    rintro e w9 ⟨rfl, hb9⟩
    have hu9 : Up wr w9 := hHeld.trans (Up.of hb9)
    refine hK.out _ _ hu9 (fun hHeld => ?_)
    clear hK K hHeld
    refine wpAnyH_more (S' := fun w' => Up w9 w') (fun w' h => Up.trans hu9 h) _ _ _ _ ?_
    have hHeld := Up.refl w9
    refine tk 11 46 (v := ?_) ?_ ?_
    rotate_left
    ·intro w' hSw; clear hSw; go_simp; try (with_reducible rfl)
    try simp only [tkA, tkB, tkC]
    refine wpAnyH_done (by kernel_rfl) ?_ _
    refine NoPanic.normal ?_
    clear hHeld
    have hu5 := Lib.hid hu9
    clear hu9 hb9
    go_wp2_with fail
    go_roundw
    case rel => exact ⟨k + 1, hlt, by go_num, hu'.out.trans hu5.out, HT.out⟩
    case measure => simp [intOf]; omega
  ·obtain rfl : k = xs.length := by omega
   have t1 : decide ((xs.length : Int) < (xs.length : Int)) = false := by simp
   have HZ : Hid (sameL (opL xs) (opL ys) = true) := (sameL_iff _ _).2 (by
    have h := hK.out
    rw [← opL_len xs, List.take_length, opL_len, ← HL.out, ← opL_len ys, List.take_length] at h
    exact h)
   go_wp2_with fail
   go_ret
   exact ⟨by rw [HX.out, HZ.out]; rfl, (U5.out.trans hu).b⟩
end Go.Proofs.YtcomeidcmcegfaaGreatDoor
