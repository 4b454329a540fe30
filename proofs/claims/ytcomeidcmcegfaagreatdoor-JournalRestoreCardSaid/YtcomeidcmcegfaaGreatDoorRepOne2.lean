/-
  The walk of the checker's step of layer 50, in general. Conditions: as in the step for an operation that adds a note.
-/
import Derived.Test.YtcomeidcmcegfaaGreatDoorZQ
namespace Go.Proofs.YtcomeidcmcegfaaGreatDoor
open Go.RowKit Go.Maps
set_option linter.unusedVariables false
set_option linter.unusedSimpArgs false
def fndU (pre : List OP) (o : OP) (s : Int × Int) : Nat → Bool
 | 0 => false
 | j + 1 => fndU pre o s j || fndB pre o s j
theorem fndU_three (pre : List OP) (o : OP) (s : Int × Int) : fndU pre o s 3 = fnd3 pre o s := by
 unfold fnd3
 rw [fndU, fndU, fndU, fndU, Bool.false_or]; rfl
theorem zero_of {P : Program} {t : TypeId} {v : Value} (h : (P.info? t).bind (·.zero) = some v) (w : World) : (zeroValue t).run P w = .ok v w := by
 rcases hi : P.info? t with _ | i
 ·rw [hi] at h; cases h
 ·rw [hi] at h
  have h : i.zero = some v := h
  simp [zeroValue, typeInfo, hi, h]
theorem zeroI (w : World) : (zeroValue 3).run Tryz.prog w = .ok (.int .i64 0) w := zero_of (by kernel_rfl) w
theorem zeroB (w : World) : (zeroValue 4).run Tryz.prog w = .ok (.bool false) w := zero_of (by kernel_rfl) w
def LookIs (pre : List OP) (o : OP) (rx : Int) (okx : Bool) : Prop :=
 ((lastAdd pre o.id).map fun p => Value.int .i64 p.rc).getD (.int .i64 0) = .int .i64 rx ∧ ((lastAdd pre o.id).map fun p => Value.int .i64 p.rc).isSome = okx
theorem look_no {pre : List OP} {o : OP} (hk : o.kd ≠ 0) (h : addOk lastAdd pre o = false) : ∃ rx okx, LookIs pre o rx okx ∧ (okx = false ∨ (okx = true ∧ (rx != o.rc) = true)) := by
 unfold addOk at h
 rw [beq_eq_false_iff_ne.2 hk, Bool.false_or] at h
 unfold LookIs
 rcases e : lastAdd pre o.id with _ | p
 ·exact ⟨0, false, ⟨rfl, rfl⟩, .inl rfl⟩
 ·rw [e] at h
  exact ⟨p.rc, true, ⟨rfl, rfl⟩, .inr ⟨rfl, bne_iff_ne.2 fun e' => by simp [e'] at h⟩⟩
theorem look_yes {pre : List OP} {o : OP} (hk : o.kd ≠ 0) (h : addOk lastAdd pre o = true) : LookIs pre o o.rc true := by
 unfold addOk at h
 rw [beq_eq_false_iff_ne.2 hk, Bool.false_or, beq_iff_eq] at h
 unfold LookIs
 rcases e : lastAdd pre o.id with _ | p
 ·rw [e] at h; cases h
 ·rw [e] at h
  have : p.rc = o.rc := by simpa using h
  rw [← this]; exact ⟨rfl, rfl⟩
theorem i64b0 : I64b 0 := by unfold I64b; omega
def OvRel (w3 : World) (pre : List OP) (o : OP) (vi : Value) (wr : World) : Prop :=
 ∃ k : Nat, k ≤ o.ov.length ∧ vi = .int .i64 k ∧ Hid (o.ov.all (fnd3 pre o) = (o.ov.drop k).all (fnd3 pre o)) ∧ Up w3 wr
def FldRel (wa : World) (pre : List OP) (o : OP) (s : Int × Int) (vj vf : Value) (wr : World) : Prop :=
 ∃ j : Nat, j ≤ 3 ∧ vj = .int .i64 j ∧ vf = .bool (fndU pre o s j) ∧ Up wa wr
theorem oneX_ov {pre : List OP} {o : OP} (h0 : checkE o = 0) (hless : lessB (lastS pre).1 (lastS pre).2 o.ac o.ad = true) (hadd : addOk lastAdd pre o = true) : oneX lastAdd pre o = if o.ov.all (fnd3 pre o) = true then 0 else 27 := by
 unfold oneX
 rw [if_pos h0, if_pos hless, if_pos hadd]
set_option maxRecDepth 100000 in
set_option maxHeartbeats 8000000 in
theorem one_bad (w : World) (G Ma Mw na nw : Nat) (pre : List OP) (o : OP) (Ao : Option Addr) (co : Nat) (hst : ChkSt w G Ma Mw na nw pre) (bd : o.Bd) (hr : Rd w Ao (ovL o.ov)) (hl : o.ov.length ≤ co) (hT : Tabs w) (hF : TabR w) (h0 : checkE o ≠ 0) (hn : na + 1 < maxLen) (hm : nw + 3 < maxLen) :
 Calls Tryz.prog 49 #[.pointer (some ⟨G, 0, none⟩), opV o Ao co] w (fun e w' => e = .returned (.int .i64 (checkE o)) ∧ Kp3 G Ma Mw w w') := by
 have hol := bd.ol
 unfold maxLen at hn hm hol
 have hst0 := Lib.hid hst
 obtain ⟨hg, ga, gw, aw, ⟨fA, hMA, hfA⟩, fW, hMW, hfW⟩ := hst
 have HfA := Lib.hid hfA
 have HfW := Lib.hid hfW
 clear hfA hfW
 generalize lastS pre = L at *
 obtain ⟨lc, ld⟩ := L
 dsimp only at hg
 have hB := Blk.new w 43 (opC o Ao co).toArray
 have hu0 := Up.of ((Below.refl w.heap.size w).alloc (Nat.le_refl _) (.cells (opC o Ao co).toArray 43))
 have kC := check_any (w.alloc (.cells (opC o Ao co).toArray 43)) o Ao co bd (hr.below hu0.b) hl (hT.below hu0.b)
 have hg0 := hg.up hu0
 have hA0 := hMA.below hu0.b hMA.lt
 have hW0 := hMW.below hu0.b hMW.lt
 have hF0 := hF.below hu0.b
 have hR0 := hr.below hu0.b
 have kW := fun (w' : World) (f : Int) => oWrites_any w' o Ao co o.id f
 have hBd := Lib.hid bd
 unfold opV opC at kC kW ⊢
 unfold opC at hB hg0 hA0 hW0 hF0 hR0 hu0
 have HU0 := Lib.hid hu0
 clear hu0 hF hT hMA hMW hg hr
 generalize hwa : w.alloc (.cells (#[.int .i64 o.ac, .int .i64 o.ad, .int .i64 o.kd, .int .i64 o.rc, .int .i64 o.id, .int .i64 o.ti, .int .i64 o.pa, .int .i64 o.sf, .int .i64 o.st, .int .i64 o.rk, .string ⟨o.nt.toArray⟩, .int .i64 o.se, .int .i64 o.nn, .string ⟨o.tx.toArray⟩, .slice Ao o.ov.length co]) 43) = wa at *
 have HWA := Lib.hid hwa
 clear hwa
 generalize checkE o = er at *
 have e1 : (er == 0) = false := beq_eq_false_iff_ne.2 h0
 have e2 : (er != 0) = true := bne_iff_ne.2 h0
 go_enter Tryz.func49, Tryz.ntmps49
 go_wp2_with fail
 rw [HWA.out]
 refine kC.mono ?_
 rintro e w1 ⟨rfl, hb1⟩
 have hu1 := Up.of hb1
 have hB1 := hB.up hu1
 have hg1 := hg0.up hu1
 have hA1 := hA0.below hb1 hA0.lt
 have hW1 := hW0.below hb1 hW0.lt
 have hF1 := hF0.below hb1
 have hR1 := hR0.below hb1
 have HU1 := Lib.hid hu1
 clear hR1 kC hu1 hB hg0 hA0 hW0 hF0 hR0 hb1
 go_wp2_with fail
 go_ret
 exact ⟨by go_num, (Kp3.of HU0.out.b).trans (Kp3.of HU1.out.b)⟩
set_option maxRecDepth 100000 in
set_option maxHeartbeats 8000000 in
theorem one_order (w : World) (G Ma Mw na nw : Nat) (pre : List OP) (o : OP) (Ao : Option Addr) (co : Nat) (hst : ChkSt w G Ma Mw na nw pre) (bd : o.Bd) (hr : Rd w Ao (ovL o.ov)) (hl : o.ov.length ≤ co) (hT : Tabs w) (hF : TabR w) (h0 : checkE o = 0) (hless : lessB (lastS pre).1 (lastS pre).2 o.ac o.ad = false) (hn : na + 1 < maxLen) (hm : nw + 3 < maxLen) :
 Calls Tryz.prog 49 #[.pointer (some ⟨G, 0, none⟩), opV o Ao co] w (fun e w' => e = .returned (.int .i64 10) ∧ Kp3 G Ma Mw w w') := by
 have hol := bd.ol
 unfold maxLen at hn hm hol
 have hst0 := Lib.hid hst
 obtain ⟨hg, ga, gw, aw, ⟨fA, hMA, hfA⟩, fW, hMW, hfW⟩ := hst
 have HfA := Lib.hid hfA
 have HfW := Lib.hid hfW
 clear hfA hfW
 generalize lastS pre = L at *
 obtain ⟨lc, ld⟩ := L
 dsimp only at hg hless
 have hB := Blk.new w 43 (opC o Ao co).toArray
 have hu0 := Up.of ((Below.refl w.heap.size w).alloc (Nat.le_refl _) (.cells (opC o Ao co).toArray 43))
 have kC := check_any (w.alloc (.cells (opC o Ao co).toArray 43)) o Ao co bd (hr.below hu0.b) hl (hT.below hu0.b)
 have hg0 := hg.up hu0
 have hA0 := hMA.below hu0.b hMA.lt
 have hW0 := hMW.below hu0.b hMW.lt
 have hF0 := hF.below hu0.b
 have hR0 := hr.below hu0.b
 have kW := fun (w' : World) (f : Int) => oWrites_any w' o Ao co o.id f
 have hBd := Lib.hid bd
 unfold opV opC at kC kW ⊢
 unfold opC at hB hg0 hA0 hW0 hF0 hR0 hu0
 have HU0 := Lib.hid hu0
 clear hu0 hF hT hMA hMW hg hr
 generalize hwa : w.alloc (.cells (#[.int .i64 o.ac, .int .i64 o.ad, .int .i64 o.kd, .int .i64 o.rc, .int .i64 o.id, .int .i64 o.ti, .int .i64 o.pa, .int .i64 o.sf, .int .i64 o.st, .int .i64 o.rk, .string ⟨o.nt.toArray⟩, .int .i64 o.se, .int .i64 o.nn, .string ⟨o.tx.toArray⟩, .slice Ao o.ov.length co]) 43) = wa at *
 have HWA := Lib.hid hwa
 clear hwa
 rw [h0] at kC
 have H0 := Lib.hid h0
 clear h0
 go_enter Tryz.func49, Tryz.ntmps49
 go_wp2_with fail
 rw [HWA.out]
 refine kC.mono ?_
 rintro e w1 ⟨rfl, hb1⟩
 have hu1 := Up.of hb1
 have hB1 := hB.up hu1
 have hg1 := hg0.up hu1
 have hA1 := hA0.below hb1 hA0.lt
 have hW1 := hW0.below hb1 hW0.lt
 have hF1 := hF0.below hb1
 have hR1 := hR0.below hb1
 have HU1 := Lib.hid hu1
 clear kC hu1 hB hg0 hA0 hW0 hF0 hR0 hb1
 have sg2 : ∀ w', Up w1 w' → w'.cell? ⟨G, 2, none⟩ = some (.int .i64 lc) := fun w' u => by rw [(hg1.up u).cell]; rfl
 have sg3 : ∀ w', Up w1 w' → w'.cell? ⟨G, 3, none⟩ = some (.int .i64 ld) := fun w' u => by rw [(hg1.up u).cell]; rfl
 have kL := fun w' => less_any w' lc ld o.ac o.ad
 rw [hless] at kL
 have so0 : ∀ w', Up w1 w' → w'.cell? ⟨w.heap.size, 0, none⟩ = some (.int .i64 o.ac) := fun w' u => by rw [(hB1.up u).cell]; rfl
 have so1 : ∀ w', Up w1 w' → w'.cell? ⟨w.heap.size, 1, none⟩ = some (.int .i64 o.ad) := fun w' u => by rw [(hB1.up u).cell]; rfl
 go_wp2_with fail
 refine wp_region_noPanic ?_
 refine wp_region_held_drew (S := fun w' => Up w1 w') (by kernel_rfl) (Up.drew w1) (fun hHeld => ?_)
 refine tk 0 20 (v := ?_) ?_ ?_
 rotate_left
 ·intro w' hSw; clear hSw; go_simp; try (with_reducible rfl)
 try simp only [tkA, tkB, tkC]
 refine tk 1 21 (v := ?_) ?_ ?_
 rotate_left
 ·intro w' hSw; clear hSw; go_simp; try (with_reducible rfl)
 try simp only [tkA, tkB, tkC]
 refine tk 2 22 (v := ?_) ?_ ?_
 rotate_left
 ·intro w' hSw; clear hSw; go_simp; try (with_reducible rfl)
 try simp only [tkA, tkB, tkC]
 refine tk 3 23 (v := ?_) ?_ ?_
 rotate_left
 ·intro w' hS0; go_simp; try (with_reducible rfl)
 try simp only [tkA, tkB, tkC]
 refine tk 4 24 (v := ?_) ?_ ?_
 rotate_left
 ·intro w' hSw; clear hSw; go_simp; try (with_reducible rfl)
 try simp only [tkA, tkB, tkC]
 refine tk 5 25 (v := ?_) ?_ ?_
 rotate_left
 ·intro w' hS0; go_simp; try (with_reducible rfl)
 try simp only [tkA, tkB, tkC]
 refine wpAnyH_ready (rs := [6]) (by kernel_rfl) (by simp) ?_
 refine AllReadyH.cons rfl (fun K hK => ?_) AllReadyH.nil
 go_simp
 go_at_call 46
 refine (kL _).mono ?_
 rintro e w2 ⟨rfl, hb2⟩
 have hu2 := (Up.drew _).trans (Up.of hb2)
 refine hK.out _ _ hu2 (fun hHeld => ?_)
 clear hK K hHeld
 refine wpAnyH_more (S' := fun w' => Up w2 w') (fun w' h => Up.trans hu2 h) _ _ _ _ ?_
 have hHeld := Up.refl w2
 refine tk 7 27 (v := ?_) ?_ ?_
 rotate_left
 ·intro w' hSw; clear hSw; go_simp; try (with_reducible rfl)
 try simp only [tkA, tkB, tkC]
 refine wpAnyH_done (by kernel_rfl) ?_ _
 refine NoPanic.normal ?_
 clear hHeld
 have hB2 := hB1.up hu2
 have hg2 := hg1.up hu2
 have hA2 := hA1.below hu2.b hA1.lt
 have hW2 := hW1.below hu2.b hW1.lt
 have hF2 := hF1.below hu2.b
 have hR2 := hu2.rd hR1
 have HU2 := Lib.hid hu2
 clear sg2 sg3 so0 so1 hB1 hg1 hA1 hW1 hF1 hR1 hu2 hb2 kL
 go_wp2_with fail
 go_ret
 exact ⟨rfl, (((Kp3.of HU0.out.b).trans (Kp3.of HU1.out.b)).trans (Kp3.of HU2.out.b))⟩
set_option maxRecDepth 100000 in
set_option maxHeartbeats 8000000 in
theorem one_none (w : World) (G Ma Mw na nw : Nat) (pre : List OP) (o : OP) (Ao : Option Addr) (co : Nat) (hst : ChkSt w G Ma Mw na nw pre) (bd : o.Bd) (hr : Rd w Ao (ovL o.ov)) (hl : o.ov.length ≤ co) (hT : Tabs w) (hF : TabR w) (h0 : checkE o = 0) (hless : lessB (lastS pre).1 (lastS pre).2 o.ac o.ad = true) (hk : o.kd ≠ 0) (hadd : addOk lastAdd pre o = false) (hn : na + 1 < maxLen) (hm : nw + 3 < maxLen) :
 Calls Tryz.prog 49 #[.pointer (some ⟨G, 0, none⟩), opV o Ao co] w (fun e w' => e = .returned (.int .i64 9) ∧ Kp3 G Ma Mw w w') := by
 have hlook := look_no hk hadd
 clear hadd
 have hol := bd.ol
 unfold maxLen at hn hm hol
 have hst0 := Lib.hid hst
 obtain ⟨hg, ga, gw, aw, ⟨fA, hMA, hfA⟩, fW, hMW, hfW⟩ := hst
 have HfA := Lib.hid hfA
 have HfW := Lib.hid hfW
 clear hfA hfW
 generalize lastS pre = L at *
 obtain ⟨lc, ld⟩ := L
 dsimp only at hg hless
 have hB := Blk.new w 43 (opC o Ao co).toArray
 have hu0 := Up.of ((Below.refl w.heap.size w).alloc (Nat.le_refl _) (.cells (opC o Ao co).toArray 43))
 have kC := check_any (w.alloc (.cells (opC o Ao co).toArray 43)) o Ao co bd (hr.below hu0.b) hl (hT.below hu0.b)
 have hg0 := hg.up hu0
 have hA0 := hMA.below hu0.b hMA.lt
 have hW0 := hMW.below hu0.b hMW.lt
 have hF0 := hF.below hu0.b
 have hR0 := hr.below hu0.b
 have kW := fun (w' : World) (f : Int) => oWrites_any w' o Ao co o.id f
 have hBd := Lib.hid bd
 unfold opV opC at kC kW ⊢
 unfold opC at hB hg0 hA0 hW0 hF0 hR0 hu0
 have HU0 := Lib.hid hu0
 clear hu0 hF hT hMA hMW hg hr
 generalize hwa : w.alloc (.cells (#[.int .i64 o.ac, .int .i64 o.ad, .int .i64 o.kd, .int .i64 o.rc, .int .i64 o.id, .int .i64 o.ti, .int .i64 o.pa, .int .i64 o.sf, .int .i64 o.st, .int .i64 o.rk, .string ⟨o.nt.toArray⟩, .int .i64 o.se, .int .i64 o.nn, .string ⟨o.tx.toArray⟩, .slice Ao o.ov.length co]) 43) = wa at *
 have HWA := Lib.hid hwa
 clear hwa
 rw [h0] at kC
 have H0 := Lib.hid h0
 have Hk := Lib.hid hk
 have k0 : (o.kd == 0) = false := beq_eq_false_iff_ne.2 hk
 have k1 : (o.kd != 0) = true := bne_iff_ne.2 hk
 clear h0 hk
 obtain ⟨rx, okx, HL, Hne⟩ := hlook
 go_enter Tryz.func49, Tryz.ntmps49
 go_wp2_with fail
 rw [HWA.out]
 refine kC.mono ?_
 rintro e w1 ⟨rfl, hb1⟩
 have hu1 := Up.of hb1
 have hB1 := hB.up hu1
 have hg1 := hg0.up hu1
 have hA1 := hA0.below hb1 hA0.lt
 have hW1 := hW0.below hb1 hW0.lt
 have hF1 := hF0.below hb1
 have hR1 := hR0.below hb1
 have HU1 := Lib.hid hu1
 clear kC hu1 hB hg0 hA0 hW0 hF0 hR0 hb1
 have sg2 : ∀ w', Up w1 w' → w'.cell? ⟨G, 2, none⟩ = some (.int .i64 lc) := fun w' u => by rw [(hg1.up u).cell]; rfl
 have sg3 : ∀ w', Up w1 w' → w'.cell? ⟨G, 3, none⟩ = some (.int .i64 ld) := fun w' u => by rw [(hg1.up u).cell]; rfl
 have kL := fun w' => less_any w' lc ld o.ac o.ad
 rw [hless] at kL
 have so0 : ∀ w', Up w1 w' → w'.cell? ⟨w.heap.size, 0, none⟩ = some (.int .i64 o.ac) := fun w' u => by rw [(hB1.up u).cell]; rfl
 have so1 : ∀ w', Up w1 w' → w'.cell? ⟨w.heap.size, 1, none⟩ = some (.int .i64 o.ad) := fun w' u => by rw [(hB1.up u).cell]; rfl
 go_wp2_with fail
 refine wp_region_noPanic ?_
 refine wp_region_held_drew (S := fun w' => Up w1 w') (by kernel_rfl) (Up.drew w1) (fun hHeld => ?_)
 refine tk 0 20 (v := ?_) ?_ ?_
 rotate_left
 ·intro w' hSw; clear hSw; go_simp; try (with_reducible rfl)
 try simp only [tkA, tkB, tkC]
 refine tk 1 21 (v := ?_) ?_ ?_
 rotate_left
 ·intro w' hSw; clear hSw; go_simp; try (with_reducible rfl)
 try simp only [tkA, tkB, tkC]
 refine tk 2 22 (v := ?_) ?_ ?_
 rotate_left
 ·intro w' hSw; clear hSw; go_simp; try (with_reducible rfl)
 try simp only [tkA, tkB, tkC]
 refine tk 3 23 (v := ?_) ?_ ?_
 rotate_left
 ·intro w' hS0; go_simp; try (with_reducible rfl)
 try simp only [tkA, tkB, tkC]
 refine tk 4 24 (v := ?_) ?_ ?_
 rotate_left
 ·intro w' hSw; clear hSw; go_simp; try (with_reducible rfl)
 try simp only [tkA, tkB, tkC]
 refine tk 5 25 (v := ?_) ?_ ?_
 rotate_left
 ·intro w' hS0; go_simp; try (with_reducible rfl)
 try simp only [tkA, tkB, tkC]
 refine wpAnyH_ready (rs := [6]) (by kernel_rfl) (by simp) ?_
 refine AllReadyH.cons rfl (fun K hK => ?_) AllReadyH.nil
 go_simp
 go_at_call 46
 refine (kL _).mono ?_
 rintro e w2 ⟨rfl, hb2⟩
 have hu2 := (Up.drew _).trans (Up.of hb2)
 refine hK.out _ _ hu2 (fun hHeld => ?_)
 clear hK K hHeld
 refine wpAnyH_more (S' := fun w' => Up w2 w') (fun w' h => Up.trans hu2 h) _ _ _ _ ?_
 have hHeld := Up.refl w2
 refine tk 7 27 (v := ?_) ?_ ?_
 rotate_left
 ·intro w' hSw; clear hSw; go_simp; try (with_reducible rfl)
 try simp only [tkA, tkB, tkC]
 refine wpAnyH_done (by kernel_rfl) ?_ _
 refine NoPanic.normal ?_
 clear hHeld
 have hB2 := hB1.up hu2
 have hg2 := hg1.up hu2
 have hA2 := hA1.below hu2.b hA1.lt
 have hW2 := hW1.below hu2.b hW1.lt
 have hF2 := hF1.below hu2.b
 have hR2 := hu2.rd hR1
 have HU2 := Lib.hid hu2
 clear sg2 sg3 so0 so1 hB1 hg1 hA1 hW1 hF1 hR1 hu2 hb2 kL
 have co2 : w2.cell? ⟨w.heap.size, 2, none⟩ = some (.int .i64 o.kd) := by rw [hB2.cell]; rfl
 go_wp2_with fail
 have sg0 : ∀ w', Up w2 w' → w'.cell? ⟨G, 0, none⟩ = some (.map (some Ma)) := fun w' u => by rw [(hg2.up u).cell]; rfl
 have so4 : ∀ w', Up w2 w' → w'.cell? ⟨w.heap.size, 4, none⟩ = some (.int .i64 o.id) := fun w' u => by rw [(hB2.up u).cell]; rfl
 obtain ⟨kA, hkA⟩ := keyI (n := o.id) bd.id
 have hlk : ∀ w', Up w2 w' → (Instr.lookup 81 (.map (some Ma)) (.int .i64 o.id) true).run Tryz.prog w' = .ok (.tuple #[.int .i64 rx, .bool okx]) w' := fun w' u => by
  rw [(hA2.below u.b hA2.lt).look_ok keyedI Tryz.underlying81 (zeroI _) (plainElem_int Tryz.underlying3 (wf64 i64b0)) hkA, HfA.out, HL.1, HL.2]
 refine wp_region_noPanic ?_
 refine wp_region_held_drew (S := fun w' => Up w2 w') (by kernel_rfl) (Up.drew w2) (fun hHeld => ?_)
 refine tk 0 32 (v := ?_) ?_ ?_
 rotate_left
 ·intro w' hSw; clear hSw; go_simp; try (with_reducible rfl)
 try simp only [tkA, tkB, tkC]
 refine tk 1 33 (v := ?_) ?_ ?_
 rotate_left
 ·intro w' hSw; clear hSw; go_simp; try (with_reducible rfl)
 try simp only [tkA, tkB, tkC]
 refine tk 2 34 (v := ?_) ?_ ?_
 rotate_left
 ·intro w' hSw; clear hSw; go_simp; try (with_reducible rfl)
 try simp only [tkA, tkB, tkC]
 refine tk 3 35 (v := ?_) ?_ ?_
 rotate_left
 ·intro w' hS0; go_simp; try (with_reducible rfl)
 try simp only [tkA, tkB, tkC]
 refine tk 4 36 (v := ?_) ?_ ?_
 rotate_left
 ·intro w' hSw; clear hSw; go_simp; try (with_reducible rfl)
 try simp only [tkA, tkB, tkC]
 refine tk 5 37 (v := ?_) ?_ ?_
 rotate_left
 ·intro w' hSw; clear hSw; go_simp; try (with_reducible rfl)
 try simp only [tkA, tkB, tkC]
 refine tk 6 38 (v := ?_) ?_ ?_
 rotate_left
 ·intro w' hS0; go_simp; try (with_reducible rfl)
 try simp only [tkA, tkB, tkC]
 refine tk 7 39 (v := ?_) ?_ ?_
 rotate_left
 ·intro w' hS0; go_simp; try (with_reducible rfl)
 try simp only [tkA, tkB, tkC]
 refine tk 8 31 (v := ?_) ?_ ?_
 rotate_left
 ·intro w' hSw; clear hSw; go_simp; try (with_reducible rfl)
 try simp only [tkA, tkB, tkC]
 refine tk 9 40 (v := ?_) ?_ ?_
 rotate_left
 ·intro w' hSw; clear hSw; go_simp; try (with_reducible rfl)
 try simp only [tkA, tkB, tkC]
 refine tk 10 41 (v := ?_) ?_ ?_
 rotate_left
 ·intro w' hSw; clear hSw; go_simp; try (with_reducible rfl)
 try simp only [tkA, tkB, tkC]
 refine tk 11 6 (v := ?_) ?_ ?_
 rotate_left
 ·intro w' hSw; clear hSw; go_simp; try (with_reducible rfl)
 try simp only [tkA, tkB, tkC]
 refine tk 12 7 (v := ?_) ?_ ?_
 rotate_left
 ·intro w' hSw; clear hSw; go_simp; try (with_reducible rfl)
 try simp only [tkA, tkB, tkC]
 refine wpAnyH_done (by kernel_rfl) ?_ _
 refine NoPanic.normal ?_
 clear hHeld
 have hud := Up.drew w2
 have cw3 : w2.drew.cell? ⟨w.heap.size, 3, none⟩ = some (.int .i64 o.rc) := by rw [(hB2.up hud).cell]; rfl
 rcases Hne with rfl | ⟨rfl, ne⟩
 ·go_wp2_with fail
  go_ret
  exact ⟨rfl, (((Kp3.of HU0.out.b).trans (Kp3.of HU1.out.b)).trans (Kp3.of HU2.out.b)).trans (Kp3.of hud.b)⟩
 ·go_wp2_with fail
  go_ret
  exact ⟨rfl, (((Kp3.of HU0.out.b).trans (Kp3.of HU1.out.b)).trans (Kp3.of HU2.out.b)).trans (Kp3.of hud.b)⟩
set_option maxRecDepth 100000 in
set_option maxHeartbeats 8000000 in
theorem one_else (w : World) (G Ma Mw na nw : Nat) (pre : List OP) (o : OP) (Ao : Option Addr) (co : Nat) (hst : ChkSt w G Ma Mw na nw pre) (bd : o.Bd) (hr : Rd w Ao (ovL o.ov)) (hl : o.ov.length ≤ co) (hT : Tabs w) (hF : TabR w) (h0 : checkE o = 0) (hless : lessB (lastS pre).1 (lastS pre).2 o.ac o.ad = true) (hk : o.kd ≠ 0) (hadd : addOk lastAdd pre o = true) (hn : na + 1 < maxLen) (hm : nw + 3 < maxLen) :
 Calls Tryz.prog 49 #[.pointer (some ⟨G, 0, none⟩), opV o Ao co] w (RetOne G Ma Mw na nw pre o w) := by
 have hlook := look_yes hk hadd
 have HE := Lib.hid (oneX_ov h0 hless hadd)
 clear hadd
 have hol := bd.ol
 unfold maxLen at hn hm hol
 have hst0 := Lib.hid hst
 obtain ⟨hg, ga, gw, aw, ⟨fA, hMA, hfA⟩, fW, hMW, hfW⟩ := hst
 have HfA := Lib.hid hfA
 have HfW := Lib.hid hfW
 clear hfA hfW
 generalize lastS pre = L at *
 obtain ⟨lc, ld⟩ := L
 dsimp only at hg hless
 have hB := Blk.new w 43 (opC o Ao co).toArray
 have hu0 := Up.of ((Below.refl w.heap.size w).alloc (Nat.le_refl _) (.cells (opC o Ao co).toArray 43))
 have kC := check_any (w.alloc (.cells (opC o Ao co).toArray 43)) o Ao co bd (hr.below hu0.b) hl (hT.below hu0.b)
 have hg0 := hg.up hu0
 have hA0 := hMA.below hu0.b hMA.lt
 have hW0 := hMW.below hu0.b hMW.lt
 have hF0 := hF.below hu0.b
 have hR0 := hr.below hu0.b
 have kW := fun (w' : World) (f : Int) => oWrites_any w' o Ao co o.id f
 have hBd := Lib.hid bd
 unfold opV opC at kC kW ⊢
 unfold opC at hB hg0 hA0 hW0 hF0 hR0 hu0
 have HU0 := Lib.hid hu0
 clear hu0 hF hT hMA hMW hg hr
 generalize hwa : w.alloc (.cells (#[.int .i64 o.ac, .int .i64 o.ad, .int .i64 o.kd, .int .i64 o.rc, .int .i64 o.id, .int .i64 o.ti, .int .i64 o.pa, .int .i64 o.sf, .int .i64 o.st, .int .i64 o.rk, .string ⟨o.nt.toArray⟩, .int .i64 o.se, .int .i64 o.nn, .string ⟨o.tx.toArray⟩, .slice Ao o.ov.length co]) 43) = wa at *
 have HWA := Lib.hid hwa
 clear hwa
 rw [h0] at kC
 have H0 := Lib.hid h0
 have Hk := Lib.hid hk
 have k0 : (o.kd == 0) = false := beq_eq_false_iff_ne.2 hk
 have k1 : (o.kd != 0) = true := bne_iff_ne.2 hk
 clear h0 hk
 have HL := hlook
 clear hlook
 go_enter Tryz.func49, Tryz.ntmps49
 go_wp2_with fail
 rw [HWA.out]
 refine kC.mono ?_
 rintro e w1 ⟨rfl, hb1⟩
 have hu1 := Up.of hb1
 have hB1 := hB.up hu1
 have hg1 := hg0.up hu1
 have hA1 := hA0.below hb1 hA0.lt
 have hW1 := hW0.below hb1 hW0.lt
 have hF1 := hF0.below hb1
 have hR1 := hR0.below hb1
 have HU1 := Lib.hid hu1
 clear kC hu1 hB hg0 hA0 hW0 hF0 hR0 hb1
 have sg2 : ∀ w', Up w1 w' → w'.cell? ⟨G, 2, none⟩ = some (.int .i64 lc) := fun w' u => by rw [(hg1.up u).cell]; rfl
 have sg3 : ∀ w', Up w1 w' → w'.cell? ⟨G, 3, none⟩ = some (.int .i64 ld) := fun w' u => by rw [(hg1.up u).cell]; rfl
 have kL := fun w' => less_any w' lc ld o.ac o.ad
 rw [hless] at kL
 have so0 : ∀ w', Up w1 w' → w'.cell? ⟨w.heap.size, 0, none⟩ = some (.int .i64 o.ac) := fun w' u => by rw [(hB1.up u).cell]; rfl
 have so1 : ∀ w', Up w1 w' → w'.cell? ⟨w.heap.size, 1, none⟩ = some (.int .i64 o.ad) := fun w' u => by rw [(hB1.up u).cell]; rfl
 go_wp2_with fail
 refine wp_region_noPanic ?_
 refine wp_region_held_drew (S := fun w' => Up w1 w') (by kernel_rfl) (Up.drew w1) (fun hHeld => ?_)
 refine tk 0 20 (v := ?_) ?_ ?_
 rotate_left
 ·intro w' hSw; clear hSw; go_simp; try (with_reducible rfl)
 try simp only [tkA, tkB, tkC]
 refine tk 1 21 (v := ?_) ?_ ?_
 rotate_left
 ·intro w' hSw; clear hSw; go_simp; try (with_reducible rfl)
 try simp only [tkA, tkB, tkC]
 refine tk 2 22 (v := ?_) ?_ ?_
 rotate_left
 ·intro w' hSw; clear hSw; go_simp; try (with_reducible rfl)
 try simp only [tkA, tkB, tkC]
 refine tk 3 23 (v := ?_) ?_ ?_
 rotate_left
 ·intro w' hS0; go_simp; try (with_reducible rfl)
 try simp only [tkA, tkB, tkC]
 refine tk 4 24 (v := ?_) ?_ ?_
 rotate_left
 ·intro w' hSw; clear hSw; go_simp; try (with_reducible rfl)
 try simp only [tkA, tkB, tkC]
 refine tk 5 25 (v := ?_) ?_ ?_
 rotate_left
 ·intro w' hS0; go_simp; try (with_reducible rfl)
 try simp only [tkA, tkB, tkC]
 refine wpAnyH_ready (rs := [6]) (by kernel_rfl) (by simp) ?_
 refine AllReadyH.cons rfl (fun K hK => ?_) AllReadyH.nil
 go_simp
 go_at_call 46
 refine (kL _).mono ?_
 rintro e w2 ⟨rfl, hb2⟩
 have hu2 := (Up.drew _).trans (Up.of hb2)
 refine hK.out _ _ hu2 (fun hHeld => ?_)
 clear hK K hHeld
 refine wpAnyH_more (S' := fun w' => Up w2 w') (fun w' h => Up.trans hu2 h) _ _ _ _ ?_
 have hHeld := Up.refl w2
 refine tk 7 27 (v := ?_) ?_ ?_
 rotate_left
 ·intro w' hSw; clear hSw; go_simp; try (with_reducible rfl)
 try simp only [tkA, tkB, tkC]
 refine wpAnyH_done (by kernel_rfl) ?_ _
 refine NoPanic.normal ?_
 clear hHeld
 have hB2 := hB1.up hu2
 have hg2 := hg1.up hu2
 have hA2 := hA1.below hu2.b hA1.lt
 have hW2 := hW1.below hu2.b hW1.lt
 have hF2 := hF1.below hu2.b
 have hR2 := hu2.rd hR1
 have HU2 := Lib.hid hu2
 clear sg2 sg3 so0 so1 hB1 hg1 hA1 hW1 hF1 hR1 hu2 hb2 kL
 have co2 : w2.cell? ⟨w.heap.size, 2, none⟩ = some (.int .i64 o.kd) := by rw [hB2.cell]; rfl
 go_wp2_with fail
 have sg0 : ∀ w', Up w2 w' → w'.cell? ⟨G, 0, none⟩ = some (.map (some Ma)) := fun w' u => by rw [(hg2.up u).cell]; rfl
 have so4 : ∀ w', Up w2 w' → w'.cell? ⟨w.heap.size, 4, none⟩ = some (.int .i64 o.id) := fun w' u => by rw [(hB2.up u).cell]; rfl
 obtain ⟨kA, hkA⟩ := keyI (n := o.id) bd.id
 have hlk : ∀ w', Up w2 w' → (Instr.lookup 81 (.map (some Ma)) (.int .i64 o.id) true).run Tryz.prog w' = .ok (.tuple #[.int .i64 o.rc, .bool true]) w' := fun w' u => by
  rw [(hA2.below u.b hA2.lt).look_ok keyedI Tryz.underlying81 (zeroI _) (plainElem_int Tryz.underlying3 (wf64 i64b0)) hkA, HfA.out, HL.1, HL.2]
 refine wp_region_noPanic ?_
 refine wp_region_held_drew (S := fun w' => Up w2 w') (by kernel_rfl) (Up.drew w2) (fun hHeld => ?_)
 refine tk 0 32 (v := ?_) ?_ ?_
 rotate_left
 ·intro w' hSw; clear hSw; go_simp; try (with_reducible rfl)
 try simp only [tkA, tkB, tkC]
 refine tk 1 33 (v := ?_) ?_ ?_
 rotate_left
 ·intro w' hSw; clear hSw; go_simp; try (with_reducible rfl)
 try simp only [tkA, tkB, tkC]
 refine tk 2 34 (v := ?_) ?_ ?_
 rotate_left
 ·intro w' hSw; clear hSw; go_simp; try (with_reducible rfl)
 try simp only [tkA, tkB, tkC]
 refine tk 3 35 (v := ?_) ?_ ?_
 rotate_left
 ·intro w' hS0; go_simp; try (with_reducible rfl)
 try simp only [tkA, tkB, tkC]
 refine tk 4 36 (v := ?_) ?_ ?_
 rotate_left
 ·intro w' hSw; clear hSw; go_simp; try (with_reducible rfl)
 try simp only [tkA, tkB, tkC]
 refine tk 5 37 (v := ?_) ?_ ?_
 rotate_left
 ·intro w' hSw; clear hSw; go_simp; try (with_reducible rfl)
 try simp only [tkA, tkB, tkC]
 refine tk 6 38 (v := ?_) ?_ ?_
 rotate_left
 ·intro w' hS0; go_simp; try (with_reducible rfl)
 try simp only [tkA, tkB, tkC]
 refine tk 7 39 (v := ?_) ?_ ?_
 rotate_left
 ·intro w' hS0; go_simp; try (with_reducible rfl)
 try simp only [tkA, tkB, tkC]
 refine tk 8 31 (v := ?_) ?_ ?_
 rotate_left
 ·intro w' hSw; clear hSw; go_simp; try (with_reducible rfl)
 try simp only [tkA, tkB, tkC]
 refine tk 9 40 (v := ?_) ?_ ?_
 rotate_left
 ·intro w' hSw; clear hSw; go_simp; try (with_reducible rfl)
 try simp only [tkA, tkB, tkC]
 refine tk 10 41 (v := ?_) ?_ ?_
 rotate_left
 ·intro w' hSw; clear hSw; go_simp; try (with_reducible rfl)
 try simp only [tkA, tkB, tkC]
 refine tk 11 6 (v := ?_) ?_ ?_
 rotate_left
 ·intro w' hSw; clear hSw; go_simp; try (with_reducible rfl)
 try simp only [tkA, tkB, tkC]
 refine tk 12 7 (v := ?_) ?_ ?_
 rotate_left
 ·intro w' hSw; clear hSw; go_simp; try (with_reducible rfl)
 try simp only [tkA, tkB, tkC]
 refine wpAnyH_done (by kernel_rfl) ?_ _
 refine NoPanic.normal ?_
 clear hHeld
 have hud := Up.drew w2
 have hB3 := hB2.up hud
 have hg3 := hg2.up hud
 have hA3 := hA2.below hud.b hA2.lt
 have hW3 := hW2.below hud.b hW2.lt
 have hF3 := hF2.below hud.b
 have hR3 := hud.rd hR2
 have HU3 := Lib.hid hud
 clear sg0 so4 hlk hkA hB2 hg2 hA2 hW2 hF2 hR2 hud co2 HL
 generalize w2.drew = w3 at *
 have co3 : w3.cell? ⟨w.heap.size, 3, none⟩ = some (.int .i64 o.rc) := by rw [hB3.cell]; rfl
 have co14 : w3.cell? ⟨w.heap.size, 14, none⟩ = some (.slice Ao o.ov.length co) := by rw [hB3.cell]; rfl
 have rr : (o.rc != o.rc) = false := by simp
 go_wp2_with fail
 go_loopw [53] (OvRel w3 pre o) (fun i _ => o.ov.length - (intOf i).toNat)
 case atStart => exact ⟨0, by omega, rfl, by rw [Hid]; rfl, Up.refl _⟩
 case round =>
  obtain ⟨k, hk, rfl, hK, hu⟩ := hrel
  clear co3 co14
  by_cases hlt : k < o.ov.length
  ·have t1 : decide ((k : Int) < (o.ov.length : Int)) = true := decide_eq_true (by omega)
   obtain ⟨b, off, rfl, hc0, hc1⟩ := ov_cells (hu.rd hR3) hlt
   have HD : Hid ((o.ov.drop k).all (fnd3 pre o) = (fnd3 pre o o.ov[k] && (o.ov.drop (k + 1)).all (fnd3 pre o))) := by rw [Hid, List.drop_eq_getElem_cons hlt]; rfl
   have HF3 : Hid (fndU pre o o.ov[k] 3 = fnd3 pre o o.ov[k]) := fndU_three pre o _
   have hst : I64b o.ov[k].1 ∧ I64b o.ov[k].2 := bd.ov _ (List.getElem_mem _)
   obtain ⟨⟨x, y⟩, hxy⟩ : ∃ s, o.ov[k] = s := ⟨_, rfl⟩
   rw [hxy] at hc0 hc1 HD HF3 hst
   dsimp only at hc0 hc1 hst
   clear hxy
   have hua := Up.alloc' wr (.cells #[.int .i64 x, .int .i64 y] 36)
   have hSk := Blk.new wr 36 #[.int .i64 x, .int .i64 y]
   have hub := hu.trans hua
   have hBk := hB3.up hub
   have hgk := hg3.up hub
   have hWk := hW3.below hub.b hW3.lt
   have hFk := hF3.below hub.b
   have HUk := Lib.hid hub
   clear hua hub
   have cf0 := hFk.f0
   have cf1 := hFk.f1
   have cf2 := hFk.f2
   rename World => wk
   go_wp2_with fail
   generalize hwa : wk.alloc (.cells #[.int .i64 x, .int .i64 y] 36) = wa at *
   clear hwa
   go_loopw [58, 10] (FldRel wa pre o (x, y)) (fun i _ _ => 3 - (intOf i).toNat)
   case atStart => exact ⟨0, by omega, rfl, rfl, Up.refl _⟩
   case round =>
    obtain ⟨j, hj3, rfl, rfl, hv⟩ := hrel
    clear cf0 cf1 cf2
    by_cases hlj : j < 3
    ·have t2 : decide ((j : Int) < 3) = true := decide_eq_true (by omega)
     have t3 : (j : Int) < 3 := by omega
     have t4 : 0 ≤ (j : Int) := by omega
     have hidx := idx3 j hlj
     have HJ : Hid (fndU pre o (x, y) (j + 1) = (fndU pre o (x, y) j || fndB pre o (x, y) j)) := rfl
     have HB : Hid (fndB pre o (x, y) (j : Int) = ((o.kd == 2 || (j : Int) == o.se) && wsB pre (x, y) o.id j)) := rfl
     have hBj := hBk.up hv
     have hgj := hgk.up hv
     have hSj := hSk.up hv
     have hWj := hWk.below hv.b hWk.lt
     have sg1 : ∀ w', Up wr w' → w'.cell? ⟨G, 1, none⟩ = some (.map (some Mw)) := fun w' u => by rw [(hgj.up u).cell]; rfl
     have so2 : ∀ w', Up wr w' → w'.cell? ⟨w.heap.size, 2, none⟩ = some (.int .i64 o.kd) := fun w' u => by rw [(hBj.up u).cell]; rfl
     have so4 : ∀ w', Up wr w' → w'.cell? ⟨w.heap.size, 4, none⟩ = some (.int .i64 o.id) := fun w' u => by rw [(hBj.up u).cell]; rfl
     have so11 : ∀ w', Up wr w' → w'.cell? ⟨w.heap.size, 11, none⟩ = some (.int .i64 o.se) := fun w' u => by rw [(hBj.up u).cell]; rfl
     have ss0 : ∀ w', Up wr w' → w'.cell? ⟨wk.heap.size, 0, none⟩ = some (.int .i64 x) := fun w' u => by rw [(hSj.up u).cell]; rfl
     have ss1 : ∀ w', Up wr w' → w'.cell? ⟨wk.heap.size, 1, none⟩ = some (.int .i64 y) := fun w' u => by rw [(hSj.up u).cell]; rfl
     obtain ⟨kQ, hkW⟩ := keyW (c := x) (d := y) (n := o.id) (f := (j : Int)) hst.1 hst.2 bd.id ⟨by omega, by omega⟩
     obtain ⟨vb, hvb⟩ : ∃ b, wsB pre (x, y) o.id j = b := ⟨_, rfl⟩
     have hlk : ∀ w', Up wr w' → (Instr.lookup 82 (.map (some Mw)) (.agg #[.int .i64 x, .int .i64 y, .int .i64 o.id, .int .i64 (j : Int)]) false).run Tryz.prog w' = .ok (.bool vb) w' := fun w' u => by
      have := (hWj.below u.b hWj.lt).look keyedW Tryz.underlying82 (zeroB _) (plainElem_bool (b := false) Tryz.underlying4) hkW
      unfold wrV at this
      rw [this]
      have h2 := HfW.out x y o.id j
      unfold wrV at h2
      rw [h2, hvb]
      rcases vb with _ | _ <;> rfl
     clear hkW
     rw [hvb] at HB
     clear hvb
     generalize fndB pre o (x, y) (j : Int) = fb at *
     rcases hq : fndU pre o (x, y) j with _ | _
     ·rw [hq] at HJ
      clear hq
      rcases q2 : (o.kd == 2) with _ | _
      ·rw [q2] at HB
       rcases q3 : ((j : Int) == o.se) with _ | _
       ·rw [q3] at HB
        go_wp2_with fail
        refine wp_region_noPanic ?_
        refine wp_region_held_drew (S := fun w' => Up wr w') (by kernel_rfl) (Up.drew wr) (fun hHeld => ?_)
        refine tk 0 61 (v := ?_) ?_ ?_
        rotate_left
        ·intro w' hSw; clear hSw; go_simp; try (with_reducible rfl)
        try simp only [tkA, tkB, tkC]
        refine tk 1 62 (v := ?_) ?_ ?_
        rotate_left
        ·intro w' hSw; clear hSw; go_simp; try (with_reducible rfl)
        try simp only [tkA, tkB, tkC]
        refine tk 2 63 (v := ?_) ?_ ?_
        rotate_left
        ·intro w' hSw; clear hSw; go_simp; try (with_reducible rfl)
        try simp only [tkA, tkB, tkC]
        refine tk 3 64 (v := ?_) ?_ ?_
        rotate_left
        ·intro w' hS0; go_simp; try (with_reducible rfl)
        try simp only [tkA, tkB, tkC]
        refine tk 4 65 (v := ?_) ?_ ?_
        rotate_left
        ·intro w' hSw; clear hSw; go_simp; try (with_reducible rfl)
        try simp only [tkA, tkB, tkC]
        refine tk 5 66 (v := ?_) ?_ ?_
        rotate_left
        ·intro w' hSw; clear hSw; go_simp; try (with_reducible rfl)
        try simp only [tkA, tkB, tkC]
        refine tk 6 67 (v := ?_) ?_ ?_
        rotate_left
        ·intro w' hSw; clear hSw; go_simp; try (with_reducible rfl)
        try simp only [tkA, tkB, tkC]
        refine tk 7 68 (v := ?_) ?_ ?_
        rotate_left
        ·intro w' hSw; clear hSw; go_simp; try (with_reducible rfl)
        try simp only [tkA, tkB, tkC]
        refine tk 8 69 (v := ?_) ?_ ?_
        rotate_left
        ·intro w' hS0; go_simp; try (with_reducible rfl)
        try simp only [tkA, tkB, tkC]
        refine tk 9 70 (v := ?_) ?_ ?_
        rotate_left
        ·intro w' hSw; clear hSw; go_simp; try (with_reducible rfl)
        try simp only [tkA, tkB, tkC]
        refine tk 10 71 (v := ?_) ?_ ?_
        rotate_left
        ·intro w' hSw; clear hSw; go_simp; try (with_reducible rfl)
        try simp only [tkA, tkB, tkC]
        refine tk 11 72 (v := ?_) ?_ ?_
        rotate_left
        ·intro w' hSw; clear hSw; go_simp; try (with_reducible rfl)
        try simp only [tkA, tkB, tkC]
        refine held_skip 12 rfl (by kernel_rfl) (by kernel_rfl) (by kernel_rfl) (fun _ _ _ h => h) (by rfl) (by assumption) ?_
        change wpAnyH _ _ _ _ _ _ _ (Act.put _ (some 73) _) _
        try simp only [Act.put, tkA, tkB, tkC]
        refine held_skip 13 rfl (by kernel_rfl) (by kernel_rfl) (by kernel_rfl) (fun _ _ _ h => h) (by rfl) (by assumption) ?_
        change wpAnyH _ _ _ _ _ _ _ (Act.put _ (some 74) _) _
        try simp only [Act.put, tkA, tkB, tkC]
        refine held_skip 14 rfl (by kernel_rfl) (by kernel_rfl) (by kernel_rfl) (fun _ _ _ h => h) (by rfl) (by assumption) ?_
        change wpAnyH _ _ _ _ _ _ _ (Act.put _ (some 75) _) _
        try simp only [Act.put, tkA, tkB, tkC]
        refine held_skip 15 rfl (by kernel_rfl) (by kernel_rfl) (by kernel_rfl) (fun _ _ _ h => h) (by rfl) (by assumption) ?_
        change wpAnyH _ _ _ _ _ _ _ (Act.put _ (some 76) _) _
        try simp only [Act.put, tkA, tkB, tkC]
        refine held_skip 16 rfl (by kernel_rfl) (by kernel_rfl) (by kernel_rfl) (fun _ _ _ h => h) (by rfl) (by assumption) ?_
        change wpAnyH _ _ _ _ _ _ _ (Act.put _ (some 77) _) _
        try simp only [Act.put, tkA, tkB, tkC]
        refine held_skip 17 rfl (by kernel_rfl) (by kernel_rfl) (by kernel_rfl) (fun _ _ _ h => h) (by rfl) (by assumption) ?_
        change wpAnyH _ _ _ _ _ _ _ (Act.put _ (some 78) _) _
        try simp only [Act.put, tkA, tkB, tkC]
        refine held_skip 18 rfl (by kernel_rfl) (by kernel_rfl) (by kernel_rfl) (fun _ _ _ h => h) (by rfl) (by assumption) ?_
        change wpAnyH _ _ _ _ _ _ _ (Act.put _ (some 79) _) _
        try simp only [Act.put, tkA, tkB, tkC]
        refine held_skip 19 rfl (by kernel_rfl) (by kernel_rfl) (by kernel_rfl) (fun _ _ _ h => h) (by rfl) (by assumption) ?_
        change wpAnyH _ _ _ _ _ _ _ (Act.put _ (some 80) _) _
        try simp only [Act.put, tkA, tkB, tkC]
        refine held_skip 20 rfl (by kernel_rfl) (by kernel_rfl) (by kernel_rfl) (fun _ _ _ h => h) (by rfl) (by assumption) ?_
        change wpAnyH _ _ _ _ _ _ _ (Act.put _ (some 81) _) _
        try simp only [Act.put, tkA, tkB, tkC]
        refine held_skip 21 rfl (by kernel_rfl) (by kernel_rfl) (by kernel_rfl) (fun _ _ _ h => h) (by rfl) (by assumption) ?_
        change wpAnyH _ _ _ _ _ _ _ (Act.put _ (some 82) _) _
        try simp only [Act.put, tkA, tkB, tkC]
        refine held_skip 22 rfl (by kernel_rfl) (by kernel_rfl) (by kernel_rfl) (fun _ _ _ h => h) (by rfl) (by assumption) ?_
        change wpAnyH _ _ _ _ _ _ _ (Act.put _ (some 83) _) _
        try simp only [Act.put, tkA, tkB, tkC]
        refine tk 23 84 (v := ?_) ?_ ?_
        rotate_left
        ·intro w' hSw; clear hSw; go_simp; try (with_reducible rfl)
        try simp only [tkA, tkB, tkC]
        refine tk 24 85 (v := ?_) ?_ ?_
        rotate_left
        ·intro w' hSw; clear hSw; go_simp; try (with_reducible rfl)
        try simp only [tkA, tkB, tkC]
        refine tk 25 10 (v := ?_) ?_ ?_
        rotate_left
        ·intro w' hSw; clear hSw; go_simp; try (with_reducible rfl)
        try simp only [tkA, tkB, tkC]
        refine wpAnyH_done (by kernel_rfl) ?_ _
        refine NoPanic.normal ?_
        clear hHeld
        go_wp2_with fail
        go_roundw
        case rel => exact ⟨j + 1, hlj, by go_num, by rw [HJ.out, HB.out]; rfl, hv.trans (Up.drew _)⟩
        case measure => simp [intOf]; omega
       ·rw [q3] at HB
        go_wp2_with fail
        refine wp_region_noPanic ?_
        refine wp_region_held_drew (S := fun w' => Up wr w') (by kernel_rfl) (Up.drew wr) (fun hHeld => ?_)
        refine tk 0 61 (v := ?_) ?_ ?_
        rotate_left
        ·intro w' hSw; clear hSw; go_simp; try (with_reducible rfl)
        try simp only [tkA, tkB, tkC]
        refine tk 1 62 (v := ?_) ?_ ?_
        rotate_left
        ·intro w' hSw; clear hSw; go_simp; try (with_reducible rfl)
        try simp only [tkA, tkB, tkC]
        refine tk 2 63 (v := ?_) ?_ ?_
        rotate_left
        ·intro w' hSw; clear hSw; go_simp; try (with_reducible rfl)
        try simp only [tkA, tkB, tkC]
        refine tk 3 64 (v := ?_) ?_ ?_
        rotate_left
        ·intro w' hS0; go_simp; try (with_reducible rfl)
        try simp only [tkA, tkB, tkC]
        refine tk 4 65 (v := ?_) ?_ ?_
        rotate_left
        ·intro w' hSw; clear hSw; go_simp; try (with_reducible rfl)
        try simp only [tkA, tkB, tkC]
        refine tk 5 66 (v := ?_) ?_ ?_
        rotate_left
        ·intro w' hSw; clear hSw; go_simp; try (with_reducible rfl)
        try simp only [tkA, tkB, tkC]
        refine tk 6 67 (v := ?_) ?_ ?_
        rotate_left
        ·intro w' hSw; clear hSw; go_simp; try (with_reducible rfl)
        try simp only [tkA, tkB, tkC]
        refine tk 7 68 (v := ?_) ?_ ?_
        rotate_left
        ·intro w' hSw; clear hSw; go_simp; try (with_reducible rfl)
        try simp only [tkA, tkB, tkC]
        refine tk 8 69 (v := ?_) ?_ ?_
        rotate_left
        ·intro w' hS0; go_simp; try (with_reducible rfl)
        try simp only [tkA, tkB, tkC]
        refine tk 9 70 (v := ?_) ?_ ?_
        rotate_left
        ·intro w' hSw; clear hSw; go_simp; try (with_reducible rfl)
        try simp only [tkA, tkB, tkC]
        refine tk 10 71 (v := ?_) ?_ ?_
        rotate_left
        ·intro w' hSw; clear hSw; go_simp; try (with_reducible rfl)
        try simp only [tkA, tkB, tkC]
        refine tk 11 72 (v := ?_) ?_ ?_
        rotate_left
        ·intro w' hSw; clear hSw; go_simp; try (with_reducible rfl)
        try simp only [tkA, tkB, tkC]
        refine tk 12 73 (v := ?_) ?_ ?_
        rotate_left
        ·intro w' hSw; clear hSw; go_simp; try (with_reducible rfl)
        try simp only [tkA, tkB, tkC]
        refine tk 13 74 (v := ?_) ?_ ?_
        rotate_left
        ·intro w' hSw; clear hSw; go_simp; try (with_reducible rfl)
        try simp only [tkA, tkB, tkC]
        refine tk 14 75 (v := ?_) ?_ ?_
        rotate_left
        ·intro w' hSw; clear hSw; go_simp; try (with_reducible rfl)
        try simp only [tkA, tkB, tkC]
        refine tk 15 76 (v := ?_) ?_ ?_
        rotate_left
        ·intro w' hS0; go_simp; try (with_reducible rfl)
        try simp only [tkA, tkB, tkC]
        refine tk 16 77 (v := ?_) ?_ ?_
        rotate_left
        ·intro w' hS0; go_simp; try (with_reducible rfl)
        try simp only [tkA, tkB, tkC]
        refine tk 17 78 (v := ?_) ?_ ?_
        rotate_left
        ·intro w' hSw; clear hSw; go_simp; try (with_reducible rfl)
        try simp only [tkA, tkB, tkC]
        refine tk 18 79 (v := ?_) ?_ ?_
        rotate_left
        ·intro w' hSw; clear hSw; go_simp; try (with_reducible rfl)
        try simp only [tkA, tkB, tkC]
        refine tk 19 80 (v := ?_) ?_ ?_
        rotate_left
        ·intro w' hS0; go_simp; try (with_reducible rfl)
        try simp only [tkA, tkB, tkC]
        refine tk 20 81 (v := ?_) ?_ ?_
        rotate_left
        ·intro w' hSw; clear hSw; go_simp; try (with_reducible rfl)
        try simp only [tkA, tkB, tkC]
        refine tk 21 82 (v := ?_) ?_ ?_
        rotate_left
        ·intro w' hSw; clear hSw; go_simp; try (with_reducible rfl)
        try simp only [tkA, tkB, tkC]
        refine tk 22 83 (v := ?_) ?_ ?_
        rotate_left
        ·intro w' hS0; go_simp; try (with_reducible rfl)
        try simp only [tkA, tkB, tkC]
        refine tk 23 84 (v := ?_) ?_ ?_
        rotate_left
        ·intro w' hSw; clear hSw; go_simp; try (with_reducible rfl)
        try simp only [tkA, tkB, tkC]
        refine tk 24 85 (v := ?_) ?_ ?_
        rotate_left
        ·intro w' hSw; clear hSw; go_simp; try (with_reducible rfl)
        try simp only [tkA, tkB, tkC]
        refine tk 25 10 (v := ?_) ?_ ?_
        rotate_left
        ·intro w' hSw; clear hSw; go_simp; try (with_reducible rfl)
        try simp only [tkA, tkB, tkC]
        refine wpAnyH_done (by kernel_rfl) ?_ _
        refine NoPanic.normal ?_
        clear hHeld
        go_wp2_with fail
        go_roundw
        case rel => exact ⟨j + 1, hlj, by go_num, by rw [HJ.out, HB.out]; simp, hv.trans (Up.drew _)⟩
        case measure => simp [intOf]; omega
      ·rw [q2] at HB
       go_wp2_with fail
       refine wp_region_noPanic ?_
       refine wp_region_held_drew (S := fun w' => Up wr w') (by kernel_rfl) (Up.drew wr) (fun hHeld => ?_)
       refine tk 0 61 (v := ?_) ?_ ?_
       rotate_left
       ·intro w' hSw; clear hSw; go_simp; try (with_reducible rfl)
       try simp only [tkA, tkB, tkC]
       refine tk 1 62 (v := ?_) ?_ ?_
       rotate_left
       ·intro w' hSw; clear hSw; go_simp; try (with_reducible rfl)
       try simp only [tkA, tkB, tkC]
       refine tk 2 63 (v := ?_) ?_ ?_
       rotate_left
       ·intro w' hSw; clear hSw; go_simp; try (with_reducible rfl)
       try simp only [tkA, tkB, tkC]
       refine tk 3 64 (v := ?_) ?_ ?_
       rotate_left
       ·intro w' hS0; go_simp; try (with_reducible rfl)
       try simp only [tkA, tkB, tkC]
       refine tk 4 65 (v := ?_) ?_ ?_
       rotate_left
       ·intro w' hSw; clear hSw; go_simp; try (with_reducible rfl)
       try simp only [tkA, tkB, tkC]
       refine tk 5 66 (v := ?_) ?_ ?_
       rotate_left
       ·intro w' hSw; clear hSw; go_simp; try (with_reducible rfl)
       try simp only [tkA, tkB, tkC]
       refine held_skip 6 rfl (by kernel_rfl) (by kernel_rfl) (by kernel_rfl) (fun _ _ _ h => h) (by rfl) (by assumption) ?_
       change wpAnyH _ _ _ _ _ _ _ (Act.put _ (some 67) _) _
       try simp only [Act.put, tkA, tkB, tkC]
       refine held_skip 7 rfl (by kernel_rfl) (by kernel_rfl) (by kernel_rfl) (fun _ _ _ h => h) (by rfl) (by assumption) ?_
       change wpAnyH _ _ _ _ _ _ _ (Act.put _ (some 68) _) _
       try simp only [Act.put, tkA, tkB, tkC]
       refine held_skip 8 rfl (by kernel_rfl) (by kernel_rfl) (by kernel_rfl) (fun _ _ _ h => h) (by rfl) (by assumption) ?_
       change wpAnyH _ _ _ _ _ _ _ (Act.put _ (some 69) _) _
       try simp only [Act.put, tkA, tkB, tkC]
       refine held_skip 9 rfl (by kernel_rfl) (by kernel_rfl) (by kernel_rfl) (fun _ _ _ h => h) (by rfl) (by assumption) ?_
       change wpAnyH _ _ _ _ _ _ _ (Act.put _ (some 70) _) _
       try simp only [Act.put, tkA, tkB, tkC]
       refine tk 10 71 (v := ?_) ?_ ?_
       rotate_left
       ·intro w' hSw; clear hSw; go_simp; try (with_reducible rfl)
       try simp only [tkA, tkB, tkC]
       refine tk 11 72 (v := ?_) ?_ ?_
       rotate_left
       ·intro w' hSw; clear hSw; go_simp; try (with_reducible rfl)
       try simp only [tkA, tkB, tkC]
       refine tk 12 73 (v := ?_) ?_ ?_
       rotate_left
       ·intro w' hSw; clear hSw; go_simp; try (with_reducible rfl)
       try simp only [tkA, tkB, tkC]
       refine tk 13 74 (v := ?_) ?_ ?_
       rotate_left
       ·intro w' hSw; clear hSw; go_simp; try (with_reducible rfl)
       try simp only [tkA, tkB, tkC]
       refine tk 14 75 (v := ?_) ?_ ?_
       rotate_left
       ·intro w' hSw; clear hSw; go_simp; try (with_reducible rfl)
       try simp only [tkA, tkB, tkC]
       refine tk 15 76 (v := ?_) ?_ ?_
       rotate_left
       ·intro w' hS0; go_simp; try (with_reducible rfl)
       try simp only [tkA, tkB, tkC]
       refine tk 16 77 (v := ?_) ?_ ?_
       rotate_left
       ·intro w' hS0; go_simp; try (with_reducible rfl)
       try simp only [tkA, tkB, tkC]
       refine tk 17 78 (v := ?_) ?_ ?_
       rotate_left
       ·intro w' hSw; clear hSw; go_simp; try (with_reducible rfl)
       try simp only [tkA, tkB, tkC]
       refine tk 18 79 (v := ?_) ?_ ?_
       rotate_left
       ·intro w' hSw; clear hSw; go_simp; try (with_reducible rfl)
       try simp only [tkA, tkB, tkC]
       refine tk 19 80 (v := ?_) ?_ ?_
       rotate_left
       ·intro w' hS0; go_simp; try (with_reducible rfl)
       try simp only [tkA, tkB, tkC]
       refine tk 20 81 (v := ?_) ?_ ?_
       rotate_left
       ·intro w' hSw; clear hSw; go_simp; try (with_reducible rfl)
       try simp only [tkA, tkB, tkC]
       refine tk 21 82 (v := ?_) ?_ ?_
       rotate_left
       ·intro w' hSw; clear hSw; go_simp; try (with_reducible rfl)
       try simp only [tkA, tkB, tkC]
       refine tk 22 83 (v := ?_) ?_ ?_
       rotate_left
       ·intro w' hS0; go_simp; try (with_reducible rfl)
       try simp only [tkA, tkB, tkC]
       refine tk 23 84 (v := ?_) ?_ ?_
       rotate_left
       ·intro w' hSw; clear hSw; go_simp; try (with_reducible rfl)
       try simp only [tkA, tkB, tkC]
       refine tk 24 85 (v := ?_) ?_ ?_
       rotate_left
       ·intro w' hSw; clear hSw; go_simp; try (with_reducible rfl)
       try simp only [tkA, tkB, tkC]
       refine tk 25 10 (v := ?_) ?_ ?_
       rotate_left
       ·intro w' hSw; clear hSw; go_simp; try (with_reducible rfl)
       try simp only [tkA, tkB, tkC]
       refine wpAnyH_done (by kernel_rfl) ?_ _
       refine NoPanic.normal ?_
       clear hHeld
       go_wp2_with fail
       go_roundw
       case rel => exact ⟨j + 1, hlj, by go_num, by rw [HJ.out, HB.out]; simp, hv.trans (Up.drew _)⟩
       case measure => simp [intOf]; omega
     ·rw [hq] at HJ
      clear hq
      go_wp2_with fail
      refine wp_region_noPanic ?_
      refine wp_region_held_drew (S := fun w' => Up wr w') (by kernel_rfl) (Up.drew wr) (fun hHeld => ?_)
      refine tk 0 61 (v := ?_) ?_ ?_
      rotate_left
      ·intro w' hSw; clear hSw; go_simp; try (with_reducible rfl)
      try simp only [tkA, tkB, tkC]
      refine tk 1 62 (v := ?_) ?_ ?_
      rotate_left
      ·intro w' hSw; clear hSw; go_simp; try (with_reducible rfl)
      try simp only [tkA, tkB, tkC]
      refine held_skip 2 rfl (by kernel_rfl) (by kernel_rfl) (by kernel_rfl) (fun _ _ _ h => h) (by rfl) (by assumption) ?_
      change wpAnyH _ _ _ _ _ _ _ (Act.put _ (some 63) _) _
      try simp only [Act.put, tkA, tkB, tkC]
      refine held_skip 3 rfl (by kernel_rfl) (by kernel_rfl) (by kernel_rfl) (fun _ _ _ h => h) (by rfl) (by assumption) ?_
      change wpAnyH _ _ _ _ _ _ _ (Act.put _ (some 64) _) _
      try simp only [Act.put, tkA, tkB, tkC]
      refine held_skip 4 rfl (by kernel_rfl) (by kernel_rfl) (by kernel_rfl) (fun _ _ _ h => h) (by rfl) (by assumption) ?_
      change wpAnyH _ _ _ _ _ _ _ (Act.put _ (some 65) _) _
      try simp only [Act.put, tkA, tkB, tkC]
      refine held_skip 5 rfl (by kernel_rfl) (by kernel_rfl) (by kernel_rfl) (fun _ _ _ h => h) (by rfl) (by assumption) ?_
      change wpAnyH _ _ _ _ _ _ _ (Act.put _ (some 66) _) _
      try simp only [Act.put, tkA, tkB, tkC]
      refine held_skip 6 rfl (by kernel_rfl) (by kernel_rfl) (by kernel_rfl) (fun _ _ _ h => h) (by rfl) (by assumption) ?_
      change wpAnyH _ _ _ _ _ _ _ (Act.put _ (some 67) _) _
      try simp only [Act.put, tkA, tkB, tkC]
      refine held_skip 7 rfl (by kernel_rfl) (by kernel_rfl) (by kernel_rfl) (fun _ _ _ h => h) (by rfl) (by assumption) ?_
      change wpAnyH _ _ _ _ _ _ _ (Act.put _ (some 68) _) _
      try simp only [Act.put, tkA, tkB, tkC]
      refine held_skip 8 rfl (by kernel_rfl) (by kernel_rfl) (by kernel_rfl) (fun _ _ _ h => h) (by rfl) (by assumption) ?_
      change wpAnyH _ _ _ _ _ _ _ (Act.put _ (some 69) _) _
      try simp only [Act.put, tkA, tkB, tkC]
      refine held_skip 9 rfl (by kernel_rfl) (by kernel_rfl) (by kernel_rfl) (fun _ _ _ h => h) (by rfl) (by assumption) ?_
      change wpAnyH _ _ _ _ _ _ _ (Act.put _ (some 70) _) _
      try simp only [Act.put, tkA, tkB, tkC]
      refine held_skip 10 rfl (by kernel_rfl) (by kernel_rfl) (by kernel_rfl) (fun _ _ _ h => h) (by rfl) (by assumption) ?_
      change wpAnyH _ _ _ _ _ _ _ (Act.put _ (some 71) _) _
      try simp only [Act.put, tkA, tkB, tkC]
      refine held_skip 11 rfl (by kernel_rfl) (by kernel_rfl) (by kernel_rfl) (fun _ _ _ h => h) (by rfl) (by assumption) ?_
      change wpAnyH _ _ _ _ _ _ _ (Act.put _ (some 72) _) _
      try simp only [Act.put, tkA, tkB, tkC]
      refine held_skip 12 rfl (by kernel_rfl) (by kernel_rfl) (by kernel_rfl) (fun _ _ _ h => h) (by rfl) (by assumption) ?_
      change wpAnyH _ _ _ _ _ _ _ (Act.put _ (some 73) _) _
      try simp only [Act.put, tkA, tkB, tkC]
      refine held_skip 13 rfl (by kernel_rfl) (by kernel_rfl) (by kernel_rfl) (fun _ _ _ h => h) (by rfl) (by assumption) ?_
      change wpAnyH _ _ _ _ _ _ _ (Act.put _ (some 74) _) _
      try simp only [Act.put, tkA, tkB, tkC]
      refine held_skip 14 rfl (by kernel_rfl) (by kernel_rfl) (by kernel_rfl) (fun _ _ _ h => h) (by rfl) (by assumption) ?_
      change wpAnyH _ _ _ _ _ _ _ (Act.put _ (some 75) _) _
      try simp only [Act.put, tkA, tkB, tkC]
      refine held_skip 15 rfl (by kernel_rfl) (by kernel_rfl) (by kernel_rfl) (fun _ _ _ h => h) (by rfl) (by assumption) ?_
      change wpAnyH _ _ _ _ _ _ _ (Act.put _ (some 76) _) _
      try simp only [Act.put, tkA, tkB, tkC]
      refine held_skip 16 rfl (by kernel_rfl) (by kernel_rfl) (by kernel_rfl) (fun _ _ _ h => h) (by rfl) (by assumption) ?_
      change wpAnyH _ _ _ _ _ _ _ (Act.put _ (some 77) _) _
      try simp only [Act.put, tkA, tkB, tkC]
      refine held_skip 17 rfl (by kernel_rfl) (by kernel_rfl) (by kernel_rfl) (fun _ _ _ h => h) (by rfl) (by assumption) ?_
      change wpAnyH _ _ _ _ _ _ _ (Act.put _ (some 78) _) _
      try simp only [Act.put, tkA, tkB, tkC]
      refine held_skip 18 rfl (by kernel_rfl) (by kernel_rfl) (by kernel_rfl) (fun _ _ _ h => h) (by rfl) (by assumption) ?_
      change wpAnyH _ _ _ _ _ _ _ (Act.put _ (some 79) _) _
      try simp only [Act.put, tkA, tkB, tkC]
      refine held_skip 19 rfl (by kernel_rfl) (by kernel_rfl) (by kernel_rfl) (fun _ _ _ h => h) (by rfl) (by assumption) ?_
      change wpAnyH _ _ _ _ _ _ _ (Act.put _ (some 80) _) _
      try simp only [Act.put, tkA, tkB, tkC]
      refine held_skip 20 rfl (by kernel_rfl) (by kernel_rfl) (by kernel_rfl) (fun _ _ _ h => h) (by rfl) (by assumption) ?_
      change wpAnyH _ _ _ _ _ _ _ (Act.put _ (some 81) _) _
      try simp only [Act.put, tkA, tkB, tkC]
      refine held_skip 21 rfl (by kernel_rfl) (by kernel_rfl) (by kernel_rfl) (fun _ _ _ h => h) (by rfl) (by assumption) ?_
      change wpAnyH _ _ _ _ _ _ _ (Act.put _ (some 82) _) _
      try simp only [Act.put, tkA, tkB, tkC]
      refine held_skip 22 rfl (by kernel_rfl) (by kernel_rfl) (by kernel_rfl) (fun _ _ _ h => h) (by rfl) (by assumption) ?_
      change wpAnyH _ _ _ _ _ _ _ (Act.put _ (some 83) _) _
      try simp only [Act.put, tkA, tkB, tkC]
      refine held_skip 23 rfl (by kernel_rfl) (by kernel_rfl) (by kernel_rfl) (fun _ _ _ h => h) (by rfl) (by assumption) ?_
      change wpAnyH _ _ _ _ _ _ _ (Act.put _ (some 84) _) _
      try simp only [Act.put, tkA, tkB, tkC]
      refine tk 24 85 (v := ?_) ?_ ?_
      rotate_left
      ·intro w' hSw; clear hSw; go_simp; try (with_reducible rfl)
      try simp only [tkA, tkB, tkC]
      refine tk 25 10 (v := ?_) ?_ ?_
      rotate_left
      ·intro w' hSw; clear hSw; go_simp; try (with_reducible rfl)
      try simp only [tkA, tkB, tkC]
      refine wpAnyH_done (by kernel_rfl) ?_ _
      refine NoPanic.normal ?_
      clear hHeld
      go_wp2_with fail
      go_roundw
      case rel => exact ⟨j + 1, hlj, by go_num, by rw [HJ.out, Bool.true_or], hv.trans (Up.drew _)⟩
      case measure => simp [intOf]; omega
    ·obtain rfl : j = 3 := by omega
     rw [HF3.out]
     clear HF3
     rcases hq : fnd3 pre o (x, y) with _ | _
     ·rw [hq] at HD
      have HA : Hid (o.ov.all (fnd3 pre o) = false) := by rw [Hid, hK.out, HD.out]; rfl
      clear hq
      go_wp2_with fail
      go_ret
      unfold RetOne
      have HE := Lib.hid (HE.out.trans (if_neg (by rw [HA.out]; decide)))
      exact ⟨by rw [HE.out]; rfl, fun h => absurd (h.symm.trans HE.out) (by decide), ((((Kp3.of HU0.out.b).trans (Kp3.of HU1.out.b)).trans (Kp3.of HU2.out.b)).trans (Kp3.of HU3.out.b)).trans ((Kp3.of HUk.out.b).trans (Kp3.of hv.b))⟩
     ·rw [hq] at HD
      have HA : Hid (o.ov.all (fnd3 pre o) = (o.ov.drop (k + 1)).all (fnd3 pre o)) := by rw [Hid, hK.out, HD.out]; rfl
      clear hq
      go_wp2_with fail
      go_roundw
      case rel => exact ⟨k + 1, hlt, by go_num, HA, HUk.out.trans hv⟩
      case measure => simp [intOf]; omega
  ·obtain rfl : k = o.ov.length := by omega
   have HA : Hid (o.ov.all (fnd3 pre o) = true) := by rw [Hid, hK.out, List.drop_length]; rfl
   have HE := Lib.hid (HE.out.trans (if_pos HA.out))
   have hBz := hB3.up hu
   have hgz := hg3.up hu
   have hAz := hA3.below hu.b hA3.lt
   have hWz := hW3.below hu.b hW3.lt
   have hFz := hF3.below hu.b
   have HUz := Lib.hid hu
   have hl3 := Lib.hid (lastAdd_snoc pre o)
   have h3 := Lib.hid (wsJ_three pre o)
   have hz := Lib.hid (wsJ_zero pre o)
   clear hB3 hg3 hA3 hW3 hF3 hR3 hu hK HA
   have co0 : wr.cell? ⟨w.heap.size, 0, none⟩ = some (.int .i64 o.ac) := by rw [hBz.cell]; rfl
   have co1 : wr.cell? ⟨w.heap.size, 1, none⟩ = some (.int .i64 o.ad) := by rw [hBz.cell]; rfl
   have cg2 : wr.cell? ⟨G, 2, none⟩ = some (.int .i64 lc) := by rw [hgz.cell]; rfl
   have cg3 : wr.cell? ⟨G, 3, none⟩ = some (.int .i64 ld) := by rw [hgz.cell]; rfl
   have fg2 := hgz.free 2
   have fg3 := hgz.free 3
   have gG : wr.grownBy ((wr.setCell ⟨G, 2, none⟩ (.int .i64 o.ac)).setCell ⟨G, 3, none⟩ (.int .i64 o.ad)) (some G) := (grown_set wr G 2 _).trans (grown_set _ G 3 _)
   have nB : some w.heap.size ≠ some G := by
    intro e
    have e := Option.some.inj e
    have h1 := hBz
    rw [e] at h1
    have := h1.symm.trans hgz
    simp at this
   have nF : (0 : Nat) ≠ G := by
    intro e
    have h1 := hFz.f0
    have h2 := hgz.cell 0
    rw [← e] at h2
    rw [h2] at h1
    simp at h1
   have hg3 : Blk ((wr.setCell ⟨G, 2, none⟩ (.int .i64 o.ac)).setCell ⟨G, 3, none⟩ (.int .i64 o.ad)) G 84 #[.map (some Ma), .map (some Mw), .int .i64 o.ac, .int .i64 o.ad] := (hgz.set 2 _).set 3 _
   have hB3 := hBz.kept gG nB
   have hA3 := hAz.kept gG (by simpa using ga.symm)
   have hW3 := hWz.kept gG (by simpa using gw.symm)
   have hF3 := hFz.kept gG (by simpa using nF)
   have co2' : ((wr.setCell ⟨G, 2, none⟩ (.int .i64 o.ac)).setCell ⟨G, 3, none⟩ (.int .i64 o.ad)).cell? ⟨w.heap.size, 2, none⟩ = some (.int .i64 o.kd) := by rw [hB3.cell]; rfl
   have cf0 := hF3.f0
   have cf1 := hF3.f1
   have cf2 := hF3.f2
   have GG := Lib.hid gG
   clear gG hg3 hB3 hA3 hW3 hF3
   go_wp2_with fail
   have hg3 : Blk ((wr.setCell ⟨G, 2, none⟩ (.int .i64 o.ac)).setCell ⟨G, 3, none⟩ (.int .i64 o.ad)) G 84 #[.map (some Ma), .map (some Mw), .int .i64 o.ac, .int .i64 o.ad] := (hgz.set 2 _).set 3 _
   have hB3 := hBz.kept GG.out nB
   have hA3 := hAz.kept GG.out (by simpa using ga.symm)
   have hW3 := hWz.kept GG.out (by simpa using gw.symm)
   have hF3 := hFz.kept GG.out (by simpa using nF)
   clear co0 co1 cg2 cg3 fg2 fg3 hBz hgz hAz hWz hFz co2' cf0 cf1 cf2
   have HU4 := Lib.hid (Kp3.grown (Ma := Ma) (Mw := Mw) GG.out (.inl rfl))
   clear GG
   generalize ((wr.setCell ⟨G, 2, none⟩ (.int .i64 o.ac)).setCell ⟨G, 3, none⟩ (.int .i64 o.ad)) = wz at *
   have hg4 := hg3
   have hB4 := hB3
   have hW4 := hW3
   have hF4 := hF3
   have hMA := hA3
   clear hg3 hB3 hW3 hF3 hA3
   have nFW : (0 : Nat) ≠ Mw := by
    intro e
    obtain ⟨D, ⟨es, ck, h1, -⟩, -⟩ := hW4
    have h2 := hF4.f0
    unfold World.cell? at h2
    simp only [e, h1] at h2
    cases h2
   have nBW : some w.heap.size ≠ some Mw := by
    intro e
    have e := Option.some.inj e
    obtain ⟨D, ⟨es, ck, h1, -⟩, -⟩ := hW4
    rw [← e] at h1
    have := h1.symm.trans hB4
    simp at this
   go_loopw [108] (OneRel wz G Ma Mw nw w.heap.size pre o (#[.int .i64 o.ac, .int .i64 o.ad, .int .i64 o.kd, .int .i64 o.rc, .int .i64 o.id, .int .i64 o.ti, .int .i64 o.pa, .int .i64 o.sf, .int .i64 o.st, .int .i64 o.rk, .string ⟨o.nt.toArray⟩, .int .i64 o.se, .int .i64 o.nn, .string ⟨o.tx.toArray⟩, .slice Ao o.ov.length co])) (fun i _ => 3 - (intOf i).toNat)
   case atStart => exact ⟨0, by omega, rfl, hB4, ⟨rfl, rfl, rfl, Nat.le_refl _, fun _ _ _ _ _ => rfl⟩, fW, hW4, by rw [Hid]; intro c d n q; rw [hz.out]; exact HfW.out c d n q⟩
   case round =>
    obtain ⟨j, hj3, rfl, hBj, hKj, fj, hWj, hfj⟩ := hrel
    by_cases hlt : j < 3
    ·have t1 : decide ((j : Int) < 3) = true := decide_eq_true (by omega)
     have t2 : (j : Int) < 3 := by omega
     have t3 : 0 ≤ (j : Int) := by omega
     have hidx := idx3 j hlt
     have hgj := hg4.kp hKj gw gw gw
     have hnB : w.heap.size ≠ Mw := by simpa using nBW
     have m0 : wr.cell? ⟨w.heap.size, 0, none⟩ = some (.int .i64 o.ac) := by rw [hBj.cell]; rfl
     have m1 : wr.cell? ⟨w.heap.size, 1, none⟩ = some (.int .i64 o.ad) := by rw [hBj.cell]; rfl
     have m2 : wr.cell? ⟨w.heap.size, 2, none⟩ = some (.int .i64 o.kd) := by rw [hBj.cell]; rfl
     have m3 : wr.cell? ⟨w.heap.size, 3, none⟩ = some (.int .i64 o.rc) := by rw [hBj.cell]; rfl
     have m4 : wr.cell? ⟨w.heap.size, 4, none⟩ = some (.int .i64 o.id) := by rw [hBj.cell]; rfl
     have m5 : wr.cell? ⟨w.heap.size, 5, none⟩ = some (.int .i64 o.ti) := by rw [hBj.cell]; rfl
     have m6 : wr.cell? ⟨w.heap.size, 6, none⟩ = some (.int .i64 o.pa) := by rw [hBj.cell]; rfl
     have m7 : wr.cell? ⟨w.heap.size, 7, none⟩ = some (.int .i64 o.sf) := by rw [hBj.cell]; rfl
     have m8 : wr.cell? ⟨w.heap.size, 8, none⟩ = some (.int .i64 o.st) := by rw [hBj.cell]; rfl
     have m9 : wr.cell? ⟨w.heap.size, 9, none⟩ = some (.int .i64 o.rk) := by rw [hBj.cell]; rfl
     have m10 : wr.cell? ⟨w.heap.size, 10, none⟩ = some (.string ⟨o.nt.toArray⟩) := by rw [hBj.cell]; rfl
     have m11 : wr.cell? ⟨w.heap.size, 11, none⟩ = some (.int .i64 o.se) := by rw [hBj.cell]; rfl
     have m12 : wr.cell? ⟨w.heap.size, 12, none⟩ = some (.int .i64 o.nn) := by rw [hBj.cell]; rfl
     have m13 : wr.cell? ⟨w.heap.size, 13, none⟩ = some (.string ⟨o.tx.toArray⟩) := by rw [hBj.cell]; rfl
     have m14 : wr.cell? ⟨w.heap.size, 14, none⟩ = some (.slice Ao o.ov.length co) := by rw [hBj.cell]; rfl
     rcases hw : wrsB o o.id j with _ | _
     ·have kw := fun w' => kW w' j
      rw [hw] at kw
      have hw := Lib.hid hw
      go_wp2_with fail
      refine (kw _).mono ?_
      rintro e w5 ⟨rfl, hb5⟩
      have HB5 := Lib.hid hb5
      clear hb5 kw m0 m1 m2 m3 m4 m5 m6 m7 m8 m9 m10 m11 m12 m13 m14
      go_wp2_with fail
      go_roundw
      case rel => exact ⟨j + 1, hlt, by go_num, hBj.up (Up.of HB5.out), hKj.trans (Kp3.of HB5.out), fj, (hWj.below HB5.out hWj.lt).mono (by omega), by rw [Hid]; intro c d n q; rw [wsJ_skip hw.out]; exact hfj.out c d n q⟩
      case measure => simp [intOf]; omega
     ·have kw := fun w' => kW w' j
      rw [hw] at kw
      have hw := Lib.hid hw
      go_wp2_with fail
      refine (kw _).mono ?_
      rintro e w5 ⟨rfl, hb5⟩
      have hu5 := Up.of hb5
      have hMW2 := hWj.below hb5 hWj.lt
      have hg5 := hgj.up hu5
      have hB5 := hBj.up hu5
      have HB5 := Lib.hid hb5
      clear hb5 kw hu5 m0 m1 m2 m3 m4 m5 m6 m7 m8 m9 m10 m11 m12 m13 m14
      have sG1 : ∀ w', w5.grownBy w' (some Mw) → w'.cell? ⟨G, 1, none⟩ = some (.map (some Mw)) := fun w' g => by rw [(hg5.kept g (by simpa using gw)).cell]; rfl
      have sB0 : ∀ w', w5.grownBy w' (some Mw) → w'.cell? ⟨w.heap.size, 0, none⟩ = some (.int .i64 o.ac) := fun w' g => by rw [(hB5.kept g nBW).cell]; rfl
      have sB1 : ∀ w', w5.grownBy w' (some Mw) → w'.cell? ⟨w.heap.size, 1, none⟩ = some (.int .i64 o.ad) := fun w' g => by rw [(hB5.kept g nBW).cell]; rfl
      have sB4 : ∀ w', w5.grownBy w' (some Mw) → w'.cell? ⟨w.heap.size, 4, none⟩ = some (.int .i64 o.id) := fun w' g => by rw [(hB5.kept g nBW).cell]; rfl
      obtain ⟨kQ, hkW⟩ := keyW (c := o.ac) (d := o.ad) (n := o.id) (f := (j : Int)) hBd.out.ac hBd.out.ad hBd.out.id ⟨by omega, by omega⟩
      have hvW : plainElem (H := Unit) Tryz.prog 4 (.bool true) = some (.lit (.bool true), []) := plainElem_bool Tryz.underlying4
      go_wp2_with fail
      refine wp_region_noPanic ?_
      refine wp_region_held_drew (S := fun w' => w5.grownBy w' (some Mw)) (by kernel_rfl) (grown_drewN w5 1 _) (fun hHeld => ?_)
      refine tk 0 117 (v := ?_) ?_ ?_
      rotate_left
      ·intro w' hSw; clear hSw; go_simp; try (with_reducible rfl)
      try simp only [tkA, tkB, tkC]
      refine tk 1 118 (v := ?_) ?_ ?_
      rotate_left
      ·intro w' hSw; clear hSw; go_simp; try (with_reducible rfl)
      try simp only [tkA, tkB, tkC]
      refine tk 2 119 (v := ?_) ?_ ?_
      rotate_left
      ·intro w' hSw; clear hSw; go_simp; try (with_reducible rfl)
      try simp only [tkA, tkB, tkC]
      refine tk 3 120 (v := ?_) ?_ ?_
      rotate_left
      ·intro w' hS0; go_simp; try (with_reducible rfl)
      try simp only [tkA, tkB, tkC]
      refine tk 4 121 (v := ?_) ?_ ?_
      rotate_left
      ·intro w' hSw; clear hSw; go_simp; try (with_reducible rfl)
      try simp only [tkA, tkB, tkC]
      refine tk 5 122 (v := ?_) ?_ ?_
      rotate_left
      ·intro w' hS0; go_simp; try (with_reducible rfl)
      try simp only [tkA, tkB, tkC]
      refine tk 6 123 (v := ?_) ?_ ?_
      rotate_left
      ·intro w' hSw; clear hSw; go_simp; try (with_reducible rfl)
      try simp only [tkA, tkB, tkC]
      refine tk 7 124 (v := ?_) ?_ ?_
      rotate_left
      ·intro w' hSw; clear hSw; go_simp; try (with_reducible rfl)
      try simp only [tkA, tkB, tkC]
      refine tk 8 125 (v := ?_) ?_ ?_
      rotate_left
      ·intro w' hS0; go_simp; try (with_reducible rfl)
      try simp only [tkA, tkB, tkC]
      refine tk 9 126 (v := ?_) ?_ ?_
      rotate_left
      ·intro w' hSw; clear hSw; go_simp; try (with_reducible rfl)
      try simp only [tkA, tkB, tkC]
      refine tk 10 127 (v := ?_) ?_ ?_
      rotate_left
      ·intro w' hSw; clear hSw; go_simp; try (with_reducible rfl)
      try simp only [tkA, tkB, tkC]
      refine wpAnyH_ready (rs := [11]) (by kernel_rfl) (by simp) ?_
      refine AllReadyH.cons rfl (fun K hK => ?_) AllReadyH.nil
      refine wp_mapUpdate_F _ _ _ 82 rfl 113 4 keyedW Tryz.underlying82 Mw (nw + j) fj (by go_simp; first | done | rfl) (hMW2.drew) (by unfold maxLen; omega) (wrV o.ac o.ad o.id j) (.bool true) _ (by go_simp; first | done | rfl) (by go_simp; first | done | rfl) hkW _ hvW ?_
      intro W hMW' gW
      have gWW := hHeld.trans gW
      refine hK.out _ _ (hHeld.trans gW) (fun hHeld => ?_)
      clear hK K
      try simp only [Act.put, tkA, tkB, tkC]
      refine wpAnyH_done (by kernel_rfl) ?_ _
      refine NoPanic.normal ?_
      clear hHeld
      have hB6 := hB5.kept gWW nBW
      have GW := Lib.hid gWW
      clear sG1 sB0 sB1 sB4 hkW hvW gW gWW
      go_wp2_with fail
      go_roundw
      case rel => exact ⟨j + 1, hlt, by go_num, hB6, (hKj.trans (Kp3.of HB5.out)).trans (Kp3.grown GW.out (.inl rfl)), _, hMW', by rw [Hid]; exact wsJ_step hw.out hfj.out⟩
      case measure => simp [intOf]; omega
    ·obtain rfl : j = 3 := by omega
     go_wp2_with fail
     go_ret
     have hgj := hg4.kp hKj gw gw gw
     unfold RetOne
     refine ⟨by rw [HE.out]; rfl, fun _ => ⟨by rw [lastS_snoc]; exact hgj, ga, gw, aw, ⟨_, (hMA.block (hKj.block Ma hMA.lt aw aw aw)).mono (by omega), fun id => ?_⟩, fj, hWj, fun c d n q => by rw [hfj.out, h3.out]⟩, ?_⟩
     ·rw [hl3.out]
      unfold isAdd
      rw [k0, HfA.out, Bool.false_and]
      rfl
     ·exact (((((Kp3.of HU0.out.b).trans (Kp3.of HU1.out.b)).trans (Kp3.of HU2.out.b)).trans (Kp3.of HU3.out.b)).trans (Kp3.of HUz.out.b)).trans (HU4.out.trans hKj.weak)
theorem oneSpec (pre : List OP) (o : OP) : OneSpec pre o := by
 intro w G Ma Mw na nw Ao co hst bd hr hl hT hF hn hm
 by_cases h0 : checkE o = 0
 ·rcases hless : lessB (lastS pre).1 (lastS pre).2 o.ac o.ad with _ | _
  ·have e : oneX lastAdd pre o = 10 := by unfold oneX; rw [if_pos h0, hless]; rfl
   unfold RetOne
   rw [e]
   exact (one_order w G Ma Mw na nw pre o Ao co hst bd hr hl hT hF h0 hless hn hm).mono fun _ _ ⟨a, b⟩ => ⟨a, fun h => absurd h (by decide), b⟩
  ·by_cases hk : o.kd = 0
   ·obtain ⟨-, hv⟩ := check_add h0 hk
    exact oneSpec_add h0 hk hv hless w G Ma Mw na nw Ao co hst bd hr hl hT hF hn hm
   ·rcases hadd : addOk lastAdd pre o with _ | _
    ·have e : oneX lastAdd pre o = 9 := by unfold oneX; rw [if_pos h0, hless, hadd]; rfl
     unfold RetOne
     rw [e]
     exact (one_none w G Ma Mw na nw pre o Ao co hst bd hr hl hT hF h0 hless hk hadd hn hm).mono fun _ _ ⟨a, b⟩ => ⟨a, fun h => absurd h (by decide), b⟩
    ·exact one_else w G Ma Mw na nw pre o Ao co hst bd hr hl hT hF h0 hless hk hadd hn hm
 ·have e : oneX lastAdd pre o = checkE o := by unfold oneX; rw [if_neg h0]
  unfold RetOne
  rw [e]
  exact (one_bad w G Ma Mw na nw pre o Ao co hst bd hr hl hT hF h0 hn hm).mono fun _ _ ⟨a, b⟩ => ⟨a, fun h => absurd h h0, b⟩
end Go.Proofs.YtcomeidcmcegfaaGreatDoor
