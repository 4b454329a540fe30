/-
  The walks of New of the reference's layer 50 and of seen and Merge (of a new replica) of its layer 51. Conditions: the operations are readable, at most a hundred million.
  The walk of Restore of the reference's layer 53. Conditions: fewer than ten million bytes.
  The walk of JournalRestore of the statements of layer 53. Conditions: the tables lie as their initialisers lay them.
-/
import Derived.Test.YtcomeidcmcegfaaGreatDoorZY
import Derived.Test.YtcomeidcmcegfaaGreatDoorRestG
import Derived.Test.YtcomeidcmcegfaaGreatDoorZS
namespace Go.Proofs.YtcomeidcmcegfaaGreatDoor
open Go.RowKit
set_option linter.unusedVariables false
set_option linter.unusedSimpArgs false
set_option maxHeartbeats 2000000 in
theorem rnew_yes (w : World) (dev : Int) (h1 : 1 ≤ dev) (h2 : dev ≤ 15) : Calls Tryz.prog 16 #[.int .i64 dev] w (RetRep dev joinZ [] 0 w) := by
 have t1 : decide (dev < 1) = false := decide_eq_false (by omega)
 have t2 : decide (15 < dev) = false := decide_eq_false (by omega)
 have hR := Blk.new w 27 #[.int .i64 0, .slice none 0 0, .slice none 0 0]
 have k := rjoin_any (w.alloc (.cells #[.int .i64 0, .slice none 0 0, .slice none 0 0] 27)) none 0 [] (Rd.nil _ _) (by decide) none 0 [] (Rd.nil _ _) (by decide)
 have k : Calls Tryz.prog 29 #[.slice none 0 0, .slice none 0 0] (w.alloc (.cells #[.int .i64 0, .slice none 0 0, .slice none 0 0] 27)) (RetInts joinZ (w.alloc (.cells #[.int .i64 0, .slice none 0 0, .slice none 0 0] 27))) := k
 clear h1 h2
 generalize joinZ = Z at *
 go_enter Tryz.func16, Tryz.ntmps16
 go_wp2_with fail
 refine k.mono ?_
 rintro e w2 ⟨A, c, rfl, hown, hb⟩
 have hR2 := hR.up (Up.of hb)
 have c0 : w2.cell? ⟨w.heap.size, 0, none⟩ = some (.int .i64 0) := by rw [hR2.cell]; rfl
 have c1 : w2.cell? ⟨w.heap.size, 1, none⟩ = some (.slice none 0 0) := by rw [hR2.cell]; rfl
 have c2 : w2.cell? ⟨w.heap.size, 2, none⟩ = some (.slice none 0 0) := by rw [hR2.cell]; rfl
 have f0 := hR2.free 0
 have f1 := hR2.free 1
 have f2 := hR2.free 2
 have hf : Far A (Z.map I64) w.heap.size := hown.far (by simp)
 have hcap := hown.form
 have hrd := hown.rd'
 clear k hR
 go_wp2_with fail
 have hb1 := stepB ((Below.refl _ w).alloc (Nat.le_refl _) _) hb
 refine bodyPost_ret (v := .tuple #[.agg #[.int .i64 dev, .slice A Z.length c, .slice none 0 0], .int .i64 0]) (by simp [results, Tryz.results16, go_sem, c0, c1, c2]) rfl ⟨A, c, none, 0, [], rfl, ?_, ?_, OpsRd.nil _ _, rfl, Nat.le_refl _, ?_, hown.fromB (by simp), From.nil _ _⟩
 ·exact ((hrd.set hf 0 _).set hf 1 _).set hf 2 _
 ·obtain ⟨A1, c1, e1, h1, -⟩ := hcap; cases e1; exact h1
 ·exact ((hb1.setCell (p := ⟨w.heap.size, 0, none⟩) (Nat.le_refl _) _).setCell (p := ⟨w.heap.size, 1, none⟩) (Nat.le_refl _) _).setCell (p := ⟨w.heap.size, 2, none⟩) (Nat.le_refl _) _
set_option maxHeartbeats 2000000 in
theorem rnew_no (w : World) (dev : Int) (h1 : ¬ (1 ≤ dev ∧ dev ≤ 15)) : Calls Tryz.prog 16 #[.int .i64 dev] w (RetRep 0 [] [] 1 w) := by
 have hR := Blk.new w 27 #[.int .i64 0, .slice none 0 0, .slice none 0 0]
 have fin : RetRep 0 [] [] 1 w (.returned (.tuple #[.agg #[.int .i64 0, .slice none 0 0, .slice none 0 0], .int .i64 1])) (w.alloc (.cells #[.int .i64 0, .slice none 0 0, .slice none 0 0] 27)) :=
  ⟨none, 0, none, 0, [], rfl, Rd.nil _ _, Nat.le_refl _, OpsRd.nil _ _, rfl, Nat.le_refl _, (Below.refl _ w).alloc (Nat.le_refl _) _, From.nil _ _, From.nil _ _⟩
 have c0 : (w.alloc (.cells #[.int .i64 0, .slice none 0 0, .slice none 0 0] 27)).cell? ⟨w.heap.size, 0, none⟩ = some (.int .i64 0) := by rw [hR.cell]; rfl
 have c1 : (w.alloc (.cells #[.int .i64 0, .slice none 0 0, .slice none 0 0] 27)).cell? ⟨w.heap.size, 1, none⟩ = some (.slice none 0 0) := by rw [hR.cell]; rfl
 have c2 : (w.alloc (.cells #[.int .i64 0, .slice none 0 0, .slice none 0 0] 27)).cell? ⟨w.heap.size, 2, none⟩ = some (.slice none 0 0) := by rw [hR.cell]; rfl
 have f0 := hR.free 0
 have f1 := hR.free 1
 have f2 := hR.free 2
 by_cases h : dev < 1
 ·have t1 : decide (dev < 1) = true := decide_eq_true h
  clear h1 h
  go_enter Tryz.func16, Tryz.ntmps16
  go_wp2_with fail
  exact bodyPost_ret (v := .tuple #[.agg #[.int .i64 0, .slice none 0 0, .slice none 0 0], .int .i64 1]) (by simp [results, Tryz.results16, go_sem, c0, c1, c2]) rfl fin
 ·have t1 : decide (dev < 1) = false := decide_eq_false h
  have t2 : decide (15 < dev) = true := decide_eq_true (by omega)
  clear h1 h
  go_enter Tryz.func16, Tryz.ntmps16
  go_wp2_with fail
  exact bodyPost_ret (v := .tuple #[.agg #[.int .i64 0, .slice none 0 0, .slice none 0 0], .int .i64 1]) (by simp [results, Tryz.results16, go_sem, c0, c1, c2]) rfl fin
theorem Up.trans' {W w w' : World} {g : Nat} (h : Up W w) (k : w.grownBy w' (some g)) (hg : W.heap.size ≤ g) : Up W w' := ⟨h.b.grown k h.b.size (fun j e => by injection e with e; omega)⟩
def SeeR (w : World) (xs : List OX) (vv vi : Value) (wr : World) : Prop := ∃ (k : Nat) (Z : List Int) (A : Option Addr) (c : Nat), k ≤ xs.length ∧ vi = .int .i64 k ∧ vv = .slice A Z.length c ∧ Hid (Z = seenOf ((opL xs).take k)) ∧ Own wr w.heap.size 3 1 (.slice A Z.length c) Z.length (Z.map I64) ∧ Below w.heap.size w wr
set_option maxRecDepth 100000 in
set_option maxHeartbeats 8000000 in
theorem rmseen_any (w : World) (A : Option Addr) (c : Nat) (xs : List OX) (hx : OpsRd w A xs) (hl : xs.length ≤ 100000000) :
 Calls Tryz.prog 35 #[.slice A xs.length c] w (RetInts (seenOf (opL xs)) w) := by
 have kJ : Calls Tryz.prog 29 #[.slice none 0 0, .slice none 0 0] w (RetInts (joinL [] []) w) := rjoin_any w none 0 [] (Rd.nil _ _) (by decide) none 0 [] (Rd.nil _ _) (by decide)
 have H0 : Hid (joinL [] [] = seenOf []) := rfl
 generalize joinL [] [] = Z0 at *
 go_enter Tryz.func35, Tryz.ntmps35
 go_wp2_with fail
 refine kJ.mono ?_
 rintro e w1 ⟨A1, c1, rfl, own1, hb1⟩
 clear kJ
 go_wp2_with fail
 go_loopw [3, 4] (SeeR w xs) (fun _ i _ => xs.length - (intOf i).toNat)
 case atStart => exact ⟨0, Z0, A1, c1, Nat.zero_le _, rfl, rfl, H0, own1, hb1⟩
 case round =>
  obtain ⟨k, Z, A2, c2, hk, rfl, rfl, hZ, own2, hbe⟩ := hrel
  by_cases hlt : k < xs.length
  ·have t1 : decide ((k : Int) < (xs.length : Int)) = true := decide_eq_true (by omega)
   have t2 : (k : Int) < (xs.length : Int) := by omega
   have t3 : 0 ≤ (k : Int) := by omega
   have hlt' : k < (opL xs).length := by rw [opL_len]; exact hlt
   have hS := take_snoc (opL xs) k hlt'
   have h15 : Z.length = 15 := by rw [hZ.out]; exact seen15 _
   obtain ⟨b, off, rfl, hblt, hrg⟩ := (hx.below hbe).range hlt
   simp only [opL_get xs k hlt] at hS
   generalize xs[k] = x at *
   have m0 : wr.cell? ⟨b, off + k * 15, none⟩ = some (.int .i64 x.o.ac) := hrg 0 _ rfl
   have m1 : wr.cell? ⟨b, off + k * 15 + 1, none⟩ = some (.int .i64 x.o.ad) := hrg 1 _ rfl
   have kS := rsee_any wr A2 c2 Z own2.rd' (by omega) x.o.ac x.o.ad
   have HN : Hid (seeL Z x.o.ac x.o.ad = seenOf ((opL xs).take (k + 1))) := by rw [Hid, hS, seenOf_snoc, ← hZ.out]
   generalize seeL Z x.o.ac x.o.ad = Z2 at *
   have hbe' := Lib.hid hbe
   clear hrg hbe hS h15 hlt'
   go_wp2_with fail
   refine kS.mono ?_
   rintro e w9 ⟨A9, c9, rfl, own9, hb9⟩
   have hb9' := Lib.hid hb9
   clear kS hb9
   go_wp2_with fail
   go_roundw
   case rel => exact ⟨k + 1, Z2, A9, c9, hlt, by go_num, rfl, HN.out, own9.lower hbe'.out.size, stepB hbe'.out hb9'.out⟩
   case measure => simp [intOf]; omega
  ·obtain rfl : k = xs.length := by omega
   have t1 : decide ((xs.length : Int) < (xs.length : Int)) = false := by simp
   go_wp2_with fail
   go_ret
   have e1 : Z = seenOf (opL xs) := by
    have h := hZ.out
    rw [← opL_len xs, List.take_length] at h
    exact h
   rw [← e1]
   exact ⟨A2, c2, rfl, own2, hbe⟩
theorem below_set3 {n g : Nat} {w0 w : World} (h : Below n w0 w) (hg : n ≤ g) (a b c : Value) : Below n w0 (((w.setCell ⟨g, 0, none⟩ a).setCell ⟨g, 1, none⟩ b).setCell ⟨g, 2, none⟩ c) :=
 ((h.setCell (p := ⟨g, 0, none⟩) hg a).setCell (p := ⟨g, 1, none⟩) hg b).setCell (p := ⟨g, 2, none⟩) hg c
theorem ret_mrg_no {dev E : Int} {l : List OP} {w w' : World} (h : mrgE dev l = E) (he : E ≠ 0) (hb : Below w.heap.size w w') : RetMrg dev l w (.returned (.tuple #[.agg #[.int .i64 0, .slice none 0 0, .slice none 0 0], .int .i64 E])) w' := by
 have e2 : mrgL dev l = [] := by unfold mrgL; rw [if_neg (by rw [h]; exact he)]
 unfold RetMrg
 rw [e2, h, if_neg he, if_neg he]
 exact ⟨none, 0, none, 0, [], rfl, Rd.nil _ _, Nat.le_refl _, OpsRd.nil _ _, rfl, Nat.le_refl _, hb, From.nil _ _, From.nil _ _⟩
theorem ret_mrg_yes {dev : Int} {l : List OP} {w wb w6 : World} {A9 Ad : Option Addr} {c9 cd g : Nat} {Z : List Int} {zs : List OX} (h1 : refM [] l = some (opL zs)) (h2 : chkE dev (opL zs) (seenOf (opL zs)) = 0) (hZ : seenOf (opL zs) = Z)
 (hB : Blk w6 g 27 #[.int .i64 0, .slice none 0 0, .slice none 0 0]) (hg : w.heap.size < g) (hgb : g < wb.heap.size) (hb : Below w.heap.size w w6) (hwb : w.heap.size ≤ wb.heap.size)
 (hr : Rd w6 A9 (Z.map I64)) (hfr : From A9 (Z.map I64) wb.heap.size) (hc9 : Z.length ≤ c9) (hz : OpsRd w6 Ad zs) (hfz : From Ad (opsC zs) wb.heap.size) (hcd : zs.length ≤ cd) :
 RetMrg dev l w (.returned (.tuple #[.agg #[.int .i64 dev, .slice A9 Z.length c9, .slice Ad zs.length cd], .int .i64 0])) (((w6.setCell ⟨g, 0, none⟩ (.int .i64 dev)).setCell ⟨g, 1, none⟩ (.slice A9 Z.length c9)).setCell ⟨g, 2, none⟩ (.slice Ad zs.length cd)) := by
 have e0 : mrgE dev l = 0 := (mrg_some h1).trans h2
 have e2 : mrgL dev l = opL zs := mrgL_some h1 h2
 unfold RetMrg
 rw [e2, e0, if_pos rfl, if_pos rfl, hZ]
 refine ⟨A9, c9, Ad, cd, zs, rfl, ?_, hc9, ⟨?_, ?_⟩, rfl, hcd, below_set3 hb (Nat.le_of_lt hg) _ _ _, hfr.lower hwb, hfz.lower hwb⟩
 ·exact ((hr.set (hfr.far hgb) 0 _).set (hfr.far hgb) 1 _).set (hfr.far hgb) 2 _
 ·exact ((hz.rd.set (hfz.far hgb) 0 _).set (hfz.far hgb) 1 _).set (hfz.far hgb) 2 _
 ·intro z hz'
  have k := hz.ok z hz'
  have hf := rd_far_rep k.rd hB
  exact ⟨k.bd, ((k.rd.set hf 0 _).set hf 1 _).set hf 2 _, k.cap⟩
def MrgR (wb : World) (xs : List OX) (vo vi : Value) (wr : World) : Prop := ∃ (k : Nat) (zs : List OX) (A : Option Addr) (c : Nat), k ≤ xs.length ∧ vi = .int .i64 k ∧ vo = .slice A zs.length c ∧ zs.length ≤ k ∧ zs.length ≤ c ∧ OpsRd wr A zs ∧ From A (opsC zs) wb.heap.size ∧ Up wb wr ∧ Hid (refM [] (opL xs) = refM (opL zs) ((opL xs).drop k))
set_option maxRecDepth 100000 in
set_option maxHeartbeats 16000000 in
theorem rmerge_any (w : World) (dev : Int) (As : Option Addr) (n cs : Nat) (Ao : Option Addr) (co : Nat) (Ax : Option Addr) (cx : Nat) (xs : List OX) (hx : OpsRd w Ax xs) (hl : xs.length ≤ 100000000) :
 Calls Tryz.prog 18 #[.agg #[.int .i64 dev, .slice As n cs, .slice Ao 0 co], .slice Ax xs.length cx] w (RetMrg dev (opL xs) w) := by
 have hb0 : Up w ((w.alloc (.cells #[.int .i64 dev, .slice As n cs, .slice Ao 0 co] 27)).alloc (.cells #[.int .i64 0, .slice none 0 0, .slice none 0 0] 27)) := (Up.alloc' _ _).trans (Up.alloc' _ _)
 have hBr : Blk ((w.alloc (.cells #[.int .i64 dev, .slice As n cs, .slice Ao 0 co] 27)).alloc (.cells #[.int .i64 0, .slice none 0 0, .slice none 0 0] 27)) w.heap.size 27 #[.int .i64 dev, .slice As n cs, .slice Ao 0 co] := (Blk.new w _ _).up (Up.alloc' _ _)
 have hBz : Blk ((w.alloc (.cells #[.int .i64 dev, .slice As n cs, .slice Ao 0 co] 27)).alloc (.cells #[.int .i64 0, .slice none 0 0, .slice none 0 0] 27)) (w.heap.size + 1) 27 #[.int .i64 0, .slice none 0 0, .slice none 0 0] := by
  have := Blk.new (w.alloc (.cells #[.int .i64 dev, .slice As n cs, .slice Ao 0 co] 27)) 27 #[.int .i64 0, .slice none 0 0, .slice none 0 0]
  rw [World.size_alloc] at this
  exact this
 have HRN := Lib.hid (fun h => mrg_none (dev := dev) (l := opL xs) h)
 have c0 : (((w.alloc (.cells #[.int .i64 dev, .slice As n cs, .slice Ao 0 co] 27)).alloc (.cells #[.int .i64 0, .slice none 0 0, .slice none 0 0] 27))).cell? ⟨w.heap.size, 2, none⟩ = some (.slice Ao 0 co) := by rw [hBr.cell]; rfl
 obtain ⟨wb, hwb⟩ : ∃ x, (w.alloc (.cells #[.int .i64 dev, .slice As n cs, .slice Ao 0 co] 27)).alloc (.cells #[.int .i64 0, .slice none 0 0, .slice none 0 0] 27) = x := ⟨_, rfl⟩
 have HWB := Lib.hid hwb
 clear hwb
 go_enter Tryz.func18, Tryz.ntmps18
 go_wp2_with fail
 have hwb := HWB.out
 rw [hwb] at hb0 hBr hBz c0 ⊢
 clear hwb HWB
 have hx' := hx.below hb0.b
 have HB0 := Lib.hid hb0
 have hz2 := hBz.lt
 clear hx hb0 c0
 go_loopw [6, 7] (MrgR wb xs) (fun _ i _ => xs.length - (intOf i).toNat)
 case atStart => exact ⟨0, [], Ao, co, Nat.zero_le _, rfl, rfl, Nat.le_refl _, Nat.zero_le _, OpsRd.nil _ _, From.nil _ _, Up.refl _, rfl⟩
 case round =>
  obtain ⟨k, zs, Ad, cd, hk, rfl, rfl, hzk, hzc, hz, hfr, hu, hM⟩ := hrel
  by_cases hlt : k < xs.length
  ·have t1 : decide ((k : Int) < (xs.length : Int)) = true := decide_eq_true (by omega)
   have t2 : (k : Int) < (xs.length : Int) := by omega
   have t3 : 0 ≤ (k : Int) := by omega
   have hlt' : k < (opL xs).length := by rw [opL_len]; exact hlt
   have hok := (hx'.below hu.b).ok _ (List.getElem_mem hlt)
   obtain ⟨b, off, rfl, -, hrg⟩ := (hx'.below hu.b).range hlt
   have hMn := Lib.hid (fun h => refM_none hlt' hM.out h)
   have hMh := Lib.hid (fun h h' => refM_has hlt' hM.out h h')
   have hMp := Lib.hid (fun h h' => refM_put hlt' hM.out h h')
   simp only [opL_get xs k hlt] at hMn hMh hMp
   generalize xs[k] = x at *
   have kC := fun w' (u : Up wr w') => rclash_any w' Ad cd zs x.o x.A x.c (hz.below u.b) (by unfold maxLen; omega) (hok.below u.b)
   have kH := fun w' (u : Up wr w') => rhas_any w' Ad cd zs x.o x.A x.c (hz.below u.b) (by unfold maxLen; omega) (hok.below u.b)
   have kP := fun w' (u : Up wr w') => rput_any w' Ad cd zs x.o x.A x.c (hz.below u.b) hzc (by omega) (hok.below u.b)
   unfold opV opC at kC kH kP
   have m0 : wr.cell? ⟨b, off + k * 15, none⟩ = some (.int .i64 x.o.ac) := hrg 0 _ rfl
   have m1 : wr.cell? ⟨b, off + k * 15 + 1, none⟩ = some (.int .i64 x.o.ad) := hrg 1 _ rfl
   have m2 : wr.cell? ⟨b, off + k * 15 + 2, none⟩ = some (.int .i64 x.o.kd) := hrg 2 _ rfl
   have m3 : wr.cell? ⟨b, off + k * 15 + 3, none⟩ = some (.int .i64 x.o.rc) := hrg 3 _ rfl
   have m4 : wr.cell? ⟨b, off + k * 15 + 4, none⟩ = some (.int .i64 x.o.id) := hrg 4 _ rfl
   have m5 : wr.cell? ⟨b, off + k * 15 + 5, none⟩ = some (.int .i64 x.o.ti) := hrg 5 _ rfl
   have m6 : wr.cell? ⟨b, off + k * 15 + 6, none⟩ = some (.int .i64 x.o.pa) := hrg 6 _ rfl
   have m7 : wr.cell? ⟨b, off + k * 15 + 7, none⟩ = some (.int .i64 x.o.sf) := hrg 7 _ rfl
   have m8 : wr.cell? ⟨b, off + k * 15 + 8, none⟩ = some (.int .i64 x.o.st) := hrg 8 _ rfl
   have m9 : wr.cell? ⟨b, off + k * 15 + 9, none⟩ = some (.int .i64 x.o.rk) := hrg 9 _ rfl
   have m10 : wr.cell? ⟨b, off + k * 15 + 10, none⟩ = some (.string ⟨x.o.nt.toArray⟩) := hrg 10 _ rfl
   have m11 : wr.cell? ⟨b, off + k * 15 + 11, none⟩ = some (.int .i64 x.o.se) := hrg 11 _ rfl
   have m12 : wr.cell? ⟨b, off + k * 15 + 12, none⟩ = some (.int .i64 x.o.nn) := hrg 12 _ rfl
   have m13 : wr.cell? ⟨b, off + k * 15 + 13, none⟩ = some (.string ⟨x.o.tx.toArray⟩) := hrg 13 _ rfl
   have m14 : wr.cell? ⟨b, off + k * 15 + 14, none⟩ = some (.slice x.A x.o.ov.length x.c) := hrg 14 _ rfl
   have HU := Lib.hid hu
   have hzb := hBz.up hu
   clear hrg hok
   rcases e1 : clashB (opL zs) x.o with _ | _
   rotate_left
   ·have HN := Lib.hid (HRN.out (hMn.out e1))
    have kC := kC _ (Up.refl _)
    rw [e1] at kC
    clear e1 kH kP hMn hMh hMp hM hz hzb hu
    go_wp2_with fail
    refine kC.mono ?_
    rintro e w3 ⟨rfl, hb3⟩
    have u3 := Lib.hid (HU.out.trans (Up.of hb3))
    have hz3 := hBz.up u3.out
    have z0 : w3.cell? ⟨w.heap.size + 1, 0, none⟩ = some (.int .i64 0) := by rw [hz3.cell]; rfl
    have z1 : w3.cell? ⟨w.heap.size + 1, 1, none⟩ = some (.slice none 0 0) := by rw [hz3.cell]; rfl
    have z2 : w3.cell? ⟨w.heap.size + 1, 2, none⟩ = some (.slice none 0 0) := by rw [hz3.cell]; rfl
    have f0 := hz3.free 0
    have f1 := hz3.free 1
    have f2 := hz3.free 2
    clear kC hb3
    go_wp2_with fail
    exact bodyPost_ret (v := .tuple #[.agg #[.int .i64 0, .slice none 0 0, .slice none 0 0], .int .i64 8]) (by simp [results, Tryz.results18, go_sem, z0, z1, z2]) rfl (ret_mrg_no HN.out (by decide) (below_set3 (HB0.out.trans u3.out).b (Nat.le_succ _) _ _ _))
   have hMh := Lib.hid (fun h' => hMh.out e1 h')
   have hMp := Lib.hid (fun h' => hMp.out e1 h')
   have kC := kC _ (Up.refl _)
   rw [e1] at kC
   clear e1 hMn hM
   rcases e2 : hasB (opL zs) x.o with _ | _
   ·have HP := Lib.hid (hMp.out e2)
    simp only [e2] at kH
    clear e2 hMh hMp hzb
    go_wp2_with fail
    refine kC.mono ?_
    rintro e w3 ⟨rfl, hb3⟩
    have u3 := Up.of hb3
    have kH := kH _ u3
    replace kP := fun w' (u : Up w3 w') => kP w' (u3.trans u)
    have HU3 := Lib.hid (HU.out.trans u3)
    replace m0 := u3.cell m0
    replace m1 := u3.cell m1
    replace m2 := u3.cell m2
    replace m3 := u3.cell m3
    replace m4 := u3.cell m4
    replace m5 := u3.cell m5
    replace m6 := u3.cell m6
    replace m7 := u3.cell m7
    replace m8 := u3.cell m8
    replace m9 := u3.cell m9
    replace m10 := u3.cell m10
    replace m11 := u3.cell m11
    replace m12 := u3.cell m12
    replace m13 := u3.cell m13
    replace m14 := u3.cell m14
    clear kC hb3 u3 hz hu
    go_wp2_with fail
    refine kH.mono ?_
    rintro e w4 ⟨rfl, hb4⟩
    have u4 := Up.of hb4
    have kP := kP _ u4
    have HU4 := Lib.hid (HU3.out.trans u4)
    replace m0 := u4.cell m0
    replace m1 := u4.cell m1
    replace m2 := u4.cell m2
    replace m3 := u4.cell m3
    replace m4 := u4.cell m4
    replace m5 := u4.cell m5
    replace m6 := u4.cell m6
    replace m7 := u4.cell m7
    replace m8 := u4.cell m8
    replace m9 := u4.cell m9
    replace m10 := u4.cell m10
    replace m11 := u4.cell m11
    replace m12 := u4.cell m12
    replace m13 := u4.cell m13
    replace m14 := u4.cell m14
    clear kH hb4 u4
    go_wp2_with fail
    refine kP.mono ?_
    rintro e w5 ⟨A5, ys, c5, rfl, hy5, ho5, hc5, hb5, hf5⟩
    have HU5 := Lib.hid (HU4.out.trans (Up.of hb5))
    have hf5' := Lib.hid (hf5.lower HU4.out.b.size)
    have hyl : ys.length = zs.length + 1 := by
     have h := congrArg List.length hy5
     rw [opL_len, putO_len, opL_len] at h
     exact h
    have HP' := Lib.hid (HP.out.trans (by rw [← hy5]))
    have HYL := Lib.hid hyl
    clear hyl kP hb5 hf5 m0 m1 m2 m3 m4 m5 m6 m7 m8 m9 m10 m11 m12 m13 m14
    go_wp2_with fail
    go_roundw
    case rel => exact ⟨k + 1, ys, A5, c5, hlt, by go_num, rfl, by have := HYL.out; omega, hc5, ho5, hf5'.out, HU5.out, HP'.out⟩
    case measure => simp [intOf]; omega
   ·have HP := Lib.hid (hMh.out e2)
    simp only [e2] at kH
    clear e2 hMh hMp kP hzb
    go_wp2_with fail
    refine kC.mono ?_
    rintro e w3 ⟨rfl, hb3⟩
    have u3 := Up.of hb3
    have kH := kH _ u3
    have HU3 := Lib.hid (HU.out.trans u3)
    replace m0 := u3.cell m0
    replace m1 := u3.cell m1
    replace m2 := u3.cell m2
    replace m3 := u3.cell m3
    replace m4 := u3.cell m4
    replace m5 := u3.cell m5
    replace m6 := u3.cell m6
    replace m7 := u3.cell m7
    replace m8 := u3.cell m8
    replace m9 := u3.cell m9
    replace m10 := u3.cell m10
    replace m11 := u3.cell m11
    replace m12 := u3.cell m12
    replace m13 := u3.cell m13
    replace m14 := u3.cell m14
    have hz3 := Lib.hid (hz.below u3.b)
    clear kC hb3 u3 hz hu
    go_wp2_with fail
    refine kH.mono ?_
    rintro e w4 ⟨rfl, hb4⟩
    have HU4 := Lib.hid (HU3.out.trans (Up.of hb4))
    have hz4 := hz3.out.below hb4
    clear kH hb4 m0 m1 m2 m3 m4 m5 m6 m7 m8 m9 m10 m11 m12 m13 m14
    go_wp2_with fail
    go_roundw
    case rel => exact ⟨k + 1, zs, Ad, cd, hlt, by go_num, rfl, by omega, hzc, hz4, hfr, HU4.out, HP.out⟩
    case measure => simp [intOf]; omega
  ·obtain rfl : k = xs.length := by omega
   have t1 : decide ((xs.length : Int) < (xs.length : Int)) = false := by simp
   have HE := Lib.hid (refM_end (l := opL xs) (acc := opL zs) (by rw [opL_len]; exact hM.out))
   have HU := Lib.hid hu
   have hz15 := seen15 (opL zs)
   have kS := fun w' (u : Up wr w') => rmseen_any w' Ad cd zs (hz.below u.b) (by omega)
   have HC := Lib.hid (mrg_some (dev := dev) HE.out)
   generalize hZq : seenOf (opL zs) = Z at *
   have HZ := Lib.hid hZq
   unfold RetInts at kS
   have hbr := hBr.up hu
   have d0 : ∀ w', Up wr w' → w'.cell? ⟨w.heap.size, 0, none⟩ = some (.int .i64 dev) := fun w' u => by rw [(hbr.up u).cell]; rfl
   have HZ15 := Lib.hid hz15
   clear hM hu hZq hbr hz15
   go_wp2_with fail
   generalize wr = W0 at *
   refine wp_region_noPanic ?_
   refine wp_region_held_drew (S := fun w' => Up W0 w') (by kernel_rfl) (Up.drew W0) (fun hHeld => ?_)
   refine tk 0 38 (v := ?_) ?_ ?_
   rotate_left
   ·intro w' hSw; go_simp; try (with_reducible rfl)
   try simp only [tkA, tkB, tkC]
   refine tk 1 39 (v := ?_) ?_ ?_
   rotate_left
   ·intro w' hSw; go_simp; try (with_reducible rfl)
   try simp only [tkA, tkB, tkC]
   refine tk 2 40 (v := ?_) ?_ ?_
   rotate_left
   ·intro w' hSw; go_simp; try (with_reducible rfl)
   try simp only [tkA, tkB, tkC]
   refine tk 4 42 (v := ?_) ?_ ?_
   rotate_left
   ·intro w' hSw; go_simp; try (with_reducible rfl)
   try simp only [tkA, tkB, tkC]
   generalize W0.drew = V0 at *
   refine wpAnyH_ready (rs := [3, 6]) (by kernel_rfl) (by simp) ?_
   refine AllReadyH.cons rfl (fun K hK => ?_) (AllReadyH.cons rfl (fun K hK => ?_) AllReadyH.nil)
   ·go_simp
    go_at_call 35
    refine (kS _ hHeld).mono ?_
    rintro e V1 ⟨A9, c9, rfl, own9, hb9⟩
    have u : Up W0 V1 := hHeld.trans (Up.of hb9)
    have own9 := own9.lower hHeld.b.size
    have cap9 : Z.length ≤ c9 := by obtain ⟨_, _, e, h, -⟩ := own9.form; injection e with _ _ e; rw [e]; exact h
    have fr0 : From A9 (Z.map I64) W0.heap.size := own9.fromB (Nat.le_refl _)
    have rd9 := own9.rd'
    clear hb9 own9
    refine hK.out _ _ u (fun hHeld => ?_)
    clear hK K u
    refine tk 5 43 (v := ?_) ?_ ?_
    rotate_left
    ·intro w' hSw; go_simp; try (with_reducible rfl)
    try simp only [tkA, tkB, tkC]
    refine wpAnyH_ready (rs := [6]) (by kernel_rfl) (by simp) ?_
    refine AllReadyH.cons rfl (fun K hK => ?_) AllReadyH.nil
    go_simp
    have u : Up W0 (V1.alloc (.cells #[.int .i64 0, .slice none 0 0, .slice none 0 0] 27)) := hHeld.trans (Up.alloc' V1 _)
    have bx := Blk.new V1 27 #[.int .i64 0, .slice none 0 0, .slice none 0 0]
    have bxl := bx.lt
    have hge : W0.heap.size ≤ V1.heap.size := hHeld.b.size
    have far9 : Far A9 (Z.map I64) V1.heap.size := Far.of rd9 (Nat.le_refl _)
    have rd9 := rd9.below (Up.alloc' V1 (.cells #[.int .i64 0, .slice none 0 0, .slice none 0 0] 27)).b
    generalize V1.alloc (.cells #[.int .i64 0, .slice none 0 0, .slice none 0 0] 27) = V2 at *
    refine hK.out _ _ u (fun hHeld => ?_)
    clear hK K u
    refine wpAnyH_ready (rs := [7]) (by kernel_rfl) (by simp) ?_
    refine AllReadyH.cons rfl (fun K hK => ?_) AllReadyH.nil
    rw [if_pos (by rfl)]
    refine wp_storeRow _ _ _ rfl V1.heap.size 27 #[.int .i64 0, .slice none 0 0, .slice none 0 0] #[.int .i64 dev, .slice A9 Z.length c9, .slice Ad zs.length cd] (by go_simp) (by go_simp; first | done | rfl) bx (by kernel_rfl) rfl (by simp [Value.oneCell']) ?_
    intro V3 bx' gr
    have u : Up W0 V3 := hHeld.trans' gr hge
    have rd9 := rd9.far gr far9
    refine hK.out _ _ u (fun hHeld => ?_)
    clear hK K u
    refine wpAnyH_done (by kernel_rfl) ?_ _
    refine NoPanic.normal ?_
    have uF := hHeld
    clear hHeld
    generalize V1.heap.size = G at *
    generalize V3 = W5 at *
    have U5 := HU.out.trans uF
    have hz5 := hz.below uF.b
    have kK := rrepCheck_any W5 dev A9 c9 Z Ad cd zs rd9 (by have := HZ15.out; unfold maxLen; omega) hz5 hzc
    generalize hE : chkE dev (opL zs) Z = E at *
    have HE2 := Lib.hid hE
    have HRR := Lib.hid (show From A9 (Z.map I64) wb.heap.size from fr0.lower HU.out.b.size)
    have HRd := Lib.hid rd9
    have HZ5 := Lib.hid hz5
    have HB5 := Lib.hid bx'
    have HU5 := Lib.hid U5
    have g0 : W5.cell? ⟨G, 0, none⟩ = some (.int .i64 dev) := by rw [bx'.cell]; rfl
    have g1 : W5.cell? ⟨G, 1, none⟩ = some (.slice A9 Z.length c9) := by rw [bx'.cell]; rfl
    have g2 : W5.cell? ⟨G, 2, none⟩ = some (.slice Ad zs.length cd) := by rw [bx'.cell]; rfl
    clear uF U5 hz5 fr0 rd9 far9 bx bx' hE d0 kS hz gr
    go_wp2_with fail
    refine kK.mono ?_
    rintro e w6 ⟨rfl, hb6⟩
    have u6 := Up.of hb6
    have HU6 := Lib.hid (HU5.out.trans u6)
    have hz6 := hBz.up HU6.out
    have z0 : w6.cell? ⟨w.heap.size + 1, 0, none⟩ = some (.int .i64 0) := by rw [hz6.cell]; rfl
    have z1 : w6.cell? ⟨w.heap.size + 1, 1, none⟩ = some (.slice none 0 0) := by rw [hz6.cell]; rfl
    have z2 : w6.cell? ⟨w.heap.size + 1, 2, none⟩ = some (.slice none 0 0) := by rw [hz6.cell]; rfl
    have f0 := hz6.free 0
    have f1 := hz6.free 1
    have f2 := hz6.free 2
    replace g0 := u6.cell g0
    replace g1 := u6.cell g1
    replace g2 := u6.cell g2
    have HR6 := Lib.hid (HRd.out.below hb6)
    have HZ6 := Lib.hid (HZ5.out.below hb6)
    have HBz6 := Lib.hid hz6
    clear kK hb6 u6 hz6
    by_cases he : E = 0
    rotate_left
    ·have q1 : (E != 0) = true := by simpa using he
     have q2 : (E == 0) = false := by simpa using he
     have HN := HC
     have HNE := Lib.hid he
     clear he
     go_wp2_with fail
     exact bodyPost_ret (v := .tuple #[.agg #[.int .i64 0, .slice none 0 0, .slice none 0 0], .int .i64 E]) (by simp [results, Tryz.results18, go_sem, z0, z1, z2]) rfl (ret_mrg_no HN.out HNE.out (below_set3 (HB0.out.trans HU6.out).b (Nat.le_succ _) _ _ _))
    ·subst he
     go_wp2_with fail
     exact bodyPost_ret (v := .tuple #[.agg #[.int .i64 dev, .slice A9 Z.length c9, .slice Ad zs.length cd], .int .i64 0]) (by simp [results, Tryz.results18, go_sem, z0, z1, z2]) rfl (ret_mrg_yes HE.out (by rw [HZ.out]; exact HE2.out) HZ.out HBz6.out (Nat.lt_succ_self _) (Nat.lt_of_lt_of_le hz2 (Nat.le_refl _)) (HB0.out.trans HU6.out).b HB0.out.b.size HR6.out HRR.out cap9 HZ6.out hfr hzc)
   ·go_simp
    have u : Up W0 (V0.alloc (.cells #[.int .i64 0, .slice none 0 0, .slice none 0 0] 27)) := hHeld.trans (Up.alloc' V0 _)
    have bx := Blk.new V0 27 #[.int .i64 0, .slice none 0 0, .slice none 0 0]
    have bxl := bx.lt
    have hge : W0.heap.size ≤ V0.heap.size := hHeld.b.size
    generalize V0.alloc (.cells #[.int .i64 0, .slice none 0 0, .slice none 0 0] 27) = V1 at *
    refine hK.out _ _ u (fun hHeld => ?_)
    clear hK K u
    refine wpAnyH_ready (rs := [3]) (by kernel_rfl) (by simp) ?_
    refine AllReadyH.cons rfl (fun K hK => ?_) AllReadyH.nil
    go_simp
    go_at_call 35
    refine (kS _ hHeld).mono ?_
    rintro e V2 ⟨A9, c9, rfl, own9, hb9⟩
    have u : Up W0 V2 := hHeld.trans (Up.of hb9)
    have bx := bx.up (Up.of hb9)
    have fr9 : From A9 (Z.map I64) V1.heap.size := own9.fromB (Nat.le_refl _)
    have far9 := fr9.far bxl
    have own9 := own9.lower hHeld.b.size
    have cap9 : Z.length ≤ c9 := by obtain ⟨_, _, e, h, -⟩ := own9.form; injection e with _ _ e; rw [e]; exact h
    have fr0 : From A9 (Z.map I64) W0.heap.size := own9.fromB (Nat.le_refl _)
    have rd9 := own9.rd'
    clear hb9 own9
    refine hK.out _ _ u (fun hHeld => ?_)
    clear hK K u
    refine tk 5 43 (v := ?_) ?_ ?_
    rotate_left
    ·intro w' hSw; go_simp; try (with_reducible rfl)
    try simp only [tkA, tkB, tkC]
    refine wpAnyH_ready (rs := [7]) (by kernel_rfl) (by simp) ?_
    refine AllReadyH.cons rfl (fun K hK => ?_) AllReadyH.nil
    rw [if_pos (by rfl)]
    refine wp_storeRow _ _ _ rfl V0.heap.size 27 #[.int .i64 0, .slice none 0 0, .slice none 0 0] #[.int .i64 dev, .slice A9 Z.length c9, .slice Ad zs.length cd] (by go_simp) (by go_simp; first | done | rfl) bx (by kernel_rfl) rfl (by simp [Value.oneCell']) ?_
    intro V3 bx' gr
    have u : Up W0 V3 := hHeld.trans' gr hge
    have rd9 := rd9.far gr far9
    refine hK.out _ _ u (fun hHeld => ?_)
    clear hK K u
    refine wpAnyH_done (by kernel_rfl) ?_ _
    refine NoPanic.normal ?_
    have uF := hHeld
    clear hHeld
    generalize V0.heap.size = G at *
    generalize V3 = W5 at *
    have U5 := HU.out.trans uF
    have hz5 := hz.below uF.b
    have kK := rrepCheck_any W5 dev A9 c9 Z Ad cd zs rd9 (by have := HZ15.out; unfold maxLen; omega) hz5 hzc
    generalize hE : chkE dev (opL zs) Z = E at *
    have HE2 := Lib.hid hE
    have HRR := Lib.hid (show From A9 (Z.map I64) wb.heap.size from fr0.lower HU.out.b.size)
    have HRd := Lib.hid rd9
    have HZ5 := Lib.hid hz5
    have HB5 := Lib.hid bx'
    have HU5 := Lib.hid U5
    have g0 : W5.cell? ⟨G, 0, none⟩ = some (.int .i64 dev) := by rw [bx'.cell]; rfl
    have g1 : W5.cell? ⟨G, 1, none⟩ = some (.slice A9 Z.length c9) := by rw [bx'.cell]; rfl
    have g2 : W5.cell? ⟨G, 2, none⟩ = some (.slice Ad zs.length cd) := by rw [bx'.cell]; rfl
    clear uF U5 hz5 fr0 rd9 far9 bx bx' hE d0 kS hz gr
    go_wp2_with fail
    refine kK.mono ?_
    rintro e w6 ⟨rfl, hb6⟩
    have u6 := Up.of hb6
    have HU6 := Lib.hid (HU5.out.trans u6)
    have hz6 := hBz.up HU6.out
    have z0 : w6.cell? ⟨w.heap.size + 1, 0, none⟩ = some (.int .i64 0) := by rw [hz6.cell]; rfl
    have z1 : w6.cell? ⟨w.heap.size + 1, 1, none⟩ = some (.slice none 0 0) := by rw [hz6.cell]; rfl
    have z2 : w6.cell? ⟨w.heap.size + 1, 2, none⟩ = some (.slice none 0 0) := by rw [hz6.cell]; rfl
    have f0 := hz6.free 0
    have f1 := hz6.free 1
    have f2 := hz6.free 2
    replace g0 := u6.cell g0
    replace g1 := u6.cell g1
    replace g2 := u6.cell g2
    have HR6 := Lib.hid (HRd.out.below hb6)
    have HZ6 := Lib.hid (HZ5.out.below hb6)
    have HBz6 := Lib.hid hz6
    clear kK hb6 u6 hz6
    by_cases he : E = 0
    rotate_left
    ·have q1 : (E != 0) = true := by simpa using he
     have q2 : (E == 0) = false := by simpa using he
     have HN := HC
     have HNE := Lib.hid he
     clear he
     go_wp2_with fail
     exact bodyPost_ret (v := .tuple #[.agg #[.int .i64 0, .slice none 0 0, .slice none 0 0], .int .i64 E]) (by simp [results, Tryz.results18, go_sem, z0, z1, z2]) rfl (ret_mrg_no HN.out HNE.out (below_set3 (HB0.out.trans HU6.out).b (Nat.le_succ _) _ _ _))
    ·subst he
     go_wp2_with fail
     exact bodyPost_ret (v := .tuple #[.agg #[.int .i64 dev, .slice A9 Z.length c9, .slice Ad zs.length cd], .int .i64 0]) (by simp [results, Tryz.results18, go_sem, z0, z1, z2]) rfl (ret_mrg_yes HE.out (by rw [HZ.out]; exact HE2.out) HZ.out HBz6.out (Nat.lt_succ_self _) (Nat.lt_of_lt_of_le hz2 (Nat.le_refl _)) (HB0.out.trans HU6.out).b HB0.out.b.size HR6.out HRR.out cap9 HZ6.out hfr hzc)
end Go.Proofs.YtcomeidcmcegfaaGreatDoor
namespace Go.Proofs.YtcomeidcmcegfaaGreatDoor
open Go.RowKit
set_option linter.unusedVariables false
set_option linter.unusedSimpArgs false
set_option maxHeartbeats 4000000 in
theorem rrestore_no (w : World) (dev : Int) (A : Option Addr) (n c : Nat) (h : ¬ (1 ≤ dev ∧ dev ≤ 15)) : Calls Tryz.prog 6 #[.int .i64 dev, .slice A n c] w (RetRep 0 [] [] 1 w) := by
 have kN := rnew_no (w.alloc (.cells #[.int .i64 0, .slice none 0 0, .slice none 0 0] 27)) dev h
 have hR := Blk.new w 27 #[.int .i64 0, .slice none 0 0, .slice none 0 0]
 clear h
 go_enter Tryz.func6, Tryz.ntmps6
 go_wp2_with fail
 refine kN.mono ?_
 rintro e w1 ⟨As, cs, Ao, co, xs, rfl, hRs, hcs, hOs, hxs, hco, hb1, -, -⟩
 obtain rfl : xs = [] := opL_nil hxs
 have hu1 := Up.of hb1
 have hR1 := (hR.up hu1).up (Up.alloc' w1 (.cells #[.int .i64 0, .slice As 0 cs, .slice Ao 0 co] 27))
 have hb := (stepB ((Below.refl w.heap.size w).alloc (Nat.le_refl _) _) hb1)
 have hb := stepB hb (Up.alloc' w1 (.cells #[.int .i64 0, .slice As 0 cs, .slice Ao 0 co] 27)).b
 have c0 : (w1.alloc (.cells #[.int .i64 0, .slice As 0 cs, .slice Ao 0 co] 27)).cell? ⟨w.heap.size, 0, none⟩ = some (.int .i64 0) := by rw [hR1.cell]; rfl
 have c1 : (w1.alloc (.cells #[.int .i64 0, .slice As 0 cs, .slice Ao 0 co] 27)).cell? ⟨w.heap.size, 1, none⟩ = some (.slice none 0 0) := by rw [hR1.cell]; rfl
 have c2 : (w1.alloc (.cells #[.int .i64 0, .slice As 0 cs, .slice Ao 0 co] 27)).cell? ⟨w.heap.size, 2, none⟩ = some (.slice none 0 0) := by rw [hR1.cell]; rfl
 have f0 := hR1.free 0
 have f1 := hR1.free 1
 have f2 := hR1.free 2
 have HB := Lib.hid hb
 clear kN hR hu1 hR1 hb hb1
 go_wp2_with fail
 refine bodyPost_ret (v := .tuple #[.agg #[.int .i64 0, .slice none 0 0, .slice none 0 0], .int .i64 1]) (by simp [results, Tryz.results6, go_sem, c0, c1, c2]) rfl ⟨none, 0, none, 0, [], rfl, Rd.nil _ _, Nat.le_refl _, OpsRd.nil _ _, rfl, Nat.le_refl _, ?_, From.nil _ _, From.nil _ _⟩
 exact ((HB.out.setCell (p := ⟨w.heap.size, 0, none⟩) (Nat.le_refl _) _).setCell (p := ⟨w.heap.size, 1, none⟩) (Nat.le_refl _) _).setCell (p := ⟨w.heap.size, 2, none⟩) (Nat.le_refl _) _
set_option maxHeartbeats 8000000 in
theorem rrestore_any (w : World) (dev : Int) (A : Option Addr) (c : Nat) (b : List UInt8) (hr : Rd w A (b.map U8)) (hlc : b.length ≤ c) (hbl : b.length < 10000000) :
 Calls Tryz.prog 6 #[.int .i64 dev, .slice A b.length c] w (RetRst dev b w) := by
 by_cases hd : 1 ≤ dev ∧ dev ≤ 15
 rotate_left
 ·rw [rst_bad hd]
  exact rrestore_no w dev A b.length c hd
 rw [rst_mrg hd]
 have kN := rnew_yes (w.alloc (.cells #[.int .i64 0, .slice none 0 0, .slice none 0 0] 27)) dev hd.1 hd.2
 have hR := Blk.new w 27 #[.int .i64 0, .slice none 0 0, .slice none 0 0]
 have hZ15 : joinZ.length = 15 := joinN_length _ _ _
 have kR := fun w' (h : Rd w' A (b.map U8)) => rread_any w' A c b h (by omega) hlc
 have HJ : Hid (jrL b = (jr b).1.map (·.2)) := rfl
 have HL := Lib.hid (fun (xs : List OX) (h : opL xs = (jr b).1.map (·.2)) => jr_len h)
 unfold RetJr at kR
 have kM := fun w' As cs Ao co Ax cx xs hx hl => rmerge_any w' dev As 15 cs Ao co Ax cx xs hx hl
 unfold RetMrg RetRep at kM
 unfold RetRep at kN
 rw [hZ15] at kN
 unfold RetMrg RetRep
 generalize hD : (if mrgE dev (jrL b) = 0 then dev else 0) = D
 generalize hS : (if mrgE dev (jrL b) = 0 then seenOf (mrgL dev (jrL b)) else []) = SZ
 generalize hE : mrgE dev (jrL b) = E
 generalize hML : mrgL dev (jrL b) = ML
 have HD := Lib.hid hD
 have HS := Lib.hid hS
 have HE := Lib.hid hE
 have HML := Lib.hid hML
 have HBL := Lib.hid hbl
 clear hd hbl hD hS hE hML
 generalize joinZ = JZ at *
 go_enter Tryz.func6, Tryz.ntmps6
 go_wp2_with fail
 refine kN.mono ?_
 rintro e w1 ⟨As, cs, Ao, co, xs, rfl, hRs, hcs, hOs, hxs, hco, hb1, -, -⟩
 obtain rfl : xs = [] := opL_nil hxs
 have hu0 : Up w (w.alloc (.cells #[.int .i64 0, .slice none 0 0, .slice none 0 0] 27)) := Up.alloc' _ _
 have hu1 := Up.of hb1
 have hu01 := Lib.hid (hu0.trans hu1)
 have hR1 := Lib.hid (hR.up hu1)
 have uR := Up.alloc' w1 (.cells #[.int .i64 dev, .slice As 15 cs, .slice Ao 0 co] 27)
 have hBx := Blk.new w1 27 #[.int .i64 dev, .slice As 15 cs, .slice Ao 0 co]
 have kR := kR _ (hr.below (hu01.out.trans uR).b)
 have uR := Lib.hid uR
 have hBx := Lib.hid hBx
 clear kN hu0 hu1 hR hb1 hRs hcs hOs hxs hco
 go_wp2_with fail
 refine kR.mono ?_
 rintro e w2 ⟨ys, A2, c2, rfl, hys, hO2, hc2, hb2⟩
 have hyl := HL.out ys hys
 have hu2 := Lib.hid (Up.of hb2)
 have hBx2 := hBx.out.up hu2.out
 have r0 : w2.cell? ⟨w1.heap.size, 0, none⟩ = some (.int .i64 dev) := by rw [hBx2.cell]; rfl
 have r1 : w2.cell? ⟨w1.heap.size, 1, none⟩ = some (.slice As 15 cs) := by rw [hBx2.cell]; rfl
 have r2 : w2.cell? ⟨w1.heap.size, 2, none⟩ = some (.slice Ao 0 co) := by rw [hBx2.cell]; rfl
 have uu2 := Lib.hid ((hu01.out.trans uR.out).trans hu2.out)
 have kM := kM w2 As cs Ao co A2 c2 ys hO2 (by have := HBL.out; omega)
 rw [hys.trans HJ.out.symm, HD.out, HS.out, HE.out, HML.out] at kM
 have hR2 := Lib.hid ((hR1.out.up uR.out).up hu2.out)
 clear kR hys hO2 hb2 hBx2 HJ HL
 go_wp2_with fail
 refine kM.mono ?_
 rintro e w3 ⟨A3, c3, A4, c4, zs, rfl, hR3, hc3, hO3, hz3, hc4, hb3, fr3, fr4⟩
 have hR3' := hR2.out.up (Up.of hb3)
 have c0 : w3.cell? ⟨w.heap.size, 0, none⟩ = some (.int .i64 0) := by rw [hR3'.cell]; rfl
 have c1 : w3.cell? ⟨w.heap.size, 1, none⟩ = some (.slice none 0 0) := by rw [hR3'.cell]; rfl
 have c2' : w3.cell? ⟨w.heap.size, 2, none⟩ = some (.slice none 0 0) := by rw [hR3'.cell]; rfl
 have f0 := hR3'.free 0
 have f1 := hR3'.free 1
 have f2 := hR3'.free 2
 have HR3 := Lib.hid hR3'
 have uu3 := Lib.hid (uu2.out.trans (Up.of hb3))
 clear kM hR3' r0 r1 r2 hb3
 go_wp2_with fail
 have hlt0 : w.heap.size < w2.heap.size := hR2.out.lt
 refine bodyPost_ret (v := .tuple #[.agg #[.int .i64 D, .slice A3 SZ.length c3, .slice A4 zs.length c4], .int .i64 E]) (by simp [results, Tryz.results6, go_sem, c0, c1, c2']) rfl ⟨A3, c3, A4, c4, zs, rfl, ?_, hc3, ⟨?_, ?_⟩, hz3, hc4, ?_, fr3.lower (by omega), fr4.lower (by omega)⟩
 ·exact ((hR3.set (fr3.far hlt0) 0 _).set (fr3.far hlt0) 1 _).set (fr3.far hlt0) 2 _
 ·exact ((hO3.rd.set (fr4.far hlt0) 0 _).set (fr4.far hlt0) 1 _).set (fr4.far hlt0) 2 _
 ·intro z hz
  have k := hO3.ok z hz
  have hf := rd_far_rep k.rd HR3.out
  exact ⟨k.bd, ((k.rd.set hf 0 _).set hf 1 _).set hf 2 _, k.cap⟩
 ·exact ((uu3.out.b.setCell (p := ⟨w.heap.size, 0, none⟩) (Nat.le_refl _) _).setCell (p := ⟨w.heap.size, 1, none⟩) (Nat.le_refl _) _).setCell (p := ⟨w.heap.size, 2, none⟩) (Nat.le_refl _) _
end Go.Proofs.YtcomeidcmcegfaaGreatDoor
namespace Go.Proofs.YtcomeidcmcegfaaGreatDoor
open Go.RowKit
set_option linter.unusedVariables false
set_option linter.unusedSimpArgs false
theorem sameR_self (d : Int) (s : List Int) (l : List OP) : sameR d d s s l l = true := by
 have h : sameL l l = true := (sameL_iff _ _).2 rfl
 unfold sameR
 rw [h, beq_self_eq_true, beq_self_eq_true]; rfl
theorem rst_len {dev : Int} {b : List UInt8} {xs : List OX} (h : opL xs = rstL dev b) : xs.length ≤ 400 := by
 have e : xs.length = (rstL dev b).length := by rw [← h, opL_len]
 rw [e]
 unfold rstL
 by_cases h0 : rstE dev b = 0
 ·rw [if_pos h0]
  unfold rstE at h0
  by_cases hd : dev < 1 ∨ 15 < dev
  ·rw [if_pos hd] at h0; cases h0
  rw [if_neg hd] at h0
  unfold mrgL
  rw [if_pos h0]
  rcases hm : refM [] (jrL b) with _ | D
  ·exact Nat.zero_le _
  ·rw [mrg_some hm, chkE_first, if_neg hd] at h0
   by_cases hc : 400 < D.length
   ·rw [if_pos hc] at h0; cases h0
   ·show D.length ≤ 400
    omega
 ·rw [if_neg h0]; exact Nat.zero_le _
set_option maxRecDepth 100000 in
set_option maxHeartbeats 16000000 in
theorem walk_JournalRestore (w : World) (dev : Int) (bd : -9223372036854775808 ≤ dev ∧ dev ≤ 9223372036854775807) (A : Option Addr) (c : Nat) (b : List UInt8) (hr : Rd w A (b.map U8)) (hm : b.length ≤ maxLen) (hq : b.length ≤ c) (hT : Tabs w) (hF : TabR w) :
 Calls Tryz.prog 3 #[.int .i64 dev, .slice A b.length c] w fun e w' => e = .returned (.bool true) ∧ Below w.heap.size w w' := by
 by_cases h6 : 6000 < b.length
 ·have t1 : decide (6000 < (b.length : Int)) = true := decide_eq_true (by omega)
  have t2 : decide (6000 < b.length) = true := decide_eq_true h6
  clear h6 hr hm hq bd
  go_enter Tryz.func3, Tryz.ntmps3
  go_wp2_with fail
  refine (awake_any _ hT hF).mono ?_
  rintro e w3 ⟨rfl, hb3⟩
  go_wp2_with fail
  go_ret
  exact ⟨rfl, hb3⟩
 have t1 : decide (6000 < (b.length : Int)) = false := decide_eq_false (by omega)
 have t2 : decide (6000 < b.length) = false := decide_eq_false h6
 have kR := restore_any w dev A c b hr hq (by omega) hT hF
 have kS := fun w' (u : Up w w') => rrestore_any w' dev A c b (u.rd hr) hq (by omega)
 unfold RetRst RetRep at kR kS
 have hL15 : (if rstE dev b = 0 then seenOf (rstL dev b) else []).length ≤ 15 := by
  split
  ·rw [seen15]; exact Nat.le_refl _
  ·exact Nat.zero_le _
 have hLn := fun (xs : List OX) (h : opL xs = rstL dev b) => rst_len h
 generalize (if rstE dev b = 0 then dev else 0) = D at *
 generalize (if rstE dev b = 0 then seenOf (rstL dev b) else []) = SZ at *
 generalize rstE dev b = E at *
 generalize rstL dev b = ML at *
 have HSZ := Lib.hid hL15
 have HLn := Lib.hid hLn
 have HB6 := Lib.hid h6
 clear h6 hr hm hq bd hL15 hLn
 go_enter Tryz.func3, Tryz.ntmps3
 go_wp2_with fail
 refine kR.mono ?_
 rintro e w1 ⟨A1, c1, B1, d1, zs, rfl, hR1, hc1, hO1, hz1, hd1, hb1, -, -⟩
 have u1 := Up.of hb1
 have uA := Up.alloc' w1 (.cells #[.int .i64 D, .slice A1 SZ.length c1, .slice B1 zs.length d1] 27)
 have hX := Blk.new w1 27 #[.int .i64 D, .slice A1 SZ.length c1, .slice B1 zs.length d1]
 have kS := kS _ (u1.trans uA)
 have HU2 := Lib.hid (u1.trans uA)
 have hR2 := hR1.below uA.b
 have hO2 := hO1.below uA.b
 have HX := Lib.hid hX
 clear kR hb1 u1 uA hR1 hO1 hX
 go_wp2_with fail
 refine kS.mono ?_
 rintro e w3 ⟨A2, c2, B2, d2, ys, rfl, hR3, hc3, hO3, hy3, hd3, hb3, -, -⟩
 have u3 := Up.of hb3
 have uB := Up.alloc' w3 (.cells #[.int .i64 D, .slice A2 SZ.length c2, .slice B2 ys.length d2] 27)
 have u4 := u3.trans uB
 have kE := rrepSame_any _ D D A1 A2 c1 c2 SZ SZ B1 B2 d1 d2 zs ys (hR2.below u4.b) (hR3.below uB.b) (by have := HSZ.out; unfold maxLen; omega) (by have := HSZ.out; unfold maxLen; omega) (hO2.below u4.b) (hO3.below uB.b) (by have := HLn.out zs hz1; unfold maxLen; omega) (by have := HLn.out ys hy3; unfold maxLen; omega)
 rw [hz1, hy3, sameR_self] at kE
 have hX4 := HX.out.up u4
 have hY4 := Blk.new w3 27 #[.int .i64 D, .slice A2 SZ.length c2, .slice B2 ys.length d2]
 have x0 : (w3.alloc (.cells #[.int .i64 D, .slice A2 SZ.length c2, .slice B2 ys.length d2] 27)).cell? ⟨w1.heap.size, 0, none⟩ = some (.int .i64 D) := by rw [hX4.cell]; rfl
 have x1 : (w3.alloc (.cells #[.int .i64 D, .slice A2 SZ.length c2, .slice B2 ys.length d2] 27)).cell? ⟨w1.heap.size, 1, none⟩ = some (.slice A1 SZ.length c1) := by rw [hX4.cell]; rfl
 have x2 : (w3.alloc (.cells #[.int .i64 D, .slice A2 SZ.length c2, .slice B2 ys.length d2] 27)).cell? ⟨w1.heap.size, 2, none⟩ = some (.slice B1 zs.length d1) := by rw [hX4.cell]; rfl
 have HU4 := Lib.hid (HU2.out.trans u4)
 have q1 : (E == E) = true := beq_self_eq_true E
 clear kS hb3 u3 uB u4 hR2 hO2 hR3 hO3 hX4 hY4
 go_wp2_with fail
 refine kE.mono ?_
 rintro e w5 ⟨rfl, hb5⟩
 have HU5 := Lib.hid (HU4.out.trans (Up.of hb5))
 clear kE hb5 x0 x1 x2
 go_wp2_with fail
 refine (awake_any _ (hT.below HU5.out.b) (hF.below HU5.out.b)).mono ?_
 rintro e w6 ⟨rfl, hb6⟩
 go_wp2_with fail
 go_ret
 exact ⟨rfl, stepB HU5.out.b hb6⟩
end Go.Proofs.YtcomeidcmcegfaaGreatDoor
