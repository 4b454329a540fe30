/-
  The walk of Restore of layer 53, of the example's journal and of device 0. Conditions: the tables lie as their initialisers lay them.
  The walk of awake of the statements of layer 53. Conditions: the tables of unicode/utf8 and of layer 50 lie as their initialisers lay them.
-/
import Derived.Test.YtcomeidcmcegfaaGreatDoorMergeNew
import Derived.Test.YtcomeidcmcegfaaGreatDoorZS
import Derived.Test.YtcomeidcmcegfaaGreatDoorZO
import Derived.Deep.DeepCutAuto
namespace Go.Proofs.YtcomeidcmcegfaaGreatDoor
open Go.RowKit
set_option linter.unusedVariables false
set_option linter.unusedSimpArgs false
theorem ex_one : OneSpec [] exJ := oneSpec_add exJ_c rfl rfl (by decide)
theorem ex_chk : chkE 2 [exJ] (seenOf [exJ]) = 0 := chkE_right exJ_right ⟨by decide, by decide⟩ (by decide)
theorem opL_nil {xs : List OX} (h : opL xs = []) : xs = [] := by
 cases xs
 ·rfl
 ·cases h
theorem opL_one {xs : List OX} {o : OP} (h : opL xs = [o]) : ∃ A c, xs = [⟨o, A, c⟩] := by
 rcases xs with _ | ⟨x, xs⟩
 ·cases h
 ·have h' : x.o :: opL xs = [o] := h
  injection h' with h1 h2
  rw [opL_nil h2]
  obtain ⟨o', A, c⟩ := x
  exact ⟨A, c, by rw [show o' = o from h1]⟩
set_option maxHeartbeats 4000000 in
theorem restore_no (w : World) (dev : Int) (A : Option Addr) (n c : Nat) (h : ¬ (1 ≤ dev ∧ dev ≤ 15)) : Calls Tryz.prog 5 #[.int .i64 dev, .slice A n c] w (RetRep 0 [] [] 1 w) := by
 have kN := new_no (w.alloc (.cells #[.int .i64 0, .slice none 0 0, .slice none 0 0] 27)) dev h
 have hR := Blk.new w 27 #[.int .i64 0, .slice none 0 0, .slice none 0 0]
 clear h
 go_enter Tryz.func5, Tryz.ntmps5
 go_wp2_with fail
 refine kN.mono ?_
 rintro e w1 ⟨As, cs, Ao, co, xs, rfl, hRs, hcs, hOs, hxs, hco, hb1, -, -⟩
 obtain rfl : xs = [] := opL_nil hxs
 have hu1 := Up.of hb1
 have hR1 := (hR.up hu1).up (Up.alloc' w1 (.cells #[.int .i64 0, .slice As 0 cs, .slice Ao 0 co] 27))
 have hb := (stepB ((Below.refl w.heap.size w).alloc (Nat.le_refl _) _) hb1)
 have hb := stepB hb (Up.alloc' w1 (.cells #[.int .i64 0, .slice As 0 cs, .slice Ao 0 co] 27)).b
 have c0 : (w1.alloc (.cells #[.int .i64 0, .slice As 0 cs, .slice Ao 0 co] 27)).cell? ⟨w.heap.size, 0, none⟩ = some (.int .i64 0) := by rw [hR1.cell]; rfl
 have c1 : (w1.alloc (.cells #[.int .i64 0, .slice As 0 cs, .slice Ao 0 co] 27)).cell? ⟨w.heap.size, 1, none⟩ = some (.slice none 0 0) := by rw [hR1.cell]; rfl
 have c2 : (w1.alloc (.cells #[.int .i64 0, .slice As 0 cs, .slice Ao 0 co] 27)).cell? ⟨w.heap.size, 2, none⟩ = some (.slice none 0 0) := by rw [hR1.cell]; rfl
 have f0 := hR1.free 0
 have f1 := hR1.free 1
 have f2 := hR1.free 2
 have HB := Lib.hid hb
 clear kN hR hu1 hR1 hb hb1
 go_wp2_with fail
 refine bodyPost_ret (v := .tuple #[.agg #[.int .i64 0, .slice none 0 0, .slice none 0 0], .int .i64 1]) (by simp [results, Tryz.results5, go_sem, c0, c1, c2]) rfl ⟨none, 0, none, 0, [], rfl, Rd.nil _ _, Nat.le_refl _, OpsRd.nil _ _, rfl, Nat.le_refl _, ?_, From.nil _ _, From.nil _ _⟩
 exact ((HB.out.setCell (p := ⟨w.heap.size, 0, none⟩) (Nat.le_refl _) _).setCell (p := ⟨w.heap.size, 1, none⟩) (Nat.le_refl _) _).setCell (p := ⟨w.heap.size, 2, none⟩) (Nat.le_refl _) _
set_option maxHeartbeats 4000000 in
theorem restore_ex (w : World) (A : Option Addr) (c : Nat) (hr : Rd w A (exL.map U8)) (hlc : exL.length ≤ c) (hT : Tabs w) (hF : TabR w) : Calls Tryz.prog 5 #[.int .i64 2, .slice A exL.length c] w (RetRep 2 (seenOf [exJ]) [exJ] 0 w) := by
 have hel := exL_len
 have kN := new_yes (w.alloc (.cells #[.int .i64 0, .slice none 0 0, .slice none 0 0] 27)) 2 (by decide) (by decide)
 have hR := Blk.new w 27 #[.int .i64 0, .slice none 0 0, .slice none 0 0]
 have hZ15 : joinZ.length = 15 := joinN_length _ _ _
 have kR := fun w' (h : Rd w' A (exL.map U8)) (t : Tabs w') => read_any w' A c exL h (by omega) hlc t
 unfold RetJr at kR
 rw [exL_jr.2] at kR
 have HJ := Lib.hid exL_jr.1
 have hone := Lib.hid ex_one
 have hchk := Lib.hid ex_chk
 have kM := fun w' As cs Ao co Ax cx x1 x2 hx t f => merge_one w' 2 As cs Ao co Ax cx ⟨exJ, x1, x2⟩ hx t f hone.out hchk.out
 unfold RetRep at kN kM
 dsimp only at kM
 rw [hZ15] at kN
 have hS15 := seenOf_len [exJ]
 rw [hS15] at kM
 unfold RetRep
 rw [hS15]
 generalize seenOf [exJ] = SZ at *
 generalize joinZ = JZ at *
 generalize exL = L at *
 go_enter Tryz.func5, Tryz.ntmps5
 go_wp2_with fail
 refine kN.mono ?_
 rintro e w1 ⟨As, cs, Ao, co, xs, rfl, hRs, hcs, hOs, hxs, hco, hb1, -, -⟩
 obtain rfl : xs = [] := opL_nil hxs
 have hu0 : Up w (w.alloc (.cells #[.int .i64 0, .slice none 0 0, .slice none 0 0] 27)) := Up.alloc' _ _
 have hu1 := Up.of hb1
 have hu01 := Lib.hid (hu0.trans hu1)
 have hR1 := Lib.hid (hR.up hu1)
 have uR := Up.alloc' w1 (.cells #[.int .i64 2, .slice As 15 cs, .slice Ao 0 co] 27)
 have hBx := Blk.new w1 27 #[.int .i64 2, .slice As 15 cs, .slice Ao 0 co]
 have kR := kR _ (hr.below (hu01.out.trans uR).b) (hT.below (hu01.out.trans uR).b)
 have uR := Lib.hid uR
 have hBx := Lib.hid hBx
 clear kN hu0 hu1 hR hb1 hRs hcs hOs hxs hco
 go_wp2_with fail
 refine kR.mono ?_
 rintro e w2 ⟨ys, A2, c2, rfl, hys, hO2, hc2, hb2⟩
 obtain ⟨x1, x2, rfl⟩ := opL_one (hys.trans HJ.out)
 have hu2 := Lib.hid (Up.of hb2)
 have hBx2 := hBx.out.up hu2.out
 have r0 : w2.cell? ⟨w1.heap.size, 0, none⟩ = some (.int .i64 2) := by rw [hBx2.cell]; rfl
 have r1 : w2.cell? ⟨w1.heap.size, 1, none⟩ = some (.slice As 15 cs) := by rw [hBx2.cell]; rfl
 have r2 : w2.cell? ⟨w1.heap.size, 2, none⟩ = some (.slice Ao 0 co) := by rw [hBx2.cell]; rfl
 have uu2 := Lib.hid ((hu01.out.trans uR.out).trans hu2.out)
 have kM := kM w2 As cs Ao co A2 c2 x1 x2 hO2 (hT.below uu2.out.b) (hF.below uu2.out.b)
 have kM : Calls Tryz.prog 15 #[.agg #[.int .i64 2, .slice As 15 cs, .slice Ao 0 co], .slice A2 1 c2] w2 _ := kM
 have hR2 := Lib.hid ((hR1.out.up uR.out).up hu2.out)
 clear kR hys hO2 hb2 hBx2
 go_wp2_with fail
 refine kM.mono ?_
 rintro e w3 ⟨A3, c3, A4, c4, zs, rfl, hR3, hc3, hO3, hz3, hc4, hb3, fr3, fr4⟩
 have hR3' := hR2.out.up (Up.of hb3)
 have c0 : w3.cell? ⟨w.heap.size, 0, none⟩ = some (.int .i64 0) := by rw [hR3'.cell]; rfl
 have c1 : w3.cell? ⟨w.heap.size, 1, none⟩ = some (.slice none 0 0) := by rw [hR3'.cell]; rfl
 have c2' : w3.cell? ⟨w.heap.size, 2, none⟩ = some (.slice none 0 0) := by rw [hR3'.cell]; rfl
 have f0 := hR3'.free 0
 have f1 := hR3'.free 1
 have f2 := hR3'.free 2
 have uu3 := Lib.hid (uu2.out.trans (Up.of hb3))
 clear kM hR3' r0 r1 r2 hb3
 go_wp2_with fail
 have hlt0 : w.heap.size < w2.heap.size := hR2.out.lt
 refine bodyPost_ret (v := .tuple #[.agg #[.int .i64 2, .slice A3 15 c3, .slice A4 zs.length c4], .int .i64 0]) (by simp [results, Tryz.results5, go_sem, c0, c1, c2']) rfl ⟨A3, c3, A4, c4, zs, rfl, ?_, hc3, ⟨?_, ?_⟩, hz3, hc4, ?_, fr3.lower (by omega), fr4.lower (by omega)⟩
 ·exact ((hR3.set (fr3.far hlt0) 0 _).set (fr3.far hlt0) 1 _).set (fr3.far hlt0) 2 _
 ·exact ((hO3.rd.set (fr4.far hlt0) 0 _).set (fr4.far hlt0) 1 _).set (fr4.far hlt0) 2 _
 ·intro z hz
  have hm : z.o ∈ opL zs := List.mem_map_of_mem hz
  rw [hz3] at hm
  have k := hO3.ok z hz
  have e := List.mem_singleton.1 hm
  exact ⟨k.bd, by rw [e]; exact Rd.nil _ _, k.cap⟩
 ·exact ((uu3.out.b.setCell (p := ⟨w.heap.size, 0, none⟩) (Nat.le_refl _) _).setCell (p := ⟨w.heap.size, 1, none⟩) (Nat.le_refl _) _).setCell (p := ⟨w.heap.size, 2, none⟩) (Nat.le_refl _) _
end Go.Proofs.YtcomeidcmcegfaaGreatDoor
namespace Go.Proofs.YtcomeidcmcegfaaGreatDoor
open Go.RowKit
set_option linter.unusedVariables false
set_option linter.unusedSimpArgs false
set_option maxRecDepth 100000 in
set_option maxHeartbeats 16000000 in
theorem awake_any (w : World) (hT : Tabs w) (hF : TabR w) : Calls Tryz.prog 4 #[] w (RetBool true w) := by
 have hel := exL_len
 obtain ⟨hwe, hwb⟩ := exL_wrt
 have hj1 := Lib.hid exL_jr.1
 have hj2 := Lib.hid exL_jr.2
 have hcut := Lib.hid exL_cut
 have kW := fun w' A cx (hx : OpsRd w' A [⟨exJ, none, 0⟩]) t => write_any w' A cx [⟨exJ, none, 0⟩] hx (by simp) t
 simp only [show opL [⟨exJ, none, 0⟩] = [exJ] from rfl, hwe, hwb] at kW
 have kR := fun w' A c (h : Rd w' A (exL.map U8)) (hc : exL.length ≤ c) (t : Tabs w') => read_any w' A c exL h (by omega) hc t
 have kN := fun w' (t : Tabs w') => read_any w' none 0 [] (Rd.nil _ _) (by simp) (by simp) t
 have kS := fun w' A c (h : Rd w' A (exL.map U8)) (hc : exL.length ≤ c) (t : Tabs w') (f : TabR w') => restore_ex w' A c h hc t f
 have kZ := fun w' => restore_no w' 0 none 0 0 (by decide)
 have kE := fun w' (t : Tabs w') => entry_any w' OP.zero none 0 exZ_bd (Rd.nil _ _) (Nat.le_refl _) t
 have kT := fun w' A c (h : Rd w' A (exL.map U8)) (hc : exL.length ≤ c) (t : Tabs w') => trim_any w' A c (exL.take (exL.length - 1)) (h.take8 _) (by rw [List.length_take]; omega) (by rw [List.length_take]; omega) t
 have ht0 : trimN (exL.take (exL.length - 1)) = 0 := by unfold trimN; rw [exL_cut]; rfl
 rw [show (exL.take (exL.length - 1)).length = exL.length - 1 by rw [List.length_take]; omega] at kT
 unfold RetTrim at kT
 simp only [ht0] at kT
 have hwr : IntKind.i64.wrap ((exL.length : Int) - 1) = ((exL.length - 1 : Nat) : Int) := by rw [IntWalk.i64_in _ (by omega)]; omega
 have sl := fun A c (hc : exL.length ≤ c) => slice_to A c exL.length hc ((exL.length - 1 : Nat) : Int) (exL.length - 1) rfl (by omega)
 generalize hm : exL.length - 1 = m at kT hwr sl
 clear hm
 rw [exZ_c, entB_err (by rw [exZ_c]; decide)] at kE
 unfold RetJr at kR kN
 rw [exL_jr.2] at kR
 rw [exN_jr] at kN
 have hS15 := seenOf_len [exJ]
 unfold RetRep at kS kZ
 rw [hS15] at kS
 generalize seenOf [exJ] = SZ at *
 clear hwe hwb
 generalize exL = L at *
 have hLz : ((L.length : Int) == 0) = false := by rw [beq_eq_false_iff_ne]; omega
 have hLz' : (L.length == 0) = false := by rw [beq_eq_false_iff_ne]; omega
 have k8 := fun x1 x2 w' => rsame_any w' exJ exJ x1 none x2 0 (Rd.nil _ _) (Rd.nil _ _) (by decide) (by decide)
 simp only [sameB_self] at k8
 unfold opV opC at kE k8
 dsimp only [exJ, OP.zero, List.length_nil] at kE k8
 have hel := Lib.hid hel
 go_enter Tryz.func4, Tryz.ntmps4
 go_wp2_with fail
 refine (example_any _).mono ?_
 rintro e w1 ⟨rfl, hb1⟩
 have u1 := Up.of hb1
 unfold opV opC
 dsimp only [exJ]
 have hX : OpsRd (w1.alloc (.cells (opC exJ none 0).toArray 43)) (some ⟨w1.heap.size, 0, none⟩) [⟨exJ, none, 0⟩] :=
  ⟨Rd.newAt w1 (opsC [⟨exJ, none, 0⟩]) 43 (0, 0) w1.heap.size rfl, fun z hz => by rw [List.mem_singleton.1 hz]; exact ⟨exJ_bd, Rd.nil _ _, Nat.le_refl _⟩⟩
 have ua : Up w (w1.alloc (.cells (opC exJ none 0).toArray 43)) := u1.trans (Up.alloc' _ _)
 have kW := kW _ _ 1 hX (hT.below ua.b)
 unfold opC at hX ua kW
 dsimp only [exJ, List.length_cons, List.length_nil] at kW hX ua
 have ua := Lib.hid ua
 clear hX u1 hb1
 go_wp2_with fail
 refine kW.mono ?_
 rintro e w2 ⟨A, c, rfl, hown, hb2⟩
 have hr2 := hown.rd'
 obtain ⟨_, _, eq2, hc2, -⟩ := hown.form
 cases eq2
 have u2 := Lib.hid (ua.out.trans (Up.of hb2))
 have hr2' := Lib.hid hr2
 have kR := kR _ A c hr2 hc2 (hT.below u2.out.b)
 have sl := sl A c hc2
 clear kW hown hb2 hr2
 go_wp2_with fail
 refine kR.mono ?_
 rintro e w3 ⟨ys, A3, c3, rfl, hys, hO3, hc3, hb3⟩
 obtain ⟨x1, x2, rfl⟩ := opL_one (hys.trans hj1.out)
 have u3 := Lib.hid (u2.out.trans (Up.of hb3))
 have v3 := Lib.hid (Up.of hb3)
 obtain ⟨b, off, rfl, -, hrg⟩ := hO3.range (k := 0) (by simp)
 have hrg := Lib.hid hrg
 have kN := kN w3 (hT.below u3.out.b)
 clear kR hys hO3 hb3
 go_wp2_with fail
 refine kN.mono ?_
 rintro e w4 ⟨zs, A4, c4, rfl, hzs, -, -, hb4⟩
 obtain rfl : zs = [] := opL_nil hzs
 have u4 := Lib.hid (u3.out.trans (Up.of hb4))
 have v4 := Lib.hid (v3.out.trans (Up.of hb4))
 have t4 := Lib.hid (Up.of hb4)
 have kS := kS w4 A c (hr2'.out.below v4.out.b) hc2 (hT.below u4.out.b) (hF.below u4.out.b)
 clear kN hzs hb4
 go_wp2_with fail
 refine kS.mono ?_
 rintro e w5 ⟨A5, c5, A6, c6, us, rfl, -, -, -, hu5, -, hb5, -, -⟩
 obtain ⟨z1, z2, rfl⟩ := opL_one hu5
 have bx := Lib.hid (Blk.new w5 27 #[.int .i64 2, .slice A5 15 c5, .slice A6 1 c6])
 have u5 := Lib.hid ((u4.out.trans (Up.of hb5)).trans (Up.alloc' w5 (.cells #[.int .i64 2, .slice A5 15 c5, .slice A6 1 c6] 27)))
 have v5 := Lib.hid ((v4.out.trans (Up.of hb5)).trans (Up.alloc' w5 (.cells #[.int .i64 2, .slice A5 15 c5, .slice A6 1 c6] 27)))
 have t5 := Lib.hid ((t4.out.trans (Up.of hb5)).trans (Up.alloc' w5 (.cells #[.int .i64 2, .slice A5 15 c5, .slice A6 1 c6] 27)))
 clear kS hu5 hb5
 go_wp2_with fail
 refine (kZ _).mono ?_
 rintro e w6 ⟨A7, c7, A8, c8, vs, rfl, -, -, -, hv6, -, hb6, -, -⟩
 obtain rfl : vs = [] := opL_nil hv6
 have s6 := Up.of hb6
 have s6 := Lib.hid (s6.trans (Up.alloc' w6 (.cells #[.int .i64 0, .slice A7 0 c7, .slice A8 0 c8] 27)))
 have kE := kE (w6.alloc (.cells #[.int .i64 0, .slice A7 0 c7, .slice A8 0 c8] 27)) (hT.below (u5.out.trans s6.out).b)
 clear hv6 hb6 kZ
 go_wp2_with fail
 refine kE.mono ?_
 rintro e wx ⟨A9, c9, rfl, -, hb9⟩
 have s9 := Lib.hid (s6.out.trans (Up.of hb9))
 clear kE hb9
 have uw := Lib.hid (u5.out.trans s9.out)
 have u3 := t5.out.trans s9.out
 have hrg := hrg.out
 have m0 : ∀ w', Up wx w' → w'.cell? ⟨b, off, none⟩ = some (.int .i64 1) := fun w' u => (u3.trans u).cell (by have := hrg 0 _ rfl; simpa [exJ] using this)
 have m1 : ∀ w', Up wx w' → w'.cell? ⟨b, off + 1, none⟩ = some (.int .i64 2) := fun w' u => (u3.trans u).cell (by have := hrg 1 _ rfl; simpa [exJ] using this)
 have m2 : ∀ w', Up wx w' → w'.cell? ⟨b, off + 2, none⟩ = some (.int .i64 0) := fun w' u => (u3.trans u).cell (by have := hrg 2 _ rfl; simpa [exJ] using this)
 have m3 : ∀ w', Up wx w' → w'.cell? ⟨b, off + 3, none⟩ = some (.int .i64 3) := fun w' u => (u3.trans u).cell (by have := hrg 3 _ rfl; simpa [exJ] using this)
 have m4 : ∀ w', Up wx w' → w'.cell? ⟨b, off + 4, none⟩ = some (.int .i64 18) := fun w' u => (u3.trans u).cell (by have := hrg 4 _ rfl; simpa [exJ] using this)
 have m5 : ∀ w', Up wx w' → w'.cell? ⟨b, off + 5, none⟩ = some (.int .i64 0) := fun w' u => (u3.trans u).cell (by have := hrg 5 _ rfl; simpa [exJ] using this)
 have m6 : ∀ w', Up wx w' → w'.cell? ⟨b, off + 6, none⟩ = some (.int .i64 0) := fun w' u => (u3.trans u).cell (by have := hrg 6 _ rfl; simpa [exJ] using this)
 have m7 : ∀ w', Up wx w' → w'.cell? ⟨b, off + 7, none⟩ = some (.int .i64 0) := fun w' u => (u3.trans u).cell (by have := hrg 7 _ rfl; simpa [exJ] using this)
 have m8 : ∀ w', Up wx w' → w'.cell? ⟨b, off + 8, none⟩ = some (.int .i64 9) := fun w' u => (u3.trans u).cell (by have := hrg 8 _ rfl; simpa [exJ] using this)
 have m9 : ∀ w', Up wx w' → w'.cell? ⟨b, off + 9, none⟩ = some (.int .i64 0) := fun w' u => (u3.trans u).cell (by have := hrg 9 _ rfl; simpa [exJ] using this)
 have m10 : ∀ w', Up wx w' → w'.cell? ⟨b, off + 10, none⟩ = some (.string ⟨#[98, 97]⟩) := fun w' u => (u3.trans u).cell (by have := hrg 10 _ rfl; simpa [exJ] using this)
 have m11 : ∀ w', Up wx w' → w'.cell? ⟨b, off + 11, none⟩ = some (.int .i64 0) := fun w' u => (u3.trans u).cell (by have := hrg 11 _ rfl; simpa [exJ] using this)
 have m12 : ∀ w', Up wx w' → w'.cell? ⟨b, off + 12, none⟩ = some (.int .i64 0) := fun w' u => (u3.trans u).cell (by have := hrg 12 _ rfl; simpa [exJ] using this)
 have m13 : ∀ w', Up wx w' → w'.cell? ⟨b, off + 13, none⟩ = some (.string ⟨#[]⟩) := fun w' u => (u3.trans u).cell (by have := hrg 13 _ rfl; simpa [exJ] using this)
 have m14 : ∀ w', Up wx w' → w'.cell? ⟨b, off + 14, none⟩ = some (.slice x1 0 x2) := fun w' u => (u3.trans u).cell (by have := hrg 14 _ rfl; simpa [exJ] using this)
 have u3 := Lib.hid u3
 have hrg := Lib.hid hrg
 have q0 : ∀ w', Up wx w' → w'.cell? ⟨w5.heap.size, 0, none⟩ = some (.int .i64 2) := fun w' u => by rw [((bx.out.up s9.out).up u).cell]; rfl
 have q2 : ∀ w', Up wx w' → w'.cell? ⟨w5.heap.size, 2, none⟩ = some (.slice A6 1 c6) := fun w' u => by rw [((bx.out.up s9.out).up u).cell]; rfl
 have k8 := k8 x1 x2
 have k27 := fun w' (u : Up wx w') => kT w' A c (hr2'.out.below ((v5.out.trans s9.out).trans u).b) hc2 (hT.below (uw.out.trans u).b)
 have k27 := Lib.hid k27
 clear kT
 go_wp2_with fail
 have k27 := k27.out
 refine wp_region_noPanic ?_
 refine wp_region_held_drew (S := fun w' => Up wx w') (by kernel_rfl) (Up.drew wx) (fun hHeld => ?_)
 refine tk 0 76 (v := ?_) ?_ ?_
 rotate_left
 ·intro w' hSw; clear hSw; go_simp; try (with_reducible rfl)
 try simp only [tkA, tkB, tkC]
 refine tk 1 77 (v := ?_) ?_ ?_
 rotate_left
 ·intro w' hSw; clear hSw; go_simp; try (with_reducible rfl)
 try simp only [tkA, tkB, tkC]
 refine tk 2 78 (v := ?_) ?_ ?_
 rotate_left
 ·intro w' hSw; clear hSw; go_simp; try (with_reducible rfl)
 try simp only [tkA, tkB, tkC]
 refine tk 3 79 (v := ?_) ?_ ?_
 rotate_left
 ·intro w' hSw; clear hSw; go_simp; try (with_reducible rfl)
 try simp only [tkA, tkB, tkC]
 refine tk 4 80 (v := ?_) ?_ ?_
 rotate_left
 ·intro w' hSw; clear hSw; go_simp; try (with_reducible rfl)
 try simp only [tkA, tkB, tkC]
 refine tk 5 81 (v := ?_) ?_ ?_
 rotate_left
 ·intro w' hSw; clear hSw; go_simp; try (with_reducible rfl)
 try simp only [tkA, tkB, tkC]
 refine tk 6 82 (v := ?_) ?_ ?_
 rotate_left
 ·intro w' hS0; go_simp; try (with_reducible rfl)
 try simp only [tkA, tkB, tkC]
 refine wpAnyH_ready (rs := [7]) (by kernel_rfl) (by simp) ?_
 refine AllReadyH.cons rfl (fun K hK => ?_) AllReadyH.nil
 go_simp
 go_at_call 9
 refine (example_any _).mono ?_
 rintro e z1 ⟨rfl, hz1⟩
 have uz1 : Up wx z1 := (Up.drew _).trans (Up.of hz1)
 refine hK.out _ _ uz1 (fun hHeld => ?_)
 clear hK K hHeld
 refine wpAnyH_more (S' := fun w' => Up z1 w') (fun w' h => Up.trans uz1 h) _ _ _ _ ?_
 have hHeld := Up.refl z1
 refine wpAnyH_ready (rs := [8]) (by kernel_rfl) (by simp) ?_
 refine AllReadyH.cons rfl (fun K hK => ?_) AllReadyH.nil
 go_simp
 go_at_call 12
 refine (k8 _).mono ?_
 rintro e z2 ⟨rfl, hz2⟩
 have uz2 : Up z1 z2 := Up.of hz2
 refine hK.out _ _ uz2 (fun hHeld => ?_)
 clear hK K hHeld
 refine wpAnyH_more (S' := fun w' => Up z2 w') (fun w' h => Up.trans uz2 h) _ _ _ _ ?_
 have hHeld := Up.refl z2
 refine tk 9 85 (v := ?_) ?_ ?_
 rotate_left
 ·intro w' hSw; clear hSw; go_simp; try (with_reducible rfl)
 try simp only [tkA, tkB, tkC]
 refine tk 10 86 (v := ?_) ?_ ?_
 rotate_left
 ·intro w' hSw; clear hSw; go_simp; try (with_reducible rfl)
 try simp only [tkA, tkB, tkC]
 refine tk 11 87 (v := ?_) ?_ ?_
 rotate_left
 ·intro w' hSw; clear hSw; go_simp; try (with_reducible rfl)
 try simp only [tkA, tkB, tkC]
 refine tk 12 88 (v := ?_) ?_ ?_
 rotate_left
 ·intro w' hS2; have hS1 := Up.trans uz2 hS2; have hS0 := Up.trans uz1 hS1; go_simp; try (with_reducible rfl)
 try simp only [tkA, tkB, tkC]
 refine tk 13 89 (v := ?_) ?_ ?_
 rotate_left
 ·intro w' hSw; clear hSw; go_simp; try (with_reducible rfl)
 try simp only [tkA, tkB, tkC]
 refine tk 14 90 (v := ?_) ?_ ?_
 rotate_left
 ·intro w' hSw; clear hSw; go_simp; try (with_reducible rfl)
 try simp only [tkA, tkB, tkC]
 refine tk 15 91 (v := ?_) ?_ ?_
 rotate_left
 ·intro w' hSw; clear hSw; go_simp; try (with_reducible rfl)
 try simp only [tkA, tkB, tkC]
 refine tk 16 92 (v := ?_) ?_ ?_
 rotate_left
 ·intro w' hSw; clear hSw; go_simp; try (with_reducible rfl)
 try simp only [tkA, tkB, tkC]
 refine tk 17 93 (v := ?_) ?_ ?_
 rotate_left
 ·intro w' hSw; clear hSw; go_simp; try (with_reducible rfl)
 try simp only [tkA, tkB, tkC]
 refine tk 18 94 (v := ?_) ?_ ?_
 rotate_left
 ·intro w' hS2; have hS1 := Up.trans uz2 hS2; have hS0 := Up.trans uz1 hS1; go_simp; try (with_reducible rfl)
 try simp only [tkA, tkB, tkC]
 refine tk 19 95 (v := ?_) ?_ ?_
 rotate_left
 ·intro w' hSw; clear hSw; go_simp; try (with_reducible rfl)
 try simp only [tkA, tkB, tkC]
 refine tk 20 96 (v := ?_) ?_ ?_
 rotate_left
 ·intro w' hSw; clear hSw; go_simp; try (with_reducible rfl)
 try simp only [tkA, tkB, tkC]
 refine tk 21 97 (v := ?_) ?_ ?_
 rotate_left
 ·intro w' hSw; clear hSw; go_simp; try (with_reducible rfl)
 try simp only [tkA, tkB, tkC]
 refine tk 22 98 (v := ?_) ?_ ?_
 rotate_left
 ·intro w' hSw; clear hSw; go_simp; try (with_reducible rfl)
 try simp only [tkA, tkB, tkC]
 refine tk 23 99 (v := ?_) ?_ ?_
 rotate_left
 ·intro w' hSw; clear hSw; go_simp; try (with_reducible rfl)
 try simp only [tkA, tkB, tkC]
 refine tk 24 100 (v := ?_) ?_ ?_
 rotate_left
 ·intro w' hSw; clear hSw; go_simp; try (with_reducible rfl)
 try simp only [tkA, tkB, tkC]
 refine tk 25 101 (v := ?_) ?_ ?_
 rotate_left
 ·intro w' hSw; clear hSw; go_simp; try (with_reducible rfl)
 try simp only [tkA, tkB, tkC]
 refine tk 26 102 (v := ?_) ?_ ?_
 rotate_left
 ·intro w' hS2; have hS1 := Up.trans uz2 hS2; have hS0 := Up.trans uz1 hS1; go_simp; try (with_reducible rfl)
 try simp only [tkA, tkB, tkC]
 refine wpAnyH_ready (rs := [27]) (by kernel_rfl) (by simp) ?_
 refine AllReadyH.cons rfl (fun K hK => ?_) AllReadyH.nil
 go_simp
 go_at_call 13
 refine (k27 _ (uz1.trans uz2)).mono ?_
 rintro e z3 ⟨cz, rfl, -, hz3⟩
 have uz3 : Up z2 z3 := Up.of hz3
 refine hK.out _ _ uz3 (fun hHeld => ?_)
 clear hK K hHeld
 refine wpAnyH_more (S' := fun w' => Up z3 w') (fun w' h => Up.trans uz3 h) _ _ _ _ ?_
 have hHeld := Up.refl z3
 refine tk 28 104 (v := ?_) ?_ ?_
 rotate_left
 ·intro w' hSw; clear hSw; go_simp; try (with_reducible rfl)
 try simp only [tkA, tkB, tkC]
 refine tk 29 105 (v := ?_) ?_ ?_
 rotate_left
 ·intro w' hSw; clear hSw; go_simp; try (with_reducible rfl)
 try simp only [tkA, tkB, tkC]
 refine tk 30 106 (v := ?_) ?_ ?_
 rotate_left
 ·intro w' hSw; clear hSw; go_simp; try (with_reducible rfl)
 try simp only [tkA, tkB, tkC]
 refine tk 31 0 (v := ?_) ?_ ?_
 rotate_left
 ·intro w' hSw; clear hSw; go_simp; try (with_reducible rfl)
 try simp only [tkA, tkB, tkC]
 refine wpAnyH_done (by kernel_rfl) ?_ _
 refine NoPanic.normal ?_
 clear hHeld
 go_wp2_with fail
 go_ret
 exact ⟨rfl, (uw.out.trans (uz1.trans (uz2.trans uz3))).b⟩
end Go.Proofs.YtcomeidcmcegfaaGreatDoor
