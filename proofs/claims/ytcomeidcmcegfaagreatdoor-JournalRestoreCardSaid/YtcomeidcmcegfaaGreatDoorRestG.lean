/-
  The walk of Restore of layer 53, in general. Conditions: the tables lie as their initialisers lay them; fewer than a hundred million bytes.
-/
import Derived.Test.YtcomeidcmcegfaaGreatDoorMergeG
import Derived.Test.YtcomeidcmcegfaaGreatDoorZT
import Derived.Test.YtcomeidcmcegfaaGreatDoorJourFew
namespace Go.Proofs.YtcomeidcmcegfaaGreatDoor
open Go.RowKit
set_option linter.unusedVariables false
set_option linter.unusedSimpArgs false
theorem jrF_len (b : List UInt8) : ∀ (f : Nat) (q : Int), (jrF b f q).1.length ≤ f := by
 intro f
 induction f with
 | zero => intro q; simp [jrF]
 | succ f ih =>
  intro q
  rw [jrF]
  split
  ·have := ih (frT b q); simp; omega
  ·simp
theorem jr_len {b : List UInt8} {xs : List OX} (h : opL xs = (jr b).1.map (·.2)) : xs.length ≤ b.length + 1 := by
 have := congrArg List.length h
 rw [opL_len, List.length_map] at this
 rw [this]; exact jrF_len b _ _
def RetRst (dev : Int) (b : List UInt8) (w : World) (e : Ending) (w' : World) : Prop := RetRep (if rstE dev b = 0 then dev else 0) (if rstE dev b = 0 then seenOf (rstL dev b) else []) (rstL dev b) (rstE dev b) w e w'
theorem rst_bad {dev : Int} (h : ¬ (1 ≤ dev ∧ dev ≤ 15)) (b : List UInt8) (w : World) : RetRst dev b w = RetRep 0 [] [] 1 w := by
 have e : rstE dev b = 1 := by unfold rstE; rw [if_pos (by omega)]
 unfold RetRst rstL
 rw [e, if_neg (by decide), if_neg (by decide), if_neg (by decide)]
theorem rst_mrg {dev : Int} (h : 1 ≤ dev ∧ dev ≤ 15) (b : List UInt8) (w : World) : RetRst dev b w = RetMrg dev (jrL b) w := by
 have e : rstE dev b = mrgE dev (jrL b) := by unfold rstE; rw [if_neg (by omega)]
 have e2 : rstL dev b = mrgL dev (jrL b) := by
  unfold rstL
  rw [e]
  by_cases h0 : mrgE dev (jrL b) = 0
  ·rw [if_pos h0]
  ·rw [if_neg h0]; unfold mrgL; rw [if_neg h0]
 unfold RetRst RetMrg
 rw [e, e2]
theorem rd_far_rep {w : World} {A : Option Addr} {l : List (Int × Int)} {g : Nat} {t : TypeId} (h : Rd w A (ovL l)) (hb : Blk w g t #[.int .i64 0, .slice none 0 0, .slice none 0 0]) : Far A (ovL l) g := by
 intro hne b off eA e
 have hl : 0 < l.length := by
  rcases l with _ | ⟨p, l⟩
  ·exact absurd rfl hne
  ·simp
 obtain ⟨b', off', eA', c0, c1⟩ := ov_cells h hl
 rw [eA] at eA'
 cases eA'
 subst e
 rw [hb.cell] at c0 c1
 rcases off with _ | _ | _ | off
 ·simp at c1
 ·simp at c0
 ·simp at c0
 ·simp at c0
set_option maxHeartbeats 8000000 in
theorem restore_any (w : World) (dev : Int) (A : Option Addr) (c : Nat) (b : List UInt8) (hr : Rd w A (b.map U8)) (hlc : b.length ≤ c) (hbl : b.length < 100000000) (hT : Tabs w) (hF : TabR w) :
 Calls Tryz.prog 5 #[.int .i64 dev, .slice A b.length c] w (RetRst dev b w) := by
 by_cases hd : 1 ≤ dev ∧ dev ≤ 15
 rotate_left
 ·rw [rst_bad hd]
  exact restore_no w dev A b.length c hd
 rw [rst_mrg hd]
 have kN := new_yes (w.alloc (.cells #[.int .i64 0, .slice none 0 0, .slice none 0 0] 27)) dev hd.1 hd.2
 have hR := Blk.new w 27 #[.int .i64 0, .slice none 0 0, .slice none 0 0]
 have hZ15 : joinZ.length = 15 := joinN_length _ _ _
 have kR := fun w' (h : Rd w' A (b.map U8)) (t : Tabs w') => read_any w' A c b h (by omega) hlc t
 have HJ : Hid (jrL b = (jr b).1.map (·.2)) := rfl
 have HL := Lib.hid (fun (xs : List OX) (h : opL xs = (jr b).1.map (·.2)) => jr_len h)
 unfold RetJr at kR
 have kM := fun w' As cs Ao co Ax cx xs hx hc hl t f => merge_any w' dev As cs Ao co Ax cx xs hx hc hl t f
 unfold RetMrg RetRep at kM
 unfold RetRep at kN
 rw [hZ15] at kN
 unfold RetMrg RetRep
 generalize hD : (if mrgE dev (jrL b) = 0 then dev else 0) = D
 generalize hS : (if mrgE dev (jrL b) = 0 then seenOf (mrgL dev (jrL b)) else []) = SZ
 generalize hE : mrgE dev (jrL b) = E
 generalize hML : mrgL dev (jrL b) = ML
 have HD := Lib.hid hD
 have HS := Lib.hid hS
 have HE := Lib.hid hE
 have HML := Lib.hid hML
 have HBL := Lib.hid hbl
 clear hd hbl hD hS hE hML
 generalize joinZ = JZ at *
 go_enter Tryz.func5, Tryz.ntmps5
 go_wp2_with fail
 refine kN.mono ?_
 rintro e w1 ⟨As, cs, Ao, co, xs, rfl, hRs, hcs, hOs, hxs, hco, hb1, -, -⟩
 obtain rfl : xs = [] := opL_nil hxs
 have hu0 : Up w (w.alloc (.cells #[.int .i64 0, .slice none 0 0, .slice none 0 0] 27)) := Up.alloc' _ _
 have hu1 := Up.of hb1
 have hu01 := Lib.hid (hu0.trans hu1)
 have hR1 := Lib.hid (hR.up hu1)
 have uR := Up.alloc' w1 (.cells #[.int .i64 dev, .slice As 15 cs, .slice Ao 0 co] 27)
 have hBx := Blk.new w1 27 #[.int .i64 dev, .slice As 15 cs, .slice Ao 0 co]
 have kR := kR _ (hr.below (hu01.out.trans uR).b) (hT.below (hu01.out.trans uR).b)
 have uR := Lib.hid uR
 have hBx := Lib.hid hBx
 clear kN hu0 hu1 hR hb1 hRs hcs hOs hxs hco
 go_wp2_with fail
 refine kR.mono ?_
 rintro e w2 ⟨ys, A2, c2, rfl, hys, hO2, hc2, hb2⟩
 have hyl := HL.out ys hys
 have hu2 := Lib.hid (Up.of hb2)
 have hBx2 := hBx.out.up hu2.out
 have r0 : w2.cell? ⟨w1.heap.size, 0, none⟩ = some (.int .i64 dev) := by rw [hBx2.cell]; rfl
 have r1 : w2.cell? ⟨w1.heap.size, 1, none⟩ = some (.slice As 15 cs) := by rw [hBx2.cell]; rfl
 have r2 : w2.cell? ⟨w1.heap.size, 2, none⟩ = some (.slice Ao 0 co) := by rw [hBx2.cell]; rfl
 have uu2 := Lib.hid ((hu01.out.trans uR.out).trans hu2.out)
 have kM := kM w2 As cs Ao co A2 c2 ys hO2 hc2 (by have := HBL.out; omega) (hT.below uu2.out.b) (hF.below uu2.out.b)
 rw [hys.trans HJ.out.symm, HD.out, HS.out, HE.out, HML.out] at kM
 have hR2 := Lib.hid ((hR1.out.up uR.out).up hu2.out)
 clear kR hys hO2 hb2 hBx2 HJ HL
 go_wp2_with fail
 refine kM.mono ?_
 rintro e w3 ⟨A3, c3, A4, c4, zs, rfl, hR3, hc3, hO3, hz3, hc4, hb3, fr3, fr4⟩
 have hR3' := hR2.out.up (Up.of hb3)
 have c0 : w3.cell? ⟨w.heap.size, 0, none⟩ = some (.int .i64 0) := by rw [hR3'.cell]; rfl
 have c1 : w3.cell? ⟨w.heap.size, 1, none⟩ = some (.slice none 0 0) := by rw [hR3'.cell]; rfl
 have c2' : w3.cell? ⟨w.heap.size, 2, none⟩ = some (.slice none 0 0) := by rw [hR3'.cell]; rfl
 have f0 := hR3'.free 0
 have f1 := hR3'.free 1
 have f2 := hR3'.free 2
 have HR3 := Lib.hid hR3'
 have uu3 := Lib.hid (uu2.out.trans (Up.of hb3))
 clear kM hR3' r0 r1 r2 hb3
 go_wp2_with fail
 have hlt0 : w.heap.size < w2.heap.size := hR2.out.lt
 refine bodyPost_ret (v := .tuple #[.agg #[.int .i64 D, .slice A3 SZ.length c3, .slice A4 zs.length c4], .int .i64 E]) (by simp [results, Tryz.results5, go_sem, c0, c1, c2']) rfl ⟨A3, c3, A4, c4, zs, rfl, ?_, hc3, ⟨?_, ?_⟩, hz3, hc4, ?_, fr3.lower (by omega), fr4.lower (by omega)⟩
 ·exact ((hR3.set (fr3.far hlt0) 0 _).set (fr3.far hlt0) 1 _).set (fr3.far hlt0) 2 _
 ·exact ((hO3.rd.set (fr4.far hlt0) 0 _).set (fr4.far hlt0) 1 _).set (fr4.far hlt0) 2 _
 ·intro z hz
  have k := hO3.ok z hz
  have hf := rd_far_rep k.rd HR3.out
  exact ⟨k.bd, ((k.rd.set hf 0 _).set hf 1 _).set hf 2 _, k.cap⟩
 ·exact ((uu3.out.b.setCell (p := ⟨w.heap.size, 0, none⟩) (Nat.le_refl _) _).setCell (p := ⟨w.heap.size, 1, none⟩) (Nat.le_refl _) _).setCell (p := ⟨w.heap.size, 2, none⟩) (Nat.le_refl _) _
end Go.Proofs.YtcomeidcmcegfaaGreatDoor
