/-
  How a replica among the arguments is opened. Conditions: none.
  The walk of JournalPower of the statements of layer 53. Conditions: the tables lie as their initialisers lay them.
-/
import Derived.Test.YtcomeidcmcegfaaDoorZL
import Derived.Test.YtcomeidcmcegfaaDoorZE
import Derived.Test.YtcomeidcmcegfaaDoorRestG
import Derived.Test.YtcomeidcmcegfaaDoorZW
namespace Go.Proofs.YtcomeidcmcegfaaDoor
open Go.RowKit Go.ChangeShapes Go.WideShapes
set_option linter.unusedVariables false
section
variable {H : Type} {enc : TypeId × Value → H} {W : World} {base : Nat} {r : Reach} {b0 : Nat} {v : Value} {d : DataW H} {p : List MemPlace}
theorem fld_ops {fuel : Nat} {x : DataW H × List MemPlace} (h : DataW.trod enc Tryd.prog W base (fun _ => true) true fuel 22 [v] = some x) :
 ∃ (A : Option Addr) (xs : List OX) (c : Nat), v = .slice A xs.length c ∧ Rd W A (opsC xs) ∧ xs.length ≤ maxLen ∧ (∀ x ∈ xs, x.Ok W) ∧ xs.length ≤ c :=
 fld_list OX.cs (OX.Ok W) Tryd.underlying22 (by kernel_rfl) (by omega) OX.cs_len (fun m cs y hy => fld_op hy) h
set_option maxRecDepth 100000 in
theorem arg_rep (hv : Value.okWide Tryd.prog W r b0 51 v) (h : DataW.Trod enc Tryd.prog W base (fun _ => true) true 51 v d p) :
 ∃ (dev : Int) (As : Option Addr) (seen : List Int) (cs : Nat) (Ax : Option Addr) (xs : List OX) (cx : Nat), v = .agg #[.int .i64 dev, .slice As seen.length cs, .slice Ax xs.length cx] ∧ Rd W As (seen.map I64) ∧ seen.length ≤ maxLen ∧ Rd W Ax (opsC xs) ∧ xs.length ≤ maxLen ∧ (∀ x ∈ xs, x.Ok W) ∧ xs.length ≤ cx := by
 obtain ⟨cells, rfl, hsz⟩ := okWide_struct Tryd.underlying51 hv
 obtain ⟨fuel, hf⟩ := h
 have hl := len_of Tryd.underlying51 hf
 rw [show Tryd.prog.cellsOf 51 = 3 by kernel_rfl] at hl
 obtain ⟨m0, y0, g0⟩ := fld_at2 Tryd.underlying51 hf 0 rfl 3 0 1 rfl rfl (by kernel_rfl)
 obtain ⟨m1, y1, g1⟩ := fld_at2 Tryd.underlying51 hf 1 rfl 49 1 1 rfl rfl (by kernel_rfl)
 obtain ⟨m2, y2, g2⟩ := fld_at2 Tryd.underlying51 hf 2 rfl 22 2 1 rfl rfl (by kernel_rfl)
 obtain ⟨l⟩ := cells
 obtain ⟨x0, x1, x2, rfl⟩ : ∃ x0 x1 x2, l = [x0, x1, x2] := by
  have hl' : l.length = 3 := hl
  clear hl hf g0 g1 g2 hv hsz
  rcases l with _ | ⟨x0, _ | ⟨x1, _ | ⟨x2, _ | ⟨x3, l⟩⟩⟩⟩
  ·simp at hl'
  ·simp at hl'
  ·simp at hl'
  ·exact ⟨_, _, _, rfl⟩
  ·simp at hl'
 obtain ⟨n, rfl, bn⟩ := fld_i64 Tryd.underlying3 g0
 obtain ⟨As, seen, cs, rfl, h1, h2, -, h4⟩ := fld_ints Tryd.underlying49 Tryd.underlying3 (by kernel_rfl) g1
 obtain ⟨Ax, xs, cx, rfl, k1, k2, k3, k4⟩ := fld_ops g2
 exact ⟨n, As, seen, cs, Ax, xs, cx, rfl, h1, h2, k1, k2, k3, k4⟩
end
end Go.Proofs.YtcomeidcmcegfaaDoor
namespace Go.Proofs.YtcomeidcmcegfaaDoor
open Go.RowKit
set_option linter.unusedVariables false
set_option linter.unusedSimpArgs false
theorem light_facts {dev : Int} {seen : List Int} {l : List OP} (h : lightB dev seen l = true) : l.length ≤ 16 ∧ (1 ≤ dev ∧ dev ≤ 15) ∧ RightL l ∧ seen = seenOf l := by
 unfold lightB at h
 rw [Bool.and_eq_true, Bool.and_eq_true, decide_eq_true_iff, decide_eq_true_iff, beq_iff_eq] at h
 obtain ⟨h1, -, h2⟩ := h
 rw [chkE_first] at h2
 by_cases hd : dev < 1 ∨ 15 < dev
 ·rw [if_pos hd] at h2; cases h2
 rw [if_neg hd, if_neg (by omega)] at h2
 by_cases hc : chkX firstAdd [] l = 0
 ·rw [if_pos hc] at h2
  by_cases hs : seen = seenOf l
  ·exact ⟨h1, by omega, hc, hs⟩
  ·rw [if_neg hs] at h2; cases h2
 ·rw [if_neg hc] at h2; exact absurd h2 hc
theorem rst_ret {l : List OP} (h : RightL l) {dev : Int} (hd : 1 ≤ dev ∧ dev ≤ 15) (hl : l.length ≤ 400) {b : List UInt8} (hb : jrL b = l) (w : World) : RetRst dev b w = RetRep dev (seenOf l) l 0 w := by
 obtain ⟨e1, e2⟩ := rst_right h hd hl hb
 unfold RetRst
 rw [e1, if_pos rfl, if_pos rfl, e2]
set_option maxRecDepth 100000 in
set_option maxHeartbeats 16000000 in
theorem walk_JournalPower (w : World) (dev : Int) (As : Option Addr) (cs : Nat) (seen : List Int) (hs : Rd w As (seen.map I64)) (hsl : seen.length ≤ maxLen) (Ax : Option Addr) (cx : Nat) (xs : List OX) (hr : Rd w Ax (opsC xs)) (hxl : xs.length ≤ maxLen) (hg : ∀ x ∈ xs, x.Ok w) (hxc : xs.length ≤ cx)
 (at_ : Int) (ba : -9223372036854775808 ≤ at_ ∧ at_ ≤ 9223372036854775807) (hT : Tabs w) (hF : TabR w) :
 Calls Tryd.prog 10 #[.agg #[.int .i64 dev, .slice As seen.length cs, .slice Ax xs.length cx], .int .i64 at_] w fun e w' => e = .returned (.bool true) ∧ Below w.heap.size w w' := by
 have hX : OpsRd w Ax xs := ⟨hr, hg⟩
 clear hr hg
 have hb0 := Up.alloc' w (.cells #[.int .i64 dev, .slice As seen.length cs, .slice Ax xs.length cx] 51)
 have hB := Blk.new w 51 #[.int .i64 dev, .slice As seen.length cs, .slice Ax xs.length cx]
 have kL := rlight_any _ dev As cs seen Ax cx xs (hs.below hb0.b) hsl (hX.below hb0.b) hxc
 have HB0 := Lib.hid hb0
 rcases hl : lightB dev seen (opL xs) with _ | _
 ·rw [hl] at kL
  clear hl hB hb0
  go_enter Tryd.func10, Tryd.ntmps10
  go_wp2_with fail
  refine kL.mono ?_
  rintro e w2 ⟨rfl, hb2⟩
  have U2 := Lib.hid (HB0.out.trans (Up.of hb2))
  clear kL hb2
  go_wp2_with fail
  refine (awake_any _ (hT.below U2.out.b) (hF.below U2.out.b)).mono ?_
  rintro e w3 ⟨rfl, hb3⟩
  go_wp2_with fail
  go_ret
  exact ⟨rfl, stepB U2.out.b hb3⟩
 obtain ⟨h16, hd, hRight, hseen⟩ := light_facts hl
 rw [opL_len] at h16
 rw [hl] at kL
 have hE : wrtE (opL xs) = 0 := by
  have h1 := fstE_of hRight.all
  have h2 := catE_len (opL xs)
  rw [opL_len] at h2
  exact (wrt_ok h1 (by omega)).1
 have hRt : Rt (opL xs) := Rt.of hE (fun o ho => by obtain ⟨y, hy, rfl⟩ := List.mem_map.1 ho; exact (hX.ok y hy).bd)
 obtain ⟨-, hL1, hB1⟩ := wrt_good hE
 have kW := fun w' (u : Up w w') => write_any w' Ax cx xs (hX.below u.b) (by omega) (hT.below u.b)
 rw [hE, hB1] at kW
 have kR := fun w' A c b (u : Up w w') (h : Rd w' A (b.map U8)) hc hl => restore_any w' dev A c b h hc hl (hT.below u.b) (hF.below u.b)
 have hj1 : jrL (catE (opL xs)) = opL xs := (jr_all _ hRt).1
 have hrst := fun w' => rst_ret hRight hd (by rw [opL_len]; omega) hj1 w'
 have kRd := fun w' A c b (u : Up w w') (h : Rd w' A (b.map U8)) hl hc => read_any w' A c b h hl hc (hT.below u.b)
 have hcut := Lib.hid (fun (a : Nat) (ha : a ≤ (catE (opL xs)).length) => jrL_cut hRt (c := a) ha)
 have HR := Lib.hid hRight
 have HD := Lib.hid hd
 have HS := Lib.hid hseen
 have H16 := Lib.hid h16
 clear hl hE hRt hB1 hj1 hRight hd hseen
 generalize catE (opL xs) = L at *
 go_enter Tryd.func10, Tryd.ntmps10
 go_wp2_with fail
 refine kL.mono ?_
 rintro e w2 ⟨rfl, hb2⟩
 have U2 := Lib.hid (HB0.out.trans (Up.of hb2))
 have hB2 := hB.up (Up.of hb2)
 have c2 : w2.cell? ⟨w.heap.size, 2, none⟩ = some (.slice Ax xs.length cx) := by rw [hB2.cell]; rfl
 have kW := kW w2 U2.out
 clear kL hb2 hB hb0
 go_wp2_with fail
 refine kW.mono ?_
 rintro e w3 ⟨A3, c3, rfl, ho3, hb3⟩
 have U3 := Lib.hid (U2.out.trans (Up.of hb3))
 have hB3 := hB2.up (Up.of hb3)
 have c0 : w3.cell? ⟨w.heap.size, 0, none⟩ = some (.int .i64 dev) := by rw [hB3.cell]; rfl
 have hr3 := ho3.rd'
 have hc3 : L.length ≤ c3 := by
  obtain ⟨A9, c9, e9, h9, -⟩ := ho3.form
  cases e9; exact h9
 have kR1 := kR w3 A3 c3 L U3.out hr3 hc3 (by omega)
 rw [hrst] at kR1
 unfold RetRep at kR1
 rw [seenOf_len] at kR1
 have Hr3 := Lib.hid hr3
 have Hc3 := Lib.hid hc3
 clear kW hb3 ho3 c2 hB2 hrst hr3 hc3
 go_wp2_with fail
 refine kR1.mono ?_
 rintro e w4 ⟨A4, c4, X4, k4, zs, rfl, hRs4, hcs4, hOs4, hzs, hco4, hb4, -, -⟩
 have U4 := Lib.hid (U3.out.trans (Up.of hb4))
 have u5 : Up w4 (w4.alloc (.cells #[.int .i64 dev, .slice A4 15 c4, .slice X4 zs.length k4] 51)) := Up.alloc' _ _
 have kS := rrepSame_any (w4.alloc (.cells #[.int .i64 dev, .slice A4 15 c4, .slice X4 zs.length k4] 51)) dev dev A4 As c4 cs (seenOf (opL xs)) seen X4 Ax k4 cx zs xs (hRs4.below u5.b) (hs.below (U4.out.trans u5).b) (by rw [seenOf_len]; unfold maxLen; omega) hsl (hOs4.below u5.b) (hX.below (U4.out.trans u5).b) (by have h := congrArg List.length hzs; rw [opL_len, opL_len] at h; rw [h]; exact hxl) hxl
 rw [show sameR dev dev (seenOf (opL xs)) seen (opL zs) (opL xs) = true by unfold sameR; rw [HS.out, hzs, sameL_self]; simp, seenOf_len] at kS
 have hB5 := (hB3.up (Up.of hb4)).up u5
 have b0 : (w4.alloc (.cells #[.int .i64 dev, .slice A4 15 c4, .slice X4 zs.length k4] 51)).cell? ⟨w.heap.size, 0, none⟩ = some (.int .i64 dev) := by rw [hB5.cell]; rfl
 have b1 : (w4.alloc (.cells #[.int .i64 dev, .slice A4 15 c4, .slice X4 zs.length k4] 51)).cell? ⟨w.heap.size, 1, none⟩ = some (.slice As seen.length cs) := by rw [hB5.cell]; rfl
 have b2 : (w4.alloc (.cells #[.int .i64 dev, .slice A4 15 c4, .slice X4 zs.length k4] 51)).cell? ⟨w.heap.size, 2, none⟩ = some (.slice Ax xs.length cx) := by rw [hB5.cell]; rfl
 have U5 := Lib.hid (U4.out.trans u5)
 have Hr5 := Lib.hid (Hr3.out.below ((Up.of hb4).trans u5).b)
 have HB5 := Lib.hid hB5
 clear kR1 hRs4 hcs4 hOs4 hzs hco4 hb4 u5 hB3 c0 hB5 Hr3
 go_wp2_with fail
 refine kS.mono ?_
 rintro e w6 ⟨rfl, hb6⟩
 have U6 := Lib.hid (U5.out.trans (Up.of hb6))
 have Hr6 := Lib.hid (Hr5.out.below hb6)
 have HB6 := Lib.hid (HB5.out.up (Up.of hb6))
 clear kS hb6 Hr5 HB5 b0 b1 b2
 by_cases h0 : at_ < 0
 ·have t1 : decide (at_ < 0) = true := decide_eq_true h0
  clear h0
  go_wp2_with fail
  refine (awake_any _ (hT.below U6.out.b) (hF.below U6.out.b)).mono ?_
  rintro e w9 ⟨rfl, hb9⟩
  go_wp2_with fail
  go_ret
  exact ⟨rfl, stepB U6.out.b hb9⟩
 have t1 : decide (at_ < 0) = false := decide_eq_false h0
 obtain ⟨a, rfl⟩ : ∃ a : Nat, at_ = (a : Int) := ⟨at_.toNat, by omega⟩
 by_cases h1 : L.length < a
 ·have t2 : decide ((L.length : Int) < (a : Int)) = true := decide_eq_true (by omega)
  have t2n : decide (L.length < a) = true := decide_eq_true (by omega)
  clear h0 h1
  go_wp2_with fail
  refine (awake_any _ (hT.below U6.out.b) (hF.below U6.out.b)).mono ?_
  rintro e w9 ⟨rfl, hb9⟩
  go_wp2_with fail
  go_ret
  exact ⟨rfl, stepB U6.out.b hb9⟩
 have t2 : decide ((L.length : Int) < (a : Int)) = false := decide_eq_false (by omega)
 have t2n : decide (L.length < a) = false := decide_eq_false (by omega)
 obtain ⟨m, hm, hjm⟩ := hcut.out a (by omega)
 have hal : (L.take a).length = a := by rw [List.length_take]; omega
 have hsb : ∀ w', (Instr.slice 25 (.slice A3 L.length c3) none (some (.int .i64 (a : Int))) none).run Tryd.prog w' = .ok (.slice A3 a c3) w' := fun w' => slice_to A3 c3 L.length Hc3.out a a rfl (by omega) w'
 have kR2 := fun w' (u : Up w6 w') => kR w' A3 c3 (L.take a) (U6.out.trans u) ((Hr6.out.below u.b).take8 a) (by rw [hal]; have := Hc3.out; omega) (by rw [hal]; omega)
 have hrst2 := fun w' => rst_ret (HR.out.take m) HD.out (by rw [List.length_take, opL_len]; have := H16.out; omega) hjm w'
 simp only [hrst2, hal] at kR2
 unfold RetRep at kR2
 simp only [seenOf_len] at kR2
 have kRd2 := fun w' (u : Up w6 w') => kRd w' A3 c3 (L.take a) (U6.out.trans u) ((Hr6.out.below u.b).take8 a) (by rw [hal]; omega) (by rw [hal]; have := Hc3.out; omega)
 simp only [hal] at kRd2
 unfold RetJr at kRd2
 have Hjm : Hid ((jr (L.take a)).1.map (·.2) = (opL xs).take m) := hjm
 have s0 : ∀ w', Up w6 w' → w'.cell? ⟨w.heap.size, 0, none⟩ = some (.int .i64 dev) := fun w' u => by rw [(HB6.out.up u).cell]; rfl
 clear kR kRd hcut h0 h1 hjm hrst2 hal
 go_wp2_with fail
 refine wp_cutA (fun a0 a' w' => ∃ (G : Nat) (A' : Option Addr) (c' : Nat) (X' : Option Addr) (k' : Nat) (zs : List OX), a' = { tmps := (((((((((((a0.tmps.setIfInBounds 50 (.pointer (some ⟨w.heap.size, 0, none⟩))).setIfInBounds 51 (.int .i64 dev)).setIfInBounds 52 (.slice A3 L.length c3)).setIfInBounds 53 (.int .i64 a)).setIfInBounds 54 (.slice A3 a c3)).setIfInBounds 55 (.tuple #[.agg #[.int .i64 dev, .slice A' 15 c', .slice X' zs.length k'], .int .i64 0])).setIfInBounds 49 (.tuple #[.agg #[.int .i64 dev, .slice A' 15 c', .slice X' zs.length k'], .int .i64 0])).setIfInBounds 56 (.agg #[.int .i64 dev, .slice A' 15 c', .slice X' zs.length k'])).setIfInBounds 57 (.int .i64 0)).setIfInBounds 9 (.pointer (some ⟨G, 0, none⟩))).setIfInBounds 10 (.int .i64 0)), defers := [] } ∧ Blk w' G 51 #[.int .i64 dev, .slice A' 15 c', .slice X' zs.length k'] ∧ Rd w' A' ((seenOf ((opL xs).take m)).map I64) ∧ 15 ≤ c' ∧ OpsRd w' X' zs ∧ opL zs = (opL xs).take m ∧ zs.length ≤ k' ∧ Up w6 w') ?_ ?_
 refine wp_region_noPanic ?_
 refine wp_region_held_drew (S := fun w' => Up w6 w') (by kernel_rfl) (Up.drew w6) (fun hHeld => ?_)
 refine tk 0 50 (v := ?_) ?_ ?_
 rotate_left
 ·intro w' hSw; clear hSw; go_simp; try (with_reducible rfl)
 try simp only [tkA, tkB, tkC]
 refine tk 1 51 (v := ?_) ?_ ?_
 rotate_left
 ·intro w' hS0; go_simp; try (with_reducible rfl)
 try simp only [tkA, tkB, tkC]
 refine tk 2 52 (v := ?_) ?_ ?_
 rotate_left
 ·intro w' hSw; clear hSw; go_simp; try (with_reducible rfl)
 try simp only [tkA, tkB, tkC]
 refine tk 3 53 (v := ?_) ?_ ?_
 rotate_left
 ·intro w' hSw; clear hSw; go_simp; try (with_reducible rfl)
 try simp only [tkA, tkB, tkC]
 refine tk 4 54 (v := ?_) ?_ ?_
 rotate_left
 ·intro w' hS0; go_simp; try (with_reducible rfl)
 try simp only [tkA, tkB, tkC]
 refine wpAnyH_ready (rs := [5, 9]) (by kernel_rfl) (by simp) ?_
 refine AllReadyH.cons rfl (fun K hK => ?_) (AllReadyH.cons rfl (fun K hK => ?_) AllReadyH.nil)
 ·go_simp
  go_at_call 25
  refine (kR2 _ (Up.drew _)).mono ?_
  rintro e w4 ⟨A', c', X', k', zs, rfl, hRs, hcs, hOs, hzs, hco, hb4, hf1, hf2⟩
  have hu4 : Up w6 w4 := (Up.drew _).trans (Up.of hb4)
  refine hK.out _ _ hu4 (fun hHeld => ?_)
  clear hK K
  refine tk 6 49 (v := ?_) ?_ ?_
  rotate_left
  ·intro w' hSw; clear hSw; go_simp; try (with_reducible rfl)
  try simp only [tkA, tkB, tkC]
  refine tk 7 56 (v := ?_) ?_ ?_
  rotate_left
  ·intro w' hSw; clear hSw; go_simp; try (with_reducible rfl)
  try simp only [tkA, tkB, tkC]
  refine tk 8 57 (v := ?_) ?_ ?_
  rotate_left
  ·intro w' hSw; clear hSw; go_simp; try (with_reducible rfl)
  try simp only [tkA, tkB, tkC]
  refine wpAnyH_ready (rs := [9]) (by kernel_rfl) (by simp) ?_
  refine AllReadyH.cons rfl (fun K hK => ?_) AllReadyH.nil
  go_simp
  refine hK.out _ _ (hu4.trans (Up.alloc' _ _)) (fun hHeld => ?_)
  clear hK K
  refine wpAnyH_ready (rs := [10]) (by kernel_rfl) (by simp) ?_
  refine AllReadyH.cons rfl (fun K hK => ?_) AllReadyH.nil
  go_simp
  refine hK.out _ _ (hu4.trans (Up.alloc' _ _)) (fun hHeld => ?_)
  clear hK K
  refine tk 11 10 (v := ?_) ?_ ?_
  rotate_left
  ·intro w' hSw; clear hSw; go_simp; try (with_reducible rfl)
  try simp only [tkA, tkB, tkC]
  refine wpAnyH_done (by kernel_rfl) ?_ _
  refine NoPanic.normal ?_
  clear hHeld
  exact ⟨rfl, _, A', c', X', k', zs, rfl, Blk.new _ _ _, hRs.below (Up.alloc' _ _).b, hcs, hOs.below (Up.alloc' _ _).b, hzs, hco, hu4.trans (Up.alloc' _ _)⟩
 ·go_simp
  refine hK.out _ _ ((Up.drew _).trans (Up.alloc' _ _)) (fun hHeld => ?_)
  clear hK K
  refine wpAnyH_ready (rs := [5]) (by kernel_rfl) (by simp) ?_
  refine AllReadyH.cons rfl (fun K hK => ?_) AllReadyH.nil
  go_simp
  go_at_call 25
  refine (kR2 _ hHeld).mono ?_
  rintro e w4 ⟨A', c', X', k', zs, rfl, hRs, hcs, hOs, hzs, hco, hb4, hf1, hf2⟩
  have hu4 : Up w6 w4 := hHeld.trans (Up.of hb4)
  have hG4 : Blk w4 w6.heap.size 51 #[.int .i64 0, .slice none 0 0, .slice none 0 0] := (Blk.new w6.drew 51 #[.int .i64 0, .slice none 0 0, .slice none 0 0]).up (Up.of hb4)
  have g0 : w4.cell? ⟨w6.heap.size, 0, none⟩ = some (.int .i64 0) := by rw [hG4.cell]; rfl
  have g1 : w4.cell? ⟨w6.heap.size, 1, none⟩ = some (.slice none 0 0) := by rw [hG4.cell]; rfl
  have g2 : w4.cell? ⟨w6.heap.size, 2, none⟩ = some (.slice none 0 0) := by rw [hG4.cell]; rfl
  have e0 := hG4.free 0
  have e1 := hG4.free 1
  have e2 := hG4.free 2
  refine hK.out _ _ hu4 (fun hHeld => ?_)
  clear hK K
  refine tk 6 49 (v := ?_) ?_ ?_
  rotate_left
  ·intro w' hSw; clear hSw; go_simp; try (with_reducible rfl)
  try simp only [tkA, tkB, tkC]
  refine tk 7 56 (v := ?_) ?_ ?_
  rotate_left
  ·intro w' hSw; clear hSw; go_simp; try (with_reducible rfl)
  try simp only [tkA, tkB, tkC]
  refine tk 8 57 (v := ?_) ?_ ?_
  rotate_left
  ·intro w' hSw; clear hSw; go_simp; try (with_reducible rfl)
  try simp only [tkA, tkB, tkC]
  refine wpAnyH_ready (rs := [10]) (by kernel_rfl) (by simp) ?_
  refine AllReadyH.cons rfl (fun K hK => ?_) AllReadyH.nil
  go_simp
  have hu5 : Up w6 (((w4.setCell ⟨w6.heap.size, 0, none⟩ (.int .i64 dev)).setCell ⟨w6.heap.size, 1, none⟩ (.slice A' 15 c')).setCell ⟨w6.heap.size, 2, none⟩ (.slice X' zs.length k')) := Up.of (((hu4.b.setCell (p := ⟨w6.heap.size, 0, none⟩) (Nat.le_refl _) _).setCell (p := ⟨w6.heap.size, 1, none⟩) (Nat.le_refl _) _).setCell (p := ⟨w6.heap.size, 2, none⟩) (Nat.le_refl _) _)
  refine hK.out _ _ hu5 (fun hHeld => ?_)
  clear hK K
  refine tk 11 10 (v := ?_) ?_ ?_
  rotate_left
  ·intro w' hSw; clear hSw; go_simp; try (with_reducible rfl)
  try simp only [tkA, tkB, tkC]
  refine wpAnyH_done (by kernel_rfl) ?_ _
  refine NoPanic.normal ?_
  clear hHeld
  have hlt : w6.heap.size < (w6.drew.alloc (.cells #[.int .i64 0, .slice none 0 0, .slice none 0 0] 51)).heap.size := by rw [World.size_alloc]; exact Nat.lt_succ_self _
  have q1 := hf1.far hlt
  have q2 := hf2.far hlt
  exact ⟨rfl, _, A', c', X', k', zs, rfl, ((hG4.set 0 _).set 1 _).set 2 _, ((hRs.set q1 0 _).set q1 1 _).set q1 2 _, hcs, ⟨((hOs.rd.set q2 0 _).set q2 1 _).set q2 2 _, fun z hz => ⟨(hOs.ok z hz).bd, (((hOs.ok z hz).rd.set (rd_far_rep (hOs.ok z hz).rd hG4) 0 _).set (rd_far_rep (hOs.ok z hz).rd hG4) 1 _).set (rd_far_rep (hOs.ok z hz).rd hG4) 2 _, (hOs.ok z hz).cap⟩⟩, hzs, hco, hu5⟩
 rintro a' w9 ⟨G, A', c', X', k', zs, rfl, hG, hRs, hcs, hOs, hzs, hco, u9⟩
 simp only [List.setIfInBounds_toArray, List.set_cons_zero, List.set_cons_succ]
 have kRd2 := kRd2 w9 u9
 have U9 := Lib.hid (U6.out.trans u9)
 have HB9 := Lib.hid (HB6.out.up u9)
 clear kR2 s0 u9
 go_wp2_with fail
 refine kRd2.mono ?_
 rintro e wx ⟨ys, A7, c7, rfl, hys, hOy, hcy, hbx⟩
 have ux := Lib.hid (Up.of hbx)
 have hGx := Lib.hid (hG.up (Up.of hbx))
 have HBx := Lib.hid (HB9.out.up (Up.of hbx))
 have Ux := Lib.hid (U9.out.trans (Up.of hbx))
 have hyl : ys.length = m := by
  have h := congrArg List.length (hys.trans Hjm.out)
  rw [opL_len, List.length_take, opL_len] at h
  rw [opL_len] at hm
  omega
 have hzl : zs.length = m := by
  have h := congrArg List.length hzs
  rw [opL_len, List.length_take, opL_len] at h
  rw [opL_len] at hm
  omega
 have hmx : m ≤ xs.length := by rw [opL_len] at hm; exact hm
 have hlm : (xs.take m).length = m := by rw [List.length_take]; omega
 have kSm := fun w' (u : Up wx w') => same_any w' X' Ax k' cx zs (xs.take m) (hOs.below (ux.out.trans u).b) ((hX.takeK m).below (Ux.out.trans u).b) (by have := H16.out; unfold maxLen; omega) (by have := H16.out; unfold maxLen; omega)
 have kCk := fun w' (u : Up wx w') => rrepCheck_any w' dev A' c' (seenOf ((opL xs).take m)) X' k' zs (hRs.below (ux.out.trans u).b) (by rw [seenOf_len]; unfold maxLen; omega) (hOs.below (ux.out.trans u).b) hco
 have kAw := fun w' (u : Up wx w') => awake_any w' (hT.below (Ux.out.trans u).b) (hF.below (Ux.out.trans u).b)
 rw [hzs, ← opL_take, sameL_self, hlm, hzl] at kSm
 rw [hzs, chkE_right (HR.out.take m) HD.out (by rw [List.length_take, opL_len]; have := H16.out; omega), seenOf_len, hzl] at kCk
 have hsx : ∀ w', (Instr.slice 22 (.slice Ax xs.length cx) none (some (.int .i64 (m : Int))) none).run Tryd.prog w' = .ok (.slice Ax m cx) w' := fun w' => slice_opsH Ax cx xs.length hxc m m rfl hmx w'
 have q1 : decide ((m : Int) ≤ (xs.length : Int)) = true := decide_eq_true (by omega)
 have q2 : decide (m ≤ xs.length) = true := decide_eq_true hmx
 rw [hzl] at hGx ⊢
 rw [hyl]
 have s0 : ∀ w', Up wx w' → w'.cell? ⟨w.heap.size, 0, none⟩ = some (.int .i64 dev) := fun w' u => by rw [(HBx.out.up u).cell]; rfl
 have s2 : ∀ w', Up wx w' → w'.cell? ⟨w.heap.size, 2, none⟩ = some (.slice Ax xs.length cx) := fun w' u => by rw [(HBx.out.up u).cell]; rfl
 have g0 : ∀ w', Up wx w' → w'.cell? ⟨G, 0, none⟩ = some (.int .i64 dev) := fun w' u => by rw [(hGx.out.up u).cell]; rfl
 have g1 : ∀ w', Up wx w' → w'.cell? ⟨G, 1, none⟩ = some (.slice A' 15 c') := fun w' u => by rw [(hGx.out.up u).cell]; rfl
 have g2 : ∀ w', Up wx w' → w'.cell? ⟨G, 2, none⟩ = some (.slice X' m k') := fun w' u => by rw [(hGx.out.up u).cell]; rfl
 clear hG hRs hcs hOs hzs hco hys hOy hcy hbx hlm kRd2 hsb hm hmx
 go_wp2_with fail
 refine wp_region_noPanic ?_
 refine wp_region_held_drew (S := fun w' => Up wx w') (by kernel_rfl) (Up.drew wx) (fun hHeld => ?_)
 refine tk 0 65 (v := ?_) ?_ ?_
 rotate_left
 ·intro w' hSw; clear hSw; go_simp; try (with_reducible rfl)
 try simp only [tkA, tkB, tkC]
 refine tk 1 66 (v := ?_) ?_ ?_
 rotate_left
 ·intro w' hSw; clear hSw; go_simp; try (with_reducible rfl)
 try simp only [tkA, tkB, tkC]
 refine tk 2 67 (v := ?_) ?_ ?_
 rotate_left
 ·intro w' hSw; clear hSw; go_simp; try (with_reducible rfl)
 try simp only [tkA, tkB, tkC]
 refine tk 3 68 (v := ?_) ?_ ?_
 rotate_left
 ·intro w' hSw; clear hSw; go_simp; try (with_reducible rfl)
 try simp only [tkA, tkB, tkC]
 refine tk 4 69 (v := ?_) ?_ ?_
 rotate_left
 ·intro w' hS0; go_simp; try (with_reducible rfl)
 try simp only [tkA, tkB, tkC]
 refine tk 5 70 (v := ?_) ?_ ?_
 rotate_left
 ·intro w' hSw; clear hSw; go_simp; try (with_reducible rfl)
 try simp only [tkA, tkB, tkC]
 refine tk 6 71 (v := ?_) ?_ ?_
 rotate_left
 ·intro w' hS0; go_simp; try (with_reducible rfl)
 try simp only [tkA, tkB, tkC]
 refine tk 7 72 (v := ?_) ?_ ?_
 rotate_left
 ·intro w' hSw; clear hSw; go_simp; try (with_reducible rfl)
 try simp only [tkA, tkB, tkC]
 refine tk 8 73 (v := ?_) ?_ ?_
 rotate_left
 ·intro w' hSw; clear hSw; go_simp; try (with_reducible rfl)
 try simp only [tkA, tkB, tkC]
 refine tk 9 74 (v := ?_) ?_ ?_
 rotate_left
 ·intro w' hSw; clear hSw; go_simp; try (with_reducible rfl)
 try simp only [tkA, tkB, tkC]
 refine tk 10 75 (v := ?_) ?_ ?_
 rotate_left
 ·intro w' hSw; clear hSw; go_simp; try (with_reducible rfl)
 try simp only [tkA, tkB, tkC]
 refine tk 11 76 (v := ?_) ?_ ?_
 rotate_left
 ·intro w' hS0; go_simp; try (with_reducible rfl)
 try simp only [tkA, tkB, tkC]
 refine tk 12 77 (v := ?_) ?_ ?_
 rotate_left
 ·intro w' hSw; clear hSw; go_simp; try (with_reducible rfl)
 try simp only [tkA, tkB, tkC]
 refine tk 13 78 (v := ?_) ?_ ?_
 rotate_left
 ·intro w' hSw; clear hSw; go_simp; try (with_reducible rfl)
 try simp only [tkA, tkB, tkC]
 refine tk 14 79 (v := ?_) ?_ ?_
 rotate_left
 ·intro w' hSw; clear hSw; go_simp; try (with_reducible rfl)
 try simp only [tkA, tkB, tkC]
 refine tk 15 80 (v := ?_) ?_ ?_
 rotate_left
 ·intro w' hSw; clear hSw; go_simp; try (with_reducible rfl)
 try simp only [tkA, tkB, tkC]
 refine tk 16 81 (v := ?_) ?_ ?_
 rotate_left
 ·intro w' hSw; clear hSw; go_simp; try (with_reducible rfl)
 try simp only [tkA, tkB, tkC]
 refine tk 17 82 (v := ?_) ?_ ?_
 rotate_left
 ·intro w' hSw; clear hSw; go_simp; try (with_reducible rfl)
 try simp only [tkA, tkB, tkC]
 refine tk 18 83 (v := ?_) ?_ ?_
 rotate_left
 ·intro w' hSw; clear hSw; go_simp; try (with_reducible rfl)
 try simp only [tkA, tkB, tkC]
 refine tk 19 84 (v := ?_) ?_ ?_
 rotate_left
 ·intro w' hSw; clear hSw; go_simp; try (with_reducible rfl)
 try simp only [tkA, tkB, tkC]
 refine tk 20 85 (v := ?_) ?_ ?_
 rotate_left
 ·intro w' hSw; clear hSw; go_simp; try (with_reducible rfl)
 try simp only [tkA, tkB, tkC]
 refine tk 21 86 (v := ?_) ?_ ?_
 rotate_left
 ·intro w' hS0; go_simp; try (with_reducible rfl)
 try simp only [tkA, tkB, tkC]
 refine tk 22 87 (v := ?_) ?_ ?_
 rotate_left
 ·intro w' hSw; clear hSw; go_simp; try (with_reducible rfl)
 try simp only [tkA, tkB, tkC]
 refine tk 23 88 (v := ?_) ?_ ?_
 rotate_left
 ·intro w' hSw; clear hSw; go_simp; try (with_reducible rfl)
 try simp only [tkA, tkB, tkC]
 refine tk 24 89 (v := ?_) ?_ ?_
 rotate_left
 ·intro w' hSw; clear hSw; go_simp; try (with_reducible rfl)
 try simp only [tkA, tkB, tkC]
 refine tk 25 90 (v := ?_) ?_ ?_
 rotate_left
 ·intro w' hSw; clear hSw; go_simp; try (with_reducible rfl)
 try simp only [tkA, tkB, tkC]
 refine tk 26 91 (v := ?_) ?_ ?_
 rotate_left
 ·intro w' hSw; clear hSw; go_simp; try (with_reducible rfl)
 try simp only [tkA, tkB, tkC]
 refine tk 27 92 (v := ?_) ?_ ?_
 rotate_left
 ·intro w' hS0; go_simp; try (with_reducible rfl)
 try simp only [tkA, tkB, tkC]
 refine tk 28 93 (v := ?_) ?_ ?_
 rotate_left
 ·intro w' hSw; clear hSw; go_simp; try (with_reducible rfl)
 try simp only [tkA, tkB, tkC]
 refine tk 29 94 (v := ?_) ?_ ?_
 rotate_left
 ·intro w' hS0; go_simp; try (with_reducible rfl)
 try simp only [tkA, tkB, tkC]
 refine tk 30 95 (v := ?_) ?_ ?_
 rotate_left
 ·intro w' hSw; clear hSw; go_simp; try (with_reducible rfl)
 try simp only [tkA, tkB, tkC]
 refine tk 31 96 (v := ?_) ?_ ?_
 rotate_left
 ·intro w' hSw; clear hSw; go_simp; try (with_reducible rfl)
 try simp only [tkA, tkB, tkC]
 refine tk 32 97 (v := ?_) ?_ ?_
 rotate_left
 ·intro w' hS0; go_simp; try (with_reducible rfl)
 try simp only [tkA, tkB, tkC]
 refine wpAnyH_ready (rs := [33]) (by kernel_rfl) (by simp) ?_
 refine AllReadyH.cons rfl (fun K hK => ?_) AllReadyH.nil
 go_simp
 go_at_call 17
 refine (kSm _ hHeld).mono ?_
 rintro e z1 ⟨rfl, hz1⟩
 have uz1 : Up wx z1 := hHeld.trans (Up.of hz1)
 refine hK.out _ _ uz1 (fun hHeld => ?_)
 clear hK K hHeld
 refine wpAnyH_more (S' := fun w' => Up z1 w') (fun w' h => Up.trans uz1 h) _ _ _ _ ?_
 have hHeld := Up.refl z1
 refine tk 34 99 (v := ?_) ?_ ?_
 rotate_left
 ·intro w' hSw; clear hSw; go_simp; try (with_reducible rfl)
 try simp only [tkA, tkB, tkC]
 refine tk 35 100 (v := ?_) ?_ ?_
 rotate_left
 ·intro w' hSw; clear hSw; go_simp; try (with_reducible rfl)
 try simp only [tkA, tkB, tkC]
 refine tk 36 101 (v := ?_) ?_ ?_
 rotate_left
 ·intro w' hS1; have hS0 := Up.trans uz1 hS1; go_simp; try (with_reducible rfl)
 try simp only [tkA, tkB, tkC]
 refine wpAnyH_ready (rs := [37]) (by kernel_rfl) (by simp) ?_
 refine AllReadyH.cons rfl (fun K hK => ?_) AllReadyH.nil
 go_simp
 go_at_call 27
 refine (kCk _ (uz1.trans hHeld)).mono ?_
 rintro e z2 ⟨rfl, hz2⟩
 have uz2 : Up z1 z2 := hHeld.trans (Up.of hz2)
 refine hK.out _ _ uz2 (fun hHeld => ?_)
 clear hK K hHeld
 refine wpAnyH_more (S' := fun w' => Up z2 w') (fun w' h => Up.trans uz2 h) _ _ _ _ ?_
 have hHeld := Up.refl z2
 refine tk 38 103 (v := ?_) ?_ ?_
 rotate_left
 ·intro w' hSw; clear hSw; go_simp; try (with_reducible rfl)
 try simp only [tkA, tkB, tkC]
 refine tk 39 104 (v := ?_) ?_ ?_
 rotate_left
 ·intro w' hSw; clear hSw; go_simp; try (with_reducible rfl)
 try simp only [tkA, tkB, tkC]
 refine tk 40 105 (v := ?_) ?_ ?_
 rotate_left
 ·intro w' hSw; clear hSw; go_simp; try (with_reducible rfl)
 try simp only [tkA, tkB, tkC]
 refine wpAnyH_ready (rs := [41]) (by kernel_rfl) (by simp) ?_
 refine AllReadyH.cons rfl (fun K hK => ?_) AllReadyH.nil
 go_simp
 go_at_call 12
 refine (kAw _ ((uz1.trans uz2).trans hHeld)).mono ?_
 rintro e z3 ⟨rfl, hz3⟩
 have uz3 : Up z2 z3 := hHeld.trans (Up.of hz3)
 refine hK.out _ _ uz3 (fun hHeld => ?_)
 clear hK K hHeld
 refine wpAnyH_more (S' := fun w' => Up z3 w') (fun w' h => Up.trans uz3 h) _ _ _ _ ?_
 have hHeld := Up.refl z3
 refine tk 42 107 (v := ?_) ?_ ?_
 rotate_left
 ·intro w' hSw; clear hSw; go_simp; try (with_reducible rfl)
 try simp only [tkA, tkB, tkC]
 refine tk 43 4 (v := ?_) ?_ ?_
 rotate_left
 ·intro w' hSw; clear hSw; go_simp; try (with_reducible rfl)
 try simp only [tkA, tkB, tkC]
 refine wpAnyH_done (by kernel_rfl) ?_ _
 refine NoPanic.normal ?_
 clear hHeld
 have uf := Lib.hid ((uz1.trans uz2).trans uz3)
 clear uz1 uz2 uz3 hz1 hz2 hz3
 go_wp2_with fail
 go_ret
 exact ⟨rfl, (Ux.out.trans uf.out).b⟩
end Go.Proofs.YtcomeidcmcegfaaDoor
