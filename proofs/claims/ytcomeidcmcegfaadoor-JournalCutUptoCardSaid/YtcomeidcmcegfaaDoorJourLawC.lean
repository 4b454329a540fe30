/-
  The walk of JournalCut of the statements of layer 53. Conditions: at most 1048576 operations; the tables lie as their initialisers lay them.
-/
import Derived.Test.YtcomeidcmcegfaaDoorJourLawA
namespace Go.Proofs.YtcomeidcmcegfaaDoor
open Go.RowKit
set_option linter.unusedVariables false
set_option linter.unusedSimpArgs false

def CutRel (w : World) (xs : List OX) (a : Nat) (vn ve vi : Value) (wr : World) : Prop := ∃ j m : Nat, j ≤ xs.length ∧ vi = .int .i64 j ∧ vn = .int .i64 m ∧ ve = .int .i64 ((catE ((opL xs).take m)).length : Int) ∧ Up w wr ∧ KeptJ (opL xs) a j m
set_option maxRecDepth 100000 in
set_option maxHeartbeats 16000000 in
theorem walk_JournalCut (w : World) (A : Option Addr) (c : Nat) (xs : List OX) (hr : Rd w A (opsC xs)) (hg : ∀ x ∈ xs, x.Ok w) (hq : xs.length ≤ c) (at_ : Int) (ba : -9223372036854775808 ≤ at_ ∧ at_ ≤ 9223372036854775807)
    (hN1 : xs.length ≤ 1048576) (hT : Tabs w) (hF : TabR w) :
    Calls Tryd.prog 9 #[.slice A xs.length c, .int .i64 at_] w fun e w' => e = .returned (.bool true) ∧ Below w.heap.size w w' := by
  have hX : OpsRd w A xs := ⟨hr, hg⟩
  clear hr hg
  have k0 := write_any w A c xs hX (by omega) hT
  have k2 := fun w' (u : Up w w') => few_any w' A c xs (hX.below u.b) (by unfold maxLen; omega)
  rcases hf : fewJ (opL xs) with _ | _
  · rw [hf] at k2
    generalize wrtB (opL xs) = L1 at *
    generalize wrtE (opL xs) = E1 at *
    clear hf
    go_enter Tryd.func9, Tryd.ntmps9
    go_wp2_with fail
    refine k0.mono ?_
    rintro e w2 ⟨A2, c2, rfl, hown2, hb2⟩
    have uq2 := Lib.hid (Up.of hb2)
    have hr2 := Lib.hid hown2.rd'
    have hf2 := Lib.hid hown2.form
    clear k0 hb2 hown2
    go_wp2_with fail
    refine (k2 _ uq2.out).mono ?_
    rintro e w4 ⟨rfl, hb4⟩
    have tq4 := Lib.hid (Up.of hb4)
    have uq4 := Lib.hid (uq2.out.trans tq4.out)
    clear k2 hb4
    go_wp2_with fail
    refine (awake_any _ (hT.below uq4.out.b) (hF.below uq4.out.b)).mono ?_
    rintro e wz ⟨rfl, hbz⟩
    go_wp2_with fail
    go_ret
    exact ⟨rfl, stepB uq4.out.b hbz⟩
  rw [hf] at k2
  have l1 := few_len hf
  rw [opL_len] at l1
  clear hf
  by_cases e1 : wrtE (opL xs) = 0
  rotate_left
  · have t1 : (wrtE (opL xs) != 0) = true := by simpa using e1
    generalize wrtB (opL xs) = L1 at *
    generalize wrtE (opL xs) = E1 at *
    clear e1
    go_enter Tryd.func9, Tryd.ntmps9
    go_wp2_with fail
    refine k0.mono ?_
    rintro e w2 ⟨A2, c2, rfl, hown2, hb2⟩
    have uq2 := Lib.hid (Up.of hb2)
    have hr2 := Lib.hid hown2.rd'
    have hf2 := Lib.hid hown2.form
    clear k0 hb2 hown2
    go_wp2_with fail
    refine (k2 _ uq2.out).mono ?_
    rintro e w4 ⟨rfl, hb4⟩
    have tq4 := Lib.hid (Up.of hb4)
    have uq4 := Lib.hid (uq2.out.trans tq4.out)
    clear k2 hb4
    go_wp2_with fail
    refine (awake_any _ (hT.below uq4.out.b) (hF.below uq4.out.b)).mono ?_
    rintro e wz ⟨rfl, hbz⟩
    go_wp2_with fail
    go_ret
    exact ⟨rfl, stepB uq4.out.b hbz⟩
  have hRt := Lib.hid (Rt.of e1 (fun o ho => by obtain ⟨y, hy, rfl⟩ := List.mem_map.1 ho; exact (hX.ok y hy).bd))
  obtain ⟨-, hL1, hB1⟩ := wrt_good e1
  rw [e1, hB1] at k0
  clear e1 hB1
  by_cases h0 : at_ < 0
  · have t1 : decide (at_ < 0) = true := decide_eq_true h0
    generalize catE (opL xs) = L1 at *
    clear h0
    go_enter Tryd.func9, Tryd.ntmps9
    go_wp2_with fail
    refine k0.mono ?_
    rintro e w2 ⟨A2, c2, rfl, hown2, hb2⟩
    have uq2 := Lib.hid (Up.of hb2)
    have hr2 := Lib.hid hown2.rd'
    have hf2 := Lib.hid hown2.form
    clear k0 hb2 hown2
    go_wp2_with fail
    refine (k2 _ uq2.out).mono ?_
    rintro e w4 ⟨rfl, hb4⟩
    have tq4 := Lib.hid (Up.of hb4)
    have uq4 := Lib.hid (uq2.out.trans tq4.out)
    clear k2 hb4
    go_wp2_with fail
    refine (awake_any _ (hT.below uq4.out.b) (hF.below uq4.out.b)).mono ?_
    rintro e wz ⟨rfl, hbz⟩
    go_wp2_with fail
    go_ret
    exact ⟨rfl, stepB uq4.out.b hbz⟩
  have t1 : decide (at_ < 0) = false := decide_eq_false h0
  obtain ⟨a, rfl⟩ : ∃ a : Nat, at_ = (a : Int) := ⟨at_.toNat, by omega⟩
  by_cases h1 : (catE (opL xs)).length < a
  · have t2 : decide (((catE (opL xs)).length : Int) < (a : Int)) = true := decide_eq_true (by omega)
    have t2n : decide ((catE (opL xs)).length < a) = true := decide_eq_true (by omega)
    generalize catE (opL xs) = L1 at *
    clear h1
    go_enter Tryd.func9, Tryd.ntmps9
    go_wp2_with fail
    refine k0.mono ?_
    rintro e w2 ⟨A2, c2, rfl, hown2, hb2⟩
    have uq2 := Lib.hid (Up.of hb2)
    have hr2 := Lib.hid hown2.rd'
    have hf2 := Lib.hid hown2.form
    clear k0 hb2 hown2
    go_wp2_with fail
    refine (k2 _ uq2.out).mono ?_
    rintro e w4 ⟨rfl, hb4⟩
    have tq4 := Lib.hid (Up.of hb4)
    have uq4 := Lib.hid (uq2.out.trans tq4.out)
    clear k2 hb4
    go_wp2_with fail
    refine (awake_any _ (hT.below uq4.out.b) (hF.below uq4.out.b)).mono ?_
    rintro e wz ⟨rfl, hbz⟩
    go_wp2_with fail
    go_ret
    exact ⟨rfl, stepB uq4.out.b hbz⟩
  have t2 : decide (((catE (opL xs)).length : Int) < (a : Int)) = false := decide_eq_false (by omega)
  have t2n : decide ((catE (opL xs)).length < a) = false := decide_eq_false (by omega)
  have hCl : ∀ j, j ≤ xs.length → (catE ((opL xs).take j)).length ≤ (catE (opL xs)).length := fun j hj => by
    have := catE_mono (opL xs) (i := j) (j := xs.length) hj
    rwa [show (opL xs).take xs.length = opL xs by rw [← opL_len xs, List.take_length]] at this
  have hCl := Lib.hid hCl
  have hcut := Lib.hid (fun m hk => jr_cut (opL xs) hRt.out a m hk (by omega))
  have hall := Lib.hid (fun m => jr_all _ (hRt.out.take m))
  have hpre := Lib.hid (fun m => show (catE (opL xs)).take (catE ((opL xs).take m)).length = catE ((opL xs).take m) by
    conv => lhs; rw [← List.take_append_drop m (opL xs), catE_app]
    rw [List.take_append_drop, List.take_left])
  generalize hLg : catE (opL xs) = L at *
  have hLg := Lib.hid hLg
  go_enter Tryd.func9, Tryd.ntmps9
  go_wp2_with fail
  refine k0.mono ?_
  rintro e w2 ⟨A2, c2, rfl, hown2, hb2⟩
  have uq2 := Lib.hid (Up.of hb2)
  have hr2 := Lib.hid hown2.rd'
  have hf2 := Lib.hid hown2.form
  clear k0 hb2 hown2
  go_wp2_with fail
  refine (k2 _ uq2.out).mono ?_
  rintro e w4 ⟨rfl, hb4⟩
  have tq4 := Lib.hid (Up.of hb4)
  have uq4 := Lib.hid (uq2.out.trans tq4.out)
  clear k2 hb4
  go_wp2_with fail
  go_loopw [7, 8, 9] (CutRel w4 xs a) (fun _ _ i _ => xs.length - (intOf i).toNat)
  case atStart => exact ⟨0, 0, Nat.zero_le _, rfl, rfl, rfl, Up.refl _, KeptJ.start _ _⟩
  case round =>
    obtain ⟨j, m, hj, rfl, rfl, rfl, hu, hk⟩ := hrel
    have huw := uq4.out.trans hu
    by_cases hlt : j < xs.length
    · have q1 : decide ((j : Int) < (xs.length : Int)) = true := decide_eq_true (by omega)
      have q2 : (j : Int) < (xs.length : Int) := by omega
      have q3 : 0 ≤ (j : Int) := by omega
      obtain ⟨b, off, rfl, -, hrg⟩ := (hX.below huw.b).range hlt
      have hok := (hX.below huw.b).ok _ (List.getElem_mem hlt)
      have hN := catE_next (opL xs) j (by rw [opL_len]; exact hlt)
      have hE := (hRt.out _ (List.getElem_mem (show j < (opL xs).length by rw [opL_len]; exact hlt))).1
      have hC1 := hCl.out (j + 1) (by omega)
      simp only [opL_get xs j hlt] at hN hE
      generalize xs[j] = y at *
      obtain ⟨o, Ao, co⟩ := y
      obtain ⟨bdo, ro, qo⟩ := hok
      dsimp only at bdo ro qo hN hE
      have m0 : wr.cell? ⟨b, off + j * 15, none⟩ = some (.int .i64 o.ac) := hrg 0 _ rfl
      have m1 : wr.cell? ⟨b, off + j * 15 + 1, none⟩ = some (.int .i64 o.ad) := hrg 1 _ rfl
      have m2 : wr.cell? ⟨b, off + j * 15 + 2, none⟩ = some (.int .i64 o.kd) := hrg 2 _ rfl
      have m3 : wr.cell? ⟨b, off + j * 15 + 3, none⟩ = some (.int .i64 o.rc) := hrg 3 _ rfl
      have m4 : wr.cell? ⟨b, off + j * 15 + 4, none⟩ = some (.int .i64 o.id) := hrg 4 _ rfl
      have m5 : wr.cell? ⟨b, off + j * 15 + 5, none⟩ = some (.int .i64 o.ti) := hrg 5 _ rfl
      have m6 : wr.cell? ⟨b, off + j * 15 + 6, none⟩ = some (.int .i64 o.pa) := hrg 6 _ rfl
      have m7 : wr.cell? ⟨b, off + j * 15 + 7, none⟩ = some (.int .i64 o.sf) := hrg 7 _ rfl
      have m8 : wr.cell? ⟨b, off + j * 15 + 8, none⟩ = some (.int .i64 o.st) := hrg 8 _ rfl
      have m9 : wr.cell? ⟨b, off + j * 15 + 9, none⟩ = some (.int .i64 o.rk) := hrg 9 _ rfl
      have m10 : wr.cell? ⟨b, off + j * 15 + 10, none⟩ = some (.string ⟨o.nt.toArray⟩) := hrg 10 _ rfl
      have m11 : wr.cell? ⟨b, off + j * 15 + 11, none⟩ = some (.int .i64 o.se) := hrg 11 _ rfl
      have m12 : wr.cell? ⟨b, off + j * 15 + 12, none⟩ = some (.int .i64 o.nn) := hrg 12 _ rfl
      have m13 : wr.cell? ⟨b, off + j * 15 + 13, none⟩ = some (.string ⟨o.tx.toArray⟩) := hrg 13 _ rfl
      have m14 : wr.cell? ⟨b, off + j * 15 + 14, none⟩ = some (.slice Ao o.ov.length co) := hrg 14 _ rfl
      have kE := entry_any wr o Ao co bdo ro qo (hT.below huw.b)
      rw [hE] at kE
      have hNl : (catE ((opL xs).take (j + 1))).length = (catE ((opL xs).take j)).length + (entB o).length := by rw [hN, List.length_append]
      have HNl := Lib.hid hNl
      have hu' := Lib.hid hu
      have hk' := Lib.hid hk
      clear hN hrg hu huw hE hk
      generalize entB o = M at *
      unfold opV opC at kE
      by_cases hmj : m = j
      · subst hmj
        have hwr : IntKind.i64.wrap (((catE ((opL xs).take m)).length : Int) + (M.length : Int)) = ((catE ((opL xs).take m)).length : Int) + (M.length : Int) := IntWalk.i64_in _ (by omega)
        by_cases hle : (catE ((opL xs).take (m + 1))).length ≤ a
        · have q4 : decide (((catE ((opL xs).take m)).length : Int) + (M.length : Int) ≤ (a : Int)) = true := decide_eq_true (by omega)
          have hk2 := Lib.hid (hk'.out.yes hle).2
          have hIe := Lib.hid (show ((catE ((opL xs).take m)).length : Int) + (M.length : Int) = ((catE ((opL xs).take (m + 1))).length : Int) by omega)
          clear hNl hle hC1
          go_wp2_with fail
          refine kE.mono ?_
          rintro e w5 ⟨A5, c5, rfl, -, hb5⟩
          have hb5' := Lib.hid hb5
          clear kE m0 m1 m2 m3 m4 m5 m6 m7 m8 m9 m10 m11 m12 m13 m14 hb5
          go_wp2_with fail
          go_roundw
          case rel => exact ⟨m + 1, m + 1, by omega, by go_num, by go_num, by rw [← hIe.out], hu'.out.trans (Up.of hb5'.out), hk2.out⟩
          case measure => simp [intOf]; omega
        · have q4 : decide (((catE ((opL xs).take m)).length : Int) + (M.length : Int) ≤ (a : Int)) = false := decide_eq_false (by omega)
          have hk2 := Lib.hid (hk'.out.no (by omega))
          clear hNl hle hC1
          go_wp2_with fail
          refine kE.mono ?_
          rintro e w5 ⟨A5, c5, rfl, -, hb5⟩
          have hb5' := Lib.hid hb5
          clear kE m0 m1 m2 m3 m4 m5 m6 m7 m8 m9 m10 m11 m12 m13 m14 hb5
          go_wp2_with fail
          go_roundw
          case rel => exact ⟨m + 1, m, by omega, by go_num, rfl, rfl, hu'.out.trans (Up.of hb5'.out), hk2.out⟩
          case measure => simp [intOf]; omega
      · have q4 : ((m : Int) == (j : Int)) = false := by rw [beq_eq_false_iff_ne]; omega
        have q5 : (m == j) = false := by rw [beq_eq_false_iff_ne]; exact hmj
        have hk2 := Lib.hid (hk'.out.no' hmj)
        clear hNl hC1
        go_wp2_with fail
        refine kE.mono ?_
        rintro e w5 ⟨A5, c5, rfl, -, hb5⟩
        have hb5' := Lib.hid hb5
        clear kE m0 m1 m2 m3 m4 m5 m6 m7 m8 m9 m10 m11 m12 m13 m14 hb5
        go_wp2_with fail
        go_roundw
        case rel => exact ⟨j + 1, m, by omega, by go_num, rfl, rfl, hu'.out.trans (Up.of hb5'.out), hk2.out⟩
        case measure => simp [intOf]; omega
    · obtain rfl : j = xs.length := by omega
      have q1 : decide ((xs.length : Int) < (xs.length : Int)) = false := by simp
      have hml : m ≤ xs.length := hk.1
      have hc := hcut.out m (by rw [opL_len]; exact hk)
      have hea : (catE ((opL xs).take m)).length ≤ a := hk.2.1
      obtain ⟨_, _, eq2, hc2, -⟩ := hf2.out
      cases eq2
      have hrL : Rd wr A2 (L.map U8) := (hr2.out.below tq4.out.b).below hu.b
      have hta : (L.take a).length = a := by rw [List.length_take]; omega
      have kR := read_any wr A2 c2 (L.take a) (hrL.take8 a) (by omega) (by omega) (hT.below huw.b)
      have kT := fun w' (u : Up wr w') => trim_any w' A2 c2 (L.take a) ((u.rd hrL).take8 a) (by omega) (by omega) (hT.below (huw.trans u).b)
      have htn : trimN (L.take a) = (catE ((opL xs).take m)).length := by unfold trimN; rw [hc.2]; rfl
      have hpm := hpre.out m
      have hjm := hall.out m
      have kV := fun w' c' (hcc : (catE ((opL xs).take m)).length ≤ c') (u : Up wr w') => read_any w' A2 c' (catE ((opL xs).take m)) (by have := (u.rd hrL).take8 (catE ((opL xs).take m)).length; rwa [hpm] at this) (by omega) hcc (hT.below (huw.trans u).b)
      have kcv := fun w' c' (u : Up wr w') => str_take w' A2 c' (catE ((opL xs).take m)).length L (u.rd hrL) (by omega)
      unfold RetJr at kR kV
      unfold RetTrim at kT
      rw [hta] at kR kT
      rw [htn] at kT
      rw [hc.2] at kR
      simp only [hjm.2] at kV
      have hz1 : (jr (L.take a)).1.map (·.2) = (opL xs).take m := hc.1
      have hz2 : (jr (catE ((opL xs).take m))).1.map (·.2) = (opL xs).take m := hjm.1
      simp only [hz1] at kR
      simp only [hz2] at kV
      have sl1 := slice_to A2 c2 L.length hc2 (a : Int) a rfl (by omega)
      have sl2 := slice_to A2 c2 L.length hc2 ((catE ((opL xs).take m)).length : Int) (catE ((opL xs).take m)).length rfl (by omega)
      have sl3 := slice_ops A c xs.length hq (m : Int) m rfl hml
      have hu' := Lib.hid huw
      have hml' := Lib.hid hml
      clear hc hk hrL hta htn hpm hjm hz1 hz2 hea hu huw
      generalize (catE ((opL xs).take m)).length = En at *
      go_wp2_with fail
      refine kR.mono ?_
      rintro e w5 ⟨zs, A5, c5, rfl, hz5, hO5, hc5, hb5⟩
      have u5 := Lib.hid (Up.of hb5)
      have kT := kT w5 u5.out
      clear kR hb5
      go_wp2_with fail
      refine kT.mono ?_
      rintro e w6 ⟨c6, rfl, hc6, hb6⟩
      have t6 := Lib.hid (Up.of hb6)
      have u6 := Lib.hid (u5.out.trans t6.out)
      have kV := kV w6 c6 hc6 u6.out
      clear kT hb6
      go_wp2_with fail
      refine kV.mono ?_
      rintro e wx ⟨ys, A7, c7, rfl, hy7, hO7, hc7, hb7⟩
      have t7 := Lib.hid (Up.of hb7)
      have u7 := Lib.hid (u6.out.trans t7.out)
      have uw := Lib.hid (hu'.out.trans u7.out)
      have hO5x := (hO5.below t6.out.b).below t7.out.b
      have hzl : zs.length ≤ 1048576 := by have := congrArg List.length hz5; rw [opL_len, List.length_take, opL_len] at this; omega
      have hyl : ys.length ≤ 1048576 := by have := congrArg List.length hy7; rw [opL_len, List.length_take, opL_len] at this; omega
      have kS := fun w' (u : Up wx w') => same_any w' A5 A c5 c zs (xs.take m) (hO5x.below u.b) ((hX.take m).below (uw.out.trans u).b) (by unfold maxLen; omega) (by rw [List.length_take]; unfold maxLen; omega)
      rw [show sameL (opL zs) (opL (xs.take m)) = true from (sameL_iff _ _).2 (by rw [opL_take]; exact hz5), List.length_take, Nat.min_eq_left hml'.out] at kS
      have kU := fun w' (u : Up wx w') => same_any w' A7 A5 c7 c5 ys zs (hO7.below u.b) (hO5x.below u.b) (by unfold maxLen; omega) (by unfold maxLen; omega)
      rw [show sameL (opL ys) (opL zs) = true from (sameL_iff _ _).2 (hy7.trans hz5.symm)] at kU
      have kA := fun w' (u : Up wx w') => awake_any w' (hT.below (uw.out.trans u).b) (hF.below (uw.out.trans u).b)
      have cv1 := fun w' (u : Up wx w') => kcv w' c6 (u7.out.trans u)
      have cv2 := fun w' (u : Up wx w') => kcv w' c2 (u7.out.trans u)
      clear kV hb7 hz5 hO5 hy7 hO7 hO5x hzl hyl kcv
      have cv1 := Lib.hid cv1
      have cv2 := Lib.hid cv2
      go_wp2_with fail
      have cv1 := cv1.out
      have cv2 := cv2.out
      refine wp_region_noPanic ?_
      refine wp_region_held_drew (S := fun w' => Up wx w') (by kernel_rfl) (Up.drew wx) (fun hHeld => ?_)
      refine wpAnyH_take (i := 0) (v := ?_) rfl (by kernel_rfl) (by kernel_rfl) (by kernel_rfl) (fun _ _ _ h => h) (Or.inl ⟨by rfl, ?_⟩) (by assumption) ?_
      rotate_left
      · intro w' hSw; clear hSw; go_simp; try (with_reducible rfl)
      change wpAnyH _ _ _ _ _ _ _ (Act.put _ (some 89) _) _
      try (simp only [Act.put, List.setIfInBounds_toArray, List.set_cons_zero, List.set_cons_succ])
      refine wpAnyH_take (i := 1) (v := ?_) rfl (by kernel_rfl) (by kernel_rfl) (by kernel_rfl) (fun _ _ _ h => h) (Or.inl ⟨by rfl, ?_⟩) (by assumption) ?_
      rotate_left
      · intro w' hSw; clear hSw; go_simp; try (with_reducible rfl)
      change wpAnyH _ _ _ _ _ _ _ (Act.put _ (some 90) _) _
      try (simp only [Act.put, List.setIfInBounds_toArray, List.set_cons_zero, List.set_cons_succ])
      refine wpAnyH_take (i := 2) (v := ?_) rfl (by kernel_rfl) (by kernel_rfl) (by kernel_rfl) (fun _ _ _ h => h) (Or.inl ⟨by rfl, ?_⟩) (by assumption) ?_
      rotate_left
      · intro w' hSw; clear hSw; go_simp; try (with_reducible rfl)
      change wpAnyH _ _ _ _ _ _ _ (Act.put _ (some 91) _) _
      try (simp only [Act.put, List.setIfInBounds_toArray, List.set_cons_zero, List.set_cons_succ])
      refine wpAnyH_take (i := 3) (v := ?_) rfl (by kernel_rfl) (by kernel_rfl) (by kernel_rfl) (fun _ _ _ h => h) (Or.inl ⟨by rfl, ?_⟩) (by assumption) ?_
      rotate_left
      · intro w' hSw; clear hSw; go_simp; try (with_reducible rfl)
      change wpAnyH _ _ _ _ _ _ _ (Act.put _ (some 92) _) _
      try (simp only [Act.put, List.setIfInBounds_toArray, List.set_cons_zero, List.set_cons_succ])
      refine wpAnyH_take (i := 4) (v := ?_) rfl (by kernel_rfl) (by kernel_rfl) (by kernel_rfl) (fun _ _ _ h => h) (Or.inl ⟨by rfl, ?_⟩) (by assumption) ?_
      rotate_left
      · intro w' hSw; clear hSw; go_simp; try (with_reducible rfl)
      change wpAnyH _ _ _ _ _ _ _ (Act.put _ (some 93) _) _
      try (simp only [Act.put, List.setIfInBounds_toArray, List.set_cons_zero, List.set_cons_succ])
      refine wpAnyH_take (i := 5) (v := ?_) rfl (by kernel_rfl) (by kernel_rfl) (by kernel_rfl) (fun _ _ _ h => h) (Or.inl ⟨by rfl, ?_⟩) (by assumption) ?_
      rotate_left
      · intro w' hSw; clear hSw; go_simp; try (with_reducible rfl)
      change wpAnyH _ _ _ _ _ _ _ (Act.put _ (some 94) _) _
      try (simp only [Act.put, List.setIfInBounds_toArray, List.set_cons_zero, List.set_cons_succ])
      refine wpAnyH_take (i := 6) (v := ?_) rfl (by kernel_rfl) (by kernel_rfl) (by kernel_rfl) (fun _ _ _ h => h) (Or.inl ⟨by rfl, ?_⟩) (by assumption) ?_
      rotate_left
      · intro w' hSw; clear hSw; go_simp; try (with_reducible rfl)
      change wpAnyH _ _ _ _ _ _ _ (Act.put _ (some 95) _) _
      try (simp only [Act.put, List.setIfInBounds_toArray, List.set_cons_zero, List.set_cons_succ])
      refine wpAnyH_take (i := 7) (v := ?_) rfl (by kernel_rfl) (by kernel_rfl) (by kernel_rfl) (fun _ _ _ h => h) (Or.inl ⟨by rfl, ?_⟩) (by assumption) ?_
      rotate_left
      · intro w' hS0; go_simp; try (with_reducible rfl)
      change wpAnyH _ _ _ _ _ _ _ (Act.put _ (some 96) _) _
      try (simp only [Act.put, List.setIfInBounds_toArray, List.set_cons_zero, List.set_cons_succ])
      refine wpAnyH_ready (rs := [8]) (by kernel_rfl) (by simp) ?_
      refine AllReadyH.cons rfl (fun K hK => ?_) AllReadyH.nil
      go_simp
      go_at_call 17
      refine (kS _ (Up.drew _)).mono ?_
      rintro e z1 ⟨rfl, hz1⟩
      have uz1 : Up wx z1 := (Up.drew _).trans (Up.of hz1)
      refine hK.out _ _ uz1 (fun hHeld => ?_)
      clear hK K hHeld
      refine wpAnyH_more (S' := fun w' => Up z1 w') (fun w' h => Up.trans uz1 h) _ _ _ _ ?_
      have hHeld := Up.refl z1
      refine wpAnyH_take (i := 9) (v := ?_) rfl (by kernel_rfl) (by kernel_rfl) (by kernel_rfl) (fun _ _ _ h => h) (Or.inl ⟨by rfl, ?_⟩) (by assumption) ?_
      rotate_left
      · intro w' hSw; clear hSw; go_simp; try (with_reducible rfl)
      change wpAnyH _ _ _ _ _ _ _ (Act.put _ (some 98) _) _
      try (simp only [Act.put, List.setIfInBounds_toArray, List.set_cons_zero, List.set_cons_succ])
      refine wpAnyH_take (i := 10) (v := ?_) rfl (by kernel_rfl) (by kernel_rfl) (by kernel_rfl) (fun _ _ _ h => h) (Or.inl ⟨by rfl, ?_⟩) (by assumption) ?_
      rotate_left
      · intro w' hSw; clear hSw; go_simp; try (with_reducible rfl)
      change wpAnyH _ _ _ _ _ _ _ (Act.put _ (some 99) _) _
      try (simp only [Act.put, List.setIfInBounds_toArray, List.set_cons_zero, List.set_cons_succ])
      refine wpAnyH_take (i := 11) (v := ?_) rfl (by kernel_rfl) (by kernel_rfl) (by kernel_rfl) (fun _ _ _ h => h) (Or.inl ⟨by rfl, ?_⟩) (by assumption) ?_
      rotate_left
      · intro w' hSw; clear hSw; go_simp; try (with_reducible rfl)
      change wpAnyH _ _ _ _ _ _ _ (Act.put _ (some 100) _) _
      try (simp only [Act.put, List.setIfInBounds_toArray, List.set_cons_zero, List.set_cons_succ])
      refine wpAnyH_take (i := 12) (v := ?_) rfl (by kernel_rfl) (by kernel_rfl) (by kernel_rfl) (fun _ _ _ h => h) (Or.inl ⟨by rfl, ?_⟩) (by assumption) ?_
      rotate_left
      · intro w' hS1; have hS0 := Up.trans uz1 hS1; go_simp; try (with_reducible rfl)
      change wpAnyH _ _ _ _ _ _ _ (Act.put _ (some 101) _) _
      try (simp only [Act.put, List.setIfInBounds_toArray, List.set_cons_zero, List.set_cons_succ])
      refine wpAnyH_take (i := 13) (v := ?_) rfl (by kernel_rfl) (by kernel_rfl) (by kernel_rfl) (fun _ _ _ h => h) (Or.inl ⟨by rfl, ?_⟩) (by assumption) ?_
      rotate_left
      · intro w' hSw; clear hSw; go_simp; try (with_reducible rfl)
      change wpAnyH _ _ _ _ _ _ _ (Act.put _ (some 102) _) _
      try (simp only [Act.put, List.setIfInBounds_toArray, List.set_cons_zero, List.set_cons_succ])
      refine wpAnyH_take (i := 14) (v := ?_) rfl (by kernel_rfl) (by kernel_rfl) (by kernel_rfl) (fun _ _ _ h => h) (Or.inl ⟨by rfl, ?_⟩) (by assumption) ?_
      rotate_left
      · intro w' hSw; clear hSw; go_simp; try (with_reducible rfl)
      change wpAnyH _ _ _ _ _ _ _ (Act.put _ (some 103) _) _
      try (simp only [Act.put, List.setIfInBounds_toArray, List.set_cons_zero, List.set_cons_succ])
      refine wpAnyH_take (i := 15) (v := ?_) rfl (by kernel_rfl) (by kernel_rfl) (by kernel_rfl) (fun _ _ _ h => h) (Or.inl ⟨by rfl, ?_⟩) (by assumption) ?_
      rotate_left
      · intro w' hS1; have hS0 := Up.trans uz1 hS1; go_simp; try (with_reducible rfl)
      change wpAnyH _ _ _ _ _ _ _ (Act.put _ (some 104) _) _
      try (simp only [Act.put, List.setIfInBounds_toArray, List.set_cons_zero, List.set_cons_succ])
      refine wpAnyH_take (i := 16) (v := ?_) rfl (by kernel_rfl) (by kernel_rfl) (by kernel_rfl) (fun _ _ _ h => h) (Or.inl ⟨by rfl, ?_⟩) (by assumption) ?_
      rotate_left
      · intro w' hS1; have hS0 := Up.trans uz1 hS1; go_simp; try (with_reducible rfl)
      change wpAnyH _ _ _ _ _ _ _ (Act.put _ (some 105) _) _
      try (simp only [Act.put, List.setIfInBounds_toArray, List.set_cons_zero, List.set_cons_succ])
      refine wpAnyH_take (i := 17) (v := ?_) rfl (by kernel_rfl) (by kernel_rfl) (by kernel_rfl) (fun _ _ _ h => h) (Or.inl ⟨by rfl, ?_⟩) (by assumption) ?_
      rotate_left
      · intro w' hSw; clear hSw; go_simp; try (with_reducible rfl)
      change wpAnyH _ _ _ _ _ _ _ (Act.put _ (some 106) _) _
      try (simp only [Act.put, List.setIfInBounds_toArray, List.set_cons_zero, List.set_cons_succ])
      refine wpAnyH_take (i := 18) (v := ?_) rfl (by kernel_rfl) (by kernel_rfl) (by kernel_rfl) (fun _ _ _ h => h) (Or.inl ⟨by rfl, ?_⟩) (by assumption) ?_
      rotate_left
      · intro w' hSw; clear hSw; go_simp; try (with_reducible rfl)
      change wpAnyH _ _ _ _ _ _ _ (Act.put _ (some 107) _) _
      try (simp only [Act.put, List.setIfInBounds_toArray, List.set_cons_zero, List.set_cons_succ])
      refine wpAnyH_take (i := 19) (v := ?_) rfl (by kernel_rfl) (by kernel_rfl) (by kernel_rfl) (fun _ _ _ h => h) (Or.inl ⟨by rfl, ?_⟩) (by assumption) ?_
      rotate_left
      · intro w' hSw; clear hSw; go_simp; try (with_reducible rfl)
      change wpAnyH _ _ _ _ _ _ _ (Act.put _ (some 108) _) _
      try (simp only [Act.put, List.setIfInBounds_toArray, List.set_cons_zero, List.set_cons_succ])
      refine wpAnyH_take (i := 20) (v := ?_) rfl (by kernel_rfl) (by kernel_rfl) (by kernel_rfl) (fun _ _ _ h => h) (Or.inl ⟨by rfl, ?_⟩) (by assumption) ?_
      rotate_left
      · intro w' hSw; clear hSw; go_simp; try (with_reducible rfl)
      change wpAnyH _ _ _ _ _ _ _ (Act.put _ (some 109) _) _
      try (simp only [Act.put, List.setIfInBounds_toArray, List.set_cons_zero, List.set_cons_succ])
      refine wpAnyH_take (i := 21) (v := ?_) rfl (by kernel_rfl) (by kernel_rfl) (by kernel_rfl) (fun _ _ _ h => h) (Or.inl ⟨by rfl, ?_⟩) (by assumption) ?_
      rotate_left
      · intro w' hSw; clear hSw; go_simp; try (with_reducible rfl)
      change wpAnyH _ _ _ _ _ _ _ (Act.put _ (some 110) _) _
      try (simp only [Act.put, List.setIfInBounds_toArray, List.set_cons_zero, List.set_cons_succ])
      refine wpAnyH_take (i := 22) (v := ?_) rfl (by kernel_rfl) (by kernel_rfl) (by kernel_rfl) (fun _ _ _ h => h) (Or.inl ⟨by rfl, ?_⟩) (by assumption) ?_
      rotate_left
      · intro w' hSw; clear hSw; go_simp; try (with_reducible rfl)
      change wpAnyH _ _ _ _ _ _ _ (Act.put _ (some 111) _) _
      try (simp only [Act.put, List.setIfInBounds_toArray, List.set_cons_zero, List.set_cons_succ])
      refine wpAnyH_take (i := 23) (v := ?_) rfl (by kernel_rfl) (by kernel_rfl) (by kernel_rfl) (fun _ _ _ h => h) (Or.inl ⟨by rfl, ?_⟩) (by assumption) ?_
      rotate_left
      · intro w' hSw; clear hSw; go_simp; try (with_reducible rfl)
      change wpAnyH _ _ _ _ _ _ _ (Act.put _ (some 112) _) _
      try (simp only [Act.put, List.setIfInBounds_toArray, List.set_cons_zero, List.set_cons_succ])
      refine wpAnyH_take (i := 24) (v := ?_) rfl (by kernel_rfl) (by kernel_rfl) (by kernel_rfl) (fun _ _ _ h => h) (Or.inl ⟨by rfl, ?_⟩) (by assumption) ?_
      rotate_left
      · intro w' hSw; clear hSw; go_simp; try (with_reducible rfl)
      change wpAnyH _ _ _ _ _ _ _ (Act.put _ (some 113) _) _
      try (simp only [Act.put, List.setIfInBounds_toArray, List.set_cons_zero, List.set_cons_succ])
      refine wpAnyH_take (i := 25) (v := ?_) rfl (by kernel_rfl) (by kernel_rfl) (by kernel_rfl) (fun _ _ _ h => h) (Or.inl ⟨by rfl, ?_⟩) (by assumption) ?_
      rotate_left
      · intro w' hSw; clear hSw; go_simp; try (with_reducible rfl)
      change wpAnyH _ _ _ _ _ _ _ (Act.put _ (some 114) _) _
      try (simp only [Act.put, List.setIfInBounds_toArray, List.set_cons_zero, List.set_cons_succ])
      refine wpAnyH_take (i := 26) (v := ?_) rfl (by kernel_rfl) (by kernel_rfl) (by kernel_rfl) (fun _ _ _ h => h) (Or.inl ⟨by rfl, ?_⟩) (by assumption) ?_
      rotate_left
      · intro w' hSw; clear hSw; go_simp; try (with_reducible rfl)
      change wpAnyH _ _ _ _ _ _ _ (Act.put _ (some 115) _) _
      try (simp only [Act.put, List.setIfInBounds_toArray, List.set_cons_zero, List.set_cons_succ])
      refine wpAnyH_take (i := 27) (v := ?_) rfl (by kernel_rfl) (by kernel_rfl) (by kernel_rfl) (fun _ _ _ h => h) (Or.inl ⟨by rfl, ?_⟩) (by assumption) ?_
      rotate_left
      · intro w' hSw; clear hSw; go_simp; try (with_reducible rfl)
      change wpAnyH _ _ _ _ _ _ _ (Act.put _ (some 116) _) _
      try (simp only [Act.put, List.setIfInBounds_toArray, List.set_cons_zero, List.set_cons_succ])
      refine wpAnyH_ready (rs := [28]) (by kernel_rfl) (by simp) ?_
      refine AllReadyH.cons rfl (fun K hK => ?_) AllReadyH.nil
      go_simp
      go_at_call 17
      refine (kU _ uz1).mono ?_
      rintro e z2 ⟨rfl, hz2⟩
      have uz2 : Up z1 z2 := Up.of hz2
      refine hK.out _ _ uz2 (fun hHeld => ?_)
      clear hK K hHeld
      refine wpAnyH_more (S' := fun w' => Up z2 w') (fun w' h => Up.trans uz2 h) _ _ _ _ ?_
      have hHeld := Up.refl z2
      refine wpAnyH_take (i := 29) (v := ?_) rfl (by kernel_rfl) (by kernel_rfl) (by kernel_rfl) (fun _ _ _ h => h) (Or.inl ⟨by rfl, ?_⟩) (by assumption) ?_
      rotate_left
      · intro w' hSw; clear hSw; go_simp; try (with_reducible rfl)
      change wpAnyH _ _ _ _ _ _ _ (Act.put _ (some 118) _) _
      try (simp only [Act.put, List.setIfInBounds_toArray, List.set_cons_zero, List.set_cons_succ])
      refine wpAnyH_take (i := 30) (v := ?_) rfl (by kernel_rfl) (by kernel_rfl) (by kernel_rfl) (fun _ _ _ h => h) (Or.inl ⟨by rfl, ?_⟩) (by assumption) ?_
      rotate_left
      · intro w' hSw; clear hSw; go_simp; try (with_reducible rfl)
      change wpAnyH _ _ _ _ _ _ _ (Act.put _ (some 119) _) _
      try (simp only [Act.put, List.setIfInBounds_toArray, List.set_cons_zero, List.set_cons_succ])
      refine wpAnyH_ready (rs := [31]) (by kernel_rfl) (by simp) ?_
      refine AllReadyH.cons rfl (fun K hK => ?_) AllReadyH.nil
      go_simp
      go_at_call 12
      refine (kA _ (uz1.trans uz2)).mono ?_
      rintro e z3 ⟨rfl, hz3⟩
      have uz3 : Up z2 z3 := Up.of hz3
      refine hK.out _ _ uz3 (fun hHeld => ?_)
      clear hK K hHeld
      refine wpAnyH_more (S' := fun w' => Up z3 w') (fun w' h => Up.trans uz3 h) _ _ _ _ ?_
      have hHeld := Up.refl z3
      refine wpAnyH_take (i := 32) (v := ?_) rfl (by kernel_rfl) (by kernel_rfl) (by kernel_rfl) (fun _ _ _ h => h) (Or.inl ⟨by rfl, ?_⟩) (by assumption) ?_
      rotate_left
      · intro w' hSw; clear hSw; go_simp; try (with_reducible rfl)
      change wpAnyH _ _ _ _ _ _ _ (Act.put _ (some 121) _) _
      try (simp only [Act.put, List.setIfInBounds_toArray, List.set_cons_zero, List.set_cons_succ])
      refine wpAnyH_take (i := 33) (v := ?_) rfl (by kernel_rfl) (by kernel_rfl) (by kernel_rfl) (fun _ _ _ h => h) (Or.inl ⟨by rfl, ?_⟩) (by assumption) ?_
      rotate_left
      · intro w' hSw; clear hSw; go_simp; try (with_reducible rfl)
      change wpAnyH _ _ _ _ _ _ _ (Act.put _ (some 4) _) _
      try (simp only [Act.put, List.setIfInBounds_toArray, List.set_cons_zero, List.set_cons_succ])
      refine wpAnyH_done (by kernel_rfl) ?_ _
      refine NoPanic.normal ?_
      clear hHeld
      have uz := Lib.hid ((uz1.trans uz2).trans uz3)
      go_wp2_with fail
      go_ret
      exact ⟨rfl, (uw.out.trans uz.out).b⟩
end Go.Proofs.YtcomeidcmcegfaaDoor
