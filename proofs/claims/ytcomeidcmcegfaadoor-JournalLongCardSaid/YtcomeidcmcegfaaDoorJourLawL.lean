/-
  The walk of JournalLong of the statements of layer 53. Conditions: the tables lie as their initialisers lay them.
-/
import Derived.Test.YtcomeidcmcegfaaDoorJourLawD
import Derived.Laws.OwnMore
namespace Go.Proofs.YtcomeidcmcegfaaDoor
open Go.RowKit
set_option linter.unusedVariables false
set_option linter.unusedSimpArgs false

def exN (j : Nat) : OP := { exJ with nt := List.replicate j 97 }
def txK : List UInt8 := List.replicate 200 97
def exK : OP := { exJ with nt := txK }
theorem exK_c : checkE exK = 0 := by decide +kernel
theorem exK_len : (opB exK).length = 216 := by decide +kernel
theorem exK_ent : (entB exK).length = 224 := by
  have e := (enc_length ((216 : Nat) : Int))
  rw [(entB_ok exK_c).1, fseal_length, exK_len]
  decide +kernel
theorem exK_bd : exK.Bd := ⟨exJ_bd.ac, exJ_bd.ad, exJ_bd.kd, exJ_bd.rc, exJ_bd.id, exJ_bd.ti, exJ_bd.pa, exJ_bd.sf, exJ_bd.st, exJ_bd.rk, exJ_bd.se, exJ_bd.nn, by show (List.replicate 200 97).length ≤ _; rw [List.length_replicate]; unfold maxLen; omega, exJ_bd.tx, exJ_bd.ov, exJ_bd.ol⟩
def TxtRel (w : World) (B : Nat) (vi : Value) (wr : World) : Prop := ∃ j : Nat, j ≤ 200 ∧ vi = .int .i64 j ∧ Blk wr B 38 (opC (exN j) none 0).toArray ∧ Below w.heap.size w wr
theorem str_app (j : Nat) : (⟨Array.replicate j (97 : UInt8)⟩ : ByteArray) ++ ⟨#[97]⟩ = ⟨(List.replicate (j + 1) (97 : UInt8)).toArray⟩ := by
  apply ByteArray.ext
  rw [ByteArray.data_append, List.toArray_replicate, Array.replicate_succ]
  simp
def csK : List Value := opC exK none 0
def LongRel (w : World) (B S K : Nat) (vi : Value) (wr : World) : Prop := ∃ (j : Nat) (xs : List Value), j ≤ K ∧ vi = .int .i64 j ∧ wr.ownsRow S 38 15 (.slice (some ⟨S, 0, none⟩) K K) K xs ∧ (∀ i, i < j * 15 → xs[i]? = csK[i % 15]?) ∧ Blk wr B 38 (opC exK none 0).toArray ∧ Below w.heap.size w wr
def setAll (xs : List Value) (p : Nat) : List Value → List Value
  | [] => xs
  | v :: vs => setAll (xs.set p v) (p + 1) vs
theorem setAll_get : ∀ (vs xs : List Value) (p i : Nat), p + vs.length ≤ xs.length → (setAll xs p vs)[i]? = if p ≤ i ∧ i < p + vs.length then vs[i - p]? else xs[i]? := by
  intro vs
  induction vs with
  | nil => intro xs p i h; rw [setAll, if_neg (by simp only [List.length_nil]; omega)]
  | cons v vs ih =>
    intro xs p i h
    rw [List.length_cons] at h
    rw [setAll, ih (xs.set p v) (p + 1) i (by rw [List.length_set]; omega), List.length_cons]
    by_cases h1 : p + 1 ≤ i ∧ i < p + 1 + vs.length
    · rw [if_pos h1, if_pos (by omega), show i - p = (i - (p + 1)) + 1 by omega, List.getElem?_cons_succ]
    · rw [if_neg h1]
      by_cases h2 : i = p
      · subst h2
        rw [if_pos (by omega), Nat.sub_self, List.getElem?_set_self (by omega)]; rfl
      · rw [if_neg (by omega), List.getElem?_set_ne (by omega)]
theorem Blk.setS {w : World} {g S i : Nat} {t : TypeId} {cs : Array Value} {v : Value} (h : Blk w g t cs) (hne : g ≠ S) : Blk (w.setCell ⟨S, i, none⟩ v) g t cs := h.kept (grown_set w S i v) (by simpa using hne)
theorem belowS {n S i : Nat} {w W : World} {v : Value} (h : Below n w W) (hn : n ≤ S) : Below n w (W.setCell ⟨S, i, none⟩ v) := h.setCell (p := ⟨S, i, none⟩) hn v
theorem catE_rep (o : OP) (j : Nat) : (catE (List.replicate j o)).length = j * (entB o).length := by
  induction j with
  | zero => simp [catE]
  | succ j ih => rw [List.replicate_succ, catE_cons, List.length_append, ih, Nat.succ_mul]; omega
theorem opsC_len (xs : List OX) : (opsC xs).length = xs.length * 15 := by
  induction xs with
  | nil => rfl
  | cons x xs ih =>
    have e : opsC (x :: xs) = x.cs ++ opsC xs := rfl
    rw [e, List.length_append, ih, OX.cs_len, List.length_cons]; omega
theorem csK_len : csK.length = 15 := rfl
set_option maxRecDepth 100000 in
set_option maxHeartbeats 16000000 in
theorem walk_JournalLong (w : World) (n : UInt8) (hT : Tabs w) (hF : TabR w) :
    Calls Tryd.prog 7 #[.int .u8 n.toNat] w fun e w' => e = .returned (.bool true) ∧ Below w.heap.size w w' := by
  go_enter Tryd.func7, Tryd.ntmps7
  go_wp2_with fail
  refine (example_any _).mono ?_
  rintro e w1 ⟨rfl, hb1⟩
  have hb1' := Lib.hid hb1
  have hB1 := Lib.hid (Blk.new w1 38 (opC (exN 0) none 0).toArray)
  unfold opV opC
  dsimp only [exJ]
  clear hb1
  go_wp2_with fail
  have hB1b := hB1.out
  unfold opC at hB1b
  dsimp only [exN, exJ, List.replicate_zero] at hB1b
  have hbw := Lib.hid (stepB hb1'.out (Up.alloc' w1 (.cells (opC (exN 0) none 0).toArray 38)).b)
  generalize hB : w1.heap.size = B at *
  have hbB : w.heap.size ≤ B := by rw [← hB]; exact hb1'.out.size
  clear hB
  go_loopw [4] (TxtRel w B) (fun i _ => 200 - (intOf i).toNat)
  case atStart => exact ⟨0, by omega, rfl, hB1.out, hbw.out⟩
  case round =>
    obtain ⟨j, hj, rfl, hBj, hbj⟩ := hrel
    clear hB1b
    by_cases hlt : j < 200
    · have t1 : decide ((j : Int) < 200) = true := decide_eq_true (by omega)
      have c10 : wr.cell? ⟨B, 10, none⟩ = some (.string ⟨(List.replicate j (97 : UInt8)).toArray⟩) := by rw [hBj.cell]; rfl
      have f10 := hBj.free 10
      have hBn := Lib.hid (show Blk (wr.setCell ⟨B, 10, none⟩ (.string ⟨(List.replicate (j + 1) (97 : UInt8)).toArray⟩)) B 38 (opC (exN (j + 1)) none 0).toArray from hBj.set 10 _)
      have hbn := Lib.hid (hbj.setCell (p := ⟨B, 10, none⟩) hbB (.string ⟨(List.replicate (j + 1) (97 : UInt8)).toArray⟩))
      clear hBj hbj
      go_wp2_with fail
      go_roundw
      case rel => rw [str_app]; exact ⟨j + 1, by omega, by go_num, hBn.out, hbn.out⟩
      case measure => simp [intOf]; omega
    · obtain rfl : j = 200 := by omega
      have t1 : decide (((200 : Nat) : Int) < 200) = false := by decide
      have hBj : Blk wr B 38 (opC exK none 0).toArray := hBj
      have m0 : wr.cell? ⟨B, 0, none⟩ = some (.int .i64 1) := by rw [hBj.cell]; rfl
      have m1 : wr.cell? ⟨B, 1, none⟩ = some (.int .i64 2) := by rw [hBj.cell]; rfl
      have m2 : wr.cell? ⟨B, 2, none⟩ = some (.int .i64 0) := by rw [hBj.cell]; rfl
      have m3 : wr.cell? ⟨B, 3, none⟩ = some (.int .i64 3) := by rw [hBj.cell]; rfl
      have m4 : wr.cell? ⟨B, 4, none⟩ = some (.int .i64 18) := by rw [hBj.cell]; rfl
      have m5 : wr.cell? ⟨B, 5, none⟩ = some (.int .i64 0) := by rw [hBj.cell]; rfl
      have m6 : wr.cell? ⟨B, 6, none⟩ = some (.int .i64 0) := by rw [hBj.cell]; rfl
      have m7 : wr.cell? ⟨B, 7, none⟩ = some (.int .i64 0) := by rw [hBj.cell]; rfl
      have m8 : wr.cell? ⟨B, 8, none⟩ = some (.int .i64 9) := by rw [hBj.cell]; rfl
      have m9 : wr.cell? ⟨B, 9, none⟩ = some (.int .i64 0) := by rw [hBj.cell]; rfl
      have m10 : wr.cell? ⟨B, 10, none⟩ = some (.string ⟨txK.toArray⟩) := by rw [hBj.cell]; rfl
      have m11 : wr.cell? ⟨B, 11, none⟩ = some (.int .i64 0) := by rw [hBj.cell]; rfl
      have m12 : wr.cell? ⟨B, 12, none⟩ = some (.int .i64 0) := by rw [hBj.cell]; rfl
      have m13 : wr.cell? ⟨B, 13, none⟩ = some (.string ⟨#[]⟩) := by rw [hBj.cell]; rfl
      have m14 : wr.cell? ⟨B, 14, none⟩ = some (.slice none 0 0) := by rw [hBj.cell]; rfl
      have kE := rentry_any wr exK none 0 exK_bd (Rd.nil _ _) (Nat.le_refl _)
      rw [exK_c] at kE
      have hM := exK_ent
      generalize entB exK = M at *
      unfold opV opC at kE
      dsimp only [exK, exJ, List.length_nil] at kE
      unfold RetBy at kE
      rw [hM] at kE
      have hbj' := Lib.hid hbj
      have hBj' := Lib.hid hBj
      clear hBj hbj hM
      go_wp2_with fail
      refine kE.mono ?_
      rintro e w5 ⟨A5, c5, rfl, -, hb5⟩
      have u5 := Lib.hid (Up.of hb5)
      obtain ⟨K, hK1, hK2, hK⟩ : ∃ K : Nat, 4680 ≤ K ∧ K ≤ 4682 ∧ wrap64 (4680 + (wrap64 (n.toNat : Int)).tmod 3) = (K : Int) := by
        refine ⟨4680 + n.toNat % 3, by omega, by omega, ?_⟩
        have hnl := n.toNat_lt
        rw [← IntWalk.i64_left, ← IntWalk.i64_left, IntWalk.i64_in (n.toNat : Int) (by omega), Int.tmod_eq_emod_of_nonneg (by omega), IntWalk.i64_in _ (by omega)]
        first | done | omega
      obtain ⟨j0, hj0, hy0, hy1, hy2⟩ := info_parts info_op
      obtain ⟨w6, hmk, hrow0, hg6⟩ := run_makeSlice_full (P := Tryd.prog) (w := w5) w5.heap.size 22 38 j0 _ 15 Tryd.underlying22 hj0 hy0 hy1 .i64 .i64 K (by omega) (by rw [hy2]; omega) (by unfold maxLen; omega) (Nat.le_refl _)
      have hb6 : Below w5.heap.size w5 w6 := ⟨hg6.os, hg6.tape, hg6.output, hg6.size, fun k hk => hg6.block k hk (by simp)⟩
      have hBj6 := (hBj'.out.up u5.out).up (Up.of hb6)
      have hbe6 := stepB (stepB hbj'.out u5.out.b) hb6
      have hBS : B < w5.heap.size := (hBj'.out.up u5.out).lt
      have hwS : w.heap.size ≤ w5.heap.size := Nat.le_trans hbB (Nat.le_of_lt hBS)
      generalize w5.heap.size = S at *
      have hst : LongRel w B S K (.int .i64 0) w6 := ⟨0, _, Nat.zero_le _, rfl, hrow0, fun i hi => by omega, hBj6, hbe6⟩
      have hst := Lib.hid hst
      clear hrow0 hg6 hb6 hBj6 hbe6 hy0 hy1 hy2 hj0
      clear kE hb5 m0 m1 m2 m3 m4 m5 m6 m7 m8 m9 m10 m11 m12 m13 m14
      go_wp2_with fail
      go_loopw [9] (LongRel w B S K) (fun i _ => K - (intOf i).toNat)
      case atStart => exact hst.out
      case round =>
        obtain ⟨j, xs, hj, rfl, hrow, hxs, hBk, hbk⟩ := hrel
        have hxl := hrow.1
        by_cases hlt : j < K
        · have t1 : decide ((j : Int) < (K : Int)) = true := decide_eq_true (by omega)
          have t2 : (j : Int) < (K : Int) := by omega
          have t3 : 0 ≤ (j : Int) := by omega
          have m0 : wr.cell? ⟨B, 0, none⟩ = some (.int .i64 1) := by rw [hBk.cell]; rfl
          have m1 : wr.cell? ⟨B, 1, none⟩ = some (.int .i64 2) := by rw [hBk.cell]; rfl
          have m2 : wr.cell? ⟨B, 2, none⟩ = some (.int .i64 0) := by rw [hBk.cell]; rfl
          have m3 : wr.cell? ⟨B, 3, none⟩ = some (.int .i64 3) := by rw [hBk.cell]; rfl
          have m4 : wr.cell? ⟨B, 4, none⟩ = some (.int .i64 18) := by rw [hBk.cell]; rfl
          have m5 : wr.cell? ⟨B, 5, none⟩ = some (.int .i64 0) := by rw [hBk.cell]; rfl
          have m6 : wr.cell? ⟨B, 6, none⟩ = some (.int .i64 0) := by rw [hBk.cell]; rfl
          have m7 : wr.cell? ⟨B, 7, none⟩ = some (.int .i64 0) := by rw [hBk.cell]; rfl
          have m8 : wr.cell? ⟨B, 8, none⟩ = some (.int .i64 9) := by rw [hBk.cell]; rfl
          have m9 : wr.cell? ⟨B, 9, none⟩ = some (.int .i64 0) := by rw [hBk.cell]; rfl
          have m10 : wr.cell? ⟨B, 10, none⟩ = some (.string ⟨txK.toArray⟩) := by rw [hBk.cell]; rfl
          have m11 : wr.cell? ⟨B, 11, none⟩ = some (.int .i64 0) := by rw [hBk.cell]; rfl
          have m12 : wr.cell? ⟨B, 12, none⟩ = some (.int .i64 0) := by rw [hBk.cell]; rfl
          have m13 : wr.cell? ⟨B, 13, none⟩ = some (.string ⟨#[]⟩) := by rw [hBk.cell]; rfl
          have m14 : wr.cell? ⟨B, 14, none⟩ = some (.slice none 0 0) := by rw [hBk.cell]; rfl
          obtain ⟨z0, n0⟩ : ∃ z, wr.cell? ⟨S, j * 15, none⟩ = some z := ⟨_, (hrow.cellAt (j * 15) (by omega)).trans (List.getElem?_eq_getElem (by omega))⟩
          have f0 := hrow.frozenAt (j * 15)
          obtain ⟨z1, n1⟩ : ∃ z, wr.cell? ⟨S, j * 15 + 1, none⟩ = some z := ⟨_, (hrow.cellAt (j * 15 + 1) (by omega)).trans (List.getElem?_eq_getElem (by omega))⟩
          have f1 := hrow.frozenAt (j * 15 + 1)
          obtain ⟨z2, n2⟩ : ∃ z, wr.cell? ⟨S, j * 15 + 2, none⟩ = some z := ⟨_, (hrow.cellAt (j * 15 + 2) (by omega)).trans (List.getElem?_eq_getElem (by omega))⟩
          have f2 := hrow.frozenAt (j * 15 + 2)
          obtain ⟨z3, n3⟩ : ∃ z, wr.cell? ⟨S, j * 15 + 3, none⟩ = some z := ⟨_, (hrow.cellAt (j * 15 + 3) (by omega)).trans (List.getElem?_eq_getElem (by omega))⟩
          have f3 := hrow.frozenAt (j * 15 + 3)
          obtain ⟨z4, n4⟩ : ∃ z, wr.cell? ⟨S, j * 15 + 4, none⟩ = some z := ⟨_, (hrow.cellAt (j * 15 + 4) (by omega)).trans (List.getElem?_eq_getElem (by omega))⟩
          have f4 := hrow.frozenAt (j * 15 + 4)
          obtain ⟨z5, n5⟩ : ∃ z, wr.cell? ⟨S, j * 15 + 5, none⟩ = some z := ⟨_, (hrow.cellAt (j * 15 + 5) (by omega)).trans (List.getElem?_eq_getElem (by omega))⟩
          have f5 := hrow.frozenAt (j * 15 + 5)
          obtain ⟨z6, n6⟩ : ∃ z, wr.cell? ⟨S, j * 15 + 6, none⟩ = some z := ⟨_, (hrow.cellAt (j * 15 + 6) (by omega)).trans (List.getElem?_eq_getElem (by omega))⟩
          have f6 := hrow.frozenAt (j * 15 + 6)
          obtain ⟨z7, n7⟩ : ∃ z, wr.cell? ⟨S, j * 15 + 7, none⟩ = some z := ⟨_, (hrow.cellAt (j * 15 + 7) (by omega)).trans (List.getElem?_eq_getElem (by omega))⟩
          have f7 := hrow.frozenAt (j * 15 + 7)
          obtain ⟨z8, n8⟩ : ∃ z, wr.cell? ⟨S, j * 15 + 8, none⟩ = some z := ⟨_, (hrow.cellAt (j * 15 + 8) (by omega)).trans (List.getElem?_eq_getElem (by omega))⟩
          have f8 := hrow.frozenAt (j * 15 + 8)
          obtain ⟨z9, n9⟩ : ∃ z, wr.cell? ⟨S, j * 15 + 9, none⟩ = some z := ⟨_, (hrow.cellAt (j * 15 + 9) (by omega)).trans (List.getElem?_eq_getElem (by omega))⟩
          have f9 := hrow.frozenAt (j * 15 + 9)
          obtain ⟨z10, n10⟩ : ∃ z, wr.cell? ⟨S, j * 15 + 10, none⟩ = some z := ⟨_, (hrow.cellAt (j * 15 + 10) (by omega)).trans (List.getElem?_eq_getElem (by omega))⟩
          have f10 := hrow.frozenAt (j * 15 + 10)
          obtain ⟨z11, n11⟩ : ∃ z, wr.cell? ⟨S, j * 15 + 11, none⟩ = some z := ⟨_, (hrow.cellAt (j * 15 + 11) (by omega)).trans (List.getElem?_eq_getElem (by omega))⟩
          have f11 := hrow.frozenAt (j * 15 + 11)
          obtain ⟨z12, n12⟩ : ∃ z, wr.cell? ⟨S, j * 15 + 12, none⟩ = some z := ⟨_, (hrow.cellAt (j * 15 + 12) (by omega)).trans (List.getElem?_eq_getElem (by omega))⟩
          have f12 := hrow.frozenAt (j * 15 + 12)
          obtain ⟨z13, n13⟩ : ∃ z, wr.cell? ⟨S, j * 15 + 13, none⟩ = some z := ⟨_, (hrow.cellAt (j * 15 + 13) (by omega)).trans (List.getElem?_eq_getElem (by omega))⟩
          have f13 := hrow.frozenAt (j * 15 + 13)
          obtain ⟨z14, n14⟩ : ∃ z, wr.cell? ⟨S, j * 15 + 14, none⟩ = some z := ⟨_, (hrow.cellAt (j * 15 + 14) (by omega)).trans (List.getElem?_eq_getElem (by omega))⟩
          have f14 := hrow.frozenAt (j * 15 + 14)
          have r1 := (hrow.stored (j * 15) (.int .i64 1)).1
          have r2 := (r1.stored (j * 15 + 1) (.int .i64 2)).1
          have r3 := (r2.stored (j * 15 + 2) (.int .i64 0)).1
          have r4 := (r3.stored (j * 15 + 3) (.int .i64 3)).1
          have r5 := (r4.stored (j * 15 + 4) (.int .i64 18)).1
          have r6 := (r5.stored (j * 15 + 5) (.int .i64 0)).1
          have r7 := (r6.stored (j * 15 + 6) (.int .i64 0)).1
          have r8 := (r7.stored (j * 15 + 7) (.int .i64 0)).1
          have r9 := (r8.stored (j * 15 + 8) (.int .i64 9)).1
          have r10 := (r9.stored (j * 15 + 9) (.int .i64 0)).1
          have r11 := (r10.stored (j * 15 + 10) (.string ⟨txK.toArray⟩)).1
          have r12 := (r11.stored (j * 15 + 11) (.int .i64 0)).1
          have r13 := (r12.stored (j * 15 + 12) (.int .i64 0)).1
          have r14 := (r13.stored (j * 15 + 13) (.string ⟨#[]⟩)).1
          have r15 := (r14.stored (j * 15 + 14) (.slice none 0 0)).1
          have r15 := Lib.hid r15
          have hxs' := Lib.hid hxs
          have hB15 := Lib.hid hBk
          have hb15 := Lib.hid hbk
          clear r1 r2 r3 r4 r5 r6 r7 r8 r9 r10 r11 r12 r13 r14 hrow hxs hBk hbk
          go_wp2_with fail
          go_roundw
          case rel =>
            have hne : B ≠ S := by omega
            refine ⟨j + 1, _, hlt, by go_num, r15.out, ?_, ?_, ?_⟩
            · intro i hi
              show (setAll xs (j * 15) csK)[i]? = _
              rw [setAll_get _ _ _ _ (by rw [csK_len, hxl]; omega), csK_len]
              by_cases h : i < j * 15
              · rw [if_neg (by omega), hxs'.out i h]
              · rw [if_pos (by omega), show i - j * 15 = i % 15 by omega]
            · iterate 15 refine Blk.setS ?_ hne
              exact hB15.out
            · iterate 15 refine belowS ?_ hwS
              exact hb15.out
          case measure => simp [intOf]; omega
        · obtain rfl : j = K := by omega
          have t1 : decide ((j : Int) < (j : Int)) = false := by simp
          have hO : OpsRd wr (some ⟨S, 0, none⟩) (List.replicate j ⟨exK, none, 0⟩) := by
            refine ⟨?_, fun y hy => ?_⟩
            · have h1 := (show Own wr S 38 15 (.slice (some ⟨S, 0, none⟩) j j) j xs from .inl hrow).rd'
              have e : xs = opsC (List.replicate j ⟨exK, none, 0⟩) := by
                apply List.ext_getElem?
                intro i
                by_cases h : i < j * 15
                · have h2 := opsC_at (List.replicate j ⟨exK, none, 0⟩) (i / 15) (by rw [List.length_replicate]; omega) (i % 15) (Nat.mod_lt _ (by omega))
                  rw [show i / 15 * 15 + i % 15 = i by omega, List.getElem_replicate] at h2
                  rw [hxs i h, h2]; rfl
                · rw [List.getElem?_eq_none (by omega), List.getElem?_eq_none (by rw [opsC_len, List.length_replicate]; omega)]
              rw [← e]; exact h1
            · obtain ⟨_, rfl⟩ := List.mem_replicate.1 hy
              exact ⟨exK_bd, Rd.nil _ _, Nat.le_refl _⟩
          have kW := write_any wr (some ⟨S, 0, none⟩) j (List.replicate j ⟨exK, none, 0⟩) hO (by rw [List.length_replicate]; omega) (hT.below hbk)
          have hL : opL (List.replicate j ⟨exK, none, 0⟩) = List.replicate j exK := by unfold opL; rw [List.map_replicate]
          have hfe : fstE (List.replicate j exK) = 0 := fstE_of (fun o ho => by rw [(List.mem_replicate.1 ho).2]; exact exK_c)
          have hcl := catE_rep exK j
          rw [exK_ent] at hcl
          rw [hL, List.length_replicate] at kW
          have hbk' := hbk
          clear hO hL hrow hxs hBk hxl
          by_cases h2 : j = 4682
          · subst h2
            obtain ⟨e1, e2⟩ := wrt_long hfe (by rw [hcl]; decide)
            rw [e1, e2] at kW
            clear hfe hcl e1 e2
            go_wp2_with fail
            refine kW.mono ?_
            rintro e w8 ⟨A8, c8, rfl, -, hb8⟩
            have hbe := stepB hbk' hb8
            clear kW hb8
            go_wp2_with fail
            refine (awake_any _ (hT.below hbe) (hF.below hbe)).mono ?_
            rintro e wz ⟨rfl, hbz⟩
            go_wp2_with fail
            go_ret
            exact ⟨rfl, stepB hbe hbz⟩
          · have h3 : j = 4680 ∨ j = 4681 := by omega
            obtain ⟨e1, e2⟩ := wrt_ok hfe (by rw [hcl]; omega)
            rw [e1, e2] at kW
            clear hfe e1 e2 h2
            generalize catE (List.replicate j exK) = M2 at *
            unfold RetBy at kW
            rw [hcl] at kW
            clear hcl
            rcases h3 with rfl | rfl
            · go_wp2_with fail
              refine kW.mono ?_
              rintro e w8 ⟨A8, c8, rfl, -, hb8⟩
              have hbe := stepB hbk' hb8
              clear kW hb8
              go_wp2_with fail
              refine (awake_any _ (hT.below hbe) (hF.below hbe)).mono ?_
              rintro e wz ⟨rfl, hbz⟩
              go_wp2_with fail
              go_ret
              exact ⟨rfl, stepB hbe hbz⟩
            · go_wp2_with fail
              refine kW.mono ?_
              rintro e w8 ⟨A8, c8, rfl, -, hb8⟩
              have hbe := stepB hbk' hb8
              clear kW hb8
              go_wp2_with fail
              refine (awake_any _ (hT.below hbe) (hF.below hbe)).mono ?_
              rintro e wz ⟨rfl, hbz⟩
              go_wp2_with fail
              go_ret
              exact ⟨rfl, stepB hbe hbz⟩
end Go.Proofs.YtcomeidcmcegfaaDoor
