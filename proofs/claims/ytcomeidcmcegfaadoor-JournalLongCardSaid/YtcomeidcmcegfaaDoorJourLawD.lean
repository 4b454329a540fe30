/-
  The walk of JournalDamage of the statements of layer 53. Conditions: the tables lie as their initialisers lay them.
-/
import Derived.Test.YtcomeidcmcegfaaDoorJourLawR
import Derived.IntWalk
namespace Go.Proofs.YtcomeidcmcegfaaDoor
open Go.RowKit
set_option linter.unusedVariables false
set_option linter.unusedSimpArgs false

theorem xor_u8 (y x : UInt8) : bits BinOp.xor IntKind.u8 (y.toNat : Int) (x.toNat : Int) = ((y ^^^ x).toNat : Int) := by
  rw [u8_xor_nat _ _ (by have := y.toNat_lt; omega) (by have := x.toNat_lt; omega), UInt8.toNat_xor]
/-- 'l[:h]' of operations has the same address, length k -/
theorem slice_ops (A : Option Addr) (c n : Nat) (hc : n ≤ c) (h : Int) (k : Nat) (e : h = (k : Int)) (hk : k ≤ n) (w' : World) :
    (Instr.slice 22 (.slice A n c) none (some (.int .i64 h)) none).run Tryd.prog w' = .ok (.slice A k c) w' := by
  subst e
  have hel : Tryd.prog.elem 22 = 38 := by kernel_rfl
  have h1 := run_slice_h (P := Tryd.prog) (w := w') 22 A n c (by rw [hel]; exact Tryd.underlying22) .i64 (k : Int) (by omega) (by omega)
  have hsz : (sizeOf (Tryd.prog.elem 22)).run Tryd.prog w' = .ok 15 w' := by
    rw [hel]
    obtain ⟨i0, hi0, hz0, hz1, hz2⟩ := info_parts info_op
    simp [sizeOf, typeInfo, hi0, hz1]
  rw [hsz] at h1
  simp only [Result.andThen_ok, sliced, Int.toNat_natCast, Nat.zero_mul, Nat.sub_zero] at h1
  rw [h1]
  by_cases h0 : c = 0
  · rw [if_pos h0]
  · rw [if_neg h0]
    rcases A with _ | a
    · rfl
    · show Result.ok (Value.slice (some (a.add 0)) k c) w' = _
      rw [addr_add0]
theorem opsC_take (xs : List OX) (k : Nat) : opsC (xs.take k) = (opsC xs).take (k * 15) := by
  induction xs generalizing k with
  | nil => simp [opsC]
  | cons x xs ih =>
    rcases k with _ | k
    · simp [opsC]
    · have e : opsC (x :: xs) = x.cs ++ opsC xs := rfl
      have e' : opsC (x :: xs.take k) = x.cs ++ opsC (xs.take k) := rfl
      rw [List.take_succ_cons, e', e, ih, List.take_append, OX.cs_len, show x.cs.take ((k + 1) * 15) = x.cs from List.take_of_length_le (by rw [OX.cs_len]; omega), show (k + 1) * 15 - 15 = k * 15 by omega]
theorem OpsRd.take {w : World} {A : Option Addr} {xs : List OX} (h : OpsRd w A xs) (k : Nat) : OpsRd w A (xs.take k) :=
  ⟨by rw [opsC_take]; exact h.rd.take _, fun x hx => h.ok x (List.mem_of_mem_take hx)⟩
theorem opL_take (xs : List OX) (k : Nat) : opL (xs.take k) = (opL xs).take k := by unfold opL; rw [List.map_take]
def DamRel (w : World) (xs : List OX) (n : Nat) (ve vi : Value) (wr : World) : Prop := ∃ j : Nat, j ≤ n + 1 ∧ vi = .int .i64 j ∧ ve = .int .i64 ((catE ((opL xs).take j)).length : Int) ∧ Up w wr
set_option maxRecDepth 100000 in
set_option maxHeartbeats 16000000 in
theorem walk_JournalDamage (w : World) (A : Option Addr) (c : Nat) (xs : List OX) (hr : Rd w A (opsC xs)) (hm : xs.length ≤ maxLen) (hg : ∀ x ∈ xs, x.Ok w) (hq : xs.length ≤ c) (k : Int) (bk : -9223372036854775808 ≤ k ∧ k ≤ 9223372036854775807)
    (at_ : Int) (ba : -9223372036854775808 ≤ at_ ∧ at_ ≤ 9223372036854775807) (x : UInt8) (hT : Tabs w) (hF : TabR w) :
    Calls Tryd.prog 3 #[.slice A xs.length c, .int .i64 k, .int .i64 at_, .int .u8 x.toNat] w fun e w' => e = .returned (.bool true) ∧ Below w.heap.size w w' := by
  have hX : OpsRd w A xs := ⟨hr, hg⟩
  clear hr hg
  rcases hf : fewJ (opL xs) with _ | _
  · have kf := few_is w A c xs hX hm hf
    clear hf hX
    go_enter Tryd.func3, Tryd.ntmps3
    go_wp2_with fail
    refine kf.mono ?_
    rintro e w2 ⟨rfl, hb2⟩
    clear kf
    go_wp2_with fail
    refine (awake_any _ (hT.below hb2) (hF.below hb2)).mono ?_
    rintro e wz ⟨rfl, hbz⟩
    go_wp2_with fail
    go_ret
    exact ⟨rfl, stepB hb2 hbz⟩
  have kf := few_is w A c xs hX hm hf
  have h40 := few_len hf
  rw [opL_len] at h40
  clear hf
  by_cases hk0 : k < 0
  · have t1 : decide (k < 0) = true := decide_eq_true hk0
    clear hX
    go_enter Tryd.func3, Tryd.ntmps3
    go_wp2_with fail
    refine kf.mono ?_
    rintro e w2 ⟨rfl, hb2⟩
    clear kf
    go_wp2_with fail
    refine (awake_any _ (hT.below hb2) (hF.below hb2)).mono ?_
    rintro e wz ⟨rfl, hbz⟩
    go_wp2_with fail
    go_ret
    exact ⟨rfl, stepB hb2 hbz⟩
  have t1 : decide (k < 0) = false := decide_eq_false hk0
  by_cases hk1 : (xs.length : Int) ≤ k
  · have t2 : decide ((xs.length : Int) ≤ k) = true := decide_eq_true hk1
    clear hX
    go_enter Tryd.func3, Tryd.ntmps3
    go_wp2_with fail
    refine kf.mono ?_
    rintro e w2 ⟨rfl, hb2⟩
    clear kf
    go_wp2_with fail
    refine (awake_any _ (hT.below hb2) (hF.below hb2)).mono ?_
    rintro e wz ⟨rfl, hbz⟩
    go_wp2_with fail
    go_ret
    exact ⟨rfl, stepB hb2 hbz⟩
  have t2 : decide ((xs.length : Int) ≤ k) = false := decide_eq_false hk1
  by_cases hx0 : x = 0
  · have t3 : ((x.toNat : Int) == 0) = true := by rw [hx0]; rfl
    have t3' : (x.toNat == 0) = true := by rw [hx0]; rfl
    clear hX hx0
    go_enter Tryd.func3, Tryd.ntmps3
    go_wp2_with fail
    refine kf.mono ?_
    rintro e w2 ⟨rfl, hb2⟩
    clear kf
    go_wp2_with fail
    refine (awake_any _ (hT.below hb2) (hF.below hb2)).mono ?_
    rintro e wz ⟨rfl, hbz⟩
    go_wp2_with fail
    go_ret
    exact ⟨rfl, stepB hb2 hbz⟩
  have hxn : x.toNat ≠ 0 := fun e => hx0 (UInt8.toNat_inj.1 e)
  have t3 : ((x.toNat : Int) == 0) = false := by rw [beq_eq_false_iff_ne]; omega
  have t3' : (x.toNat == 0) = false := by rw [beq_eq_false_iff_ne]; exact hxn
  obtain ⟨n, rfl⟩ : ∃ n : Nat, k = (n : Int) := ⟨k.toNat, by omega⟩
  have hnl : n < xs.length := by omega
  have k0 := fun w' (h : Below w.heap.size w w') => write_any w' A c xs (hX.below h) (by omega) (hT.below h)
  by_cases hE : wrtE (opL xs) = 0
  rotate_left
  · have t4 : (wrtE (opL xs) != 0) = true := by simpa using hE
    generalize wrtE (opL xs) = E at *
    generalize wrtB (opL xs) = L at *
    clear hE
    go_enter Tryd.func3, Tryd.ntmps3
    go_wp2_with fail
    refine kf.mono ?_
    rintro e w2 ⟨rfl, hb2⟩
    clear kf
    go_wp2_with fail
    refine (k0 _ hb2).mono ?_
    rintro e w3 ⟨A3, c3, rfl, hown3, hb3⟩
    have hbe := stepB hb2 hb3
    clear k0 hb3 hown3
    go_wp2_with fail
    refine (awake_any _ (hT.below hbe) (hF.below hbe)).mono ?_
    rintro e wz ⟨rfl, hbz⟩
    go_wp2_with fail
    go_ret
    exact ⟨rfl, stepB hbe hbz⟩
  have hRt := Lib.hid (Rt.of hE (fun o ho => by
    obtain ⟨y, hy, rfl⟩ := List.mem_map.1 ho
    exact (hX.ok y hy).bd))
  obtain ⟨-, hLl, hLb⟩ := wrt_good hE
  rw [hE, hLb] at k0
  clear hE hLb
  have hCl := Lib.hid (fun j => catE_mono (opL xs) (i := j) (j := xs.length))
  have hLt : (opL xs).take xs.length = opL xs := by rw [← opL_len xs, List.take_length]
  have hCl : ∀ j, j ≤ xs.length → (catE ((opL xs).take j)).length ≤ (catE (opL xs)).length := fun j hj => by have := hCl.out j hj; rwa [hLt] at this
  have hCl := Lib.hid hCl
  clear hLt
  go_enter Tryd.func3, Tryd.ntmps3
  go_wp2_with fail
  refine kf.mono ?_
  rintro e w2 ⟨rfl, hb2⟩
  clear kf
  go_wp2_with fail
  refine (k0 _ hb2).mono ?_
  rintro e w3 ⟨A3, c3, rfl, hown3, hb3⟩
  have u3 := Lib.hid ((Up.of hb2).trans (Up.of hb3))
  have hr3 := Lib.hid hown3.rd'
  have k0 := trivial
  clear k0 hb3 hown3 hb2
  go_wp2_with fail
  go_loopw [11, 12] (DamRel w3 xs n) (fun _ i _ => n + 1 - (intOf i).toNat)
  case atStart => exact ⟨0, by omega, rfl, rfl, Up.refl _⟩
  case round =>
    obtain ⟨j, hj, rfl, rfl, hu⟩ := hrel
    have huw := u3.out.trans hu
    by_cases hlt : j ≤ n
    · have q1 : decide ((j : Int) ≤ (n : Int)) = true := decide_eq_true (by omega)
      have q2 : (j : Int) < (xs.length : Int) := by omega
      have q3 : 0 ≤ (j : Int) := by omega
      have hjl : j < xs.length := by omega
      obtain ⟨b, off, rfl, -, hrg⟩ := (hX.below huw.b).range hjl
      have hok := (hX.below huw.b).ok _ (List.getElem_mem hjl)
      have hN := Lib.hid (catE_next (opL xs) j (by rw [opL_len]; exact hjl))
      have hC1 := hCl.out (j + 1) (by omega)
      simp only [opL_get xs j hjl] at hN
      generalize xs[j] = y at *
      obtain ⟨o, Ao, co⟩ := y
      obtain ⟨bdo, ro, qo⟩ := hok
      dsimp only at bdo ro qo hN
      have m0 : wr.cell? ⟨b, off + j * 15, none⟩ = some (.int .i64 o.ac) := hrg 0 _ rfl
      have m1 : wr.cell? ⟨b, off + j * 15 + 1, none⟩ = some (.int .i64 o.ad) := hrg 1 _ rfl
      have m2 : wr.cell? ⟨b, off + j * 15 + 2, none⟩ = some (.int .i64 o.kd) := hrg 2 _ rfl
      have m3 : wr.cell? ⟨b, off + j * 15 + 3, none⟩ = some (.int .i64 o.rc) := hrg 3 _ rfl
      have m4 : wr.cell? ⟨b, off + j * 15 + 4, none⟩ = some (.int .i64 o.id) := hrg 4 _ rfl
      have m5 : wr.cell? ⟨b, off + j * 15 + 5, none⟩ = some (.int .i64 o.ti) := hrg 5 _ rfl
      have m6 : wr.cell? ⟨b, off + j * 15 + 6, none⟩ = some (.int .i64 o.pa) := hrg 6 _ rfl
      have m7 : wr.cell? ⟨b, off + j * 15 + 7, none⟩ = some (.int .i64 o.sf) := hrg 7 _ rfl
      have m8 : wr.cell? ⟨b, off + j * 15 + 8, none⟩ = some (.int .i64 o.st) := hrg 8 _ rfl
      have m9 : wr.cell? ⟨b, off + j * 15 + 9, none⟩ = some (.int .i64 o.rk) := hrg 9 _ rfl
      have m10 : wr.cell? ⟨b, off + j * 15 + 10, none⟩ = some (.string ⟨o.nt.toArray⟩) := hrg 10 _ rfl
      have m11 : wr.cell? ⟨b, off + j * 15 + 11, none⟩ = some (.int .i64 o.se) := hrg 11 _ rfl
      have m12 : wr.cell? ⟨b, off + j * 15 + 12, none⟩ = some (.int .i64 o.nn) := hrg 12 _ rfl
      have m13 : wr.cell? ⟨b, off + j * 15 + 13, none⟩ = some (.string ⟨o.tx.toArray⟩) := hrg 13 _ rfl
      have m14 : wr.cell? ⟨b, off + j * 15 + 14, none⟩ = some (.slice Ao o.ov.length co) := hrg 14 _ rfl
      have kE := entry_any wr o Ao co bdo ro qo (hT.below huw.b)
      have hNl : (catE ((opL xs).take (j + 1))).length = (catE ((opL xs).take j)).length + (entB o).length := by rw [hN.out, List.length_append]
      have hwr : IntKind.i64.wrap (((catE ((opL xs).take j)).length : Int) + ((entB o).length : Int)) = ((catE ((opL xs).take (j + 1))).length : Int) := by rw [IntWalk.i64_in _ (by omega)]; omega
      have hwr' : ((catE ((opL xs).take j)).length : Int) + ((entB o).length : Int) = ((catE ((opL xs).take (j + 1))).length : Int) := by omega
      have HNl := Lib.hid hwr'
      have hu' := Lib.hid hu
      clear hNl hN hrg hu huw hC1 hwr'
      generalize entB o = M at *
      generalize checkE o = EE at *
      unfold opV opC at kE
      go_wp2_with fail
      refine kE.mono ?_
      rintro e w5 ⟨A5, c5, rfl, -, hb5⟩
      have hb5' := Lib.hid hb5
      clear kE m0 m1 m2 m3 m4 m5 m6 m7 m8 m9 m10 m11 m12 m13 m14 hb5
      go_wp2_with fail
      go_roundw
      case rel => exact ⟨j + 1, by omega, by go_num, by rw [← HNl.out], hu'.out.trans (Up.of hb5'.out)⟩
      case measure => simp [intOf]; omega
    · obtain rfl : j = n + 1 := by omega
      have q1 : decide (((n + 1 : Nat) : Int) ≤ (n : Int)) = false := decide_eq_false (by omega)
      obtain ⟨b, off, rfl, -, hrg⟩ := (hX.below huw.b).range hnl
      have hok := (hX.below huw.b).ok _ (List.getElem_mem hnl)
      have hd := jr_damage (opL xs) hRt.out n
      have hE2 := hRt.out _ (List.getElem_mem (show n < (opL xs).length by rw [opL_len]; exact hnl))
      have hN := catE_next (opL xs) n (by rw [opL_len]; exact hnl)
      have hC1 := hCl.out (n + 1) (by omega)
      simp only [opL_get xs n hnl] at hd hE2 hN
      generalize xs[n] = y at *
      obtain ⟨o, Ao, co⟩ := y
      obtain ⟨bdo, ro, qo⟩ := hok
      dsimp only at bdo ro qo hd hE2 hN
      have m0 : wr.cell? ⟨b, off + n * 15, none⟩ = some (.int .i64 o.ac) := hrg 0 _ rfl
      have m1 : wr.cell? ⟨b, off + n * 15 + 1, none⟩ = some (.int .i64 o.ad) := hrg 1 _ rfl
      have m2 : wr.cell? ⟨b, off + n * 15 + 2, none⟩ = some (.int .i64 o.kd) := hrg 2 _ rfl
      have m3 : wr.cell? ⟨b, off + n * 15 + 3, none⟩ = some (.int .i64 o.rc) := hrg 3 _ rfl
      have m4 : wr.cell? ⟨b, off + n * 15 + 4, none⟩ = some (.int .i64 o.id) := hrg 4 _ rfl
      have m5 : wr.cell? ⟨b, off + n * 15 + 5, none⟩ = some (.int .i64 o.ti) := hrg 5 _ rfl
      have m6 : wr.cell? ⟨b, off + n * 15 + 6, none⟩ = some (.int .i64 o.pa) := hrg 6 _ rfl
      have m7 : wr.cell? ⟨b, off + n * 15 + 7, none⟩ = some (.int .i64 o.sf) := hrg 7 _ rfl
      have m8 : wr.cell? ⟨b, off + n * 15 + 8, none⟩ = some (.int .i64 o.st) := hrg 8 _ rfl
      have m9 : wr.cell? ⟨b, off + n * 15 + 9, none⟩ = some (.int .i64 o.rk) := hrg 9 _ rfl
      have m10 : wr.cell? ⟨b, off + n * 15 + 10, none⟩ = some (.string ⟨o.nt.toArray⟩) := hrg 10 _ rfl
      have m11 : wr.cell? ⟨b, off + n * 15 + 11, none⟩ = some (.int .i64 o.se) := hrg 11 _ rfl
      have m12 : wr.cell? ⟨b, off + n * 15 + 12, none⟩ = some (.int .i64 o.nn) := hrg 12 _ rfl
      have m13 : wr.cell? ⟨b, off + n * 15 + 13, none⟩ = some (.string ⟨o.tx.toArray⟩) := hrg 13 _ rfl
      have m14 : wr.cell? ⟨b, off + n * 15 + 14, none⟩ = some (.slice Ao o.ov.length co) := hrg 14 _ rfl
      have hfl := entB_ok hE2.1
      have kB := bytes_any wr o Ao co bdo ro qo (hT.below huw.b)
      unfold bytesR at kB
      rw [if_pos hE2.1, hE2.1] at kB
      have hsz := opB_size hE2.1
      have hEl : (opB o).length + 4 ≤ (entB o).length := by rw [hfl.1, fseal_length]; omega
      have hEnd : (opB o).length + 4 ≤ (catE ((opL xs).take (n + 1))).length := by rw [hN, List.length_append]; omega
      have hd := Lib.hid hd
      have hu' := Lib.hid hu
      have hLl' := Lib.hid hLl
      have hCl' := hCl
      clear hN hE2 hfl hEl hrg hu huw
      generalize opB o = B at *
      unfold opV opC at kB
      go_wp2_with fail
      refine kB.mono ?_
      rintro e w5 ⟨A5, c5, rfl, -, hb5⟩
      have u5 := Lib.hid (hu'.out.trans (Up.of hb5))
      have ub := Lib.hid ((u3.out.trans u5.out).b)
      clear kB m0 m1 m2 m3 m4 m5 m6 m7 m8 m9 m10 m11 m12 m13 m14 hb5
      by_cases h0 : at_ < 0
      · have e1 : decide (at_ < 0) = true := decide_eq_true h0
        have hbe := ub.out
        go_wp2_with fail
        refine (awake_any _ (hT.below hbe) (hF.below hbe)).mono ?_
        rintro e wz ⟨rfl, hbz⟩
        go_wp2_with fail
        go_ret
        exact ⟨rfl, stepB hbe hbz⟩
      have e1 : decide (at_ < 0) = false := decide_eq_false h0
      have e2 : IntKind.i64.wrap ((B.length : Int) + 4) = (B.length : Int) + 4 := IntWalk.i64_in _ (by omega)
      by_cases h1 : (B.length : Int) + 4 ≤ at_
      · have e3 : decide ((B.length : Int) + 4 ≤ at_) = true := decide_eq_true h1
        have hbe := ub.out
        go_wp2_with fail
        refine (awake_any _ (hT.below hbe) (hF.below hbe)).mono ?_
        rintro e wz ⟨rfl, hbz⟩
        go_wp2_with fail
        go_ret
        exact ⟨rfl, stepB hbe hbz⟩
      have e3 : decide ((B.length : Int) + 4 ≤ at_) = false := decide_eq_false h1
      obtain ⟨a, rfl⟩ : ∃ a : Nat, at_ = (a : Int) := ⟨at_.toNat, by omega⟩
      have hd := Lib.hid (hd.out a x)
      have hqb : (catE ((opL xs).take (n + 1))).length - 1 - a < (catE (opL xs)).length := by omega
      have hw1 : IntKind.i64.wrap (((catE ((opL xs).take (n + 1))).length : Int) - 1) = ((catE ((opL xs).take (n + 1))).length : Int) - 1 := IntWalk.i64_in _ (by omega)
      have hw2 : IntKind.i64.wrap (((catE ((opL xs).take (n + 1))).length : Int) - 1 - (a : Int)) = (((catE ((opL xs).take (n + 1))).length - 1 - a : Nat) : Int) := by rw [IntWalk.i64_in _ (by omega)]; omega
      obtain ⟨i0, hi0, hz0, hz1, hz2⟩ := info_parts info_u8
      have hr5 := hr3.out.below u5.out.b
      generalize hqd : (catE ((opL xs).take (n + 1))).length - 1 - a = q at *
      clear hqd
      have hLL := Lib.hid hLl
      generalize catE (opL xs) = L at *
      have hRd := Lib.hid hr5
      go_wp2_with (first
        | (at_builtin
           refine wpList_append_map _ U8 U8_one rfl (.tmp 81) (.tmp 82) _ rfl w5.heap.size 5 i0 _ 1 Tryd.underlying25 hi0 hz0 hz1 hz2 rfl none 0 [] rfl (Own.nil _ _ _ _) A3 c3 L rfl hr5 (by simp only [maxLen]; simp; omega) (by simp; omega) (Nat.le_refl _) ?_
           intro A6 c6 L6 w6 e6 hown6 hr6 hg6 hb6 hat6
           have e6' : L = L6 := e6.out.symm
           subst e6'
           obtain ⟨_, _, eq6, hcap6, -⟩ := hown6.form
           cases eq6
           obtain ⟨g, rfl, gb, glt, hrow⟩ := hown6.slot (by omega)
           have hcell := hrow.cellAt q (by omega)
           have hfz := hrow.frozenAt q
           rw [List.getElem?_map, List.getElem?_eq_getElem hqb, Option.map_some] at hcell
           have hst := Lib.hid (hrow.stored q (U8 (L[q] ^^^ x)))
           have hx1 := xor_u8 (L[q]) x
           have hdd := Lib.hid (hd.out (by rw [opL_len]; exact hnl) hx0 (by omega) (L[q] ^^^ x) (by rw [List.getElem?_eq_getElem hqb]; rfl))
           have i1 : (q : Int) < (L.length : Int) := by omega
           have i2 : 0 ≤ (q : Int) := by omega
           have hb6' := Lib.hid hb6
           have hcap6 := Lib.hid hcap6
           have gb := Lib.hid gb
           generalize L[q] = yv at *
           unfold U8 at hcell
           clear hown6 hr6 hg6 hb6 hat6 hrow e6 hr5)
        | fail)
      rw [show ((yv.toNat ^^^ x.toNat : Nat) : Int) = (((yv ^^^ x).toNat : Nat) : Int) by rw [UInt8.toNat_xor]]
      have hR7 : Rd (w6.setCell ⟨g, q, none⟩ (.int .u8 ((yv ^^^ x).toNat : Int))) (some ⟨g, 0, none⟩) ((L.set q (yv ^^^ x)).map U8) := by
        have h7 := (show Own (w6.setCell ⟨g, q, none⟩ (U8 (yv ^^^ x))) _ 5 1 (.slice (some ⟨g, 0, none⟩) L.length c6) L.length ((L.map U8).set q (U8 (yv ^^^ x))) from .inl hst.out.1).rd'
        rw [← List.map_set] at h7
        exact h7
      have hb7 : Below w.heap.size w (w6.setCell ⟨g, q, none⟩ (.int .u8 ((yv ^^^ x).toNat : Int))) := (stepB ub.out hb6'.out).setCell (p := ⟨g, q, none⟩) (by have := ub.out.size; have := gb.out; show w.heap.size ≤ g; omega) _
      generalize w6.setCell ⟨g, q, none⟩ (.int .u8 ((yv ^^^ x).toNat : Int)) = w7 at *
      have kR := read_any w7 (some ⟨g, 0, none⟩) c6 (L.set q (yv ^^^ x)) hR7 (by rw [List.length_set]; omega) (by rw [List.length_set]; exact hcap6.out) (hT.below hb7)
      unfold RetJr at kR
      rw [List.length_set] at kR
      have hlen7 := Lib.hid (fun (zs : List OX) (h : opL zs = (jr (L.set q (yv ^^^ x))).1.map (·.2)) => jr_length h)
      generalize hJL : (jr (L.set q (yv ^^^ x))).1.map (·.2) = JL at *
      generalize (jr (L.set q (yv ^^^ x))).2 = JQ at *
      have hJL' := Lib.hid hJL
      have hb7' := Lib.hid hb7
      have sl := slice_ops (some ⟨b, off, none⟩) c xs.length hq (n : Int) n rfl (by omega)
      clear hR7 hb7 hcell hfz hJL
      refine kR.mono ?_
      rintro e w8 ⟨zs, A8, c8, rfl, hz8, hO8, hc8, hb8⟩
      have hb8' := Lib.hid (stepB hb7'.out hb8)
      have hz8l := hlen7.out zs hz8
      rw [List.length_set] at hz8l
      have kS := same_any w8 A8 (some ⟨b, off, none⟩) c8 c zs (xs.take n) hO8 ((hX.take n).below hb8'.out) (by unfold maxLen; omega) (by rw [List.length_take]; omega)
      rw [show sameL (opL zs) (opL (xs.take n)) = true from (sameL_iff _ _).2 (by rw [opL_take, hz8]; exact hdd.out), List.length_take, Nat.min_eq_left (by omega)] at kS
      clear kR hz8 hO8 hb8 hz8l hlen7
      go_wp2_with fail
      refine kS.mono ?_
      rintro e w9 ⟨rfl, hb9⟩
      have hbe := stepB hb8'.out hb9
      clear kS hb9
      go_wp2_with fail
      refine (awake_any _ (hT.below hbe) (hF.below hbe)).mono ?_
      rintro e wz ⟨rfl, hbz⟩
      go_wp2_with fail
      go_ret
      exact ⟨rfl, stepB hbe hbz⟩
end Go.Proofs.YtcomeidcmcegfaaDoor
