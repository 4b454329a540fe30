/-
  The walk of the iterator of both of layer 51: two lists, merged by increasing stamps. Conditions: the operations are readable.
-/
import Derived.Test.YtcomeidcmcegfaaGreatDoorZP
import Derived.Test.YtcomeidcmcegfaaGreatDoorZN
namespace Go.Proofs.YtcomeidcmcegfaaGreatDoor
open Go.RowKit Go.Shelf
set_option linter.unusedVariables false
set_option linter.unusedSimpArgs false
attribute [local go_sem] Oper.semAt_some
def mrgX (xs ys : List OX) : List OX := mrg (fun x y => ltO x.o y.o) xs ys
theorem mrgX_right {xs ys : List OX} {i k : Nat} (hi : i < xs.length) (hk : k < ys.length) (h : lessB ys[k].o.ac ys[k].o.ad xs[i].o.ac xs[i].o.ad = true) : mrgX (xs.drop i) (ys.drop k) = ys[k] :: mrgX (xs.drop i) (ys.drop (k + 1)) := by
 rw [List.drop_eq_getElem_cons hi, List.drop_eq_getElem_cons hk]
 unfold mrgX
 rw [mrg]
 exact if_pos h
theorem mrgX_left {xs ys : List OX} {i k : Nat} (hi : i < xs.length) (hk : k < ys.length) (h : lessB ys[k].o.ac ys[k].o.ad xs[i].o.ac xs[i].o.ad = false) : mrgX (xs.drop i) (ys.drop k) = xs[i] :: mrgX (xs.drop (i + 1)) (ys.drop k) := by
 rw [List.drop_eq_getElem_cons hi, List.drop_eq_getElem_cons hk]
 unfold mrgX
 rw [mrg]
 exact if_neg (by show ¬ lessB _ _ _ _ = true; rw [h]; decide)
theorem mrgX_lend (xs : List OX) {ys : List OX} {k : Nat} (hk : k < ys.length) : mrgX (xs.drop xs.length) (ys.drop k) = ys[k] :: mrgX (xs.drop xs.length) (ys.drop (k + 1)) := by
 rw [List.drop_length, List.drop_eq_getElem_cons hk]
 unfold mrgX
 rw [mrg, mrg]
theorem mrgX_nil (l : List OX) : mrgX l [] = l := by
 unfold mrgX
 rcases l with _ | ⟨a, l⟩
 ·rw [mrg]
 ·rw [mrg]
theorem mrgX_rend {xs : List OX} (ys : List OX) {i : Nat} (hi : i < xs.length) : mrgX (xs.drop i) (ys.drop ys.length) = xs[i] :: mrgX (xs.drop (i + 1)) (ys.drop ys.length) := by
 rw [List.drop_length, mrgX_nil, mrgX_nil, List.drop_eq_getElem_cons hi]
def BothG (Kp : World → World → Prop) (W0 : World) (xs ys M : List OX) (J : List OX → World → Prop) (vi vk : Value) (wr : World) : Prop :=
 ∃ (i k : Nat) (pre : List OX), vi = .int .i64 i ∧ vk = .int .i64 k ∧ i ≤ xs.length ∧ k ≤ ys.length ∧ Hid (M = pre ++ mrgX (xs.drop i) (ys.drop k)) ∧ J pre wr ∧ Kp W0 wr
set_option maxRecDepth 100000 in
set_option maxHeartbeats 16000000 in
theorem bothG_in (n : Nat) (hn : 1 ≤ n) (l Ba Bb : Nat) (Aa Ab : Option Addr) (ca cb : Nat) (xs ys M : List OX) (hM : M = mrgX xs ys) (hxs : xs.length ≤ maxLen) (hys : ys.length ≤ maxLen) (Kp : World → World → Prop) (W0 : World)
 (hKt : ∀ {A B C : World}, Kp A B → Kp B C → Kp A C) (hKu : ∀ {W W' : World}, Kp W0 W → Below W.heap.size W W' → Kp W W')
 (hKB : ∀ W, Kp W0 W → Blk W Ba 25 #[.slice Aa xs.length ca] ∧ Blk W Bb 25 #[.slice Ab ys.length cb] ∧ OpsRd W Aa xs ∧ OpsRd W Ab ys)
 (J Jx : List OX → World → Prop)
 (hY : ∀ pre x W, J pre W → NextIn M pre x W → pre.length < M.length → YieldAt Fence.wide (n - 1) Tryz.prog l (opEnc x) W fun e W' => (e = .returned (.bool true) ∧ J (pre ++ [x]) W' ∧ Kp W W') ∨ (e = .returned (.bool false) ∧ Jx (pre ++ [x]) W'))
 (W : World) (hW : Kp W0 W) (hJ : AbidesFrom W.heap.size J) (hJx : AbidesFrom W.heap.size Jx) (h0 : J [] W) :
 CallsIn Fence.wide n Tryz.prog 45 #[.func (.yield l) #[] #[], .pointer (some ⟨Ba, 0, none⟩), .pointer (some ⟨Bb, 0, none⟩)] W fun e W' => (∃ v, e = .returned v) ∧ ((∃ zs, zs = M ∧ J zs W') ∨ ∃ pre, Jx pre W') := by
 unfold maxLen at hys hxs
 have HM0 := Lib.hid hM
 clear hM
 have HKt := Lib.hid (fun A B C => @hKt A B C)
 have HKu := Lib.hid (fun A B => @hKu A B)
 have HKB := Lib.hid hKB
 have HY := Lib.hid hY
 clear hKt hKu hKB hY
 refine callsIn_of_wp Tryz.func45 rfl trivial ?_ rfl
 simp only [Tryz.ntmps45, List.size_toArray, List.length_cons, List.length_nil, Nat.reduceAdd, Nat.reduceSub, Array.replicate_succ, Array.replicate_zero, List.push_toArray, List.append_toArray, List.nil_append, List.cons_append]
 gi_wp2
 gi_loopw [4, 5] (BothG Kp W0 xs ys M J) (fun u v _ => (xs.length - (intOf u).toNat) + (ys.length - (intOf v).toNat))
 case atStart => exact ⟨0, 0, [], rfl, rfl, Nat.zero_le _, Nat.zero_le _, HM0.out, h0, hW⟩
 case round =>
  obtain ⟨i, k, pre, rfl, rfl, hi, hk, hM, hJk, hKk⟩ := hrel
  obtain ⟨hBa, hBb, hRa, hRb⟩ := HKB.out wr hKk
  have cA : wr.cell? ⟨Ba, 0, none⟩ = some (.slice Aa xs.length ca) := by rw [hBa.cell]; rfl
  have cB : wr.cell? ⟨Bb, 0, none⟩ = some (.slice Ab ys.length cb) := by rw [hBb.cell]; rfl
  clear hBa hBb
  have sA : ∀ w', Up wr w' → w'.cell? ⟨Ba, 0, none⟩ = some (.slice Aa xs.length ca) := fun w' u => u.cell cA
  have sB : ∀ w', Up wr w' → w'.cell? ⟨Bb, 0, none⟩ = some (.slice Ab ys.length cb) := fun w' u => u.cell cB
  by_cases hli : i < xs.length
  ·by_cases hlt : k < ys.length
   ·rcases hq : lessB ys[k].o.ac ys[k].o.ad xs[i].o.ac xs[i].o.ad with _ | _
    ·as_aux_lemma =>
      have hN := Lib.hid (hM.out.trans (congrArg (pre ++ ·) (mrgX_left hli hlt hq)))
      have kL : ∀ w', Calls Tryz.prog 46 #[.agg #[.int .i64 ys[k].o.ac, .int .i64 ys[k].o.ad], .agg #[.int .i64 xs[i].o.ac, .int .i64 xs[i].o.ad]] w' (RetBool false w') := fun w' => by rw [← hq]; exact less_any w' _ _ _ _
      clear hq
      have t1 : decide ((i : Int) < (xs.length : Int)) = true := decide_eq_true (by omega)
      have t2 : (i : Int) < (xs.length : Int) := by omega
      have t3 : 0 ≤ (i : Int) := by omega
      have t4 : decide ((k : Int) < (ys.length : Int)) = true := decide_eq_true (by omega)
      have t5 : (k : Int) < (ys.length : Int) := by omega
      have t7 : 0 ≤ (k : Int) := by omega
      have t6 : ((i : Int) == (xs.length : Int)) = false := beq_eq_false_iff_ne.2 (by omega)
      gi_wp2
      refine wpIn_wide.2 ?_
      obtain ⟨bo, offo, rfl, hblto, hrgo⟩ := hRa.range hli
      have hoko := hRa.ok _ (List.getElem_mem hli)
      obtain ⟨bp, offp, rfl, hbltp, hrgp⟩ := hRb.range hlt
      have hokp := hRb.ok _ (List.getElem_mem hlt)
      generalize xs[i] = xo at *
      obtain ⟨o, Ao, co⟩ := xo
      obtain ⟨bdo, roo, qoo⟩ := hoko
      dsimp only at bdo roo qoo
      generalize ys[k] = xp at *
      obtain ⟨p, Ap, cp⟩ := xp
      obtain ⟨bdp, rop, qop⟩ := hokp
      dsimp only at bdp rop qop
      dsimp only at kL
      have m0 : wr.cell? ⟨bo, offo + i * 15, none⟩ = some (.int .i64 o.ac) := hrgo 0 _ rfl
      have m1 : wr.cell? ⟨bo, offo + i * 15 + 1, none⟩ = some (.int .i64 o.ad) := hrgo 1 _ rfl
      have m2 : wr.cell? ⟨bo, offo + i * 15 + 2, none⟩ = some (.int .i64 o.kd) := hrgo 2 _ rfl
      have m3 : wr.cell? ⟨bo, offo + i * 15 + 3, none⟩ = some (.int .i64 o.rc) := hrgo 3 _ rfl
      have m4 : wr.cell? ⟨bo, offo + i * 15 + 4, none⟩ = some (.int .i64 o.id) := hrgo 4 _ rfl
      have m5 : wr.cell? ⟨bo, offo + i * 15 + 5, none⟩ = some (.int .i64 o.ti) := hrgo 5 _ rfl
      have m6 : wr.cell? ⟨bo, offo + i * 15 + 6, none⟩ = some (.int .i64 o.pa) := hrgo 6 _ rfl
      have m7 : wr.cell? ⟨bo, offo + i * 15 + 7, none⟩ = some (.int .i64 o.sf) := hrgo 7 _ rfl
      have m8 : wr.cell? ⟨bo, offo + i * 15 + 8, none⟩ = some (.int .i64 o.st) := hrgo 8 _ rfl
      have m9 : wr.cell? ⟨bo, offo + i * 15 + 9, none⟩ = some (.int .i64 o.rk) := hrgo 9 _ rfl
      have m10 : wr.cell? ⟨bo, offo + i * 15 + 10, none⟩ = some (.string ⟨o.nt.toArray⟩) := hrgo 10 _ rfl
      have m11 : wr.cell? ⟨bo, offo + i * 15 + 11, none⟩ = some (.int .i64 o.se) := hrgo 11 _ rfl
      have m12 : wr.cell? ⟨bo, offo + i * 15 + 12, none⟩ = some (.int .i64 o.nn) := hrgo 12 _ rfl
      have m13 : wr.cell? ⟨bo, offo + i * 15 + 13, none⟩ = some (.string ⟨o.tx.toArray⟩) := hrgo 13 _ rfl
      have m14 : wr.cell? ⟨bo, offo + i * 15 + 14, none⟩ = some (.slice Ao o.ov.length co) := hrgo 14 _ rfl
      have q0 : wr.cell? ⟨bp, offp + k * 15, none⟩ = some (.int .i64 p.ac) := hrgp 0 _ rfl
      have q1 : wr.cell? ⟨bp, offp + k * 15 + 1, none⟩ = some (.int .i64 p.ad) := hrgp 1 _ rfl
      have rm0 := fun w' (u : Up wr w') => u.cell m0
      have rm1 := fun w' (u : Up wr w') => u.cell m1
      have rq0 := fun w' (u : Up wr w') => u.cell q0
      have rq1 := fun w' (u : Up wr w') => u.cell q1
      clear hrgo hrgp hRa hRb q0 q1
      refine wp_region_noPanic ?_
      refine wp_region_held_drew (S := fun w' => Up wr w') (by kernel_rfl) (Up.drew wr) (fun hHeld => ?_)
      refine tk 0 18 (v := ?_) ?_ ?_
      rotate_left
      ·intro w' hSw; clear hSw; go_simp; try (with_reducible rfl)
      try simp only [tkA, tkB, tkC]
      refine tk 1 19 (v := ?_) ?_ ?_
      rotate_left
      ·intro w' hS0; go_simp; try (with_reducible rfl)
      try simp only [tkA, tkB, tkC]
      refine tk 2 20 (v := ?_) ?_ ?_
      rotate_left
      ·intro w' hSw; clear hSw; go_simp; try (with_reducible rfl)
      try simp only [tkA, tkB, tkC]
      refine tk 3 21 (v := ?_) ?_ ?_
      rotate_left
      ·intro w' hSw; clear hSw; go_simp; try (with_reducible rfl)
      try simp only [tkA, tkB, tkC]
      refine tk 4 22 (v := ?_) ?_ ?_
      rotate_left
      ·intro w' hSw; clear hSw; go_simp; try (with_reducible rfl)
      try simp only [tkA, tkB, tkC]
      refine tk 5 23 (v := ?_) ?_ ?_
      rotate_left
      ·intro w' hSw; clear hSw; go_simp; try (with_reducible rfl)
      try simp only [tkA, tkB, tkC]
      refine tk 6 24 (v := ?_) ?_ ?_
      rotate_left
      ·intro w' hS0; go_simp; try (with_reducible rfl)
      try simp only [tkA, tkB, tkC]
      refine tk 7 25 (v := ?_) ?_ ?_
      rotate_left
      ·intro w' hSw; clear hSw; go_simp; try (with_reducible rfl)
      try simp only [tkA, tkB, tkC]
      refine tk 8 26 (v := ?_) ?_ ?_
      rotate_left
      ·intro w' hSw; clear hSw; go_simp; try (with_reducible rfl)
      try simp only [tkA, tkB, tkC]
      refine tk 9 27 (v := ?_) ?_ ?_
      rotate_left
      ·intro w' hSw; clear hSw; go_simp; try (with_reducible rfl)
      try simp only [tkA, tkB, tkC]
      refine tk 10 28 (v := ?_) ?_ ?_
      rotate_left
      ·intro w' hS0; go_simp; try (with_reducible rfl)
      try simp only [tkA, tkB, tkC]
      refine tk 11 29 (v := ?_) ?_ ?_
      rotate_left
      ·intro w' hSw; clear hSw; go_simp; try (with_reducible rfl)
      try simp only [tkA, tkB, tkC]
      refine tk 12 30 (v := ?_) ?_ ?_
      rotate_left
      ·intro w' hSw; clear hSw; go_simp; try (with_reducible rfl)
      try simp only [tkA, tkB, tkC]
      refine tk 13 31 (v := ?_) ?_ ?_
      rotate_left
      ·intro w' hSw; clear hSw; go_simp; try (with_reducible rfl)
      try simp only [tkA, tkB, tkC]
      refine tk 14 32 (v := ?_) ?_ ?_
      rotate_left
      ·intro w' hS0; go_simp; try (with_reducible rfl)
      try simp only [tkA, tkB, tkC]
      refine tk 15 33 (v := ?_) ?_ ?_
      rotate_left
      ·intro w' hS0; go_simp; try (with_reducible rfl)
      try simp only [tkA, tkB, tkC]
      refine tk 16 34 (v := ?_) ?_ ?_
      rotate_left
      ·intro w' hSw; clear hSw; go_simp; try (with_reducible rfl)
      try simp only [tkA, tkB, tkC]
      refine tk 17 35 (v := ?_) ?_ ?_
      rotate_left
      ·intro w' hSw; clear hSw; go_simp; try (with_reducible rfl)
      try simp only [tkA, tkB, tkC]
      refine tk 18 36 (v := ?_) ?_ ?_
      rotate_left
      ·intro w' hSw; clear hSw; go_simp; try (with_reducible rfl)
      try simp only [tkA, tkB, tkC]
      refine tk 19 37 (v := ?_) ?_ ?_
      rotate_left
      ·intro w' hS0; go_simp; try (with_reducible rfl)
      try simp only [tkA, tkB, tkC]
      refine wpAnyH_ready (rs := [20]) (by kernel_rfl) (by simp) ?_
      refine AllReadyH.cons rfl (fun K hK => ?_) AllReadyH.nil
      go_simp
      go_at_call 46
      refine (kL _).mono ?_
      rintro e w2 ⟨rfl, hb2⟩
      have hu2 := (Up.drew _).trans (Up.of hb2)
      refine hK.out _ _ hu2 (fun hHeld => ?_)
      clear hK K hHeld
      refine wpAnyH_more (S' := fun w' => Up w2 w') (fun w' h => Up.trans hu2 h) _ _ _ _ ?_
      have hHeld := Up.refl w2
      refine tk 21 39 (v := ?_) ?_ ?_
      rotate_left
      ·intro w' hSw; clear hSw; go_simp; try (with_reducible rfl)
      try simp only [tkA, tkB, tkC]
      refine tk 22 40 (v := ?_) ?_ ?_
      rotate_left
      ·intro w' hSw; clear hSw; go_simp; try (with_reducible rfl)
      try simp only [tkA, tkB, tkC]
      refine tk 23 6 (v := ?_) ?_ ?_
      rotate_left
      ·intro w' hSw; clear hSw; go_simp; try (with_reducible rfl)
      try simp only [tkA, tkB, tkC]
      refine wpAnyH_done (by kernel_rfl) ?_ _
      refine NoPanic.normal ?_
      clear hHeld
      clear kL rm0 rm1 rq0 rq1 hb2
      have uu : ∀ o, Up wr (w2.alloc o) := fun o => hu2.trans (Up.alloc' _ o)
      have cA' := fun o => (uu o).cell cA
      have cB' := fun o => (uu o).cell cB
      have m0 := fun o => (uu o).cell m0
      have m1 := fun o => (uu o).cell m1
      have m2 := fun o => (uu o).cell m2
      have m3 := fun o => (uu o).cell m3
      have m4 := fun o => (uu o).cell m4
      have m5 := fun o => (uu o).cell m5
      have m6 := fun o => (uu o).cell m6
      have m7 := fun o => (uu o).cell m7
      have m8 := fun o => (uu o).cell m8
      have m9 := fun o => (uu o).cell m9
      have m10 := fun o => (uu o).cell m10
      have m11 := fun o => (uu o).cell m11
      have m12 := fun o => (uu o).cell m12
      have m13 := fun o => (uu o).cell m13
      have m14 := fun o => (uu o).cell m14
      have uu := Lib.hid uu
      have ub := (uu.out (.cells (opC o Ao co).toArray 43)).b
      obtain ⟨fn, tmps, assign, body, hy, hR⟩ := HY.out pre ⟨o, Ao, co⟩ _ (hJ _ wr _ none hJk ⟨ub.os, ub.tape, ub.output, ub.size, fun k hk _ => ub.block k hk⟩ (fun r e => by cases e)) ⟨_, hN.out⟩ (by rw [hN.out]; simp)
      dsimp only [opEnc, opC] at hy
      have ub := Lib.hid ub
      gi_wp2
      refine hR.mono ?_
      rintro e W6 (⟨rfl, hJ6, hk6⟩ | ⟨rfl, hJx6⟩)
      ·clear hy hR
       gi_wp2
       go_roundw
       case rel => exact ⟨i + 1, k, pre ++ [⟨o, Ao, co⟩], by go_num, by go_num, by omega, by omega, by rw [Hid, hN.out, List.append_assoc]; rfl, hJ6, HKt.out _ _ _ hKk (HKt.out _ _ _ (HKu.out _ _ hKk ub.out) hk6)⟩
       case measure => simp [intOf]; omega
      ·clear hy hR
       gi_wp2
       exact bodyPost_ret (results_none rfl _ _ _) rfl ⟨⟨_, rfl⟩, .inr ⟨_, hJx6⟩⟩
    ·as_aux_lemma =>
      have hN := Lib.hid (hM.out.trans (congrArg (pre ++ ·) (mrgX_right hli hlt hq)))
      have kL : ∀ w', Calls Tryz.prog 46 #[.agg #[.int .i64 ys[k].o.ac, .int .i64 ys[k].o.ad], .agg #[.int .i64 xs[i].o.ac, .int .i64 xs[i].o.ad]] w' (RetBool true w') := fun w' => by rw [← hq]; exact less_any w' _ _ _ _
      clear hq
      have t1 : decide ((i : Int) < (xs.length : Int)) = true := decide_eq_true (by omega)
      have t2 : (i : Int) < (xs.length : Int) := by omega
      have t3 : 0 ≤ (i : Int) := by omega
      have t4 : decide ((k : Int) < (ys.length : Int)) = true := decide_eq_true (by omega)
      have t5 : (k : Int) < (ys.length : Int) := by omega
      have t7 : 0 ≤ (k : Int) := by omega
      have t6 : ((i : Int) == (xs.length : Int)) = false := beq_eq_false_iff_ne.2 (by omega)
      gi_wp2
      refine wpIn_wide.2 ?_
      obtain ⟨bp, offp, rfl, hbltp, hrgp⟩ := hRa.range hli
      have hokp := hRa.ok _ (List.getElem_mem hli)
      obtain ⟨bo, offo, rfl, hblto, hrgo⟩ := hRb.range hlt
      have hoko := hRb.ok _ (List.getElem_mem hlt)
      generalize xs[i] = xp at *
      obtain ⟨p, Ap, cp⟩ := xp
      obtain ⟨bdp, rop, qop⟩ := hokp
      dsimp only at bdp rop qop
      generalize ys[k] = xo at *
      obtain ⟨o, Ao, co⟩ := xo
      obtain ⟨bdo, roo, qoo⟩ := hoko
      dsimp only at bdo roo qoo
      dsimp only at kL
      have m0 : wr.cell? ⟨bo, offo + k * 15, none⟩ = some (.int .i64 o.ac) := hrgo 0 _ rfl
      have m1 : wr.cell? ⟨bo, offo + k * 15 + 1, none⟩ = some (.int .i64 o.ad) := hrgo 1 _ rfl
      have m2 : wr.cell? ⟨bo, offo + k * 15 + 2, none⟩ = some (.int .i64 o.kd) := hrgo 2 _ rfl
      have m3 : wr.cell? ⟨bo, offo + k * 15 + 3, none⟩ = some (.int .i64 o.rc) := hrgo 3 _ rfl
      have m4 : wr.cell? ⟨bo, offo + k * 15 + 4, none⟩ = some (.int .i64 o.id) := hrgo 4 _ rfl
      have m5 : wr.cell? ⟨bo, offo + k * 15 + 5, none⟩ = some (.int .i64 o.ti) := hrgo 5 _ rfl
      have m6 : wr.cell? ⟨bo, offo + k * 15 + 6, none⟩ = some (.int .i64 o.pa) := hrgo 6 _ rfl
      have m7 : wr.cell? ⟨bo, offo + k * 15 + 7, none⟩ = some (.int .i64 o.sf) := hrgo 7 _ rfl
      have m8 : wr.cell? ⟨bo, offo + k * 15 + 8, none⟩ = some (.int .i64 o.st) := hrgo 8 _ rfl
      have m9 : wr.cell? ⟨bo, offo + k * 15 + 9, none⟩ = some (.int .i64 o.rk) := hrgo 9 _ rfl
      have m10 : wr.cell? ⟨bo, offo + k * 15 + 10, none⟩ = some (.string ⟨o.nt.toArray⟩) := hrgo 10 _ rfl
      have m11 : wr.cell? ⟨bo, offo + k * 15 + 11, none⟩ = some (.int .i64 o.se) := hrgo 11 _ rfl
      have m12 : wr.cell? ⟨bo, offo + k * 15 + 12, none⟩ = some (.int .i64 o.nn) := hrgo 12 _ rfl
      have m13 : wr.cell? ⟨bo, offo + k * 15 + 13, none⟩ = some (.string ⟨o.tx.toArray⟩) := hrgo 13 _ rfl
      have m14 : wr.cell? ⟨bo, offo + k * 15 + 14, none⟩ = some (.slice Ao o.ov.length co) := hrgo 14 _ rfl
      have q0 : wr.cell? ⟨bp, offp + i * 15, none⟩ = some (.int .i64 p.ac) := hrgp 0 _ rfl
      have q1 : wr.cell? ⟨bp, offp + i * 15 + 1, none⟩ = some (.int .i64 p.ad) := hrgp 1 _ rfl
      have rm0 := fun w' (u : Up wr w') => u.cell m0
      have rm1 := fun w' (u : Up wr w') => u.cell m1
      have rq0 := fun w' (u : Up wr w') => u.cell q0
      have rq1 := fun w' (u : Up wr w') => u.cell q1
      clear hrgo hrgp hRa hRb q0 q1
      refine wp_region_noPanic ?_
      refine wp_region_held_drew (S := fun w' => Up wr w') (by kernel_rfl) (Up.drew wr) (fun hHeld => ?_)
      refine tk 0 18 (v := ?_) ?_ ?_
      rotate_left
      ·intro w' hSw; clear hSw; go_simp; try (with_reducible rfl)
      try simp only [tkA, tkB, tkC]
      refine tk 1 19 (v := ?_) ?_ ?_
      rotate_left
      ·intro w' hS0; go_simp; try (with_reducible rfl)
      try simp only [tkA, tkB, tkC]
      refine tk 2 20 (v := ?_) ?_ ?_
      rotate_left
      ·intro w' hSw; clear hSw; go_simp; try (with_reducible rfl)
      try simp only [tkA, tkB, tkC]
      refine tk 3 21 (v := ?_) ?_ ?_
      rotate_left
      ·intro w' hSw; clear hSw; go_simp; try (with_reducible rfl)
      try simp only [tkA, tkB, tkC]
      refine tk 4 22 (v := ?_) ?_ ?_
      rotate_left
      ·intro w' hSw; clear hSw; go_simp; try (with_reducible rfl)
      try simp only [tkA, tkB, tkC]
      refine tk 5 23 (v := ?_) ?_ ?_
      rotate_left
      ·intro w' hSw; clear hSw; go_simp; try (with_reducible rfl)
      try simp only [tkA, tkB, tkC]
      refine tk 6 24 (v := ?_) ?_ ?_
      rotate_left
      ·intro w' hS0; go_simp; try (with_reducible rfl)
      try simp only [tkA, tkB, tkC]
      refine tk 7 25 (v := ?_) ?_ ?_
      rotate_left
      ·intro w' hSw; clear hSw; go_simp; try (with_reducible rfl)
      try simp only [tkA, tkB, tkC]
      refine tk 8 26 (v := ?_) ?_ ?_
      rotate_left
      ·intro w' hSw; clear hSw; go_simp; try (with_reducible rfl)
      try simp only [tkA, tkB, tkC]
      refine tk 9 27 (v := ?_) ?_ ?_
      rotate_left
      ·intro w' hSw; clear hSw; go_simp; try (with_reducible rfl)
      try simp only [tkA, tkB, tkC]
      refine tk 10 28 (v := ?_) ?_ ?_
      rotate_left
      ·intro w' hS0; go_simp; try (with_reducible rfl)
      try simp only [tkA, tkB, tkC]
      refine tk 11 29 (v := ?_) ?_ ?_
      rotate_left
      ·intro w' hSw; clear hSw; go_simp; try (with_reducible rfl)
      try simp only [tkA, tkB, tkC]
      refine tk 12 30 (v := ?_) ?_ ?_
      rotate_left
      ·intro w' hSw; clear hSw; go_simp; try (with_reducible rfl)
      try simp only [tkA, tkB, tkC]
      refine tk 13 31 (v := ?_) ?_ ?_
      rotate_left
      ·intro w' hSw; clear hSw; go_simp; try (with_reducible rfl)
      try simp only [tkA, tkB, tkC]
      refine tk 14 32 (v := ?_) ?_ ?_
      rotate_left
      ·intro w' hS0; go_simp; try (with_reducible rfl)
      try simp only [tkA, tkB, tkC]
      refine tk 15 33 (v := ?_) ?_ ?_
      rotate_left
      ·intro w' hS0; go_simp; try (with_reducible rfl)
      try simp only [tkA, tkB, tkC]
      refine tk 16 34 (v := ?_) ?_ ?_
      rotate_left
      ·intro w' hSw; clear hSw; go_simp; try (with_reducible rfl)
      try simp only [tkA, tkB, tkC]
      refine tk 17 35 (v := ?_) ?_ ?_
      rotate_left
      ·intro w' hSw; clear hSw; go_simp; try (with_reducible rfl)
      try simp only [tkA, tkB, tkC]
      refine tk 18 36 (v := ?_) ?_ ?_
      rotate_left
      ·intro w' hSw; clear hSw; go_simp; try (with_reducible rfl)
      try simp only [tkA, tkB, tkC]
      refine tk 19 37 (v := ?_) ?_ ?_
      rotate_left
      ·intro w' hS0; go_simp; try (with_reducible rfl)
      try simp only [tkA, tkB, tkC]
      refine wpAnyH_ready (rs := [20]) (by kernel_rfl) (by simp) ?_
      refine AllReadyH.cons rfl (fun K hK => ?_) AllReadyH.nil
      go_simp
      go_at_call 46
      refine (kL _).mono ?_
      rintro e w2 ⟨rfl, hb2⟩
      have hu2 := (Up.drew _).trans (Up.of hb2)
      refine hK.out _ _ hu2 (fun hHeld => ?_)
      clear hK K hHeld
      refine wpAnyH_more (S' := fun w' => Up w2 w') (fun w' h => Up.trans hu2 h) _ _ _ _ ?_
      have hHeld := Up.refl w2
      refine tk 21 39 (v := ?_) ?_ ?_
      rotate_left
      ·intro w' hSw; clear hSw; go_simp; try (with_reducible rfl)
      try simp only [tkA, tkB, tkC]
      refine tk 22 40 (v := ?_) ?_ ?_
      rotate_left
      ·intro w' hSw; clear hSw; go_simp; try (with_reducible rfl)
      try simp only [tkA, tkB, tkC]
      refine tk 23 6 (v := ?_) ?_ ?_
      rotate_left
      ·intro w' hSw; clear hSw; go_simp; try (with_reducible rfl)
      try simp only [tkA, tkB, tkC]
      refine wpAnyH_done (by kernel_rfl) ?_ _
      refine NoPanic.normal ?_
      clear hHeld
      clear kL rm0 rm1 rq0 rq1 hb2
      have uu : ∀ o, Up wr (w2.alloc o) := fun o => hu2.trans (Up.alloc' _ o)
      have cA' := fun o => (uu o).cell cA
      have cB' := fun o => (uu o).cell cB
      have m0 := fun o => (uu o).cell m0
      have m1 := fun o => (uu o).cell m1
      have m2 := fun o => (uu o).cell m2
      have m3 := fun o => (uu o).cell m3
      have m4 := fun o => (uu o).cell m4
      have m5 := fun o => (uu o).cell m5
      have m6 := fun o => (uu o).cell m6
      have m7 := fun o => (uu o).cell m7
      have m8 := fun o => (uu o).cell m8
      have m9 := fun o => (uu o).cell m9
      have m10 := fun o => (uu o).cell m10
      have m11 := fun o => (uu o).cell m11
      have m12 := fun o => (uu o).cell m12
      have m13 := fun o => (uu o).cell m13
      have m14 := fun o => (uu o).cell m14
      have uu := Lib.hid uu
      have ub := (uu.out (.cells (opC o Ao co).toArray 43)).b
      obtain ⟨fn, tmps, assign, body, hy, hR⟩ := HY.out pre ⟨o, Ao, co⟩ _ (hJ _ wr _ none hJk ⟨ub.os, ub.tape, ub.output, ub.size, fun k hk _ => ub.block k hk⟩ (fun r e => by cases e)) ⟨_, hN.out⟩ (by rw [hN.out]; simp)
      dsimp only [opEnc, opC] at hy
      have ub := Lib.hid ub
      gi_wp2
      refine hR.mono ?_
      rintro e W6 (⟨rfl, hJ6, hk6⟩ | ⟨rfl, hJx6⟩)
      ·clear hy hR
       gi_wp2
       go_roundw
       case rel => exact ⟨i, k + 1, pre ++ [⟨o, Ao, co⟩], by go_num, by go_num, by omega, by omega, by rw [Hid, hN.out, List.append_assoc]; rfl, hJ6, HKt.out _ _ _ hKk (HKt.out _ _ _ (HKu.out _ _ hKk ub.out) hk6)⟩
       case measure => simp [intOf]; omega
      ·clear hy hR
       gi_wp2
       exact bodyPost_ret (results_none rfl _ _ _) rfl ⟨⟨_, rfl⟩, .inr ⟨_, hJx6⟩⟩
   ·obtain rfl : k = ys.length := by omega
    as_aux_lemma =>
     have hN := Lib.hid (hM.out.trans (congrArg (pre ++ ·) (mrgX_rend ys hli)))
     have t1 : decide ((i : Int) < (xs.length : Int)) = true := decide_eq_true (by omega)
     have t2 : (i : Int) < (xs.length : Int) := by omega
     have t3 : 0 ≤ (i : Int) := by omega
     have t5 : decide ((ys.length : Int) < (ys.length : Int)) = false := by simp
     have t6 : ((i : Int) == (xs.length : Int)) = false := beq_eq_false_iff_ne.2 (by omega)
     gi_wp2
     refine wpIn_wide.2 ?_
     obtain ⟨bo, offo, rfl, hblto, hrgo⟩ := hRa.range hli
     have hoko := hRa.ok _ (List.getElem_mem hli)
     generalize xs[i] = xo at *
     obtain ⟨o, Ao, co⟩ := xo
     obtain ⟨bdo, roo, qoo⟩ := hoko
     dsimp only at bdo roo qoo
     have m0 : wr.cell? ⟨bo, offo + i * 15, none⟩ = some (.int .i64 o.ac) := hrgo 0 _ rfl
     have m1 : wr.cell? ⟨bo, offo + i * 15 + 1, none⟩ = some (.int .i64 o.ad) := hrgo 1 _ rfl
     have m2 : wr.cell? ⟨bo, offo + i * 15 + 2, none⟩ = some (.int .i64 o.kd) := hrgo 2 _ rfl
     have m3 : wr.cell? ⟨bo, offo + i * 15 + 3, none⟩ = some (.int .i64 o.rc) := hrgo 3 _ rfl
     have m4 : wr.cell? ⟨bo, offo + i * 15 + 4, none⟩ = some (.int .i64 o.id) := hrgo 4 _ rfl
     have m5 : wr.cell? ⟨bo, offo + i * 15 + 5, none⟩ = some (.int .i64 o.ti) := hrgo 5 _ rfl
     have m6 : wr.cell? ⟨bo, offo + i * 15 + 6, none⟩ = some (.int .i64 o.pa) := hrgo 6 _ rfl
     have m7 : wr.cell? ⟨bo, offo + i * 15 + 7, none⟩ = some (.int .i64 o.sf) := hrgo 7 _ rfl
     have m8 : wr.cell? ⟨bo, offo + i * 15 + 8, none⟩ = some (.int .i64 o.st) := hrgo 8 _ rfl
     have m9 : wr.cell? ⟨bo, offo + i * 15 + 9, none⟩ = some (.int .i64 o.rk) := hrgo 9 _ rfl
     have m10 : wr.cell? ⟨bo, offo + i * 15 + 10, none⟩ = some (.string ⟨o.nt.toArray⟩) := hrgo 10 _ rfl
     have m11 : wr.cell? ⟨bo, offo + i * 15 + 11, none⟩ = some (.int .i64 o.se) := hrgo 11 _ rfl
     have m12 : wr.cell? ⟨bo, offo + i * 15 + 12, none⟩ = some (.int .i64 o.nn) := hrgo 12 _ rfl
     have m13 : wr.cell? ⟨bo, offo + i * 15 + 13, none⟩ = some (.string ⟨o.tx.toArray⟩) := hrgo 13 _ rfl
     have m14 : wr.cell? ⟨bo, offo + i * 15 + 14, none⟩ = some (.slice Ao o.ov.length co) := hrgo 14 _ rfl
     clear hrgo hRa hRb
     refine wp_region_noPanic ?_
     refine wp_region_held_drew (S := fun w' => Up wr w') (by kernel_rfl) (Up.drew wr) (fun hHeld => ?_)
     refine tk 0 18 (v := ?_) ?_ ?_
     rotate_left
     ·intro w' hSw; clear hSw; go_simp; try (with_reducible rfl)
     try simp only [tkA, tkB, tkC]
     refine tk 1 19 (v := ?_) ?_ ?_
     rotate_left
     ·intro w' hS0; go_simp; try (with_reducible rfl)
     try simp only [tkA, tkB, tkC]
     refine tk 2 20 (v := ?_) ?_ ?_
     rotate_left
     ·intro w' hSw; clear hSw; go_simp; try (with_reducible rfl)
     try simp only [tkA, tkB, tkC]
     refine tk 3 21 (v := ?_) ?_ ?_
     rotate_left
     ·intro w' hSw; clear hSw; go_simp; try (with_reducible rfl)
     try simp only [tkA, tkB, tkC]
     refine tk 4 22 (v := ?_) ?_ ?_
     rotate_left
     ·intro w' hSw; clear hSw; go_simp; try (with_reducible rfl)
     try simp only [tkA, tkB, tkC]
     refine tk 5 23 (v := ?_) ?_ ?_
     rotate_left
     ·intro w' hSw; clear hSw; go_simp; try (with_reducible rfl)
     try simp only [tkA, tkB, tkC]
     refine tk 6 24 (v := ?_) ?_ ?_
     rotate_left
     ·intro w' hS0; go_simp; try (with_reducible rfl)
     try simp only [tkA, tkB, tkC]
     refine tk 7 25 (v := ?_) ?_ ?_
     rotate_left
     ·intro w' hSw; clear hSw; go_simp; try (with_reducible rfl)
     try simp only [tkA, tkB, tkC]
     refine tk 8 26 (v := ?_) ?_ ?_
     rotate_left
     ·intro w' hSw; clear hSw; go_simp; try (with_reducible rfl)
     try simp only [tkA, tkB, tkC]
     refine tk 9 27 (v := ?_) ?_ ?_
     rotate_left
     ·intro w' hSw; clear hSw; go_simp; try (with_reducible rfl)
     try simp only [tkA, tkB, tkC]
     refine held_skip 10 rfl (by kernel_rfl) (by kernel_rfl) (by kernel_rfl) (fun _ _ _ h => h) (by rfl) (by assumption) ?_
     change wpAnyH _ _ _ _ _ _ _ (Act.put _ (some 28) _) _
     try simp only [Act.put, tkA, tkB, tkC]
     refine held_skip 11 rfl (by kernel_rfl) (by kernel_rfl) (by kernel_rfl) (fun _ _ _ h => h) (by rfl) (by assumption) ?_
     change wpAnyH _ _ _ _ _ _ _ (Act.put _ (some 29) _) _
     try simp only [Act.put, tkA, tkB, tkC]
     refine held_skip 12 rfl (by kernel_rfl) (by kernel_rfl) (by kernel_rfl) (fun _ _ _ h => h) (by rfl) (by assumption) ?_
     change wpAnyH _ _ _ _ _ _ _ (Act.put _ (some 30) _) _
     try simp only [Act.put, tkA, tkB, tkC]
     refine held_skip 13 rfl (by kernel_rfl) (by kernel_rfl) (by kernel_rfl) (fun _ _ _ h => h) (by rfl) (by assumption) ?_
     change wpAnyH _ _ _ _ _ _ _ (Act.put _ (some 31) _) _
     try simp only [Act.put, tkA, tkB, tkC]
     refine held_skip 14 rfl (by kernel_rfl) (by kernel_rfl) (by kernel_rfl) (fun _ _ _ h => h) (by rfl) (by assumption) ?_
     change wpAnyH _ _ _ _ _ _ _ (Act.put _ (some 32) _) _
     try simp only [Act.put, tkA, tkB, tkC]
     refine held_skip 15 rfl (by kernel_rfl) (by kernel_rfl) (by kernel_rfl) (fun _ _ _ h => h) (by rfl) (by assumption) ?_
     change wpAnyH _ _ _ _ _ _ _ (Act.put _ (some 33) _) _
     try simp only [Act.put, tkA, tkB, tkC]
     refine held_skip 16 rfl (by kernel_rfl) (by kernel_rfl) (by kernel_rfl) (fun _ _ _ h => h) (by rfl) (by assumption) ?_
     change wpAnyH _ _ _ _ _ _ _ (Act.put _ (some 34) _) _
     try simp only [Act.put, tkA, tkB, tkC]
     refine held_skip 17 rfl (by kernel_rfl) (by kernel_rfl) (by kernel_rfl) (fun _ _ _ h => h) (by rfl) (by assumption) ?_
     change wpAnyH _ _ _ _ _ _ _ (Act.put _ (some 35) _) _
     try simp only [Act.put, tkA, tkB, tkC]
     refine held_skip 18 rfl (by kernel_rfl) (by kernel_rfl) (by kernel_rfl) (fun _ _ _ h => h) (by rfl) (by assumption) ?_
     change wpAnyH _ _ _ _ _ _ _ (Act.put _ (some 36) _) _
     try simp only [Act.put, tkA, tkB, tkC]
     refine held_skip 19 rfl (by kernel_rfl) (by kernel_rfl) (by kernel_rfl) (fun _ _ _ h => h) (by rfl) (by assumption) ?_
     change wpAnyH _ _ _ _ _ _ _ (Act.put _ (some 37) _) _
     try simp only [Act.put, tkA, tkB, tkC]
     refine held_skip 20 rfl (by kernel_rfl) (by kernel_rfl) (by kernel_rfl) (fun _ _ _ h => h) (by rfl) (by assumption) ?_
     change wpAnyH _ _ _ _ _ _ _ (Act.put _ (some 38) _) _
     try simp only [Act.put, tkA, tkB, tkC]
     refine tk 21 39 (v := ?_) ?_ ?_
     rotate_left
     ·intro w' hSw; clear hSw; go_simp; try (with_reducible rfl)
     try simp only [tkA, tkB, tkC]
     refine tk 22 40 (v := ?_) ?_ ?_
     rotate_left
     ·intro w' hSw; clear hSw; go_simp; try (with_reducible rfl)
     try simp only [tkA, tkB, tkC]
     refine tk 23 6 (v := ?_) ?_ ?_
     rotate_left
     ·intro w' hSw; clear hSw; go_simp; try (with_reducible rfl)
     try simp only [tkA, tkB, tkC]
     refine wpAnyH_done (by kernel_rfl) ?_ _
     refine NoPanic.normal ?_
     clear hHeld
     have uu : ∀ o, Up wr ((wr.alloc o).drew) := fun o => Up.of ((Below.refl _ _).alloc (Nat.le_refl _) o).drew
     have cA' := fun o => (uu o).cell cA
     have cB' := fun o => (uu o).cell cB
     have m0 := fun o => (uu o).cell m0
     have m1 := fun o => (uu o).cell m1
     have m2 := fun o => (uu o).cell m2
     have m3 := fun o => (uu o).cell m3
     have m4 := fun o => (uu o).cell m4
     have m5 := fun o => (uu o).cell m5
     have m6 := fun o => (uu o).cell m6
     have m7 := fun o => (uu o).cell m7
     have m8 := fun o => (uu o).cell m8
     have m9 := fun o => (uu o).cell m9
     have m10 := fun o => (uu o).cell m10
     have m11 := fun o => (uu o).cell m11
     have m12 := fun o => (uu o).cell m12
     have m13 := fun o => (uu o).cell m13
     have m14 := fun o => (uu o).cell m14
     have uu := Lib.hid uu
     have ub := (uu.out (.cells (opC o Ao co).toArray 43)).b
     obtain ⟨fn, tmps, assign, body, hy, hR⟩ := HY.out pre ⟨o, Ao, co⟩ _ (hJ _ wr _ none hJk ⟨ub.os, ub.tape, ub.output, ub.size, fun k hk _ => ub.block k hk⟩ (fun r e => by cases e)) ⟨_, hN.out⟩ (by rw [hN.out]; simp)
     dsimp only [opEnc, opC] at hy
     have ub := Lib.hid ub
     gi_wp2
     refine hR.mono ?_
     rintro e W6 (⟨rfl, hJ6, hk6⟩ | ⟨rfl, hJx6⟩)
     ·clear hy hR
      gi_wp2
      go_roundw
      case rel => exact ⟨i + 1, ys.length, pre ++ [⟨o, Ao, co⟩], by go_num, by go_num, by omega, by omega, by rw [Hid, hN.out, List.append_assoc]; rfl, hJ6, HKt.out _ _ _ hKk (HKt.out _ _ _ (HKu.out _ _ hKk ub.out) hk6)⟩
      case measure => simp [intOf]; omega
     ·clear hy hR
      gi_wp2
      exact bodyPost_ret (results_none rfl _ _ _) rfl ⟨⟨_, rfl⟩, .inr ⟨_, hJx6⟩⟩
  ·obtain rfl : i = xs.length := by omega
   by_cases hlt : k < ys.length
   ·as_aux_lemma =>
     have hN := Lib.hid (hM.out.trans (congrArg (pre ++ ·) (mrgX_lend xs hlt)))
     have t1 : decide ((k : Int) < (ys.length : Int)) = true := decide_eq_true (by omega)
     have t2 : (k : Int) < (ys.length : Int) := by omega
     have t3 : 0 ≤ (k : Int) := by omega
     have t5 : decide ((xs.length : Int) < (xs.length : Int)) = false := by simp
     have t6 : ((xs.length : Int) == (xs.length : Int)) = true := by simp
     gi_wp2
     refine wpIn_wide.2 ?_
     obtain ⟨bo, offo, rfl, hblto, hrgo⟩ := hRb.range hlt
     have hoko := hRb.ok _ (List.getElem_mem hlt)
     generalize ys[k] = xo at *
     obtain ⟨o, Ao, co⟩ := xo
     obtain ⟨bdo, roo, qoo⟩ := hoko
     dsimp only at bdo roo qoo
     have m0 : wr.cell? ⟨bo, offo + k * 15, none⟩ = some (.int .i64 o.ac) := hrgo 0 _ rfl
     have m1 : wr.cell? ⟨bo, offo + k * 15 + 1, none⟩ = some (.int .i64 o.ad) := hrgo 1 _ rfl
     have m2 : wr.cell? ⟨bo, offo + k * 15 + 2, none⟩ = some (.int .i64 o.kd) := hrgo 2 _ rfl
     have m3 : wr.cell? ⟨bo, offo + k * 15 + 3, none⟩ = some (.int .i64 o.rc) := hrgo 3 _ rfl
     have m4 : wr.cell? ⟨bo, offo + k * 15 + 4, none⟩ = some (.int .i64 o.id) := hrgo 4 _ rfl
     have m5 : wr.cell? ⟨bo, offo + k * 15 + 5, none⟩ = some (.int .i64 o.ti) := hrgo 5 _ rfl
     have m6 : wr.cell? ⟨bo, offo + k * 15 + 6, none⟩ = some (.int .i64 o.pa) := hrgo 6 _ rfl
     have m7 : wr.cell? ⟨bo, offo + k * 15 + 7, none⟩ = some (.int .i64 o.sf) := hrgo 7 _ rfl
     have m8 : wr.cell? ⟨bo, offo + k * 15 + 8, none⟩ = some (.int .i64 o.st) := hrgo 8 _ rfl
     have m9 : wr.cell? ⟨bo, offo + k * 15 + 9, none⟩ = some (.int .i64 o.rk) := hrgo 9 _ rfl
     have m10 : wr.cell? ⟨bo, offo + k * 15 + 10, none⟩ = some (.string ⟨o.nt.toArray⟩) := hrgo 10 _ rfl
     have m11 : wr.cell? ⟨bo, offo + k * 15 + 11, none⟩ = some (.int .i64 o.se) := hrgo 11 _ rfl
     have m12 : wr.cell? ⟨bo, offo + k * 15 + 12, none⟩ = some (.int .i64 o.nn) := hrgo 12 _ rfl
     have m13 : wr.cell? ⟨bo, offo + k * 15 + 13, none⟩ = some (.string ⟨o.tx.toArray⟩) := hrgo 13 _ rfl
     have m14 : wr.cell? ⟨bo, offo + k * 15 + 14, none⟩ = some (.slice Ao o.ov.length co) := hrgo 14 _ rfl
     clear hrgo hRa hRb
     refine wp_region_noPanic ?_
     refine wp_region_held_drew (S := fun w' => Up wr w') (by kernel_rfl) (Up.drew wr) (fun hHeld => ?_)
     refine tk 0 18 (v := ?_) ?_ ?_
     rotate_left
     ·intro w' hSw; clear hSw; go_simp; try (with_reducible rfl)
     try simp only [tkA, tkB, tkC]
     refine tk 1 19 (v := ?_) ?_ ?_
     rotate_left
     ·intro w' hS0; go_simp; try (with_reducible rfl)
     try simp only [tkA, tkB, tkC]
     refine tk 2 20 (v := ?_) ?_ ?_
     rotate_left
     ·intro w' hSw; clear hSw; go_simp; try (with_reducible rfl)
     try simp only [tkA, tkB, tkC]
     refine tk 3 21 (v := ?_) ?_ ?_
     rotate_left
     ·intro w' hSw; clear hSw; go_simp; try (with_reducible rfl)
     try simp only [tkA, tkB, tkC]
     refine tk 4 22 (v := ?_) ?_ ?_
     rotate_left
     ·intro w' hSw; clear hSw; go_simp; try (with_reducible rfl)
     try simp only [tkA, tkB, tkC]
     refine held_skip 5 rfl (by kernel_rfl) (by kernel_rfl) (by kernel_rfl) (fun _ _ _ h => h) (by rfl) (by assumption) ?_
     change wpAnyH _ _ _ _ _ _ _ (Act.put _ (some 23) _) _
     try simp only [Act.put, tkA, tkB, tkC]
     refine held_skip 6 rfl (by kernel_rfl) (by kernel_rfl) (by kernel_rfl) (fun _ _ _ h => h) (by rfl) (by assumption) ?_
     change wpAnyH _ _ _ _ _ _ _ (Act.put _ (some 24) _) _
     try simp only [Act.put, tkA, tkB, tkC]
     refine held_skip 7 rfl (by kernel_rfl) (by kernel_rfl) (by kernel_rfl) (fun _ _ _ h => h) (by rfl) (by assumption) ?_
     change wpAnyH _ _ _ _ _ _ _ (Act.put _ (some 25) _) _
     try simp only [Act.put, tkA, tkB, tkC]
     refine held_skip 8 rfl (by kernel_rfl) (by kernel_rfl) (by kernel_rfl) (fun _ _ _ h => h) (by rfl) (by assumption) ?_
     change wpAnyH _ _ _ _ _ _ _ (Act.put _ (some 26) _) _
     try simp only [Act.put, tkA, tkB, tkC]
     refine held_skip 9 rfl (by kernel_rfl) (by kernel_rfl) (by kernel_rfl) (fun _ _ _ h => h) (by rfl) (by assumption) ?_
     change wpAnyH _ _ _ _ _ _ _ (Act.put _ (some 27) _) _
     try simp only [Act.put, tkA, tkB, tkC]
     refine held_skip 10 rfl (by kernel_rfl) (by kernel_rfl) (by kernel_rfl) (fun _ _ _ h => h) (by rfl) (by assumption) ?_
     change wpAnyH _ _ _ _ _ _ _ (Act.put _ (some 28) _) _
     try simp only [Act.put, tkA, tkB, tkC]
     refine held_skip 11 rfl (by kernel_rfl) (by kernel_rfl) (by kernel_rfl) (fun _ _ _ h => h) (by rfl) (by assumption) ?_
     change wpAnyH _ _ _ _ _ _ _ (Act.put _ (some 29) _) _
     try simp only [Act.put, tkA, tkB, tkC]
     refine held_skip 12 rfl (by kernel_rfl) (by kernel_rfl) (by kernel_rfl) (fun _ _ _ h => h) (by rfl) (by assumption) ?_
     change wpAnyH _ _ _ _ _ _ _ (Act.put _ (some 30) _) _
     try simp only [Act.put, tkA, tkB, tkC]
     refine held_skip 13 rfl (by kernel_rfl) (by kernel_rfl) (by kernel_rfl) (fun _ _ _ h => h) (by rfl) (by assumption) ?_
     change wpAnyH _ _ _ _ _ _ _ (Act.put _ (some 31) _) _
     try simp only [Act.put, tkA, tkB, tkC]
     refine held_skip 14 rfl (by kernel_rfl) (by kernel_rfl) (by kernel_rfl) (fun _ _ _ h => h) (by rfl) (by assumption) ?_
     change wpAnyH _ _ _ _ _ _ _ (Act.put _ (some 32) _) _
     try simp only [Act.put, tkA, tkB, tkC]
     refine held_skip 15 rfl (by kernel_rfl) (by kernel_rfl) (by kernel_rfl) (fun _ _ _ h => h) (by rfl) (by assumption) ?_
     change wpAnyH _ _ _ _ _ _ _ (Act.put _ (some 33) _) _
     try simp only [Act.put, tkA, tkB, tkC]
     refine held_skip 16 rfl (by kernel_rfl) (by kernel_rfl) (by kernel_rfl) (fun _ _ _ h => h) (by rfl) (by assumption) ?_
     change wpAnyH _ _ _ _ _ _ _ (Act.put _ (some 34) _) _
     try simp only [Act.put, tkA, tkB, tkC]
     refine held_skip 17 rfl (by kernel_rfl) (by kernel_rfl) (by kernel_rfl) (fun _ _ _ h => h) (by rfl) (by assumption) ?_
     change wpAnyH _ _ _ _ _ _ _ (Act.put _ (some 35) _) _
     try simp only [Act.put, tkA, tkB, tkC]
     refine held_skip 18 rfl (by kernel_rfl) (by kernel_rfl) (by kernel_rfl) (fun _ _ _ h => h) (by rfl) (by assumption) ?_
     change wpAnyH _ _ _ _ _ _ _ (Act.put _ (some 36) _) _
     try simp only [Act.put, tkA, tkB, tkC]
     refine held_skip 19 rfl (by kernel_rfl) (by kernel_rfl) (by kernel_rfl) (fun _ _ _ h => h) (by rfl) (by assumption) ?_
     change wpAnyH _ _ _ _ _ _ _ (Act.put _ (some 37) _) _
     try simp only [Act.put, tkA, tkB, tkC]
     refine held_skip 20 rfl (by kernel_rfl) (by kernel_rfl) (by kernel_rfl) (fun _ _ _ h => h) (by rfl) (by assumption) ?_
     change wpAnyH _ _ _ _ _ _ _ (Act.put _ (some 38) _) _
     try simp only [Act.put, tkA, tkB, tkC]
     refine held_skip 21 rfl (by kernel_rfl) (by kernel_rfl) (by kernel_rfl) (fun _ _ _ h => h) (by rfl) (by assumption) ?_
     change wpAnyH _ _ _ _ _ _ _ (Act.put _ (some 39) _) _
     try simp only [Act.put, tkA, tkB, tkC]
     refine tk 22 40 (v := ?_) ?_ ?_
     rotate_left
     ·intro w' hSw; clear hSw; go_simp; try (with_reducible rfl)
     try simp only [tkA, tkB, tkC]
     refine tk 23 6 (v := ?_) ?_ ?_
     rotate_left
     ·intro w' hSw; clear hSw; go_simp; try (with_reducible rfl)
     try simp only [tkA, tkB, tkC]
     refine wpAnyH_done (by kernel_rfl) ?_ _
     refine NoPanic.normal ?_
     clear hHeld
     have uu : ∀ o, Up wr ((wr.alloc o).drew) := fun o => Up.of ((Below.refl _ _).alloc (Nat.le_refl _) o).drew
     have cA' := fun o => (uu o).cell cA
     have cB' := fun o => (uu o).cell cB
     have m0 := fun o => (uu o).cell m0
     have m1 := fun o => (uu o).cell m1
     have m2 := fun o => (uu o).cell m2
     have m3 := fun o => (uu o).cell m3
     have m4 := fun o => (uu o).cell m4
     have m5 := fun o => (uu o).cell m5
     have m6 := fun o => (uu o).cell m6
     have m7 := fun o => (uu o).cell m7
     have m8 := fun o => (uu o).cell m8
     have m9 := fun o => (uu o).cell m9
     have m10 := fun o => (uu o).cell m10
     have m11 := fun o => (uu o).cell m11
     have m12 := fun o => (uu o).cell m12
     have m13 := fun o => (uu o).cell m13
     have m14 := fun o => (uu o).cell m14
     have uu := Lib.hid uu
     have ub := (uu.out (.cells (opC o Ao co).toArray 43)).b
     obtain ⟨fn, tmps, assign, body, hy, hR⟩ := HY.out pre ⟨o, Ao, co⟩ _ (hJ _ wr _ none hJk ⟨ub.os, ub.tape, ub.output, ub.size, fun k hk _ => ub.block k hk⟩ (fun r e => by cases e)) ⟨_, hN.out⟩ (by rw [hN.out]; simp)
     dsimp only [opEnc, opC] at hy
     have ub := Lib.hid ub
     gi_wp2
     refine hR.mono ?_
     rintro e W6 (⟨rfl, hJ6, hk6⟩ | ⟨rfl, hJx6⟩)
     ·clear hy hR
      gi_wp2
      go_roundw
      case rel => exact ⟨xs.length, k + 1, pre ++ [⟨o, Ao, co⟩], by go_num, by go_num, by omega, by omega, by rw [Hid, hN.out, List.append_assoc]; rfl, hJ6, HKt.out _ _ _ hKk (HKt.out _ _ _ (HKu.out _ _ hKk ub.out) hk6)⟩
      case measure => simp [intOf]; omega
     ·clear hy hR
      gi_wp2
      exact bodyPost_ret (results_none rfl _ _ _) rfl ⟨⟨_, rfl⟩, .inr ⟨_, hJx6⟩⟩
   ·obtain rfl : k = ys.length := by omega
    have t1 : decide ((ys.length : Int) < (ys.length : Int)) = false := by simp
    have t2 : decide ((xs.length : Int) < (xs.length : Int)) = false := by simp
    have hE : pre = M := by rw [hM.out, List.drop_length, List.drop_length, mrgX_nil, List.append_nil]
    gi_wp2
    first | go_ret | go_ret2 | go_end0
    exact ⟨⟨_, rfl⟩, .inl ⟨pre, hE, hJk⟩⟩
end Go.Proofs.YtcomeidcmcegfaaGreatDoor
