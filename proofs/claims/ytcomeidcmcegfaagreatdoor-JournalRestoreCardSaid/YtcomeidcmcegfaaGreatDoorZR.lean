/-
  The walks of takes and body of the reference's layer 49. Conditions: fewer than a thousand million bytes.
  The walk of From of the reference's layer 49. Conditions: fewer than a thousand million bytes.
-/
import Derived.Test.YtcomeidcmcegfaaGreatDoorZJ
import Derived.Test.YtcomeidcmcegfaaGreatDoorZH
import Derived.StillTailTactics
import Derived.Deep.DeepCutAuto
import Derived.IntWalk
namespace Go.Proofs.YtcomeidcmcegfaaGreatDoor
open Go.RowKit
set_option linter.unusedVariables false
set_option linter.unusedSimpArgs false
def RetTk (r : Int × List Int × Int) (w : World) (en : Ending) (w' : World) : Prop :=
 ∃ A c, en = .returned (.tuple #[.slice A r.2.1.length c, .int .i64 r.2.2, .int .i64 r.1]) ∧ Own w' w.heap.size 3 1 (.slice A r.2.1.length c) r.2.1.length (r.2.1.map I64) ∧ Below w.heap.size w w'
theorem retTk {b : List UInt8} {n : Nat} {a : Int} {l : List Int} {t e : Int} {w w' : World} {A : Option Addr} {c : Nat} (h : rdM b n a = (e, l, t)) (ho : Own w' w.heap.size 3 1 (.slice A l.length c) l.length (l.map I64)) (hb : Below w.heap.size w w') :
 RetTk (rdM b n a) w (.returned (.tuple #[.slice A l.length c, .int .i64 t, .int .i64 e])) w' := by
 rw [h]; exact ⟨A, c, rfl, ho, hb⟩
set_option maxRecDepth 20000 in
set_option maxHeartbeats 2000000 in
theorem takes_any (w : World) (A : Option Addr) (c : Nat) (b : List UInt8) (h : Rd w A (b.map U8)) (hl : b.length ≤ 1000000000) (a : Int) (h0 : 0 ≤ a) (h1 : a ≤ b.length) (m : Nat) (hm : m ≤ 1000) :
 Calls Tryz.prog 57 #[.slice A b.length c, .int .i64 a, .int .i64 m] w (RetTk (rdM b m a) w) := by
 obtain ⟨i0, hi0, hz0, hz1, hz2⟩ := info_parts info_int
 go_enter Tryz.func57, Tryz.ntmps57
 go_wp2_with fail
 go_loopw [1, 9, 10] (ListRel w b m a) (fun _ _ i _ => m - (intOf i).toNat)
 case atStart => exact ListRel.start w b m a h0 h1
 case round =>
  obtain ⟨j, A1, c1, l1, q, hj, rfl, rfl, rfl, hq1, hq2, hll, hcm, hown, hb⟩ := hrel
  have HC := Lib.hid hcm
  clear hcm
  by_cases hlt : j < m
  ·by_cases hE : rdE b q = 0
   ·obtain ⟨k1, k2, k3, k4⟩ := read_bound hE
    have HN := Lib.hid (ints_next hlt hE HC.out)
    go_wp2_with fail
    refine (rint_ok _ _ _ _ (h.below hb) hl _ (by omega) (by omega) hE).mono ?_
    rintro e w' ⟨rfl, rfl⟩
    clear hE
    generalize rdN b q = x at *
    generalize rdT b q = q' at *
    go_wp2_with (first
     | (at_builtin
        refine wpList_append_map _ I64 I64_one rfl (.tmp 29) (.tmp 31) _ rfl w.heap.size 3 i0 _ 8 Tryz.underlying24 hi0 hz0 hz1 hz2 rfl A1 c1 l1 rfl (hown.alloc _) (some ⟨wr.heap.size, 0, none⟩) 1 [x] rfl (Rd.new _ _ _ _) (by simp only [maxLen, List.length_cons, List.length_nil]; omega) (by simp only [List.length_cons, List.length_nil]; omega) (by simp; have := hb.size; omega) ?_
        intro A2 c2 l2 w2 e2 hown2 hr2 hg2 hb2 hat2)
     | fail)
    go_roundw
    case rel =>
     have e2' := e2.out
     exact ⟨j + 1, A2, c2, l2, q', by omega, rfl, by go_num, rfl, by omega, k4, by rw [e2', List.length_append]; simp; omega, by rw [e2']; exact HN.out, hown2, (hb.alloc hb.size _).trans hb2⟩
    case measure => simp [intOf]; omega
   ·have HN := Lib.hid (ints_stop hlt hE HC.out)
    have hb1 : (rdE b q == 0) = false := by simp; exact hE
    have hb2 : (rdE b q != 0) = true := by simp; exact hE
    go_wp2_with fail
    refine (rint_err _ _ _ _ (h.below hb) hl _ (by omega) (by omega) hE).mono ?_
    rintro e w' ⟨rfl, rfl⟩
    clear hE
    generalize rdE b q = x at *
    go_wp2_with fail
    exact bodyPost_ret (v := .tuple #[.slice none 0 0, .int .i64 0, .int .i64 x]) (by simp [results, Tryz.results57, go_sem]) rfl (retTk (l := []) HN.out (Own.nil _ _ _ _) hb)
  ·have HN := Lib.hid (ints_end (by omega) HC.out)
   go_wp2
   exact bodyPost_ret (v := .tuple #[.slice A1 l1.length c1, .int .i64 q, .int .i64 0]) (by simp [results, Tryz.results57, go_sem]) rfl (retTk HN.out hown hb)
theorem wp_storeRow {P : Program} {w : World} {o : Oper} {a : Act} {K : Act → World → Prop} {Q : Exit → Act → World → Prop} (t : TypeId) (p x : Operand) (ho : o.op = .store t p x) (g : Nat) (ty : TypeId) (c c' : Array Value) (hp : a.eval p = .pointer (some ⟨g, 0, none⟩)) (hx : a.eval x = .agg c')
 (hg : Blk w g ty c) (hi : (P.info? t).map (·.size) = some c'.size) (hs : c.size = c'.size) (h1 : c'.all (·.oneCell') = true)
 (h : ∀ W, Blk W g ty c' → w.grownBy W (some g) → K (a.put o.dst undef) W) : o.wp P a w K Q := by
 have hrun := run_storeVar_row (P := P) w g ty t c c' hg hi hs h1
 unfold Oper.wp execOp
 simp only [ho, Instr.storeAt, Instr.sureAddr, Sem.run_bind, Sem.run_pure, Result.andThen_ok, hp, hx, hrun]
 exact h _ (hg.row c') (grown_row w g c')
theorem takes_is (w : World) (A : Option Addr) (c : Nat) (b : List UInt8) (h : Rd w A (b.map U8)) (hl : b.length ≤ 1000000000) (a : Int) (h0 : 0 ≤ a) (h1 : a ≤ b.length) (m : Nat) (hm : m ≤ 1000) {r : Int × List Int × Int} (hq : rdM b m a = r) :
 Calls Tryz.prog 57 #[.slice A b.length c, .int .i64 a, .int .i64 m] w (RetTk r w) := by
 subst hq; exact takes_any w A c b h hl a h0 h1 m hm
theorem pairQ (q : Int × Int) (h : q.2 = 0) : q = (q.1, 0) := by rw [← h]
theorem tk10_no {l : List UInt8} (h : (fQ0 l).2 ≠ 0) : rdM l 10 0 = ((fQ0 l).2, [], 0) := by
 have e : fQ0 l = (nF l 10 (0, 0)).2 := by unfold fQ0; rw [nR_nF]
 obtain ⟨i1, i2⟩ := nF_rdM l 10 0
 by_cases h1 : (rdM l 10 0).1 = 0
 ·rw [e, i1 h1] at h; exact absurd rfl h
 ·rw [e, i2 h1, ← rdM_err l 10 0 h1]
theorem tk10_ok {l : List UInt8} (h : (fQ0 l).2 = 0) : rdM l 10 0 = (0, (nR l 10).1, (fQ0 l).1) := by
 have e : fQ0 l = (nF l 10 (0, 0)).2 := by unfold fQ0; rw [nR_nF]
 obtain ⟨i1, i2⟩ := nF_rdM l 10 0
 by_cases h1 : (rdM l 10 0).1 = 0
 ·have h2 := i1 h1
  rw [e, nR_nF, h2]
  exact Prod.ext h1 rfl
 ·rw [e, i2 h1] at h; exact absurd h h1
theorem tk2_no {l : List UInt8} (h1 : (fQ1 l).2 = 0) (h : (fQ3 l).2 ≠ 0) : rdM l 2 (fQ1 l).1 = ((fQ3 l).2, [], 0) := by
 have e : fQ3 l = (nF l 2 ((fQ1 l).1, 0)).2 := by rw [← pairQ _ h1]; rfl
 obtain ⟨i1, i2⟩ := nF_rdM l 2 (fQ1 l).1
 by_cases h2 : (rdM l 2 (fQ1 l).1).1 = 0
 ·rw [e, i1 h2] at h; exact absurd rfl h
 ·rw [e, i2 h2, ← rdM_err l 2 _ h2]
theorem tk2_ok {l : List UInt8} (h1 : (fQ1 l).2 = 0) (h : (fQ3 l).2 = 0) : rdM l 2 (fQ1 l).1 = (0, [rN l (fQ1 l), rN l (fQ2 l)], (fQ3 l).1) := by
 have e : fQ3 l = (nF l 2 ((fQ1 l).1, 0)).2 := by rw [← pairQ _ h1]; rfl
 have e2 : [rN l (fQ1 l), rN l (fQ2 l)] = (nF l 2 ((fQ1 l).1, 0)).1 := by rw [← pairQ _ h1]; rfl
 obtain ⟨i1, i2⟩ := nF_rdM l 2 (fQ1 l).1
 by_cases h2 : (rdM l 2 (fQ1 l).1).1 = 0
 ·have h3 := i1 h2
  rw [e, e2, h3, ← h2]
 ·rw [e, i2 h2] at h; exact absurd h h2
theorem tkS_no {l : List UInt8} (h1 : (fQ6 l).2 = 0) (h : (fS l).2.2 ≠ 0) : rdM l (2 * (fN l).toNat) (fQ6 l).1 = ((fS l).2.2, [], 0) := by
 have e : fS l = sGo l (fN l).toNat ((fQ6 l).1, 0) := by rw [← pairQ _ h1]; rfl
 obtain ⟨i1, i2⟩ := sGo_rdM l (fN l).toNat (fQ6 l).1
 by_cases h2 : (rdM l (2 * (fN l).toNat) (fQ6 l).1).1 = 0
 ·rw [e, i1 h2] at h; exact absurd rfl h
 ·rw [e, i2 h2, ← rdM_err l _ _ h2]
theorem tkS_ok {l : List UInt8} (h1 : (fQ6 l).2 = 0) (h : (fS l).2.2 = 0) : ∃ L, rdM l (2 * (fN l).toNat) (fQ6 l).1 = (0, L, (fS l).2.1) ∧ two L = (fS l).1 := by
 have e : fS l = sGo l (fN l).toNat ((fQ6 l).1, 0) := by rw [← pairQ _ h1]; rfl
 obtain ⟨i1, i2⟩ := sGo_rdM l (fN l).toNat (fQ6 l).1
 by_cases h2 : (rdM l (2 * (fN l).toNat) (fQ6 l).1).1 = 0
 ·have h3 := i1 h2
  refine ⟨(rdM l (2 * (fN l).toNat) (fQ6 l).1).2.1, ?_, by rw [e, h3]⟩
  rw [e, h3, ← h2]
 ·rw [e, i2 h2] at h; exact absurd h h2
def bdO (l : List UInt8) : OP := if (fQ4 l).2 = 0 then { fO l with ov := [] } else OP.zero
def bdT (l : List UInt8) : Int := if (fQ4 l).2 = 0 then (fQ4 l).1 else 0
def RetBody (o : OP) (t e : Int) (w : World) (en : Ending) (w' : World) : Prop := en = .returned (.tuple #[opV o none 0, .int .i64 t, .int .i64 e]) ∧ Below w.heap.size w w'
theorem bd_no {l : List UInt8} {e : Int} (h : (fQ4 l).2 = e) (he : e ≠ 0) : bdO l = OP.zero ∧ bdT l = 0 := by
 unfold bdO bdT; rw [h, if_neg he, if_neg he]; exact ⟨rfl, rfl⟩
theorem results_row3 {P : Program} {w : World} {fn : Func} {tmps : Array Value} {x y z g : Nat} {t : TypeId} {v u u' : Value} (hr : fn.results = #[.cell x t, .tmp y, .tmp z]) (hx : tmps.getD x undef = .pointer (some ⟨g, 0, none⟩)) (hy : tmps.getD y undef = u) (hz : tmps.getD z undef = u')
 (hl : (loadVar t ⟨g, 0, none⟩).run P w = .ok v w) : (results fn tmps).run P w = .ok (.tuple #[v, u, u']) w := by
 unfold results
 rw [hr]
 simp only [List.mapM_toArray, List.mapM_cons, List.mapM_nil, hx, hy, hz, asAddr, Sem.run_bind, Sem.run_pure, Result.andThen_ok, hl, map_eq_pure_bind]
 rfl
set_option maxRecDepth 100000 in
set_option maxHeartbeats 8000000 in
theorem body_any (w : World) (A : Option Addr) (c : Nat) (l : List UInt8) (h : Rd w A (l.map U8)) (hl : l.length ≤ 1000000000) (hlc : l.length ≤ c) :
 Calls Tryz.prog 55 #[.slice A l.length c] w (RetBody (bdO l) (bdT l) (fQ4 l).2 w) := by
 obtain ⟨W0, hW0⟩ : ∃ x, w.alloc (.cells zero15 43) = x := ⟨_, rfl⟩
 have hb0 : Below w.heap.size w W0 := by rw [← hW0]; exact (Below.refl _ _).alloc (Nat.le_refl _) _
 have hz0 : Blk W0 w.heap.size 43 zero15 := by rw [← hW0]; exact Blk.new w _ _
 have hs0 : w.heap.size < W0.heap.size := by rw [← hW0]; simp
 have HW0 := Lib.hid hW0
 clear hW0
 have q0 := nR_ok l 10
 have q1 : Qok l (fQ1 l) := Qok.tQ q0
 have q3 : Qok l (fQ3 l) := Qok.rQ (Qok.rQ q1)
 by_cases e0 : (fQ0 l).2 = 0
 rotate_left
 ·have kT : ∀ w', Rd w' A (l.map U8) → Calls Tryz.prog 57 #[.slice A l.length c, .int .i64 0, .int .i64 10] w' (RetTk ((fQ0 l).2, [], 0) w') := fun w' hr => takes_is w' A c l hr hl 0 (by omega) (by omega) 10 (by omega) (tk10_no e0)
  have e4 : (fQ4 l).2 = (fQ0 l).2 := by
   have a1 := fQ_stop0 e0
   have a2 := fQ_stop1 (l := l) (by rw [a1]; exact e0)
   have a3 := fQ_stop2 (l := l) (by rw [a2, a1]; exact e0)
   have a4 := fQ_stop3 (l := l) (by rw [a3, a2, a1]; exact e0)
   rw [a4, a3, a2, a1]
  obtain ⟨b1, b2⟩ := bd_no e4 e0
  rw [b1, b2, e4]
  have p1 : ((fQ0 l).2 != 0) = true := by simpa using e0
  clear e0 e4 b1 b2
  generalize (fQ0 l).2 = E at *
  go_enter Tryz.func55, Tryz.ntmps55
  go_wp2_with fail
  have HW0' := HW0.out
  simp only [zero15, opC, OP.zero] at HW0'
  simp only [List.length_nil] at HW0'
  simp only [HW0']
  clear HW0 HW0'
  refine (kT _ (h.below hb0)).mono ?_
  rintro e w2 ⟨A2, c2, rfl, hr2, hb2⟩
  have hz2 : w.heap.size < w2.heap.size := Nat.lt_of_lt_of_le hs0 hb2.size
  have hz := hz0.up (Up.of hb2)
  have hbe := stepB hb0 hb2
  clear kT hz0 hb0
  go_upto_region 3 with fail
  refine wp_region_lit ?_
  refine wpList_plain rfl fun K hK => ?_
  go_simp
  refine hK _ _ ?_
  clear hK K
  refine wpList_plain rfl fun K hK => ?_
  go_simp
  refine hK _ _ ?_
  clear hK K
  refine wpList_storeRow rfl _ _ _ rfl w.heap.size _ zero15 (opC OP.zero none 0).toArray (by go_simp) (by go_simp; first | done | rfl) hz (by kernel_rfl) rfl (opC_one _ _ _) ?_
  intro W hzW gW
  have hbW := hbe.grown gW hbe.size (fun k e => by cases e; omega)
  go_wp2_with fail
  exact bodyPost_ret (results_row3 (g := w.heap.size) (u := .int .i64 0) (u' := .int .i64 E) rfl (by go_simp) (by go_simp) (by go_simp) (load_row hzW Tryz.underlying43 rfl (by kernel_rfl))) rfl ⟨rfl, hbW⟩
 have kT : ∀ w', Rd w' A (l.map U8) → Calls Tryz.prog 57 #[.slice A l.length c, .int .i64 0, .int .i64 10] w' (RetTk (0, (nR l 10).1, (fQ0 l).1) w') := fun w' hr => takes_is w' A c l hr hl 0 (by omega) (by omega) 10 (by omega) (tk10_ok e0)
 have t0 : ∀ w', Rd w' A (l.map U8) → Calls Tryz.prog 82 #[.slice A l.length c, .int .i64 (fQ0 l).1] w' fun e w'' => e = .returned (.tuple #[.string ⟨(tN l (fQ0 l)).toArray⟩, .int .i64 (fQ1 l).1, .int .i64 (fQ1 l).2]) ∧ w' = w'' := fun w' hr => by
  have x := rtextAt_any w' A c l hlc hr hl (fQ0 l).1 (q0.bd hl).1 (q0.bd hl).2
  have y1 : fQ1 l = (txT l (fQ0 l).1, txE l (fQ0 l).1) := by unfold fQ1 tQ; rw [if_pos e0]
  have y2 : tN l (fQ0 l) = txS l (fQ0 l).1 := by unfold tN; rw [if_pos e0]
  rw [y1, y2]; exact x
 have hV10 : (nR l 10).1.length = 10 := nR_len l 10
 by_cases e1 : (fQ1 l).2 = 0
 rotate_left
 ·have e4 : (fQ4 l).2 = (fQ1 l).2 := by
   have a2 := fQ_stop1 e1
   have a3 := fQ_stop2 (l := l) (by rw [a2]; exact e1)
   have a4 := fQ_stop3 (l := l) (by rw [a3, a2]; exact e1)
   rw [a4, a3, a2]
  obtain ⟨b1, b2⟩ := bd_no e4 e1
  rw [b1, b2, e4]
  have p1 : ((fQ1 l).2 != 0) = true := by simpa using e1
  clear e0 e1 e4 b1 b2
  generalize tN l (fQ0 l) = NT at *
  generalize (nR l 10).1 = V at *
  generalize (fQ0 l).1 = a0 at *
  generalize (fQ1 l).1 = a1 at *
  generalize (fQ1 l).2 = E at *
  go_enter Tryz.func55, Tryz.ntmps55
  go_wp2_with fail
  have HW0' := HW0.out
  simp only [zero15, opC, OP.zero] at HW0'
  simp only [List.length_nil] at HW0'
  simp only [HW0']
  clear HW0 HW0'
  refine (kT _ (h.below hb0)).mono ?_
  rintro e w2 ⟨A2, c2, rfl, hr2, hb2⟩
  have hz2 : w.heap.size < w2.heap.size := Nat.lt_of_lt_of_le hs0 hb2.size
  have hz := hz0.up (Up.of hb2)
  have hbe := stepB hb0 hb2
  clear kT hz0 hb0
  go_wp2_with fail
  refine (t0 _ (h.below hbe)).mono ?_
  rintro e w' ⟨rfl, rfl⟩
  clear t0
  go_upto_region 6 with fail
  refine wp_region_lit ?_
  refine wpList_plain rfl fun K hK => ?_
  go_simp
  refine hK _ _ ?_
  clear hK K
  refine wpList_plain rfl fun K hK => ?_
  go_simp
  refine hK _ _ ?_
  clear hK K
  refine wpList_storeRow rfl _ _ _ rfl w.heap.size _ zero15 (opC OP.zero none 0).toArray (by go_simp) (by go_simp; first | done | rfl) hz (by kernel_rfl) rfl (opC_one _ _ _) ?_
  intro W hzW gW
  have hbW := hbe.grown gW hbe.size (fun k e => by cases e; omega)
  go_wp2_with fail
  exact bodyPost_ret (results_row3 (g := w.heap.size) (u := .int .i64 0) (u' := .int .i64 E) rfl (by go_simp) (by go_simp) (by go_simp) (load_row hzW Tryz.underlying43 rfl (by kernel_rfl))) rfl ⟨rfl, hbW⟩
 have k2 : ∀ r, rdM l 2 (fQ1 l).1 = r → ∀ w', Rd w' A (l.map U8) → Calls Tryz.prog 57 #[.slice A l.length c, .int .i64 (fQ1 l).1, .int .i64 2] w' (RetTk r w') := fun r hr0 w' hr => takes_is w' A c l hr hl (fQ1 l).1 q1.1 q1.2 2 (by omega) hr0
 by_cases e3 : (fQ3 l).2 = 0
 rotate_left
 ·have k2 := k2 _ (tk2_no e1 e3)
  have e4 : (fQ4 l).2 = (fQ3 l).2 := by
   have a4 := fQ_stop3 e3
   rw [a4]
  obtain ⟨b1, b2⟩ := bd_no e4 e3
  rw [b1, b2, e4]
  rw [e1] at t0
  have p1 : ((fQ3 l).2 != 0) = true := by simpa using e3
  clear e0 e1 e3 e4 b1 b2
  generalize tN l (fQ0 l) = NT at *
  generalize (nR l 10).1 = V at *
  generalize (fQ0 l).1 = a0 at *
  generalize (fQ1 l).1 = a1 at *
  generalize (fQ3 l).2 = E at *
  go_enter Tryz.func55, Tryz.ntmps55
  go_wp2_with fail
  have HW0' := HW0.out
  simp only [zero15, opC, OP.zero] at HW0'
  simp only [List.length_nil] at HW0'
  simp only [HW0']
  clear HW0 HW0'
  refine (kT _ (h.below hb0)).mono ?_
  rintro e w2 ⟨A2, c2, rfl, hr2, hb2⟩
  have hz2 : w.heap.size < w2.heap.size := Nat.lt_of_lt_of_le hs0 hb2.size
  have hz := hz0.up (Up.of hb2)
  have hbe := stepB hb0 hb2
  clear kT hz0 hb0
  go_wp2_with fail
  refine (t0 _ (h.below hbe)).mono ?_
  rintro e w' ⟨rfl, rfl⟩
  clear t0
  go_wp2_with fail
  refine (k2 _ (h.below hbe)).mono ?_
  rintro e w3 ⟨A3, c3, rfl, hr3, hb3⟩
  have hr2 := hr2.below (B := 0) hb3
  have hz := hz.up (Up.of hb3)
  have hbe := stepB hbe hb3
  have hb3z : w.heap.size < w3.heap.size := Nat.lt_of_lt_of_le hz2 hb3.size
  clear k2 hb3
  go_upto_region 9 with fail
  refine wp_region_lit ?_
  refine wpList_plain rfl fun K hK => ?_
  go_simp
  refine hK _ _ ?_
  clear hK K
  refine wpList_plain rfl fun K hK => ?_
  go_simp
  refine hK _ _ ?_
  clear hK K
  refine wpList_storeRow rfl _ _ _ rfl w.heap.size _ zero15 (opC OP.zero none 0).toArray (by go_simp) (by go_simp; first | done | rfl) hz (by kernel_rfl) rfl (opC_one _ _ _) ?_
  intro W hzW gW
  have hbW := hbe.grown gW hbe.size (fun k e => by cases e; omega)
  go_wp2_with fail
  exact bodyPost_ret (results_row3 (g := w.heap.size) (u := .int .i64 0) (u' := .int .i64 E) rfl (by go_simp) (by go_simp) (by go_simp) (load_row hzW Tryz.underlying43 rfl (by kernel_rfl))) rfl ⟨rfl, hbW⟩
 have k2 := k2 _ (tk2_ok e1 e3)
 have t3 : ∀ w', Rd w' A (l.map U8) → Calls Tryz.prog 82 #[.slice A l.length c, .int .i64 (fQ3 l).1] w' fun e w'' => e = .returned (.tuple #[.string ⟨(tN l (fQ3 l)).toArray⟩, .int .i64 (fQ4 l).1, .int .i64 (fQ4 l).2]) ∧ w' = w'' := fun w' hr => by
  have x := rtextAt_any w' A c l hlc hr hl (fQ3 l).1 (q3.bd hl).1 (q3.bd hl).2
  have y1 : fQ4 l = (txT l (fQ3 l).1, txE l (fQ3 l).1) := by unfold fQ4 tQ; rw [if_pos e3]
  have y2 : tN l (fQ3 l) = txS l (fQ3 l).1 := by unfold tN; rw [if_pos e3]
  rw [y1, y2]; exact x
 rw [e1] at t0
 by_cases e4 : (fQ4 l).2 = 0
 rotate_left
 ·obtain ⟨b1, b2⟩ := bd_no rfl e4
  rw [b1, b2]
  have p1 : ((fQ4 l).2 != 0) = true := by simpa using e4
  clear e0 e1 e3 e4 b1 b2
  generalize tN l (fQ0 l) = NT at *
  generalize tN l (fQ3 l) = TX at *
  generalize (nR l 10).1 = V at *
  generalize (fQ0 l).1 = a0 at *
  generalize rN l (fQ1 l) = SE at *
  generalize rN l (fQ2 l) = NN at *
  generalize (fQ1 l).1 = a1 at *
  generalize (fQ3 l).1 = a3 at *
  generalize (fQ4 l).1 = a4 at *
  generalize (fQ4 l).2 = E at *
  go_enter Tryz.func55, Tryz.ntmps55
  go_wp2_with fail
  have HW0' := HW0.out
  simp only [zero15, opC, OP.zero] at HW0'
  simp only [List.length_nil] at HW0'
  simp only [HW0']
  clear HW0 HW0'
  refine (kT _ (h.below hb0)).mono ?_
  rintro e w2 ⟨A2, c2, rfl, hr2, hb2⟩
  have hz2 : w.heap.size < w2.heap.size := Nat.lt_of_lt_of_le hs0 hb2.size
  have hz := hz0.up (Up.of hb2)
  have hbe := stepB hb0 hb2
  clear kT hz0 hb0
  go_wp2_with fail
  refine (t0 _ (h.below hbe)).mono ?_
  rintro e w' ⟨rfl, rfl⟩
  clear t0
  go_wp2_with fail
  refine (k2 _ (h.below hbe)).mono ?_
  rintro e w3 ⟨A3, c3, rfl, hr3, hb3⟩
  have hr2 := hr2.below (B := 0) hb3
  have hz := hz.up (Up.of hb3)
  have hbe := stepB hbe hb3
  have hb3z : w.heap.size < w3.heap.size := Nat.lt_of_lt_of_le hz2 hb3.size
  clear k2 hb3
  go_wp2_with fail
  refine (t3 _ (h.below hbe)).mono ?_
  rintro e w' ⟨rfl, rfl⟩
  clear t3
  go_upto_region 12 with fail
  refine wp_region_lit ?_
  refine wpList_plain rfl fun K hK => ?_
  go_simp
  refine hK _ _ ?_
  clear hK K
  refine wpList_plain rfl fun K hK => ?_
  go_simp
  refine hK _ _ ?_
  clear hK K
  refine wpList_storeRow rfl _ _ _ rfl w.heap.size _ zero15 (opC OP.zero none 0).toArray (by go_simp) (by go_simp; first | done | rfl) hz (by kernel_rfl) rfl (opC_one _ _ _) ?_
  intro W hzW gW
  have hbW := hbe.grown gW hbe.size (fun k e => by cases e; omega)
  go_wp2_with fail
  exact bodyPost_ret (results_row3 (g := w.heap.size) (u := .int .i64 0) (u' := .int .i64 E) rfl (by go_simp) (by go_simp) (by go_simp) (load_row hzW Tryz.underlying43 rfl (by kernel_rfl))) rfl ⟨rfl, hbW⟩
 have HO : Hid (bdO l = { opOf (nR l 10).1 with nt := tN l (fQ0 l), se := rN l (fQ1 l), nn := rN l (fQ2 l), tx := tN l (fQ3 l), ov := [] }) := by rw [Hid, bdO, if_pos e4]; rfl
 have HT : Hid (bdT l = (fQ4 l).1) := by rw [Hid, bdT, if_pos e4]
 rw [HO.out, HT.out, e4]
 rw [e4] at t3
 clear HO HT e0 e1 e3 e4
 generalize tN l (fQ0 l) = NT at *
 generalize tN l (fQ3 l) = TX at *
 generalize (nR l 10).1 = V at *
 generalize (fQ0 l).1 = a0 at *
 generalize rN l (fQ1 l) = SE at *
 generalize rN l (fQ2 l) = NN at *
 generalize (fQ1 l).1 = a1 at *
 generalize (fQ3 l).1 = a3 at *
 generalize (fQ4 l).1 = a4 at *
 obtain ⟨v0, v1, v2, v3, v4, v5, v6, v7, v8, v9, rfl⟩ : ∃ v0 v1 v2 v3 v4 v5 v6 v7 v8 v9, V = [v0, v1, v2, v3, v4, v5, v6, v7, v8, v9] := by
  clear t0 t3 k2 kT
  rcases V with _ | ⟨a0, _ | ⟨a1, _ | ⟨a2, _ | ⟨a3, _ | ⟨a4, _ | ⟨a5, _ | ⟨a6, _ | ⟨a7, _ | ⟨a8, _ | ⟨a9, V⟩⟩⟩⟩⟩⟩⟩⟩⟩⟩
  all_goals simp at hV10
  subst hV10
  exact ⟨_, _, _, _, _, _, _, _, _, _, rfl⟩
 clear hV10
 go_enter Tryz.func55, Tryz.ntmps55
 go_wp2_with fail
 have HW0' := HW0.out
 simp only [zero15, opC, OP.zero] at HW0'
 simp only [List.length_nil] at HW0'
 simp only [HW0']
 clear HW0 HW0'
 refine (kT _ (h.below hb0)).mono ?_
 rintro e w2 ⟨A2, c2, rfl, hr2, hb2⟩
 have hz2 : w.heap.size < w2.heap.size := Nat.lt_of_lt_of_le hs0 hb2.size
 have hz := hz0.up (Up.of hb2)
 have hbe := stepB hb0 hb2
 clear kT hz0 hb0
 go_wp2_with fail
 refine (t0 _ (h.below hbe)).mono ?_
 rintro e w' ⟨rfl, rfl⟩
 clear t0
 go_wp2_with fail
 refine (k2 _ (h.below hbe)).mono ?_
 rintro e w3 ⟨A3, c3, rfl, hr3, hb3⟩
 have hr2 := hr2.below (B := 0) hb3
 have hz := hz.up (Up.of hb3)
 have hbe := stepB hbe hb3
 have hb3z : w.heap.size < w3.heap.size := Nat.lt_of_lt_of_le hz2 hb3.size
 clear k2 hb3
 go_wp2_with fail
 refine (t3 _ (h.below hbe)).mono ?_
 rintro e w' ⟨rfl, rfl⟩
 clear t3
 obtain ⟨b1, rfl, hge1, hlt1, hw1⟩ := hr2.slot (by simp)
 obtain ⟨b2, rfl, hge2, hlt2, hw2⟩ := hr3.slot (by simp)
 have hc1 : ∀ j u, ([v0, v1, v2, v3, v4, v5, v6, v7, v8, v9].map I64)[j]? = some u → w3.cell? ⟨b1, j, none⟩ = some u := fun j u hu => by
  have := hw1.cells (g := b1) rfl j u hu
  rwa [add_plain, Nat.zero_add] at this
 have hc2' : ∀ j u, ([SE, NN].map I64)[j]? = some u → w3.cell? ⟨b2, j, none⟩ = some u := fun j u hu => by
  have := hw2.cells (g := b2) rfl j u hu
  rwa [add_plain, Nat.zero_add] at this
 have hu := Up.refl w3
 have l4 := fun w' (u : Up w3 w') => u.cell (show w3.cell? ⟨b1, 4, none⟩ = some (.int .i64 v4) from hc1 4 _ rfl)
 have l5 := fun w' (u : Up w3 w') => u.cell (show w3.cell? ⟨b1, 5, none⟩ = some (.int .i64 v5) from hc1 5 _ rfl)
 have l6 := fun w' (u : Up w3 w') => u.cell (show w3.cell? ⟨b1, 6, none⟩ = some (.int .i64 v6) from hc1 6 _ rfl)
 have l7 := fun w' (u : Up w3 w') => u.cell (show w3.cell? ⟨b1, 7, none⟩ = some (.int .i64 v7) from hc1 7 _ rfl)
 have l8 := fun w' (u : Up w3 w') => u.cell (show w3.cell? ⟨b1, 8, none⟩ = some (.int .i64 v8) from hc1 8 _ rfl)
 have l9 := fun w' (u : Up w3 w') => u.cell (show w3.cell? ⟨b1, 9, none⟩ = some (.int .i64 v9) from hc1 9 _ rfl)
 go_upto_region 13 with fail
 go_cut [11] (fun v wx => ∃ B, v = .pointer (some ⟨B, 0, none⟩) ∧ Blk wx B 40 #[.int .i64 v4, .int .i64 v5, .int .i64 v6, .int .i64 v7, .int .i64 v8, .int .i64 v9, .string ⟨NT.toArray⟩] ∧ w3.heap.size ≤ B ∧ Up w3 wx ∧ ∃ wy, wy = wx)
 case first =>
  go_region_held3 (fun w' => Up w3 w') (first | assumption | exact Up.drew _ | exact Up.refl _ | exact Up.trans (by assumption) (Up.alloc' _ _) | exact Up.trans (by assumption) (Up.of (by assumption)) | exact Up.trans (Up.alloc' _ _) (Up.drew _)) (first | fail)
  all_goals
   clear l4 l5 l6 l7 l8 l9
   go_wp2_with fail
   go_meet
   refine ⟨_, rfl, ?_, Nat.le_refl _, by assumption, _, rfl⟩
   exact Blk.drewN (Blk.new w3 _ _) 1
 case rest =>
  clear l4 l5 l6 l7 l8 l9
  obtain ⟨B, rfl, hB, hgeB, hu, wx, hwx⟩ := hcut
  subst hwx
  have hz := hz.up hu
  have hbe := stepB hbe hu.b
  clear hr2 hr3 hw1 hw2
  have c0 : wx.cell? ⟨b1, 0, none⟩ = some (.int .i64 v0) := hu.cell (hc1 0 _ rfl)
  have c1 : wx.cell? ⟨b1, 1, none⟩ = some (.int .i64 v1) := hu.cell (hc1 1 _ rfl)
  have c2 : wx.cell? ⟨b1, 2, none⟩ = some (.int .i64 v2) := hu.cell (hc1 2 _ rfl)
  have c3 : wx.cell? ⟨b1, 3, none⟩ = some (.int .i64 v3) := hu.cell (hc1 3 _ rfl)
  have d0 : wx.cell? ⟨b2, 0, none⟩ = some (.int .i64 SE) := hu.cell (hc2' 0 _ rfl)
  have d1 : wx.cell? ⟨b2, 1, none⟩ = some (.int .i64 NN) := hu.cell (hc2' 1 _ rfl)
  have e0 : wx.cell? ⟨B, 0, none⟩ = some (.int .i64 v4) := by rw [hB.cell]; rfl
  have e1 : wx.cell? ⟨B, 1, none⟩ = some (.int .i64 v5) := by rw [hB.cell]; rfl
  have e2 : wx.cell? ⟨B, 2, none⟩ = some (.int .i64 v6) := by rw [hB.cell]; rfl
  have e3 : wx.cell? ⟨B, 3, none⟩ = some (.int .i64 v7) := by rw [hB.cell]; rfl
  have e4 : wx.cell? ⟨B, 4, none⟩ = some (.int .i64 v8) := by rw [hB.cell]; rfl
  have e5 : wx.cell? ⟨B, 5, none⟩ = some (.int .i64 v9) := by rw [hB.cell]; rfl
  have e6 : wx.cell? ⟨B, 6, none⟩ = some (.string ⟨NT.toArray⟩) := by rw [hB.cell]; rfl
  have n1 : b1 ≠ w.heap.size := by omega
  have n2 : b2 ≠ w.heap.size := by omega
  have nB : B ≠ w.heap.size := by have := hb3z; omega
  have c0 := fun w' (g : wx.grownBy w' (some w.heap.size)) => g.cell c0 (by simp; exact n1)
  have c1 := fun w' (g : wx.grownBy w' (some w.heap.size)) => g.cell c1 (by simp; exact n1)
  have c2 := fun w' (g : wx.grownBy w' (some w.heap.size)) => g.cell c2 (by simp; exact n1)
  have c3 := fun w' (g : wx.grownBy w' (some w.heap.size)) => g.cell c3 (by simp; exact n1)
  have d0 := fun w' (g : wx.grownBy w' (some w.heap.size)) => g.cell d0 (by simp; exact n2)
  have d1 := fun w' (g : wx.grownBy w' (some w.heap.size)) => g.cell d1 (by simp; exact n2)
  have e0 := fun w' (g : wx.grownBy w' (some w.heap.size)) => g.cell e0 (by simp; exact nB)
  have e1 := fun w' (g : wx.grownBy w' (some w.heap.size)) => g.cell e1 (by simp; exact nB)
  have e2 := fun w' (g : wx.grownBy w' (some w.heap.size)) => g.cell e2 (by simp; exact nB)
  have e3 := fun w' (g : wx.grownBy w' (some w.heap.size)) => g.cell e3 (by simp; exact nB)
  have e4 := fun w' (g : wx.grownBy w' (some w.heap.size)) => g.cell e4 (by simp; exact nB)
  have e5 := fun w' (g : wx.grownBy w' (some w.heap.size)) => g.cell e5 (by simp; exact nB)
  have e6 := fun w' (g : wx.grownBy w' (some w.heap.size)) => g.cell e6 (by simp; exact nB)
  clear hB hc1 hc2'
  go_upto_region 14 with fail
  refine wp_region_noPanic ?_
  refine wp_region_held_drew (S := fun w' => wx.grownBy w' (some w.heap.size)) (by kernel_rfl) (grown_drewN wx 1 _) (fun hHeld => ?_)
  refine tk 0 76 (v := ?_) ?_ ?_
  rotate_left
  ·intro w' hSw; clear hSw; go_simp; try (with_reducible rfl)
  try simp only [tkA, tkB, tkC]
  refine tk 1 77 (v := ?_) ?_ ?_
  rotate_left
  ·intro w' hSw; clear hSw; go_simp; try (with_reducible rfl)
  try simp only [tkA, tkB, tkC]
  refine tk 2 78 (v := ?_) ?_ ?_
  rotate_left
  ·intro w' hS0; go_simp; try (with_reducible rfl)
  try simp only [tkA, tkB, tkC]
  refine tk 3 79 (v := ?_) ?_ ?_
  rotate_left
  ·intro w' hSw; clear hSw; go_simp; try (with_reducible rfl)
  try simp only [tkA, tkB, tkC]
  refine tk 4 80 (v := ?_) ?_ ?_
  rotate_left
  ·intro w' hSw; clear hSw; go_simp; try (with_reducible rfl)
  try simp only [tkA, tkB, tkC]
  refine tk 5 81 (v := ?_) ?_ ?_
  rotate_left
  ·intro w' hS0; go_simp; try (with_reducible rfl)
  try simp only [tkA, tkB, tkC]
  refine tk 6 82 (v := ?_) ?_ ?_
  rotate_left
  ·intro w' hSw; clear hSw; go_simp; try (with_reducible rfl)
  try simp only [tkA, tkB, tkC]
  refine tk 7 83 (v := ?_) ?_ ?_
  rotate_left
  ·intro w' hSw; clear hSw; go_simp; try (with_reducible rfl)
  try simp only [tkA, tkB, tkC]
  refine tk 8 84 (v := ?_) ?_ ?_
  rotate_left
  ·intro w' hSw; clear hSw; go_simp; try (with_reducible rfl)
  try simp only [tkA, tkB, tkC]
  refine tk 9 85 (v := ?_) ?_ ?_
  rotate_left
  ·intro w' hS0; go_simp; try (with_reducible rfl)
  try simp only [tkA, tkB, tkC]
  refine tk 10 86 (v := ?_) ?_ ?_
  rotate_left
  ·intro w' hSw; clear hSw; go_simp; try (with_reducible rfl)
  try simp only [tkA, tkB, tkC]
  refine tk 11 87 (v := ?_) ?_ ?_
  rotate_left
  ·intro w' hSw; clear hSw; go_simp; try (with_reducible rfl)
  try simp only [tkA, tkB, tkC]
  refine tk 12 88 (v := ?_) ?_ ?_
  rotate_left
  ·intro w' hS0; go_simp; try (with_reducible rfl)
  try simp only [tkA, tkB, tkC]
  refine tk 13 89 (v := ?_) ?_ ?_
  rotate_left
  ·intro w' hS0; go_simp; try (with_reducible rfl)
  try simp only [tkA, tkB, tkC]
  refine tk 14 90 (v := ?_) ?_ ?_
  rotate_left
  ·intro w' hSw; clear hSw; go_simp; try (with_reducible rfl)
  try simp only [tkA, tkB, tkC]
  refine tk 15 91 (v := ?_) ?_ ?_
  rotate_left
  ·intro w' hSw; clear hSw; go_simp; try (with_reducible rfl)
  try simp only [tkA, tkB, tkC]
  refine tk 16 92 (v := ?_) ?_ ?_
  rotate_left
  ·intro w' hS0; go_simp; try (with_reducible rfl)
  try simp only [tkA, tkB, tkC]
  refine tk 17 93 (v := ?_) ?_ ?_
  rotate_left
  ·intro w' hSw; clear hSw; go_simp; try (with_reducible rfl)
  try simp only [tkA, tkB, tkC]
  refine tk 18 94 (v := ?_) ?_ ?_
  rotate_left
  ·intro w' hSw; clear hSw; go_simp; try (with_reducible rfl)
  try simp only [tkA, tkB, tkC]
  refine tk 19 95 (v := ?_) ?_ ?_
  rotate_left
  ·intro w' hS0; go_simp; try (with_reducible rfl)
  try simp only [tkA, tkB, tkC]
  refine tk 20 96 (v := ?_) ?_ ?_
  rotate_left
  ·intro w' hSw; clear hSw; go_simp; try (with_reducible rfl)
  try simp only [tkA, tkB, tkC]
  refine tk 21 97 (v := ?_) ?_ ?_
  rotate_left
  ·intro w' hSw; clear hSw; go_simp; try (with_reducible rfl)
  try simp only [tkA, tkB, tkC]
  refine tk 22 98 (v := ?_) ?_ ?_
  rotate_left
  ·intro w' hSw; clear hSw; go_simp; try (with_reducible rfl)
  try simp only [tkA, tkB, tkC]
  refine wpAnyH_ready (rs := [23]) (by kernel_rfl) (by simp) ?_
  refine AllReadyH.cons rfl (fun K hK => ?_) AllReadyH.nil
  refine wp_storeRow _ _ _ rfl w.heap.size 43 zero15 (opC ⟨v0, v1, v2, v3, v4, v5, v6, v7, v8, v9, NT, SE, NN, TX, []⟩ none 0).toArray (by go_simp) (by go_simp; first | done | rfl) (Blk.drewN hz 1) (by kernel_rfl) rfl (opC_one _ _ _) ?_
  intro W hzW gW
  refine hK.out _ _ (hHeld.trans gW) (fun hHeld => ?_)
  clear hK K
  try simp only [Act.put, tkA, tkB, tkC]
  refine tk 24 3 (v := ?_) ?_ ?_
  rotate_left
  ·intro w' hSw; clear hSw; go_simp; try (with_reducible rfl)
  try simp only [tkA, tkB, tkC]
  refine tk 25 4 (v := ?_) ?_ ?_
  rotate_left
  ·intro w' hSw; clear hSw; go_simp; try (with_reducible rfl)
  try simp only [tkA, tkB, tkC]
  refine wpAnyH_done (by kernel_rfl) ?_ _
  refine NoPanic.normal ?_
  clear hHeld
  have hbW := (below_drewN hbe 1).grown gW hbe.size (fun k e => by cases e; omega)
  clear c0 c1 c2 c3 d0 d1 e0 e1 e2 e3 e4 e5 e6
  go_wp2_with fail
  exact bodyPost_ret (results_row3 (g := w.heap.size) (u := .int .i64 a4) (u' := .int .i64 0) rfl (by go_simp) (by go_simp) (by go_simp) (load_row hzW Tryz.underlying43 rfl (by kernel_rfl))) rfl ⟨rfl, hbW⟩
end Go.Proofs.YtcomeidcmcegfaaGreatDoor
namespace Go.Proofs.YtcomeidcmcegfaaGreatDoor
open Go.RowKit
set_option linter.unusedVariables false
set_option linter.unusedSimpArgs false
theorem rdM_len (b : List UInt8) (n : Nat) : ∀ q, (rdM b n q).1 = 0 → (rdM b n q).2.1.length = n := by
 induction n with
 | zero => intro q _; rfl
 | succ n ih =>
  intro q h
  rw [rdM] at h ⊢
  split at h
  ·rename_i h1
   rw [if_pos h1]
   split at h
   ·rename_i h2; rw [if_pos h2]; simp [ih _ h2]
   ·rename_i h2; exact absurd h h2
  ·rename_i h1; exact absurd h h1
theorem two_next : ∀ (i : Nat) (L : List Int) (h : 2 * i + 1 < L.length), two (L.take (2 * (i + 1))) = two (L.take (2 * i)) ++ [(L[2 * i], L[2 * i + 1])]
 | 0, a :: b :: L, _ => rfl
 | 0, [a], h => by simp at h
 | i + 1, a :: b :: L, h => by
  have := two_next i L (by simp at h; omega)
  show two (a :: b :: L.take (2 * (i + 1))) = two (a :: b :: L.take (2 * i)) ++ _
  rw [two, two, this]
  simp [show 2 * (i + 1) = 2 * i + 1 + 1 by omega]
 | i + 1, [a], h => by simp at h
 | i, [], h => by simp at h
theorem blk_opAt {w : World} {b : Nat} {t : TypeId} {o : OP} {A : Option Addr} {c : Nat} (h : Blk w b t (opC o A c).toArray) : OpAt w b o A c := OpAt.of fun j u hu => by rw [h.cell]; simpa using hu
theorem ne_row {r : Option Nat} {g : Nat} (h : r = none ∨ r ≠ some g) : some g ≠ r := by
 rcases h with rfl | h
 ·simp
 ·exact fun e => h e.symm
def RFromRel (w : World) (B base : Nat) (AL : Option Addr) (L : List Int) (n : Nat) (ob : OP) (vi : Value) (wr : World) : Prop :=
 ∃ (i : Nat) (acc : List (Int × Int)) (Ao : Option Addr) (co : Nat), vi = .int .i64 i ∧ i ≤ n ∧ Hid (acc = two (L.take (2 * i))) ∧ acc.length = i ∧ Blk wr B 43 (opC { ob with ov := acc } Ao co).toArray ∧
  Blk wr w.heap.size 43 zero15 ∧ Own wr base 36 2 (.slice Ao acc.length co) acc.length (ovL acc) ∧ Rd wr AL (L.map I64) ∧ Below w.heap.size w wr ∧ base ≤ wr.heap.size
set_option maxRecDepth 100000 in
set_option maxHeartbeats 16000000 in
theorem rfrom_anyW (w : World) (A : Option Addr) (c : Nat) (l : List UInt8) (h : Rd w A (l.map U8)) (hl : l.length ≤ 1000000000) (hlc : l.length ≤ c) :
 Calls Tryz.prog 31 #[.slice A l.length c] w (RetOpW (fR l) (fE l) w) := by
 obtain ⟨W0, hW0⟩ : ∃ x, w.alloc (.cells zero15 43) = x := ⟨_, rfl⟩
 have hb0 : Below w.heap.size w W0 := by rw [← hW0]; exact (Below.refl _ _).alloc (Nat.le_refl _) _
 have hz0 : Blk W0 w.heap.size 43 zero15 := by rw [← hW0]; exact Blk.new w _ _
 have hs0 : w.heap.size < W0.heap.size := by rw [← hW0]; simp
 have HW0 := Lib.hid hW0
 clear hW0
 have kB := fun (w' : World) (hr : Rd w' A (l.map U8)) => body_any w' A c l hr hl hlc
 have q4 : Qok l (fQ4 l) := Qok.tQ (Qok.rQ (Qok.rQ (Qok.tQ (nR_ok l 10))))
 have q5 : Qok l (fQ5 l) := Qok.rQ q4
 have hbo : (bdO l).ov = [] := by unfold bdO; split <;> rfl
 by_cases e4 : (fQ4 l).2 = 0
 rotate_left
 ·have hFR : Hid (fR l = OP.zero) := fR_err (by rw [fE_4 e4]; exact e4)
  have HFE : Hid (fE l = (fQ4 l).2) := fE_4 e4
  have p1 : ((fQ4 l).2 != 0) = true := by simpa using e4
  have hov := hbo
  clear e4
  unfold RetBody opV opC at kB
  rw [hov] at kB
  clear hbo
  generalize bdO l = ob at *
  generalize bdT l = T at *
  generalize (fQ4 l).2 = E at *
  go_enter Tryz.func31, Tryz.ntmps31
  go_wp2_with fail
  have HW0' := HW0.out
  simp only [zero15, opC, OP.zero] at HW0'
  simp only [List.length_nil] at HW0'
  simp only [HW0']
  clear HW0 HW0'
  refine (kB _ (h.below hb0)).mono ?_
  rintro e w2 ⟨rfl, hb2⟩
  have hz := hz0.up (Up.of hb2)
  have hbe := stepB hb0 hb2
  have hlt2 : w.heap.size < w2.heap.size := Nat.lt_of_lt_of_le hs0 hb2.size
  clear kB hz0 hb0 hb2 hs0
  obtain ⟨W3, hW3⟩ : ∃ x, w2.alloc (.cells (opC ob none 0).toArray 43) = x := ⟨_, rfl⟩
  have hob : Blk W3 w2.heap.size 43 (opC ob none 0).toArray := by rw [← hW3]; exact Blk.new _ _ _
  have hz := (show Blk W3 w.heap.size 43 zero15 by rw [← hW3]; exact hz.up (Up.alloc' _ _))
  have hbe := (show Below w.heap.size w W3 by rw [← hW3]; exact hbe.alloc hbe.size _)
  have HW3 := Lib.hid hW3
  clear hW3
  go_upto_region 2 with fail
  have HW3' := HW3.out
  unfold opC at HW3'
  simp only [hov, List.length_nil] at HW3'
  simp only [HW3']
  clear HW3 HW3'
  go_upto_region 3 with fail
  refine wp_region_lit ?_
  refine wpList_plain rfl fun K hK => ?_
  go_simp
  refine hK _ _ ?_
  clear hK K
  refine wpList_plain rfl fun K hK => ?_
  go_simp
  refine hK _ _ ?_
  clear hK K
  refine wpList_storeRow rfl _ _ _ rfl w.heap.size _ zero15 (opC OP.zero none 0).toArray (by go_simp) (by go_simp; first | done | rfl) hz (by kernel_rfl) rfl (opC_one _ _ _) ?_
  intro W hzW gW
  have hbW := hbe.grown gW hbe.size (fun k e => by cases e; omega)
  go_wp2_with fail
  refine bodyPost_ret (results_row (g := w.heap.size) (u := .int .i64 E) rfl (by go_simp) (by go_simp) (load_row hzW Tryz.underlying43 rfl (by kernel_rfl))) rfl ?_
  exact ⟨none, 0, by rw [hFR.out, HFE.out]; rfl, by rw [hFR.out]; exact Own.nil _ _ _ _, hbW⟩
 have hT4 : bdT l = (fQ4 l).1 := by unfold bdT; rw [if_pos e4]
 have HO : Hid (fO l = { bdO l with ov := (fS l).1 }) := by rw [Hid, bdO, if_pos e4]; rfl
 have kI : ∀ w', Rd w' A (l.map U8) → Calls Tryz.prog 52 #[.slice A l.length c, .int .i64 (fQ4 l).1] w' fun e w'' => e = .returned (.tuple #[.int .i64 (fN l), .int .i64 (fQ5 l).1, .int .i64 (fQ5 l).2]) ∧ w' = w'' := fun w' hr => by
  have x := rint_any w' A c l hr (by omega) (fQ4 l).1 (q4.bd hl).1 (q4.bd hl).2
  have y1 : fQ5 l = (rdT l (fQ4 l).1, rdE l (fQ4 l).1) := by unfold fQ5 rQ; rw [if_pos e4]
  have y2 : fN l = rdN l (fQ4 l).1 := by unfold fN rN; rw [if_pos e4]
  rw [y1, y2]
  exact x.mono fun _ _ h => ⟨h.1, h.2⟩
 rw [hT4, e4] at kB
 unfold RetBody opV opC at kB
 rw [hbo] at kB
 have hov := hbo
 by_cases e5 : (fQ5 l).2 = 0
 rotate_left
 ·have hFR : Hid (fR l = OP.zero) := fR_err (by rw [fE_5 e5]; exact e5)
  have HFE : Hid (fE l = (fQ5 l).2) := fE_5 e5
  have p1 : ((fQ5 l).2 != 0) = true := by simpa using e5
  clear e4 e5 hT4 HO hbo
  generalize bdO l = ob at *
  generalize (fQ4 l).1 = a4 at *
  generalize (fQ5 l).1 = a5 at *
  generalize (fQ5 l).2 = E at *
  generalize fN l = N at *
  go_enter Tryz.func31, Tryz.ntmps31
  go_wp2_with fail
  have HW0' := HW0.out
  simp only [zero15, opC, OP.zero] at HW0'
  simp only [List.length_nil] at HW0'
  simp only [HW0']
  clear HW0 HW0'
  refine (kB _ (h.below hb0)).mono ?_
  rintro e w2 ⟨rfl, hb2⟩
  have hz := hz0.up (Up.of hb2)
  have hbe := stepB hb0 hb2
  have hlt2 : w.heap.size < w2.heap.size := Nat.lt_of_lt_of_le hs0 hb2.size
  clear kB hz0 hb0 hb2 hs0
  obtain ⟨W3, hW3⟩ : ∃ x, w2.alloc (.cells (opC ob none 0).toArray 43) = x := ⟨_, rfl⟩
  have hob : Blk W3 w2.heap.size 43 (opC ob none 0).toArray := by rw [← hW3]; exact Blk.new _ _ _
  have hz := (show Blk W3 w.heap.size 43 zero15 by rw [← hW3]; exact hz.up (Up.alloc' _ _))
  have hbe := (show Below w.heap.size w W3 by rw [← hW3]; exact hbe.alloc hbe.size _)
  have HW3 := Lib.hid hW3
  clear hW3
  go_upto_region 2 with fail
  have HW3' := HW3.out
  unfold opC at HW3'
  simp only [hov, List.length_nil] at HW3'
  simp only [HW3']
  clear HW3 HW3'
  go_wp2_with fail
  refine (kI _ (h.below hbe)).mono ?_
  rintro e w4 ⟨rfl, rfl⟩
  clear kI
  go_upto_region 6 with fail
  refine wp_region_lit ?_
  refine wpList_plain rfl fun K hK => ?_
  go_simp
  refine hK _ _ ?_
  clear hK K
  refine wpList_plain rfl fun K hK => ?_
  go_simp
  refine hK _ _ ?_
  clear hK K
  refine wpList_storeRow rfl _ _ _ rfl w.heap.size _ zero15 (opC OP.zero none 0).toArray (by go_simp) (by go_simp; first | done | rfl) hz (by kernel_rfl) rfl (opC_one _ _ _) ?_
  intro W hzW gW
  have hbW := hbe.grown gW hbe.size (fun k e => by cases e; omega)
  go_wp2_with fail
  refine bodyPost_ret (results_row (g := w.heap.size) (u := .int .i64 E) rfl (by go_simp) (by go_simp) (load_row hzW Tryz.underlying43 rfl (by kernel_rfl))) rfl ?_
  exact ⟨none, 0, by rw [hFR.out, HFE.out]; rfl, by rw [hFR.out]; exact Own.nil _ _ _ _, hbW⟩
 rw [e5] at kI
 by_cases hN : 0 ≤ fN l ∧ fN l ≤ 16
 rotate_left
 ·have e6 : fQ6 l = ((fQ5 l).1, 3) := by unfold fQ6; rw [if_pos ⟨e5, by omega⟩]
  have hE3 : fE l = 3 := by rw [fE_6 (by rw [e6]; show (3 : Int) ≠ 0; decide), e6]
  have hFR : Hid (fR l = OP.zero) := fR_err (by rw [hE3]; decide)
  have HFE : Hid (fE l = 3) := hE3
  have kW := fun w => within_is w (decide_eq_false hN)
  clear e4 e5 hT4 HO hbo e6 hE3 hN
  generalize bdO l = ob at *
  generalize (fQ4 l).1 = a4 at *
  generalize (fQ5 l).1 = a5 at *
  generalize fN l = N at *
  go_enter Tryz.func31, Tryz.ntmps31
  go_wp2_with fail
  have HW0' := HW0.out
  simp only [zero15, opC, OP.zero] at HW0'
  simp only [List.length_nil] at HW0'
  simp only [HW0']
  clear HW0 HW0'
  refine (kB _ (h.below hb0)).mono ?_
  rintro e w2 ⟨rfl, hb2⟩
  have hz := hz0.up (Up.of hb2)
  have hbe := stepB hb0 hb2
  have hlt2 : w.heap.size < w2.heap.size := Nat.lt_of_lt_of_le hs0 hb2.size
  clear kB hz0 hb0 hb2 hs0
  obtain ⟨W3, hW3⟩ : ∃ x, w2.alloc (.cells (opC ob none 0).toArray 43) = x := ⟨_, rfl⟩
  have hob : Blk W3 w2.heap.size 43 (opC ob none 0).toArray := by rw [← hW3]; exact Blk.new _ _ _
  have hz := (show Blk W3 w.heap.size 43 zero15 by rw [← hW3]; exact hz.up (Up.alloc' _ _))
  have hbe := (show Below w.heap.size w W3 by rw [← hW3]; exact hbe.alloc hbe.size _)
  have HW3 := Lib.hid hW3
  clear hW3
  go_upto_region 2 with fail
  have HW3' := HW3.out
  unfold opC at HW3'
  simp only [hov, List.length_nil] at HW3'
  simp only [HW3']
  clear HW3 HW3'
  go_wp2_with fail
  refine (kI _ (h.below hbe)).mono ?_
  rintro e w4 ⟨rfl, rfl⟩
  clear kI
  go_wp2_with fail
  refine (kW _).mono ?_
  rintro e w4 ⟨rfl, rfl⟩
  clear kW
  go_upto_region 8 with fail
  refine wp_region_lit ?_
  refine wpList_plain rfl fun K hK => ?_
  go_simp
  refine hK _ _ ?_
  clear hK K
  refine wpList_storeRow rfl _ _ _ rfl w.heap.size _ zero15 (opC OP.zero none 0).toArray (by go_simp) (by go_simp; first | done | rfl) hz (by kernel_rfl) rfl (opC_one _ _ _) ?_
  intro W hzW gW
  have hbW := hbe.grown gW hbe.size (fun k e => by cases e; omega)
  go_wp2_with fail
  refine bodyPost_ret (results_row (g := w.heap.size) (u := .int .i64 3) rfl (by go_simp) (by go_simp) (load_row hzW Tryz.underlying43 rfl (by kernel_rfl))) rfl ?_
  exact ⟨none, 0, by rw [hFR.out, HFE.out]; rfl, by rw [hFR.out]; exact Own.nil _ _ _ _, hbW⟩
 have kW := fun w => within_is w (decide_eq_true hN)
 have e6 : fQ6 l = fQ5 l := by unfold fQ6; rw [if_neg (by omega)]
 have h6 : (fQ6 l).2 = 0 := by rw [e6]; exact e5
 obtain ⟨n, hn⟩ : ∃ n : Nat, fN l = n := ⟨(fN l).toNat, by omega⟩
 have hn2 : (fN l).toNat = n := by omega
 have hn16 : n ≤ 16 := by omega
 have k2 : ∀ r, rdM l (2 * n) (fQ5 l).1 = r → ∀ w', Rd w' A (l.map U8) → Calls Tryz.prog 57 #[.slice A l.length c, .int .i64 (fQ5 l).1, .int .i64 (2 * (n : Int))] w' (RetTk r w') := fun r hr0 w' hr => by
  have := takes_is w' A c l hr hl (fQ5 l).1 q5.1 q5.2 (2 * n) (by omega) hr0
  rwa [show ((2 * n : Nat) : Int) = 2 * (n : Int) by omega] at this
 by_cases e8 : (fS l).2.2 = 0
 rotate_left
 ·have hFR : Hid (fR l = OP.zero) := fR_err (by rw [fE_8 e8]; exact e8)
  have HFE : Hid (fE l = (fS l).2.2) := fE_8 e8
  have k2 := k2 ((fS l).2.2, [], 0) (by have := tkS_no h6 e8; rw [hn2, e6] at this; exact this)
  have p1 : ((fS l).2.2 != 0) = true := by simpa using e8
  rw [hn] at kI kW
  clear e4 e5 hT4 HO hbo e6 hN h6 e8 hn hn2
  generalize bdO l = ob at *
  generalize (fQ4 l).1 = a4 at *
  generalize (fQ5 l).1 = a5 at *
  generalize (fS l).2.2 = E at *
  go_enter Tryz.func31, Tryz.ntmps31
  go_wp2_with fail
  have HW0' := HW0.out
  simp only [zero15, opC, OP.zero] at HW0'
  simp only [List.length_nil] at HW0'
  simp only [HW0']
  clear HW0 HW0'
  refine (kB _ (h.below hb0)).mono ?_
  rintro e w2 ⟨rfl, hb2⟩
  have hz := hz0.up (Up.of hb2)
  have hbe := stepB hb0 hb2
  have hlt2 : w.heap.size < w2.heap.size := Nat.lt_of_lt_of_le hs0 hb2.size
  clear kB hz0 hb0 hb2 hs0
  obtain ⟨W3, hW3⟩ : ∃ x, w2.alloc (.cells (opC ob none 0).toArray 43) = x := ⟨_, rfl⟩
  have hob : Blk W3 w2.heap.size 43 (opC ob none 0).toArray := by rw [← hW3]; exact Blk.new _ _ _
  have hz := (show Blk W3 w.heap.size 43 zero15 by rw [← hW3]; exact hz.up (Up.alloc' _ _))
  have hbe := (show Below w.heap.size w W3 by rw [← hW3]; exact hbe.alloc hbe.size _)
  have HW3 := Lib.hid hW3
  clear hW3
  go_upto_region 2 with fail
  have HW3' := HW3.out
  unfold opC at HW3'
  simp only [hov, List.length_nil] at HW3'
  simp only [HW3']
  clear HW3 HW3'
  go_wp2_with fail
  refine (kI _ (h.below hbe)).mono ?_
  rintro e w4 ⟨rfl, rfl⟩
  clear kI
  go_wp2_with fail
  refine (kW _).mono ?_
  rintro e w4 ⟨rfl, rfl⟩
  clear kW
  go_wp2_with fail
  refine (k2 _ (h.below hbe)).mono ?_
  rintro e w5 ⟨AL, cL, rfl, hown, hb5⟩
  have hz := hz.up (Up.of hb5)
  have hbe := stepB hbe hb5
  clear k2 hown hb5
  go_upto_region 11 with fail
  refine wp_region_lit ?_
  refine wpList_plain rfl fun K hK => ?_
  go_simp
  refine hK _ _ ?_
  clear hK K
  refine wpList_plain rfl fun K hK => ?_
  go_simp
  refine hK _ _ ?_
  clear hK K
  refine wpList_storeRow rfl _ _ _ rfl w.heap.size _ zero15 (opC OP.zero none 0).toArray (by go_simp) (by go_simp; first | done | rfl) hz (by kernel_rfl) rfl (opC_one _ _ _) ?_
  intro W hzW gW
  have hbW := hbe.grown gW hbe.size (fun k e => by cases e; omega)
  go_wp2_with fail
  refine bodyPost_ret (results_row (g := w.heap.size) (u := .int .i64 E) rfl (by go_simp) (by go_simp) (load_row hzW Tryz.underlying43 rfl (by kernel_rfl))) rfl ?_
  exact ⟨none, 0, by rw [hFR.out, HFE.out]; rfl, by rw [hFR.out]; exact Own.nil _ _ _ _, hbW⟩
 obtain ⟨L, hL, h2L⟩ := tkS_ok h6 e8
 rw [hn2, e6] at hL
 have hLn : L.length = 2 * n := by have := rdM_len l (2 * n) (fQ5 l).1 (by rw [hL]); rw [hL] at this; exact this
 have k2 := k2 _ hL
 have HS : Hid ((fS l).1 = two L) := h2L.symm
 have hQ8 : Hid (fQ8 l = if (fS l).2.1 < l.length then ((fS l).2.1, 3) else (fS l).2) := by rw [Hid, fQ8]; simp only [e8, true_and]
 have hqS : Qok l (fS l).2 := sGo_ok _ (by rw [e6]; exact q5)
 have hBD : Hid (fO l).Bd := fO_bd l hl
 have hE : Hid (fE l = orE (fQ8 l).2 (checkE (fO l))) := rfl
 have hS2 : Hid ((fS l).2.2 = 0) := e8
 rw [hn] at kI kW
 clear e4 e5 hT4 hbo e6 hN h6 e8 hn hn2 hL h2L q4 q5
 have hFR0 : Hid (fR l = if fE l = 0 then fO l else OP.zero) := rfl
 generalize bdO l = ob at *
 generalize (fQ4 l).1 = a4 at *
 generalize (fQ5 l).1 = a5 at *
 generalize (fS l).2.1 = aS at *
 obtain ⟨st0, hst, hj0, hj1, hj2⟩ := info_parts info_st
 go_enter Tryz.func31, Tryz.ntmps31
 go_wp2_with fail
 have HW0' := HW0.out
 simp only [zero15, opC, OP.zero] at HW0'
 simp only [List.length_nil] at HW0'
 simp only [HW0']
 clear HW0 HW0'
 refine (kB _ (h.below hb0)).mono ?_
 rintro e w2 ⟨rfl, hb2⟩
 have hz := hz0.up (Up.of hb2)
 have hbe := stepB hb0 hb2
 have hlt2 : w.heap.size < w2.heap.size := Nat.lt_of_lt_of_le hs0 hb2.size
 clear kB hz0 hb0 hb2 hs0
 obtain ⟨W3, hW3⟩ : ∃ x, w2.alloc (.cells (opC ob none 0).toArray 43) = x := ⟨_, rfl⟩
 have hob : Blk W3 w2.heap.size 43 (opC ob none 0).toArray := by rw [← hW3]; exact Blk.new _ _ _
 have hz := (show Blk W3 w.heap.size 43 zero15 by rw [← hW3]; exact hz.up (Up.alloc' _ _))
 have hbe := (show Below w.heap.size w W3 by rw [← hW3]; exact hbe.alloc hbe.size _)
 have HW3 := Lib.hid hW3
 clear hW3
 go_upto_region 2 with fail
 have HW3' := HW3.out
 unfold opC at HW3'
 simp only [hov, List.length_nil] at HW3'
 simp only [HW3']
 clear HW3 HW3'
 go_wp2_with fail
 refine (kI _ (h.below hbe)).mono ?_
 rintro e w4 ⟨rfl, rfl⟩
 clear kI
 go_wp2_with fail
 refine (kW _).mono ?_
 rintro e w4 ⟨rfl, rfl⟩
 clear kW
 go_wp2_with fail
 refine (k2 _ (h.below hbe)).mono ?_
 rintro e w5 ⟨AL, cL, rfl, hown, hb5⟩
 have hz5 := hz.up (Up.of hb5)
 have hob5 := hob.up (Up.of hb5)
 have hbe5 := stepB hbe hb5
 have hgeL : L ≠ [] → ∃ bL, AL = some ⟨bL, 0, none⟩ ∧ w2.heap.size < bL ∧ bL < w5.heap.size := by
  intro hne
  obtain ⟨bL, e1, e2, e3, -⟩ := hown.slot (List.length_pos_iff.2 hne)
  exact ⟨bL, e1, Nat.lt_of_lt_of_le (Blk.lt hob) e2, e3⟩
 have hRL := hown.rd'
 have hBz := Blk.lt hob5
 clear k2 hown hb5 hz hbe hob
 have HgL := Lib.hid hgeL
 clear hgeL
 dsimp only at *
 rw [hLn]
 go_wp2_with fail
 go_loopw [9] (RFromRel w w2.heap.size w5.heap.size AL L n ob) (fun i _ => n - (intOf i).toNat)
 case atStart =>
  refine ⟨0, [], none, 0, rfl, by omega, rfl, rfl, ?_, hz5, Own.nil _ _ _ _, hRL, hbe5, Nat.le_refl _⟩
  rw [show ({ ob with ov := [] } : OP) = ob by rw [← hov]]
  exact hob5
 case round =>
  clear hRL hob5 hz5 hbe5
  obtain ⟨i, acc, Ao, co, rfl, hi, hA, ha, hob, hz, hown, hRL, hbe, hbs⟩ := hrel
  by_cases hlt : i < n
  ·have t1 : decide ((i : Int) < (n : Int)) = true := decide_eq_true (by omega)
   have hne : L ≠ [] := by intro e; rw [e] at hLn; simp at hLn; omega
   obtain ⟨bL, rfl, hg1, hg2⟩ := HgL.out hne
   obtain ⟨_, _, e1, _, hx0⟩ := hRL.at64 (k := 2 * i) (by omega)
   cases e1
   obtain ⟨_, _, e1, _, hy0⟩ := hRL.at64 (k := 2 * i + 1) (by omega)
   cases e1
   rw [Nat.zero_add] at hx0 hy0
   have HN := Lib.hid (two_next i L (by omega))
   generalize L[2 * i] = x at *
   generalize L[2 * i + 1] = y at *
   have d14 : wr.cell? ⟨w2.heap.size, 14, none⟩ = some (.slice Ao acc.length co) := (blk_opAt hob).2.2.2.2.2
   have g14 := hob.free 14
   have hzr := Blk.lt hob
   have d14a : (wr.alloc (.cells #[.int .i64 x, .int .i64 y] 36)).cell? ⟨w2.heap.size, 14, none⟩ = some (.slice Ao acc.length co) := (blk_opAt (hob.up (Up.alloc' _ _))).2.2.2.2.2
   have hi1 : i + 1 ≤ n := hlt
   have b0 : (0 : Int) ≤ 2 * (i : Int) := by omega
   have b1 : 2 * (i : Int) < ((2 * n : Nat) : Int) := by omega
   have b2 : (0 : Int) ≤ 2 * (i : Int) + 1 := by omega
   have b3 : 2 * (i : Int) + 1 < ((2 * n : Nat) : Int) := by omega
   have b1' : 2 * (i : Int) < 2 * (n : Int) := by omega
   have b3' : 2 * (i : Int) + 1 < 2 * (n : Int) := by omega
   have b4 : IntKind.i64.wrap (2 * (i : Int)) = 2 * (i : Int) := IntWalk.i64_in _ (by omega)
   have b5 : IntKind.i64.wrap (2 * (i : Int) + 1) = 2 * (i : Int) + 1 := IntWalk.i64_in _ (by omega)
   have b6 : (2 * (i : Int)).toNat = 2 * i := by omega
   have b7 : (2 * (i : Int) + 1).toNat = 2 * i + 1 := by omega
   go_upto_region 15 with fail
   refine wp_region_noPanic ?_
   refine wp_region_held_drew (S := fun w' => w'.cell? ⟨bL, 2 * i, none⟩ = some (.int .i64 x) ∧ w'.cell? ⟨bL, 2 * i + 1, none⟩ = some (.int .i64 y)) (by kernel_rfl) ⟨hx0, hy0⟩ (fun hHeld => ?_)
   refine tk 0 53 (v := ?_) ?_ ?_
   rotate_left
   ·intro w' hSw; obtain ⟨hS1, hS2⟩ := hSw; go_simp; try (with_reducible rfl)
   try simp only [tkA, tkB, tkC]
   refine tk 2 55 (v := ?_) ?_ ?_
   rotate_left
   ·intro w' hSw; obtain ⟨hS1, hS2⟩ := hSw; go_simp; try (with_reducible rfl)
   try simp only [tkA, tkB, tkC]
   refine tk 3 56 (v := ?_) ?_ ?_
   rotate_left
   ·intro w' hSw; obtain ⟨hS1, hS2⟩ := hSw; go_simp; try (with_reducible rfl)
   try simp only [tkA, tkB, tkC]
   refine tk 4 57 (v := ?_) ?_ ?_
   rotate_left
   ·intro w' hSw; obtain ⟨hS1, hS2⟩ := hSw; go_simp; try (with_reducible rfl)
   try simp only [tkA, tkB, tkC]
   refine tk 5 58 (v := ?_) ?_ ?_
   rotate_left
   ·intro w' hSw; obtain ⟨hS1, hS2⟩ := hSw; go_simp; try (with_reducible rfl)
   try simp only [tkA, tkB, tkC]
   refine tk 6 59 (v := ?_) ?_ ?_
   rotate_left
   ·intro w' hSw; obtain ⟨hS1, hS2⟩ := hSw; go_simp; try (with_reducible rfl)
   try simp only [tkA, tkB, tkC]
   refine tk 7 60 (v := ?_) ?_ ?_
   rotate_left
   ·intro w' hSw; obtain ⟨hS1, hS2⟩ := hSw; go_simp; try (with_reducible rfl)
   try simp only [tkA, tkB, tkC]
   refine tk 8 61 (v := ?_) ?_ ?_
   rotate_left
   ·intro w' hSw; obtain ⟨hS1, hS2⟩ := hSw; go_simp; try (with_reducible rfl)
   try simp only [tkA, tkB, tkC]
   refine tk 9 62 (v := ?_) ?_ ?_
   rotate_left
   ·intro w' hSw; obtain ⟨hS1, hS2⟩ := hSw; go_simp; try (with_reducible rfl)
   try simp only [tkA, tkB, tkC]
   refine tk 10 63 (v := ?_) ?_ ?_
   rotate_left
   ·intro w' hSw; obtain ⟨hS1, hS2⟩ := hSw; go_simp; try (with_reducible rfl)
   try simp only [tkA, tkB, tkC]
   refine tk 11 64 (v := ?_) ?_ ?_
   rotate_left
   ·intro w' hSw; obtain ⟨hS1, hS2⟩ := hSw; go_simp; try (with_reducible rfl)
   try simp only [tkA, tkB, tkC]
   refine tk 12 65 (v := ?_) ?_ ?_
   rotate_left
   ·intro w' hSw; obtain ⟨hS1, hS2⟩ := hSw; go_simp; try (with_reducible rfl)
   try simp only [tkA, tkB, tkC]
   refine tk 13 66 (v := ?_) ?_ ?_
   rotate_left
   ·intro w' hSw; obtain ⟨hS1, hS2⟩ := hSw; go_simp; try (with_reducible rfl)
   try simp only [tkA, tkB, tkC]
   have hx1 : (wr.alloc (.cells #[.int .i64 x, .int .i64 y] 36)).cell? ⟨bL, 2 * i, none⟩ = some (.int .i64 x) := (Up.alloc' _ _).cell hx0
   have hy1 : (wr.alloc (.cells #[.int .i64 x, .int .i64 y] 36)).cell? ⟨bL, 2 * i + 1, none⟩ = some (.int .i64 y) := (Up.alloc' _ _).cell hy0
   have hobA := hob.up (Up.alloc' wr (.cells #[.int .i64 x, .int .i64 y] 36))
   have hzA := hz.up (Up.alloc' wr (.cells #[.int .i64 x, .int .i64 y] 36))
   have hbeA := hbe.alloc hbe.size (.cells #[.int .i64 x, .int .i64 y] 36)
   have hRLA := hRL.alloc (.cells #[.int .i64 x, .int .i64 y] 36)
   have fB := ne_row (Own.farRow hown hBz)
   have fH := ne_row (Own.farRow hown (show w.heap.size < w5.heap.size by omega))
   have fL := ne_row (Own.farRow hown hg2)
   refine wpAnyH_ready (rs := [1, 14]) (by kernel_rfl) (by simp) ?_
   refine AllReadyH.cons rfl (fun K hK => ?_) (AllReadyH.cons rfl (fun K hK => ?_) AllReadyH.nil)
   ·go_simp
    refine hK.out _ _ hHeld (fun hHeld => ?_)
    clear hK K
    refine wpAnyH_ready (rs := [14]) (by kernel_rfl) (by simp) ?_
    refine AllReadyH.cons rfl (fun K hK => ?_) AllReadyH.nil
    go_simp
    refine hK.out _ _ ⟨hx1, hy1⟩ (fun hHeld => ?_)
    clear hK K
    refine wpAnyH_ready (rs := [15]) (by kernel_rfl) (by simp) ?_
    refine AllReadyH.cons rfl (fun K hK => ?_) AllReadyH.nil
    rw [if_pos (by rfl)]
    refine wp_append_Own _ (.tmp 54) (.tmp 67) 41 rfl w5.heap.size 36 st0 _ 2 16 Tryz.underlying41 hst hj0 hj1 hj2 rfl (by omega) (.slice Ao acc.length co) acc.length (ovL acc) (by go_simp) (hown.drew.alloc _) (some ⟨wr.heap.size, 0, none⟩) 1 1 [.int .i64 x, .int .i64 y] rfl rfl (Rd.new _ _ _ _) (by intro u hu; simp at hu; rcases hu with rfl | rfl <;> rfl) (by simp only [maxLen]; omega) (by omega) (by simp; omega) ?_
    intro v9 W9 hown9 gr9 hb9 hat9
    have gr9 := (show World.grownBy (wr.alloc (.cells #[.int .i64 x, .int .i64 y] 36)) W9 _ from World.grownBy.trans (grown_drewN _ 1 _) gr9)
    have hob9 := hobA.kept gr9 fB
    have hz9 := hzA.kept gr9 fH
    have hx9 : W9.cell? ⟨bL, 2 * i, none⟩ = some (.int .i64 x) := gr9.cell hx1 fL
    have hy9 : W9.cell? ⟨bL, 2 * i + 1, none⟩ = some (.int .i64 y) := gr9.cell hy1 fL
    have hRL9 : Rd W9 (some ⟨bL, 0, none⟩) (L.map I64) := by
     intro hl'
     obtain ⟨b', off', e', hb', hc'⟩ := hRLA hl'
     cases e'
     exact ⟨bL, 0, rfl, Nat.lt_of_lt_of_le hb' gr9.size, fun j u hu => gr9.cell (hc' j u hu) fL⟩
    have hbe9 := hbeA.grown gr9 hbeA.size (fun k hk => Nat.le_trans (by omega) (hown.lt k hk).1)
    obtain ⟨A9, c9, hv9, hc9, hr9⟩ := hown9.rd
    subst hv9
    have e14 : W9.cell? ⟨w2.heap.size, 14, none⟩ = some (.slice Ao acc.length co) := (blk_opAt hob9).2.2.2.2.2
    have g14 := hob9.free 14
    have eL : (acc ++ [(x, y)]).length = i + 1 := by rw [List.length_append, ha]; rfl
    rw [ha] at hown9
    have F10 : Blk (W9.setCell ⟨w2.heap.size, 14, none⟩ (.slice A9 (i + 1) c9)) w2.heap.size 43 (opC { ob with ov := acc ++ [(x, y)] } A9 c9).toArray := by
     have := hob9.set 14 (.slice A9 (acc ++ [(x, y)]).length c9)
     rw [eL] at this
     unfold opC
     dsimp only
     rw [eL]
     exact this
    have gS := grown_set W9 w2.heap.size 14 (.slice A9 (i + 1) c9)
    have z10 := hz9.kept gS (by simp; omega)
    have o10 := Own.kept hown9 gS (Own.farRow hown9 hBz)
    have be10 := hbe9.grown gS hbe9.size (fun k hk => by cases hk; omega)
    have x10 := gS.cell hx9 (by simp; omega)
    have y10 := gS.cell hy9 (by simp; omega)
    have hRL10 : Rd (W9.setCell ⟨w2.heap.size, 14, none⟩ (.slice A9 (i + 1) c9)) (some ⟨bL, 0, none⟩) (L.map I64) := by
     intro hl'
     obtain ⟨b', off', e', hb', hc'⟩ := hRL9 hl'
     cases e'
     exact ⟨bL, 0, rfl, Nat.lt_of_lt_of_le hb' gS.size, fun j u hu => gS.cell (hc' j u hu) (by simp; omega)⟩
    have zz : w5.heap.size ≤ (W9.setCell ⟨w2.heap.size, 14, none⟩ (.slice A9 (i + 1) c9)).heap.size := sz_set (Nat.le_trans hbs (Nat.le_trans (by simp) gr9.size))
    refine hK.out _ _ ⟨hx9, hy9⟩ (fun hHeld => ?_)
    clear hK K
    refine tk 16 69 (v := ?_) ?_ ?_
    rotate_left
    ·intro w' hSw; clear hSw; go_simp; try (with_reducible rfl)
    try simp only [tkA, tkB, tkC]
    refine wpAnyH_ready (rs := [17]) (by kernel_rfl) (by simp) ?_
    refine AllReadyH.cons rfl (fun K hK => ?_) AllReadyH.nil
    go_simp
    refine hK.out _ _ ⟨x10, y10⟩ (fun hHeld => ?_)
    clear hK K
    refine wpAnyH_done (by kernel_rfl) ?_ _
    refine NoPanic.normal ?_
    clear hHeld
    go_wp2_with fail
    have HA' : Hid (acc ++ [(x, y)] = two (L.take (2 * (i + 1)))) := by rw [Hid, HN.out, hA.out]
    refine ⟨⟨i + 1, acc ++ [(x, y)], A9, c9, by go_num, hi1, HA', eL, F10, z10, ?_, hRL10, be10, zz⟩, by simp [intOf]; omega⟩
    rw [eL, ovL_append]
    exact o10
   ·go_simp
    refine hK.out _ _ ⟨hx1, hy1⟩ (fun hHeld => ?_)
    clear hK K
    refine wpAnyH_ready (rs := [1]) (by kernel_rfl) (by simp) ?_
    refine AllReadyH.cons rfl (fun K hK => ?_) AllReadyH.nil
    go_simp
    refine hK.out _ _ hHeld (fun hHeld => ?_)
    clear hK K
    refine wpAnyH_ready (rs := [15]) (by kernel_rfl) (by simp) ?_
    refine AllReadyH.cons rfl (fun K hK => ?_) AllReadyH.nil
    rw [if_pos (by rfl)]
    refine wp_append_Own _ (.tmp 54) (.tmp 67) 41 rfl w5.heap.size 36 st0 _ 2 16 Tryz.underlying41 hst hj0 hj1 hj2 rfl (by omega) (.slice Ao acc.length co) acc.length (ovL acc) (by go_simp) (hown.drew.alloc _) (some ⟨wr.heap.size, 0, none⟩) 1 1 [.int .i64 x, .int .i64 y] rfl rfl (Rd.new _ _ _ _) (by intro u hu; simp at hu; rcases hu with rfl | rfl <;> rfl) (by simp only [maxLen]; omega) (by omega) (by simp; omega) ?_
    intro v9 W9 hown9 gr9 hb9 hat9
    have gr9 := (show World.grownBy (wr.alloc (.cells #[.int .i64 x, .int .i64 y] 36)) W9 _ from World.grownBy.trans (grown_drewN _ 1 _) gr9)
    have hob9 := hobA.kept gr9 fB
    have hz9 := hzA.kept gr9 fH
    have hx9 : W9.cell? ⟨bL, 2 * i, none⟩ = some (.int .i64 x) := gr9.cell hx1 fL
    have hy9 : W9.cell? ⟨bL, 2 * i + 1, none⟩ = some (.int .i64 y) := gr9.cell hy1 fL
    have hRL9 : Rd W9 (some ⟨bL, 0, none⟩) (L.map I64) := by
     intro hl'
     obtain ⟨b', off', e', hb', hc'⟩ := hRLA hl'
     cases e'
     exact ⟨bL, 0, rfl, Nat.lt_of_lt_of_le hb' gr9.size, fun j u hu => gr9.cell (hc' j u hu) fL⟩
    have hbe9 := hbeA.grown gr9 hbeA.size (fun k hk => Nat.le_trans (by omega) (hown.lt k hk).1)
    obtain ⟨A9, c9, hv9, hc9, hr9⟩ := hown9.rd
    subst hv9
    have e14 : W9.cell? ⟨w2.heap.size, 14, none⟩ = some (.slice Ao acc.length co) := (blk_opAt hob9).2.2.2.2.2
    have g14 := hob9.free 14
    have eL : (acc ++ [(x, y)]).length = i + 1 := by rw [List.length_append, ha]; rfl
    rw [ha] at hown9
    have F10 : Blk (W9.setCell ⟨w2.heap.size, 14, none⟩ (.slice A9 (i + 1) c9)) w2.heap.size 43 (opC { ob with ov := acc ++ [(x, y)] } A9 c9).toArray := by
     have := hob9.set 14 (.slice A9 (acc ++ [(x, y)]).length c9)
     rw [eL] at this
     unfold opC
     dsimp only
     rw [eL]
     exact this
    have gS := grown_set W9 w2.heap.size 14 (.slice A9 (i + 1) c9)
    have z10 := hz9.kept gS (by simp; omega)
    have o10 := Own.kept hown9 gS (Own.farRow hown9 hBz)
    have be10 := hbe9.grown gS hbe9.size (fun k hk => by cases hk; omega)
    have x10 := gS.cell hx9 (by simp; omega)
    have y10 := gS.cell hy9 (by simp; omega)
    have hRL10 : Rd (W9.setCell ⟨w2.heap.size, 14, none⟩ (.slice A9 (i + 1) c9)) (some ⟨bL, 0, none⟩) (L.map I64) := by
     intro hl'
     obtain ⟨b', off', e', hb', hc'⟩ := hRL9 hl'
     cases e'
     exact ⟨bL, 0, rfl, Nat.lt_of_lt_of_le hb' gS.size, fun j u hu => gS.cell (hc' j u hu) (by simp; omega)⟩
    have zz : w5.heap.size ≤ (W9.setCell ⟨w2.heap.size, 14, none⟩ (.slice A9 (i + 1) c9)).heap.size := sz_set (Nat.le_trans hbs (Nat.le_trans (by simp) gr9.size))
    refine hK.out _ _ ⟨hx9, hy9⟩ (fun hHeld => ?_)
    clear hK K
    refine tk 16 69 (v := ?_) ?_ ?_
    rotate_left
    ·intro w' hSw; clear hSw; go_simp; try (with_reducible rfl)
    try simp only [tkA, tkB, tkC]
    refine wpAnyH_ready (rs := [17]) (by kernel_rfl) (by simp) ?_
    refine AllReadyH.cons rfl (fun K hK => ?_) AllReadyH.nil
    go_simp
    refine hK.out _ _ ⟨x10, y10⟩ (fun hHeld => ?_)
    clear hK K
    refine wpAnyH_done (by kernel_rfl) ?_ _
    refine NoPanic.normal ?_
    clear hHeld
    go_wp2_with fail
    have HA' : Hid (acc ++ [(x, y)] = two (L.take (2 * (i + 1)))) := by rw [Hid, HN.out, hA.out]
    refine ⟨⟨i + 1, acc ++ [(x, y)], A9, c9, by go_num, hi1, HA', eL, F10, z10, ?_, hRL10, be10, zz⟩, by simp [intOf]; omega⟩
    rw [eL, ovL_append]
    exact o10
  ·obtain rfl : i = n := by omega
   have t1 : decide ((i : Int) < (i : Int)) = false := by simp
   have hA2 : Hid (acc = (fS l).1) := by rw [Hid, hA.out, HS.out, ← hLn, List.take_length]
   have hO : Hid (fO l = { ob with ov := acc }) := by rw [Hid, HO.out, hA2.out]
   obtain ⟨Ao', co', hv', hcO, hrO⟩ := hown.rd
   injection hv' with e1' _ e3'
   subst e1' e3'
   have hBD2 : Hid (({ ob with ov := acc } : OP).Bd) := by rw [Hid, ← hO.out]; exact hBD.out
   have hAo : ∀ b' off', Ao = some ⟨b', off', none⟩ → ovL acc ≠ [] → w.heap.size < b' := by
    intro b' off' e' hne
    have hpos : 0 < acc.length := by
     rcases acc with _ | ⟨q, acc⟩
     ·exact absurd rfl hne
     ·simp
    obtain ⟨g, e1, e2, _⟩ := hown.slot hpos
    rw [e'] at e1
    cases e1
    omega
   have HAo := Lib.hid hAo
   clear hAo
   have HA3 := Lib.hid ha
   clear ha
   clear hA HgL hRL HS HO hA2 hBD
   by_cases h8 : aS < l.length
   ·have t2 : decide (aS < (l.length : Int)) = true := decide_eq_true h8
    have hE3 : fE l = 3 := by rw [hE.out, hQ8.out, if_pos h8]; rfl
    have hFR : Hid (fR l = OP.zero) := fR_err (by rw [hE3]; decide)
    have HFE : Hid (fE l = 3) := hE3
    clear h8 hE3 hE hQ8 hFR0 hO hown hBD2
    go_upto_region 17 with fail
    refine wp_region_lit ?_
    refine wpList_plain rfl fun K hK => ?_
    go_simp
    refine hK _ _ ?_
    clear hK K
    refine wpList_storeRow rfl _ _ _ rfl w.heap.size _ zero15 (opC OP.zero none 0).toArray (by go_simp) (by go_simp; first | done | rfl) hz (by kernel_rfl) rfl (opC_one _ _ _) ?_
    intro W hzW gW
    have hbW := hbe.grown gW hbe.size (fun k e => by cases e; omega)
    go_wp2_with fail
    refine bodyPost_ret (results_row (g := w.heap.size) (u := .int .i64 3) rfl (by go_simp) (by go_simp) (load_row hzW Tryz.underlying43 rfl (by kernel_rfl))) rfl ?_
    exact ⟨none, 0, by rw [hFR.out, HFE.out]; rfl, by rw [hFR.out]; exact Own.nil _ _ _ _, hbW⟩
   ·have t2 : decide (aS < (l.length : Int)) = false := decide_eq_false h8
    have hEC : Hid (fE l = checkE { ob with ov := acc }) := by rw [Hid, hE.out, hQ8.out, if_neg h8, hO.out]; unfold orE; rw [if_pos hS2.out]
    have kC := fun w' (u : Up wr w') => rcheck_any w' { ob with ov := acc } Ao co hBD2.out (u.rd hrO) hcO
    unfold opV opC at kC
    dsimp only at kC
    obtain ⟨⟨m0, m1, m2, m3⟩, ⟨m4, m5, m6, m7, m8, m9, m10⟩, ⟨m11, m12, m13, m14⟩⟩ := blk_opAt hob
    dsimp only at m0 m1 m2 m3 m4 m5 m6 m7 m8 m9 m10 m11 m12 m13 m14
    clear h8 hE hQ8 hBD2
    generalize checkE { ob with ov := acc } = CE at *
    go_wp2_with fail
    refine (kC _ (Up.refl _)).mono ?_
    rintro e w7 ⟨rfl, hb7⟩
    have hu7 := Up.of hb7
    have hz := hz.up hu7
    have hob := hob.up hu7
    have hbe := stepB hbe hb7
    have hrO := hu7.rd hrO
    have hown := hown.below (B := 0) hb7
    clear kC hb7 m0 m1 m2 m3 m4 m5 m6 m7 m8 m9 m10 m11 m12 m13 m14 hu7
    by_cases hc0 : CE = 0
    ·have t3 : (CE != 0) = false := by simpa using hc0
     have hFR : Hid (fR l = { ob with ov := acc }) := by rw [Hid, hFR0.out, if_pos (hEC.out.trans hc0), hO.out]
     have HFE : Hid (fE l = 0) := hEC.out.trans hc0
     clear hFR0 hEC hO hc0
     go_upto_region 21 with fail
     refine wp_region_lit ?_
     refine wpList_loadRow rfl _ _ rfl w2.heap.size _ _ _ (by go_simp) hob Tryz.underlying43 rfl (by kernel_rfl) ?_
     refine wpList_storeRow rfl _ _ _ rfl w.heap.size _ zero15 (opC { ob with ov := acc } Ao co).toArray (by go_simp) (by go_simp) hz (by kernel_rfl) rfl (opC_one _ _ _) ?_
     intro W hzW gW
     have hbW := hbe.grown gW hbe.size (fun k e => by cases e; omega)
     have hrW : Rd W Ao (ovL acc) := hrO.far gW (by
      intro hl' b' off' e' 
      have := HAo.out b' off' e' hl'
      omega)
     go_wp2_with fail
     refine bodyPost_ret (results_row (g := w.heap.size) (u := .int .i64 0) rfl (by go_simp) (by go_simp) (load_row hzW Tryz.underlying43 rfl (by kernel_rfl))) rfl ?_
     exact ⟨Ao, co, by rw [hFR.out, HFE.out]; rfl, by rw [hFR.out]; exact (Own.kept hown gW (Own.farRow hown (by omega))).lower (by omega), hbW⟩
    ·have t3 : (CE != 0) = true := by simpa using hc0
     have hFR : Hid (fR l = OP.zero) := fR_err (by rw [hEC.out]; exact hc0)
     have HFE : Hid (fE l = CE) := hEC.out
     clear hFR0 hEC hO hc0
     go_upto_region 20 with fail
     refine wp_region_lit ?_
     refine wpList_plain rfl fun K hK => ?_
     go_simp
     refine hK _ _ ?_
     clear hK K
     refine wpList_plain rfl fun K hK => ?_
     go_simp
     refine hK _ _ ?_
     clear hK K
     refine wpList_storeRow rfl _ _ _ rfl w.heap.size _ zero15 (opC OP.zero none 0).toArray (by go_simp) (by go_simp; first | done | rfl) hz (by kernel_rfl) rfl (opC_one _ _ _) ?_
     intro W hzW gW
     have hbW := hbe.grown gW hbe.size (fun k e => by cases e; omega)
     go_wp2_with fail
     refine bodyPost_ret (results_row (g := w.heap.size) (u := .int .i64 CE) rfl (by go_simp) (by go_simp) (load_row hzW Tryz.underlying43 rfl (by kernel_rfl))) rfl ?_
     exact ⟨none, 0, by rw [hFR.out, HFE.out]; rfl, by rw [hFR.out]; exact Own.nil _ _ _ _, hbW⟩
end Go.Proofs.YtcomeidcmcegfaaGreatDoor
