/-
  How a list of operations among the arguments is opened, and how it is read. Conditions: none.
  The plain functions of layer 53 (journal): entries, what Write returns, what Read reads. Conditions: none; no program in sight.
  The walks of Entry of layer 53 and of the reference. Conditions: the operation reads as its type says; utf8's tables lie as their initialisers lay them.
  The walks of Write of layer 53 and of the reference. Conditions: at most two million operations; utf8's tables lie as their initialisers lay them.
-/
import Derived.Test.YtcomeidcmcegfaaGreatDoorZE
import Derived.Test.YtcomeidcmcegfaaGreatDoorZF
import Derived.Deep.MidRow
import Derived.Test.YtcomeidcmcegfaaGreatDoorZH
import Derived.Test.YtcomeidcmcegfaaGreatDoorZI
import Derived.Test.YtcomeidcmcegfaaGreatDoorZK
namespace Go.Proofs.YtcomeidcmcegfaaGreatDoor
open Go.RowKit Go.ChangeShapes Go.WideShapes
set_option linter.unusedVariables false
theorem OX.cs_len (x : OX) : x.cs.length = 15 := rfl
def opsC (xs : List OX) : List Value := xs.flatMap OX.cs
theorem OX.Ok.below {w w' : World} {x : OX} (h : x.Ok w) (hb : Below w.heap.size w w') : x.Ok w' := ⟨h.bd, h.rd.below hb, h.cap⟩
structure OpsRd (w : World) (A : Option Addr) (xs : List OX) : Prop where
 rd : Rd w A (opsC xs)
 ok : ∀ x ∈ xs, x.Ok w
theorem OpsRd.below {w w' : World} {A : Option Addr} {xs : List OX} (h : OpsRd w A xs) (hb : Below w.heap.size w w') : OpsRd w' A xs := ⟨h.rd.below hb, fun x hx => (h.ok x hx).below hb⟩
theorem OpsRd.nil (w : World) (A : Option Addr) : OpsRd w A [] := ⟨Rd.nil _ _, by intro x hx; cases hx⟩
theorem opsC_at (xs : List OX) (k : Nat) (hk : k < xs.length) (j : Nat) (hj : j < 15) : (opsC xs)[k * 15 + j]? = xs[k].cs[j]? := by
 induction xs generalizing k with
 | nil => simp at hk
 | cons x xs ih =>
  have e : opsC (x :: xs) = x.cs ++ opsC xs := rfl
  rcases k with _ | k
  ·rw [e, Nat.zero_mul, Nat.zero_add, List.getElem?_append_left (by rw [OX.cs_len]; exact hj)]; rfl
  ·have := ih k (by simpa using hk)
   rw [e, List.getElem?_append_right (by rw [OX.cs_len]; omega), OX.cs_len, show (k + 1) * 15 + j - 15 = k * 15 + j by omega, this]; rfl
theorem OpsRd.range {w : World} {A : Option Addr} {xs : List OX} (h : OpsRd w A xs) {k : Nat} (hk : k < xs.length) :
 ∃ b off, A = some ⟨b, off, none⟩ ∧ b < w.heap.size ∧ w.rangeAt b (off + k * 15) xs[k].cs := by
 have hne : opsC xs ≠ [] := by
  intro e
  have := opsC_at xs k hk 0 (by omega)
  rw [e] at this
  simp [OX.cs, opC] at this
 obtain ⟨b, off, e, hb, hc⟩ := h.rd hne
 refine ⟨b, off, e, hb, fun j v hv => ?_⟩
 have hj : j < 15 := by have := (List.getElem?_eq_some_iff.1 hv).1; rw [OX.cs_len] at this; exact this
 rw [Nat.add_assoc]
 exact hc _ _ ((opsC_at xs k hk j hj).trans hv)
section
variable {H : Type} {enc : TypeId × Value → H} {W : World} {base : Nat} {r : Reach} {b0 : Nat} {v : Value} {d : DataW H} {p : List MemPlace}
end
end Go.Proofs.YtcomeidcmcegfaaGreatDoor
namespace Go.Proofs.YtcomeidcmcegfaaGreatDoor
open Go.RowKit Go.Lib
set_option linter.unusedVariables false
theorem flat_enc_len (l : List Int) : (l.flatMap enc).length ≤ 10 * l.length := by
 have := flat_len enc 10 (fun n => (enc_length n).2) l; omega
theorem opB_size {o : OP} (h : checkE o = 0) : (opB o).length ≤ 1000 := by
 obtain ⟨h1, h2, h3⟩ := check_size h
 have e : (opB o).length = ((ints10 o).flatMap enc).length + ((encT o.nt).length + ((enc o.se).length + ((enc o.nn).length + ((encT o.tx).length + ((enc o.ov.length).length + (ovEnc o.ov).length))))) := by
  rw [opB_eq]; simp only [List.length_append]
 have e1 := flat_enc_len (ints10 o)
 have e2 := flat_len (fun p : Int × Int => enc p.1 ++ enc p.2) 20 (fun p => by rw [List.length_append]; have := (enc_length p.1).2; have := (enc_length p.2).2; omega) o.ov
 have e3 : (ints10 o).length = 10 := rfl
 have e4 := encT_length o.nt
 have e5 := encT_length o.tx
 have e6 := (enc_length o.se).2
 have e7 := (enc_length o.nn).2
 have e8 := (enc_length (o.ov.length : Int)).2
 have e9 : (ovEnc o.ov).length = (o.ov.flatMap fun p : Int × Int => enc p.1 ++ enc p.2).length := rfl
 omega
def entB (o : OP) : List UInt8 := if checkE o = 0 then fseal 1 (opB o) else []
theorem entB_ok {o : OP} (h : checkE o = 0) : entB o = fseal 1 (opB o) ∧ (entB o).length ≤ 1020 ∧ slB 1 (opB o) = entB o ∧ slE 1 (opB o).length = 0 := by
 have hs := opB_size h
 have e1 : entB o = fseal 1 (opB o) := by unfold entB; rw [if_pos h]
 have e2 : slE 1 (opB o).length = 0 := by unfold slE; rw [if_neg (by omega), if_neg (by omega)]
 refine ⟨e1, ?_, by unfold slB; rw [if_pos e2, e1], e2⟩
 rw [e1, fseal_length]
 have := (enc_length ((opB o).length : Int)).2
 omega
theorem entB_err {o : OP} (h : checkE o ≠ 0) : entB o = [] := by unfold entB; rw [if_neg h]
theorem entB_len (o : OP) : (entB o).length ≤ 1020 := by
 by_cases h : checkE o = 0
 ·exact (entB_ok h).2.1
 ·rw [entB_err h]; simp
def fstE : List OP → Int
 | [] => 0
 | o :: l => if checkE o = 0 then fstE l else checkE o
def catE (l : List OP) : List UInt8 := l.flatMap entB
def wrtE (l : List OP) : Int := if fstE l = 0 then (if 1048576 < (catE l).length then 5 else 0) else fstE l
def wrtB (l : List OP) : List UInt8 := if wrtE l = 0 then catE l else []
theorem fstE_drop {l : List OP} {k : Nat} (hk : k < l.length) : fstE (l.drop k) = if checkE l[k] = 0 then fstE (l.drop (k + 1)) else checkE l[k] := by
 rw [List.drop_eq_getElem_cons hk, fstE]
theorem catE_next (l : List OP) (k : Nat) (hk : k < l.length) : catE (l.take (k + 1)) = catE (l.take k) ++ entB l[k] := by
 unfold catE; rw [List.take_succ_eq_append_getElem hk, List.flatMap_append]; simp
end Go.Proofs.YtcomeidcmcegfaaGreatDoor
namespace Go.Proofs.YtcomeidcmcegfaaGreatDoor
open Go.RowKit
set_option linter.unusedVariables false
set_option linter.unusedSimpArgs false
set_option maxRecDepth 100000 in
set_option maxHeartbeats 4000000 in
theorem entry_any (w : World) (o : OP) (A : Option Addr) (c : Nat) (bd : o.Bd) (hr : Rd w A (ovL o.ov)) (hc : o.ov.length ≤ c) (hT : Tabs w) : Calls Tryz.prog 11 #[opV o A c] w (RetBy (entB o) (checkE o) w) := by
 have k0 := fun w' (h : Below w.heap.size w w') => bytes_any w' o A c bd (hr.below h) hc (hT.below h)
 have hb1 := Lib.hid (fun x => (Below.refl w.heap.size w).alloc (Nat.le_refl _) x)
 by_cases h0 : checkE o = 0
 ·obtain ⟨e1, e2, e3, e4⟩ := entB_ok h0
  have hs := opB_size h0
  have k1 : ∀ w' A' c', Rd w' A' ((opB o).map U8) → Calls Tryz.prog 22 #[.int .i64 1, .slice A' (opB o).length c'] w' (RetSeal (entB o) 0 w') := fun w' A' c' h => by
   have := seal_any w' 1 (by omega) (by omega) A' c' (opB o) h (by omega)
   rwa [e3, e4] at this
  have eb : bytesR o = opB o := by unfold bytesR; rw [if_pos h0]
  rw [eb, h0] at k0
  rw [h0]
  clear e1 e2 e3 e4 h0 eb
  generalize opB o = L at *
  generalize entB o = M at *
  unfold opV opC at k0 ⊢
  go_enter Tryz.func11, Tryz.ntmps11
  go_wp2_with fail
  refine (k0 _ (hb1.out _)).mono ?_
  rintro e w2 ⟨A2, c2, rfl, hown2, hb2⟩
  have hr2 := hown2.rd'
  have hbe := stepB (hb1.out _) hb2
  clear k0 hown2 hb2
  go_wp2_with fail
  refine (k1 _ _ _ hr2).mono ?_
  rintro e w3 ⟨A3, c3, rfl, hown3, hb3⟩
  go_wp2_with fail
  exact bodyPost_ret (v := .tuple #[.slice A3 M.length c3, .int .i64 0]) (by simp [results, Tryz.results11, go_sem]) rfl ⟨_, _, rfl, hown3.lower hbe.size, stepB hbe hb3⟩
 ·have eb : bytesR o = [] := by unfold bytesR; rw [if_neg h0]
  rw [eb] at k0
  rw [entB_err h0]
  have t1 : (checkE o != 0) = true := by simpa using h0
  clear h0 eb
  generalize checkE o = E at *
  unfold opV opC at k0 ⊢
  go_enter Tryz.func11, Tryz.ntmps11
  go_wp2_with fail
  refine (k0 _ (hb1.out _)).mono ?_
  rintro e w2 ⟨A2, c2, rfl, hown2, hb2⟩
  have hbe := stepB (hb1.out _) hb2
  clear k0 hown2 hb2
  go_wp2_with fail
  exact bodyPost_ret (v := .tuple #[.slice none 0 0, .int .i64 E]) (by simp [results, Tryz.results11, go_sem]) rfl ⟨_, _, rfl, Own.nil _ _ _ _, hbe⟩
end Go.Proofs.YtcomeidcmcegfaaGreatDoor
namespace Go.Proofs.YtcomeidcmcegfaaGreatDoor
open Go.RowKit
set_option linter.unusedVariables false
set_option linter.unusedSimpArgs false
def opL (xs : List OX) : List OP := xs.map OX.o
theorem opL_len (xs : List OX) : (opL xs).length = xs.length := by simp [opL]
theorem opL_get (xs : List OX) (k : Nat) (hk : k < xs.length) : (opL xs)[k]'(by rw [opL_len]; exact hk) = xs[k].o := by simp [opL]
def WrRel (w : World) (xs : List OX) (vo vi : Value) (wr : World) : Prop :=
 ∃ (k : Nat) (L : List UInt8) (A : Option Addr) (c : Nat), k ≤ xs.length ∧ vi = .int .i64 k ∧ vo = .slice A L.length c ∧ Hid (L = catE ((opL xs).take k)) ∧ Hid (fstE (opL xs) = fstE ((opL xs).drop k)) ∧ L.length ≤ 1020 * k ∧
  Own wr w.heap.size 5 1 (.slice A L.length c) L.length (L.map U8) ∧ Below w.heap.size w wr
theorem wrt_err {l : List OP} {e : Int} (h : fstE l = e) (he : e ≠ 0) : wrtE l = e ∧ wrtB l = [] := by
 have h1 : wrtE l = e := by unfold wrtE; rw [h, if_neg he]
 exact ⟨h1, by unfold wrtB; rw [h1, if_neg he]⟩
theorem wrt_long {l : List OP} (h : fstE l = 0) (hl : 1048576 < (catE l).length) : wrtE l = 5 ∧ wrtB l = [] := by
 have h1 : wrtE l = 5 := by unfold wrtE; rw [if_pos h, if_pos hl]
 exact ⟨h1, by unfold wrtB; rw [h1, if_neg (by decide)]⟩
theorem wrt_ok {l : List OP} (h : fstE l = 0) (hl : ¬ 1048576 < (catE l).length) : wrtE l = 0 ∧ wrtB l = catE l := by
 have h1 : wrtE l = 0 := by unfold wrtE; rw [if_pos h, if_neg hl]
 exact ⟨h1, by unfold wrtB; rw [if_pos h1]⟩
set_option maxRecDepth 100000 in
set_option maxHeartbeats 8000000 in
theorem write_any (w : World) (Ax : Option Addr) (cx : Nat) (xs : List OX) (hx : OpsRd w Ax xs) (hl : xs.length ≤ 2000000) (hT : Tabs w) : Calls Tryz.prog 8 #[.slice Ax xs.length cx] w (RetBy (wrtB (opL xs)) (wrtE (opL xs)) w) := by
 obtain ⟨i0, hi0, hz0, hz1, hz2⟩ := info_parts info_u8
 go_enter Tryz.func8, Tryz.ntmps8
 go_wp2_with fail
 go_loopw [4, 11] (WrRel w xs) (fun _ i _ => xs.length - (intOf i).toNat)
 case atStart => exact ⟨0, [], none, 0, by omega, rfl, rfl, rfl, rfl, by simp, Own.nil _ _ _ _, Below.refl _ _⟩
 case round =>
  obtain ⟨k, L, A, c, hk, rfl, rfl, hL, hf, hLl, hown, hbe⟩ := hrel
  by_cases hlt : k < xs.length
  ·have t1 : decide ((k : Int) < (xs.length : Int)) = true := decide_eq_true (by omega)
   have t2 : (k : Int) < (xs.length : Int) := by omega
   have t3 : 0 ≤ (k : Int) := by omega
   obtain ⟨b, off, e1, hblt, hrg⟩ := (hx.below hbe).range hlt
   subst e1
   have hok := (hx.below hbe).ok _ (List.getElem_mem hlt)
   have hN := Lib.hid (catE_next (opL xs) k (by rw [opL_len]; exact hlt))
   have hD := Lib.hid (fstE_drop (l := opL xs) (k := k) (by rw [opL_len]; exact hlt))
   simp only [opL_get xs k hlt] at hN hD
   generalize xs[k] = x at *
   obtain ⟨o, Ao, co⟩ := x
   obtain ⟨bdo, ro, qo⟩ := hok
   dsimp only at bdo ro qo hN hD
   have m0 : wr.cell? ⟨b, off + k * 15, none⟩ = some (.int .i64 o.ac) := hrg 0 _ rfl
   have m1 : wr.cell? ⟨b, off + k * 15 + 1, none⟩ = some (.int .i64 o.ad) := hrg 1 _ rfl
   have m2 : wr.cell? ⟨b, off + k * 15 + 2, none⟩ = some (.int .i64 o.kd) := hrg 2 _ rfl
   have m3 : wr.cell? ⟨b, off + k * 15 + 3, none⟩ = some (.int .i64 o.rc) := hrg 3 _ rfl
   have m4 : wr.cell? ⟨b, off + k * 15 + 4, none⟩ = some (.int .i64 o.id) := hrg 4 _ rfl
   have m5 : wr.cell? ⟨b, off + k * 15 + 5, none⟩ = some (.int .i64 o.ti) := hrg 5 _ rfl
   have m6 : wr.cell? ⟨b, off + k * 15 + 6, none⟩ = some (.int .i64 o.pa) := hrg 6 _ rfl
   have m7 : wr.cell? ⟨b, off + k * 15 + 7, none⟩ = some (.int .i64 o.sf) := hrg 7 _ rfl
   have m8 : wr.cell? ⟨b, off + k * 15 + 8, none⟩ = some (.int .i64 o.st) := hrg 8 _ rfl
   have m9 : wr.cell? ⟨b, off + k * 15 + 9, none⟩ = some (.int .i64 o.rk) := hrg 9 _ rfl
   have m10 : wr.cell? ⟨b, off + k * 15 + 10, none⟩ = some (.string ⟨o.nt.toArray⟩) := hrg 10 _ rfl
   have m11 : wr.cell? ⟨b, off + k * 15 + 11, none⟩ = some (.int .i64 o.se) := hrg 11 _ rfl
   have m12 : wr.cell? ⟨b, off + k * 15 + 12, none⟩ = some (.int .i64 o.nn) := hrg 12 _ rfl
   have m13 : wr.cell? ⟨b, off + k * 15 + 13, none⟩ = some (.string ⟨o.tx.toArray⟩) := hrg 13 _ rfl
   have m14 : wr.cell? ⟨b, off + k * 15 + 14, none⟩ = some (.slice Ao o.ov.length co) := hrg 14 _ rfl
   clear hrg
   have kE := fun w' (h : Below wr.heap.size wr w') => entry_any w' o Ao co bdo (ro.below h) qo (hT.below (stepB hbe h))
   have hel := entB_len o
   by_cases h0 : checkE o = 0
   ·have hN := Lib.hid (hL.out ▸ hN.out)
    have hF : Hid (fstE (opL xs) = fstE ((opL xs).drop (k + 1))) := by rw [Hid, hf.out, hD.out, if_pos h0]
    rw [h0] at kE
    clear h0 hD
    generalize entB o = M at *
    unfold opV opC at kE
    go_wp2_with fail
    refine (kE _ (by first | exact Below.refl _ _ | exact (Below.refl _ _).alloc (Nat.le_refl _) _)).mono ?_
    rintro e w5 ⟨A5, c5, rfl, hown5, hb5⟩
    have hr5 := hown5.rd'
    have hb5 := (show Below wr.heap.size wr w5 by first | exact hb5 | exact stepB ((Below.refl _ _).alloc (Nat.le_refl _) _) hb5)
    have hown := hown.below (B := 0) hb5
    have hbe := stepB hbe hb5
    clear kE m0 m1 m2 m3 m4 m5 m6 m7 m8 m9 m10 m11 m12 m13 m14 hown5
    go_wp2_with (first
     | (at_builtin
        refine wpList_append_map _ U8 U8_one rfl (.tmp 23) (.tmp 24) _ rfl w.heap.size 5 i0 _ 1 Tryz.underlying22 hi0 hz0 hz1 hz2 rfl A c L rfl hown A5 c5 M rfl hr5 (by simp only [maxLen]; omega) (by omega) hbe.size ?_
        intro A6 c6 L6 w6 e6 hown6 hr6 hg6 hb6 hat6)
     | fail)
    go_roundw
    case rel => exact ⟨k + 1, L6, A6, c6, hlt, by go_num, rfl, by rw [Hid, e6.out, hN.out], hF, by rw [e6.out, List.length_append]; omega, hown6, hbe.trans hb6⟩
    case measure => simp [intOf]; omega
   ·have t4 : (checkE o != 0) = true := by simpa using h0
    obtain ⟨e1, e2⟩ := wrt_err (l := opL xs) (e := checkE o) (by rw [hf.out, hD.out, if_neg h0]) h0
    have E1 := Lib.hid e1
    have E2 := Lib.hid e2
    clear e1 e2 h0 hD hN
    generalize checkE o = E at *
    generalize entB o = M at *
    unfold opV opC at kE
    go_wp2_with fail
    refine (kE _ (by first | exact Below.refl _ _ | exact (Below.refl _ _).alloc (Nat.le_refl _) _)).mono ?_
    rintro e w5 ⟨A5, c5, rfl, hown5, hb5⟩
    have hb5 := (show Below wr.heap.size wr w5 by first | exact hb5 | exact stepB ((Below.refl _ _).alloc (Nat.le_refl _) _) hb5)
    have hbe := stepB hbe hb5
    clear kE m0 m1 m2 m3 m4 m5 m6 m7 m8 m9 m10 m11 m12 m13 m14 hown5
    go_wp2_with fail
    exact bodyPost_ret (v := .tuple #[.slice none 0 0, .int .i64 E]) (by simp [results, Tryz.results8, go_sem]) rfl (by rw [E1.out, E2.out]; exact ⟨_, _, rfl, Own.nil _ _ _ _, hbe⟩)
  ·obtain rfl : k = xs.length := by omega
   have t1 : decide ((xs.length : Int) < (xs.length : Int)) = false := by simp
   have hL2 : Hid (L = catE (opL xs)) := by rw [Hid, hL.out, ← opL_len xs, List.take_length]
   have h0 : fstE (opL xs) = 0 := by rw [hf.out, ← opL_len xs, List.drop_length]; rfl
   by_cases h9 : 1048576 < L.length
   ·have t2 : decide (1048576 < (L.length : Int)) = true := decide_eq_true (by omega)
    obtain ⟨e1, e2⟩ := wrt_long h0 (by rw [← hL2.out]; exact h9)
    have E1 := Lib.hid e1
    have E2 := Lib.hid e2
    clear e1 e2 h0 h9
    go_wp2_with fail
    exact bodyPost_ret (v := .tuple #[.slice none 0 0, .int .i64 5]) (by simp [results, Tryz.results8, go_sem]) rfl (by rw [E1.out, E2.out]; exact ⟨_, _, rfl, Own.nil _ _ _ _, hbe⟩)
   ·have t2 : decide (1048576 < (L.length : Int)) = false := decide_eq_false (by omega)
    obtain ⟨e1, e2⟩ := wrt_ok h0 (by rw [← hL2.out]; exact h9)
    have E1 := Lib.hid e1
    have E2 := Lib.hid (e2.trans hL2.out.symm)
    clear e1 e2 h0 h9
    go_wp2_with fail
    exact bodyPost_ret (v := .tuple #[.slice A L.length c, .int .i64 0]) (by simp [results, Tryz.results8, go_sem]) rfl (by rw [E1.out, E2.out]; exact ⟨_, _, rfl, hown, hbe⟩)
end Go.Proofs.YtcomeidcmcegfaaGreatDoor
