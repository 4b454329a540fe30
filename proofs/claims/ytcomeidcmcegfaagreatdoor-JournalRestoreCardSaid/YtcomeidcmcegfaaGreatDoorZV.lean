/-
  Plain laws of the loops of the reference's layers 50 and 51: what a loop over the rest of a list says of the whole list. Conditions: none; no program in sight.
  The walk of Same of the reference's layer 1: equality of two lists of numbers. Conditions: the slices read as lists of ints.
  The walks of added and writer of the reference's layer 50. Conditions: the operations are readable.
  The walk of seen of the reference's layer 50: the vector of right operations. Conditions: the operations are readable and their stamps are right; at most a hundred million of them.
-/
import Derived.Test.YtcomeidcmcegfaaGreatDoorZO
import Derived.Test.YtcomeidcmcegfaaGreatDoorJourFew
import Derived.Test.YtcomeidcmcegfaaGreatDoorZM
import Derived.Test.YtcomeidcmcegfaaGreatDoorZN
namespace Go.Proofs.YtcomeidcmcegfaaGreatDoor
open Go.RowKit Go.Lib
set_option linter.unusedVariables false
set_option linter.unusedSimpArgs false
section
variable {α : Type} {p : α → Bool} {l : List α} {k : Nat}
theorem any_hit (hk : k < l.length) (h0 : l.any p = (l.drop k).any p) (h : p l[k] = true) : l.any p = true := by
 rw [h0, List.drop_eq_getElem_cons hk, List.any_cons, h]; rfl
theorem any_next (hk : k < l.length) (h0 : l.any p = (l.drop k).any p) (h : p l[k] = false) : l.any p = (l.drop (k + 1)).any p := by
 rw [h0, List.drop_eq_getElem_cons hk, List.any_cons, h]; rfl
theorem any_end (h0 : l.any p = (l.drop l.length).any p) : l.any p = false := by rw [h0, List.drop_length]; rfl
theorem all_no (hk : k < l.length) (h0 : l.all p = (l.drop k).all p) (h : p l[k] = false) : l.all p = false := by
 rw [h0, List.drop_eq_getElem_cons hk, List.all_cons, h]; rfl
theorem all_next (hk : k < l.length) (h0 : l.all p = (l.drop k).all p) (h : p l[k] = true) : l.all p = (l.drop (k + 1)).all p := by
 rw [h0, List.drop_eq_getElem_cons hk, List.all_cons, h]; rfl
theorem all_end (h0 : l.all p = (l.drop l.length).all p) : l.all p = true := by rw [h0, List.drop_length]; rfl
theorem find_hit (hk : k < l.length) (h0 : l.find? p = (l.drop k).find? p) (h : p l[k] = true) : l.find? p = some l[k] := by
 rw [h0, List.drop_eq_getElem_cons hk, List.find?_cons, h]
theorem find_next (hk : k < l.length) (h0 : l.find? p = (l.drop k).find? p) (h : p l[k] = false) : l.find? p = (l.drop (k + 1)).find? p := by
 rw [h0, List.drop_eq_getElem_cons hk, List.find?_cons, h]
theorem find_end (h0 : l.find? p = (l.drop l.length).find? p) : l.find? p = none := by rw [h0, List.drop_length]; rfl
end
theorem chkX_consF (l : List OP) (k : Nat) (hk : k < l.length) : chkX firstAdd (l.take k) (l.drop k) = if oneX firstAdd (l.take k) l[k] = 0 then chkX firstAdd (l.take (k + 1)) (l.drop (k + 1)) else oneX firstAdd (l.take k) l[k] := by
 rw [List.drop_eq_getElem_cons hk, chkX, List.take_succ_eq_append_getElem hk]
theorem chkE_first (dev : Int) (l : List OP) (seen : List Int) : chkE dev l seen = if dev < 1 ∨ 15 < dev then 1 else if 400 < l.length then 11 else if chkX firstAdd [] l = 0 then (if seen = seenOf l then 0 else 1) else chkX firstAdd [] l := by
 unfold chkE
 rw [chkX_same l [] (by simp) List.Pairwise.nil]
theorem chkX_rights {l : List OP} (h : chkX firstAdd [] l = 0) : ∀ p ∈ l, rightB p.ac p.ad = true := fun p hp => check_right (RightL.all h p hp)
theorem lastS_take {l : List OP} {k : Nat} (hk : k < l.length) : lastS (l.take (k + 1)) = (l[k].ac, l[k].ad) := by
 rw [List.take_succ_eq_append_getElem hk, lastS_snoc]
theorem less_zero {o : OP} (h : checkE o = 0) : lessB (lastS []).1 (lastS []).2 o.ac o.ad = true := by
 have := check_right h
 rw [rightB_iff] at this
 rw [lessB_iff]
 left
 show (0 : Int) < o.ac
 omega
/-! ### the reference's Merge -/
theorem refM_none {acc l : List OP} {k : Nat} (hk : k < l.length) {L : List OP} (h0 : refM [] L = refM acc (l.drop k)) (h : clashB acc l[k] = true) : refM [] L = none := by
 rw [h0, List.drop_eq_getElem_cons hk, refM, if_pos h]
theorem refM_has {acc l : List OP} {k : Nat} (hk : k < l.length) {L : List OP} (h0 : refM [] L = refM acc (l.drop k)) (h : clashB acc l[k] = false) (hh : hasB acc l[k] = true) : refM [] L = refM acc (l.drop (k + 1)) := by
 rw [h0, List.drop_eq_getElem_cons hk, refM, if_neg (by rw [h]; decide), if_pos hh]
theorem refM_put {acc l : List OP} {k : Nat} (hk : k < l.length) {L : List OP} (h0 : refM [] L = refM acc (l.drop k)) (h : clashB acc l[k] = false) (hh : hasB acc l[k] = false) : refM [] L = refM (putO acc l[k]) (l.drop (k + 1)) := by
 rw [h0, List.drop_eq_getElem_cons hk, refM, if_neg (by rw [h]; decide), if_neg (by rw [hh]; decide)]
theorem refM_end {acc l L : List OP} (h0 : refM [] L = refM acc (l.drop l.length)) : refM [] L = some acc := by
 rw [h0, List.drop_length, refM]
theorem putO_len (l : List OP) (o : OP) : (putO l o).length = l.length + 1 := by
 unfold putO putN
 have := (putAt_spec l o l.length).1
 rw [List.length_append, List.length_cons, List.length_take, List.length_drop]
 omega
theorem putAt_go {l : List OP} {o : OP} {k : Nat} (hk : k < l.length) {n : Nat} (h0 : n = putAt l o (k + 1)) (h : ltO o l[k] = true) : n = putAt l o k := by
 rw [h0, putAt, if_pos]
 rw [List.getD, List.getElem?_eq_getElem hk]; exact h
theorem putAt_stop {l : List OP} {o : OP} {k : Nat} (hk : k < l.length) {n : Nat} (h0 : n = putAt l o (k + 1)) (h : ltO o l[k] = false) : n = k + 1 := by
 rw [h0, putAt, if_neg]
 rw [List.getD, List.getElem?_eq_getElem hk]
 show ¬ ltO o l[k] = true
 rw [h]; decide
/-! ### the vector of a list of operations -/
theorem joinL_pos (a b : List Int) : ∀ z ∈ joinL a b, 0 ≤ z := by
 intro z hz
 unfold joinL joinN at hz
 obtain ⟨i, -, rfl⟩ := List.mem_map.1 hz
 have := num_nonneg a i
 omega
theorem seen_pos (l : List OP) : ∀ z ∈ seenOf l, 0 ≤ z := by
 rcases List.eq_nil_or_concat l with rfl | ⟨l', o, rfl⟩
 ·exact joinL_pos _ _
 ·rw [List.concat_eq_append, seenOf_snoc]
  intro z hz
  unfold seeL at hz
  split at hz
  ·rcases List.mem_or_eq_of_mem_set hz with h | rfl
   ·exact joinL_pos _ _ z h
   ·have := num_nonneg (seenOf l') (o.ad - 1).toNat; omega
  ·exact joinL_pos _ _ z hz
theorem seen15 (l : List OP) : (seenOf l).length = 15 := by
 rcases List.eq_nil_or_concat l with rfl | ⟨l', o, rfl⟩
 ·exact joinN_length _ _ _
 ·rw [List.concat_eq_append, seenOf_snoc, seeL_length]
theorem joinL_self {Z : List Int} (h15 : Z.length = 15) (hp : ∀ z ∈ Z, 0 ≤ z) : joinL Z [] = Z := by
 refine List.ext_getElem (by rw [h15]; exact joinN_length _ _ _) fun i h1 h2 => ?_
 simp only [joinL, joinN, List.getElem_map, List.getElem_range, num_nil]
 rw [num_in Z i h2]
 have := hp Z[i] (List.getElem_mem h2)
 omega
theorem seen_step (l : List OP) (o : OP) (hr : rightB o.ac o.ad = true) (d : Nat) (hd : o.ad = (d : Int) + 1) (h15 : d < (seenOf l).length) : seenOf (l ++ [o]) = (seenOf l).set d (max (seenOf l)[d] o.ac) := by
 rw [seenOf_snoc]
 unfold seeL
 rw [if_pos hr, joinL_self (seen15 l) (seen_pos l), hd, show ((d : Int) + 1 - 1).toNat = d by omega, num_in _ _ h15]
 have := seen_pos l _ (List.getElem_mem h15)
 rw [show max (max (seenOf l)[d] 0) o.ac = max (seenOf l)[d] o.ac by omega]
theorem seen_zero : seenOf [] = List.replicate 15 0 := by decide
end Go.Proofs.YtcomeidcmcegfaaGreatDoor
namespace Go.Proofs.YtcomeidcmcegfaaGreatDoor
open Go.RowKit
set_option linter.unusedVariables false
set_option linter.unusedSimpArgs false
set_option maxRecDepth 100000 in
set_option maxHeartbeats 4000000 in
theorem nsame_any (w : World) (A B : Option Addr) (l m : List Int) (c d : Nat) (hA : Rd w A (l.map I64)) (hB : Rd w B (m.map I64)) (hl : l.length ≤ maxLen) (hm : m.length ≤ maxLen) :
 Calls Tryz.prog 19 #[.slice A l.length c, .slice B m.length d] w (RetBool (l == m) w) := by
 unfold maxLen at hl hm
 by_cases h0 : m.length = l.length
 ·have HL := Lib.hid h0
  rw [h0] at hm ⊢
  clear h0
  have hne : ((l.length : Int) != (l.length : Int)) = false := by simp
  go_enter Tryz.func19, Tryz.ntmps19
  go_wp2_with fail
  go_loopw [13] (EqRelI w l m) (fun i _ => l.length - (intOf i).toNat)
  case atStart => exact ⟨0, by omega, rfl, rfl, Up.refl _⟩
  case round =>
   obtain ⟨k, hk, rfl, hK, hu⟩ := hrel
   by_cases hlt : k < l.length
   ·have t1 : decide ((k : Int) < (l.length : Int)) = true := decide_eq_true (by omega)
    have t2 : (k : Int) < (l.length : Int) := by omega
    have t3 : 0 ≤ (k : Int) := by omega
    have hkm : k < m.length := by have := HL.out; omega
    obtain ⟨b, off, rfl, -, hc⟩ := (hu.rd hA).at64 hlt
    obtain ⟨b', off', rfl, -, hc'⟩ := (hu.rd hB).at64 hkm
    have HN := Lib.hid (fun e => take_nextI (l := l) (m := m) hK.out hlt hkm e)
    have HX := Lib.hid (fun e => ne_atI (l := l) (m := m) hlt hkm e)
    generalize l[k] = p at *
    generalize m[k] = q at *
    by_cases he : p = q
    ·have HN := Lib.hid (HN.out he)
     have q0 : (p != q) = false := by simp [he]
     have q1 : (p == q) = true := by simp [he]
     clear he HX hkm
     go_wp2_with fail
     go_quiet (fail)
     go_wp2_with fail
     go_roundw
     case rel => exact ⟨k + 1, by omega, by go_num, HN, hu.trans (Up.of (below_drewN (Below.refl _ _) _))⟩
     case measure => simp [intOf]; omega
    ·have HX := Lib.hid (HX.out he)
     have q0 : (p != q) = true := by simp [he]
     have q1 : (p == q) = false := by simp [he]
     clear he HN hkm
     go_wp2_with fail
     go_quiet (fail)
     go_wp2_with fail
     go_ret
     exact ⟨by rw [HX.out]; rfl, below_drewN hu.b _⟩
   ·obtain rfl : k = l.length := by omega
    have t1 : decide ((l.length : Int) < (l.length : Int)) = false := by simp
    have HX : Hid ((l == m) = true) := beq_iff_eq.2 (take_allI hK.out HL.out)
    go_wp2_with fail
    go_ret
    exact ⟨by rw [HX.out]; rfl, hu.b⟩
 ·have HX : Hid ((l == m) = false) := by rw [Hid, beq_eq_false_iff_ne]; rintro rfl; exact h0 rfl
  have q0 : ((l.length : Int) != (m.length : Int)) = true := by simp; omega
  have q1 : (l.length != m.length) = true := by simp; omega
  have q2 : ((l.length : Int) == (m.length : Int)) = false := by simp; omega
  have q3 : (l.length == m.length) = false := by simp; omega
  clear h0
  go_enter Tryz.func19, Tryz.ntmps19
  go_wp2_with fail
  go_ret
  exact ⟨by rw [HX.out]; rfl, Below.refl _ _⟩
end Go.Proofs.YtcomeidcmcegfaaGreatDoor
namespace Go.Proofs.YtcomeidcmcegfaaGreatDoor
open Go.RowKit
set_option linter.unusedVariables false
set_option linter.unusedSimpArgs false
def RetAdd (xs : List OX) (id : Int) (w : World) (e : Ending) (w' : World) : Prop :=
 Below w.heap.size w w' ∧ ((∃ x ∈ xs, firstAdd (opL xs) id = some x.o ∧ e = .returned (.tuple #[opV x.o x.A x.c, .bool true])) ∨ (firstAdd (opL xs) id = none ∧ e = .returned (.tuple #[.agg zero15, .bool false])))
def set15 (w : World) (g : Nat) (o : OP) (A : Option Addr) (c : Nat) : World :=
 ((((((((((((((w.setCell ⟨g, 0, none⟩ (.int .i64 o.ac)).setCell ⟨g, 1, none⟩ (.int .i64 o.ad)).setCell ⟨g, 2, none⟩ (.int .i64 o.kd)).setCell ⟨g, 3, none⟩ (.int .i64 o.rc)).setCell ⟨g, 4, none⟩ (.int .i64 o.id)).setCell ⟨g, 5, none⟩ (.int .i64 o.ti)).setCell ⟨g, 6, none⟩ (.int .i64 o.pa)).setCell ⟨g, 7, none⟩ (.int .i64 o.sf)).setCell ⟨g, 8, none⟩ (.int .i64 o.st)).setCell ⟨g, 9, none⟩ (.int .i64 o.rk)).setCell ⟨g, 10, none⟩ (.string ⟨o.nt.toArray⟩)).setCell ⟨g, 11, none⟩ (.int .i64 o.se)).setCell ⟨g, 12, none⟩ (.int .i64 o.nn)).setCell ⟨g, 13, none⟩ (.string ⟨o.tx.toArray⟩)).setCell ⟨g, 14, none⟩ (.slice A o.ov.length c)
theorem set15_blk {w : World} {g : Nat} {o o' : OP} {A A' : Option Addr} {c c' : Nat} {t : TypeId} (h : Blk w g t (opC o' A' c').toArray) : Blk (set15 w g o A c) g t (opC o A c).toArray := by
 have h15 := ((((((((((((((h.set 0 (.int .i64 o.ac)).set 1 (.int .i64 o.ad)).set 2 (.int .i64 o.kd)).set 3 (.int .i64 o.rc)).set 4 (.int .i64 o.id)).set 5 (.int .i64 o.ti)).set 6 (.int .i64 o.pa)).set 7 (.int .i64 o.sf)).set 8 (.int .i64 o.st)).set 9 (.int .i64 o.rk)).set 10 (.string ⟨o.nt.toArray⟩)).set 11 (.int .i64 o.se)).set 12 (.int .i64 o.nn)).set 13 (.string ⟨o.tx.toArray⟩)).set 14 (.slice A o.ov.length c)
 simp only [opC, List.setIfInBounds_toArray, List.set_cons_zero, List.set_cons_succ] at h15
 exact h15
theorem set15_below {w w0 : World} {g n : Nat} {o : OP} {A : Option Addr} {c : Nat} (h : Below n w0 w) (hg : n ≤ g) : Below n w0 (set15 w g o A c) :=
 ((((((((((((((h.setCell (p := ⟨g, 0, none⟩) hg (.int .i64 o.ac)).setCell (p := ⟨g, 1, none⟩) hg (.int .i64 o.ad)).setCell (p := ⟨g, 2, none⟩) hg (.int .i64 o.kd)).setCell (p := ⟨g, 3, none⟩) hg (.int .i64 o.rc)).setCell (p := ⟨g, 4, none⟩) hg (.int .i64 o.id)).setCell (p := ⟨g, 5, none⟩) hg (.int .i64 o.ti)).setCell (p := ⟨g, 6, none⟩) hg (.int .i64 o.pa)).setCell (p := ⟨g, 7, none⟩) hg (.int .i64 o.sf)).setCell (p := ⟨g, 8, none⟩) hg (.int .i64 o.st)).setCell (p := ⟨g, 9, none⟩) hg (.int .i64 o.rk)).setCell (p := ⟨g, 10, none⟩) hg (.string ⟨o.nt.toArray⟩)).setCell (p := ⟨g, 11, none⟩) hg (.int .i64 o.se)).setCell (p := ⟨g, 12, none⟩) hg (.int .i64 o.nn)).setCell (p := ⟨g, 13, none⟩) hg (.string ⟨o.tx.toArray⟩)).setCell (p := ⟨g, 14, none⟩) hg (.slice A o.ov.length c)
def FndRel (w : World) (xs : List OX) (id : Int) (vi : Value) (wr : World) : Prop := ∃ k : Nat, k ≤ xs.length ∧ vi = .int .i64 k ∧ Below w.heap.size w wr ∧ Blk wr w.heap.size 43 zero15 ∧ Hid ((opL xs).find? (isAdd id) = ((opL xs).drop k).find? (isAdd id))
set_option maxRecDepth 100000 in
set_option maxHeartbeats 8000000 in
theorem radded_any (w : World) (A : Option Addr) (c : Nat) (xs : List OX) (hx : OpsRd w A xs) (hl : xs.length ≤ maxLen) (id : Int) :
 Calls Tryz.prog 88 #[.slice A xs.length c, .int .i64 id] w (RetAdd xs id w) := by
 unfold maxLen at hl
 go_enter Tryz.func88, Tryz.ntmps88
 go_wp2_with fail
 go_loopw [6] (FndRel w xs id) (fun i _ => xs.length - (intOf i).toNat)
 case atStart => exact ⟨0, Nat.zero_le _, rfl, (Below.refl _ w).alloc (Nat.le_refl _) _, Blk.new w _ _, rfl⟩
 case round =>
  obtain ⟨k, hk, rfl, hbe, hZ, hK⟩ := hrel
  have f0 := hZ.free 0
  have f1 := hZ.free 1
  have f2 := hZ.free 2
  have f3 := hZ.free 3
  have f4 := hZ.free 4
  have f5 := hZ.free 5
  have f6 := hZ.free 6
  have f7 := hZ.free 7
  have f8 := hZ.free 8
  have f9 := hZ.free 9
  have f10 := hZ.free 10
  have f11 := hZ.free 11
  have f12 := hZ.free 12
  have f13 := hZ.free 13
  have f14 := hZ.free 14
  obtain ⟨⟨z0, z1, z2, z3⟩, ⟨z4, z5, z6, z7, z8, z9, z10⟩, ⟨z11, z12, z13, z14⟩⟩ := blk_opAtJ (show Blk wr w.heap.size 43 (opC OP.zero none 0).toArray from hZ)
  by_cases hlt : k < xs.length
  ·have t1 : decide ((k : Int) < (xs.length : Int)) = true := decide_eq_true (by omega)
   have t2 : (k : Int) < (xs.length : Int) := by omega
   have t3 : 0 ≤ (k : Int) := by omega
   obtain ⟨b, off, rfl, hblt, hrg⟩ := (hx.below hbe).range hlt
   have hH := Lib.hid (find_hit (p := isAdd id) (l := opL xs) (k := k) (by rw [opL_len]; exact hlt) hK.out)
   have hN := Lib.hid (find_next (p := isAdd id) (l := opL xs) (k := k) (by rw [opL_len]; exact hlt) hK.out)
   simp only [opL_get xs k hlt] at hH hN
   have hm := Lib.hid (List.getElem_mem hlt)
   generalize xs[k] = x at *
   have m0 : wr.cell? ⟨b, off + k * 15, none⟩ = some (.int .i64 x.o.ac) := hrg 0 _ rfl
   have m1 : wr.cell? ⟨b, off + k * 15 + 1, none⟩ = some (.int .i64 x.o.ad) := hrg 1 _ rfl
   have m2 : wr.cell? ⟨b, off + k * 15 + 2, none⟩ = some (.int .i64 x.o.kd) := hrg 2 _ rfl
   have m3 : wr.cell? ⟨b, off + k * 15 + 3, none⟩ = some (.int .i64 x.o.rc) := hrg 3 _ rfl
   have m4 : wr.cell? ⟨b, off + k * 15 + 4, none⟩ = some (.int .i64 x.o.id) := hrg 4 _ rfl
   have m5 : wr.cell? ⟨b, off + k * 15 + 5, none⟩ = some (.int .i64 x.o.ti) := hrg 5 _ rfl
   have m6 : wr.cell? ⟨b, off + k * 15 + 6, none⟩ = some (.int .i64 x.o.pa) := hrg 6 _ rfl
   have m7 : wr.cell? ⟨b, off + k * 15 + 7, none⟩ = some (.int .i64 x.o.sf) := hrg 7 _ rfl
   have m8 : wr.cell? ⟨b, off + k * 15 + 8, none⟩ = some (.int .i64 x.o.st) := hrg 8 _ rfl
   have m9 : wr.cell? ⟨b, off + k * 15 + 9, none⟩ = some (.int .i64 x.o.rk) := hrg 9 _ rfl
   have m10 : wr.cell? ⟨b, off + k * 15 + 10, none⟩ = some (.string ⟨x.o.nt.toArray⟩) := hrg 10 _ rfl
   have m11 : wr.cell? ⟨b, off + k * 15 + 11, none⟩ = some (.int .i64 x.o.se) := hrg 11 _ rfl
   have m12 : wr.cell? ⟨b, off + k * 15 + 12, none⟩ = some (.int .i64 x.o.nn) := hrg 12 _ rfl
   have m13 : wr.cell? ⟨b, off + k * 15 + 13, none⟩ = some (.string ⟨x.o.tx.toArray⟩) := hrg 13 _ rfl
   have m14 : wr.cell? ⟨b, off + k * 15 + 14, none⟩ = some (.slice x.A x.o.ov.length x.c) := hrg 14 _ rfl
   clear hrg
   rcases e1 : (x.o.kd == 0) with _ | _
   ·have HP := Lib.hid (hN.out (by unfold isAdd; rw [e1]; rfl))
    go_wp2_with fail
    go_roundw
    case rel => exact ⟨k + 1, hlt, by go_num, hbe, hZ, HP.out⟩
    case measure => simp [intOf]; omega
   ·rcases e2 : (x.o.id == id) with _ | _
    ·have HP := Lib.hid (hN.out (by unfold isAdd; rw [e1, e2]; rfl))
     go_wp2_with fail
     go_roundw
     case rel => exact ⟨k + 1, hlt, by go_num, hbe, hZ, HP.out⟩
     case measure => simp [intOf]; omega
    ·have HP := Lib.hid (hH.out (by unfold isAdd; rw [e1, e2]; rfl))
     go_wp2_with fail
     have hZ' : Blk wr w.heap.size 43 (opC OP.zero none 0).toArray := hZ
     have hF := set15_blk (o := x.o) (A := x.A) (c := x.c) hZ'
     have hbF := set15_below (g := w.heap.size) (o := x.o) (A := x.A) (c := x.c) hbe (Nat.le_refl _)
     change bodyPost Tryz.prog _ _ _ _ (set15 wr w.heap.size x.o x.A x.c)
     generalize set15 wr w.heap.size x.o x.A x.c = wf at *
     obtain ⟨⟨y0, y1, y2, y3⟩, ⟨y4, y5, y6, y7, y8, y9, y10⟩, ⟨y11, y12, y13, y14⟩⟩ := blk_opAtJ hF
     exact bodyPost_ret (v := .tuple #[opV x.o x.A x.c, .bool true]) (by simp [results, Tryz.results88, go_sem, opV, opC, y0, y1, y2, y3, y4, y5, y6, y7, y8, y9, y10, y11, y12, y13, y14]) rfl ⟨hbF, .inl ⟨x, hm.out, HP.out, rfl⟩⟩
  ·obtain rfl : k = xs.length := by omega
   have t1 : decide ((xs.length : Int) < (xs.length : Int)) = false := by simp
   have HP := Lib.hid (find_end (p := isAdd id) (l := opL xs) (by rw [opL_len]; exact hK.out))
   go_wp2_with fail
   have hZ' : Blk wr w.heap.size 43 (opC OP.zero none 0).toArray := hZ
   have hF := set15_blk (o := OP.zero) (A := none) (c := 0) hZ'
   have hbF := set15_below (g := w.heap.size) (o := OP.zero) (A := none) (c := 0) hbe (Nat.le_refl _)
   change bodyPost Tryz.prog _ _ _ _ (set15 wr w.heap.size OP.zero none 0)
   generalize set15 wr w.heap.size OP.zero none 0 = wf at *
   obtain ⟨⟨y0, y1, y2, y3⟩, ⟨y4, y5, y6, y7, y8, y9, y10⟩, ⟨y11, y12, y13, y14⟩⟩ := blk_opAtJ hF
   exact bodyPost_ret (v := .tuple #[.agg zero15, .bool false]) (by simp [results, Tryz.results88, go_sem, zero15, opC, y0, y1, y2, y3, y4, y5, y6, y7, y8, y9, y10, y11, y12, y13, y14]) rfl ⟨hbF, .inr ⟨HP.out, rfl⟩⟩
def WriRel (w : World) (s1 s2 : Int) (q : OP → Bool) (xs : List OX) (vi : Value) (wr : World) : Prop := ∃ k : Nat, k ≤ xs.length ∧ vi = .int .i64 k ∧ Below w.heap.size w wr ∧ Blk wr w.heap.size 36 #[.int .i64 s1, .int .i64 s2] ∧ Hid ((opL xs).any q = ((opL xs).drop k).any q)
set_option maxRecDepth 100000 in
set_option maxHeartbeats 8000000 in
theorem rwriter_any (w : World) (A : Option Addr) (c : Nat) (xs : List OX) (hx : OpsRd w A xs) (hl : xs.length ≤ maxLen) (s : Int × Int) (nt f : Int) :
 Calls Tryz.prog 89 #[.slice A xs.length c, .agg #[.int .i64 s.1, .int .i64 s.2], .int .i64 nt, .int .i64 f] w (RetBool (wsB (opL xs) s nt f) w) := by
 unfold maxLen at hl
 obtain ⟨s1, s2⟩ := s
 have HR : Hid (wsB (opL xs) (s1, s2) nt f = (opL xs).any fun p => p.ac == s1 && (p.ad == s2 && wrsB p nt f)) := rfl
 obtain ⟨q, hq⟩ : ∃ q : OP → Bool, q = fun p => p.ac == s1 && (p.ad == s2 && wrsB p nt f) := ⟨_, rfl⟩
 have Hq : Hid (∀ p, q p = ((p.ac == s1 && p.ad == s2) && wrsB p nt f)) := fun p => by rw [hq, Bool.and_assoc]
 rw [← hq] at HR
 clear hq
 dsimp only
 go_enter Tryz.func89, Tryz.ntmps89
 go_wp2_with fail
 go_loopw [9] (WriRel w s1 s2 q xs) (fun i _ => xs.length - (intOf i).toNat)
 case atStart => exact ⟨0, Nat.zero_le _, rfl, (Below.refl _ w).alloc (Nat.le_refl _) _, Blk.new w _ _, rfl⟩
 case round =>
  obtain ⟨k, hk, rfl, hbe, hZ, hK⟩ := hrel
  by_cases hlt : k < xs.length
  ·have t1 : decide ((k : Int) < (xs.length : Int)) = true := decide_eq_true (by omega)
   have t2 : (k : Int) < (xs.length : Int) := by omega
   have t3 : 0 ≤ (k : Int) := by omega
   obtain ⟨b, off, rfl, hblt, hrg⟩ := (hx.below hbe).range hlt
   have hH := Lib.hid (any_hit (p := q) (l := opL xs) (k := k) (by rw [opL_len]; exact hlt) hK.out)
   have hN := Lib.hid (any_next (p := q) (l := opL xs) (k := k) (by rw [opL_len]; exact hlt) hK.out)
   simp only [opL_get xs k hlt] at hH hN
   generalize xs[k] = x at *
   have m0 : ∀ w', Up wr w' → w'.cell? ⟨b, off + k * 15, none⟩ = some (.int .i64 x.o.ac) := fun w' u => u.cell (hrg 0 _ rfl)
   have m1 : ∀ w', Up wr w' → w'.cell? ⟨b, off + k * 15 + 1, none⟩ = some (.int .i64 x.o.ad) := fun w' u => u.cell (hrg 1 _ rfl)
   have m2 : ∀ w', Up wr w' → w'.cell? ⟨b, off + k * 15 + 2, none⟩ = some (.int .i64 x.o.kd) := fun w' u => u.cell (hrg 2 _ rfl)
   have m3 : ∀ w', Up wr w' → w'.cell? ⟨b, off + k * 15 + 3, none⟩ = some (.int .i64 x.o.rc) := fun w' u => u.cell (hrg 3 _ rfl)
   have m4 : ∀ w', Up wr w' → w'.cell? ⟨b, off + k * 15 + 4, none⟩ = some (.int .i64 x.o.id) := fun w' u => u.cell (hrg 4 _ rfl)
   have m5 : ∀ w', Up wr w' → w'.cell? ⟨b, off + k * 15 + 5, none⟩ = some (.int .i64 x.o.ti) := fun w' u => u.cell (hrg 5 _ rfl)
   have m6 : ∀ w', Up wr w' → w'.cell? ⟨b, off + k * 15 + 6, none⟩ = some (.int .i64 x.o.pa) := fun w' u => u.cell (hrg 6 _ rfl)
   have m7 : ∀ w', Up wr w' → w'.cell? ⟨b, off + k * 15 + 7, none⟩ = some (.int .i64 x.o.sf) := fun w' u => u.cell (hrg 7 _ rfl)
   have m8 : ∀ w', Up wr w' → w'.cell? ⟨b, off + k * 15 + 8, none⟩ = some (.int .i64 x.o.st) := fun w' u => u.cell (hrg 8 _ rfl)
   have m9 : ∀ w', Up wr w' → w'.cell? ⟨b, off + k * 15 + 9, none⟩ = some (.int .i64 x.o.rk) := fun w' u => u.cell (hrg 9 _ rfl)
   have m10 : ∀ w', Up wr w' → w'.cell? ⟨b, off + k * 15 + 10, none⟩ = some (.string ⟨x.o.nt.toArray⟩) := fun w' u => u.cell (hrg 10 _ rfl)
   have m11 : ∀ w', Up wr w' → w'.cell? ⟨b, off + k * 15 + 11, none⟩ = some (.int .i64 x.o.se) := fun w' u => u.cell (hrg 11 _ rfl)
   have m12 : ∀ w', Up wr w' → w'.cell? ⟨b, off + k * 15 + 12, none⟩ = some (.int .i64 x.o.nn) := fun w' u => u.cell (hrg 12 _ rfl)
   have m13 : ∀ w', Up wr w' → w'.cell? ⟨b, off + k * 15 + 13, none⟩ = some (.string ⟨x.o.tx.toArray⟩) := fun w' u => u.cell (hrg 13 _ rfl)
   have m14 : ∀ w', Up wr w' → w'.cell? ⟨b, off + k * 15 + 14, none⟩ = some (.slice x.A x.o.ov.length x.c) := fun w' u => u.cell (hrg 14 _ rfl)
   have y0 : ∀ w', Up wr w' → w'.cell? ⟨w.heap.size, 0, none⟩ = some (.int .i64 s1) := fun w' u => by rw [(hZ.up u).cell]; rfl
   have y1 : ∀ w', Up wr w' → w'.cell? ⟨w.heap.size, 1, none⟩ = some (.int .i64 s2) := fun w' u => by rw [(hZ.up u).cell]; rfl
   have hs := fun w => stamp_eql x.o.ac x.o.ad s1 s2 w
   have kW := fun w' => rWrites_any w' x.o x.A x.c nt f
   unfold opV opC at kW
   have hbe' := Lib.hid hbe
   have hZ' := Lib.hid hZ
   clear hrg hbe hZ
   rcases e1 : (x.o.ac == s1 && x.o.ad == s2) with _ | _
   ·have HP := Lib.hid (hN.out (by rw [Hq.out, e1]; rfl))
    rw [e1] at hs
    clear e1
    go_wp2_with fail
    refine wp_region_noPanic ?_
    refine wp_region_held_drew (S := fun w' => Up wr w') (by kernel_rfl) (Up.drew wr) (fun hHeld => ?_)
    refine tk 0 16 (v := ?_) ?_ ?_
    rotate_left
    ·intro w' hSw; clear hSw; go_simp; try (with_reducible rfl)
    try simp only [tkA, tkB, tkC]
    refine tk 1 17 (v := ?_) ?_ ?_
    rotate_left
    ·intro w' hSw; clear hSw; go_simp; try (with_reducible rfl)
    try simp only [tkA, tkB, tkC]
    refine tk 2 18 (v := ?_) ?_ ?_
    rotate_left
    ·intro w' hSw; clear hSw; go_simp; try (with_reducible rfl)
    try simp only [tkA, tkB, tkC]
    refine tk 3 19 (v := ?_) ?_ ?_
    rotate_left
    ·intro w' hSw; clear hSw; go_simp; try (with_reducible rfl)
    try simp only [tkA, tkB, tkC]
    refine tk 4 20 (v := ?_) ?_ ?_
    rotate_left
    ·intro w' hS0; go_simp; try (with_reducible rfl)
    try simp only [tkA, tkB, tkC]
    refine tk 5 21 (v := ?_) ?_ ?_
    rotate_left
    ·intro w' hS0; go_simp; try (with_reducible rfl)
    try simp only [tkA, tkB, tkC]
    refine tk 6 22 (v := ?_) ?_ ?_
    rotate_left
    ·intro w' hSw; clear hSw; go_simp; try (with_reducible rfl)
    try simp only [tkA, tkB, tkC]
    refine tk 7 23 (v := ?_) ?_ ?_
    rotate_left
    ·intro w' hSw; clear hSw; go_simp; try (with_reducible rfl)
    try simp only [tkA, tkB, tkC]
    refine held_skip 8 rfl (by kernel_rfl) (by kernel_rfl) (by kernel_rfl) (fun _ _ _ h => h) (by rfl) (by assumption) ?_
    change wpAnyH _ _ _ _ _ _ _ (Act.put _ (some 24) _) _
    try simp only [Act.put, tkA, tkB, tkC]
    refine held_skip 9 rfl (by kernel_rfl) (by kernel_rfl) (by kernel_rfl) (fun _ _ _ h => h) (by rfl) (by assumption) ?_
    change wpAnyH _ _ _ _ _ _ _ (Act.put _ (some 25) _) _
    try simp only [Act.put, tkA, tkB, tkC]
    refine held_skip 10 rfl (by kernel_rfl) (by kernel_rfl) (by kernel_rfl) (fun _ _ _ h => h) (by rfl) (by assumption) ?_
    change wpAnyH _ _ _ _ _ _ _ (Act.put _ (some 26) _) _
    try simp only [Act.put, tkA, tkB, tkC]
    refine held_skip 11 rfl (by kernel_rfl) (by kernel_rfl) (by kernel_rfl) (fun _ _ _ h => h) (by rfl) (by assumption) ?_
    change wpAnyH _ _ _ _ _ _ _ (Act.put _ (some 27) _) _
    try simp only [Act.put, tkA, tkB, tkC]
    refine held_skip 12 rfl (by kernel_rfl) (by kernel_rfl) (by kernel_rfl) (fun _ _ _ h => h) (by rfl) (by assumption) ?_
    change wpAnyH _ _ _ _ _ _ _ (Act.put _ (some 28) _) _
    try simp only [Act.put, tkA, tkB, tkC]
    refine held_skip 13 rfl (by kernel_rfl) (by kernel_rfl) (by kernel_rfl) (fun _ _ _ h => h) (by rfl) (by assumption) ?_
    change wpAnyH _ _ _ _ _ _ _ (Act.put _ (some 29) _) _
    try simp only [Act.put, tkA, tkB, tkC]
    refine held_skip 14 rfl (by kernel_rfl) (by kernel_rfl) (by kernel_rfl) (fun _ _ _ h => h) (by rfl) (by assumption) ?_
    change wpAnyH _ _ _ _ _ _ _ (Act.put _ (some 30) _) _
    try simp only [Act.put, tkA, tkB, tkC]
    refine tk 15 31 (v := ?_) ?_ ?_
    rotate_left
    ·intro w' hSw; clear hSw; go_simp; try (with_reducible rfl)
    try simp only [tkA, tkB, tkC]
    refine wpAnyH_done (by kernel_rfl) ?_ _
    refine NoPanic.normal ?_
    clear hHeld
    go_wp2_with fail
    go_roundw
    case rel => exact ⟨k + 1, hlt, by go_num, stepB hbe'.out (Up.drew wr).b, hZ'.out.up (Up.drew wr), HP.out⟩
    case measure => simp [intOf]; omega
   ·rw [e1] at hs
    have He := Lib.hid e1
    clear e1
    rcases e2 : wrsB x.o nt f with _ | _
    ·have HP := Lib.hid (hN.out (by rw [Hq.out, He.out, e2]; rfl))
     rw [e2] at kW
     clear e2
     go_wp2_with fail
     refine wp_region_noPanic ?_
     refine wp_region_held_drew (S := fun w' => Up wr w') (by kernel_rfl) (Up.drew wr) (fun hHeld => ?_)
     refine tk 0 16 (v := ?_) ?_ ?_
     rotate_left
     ·intro w' hSw; clear hSw; go_simp; try (with_reducible rfl)
     try simp only [tkA, tkB, tkC]
     refine tk 1 17 (v := ?_) ?_ ?_
     rotate_left
     ·intro w' hSw; clear hSw; go_simp; try (with_reducible rfl)
     try simp only [tkA, tkB, tkC]
     refine tk 2 18 (v := ?_) ?_ ?_
     rotate_left
     ·intro w' hSw; clear hSw; go_simp; try (with_reducible rfl)
     try simp only [tkA, tkB, tkC]
     refine tk 3 19 (v := ?_) ?_ ?_
     rotate_left
     ·intro w' hSw; clear hSw; go_simp; try (with_reducible rfl)
     try simp only [tkA, tkB, tkC]
     refine tk 4 20 (v := ?_) ?_ ?_
     rotate_left
     ·intro w' hS0; go_simp; try (with_reducible rfl)
     try simp only [tkA, tkB, tkC]
     refine tk 5 21 (v := ?_) ?_ ?_
     rotate_left
     ·intro w' hS0; go_simp; try (with_reducible rfl)
     try simp only [tkA, tkB, tkC]
     refine tk 6 22 (v := ?_) ?_ ?_
     rotate_left
     ·intro w' hSw; clear hSw; go_simp; try (with_reducible rfl)
     try simp only [tkA, tkB, tkC]
     refine tk 7 23 (v := ?_) ?_ ?_
     rotate_left
     ·intro w' hSw; clear hSw; go_simp; try (with_reducible rfl)
     try simp only [tkA, tkB, tkC]
     refine tk 8 24 (v := ?_) ?_ ?_
     rotate_left
     ·intro w' hSw; clear hSw; go_simp; try (with_reducible rfl)
     try simp only [tkA, tkB, tkC]
     refine tk 9 25 (v := ?_) ?_ ?_
     rotate_left
     ·intro w' hSw; clear hSw; go_simp; try (with_reducible rfl)
     try simp only [tkA, tkB, tkC]
     refine tk 10 26 (v := ?_) ?_ ?_
     rotate_left
     ·intro w' hSw; clear hSw; go_simp; try (with_reducible rfl)
     try simp only [tkA, tkB, tkC]
     refine tk 11 27 (v := ?_) ?_ ?_
     rotate_left
     ·intro w' hS0; go_simp; try (with_reducible rfl)
     try simp only [tkA, tkB, tkC]
     refine tk 12 28 (v := ?_) ?_ ?_
     rotate_left
     ·intro w' hSw; clear hSw; go_simp; try (with_reducible rfl)
     try simp only [tkA, tkB, tkC]
     refine tk 13 29 (v := ?_) ?_ ?_
     rotate_left
     ·intro w' hSw; clear hSw; go_simp; try (with_reducible rfl)
     try simp only [tkA, tkB, tkC]
     refine wpAnyH_ready (rs := [14]) (by kernel_rfl) (by simp) ?_
     refine AllReadyH.cons rfl (fun K hK => ?_) AllReadyH.nil
     go_simp
     go_at_call 102
     refine (kW _).mono ?_
     rintro e w1 ⟨rfl, hb1⟩
     have u1 : Up wr w1 := hHeld.trans (Up.of hb1)
     refine hK.out _ _ u1 (fun hHeld => ?_)
     clear hK K hHeld
     refine wpAnyH_more (S' := fun w' => Up w1 w') (fun w' h => Up.trans u1 h) _ _ _ _ ?_
     have hHeld := Up.refl w1
     refine tk 15 31 (v := ?_) ?_ ?_
     rotate_left
     ·intro w' hSw; clear hSw; go_simp; try (with_reducible rfl)
     try simp only [tkA, tkB, tkC]
     refine wpAnyH_done (by kernel_rfl) ?_ _
     refine NoPanic.normal ?_
     clear hHeld
     have u1' := Lib.hid u1
     clear u1 hb1
     go_wp2_with fail
     go_roundw
     case rel => exact ⟨k + 1, hlt, by go_num, stepB hbe'.out u1'.out.b, hZ'.out.up u1'.out, HP.out⟩
     case measure => simp [intOf]; omega
    ·have HP := Lib.hid (hH.out (by rw [Hq.out, He.out, e2]; rfl))
     rw [e2] at kW
     clear e2
     go_wp2_with fail
     refine wp_region_noPanic ?_
     refine wp_region_held_drew (S := fun w' => Up wr w') (by kernel_rfl) (Up.drew wr) (fun hHeld => ?_)
     refine tk 0 16 (v := ?_) ?_ ?_
     rotate_left
     ·intro w' hSw; clear hSw; go_simp; try (with_reducible rfl)
     try simp only [tkA, tkB, tkC]
     refine tk 1 17 (v := ?_) ?_ ?_
     rotate_left
     ·intro w' hSw; clear hSw; go_simp; try (with_reducible rfl)
     try simp only [tkA, tkB, tkC]
     refine tk 2 18 (v := ?_) ?_ ?_
     rotate_left
     ·intro w' hSw; clear hSw; go_simp; try (with_reducible rfl)
     try simp only [tkA, tkB, tkC]
     refine tk 3 19 (v := ?_) ?_ ?_
     rotate_left
     ·intro w' hSw; clear hSw; go_simp; try (with_reducible rfl)
     try simp only [tkA, tkB, tkC]
     refine tk 4 20 (v := ?_) ?_ ?_
     rotate_left
     ·intro w' hS0; go_simp; try (with_reducible rfl)
     try simp only [tkA, tkB, tkC]
     refine tk 5 21 (v := ?_) ?_ ?_
     rotate_left
     ·intro w' hS0; go_simp; try (with_reducible rfl)
     try simp only [tkA, tkB, tkC]
     refine tk 6 22 (v := ?_) ?_ ?_
     rotate_left
     ·intro w' hSw; clear hSw; go_simp; try (with_reducible rfl)
     try simp only [tkA, tkB, tkC]
     refine tk 7 23 (v := ?_) ?_ ?_
     rotate_left
     ·intro w' hSw; clear hSw; go_simp; try (with_reducible rfl)
     try simp only [tkA, tkB, tkC]
     refine tk 8 24 (v := ?_) ?_ ?_
     rotate_left
     ·intro w' hSw; clear hSw; go_simp; try (with_reducible rfl)
     try simp only [tkA, tkB, tkC]
     refine tk 9 25 (v := ?_) ?_ ?_
     rotate_left
     ·intro w' hSw; clear hSw; go_simp; try (with_reducible rfl)
     try simp only [tkA, tkB, tkC]
     refine tk 10 26 (v := ?_) ?_ ?_
     rotate_left
     ·intro w' hSw; clear hSw; go_simp; try (with_reducible rfl)
     try simp only [tkA, tkB, tkC]
     refine tk 11 27 (v := ?_) ?_ ?_
     rotate_left
     ·intro w' hS0; go_simp; try (with_reducible rfl)
     try simp only [tkA, tkB, tkC]
     refine tk 12 28 (v := ?_) ?_ ?_
     rotate_left
     ·intro w' hSw; clear hSw; go_simp; try (with_reducible rfl)
     try simp only [tkA, tkB, tkC]
     refine tk 13 29 (v := ?_) ?_ ?_
     rotate_left
     ·intro w' hSw; clear hSw; go_simp; try (with_reducible rfl)
     try simp only [tkA, tkB, tkC]
     refine wpAnyH_ready (rs := [14]) (by kernel_rfl) (by simp) ?_
     refine AllReadyH.cons rfl (fun K hK => ?_) AllReadyH.nil
     go_simp
     go_at_call 102
     refine (kW _).mono ?_
     rintro e w1 ⟨rfl, hb1⟩
     have u1 : Up wr w1 := hHeld.trans (Up.of hb1)
     refine hK.out _ _ u1 (fun hHeld => ?_)
     clear hK K hHeld
     refine wpAnyH_more (S' := fun w' => Up w1 w') (fun w' h => Up.trans u1 h) _ _ _ _ ?_
     have hHeld := Up.refl w1
     refine tk 15 31 (v := ?_) ?_ ?_
     rotate_left
     ·intro w' hSw; clear hSw; go_simp; try (with_reducible rfl)
     try simp only [tkA, tkB, tkC]
     refine wpAnyH_done (by kernel_rfl) ?_ _
     refine NoPanic.normal ?_
     clear hHeld
     have u1' := Lib.hid u1
     clear u1 hb1
     go_wp2_with fail
     go_ret
     exact ⟨by rw [HR.out, HP.out]; rfl, stepB hbe'.out u1'.out.b⟩
  ·obtain rfl : k = xs.length := by omega
   have t1 : decide ((xs.length : Int) < (xs.length : Int)) = false := by simp
   have HP := Lib.hid (any_end (p := q) (l := opL xs) (by rw [opL_len]; exact hK.out))
   go_wp2_with fail
   go_ret
   exact ⟨by rw [HR.out, HP.out]; rfl, hbe⟩
end Go.Proofs.YtcomeidcmcegfaaGreatDoor
namespace Go.Proofs.YtcomeidcmcegfaaGreatDoor
open Go.RowKit
set_option linter.unusedVariables false
set_option linter.unusedSimpArgs false
def SeenRel (w : World) (xs : List OX) (vi : Value) (wr : World) : Prop :=
 ∃ k : Nat, k ≤ xs.length ∧ vi = .int .i64 k ∧ Below w.heap.size w wr ∧ Blk wr w.heap.size 3 ((seenOf ((opL xs).take k)).map I64).toArray
theorem take_snoc (l : List OP) (k : Nat) (hk : k < l.length) : l.take (k + 1) = l.take k ++ [l[k]] := List.take_succ_eq_append_getElem hk
theorem seen_own {w W : World} {Z : List Int} (h15 : Z.length = 15) (h : Blk W w.heap.size 3 (Z.map I64).toArray) : Own W w.heap.size 3 1 (.slice (some ⟨w.heap.size, 0, none⟩) 15 15) 15 (Z.map I64) := by
 refine .inl ⟨by simp [h15], .inr ⟨w.heap.size, 15, (Z.map I64).toArray, rfl, Nat.le_refl _, h, Nat.le_refl _, by decide, by simp [h15], ?_⟩⟩
 simp only [Nat.mul_one]
 rw [List.take_of_length_le (by simp [h15])]
set_option maxRecDepth 100000 in
set_option maxHeartbeats 8000000 in
theorem rseen_any (w : World) (A : Option Addr) (c : Nat) (xs : List OX) (hx : OpsRd w A xs) (hl : xs.length ≤ 100000000) (hr : ∀ p ∈ opL xs, rightB p.ac p.ad = true) :
 Calls Tryz.prog 62 #[.slice A xs.length c] w (RetInts (seenOf (opL xs)) w) := by
 have hmk : ∀ w, (Instr.makeSlice 24 (.int .i64 15) (.int .i64 15)).run Tryz.prog w = .ok (.slice (some ⟨w.heap.size, 0, none⟩) 15 15) (w.alloc (.cells ((seenOf []).map I64).toArray 3)) := fun _ => by rw [seen_zero]; kernel_rfl
 go_enter Tryz.func62, Tryz.ntmps62
 go_wp2_with fail
 go_loopw [4] (SeenRel w xs) (fun i _ => xs.length - (intOf i).toNat)
 case atStart => exact ⟨0, Nat.zero_le _, rfl, (Below.refl _ w).alloc (Nat.le_refl _) _, Blk.new w _ _⟩
 case round =>
  obtain ⟨k, hk, rfl, hbe, hZ⟩ := hrel
  by_cases hlt : k < xs.length
  ·have t1 : decide ((k : Int) < (xs.length : Int)) = true := decide_eq_true (by omega)
   have t2 : (k : Int) < (xs.length : Int) := by omega
   have t3 : 0 ≤ (k : Int) := by omega
   obtain ⟨b, off, rfl, hblt, hrg⟩ := hx.range hlt
   have hlt' : k < (opL xs).length := by rw [opL_len]; exact hlt
   have hrk := hr _ (List.getElem_mem hlt')
   have hS := take_snoc (opL xs) k hlt'
   have hst := seen_step ((opL xs).take k) (opL xs)[k] hrk
   rw [← hS] at hst
   simp only [opL_get xs k hlt] at hst hrk
   have h15 := seen15 ((opL xs).take k)
   generalize seenOf ((opL xs).take k) = Z at *
   clear hr
   generalize xs[k] = x at *
   obtain ⟨r1, r2, r3, r4⟩ := (rightB_iff _ _).1 hrk
   obtain ⟨d, hd⟩ := Int.eq_ofNat_of_zero_le (show 0 ≤ x.o.ad - 1 by omega)
   have hdl : d < Z.length := by omega
   have hst := Lib.hid (hst d (by omega) hdl)
   have hwr : IntKind.i64.wrap (x.o.ad - 1) = (d : Int) := by rw [IntWalk.i64_in _ (by omega)]; exact hd
   have u1 : (d : Int) < 15 := by omega
   have u2 : 0 ≤ (d : Int) := by omega
   have cZ : wr.cell? ⟨w.heap.size, d, none⟩ = some (.int .i64 Z[d]) := by rw [hZ.cell]; simp [I64, hdl]
   have fZ := hZ.free d
   generalize hzz : Z[d] = z at *
   have m0 : ∀ w', Below w.heap.size w w' → w'.cell? ⟨b, off + k * 15, none⟩ = some (.int .i64 x.o.ac) := fun w' u => (u.cell hblt).trans (hrg 0 _ rfl)
   have m1 : ∀ w', Below w.heap.size w w' → w'.cell? ⟨b, off + k * 15 + 1, none⟩ = some (.int .i64 x.o.ad) := fun w' u => (u.cell hblt).trans (hrg 1 _ rfl)
   have hbd : Below w.heap.size w wr.drew := stepB hbe (Up.drew wr).b
   have hbe' := Lib.hid hbe
   have hZ' := Lib.hid hZ
   clear hrg hbe hZ hrk r1 r2 r3 r4 hd hS
   go_wp2_with fail
   refine wp_region_noPanic ?_
   refine wp_region_held_drew (S := fun w' => Below w.heap.size w w') (by kernel_rfl) hbd (fun hHeld => ?_)
   refine tk 0 12 (v := ?_) ?_ ?_
   rotate_left
   ·intro w' hSw; clear hSw; go_simp; try (with_reducible rfl)
   try simp only [tkA, tkB, tkC]
   refine tk 1 13 (v := ?_) ?_ ?_
   rotate_left
   ·intro w' hSw; clear hSw; go_simp; try (with_reducible rfl)
   try simp only [tkA, tkB, tkC]
   refine tk 2 14 (v := ?_) ?_ ?_
   rotate_left
   ·intro w' hSw; clear hSw; go_simp; try (with_reducible rfl)
   try simp only [tkA, tkB, tkC]
   refine tk 3 15 (v := ?_) ?_ ?_
   rotate_left
   ·intro w' hSw; clear hSw; go_simp; try (with_reducible rfl)
   try simp only [tkA, tkB, tkC]
   refine tk 4 16 (v := ?_) ?_ ?_
   rotate_left
   ·intro w' hSw; clear hSw; go_simp; try (with_reducible rfl)
   try simp only [tkA, tkB, tkC]
   refine tk 5 17 (v := ?_) ?_ ?_
   rotate_left
   ·intro w' hSw; clear hSw; go_simp; try (with_reducible rfl)
   try simp only [tkA, tkB, tkC]
   refine tk 6 18 (v := ?_) ?_ ?_
   rotate_left
   ·intro w' hS0; go_simp; try (with_reducible rfl)
   try simp only [tkA, tkB, tkC]
   refine tk 7 19 (v := ?_) ?_ ?_
   rotate_left
   ·intro w' hSw; clear hSw; go_simp; try (with_reducible rfl)
   try simp only [tkA, tkB, tkC]
   refine tk 8 20 (v := ?_) ?_ ?_
   rotate_left
   ·intro w' hSw; clear hSw; go_simp; try (with_reducible rfl)
   try simp only [tkA, tkB, tkC]
   refine tk 9 21 (v := ?_) ?_ ?_
   rotate_left
   ·intro w' hSw; clear hSw; go_simp; try (with_reducible rfl)
   try simp only [tkA, tkB, tkC]
   refine tk 10 22 (v := ?_) ?_ ?_
   rotate_left
   ·intro w' hSw; clear hSw; go_simp; try (with_reducible rfl)
   try simp only [tkA, tkB, tkC]
   refine tk 11 23 (v := ?_) ?_ ?_
   rotate_left
   ·intro w' hSw; clear hSw; go_simp; try (with_reducible rfl)
   try simp only [tkA, tkB, tkC]
   refine tk 12 24 (v := ?_) ?_ ?_
   rotate_left
   ·intro w' hSw; clear hSw; go_simp; try (with_reducible rfl)
   try simp only [tkA, tkB, tkC]
   refine tk 13 25 (v := ?_) ?_ ?_
   rotate_left
   ·intro w' hSw; clear hSw; go_simp; try (with_reducible rfl)
   try simp only [tkA, tkB, tkC]
   refine tk 14 26 (v := ?_) ?_ ?_
   rotate_left
   ·intro w' hS0; go_simp; try (with_reducible rfl)
   try simp only [tkA, tkB, tkC]
   refine tk 15 27 (v := ?_) ?_ ?_
   rotate_left
   ·intro w' hSw; clear hSw; go_simp; try (with_reducible rfl)
   try simp only [tkA, tkB, tkC]
   refine tk 16 28 (v := ?_) ?_ ?_
   rotate_left
   ·intro w' hSw; clear hSw; go_simp; try (with_reducible rfl)
   try simp only [tkA, tkB, tkC]
   refine tk 18 30 (v := ?_) ?_ ?_
   rotate_left
   ·intro w' hSw; clear hSw; go_simp; try (with_reducible rfl)
   try simp only [tkA, tkB, tkC]
   refine tk 19 31 (v := ?_) ?_ ?_
   rotate_left
   ·intro w' hSw; clear hSw; go_simp; try (with_reducible rfl)
   try simp only [tkA, tkB, tkC]
   refine tk 20 32 (v := ?_) ?_ ?_
   rotate_left
   ·intro w' hSw; clear hSw; go_simp; try (with_reducible rfl)
   try simp only [tkA, tkB, tkC]
   refine tk 21 33 (v := ?_) ?_ ?_
   rotate_left
   ·intro w' hSw; clear hSw; go_simp; try (with_reducible rfl)
   try simp only [tkA, tkB, tkC]
   refine tk 22 34 (v := ?_) ?_ ?_
   rotate_left
   ·intro w' hSw; clear hSw; go_simp; try (with_reducible rfl)
   try simp only [tkA, tkB, tkC]
   refine tk 23 35 (v := ?_) ?_ ?_
   rotate_left
   ·intro w' hS0; go_simp; try (with_reducible rfl)
   try simp only [tkA, tkB, tkC]
   refine wpAnyH_ready (rs := [17]) (by kernel_rfl) (by simp) ?_
   refine AllReadyH.cons rfl (fun K hK => ?_) AllReadyH.nil
   go_simp
   refine hK.out _ _ hHeld (fun hHeld => ?_)
   clear hK K
   refine tk 24 36 (v := ?_) ?_ ?_
   rotate_left
   ·intro w' hSw; clear hSw; go_simp; try (with_reducible rfl)
   try simp only [tkA, tkB, tkC]
   refine tk 25 37 (v := ?_) ?_ ?_
   rotate_left
   ·intro w' hSw; clear hSw; go_simp; try (with_reducible rfl)
   try simp only [tkA, tkB, tkC]
   refine wpAnyH_ready (rs := [26]) (by kernel_rfl) (by simp) ?_
   refine AllReadyH.cons rfl (fun K hK => ?_) AllReadyH.nil
   go_simp
   refine hK.out _ _ (hHeld.setCell (p := ⟨w.heap.size, d, none⟩) (Nat.le_refl _) _) (fun hHeld => ?_)
   clear hK K
   refine wpAnyH_done (by kernel_rfl) ?_ _
   refine NoPanic.normal ?_
   clear hHeld
   go_wp2_with fail
   go_roundw
   case rel =>
    refine ⟨k + 1, hlt, by go_num, stepB (hbe'.out.setCell (p := ⟨w.heap.size, d, none⟩) (Nat.le_refl _) _) (Up.drew _).b, ?_⟩
    rw [hst.out]
    have h := (hZ'.out.set d (.int .i64 (max z x.o.ac))).up (Up.drew _)
    rw [List.setIfInBounds_toArray] at h
    rw [List.map_set]
    exact h
   case measure => simp [intOf]; omega
  ·obtain rfl : k = xs.length := by omega
   have t1 : decide ((xs.length : Int) < (xs.length : Int)) = false := by simp
   go_wp2_with fail
   go_ret
   rw [show (opL xs).take xs.length = opL xs by rw [← opL_len xs, List.take_length]] at hZ
   exact ⟨some ⟨w.heap.size, 0, none⟩, 15, by rw [seen15]; rfl, by rw [seen15]; exact seen_own (seen15 _) hZ, hbe⟩
end Go.Proofs.YtcomeidcmcegfaaGreatDoor
