/-
  The walks of the small functions of layer 49: span.Right, wanted, first, added, named, set, over. Conditions: numbers are ints; utf8's tables lie as their initialisers lay them.
  The walks of named, set and over of layer 49. Conditions: numbers are ints; utf8's tables lie as their initialisers lay them.
  The walk of over of layer 49. Conditions: the list reads as pairs of ints.
  The walk of Check of layer 49. Conditions: the operation reads as its type says; utf8's tables lie as their initialisers lay them.
  The walk of Bytes of layer 49. Conditions: the operation reads as its type says; utf8's tables lie as their initialisers lay them.
-/
import Derived.Test.YtcomeidcmcegfaaGreatDoorTextWalk
import Derived.Test.YtcomeidcmcegfaaGreatDoorClockOf
import Derived.Test.YtcomeidcmcegfaaGreatDoorZE
import Derived.IntWalk
import Derived.Deep.DeepCutAuto
namespace Go.Proofs.YtcomeidcmcegfaaGreatDoor
open Go.RowKit
set_option linter.unusedVariables false
set_option maxHeartbeats 400000 in
theorem span_any (w : World) (a b : Int) :
 Calls Tryz.prog 92 #[.agg #[.int .i64 a, .int .i64 b]] w fun e w' => e = .returned (.bool (spanB a b)) ∧ w.alloc (.cells #[.int .i64 a, .int .i64 b] 38) = w' := by
 have hi : spanB a b = true ↔ (0 ≤ a ∧ a < b ∧ b ≤ 86400000) := by unfold spanB; exact decide_eq_true_iff
 have H := Lib.hid hi
 clear hi
 go_enter Tryz.func92, Tryz.ntmps92
 go_wp2
 all_goals
  go_ret
  exact ⟨ret_bool (by rw [Bool.eq_iff_iff, H.out]; simp; omega), rfl⟩
theorem span_neq (a b c d : Int) (w : World) : (binOp .neq 38 (.agg #[.int .i64 a, .int .i64 b]) (.agg #[.int .i64 c, .int .i64 d])).run Tryz.prog w = .ok (.bool (!(a == c && b == d))) w := by
 by_cases h1 : a = c <;> by_cases h2 : b = d <;> simp_all [go_sem]
set_option maxHeartbeats 400000 in
theorem wanted_any (w : World) (b : Bool) : Calls Tryz.prog 68 #[.bool b] w fun e w' => e = .returned (.int .i64 (if b = true then 0 else 1)) ∧ w = w' := by
 rcases b with _ | _
 all_goals
  go_enter Tryz.func68, Tryz.ntmps68
  go_wp2
  go_ret
  exact ⟨rfl, rfl⟩
def firstE : List Int → Int
 | [] => 0
 | x :: l => orE x (firstE l)
theorem firstE_drop (l : List Int) (k : Nat) (hk : k < l.length) : firstE (l.drop k) = orE l[k] (firstE (l.drop (k + 1))) := by rw [List.drop_eq_getElem_cons hk]; rfl
set_option maxHeartbeats 1000000 in
theorem first_list (w : World) (A : Option Addr) (l : List Int) (c : Nat) (h : Rd w A (l.map I64)) (hl : l.length ≤ 1000) : Calls Tryz.prog 67 #[.slice A l.length c] w fun e w' => e = .returned (.int .i64 (firstE l)) ∧ w = w' := by
 go_enter Tryz.func67, Tryz.ntmps67
 go_wp2
 go_loop [7] (fun i => ∃ k : Nat, k ≤ l.length ∧ i = .int .i64 k ∧ Hid (firstE l = firstE (l.drop k))) (fun i => l.length - (intOf i).toNat)
 case atStart => exact ⟨0, by omega, rfl, rfl⟩
 case round =>
  obtain ⟨k, hk, rfl, hK⟩ := hrel
  by_cases hlt : k < l.length
  ·have p1 : decide ((k : Int) < (l.length : Int)) = true := decide_eq_true (by omega)
   obtain ⟨b, off, rfl, hb, hck⟩ := h.at64 hlt
   have HD := Lib.hid (firstE_drop l k hlt)
   generalize l[k] = x at *
   by_cases h0 : x = 0
   ·have p2 : (x != 0) = false := by simpa using h0
    have H0 := Lib.hid h0
    clear h0
    go_wp2
    go_round
    case rel => exact ⟨k + 1, by omega, by go_num, by rw [Hid, hK.out, HD.out, orE, if_pos H0.out]⟩
    case measure => simp [intOf]; omega
   ·have p2 : (x != 0) = true := by simpa using h0
    have H0 := Lib.hid h0
    clear h0
    go_wp2
    go_ret
    exact ⟨by rw [hK.out, HD.out, orE, if_neg H0.out]; rfl, rfl⟩
  ·obtain rfl : k = l.length := by omega
   have p1 : decide ((l.length : Int) < (l.length : Int)) = false := by simp
   have HH : Hid (firstE l = 0) := by rw [Hid, hK.out, List.drop_length]; rfl
   go_wp2
   go_ret
   exact ⟨by rw [HH.out]; rfl, rfl⟩
def OpAt (w : World) (b : Nat) (o : OP) (A : Option Addr) (c : Nat) : Prop :=
 (w.cell? ⟨b, 0, none⟩ = some (.int .i64 o.ac) ∧ w.cell? ⟨b, 1, none⟩ = some (.int .i64 o.ad) ∧ w.cell? ⟨b, 2, none⟩ = some (.int .i64 o.kd) ∧ w.cell? ⟨b, 3, none⟩ = some (.int .i64 o.rc)) ∧
 (w.cell? ⟨b, 4, none⟩ = some (.int .i64 o.id) ∧ w.cell? ⟨b, 5, none⟩ = some (.int .i64 o.ti) ∧ w.cell? ⟨b, 6, none⟩ = some (.int .i64 o.pa) ∧ w.cell? ⟨b, 7, none⟩ = some (.int .i64 o.sf) ∧ w.cell? ⟨b, 8, none⟩ = some (.int .i64 o.st) ∧ w.cell? ⟨b, 9, none⟩ = some (.int .i64 o.rk) ∧
  w.cell? ⟨b, 10, none⟩ = some (.string ⟨o.nt.toArray⟩)) ∧
 (w.cell? ⟨b, 11, none⟩ = some (.int .i64 o.se) ∧ w.cell? ⟨b, 12, none⟩ = some (.int .i64 o.nn) ∧ w.cell? ⟨b, 13, none⟩ = some (.string ⟨o.tx.toArray⟩) ∧ w.cell? ⟨b, 14, none⟩ = some (.slice A o.ov.length c))
theorem OpAt.of {w : World} {b : Nat} {o : OP} {A : Option Addr} {c : Nat} (h : ∀ j u, (opC o A c)[j]? = some u → w.cell? ⟨b, j, none⟩ = some u) : OpAt w b o A c :=
 ⟨⟨h 0 _ rfl, h 1 _ rfl, h 2 _ rfl, h 3 _ rfl⟩, ⟨h 4 _ rfl, h 5 _ rfl, h 6 _ rfl, h 7 _ rfl, h 8 _ rfl, h 9 _ rfl, h 10 _ rfl⟩, ⟨h 11 _ rfl, h 12 _ rfl, h 13 _ rfl, h 14 _ rfl⟩⟩
theorem OpAt.new (w : World) (o : OP) (A : Option Addr) (c : Nat) (t : TypeId) : OpAt (w.alloc (.cells (opC o A c).toArray t)) w.heap.size o A c :=
 OpAt.of fun j u hu => by rw [cell_of_row _ _ _ _ _ _ (heap_alloc_new w _)]; simpa using hu
theorem OpAt.up {w w' : World} {b : Nat} {o : OP} {A : Option Addr} {c : Nat} (h : OpAt w b o A c) (u : Up w w') : OpAt w' b o A c := by
 obtain ⟨⟨a0, a1, a2, a3⟩, ⟨b0, b1, b2, b3, b4, b5, b6⟩, ⟨d0, d1, d2, d3⟩⟩ := h
 exact ⟨⟨u.cell a0, u.cell a1, u.cell a2, u.cell a3⟩, ⟨u.cell b0, u.cell b1, u.cell b2, u.cell b3, u.cell b4, u.cell b5, u.cell b6⟩, ⟨u.cell d0, u.cell d1, u.cell d2, u.cell d3⟩⟩
theorem tierB_yes {o : OP} (h : tierB o = true) : decide (o.ti < 0) = false ∧ decide (12 ≤ o.ti) = false ∧ decide (o.pa < 0) = false ∧ decide (1099511627776 < o.pa) = false ∧ decide (o.rk < 0) = false ∧ decide (300 < o.rk) = false := by
 unfold tierB at h
 have := of_decide_eq_true h
 simp only [decide_eq_false_iff_not]
 omega
theorem tierB_no {o : OP} (h : tierB o = false) : decide (o.ti < 0) = true ∨ (decide (o.ti < 0) = false ∧ decide (12 ≤ o.ti) = true) ∨ (decide (o.ti < 0) = false ∧ decide (12 ≤ o.ti) = false ∧ decide (o.pa < 0) = true) ∨
 (decide (o.ti < 0) = false ∧ decide (12 ≤ o.ti) = false ∧ decide (o.pa < 0) = false ∧ decide (1099511627776 < o.pa) = true) ∨
 (decide (o.ti < 0) = false ∧ decide (12 ≤ o.ti) = false ∧ decide (o.pa < 0) = false ∧ decide (1099511627776 < o.pa) = false ∧ decide (o.rk < 0) = true) ∨
 (decide (o.ti < 0) = false ∧ decide (12 ≤ o.ti) = false ∧ decide (o.pa < 0) = false ∧ decide (1099511627776 < o.pa) = false ∧ decide (o.rk < 0) = false ∧ decide (300 < o.rk) = true) := by
 unfold tierB at h
 have := of_decide_eq_false h
 simp only [decide_eq_false_iff_not, decide_eq_true_eq]
 omega
def noteC (o : OP) : List Value := [.int .i64 o.id, .int .i64 o.ti, .int .i64 o.pa, .int .i64 o.sf, .int .i64 o.st, .int .i64 o.rk, .string ⟨o.nt.toArray⟩]
def NoteAt (w : World) (b : Nat) (o : OP) : Prop :=
 w.cell? ⟨b, 0, none⟩ = some (.int .i64 o.id) ∧ w.cell? ⟨b, 1, none⟩ = some (.int .i64 o.ti) ∧ w.cell? ⟨b, 2, none⟩ = some (.int .i64 o.pa) ∧ w.cell? ⟨b, 3, none⟩ = some (.int .i64 o.sf) ∧ w.cell? ⟨b, 4, none⟩ = some (.int .i64 o.st) ∧ w.cell? ⟨b, 5, none⟩ = some (.int .i64 o.rk) ∧
  w.cell? ⟨b, 6, none⟩ = some (.string ⟨o.nt.toArray⟩)
theorem NoteAt.new (w : World) (o : OP) (t : TypeId) (n : Nat) (hn : n = w.heap.size) : NoteAt (w.alloc (.cells (noteC o).toArray t)) n o := by
 subst hn
 have key : ∀ j u, (noteC o)[j]? = some u → (w.alloc (.cells (noteC o).toArray t)).cell? ⟨w.heap.size, j, none⟩ = some u := fun j u hu => by rw [cell_of_row _ _ _ _ _ _ (heap_alloc_new w _)]; simpa using hu
 exact ⟨key 0 _ rfl, key 1 _ rfl, key 2 _ rfl, key 3 _ rfl, key 4 _ rfl, key 5 _ rfl, key 6 _ rfl⟩
theorem NoteAt.up {w w' : World} {b : Nat} {o : OP} (h : NoteAt w b o) (u : Up w w') : NoteAt w' b o := by
 obtain ⟨b0, b1, b2, b3, b4, b5, b6⟩ := h
 exact ⟨u.cell b0, u.cell b1, u.cell b2, u.cell b3, u.cell b4, u.cell b5, u.cell b6⟩
theorem stepB {w W W' : World} (h : Below w.heap.size w W) (hb : Below W.heap.size W W') : Below w.heap.size w W' := h.trans (hb.mono h.size)
theorem Up.alloc' (w : World) (o : Obj) : Up w (w.alloc o) := Up.of ((Below.refl _ _).alloc (Nat.le_refl _) o)
theorem timeB_no {o : OP} (h : timeB o = false) : (o.sf == 0 && o.st == 0) = false ∧ spanB o.sf o.st = false := by
 unfold timeB at h
 rw [Bool.or_eq_false_iff] at h
 refine ⟨?_, h.2⟩
 have := of_decide_eq_false h.1
 rw [Bool.and_eq_false_iff, beq_eq_false_iff_ne, beq_eq_false_iff_ne]
 omega
theorem timeB_yes {o : OP} (h : timeB o = true) : (o.sf == 0 && o.st == 0) = true ∨ ((o.sf == 0 && o.st == 0) = false ∧ spanB o.sf o.st = true) := by
 unfold timeB at h
 rw [Bool.or_eq_true] at h
 rcases hz : (o.sf == 0 && o.st == 0) with _ | _
 ·refine .inr ⟨rfl, ?_⟩
  rcases h with h | h
  ·have := of_decide_eq_true h
   rw [this.1, this.2] at hz
   cases hz
  ·exact h
 ·exact .inl rfl
set_option maxRecDepth 100000 in
set_option maxHeartbeats 4000000 in
theorem added_any (w : World) (o : OP) (A : Option Addr) (c : Nat) (hn : o.nt.length ≤ maxLen) (hT : Tabs w) : Calls Tryz.prog 69 #[opV o A c] w (RetInt (addedE o) w) := by
 unfold opV opC
 have kI := fun w => id_any w o.ac o.ad
 have kT := fun w h => text_any w o.nt hn h
 have kS := fun w => span_any w o.sf o.st
 have hE : Hid (addedE o = if o.id = idOf o.ac o.ad then (if tierB o = true then (if timeB o = true then textE o.nt else 12) else 2) else 1) := rfl
 generalize textE o.nt = TE at *
 generalize idOf o.ac o.ad = ID at *
 by_cases hi : o.id = ID
 ·have q0 : (o.id != ID) = false := by simpa using hi
  have q1 : (o.id == ID) = true := beq_iff_eq.2 hi
  have hE := Lib.hid (hE.out.trans (if_pos hi))
  clear hi
  rcases ht : tierB o with _ | _
  ·rcases tierB_no ht with h1 | h1 | h1 | h1 | h1 | h1
   all_goals
    have HR : Hid (addedE o = 2) := by rw [Hid, hE.out, ht]; rfl
    clear hE ht
    go_enter Tryz.func69, Tryz.ntmps69
    go_wp2
    obtain ⟨W1, hW1⟩ : ∃ x, (w.alloc (.cells (opC o A c).toArray 43)).alloc (.cells (noteC o).toArray 40) = x := ⟨_, rfl⟩
    have hb1 : Below w.heap.size w W1 := by rw [← hW1]; exact ((Below.refl _ _).alloc (Nat.le_refl _) _).alloc (by simp) _
    have ho : OpAt W1 w.heap.size o A c := by rw [← hW1]; exact (OpAt.new ..).up (Up.alloc' _ _)
    have hN : NoteAt W1 (w.heap.size + 1) o := by rw [← hW1]; exact NoteAt.new _ _ _ _ (by simp)
    unfold opC noteC at hW1
    simp only [hW1]
    clear hW1
    have l0 := fun w' (u : Up W1 w') => (ho.up u).1.1
    have l1 := fun w' (u : Up W1 w') => (ho.up u).1.2.1
    have l2 := fun w' (u : Up W1 w') => (hN.up u).1
    go_region_held3 (fun w' => Up W1 w') (first | exact Up.drew _ | exact Up.refl _ | exact Up.trans (by assumption) (Up.of (by assumption))) (first | (go_at_call 91; refine (kI _).mono ?_; rintro e w2 ⟨rfl, hb2⟩))
    clear l0 l1 l2
    have hu : Up W1 w2 := by first | assumption | exact Up.trans (by assumption) (Up.of hb2)
    have m := hN.up hu
    obtain ⟨m0, m1, m2, m3, m4, m5, m6⟩ := m
    go_wp2
    go_ret
    exact ⟨by rw [HR.out]; rfl, stepB hb1 hu.b⟩
  ·have h1 := tierB_yes ht
   have hE : Hid (addedE o = if timeB o = true then TE else 12) := by rw [Hid, hE.out, ht]; rfl
   clear ht
   rcases hs : timeB o with _ | _
   ·have h2 := timeB_no hs
    obtain ⟨h2, h3⟩ := h2
    have HR : Hid (addedE o = 12) := by rw [Hid, hE.out, hs]; rfl
    have kS : ∀ w, Calls Tryz.prog 92 #[.agg #[.int .i64 o.sf, .int .i64 o.st]] w fun e w' => e = .returned (.bool false) ∧ w.alloc (.cells #[.int .i64 o.sf, .int .i64 o.st] 38) = w' := fun w => by have := kS w; rwa [h3] at this
    have kn : ∀ w, (binOp .neq 38 (.agg #[.int .i64 o.sf, .int .i64 o.st]) (.agg #[.int .i64 0, .int .i64 0])).run Tryz.prog w = .ok (.bool true) w := fun w => by rw [span_neq, h2]; rfl
    clear hE hs h2 h3
    go_enter Tryz.func69, Tryz.ntmps69
    go_wp2
    obtain ⟨W1, hW1⟩ : ∃ x, (w.alloc (.cells (opC o A c).toArray 43)).alloc (.cells (noteC o).toArray 40) = x := ⟨_, rfl⟩
    have hb1 : Below w.heap.size w W1 := by rw [← hW1]; exact ((Below.refl _ _).alloc (Nat.le_refl _) _).alloc (by simp) _
    have ho : OpAt W1 w.heap.size o A c := by rw [← hW1]; exact (OpAt.new ..).up (Up.alloc' _ _)
    have hN : NoteAt W1 (w.heap.size + 1) o := by rw [← hW1]; exact NoteAt.new _ _ _ _ (by simp)
    unfold opC noteC at hW1
    simp only [hW1]
    clear hW1
    have l0 := fun w' (u : Up W1 w') => (ho.up u).1.1
    have l1 := fun w' (u : Up W1 w') => (ho.up u).1.2.1
    have l2 := fun w' (u : Up W1 w') => (hN.up u).1
    go_region_held3 (fun w' => Up W1 w') (first | exact Up.drew _ | exact Up.refl _ | exact Up.trans (by assumption) (Up.of (by assumption))) (first | (go_at_call 91; refine (kI _).mono ?_; rintro e w2 ⟨rfl, hb2⟩))
    clear l0 l1 l2
    have hu : Up W1 w2 := by first | assumption | exact Up.trans (by assumption) (Up.of hb2)
    have m := hN.up hu
    obtain ⟨m0, m1, m2, m3, m4, m5, m6⟩ := m
    go_wp2_with fail
    refine (kS _).mono ?_
    rintro e w3 ⟨rfl, rfl⟩
    go_wp2_with fail
    go_ret
    exact ⟨by rw [HR.out]; rfl, (stepB hb1 hu.b).alloc (Nat.le_trans hb1.size hu.b.size) _⟩
   ·have HR : Hid (addedE o = TE) := by rw [Hid, hE.out, hs]; rfl
    have h2 := timeB_yes hs
    clear hE hs
    rcases h2 with h2 | ⟨h2, h3⟩
    ·have kn : ∀ w, (binOp .neq 38 (.agg #[.int .i64 o.sf, .int .i64 o.st]) (.agg #[.int .i64 0, .int .i64 0])).run Tryz.prog w = .ok (.bool false) w := fun w => by rw [span_neq, h2]; rfl
     clear h2
     go_enter Tryz.func69, Tryz.ntmps69
     go_wp2
     obtain ⟨W1, hW1⟩ : ∃ x, (w.alloc (.cells (opC o A c).toArray 43)).alloc (.cells (noteC o).toArray 40) = x := ⟨_, rfl⟩
     have hb1 : Below w.heap.size w W1 := by rw [← hW1]; exact ((Below.refl _ _).alloc (Nat.le_refl _) _).alloc (by simp) _
     have ho : OpAt W1 w.heap.size o A c := by rw [← hW1]; exact (OpAt.new ..).up (Up.alloc' _ _)
     have hN : NoteAt W1 (w.heap.size + 1) o := by rw [← hW1]; exact NoteAt.new _ _ _ _ (by simp)
     unfold opC noteC at hW1
     simp only [hW1]
     clear hW1
     have l0 := fun w' (u : Up W1 w') => (ho.up u).1.1
     have l1 := fun w' (u : Up W1 w') => (ho.up u).1.2.1
     have l2 := fun w' (u : Up W1 w') => (hN.up u).1
     go_region_held3 (fun w' => Up W1 w') (first | exact Up.drew _ | exact Up.refl _ | exact Up.trans (by assumption) (Up.of (by assumption))) (first | (go_at_call 91; refine (kI _).mono ?_; rintro e w2 ⟨rfl, hb2⟩))
     clear l0 l1 l2
     have hu : Up W1 w2 := by first | assumption | exact Up.trans (by assumption) (Up.of hb2)
     have m := hN.up hu
     obtain ⟨m0, m1, m2, m3, m4, m5, m6⟩ := m
     go_wp2_with fail
     refine (kT _ (hT.below (stepB hb1 hu.b))).mono ?_
     rintro e w3 ⟨rfl, hb3⟩
     go_wp2_with fail
     go_ret
     exact ⟨by rw [HR.out]; rfl, stepB (stepB hb1 hu.b) hb3⟩
    ·have kS : ∀ w, Calls Tryz.prog 92 #[.agg #[.int .i64 o.sf, .int .i64 o.st]] w fun e w' => e = .returned (.bool true) ∧ w.alloc (.cells #[.int .i64 o.sf, .int .i64 o.st] 38) = w' := fun w => by have := kS w; rwa [h3] at this
     have kn : ∀ w, (binOp .neq 38 (.agg #[.int .i64 o.sf, .int .i64 o.st]) (.agg #[.int .i64 0, .int .i64 0])).run Tryz.prog w = .ok (.bool true) w := fun w => by rw [span_neq, h2]; rfl
     clear h2 h3
     go_enter Tryz.func69, Tryz.ntmps69
     go_wp2
     obtain ⟨W1, hW1⟩ : ∃ x, (w.alloc (.cells (opC o A c).toArray 43)).alloc (.cells (noteC o).toArray 40) = x := ⟨_, rfl⟩
     have hb1 : Below w.heap.size w W1 := by rw [← hW1]; exact ((Below.refl _ _).alloc (Nat.le_refl _) _).alloc (by simp) _
     have ho : OpAt W1 w.heap.size o A c := by rw [← hW1]; exact (OpAt.new ..).up (Up.alloc' _ _)
     have hN : NoteAt W1 (w.heap.size + 1) o := by rw [← hW1]; exact NoteAt.new _ _ _ _ (by simp)
     unfold opC noteC at hW1
     simp only [hW1]
     clear hW1
     have l0 := fun w' (u : Up W1 w') => (ho.up u).1.1
     have l1 := fun w' (u : Up W1 w') => (ho.up u).1.2.1
     have l2 := fun w' (u : Up W1 w') => (hN.up u).1
     go_region_held3 (fun w' => Up W1 w') (first | exact Up.drew _ | exact Up.refl _ | exact Up.trans (by assumption) (Up.of (by assumption))) (first | (go_at_call 91; refine (kI _).mono ?_; rintro e w2 ⟨rfl, hb2⟩))
     clear l0 l1 l2
     have hu : Up W1 w2 := by first | assumption | exact Up.trans (by assumption) (Up.of hb2)
     have hu3 : Up W1 (w2.alloc (.cells #[.int .i64 o.sf, .int .i64 o.st] 38)) := hu.trans (Up.alloc' _ _)
     have m := hN.up hu
     have n := hN.up hu3
     obtain ⟨m0, m1, m2, m3, m4, m5, m6⟩ := m
     obtain ⟨n0, n1, n2, n3, n4, n5, n6⟩ := n
     go_wp2_with fail
     refine (kS _).mono ?_
     rintro e w3 ⟨rfl, rfl⟩
     go_wp2_with fail
     refine (kT _ (hT.below (stepB hb1 hu3.b))).mono ?_
     rintro e w4 ⟨rfl, hb4⟩
     go_wp2_with fail
     go_ret
     exact ⟨by rw [HR.out]; rfl, stepB (stepB hb1 hu3.b) hb4⟩
 ·have q0 : (o.id != ID) = true := by simpa using hi
  have q1 : (o.id == ID) = false := beq_eq_false_iff_ne.2 hi
  have HR := Lib.hid (hE.out.trans (if_neg hi))
  clear hi hE
  go_enter Tryz.func69, Tryz.ntmps69
  go_wp2
  obtain ⟨W1, hW1⟩ : ∃ x, (w.alloc (.cells (opC o A c).toArray 43)).alloc (.cells (noteC o).toArray 40) = x := ⟨_, rfl⟩
  have hb1 : Below w.heap.size w W1 := by rw [← hW1]; exact ((Below.refl _ _).alloc (Nat.le_refl _) _).alloc (by simp) _
  have ho : OpAt W1 w.heap.size o A c := by rw [← hW1]; exact (OpAt.new ..).up (Up.alloc' _ _)
  have hN : NoteAt W1 (w.heap.size + 1) o := by rw [← hW1]; exact NoteAt.new _ _ _ _ (by simp)
  unfold opC noteC at hW1
  simp only [hW1]
  clear hW1
  have l0 := fun w' (u : Up W1 w') => (ho.up u).1.1
  have l1 := fun w' (u : Up W1 w') => (ho.up u).1.2.1
  have l2 := fun w' (u : Up W1 w') => (hN.up u).1
  go_region_held3 (fun w' => Up W1 w') (first | exact Up.drew _ | exact Up.refl _ | exact Up.trans (by assumption) (Up.of (by assumption))) (first | (go_at_call 91; refine (kI _).mono ?_; rintro e w2 ⟨rfl, hb2⟩))
  have hu : Up W1 w2 := by first | assumption | exact Up.trans (by assumption) (Up.of hb2)
  go_wp2
  go_ret
  exact ⟨by rw [HR.out]; rfl, stepB hb1 hu.b⟩
end Go.Proofs.YtcomeidcmcegfaaGreatDoor
namespace Go.Proofs.YtcomeidcmcegfaaGreatDoor
open Go.RowKit
set_option linter.unusedVariables false
theorem less_is (w : World) {r : Bool} {a b c d : Int} (h : lessB a b c d = r) : Calls Tryz.prog 46 #[.agg #[.int .i64 a, .int .i64 b], .agg #[.int .i64 c, .int .i64 d]] w (RetBool r w) := by
 subst h; exact less_any w a b c d
theorem of_is (w : World) {r : Bool} {n : Int} (hn : I64b n) (h : ofB n = r) : Calls Tryz.prog 94 #[.int .i64 n] w (RetStamp (ofC n) (ofD n) r w) := by
 subst h; exact of_any w n hn.1 hn.2
theorem note_neq (o : OP) (w : World) : (binOp .neq 40 (.agg #[.int .i64 o.id, .int .i64 o.ti, .int .i64 o.pa, .int .i64 o.sf, .int .i64 o.st, .int .i64 o.rk, .string ⟨o.nt.toArray⟩])
 (.agg #[.int .i64 o.id, .int .i64 0, .int .i64 0, .int .i64 0, .int .i64 0, .int .i64 0, .string ⟨#[]⟩])).run Tryz.prog w = .ok (.bool (!bareB o)) w := by
 obtain ⟨ac, ad, kd, rc, id, ti, pa, sf, st, rk, nt, se, nn, tx, ov⟩ := o
 unfold bareB
 dsimp only
 by_cases h1 : ti = 0
 ·by_cases h2 : pa = 0
  ·by_cases h3 : sf = 0
   ·by_cases h4 : st = 0
    ·by_cases h5 : rk = 0
     ·by_cases h6 : nt = []
      ·subst h1 h2 h3 h4 h5 h6; simp [go_sem]
      ·subst h1 h2 h3 h4 h5; simp [go_sem, h6]
     ·subst h1 h2 h3 h4; simp [go_sem, h5]
    ·subst h1 h2 h3; simp [go_sem, h4]
   ·subst h1 h2; simp [go_sem, h3]
  ·subst h1; simp [go_sem, h2]
 ·simp [go_sem, h1]
set_option maxRecDepth 100000 in
set_option maxHeartbeats 4000000 in
theorem named_any (w : World) (o : OP) (A : Option Addr) (c : Nat) (hn : I64b o.id) : Calls Tryz.prog 71 #[opV o A c] w (RetInt (namedE o) w) := by
 unfold opV opC
 have hE : Hid (namedE o = if (ofB o.id && lessB (ofC o.id) (ofD o.id) o.ac o.ad && bareB o) = true then 0 else 1) := rfl
 have kn := note_neq o
 rcases h1 : ofB o.id with _ | _
 ·have kO := fun w => of_is w hn h1
  have HR : Hid (namedE o = 1) := by rw [Hid, hE.out, h1]; rfl
  clear hE h1 kn
  go_enter Tryz.func71, Tryz.ntmps71
  go_wp2_with fail
  refine (kO _).mono ?_
  rintro e w2 ⟨rfl, hb2⟩
  have hb3 := (((Below.refl _ w).alloc (Nat.le_refl _) _).trans (hb2.mono (by simp)))
  clear kO hb2
  go_wp2_with fail
  go_ret
  exact ⟨by rw [HR.out]; rfl, hb3.alloc hb3.size _⟩
 ·have kO := fun w => of_is w hn h1
  rcases h2 : lessB (ofC o.id) (ofD o.id) o.ac o.ad with _ | _
  ·have kL := fun w => less_is w h2
   have HR : Hid (namedE o = 1) := by rw [Hid, hE.out, h1, h2]; rfl
   clear hE h1 h2 kn
   generalize ofC o.id = X at *
   generalize ofD o.id = Y at *
   go_enter Tryz.func71, Tryz.ntmps71
   go_wp2_with fail
   refine (kO _).mono ?_
   rintro e w2 ⟨rfl, hb2⟩
   have hb3 := (((Below.refl _ w).alloc (Nat.le_refl _) _).trans (hb2.mono (by simp)))
   have m := (OpAt.new w o A c 43).up ((Up.of hb2).trans (Up.alloc' _ (.cells #[.int .i64 X, .int .i64 Y] 36)))
   obtain ⟨⟨m0, m1, m2, m3⟩, -, -⟩ := m
   clear kO hb2
   go_wp2_with fail
   refine (kL _).mono ?_
   rintro e w4 ⟨rfl, hb4⟩
   go_wp2_with fail
   go_ret
   exact ⟨by rw [HR.out]; rfl, stepB (hb3.alloc hb3.size _) hb4⟩
  ·have kL := fun w => less_is w h2
   have hE2 : Hid (namedE o = if bareB o = true then 0 else 1) := by rw [Hid, hE.out, h1, h2]; rfl
   clear hE h1 h2
   generalize ofC o.id = X at *
   generalize ofD o.id = Y at *
   rcases h3 : bareB o with _ | _
   all_goals
    have HR := Lib.hid hE2.out
    rw [h3] at HR kn
    clear hE2 h3
    go_enter Tryz.func71, Tryz.ntmps71
    go_wp2_with fail
    refine (kO _).mono ?_
    rintro e w2 ⟨rfl, hb2⟩
    have hb3 := (((Below.refl _ w).alloc (Nat.le_refl _) _).trans (hb2.mono (by simp)))
    have hu := (Up.of hb2).trans (Up.alloc' _ (.cells #[.int .i64 X, .int .i64 Y] 36))
    have m := (OpAt.new w o A c 43).up hu
    obtain ⟨⟨m0, m1, m2, m3⟩, -, -⟩ := m
    clear kO hb2
    go_wp2_with fail
    refine (kL _).mono ?_
    rintro e w4 ⟨rfl, hb4⟩
    have m := (OpAt.new w o A c 43).up (hu.trans (Up.of hb4))
    obtain ⟨-, ⟨n4, n5, n6, n7, n8, n9, n10⟩, -⟩ := m
    go_wp2_with fail
    go_ret
    exact ⟨by rw [HR.out]; rfl, stepB (hb3.alloc hb3.size _) hb4⟩
set_option maxRecDepth 100000 in
set_option maxHeartbeats 4000000 in
theorem set_any (w : World) (o : OP) (A : Option Addr) (c : Nat) (hn : o.tx.length ≤ maxLen) (hT : Tabs w) : Calls Tryz.prog 70 #[opV o A c] w (RetInt (setE o) w) := by
 unfold opV opC
 have kT := fun w h => text_any w o.tx hn h
 have hE : Hid (setE o = if o.se = 0 then (if o.nn = 0 then textE o.tx else 1) else if o.se = 1 ∨ o.se = 2 then (if 0 ≤ o.nn ∧ o.nn ≤ 86400000 then (if o.tx = [] then 0 else 1) else 2) else 14) := rfl
 have hb1 : ∀ x, Below w.heap.size w (w.alloc x) := fun x => (Below.refl _ _).alloc (Nat.le_refl _) _
 have hb1 := Lib.hid hb1
 generalize textE o.tx = TE at *
 by_cases h0 : o.se = 0
 ·have p0 : (o.se == 0) = true := by simpa using h0
  by_cases h1 : o.nn = 0
  ·have p1 : (o.nn != 0) = false := by simpa using h1
   have HR : Hid (setE o = TE) := by rw [Hid, hE.out, if_pos h0, if_pos h1]
   clear hE h0 h1
   go_enter Tryz.func70, Tryz.ntmps70
   go_wp2_with fail
   refine (kT _ (hT.below (hb1.out _))).mono ?_
   rintro e w2 ⟨rfl, hb2⟩
   go_wp2_with fail
   go_ret
   exact ⟨by rw [HR.out]; rfl, stepB (hb1.out _) hb2⟩
  ·have p1 : (o.nn != 0) = true := by simpa using h1
   have HR : Hid (setE o = 1) := by rw [Hid, hE.out, if_pos h0, if_neg h1]
   clear hE h0 h1
   go_enter Tryz.func70, Tryz.ntmps70
   go_wp2_with fail
   go_ret
   exact ⟨by rw [HR.out]; rfl, hb1.out _⟩
 ·have p0 : (o.se == 0) = false := by simpa using h0
  by_cases h1 : o.se = 1 ∨ o.se = 2
  ·have p1 : (o.se == 1) = true ∨ ((o.se == 1) = false ∧ (o.se == 2) = true) := by
    by_cases h2 : o.se = 1
    ·exact .inl (by simpa using h2)
    ·exact .inr ⟨by simpa using h2, by simp; omega⟩
   have hE2 : Hid (setE o = if 0 ≤ o.nn ∧ o.nn ≤ 86400000 then (if o.tx = [] then 0 else 1) else 2) := by rw [Hid, hE.out, if_neg h0, if_pos h1]
   clear hE h0 h1
   by_cases h2 : 0 ≤ o.nn ∧ o.nn ≤ 86400000
   ·have q0 : decide (o.nn < 0) = false := decide_eq_false (by omega)
    have q1 : decide (86400000 < o.nn) = false := decide_eq_false (by omega)
    by_cases h3 : o.tx = []
    ·have HR : Hid (setE o = 0) := by rw [Hid, hE2.out, if_pos h2, if_pos h3]
     clear hE2 h2
     rw [h3]
     rcases p1 with p1 | ⟨p1, p2⟩
     all_goals
      go_enter Tryz.func70, Tryz.ntmps70
      go_wp2_with fail
      go_ret
      exact ⟨by rw [HR.out]; rfl, hb1.out _⟩
    ·have HR : Hid (setE o = 1) := by rw [Hid, hE2.out, if_pos h2, if_neg h3]
     have q3 : o.tx.isEmpty = false := by simpa using h3
     clear hE2 h2
     rcases p1 with p1 | ⟨p1, p2⟩
     all_goals
      go_enter Tryz.func70, Tryz.ntmps70
      go_wp2_with fail
      go_ret
      exact ⟨by rw [HR.out]; rfl, hb1.out _⟩
   ·have HR : Hid (setE o = 2) := by rw [Hid, hE2.out, if_neg h2]
    have q : decide (o.nn < 0) = true ∨ (decide (o.nn < 0) = false ∧ decide (86400000 < o.nn) = true) := by
     simp only [decide_eq_false_iff_not, decide_eq_true_eq]; omega
    clear hE2 h2
    rcases q with q | ⟨q, q'⟩
    all_goals
     rcases p1 with p1 | ⟨p1, p2⟩
     all_goals
      go_enter Tryz.func70, Tryz.ntmps70
      go_wp2_with fail
      go_ret
      exact ⟨by rw [HR.out]; rfl, hb1.out _⟩
  ·have p1 : (o.se == 1) = false := by simp; omega
   have p2 : (o.se == 2) = false := by simp; omega
   have HR : Hid (setE o = 14) := by rw [Hid, hE.out, if_neg h0, if_neg h1]
   clear hE h0 h1
   go_enter Tryz.func70, Tryz.ntmps70
   go_wp2_with fail
   go_ret
   exact ⟨by rw [HR.out]; rfl, hb1.out _⟩
end Go.Proofs.YtcomeidcmcegfaaGreatDoor
namespace Go.Proofs.YtcomeidcmcegfaaGreatDoor
open Go.RowKit
set_option linter.unusedVariables false
def prevAt (l : List (Int × Int)) (k : Nat) : Int × Int := if k = 0 then (0, 0) else l.getD (k - 1) (0, 0)
theorem prevAt_next {l : List (Int × Int)} {k : Nat} (hk : k < l.length) : prevAt l (k + 1) = l[k] := by
 unfold prevAt
 rw [if_neg (by omega), Nat.add_sub_cancel, List.getD, List.getElem?_eq_getElem hk]; rfl
theorem ovGo_drop {a b : Int} {l : List (Int × Int)} {k : Nat} {p : Int × Int} (hk : k < l.length) :
 ovGo a b k p (l.drop k) = if (rightB l[k].1 l[k].2 && lessB l[k].1 l[k].2 a b) = true then (if (decide (k = 0) || lessB p.1 p.2 l[k].1 l[k].2) = true then ovGo a b (k + 1) l[k] (l.drop (k + 1)) else 10) else 27 := by
 rw [List.drop_eq_getElem_cons hk, ovGo]
theorem flat2_at (l : List (Int × Int)) (k : Nat) (hk : k < l.length) : (ovL l)[k * 2]? = some (.int .i64 l[k].1) ∧ (ovL l)[k * 2 + 1]? = some (.int .i64 l[k].2) := by
 induction l generalizing k with
 | nil => simp at hk
 | cons p l ih =>
  rcases k with _ | k
  ·exact ⟨rfl, rfl⟩
  ·have := ih k (by simpa using hk)
   rw [ovL_flat] at this ⊢
   rw [List.flatMap_cons, show (k + 1) * 2 = (stC p).length + k * 2 by simp [stC]; omega, Nat.add_assoc, List.getElem?_append_right (by omega), List.getElem?_append_right (by omega), Nat.add_sub_cancel_left, Nat.add_sub_cancel_left]
   exact this
theorem ov_cells {w : World} {A : Option Addr} {l : List (Int × Int)} (h : Rd w A (ovL l)) {k : Nat} (hk : k < l.length) :
 ∃ b off, A = some ⟨b, off, none⟩ ∧ w.cell? ⟨b, off + k * 2, none⟩ = some (.int .i64 l[k].1) ∧ w.cell? ⟨b, off + k * 2 + 1, none⟩ = some (.int .i64 l[k].2) := by
 obtain ⟨h0, h1⟩ := flat2_at l k hk
 obtain ⟨b, off, e, hb, hc⟩ := h (by intro e; rw [e] at h0; simp at h0)
 exact ⟨b, off, e, hc _ _ h0, by have := hc _ _ h1; rwa [← Nat.add_assoc] at this⟩
theorem right_is (w : World) {r : Bool} {c d : Int} (h : rightB c d = r) : Calls Tryz.prog 48 #[.agg #[.int .i64 c, .int .i64 d]] w fun e w' => e = .returned (.bool r) ∧ w.alloc (.cells #[.int .i64 c, .int .i64 d] 36) = w' := by
 subst h; exact right_any w c d
def OverRel (w W1 : World) (o : OP) (vi : Value) (wr : World) : Prop :=
 ∃ k : Nat, k ≤ o.ov.length ∧ vi = .int .i64 k ∧ Hid (ovGo o.ac o.ad 0 (0, 0) o.ov = ovGo o.ac o.ad k (prevAt o.ov k) (o.ov.drop k)) ∧ Up W1 wr
set_option maxRecDepth 100000 in
set_option maxHeartbeats 4000000 in
theorem over_any (w : World) (o : OP) (A : Option Addr) (c : Nat) (hr : Rd w A (ovL o.ov)) (hl : o.ov.length ≤ maxLen) (hc : o.ov.length ≤ c) : Calls Tryz.prog 72 #[opV o A c] w (RetInt (overE o) w) := by
 unfold opV opC
 unfold maxLen at hl
 have hE : Hid (overE o = if o.ov = [] then 4 else if o.ov.length ≤ 16 then ovGo o.ac o.ad 0 (0, 0) o.ov else 11) := rfl
 have hb1 := Lib.hid (fun x => (Below.refl w.heap.size w).alloc (Nat.le_refl _) x)
 by_cases h0 : o.ov.length = 0
 ·have HR : Hid (overE o = 4) := by rw [Hid, hE.out, if_pos (List.eq_nil_of_length_eq_zero h0)]
  have p0 : ((o.ov.length : Int) == 0) = true := beq_iff_eq.2 (by omega)
  clear hE h0
  go_enter Tryz.func72, Tryz.ntmps72
  go_wp2_with fail
  go_ret
  exact ⟨by rw [HR.out]; rfl, hb1.out _⟩
 ·have p0 : ((o.ov.length : Int) == 0) = false := beq_eq_false_iff_ne.2 (by omega)
  by_cases h1 : o.ov.length ≤ 16
  ·have p1 : decide (16 < (o.ov.length : Int)) = false := decide_eq_false (by omega)
   have HR : Hid (overE o = ovGo o.ac o.ad 0 (0, 0) o.ov) := by rw [Hid, hE.out, if_neg (by intro e; rw [e] at h0; exact h0 rfl), if_pos h1]
   clear hE
   go_enter Tryz.func72, Tryz.ntmps72
   go_wp2_with fail
   obtain ⟨W1, hW1⟩ : ∃ x, w.alloc (.cells (opC o A c).toArray 43) = x := ⟨_, rfl⟩
   have hb1 : Below w.heap.size w W1 := by rw [← hW1]; exact (Below.refl _ _).alloc (Nat.le_refl _) _
   have ho : OpAt W1 w.heap.size o A c := by rw [← hW1]; exact OpAt.new ..
   have hz1 : w.heap.size < W1.heap.size := by rw [← hW1]; simp
   unfold opC at hW1
   simp only [hW1]
   clear hW1
   have hr1 := hr.below hb1
   go_loopw [16] (OverRel w W1 o) (fun i _ => o.ov.length - (intOf i).toNat)
   case atStart => exact ⟨0, by omega, rfl, rfl, Up.refl _⟩
   case round =>
    obtain ⟨k, hk, rfl, hK, hu⟩ := hrel
    by_cases hlt : k < o.ov.length
    ·have t1 : decide ((k : Int) < (o.ov.length : Int)) = true := decide_eq_true (by omega)
     obtain ⟨b, off, rfl, hc0, hc1⟩ := ov_cells (hu.rd hr1) hlt
     have hD := ovGo_drop (a := o.ac) (b := o.ad) (p := prevAt o.ov k) hlt
     have HD := Lib.hid hD
     have HPn := Lib.hid (prevAt_next hlt)
     clear hD
     obtain ⟨⟨x, y⟩, hxy⟩ : ∃ s, o.ov[k] = s := ⟨_, rfl⟩
     rw [hxy] at hc0 hc1 HD HPn
     have Hxy := Lib.hid hxy
     clear hxy
     dsimp only at hc0 hc1 HD
     have hua := hu.trans (Up.alloc' wr (.cells #[.int .i64 x, .int .i64 y] 36))
     rcases r1 : rightB x y with _ | _
     ·have HV : Hid (overE o = 27) := by rw [Hid, HR.out, hK.out, HD.out, r1]; rfl
      have kR := fun w => right_is w r1
      clear HD r1
      go_wp2_with fail
      refine (kR _).mono ?_
      rintro e w3 ⟨rfl, rfl⟩
      go_wp2_with fail
      go_ret
      exact ⟨by rw [HV.out]; rfl, stepB hb1 (hua.trans (Up.alloc' _ _)).b⟩
     ·have kR := fun w => right_is w r1
      have hub := hua.trans (Up.alloc' _ (.cells #[.int .i64 x, .int .i64 y] 36))
      have m := ho.up hub
      obtain ⟨⟨m0, m1, m2, m3⟩, -, -⟩ := m
      have hzr : w.heap.size < wr.heap.size := Nat.lt_of_lt_of_le hz1 hu.b.size
      rcases r2 : lessB x y o.ac o.ad with _ | _
      ·have HV : Hid (overE o = 27) := by rw [Hid, HR.out, hK.out, HD.out, r1, r2]; rfl
       have kL := fun w => less_is w r2
       clear HD r1 r2
       go_wp2_with fail
       refine (kR _).mono ?_
       rintro e w3 ⟨rfl, rfl⟩
       go_wp2_with fail
       refine (kL _).mono ?_
       rintro e w4 ⟨rfl, hb4⟩
       go_wp2_with fail
       go_ret
       exact ⟨by rw [HV.out]; rfl, stepB hb1 (hub.trans (Up.of hb4)).b⟩
      ·have kL := fun w => less_is w r2
       have HD2 : Hid (ovGo o.ac o.ad k (prevAt o.ov k) (o.ov.drop k) = if (decide (k = 0) || lessB (prevAt o.ov k).1 (prevAt o.ov k).2 x y) = true then ovGo o.ac o.ad (k + 1) (x, y) (o.ov.drop (k + 1)) else 10) := by rw [Hid, HD.out, r1, r2]; rfl
       clear HD r1 r2
       go_wp2_with fail
       refine (kR _).mono ?_
       rintro e w3 ⟨rfl, rfl⟩
       go_wp2_with fail
       refine (kL _).mono ?_
       rintro e w4 ⟨rfl, hb4⟩
       have huc := hub.trans (Up.of hb4)
       by_cases k0 : k = 0
       ·subst k0
        have g0 : decide ((0 : Int) < ((0 : Nat) : Int)) = false := by decide
        have HN : Hid (ovGo o.ac o.ad 0 (0, 0) o.ov = ovGo o.ac o.ad 1 (prevAt o.ov 1) (o.ov.drop 1)) := by rw [Hid, hK.out, HD2.out, HPn.out]; rfl
        go_wp2_with fail
        go_quiet (fail)
        go_wp2_with fail
        go_roundw
        case rel => exact ⟨1, by omega, rfl, HN, huc.trans (Up.of (below_drewN (Below.refl _ _) _))⟩
        case measure => simp [intOf]; omega
       ·obtain ⟨j, rfl⟩ : ∃ j, k = j + 1 := ⟨k - 1, by omega⟩
        have g0 : decide ((0 : Int) < ((j + 1 : Nat) : Int)) = true := decide_eq_true (by omega)
        obtain ⟨b', off', e', hp0, hp1⟩ := ov_cells (hu.rd hr1) (k := j) (by omega)
        cases e'
        have HPj := Lib.hid (prevAt_next (l := o.ov) (k := j) (by omega))
        generalize o.ov[j] = q at *
        obtain ⟨px, py⟩ := q
        have HD3 : Hid (ovGo o.ac o.ad (j + 1) (prevAt o.ov (j + 1)) (o.ov.drop (j + 1)) = if lessB px py x y = true then ovGo o.ac o.ad (j + 1 + 1) (x, y) (o.ov.drop (j + 1 + 1)) else 10) := by
         rw [Hid, HD2.out, HPj.out]; rfl
        clear HD2 HPj
        have hux := (Up.alloc' (wr.alloc (.cells #[.int .i64 x, .int .i64 y] 36)) (.cells #[.int .i64 x, .int .i64 y] 36)).trans (Up.of hb4)
        have s0 := hux.cell (cell_lit2 wr (.int .i64 x) (.int .i64 y) 36).1
        have s1 := hux.cell (cell_lit2 wr (.int .i64 x) (.int .i64 y) 36).2
        have s2 := (ho.up huc).2.2.2.2.2
        have hrw := ((Up.alloc' wr (.cells #[.int .i64 x, .int .i64 y] 36)).trans hux)
        have s3 := hrw.cell hp0
        have s4 := hrw.cell hp1
        have l0 := fun w' (u : Up w4 w') => u.cell s0
        have l1 := fun w' (u : Up w4 w') => u.cell s1
        have l2 := fun w' (u : Up w4 w') => u.cell s2
        have l3 := fun w' (u : Up w4 w') => u.cell s3
        have l4 := fun w' (u : Up w4 w') => u.cell s4
        have b1 : IntKind.i64.wrap (((j + 1 : Nat) : Int) - 1) = (j : Int) := by rw [IntWalk.i64_in _ (by omega)]; omega
        have b5 : IntKind.i64.wrap ((j : Int) + 1 - 1) = (j : Int) := by rw [IntWalk.i64_in _ (by omega)]; omega
        have b6 : IntKind.i64.wrap (j : Int) = (j : Int) := IntWalk.i64_in _ (by omega)
        have b2 : (j : Int) < (o.ov.length : Int) := by omega
        have b3 : 0 ≤ (j : Int) := by omega
        have b4 : j < o.ov.length := by omega
        clear m0 m1 m2 m3 hc0 hc1 hp0 hp1 s0 s1 s2 s3 s4 kL kR
        rcases r3 : lessB px py x y with _ | _
        ·have HV : Hid (overE o = 10) := by rw [Hid, HR.out, hK.out, HD3.out, r3]; rfl
         have kL := fun w => less_is w r3
         clear r3
         go_wp2_with fail
         go_region_held3 (fun w' => Up w4 w') (first | exact Up.drew _ | exact Up.refl _ | exact Up.trans (by assumption) (Up.of (by assumption))) (first | (go_at_call 46; refine (kL _).mono ?_; rintro e w5 ⟨rfl, hb5⟩))
         have hv : Up w4 w5 := by first | assumption | exact Up.trans (by assumption) (Up.of hb5)
         clear l0 l1 l2 l3 l4
         go_wp2
         go_ret
         exact ⟨by rw [HV.out]; rfl, stepB hb1 (huc.trans hv).b⟩
        ·have HN : Hid (ovGo o.ac o.ad 0 (0, 0) o.ov = ovGo o.ac o.ad (j + 1 + 1) (prevAt o.ov (j + 1 + 1)) (o.ov.drop (j + 1 + 1))) := by rw [Hid, hK.out, HD3.out, r3, HPn.out]; rfl
         have kL := fun w => less_is w r3
         clear r3
         go_wp2_with fail
         go_region_held3 (fun w' => Up w4 w') (first | exact Up.drew _ | exact Up.refl _ | exact Up.trans (by assumption) (Up.of (by assumption))) (first | (go_at_call 46; refine (kL _).mono ?_; rintro e w5 ⟨rfl, hb5⟩))
         have hv : Up w4 w5 := by first | assumption | exact Up.trans (by assumption) (Up.of hb5)
         clear l0 l1 l2 l3 l4
         go_wp2
         go_roundw
         case rel => exact ⟨j + 1 + 1, by omega, by go_num, HN, huc.trans hv⟩
         case measure => simp [intOf]; omega
    ·obtain rfl : k = o.ov.length := by omega
     have t1 : decide ((o.ov.length : Int) < (o.ov.length : Int)) = false := by simp
     have HV : Hid (overE o = 0) := by rw [Hid, HR.out, hK.out, List.drop_length]; rfl
     go_wp2_with fail
     go_ret
     exact ⟨by rw [HV.out]; rfl, stepB hb1 hu.b⟩
  ·have HR : Hid (overE o = 11) := by rw [Hid, hE.out, if_neg (by intro e; rw [e] at h0; exact h0 rfl), if_neg h1]
   have p1 : decide (16 < (o.ov.length : Int)) = true := decide_eq_true (by omega)
   clear hE h0 h1
   go_enter Tryz.func72, Tryz.ntmps72
   go_wp2_with fail
   go_ret
   exact ⟨by rw [HR.out]; rfl, hb1.out _⟩
end Go.Proofs.YtcomeidcmcegfaaGreatDoor
namespace Go.Proofs.YtcomeidcmcegfaaGreatDoor
open Go.RowKit
set_option linter.unusedVariables false
theorem plain_cases (o : OP) : (plainE o = 1 ∧ (o.se == 0) = false) ∨ (plainE o = 1 ∧ (o.se == 0) = true ∧ (o.nn == 0) = false) ∨ (plainE o = 1 ∧ (o.se == 0) = true ∧ (o.nn == 0) = true ∧ o.tx.isEmpty = false) ∨
 (plainE o = 0 ∧ (o.se == 0) = true ∧ (o.nn == 0) = true ∧ o.tx.isEmpty = true) := by
 unfold plainE
 by_cases h1 : o.se = 0
 ·by_cases h2 : o.nn = 0
  ·by_cases h3 : o.tx = []
   ·right; right; right; simp [h1, h2, h3]
   ·right; right; left; simp [h1, h2, h3]
  ·right; left; simp [h1, h2]
 ·left; simp [h1]
theorem recB_cases {o : OP} : (recB o = true ∧ decide (o.rc < 1) = false ∧ decide (1099511627776 < o.rc) = false) ∨ (recB o = false ∧ decide (o.rc < 1) = true) ∨ (recB o = false ∧ decide (o.rc < 1) = false ∧ decide (1099511627776 < o.rc) = true) := by
 unfold recB
 simp only [decide_eq_true_eq, decide_eq_false_iff_not]
 omega
theorem checkE_right {o : OP} (h : rightB o.ac o.ad = false) : checkE o = 27 := by unfold checkE; rw [h]; rfl
theorem checkE_add {o : OP} (h : rightB o.ac o.ad = true) (h1 : (o.kd == 0) = true) : checkE o = if recB o = true then orE (addedE o) (orE (plainE o) (noneE o)) else 2 := by
 have h2 : o.kd = 0 := by simpa using h1
 unfold checkE; rw [h, if_pos rfl, if_pos (by omega), if_pos h2]
theorem checkE_set {o : OP} (h : rightB o.ac o.ad = true) (h1 : (o.kd == 1) = true) : checkE o = if recB o = true then orE (namedE o) (orE (setE o) (overE o)) else 2 := by
 have h2 : o.kd = 1 := by simpa using h1
 unfold checkE; rw [h, if_pos rfl, if_pos (by omega), if_neg (show ¬ o.kd = 0 by omega), if_pos h2]
theorem checkE_drop {o : OP} (h : rightB o.ac o.ad = true) (h1 : (o.kd == 2) = true) : checkE o = if recB o = true then orE (namedE o) (orE (plainE o) (overE o)) else 2 := by
 have h2 : o.kd = 2 := by simpa using h1
 unfold checkE; rw [h, if_pos rfl, if_pos (by omega), if_neg (show ¬ o.kd = 0 by omega), if_neg (show ¬ o.kd = 1 by omega)]
theorem checkE_kind {o : OP} (h : rightB o.ac o.ad = true) (h0 : (o.kd == 0) = false) (h1 : (o.kd == 1) = false) (h2 : (o.kd == 2) = false) : checkE o = 14 := by
 simp at h0 h1 h2
 unfold checkE; rw [h, if_pos rfl, if_neg (by omega)]
theorem wanted_is (w : World) {b : Bool} {n : Int} (h : (if b = true then 0 else 1) = n) : Calls Tryz.prog 68 #[.bool b] w fun e w' => e = .returned (.int .i64 n) ∧ w = w' := by
 subst h; exact wanted_any w b
theorem first3 (w : World) (n : Nat) (x y z : Int) (h : Rd w (some ⟨n, 0, none⟩) [I64 x, I64 y, I64 z]) : Calls Tryz.prog 67 #[.slice (some ⟨n, 0, none⟩) 3 3] w fun e w' => e = .returned (.int .i64 (orE x (orE y z))) ∧ w = w' := by
 have := first_list w (some ⟨n, 0, none⟩) [x, y, z] 3 h (by simp)
 have e : firstE [x, y, z] = orE x (orE y z) := by
  show orE x (orE y (orE z 0)) = _
  have : orE z 0 = z := by unfold orE; split <;> omega
  rw [this]
 rwa [e] at this
set_option maxRecDepth 100000 in
set_option maxHeartbeats 8000000 in
theorem check_any (w : World) (o : OP) (A : Option Addr) (c : Nat) (ho : o.Bd) (hr : Rd w A (ovL o.ov)) (hc : o.ov.length ≤ c) (hT : Tabs w) : Calls Tryz.prog 40 #[opV o A c] w (RetInt (checkE o) w) := by
 unfold opV opC
 rcases h0 : rightB o.ac o.ad with _ | _
 ·have HR := Lib.hid (checkE_right h0)
  go_enter Tryz.func40, Tryz.ntmps40
  go_wp2_with fail
  refine (right_is _ h0).mono ?_
  rintro e w' ⟨rfl, rfl⟩
  go_wp2_with fail
  go_ret
  exact ⟨by rw [HR.out]; rfl, ((Below.refl _ _).alloc (Nat.le_refl _) _).alloc (by simp) _⟩
 ·have kA := fun w h => added_any w o A c ho.nt h
  have kN := fun w => named_any w o A c ho.id
  have kS := fun w h => set_any w o A c ho.tx h
  have kO := fun w' (hb : Below w.heap.size w w') => over_any w' o A c (hr.below hb) ho.ol hc
  unfold opV opC at kA kN kS kO
  have kW : ∀ w, Calls Tryz.prog 68 #[.bool ((o.ov.length : Int) == 0)] w fun e w' => e = .returned (.int .i64 (noneE o)) ∧ w = w' := fun w => wanted_is w (by unfold noneE; by_cases h : o.ov = [] <;> simp [h])
  have kp := plain_cases o
  have K0 := Lib.hid (fun h => checkE_add (o := o) h0 h)
  have K1 := Lib.hid (fun h => checkE_set (o := o) h0 h)
  have K2 := Lib.hid (fun h => checkE_drop (o := o) h0 h)
  have K3 := Lib.hid (fun a b c => checkE_kind (o := o) h0 a b c)
  have kR := fun w => right_is w h0
  clear h0
  generalize plainE o = PE at *
  generalize addedE o = AE at *
  generalize namedE o = NE at *
  generalize setE o = SE at *
  generalize overE o = OE at *
  generalize noneE o = ME at *
  go_enter Tryz.func40, Tryz.ntmps40
  go_wp2_with fail
  refine (kR _).mono ?_
  rintro e w' ⟨rfl, rfl⟩
  go_upto_region 3 with fail
  obtain ⟨W1, hW1⟩ : ∃ x, (w.alloc (.cells (opC o A c).toArray 43)).alloc (.cells #[.int .i64 o.ac, .int .i64 o.ad] 36) = x := ⟨_, rfl⟩
  have hb1 : Below w.heap.size w W1 := by rw [← hW1]; exact ((Below.refl _ _).alloc (Nat.le_refl _) _).alloc (by simp) _
  have hoa : OpAt W1 w.heap.size o A c := by rw [← hW1]; exact (OpAt.new ..).up (Up.alloc' _ _)
  unfold opC at hW1
  simp only [hW1]
  clear hW1
  go_cut [3] (fun s wx => s = .int .i64 PE ∧ W1 = wx)
  case first =>
   have m := hoa
   obtain ⟨-, -, ⟨m0, m1, m2, -⟩⟩ := m
   rcases kp with ⟨eP, p1⟩ | ⟨eP, p1, p2⟩ | ⟨eP, p1, p2, p3⟩ | ⟨eP, p1, p2, p3⟩
   all_goals
    have eP := Lib.hid eP
    go_wp2_with fail
    refine (wanted_is _ rfl).mono ?_
    rintro e w' ⟨rfl, rfl⟩
    go_wp2_with fail
    go_meet
    exact ⟨by rw [eP.out], rfl⟩
  case rest =>
   obtain ⟨rfl, rfl⟩ := hcut
   clear kp
   have m := hoa
   obtain ⟨⟨m0, m1, m2, m3⟩, ⟨m4, m5, m6, m7, m8, m9, m10⟩, ⟨m11, m12, m13, m14⟩⟩ := m
   by_cases c0 : o.kd = 0
   ·have d0 : (o.kd == 0) = true := by simpa using c0
    have hR := Lib.hid (K0.out d0)
    clear K0 K1 K2 K3 c0 kN kS kO
    rcases recB_cases (o := o) with ⟨q, q1, q2⟩ | ⟨q, q1⟩ | ⟨q, q1, q2⟩
    rotate_left
    iterate 2
     ·have HR : Hid (checkE o = 2) := by rw [Hid, hR.out, q]; rfl
      clear hR q
      go_wp2_with fail
      go_ret
      exact ⟨by rw [HR.out]; rfl, hb1⟩
    ·have HR : Hid (checkE o = orE AE (orE PE ME)) := by rw [Hid, hR.out, q]; rfl
     clear hR q
     go_wp2_with fail
     have R := fun w' (u : Up W1 w') => hoa.up u
     have r0 := fun w' (u : Up W1 w') => (R w' u).1.1
     have r1 := fun w' (u : Up W1 w') => (R w' u).1.2.1
     have r2 := fun w' (u : Up W1 w') => (R w' u).1.2.2.1
     have r3 := fun w' (u : Up W1 w') => (R w' u).1.2.2.2
     have r4 := fun w' (u : Up W1 w') => (R w' u).2.1.1
     have r5 := fun w' (u : Up W1 w') => (R w' u).2.1.2.1
     have r6 := fun w' (u : Up W1 w') => (R w' u).2.1.2.2.1
     have r7 := fun w' (u : Up W1 w') => (R w' u).2.1.2.2.2.1
     have r8 := fun w' (u : Up W1 w') => (R w' u).2.1.2.2.2.2.1
     have r9 := fun w' (u : Up W1 w') => (R w' u).2.1.2.2.2.2.2.1
     have r10 := fun w' (u : Up W1 w') => (R w' u).2.1.2.2.2.2.2.2
     have r11 := fun w' (u : Up W1 w') => (R w' u).2.2.1
     have r12 := fun w' (u : Up W1 w') => (R w' u).2.2.2.1
     have r13 := fun w' (u : Up W1 w') => (R w' u).2.2.2.2.1
     have r14 := fun w' (u : Up W1 w') => (R w' u).2.2.2.2.2
     clear R
     go_region_held3 (fun w' => Up W1 w') (first | assumption | exact Up.drew _ | exact Up.refl _ | exact Up.trans (by assumption) (Up.alloc' _ _) | exact Up.trans (by assumption) (Up.of (by assumption))) (first | (go_at_call 69; refine (kA _ (hT.below (stepB hb1 (Up.b (by first | assumption | exact Up.drew _ | exact Up.refl _))))).mono ?_; rintro e w2 ⟨rfl, hb2⟩) | (go_at_call 68; refine (kW _).mono ?_; rintro e w' ⟨rfl, rfl⟩) | (go_at_call 67; refine (first3 _ _ _ _ _ (by first | exact Rd.newAtD _ [I64 _, I64 _, I64 _] _ _ _ (by simp) | exact Rd.newAt _ [I64 _, I64 _, I64 _] _ _ _ (by simp))).mono ?_; rintro e w' ⟨rfl, rfl⟩))
     clear r0 r1 r2 r3 r4 r5 r6 r7 r8 r9 r10 r11 r12 r13 r14
     go_wp2_with fail
     go_ret
     exact ⟨by rw [HR.out]; rfl, stepB hb1 (Up.b (by assumption))⟩
   ·have d0 : (o.kd == 0) = false := by simpa using c0
    by_cases c1 : o.kd = 1
    ·have d1 : (o.kd == 1) = true := by simpa using c1
     have hR := Lib.hid (K1.out d1)
     clear K0 K1 K2 K3 c0 c1 kA kW
     go_wp2_with fail
     refine (kS _ (hT.below hb1)).mono ?_
     rintro e w4 ⟨rfl, hb4⟩
     have hb1 := stepB hb1 hb4
     have hoa := hoa.up (Up.of hb4)
     clear m0 m1 m2 m3 m4 m5 m6 m7 m8 m9 m10 m11 m12 m13 m14 hb4
     have m := hoa
     obtain ⟨⟨m0, m1, m2, m3⟩, ⟨m4, m5, m6, m7, m8, m9, m10⟩, ⟨m11, m12, m13, m14⟩⟩ := m
     rcases recB_cases (o := o) with ⟨q, q1, q2⟩ | ⟨q, q1⟩ | ⟨q, q1, q2⟩
     rotate_left
     iterate 2
      ·have HR : Hid (checkE o = 2) := by rw [Hid, hR.out, q]; rfl
       clear hR q
       go_wp2_with fail
       go_ret
       exact ⟨by rw [HR.out]; rfl, hb1⟩
     ·have HR : Hid (checkE o = orE NE (orE SE OE)) := by rw [Hid, hR.out, q]; rfl
      clear hR q
      go_wp2_with fail
      have R := fun w' (u : Up w4 w') => hoa.up u
      have r0 := fun w' (u : Up w4 w') => (R w' u).1.1
      have r1 := fun w' (u : Up w4 w') => (R w' u).1.2.1
      have r2 := fun w' (u : Up w4 w') => (R w' u).1.2.2.1
      have r3 := fun w' (u : Up w4 w') => (R w' u).1.2.2.2
      have r4 := fun w' (u : Up w4 w') => (R w' u).2.1.1
      have r5 := fun w' (u : Up w4 w') => (R w' u).2.1.2.1
      have r6 := fun w' (u : Up w4 w') => (R w' u).2.1.2.2.1
      have r7 := fun w' (u : Up w4 w') => (R w' u).2.1.2.2.2.1
      have r8 := fun w' (u : Up w4 w') => (R w' u).2.1.2.2.2.2.1
      have r9 := fun w' (u : Up w4 w') => (R w' u).2.1.2.2.2.2.2.1
      have r10 := fun w' (u : Up w4 w') => (R w' u).2.1.2.2.2.2.2.2
      have r11 := fun w' (u : Up w4 w') => (R w' u).2.2.1
      have r12 := fun w' (u : Up w4 w') => (R w' u).2.2.2.1
      have r13 := fun w' (u : Up w4 w') => (R w' u).2.2.2.2.1
      have r14 := fun w' (u : Up w4 w') => (R w' u).2.2.2.2.2
      clear R
      go_region_held3 (fun w' => Up w4 w') (first | assumption | exact Up.drew _ | exact Up.refl _ | exact Up.trans (by assumption) (Up.alloc' _ _) | exact Up.trans (by assumption) (Up.of (by assumption))) (first | (go_at_call 71; refine (kN _).mono ?_; rintro e w2 ⟨rfl, hb2⟩) | (go_at_call 72; refine (kO _ (stepB hb1 (Up.b (by first | assumption | exact Up.drew _ | exact Up.refl _ | exact Up.trans (by assumption) (Up.of (by assumption)))))).mono ?_; rintro e w3 ⟨rfl, hb3⟩) | (go_at_call 67; refine (first3 _ _ _ _ _ (by first | exact Rd.newAtD _ [I64 _, I64 _, I64 _] _ _ _ (by simp) | exact Rd.newAt _ [I64 _, I64 _, I64 _] _ _ _ (by simp))).mono ?_; rintro e w' ⟨rfl, rfl⟩))
      clear r0 r1 r2 r3 r4 r5 r6 r7 r8 r9 r10 r11 r12 r13 r14
      go_wp2_with fail
      go_ret
      exact ⟨by rw [HR.out]; rfl, stepB hb1 (Up.b (by assumption))⟩
    ·have d1 : (o.kd == 1) = false := by simpa using c1
     by_cases c2 : o.kd = 2
     ·have d2 : (o.kd == 2) = true := by simpa using c2
      have hR := Lib.hid (K2.out d2)
      clear K0 K1 K2 K3 c0 c1 c2 kA kS kW
      rcases recB_cases (o := o) with ⟨q, q1, q2⟩ | ⟨q, q1⟩ | ⟨q, q1, q2⟩
      rotate_left
      iterate 2
       ·have HR : Hid (checkE o = 2) := by rw [Hid, hR.out, q]; rfl
        clear hR q
        go_wp2_with fail
        go_ret
        exact ⟨by rw [HR.out]; rfl, hb1⟩
      ·have HR : Hid (checkE o = orE NE (orE PE OE)) := by rw [Hid, hR.out, q]; rfl
       clear hR q
       go_wp2_with fail
       have R := fun w' (u : Up W1 w') => hoa.up u
       have r0 := fun w' (u : Up W1 w') => (R w' u).1.1
       have r1 := fun w' (u : Up W1 w') => (R w' u).1.2.1
       have r2 := fun w' (u : Up W1 w') => (R w' u).1.2.2.1
       have r3 := fun w' (u : Up W1 w') => (R w' u).1.2.2.2
       have r4 := fun w' (u : Up W1 w') => (R w' u).2.1.1
       have r5 := fun w' (u : Up W1 w') => (R w' u).2.1.2.1
       have r6 := fun w' (u : Up W1 w') => (R w' u).2.1.2.2.1
       have r7 := fun w' (u : Up W1 w') => (R w' u).2.1.2.2.2.1
       have r8 := fun w' (u : Up W1 w') => (R w' u).2.1.2.2.2.2.1
       have r9 := fun w' (u : Up W1 w') => (R w' u).2.1.2.2.2.2.2.1
       have r10 := fun w' (u : Up W1 w') => (R w' u).2.1.2.2.2.2.2.2
       have r11 := fun w' (u : Up W1 w') => (R w' u).2.2.1
       have r12 := fun w' (u : Up W1 w') => (R w' u).2.2.2.1
       have r13 := fun w' (u : Up W1 w') => (R w' u).2.2.2.2.1
       have r14 := fun w' (u : Up W1 w') => (R w' u).2.2.2.2.2
       clear R
       go_region_held3 (fun w' => Up W1 w') (first | assumption | exact Up.drew _ | exact Up.refl _ | exact Up.trans (by assumption) (Up.alloc' _ _) | exact Up.trans (by assumption) (Up.of (by assumption))) (first | (go_at_call 71; refine (kN _).mono ?_; rintro e w2 ⟨rfl, hb2⟩) | (go_at_call 72; refine (kO _ (stepB hb1 (Up.b (by first | assumption | exact Up.drew _ | exact Up.refl _ | exact Up.trans (by assumption) (Up.of (by assumption)))))).mono ?_; rintro e w3 ⟨rfl, hb3⟩) | (go_at_call 67; refine (first3 _ _ _ _ _ (by first | exact Rd.newAtD _ [I64 _, I64 _, I64 _] _ _ _ (by simp) | exact Rd.newAt _ [I64 _, I64 _, I64 _] _ _ _ (by simp))).mono ?_; rintro e w' ⟨rfl, rfl⟩))
       clear r0 r1 r2 r3 r4 r5 r6 r7 r8 r9 r10 r11 r12 r13 r14
       go_wp2_with fail
       go_ret
       exact ⟨by rw [HR.out]; rfl, stepB hb1 (Up.b (by assumption))⟩
     ·have d2 : (o.kd == 2) = false := by simpa using c2
      have HR := Lib.hid (K3.out d0 d1 d2)
      clear K0 K1 K2 K3 c0 c1 c2
      go_wp2_with fail
      go_ret
      exact ⟨by rw [HR.out]; rfl, hb1⟩
end Go.Proofs.YtcomeidcmcegfaaGreatDoor
namespace Go.Proofs.YtcomeidcmcegfaaGreatDoor
open Go.RowKit
set_option linter.unusedVariables false
theorem orE_zero {a b : Int} (h : orE a b = 0) : a = 0 ∧ b = 0 := by
 unfold orE at h; split at h
 ·exact ⟨by assumption, h⟩
 ·omega
theorem textE_len {s : List UInt8} (h : textE s = 0) : s.length ≤ 200 := by
 unfold textE at h; split at h <;> omega
theorem check_size {o : OP} (h : checkE o = 0) : o.nt.length ≤ 200 ∧ o.tx.length ≤ 200 ∧ o.ov.length ≤ 16 := by
 unfold checkE at h
 by_cases g1 : rightB o.ac o.ad = true
 rotate_left
 ·rw [if_neg g1] at h; exact absurd h (by decide)
 rw [if_pos g1] at h
 by_cases g2 : 0 ≤ o.kd ∧ o.kd ≤ 2
 rotate_left
 ·rw [if_neg g2] at h; exact absurd h (by decide)
 rw [if_pos g2] at h
 by_cases g3 : recB o = true
 rotate_left
 ·rw [if_neg g3] at h; exact absurd h (by decide)
 rw [if_pos g3] at h
 have pl : plainE o = 0 → o.tx = [] := by
  unfold plainE; intro h; split at h
  ·rename_i h1; exact h1.2.2
  ·exact absurd h (by decide)
 have nn : noneE o = 0 → o.ov = [] := by
  unfold noneE; intro h; split at h
  ·assumption
  ·exact absurd h (by decide)
 have nm : namedE o = 0 → o.nt = [] := by
  unfold namedE; intro h; split at h
  ·rename_i h1
   simp only [Bool.and_eq_true] at h1
   have := of_decide_eq_true h1.2
   exact this.2.2.2.2.2
  ·exact absurd h (by decide)
 have ov : overE o = 0 → o.ov.length ≤ 16 := by
  unfold overE; intro h; split at h
  ·exact absurd h (by decide)
  ·split at h
   ·assumption
   ·exact absurd h (by decide)
 have ad : addedE o = 0 → o.nt.length ≤ 200 := by
  unfold addedE; intro h
  repeat' split at h
  all_goals first | exact textE_len h | exact absurd h (by decide)
 have st : setE o = 0 → o.tx.length ≤ 200 := by
  unfold setE; intro h
  repeat' split at h
  all_goals first | exact textE_len h | (rename_i h1; rw [h1]; simp) | exact absurd h (by decide)
 split at h
 ·obtain ⟨h1, h2⟩ := orE_zero h
  obtain ⟨h2, h3⟩ := orE_zero h2
  rw [pl h2, nn h3]
  exact ⟨ad h1, by simp, by simp⟩
 ·obtain ⟨h1, h2⟩ := orE_zero h
  obtain ⟨h2, h3⟩ := orE_zero h2
  rw [nm h1]
  refine ⟨by simp, ?_, ov h3⟩
  split at h2
  ·exact st h2
  ·rw [pl h2]; simp
def RetEx (l : List UInt8) (m : Nat) (w : World) (e : Ending) (w' : World) : Prop :=
 ∃ L A c, Hid (L = l) ∧ L.length ≤ m ∧ e = .returned (.slice A L.length c) ∧ Own w' w.heap.size 5 1 (.slice A L.length c) L.length (L.map U8) ∧ Rd w' A (L.map U8) ∧ Below w.heap.size w w'
theorem RetEx.of {l : List UInt8} {m : Nat} {w : World} {e : Ending} {w' : World} (h : RetNew U8 5 l w e w') (hm : l.length ≤ m) : RetEx l m w e w' := by
 obtain ⟨A, c, h1, h2, h3⟩ := h
 exact ⟨l, A, c, rfl, hm, h1, h2, h2.rd', h3⟩
theorem putInt_ex (w : World) (A : Option Addr) (c : Nat) (l : List UInt8) (h : Rd w A (l.map U8)) (hl : l.length ≤ 100000) (n : Int) (hn : I64b n) :
 Calls Tryz.prog 41 #[.slice A l.length c, .int .i64 n] w (RetEx (l ++ enc n) (l.length + 10) w) :=
 (putInt_any w A c l h (by omega) n hn.1 hn.2).mono fun _ _ h => RetEx.of h (by rw [List.length_append]; have := (enc_length n).2; omega)
theorem putText_ex (w : World) (A : Option Addr) (c : Nat) (l : List UInt8) (h : Rd w A (l.map U8)) (hl : l.length ≤ 100000) (s : List UInt8) (hs : s.length ≤ 200) :
 Calls Tryz.prog 42 #[.slice A l.length c, .string ⟨s.toArray⟩] w (RetEx (l ++ encT s) (l.length + 210) w) :=
 (putText_any w A c l h (by omega) s (by omega)).mono fun _ _ h => RetEx.of h (by unfold encT; rw [List.length_append, List.length_append]; have := (enc_length (s.length : Int)).2; omega)
def RetBy (l : List UInt8) (n : Int) (w : World) (e : Ending) (w' : World) : Prop :=
 ∃ A c, e = .returned (.tuple #[.slice A l.length c, .int .i64 n]) ∧ Own w' w.heap.size 5 1 (.slice A l.length c) l.length (l.map U8) ∧ Below w.heap.size w w'
theorem i64b_nat {n : Nat} (h : n ≤ 1000000) : I64b (n : Int) := ⟨by omega, by omega⟩
theorem ints10_get (o : OP) (ho : o.Bd) : ∀ n ∈ ints10 o, I64b n := by
 intro n hn
 simp only [ints10, List.mem_cons, List.not_mem_nil, or_false] at hn
 rcases hn with rfl | rfl | rfl | rfl | rfl | rfl | rfl | rfl | rfl | rfl
 ·exact ho.ac
 ·exact ho.ad
 ·exact ho.kd
 ·exact ho.rc
 ·exact ho.id
 ·exact ho.ti
 ·exact ho.pa
 ·exact ho.sf
 ·exact ho.st
 ·exact ho.rk
theorem flat_enc_next (l : List Int) (k : Nat) (hk : k < l.length) : (l.take (k + 1)).flatMap enc = (l.take k).flatMap enc ++ enc l[k] := by
 rw [List.take_succ_eq_append_getElem hk, List.flatMap_append]; simp
theorem ovEnc_next (l : List (Int × Int)) (k : Nat) (hk : k < l.length) : ovEnc (l.take (k + 1)) = ovEnc (l.take k) ++ (enc l[k].1 ++ enc l[k].2) := by
 unfold ovEnc; rw [List.take_succ_eq_append_getElem hk, List.flatMap_append]; simp
def BytesRel1 (W : World) (l : List Int) (vb vi : Value) (wr : World) : Prop :=
 ∃ (k : Nat) (L : List UInt8) (A : Option Addr) (c : Nat), k ≤ l.length ∧ vi = .int .i64 k ∧ vb = .slice A L.length c ∧ Hid (L = (l.take k).flatMap enc) ∧ L.length ≤ 10 * k ∧ Rd wr A (L.map U8) ∧ Up W wr
def BytesRel2 (W : World) (base : Nat) (P : List UInt8) (l : List (Int × Int)) (vb vi : Value) (wr : World) : Prop :=
 ∃ (k : Nat) (L : List UInt8) (A : Option Addr) (c : Nat), k ≤ l.length ∧ vi = .int .i64 k ∧ vb = .slice A L.length c ∧ Hid (L = P ++ ovEnc (l.take k)) ∧ L.length ≤ 1000 + 20 * k ∧ Own wr base 5 1 (.slice A L.length c) L.length (L.map U8) ∧ Up W wr
set_option maxRecDepth 100000 in
set_option maxHeartbeats 8000000 in
theorem bytes_no (w : World) (o : OP) (A : Option Addr) (c : Nat) (ho : o.Bd) (hr : Rd w A (ovL o.ov)) (hc : o.ov.length ≤ c) (hT : Tabs w) (h0 : checkE o ≠ 0) : Calls Tryz.prog 21 #[opV o A c] w (RetBy [] (checkE o) w) := by
 have kC := fun w' (hb : Below w.heap.size w w') => check_any w' o A c ho (hr.below hb) hc (hT.below hb)
 unfold opV opC at kC ⊢
 have q0 : (checkE o != 0) = true := by simpa using h0
 clear h0
 generalize checkE o = E at *
 go_enter Tryz.func21, Tryz.ntmps21
 go_wp2_with fail
 refine (kC _ ((Below.refl _ _).alloc (Nat.le_refl _) _)).mono ?_
 rintro e w2 ⟨rfl, hb2⟩
 have hb3 := stepB ((Below.refl w.heap.size w).alloc (Nat.le_refl _) _) hb2
 go_wp2_with fail
 exact bodyPost_ret (v := .tuple #[.slice none 0 0, .int .i64 E]) (by simp [results, Tryz.results21, go_sem]) rfl ⟨_, _, rfl, Own.nil _ _ _ _, hb3⟩
set_option maxRecDepth 100000 in
set_option maxHeartbeats 16000000 in
theorem bytes_ok (w : World) (o : OP) (A : Option Addr) (c : Nat) (ho : o.Bd) (hr : Rd w A (ovL o.ov)) (hc : o.ov.length ≤ c) (hT : Tabs w) (h0 : checkE o = 0) : Calls Tryz.prog 21 #[opV o A c] w (RetBy (opB o) 0 w) := by
 have kC := fun w' (hb : Below w.heap.size w w') => check_any w' o A c ho (hr.below hb) hc (hT.below hb)
 obtain ⟨s1, s2, s3⟩ := check_size h0
 unfold opV opC at kC ⊢
 rw [h0] at kC
 clear h0
 go_enter Tryz.func21, Tryz.ntmps21
 go_wp2_with fail
 refine (kC _ ((Below.refl _ _).alloc (Nat.le_refl _) _)).mono ?_
 rintro e w2 ⟨rfl, hb2⟩
 have hb3 := stepB ((Below.refl w.heap.size w).alloc (Nat.le_refl _) _) hb2
 have hoa : OpAt w2 w.heap.size o A c := (OpAt.new w o A c 43).up (Up.of hb2)
 have hz : w.heap.size < w2.heap.size := by have := hb2.size; simp at this; omega
 clear hb2 kC
 have m := hoa
 obtain ⟨⟨m0, m1, m2, m3⟩, ⟨m4, m5, m6, m7, m8, m9, m10⟩, ⟨m11, m12, m13, m14⟩⟩ := m
 go_wp2_with fail
 obtain ⟨W3, hW3⟩ : ∃ x, (w2.alloc (.cells (noteC o).toArray 40)).alloc (.cells ((ints10 o).map I64).toArray 3) = x := ⟨_, rfl⟩
 have hu3 : Up w2 W3 := by rw [← hW3]; exact (Up.alloc' _ _).trans (Up.alloc' _ _)
 have hN : NoteAt W3 w2.heap.size o := by rw [← hW3]; exact (NoteAt.new _ _ _ _ rfl).up (Up.alloc' _ _)
 have hI : Rd W3 (some ⟨w2.heap.size + 1, 0, none⟩) ((ints10 o).map I64) := by rw [← hW3]; exact Rd.newAt _ _ _ _ _ (by simp)
 have hz3 : w2.heap.size + 1 < W3.heap.size := by rw [← hW3]; simp
 have hoW : OpAt W3 w.heap.size o A c := hoa.up hu3
 unfold noteC ints10 at hW3
 simp only [List.map_cons, List.map_nil, I64] at hW3
 simp only [hW3]
 clear hW3 m0 m1 m2 m3 m4 m5 m6 m7 m8 m9 m10 m11 m12 m13 m14
 go_loopw [6, 44] (BytesRel1 W3 (ints10 o)) (fun _ i _ => 10 - (intOf i).toNat)
 case atStart => exact ⟨0, [], none, 0, by omega, rfl, rfl, rfl, by simp, Rd.nil _ _, Up.refl _⟩
 case round =>
  obtain ⟨k, L, AL, cL, hk, rfl, rfl, hL, hLl, hRL, hu⟩ := hrel
  have hk' : k ≤ 10 := hk
  by_cases hlt : k < 10
  ·have t1 : decide ((k : Int) < 10) = true := decide_eq_true (by omega)
   have hkl : k < (ints10 o).length := hlt
   obtain ⟨b, off, e1, _, hck⟩ := (hu.rd hI).at64 hkl
   cases e1
   have HN := Lib.hid (flat_enc_next (ints10 o) k hkl)
   have hx := ints10_get o ho _ (List.getElem_mem hkl)
   have hx := Lib.hid hx
   generalize (ints10 o)[k] = x at *
   rw [Nat.zero_add] at hck
   go_wp2_with fail
   refine (putInt_ex _ _ _ _ hRL (by omega) _ hx.out).mono ?_
   rintro e w5 ⟨L2, A2, c2, hL2, hl2, rfl, hown2, hr2, hb5⟩
   go_wp2_with fail
   go_roundw
   case rel => exact ⟨k + 1, L2, A2, c2, hlt, by go_num, rfl, by rw [Hid, hL2.out, HN.out, hL.out], by omega, hr2, hu.trans (Up.of hb5)⟩
   case measure => simp [intOf]; omega
  ·obtain rfl : k = 10 := by omega
   have t1 : decide (((10 : Nat) : Int) < 10) = false := by decide
   have hL1 : Hid (L = (ints10 o).flatMap enc) := by rw [Hid, hL.out]; rfl
   clear hL hI
   have m := hN.up hu
   obtain ⟨m0, m1, m2, m3, m4, m5, m6⟩ := m
   go_wp2_with fail
   refine (putText_ex _ _ _ _ hRL (by omega) _ s1).mono ?_
   rintro e w5 ⟨L5, A5, c5, hL5, hl5, rfl, hown5, hr5, hb5⟩
   have hu5 := hu.trans (Up.of hb5)
   clear hown5 hb5 m0 m1 m2 m3 m4 m5 m6
   have ho5 := hoW.up hu5
   have r11 := fun w' (u : Up w5 w') => (ho5.up u).2.2.1
   have r12 := fun w' (u : Up w5 w') => (ho5.up u).2.2.2.1
   have r13 := fun w' (u : Up w5 w') => (ho5.up u).2.2.2.2.1
   have r14 := fun w' (u : Up w5 w') => (ho5.up u).2.2.2.2.2
   have b11 := Lib.hid ho.se
   have b12 := Lib.hid ho.nn
   have b14 := Lib.hid (i64b_nat (n := o.ov.length) (by omega))
   go_wp2_with fail
   go_region_held3 (fun w' => Up w5 w') (first | assumption | exact Up.drew _ | exact Up.refl _ | exact Up.trans (by assumption) (Up.alloc' _ _) | exact Up.trans (by assumption) (Up.of (by assumption))) (first | (go_at_call_of 41 (Value.slice A5 L5.length c5); refine (putInt_ex _ _ _ _ (by first | assumption | exact Rd.drew (by assumption)) (by omega) _ b11.out).mono ?_; rintro e w6 ⟨L6, A6, c6, hL6, hl6, rfl, hown6, hr6, hb6⟩) | (go_at_call 41; refine (putInt_ex _ _ _ _ (by assumption) (by omega) _ b12.out).mono ?_; rintro e w7 ⟨L7, A7, c7, hL7, hl7, rfl, hown7, hr7, hb7⟩))
   have hu7 : Up w5 w7 := by assumption
   clear hown6 hown7 hr6 hb6 hb7 hr5
   have s11 := fun w' (u : Up w7 w') => r11 w' (hu7.trans u)
   have s13 := fun w' (u : Up w7 w') => r13 w' (hu7.trans u)
   have s14 := fun w' (u : Up w7 w') => r14 w' (hu7.trans u)
   clear r11 r12 r13 r14
   go_wp2_with fail
   go_region_held3 (fun w' => Up w7 w') (first | assumption | exact Up.drew _ | exact Up.refl _ | exact Up.trans (by assumption) (Up.alloc' _ _) | exact Up.trans (by assumption) (Up.of (by assumption))) (first | (go_at_call 42; refine (putText_ex _ _ _ _ (by first | assumption | exact Rd.drew (by assumption)) (by omega) _ s2).mono ?_; rintro e w8 ⟨L8, A8, c8, hL8, hl8, rfl, hown8, hr8, hb8⟩) | (go_at_call 41; refine (putInt_ex _ _ _ _ (by assumption) (by omega) _ b14.out).mono ?_; rintro e w9 ⟨L9, A9, c9, hL9, hl9, rfl, hown9, hr9, hb9⟩))
   have hu9 : Up w7 w9 := by assumption
   have hL9' : Hid (L9 = (ints10 o).flatMap enc ++ (encT o.nt ++ (enc o.se ++ (enc o.nn ++ (encT o.tx ++ enc o.ov.length))))) := by
    rw [Hid, hL9.out, hL8.out, hL7.out, hL6.out, hL5.out, hL1.out]; simp only [List.append_assoc]
   have hzz : w.heap.size ≤ w8.heap.size := by
    have h1 := hz3
    have h2 := (hu5.trans (hu7.trans (show Up w7 w8 by first | assumption | exact Up.trans (Up.drew _) (Up.of hb8) | exact Up.of hb8))).b.size
    omega
   have hownB := hown9.lower hzz
   clear hown8 hown9 hr8 hr9 hb8 hb9 hL8 hL7 hL6 hL5 hL1 hL9
   have hoB := ho5.up (hu7.trans hu9)
   have hUB := hu3.trans (hu5.trans (hu7.trans hu9))
   have hrB := (hr.below hb3).below hUB.b
   have hbB := stepB hb3 hUB.b
   clear s11 s13 s14 ho5 hu5 hu7 hu9 hRL hu
   have m := hoB
   obtain ⟨-, -, ⟨-, -, -, m14⟩⟩ := m
   go_wp2_with fail
   go_loopw [6, 74] (BytesRel2 w9 w.heap.size L9 o.ov) (fun _ i _ => o.ov.length - (intOf i).toNat)
   case atStart => exact ⟨0, L9, A9, c9, by omega, rfl, rfl, by rw [Hid]; simp [ovEnc], by omega, hownB, Up.refl _⟩
   case round =>
    clear hownB
    obtain ⟨k, L, AL, cL, hk, rfl, rfl, hL, hLl, hown, hu⟩ := hrel
    by_cases hlt : k < o.ov.length
    ·have t1 : decide ((k : Int) < (o.ov.length : Int)) = true := decide_eq_true (by omega)
     have t2 : (k : Int) < (o.ov.length : Int) := by omega
     have t3 : 0 ≤ (k : Int) := by omega
     obtain ⟨b, off, e1, hc0, hc1⟩ := ov_cells (hu.rd hrB) hlt
     cases e1
     have HN := Lib.hid (ovEnc_next o.ov k hlt)
     have hx := Lib.hid (ho.ov _ (List.getElem_mem hlt))
     generalize o.ov[k] = q at *
     obtain ⟨x, y⟩ := q
     dsimp only at hc0 hc1
     go_wp2_with fail
     obtain ⟨W4, hW4⟩ : ∃ z, wr.alloc (.cells #[.int .i64 x, .int .i64 y] 36) = z := ⟨_, rfl⟩
     have hu4 : Up wr W4 := by rw [← hW4]; exact Up.alloc' _ _
     have s0 : W4.cell? ⟨wr.heap.size, 0, none⟩ = some (.int .i64 x) := by rw [← hW4]; exact (cell_lit2 wr _ _ _).1
     have s1 : W4.cell? ⟨wr.heap.size, 1, none⟩ = some (.int .i64 y) := by rw [← hW4]; exact (cell_lit2 wr _ _ _).2
     simp only [hW4]
     clear hW4
     have l0 := fun w' (u : Up W4 w') => u.cell s0
     have l1 := fun w' (u : Up W4 w') => u.cell s1
     have hR4 := hu4.rd hown.rd'
     have hx1 : Hid (I64b x) := hx.out.1
     have hx2 : Hid (I64b y) := hx.out.2
     clear s0 s1 hc0 hc1
     go_region_held3 (fun w' => Up W4 w') (first | assumption | exact Up.drew _ | exact Up.refl _ | exact Up.trans (by assumption) (Up.alloc' _ _) | exact Up.trans (by assumption) (Up.of (by assumption))) (first | (go_at_call_of 41 (Value.slice AL L.length cL); refine (putInt_ex _ _ _ _ (by first | exact hR4 | exact Rd.drew hR4) (by omega) _ hx1.out).mono ?_; rintro e w6 ⟨L6, A6, c6, hL6, hl6, rfl, hown6, hr6, hb6⟩) | (go_at_call 41; refine (putInt_ex _ _ _ _ (by assumption) (by omega) _ hx2.out).mono ?_; rintro e w7 ⟨L7, A7, c7, hL7, hl7, rfl, hown7, hr7, hb7⟩))
     have hu7 : Up W4 w7 := by assumption
     have hz6 : w.heap.size ≤ w6.heap.size := Nat.le_trans hbB.size (hu.trans (hu4.trans (show Up W4 w6 by first | assumption | exact Up.trans (Up.drew _) (Up.of hb6) | exact Up.of hb6))).b.size
     go_wp2_with fail
     go_roundw
     case rel => exact ⟨k + 1, L7, A7, c7, hlt, by go_num, rfl, by rw [Hid, hL7.out, hL6.out, hL.out, HN.out]; simp only [List.append_assoc], by omega, hown7.lower hz6, hu.trans (hu4.trans hu7)⟩
     case measure => simp [intOf]; omega
    ·obtain rfl : k = o.ov.length := by omega
     have t1 : decide ((o.ov.length : Int) < (o.ov.length : Int)) = false := by simp
     have hF : L = opB o := by
      rw [hL.out, hL9'.out, List.take_length]; unfold opB; simp only [List.append_assoc]
     subst hF
     generalize hG : opB o = G at *
     go_wp2_with fail
     exact bodyPost_ret (v := .tuple #[.slice AL G.length cL, .int .i64 0]) (by simp [results, Tryz.results21, go_sem]) rfl ⟨_, _, rfl, hown, stepB hbB hu.b⟩
theorem bytes_any (w : World) (o : OP) (A : Option Addr) (c : Nat) (ho : o.Bd) (hr : Rd w A (ovL o.ov)) (hc : o.ov.length ≤ c) (hT : Tabs w) : Calls Tryz.prog 21 #[opV o A c] w (RetBy (bytesR o) (checkE o) w) := by
 unfold bytesR
 by_cases h : checkE o = 0
 ·rw [if_pos h, h]; exact bytes_ok w o A c ho hr hc hT h
 ·rw [if_neg h]; exact bytes_no w o A c ho hr hc hT h
end Go.Proofs.YtcomeidcmcegfaaGreatDoor
