/-
  The walks of the small functions of layer 49: span.Right, wanted, first, added, named, set, over. Conditions: numbers are ints; utf8's tables lie as their initialisers lay them.
-/
import Derived.Test.YtfjiikcbcoohdaaDoorTextWalk
import Derived.Test.YtfjiikcbcoohdaaDoorClockOf
import Derived.Test.YtfjiikcbcoohdaaDoorOpenOp
namespace Go.Proofs.YtfjiikcbcoohdaaDoor
open Go.RowKit
set_option linter.unusedVariables false

set_option maxHeartbeats 400000 in
theorem span_any (w : World) (a b : Int) :
    Calls Tryd.prog 53 #[.agg #[.int .i64 a, .int .i64 b]] w fun e w' => e = .returned (.bool (spanB a b)) ∧ w.alloc (.cells #[.int .i64 a, .int .i64 b] 25) = w' := by
  have hi : spanB a b = true ↔ (0 ≤ a ∧ a < b ∧ b ≤ 86400000) := by unfold spanB; exact decide_eq_true_iff
  have H := Lib.hid hi
  clear hi
  go_enter Tryd.func53, Tryd.ntmps53
  go_wp2
  all_goals
    go_ret
    exact ⟨ret_bool (by rw [Bool.eq_iff_iff, H.out]; simp; omega), rfl⟩
theorem span_neq (a b c d : Int) (w : World) : (binOp .neq 25 (.agg #[.int .i64 a, .int .i64 b]) (.agg #[.int .i64 c, .int .i64 d])).run Tryd.prog w = .ok (.bool (!(a == c && b == d))) w := by
  by_cases h1 : a = c <;> by_cases h2 : b = d <;> simp_all [go_sem]

set_option maxHeartbeats 400000 in
theorem wanted_any (w : World) (b : Bool) : Calls Tryd.prog 27 #[.bool b] w fun e w' => e = .returned (.int .i64 (if b = true then 0 else 1)) ∧ w = w' := by
  rcases b with _ | _
  all_goals
    go_enter Tryd.func27, Tryd.ntmps27
    go_wp2
    go_ret
    exact ⟨rfl, rfl⟩
def firstE : List Int → Int
  | [] => 0
  | x :: l => orE x (firstE l)
theorem firstE_drop (l : List Int) (k : Nat) (hk : k < l.length) : firstE (l.drop k) = orE l[k] (firstE (l.drop (k + 1))) := by rw [List.drop_eq_getElem_cons hk]; rfl
set_option maxHeartbeats 1000000 in
theorem first_list (w : World) (A : Option Addr) (l : List Int) (c : Nat) (h : Rd w A (l.map I64)) (hl : l.length ≤ 1000) : Calls Tryd.prog 28 #[.slice A l.length c] w fun e w' => e = .returned (.int .i64 (firstE l)) ∧ w = w' := by
  go_enter Tryd.func28, Tryd.ntmps28
  go_wp2
  go_loop [7] (fun i => ∃ k : Nat, k ≤ l.length ∧ i = .int .i64 k ∧ Hid (firstE l = firstE (l.drop k))) (fun i => l.length - (intOf i).toNat)
  case atStart => exact ⟨0, by omega, rfl, rfl⟩
  case round =>
    obtain ⟨k, hk, rfl, hK⟩ := hrel
    by_cases hlt : k < l.length
    · have p1 : decide ((k : Int) < (l.length : Int)) = true := decide_eq_true (by omega)
      obtain ⟨b, off, rfl, hb, hck⟩ := h.at64 hlt
      have HD := Lib.hid (firstE_drop l k hlt)
      generalize l[k] = x at *
      by_cases h0 : x = 0
      · have p2 : (x != 0) = false := by simpa using h0
        have H0 := Lib.hid h0
        clear h0
        go_wp2
        go_round
        case rel => exact ⟨k + 1, by omega, by go_num, by rw [Hid, hK.out, HD.out, orE, if_pos H0.out]⟩
        case measure => simp [intOf]; omega
      · have p2 : (x != 0) = true := by simpa using h0
        have H0 := Lib.hid h0
        clear h0
        go_wp2
        go_ret
        exact ⟨by rw [hK.out, HD.out, orE, if_neg H0.out]; rfl, rfl⟩
    · obtain rfl : k = l.length := by omega
      have p1 : decide ((l.length : Int) < (l.length : Int)) = false := by simp
      have HH : Hid (firstE l = 0) := by rw [Hid, hK.out, List.drop_length]; rfl
      go_wp2
      go_ret
      exact ⟨by rw [HH.out]; rfl, rfl⟩

/-- the fifteen cells of an operation in block b -/
def OpAt (w : World) (b : Nat) (o : OP) (A : Option Addr) (c : Nat) : Prop :=
  (w.cell? ⟨b, 0, none⟩ = some (.int .i64 o.ac) ∧ w.cell? ⟨b, 1, none⟩ = some (.int .i64 o.ad) ∧ w.cell? ⟨b, 2, none⟩ = some (.int .i64 o.kd) ∧ w.cell? ⟨b, 3, none⟩ = some (.int .i64 o.rc)) ∧
  (w.cell? ⟨b, 4, none⟩ = some (.int .i64 o.id) ∧ w.cell? ⟨b, 5, none⟩ = some (.int .i64 o.ti) ∧ w.cell? ⟨b, 6, none⟩ = some (.int .i64 o.pa) ∧ w.cell? ⟨b, 7, none⟩ = some (.int .i64 o.sf) ∧ w.cell? ⟨b, 8, none⟩ = some (.int .i64 o.st) ∧ w.cell? ⟨b, 9, none⟩ = some (.int .i64 o.rk) ∧
    w.cell? ⟨b, 10, none⟩ = some (.string ⟨o.nt.toArray⟩)) ∧
  (w.cell? ⟨b, 11, none⟩ = some (.int .i64 o.se) ∧ w.cell? ⟨b, 12, none⟩ = some (.int .i64 o.nn) ∧ w.cell? ⟨b, 13, none⟩ = some (.string ⟨o.tx.toArray⟩) ∧ w.cell? ⟨b, 14, none⟩ = some (.slice A o.ov.length c))
theorem OpAt.of {w : World} {b : Nat} {o : OP} {A : Option Addr} {c : Nat} (h : ∀ j u, (opC o A c)[j]? = some u → w.cell? ⟨b, j, none⟩ = some u) : OpAt w b o A c :=
  ⟨⟨h 0 _ rfl, h 1 _ rfl, h 2 _ rfl, h 3 _ rfl⟩, ⟨h 4 _ rfl, h 5 _ rfl, h 6 _ rfl, h 7 _ rfl, h 8 _ rfl, h 9 _ rfl, h 10 _ rfl⟩, ⟨h 11 _ rfl, h 12 _ rfl, h 13 _ rfl, h 14 _ rfl⟩⟩
theorem OpAt.new (w : World) (o : OP) (A : Option Addr) (c : Nat) (t : TypeId) : OpAt (w.alloc (.cells (opC o A c).toArray t)) w.heap.size o A c :=
  OpAt.of fun j u hu => by rw [cell_of_row _ _ _ _ _ _ (heap_alloc_new w _)]; simpa using hu
theorem OpAt.up {w w' : World} {b : Nat} {o : OP} {A : Option Addr} {c : Nat} (h : OpAt w b o A c) (u : Up w w') : OpAt w' b o A c := by
  obtain ⟨⟨a0, a1, a2, a3⟩, ⟨b0, b1, b2, b3, b4, b5, b6⟩, ⟨d0, d1, d2, d3⟩⟩ := h
  exact ⟨⟨u.cell a0, u.cell a1, u.cell a2, u.cell a3⟩, ⟨u.cell b0, u.cell b1, u.cell b2, u.cell b3, u.cell b4, u.cell b5, u.cell b6⟩, ⟨u.cell d0, u.cell d1, u.cell d2, u.cell d3⟩⟩

theorem tierB_yes {o : OP} (h : tierB o = true) : decide (o.ti < 0) = false ∧ decide (12 ≤ o.ti) = false ∧ decide (o.pa < 0) = false ∧ decide (1099511627776 < o.pa) = false ∧ decide (o.rk < 0) = false ∧ decide (300 < o.rk) = false := by
  unfold tierB at h
  have := of_decide_eq_true h
  simp only [decide_eq_false_iff_not]
  omega
theorem tierB_no {o : OP} (h : tierB o = false) : decide (o.ti < 0) = true ∨ (decide (o.ti < 0) = false ∧ decide (12 ≤ o.ti) = true) ∨ (decide (o.ti < 0) = false ∧ decide (12 ≤ o.ti) = false ∧ decide (o.pa < 0) = true) ∨
    (decide (o.ti < 0) = false ∧ decide (12 ≤ o.ti) = false ∧ decide (o.pa < 0) = false ∧ decide (1099511627776 < o.pa) = true) ∨
    (decide (o.ti < 0) = false ∧ decide (12 ≤ o.ti) = false ∧ decide (o.pa < 0) = false ∧ decide (1099511627776 < o.pa) = false ∧ decide (o.rk < 0) = true) ∨
    (decide (o.ti < 0) = false ∧ decide (12 ≤ o.ti) = false ∧ decide (o.pa < 0) = false ∧ decide (1099511627776 < o.pa) = false ∧ decide (o.rk < 0) = false ∧ decide (300 < o.rk) = true) := by
  unfold tierB at h
  have := of_decide_eq_false h
  simp only [decide_eq_false_iff_not, decide_eq_true_eq]
  omega

/-- the seven cells of a note in block b -/
def noteC (o : OP) : List Value := [.int .i64 o.id, .int .i64 o.ti, .int .i64 o.pa, .int .i64 o.sf, .int .i64 o.st, .int .i64 o.rk, .string ⟨o.nt.toArray⟩]
def NoteAt (w : World) (b : Nat) (o : OP) : Prop :=
  w.cell? ⟨b, 0, none⟩ = some (.int .i64 o.id) ∧ w.cell? ⟨b, 1, none⟩ = some (.int .i64 o.ti) ∧ w.cell? ⟨b, 2, none⟩ = some (.int .i64 o.pa) ∧ w.cell? ⟨b, 3, none⟩ = some (.int .i64 o.sf) ∧ w.cell? ⟨b, 4, none⟩ = some (.int .i64 o.st) ∧ w.cell? ⟨b, 5, none⟩ = some (.int .i64 o.rk) ∧
    w.cell? ⟨b, 6, none⟩ = some (.string ⟨o.nt.toArray⟩)
theorem NoteAt.new (w : World) (o : OP) (t : TypeId) (n : Nat) (hn : n = w.heap.size) : NoteAt (w.alloc (.cells (noteC o).toArray t)) n o := by
  subst hn
  have key : ∀ j u, (noteC o)[j]? = some u → (w.alloc (.cells (noteC o).toArray t)).cell? ⟨w.heap.size, j, none⟩ = some u := fun j u hu => by rw [cell_of_row _ _ _ _ _ _ (heap_alloc_new w _)]; simpa using hu
  exact ⟨key 0 _ rfl, key 1 _ rfl, key 2 _ rfl, key 3 _ rfl, key 4 _ rfl, key 5 _ rfl, key 6 _ rfl⟩
theorem NoteAt.up {w w' : World} {b : Nat} {o : OP} (h : NoteAt w b o) (u : Up w w') : NoteAt w' b o := by
  obtain ⟨b0, b1, b2, b3, b4, b5, b6⟩ := h
  exact ⟨u.cell b0, u.cell b1, u.cell b2, u.cell b3, u.cell b4, u.cell b5, u.cell b6⟩
theorem stepB {w W W' : World} (h : Below w.heap.size w W) (hb : Below W.heap.size W W') : Below w.heap.size w W' := h.trans (hb.mono h.size)
theorem Up.alloc' (w : World) (o : Obj) : Up w (w.alloc o) := Up.of ((Below.refl _ _).alloc (Nat.le_refl _) o)

theorem timeB_no {o : OP} (h : timeB o = false) : (o.sf == 0 && o.st == 0) = false ∧ spanB o.sf o.st = false := by
  unfold timeB at h
  rw [Bool.or_eq_false_iff] at h
  refine ⟨?_, h.2⟩
  have := of_decide_eq_false h.1
  rw [Bool.and_eq_false_iff, beq_eq_false_iff_ne, beq_eq_false_iff_ne]
  omega
theorem timeB_yes {o : OP} (h : timeB o = true) : (o.sf == 0 && o.st == 0) = true ∨ ((o.sf == 0 && o.st == 0) = false ∧ spanB o.sf o.st = true) := by
  unfold timeB at h
  rw [Bool.or_eq_true] at h
  rcases hz : (o.sf == 0 && o.st == 0) with _ | _
  · refine .inr ⟨rfl, ?_⟩
    rcases h with h | h
    · have := of_decide_eq_true h
      rw [this.1, this.2] at hz
      cases hz
    · exact h
  · exact .inl rfl

set_option maxRecDepth 100000 in
set_option maxHeartbeats 4000000 in
theorem added_any (w : World) (o : OP) (A : Option Addr) (c : Nat) (hn : o.nt.length ≤ maxLen) (hT : Tabs w) : Calls Tryd.prog 29 #[opV o A c] w (RetInt (addedE o) w) := by
  unfold opV opC
  have kI := fun w => id_any w o.ac o.ad
  have kT := fun w h => text_any w o.nt hn h
  have kS := fun w => span_any w o.sf o.st
  have hE : Hid (addedE o = if o.id = idOf o.ac o.ad then (if tierB o = true then (if timeB o = true then textE o.nt else 12) else 2) else 1) := rfl
  generalize textE o.nt = TE at *
  generalize idOf o.ac o.ad = ID at *
  by_cases hi : o.id = ID
  · have q0 : (o.id != ID) = false := by simpa using hi
    have q1 : (o.id == ID) = true := beq_iff_eq.2 hi
    have hE := Lib.hid (hE.out.trans (if_pos hi))
    clear hi
    rcases ht : tierB o with _ | _
    · rcases tierB_no ht with h1 | h1 | h1 | h1 | h1 | h1
      all_goals
        have HR : Hid (addedE o = 2) := by rw [Hid, hE.out, ht]; rfl
        clear hE ht
        go_enter Tryd.func29, Tryd.ntmps29
        go_wp2
        obtain ⟨W1, hW1⟩ : ∃ x, (w.alloc (.cells (opC o A c).toArray 30)).alloc (.cells (noteC o).toArray 27) = x := ⟨_, rfl⟩
        have hb1 : Below w.heap.size w W1 := by rw [← hW1]; exact ((Below.refl _ _).alloc (Nat.le_refl _) _).alloc (by simp) _
        have ho : OpAt W1 w.heap.size o A c := by rw [← hW1]; exact (OpAt.new ..).up (Up.alloc' _ _)
        have hN : NoteAt W1 (w.heap.size + 1) o := by rw [← hW1]; exact NoteAt.new _ _ _ _ (by simp)
        unfold opC noteC at hW1
        simp only [hW1]
        clear hW1
        have l0 := fun w' (u : Up W1 w') => (ho.up u).1.1
        have l1 := fun w' (u : Up W1 w') => (ho.up u).1.2.1
        have l2 := fun w' (u : Up W1 w') => (hN.up u).1
        go_region_held3 (fun w' => Up W1 w') (first | exact Up.drew _ | exact Up.refl _ | exact Up.trans (by assumption) (Up.of (by assumption))) (first | (go_at_call 52; refine (kI _).mono ?_; rintro e w2 ⟨rfl, hb2⟩))
        clear l0 l1 l2
        have hu : Up W1 w2 := by first | assumption | exact Up.trans (by assumption) (Up.of hb2)
        have m := hN.up hu
        obtain ⟨m0, m1, m2, m3, m4, m5, m6⟩ := m
        go_wp2
        go_ret
        exact ⟨by rw [HR.out]; rfl, stepB hb1 hu.b⟩
    · have h1 := tierB_yes ht
      have hE : Hid (addedE o = if timeB o = true then TE else 12) := by rw [Hid, hE.out, ht]; rfl
      clear ht
      rcases hs : timeB o with _ | _
      · have h2 := timeB_no hs
        obtain ⟨h2, h3⟩ := h2
        have HR : Hid (addedE o = 12) := by rw [Hid, hE.out, hs]; rfl
        have kS : ∀ w, Calls Tryd.prog 53 #[.agg #[.int .i64 o.sf, .int .i64 o.st]] w fun e w' => e = .returned (.bool false) ∧ w.alloc (.cells #[.int .i64 o.sf, .int .i64 o.st] 25) = w' := fun w => by have := kS w; rwa [h3] at this
        have kn : ∀ w, (binOp .neq 25 (.agg #[.int .i64 o.sf, .int .i64 o.st]) (.agg #[.int .i64 0, .int .i64 0])).run Tryd.prog w = .ok (.bool true) w := fun w => by rw [span_neq, h2]; rfl
        clear hE hs h2 h3
        go_enter Tryd.func29, Tryd.ntmps29
        go_wp2
        obtain ⟨W1, hW1⟩ : ∃ x, (w.alloc (.cells (opC o A c).toArray 30)).alloc (.cells (noteC o).toArray 27) = x := ⟨_, rfl⟩
        have hb1 : Below w.heap.size w W1 := by rw [← hW1]; exact ((Below.refl _ _).alloc (Nat.le_refl _) _).alloc (by simp) _
        have ho : OpAt W1 w.heap.size o A c := by rw [← hW1]; exact (OpAt.new ..).up (Up.alloc' _ _)
        have hN : NoteAt W1 (w.heap.size + 1) o := by rw [← hW1]; exact NoteAt.new _ _ _ _ (by simp)
        unfold opC noteC at hW1
        simp only [hW1]
        clear hW1
        have l0 := fun w' (u : Up W1 w') => (ho.up u).1.1
        have l1 := fun w' (u : Up W1 w') => (ho.up u).1.2.1
        have l2 := fun w' (u : Up W1 w') => (hN.up u).1
        go_region_held3 (fun w' => Up W1 w') (first | exact Up.drew _ | exact Up.refl _ | exact Up.trans (by assumption) (Up.of (by assumption))) (first | (go_at_call 52; refine (kI _).mono ?_; rintro e w2 ⟨rfl, hb2⟩))
        clear l0 l1 l2
        have hu : Up W1 w2 := by first | assumption | exact Up.trans (by assumption) (Up.of hb2)
        have m := hN.up hu
        obtain ⟨m0, m1, m2, m3, m4, m5, m6⟩ := m
        go_wp2_with fail
        refine (kS _).mono ?_
        rintro e w3 ⟨rfl, rfl⟩
        go_wp2_with fail
        go_ret
        exact ⟨by rw [HR.out]; rfl, (stepB hb1 hu.b).alloc (Nat.le_trans hb1.size hu.b.size) _⟩
      · have HR : Hid (addedE o = TE) := by rw [Hid, hE.out, hs]; rfl
        have h2 := timeB_yes hs
        clear hE hs
        rcases h2 with h2 | ⟨h2, h3⟩
        · have kn : ∀ w, (binOp .neq 25 (.agg #[.int .i64 o.sf, .int .i64 o.st]) (.agg #[.int .i64 0, .int .i64 0])).run Tryd.prog w = .ok (.bool false) w := fun w => by rw [span_neq, h2]; rfl
          clear h2
          go_enter Tryd.func29, Tryd.ntmps29
          go_wp2
          obtain ⟨W1, hW1⟩ : ∃ x, (w.alloc (.cells (opC o A c).toArray 30)).alloc (.cells (noteC o).toArray 27) = x := ⟨_, rfl⟩
          have hb1 : Below w.heap.size w W1 := by rw [← hW1]; exact ((Below.refl _ _).alloc (Nat.le_refl _) _).alloc (by simp) _
          have ho : OpAt W1 w.heap.size o A c := by rw [← hW1]; exact (OpAt.new ..).up (Up.alloc' _ _)
          have hN : NoteAt W1 (w.heap.size + 1) o := by rw [← hW1]; exact NoteAt.new _ _ _ _ (by simp)
          unfold opC noteC at hW1
          simp only [hW1]
          clear hW1
          have l0 := fun w' (u : Up W1 w') => (ho.up u).1.1
          have l1 := fun w' (u : Up W1 w') => (ho.up u).1.2.1
          have l2 := fun w' (u : Up W1 w') => (hN.up u).1
          go_region_held3 (fun w' => Up W1 w') (first | exact Up.drew _ | exact Up.refl _ | exact Up.trans (by assumption) (Up.of (by assumption))) (first | (go_at_call 52; refine (kI _).mono ?_; rintro e w2 ⟨rfl, hb2⟩))
          clear l0 l1 l2
          have hu : Up W1 w2 := by first | assumption | exact Up.trans (by assumption) (Up.of hb2)
          have m := hN.up hu
          obtain ⟨m0, m1, m2, m3, m4, m5, m6⟩ := m
          go_wp2_with fail
          refine (kT _ (hT.below (stepB hb1 hu.b))).mono ?_
          rintro e w3 ⟨rfl, hb3⟩
          go_wp2_with fail
          go_ret
          exact ⟨by rw [HR.out]; rfl, stepB (stepB hb1 hu.b) hb3⟩
        · have kS : ∀ w, Calls Tryd.prog 53 #[.agg #[.int .i64 o.sf, .int .i64 o.st]] w fun e w' => e = .returned (.bool true) ∧ w.alloc (.cells #[.int .i64 o.sf, .int .i64 o.st] 25) = w' := fun w => by have := kS w; rwa [h3] at this
          have kn : ∀ w, (binOp .neq 25 (.agg #[.int .i64 o.sf, .int .i64 o.st]) (.agg #[.int .i64 0, .int .i64 0])).run Tryd.prog w = .ok (.bool true) w := fun w => by rw [span_neq, h2]; rfl
          clear h2 h3
          go_enter Tryd.func29, Tryd.ntmps29
          go_wp2
          obtain ⟨W1, hW1⟩ : ∃ x, (w.alloc (.cells (opC o A c).toArray 30)).alloc (.cells (noteC o).toArray 27) = x := ⟨_, rfl⟩
          have hb1 : Below w.heap.size w W1 := by rw [← hW1]; exact ((Below.refl _ _).alloc (Nat.le_refl _) _).alloc (by simp) _
          have ho : OpAt W1 w.heap.size o A c := by rw [← hW1]; exact (OpAt.new ..).up (Up.alloc' _ _)
          have hN : NoteAt W1 (w.heap.size + 1) o := by rw [← hW1]; exact NoteAt.new _ _ _ _ (by simp)
          unfold opC noteC at hW1
          simp only [hW1]
          clear hW1
          have l0 := fun w' (u : Up W1 w') => (ho.up u).1.1
          have l1 := fun w' (u : Up W1 w') => (ho.up u).1.2.1
          have l2 := fun w' (u : Up W1 w') => (hN.up u).1
          go_region_held3 (fun w' => Up W1 w') (first | exact Up.drew _ | exact Up.refl _ | exact Up.trans (by assumption) (Up.of (by assumption))) (first | (go_at_call 52; refine (kI _).mono ?_; rintro e w2 ⟨rfl, hb2⟩))
          clear l0 l1 l2
          have hu : Up W1 w2 := by first | assumption | exact Up.trans (by assumption) (Up.of hb2)
          have hu3 : Up W1 (w2.alloc (.cells #[.int .i64 o.sf, .int .i64 o.st] 25)) := hu.trans (Up.alloc' _ _)
          have m := hN.up hu
          have n := hN.up hu3
          obtain ⟨m0, m1, m2, m3, m4, m5, m6⟩ := m
          obtain ⟨n0, n1, n2, n3, n4, n5, n6⟩ := n
          go_wp2_with fail
          refine (kS _).mono ?_
          rintro e w3 ⟨rfl, rfl⟩
          go_wp2_with fail
          refine (kT _ (hT.below (stepB hb1 hu3.b))).mono ?_
          rintro e w4 ⟨rfl, hb4⟩
          go_wp2_with fail
          go_ret
          exact ⟨by rw [HR.out]; rfl, stepB (stepB hb1 hu3.b) hb4⟩
  · have q0 : (o.id != ID) = true := by simpa using hi
    have q1 : (o.id == ID) = false := beq_eq_false_iff_ne.2 hi
    have HR := Lib.hid (hE.out.trans (if_neg hi))
    clear hi hE
    go_enter Tryd.func29, Tryd.ntmps29
    go_wp2
    obtain ⟨W1, hW1⟩ : ∃ x, (w.alloc (.cells (opC o A c).toArray 30)).alloc (.cells (noteC o).toArray 27) = x := ⟨_, rfl⟩
    have hb1 : Below w.heap.size w W1 := by rw [← hW1]; exact ((Below.refl _ _).alloc (Nat.le_refl _) _).alloc (by simp) _
    have ho : OpAt W1 w.heap.size o A c := by rw [← hW1]; exact (OpAt.new ..).up (Up.alloc' _ _)
    have hN : NoteAt W1 (w.heap.size + 1) o := by rw [← hW1]; exact NoteAt.new _ _ _ _ (by simp)
    unfold opC noteC at hW1
    simp only [hW1]
    clear hW1
    have l0 := fun w' (u : Up W1 w') => (ho.up u).1.1
    have l1 := fun w' (u : Up W1 w') => (ho.up u).1.2.1
    have l2 := fun w' (u : Up W1 w') => (hN.up u).1
    go_region_held3 (fun w' => Up W1 w') (first | exact Up.drew _ | exact Up.refl _ | exact Up.trans (by assumption) (Up.of (by assumption))) (first | (go_at_call 52; refine (kI _).mono ?_; rintro e w2 ⟨rfl, hb2⟩))
    have hu : Up W1 w2 := by first | assumption | exact Up.trans (by assumption) (Up.of hb2)
    go_wp2
    go_ret
    exact ⟨by rw [HR.out]; rfl, stepB hb1 hu.b⟩
end Go.Proofs.YtfjiikcbcoohdaaDoor
