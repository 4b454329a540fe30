/-
  The walks of named, set and over of layer 49. Conditions: numbers are ints; utf8's tables lie as their initialisers lay them.
-/
import Derived.Test.YtfjiikcbcoohdaaDoorOpsLeaf
namespace Go.Proofs.YtfjiikcbcoohdaaDoor
open Go.RowKit
set_option linter.unusedVariables false

theorem less_is (w : World) {r : Bool} {a b c d : Int} (h : lessB a b c d = r) : Calls Tryd.prog 56 #[.agg #[.int .i64 a, .int .i64 b], .agg #[.int .i64 c, .int .i64 d]] w (RetBool r w) := by
  subst h; exact less_any w a b c d
theorem of_is (w : World) {r : Bool} {n : Int} (hn : I64b n) (h : ofB n = r) : Calls Tryd.prog 55 #[.int .i64 n] w (RetStamp (ofC n) (ofD n) r w) := by
  subst h; exact of_any w n hn.1 hn.2
theorem note_neq (o : OP) (w : World) : (binOp .neq 27 (.agg #[.int .i64 o.id, .int .i64 o.ti, .int .i64 o.pa, .int .i64 o.sf, .int .i64 o.st, .int .i64 o.rk, .string ⟨o.nt.toArray⟩])
    (.agg #[.int .i64 o.id, .int .i64 0, .int .i64 0, .int .i64 0, .int .i64 0, .int .i64 0, .string ⟨#[]⟩])).run Tryd.prog w = .ok (.bool (!bareB o)) w := by
  obtain ⟨ac, ad, kd, rc, id, ti, pa, sf, st, rk, nt, se, nn, tx, ov⟩ := o
  unfold bareB
  dsimp only
  by_cases h1 : ti = 0
  · by_cases h2 : pa = 0
    · by_cases h3 : sf = 0
      · by_cases h4 : st = 0
        · by_cases h5 : rk = 0
          · by_cases h6 : nt = []
            · subst h1 h2 h3 h4 h5 h6; simp [go_sem]
            · subst h1 h2 h3 h4 h5; simp [go_sem, h6]
          · subst h1 h2 h3 h4; simp [go_sem, h5]
        · subst h1 h2 h3; simp [go_sem, h4]
      · subst h1 h2; simp [go_sem, h3]
    · subst h1; simp [go_sem, h2]
  · simp [go_sem, h1]

set_option maxRecDepth 100000 in
set_option maxHeartbeats 4000000 in
theorem named_any (w : World) (o : OP) (A : Option Addr) (c : Nat) (hn : I64b o.id) : Calls Tryd.prog 31 #[opV o A c] w (RetInt (namedE o) w) := by
  unfold opV opC
  have hE : Hid (namedE o = if (ofB o.id && lessB (ofC o.id) (ofD o.id) o.ac o.ad && bareB o) = true then 0 else 1) := rfl
  have kn := note_neq o
  rcases h1 : ofB o.id with _ | _
  · have kO := fun w => of_is w hn h1
    have HR : Hid (namedE o = 1) := by rw [Hid, hE.out, h1]; rfl
    clear hE h1 kn
    go_enter Tryd.func31, Tryd.ntmps31
    go_wp2_with fail
    refine (kO _).mono ?_
    rintro e w2 ⟨rfl, hb2⟩
    have hb3 := (((Below.refl _ w).alloc (Nat.le_refl _) _).trans (hb2.mono (by simp)))
    clear kO hb2
    go_wp2_with fail
    go_ret
    exact ⟨by rw [HR.out]; rfl, hb3.alloc hb3.size _⟩
  · have kO := fun w => of_is w hn h1
    rcases h2 : lessB (ofC o.id) (ofD o.id) o.ac o.ad with _ | _
    · have kL := fun w => less_is w h2
      have HR : Hid (namedE o = 1) := by rw [Hid, hE.out, h1, h2]; rfl
      clear hE h1 h2 kn
      generalize ofC o.id = X at *
      generalize ofD o.id = Y at *
      go_enter Tryd.func31, Tryd.ntmps31
      go_wp2_with fail
      refine (kO _).mono ?_
      rintro e w2 ⟨rfl, hb2⟩
      have hb3 := (((Below.refl _ w).alloc (Nat.le_refl _) _).trans (hb2.mono (by simp)))
      have m := (OpAt.new w o A c 30).up ((Up.of hb2).trans (Up.alloc' _ (.cells #[.int .i64 X, .int .i64 Y] 23)))
      obtain ⟨⟨m0, m1, m2, m3⟩, -, -⟩ := m
      clear kO hb2
      go_wp2_with fail
      refine (kL _).mono ?_
      rintro e w4 ⟨rfl, hb4⟩
      go_wp2_with fail
      go_ret
      exact ⟨by rw [HR.out]; rfl, stepB (hb3.alloc hb3.size _) hb4⟩
    · have kL := fun w => less_is w h2
      have hE2 : Hid (namedE o = if bareB o = true then 0 else 1) := by rw [Hid, hE.out, h1, h2]; rfl
      clear hE h1 h2
      generalize ofC o.id = X at *
      generalize ofD o.id = Y at *
      rcases h3 : bareB o with _ | _
      all_goals
        have HR := Lib.hid hE2.out
        rw [h3] at HR kn
        clear hE2 h3
        go_enter Tryd.func31, Tryd.ntmps31
        go_wp2_with fail
        refine (kO _).mono ?_
        rintro e w2 ⟨rfl, hb2⟩
        have hb3 := (((Below.refl _ w).alloc (Nat.le_refl _) _).trans (hb2.mono (by simp)))
        have hu := (Up.of hb2).trans (Up.alloc' _ (.cells #[.int .i64 X, .int .i64 Y] 23))
        have m := (OpAt.new w o A c 30).up hu
        obtain ⟨⟨m0, m1, m2, m3⟩, -, -⟩ := m
        clear kO hb2
        go_wp2_with fail
        refine (kL _).mono ?_
        rintro e w4 ⟨rfl, hb4⟩
        have m := (OpAt.new w o A c 30).up (hu.trans (Up.of hb4))
        obtain ⟨-, ⟨n4, n5, n6, n7, n8, n9, n10⟩, -⟩ := m
        go_wp2_with fail
        go_ret
        exact ⟨by rw [HR.out]; rfl, stepB (hb3.alloc hb3.size _) hb4⟩

set_option maxRecDepth 100000 in
set_option maxHeartbeats 4000000 in
theorem set_any (w : World) (o : OP) (A : Option Addr) (c : Nat) (hn : o.tx.length ≤ maxLen) (hT : Tabs w) : Calls Tryd.prog 30 #[opV o A c] w (RetInt (setE o) w) := by
  unfold opV opC
  have kT := fun w h => text_any w o.tx hn h
  have hE : Hid (setE o = if o.se = 0 then (if o.nn = 0 then textE o.tx else 1) else if o.se = 1 ∨ o.se = 2 then (if 0 ≤ o.nn ∧ o.nn ≤ 86400000 then (if o.tx = [] then 0 else 1) else 2) else 14) := rfl
  have hb1 : ∀ x, Below w.heap.size w (w.alloc x) := fun x => (Below.refl _ _).alloc (Nat.le_refl _) _
  have hb1 := Lib.hid hb1
  generalize textE o.tx = TE at *
  by_cases h0 : o.se = 0
  · have p0 : (o.se == 0) = true := by simpa using h0
    by_cases h1 : o.nn = 0
    · have p1 : (o.nn != 0) = false := by simpa using h1
      have HR : Hid (setE o = TE) := by rw [Hid, hE.out, if_pos h0, if_pos h1]
      clear hE h0 h1
      go_enter Tryd.func30, Tryd.ntmps30
      go_wp2_with fail
      refine (kT _ (hT.below (hb1.out _))).mono ?_
      rintro e w2 ⟨rfl, hb2⟩
      go_wp2_with fail
      go_ret
      exact ⟨by rw [HR.out]; rfl, stepB (hb1.out _) hb2⟩
    · have p1 : (o.nn != 0) = true := by simpa using h1
      have HR : Hid (setE o = 1) := by rw [Hid, hE.out, if_pos h0, if_neg h1]
      clear hE h0 h1
      go_enter Tryd.func30, Tryd.ntmps30
      go_wp2_with fail
      go_ret
      exact ⟨by rw [HR.out]; rfl, hb1.out _⟩
  · have p0 : (o.se == 0) = false := by simpa using h0
    by_cases h1 : o.se = 1 ∨ o.se = 2
    · have p1 : (o.se == 1) = true ∨ ((o.se == 1) = false ∧ (o.se == 2) = true) := by
        by_cases h2 : o.se = 1
        · exact .inl (by simpa using h2)
        · exact .inr ⟨by simpa using h2, by simp; omega⟩
      have hE2 : Hid (setE o = if 0 ≤ o.nn ∧ o.nn ≤ 86400000 then (if o.tx = [] then 0 else 1) else 2) := by rw [Hid, hE.out, if_neg h0, if_pos h1]
      clear hE h0 h1
      by_cases h2 : 0 ≤ o.nn ∧ o.nn ≤ 86400000
      · have q0 : decide (o.nn < 0) = false := decide_eq_false (by omega)
        have q1 : decide (86400000 < o.nn) = false := decide_eq_false (by omega)
        by_cases h3 : o.tx = []
        · have HR : Hid (setE o = 0) := by rw [Hid, hE2.out, if_pos h2, if_pos h3]
          clear hE2 h2
          rw [h3]
          rcases p1 with p1 | ⟨p1, p2⟩
          all_goals
            go_enter Tryd.func30, Tryd.ntmps30
            go_wp2_with fail
            go_ret
            exact ⟨by rw [HR.out]; rfl, hb1.out _⟩
        · have HR : Hid (setE o = 1) := by rw [Hid, hE2.out, if_pos h2, if_neg h3]
          have q3 : o.tx.isEmpty = false := by simpa using h3
          clear hE2 h2
          rcases p1 with p1 | ⟨p1, p2⟩
          all_goals
            go_enter Tryd.func30, Tryd.ntmps30
            go_wp2_with fail
            go_ret
            exact ⟨by rw [HR.out]; rfl, hb1.out _⟩
      · have HR : Hid (setE o = 2) := by rw [Hid, hE2.out, if_neg h2]
        have q : decide (o.nn < 0) = true ∨ (decide (o.nn < 0) = false ∧ decide (86400000 < o.nn) = true) := by
          simp only [decide_eq_false_iff_not, decide_eq_true_eq]; omega
        clear hE2 h2
        rcases q with q | ⟨q, q'⟩
        all_goals
          rcases p1 with p1 | ⟨p1, p2⟩
          all_goals
            go_enter Tryd.func30, Tryd.ntmps30
            go_wp2_with fail
            go_ret
            exact ⟨by rw [HR.out]; rfl, hb1.out _⟩
    · have p1 : (o.se == 1) = false := by simp; omega
      have p2 : (o.se == 2) = false := by simp; omega
      have HR : Hid (setE o = 14) := by rw [Hid, hE.out, if_neg h0, if_neg h1]
      clear hE h0 h1
      go_enter Tryd.func30, Tryd.ntmps30
      go_wp2_with fail
      go_ret
      exact ⟨by rw [HR.out]; rfl, hb1.out _⟩
end Go.Proofs.YtfjiikcbcoohdaaDoor
