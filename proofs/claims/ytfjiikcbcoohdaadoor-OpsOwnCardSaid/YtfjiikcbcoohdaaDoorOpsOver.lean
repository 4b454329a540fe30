/-
  The walk of over of layer 49. Conditions: the list reads as pairs of ints.
-/
import Derived.Test.YtfjiikcbcoohdaaDoorOpsLeaf2
import Derived.IntWalk
namespace Go.Proofs.YtfjiikcbcoohdaaDoor
open Go.RowKit
set_option linter.unusedVariables false

/-- the stamp before index k -/
def prevAt (l : List (Int × Int)) (k : Nat) : Int × Int := if k = 0 then (0, 0) else l.getD (k - 1) (0, 0)
theorem prevAt_next {l : List (Int × Int)} {k : Nat} (hk : k < l.length) : prevAt l (k + 1) = l[k] := by
  unfold prevAt
  rw [if_neg (by omega), Nat.add_sub_cancel, List.getD, List.getElem?_eq_getElem hk]; rfl
theorem ovGo_drop {a b : Int} {l : List (Int × Int)} {k : Nat} {p : Int × Int} (hk : k < l.length) :
    ovGo a b k p (l.drop k) = if (rightB l[k].1 l[k].2 && lessB l[k].1 l[k].2 a b) = true then (if (decide (k = 0) || lessB p.1 p.2 l[k].1 l[k].2) = true then ovGo a b (k + 1) l[k] (l.drop (k + 1)) else 10) else 27 := by
  rw [List.drop_eq_getElem_cons hk, ovGo]
theorem flat2_at (l : List (Int × Int)) (k : Nat) (hk : k < l.length) : (ovL l)[k * 2]? = some (.int .i64 l[k].1) ∧ (ovL l)[k * 2 + 1]? = some (.int .i64 l[k].2) := by
  induction l generalizing k with
  | nil => simp at hk
  | cons p l ih =>
    rcases k with _ | k
    · exact ⟨rfl, rfl⟩
    · have := ih k (by simpa using hk)
      rw [ovL_flat] at this ⊢
      rw [List.flatMap_cons, show (k + 1) * 2 = (stC p).length + k * 2 by simp [stC]; omega, Nat.add_assoc, List.getElem?_append_right (by omega), List.getElem?_append_right (by omega), Nat.add_sub_cancel_left, Nat.add_sub_cancel_left]
      exact this
theorem ov_cells {w : World} {A : Option Addr} {l : List (Int × Int)} (h : Rd w A (ovL l)) {k : Nat} (hk : k < l.length) :
    ∃ b off, A = some ⟨b, off, none⟩ ∧ w.cell? ⟨b, off + k * 2, none⟩ = some (.int .i64 l[k].1) ∧ w.cell? ⟨b, off + k * 2 + 1, none⟩ = some (.int .i64 l[k].2) := by
  obtain ⟨h0, h1⟩ := flat2_at l k hk
  obtain ⟨b, off, e, hb, hc⟩ := h (by intro e; rw [e] at h0; simp at h0)
  exact ⟨b, off, e, hc _ _ h0, by have := hc _ _ h1; rwa [← Nat.add_assoc] at this⟩
theorem right_is (w : World) {r : Bool} {c d : Int} (h : rightB c d = r) : Calls Tryd.prog 26 #[.agg #[.int .i64 c, .int .i64 d]] w fun e w' => e = .returned (.bool r) ∧ w.alloc (.cells #[.int .i64 c, .int .i64 d] 23) = w' := by
  subst h; exact right_any w c d
def OverRel (w W1 : World) (o : OP) (vi : Value) (wr : World) : Prop :=
  ∃ k : Nat, k ≤ o.ov.length ∧ vi = .int .i64 k ∧ Hid (ovGo o.ac o.ad 0 (0, 0) o.ov = ovGo o.ac o.ad k (prevAt o.ov k) (o.ov.drop k)) ∧ Up W1 wr

set_option maxRecDepth 100000 in
set_option maxHeartbeats 4000000 in
theorem over_any (w : World) (o : OP) (A : Option Addr) (c : Nat) (hr : Rd w A (ovL o.ov)) (hl : o.ov.length ≤ maxLen) (hc : o.ov.length ≤ c) : Calls Tryd.prog 32 #[opV o A c] w (RetInt (overE o) w) := by
  unfold opV opC
  unfold maxLen at hl
  have hE : Hid (overE o = if o.ov = [] then 4 else if o.ov.length ≤ 16 then ovGo o.ac o.ad 0 (0, 0) o.ov else 11) := rfl
  have hb1 := Lib.hid (fun x => (Below.refl w.heap.size w).alloc (Nat.le_refl _) x)
  by_cases h0 : o.ov.length = 0
  · have HR : Hid (overE o = 4) := by rw [Hid, hE.out, if_pos (List.eq_nil_of_length_eq_zero h0)]
    have p0 : ((o.ov.length : Int) == 0) = true := beq_iff_eq.2 (by omega)
    clear hE h0
    go_enter Tryd.func32, Tryd.ntmps32
    go_wp2_with fail
    go_ret
    exact ⟨by rw [HR.out]; rfl, hb1.out _⟩
  · have p0 : ((o.ov.length : Int) == 0) = false := beq_eq_false_iff_ne.2 (by omega)
    by_cases h1 : o.ov.length ≤ 16
    · have p1 : decide (16 < (o.ov.length : Int)) = false := decide_eq_false (by omega)
      have HR : Hid (overE o = ovGo o.ac o.ad 0 (0, 0) o.ov) := by rw [Hid, hE.out, if_neg (by intro e; rw [e] at h0; exact h0 rfl), if_pos h1]
      clear hE
      go_enter Tryd.func32, Tryd.ntmps32
      go_wp2_with fail
      obtain ⟨W1, hW1⟩ : ∃ x, w.alloc (.cells (opC o A c).toArray 30) = x := ⟨_, rfl⟩
      have hb1 : Below w.heap.size w W1 := by rw [← hW1]; exact (Below.refl _ _).alloc (Nat.le_refl _) _
      have ho : OpAt W1 w.heap.size o A c := by rw [← hW1]; exact OpAt.new ..
      have hz1 : w.heap.size < W1.heap.size := by rw [← hW1]; simp
      unfold opC at hW1
      simp only [hW1]
      clear hW1
      have hr1 := hr.below hb1
      go_loopw [16] (OverRel w W1 o) (fun i _ => o.ov.length - (intOf i).toNat)
      case atStart => exact ⟨0, by omega, rfl, rfl, Up.refl _⟩
      case round =>
        obtain ⟨k, hk, rfl, hK, hu⟩ := hrel
        by_cases hlt : k < o.ov.length
        · have t1 : decide ((k : Int) < (o.ov.length : Int)) = true := decide_eq_true (by omega)
          obtain ⟨b, off, rfl, hc0, hc1⟩ := ov_cells (hu.rd hr1) hlt
          have hD := ovGo_drop (a := o.ac) (b := o.ad) (p := prevAt o.ov k) hlt
          have HD := Lib.hid hD
          have HPn := Lib.hid (prevAt_next hlt)
          clear hD
          obtain ⟨⟨x, y⟩, hxy⟩ : ∃ s, o.ov[k] = s := ⟨_, rfl⟩
          rw [hxy] at hc0 hc1 HD HPn
          have Hxy := Lib.hid hxy
          clear hxy
          dsimp only at hc0 hc1 HD
          have hua := hu.trans (Up.alloc' wr (.cells #[.int .i64 x, .int .i64 y] 23))
          rcases r1 : rightB x y with _ | _
          · have HV : Hid (overE o = 27) := by rw [Hid, HR.out, hK.out, HD.out, r1]; rfl
            have kR := fun w => right_is w r1
            clear HD r1
            go_wp2_with fail
            refine (kR _).mono ?_
            rintro e w3 ⟨rfl, rfl⟩
            go_wp2_with fail
            go_ret
            exact ⟨by rw [HV.out]; rfl, stepB hb1 (hua.trans (Up.alloc' _ _)).b⟩
          · have kR := fun w => right_is w r1
            have hub := hua.trans (Up.alloc' _ (.cells #[.int .i64 x, .int .i64 y] 23))
            have m := ho.up hub
            obtain ⟨⟨m0, m1, m2, m3⟩, -, -⟩ := m
            have hzr : w.heap.size < wr.heap.size := Nat.lt_of_lt_of_le hz1 hu.b.size
            rcases r2 : lessB x y o.ac o.ad with _ | _
            · have HV : Hid (overE o = 27) := by rw [Hid, HR.out, hK.out, HD.out, r1, r2]; rfl
              have kL := fun w => less_is w r2
              clear HD r1 r2
              go_wp2_with fail
              refine (kR _).mono ?_
              rintro e w3 ⟨rfl, rfl⟩
              go_wp2_with fail
              refine (kL _).mono ?_
              rintro e w4 ⟨rfl, hb4⟩
              go_wp2_with fail
              go_ret
              exact ⟨by rw [HV.out]; rfl, stepB hb1 (hub.trans (Up.of hb4)).b⟩
            · have kL := fun w => less_is w r2
              have HD2 : Hid (ovGo o.ac o.ad k (prevAt o.ov k) (o.ov.drop k) = if (decide (k = 0) || lessB (prevAt o.ov k).1 (prevAt o.ov k).2 x y) = true then ovGo o.ac o.ad (k + 1) (x, y) (o.ov.drop (k + 1)) else 10) := by rw [Hid, HD.out, r1, r2]; rfl
              clear HD r1 r2
              go_wp2_with fail
              refine (kR _).mono ?_
              rintro e w3 ⟨rfl, rfl⟩
              go_wp2_with fail
              refine (kL _).mono ?_
              rintro e w4 ⟨rfl, hb4⟩
              have huc := hub.trans (Up.of hb4)
              by_cases k0 : k = 0
              · subst k0
                have g0 : decide ((0 : Int) < ((0 : Nat) : Int)) = false := by decide
                have HN : Hid (ovGo o.ac o.ad 0 (0, 0) o.ov = ovGo o.ac o.ad 1 (prevAt o.ov 1) (o.ov.drop 1)) := by rw [Hid, hK.out, HD2.out, HPn.out]; rfl
                go_wp2_with fail
                go_quiet (fail)
                go_wp2_with fail
                go_roundw
                case rel => exact ⟨1, by omega, rfl, HN, huc.trans (Up.of (below_drewN (Below.refl _ _) _))⟩
                case measure => simp [intOf]; omega
              · obtain ⟨j, rfl⟩ : ∃ j, k = j + 1 := ⟨k - 1, by omega⟩
                have g0 : decide ((0 : Int) < ((j + 1 : Nat) : Int)) = true := decide_eq_true (by omega)
                obtain ⟨b', off', e', hp0, hp1⟩ := ov_cells (hu.rd hr1) (k := j) (by omega)
                cases e'
                have HPj := Lib.hid (prevAt_next (l := o.ov) (k := j) (by omega))
                generalize o.ov[j] = q at *
                obtain ⟨px, py⟩ := q
                have HD3 : Hid (ovGo o.ac o.ad (j + 1) (prevAt o.ov (j + 1)) (o.ov.drop (j + 1)) = if lessB px py x y = true then ovGo o.ac o.ad (j + 1 + 1) (x, y) (o.ov.drop (j + 1 + 1)) else 10) := by
                  rw [Hid, HD2.out, HPj.out]; rfl
                clear HD2 HPj
                have hux := (Up.alloc' (wr.alloc (.cells #[.int .i64 x, .int .i64 y] 23)) (.cells #[.int .i64 x, .int .i64 y] 23)).trans (Up.of hb4)
                have s0 := hux.cell (cell_lit2 wr (.int .i64 x) (.int .i64 y) 23).1
                have s1 := hux.cell (cell_lit2 wr (.int .i64 x) (.int .i64 y) 23).2
                have s2 := (ho.up huc).2.2.2.2.2
                have hrw := ((Up.alloc' wr (.cells #[.int .i64 x, .int .i64 y] 23)).trans hux)
                have s3 := hrw.cell hp0
                have s4 := hrw.cell hp1
                have l0 := fun w' (u : Up w4 w') => u.cell s0
                have l1 := fun w' (u : Up w4 w') => u.cell s1
                have l2 := fun w' (u : Up w4 w') => u.cell s2
                have l3 := fun w' (u : Up w4 w') => u.cell s3
                have l4 := fun w' (u : Up w4 w') => u.cell s4
                have b1 : IntKind.i64.wrap (((j + 1 : Nat) : Int) - 1) = (j : Int) := by rw [IntWalk.i64_in _ (by omega)]; omega
                have b5 : IntKind.i64.wrap ((j : Int) + 1 - 1) = (j : Int) := by rw [IntWalk.i64_in _ (by omega)]; omega
                have b6 : IntKind.i64.wrap (j : Int) = (j : Int) := IntWalk.i64_in _ (by omega)
                have b2 : (j : Int) < (o.ov.length : Int) := by omega
                have b3 : 0 ≤ (j : Int) := by omega
                have b4 : j < o.ov.length := by omega
                clear m0 m1 m2 m3 hc0 hc1 hp0 hp1 s0 s1 s2 s3 s4 kL kR
                rcases r3 : lessB px py x y with _ | _
                · have HV : Hid (overE o = 10) := by rw [Hid, HR.out, hK.out, HD3.out, r3]; rfl
                  have kL := fun w => less_is w r3
                  clear r3
                  go_wp2_with fail
                  go_region_held3 (fun w' => Up w4 w') (first | exact Up.drew _ | exact Up.refl _ | exact Up.trans (by assumption) (Up.of (by assumption))) (first | (go_at_call 56; refine (kL _).mono ?_; rintro e w5 ⟨rfl, hb5⟩))
                  have hv : Up w4 w5 := by first | assumption | exact Up.trans (by assumption) (Up.of hb5)
                  clear l0 l1 l2 l3 l4
                  go_wp2
                  go_ret
                  exact ⟨by rw [HV.out]; rfl, stepB hb1 (huc.trans hv).b⟩
                · have HN : Hid (ovGo o.ac o.ad 0 (0, 0) o.ov = ovGo o.ac o.ad (j + 1 + 1) (prevAt o.ov (j + 1 + 1)) (o.ov.drop (j + 1 + 1))) := by rw [Hid, hK.out, HD3.out, r3, HPn.out]; rfl
                  have kL := fun w => less_is w r3
                  clear r3
                  go_wp2_with fail
                  go_region_held3 (fun w' => Up w4 w') (first | exact Up.drew _ | exact Up.refl _ | exact Up.trans (by assumption) (Up.of (by assumption))) (first | (go_at_call 56; refine (kL _).mono ?_; rintro e w5 ⟨rfl, hb5⟩))
                  have hv : Up w4 w5 := by first | assumption | exact Up.trans (by assumption) (Up.of hb5)
                  clear l0 l1 l2 l3 l4
                  go_wp2
                  go_roundw
                  case rel => exact ⟨j + 1 + 1, by omega, by go_num, HN, huc.trans hv⟩
                  case measure => simp [intOf]; omega
        · obtain rfl : k = o.ov.length := by omega
          have t1 : decide ((o.ov.length : Int) < (o.ov.length : Int)) = false := by simp
          have HV : Hid (overE o = 0) := by rw [Hid, HR.out, hK.out, List.drop_length]; rfl
          go_wp2_with fail
          go_ret
          exact ⟨by rw [HV.out]; rfl, stepB hb1 hu.b⟩
    · have HR : Hid (overE o = 11) := by rw [Hid, hE.out, if_neg (by intro e; rw [e] at h0; exact h0 rfl), if_neg h1]
      have p1 : decide (16 < (o.ov.length : Int)) = true := decide_eq_true (by omega)
      clear hE h0 h1
      go_enter Tryd.func32, Tryd.ntmps32
      go_wp2_with fail
      go_ret
      exact ⟨by rw [HR.out]; rfl, hb1.out _⟩
end Go.Proofs.YtfjiikcbcoohdaaDoor
