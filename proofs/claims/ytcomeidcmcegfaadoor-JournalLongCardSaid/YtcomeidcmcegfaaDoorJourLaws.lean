/-
  The walks of JournalEntry and JournalWrite of the statements of layer 53. Conditions: the tables lie as their initialisers lay them.
-/
import Derived.Test.YtcomeidcmcegfaaDoorZT
import Derived.Test.YtcomeidcmcegfaaDoorJourFew
import Derived.Test.YtcomeidcmcegfaaDoorZC
namespace Go.Proofs.YtcomeidcmcegfaaDoor
open Go.RowKit
set_option linter.unusedVariables false
set_option linter.unusedSimpArgs false

theorem few_is (w : World) (A : Option Addr) (c : Nat) (xs : List OX) (hx : OpsRd w A xs) (hl : xs.length ≤ maxLen) {r : Bool} (h : fewJ (opL xs) = r) : Calls Tryd.prog 11 #[.slice A xs.length c] w (RetBool r w) := by
  subst h; exact few_any w A c xs hx hl
theorem few_len {l : List OP} (h : fewJ l = true) : l.length ≤ 40 := by
  unfold fewJ at h; rw [Bool.and_eq_true, decide_eq_true_eq] at h; exact h.1
set_option maxRecDepth 100000 in
set_option maxHeartbeats 16000000 in
theorem walk_JournalEntry (w : World) (o : OP) (A : Option Addr) (c : Nat) (bd : o.Bd) (hr : Rd w A (ovL o.ov)) (hc : o.ov.length ≤ c) (hT : Tabs w) (hF : TabR w) : Calls Tryd.prog 5 #[opV o A c] w fun e w' => e = .returned (.bool true) ∧ Below w.heap.size w w' := by
  have hX : OpsRd ((w.alloc (.cells (opC o A c).toArray 38)).alloc (.cells (opC o A c).toArray 38)) (some ⟨w.heap.size + 1, 0, none⟩) [⟨o, A, c⟩] := by
    refine ⟨?_, fun z hz => by rw [List.mem_singleton.1 hz]; exact ⟨bd, (hr.alloc _).alloc _, hc⟩⟩
    have := Rd.newAt (w.alloc (.cells (opC o A c).toArray 38)) (opsC [⟨o, A, c⟩]) 38 (0, 0) (w.heap.size + 1) (by rw [World.size_alloc])
    simpa [opsC, OX.cs] using this
  have hO0 : Blk ((w.alloc (.cells (opC o A c).toArray 38)).alloc (.cells (opC o A c).toArray 38)) w.heap.size 38 (opC o A c).toArray := (Blk.new w _ _).up (Up.alloc' _ _)
  have hb0 : Below w.heap.size w ((w.alloc (.cells (opC o A c).toArray 38)).alloc (.cells (opC o A c).toArray 38)) := ((Below.refl _ _).alloc (Nat.le_refl _) _).alloc (by simp) _
  rcases hf : fewJ [o] with _ | _
  · have kf := few_is _ _ 1 [⟨o, A, c⟩] hX (by simp [maxLen]) hf
    unfold opV opC at *
    dsimp only [List.length_cons, List.length_nil] at kf
    have hb0 := Lib.hid hb0
    clear hO0 hX
    go_enter Tryd.func5, Tryd.ntmps5
    go_wp2_with fail
    refine kf.mono ?_
    rintro e w2 ⟨rfl, hb2⟩
    have hbe := stepB hb0.out hb2
    clear kf hb2
    go_wp2_with fail
    refine (awake_any _ (hT.below hbe) (hF.below hbe)).mono ?_
    rintro e wz ⟨rfl, hbz⟩
    go_wp2_with fail
    go_ret
    exact ⟨rfl, stepB hbe hbz⟩
  · have kf := few_is _ _ 1 [⟨o, A, c⟩] hX (by simp [maxLen]) hf
    have k0 := fun w' (h : Below w.heap.size w w') => entry_any w' o A c bd (hr.below h) hc (hT.below h)
    have k1 := fun w' (h : Below w.heap.size w w') => rentry_any w' o A c bd (hr.below h) hc
    clear hf
    generalize checkE o = E at *
    generalize entB o = L at *
    have hO0' := Lib.hid hO0
    unfold opV at *
    have kf' := Lib.hid kf
    unfold opC at k0 k1 kf ⊢
    dsimp only [List.length_cons, List.length_nil] at kf
    have hb0 := Lib.hid hb0
    clear hO0 hX
    go_enter Tryd.func5, Tryd.ntmps5
    go_wp2_with fail
    refine kf.mono ?_
    rintro e w2 ⟨rfl, hb2⟩
    have hbe := stepB hb0.out hb2
    have hO : Blk w2 w.heap.size 38 (opC o A c).toArray := hO0'.out.up (Up.of hb2)
    clear kf hb2
    obtain ⟨⟨m0, m1, m2, m3⟩, ⟨m4, m5, m6, m7, m8, m9, m10⟩, ⟨m11, m12, m13, m14⟩⟩ := Blk.opAt hO
    go_wp2_with fail
    refine (k0 _ hbe).mono ?_
    rintro e w3 ⟨A3, c3, rfl, hown3, hb3⟩
    have hr3 := hown3.rd'
    have hO := hO.up (Up.of hb3)
    have hbe := stepB hbe hb3
    clear m0 m1 m2 m3 m4 m5 m6 m7 m8 m9 m10 m11 m12 m13 m14 k0 hb3 hown3
    obtain ⟨⟨m0, m1, m2, m3⟩, ⟨m4, m5, m6, m7, m8, m9, m10⟩, ⟨m11, m12, m13, m14⟩⟩ := Blk.opAt hO
    go_wp2_with fail
    refine (k1 _ hbe).mono ?_
    rintro e w4 ⟨A4, c4, rfl, hown4, hb4⟩
    have hr4 := hown4.rd'
    have hr3 := hr3.below hb4
    have hbe := stepB hbe hb4
    have hcv3 := str_of w4 A3 c3 L hr3
    have hcv4 := str_of w4 A4 c4 L hr4
    clear m0 m1 m2 m3 m4 m5 m6 m7 m8 m9 m10 m11 m12 m13 m14 k1 hb4 hown4 hr3 hr4 hO
    go_wp2_with fail
    refine (awake_any _ (hT.below hbe) (hF.below hbe)).mono ?_
    rintro e wz ⟨rfl, hbz⟩
    go_wp2_with fail
    go_ret
    exact ⟨rfl, stepB hbe hbz⟩
set_option maxRecDepth 100000 in
set_option maxHeartbeats 16000000 in
theorem walk_JournalWrite (w : World) (A : Option Addr) (c : Nat) (xs : List OX) (hr : Rd w A (opsC xs)) (hm : xs.length ≤ maxLen) (hg : ∀ x ∈ xs, x.Ok w) (hq : xs.length ≤ c) (hT : Tabs w) (hF : TabR w) :
    Calls Tryd.prog 6 #[.slice A xs.length c] w fun e w' => e = .returned (.bool true) ∧ Below w.heap.size w w' := by
  have hX : OpsRd w A xs := ⟨hr, hg⟩
  rcases hf : fewJ (opL xs) with _ | _
  · have kf := few_is w A c xs hX hm hf
    clear hf hX hr hg
    go_enter Tryd.func6, Tryd.ntmps6
    go_wp2_with fail
    refine kf.mono ?_
    rintro e w2 ⟨rfl, hb2⟩
    clear kf
    go_wp2_with fail
    refine (awake_any _ (hT.below hb2) (hF.below hb2)).mono ?_
    rintro e wz ⟨rfl, hbz⟩
    go_wp2_with fail
    go_ret
    exact ⟨rfl, stepB hb2 hbz⟩
  · have kf := few_is w A c xs hX hm hf
    have h40 := few_len hf
    rw [opL_len] at h40
    have k0 := fun w' (h : Below w.heap.size w w') => write_any w' A c xs (hX.below h) (by omega) (hT.below h)
    have k1 := fun w' (h : Below w.heap.size w w') => rwrite_any w' A c xs (hX.below h) (by omega)
    clear hf hX hr hg
    generalize wrtE (opL xs) = E at *
    generalize wrtB (opL xs) = L at *
    go_enter Tryd.func6, Tryd.ntmps6
    go_wp2_with fail
    refine kf.mono ?_
    rintro e w2 ⟨rfl, hb2⟩
    clear kf
    go_wp2_with fail
    refine (k0 _ hb2).mono ?_
    rintro e w3 ⟨A3, c3, rfl, hown3, hb3⟩
    have hr3 := hown3.rd'
    have hbe := stepB hb2 hb3
    clear k0 hb3 hown3
    go_wp2_with fail
    refine (k1 _ hbe).mono ?_
    rintro e w4 ⟨A4, c4, rfl, hown4, hb4⟩
    have hr4 := hown4.rd'
    have hr3 := hr3.below hb4
    have hbe := stepB hbe hb4
    have hcv3 := str_of w4 A3 c3 L hr3
    have hcv4 := str_of w4 A4 c4 L hr4
    clear k1 hb4 hown4 hr3 hr4
    go_wp2_with fail
    refine (awake_any _ (hT.below hbe) (hF.below hbe)).mono ?_
    rintro e wz ⟨rfl, hbz⟩
    go_wp2_with fail
    go_ret
    exact ⟨rfl, stepB hbe hbz⟩
end Go.Proofs.YtcomeidcmcegfaaDoor
