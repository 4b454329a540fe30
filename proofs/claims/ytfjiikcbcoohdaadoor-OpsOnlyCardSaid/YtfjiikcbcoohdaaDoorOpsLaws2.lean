/-
  The walks of OpsBack and OpsOnly. Conditions: utf8's tables lie as their initialisers lay them.
-/
import Derived.Test.YtfjiikcbcoohdaaDoorZAwake
namespace Go.Proofs.YtfjiikcbcoohdaaDoor
open Go.RowKit
set_option linter.unusedVariables false
set_option linter.unusedSimpArgs false
theorem fR_bd (l : List UInt8) (hl : l.length ≤ 1000000000) : (fR l).Bd := by
  unfold fR; split
  · exact fO_bd l hl
  · exact ⟨⟨by decide, by decide⟩, ⟨by decide, by decide⟩, ⟨by decide, by decide⟩, ⟨by decide, by decide⟩, ⟨by decide, by decide⟩, ⟨by decide, by decide⟩, ⟨by decide, by decide⟩, ⟨by decide, by decide⟩, ⟨by decide, by decide⟩, ⟨by decide, by decide⟩,
      ⟨by decide, by decide⟩, ⟨by decide, by decide⟩, by show 0 ≤ _; omega, by show 0 ≤ _; omega, (by intro p hp; cases hp), by show 0 ≤ _; omega⟩
theorem opB_len {o : OP} (h : checkE o = 0) (hb : o.Bd) : (opB o).length ≤ 1000 := by
  obtain ⟨h1, h2, h3⟩ := check_size h
  have e : (opB o).length = ((ints10 o).flatMap enc).length + ((encT o.nt).length + ((enc o.se).length + ((enc o.nn).length + ((encT o.tx).length + ((enc o.ov.length).length + (ovEnc o.ov).length))))) := by
    rw [opB_eq]; simp only [List.length_append]
  have e1 := flat_len enc 10 (fun n => (enc_length n).2) (ints10 o)
  have e2 := flat_len (fun p : Int × Int => enc p.1 ++ enc p.2) 20 (fun p => by rw [List.length_append]; have := (enc_length p.1).2; have := (enc_length p.2).2; omega) o.ov
  have e3 : (ints10 o).length = 10 := rfl
  have e4 := encT_length o.nt
  have e5 := encT_length o.tx
  have e6 := (enc_length o.se).2
  have e7 := (enc_length o.nn).2
  have e8 := (enc_length (o.ov.length : Int)).2
  have e9 : (ovEnc o.ov).length = (o.ov.flatMap fun p : Int × Int => enc p.1 ++ enc p.2).length := rfl
  omega
/-- From of an operation's bytes is the operation -/
theorem from_back {o : OP} (h : checkE o = 0) (hb : o.Bd) : fE (opB o) = 0 ∧ fR (opB o) = o := by
  obtain ⟨h1, h2, h3⟩ := check_size h
  have hc := (from_cut o [] (opB o).length hb h3 (opB o) (by rw [List.append_nil, List.take_length])).2 (Nat.le_refl _)
  have e8 : fQ8 (opB o) = (fS (opB o)).2 := by unfold fQ8; rw [hc.2, if_neg (by simp)]
  have e0 : fE (opB o) = 0 := by unfold fE orE; rw [e8, hc.2, if_pos rfl, hc.1, h]
  exact ⟨e0, by rw [fR_ok e0, hc.1]⟩

set_option maxRecDepth 100000 in
set_option maxHeartbeats 16000000 in
theorem walk_OpsBack (w : World) (o : OP) (A : Option Addr) (c : Nat) (bd : o.Bd) (hr : Rd w A (ovL o.ov)) (hc : o.ov.length ≤ c) (hT : Tabs w) : Calls Tryd.prog 8 #[opV o A c] w fun e w' => e = .returned (.bool true) ∧ Below w.heap.size w w' := by
  rcases hf : fewB o with _ | _
  · have kf := fun w => few_is w (A := A) (c := c) hf
    unfold opV opC at kf ⊢
    go_enter Tryd.func8, Tryd.ntmps8
    go_wp2_with fail
    refine (kf _).mono ?_
    rintro e w2 ⟨rfl, hb2⟩
    have hbe := stepB ((Below.refl w.heap.size w).alloc (Nat.le_refl _) _) hb2
    have hO : Blk w2 w.heap.size 30 (opC o A c).toArray := (Blk.new w 30 (opC o A c).toArray).up (Up.of hb2)
    clear kf hb2
    go_wp2_with fail
    refine (awake_any _ (hT.below hbe)).mono ?_
    rintro e wz ⟨rfl, hbz⟩
    go_wp2_with fail
    go_ret
    exact ⟨rfl, stepB hbe hbz⟩
  have kf := fun w => few_is w (A := A) (c := c) hf
  have k0 := fun w' (h : Below w.heap.size w w') => bytes_any w' o A c bd (hr.below h) hc (hT.below h)
  have k1 := fun w' (h : Below w.heap.size w w') => check_any w' o A c bd (hr.below h) hc (hT.below h)
  by_cases h0 : checkE o = 0
  rotate_left
  · have eb : bytesR o = [] := by unfold bytesR; rw [if_neg h0]
    rw [eb] at k0
    have t1 : (checkE o != 0) = true := by simpa using h0
    clear h0 eb
    generalize checkE o = E at *
    unfold opV opC at kf k0 k1 ⊢
    go_enter Tryd.func8, Tryd.ntmps8
    go_wp2_with fail
    refine (kf _).mono ?_
    rintro e w2 ⟨rfl, hb2⟩
    have hbe := stepB ((Below.refl w.heap.size w).alloc (Nat.le_refl _) _) hb2
    have hO : Blk w2 w.heap.size 30 (opC o A c).toArray := (Blk.new w 30 (opC o A c).toArray).up (Up.of hb2)
    clear kf hb2
    obtain ⟨⟨m0, m1, m2, m3⟩, ⟨m4, m5, m6, m7, m8, m9, m10⟩, ⟨m11, m12, m13, m14⟩⟩ := Blk.opAt hO
    go_wp2_with fail
    refine (k0 _ hbe).mono ?_
    rintro e w3 ⟨A3, c3, rfl, hown3, hb3⟩
    have hO := hO.up (Up.of hb3)
    have hbe := stepB hbe hb3
    clear m0 m1 m2 m3 m4 m5 m6 m7 m8 m9 m10 m11 m12 m13 m14 k0 hb3 hown3
    obtain ⟨⟨m0, m1, m2, m3⟩, ⟨m4, m5, m6, m7, m8, m9, m10⟩, ⟨m11, m12, m13, m14⟩⟩ := Blk.opAt hO
    go_wp2_with fail
    refine (k1 _ hbe).mono ?_
    rintro e w4 ⟨rfl, hb4⟩
    have hbe := stepB hbe hb4
    clear m0 m1 m2 m3 m4 m5 m6 m7 m8 m9 m10 m11 m12 m13 m14 k1 hb4
    go_wp2_with fail
    refine (awake_any _ (hT.below hbe)).mono ?_
    rintro e wz ⟨rfl, hbz⟩
    go_wp2_with fail
    go_ret
    exact ⟨rfl, stepB hbe hbz⟩
  · have eb : bytesR o = opB o := by unfold bytesR; rw [if_pos h0]
    have hlen := opB_len h0 bd
    obtain ⟨z1, z2⟩ := from_back h0 bd
    have k2 := fun w' A' c' (h : Rd w' A' ((opB o).map U8)) (hc' : (opB o).length ≤ c') (t : Tabs w') => from_any w' A' c' (opB o) h (by omega) hc' t
    rw [z1, z2] at k2
    rw [eb, h0] at k0
    rw [h0] at k1
    clear h0 eb z1 z2 hlen
    generalize opB o = L at *
    unfold RetOp opV opC at k2
    unfold opV opC at kf k0 k1 ⊢
    go_enter Tryd.func8, Tryd.ntmps8
    go_wp2_with fail
    refine (kf _).mono ?_
    rintro e w2 ⟨rfl, hb2⟩
    have hbe := stepB ((Below.refl w.heap.size w).alloc (Nat.le_refl _) _) hb2
    have hO : Blk w2 w.heap.size 30 (opC o A c).toArray := (Blk.new w 30 (opC o A c).toArray).up (Up.of hb2)
    clear kf hb2
    obtain ⟨⟨m0, m1, m2, m3⟩, ⟨m4, m5, m6, m7, m8, m9, m10⟩, ⟨m11, m12, m13, m14⟩⟩ := Blk.opAt hO
    go_wp2_with fail
    refine (k0 _ hbe).mono ?_
    rintro e w3 ⟨A3, c3, rfl, hown3, hb3⟩
    obtain ⟨_, _, e3, hc3, hr3⟩ := hown3.rd
    cases e3
    have hO := hO.up (Up.of hb3)
    have hbe := stepB hbe hb3
    clear m0 m1 m2 m3 m4 m5 m6 m7 m8 m9 m10 m11 m12 m13 m14 k0 hb3 hown3
    go_wp2_with fail
    refine (k2 _ _ _ hr3 hc3 (hT.below hbe)).mono ?_
    rintro e w4 ⟨A4, c4, rfl, hr4, hc4, hb4⟩
    obtain ⟨W4, hW4⟩ : ∃ x, w4.alloc (.cells (opC o A4 c4).toArray 30) = x := ⟨_, rfl⟩
    have hP : Blk W4 w4.heap.size 30 (opC o A4 c4).toArray := by rw [← hW4]; exact Blk.new _ _ _
    have hu4 : Up w4 W4 := by rw [← hW4]; exact Up.alloc' _ _
    have hO := (hO.up (Up.of hb4)).up hu4
    have hbe := stepB hbe (stepB hb4 hu4.b)
    have hr4 := hu4.rd hr4
    have HW4 := Lib.hid hW4
    clear k2 hW4 hu4 hb4 hr3
    go_upto_region 7 with fail
    have HW4' := HW4.out
    unfold opC at HW4'
    try simp only [HW4']
    clear HW4 HW4'
    have kS := fun w' (h : Below w.heap.size w w') (u : Up W4 w') => rsame_any w' o o A4 A c4 c (u.rd hr4) (hr.below h) bd.ol bd.ol
    rw [sameB_self] at kS
    unfold opV opC at kS
    obtain ⟨⟨m0, m1, m2, m3⟩, ⟨m4, m5, m6, m7, m8, m9, m10⟩, ⟨m11, m12, m13, m14⟩⟩ := Blk.opAt hO
    obtain ⟨⟨n0, n1, n2, n3⟩, ⟨n4, n5, n6, n7, n8, n9, n10⟩, ⟨n11, n12, n13, n14⟩⟩ := Blk.opAt hP
    go_wp2_with fail
    refine (kS _ hbe (Up.refl _)).mono ?_
    rintro e w5 ⟨rfl, hb5⟩
    have hO := hO.up (Up.of hb5)
    have hbe := stepB hbe hb5
    clear kS hb5 m0 m1 m2 m3 m4 m5 m6 m7 m8 m9 m10 m11 m12 m13 m14 n0 n1 n2 n3 n4 n5 n6 n7 n8 n9 n10 n11 n12 n13 n14
    obtain ⟨⟨m0, m1, m2, m3⟩, ⟨m4, m5, m6, m7, m8, m9, m10⟩, ⟨m11, m12, m13, m14⟩⟩ := Blk.opAt hO
    go_wp2_with fail
    refine (k1 _ hbe).mono ?_
    rintro e w6 ⟨rfl, hb6⟩
    have hbe := stepB hbe hb6
    clear m0 m1 m2 m3 m4 m5 m6 m7 m8 m9 m10 m11 m12 m13 m14 k1 hb6
    go_wp2_with fail
    refine (awake_any _ (hT.below hbe)).mono ?_
    rintro e wz ⟨rfl, hbz⟩
    go_wp2_with fail
    go_ret
    exact ⟨rfl, stepB hbe hbz⟩

set_option maxRecDepth 100000 in
set_option maxHeartbeats 16000000 in
theorem walk_OpsOnly (w : World) (A : Option Addr) (c : Nat) (l : List UInt8) (hr : Rd w A (l.map U8)) (hm : l.length ≤ maxLen) (hlc : l.length ≤ c) (hT : Tabs w) : Calls Tryd.prog 9 #[.slice A l.length c] w fun e w' => e = .returned (.bool true) ∧ Below w.heap.size w w' := by
  by_cases hl : l.length ≤ 1500
  rotate_left
  · have t0 : decide (1500 < (l.length : Int)) = true := decide_eq_true (by omega)
    clear hl hm
    go_enter Tryd.func9, Tryd.ntmps9
    go_wp2_with fail
    refine (awake_any _ hT).mono ?_
    rintro e wz ⟨rfl, hbz⟩
    go_wp2_with fail
    go_ret
    exact ⟨rfl, hbz⟩
  have t0 : decide (1500 < (l.length : Int)) = false := decide_eq_false (by omega)
  have k0 := fun w' (h : Rd w' A (l.map U8)) (t : Tabs w') => from_any w' A c l h (by omega) hlc t
  have hbd := fR_bd l (by omega)
  by_cases h0 : fE l = 0
  rotate_left
  · have eR := fR_err h0
    rw [eR] at k0
    have t1 : (fE l != 0) = true := by simpa using h0
    clear hl hm h0 eR hbd
    generalize fE l = E at *
    go_enter Tryd.func9, Tryd.ntmps9
    go_wp2_with fail
    refine (k0 _ hr hT).mono ?_
    rintro e w2 ⟨A2, c2, rfl, -, hc2, hb2⟩
    obtain ⟨W2, hW2⟩ : ∃ x, w2.alloc (.cells (opC OP.zero A2 c2).toArray 30) = x := ⟨_, rfl⟩
    have hO : Blk W2 w2.heap.size 30 (opC OP.zero A2 c2).toArray := by rw [← hW2]; exact Blk.new _ _ _
    have hu2 : Up w2 W2 := by rw [← hW2]; exact Up.alloc' _ _
    have hbe := stepB hb2 hu2.b
    have HW2 := Lib.hid hW2
    clear k0 hW2 hu2
    unfold opV opC OP.zero
    dsimp only [List.length_nil]
    go_upto_region 5 with fail
    have HW2' := HW2.out
    simp only [opC, OP.zero, List.length_nil] at HW2'
    try simp only [HW2']
    clear HW2 HW2'
    have kS := fun w' => rsame_any w' OP.zero OP.zero A2 none c2 0 (Rd.nil _ _) (Rd.nil _ _) (by decide) (by decide)
    rw [sameB_self] at kS
    unfold opV opC OP.zero at kS
    dsimp only [List.length_nil] at kS
    obtain ⟨⟨m0, m1, m2, m3⟩, ⟨m4, m5, m6, m7, m8, m9, m10⟩, ⟨m11, m12, m13, m14⟩⟩ := Blk.opAt hO
    dsimp only [OP.zero, List.length_nil] at m0 m1 m2 m3 m4 m5 m6 m7 m8 m9 m10 m11 m12 m13 m14
    go_wp2_with fail
    refine (kS _).mono ?_
    rintro e w4 ⟨rfl, hb4⟩
    have hbe := stepB hbe hb4
    clear kS hb4 m0 m1 m2 m3 m4 m5 m6 m7 m8 m9 m10 m11 m12 m13 m14
    go_wp2_with fail
    refine (awake_any _ (hT.below hbe)).mono ?_
    rintro e wz ⟨rfl, hbz⟩
    go_wp2_with fail
    go_ret
    exact ⟨rfl, stepB hbe hbz⟩
  · have eR := fR_ok h0
    have eO := from_only h0
    have h1 := (from_all h0).1
    rw [eR] at k0 hbd
    rw [h0] at k0
    have k1 := fun w' A' c' (h : Rd w' A' (ovL (fO l).ov)) (hc' : (fO l).ov.length ≤ c') (t : Tabs w') => bytes_any w' (fO l) A' c' hbd h hc' t
    have eb : bytesR (fO l) = l := by unfold bytesR; rw [if_pos h1, eO]
    rw [eb, h1] at k1
    have hbd := Lib.hid hbd
    clear hl hm h0 eR eO h1 eb
    generalize fO l = o at *
    unfold RetOp opV opC at k0
    unfold opV opC at k1
    go_enter Tryd.func9, Tryd.ntmps9
    go_wp2_with fail
    refine (k0 _ hr hT).mono ?_
    rintro e w2 ⟨A2, c2, rfl, hr2, hc2, hb2⟩
    obtain ⟨W2, hW2⟩ : ∃ x, w2.alloc (.cells (opC o A2 c2).toArray 30) = x := ⟨_, rfl⟩
    have hO : Blk W2 w2.heap.size 30 (opC o A2 c2).toArray := by rw [← hW2]; exact Blk.new _ _ _
    have hu2 : Up w2 W2 := by rw [← hW2]; exact Up.alloc' _ _
    have hbe := stepB hb2 hu2.b
    have hr2 := hu2.rd hr2
    have HW2 := Lib.hid hW2
    clear k0 hW2 hu2
    go_upto_region 6 with fail
    have HW2' := HW2.out
    unfold opC at HW2'
    try simp only [HW2']
    clear HW2 HW2'
    obtain ⟨⟨m0, m1, m2, m3⟩, ⟨m4, m5, m6, m7, m8, m9, m10⟩, ⟨m11, m12, m13, m14⟩⟩ := Blk.opAt hO
    go_wp2_with fail
    refine (k1 _ _ _ hr2 hc2 (hT.below hbe)).mono ?_
    rintro e w3 ⟨A3, c3, rfl, hown3, hb3⟩
    have hr3 := hown3.rd'
    have hbe := stepB hbe hb3
    have hcv3 := str_of w3 A3 c3 l hr3
    have hcv4 := str_of w3 A c l (hr.below hbe)
    clear m0 m1 m2 m3 m4 m5 m6 m7 m8 m9 m10 m11 m12 m13 m14 k1 hb3 hown3 hr3
    go_wp2_with fail
    refine (awake_any _ (hT.below hbe)).mono ?_
    rintro e wz ⟨rfl, hbz⟩
    go_wp2_with fail
    go_ret
    exact ⟨rfl, stepB hbe hbz⟩
end Go.Proofs.YtfjiikcbcoohdaaDoor
