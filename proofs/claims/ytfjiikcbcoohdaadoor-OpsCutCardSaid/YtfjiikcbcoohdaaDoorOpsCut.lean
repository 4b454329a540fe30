/-
  The walk of OpsCut. Conditions: utf8's tables lie as their initialisers lay them.
-/
import Derived.Test.YtfjiikcbcoohdaaDoorZAwake
import Derived.Test.YtfjiikcbcoohdaaDoorSliceTo
namespace Go.Proofs.YtfjiikcbcoohdaaDoor
open Go.RowKit
set_option linter.unusedVariables false
set_option linter.unusedSimpArgs false
theorem opB_len {o : OP} (h : checkE o = 0) (hb : o.Bd) : (opB o).length ≤ 1000 := by
  obtain ⟨h1, h2, h3⟩ := check_size h
  have e : (opB o).length = ((ints10 o).flatMap enc).length + ((encT o.nt).length + ((enc o.se).length + ((enc o.nn).length + ((encT o.tx).length + ((enc o.ov.length).length + (ovEnc o.ov).length))))) := by
    rw [opB_eq]; simp only [List.length_append]
  have e1 := flat_len enc 10 (fun n => (enc_length n).2) (ints10 o)
  have e2 := flat_len (fun p : Int × Int => enc p.1 ++ enc p.2) 20 (fun p => by rw [List.length_append]; have := (enc_length p.1).2; have := (enc_length p.2).2; omega) o.ov
  have e3 : (ints10 o).length = 10 := rfl
  have e4 := encT_length o.nt
  have e5 := encT_length o.tx
  have e6 := (enc_length o.se).2
  have e7 := (enc_length o.nn).2
  have e8 := (enc_length (o.ov.length : Int)).2
  have e9 : (ovEnc o.ov).length = (o.ov.flatMap fun p : Int × Int => enc p.1 ++ enc p.2).length := rfl
  omega
theorem opB_pos (o : OP) : 1 ≤ (opB o).length := by
  have h := (enc_length o.ac).1
  have e : opB o = enc o.ac ++ (([o.ad, o.kd, o.rc, o.id, o.ti, o.pa, o.sf, o.st, o.rk].flatMap enc) ++ (encT o.nt ++ (enc o.se ++ (enc o.nn ++ (encT o.tx ++ (enc o.ov.length ++ ovEnc o.ov)))))) := by
    rw [opB_eq]; show (enc o.ac ++ _) ++ _ = _; rw [List.append_assoc]; rfl
  rw [e, List.length_append]; omega
theorem from_short {o : OP} (h : checkE o = 0) (hb : o.Bd) {k : Nat} (hk : k < (opB o).length) : fE ((opB o).take k) = 4 ∧ fR ((opB o).take k) = OP.zero := by
  obtain ⟨h1, h2, h3⟩ := check_size h
  have hc := (from_cut o [] k hb h3 ((opB o).take k) (by rw [List.append_nil])).1 hk
  exact ⟨hc, fR_err (by rw [hc]; decide)⟩
theorem from_more {o : OP} (h : checkE o = 0) (hb : o.Bd) (t : List UInt8) : fE (opB o ++ t) = if t.length = 0 then 0 else 3 := by
  obtain ⟨h1, h2, h3⟩ := check_size h
  have hc := (from_cut o t (opB o ++ t).length hb h3 (opB o ++ t) (by rw [List.take_length])).2 (by rw [List.length_append]; omega)
  by_cases h0 : t.length = 0
  · have e8 : fQ8 (opB o ++ t) = (fS (opB o ++ t)).2 := by unfold fQ8; rw [hc.2, if_neg (by rw [List.length_append, h0]; simp)]
    unfold fE orE; rw [e8, hc.2, if_pos rfl, hc.1, h, if_pos h0]
  · have e8 : fQ8 (opB o ++ t) = ((((opB o).length : Nat) : Int), 3) := by
      unfold fQ8; rw [hc.2, if_pos ⟨rfl, by show (((opB o).length : Nat) : Int) < _; rw [List.length_append]; omega⟩]
    unfold fE orE; rw [e8, if_neg (by show ¬ (3 : Int) = 0; decide), if_neg h0]

set_option maxRecDepth 100000 in
set_option maxHeartbeats 16000000 in
theorem walk_OpsCut (w : World) (o : OP) (A : Option Addr) (c : Nat) (bd : o.Bd) (hr : Rd w A (ovL o.ov)) (hc : o.ov.length ≤ c) (cut : Nat) (hcut : cut < 65536) (C : Option Addr) (f : Nat) (t : List UInt8) (hC : Rd w C (t.map U8)) (ht : t.length ≤ maxLen) (htf : t.length ≤ f) (hT : Tabs w) : Calls Tryd.prog 10 #[opV o A c, .int .u16 cut, .slice C t.length f] w fun e w' => e = .returned (.bool true) ∧ Below w.heap.size w w' := by
  rcases hf : fewB o with _ | _
  · have kf := fun w => few_is w (A := A) (c := c) hf
    unfold opV opC at kf ⊢
    go_enter Tryd.func10, Tryd.ntmps10
    go_wp2_with fail
    refine (kf _).mono ?_
    rintro e w2 ⟨rfl, hb2⟩
    have hbe := stepB ((Below.refl w.heap.size w).alloc (Nat.le_refl _) _) hb2
    have hO : Blk w2 w.heap.size 30 (opC o A c).toArray := (Blk.new w 30 (opC o A c).toArray).up (Up.of hb2)
    clear kf hb2
    go_wp2_with fail
    refine (awake_any _ (hT.below hbe)).mono ?_
    rintro e wz ⟨rfl, hbz⟩
    go_wp2_with fail
    go_ret
    exact ⟨rfl, stepB hbe hbz⟩
  have kf := fun w => few_is w (A := A) (c := c) hf
  by_cases hl : t.length ≤ 300
  rotate_left
  · have t0 : decide (300 < (t.length : Int)) = true := decide_eq_true (by omega)
    clear hl ht
    unfold opV opC at kf ⊢
    go_enter Tryd.func10, Tryd.ntmps10
    go_wp2_with fail
    refine (kf _).mono ?_
    rintro e w2 ⟨rfl, hb2⟩
    have hbe := stepB ((Below.refl w.heap.size w).alloc (Nat.le_refl _) _) hb2
    have hO : Blk w2 w.heap.size 30 (opC o A c).toArray := (Blk.new w 30 (opC o A c).toArray).up (Up.of hb2)
    clear kf hb2
    go_wp2_with fail
    refine (awake_any _ (hT.below hbe)).mono ?_
    rintro e wz ⟨rfl, hbz⟩
    go_wp2_with fail
    go_ret
    exact ⟨rfl, stepB hbe hbz⟩
  have t0 : decide (300 < (t.length : Int)) = false := decide_eq_false (by omega)
  have k0 := fun w' (h : Below w.heap.size w w') => bytes_any w' o A c bd (hr.below h) hc (hT.below h)
  by_cases h0 : checkE o = 0
  rotate_left
  · have t1 : (checkE o != 0) = true := by simpa using h0
    clear h0
    generalize checkE o = E at *
    unfold opV opC at kf k0 ⊢
    go_enter Tryd.func10, Tryd.ntmps10
    go_wp2_with fail
    refine (kf _).mono ?_
    rintro e w2 ⟨rfl, hb2⟩
    have hbe := stepB ((Below.refl w.heap.size w).alloc (Nat.le_refl _) _) hb2
    have hO : Blk w2 w.heap.size 30 (opC o A c).toArray := (Blk.new w 30 (opC o A c).toArray).up (Up.of hb2)
    clear kf hb2
    obtain ⟨⟨m0, m1, m2, m3⟩, ⟨m4, m5, m6, m7, m8, m9, m10⟩, ⟨m11, m12, m13, m14⟩⟩ := Blk.opAt hO
    go_wp2_with fail
    refine (k0 _ hbe).mono ?_
    rintro e w3 ⟨A3, c3, rfl, hown3, hb3⟩
    have hbe := stepB hbe hb3
    clear m0 m1 m2 m3 m4 m5 m6 m7 m8 m9 m10 m11 m12 m13 m14 k0 hb3 hown3
    go_wp2_with fail
    refine (awake_any _ (hT.below hbe)).mono ?_
    rintro e wz ⟨rfl, hbz⟩
    go_wp2_with fail
    go_ret
    exact ⟨rfl, stepB hbe hbz⟩
  have eb : bytesR o = opB o := by unfold bytesR; rw [if_pos h0]
  have hlen := opB_len h0 bd
  have hpos := opB_pos o
  have hS := fun k (hk : k < (opB o).length) => from_short h0 bd hk
  have hM := from_more h0 bd t
  rw [eb, h0] at k0
  have HS := Lib.hid hS
  clear h0 eb hS
  generalize opB o = L at *
  obtain ⟨i0, hi0, hz0, hz1, hz2⟩ := info_parts info_u8
  obtain ⟨X, hX⟩ : ∃ X, X = L ++ t := ⟨_, rfl⟩
  have hXl : X.length ≤ 2000 := by rw [hX, List.length_append]; omega
  rw [← hX] at hM
  have HX := Lib.hid hX
  clear hX
  have k1 := fun w' A' c' k (hk : k < L.length) (h : Rd w' A' (L.map U8)) (hc' : L.length ≤ c') (tb : Tabs w') => from_any w' A' c' (L.take k) (h.take8 k) (by rw [List.length_take]; omega) (by rw [List.length_take]; omega) tb
  have k2 := fun w' A' c' (h : Rd w' A' (X.map U8)) (hc' : X.length ≤ c') (tb : Tabs w') => from_any w' A' c' X h (by omega) hc' tb
  have k1 : ∀ w' A' c' k, k < L.length → Rd w' A' (L.map U8) → L.length ≤ c' → Tabs w' → Calls Tryd.prog 18 #[.slice A' k c'] w' (RetOp OP.zero 4 w') := fun w' A' c' k hk h hc' tb => by
    have x := k1 w' A' c' k hk h hc' tb
    rw [(HS.out k hk).1, (HS.out k hk).2, List.length_take, Nat.min_eq_left (by omega)] at x
    exact x
  have p0 : ((L.length : Int) == 0) = false := beq_eq_false_iff_ne.2 (by omega)
  have hM := Lib.hid hM
  generalize fR X = o2 at *
  obtain ⟨G, hG⟩ : ∃ G, fE X = G := ⟨_, rfl⟩
  rw [hG] at k2
  have HG := Lib.hid hG
  clear hG
  unfold RetOp opV opC OP.zero at k1
  unfold RetOp opV opC at k2
  dsimp only [List.length_nil] at k1
  unfold opV opC at kf k0 ⊢
  go_enter Tryd.func10, Tryd.ntmps10
  go_wp2_with fail
  refine (kf _).mono ?_
  rintro e w2 ⟨rfl, hb2⟩
  have hbe := stepB ((Below.refl w.heap.size w).alloc (Nat.le_refl _) _) hb2
  have hO : Blk w2 w.heap.size 30 (opC o A c).toArray := (Blk.new w 30 (opC o A c).toArray).up (Up.of hb2)
  clear kf hb2
  obtain ⟨⟨m0, m1, m2, m3⟩, ⟨m4, m5, m6, m7, m8, m9, m10⟩, ⟨m11, m12, m13, m14⟩⟩ := Blk.opAt hO
  go_wp2_with fail
  refine (k0 _ hbe).mono ?_
  rintro e w3 ⟨A3, c3, rfl, hown3, hb3⟩
  obtain ⟨_, _, e3, hc3, hr3⟩ := hown3.rd
  cases e3
  have hbe := stepB hbe hb3
  clear m0 m1 m2 m3 m4 m5 m6 m7 m8 m9 m10 m11 m12 m13 m14 k0 hb3 hown3 hO
  have sl := slice_to A3 c3 L.length hc3 ((cut : Int) % (L.length : Int)) (cut % L.length) (by simp) (by have := Nat.mod_lt cut (show 0 < L.length by omega); omega)
  have hk : cut % L.length < L.length := Nat.mod_lt _ (by omega)
  generalize cut % L.length = k at *
  go_wp2_with fail
  refine (k1 _ _ _ k hk hr3 hc3 (hT.below hbe)).mono ?_
  rintro e w4 ⟨A4, c4, rfl, -, -, hb4⟩
  obtain ⟨W4, hW4⟩ : ∃ x, w4.alloc (.cells (opC OP.zero A4 c4).toArray 30) = x := ⟨_, rfl⟩
  have hu4 : Up w3 W4 := by rw [← hW4]; exact (Up.of hb4).trans (Up.alloc' _ _)
  have hbe := stepB hbe hu4.b
  have hr3 := hu4.rd hr3
  have HW4 := Lib.hid hW4
  clear k1 hW4 hu4 hb4 sl hk
  go_upto_region 9 with fail
  have HW4' := HW4.out
  simp only [opC, OP.zero, List.length_nil] at HW4'
  try simp only [HW4']
  clear HW4 HW4'
  have rC := hC.below hbe
  go_wp2_with (first
    | (at_builtin
       refine wpList_append_map _ U8 U8_one rfl (.tmp 45) (.tmp 46) _ rfl W4.heap.size 5 i0 _ 1 Tryd.underlying35 hi0 hz0 hz1 hz2 rfl (some ⟨W4.heap.size, 0, none⟩) 0 [] rfl (.inr ⟨rfl, rfl, _, rfl, Nat.le_refl _, by simp⟩) A3 c3 L rfl (hr3.alloc _) (by simp only [maxLen, List.length_nil]; omega) (by simp only [List.length_nil]; omega) (by simp) ?_
       intro Aa ca la wa ea howna hra hga hba hata
       obtain rfl : L = la := ea.out.symm
       have ha1 := ((Below.refl W4.heap.size W4).alloc (Nat.le_refl _) (.cells #[] 5)).trans hba
       clear ea hga hba hata hra)
    | (at_builtin
       refine wpList_append_map _ U8 U8_one rfl (.tmp 47) (.tmp 48) _ rfl W4.heap.size 5 i0 _ 1 Tryd.underlying35 hi0 hz0 hz1 hz2 rfl Aa ca L rfl howna C f t rfl (rC.below ha1) (by simp only [maxLen]; omega) (by omega) ha1.size ?_
       intro Ab cb lb wb eb hownb hrb hgb hbb hatb
       obtain rfl : X = lb := by rw [HX.out]; exact eb.out.symm
       have hu1 := Up.of (ha1.trans hbb)
       have hrx := hownb.rd'
       have lcx : X.length ≤ cb := (by obtain ⟨_, _, e, q, _⟩ := hownb.form; injection e with _ _ e3; omega)
       clear eb hgb hbb hatb hrb howna ha1 hownb)
    | fail)
  have hbe := stepB hbe hu1.b
  refine (k2 _ _ _ hrx lcx (hT.below hbe)).mono ?_
  rintro e w5 ⟨A5, c5, rfl, -, -, hb5⟩
  obtain ⟨W5, hW5⟩ : ∃ x, w5.alloc (.cells (opC o2 A5 c5).toArray 30) = x := ⟨_, rfl⟩
  have hu5 : Up wb W5 := by rw [← hW5]; exact (Up.of hb5).trans (Up.alloc' _ _)
  have hbe := stepB hbe hu5.b
  have HW5 := Lib.hid hW5
  clear k2 hW5 hu5 hb5 hrx lcx
  go_upto_region 10 with fail
  have HW5' := HW5.out
  unfold opC at HW5'
  try simp only [HW5']
  clear HW5 HW5'
  by_cases h9 : t.length = 0
  · have g1 : G = 0 := by rw [← HG.out, hM.out, if_pos h9]
    subst g1
    have g2 : decide (0 < t.length) = false := decide_eq_false (by omega)
    have g3 : decide (0 < (t.length : Int)) = false := decide_eq_false (by omega)
    clear h9
    go_wp2_with fail
    refine (awake_any _ (hT.below hbe)).mono ?_
    rintro e wz ⟨rfl, hbz⟩
    go_wp2_with fail
    go_ret
    exact ⟨rfl, stepB hbe hbz⟩
  · have g1 : G = 3 := by rw [← HG.out, hM.out, if_neg h9]
    subst g1
    have g2 : decide (0 < t.length) = true := decide_eq_true (by omega)
    have g3 : decide (0 < (t.length : Int)) = true := decide_eq_true (by omega)
    clear h9
    go_wp2_with fail
    refine (awake_any _ (hT.below hbe)).mono ?_
    rintro e wz ⟨rfl, hbz⟩
    go_wp2_with fail
    go_ret
    exact ⟨rfl, stepB hbe hbz⟩
end Go.Proofs.YtfjiikcbcoohdaaDoor
