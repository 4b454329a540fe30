/-
  The walk of JournalAdds of the statements of layer 53. Conditions: at most 1048576 operations each; the tables lie as their initialisers lay them.
-/
import Derived.Test.YtcomeidcmcegfaaDoorJourLawD
namespace Go.Proofs.YtcomeidcmcegfaaDoor
open Go.RowKit
set_option linter.unusedVariables false
set_option linter.unusedSimpArgs false

theorem opsC_len (xs : List OX) : (opsC xs).length = xs.length * 15 := by
  induction xs with
  | nil => rfl
  | cons x xs ih =>
    have e : opsC (x :: xs) = x.cs ++ opsC xs := rfl
    rw [e, List.length_append, ih, OX.cs_len, List.length_cons]; omega
theorem opsC_one (xs : List OX) : ∀ u ∈ opsC xs, u.oneCell' = true := by
  intro u hu
  obtain ⟨x, _, hx⟩ := List.mem_flatMap.1 hu
  exact List.all_eq_true.1 (show (opC x.o x.A x.c).all (·.oneCell') = true by simp [opC, Value.oneCell']) u hx
theorem opsC_app (xs ys : List OX) : opsC (xs ++ ys) = opsC xs ++ opsC ys := by simp [opsC]
theorem opL_app (xs ys : List OX) : opL (xs ++ ys) = opL xs ++ opL ys := by simp [opL]
set_option maxRecDepth 100000 in
set_option maxHeartbeats 16000000 in
theorem walk_JournalAdds (w : World) (A : Option Addr) (c : Nat) (xs : List OX) (hr : Rd w A (opsC xs)) (hg : ∀ x ∈ xs, x.Ok w) (hq : xs.length ≤ c) (B : Option Addr) (d : Nat) (ys : List OX) (kr : Rd w B (opsC ys)) (kg : ∀ x ∈ ys, x.Ok w) (kq : ys.length ≤ d)
    (hN1 : xs.length ≤ 1048576) (hN2 : ys.length ≤ 1048576) (hT : Tabs w) (hF : TabR w) :
    Calls Tryd.prog 4 #[.slice A xs.length c, .slice B ys.length d] w fun e w' => e = .returned (.bool true) ∧ Below w.heap.size w w' := by
  have hX : OpsRd w A xs := ⟨hr, hg⟩
  have hY : OpsRd w B ys := ⟨kr, kg⟩
  clear hr hg kr kg
  have k0 := write_any w A c xs hX (by omega) hT
  have k1 := fun w' (u : Up w w') => write_any w' B d ys (hY.below u.b) (by omega) (hT.below u.b)
  have k2 := fun w' (u : Up w w') => few_any w' A c xs (hX.below u.b) (by unfold maxLen; omega)
  have k3 := fun w' (u : Up w w') => few_any w' B d ys (hY.below u.b) (by unfold maxLen; omega)
  by_cases hgood : (fewJ (opL xs) = true ∧ fewJ (opL ys) = true) ∧ (wrtE (opL xs) = 0 ∧ wrtE (opL ys) = 0)
  rotate_left
  · -- one of the four conditions fails
    generalize wrtB (opL xs) = L1 at *
    generalize wrtB (opL ys) = L2 at *
    generalize wrtE (opL xs) = E1 at *
    generalize wrtE (opL ys) = E2 at *
    generalize fewJ (opL xs) = F1 at *
    generalize fewJ (opL ys) = F2 at *
    go_enter Tryd.func4, Tryd.ntmps4
    go_wp2_with fail
    refine k0.mono ?_
    rintro e w2 ⟨A2, c2, rfl, -, hb2⟩
    have u2 := Lib.hid (Up.of hb2)
    clear k0 hb2
    go_wp2_with fail
    refine (k1 _ u2.out).mono ?_
    rintro e w3 ⟨A3, c3, rfl, -, hb3⟩
    have u3 := Lib.hid (u2.out.trans (Up.of hb3))
    clear k1 hb3
    go_wp2_with fail
    refine (k2 _ u3.out).mono ?_
    rintro e w4 ⟨rfl, hb4⟩
    have u4 := Lib.hid (u3.out.trans (Up.of hb4))
    clear k2 hb4
    rcases F1 with _ | _
    · clear hgood k3
      go_wp2_with fail
      refine (awake_any _ (hT.below u4.out.b) (hF.below u4.out.b)).mono ?_
      rintro e wz ⟨rfl, hbz⟩
      go_wp2_with fail
      go_ret
      exact ⟨rfl, stepB u4.out.b hbz⟩
    · go_wp2_with fail
      refine (k3 _ u4.out).mono ?_
      rintro e w5 ⟨rfl, hb5⟩
      have u5 := Lib.hid (u4.out.trans (Up.of hb5))
      clear k3 hb5
      rcases F2 with _ | _
      · clear hgood
        go_wp2_with fail
        refine (awake_any _ (hT.below u5.out.b) (hF.below u5.out.b)).mono ?_
        rintro e wz ⟨rfl, hbz⟩
        go_wp2_with fail
        go_ret
        exact ⟨rfl, stepB u5.out.b hbz⟩
      · by_cases h1 : E1 = 0
        · have h2 : E2 ≠ 0 := fun h2 => hgood ⟨⟨by simp, by simp⟩, h1, h2⟩
          have t1 : (E2 != 0) = true := by simpa using h2
          subst h1
          clear hgood h2
          go_wp2_with fail
          refine (awake_any _ (hT.below u5.out.b) (hF.below u5.out.b)).mono ?_
          rintro e wz ⟨rfl, hbz⟩
          go_wp2_with fail
          go_ret
          exact ⟨rfl, stepB u5.out.b hbz⟩
        · have t1 : (E1 != 0) = true := by simpa using h1
          clear hgood h1
          go_wp2_with fail
          refine (awake_any _ (hT.below u5.out.b) (hF.below u5.out.b)).mono ?_
          rintro e wz ⟨rfl, hbz⟩
          go_wp2_with fail
          go_ret
          exact ⟨rfl, stepB u5.out.b hbz⟩
  obtain ⟨⟨f1, f2⟩, e1, e2⟩ := hgood
  have l1 := few_len f1
  have l2 := few_len f2
  rw [opL_len] at l1 l2
  have hRt := (Rt.of e1 (fun o ho => by obtain ⟨y, hy, rfl⟩ := List.mem_map.1 ho; exact (hX.ok y hy).bd)).app (Rt.of e2 (fun o ho => by obtain ⟨y, hy, rfl⟩ := List.mem_map.1 ho; exact (hY.ok y hy).bd))
  obtain ⟨-, hL1, hB1⟩ := wrt_good e1
  obtain ⟨-, hL2, hB2⟩ := wrt_good e2
  have hJ := jr_all _ hRt
  rw [catE_app] at hJ
  rw [e1, hB1] at k0
  rw [e2, hB2] at k1
  rw [f1] at k2
  rw [f2] at k3
  have hJ1 := Lib.hid hJ.1
  have hJ2 := Lib.hid hJ.2
  clear hJ hRt e1 e2 f1 f2 hB1 hB2
  generalize catE (opL xs) = L1 at *
  generalize catE (opL ys) = L2 at *
  obtain ⟨i0, hi0, hz0, hz1, hz2⟩ := info_parts info_u8
  obtain ⟨j0, hj0, hy0, hy1, hy2⟩ := info_parts info_op
  go_enter Tryd.func4, Tryd.ntmps4
  go_wp2_with fail
  refine k0.mono ?_
  rintro e w2 ⟨A2, c2, rfl, hown2, hb2⟩
  have u2 := Lib.hid (Up.of hb2)
  have hr2 := Lib.hid hown2.rd'
  clear k0 hb2 hown2
  go_wp2_with fail
  refine (k1 _ u2.out).mono ?_
  rintro e w3 ⟨A3, c3, rfl, hown3, hb3⟩
  have v3 := Lib.hid (Up.of hb3)
  have u3 := Lib.hid (u2.out.trans v3.out)
  have hr3 := Lib.hid hown3.rd'
  clear k1 hb3 hown3
  go_wp2_with fail
  refine (k2 _ u3.out).mono ?_
  rintro e w4 ⟨rfl, hb4⟩
  have t4 := Lib.hid (Up.of hb4)
  have u4 := Lib.hid (u3.out.trans t4.out)
  clear k2 hb4
  go_wp2_with fail
  refine (k3 _ u4.out).mono ?_
  rintro e w5 ⟨rfl, hb5⟩
  have t5 := Lib.hid (t4.out.trans (Up.of hb5))
  have u5 := Lib.hid (u4.out.trans (Up.of hb5))
  clear k3 hb5
  have rx := (hX.below u5.out.b).rd
  have ry := (hY.below u5.out.b).rd
  have rL1 := (hr2.out.below v3.out.b).below t5.out.b
  have rL2 := hr3.out.below t5.out.b
  have HR1 := Lib.hid rL1
  have HR2 := Lib.hid rL2
  go_wp2_with (first
    | (at_builtin
       refine wpList_append_Own _ rfl (.tmp 40) (.tmp 41) _ rfl w5.heap.size 38 j0 _ 15 152 Tryd.underlying22 hj0 hy0 hy1 hy2 rfl (by omega) (.slice none 0 0) 0 [] rfl (Own.nil _ _ _ _) A xs.length c (opsC xs) rfl (opsC_len xs) rx (opsC_one xs) (by simp only [maxLen]; omega) (by omega) (Nat.le_refl _) ?_
       intro v6 w6 o6 g6 b6 a6
       obtain ⟨A6, c6, rfl, hc6⟩ : ∃ A6 c6, v6 = .slice A6 (0 + xs.length) c6 ∧ 0 + xs.length ≤ c6 := by
         obtain ⟨A6, c6, e6, h6, -⟩ := o6.rd
         exact ⟨A6, c6, e6, h6⟩
       have u6 := Up.of b6
       have ry6 := ry.below b6
       have rL16 := rL1.below b6
       have rL26 := rL2.below b6
       rw [List.nil_append] at o6
       simp only [Nat.zero_add] at o6 hc6
       have s6 := Lib.hid b6.size
       clear rx ry rL1 rL2 g6 b6 a6)
    | (at_builtin
       refine wpList_append_Own _ rfl (.tmp 43) (.tmp 44) _ rfl w5.heap.size 38 j0 _ 15 152 Tryd.underlying22 hj0 hy0 hy1 hy2 rfl (by omega) (.slice A6 xs.length c6) xs.length (opsC xs) rfl o6 B ys.length d (opsC ys) rfl (opsC_len ys) ry6 (opsC_one ys) (by simp only [maxLen]; omega) (by omega) s6.out ?_
       intro v7 w7 o7 g7 b7 a7
       obtain ⟨A7, c7, rfl, hc7⟩ : ∃ A7 c7, v7 = .slice A7 (xs.length + ys.length) c7 ∧ xs.length + ys.length ≤ c7 := by
         obtain ⟨A7, c7, e7, h7, -⟩ := o7.rd
         exact ⟨A7, c7, e7, h7⟩
       have hO7 := Lib.hid o7
       have u7 := Lib.hid (show Up w5 w7 from ⟨u6.b.trans b7⟩)
       have rL17 := HR1.out.below u7.out.b
       clear o6 o7 g7 a7 ry6 b7 u6 rL16 rL26)
    | (at_builtin
       refine wpList_append_map _ U8 U8_one rfl (.tmp 46) (.tmp 47) _ rfl w7.heap.size 5 i0 _ 1 Tryd.underlying25 hi0 hz0 hz1 hz2 rfl none 0 [] rfl (Own.nil _ _ _ _) A2 c2 L1 rfl rL17 (by simp only [maxLen]; simp; omega) (by simp; omega) (Nat.le_refl _) ?_
       intro A8 c8 M8 w8 e8 o8 r8 g8 b8 a8
       have e8' : L1 = M8 := e8.out.symm
       subst e8'
       have u8 := Lib.hid (Up.of b8)
       have s8 := Lib.hid b8.size
       have rL28 := HR2.out.below (u7.out.trans u8.out).b
       clear rL17 r8 g8 b8 a8 e8)
    | (at_builtin
       refine wpList_append_map _ U8 U8_one rfl (.tmp 49) (.tmp 50) _ rfl w7.heap.size 5 i0 _ 1 Tryd.underlying25 hi0 hz0 hz1 hz2 rfl A8 c8 L1 rfl o8 A3 c3 L2 rfl rL28 (by simp only [maxLen]; omega) (by omega) s8.out ?_
       intro A9 c9 M9 w9 e9 o9 r9 g9 b9 a9
       have u9 := Lib.hid (show Up w7 w9 from ⟨u8.out.b.trans b9⟩)
       have hM9 := Lib.hid e9.out
       have hR9 := Lib.hid r9
       have hC9 := Lib.hid o9.form
       clear o8 o9 r9 g9 b9 a9 e9 rL28)
    | fail)
  have uw := Lib.hid ((u5.out.trans u7.out).trans u9.out)
  have hl9 : M9.length = L1.length + L2.length := by rw [hM9.out, List.length_append]
  have hc9 : M9.length ≤ c9 := by
    obtain ⟨_, _, eq, h, -⟩ := hC9.out
    cases eq; exact h
  have kR := read_any w9 A9 c9 M9 hR9.out (by omega) hc9 (hT.below uw.out.b)
  unfold RetJr at kR
  have hQ : (jr M9).2 = (M9.length : Int) := by rw [hM9.out]; exact hJ2.out
  rw [hQ] at kR
  have hz : (jr M9).1.map (·.2) = opL (xs ++ ys) := by rw [opL_app, hM9.out]; exact hJ1.out
  rw [hz] at kR
  have hz := Lib.hid hz
  clear hQ
  refine kR.mono ?_
  rintro e wa ⟨zs, Aa, ca, rfl, hza, hOa, hca, hba⟩
  have ua := Lib.hid (Up.of hba)
  have uwa := Lib.hid (uw.out.trans ua.out)
  have hzl : zs.length = xs.length + ys.length := by
    have := congrArg List.length hza
    rw [opL_len, opL_len, List.length_append] at this; exact this
  have hall : OpsRd wa A7 (xs ++ ys) := by
    refine ⟨?_, fun x hx => ?_⟩
    · rw [opsC_app]; exact (hO7.out.rd'.below u9.out.b).below ua.out.b
    · rcases List.mem_append.1 hx with h | h
      · exact (hX.below uwa.out.b).ok x h
      · exact (hY.below uwa.out.b).ok x h
  have kS := same_any wa Aa A7 ca c7 zs (xs ++ ys) hOa hall (by unfold maxLen; omega) (by rw [List.length_append]; unfold maxLen; omega)
  rw [show sameL (opL zs) (opL (xs ++ ys)) = true from (sameL_iff _ _).2 hza, List.length_append] at kS
  clear kR hza hOa hba hzl hall
  go_wp2_with fail
  refine kS.mono ?_
  rintro e wb ⟨rfl, hbb⟩
  have hbe := stepB uwa.out.b hbb
  clear kS hbb
  go_wp2_with fail
  refine (awake_any _ (hT.below hbe) (hF.below hbe)).mono ?_
  rintro e wz ⟨rfl, hbz⟩
  go_wp2_with fail
  go_ret
  exact ⟨rfl, stepB hbe hbz⟩
end Go.Proofs.YtcomeidcmcegfaaDoor
