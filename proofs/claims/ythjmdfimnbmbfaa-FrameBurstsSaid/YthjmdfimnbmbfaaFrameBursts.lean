/-
  The walk of the statement FrameBursts. Conditions: the arguments read as their types say.
-/
import Derived.Test.YthjmdfimnbmbfaaFrameLaws2
import Derived.Laws.OwnMore
import Derived.Deep.RegionWith
import Derived.RegionTactic
namespace Go.Proofs.Ythjmdfimnbmbfaa
open Go.RowKit
set_option linter.unusedVariables false

theorem u8_xor_val (y x : UInt8) : bits BinOp.xor IntKind.u8 (y.toNat : Int) (x.toNat : Int) = ((y ^^^ x).toNat : Int) := by
  rw [u8_xor_nat _ _ (by have := y.toNat_lt; omega) (by have := x.toNat_lt; omega), UInt8.toNat_xor]
theorem pow8 {r : Nat} (h : r < 8) : (UInt8.ofNat (2 ^ r)).toNat = 2 ^ r := by
  have : 2 ^ r ≤ 2 ^ 7 := Nat.pow_le_pow_right (by omega) (by omega)
  rw [UInt8.toNat_ofNat', Nat.mod_eq_of_lt (by omega)]

set_option maxHeartbeats 1000000 in
theorem power_any (w : World) (x : Int) (r : Nat) (hxr : x = r) (h : r < 8) (v : Int) (hv : Hid (v = ((2 ^ r : Nat) : Int))) : Calls Try.prog 17 #[.int .i64 x] w fun e w' => e = .returned (.int .u8 v) ∧ w = w' := by
  subst hxr
  go_enter Try.func17, Try.ntmps17
  go_wp2
  go_loop [3, 4] (fun p i => ∃ j x : Nat, j ≤ r ∧ i = .int .i64 j ∧ p = .int .u8 x ∧ Hid (x = 2 ^ j)) (fun _ i => r - (intOf i).toNat)
  case atStart => exact ⟨0, 1, by omega, rfl, rfl, rfl⟩
  case round =>
    obtain ⟨j, x, hj, rfl, rfl, Hx⟩ := hrel
    by_cases hlt : j < r
    · have hxl : x ≤ 64 := by
        rw [Hx.out]
        have : 2 ^ j ≤ 2 ^ 6 := Nat.pow_le_pow_right (by omega) (by omega)
        omega
      go_wp2
      go_round
      case rel => exact ⟨j + 1, x * 2, by omega, by go_num, int_eq (by omega), by rw [Hid, Nat.pow_succ, Hx.out]⟩
      case measure => simp [intOf]; omega
    · obtain rfl : j = r := by omega
      go_wp2
      go_ret
      exact ⟨ret_int (by rw [hv.out, Hx.out]), rfl⟩

theorem open_len (w : World) (A : Option Addr) (c : Nat) (b : List UInt8) (n : Nat) (hn : n = b.length) (hbc : n ≤ c) (h : Rd w A (b.map U8)) (hl : n ≤ 1000000000) (a : Int) (lo : -9223372036854775808 ≤ a) (hi : a ≤ 9223372036854775807) {K T e : Int} {C : List UInt8} (hR : opR b a = (e, K, C, T)) :
    Calls Try.prog 15 #[.slice A n c, .int .i64 a] w (RetOp K C T e w) := by
  subst hn
  exact open_val w A c b hbc h hl a lo hi hR

def BurRel (w : World) (F : List UInt8) (lb a pat : Nat) (g n c : Nat) (vp vi : Value) (wr : World) : Prop :=
  ∃ j : Nat, j ≤ 32 ∧ vi = .int .i64 j ∧ vp = .int .u32 ((pat / 2 ^ j : Nat) : Int) ∧ (∃ base, w.heap.size ≤ base ∧ base ≤ g ∧ wr.ownsRow base 5 1 (.slice (some ⟨g, 0, none⟩) n c) n ((flips F a pat j).map U8)) ∧ Below w.heap.size w wr ∧
    (∀ i, i < j → pat / 2 ^ i % 2 = 1 → (a + i) / 8 < F.length ∧ ¬ (2 ≤ (a + i) / 8 ∧ (a + i) / 8 < F.length - 4 - lb))

set_option maxRecDepth 20000 in
set_option maxHeartbeats 4000000 in
theorem walk_FrameBursts (w : World) (kind : Int) (lo : -9223372036854775808 ≤ kind) (hi : kind ≤ 9223372036854775807) (A : Option Addr) (c : Nat) (l : List UInt8) (h : Rd w A (l.map U8)) (hl : l.length ≤ maxLen) (hlc : l.length ≤ c)
    (n : Int) (lo2 : -9223372036854775808 ≤ n) (hi2 : n ≤ 9223372036854775807) (pat : Nat) (hpat : pat < 4294967296) :
    Calls Try.prog 7 #[.int .i64 kind, .slice A l.length c, .int .i64 n, .int .u32 pat] w fun e w' => e = .returned (.bool true) ∧ Below w.heap.size w w' := by
  unfold maxLen at hl
  by_cases hf : (1 ≤ kind ∧ kind ≤ 255) ∧ l.length ≤ 300 ∧ 0 ≤ n ∧ pat ≠ 0
  · obtain ⟨⟨h1, h2⟩, h3, h4, h5⟩ := hf
    obtain ⟨a, rfl⟩ : ∃ a : Nat, n = a := ⟨n.toNat, by omega⟩
    have p1 : decide (kind < 1) = false := by simp; omega
    have p2 : decide (255 < kind) = false := by simp; omega
    have p3 : decide (300 < (l.length : Int)) = false := by simp; omega
    have p5 : ((pat : Int) == 0) = false := beq_eq_false_iff_ne.2 (by omega)
    have hsl := fseal_length kind l
    have hen := enc_length (l.length : Int)
    have hS := Lib.hid (fun w' A' c' (hr : Rd w' A' (l.map U8)) => seal_ok w' kind h1 h2 A' c' l hr (by omega))
    have hB := Lib.hid (fun hv => op_burst kind l a pat h1 h2 (by omega) hpat h5 hv)
    have hF1 : l.length + 7 ≤ (fseal kind l).length := by omega
    have hF2 : (fseal kind l).length ≤ 400 := by omega
    clear hsl hen lo hi lo2 hi2 h4 h5
    generalize fseal kind l = F at *
    by_cases h6 : 8 * F.length ≤ a
    · go_enter Try.func7, Try.ntmps7
      go_wp2_with fail
      refine (copied_any _ _ _ _ h (by omega)).mono ?_
      rintro e w1 ⟨A1, c1, rfl, hown1, hb1⟩
      go_wp2_with fail
      refine (hS.out _ _ _ hown1.rd').mono ?_
      rintro e w2 ⟨A2, c2, rfl, hown2, hb2⟩
      have hb2 := step_below hb1 hb2
      go_wp2_with fail
      refine (awake_any _).mono ?_
      rintro e w3 ⟨rfl, hb3⟩
      go_wp2_with fail
      go_ret
      exact ⟨rfl, step_below hb2 hb3⟩
    · go_enter Try.func7, Try.ntmps7
      go_wp2_with fail
      refine (copied_any _ _ _ _ h (by omega)).mono ?_
      rintro e w1 ⟨A1, c1, rfl, hown1, hb1⟩
      go_wp2_with fail
      refine (hS.out _ _ _ hown1.rd').mono ?_
      rintro e w2 ⟨A2, c2, rfl, hown2, hb2⟩
      have hb2 := step_below hb1 hb2
      have hr2 := hown2.rd'
      clear hown1 hown2 hb1 hS
      go_wp2_with fail
      refine (copied_any _ _ _ _ hr2 (by omega)).mono ?_
      rintro e w3 ⟨A3, c3, rfl, hown3, hb3⟩
      have hb3' := step_below hb2 hb3
      obtain ⟨g, rfl, gb, glt, grow⟩ := hown3.slot (by omega)
      have hgw : w.heap.size ≤ g := Nat.le_trans hb2.size gb
      have hcap := hown3.cap
      have Hst : Hid (BurRel w F l.length a pat g F.length c3 (.int .u32 pat) (.int .i64 0) w3) := ⟨0, by omega, rfl, by simp, ⟨w2.heap.size, hb2.size, gb, grow⟩, hb3', fun i hi => by omega⟩
      clear hown3 grow hr2 hb2 hb3 hb3' gb glt
      go_wp2_with fail
      go_loopw [3, 13] (BurRel w F l.length a pat g F.length c3) (fun _ i _ => 32 - (intOf i).toNat)
      case atStart => exact Hst.out
      case round =>
        clear Hst
        obtain ⟨j, hj, rfl, rfl, ⟨base, hbase, hbg, hrow⟩, hbw, hv⟩ := hrel
        have HV := Lib.hid hv
        clear hv
        by_cases hlt : j < 32
        · obtain ⟨pj, hpj⟩ : ∃ pj, pj = pat / 2 ^ j := ⟨_, rfl⟩
          have hpl : pj < 4294967296 := by rw [hpj]; exact Nat.lt_of_le_of_lt (Nat.div_le_self _ _) hpat
          have HN : Hid (pj / 2 = pat / 2 ^ (j + 1)) := by rw [Hid, hpj, Nat.pow_succ, Nat.div_div_eq_div_mul]
          have Hpj := Lib.hid hpj
          rw [← hpj]
          clear hpj
          by_cases hbit : pj % 2 = 1
          · have hfs : Hid (flips F a pat (j + 1) = (flips F a pat j).set ((a + j) / 8) ((flips F a pat j).getD ((a + j) / 8) 0 ^^^ UInt8.ofNat (2 ^ ((a + j) % 8)))) := by
              rw [Hid, flips, if_pos (by rw [← Hpj.out]; exact hbit)]
            have t1 : ((pj : Int) % 2 == 1) = true := by simp; omega
            have hfl := flips_length F a pat j
            have eq1 : ((a : Int) + (j : Int)) / 8 = (((a + j) / 8 : Nat) : Int) := by omega
            have eq2 : ((a : Int) + (j : Int)) % 8 = (((a + j) % 8 : Nat) : Int) := by omega
            have hr8 : (a + j) % 8 < 8 := Nat.mod_lt _ (by omega)
            have hq8 : (a + j) / 8 ≤ 1000 := by omega
            have Hq : Hid ((a + j) / 8 = (a + j) / 8) := rfl
            generalize hqq : (a + j) / 8 = q at *
            generalize hrr : (a + j) % 8 = r at *
            clear hrr Hq
            have HQ := Lib.hid hqq
            clear hqq
            by_cases hq1 : F.length ≤ q
            · have t2 : decide ((F.length : Int) ≤ (q : Int)) = true := by simp; omega
              have t2' : decide (F.length ≤ q) = true := by simp; omega
              clear hfl
              go_wp2_with fail
              refine (awake_any _).mono ?_
              rintro e w4 ⟨rfl, hb4⟩
              go_wp2_with fail
              go_ret
              exact ⟨rfl, step_below hbw hb4⟩
            · by_cases hq2 : 2 ≤ q ∧ q < F.length - 4 - l.length
              · obtain ⟨hq2, hq3⟩ := hq2
                clear hfl
                go_wp2_with fail
                refine (awake_any _).mono ?_
                rintro e w4 ⟨rfl, hb4⟩
                go_wp2_with fail
                go_ret
                exact ⟨rfl, step_below hbw hb4⟩
              · have hqF : q < F.length := by omega
                have hcell := hrow.cellAt q (by omega)
                have hfz := hrow.frozenAt q
                rw [List.getElem?_map, List.getElem?_eq_getElem (show q < (flips F a pat j).length by omega), Option.map_some] at hcell
                have hgd : (flips F a pat j).getD q 0 = (flips F a pat j)[q]'(by omega) := by simp [List.getD, show q < (flips F a pat j).length by omega]
                rw [hgd] at hfs
                have hst := Lib.hid (hrow.stored q (U8 ((flips F a pat j)[q]'(by omega) ^^^ UInt8.ofNat (2 ^ r))))
                have hx1 := u8_xor_val ((flips F a pat j)[q]'(by omega)) (UInt8.ofNat (2 ^ r))
                have HVn : Hid (∀ i, i < j + 1 → pat / 2 ^ i % 2 = 1 → (a + i) / 8 < F.length ∧ ¬ (2 ≤ (a + i) / 8 ∧ (a + i) / 8 < F.length - 4 - l.length)) := fun i hi hb => by
                  rcases Nat.lt_or_ge i j with h' | h'
                  · exact HV.out i h' hb
                  · obtain rfl : i = j := by omega
                    rw [HQ.out]; exact ⟨hqF, hq2⟩
                have kP := fun w' x hx => power_any w' x r hx hr8 ((UInt8.ofNat (2 ^ r)).toNat : Int) (by rw [Hid, pow8 hr8])
                have ew : IntKind.i64.wrap ((a : Int) + (j : Int)) = (a : Int) + (j : Int) := IntWalk.i64_in _ (by omega)
                have em : ((a : Int) + (j : Int)).tmod 8 = (r : Int) := by rw [Int.tmod_eq_emod_of_nonneg (by omega)]; exact eq2
                generalize (flips F a pat j)[q]'(by omega) = y at *
                generalize UInt8.ofNat (2 ^ r) = pw at *
                unfold U8 at hcell
                have HRow := Lib.hid hrow
                clear hrow hgd hfl
                have i1 : (q : Int) < (F.length : Int) := by omega
                have hq2' : 2 ≤ q → F.length - 4 - l.length ≤ q := by omega
                by_cases hq3 : 2 ≤ q
                · have hq4 := hq2' hq3
                  clear hq2 hq2'
                  go_wp2_with fail
                  go_region_with (go_at_call 17; refine (kP _ _ (by first | rfl | assumption | omega)).mono ?_; rintro e w' ⟨rfl, rfl⟩)
                  all_goals
                    clear kP hcell hfz ew em hx1
                    go_wp2_with fail
                    go_roundw
                    case rel => exact ⟨j + 1, by omega, by go_num, int_eq (by rw [← HN.out]; omega), ⟨base, hbase, hbg, by rw [hfs.out, List.map_set]; have h' := hst.out.1; simp only [U8, UInt8.toNat_xor] at h' ⊢; exact h'⟩, (hbw.setCell (by simp; omega) _).drew, HVn.out⟩
                    case measure => simp [intOf]; omega
                · clear hq2 hq2'
                  go_wp2_with fail
                  go_region_with (go_at_call 17; refine (kP _ _ (by first | rfl | assumption | omega)).mono ?_; rintro e w' ⟨rfl, rfl⟩)
                  all_goals
                    clear kP hcell hfz ew em hx1
                    go_wp2_with fail
                    go_roundw
                    case rel => exact ⟨j + 1, by omega, by go_num, int_eq (by rw [← HN.out]; omega), ⟨base, hbase, hbg, by rw [hfs.out, List.map_set]; have h' := hst.out.1; simp only [U8, UInt8.toNat_xor] at h' ⊢; exact h'⟩, (hbw.setCell (by simp; omega) _).drew, HVn.out⟩
                    case measure => simp [intOf]; omega
          · have t1 : ((pj : Int) % 2 == 1) = false := by simp; omega
            have hfs : Hid (flips F a pat (j + 1) = flips F a pat j) := by rw [Hid, flips, if_neg (by rw [← Hpj.out]; exact hbit)]
            have HRow := Lib.hid hrow
            clear hrow
            go_wp2_with fail
            go_roundw
            case rel => exact ⟨j + 1, by omega, by go_num, int_eq (by rw [← HN.out]; omega), ⟨base, hbase, hbg, by rw [hfs.out]; exact HRow.out⟩, hbw, fun i hi hb => by
              rcases Nat.lt_or_ge i j with h' | h'
              · exact HV.out i h' hb
              · obtain rfl : i = j := by omega
                rw [← Hpj.out] at hb; exact absurd hb hbit⟩
            case measure => simp [intOf]; omega
        · obtain rfl : j = 32 := by omega
          have hE := hB.out HV.out
          have hfl := flips_length F a pat 32
          have hrd : Rd wr (some ⟨g, 0, none⟩) ((flips F a pat 32).map U8) := (show Own wr base 5 1 (.slice (some ⟨g, 0, none⟩) F.length c3) F.length ((flips F a pat 32).map U8) from .inl hrow).rd'
          rcases opE_cases (flips F a pat 32) 0 with hz | hR
          · exact absurd hz hE
          have ne : (opE (flips F a pat 32) 0 == 0) = false := beq_eq_false_iff_ne.2 hE
          have ne' : (opE (flips F a pat 32) 0 != 0) = true := bne_iff_ne.2 hE
          have HR := Lib.hid hR
          clear hR hrow HV hB
          generalize opE (flips F a pat 32) 0 = er at *
          generalize flips F a pat 32 = X at *
          have Hl := Lib.hid hfl
          clear hfl
          go_wp2_with fail
          refine (open_len _ _ _ _ _ Hl.out.symm hcap hrd (by omega) _ (by omega) (by omega) HR.out).mono ?_
          rintro e w6 ⟨A6, c6, rfl, hr6, _, hb6⟩
          have hb6 := step_below hbw hb6
          clear hr6 hrd HR
          go_wp2_with fail
          refine (awake_any _).mono ?_
          rintro e w7 ⟨rfl, hb7⟩
          go_wp2_with fail
          go_ret
          exact ⟨rfl, step_below hb6 hb7⟩
  · by_cases h1 : kind < 1
    · have p1 : decide (kind < 1) = true := by simpa using h1
      go_enter Try.func7, Try.ntmps7
      go_wp2_with fail
      refine (awake_any _).mono ?_
      rintro e w' ⟨rfl, hb⟩
      go_wp2_with fail
      go_ret
      exact ⟨rfl, hb⟩
    · have p1 : decide (kind < 1) = false := by simpa using h1
      by_cases h2 : 255 < kind
      · have p2 : decide (255 < kind) = true := by simpa using h2
        go_enter Try.func7, Try.ntmps7
        go_wp2_with fail
        refine (awake_any _).mono ?_
        rintro e w' ⟨rfl, hb⟩
        go_wp2_with fail
        go_ret
        exact ⟨rfl, hb⟩
      · have p2 : decide (255 < kind) = false := by simpa using h2
        by_cases h3 : 300 < l.length
        · have p3 : decide (300 < (l.length : Int)) = true := by simp; omega
          go_enter Try.func7, Try.ntmps7
          go_wp2_with fail
          refine (awake_any _).mono ?_
          rintro e w' ⟨rfl, hb⟩
          go_wp2_with fail
          go_ret
          exact ⟨rfl, hb⟩
        · have p3 : decide (300 < (l.length : Int)) = false := by simp; omega
          by_cases h4 : n < 0
          · have p4 : decide (n < 0) = true := by simpa using h4
            go_enter Try.func7, Try.ntmps7
            go_wp2_with fail
            refine (awake_any _).mono ?_
            rintro e w' ⟨rfl, hb⟩
            go_wp2_with fail
            go_ret
            exact ⟨rfl, hb⟩
          · have p4 : decide (n < 0) = false := by simpa using h4
            have p5 : ((pat : Int) == 0) = true := by simp; omega
            clear hf
            go_enter Try.func7, Try.ntmps7
            go_wp2_with fail
            refine (awake_any _).mono ?_
            rintro e w' ⟨rfl, hb⟩
            go_wp2_with fail
            go_ret
            exact ⟨rfl, hb⟩
end Go.Proofs.Ythjmdfimnbmbfaa
