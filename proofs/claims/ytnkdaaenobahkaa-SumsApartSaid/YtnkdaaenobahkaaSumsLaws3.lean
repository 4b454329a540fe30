/-
  The walks of 'changed', 'equal' and of the statements SumsBurst and SumsApart: each statement returns true and changes nothing that was there. Conditions: the arguments read as their types say.
-/
import Derived.Test.YtnkdaaenobahkaaSumsLaws2
namespace Go.Proofs.Ytnkdaaenobahkaa
open Go.RowKit
set_option linter.unusedVariables false

/-- the call returns a slice that reads as the bytes l; nothing that was there has changed -/
def RetBytes (l : List UInt8) (w : World) (e : Ending) (w' : World) : Prop := ∃ A c, e = .returned (.slice A l.length c) ∧ Rd w' A (l.map U8) ∧ Below w.heap.size w w'

theorem u8_xor_val (y x : UInt8) : bits BinOp.xor IntKind.u8 (y.toNat : Int) (x.toNat : Int) = ((y ^^^ x).toNat : Int) := by
  rw [u8_xor_nat _ _ (by have := y.toNat_lt; omega) (by have := x.toNat_lt; omega), UInt8.toNat_xor]
def ChgRel (w : World) (l : List UInt8) (at_ : Int) (x : List UInt8) (A1 : Option Addr) (c1 : Nat) (i : Value) (wr : World) : Prop :=
  ∃ k : Nat, k ≤ 4 ∧ i = .int .i64 k ∧ Own wr (w.heap.size + 1) 5 1 (.slice A1 l.length c1) l.length ((chg l at_ x k).map U8) ∧
    (∀ j, j < 4 → wr.cell? ⟨w.heap.size, j, none⟩ = some (U8 (x.getD j 0))) ∧ Below w.heap.size w wr

set_option maxHeartbeats 1000000 in
theorem changed_any (w : World) (A : Option Addr) (c : Nat) (l : List UInt8) (h : Rd w A (l.map U8)) (hl : l.length ≤ 5000) (at_ : Int) (lo : -9223372036854775808 ≤ at_) (hi : at_ ≤ 9223372036854775807) (x0 x1 x2 x3 : UInt8) :
    Calls Try.prog 23 #[.slice A l.length c, .int .i64 at_, .agg #[.int .u8 x0.toNat, .int .u8 x1.toNat, .int .u8 x2.toNat, .int .u8 x3.toNat]] w (RetBytes (chg l at_ [x0, x1, x2, x3] 4) w) := by
  obtain ⟨i0, hi0, hz0, hz1, hz2⟩ := info_parts info_u8
  go_enter Try.func23, Try.ntmps23
  go_wp2_with (first
      | (at_builtin
         refine wpList_append_map _ U8 U8_one rfl (.tmp 9) (.tmp 10) _ rfl (w.heap.size + 1) 5 i0 _ 1 Try.underlying22 hi0 hz0 hz1 hz2 rfl none 0 [] rfl (Own.nil _ _ _ _) A c l rfl (h.alloc _) (by simp only [maxLen, List.length_nil]; omega) (by simp only [List.length_nil]; omega) (by simp) ?_
         intro A1 c1 l1 w1 e1 hown1 hr1 hg1 hb1 hat1
         obtain rfl : l = l1 := e1.out.symm
         have hx : ∀ j, j < 4 → w1.cell? ⟨w.heap.size, j, none⟩ = some (U8 ([x0, x1, x2, x3].getD j 0)) := fun j hj => by
           rw [hb1.cell (by simp), cell_of_row _ _ _ _ _ _ (heap_alloc_new w _)]
           rcases j with _ | _ | _ | _ | j <;> first | rfl | omega
         have hbw : Below w.heap.size w w1 := ((Below.refl _ _).alloc (Nat.le_refl _) _).trans (hb1.mono (by omega))
         clear e1 hg1 hb1 hat1 hr1)
      | fail)
  go_loopw [8] (ChgRel w l at_ [x0, x1, x2, x3] A1 c1) (fun i _ => 4 - (intOf i).toNat)
  case atStart => exact ⟨0, by omega, rfl, hown1, hx, hbw⟩
  case round =>
    clear hown1 hx hbw
    obtain ⟨k, hk, rfl, hown, hx, hbw⟩ := hrel
    by_cases hk4 : k < 4
    · by_cases h1 : 0 ≤ at_
      · obtain ⟨a, rfl⟩ := Int.eq_ofNat_of_zero_le h1
        by_cases h2 : a < l.length
        · by_cases h3 : a + k < l.length
          · have hlen := chg_length l a [x0, x1, x2, x3] k
            obtain ⟨g, rfl, hgb, hgl, hrow⟩ := hown.slot (by omega)
            have hak : a + k < (chg l (a : Int) [x0, x1, x2, x3] k).length := by omega
            have hcell := hrow.cellAt (a + k) (by omega)
            have hfz := hrow.frozenAt (a + k)
            have hxk := hx k hk4
            have hnext := Lib.hid (hrow.stored (a + k) (U8 ((chg l (a : Int) [x0, x1, x2, x3] k)[a + k] ^^^ [x0, x1, x2, x3].getD k 0)))
            rw [List.getElem?_map, List.getElem?_eq_getElem hak, Option.map_some] at hcell
            have hgd : (chg l (a : Int) [x0, x1, x2, x3] k).getD ((a : Int).toNat + k) 0 = (chg l (a : Int) [x0, x1, x2, x3] k)[a + k] := by
              simp [List.getD, hak]
            have hchg := Lib.hid (show chg l (a : Int) [x0, x1, x2, x3] (k + 1) = (chg l (a : Int) [x0, x1, x2, x3] k).set (a + k) ((chg l (a : Int) [x0, x1, x2, x3] k)[a + k] ^^^ [x0, x1, x2, x3].getD k 0) by
              rw [chg, if_pos (by omega), hgd]; rfl)
            have Hx := Lib.hid hx
            clear hgd hlen hx
            generalize (chg l (a : Int) [x0, x1, x2, x3] k)[a + k] = y at *
            generalize hxx : [x0, x1, x2, x3].getD k 0 = xk at *
            clear hxx
            unfold U8 at hcell hxk
            go_wp2
            go_region
            go_wp2
            go_roundw
            case rel =>
              rw [u8_xor_val]
              have hst := hnext.out
              refine ⟨k + 1, by omega, by go_num, .inl ?_, fun j hj => ?_, (hbw.setCell (by simp; omega) _).drew⟩
              · rw [hchg.out, List.map_set]; exact hst.1
              · have := (hbw.drew)
                show (wr.setCell _ _).cell? _ = _
                rw [World.cell?_setCell_other _ _ _ _ (by simp)]
                exact Hx.out j hj
            case measure => simp [intOf]; omega
          · go_wp2
            go_roundw
            case rel => exact ⟨k + 1, by omega, by go_num, by rw [chg, if_neg (by omega)]; exact hown, hx, hbw⟩
            case measure => simp [intOf]; omega
        · go_wp2
          go_roundw
          case rel => exact ⟨k + 1, by omega, by go_num, by rw [chg, if_neg (by omega)]; exact hown, hx, hbw⟩
          case measure => simp [intOf]; omega
      · go_wp2
        go_roundw
        case rel => exact ⟨k + 1, by omega, by go_num, by rw [chg, if_neg (by omega)]; exact hown, hx, hbw⟩
        case measure => simp [intOf]; omega
    · obtain rfl : k = 4 := by omega
      go_wp2
      go_ret
      obtain ⟨A', c', hv, hc', hr'⟩ := hown.rd
      injection hv with e1 e2 e3
      subst e1
      exact ⟨A1, c1, by rw [chg_length]; rfl, hr', hbw⟩

set_option maxHeartbeats 1000000 in
theorem equal_any (w : World) (A : Option Addr) (c : Nat) (l : List UInt8) (h : Rd w A (l.map U8)) (B : Option Addr) (d : Nat) (m : List UInt8) (k : Rd w B (m.map U8)) :
    Calls Try.prog 24 #[.slice A l.length c, .slice B m.length d] w fun e w' => e = .returned (.bool (l == m)) ∧ w = w' := by
  have h1 := str_of w A c l h
  have h2 := str_of w B d m k
  go_enter Try.func24, Try.ntmps24
  go_wp2
  go_ret
  exact ⟨rfl, rfl⟩

set_option maxHeartbeats 1000000 in
theorem walk_SumsBurst (w : World) (A : Option Addr) (c : Nat) (l : List UInt8) (h : Rd w A (l.map U8)) (hl : l.length ≤ maxLen) (n : Int) (lo : -9223372036854775808 ≤ n) (hi : n ≤ 9223372036854775807) (x0 x1 x2 x3 : UInt8) :
    Calls Try.prog 9 #[.slice A l.length c, .int .i64 n, .agg #[.int .u8 x0.toNat, .int .u8 x1.toNat, .int .u8 x2.toNat, .int .u8 x3.toNat]] w fun e w' => e = .returned (.bool true) ∧ Below w.heap.size w w' := by
  unfold maxLen at hl
  by_cases hf : l.length ≤ 5000
  · have hc4 := Lib.hid (chg_burst l n [x0, x1, x2, x3])
    have hlen := chg_length l n [x0, x1, x2, x3] 4
    have Hlen := Lib.hid hlen
    clear hlen
    go_enter Try.func9, Try.ntmps9
    go_wp2_with fail
    refine (few_yes _ _ _ _ _ _ _ hf (by omega)).mono ?_
    rintro e w' ⟨rfl, rfl⟩
    go_wp2_with fail
    refine (changed_any _ A c l (h.alloc _) hf n lo hi x0 x1 x2 x3).mono ?_
    rintro e w2 ⟨B, d, rfl, k, hb2⟩
    have hb : Below w.heap.size w w2 := ((Below.refl _ _).alloc (Nat.le_refl _) _).trans (hb2.mono (by simp))
    clear hb2
    have hml : (chg l n [x0, x1, x2, x3] 4).length ≤ 9223372036854775807 := by rw [Hlen.out]; omega
    generalize chg l n [x0, x1, x2, x3] 4 = m at *
    clear Hlen
    have h2 := h.below hb
    by_cases hq : l = m
    · subst hq
      go_wp2_with fail
      refine (equal_any _ _ _ _ h2 _ _ _ k).mono ?_
      rintro e w' ⟨rfl, rfl⟩
      go_wp2_with fail
      refine (crc_any _ _ _ _ h2 hl).mono ?_
      rintro e w' ⟨rfl, rfl⟩
      go_wp2_with fail
      refine (crc_any _ _ _ _ k hml).mono ?_
      rintro e w' ⟨rfl, rfl⟩
      go_wp2_with fail
      refine (awake_any _).mono ?_
      rintro e w3 ⟨rfl, hb3⟩
      go_wp2_with fail
      go_ret
      exact ⟨rfl, hb.trans (hb3.mono hb.size)⟩
    · have q1 : (l == m) = false := by simpa using hq
      have q2 : (((crc l : Nat) : Int) == ((crc m : Nat) : Int)) = false := by
        have := mt hc4.out.1 hq
        simp; omega
      have Hq := Lib.hid hq
      clear hq
      go_wp2_with fail
      refine (equal_any _ _ _ _ h2 _ _ _ k).mono ?_
      rintro e w' ⟨rfl, rfl⟩
      go_wp2_with fail
      refine (crc_any _ _ _ _ h2 hl).mono ?_
      rintro e w' ⟨rfl, rfl⟩
      go_wp2_with fail
      refine (crc_any _ _ _ _ k hml).mono ?_
      rintro e w' ⟨rfl, rfl⟩
      go_wp2_with fail
      refine (awake_any _).mono ?_
      rintro e w3 ⟨rfl, hb3⟩
      go_wp2_with fail
      go_ret
      exact ⟨rfl, hb.trans (hb3.mono hb.size)⟩
  · go_enter Try.func9, Try.ntmps9
    go_wp2_with fail
    refine (few_no _ _ _ _ _ _ _ (by omega)).mono ?_
    rintro e w' ⟨rfl, rfl⟩
    go_wp2_with fail
    refine (awake_any _).mono ?_
    rintro e w' ⟨rfl, hb⟩
    go_wp2_with fail
    go_ret
    exact ⟨rfl, ((Below.refl _ _).alloc (Nat.le_refl _) _).trans (hb.mono (by simp))⟩
end Go.Proofs.Ytnkdaaenobahkaa
