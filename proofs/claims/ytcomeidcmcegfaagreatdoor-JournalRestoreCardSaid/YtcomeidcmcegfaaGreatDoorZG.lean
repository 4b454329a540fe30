/-
  The walk of wire.Int. Conditions: the bytes read as a list.
  The walk of the reference's Int. Conditions: the bytes read as a list.
  The walks of length, TextAt and Ints of layer 4 and of the reference. Conditions: at most a thousand million bytes.
-/
import Derived.Test.YtcomeidcmcegfaaGreatDoorZA
import Derived.Test.YtcomeidcmcegfaaGreatDoorZB
import Derived.Test.YtcomeidcmcegfaaGreatDoorZC
import Derived.Test.YtcomeidcmcegfaaGreatDoorZD
namespace Go.Proofs.YtcomeidcmcegfaaGreatDoor
open Go.RowKit
set_option linter.unusedVariables false
def RetRd (b : List UInt8) (a : Int) (w : World) (e : Ending) (w' : World) : Prop := e = .returned (.tuple #[.int .i64 (rdN b a), .int .i64 (rdT b a), .int .i64 (rdE b a)]) ∧ w = w'
theorem retRd {b : List UInt8} {a x y z : Int} {w : World} (h : rdE b a = z ∧ rdN b a = x ∧ rdT b a = y) : RetRd b a w (.returned (.tuple #[.int .i64 x, .int .i64 y, .int .i64 z])) w := by
 obtain ⟨rfl, rfl, rfl⟩ := h; exact ⟨rfl, rfl⟩
set_option maxRecDepth 20000 in
set_option maxHeartbeats 1000000 in
theorem int_any (w : World) (A : Option Addr) (c : Nat) (b : List UInt8) (h : Rd w A (b.map U8)) (hl : b.length ≤ 9223372036854775807) (a : Int) (lo : -9223372036854775808 ≤ a) (hi : a ≤ 9223372036854775807) :
 Calls Tryz.prog 63 #[.slice A b.length c, .int .i64 a] w (RetRd b a w) := by
 by_cases h0 : a < 0
 ·have e0 := Lib.hid (rd_range (b := b) (Or.inl h0))
  go_enter Tryz.func63, Tryz.ntmps63
  go_wp2
  exact bodyPost_ret (v := .tuple #[.int .i64 0, .int .i64 0, .int .i64 2]) (by simp [results, Tryz.results63, go_sem]) rfl (retRd e0.out)
 ·by_cases h1 : (b.length : Int) < a
  ·have e0 := Lib.hid (rd_range (b := b) (Or.inr h1))
   go_enter Tryz.func63, Tryz.ntmps63
   go_wp2
   exact bodyPost_ret (v := .tuple #[.int .i64 0, .int .i64 0, .int .i64 2]) (by simp [results, Tryz.results63, go_sem]) rfl (retRd e0.out)
  ·obtain ⟨k, rfl⟩ : ∃ k : Nat, a = k := ⟨a.toNat, by omega⟩
   have hk : k ≤ b.length := by omega
   clear h0 h1 lo hi
   go_enter Tryz.func63, Tryz.ntmps63
   go_wp2
   go_loop [7, 18] (fun x i => ∃ j v : Nat, x = .int .u64 v ∧ i = .int .i64 j ∧ Reads b k j v) (fun x i => 10 - (intOf i).toNat)
   case atStart => exact ⟨0, 0, rfl, rfl, Reads.start b k hk⟩
   case round =>
    obtain ⟨j, v, rfl, rfl, hR⟩ := hrel
    have hj : j ≤ 10 := hR.1
    have hkj : k + j ≤ b.length := hR.2.1
    have HR := Lib.hid hR
    clear hR
    by_cases hlt : j < 10
    ·have hv := HR.out.lt hlt
     by_cases hin : k + j < b.length
     ·obtain ⟨bb, off, rfl, hb, hck⟩ := h.at8 hin
      have hcn := b[k + j].toNat_lt
      generalize hcc : b[k + j].toNat = ch at *
      have Hcc := Lib.hid hcc
      clear hcc
      obtain ⟨d, hd⟩ : ∃ d, d = ch % 128 := ⟨_, rfl⟩
      obtain ⟨x, hx⟩ : ∃ x, x = nextX v d j := ⟨_, rfl⟩
      have q1 : bits BinOp.and IntKind.u8 (ch : Int) 127 = (d : Int) := by rw [hd]; exact w8_low7 ch (by omega)
      have q2 : IntKind.u64.wrap (d : Int) = (d : Int) := w64_small d (by omega)
      have q3 : bits BinOp.or IntKind.u64 (v : Int) (IntKind.u64.wrap ((d : Int) * 2 ^ (7 * j))) = (x : Int) := by rw [hx]; exact w64_next v d j hv
      have hxl : x < 18446744073709551616 := by rw [hx]; exact nextX_lt v d j hv
      have Hd := Lib.hid hd
      have Hx := Lib.hid hx
      clear hd hx
      by_cases hc : ch < 128
      ·by_cases hbad : (ch = 0 ∧ 0 < j) ∨ (j = 9 ∧ 1 < ch)
       ·have e0 := Lib.hid (HR.out.bad hlt hin Hcc.out hc hbad)
        clear Hcc q1 q2 q3
        rcases hbad with ⟨h1, h2⟩ | ⟨h1, h2⟩
        ·obtain rfl : ch = 0 := h1
         go_wp2_with fail
         exact bodyPost_ret (v := .tuple #[.int .i64 0, .int .i64 0, .int .i64 3]) (by simp [results, Tryz.results63, go_sem]) rfl (retRd e0.out)
        ·have h3 : 9 ≤ j := by omega
         clear h1
         go_wp2_with fail
         exact bodyPost_ret (v := .tuple #[.int .i64 0, .int .i64 0, .int .i64 3]) (by simp [results, Tryz.results63, go_sem]) rfl (retRd e0.out)
       ·have e0 := Lib.hid (HR.out.ok hlt hin Hcc.out hc hbad)
        have hdc : d = ch := by rw [Hd.out]; omega
        rw [← hdc, ← Hx.out] at e0
        clear hdc
        by_cases hz : ch = 0
        ·obtain rfl : j = 0 := by omega
         obtain rfl : v = 0 := by have := HR.out.2.2.1; simp at this; exact this
         subst hz
         obtain rfl : d = 0 := Hd.out
         rw [Hx.out] at e0
         clear q1 q2 q3 hbad hcn
         have hck' : w.cell? ⟨bb, off + k, none⟩ = some (.int .u8 0) := hck
         clear hck
         go_wp2_with fail
         exact bodyPost_ret (v := .tuple #[.int .i64 _, .int .i64 (↑k + 1), .int .i64 0]) (by simp [results, Tryz.results63, go_sem]; rfl) rfl (retRd (by rw [unzig0]; simpa using e0.out))
        ·have e1 := Lib.hid (w64_unzig x hxl)
         by_cases h9 : 9 ≤ j
         ·have h1 : ch ≤ 1 := by omega
          clear hbad
          go_wp2_with fail
          exact bodyPost_ret (v := .tuple #[.int .i64 _, .int .i64 (↑k + 9 + 1), .int .i64 0]) (by simp [results, Tryz.results63, go_sem]; rfl) rfl (retRd (by rw [e1.out, show (9 : Int) = (j : Int) by omega]; exact e0.out))
         ·clear hbad
          go_wp2_with fail
          exact bodyPost_ret (v := .tuple #[.int .i64 _, .int .i64 (↑k + ↑j + 1), .int .i64 0]) (by simp [results, Tryz.results63, go_sem]; rfl) rfl (retRd (by rw [e1.out]; exact e0.out))
      ·have HN := Lib.hid (HR.out.next hlt hin Hcc.out (by omega) Hd.out)
       rw [← Hx.out] at HN
       go_wp2_with fail
       go_round
       case rel => exact ⟨j + 1, x, rfl, by go_num, HN.out⟩
       case measure => simp [intOf]; omega
     ·have e0 := Lib.hid (HR.out.short hlt hin)
      go_wp2_with fail
      exact bodyPost_ret (v := .tuple #[.int .i64 0, .int .i64 0, .int .i64 4]) (by simp [results, Tryz.results63, go_sem]) rfl (retRd e0.out)
    ·obtain rfl : j = 10 := by omega
     have e0 := Lib.hid HR.out.long
     go_wp2_with fail
     exact bodyPost_ret (v := .tuple #[.int .i64 0, .int .i64 0, .int .i64 3]) (by simp [results, Tryz.results63, go_sem]) rfl (retRd e0.out)
end Go.Proofs.YtcomeidcmcegfaaGreatDoor
namespace Go.Proofs.YtcomeidcmcegfaaGreatDoor
open Go.RowKit
set_option linter.unusedVariables false
def val : List UInt8 → Nat
 | [] => 0
 | c :: s => c.toNat % 128 + 128 * val s
theorem val_lt (l : List UInt8) : val l < 128 ^ l.length := by
 induction l with
 | nil => simp [val]
 | cons c l ih => rw [val, List.length_cons, Nat.pow_succ]; omega
theorem val_snoc (l : List UInt8) (c : UInt8) : val (l ++ [c]) = val l + 128 ^ l.length * (c.toNat % 128) := by
 induction l with
 | nil => simp [val]
 | cons a l ih => rw [List.cons_append, val, ih, val, List.length_cons, Nat.pow_succ, Nat.mul_add, ← Nat.mul_assoc, Nat.mul_comm 128 (128 ^ l.length)]; omega
def pre (b : List UInt8) (k j : Nat) : List UInt8 := (b.drop k).take j
theorem pre_len {b : List UInt8} {k j : Nat} (h : k + j ≤ b.length) : (pre b k j).length = j := by unfold pre; simp; omega
theorem pre_next {b : List UInt8} {k j : Nat} (h : k + j < b.length) : pre b k (j + 1) = pre b k j ++ [b[k + j]] := by
 unfold pre
 rw [List.take_succ_eq_append_getElem (by simp; omega)]
 simp
theorem val_next {b : List UInt8} {k j : Nat} (h : k + j < b.length) : val (pre b k (j + 1)) = val (pre b k j) + 128 ^ j * (b[k + j].toNat % 128) := by
 rw [pre_next h, val_snoc, pre_len (by omega)]
theorem Reads.pre {b : List UInt8} {k j : Nat} (h : Reads b k j (val (pre b k j))) (hj : j < 10) (hin : k + j < b.length) (h8 : 128 ≤ b[k + j].toNat) : Reads b k (j + 1) (val (pre b k (j + 1))) := by
 have hlt := b[k + j].toNat_lt
 have he := h.at hj hin
 rw [comb_next _ _ _ _ _ (by omega)] at he
 refine ⟨by omega, by omega, .inr ?_, ?_⟩
 ·have := val_lt (Go.Proofs.YtcomeidcmcegfaaGreatDoor.pre b k (j + 1)); rwa [pre_len (by omega)] at this
 ·rw [val_next hin, show b[k + j].toNat % 128 = b[k + j].toNat - 128 by omega, show 10 - (j + 1) = 9 - j by omega, show k + (j + 1) = k + j + 1 by omega]
  exact he
def sfx (b : List UInt8) (k K t : Nat) : List UInt8 := (b.drop (k + t)).take (K + 1 - t)
theorem sfx_next {b : List UInt8} {k K t : Nat} (h : k + K < b.length) (ht : t ≤ K) : sfx b k K t = b[k + t] :: sfx b k K (t + 1) := by
 unfold sfx
 rw [List.drop_eq_getElem_cons (show k + t < b.length by omega), show K + 1 - t = (K - t) + 1 by omega, List.take_succ_cons, show K + 1 - (t + 1) = K - t by omega, Nat.add_assoc]
theorem sfx_end (b : List UInt8) (k K : Nat) : val (sfx b k K (K + 1)) = 0 := by unfold sfx; rw [Nat.sub_self, List.take_zero]; rfl
theorem sfx_zero (b : List UInt8) (k K : Nat) : sfx b k K 0 = pre b k (K + 1) := rfl
theorem sfx_le {b : List UInt8} {k K : Nat} (h : k + K < b.length) : ∀ t, t ≤ K + 1 → val (sfx b k K t) ≤ val (pre b k (K + 1)) := by
 intro t
 induction t with
 | zero => intro _; exact Nat.le_refl _
 | succ t ih =>
  intro ht
  have := ih (by omega)
  rw [sfx_next h (by omega), val] at this
  omega
theorem sfx_step {b : List UInt8} {k K t : Nat} (h : k + K < b.length) (ht : t ≤ K) : val (sfx b k K t) = val (sfx b k K (t + 1)) * 128 + b[k + t].toNat % 128 := by
 rw [sfx_next h ht, val]; omega
theorem Reads.okv {b : List UInt8} {k j : Nat} (h : Reads b k j (val (Go.Proofs.YtcomeidcmcegfaaGreatDoor.pre b k j))) (hj : j < 10) (hin : k + j < b.length) (h8 : b[k + j].toNat < 128) (hb : ¬ ((b[k + j].toNat = 0 ∧ 0 < j) ∨ (j = 9 ∧ 1 < b[k + j].toNat))) :
 (rdE b (k : Int) = 0 ∧ rdN b (k : Int) = unzig (val (Go.Proofs.YtcomeidcmcegfaaGreatDoor.pre b k (j + 1))) ∧ rdT b (k : Int) = (k : Int) + (j : Int) + 1) ∧ val (Go.Proofs.YtcomeidcmcegfaaGreatDoor.pre b k (j + 1)) < 18446744073709551616 := by
 have he := h.at hj hin
 rw [rdv, if_neg (by omega), if_neg hb] at he
 rw [comb, if_pos rfl] at he
 have hv : val (Go.Proofs.YtcomeidcmcegfaaGreatDoor.pre b k j) < 128 ^ j := by rcases h.2.2.1 with h1 | h1 <;> omega
 have e1 : val (Go.Proofs.YtcomeidcmcegfaaGreatDoor.pre b k (j + 1)) = val (Go.Proofs.YtcomeidcmcegfaaGreatDoor.pre b k j) + 128 ^ j * b[k + j].toNat := by rw [val_next hin, Nat.mod_eq_of_lt h8]
 rw [e1]
 have := rd_of0 (n := val (Go.Proofs.YtcomeidcmcegfaaGreatDoor.pre b k j) + 128 ^ j * b[k + j].toNat) (t := j + 1) (by omega) he.symm
 refine ⟨⟨this.1, this.2.1, ?_⟩, ?_⟩
 ·rw [this.2.2, Int.natCast_add]; omega
 ·rcases Nat.lt_or_ge j 9 with h9 | h9
  ·have h8' : 128 ^ j ≤ 128 ^ 8 := Nat.pow_le_pow_right (by omega) (by omega)
   have : 128 ^ j * b[k + j].toNat ≤ 128 ^ 8 * 127 := Nat.mul_le_mul h8' (by omega)
   omega
  ·obtain rfl : j = 9 := by omega
   have : 128 ^ 9 * b[k + 9].toNat ≤ 128 ^ 9 * 1 := Nat.mul_le_mul_left _ (by omega)
   omega
theorem unzig_odd (x : Nat) (h : ((x : Int) % 2 == 1) = true) : -((x : Int) / 2) - 1 = unzig x := by
 have : (x : Int) % 2 = 1 := eq_of_beq h
 unfold unzig; rw [if_neg (by omega)]; omega
theorem unzig_even (x : Nat) (h : ((x : Int) % 2 == 1) = false) : (x : Int) / 2 = unzig x := by
 have : ¬ (x : Int) % 2 = 1 := ne_of_beq_false h
 unfold unzig; rw [if_pos (by omega)]; omega
set_option maxRecDepth 20000 in
set_option maxHeartbeats 1000000 in
theorem rint_any (w : World) (A : Option Addr) (c : Nat) (b : List UInt8) (h : Rd w A (b.map U8)) (hl : b.length ≤ 9223372036854775000) (a : Int) (lo : -9223372036854775808 ≤ a) (hi : a ≤ 9223372036854775807) :
 Calls Tryz.prog 52 #[.slice A b.length c, .int .i64 a] w (RetRd b a w) := by
 by_cases h0 : a < 0
 ·have e0 := Lib.hid (rd_range (b := b) (Or.inl h0))
  go_enter Tryz.func52, Tryz.ntmps52
  go_wp2
  exact bodyPost_ret (v := .tuple #[.int .i64 0, .int .i64 0, .int .i64 2]) (by simp [results, Tryz.results52, go_sem]) rfl (retRd e0.out)
 ·by_cases h1 : (b.length : Int) < a
  ·have e0 := Lib.hid (rd_range (b := b) (Or.inr h1))
   go_enter Tryz.func52, Tryz.ntmps52
   go_wp2
   exact bodyPost_ret (v := .tuple #[.int .i64 0, .int .i64 0, .int .i64 2]) (by simp [results, Tryz.results52, go_sem]) rfl (retRd e0.out)
  ·obtain ⟨k, rfl⟩ : ∃ k : Nat, a = k := ⟨a.toNat, by omega⟩
   have hk : k ≤ b.length := by omega
   clear h0 h1 lo hi
   go_enter Tryz.func52, Tryz.ntmps52
   go_wp2
   go_loop [7] (fun i => ∃ j : Nat, i = .int .i64 j ∧ Reads b k j (val (pre b k j))) (fun i => 10 - (intOf i).toNat)
   case atStart => exact ⟨0, rfl, Reads.start b k hk⟩
   case round =>
    obtain ⟨j, rfl, hR⟩ := hrel
    have hj : j ≤ 10 := hR.1
    have hkj : k + j ≤ b.length := hR.2.1
    have HR := Lib.hid hR
    clear hR
    by_cases hlt : j < 10
    ·by_cases hin : k + j < b.length
     ·obtain ⟨bb, off, rfl, hb, hck⟩ := h.at8 hin
      have hcn := b[k + j].toNat_lt
      by_cases h8 : 128 ≤ b[k + j].toNat
      ·have HN := Lib.hid (HR.out.pre hlt hin h8)
       generalize b[k + j].toNat = ch at *
       go_wp2_with fail
       go_round
       case rel => exact ⟨j + 1, by go_num, HN.out⟩
       case measure => simp [intOf]; omega
      ·by_cases hbad : (b[k + j].toNat = 0 ∧ 0 < j) ∨ (j = 9 ∧ 1 < b[k + j].toNat)
       ·have e0 := Lib.hid (HR.out.bad hlt hin rfl (by omega) hbad)
        generalize b[k + j].toNat = ch at *
        rcases hbad with ⟨h1, h2⟩ | ⟨h1, h2⟩
        ·subst h1
         go_wp2_with fail
         exact bodyPost_ret (v := .tuple #[.int .i64 0, .int .i64 0, .int .i64 3]) (by simp [results, Tryz.results52, go_sem]) rfl (retRd e0.out)
        ·have h3 : 9 ≤ j := by omega
         have h4 : ((ch : Int) == 0) = false := by simp; omega
         have h5 : ((j : Int) == 9) = true := by simp; omega
         clear h1
         go_wp2_with fail
         exact bodyPost_ret (v := .tuple #[.int .i64 0, .int .i64 0, .int .i64 3]) (by simp [results, Tryz.results52, go_sem]) rfl (retRd e0.out)
       ·have e0 := Lib.hid (HR.out.okv hlt hin (by omega) hbad)
        have hle := Lib.hid (sfx_le (k := k) hin)
        have hst := Lib.hid (fun t => sfx_step (t := t) hin)
        have hrd := Lib.hid (fun t (ht : t ≤ j) => h.at8 (k := k + t) (by omega))
        generalize b[k + j].toNat = ch at *
        have Hlt := Lib.hid e0.out.2
        have e1 := Lib.hid e0.out.1
        clear e0
        generalize hvv : val (pre b k (j + 1)) = vv at *
        have Hvv := Lib.hid hvv
        clear hvv
        by_cases hz : ch = 0
        ·have h4 : ((ch : Int) == 0) = true := by simp; omega
         have h5 : ((j : Int) == 9) = false := by simp; omega
         have h6 : decide (0 < j) = false := by simp; omega
         clear hz hbad
         go_wp2_with fail
         all_goals
          go_loop [8, 9] (fun u i => ∃ t : Nat, t ≤ j + 1 ∧ i = .int .i64 ((t : Int) - 1) ∧ u = .int .u64 (val (sfx b k j t))) (fun _ i => (intOf i + 1).toNat)
          case atStart => exact ⟨j + 1, Nat.le_refl _, int_eq (by omega), by rw [sfx_end]; rfl⟩
          case round =>
           obtain ⟨t, ht, rfl, rfl⟩ := hrel
           rcases t with _ | t
           ·rw [show (((0 : Nat) : Int) - 1) = -1 from rfl, sfx_zero, Hvv.out]
            have hlv := Hlt.out
            go_wp2_with fail
            ·exact bodyPost_ret (v := .tuple #[.int .i64 _, .int .i64 (↑k + ↑j + 1), .int .i64 0]) (by simp [results, Tryz.results52, go_sem]; rfl) rfl (retRd (by rw [unzig_odd vv ‹_›]; exact e1.out))
            ·exact bodyPost_ret (v := .tuple #[.int .i64 _, .int .i64 (↑k + ↑j + 1), .int .i64 0]) (by simp [results, Tryz.results52, go_sem]; rfl) rfl (retRd (by rw [unzig_even vv ‹_›]; exact e1.out))
           ·rw [show (((t + 1 : Nat) : Int) - 1) = (t : Int) by omega]
            obtain ⟨bb', off', eA, hb', hct⟩ := hrd.out t (by omega)
            injection eA with eA
            injection eA with e1' e2'
            subst e1' e2'
            have hs := hst.out t (by omega)
            have hle' := hle.out t (by omega)
            have hlv := Hlt.out
            have hct' := b[k + t].toNat_lt
            generalize b[k + t].toNat = ct at *
            generalize hus : val (sfx b k j (t + 1)) = us at *
            have Hus := Lib.hid hus
            have Hs := Lib.hid hs
            have hub : us * 128 + ct % 128 < 18446744073709551616 := by omega
            clear hs hus hle'
            go_wp2_with fail
            go_round
            case rel => exact ⟨t, by omega, int_eq (by omega), by rw [Hs.out]; exact int_eq (by omega)⟩
            case measure => simp [intOf]
        ·have h4 : ((ch : Int) == 0) = false := by simp; omega
         by_cases h9 : 9 ≤ j
         ·have h5 : ((j : Int) == 9) = true := by simp; omega
          have h7 : ch ≤ 1 := by omega
          clear hz hbad
          go_wp2_with fail
          all_goals
           go_loop [8, 9] (fun u i => ∃ t : Nat, t ≤ j + 1 ∧ i = .int .i64 ((t : Int) - 1) ∧ u = .int .u64 (val (sfx b k j t))) (fun _ i => (intOf i + 1).toNat)
           case atStart => exact ⟨j + 1, Nat.le_refl _, int_eq (by omega), by rw [sfx_end]; rfl⟩
           case round =>
            obtain ⟨t, ht, rfl, rfl⟩ := hrel
            rcases t with _ | t
            ·rw [show (((0 : Nat) : Int) - 1) = -1 from rfl, sfx_zero, Hvv.out]
             have hlv := Hlt.out
             go_wp2_with fail
             ·exact bodyPost_ret (v := .tuple #[.int .i64 _, .int .i64 (↑k + ↑j + 1), .int .i64 0]) (by simp [results, Tryz.results52, go_sem]; rfl) rfl (retRd (by rw [unzig_odd vv ‹_›]; exact e1.out))
             ·exact bodyPost_ret (v := .tuple #[.int .i64 _, .int .i64 (↑k + ↑j + 1), .int .i64 0]) (by simp [results, Tryz.results52, go_sem]; rfl) rfl (retRd (by rw [unzig_even vv ‹_›]; exact e1.out))
            ·rw [show (((t + 1 : Nat) : Int) - 1) = (t : Int) by omega]
             obtain ⟨bb', off', eA, hb', hct⟩ := hrd.out t (by omega)
             injection eA with eA
             injection eA with e1' e2'
             subst e1' e2'
             have hs := hst.out t (by omega)
             have hle' := hle.out t (by omega)
             have hlv := Hlt.out
             have hct' := b[k + t].toNat_lt
             generalize b[k + t].toNat = ct at *
             generalize hus : val (sfx b k j (t + 1)) = us at *
             have Hus := Lib.hid hus
             have Hs := Lib.hid hs
             have hub : us * 128 + ct % 128 < 18446744073709551616 := by omega
             clear hs hus hle'
             go_wp2_with fail
             go_round
             case rel => exact ⟨t, by omega, int_eq (by omega), by rw [Hs.out]; exact int_eq (by omega)⟩
             case measure => simp [intOf]
         ·have h5 : ((j : Int) == 9) = false := by simp; omega
          clear hz hbad
          go_wp2_with fail
          all_goals
           go_loop [8, 9] (fun u i => ∃ t : Nat, t ≤ j + 1 ∧ i = .int .i64 ((t : Int) - 1) ∧ u = .int .u64 (val (sfx b k j t))) (fun _ i => (intOf i + 1).toNat)
           case atStart => exact ⟨j + 1, Nat.le_refl _, int_eq (by omega), by rw [sfx_end]; rfl⟩
           case round =>
            obtain ⟨t, ht, rfl, rfl⟩ := hrel
            rcases t with _ | t
            ·rw [show (((0 : Nat) : Int) - 1) = -1 from rfl, sfx_zero, Hvv.out]
             have hlv := Hlt.out
             go_wp2_with fail
             ·exact bodyPost_ret (v := .tuple #[.int .i64 _, .int .i64 (↑k + ↑j + 1), .int .i64 0]) (by simp [results, Tryz.results52, go_sem]; rfl) rfl (retRd (by rw [unzig_odd vv ‹_›]; exact e1.out))
             ·exact bodyPost_ret (v := .tuple #[.int .i64 _, .int .i64 (↑k + ↑j + 1), .int .i64 0]) (by simp [results, Tryz.results52, go_sem]; rfl) rfl (retRd (by rw [unzig_even vv ‹_›]; exact e1.out))
            ·rw [show (((t + 1 : Nat) : Int) - 1) = (t : Int) by omega]
             obtain ⟨bb', off', eA, hb', hct⟩ := hrd.out t (by omega)
             injection eA with eA
             injection eA with e1' e2'
             subst e1' e2'
             have hs := hst.out t (by omega)
             have hle' := hle.out t (by omega)
             have hlv := Hlt.out
             have hct' := b[k + t].toNat_lt
             generalize b[k + t].toNat = ct at *
             generalize hus : val (sfx b k j (t + 1)) = us at *
             have Hus := Lib.hid hus
             have Hs := Lib.hid hs
             have hub : us * 128 + ct % 128 < 18446744073709551616 := by omega
             clear hs hus hle'
             go_wp2_with fail
             go_round
             case rel => exact ⟨t, by omega, int_eq (by omega), by rw [Hs.out]; exact int_eq (by omega)⟩
             case measure => simp [intOf]
     ·have e0 := Lib.hid (HR.out.short hlt hin)
      go_wp2_with fail
      exact bodyPost_ret (v := .tuple #[.int .i64 0, .int .i64 0, .int .i64 4]) (by simp [results, Tryz.results52, go_sem]) rfl (retRd e0.out)
    ·obtain rfl : j = 10 := by omega
     have e0 := Lib.hid HR.out.long
     go_wp2_with fail
     exact bodyPost_ret (v := .tuple #[.int .i64 0, .int .i64 0, .int .i64 3]) (by simp [results, Tryz.results52, go_sem]) rfl (retRd e0.out)
end Go.Proofs.YtcomeidcmcegfaaGreatDoor
namespace Go.Proofs.YtcomeidcmcegfaaGreatDoor
open Go.RowKit
set_option linter.unusedVariables false
theorem int_ok (w : World) (A : Option Addr) (c : Nat) (b : List UInt8) (h : Rd w A (b.map U8)) (hl : b.length ≤ 1000000000) (a : Int) (lo : -9223372036854775808 ≤ a) (hi : a ≤ 9223372036854775807) (h0 : rdE b a = 0) :
 Calls Tryz.prog 63 #[.slice A b.length c, .int .i64 a] w fun e w' => e = .returned (.tuple #[.int .i64 (rdN b a), .int .i64 (rdT b a), .int .i64 0]) ∧ w = w' := by
 have := int_any w A c b h (by omega) a lo hi
 unfold RetRd at this; rw [h0] at this; exact this
theorem int_err (w : World) (A : Option Addr) (c : Nat) (b : List UInt8) (h : Rd w A (b.map U8)) (hl : b.length ≤ 1000000000) (a : Int) (lo : -9223372036854775808 ≤ a) (hi : a ≤ 9223372036854775807) (h0 : rdE b a ≠ 0) :
 Calls Tryz.prog 63 #[.slice A b.length c, .int .i64 a] w fun e w' => e = .returned (.tuple #[.int .i64 0, .int .i64 0, .int .i64 (rdE b a)]) ∧ w = w' := by
 have := int_any w A c b h (by omega) a lo hi
 unfold RetRd at this; rw [rdN_err h0, rdT_err h0] at this; exact this
set_option maxRecDepth 100000 in
set_option maxHeartbeats 1000000 in
theorem len_any (w : World) (A : Option Addr) (c : Nat) (b : List UInt8) (h : Rd w A (b.map U8)) (hl : b.length ≤ 1000000000) (a : Int) (lo : -9223372036854775808 ≤ a) (hi : a ≤ 9223372036854775807) :
 Calls Tryz.prog 103 #[.slice A b.length c, .int .i64 a] w fun e w' => e = .returned (.tuple #[.int .i64 (lenN b a), .int .i64 (lenT b a), .int .i64 (lenE b a)]) ∧ w = w' := by
 by_cases h0 : rdE b a = 0
 ·obtain ⟨n1, n2, n3, n4⟩ := read_bound h0
  by_cases hn : rdN b a < 0
  ·have H := Lib.hid (len_neg h0 hn)
   go_enter Tryz.func103, Tryz.ntmps103
   go_wp2_with fail
   refine (int_ok _ _ _ _ h hl _ lo hi h0).mono ?_
   rintro e w' ⟨rfl, rfl⟩
   generalize rdN b a = n at *
   generalize rdT b a = t at *
   clear h0
   go_wp2_with fail
   exact bodyPost_ret (v := .tuple #[.int .i64 0, .int .i64 0, .int .i64 3]) (by simp [results, Tryz.results103, go_sem]) rfl ⟨by obtain ⟨e0, e1, e2⟩ := H.out; rw [e0, e1, e2], rfl⟩
  ·have H := Lib.hid (len_ok h0 (by omega))
   go_enter Tryz.func103, Tryz.ntmps103
   go_wp2_with fail
   refine (int_ok _ _ _ _ h hl _ lo hi h0).mono ?_
   rintro e w' ⟨rfl, rfl⟩
   generalize rdN b a = n at *
   generalize rdT b a = t at *
   clear h0
   go_wp2_with fail
   exact bodyPost_ret (v := .tuple #[.int .i64 n, .int .i64 t, .int .i64 0]) (by simp [results, Tryz.results103, go_sem]) rfl ⟨by obtain ⟨e0, e1, e2⟩ := H.out; rw [e0, e1, e2], rfl⟩
 ·have H := Lib.hid (len_err h0)
  have hb : (rdE b a == 0) = false := by simp; exact h0
  go_enter Tryz.func103, Tryz.ntmps103
  go_wp2_with fail
  refine (int_err _ _ _ _ h hl _ lo hi h0).mono ?_
  rintro e w' ⟨rfl, rfl⟩
  generalize rdE b a = n at *
  clear h0
  go_wp2_with fail
  exact bodyPost_ret (v := .tuple #[.int .i64 0, .int .i64 0, .int .i64 n]) (by simp [results, Tryz.results103, go_sem]) rfl ⟨by obtain ⟨e0, e1, e2⟩ := H.out; rw [e0, e1, e2], rfl⟩
set_option maxRecDepth 100000 in
set_option maxHeartbeats 1000000 in
theorem textAt_any (w : World) (A : Option Addr) (c : Nat) (b : List UInt8) (hbc : b.length ≤ c) (h : Rd w A (b.map U8)) (hl : b.length ≤ 1000000000) (a : Int) (lo : -9223372036854775808 ≤ a) (hi : a ≤ 9223372036854775807) :
 Calls Tryz.prog 90 #[.slice A b.length c, .int .i64 a] w fun e w' => e = .returned (.tuple #[.string ⟨(txS b a).toArray⟩, .int .i64 (txT b a), .int .i64 (txE b a)]) ∧ w = w' := by
 by_cases h0 : lenE b a = 0
 ·obtain ⟨n1, n2, n3, n4⟩ := len_bound h0
  have hL := len_any w A c b h hl a lo hi
  rw [h0] at hL
  by_cases hn : lenN b a > b.length - lenT b a
  ·have H := Lib.hid (tx_short h0 hn)
   clear h0
   generalize lenN b a = n at *
   generalize lenT b a = t at *
   go_enter Tryz.func90, Tryz.ntmps90
   go_wp2_with fail
   refine hL.mono ?_
   rintro e w' ⟨rfl, rfl⟩
   clear hL
   go_wp2_with fail
   exact bodyPost_ret (v := .tuple #[.string ⟨#[]⟩, .int .i64 0, .int .i64 4]) (by simp [results, Tryz.results90, go_sem]) rfl ⟨by obtain ⟨e0, e1, e2⟩ := H.out; rw [e0, e1, e2], rfl⟩
  ·have H := Lib.hid (tx_ok h0 hn)
   clear h0
   generalize lenN b a = n at *
   generalize lenT b a = t at *
   obtain ⟨k, rfl⟩ : ∃ k : Nat, t = k := ⟨t.toNat, by omega⟩
   obtain ⟨m, rfl⟩ : ∃ m : Nat, n = m := ⟨n.toNat, by omega⟩
   rw [Int.toNat_natCast, Int.toNat_natCast] at H
   obtain ⟨A', hsl, hA'⟩ := slice_run w A c b hbc h k m (by omega)
   have hlm : ((b.drop k).take m).length = m := by simp; omega
   have hst := str_of w A' (c - k) ((b.drop k).take m) hA'
   rw [hlm] at hst
   clear hlm hA'
   generalize (b.drop k).take m = s at *
   go_enter Tryz.func90, Tryz.ntmps90
   go_wp2_with fail
   refine hL.mono ?_
   rintro e w' ⟨rfl, rfl⟩
   clear hL
   go_wp2_with fail
   exact bodyPost_ret (v := .tuple #[.string ⟨s.toArray⟩, .int .i64 (↑k + ↑m), .int .i64 0]) (by simp [results, Tryz.results90, go_sem]) rfl ⟨by obtain ⟨e0, e1, e2⟩ := H.out; rw [e0, e1, e2], rfl⟩
 ·have H := Lib.hid (tx_err h0)
  have hL := len_any w A c b h hl a lo hi
  rw [lenN_err h0, lenT_err h0] at hL
  have hb : (lenE b a == 0) = false := by simp; exact h0
  have hb' : (lenE b a != 0) = true := by simp; exact h0
  generalize lenE b a = n at *
  clear h0
  go_enter Tryz.func90, Tryz.ntmps90
  go_wp2_with fail
  refine hL.mono ?_
  rintro e w' ⟨rfl, rfl⟩
  clear hL
  go_wp2_with fail
  exact bodyPost_ret (v := .tuple #[.string ⟨#[]⟩, .int .i64 0, .int .i64 n]) (by simp [results, Tryz.results90, go_sem]) rfl ⟨by obtain ⟨e0, e1, e2⟩ := H.out; rw [e0, e1, e2], rfl⟩
theorem rint_ok (w : World) (A : Option Addr) (c : Nat) (b : List UInt8) (h : Rd w A (b.map U8)) (hl : b.length ≤ 1000000000) (a : Int) (lo : -9223372036854775808 ≤ a) (hi : a ≤ 9223372036854775807) (h0 : rdE b a = 0) :
 Calls Tryz.prog 52 #[.slice A b.length c, .int .i64 a] w fun e w' => e = .returned (.tuple #[.int .i64 (rdN b a), .int .i64 (rdT b a), .int .i64 0]) ∧ w = w' := by
 have := rint_any w A c b h (by omega) a lo hi
 unfold RetRd at this; rw [h0] at this; exact this
theorem rint_err (w : World) (A : Option Addr) (c : Nat) (b : List UInt8) (h : Rd w A (b.map U8)) (hl : b.length ≤ 1000000000) (a : Int) (lo : -9223372036854775808 ≤ a) (hi : a ≤ 9223372036854775807) (h0 : rdE b a ≠ 0) :
 Calls Tryz.prog 52 #[.slice A b.length c, .int .i64 a] w fun e w' => e = .returned (.tuple #[.int .i64 0, .int .i64 0, .int .i64 (rdE b a)]) ∧ w = w' := by
 have := rint_any w A c b h (by omega) a lo hi
 unfold RetRd at this; rw [rdN_err h0, rdT_err h0] at this; exact this
set_option maxRecDepth 100000 in
set_option maxHeartbeats 1000000 in
theorem rlen_any (w : World) (A : Option Addr) (c : Nat) (b : List UInt8) (h : Rd w A (b.map U8)) (hl : b.length ≤ 1000000000) (a : Int) (lo : -9223372036854775808 ≤ a) (hi : a ≤ 9223372036854775807) :
 Calls Tryz.prog 97 #[.slice A b.length c, .int .i64 a] w fun e w' => e = .returned (.tuple #[.int .i64 (lenN b a), .int .i64 (lenT b a), .int .i64 (lenE b a)]) ∧ w = w' := by
 by_cases h0 : rdE b a = 0
 ·obtain ⟨n1, n2, n3, n4⟩ := read_bound h0
  by_cases hn : rdN b a < 0
  ·have H := Lib.hid (len_neg h0 hn)
   go_enter Tryz.func97, Tryz.ntmps97
   go_wp2_with fail
   refine (rint_ok _ _ _ _ h hl _ lo hi h0).mono ?_
   rintro e w' ⟨rfl, rfl⟩
   generalize rdN b a = n at *
   generalize rdT b a = t at *
   clear h0
   go_wp2_with fail
   exact bodyPost_ret (v := .tuple #[.int .i64 0, .int .i64 0, .int .i64 3]) (by simp [results, Tryz.results97, go_sem]) rfl ⟨by obtain ⟨e0, e1, e2⟩ := H.out; rw [e0, e1, e2], rfl⟩
  ·have H := Lib.hid (len_ok h0 (by omega))
   go_enter Tryz.func97, Tryz.ntmps97
   go_wp2_with fail
   refine (rint_ok _ _ _ _ h hl _ lo hi h0).mono ?_
   rintro e w' ⟨rfl, rfl⟩
   generalize rdN b a = n at *
   generalize rdT b a = t at *
   clear h0
   go_wp2_with fail
   exact bodyPost_ret (v := .tuple #[.int .i64 n, .int .i64 t, .int .i64 0]) (by simp [results, Tryz.results97, go_sem]) rfl ⟨by obtain ⟨e0, e1, e2⟩ := H.out; rw [e0, e1, e2], rfl⟩
 ·have H := Lib.hid (len_err h0)
  have hb : (rdE b a == 0) = false := by simp; exact h0
  go_enter Tryz.func97, Tryz.ntmps97
  go_wp2_with fail
  refine (rint_err _ _ _ _ h hl _ lo hi h0).mono ?_
  rintro e w' ⟨rfl, rfl⟩
  generalize rdE b a = n at *
  clear h0
  go_wp2_with fail
  exact bodyPost_ret (v := .tuple #[.int .i64 0, .int .i64 0, .int .i64 n]) (by simp [results, Tryz.results97, go_sem]) rfl ⟨by obtain ⟨e0, e1, e2⟩ := H.out; rw [e0, e1, e2], rfl⟩
set_option maxRecDepth 100000 in
set_option maxHeartbeats 1000000 in
theorem rtextAt_any (w : World) (A : Option Addr) (c : Nat) (b : List UInt8) (hbc : b.length ≤ c) (h : Rd w A (b.map U8)) (hl : b.length ≤ 1000000000) (a : Int) (lo : -9223372036854775808 ≤ a) (hi : a ≤ 9223372036854775807) :
 Calls Tryz.prog 82 #[.slice A b.length c, .int .i64 a] w fun e w' => e = .returned (.tuple #[.string ⟨(txS b a).toArray⟩, .int .i64 (txT b a), .int .i64 (txE b a)]) ∧ w = w' := by
 by_cases h0 : lenE b a = 0
 ·obtain ⟨n1, n2, n3, n4⟩ := len_bound h0
  have hL := rlen_any w A c b h hl a lo hi
  rw [h0] at hL
  by_cases hn : lenN b a > b.length - lenT b a
  ·have H := Lib.hid (tx_short h0 hn)
   clear h0
   generalize lenN b a = n at *
   generalize lenT b a = t at *
   go_enter Tryz.func82, Tryz.ntmps82
   go_wp2_with fail
   refine hL.mono ?_
   rintro e w' ⟨rfl, rfl⟩
   clear hL
   go_wp2_with fail
   exact bodyPost_ret (v := .tuple #[.string ⟨#[]⟩, .int .i64 0, .int .i64 4]) (by simp [results, Tryz.results82, go_sem]) rfl ⟨by obtain ⟨e0, e1, e2⟩ := H.out; rw [e0, e1, e2], rfl⟩
  ·have H := Lib.hid (tx_ok h0 hn)
   clear h0
   generalize lenN b a = n at *
   generalize lenT b a = t at *
   obtain ⟨k, rfl⟩ : ∃ k : Nat, t = k := ⟨t.toNat, by omega⟩
   obtain ⟨m, rfl⟩ : ∃ m : Nat, n = m := ⟨n.toNat, by omega⟩
   rw [Int.toNat_natCast, Int.toNat_natCast] at H
   obtain ⟨A', hsl, hA'⟩ := slice_run w A c b hbc h k m (by omega)
   have hlm : ((b.drop k).take m).length = m := by simp; omega
   have hst := str_of w A' (c - k) ((b.drop k).take m) hA'
   rw [hlm] at hst
   clear hlm hA'
   generalize (b.drop k).take m = s at *
   go_enter Tryz.func82, Tryz.ntmps82
   go_wp2_with fail
   refine hL.mono ?_
   rintro e w' ⟨rfl, rfl⟩
   clear hL
   go_wp2_with fail
   exact bodyPost_ret (v := .tuple #[.string ⟨s.toArray⟩, .int .i64 (↑k + ↑m), .int .i64 0]) (by simp [results, Tryz.results82, go_sem]) rfl ⟨by obtain ⟨e0, e1, e2⟩ := H.out; rw [e0, e1, e2], rfl⟩
 ·have H := Lib.hid (tx_err h0)
  have hL := rlen_any w A c b h hl a lo hi
  rw [lenN_err h0, lenT_err h0] at hL
  have hb : (lenE b a == 0) = false := by simp; exact h0
  have hb' : (lenE b a != 0) = true := by simp; exact h0
  generalize lenE b a = n at *
  clear h0
  go_enter Tryz.func82, Tryz.ntmps82
  go_wp2_with fail
  refine hL.mono ?_
  rintro e w' ⟨rfl, rfl⟩
  clear hL
  go_wp2_with fail
  exact bodyPost_ret (v := .tuple #[.string ⟨#[]⟩, .int .i64 0, .int .i64 n]) (by simp [results, Tryz.results82, go_sem]) rfl ⟨by obtain ⟨e0, e1, e2⟩ := H.out; rw [e0, e1, e2], rfl⟩
end Go.Proofs.YtcomeidcmcegfaaGreatDoor
