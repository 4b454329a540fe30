/-
  'b[:h]' of bytes. Conditions: none.
  'b[lo:hi]' and 'b[lo:hi:hi]' of bytes. Conditions: none.
-/
import Derived.Test.YtcomeidcmcegfaaGreatDoorZD
import Derived.Test.YtcomeidcmcegfaaGreatDoorHeld2
namespace Go.Proofs.YtcomeidcmcegfaaGreatDoor
open Go.RowKit
set_option linter.unusedVariables false
theorem addr_add0 (a : Addr) : a.add 0 = a := by
 obtain ⟨b, o, s⟩ := a
 unfold Addr.add; split <;> simp_all
theorem slice_to (A : Option Addr) (c n : Nat) (hc : n ≤ c) (h : Int) (k : Nat) (e : h = (k : Int)) (hk : k ≤ n) (w' : World) :
 (Instr.slice 22 (.slice A n c) none (some (.int .i64 h)) none).run Tryz.prog w' = .ok (.slice A k c) w' := by
 subst e
 have hel : Tryz.prog.elem 22 = 5 := by kernel_rfl
 have h1 := run_slice_h (P := Tryz.prog) (w := w') 22 A n c (by rw [hel]; exact Tryz.underlying22) .i64 (k : Int) (by omega) (by omega)
 have hsz : (sizeOf (Tryz.prog.elem 22)).run Tryz.prog w' = .ok 1 w' := by
  rw [hel]
  obtain ⟨i0, hi0, hz0, hz1, hz2⟩ := info_parts info_u8
  simp [sizeOf, typeInfo, hi0, hz1]
 rw [hsz] at h1
 simp only [Result.andThen_ok, sliced, Int.toNat_natCast, Nat.zero_mul, Nat.sub_zero] at h1
 rw [h1]
 by_cases h0 : c = 0
 ·rw [if_pos h0]
 ·rw [if_neg h0]
  rcases A with _ | a
  ·rfl
  ·show Result.ok (Value.slice (some (a.add 0)) k c) w' = _
   rw [addr_add0]
theorem Rd.take {w : World} {A : Option Addr} {l : List Value} (h : Rd w A l) (k : Nat) : Rd w A (l.take k) := by
 intro hne
 obtain ⟨b, off, e, hb, hc⟩ := h (by intro e; subst e; simp at hne)
 refine ⟨b, off, e, hb, fun j u hu => hc j u ?_⟩
 have hj : j < k := by have := (List.getElem?_eq_some_iff.1 hu).1; simp at this; omega
 rw [← hu, List.getElem?_take, if_pos hj]
theorem Rd.take8 {w : World} {A : Option Addr} {l : List UInt8} (h : Rd w A (l.map U8)) (k : Nat) : Rd w A ((l.take k).map U8) := by
 rw [List.map_take]; exact h.take k
end Go.Proofs.YtcomeidcmcegfaaGreatDoor
namespace Go.Proofs.YtcomeidcmcegfaaGreatDoor
open Go.RowKit
set_option linter.unusedVariables false
def offBy (A : Option Addr) (c k : Nat) : Option Addr := if c = k then A else A.map (·.add k)
theorem Rd.off {w : World} {A : Option Addr} {c : Nat} {b : List UInt8} (h : Rd w A (b.map U8)) (hc : b.length ≤ c) (k m : Nat) (hk : k + m ≤ b.length) : Rd w (offBy A c k) (((b.drop k).take m).map U8) := by
 unfold offBy
 by_cases hck : c = k
 ·obtain rfl : m = 0 := by omega
  rw [List.take_zero]; exact Rd.nil _ _
 ·rw [if_neg hck]
  rcases Nat.eq_zero_or_pos m with h0 | h0
  ·subst h0; rw [List.take_zero]; exact Rd.nil _ _
  ·obtain ⟨b', off', e, _, _⟩ := h (by intro e; have := congrArg List.length e; simp at this; subst this; simp at hk; omega)
   subst e
   show Rd w (some ((⟨b', off', none⟩ : Addr).add k)) _
   rw [add_plain]
   exact h.part k m
theorem slice_at (A : Option Addr) (c n : Nat) (hc : n ≤ c) (lo hi : Int) (k m : Nat) (e1 : lo = (k : Int)) (e2 : hi = (k : Int) + (m : Int)) (hk : k + m ≤ n) (w' : World) :
 (Instr.slice 22 (.slice A n c) (some (.int .i64 lo)) (some (.int .i64 hi)) none).run Tryz.prog w' = .ok (.slice (offBy A c k) m (c - k)) w' := by
 subst e1 e2
 have hel : Tryz.prog.elem 22 = 5 := by kernel_rfl
 have h1 := run_slice_lh (P := Tryz.prog) (w := w') 22 A n c (by rw [hel]; exact Tryz.underlying22) .i64 .i64 (k : Int) ((k : Int) + (m : Int)) (by omega) (by omega) (by omega)
 have hsz : (sizeOf (Tryz.prog.elem 22)).run Tryz.prog w' = .ok 1 w' := by
  rw [hel]
  obtain ⟨i0, hi0, hz0, hz1, hz2⟩ := info_parts info_u8
  simp [sizeOf, typeInfo, hi0, hz1]
 rw [hsz] at h1
 simp only [Result.andThen_ok, sliced, Int.toNat_natCast, Nat.mul_one] at h1
 rw [show ((k : Int) + (m : Int)).toNat - k = m by omega] at h1
 exact h1
theorem slice_at3 (A : Option Addr) (c n : Nat) (hc : n ≤ c) (lo hi : Int) (k m : Nat) (e1 : lo = (k : Int)) (e2 : hi = (k : Int) + (m : Int)) (hk : k + m ≤ n) (w' : World) :
 (Instr.slice 22 (.slice A n c) (some (.int .i64 lo)) (some (.int .i64 hi)) (some (.int .i64 hi))).run Tryz.prog w' = .ok (.slice (offBy A (k + m) k) m m) w' := by
 subst e1 e2
 have hel : Tryz.prog.elem 22 = 5 := by kernel_rfl
 have h1 := run_slice_lhm (P := Tryz.prog) (w := w') 22 A n c (by rw [hel]; exact Tryz.underlying22) .i64 .i64 .i64 (k : Int) ((k : Int) + (m : Int)) ((k : Int) + (m : Int)) (by omega) (by omega) (by omega) (by omega)
 have hsz : (sizeOf (Tryz.prog.elem 22)).run Tryz.prog w' = .ok 1 w' := by
  rw [hel]
  obtain ⟨i0, hi0, hz0, hz1, hz2⟩ := info_parts info_u8
  simp [sizeOf, typeInfo, hi0, hz1]
 rw [hsz] at h1
 simp only [Result.andThen_ok, sliced, Int.toNat_natCast, Nat.mul_one] at h1
 rw [show ((k : Int) + (m : Int)).toNat - k = m by omega, show ((k : Int) + (m : Int)).toNat = k + m by omega] at h1
 exact h1
theorem Rd.off3 {w : World} {A : Option Addr} {b : List UInt8} (h : Rd w A (b.map U8)) (k m : Nat) (hk : k + m ≤ b.length) : Rd w (offBy A (k + m) k) (((b.drop k).take m).map U8) := by
 rcases Nat.eq_zero_or_pos m with h0 | h0
 ·subst h0; rw [List.take_zero]; exact Rd.nil _ _
 ·unfold offBy
  rw [if_neg (by omega)]
  obtain ⟨b', off', e, _, _⟩ := h (by intro e; have := congrArg List.length e; simp at this; subst this; simp at hk; omega)
  subst e
  show Rd w (some ((⟨b', off', none⟩ : Addr).add k)) _
  rw [add_plain]
  exact h.part k m
end Go.Proofs.YtcomeidcmcegfaaGreatDoor
