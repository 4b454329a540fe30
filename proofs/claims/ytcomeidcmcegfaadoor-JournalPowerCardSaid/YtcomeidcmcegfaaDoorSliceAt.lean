/-
  'b[lo:hi]' and 'b[lo:hi:hi]' of bytes. Conditions: none.
-/
import Derived.Test.YtcomeidcmcegfaaDoorSliceTo
namespace Go.Proofs.YtcomeidcmcegfaaDoor
open Go.RowKit
set_option linter.unusedVariables false
def offBy (A : Option Addr) (c k : Nat) : Option Addr := if c = k then A else A.map (·.add k)
theorem Rd.off {w : World} {A : Option Addr} {c : Nat} {b : List UInt8} (h : Rd w A (b.map U8)) (hc : b.length ≤ c) (k m : Nat) (hk : k + m ≤ b.length) : Rd w (offBy A c k) (((b.drop k).take m).map U8) := by
 unfold offBy
 by_cases hck : c = k
 ·obtain rfl : m = 0 := by omega
  rw [List.take_zero]; exact Rd.nil _ _
 ·rw [if_neg hck]
  rcases Nat.eq_zero_or_pos m with h0 | h0
  ·subst h0; rw [List.take_zero]; exact Rd.nil _ _
  ·obtain ⟨b', off', e, _, _⟩ := h (by intro e; have := congrArg List.length e; simp at this; subst this; simp at hk; omega)
   subst e
   show Rd w (some ((⟨b', off', none⟩ : Addr).add k)) _
   rw [add_plain]
   exact h.part k m
theorem slice_at (A : Option Addr) (c n : Nat) (hc : n ≤ c) (lo hi : Int) (k m : Nat) (e1 : lo = (k : Int)) (e2 : hi = (k : Int) + (m : Int)) (hk : k + m ≤ n) (w' : World) :
 (Instr.slice 25 (.slice A n c) (some (.int .i64 lo)) (some (.int .i64 hi)) none).run Tryd.prog w' = .ok (.slice (offBy A c k) m (c - k)) w' := by
 subst e1 e2
 have hel : Tryd.prog.elem 25 = 5 := by kernel_rfl
 have h1 := run_slice_lh (P := Tryd.prog) (w := w') 25 A n c (by rw [hel]; exact Tryd.underlying25) .i64 .i64 (k : Int) ((k : Int) + (m : Int)) (by omega) (by omega) (by omega)
 have hsz : (sizeOf (Tryd.prog.elem 25)).run Tryd.prog w' = .ok 1 w' := by
  rw [hel]
  obtain ⟨i0, hi0, hz0, hz1, hz2⟩ := info_parts info_u8
  simp [sizeOf, typeInfo, hi0, hz1]
 rw [hsz] at h1
 simp only [Result.andThen_ok, sliced, Int.toNat_natCast, Nat.mul_one] at h1
 rw [show ((k : Int) + (m : Int)).toNat - k = m by omega] at h1
 exact h1
theorem slice_at3 (A : Option Addr) (c n : Nat) (hc : n ≤ c) (lo hi : Int) (k m : Nat) (e1 : lo = (k : Int)) (e2 : hi = (k : Int) + (m : Int)) (hk : k + m ≤ n) (w' : World) :
 (Instr.slice 25 (.slice A n c) (some (.int .i64 lo)) (some (.int .i64 hi)) (some (.int .i64 hi))).run Tryd.prog w' = .ok (.slice (offBy A (k + m) k) m m) w' := by
 subst e1 e2
 have hel : Tryd.prog.elem 25 = 5 := by kernel_rfl
 have h1 := run_slice_lhm (P := Tryd.prog) (w := w') 25 A n c (by rw [hel]; exact Tryd.underlying25) .i64 .i64 .i64 (k : Int) ((k : Int) + (m : Int)) ((k : Int) + (m : Int)) (by omega) (by omega) (by omega) (by omega)
 have hsz : (sizeOf (Tryd.prog.elem 25)).run Tryd.prog w' = .ok 1 w' := by
  rw [hel]
  obtain ⟨i0, hi0, hz0, hz1, hz2⟩ := info_parts info_u8
  simp [sizeOf, typeInfo, hi0, hz1]
 rw [hsz] at h1
 simp only [Result.andThen_ok, sliced, Int.toNat_natCast, Nat.mul_one] at h1
 rw [show ((k : Int) + (m : Int)).toNat - k = m by omega, show ((k : Int) + (m : Int)).toNat = k + m by omega] at h1
 exact h1
theorem Rd.off3 {w : World} {A : Option Addr} {b : List UInt8} (h : Rd w A (b.map U8)) (k m : Nat) (hk : k + m ≤ b.length) : Rd w (offBy A (k + m) k) (((b.drop k).take m).map U8) := by
 rcases Nat.eq_zero_or_pos m with h0 | h0
 ·subst h0; rw [List.take_zero]; exact Rd.nil _ _
 ·unfold offBy
  rw [if_neg (by omega)]
  obtain ⟨b', off', e, _, _⟩ := h (by intro e; have := congrArg List.length e; simp at this; subst this; simp at hk; omega)
  subst e
  show Rd w (some ((⟨b', off', none⟩ : Addr).add k)) _
  rw [add_plain]
  exact h.part k m
end Go.Proofs.YtcomeidcmcegfaaDoor
