/-
  'b[:h]' of bytes. Conditions: none.
-/
import Derived.Test.YtcomeidcmcegfaaDoorZD
import Derived.Test.YtcomeidcmcegfaaDoorHeld2
namespace Go.Proofs.YtcomeidcmcegfaaDoor
open Go.RowKit
set_option linter.unusedVariables false
theorem addr_add0 (a : Addr) : a.add 0 = a := by
 obtain ⟨b, o, s⟩ := a
 unfold Addr.add; split <;> simp_all
theorem slice_to (A : Option Addr) (c n : Nat) (hc : n ≤ c) (h : Int) (k : Nat) (e : h = (k : Int)) (hk : k ≤ n) (w' : World) :
 (Instr.slice 25 (.slice A n c) none (some (.int .i64 h)) none).run Tryd.prog w' = .ok (.slice A k c) w' := by
 subst e
 have hel : Tryd.prog.elem 25 = 5 := by kernel_rfl
 have h1 := run_slice_h (P := Tryd.prog) (w := w') 25 A n c (by rw [hel]; exact Tryd.underlying25) .i64 (k : Int) (by omega) (by omega)
 have hsz : (sizeOf (Tryd.prog.elem 25)).run Tryd.prog w' = .ok 1 w' := by
  rw [hel]
  obtain ⟨i0, hi0, hz0, hz1, hz2⟩ := info_parts info_u8
  simp [sizeOf, typeInfo, hi0, hz1]
 rw [hsz] at h1
 simp only [Result.andThen_ok, sliced, Int.toNat_natCast, Nat.zero_mul, Nat.sub_zero] at h1
 rw [h1]
 by_cases h0 : c = 0
 ·rw [if_pos h0]
 ·rw [if_neg h0]
  rcases A with _ | a
  ·rfl
  ·show Result.ok (Value.slice (some (a.add 0)) k c) w' = _
   rw [addr_add0]
theorem Rd.take {w : World} {A : Option Addr} {l : List Value} (h : Rd w A l) (k : Nat) : Rd w A (l.take k) := by
 intro hne
 obtain ⟨b, off, e, hb, hc⟩ := h (by intro e; subst e; simp at hne)
 refine ⟨b, off, e, hb, fun j u hu => hc j u ?_⟩
 have hj : j < k := by have := (List.getElem?_eq_some_iff.1 hu).1; simp at this; omega
 rw [← hu, List.getElem?_take, if_pos hj]
theorem Rd.take8 {w : World} {A : Option Addr} {l : List UInt8} (h : Rd w A (l.map U8)) (k : Nat) : Rd w A ((l.take k).map U8) := by
 rw [List.map_take]; exact h.take k
end Go.Proofs.YtcomeidcmcegfaaDoor
