/-
  The walks of Read and Trim of the reference of layer 53, and of Trim. Conditions: fewer than a thousand million bytes; for Trim utf8's tables lie as their initialisers lay them.
  The walks of Trim of layer 53 and of the reference. Conditions: fewer than a thousand million bytes; for the code utf8's tables lie as their initialisers lay them.
-/
import Derived.Test.YtcomeidcmcegfaaDoorZM
import Derived.Test.YtcomeidcmcegfaaDoorZR
import Derived.Test.YtcomeidcmcegfaaDoorSliceTo
namespace Go.Proofs.YtcomeidcmcegfaaDoor
open Go.RowKit Go.Shelf
set_option linter.unusedVariables false
set_option linter.unusedSimpArgs false
attribute [local go_sem] Oper.semAt_some
theorem RdS.kept {n0 : Nat} {w w' : World} {row : Option Nat} {A : Option Addr} {l : List Value} (h : RdS w A l) (hg : w.grownBy w' row) (hn : ∀ g, row = some g → ∃ cs fr, w.heap[g]? = some (.cells cs 38 fr)) : RdS w' A l := by
 intro hl
 obtain ⟨g, cs, e, hb, hc⟩ := h hl
 refine ⟨g, cs, e, ?_, hc⟩
 rw [hg.block g (Array.getElem?_eq_some_iff.1 hb).1 ?_]
 ·exact hb
 ·intro e'
  obtain ⟨cs', fr, h'⟩ := hn g e'.symm
  rw [hb] at h'
  injection h' with h'
  injection h' with _ h' _
  exact absurd h' (by decide)
end Go.Proofs.YtcomeidcmcegfaaDoor
namespace Go.Proofs.YtcomeidcmcegfaaDoor
open Go.RowKit
set_option linter.unusedVariables false
set_option linter.unusedSimpArgs false
theorem jrF_le (b : List UInt8) : ∀ (f : Nat) (q : Int), 0 ≤ q → q ≤ b.length → 0 ≤ (jrF b f q).2 ∧ (jrF b f q).2 ≤ b.length := by
 intro f
 induction f with
 | zero => intro q h0 h1; exact ⟨h0, h1⟩
 | succ f ih =>
  intro q h0 h1
  rw [jrF]
  split
  ·rename_i h
   have := jrB_next h
   exact ih (frT b q) (by omega) (by omega)
  ·exact ⟨h0, h1⟩
theorem jr_le (b : List UInt8) : 0 ≤ (jr b).2 ∧ (jr b).2 ≤ b.length := jrF_le b _ 0 (Int.le_refl _) (by omega)
def trimN (b : List UInt8) : Nat := (jr b).2.toNat
theorem trimN_eq (b : List UInt8) : (jr b).2 = (trimN b : Int) := by have := jr_le b; unfold trimN; omega
theorem trimN_le (b : List UInt8) : trimN b ≤ b.length := by have := jr_le b; unfold trimN; omega
theorem slice_to3 (A : Option Addr) (c n : Nat) (hc : n ≤ c) (h : Int) (k : Nat) (e : h = (k : Int)) (hk : k ≤ n) (w' : World) :
 (Instr.slice 25 (.slice A n c) none (some (.int .i64 h)) (some (.int .i64 h))).run Tryd.prog w' = .ok (.slice A k k) w' := by
 subst e
 have hel : Tryd.prog.elem 25 = 5 := by kernel_rfl
 have h1 := run_slice_hm (P := Tryd.prog) (w := w') 25 A n c (by rw [hel]; exact Tryd.underlying25) .i64 .i64 (k : Int) (k : Int) (by omega) (by omega) (by omega)
 have hsz : (sizeOf (Tryd.prog.elem 25)).run Tryd.prog w' = .ok 1 w' := by
  rw [hel]
  obtain ⟨i0, hi0, hz0, hz1, hz2⟩ := info_parts info_u8
  simp [sizeOf, typeInfo, hi0, hz1]
 rw [hsz] at h1
 simp only [Result.andThen_ok, sliced, Int.toNat_natCast, Nat.zero_mul, Nat.sub_zero] at h1
 rw [h1]
 by_cases h0 : k = 0
 ·rw [if_pos h0]
 ·rw [if_neg h0]
  rcases A with _ | a
  ·rfl
  ·show Result.ok (Value.slice (some (a.add 0)) k k) w' = _
   rw [addr_add0]
def RetTrim (A : Option Addr) (b : List UInt8) (w : World) (e : Ending) (w' : World) : Prop := ∃ c, e = .returned (.slice A (trimN b) c) ∧ trimN b ≤ c ∧ Below w.heap.size w w'
set_option maxHeartbeats 2000000 in
theorem trim_any (w : World) (A : Option Addr) (c : Nat) (b : List UInt8) (hr : Rd w A (b.map U8)) (hl : b.length ≤ 1000000000) (hlc : b.length ≤ c) (hT : Tabs w) : Calls Tryd.prog 22 #[.slice A b.length c] w (RetTrim A b w) := by
 have k := read_any w A c b hr hl hlc hT
 have sl := slice_to3 A c b.length hlc (trimN b : Int) (trimN b) rfl (trimN_le b)
 unfold RetJr at k
 rw [trimN_eq b] at k
 unfold RetTrim
 generalize trimN b = n at *
 go_enter Tryd.func22, Tryd.ntmps22
 go_wp2_with fail
 refine k.mono ?_
 rintro e w1 ⟨xs, A1, c1, rfl, -, -, -, hb⟩
 clear k
 go_wp2_with fail
 go_ret
 exact ⟨n, rfl, Nat.le_refl _, hb⟩
end Go.Proofs.YtcomeidcmcegfaaDoor
