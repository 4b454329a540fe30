/-
  A region that draws its order, walked by hand: the condition on the world may be made stronger on the way; what a later world keeps. Conditions: those of the library's own moves.
-/
import Derived.Test.YtcomeidcmcegfaaGreatDoorHeld
import Derived.Test.YtcomeidcmcegfaaGreatDoorBase
namespace Go.Proofs.YtcomeidcmcegfaaGreatDoor
open Go.RowKit
set_option linter.unusedVariables false
section
variable {P : Program} {ops : Array Oper} {Q : Exit → Act → World → Prop} {md : Region.Mode} {S S' : World → Prop}
theorem wpAnyH_more (hss : ∀ w, S' w → S w) : ∀ (fuel : Nat) (listed : Array Bool) (a : Act) (w : World), wpAnyH P md ops Q S' fuel listed a w → wpAnyH P md ops Q S fuel listed a w
 | 0, _, _, _, h => h
 | fuel + 1, _, _, _, h => ⟨h.1, fun i hi => wpOp_mono (fun a' w' h' => ⟨hss _ h'.1, wpAnyH_more hss fuel _ a' w' h'.2⟩) (h.2 i hi)⟩
end
structure Up (W w' : World) : Prop where
 b : Below W.heap.size W w'
theorem Up.refl (W : World) : Up W W := ⟨Below.refl _ _⟩
theorem Up.drew (W : World) : Up W W.drew := ⟨(Below.refl _ _).drew⟩
theorem Up.trans {W W' W'' : World} (h : Up W W') (k : Up W' W'') : Up W W'' := ⟨h.b.trans (k.b.mono h.b.size)⟩
theorem Up.of {W W' : World} (h : Below W.heap.size W W') : Up W W' := ⟨h⟩
theorem Up.cell {W w' : World} {p : Addr} {u : Value} (h : Up W w') (hc : W.cell? p = some u) : w'.cell? p = some u := by
 have hp : p.block < W.heap.size := by
  rcases Nat.lt_or_ge p.block W.heap.size with hlt | hge
  ·exact hlt
  ·simp [World.cell?, Array.getElem?_eq_none hge] at hc
 rw [h.b.cell hp]; exact hc
theorem Up.rd {W w' : World} {A : Option Addr} {l : List Value} (h : Up W w') (hr : Rd W A l) : Rd w' A l := hr.below h.b
end Go.Proofs.YtcomeidcmcegfaaGreatDoor
