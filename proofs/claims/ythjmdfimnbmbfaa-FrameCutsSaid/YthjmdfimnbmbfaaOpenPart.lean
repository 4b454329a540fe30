/-
  How a slice of parts (an int and bytes) is opened. Conditions: none.
-/
import Derived.Test.YthjmdfimnbmbfaaFrameCuts
namespace Go.Proofs.Ythjmdfimnbmbfaa
open Go.RowKit Go.ChangeShapes Go.WideShapes
set_option linter.unusedVariables false
section
variable {H : Type} {enc : TypeId × Value → H} {P : Program} {W : World} {base : Nat} {r : Reach} {b0 : Nat} {t e s u : TypeId} {v : Value} {d : DataW H} {p : List MemPlace}
theorem arg_parts {f0 f1 : Field} (ht : P.underlying t = some (.slice s)) (hs : P.underlying s = some (.struct #[f0, f1])) (hC : P.cellsOf s = 2) (o0 : f0.offset = 0) (o1 : f1.offset = 1) (c0 : P.cellsOf f0.type = 1) (c1 : P.cellsOf f1.type = 1)
    (h0 : P.underlying f0.type = some (.int .i64)) (h1 : P.underlying f1.type = some (.slice e)) (he : P.underlying e = some (.int .u8)) (hc : P.cellsOf e = 1)
    (hv : Value.okWide P W r b0 t v) (h : DataW.Trod enc P W base (fun _ => true) true t v d p) :
    ∃ (A : Option Addr) (l : List PT) (c : Nat), v = .slice A l.length c ∧ Rd W A (l.flatMap PTv) ∧ l.length ≤ maxLen ∧ (∀ p ∈ l, p.Ok W) ∧ l.length ≤ c := by
  obtain ⟨a0, len, cap, rfl⟩ := okWide_slice ht hv
  obtain ⟨fuel, hf⟩ := h
  refine fld_list PTv (PT.Ok W) ht hC (by omega) PTv_len (fun m cs y hy => ?_) hf
  have hl := len_of hs hy
  obtain ⟨m0, y0, g0⟩ := fld_at hs hy 0 (f := f0) rfl
  obtain ⟨m1, y1, g1⟩ := fld_at hs hy 1 (f := f1) rfl
  rw [hC] at hl
  obtain ⟨x0, x1, rfl⟩ : ∃ x0 x1, cs = [x0, x1] := by
    rcases cs with _ | ⟨x0, _ | ⟨x1, _ | ⟨x2, cs⟩⟩⟩ <;> simp at hl
    exact ⟨x0, x1, rfl⟩
  rw [o0, c0] at g0
  rw [o1, c1] at g1
  obtain ⟨n, rfl, bn⟩ := fld_i64 h0 g0
  obtain ⟨B, l, c, rfl, q1, q2, q3⟩ := fld_bytes h1 he hc g1
  exact ⟨⟨n, B, l, c⟩, rfl, bn, q1, q2, q3⟩
end
end Go.Proofs.Ythjmdfimnbmbfaa
