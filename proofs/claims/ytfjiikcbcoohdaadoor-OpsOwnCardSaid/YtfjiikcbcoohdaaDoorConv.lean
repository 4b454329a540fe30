/-
  '[]byte(s)' of a string that is no constant: it makes new memory that reads as the string's bytes. Conditions: none.
-/
import Derived.Test.YtfjiikcbcoohdaaDoorSeat8
import Derived.Test.YtfjiikcbcoohdaaDoorGrow
import Derived.Lib.ConvBytes
namespace Go.Proofs.YtfjiikcbcoohdaaDoor
open Go.RowKit
set_option linter.unusedVariables false

theorem conv_str (w : World) (s : List UInt8) : ∃ c w', (convert 9 35 (.string ⟨s.toArray⟩)).run Tryd.prog w = .ok (.slice (some ⟨w.heap.size, 0, none⟩) s.length c) w' ∧
    Rd w' (some ⟨w.heap.size, 0, none⟩) (s.map U8) ∧ Below w.heap.size w w' ∧ w.grownBy w' none := by
  have h := Lib.run_convert_string_bytes (P := Tryd.prog) w 9 35 5 ⟨s.toArray⟩ Tryd.underlying9 Tryd.underlying35 Tryd.underlying5
  have hsz : (ByteArray.mk s.toArray).size = s.length := by simp [ByteArray.size]
  refine ⟨_, _, by rw [h, hsz], ?_, ?_, ?_⟩
  · intro _
    refine ⟨w.heap.size, 0, rfl, by rw [Lib.bytesWorld_size]; omega, fun j u hu => ?_⟩
    have hj : j < s.length := by have := (List.getElem?_eq_some_iff.1 hu).1; simpa using this
    rw [Nat.zero_add, Lib.bytesWorld_cell _ _ _ _ (by rw [hsz]; exact hj)]
    rw [← hu]
    simp [List.getD, hj, U8]
  · exact ⟨rfl, rfl, rfl, by rw [Lib.bytesWorld_size]; omega, fun k hk => Lib.bytesWorld_at_old w _ _ k hk⟩
  · exact ⟨rfl, rfl, rfl, by rw [Lib.bytesWorld_size]; omega, fun k hk _ => Lib.bytesWorld_at_old w _ _ k hk⟩
/-- a new row keeps a slice that grows -/
theorem Gr.kept {base : Nat} {v v' : Value} {w w' w'' : World} (h : Gr base v w v' w') (hb : base ≤ w'.heap.size) (hg : w'.grownBy w'' none) : Gr base v w v' w'' :=
  h.trans ⟨⟨hg.os, hg.tape, hg.output, hg.size, fun k hk _ => hg.block k hk (by simp)⟩, fun _ h => .inl h, (Below.refl _ _).grown hg hb (by simp)⟩
end Go.Proofs.YtfjiikcbcoohdaaDoor
