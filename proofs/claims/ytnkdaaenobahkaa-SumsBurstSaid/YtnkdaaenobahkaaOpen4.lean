/-
  How an argument of type [4]byte is opened. Conditions: none.
-/
import Derived.Test.YtnkdaaenobahkaaOpen
import Derived.Lib.SmallJoins
namespace Go.Proofs.Ytnkdaaenobahkaa
open Go.RowKit Go.ChangeShapes Go.WideShapes
set_option linter.unusedVariables false
section
variable {H : Type} {enc : TypeId × Value → H} {P : Program} {W : World} {base : Nat} {r : Reach} {b0 : Nat} {t e : TypeId} {v : Value} {d : DataW H} {p : List MemPlace}

theorem byte_of {v : Value} {n : Int} (h : v = .int .u8 n) (w : (Lit.int .u8 n).wf = true) : ∃ c : UInt8, v = .int .u8 c.toNat := by
  have := bounds_u8 w
  exact ⟨UInt8.ofNat n.toNat, by rw [h, UInt8.toNat_ofNat', show ((n.toNat % 256 : Nat) : Int) = n by omega]⟩

theorem arg_arr4 (ht : P.underlying t = some (.array 4 e)) (he : P.underlying e = some (.int .u8)) (hc : P.cellsOf e = 1) (hC : P.cellsOf t = 4)
    (hv : Value.okWide P W r b0 t v) (h : DataW.Trod enc P W base (fun _ => true) true t v d p) :
    ∃ x0 x1 x2 x3 : UInt8, v = .agg #[.int .u8 x0.toNat, .int .u8 x1.toNat, .int .u8 x2.toNat, .int .u8 x3.toNat] := by
  simp only [Value.okWide, ht] at hv
  obtain ⟨cs, rfl, hcs, _⟩ := hv
  obtain ⟨c0, c1, c2, c3, rfl⟩ := Joins.array4 (hcs.trans hC)
  obtain ⟨fuel, hf⟩ := h
  obtain ⟨xs, m, _, _, _, hl, hi⟩ := DataW.trod_array ht hf
  have each : ∀ i (hi4 : i < 4), ∃ c : UInt8, #[c0, c1, c2, c3].toList[i]? = some (.int .u8 c.toNat) := by
    intro i hi4
    have h1 := hi i hi4
    rw [hc, List.getElem?_eq_getElem (by omega)] at h1
    obtain ⟨n, hn, _, wn⟩ := DataW.trod_int he h1
    obtain ⟨c, hc⟩ := byte_of rfl wn
    refine ⟨c, ?_⟩
    rw [← hc]
    rcases i with _ | _ | _ | _ | i
    · simpa [Value.cells] using hn
    · simpa [Value.cells] using hn
    · simpa [Value.cells] using hn
    · simpa [Value.cells] using hn
    · omega
  obtain ⟨x0, e0⟩ := each 0 (by omega)
  obtain ⟨x1, e1⟩ := each 1 (by omega)
  obtain ⟨x2, e2⟩ := each 2 (by omega)
  obtain ⟨x3, e3⟩ := each 3 (by omega)
  simp at e0 e1 e2 e3
  exact ⟨x0, x1, x2, x3, by rw [e0, e1, e2, e3]⟩
end
end Go.Proofs.Ytnkdaaenobahkaa
