/-
  An argument of the type uint32, opened. Conditions: none; a plain lemma over any program.
-/
import Derived.Test.YthjmdfimnbmbfaaOpenF
namespace Go.Proofs.Ythjmdfimnbmbfaa
open Go.RowKit Go.ChangeShapes Go.WideShapes
set_option linter.unusedVariables false
variable {H : Type} {enc : TypeId × Value → H} {P : Program} {W : World} {base : Nat} {r : Reach} {b0 : Nat} {t e : TypeId} {v : Value} {d : DataW H} {p : List MemPlace}

theorem arg_u32 (ht : P.underlying t = some (.int .u32)) (hv : Value.okWide P W r b0 t v) (h : DataW.Trod enc P W base (fun _ => true) true t v d p) :
    ∃ n : Nat, v = .int .u32 (n : Int) ∧ n < 4294967296 := by
  obtain ⟨n, rfl, w⟩ := arg_int ht hv h
  have := bounds_u32 w
  exact ⟨n.toNat, by rw [show ((n.toNat : Nat) : Int) = n by omega], by omega⟩
end Go.Proofs.Ythjmdfimnbmbfaa
