/-
  What From of layer 49 computes, step by step. Conditions: none; no program in sight.
-/
import Derived.Test.YtfjiikcbcoohdaaDoorOpsRead
namespace Go.Proofs.YtfjiikcbcoohdaaDoor
open Go.RowKit
set_option linter.unusedVariables false

/-- k numbers from the beginning on -/
def nR (l : List UInt8) : Nat → List Int × (Int × Int)
  | 0 => ([], (0, 0))
  | k + 1 => ((nR l k).1 ++ [rN l (nR l k).2], rQ l (nR l k).2)
theorem nR_len (l : List UInt8) (k : Nat) : (nR l k).1.length = k := by
  induction k with
  | zero => rfl
  | succ k ih => simp [nR, ih]
theorem nR_ok (l : List UInt8) (k : Nat) : Qok l (nR l k).2 := by
  induction k with
  | zero => exact ⟨by show (0 : Int) ≤ 0; omega, by show (0 : Int) ≤ _; omega⟩
  | succ k ih => exact ih.rQ
theorem nR_bd (l : List UInt8) (k : Nat) : ∀ x ∈ (nR l k).1, I64b x := by
  induction k with
  | zero => simp [nR]
  | succ k ih =>
    intro x hx
    rw [nR] at hx
    rcases List.mem_append.1 hx with h | h
    · exact ih x h
    · rw [List.mem_singleton.1 h]; exact rN_bd _ _
/-- the stamps, as long as there is no error -/
def sGo (l : List UInt8) : Nat → Int × Int → List (Int × Int) × (Int × Int)
  | 0, q => ([], q)
  | k + 1, q => if q.2 = 0 then ((rN l q, rN l (rQ l q)) :: (sGo l k (rQ l (rQ l q))).1, (sGo l k (rQ l (rQ l q))).2) else ([], q)
theorem sGo_stop {l : List UInt8} {k : Nat} {q : Int × Int} (h : q.2 ≠ 0) : sGo l k q = ([], q) := by
  cases k with
  | zero => rfl
  | succ k => rw [sGo, if_neg h]
/-- an operation of the numbers in l, the rest is empty -/
def opOf (v : List Int) : OP := ⟨v.getD 0 0, v.getD 1 0, v.getD 2 0, v.getD 3 0, v.getD 4 0, v.getD 5 0, v.getD 6 0, v.getD 7 0, v.getD 8 0, v.getD 9 0, [], 0, 0, [], []⟩
def fQ0 (l : List UInt8) : Int × Int := (nR l 10).2
def fQ1 (l : List UInt8) : Int × Int := tQ l (fQ0 l)
def fQ2 (l : List UInt8) : Int × Int := rQ l (fQ1 l)
def fQ3 (l : List UInt8) : Int × Int := rQ l (fQ2 l)
def fQ4 (l : List UInt8) : Int × Int := tQ l (fQ3 l)
def fQ5 (l : List UInt8) : Int × Int := rQ l (fQ4 l)
def fN (l : List UInt8) : Int := rN l (fQ4 l)
def fQ6 (l : List UInt8) : Int × Int := if (fQ5 l).2 = 0 ∧ (fN l < 0 ∨ 16 < fN l) then ((fQ5 l).1, 3) else fQ5 l
def fS (l : List UInt8) : List (Int × Int) × (Int × Int) := sGo l (fN l).toNat (fQ6 l)
def fQ8 (l : List UInt8) : Int × Int := if (fS l).2.2 = 0 ∧ (fS l).2.1 < l.length then ((fS l).2.1, 3) else (fS l).2
def fO (l : List UInt8) : OP := { opOf (nR l 10).1 with nt := tN l (fQ0 l), se := rN l (fQ1 l), nn := rN l (fQ2 l), tx := tN l (fQ3 l), ov := (fS l).1 }
def fE (l : List UInt8) : Int := orE (fQ8 l).2 (checkE (fO l))
/-- the operation that From returns -/
def fR (l : List UInt8) : OP := if fE l = 0 then fO l else OP.zero
end Go.Proofs.YtfjiikcbcoohdaaDoor
