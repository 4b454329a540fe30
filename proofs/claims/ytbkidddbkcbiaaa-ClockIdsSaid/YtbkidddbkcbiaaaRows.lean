/-
  No cell of these rows narrows 'for every input' (looked for: loops, veiled, ifaces, maps, wideKeys, modest, calm, conditions, laid).
  DERIVED. THE GIVEN ROWS OF THIS SEAT. 8 by the template 'for every input the law returns true; each argument reads behind the call as it read before'; 0 by the template 'total and deterministic' (their statements: YtbkidddbkcbiaaaTotals.lean).
  GIVEN WITH THE SEED: the statements are not yours to turn. If you find one false, say at which input.
  Laid BY PROGRAM, IN A SANDBOX (cutbox-rows.mjs): the forced cells as the released guide's own fill.sh prints them over the translation 139c8f43ced5f090… (all of the seat's roots in one cut). By AI agents, Wed Nov 11 2026. No macro, syntax, notation, axiom, sorry.
-/
import Derived.Test.YtbkidddbkcbiaaaChecked
import GoSem.Claim
import GoSem.ClaimJoined
import GoSem.ClaimMapViews
import Derived.JoinedTies
import Derived.KernelRfl
namespace Go.Proofs.Ytbkidddbkcbiaaa
/- THE CELL 'sum', in the pinned program and in every row, IS THE sha256 OF THE DUMP (.gsa) THAT YtbkidddbkcbiaaaProg.lean LOADS. Nothing in Lean hashes anything: it is a label: what it is worth is what the hold of that sum in a sandbox is worth. -/
noncomputable def Try.pinned : Pinned := { name := "ytbkidddbkcbiaaa", sum := "139c8f43ced5f0901cefb535dda0f21b63005720dc4056db813cbc9d0e471f7c", checked := Try.checked }
namespace Rows
def none {H : Type} : Left H := { results := [], args := [] }

/-- 'langdoclaw07.ClockNext': WHATEVER THE INPUT: true; the input reads as it did. -/
def clockNextSpec : ChangeSpec := { name := "clockNext", fn := fun _ => fun
  | [d1, d2] => { results := [.lit (.bool true)], args := [d1, d2] }
  | _ => none }
def clockNextRow : OpenClaim := { program := "ytbkidddbkcbiaaa", sum := "139c8f43ced5f0901cefb535dda0f21b63005720dc4056db813cbc9d0e471f7c", func := "langdoc/langdoclaw07.ClockNext", spec := "clockNext", apart := false }
def ClockNextSaid : Prop := clockNextRow.holds Try.pinned (OpenSpec.ofChange clockNextSpec)

/-- ITS FALSE NEIGHBOUR: 'it returns false'. Refute it at one input. -/
def clockNextWrong : ChangeSpec := { name := "clockNext", fn := fun _ => fun
  | [d1, d2] => { results := [.lit (.bool false)], args := [d1, d2] }
  | _ => none }
def ClockNextWrongFalsely : Prop := clockNextRow.holds Try.pinned (OpenSpec.ofChange clockNextWrong)

/-- 'langdoclaw07.ClockLeast': WHATEVER THE INPUT: true; the input reads as it did. -/
def clockLeastSpec : ChangeSpec := { name := "clockLeast", fn := fun _ => fun
  | [d1, d2, d3] => { results := [.lit (.bool true)], args := [d1, d2, d3] }
  | _ => none }
def clockLeastRow : OpenClaim := { program := "ytbkidddbkcbiaaa", sum := "139c8f43ced5f0901cefb535dda0f21b63005720dc4056db813cbc9d0e471f7c", func := "langdoc/langdoclaw07.ClockLeast", spec := "clockLeast", apart := false }
def ClockLeastSaid : Prop := clockLeastRow.holds Try.pinned (OpenSpec.ofChange clockLeastSpec)

/-- ITS FALSE NEIGHBOUR: 'it returns false'. Refute it at one input. -/
def clockLeastWrong : ChangeSpec := { name := "clockLeast", fn := fun _ => fun
  | [d1, d2, d3] => { results := [.lit (.bool false)], args := [d1, d2, d3] }
  | _ => none }
def ClockLeastWrongFalsely : Prop := clockLeastRow.holds Try.pinned (OpenSpec.ofChange clockLeastWrong)

/-- 'langdoclaw07.ClockVectors': WHATEVER THE INPUT: true; the input reads as it did. -/
def clockVectorsSpec : ChangeSpec := { name := "clockVectors", fn := fun _ => fun
  | [d1, d2, d3] => { results := [.lit (.bool true)], args := [d1, d2, d3] }
  | _ => none }
def clockVectorsRow : OpenClaim := { program := "ytbkidddbkcbiaaa", sum := "139c8f43ced5f0901cefb535dda0f21b63005720dc4056db813cbc9d0e471f7c", func := "langdoc/langdoclaw07.ClockVectors", spec := "clockVectors", apart := false }
def ClockVectorsSaid : Prop := clockVectorsRow.holds Try.pinned (OpenSpec.ofChange clockVectorsSpec)

/-- ITS FALSE NEIGHBOUR: 'it returns false'. Refute it at one input. -/
def clockVectorsWrong : ChangeSpec := { name := "clockVectors", fn := fun _ => fun
  | [d1, d2, d3] => { results := [.lit (.bool false)], args := [d1, d2, d3] }
  | _ => none }
def ClockVectorsWrongFalsely : Prop := clockVectorsRow.holds Try.pinned (OpenSpec.ofChange clockVectorsWrong)

/-- 'langdoclaw07.ClockSees': WHATEVER THE INPUT: true; the input reads as it did. -/
def clockSeesSpec : ChangeSpec := { name := "clockSees", fn := fun _ => fun
  | [d1, d2, d3] => { results := [.lit (.bool true)], args := [d1, d2, d3] }
  | _ => none }
def clockSeesRow : OpenClaim := { program := "ytbkidddbkcbiaaa", sum := "139c8f43ced5f0901cefb535dda0f21b63005720dc4056db813cbc9d0e471f7c", func := "langdoc/langdoclaw07.ClockSees", spec := "clockSees", apart := false }
def ClockSeesSaid : Prop := clockSeesRow.holds Try.pinned (OpenSpec.ofChange clockSeesSpec)

/-- ITS FALSE NEIGHBOUR: 'it returns false'. Refute it at one input. -/
def clockSeesWrong : ChangeSpec := { name := "clockSees", fn := fun _ => fun
  | [d1, d2, d3] => { results := [.lit (.bool false)], args := [d1, d2, d3] }
  | _ => none }
def ClockSeesWrongFalsely : Prop := clockSeesRow.holds Try.pinned (OpenSpec.ofChange clockSeesWrong)

/-- 'langdoclaw07.ClockStamps': WHATEVER THE INPUT: true; the input reads as it did. -/
def clockStampsSpec : ChangeSpec := { name := "clockStamps", fn := fun _ => fun
  | [d1, d2, d3] => { results := [.lit (.bool true)], args := [d1, d2, d3] }
  | _ => none }
def clockStampsRow : OpenClaim := { program := "ytbkidddbkcbiaaa", sum := "139c8f43ced5f0901cefb535dda0f21b63005720dc4056db813cbc9d0e471f7c", func := "langdoc/langdoclaw07.ClockStamps", spec := "clockStamps", apart := false }
def ClockStampsSaid : Prop := clockStampsRow.holds Try.pinned (OpenSpec.ofChange clockStampsSpec)

/-- ITS FALSE NEIGHBOUR: 'it returns false'. Refute it at one input. -/
def clockStampsWrong : ChangeSpec := { name := "clockStamps", fn := fun _ => fun
  | [d1, d2, d3] => { results := [.lit (.bool false)], args := [d1, d2, d3] }
  | _ => none }
def ClockStampsWrongFalsely : Prop := clockStampsRow.holds Try.pinned (OpenSpec.ofChange clockStampsWrong)

/-- 'langdoclaw07.ClockIds': WHATEVER THE INPUT: true; the input reads as it did. -/
def clockIdsSpec : ChangeSpec := { name := "clockIds", fn := fun _ => fun
  | [d1, d2, d3] => { results := [.lit (.bool true)], args := [d1, d2, d3] }
  | _ => none }
def clockIdsRow : OpenClaim := { program := "ytbkidddbkcbiaaa", sum := "139c8f43ced5f0901cefb535dda0f21b63005720dc4056db813cbc9d0e471f7c", func := "langdoc/langdoclaw07.ClockIds", spec := "clockIds", apart := false }
def ClockIdsSaid : Prop := clockIdsRow.holds Try.pinned (OpenSpec.ofChange clockIdsSpec)

/-- ITS FALSE NEIGHBOUR: 'it returns false'. Refute it at one input. -/
def clockIdsWrong : ChangeSpec := { name := "clockIds", fn := fun _ => fun
  | [d1, d2, d3] => { results := [.lit (.bool false)], args := [d1, d2, d3] }
  | _ => none }
def ClockIdsWrongFalsely : Prop := clockIdsRow.holds Try.pinned (OpenSpec.ofChange clockIdsWrong)

/-- 'langdoclaw07.ClockTotal': WHATEVER THE INPUT: true; the input reads as it did. -/
def clockTotalSpec : ChangeSpec := { name := "clockTotal", fn := fun _ => fun
  | [d1, d2, d3] => { results := [.lit (.bool true)], args := [d1, d2, d3] }
  | _ => none }
def clockTotalRow : OpenClaim := { program := "ytbkidddbkcbiaaa", sum := "139c8f43ced5f0901cefb535dda0f21b63005720dc4056db813cbc9d0e471f7c", func := "langdoc/langdoclaw07.ClockTotal", spec := "clockTotal", apart := false }
def ClockTotalSaid : Prop := clockTotalRow.holds Try.pinned (OpenSpec.ofChange clockTotalSpec)

/-- ITS FALSE NEIGHBOUR: 'it returns false'. Refute it at one input. -/
def clockTotalWrong : ChangeSpec := { name := "clockTotal", fn := fun _ => fun
  | [d1, d2, d3] => { results := [.lit (.bool false)], args := [d1, d2, d3] }
  | _ => none }
def ClockTotalWrongFalsely : Prop := clockTotalRow.holds Try.pinned (OpenSpec.ofChange clockTotalWrong)

/-- 'langdoclaw07.ClockLater': WHATEVER THE INPUT: true; the input reads as it did. -/
def clockLaterSpec : ChangeSpec := { name := "clockLater", fn := fun _ => fun
  | [d1, d2, d3] => { results := [.lit (.bool true)], args := [d1, d2, d3] }
  | _ => none }
def clockLaterRow : OpenClaim := { program := "ytbkidddbkcbiaaa", sum := "139c8f43ced5f0901cefb535dda0f21b63005720dc4056db813cbc9d0e471f7c", func := "langdoc/langdoclaw07.ClockLater", spec := "clockLater", apart := false }
def ClockLaterSaid : Prop := clockLaterRow.holds Try.pinned (OpenSpec.ofChange clockLaterSpec)

/-- ITS FALSE NEIGHBOUR: 'it returns false'. Refute it at one input. -/
def clockLaterWrong : ChangeSpec := { name := "clockLater", fn := fun _ => fun
  | [d1, d2, d3] => { results := [.lit (.bool false)], args := [d1, d2, d3] }
  | _ => none }
def ClockLaterWrongFalsely : Prop := clockLaterRow.holds Try.pinned (OpenSpec.ofChange clockLaterWrong)

/- THE SECOND FORM. 'bulk': how many values and letters a reading holds, each counted each time it is reached (what is shared counts as often as it is met; a slice's spare places count too). A statement '..UptoSaid' is the law's where the arguments, and the package variables that the reading takes, are together of bulk at most 1048576: NARROWER than '..Said'. Prove '..Said' where nothing that the law and all that it calls make is longer than what came in: it says more and counts as full. Else prove '..UptoSaid'. A law counts once. -/
mutual
def uptoBulk {H : Type} : DataW H → Nat
  | .lit (.string bytes) => bytes.length + 1
  | .lit _ => 1
  | .nil => 1
  | .ptr d => uptoBulk d + 1
  | .slice elems spare => uptoBulkAll elems + uptoBulkAll spare + 1
  | .agg parts => uptoBulkAll parts + 1
  | .iface _ d => uptoBulk d + 1
  | .map entries => uptoBulkEntries entries + 1
  | .held _ => 1
def uptoBulkAll {H : Type} : List (DataW H) → Nat
  | [] => 0
  | d :: r => uptoBulk d + uptoBulkAll r
def uptoBulkEntries {H : Type} : List (Lit × DataW H) → Nat
  | [] => 0
  | x :: r => uptoBulkEntry x + uptoBulkEntries r
def uptoBulkEntry {H : Type} : Lit × DataW H → Nat
  | (.string bytes, d) => bytes.length + uptoBulk d + 1
  | (_, d) => uptoBulk d + 1
 end
def uptoSmall : (H : Type) → List (DataW H) → Bool := fun _ ds => decide (uptoBulkAll ds ≤ 1048576)
def OpenSpec.upto (s : _root_.Go.ChangeSpec) : _root_.Go.OpenSpec := { _root_.Go.OpenSpec.ofChange s with cond := some uptoSmall }

/-- 'langdoclaw07.ClockNext', WHERE WHAT IT READS IS OF BULK AT MOST 1048576: true; the input reads as it did. -/
def clockNextUptoRow : OpenClaim := { program := "ytbkidddbkcbiaaa", sum := "139c8f43ced5f0901cefb535dda0f21b63005720dc4056db813cbc9d0e471f7c", func := "langdoc/langdoclaw07.ClockNext", spec := "clockNext", apart := false, narrowed := true }
def ClockNextUptoSaid : Prop := clockNextUptoRow.holds Try.pinned (OpenSpec.upto clockNextSpec)

/-- 'langdoclaw07.ClockLeast', WHERE WHAT IT READS IS OF BULK AT MOST 1048576: true; the input reads as it did. -/
def clockLeastUptoRow : OpenClaim := { program := "ytbkidddbkcbiaaa", sum := "139c8f43ced5f0901cefb535dda0f21b63005720dc4056db813cbc9d0e471f7c", func := "langdoc/langdoclaw07.ClockLeast", spec := "clockLeast", apart := false, narrowed := true }
def ClockLeastUptoSaid : Prop := clockLeastUptoRow.holds Try.pinned (OpenSpec.upto clockLeastSpec)

/-- 'langdoclaw07.ClockVectors', WHERE WHAT IT READS IS OF BULK AT MOST 1048576: true; the input reads as it did. -/
def clockVectorsUptoRow : OpenClaim := { program := "ytbkidddbkcbiaaa", sum := "139c8f43ced5f0901cefb535dda0f21b63005720dc4056db813cbc9d0e471f7c", func := "langdoc/langdoclaw07.ClockVectors", spec := "clockVectors", apart := false, narrowed := true }
def ClockVectorsUptoSaid : Prop := clockVectorsUptoRow.holds Try.pinned (OpenSpec.upto clockVectorsSpec)

/-- 'langdoclaw07.ClockSees', WHERE WHAT IT READS IS OF BULK AT MOST 1048576: true; the input reads as it did. -/
def clockSeesUptoRow : OpenClaim := { program := "ytbkidddbkcbiaaa", sum := "139c8f43ced5f0901cefb535dda0f21b63005720dc4056db813cbc9d0e471f7c", func := "langdoc/langdoclaw07.ClockSees", spec := "clockSees", apart := false, narrowed := true }
def ClockSeesUptoSaid : Prop := clockSeesUptoRow.holds Try.pinned (OpenSpec.upto clockSeesSpec)

/-- 'langdoclaw07.ClockStamps', WHERE WHAT IT READS IS OF BULK AT MOST 1048576: true; the input reads as it did. -/
def clockStampsUptoRow : OpenClaim := { program := "ytbkidddbkcbiaaa", sum := "139c8f43ced5f0901cefb535dda0f21b63005720dc4056db813cbc9d0e471f7c", func := "langdoc/langdoclaw07.ClockStamps", spec := "clockStamps", apart := false, narrowed := true }
def ClockStampsUptoSaid : Prop := clockStampsUptoRow.holds Try.pinned (OpenSpec.upto clockStampsSpec)

/-- 'langdoclaw07.ClockIds', WHERE WHAT IT READS IS OF BULK AT MOST 1048576: true; the input reads as it did. -/
def clockIdsUptoRow : OpenClaim := { program := "ytbkidddbkcbiaaa", sum := "139c8f43ced5f0901cefb535dda0f21b63005720dc4056db813cbc9d0e471f7c", func := "langdoc/langdoclaw07.ClockIds", spec := "clockIds", apart := false, narrowed := true }
def ClockIdsUptoSaid : Prop := clockIdsUptoRow.holds Try.pinned (OpenSpec.upto clockIdsSpec)

/-- 'langdoclaw07.ClockTotal', WHERE WHAT IT READS IS OF BULK AT MOST 1048576: true; the input reads as it did. -/
def clockTotalUptoRow : OpenClaim := { program := "ytbkidddbkcbiaaa", sum := "139c8f43ced5f0901cefb535dda0f21b63005720dc4056db813cbc9d0e471f7c", func := "langdoc/langdoclaw07.ClockTotal", spec := "clockTotal", apart := false, narrowed := true }
def ClockTotalUptoSaid : Prop := clockTotalUptoRow.holds Try.pinned (OpenSpec.upto clockTotalSpec)

/-- 'langdoclaw07.ClockLater', WHERE WHAT IT READS IS OF BULK AT MOST 1048576: true; the input reads as it did. -/
def clockLaterUptoRow : OpenClaim := { program := "ytbkidddbkcbiaaa", sum := "139c8f43ced5f0901cefb535dda0f21b63005720dc4056db813cbc9d0e471f7c", func := "langdoc/langdoclaw07.ClockLater", spec := "clockLater", apart := false, narrowed := true }
def ClockLaterUptoSaid : Prop := clockLaterUptoRow.holds Try.pinned (OpenSpec.upto clockLaterSpec)

end Rows
end Go.Proofs.Ytbkidddbkcbiaaa
