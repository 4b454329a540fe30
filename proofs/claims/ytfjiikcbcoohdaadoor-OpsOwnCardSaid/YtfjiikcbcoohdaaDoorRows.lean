/-
  NARROWER THAN 'FOR EVERY INPUT', by the rows' own cells (each row's printed sentence says how): OpsChecks: laid · OpsBytes: laid · OpsReads: laid · OpsWrites: laid · OpsSame: laid · OpsBack: laid · OpsOnly: laid · OpsCut: laid · OpsOwn: laid.
  DERIVED. THE GIVEN ROWS OF THIS SEAT. 9 by the template 'for every input the law returns true; each argument reads behind the call as it read before'; 0 by the template 'total and deterministic' (their statements: YtfjiikcbcoohdaaDoorTotals.lean).
  GIVEN WITH THE SEED: the statements are not yours to turn. If you find one false, say at which input.
  Laid BY PROGRAM, IN A SANDBOX (cutbox-rows.mjs): the forced cells as the released guide's own fill.sh prints them over the translation 2b5513b3540601ee… (all of the seat's roots in one cut). By AI agents, Wed Nov 11 2026. No macro, syntax, notation, axiom, sorry.
-/
import Derived.Test.YtfjiikcbcoohdaaDoorChecked
import GoSem.PinnedTables
import GoSem.Claim
import GoSem.ClaimJoined
import GoSem.ClaimMapViews
import Derived.JoinedTies
import Derived.KernelRfl
namespace Go.Proofs.YtfjiikcbcoohdaaDoor
/- THE CELL 'sum', in the pinned program and in every row, IS THE sha256 OF THE DUMP (.gsa) THAT YtfjiikcbcoohdaaDoorProg.lean LOADS. Nothing in Lean hashes anything: it is a label: what it is worth is what the hold of that sum in a sandbox is worth. -/
noncomputable def Tryd.pinned : Pinned := { name := "ytfjiikcbcoohdaadoor", sum := "2b5513b3540601ee4c81b718bd15a7adaf0f05133e4665a36b3de65403eedf44", checked := Tryd.checked }
namespace Rows
def none {H : Type} : Left H := { results := [], args := [] }

/- WHAT THE LISTED PACKAGE-LEVEL VARIABLES READ AS WHEN THE CALL BEGINS. Each datum BY PROGRAM (the guide's laid-datum.mjs) off the statement by which the dump's own 'gosem.cut.vars' lays the variable. In a bare row this is a premise. The card (YtfjiikcbcoohdaaDoorCards.lean) ties it to the program's text. -/
def laid_unicode_utf8_acceptRanges {H : Type} : DataW H := .agg [.agg [.lit (.int .u8 128), .lit (.int .u8 191)], .agg [.lit (.int .u8 160), .lit (.int .u8 191)], .agg [.lit (.int .u8 128), .lit (.int .u8 159)], .agg [.lit (.int .u8 144), .lit (.int .u8 191)], .agg [.lit (.int .u8 128), .lit (.int .u8 143)], .agg [.lit (.int .u8 0), .lit (.int .u8 0)], .agg [.lit (.int .u8 0), .lit (.int .u8 0)], .agg [.lit (.int .u8 0), .lit (.int .u8 0)], .agg [.lit (.int .u8 0), .lit (.int .u8 0)], .agg [.lit (.int .u8 0), .lit (.int .u8 0)], .agg [.lit (.int .u8 0), .lit (.int .u8 0)], .agg [.lit (.int .u8 0), .lit (.int .u8 0)], .agg [.lit (.int .u8 0), .lit (.int .u8 0)], .agg [.lit (.int .u8 0), .lit (.int .u8 0)], .agg [.lit (.int .u8 0), .lit (.int .u8 0)], .agg [.lit (.int .u8 0), .lit (.int .u8 0)]]
/-- One of Go's own tables, pinned by name: the form's constant. -/
def laid_unicode_utf8_first : DataW Unit := Go.Pinned.utf8First

/-- 'langdoclaw49.OpsChecks': WHATEVER THE INPUT: true; the input reads as it did. -/
def opsChecksSpec : ChangeSpec := { name := "opsChecks", fn := fun _ => fun
  | [d] => { results := [.lit (.bool true)], args := [d] }
  | _ => none }
def opsChecksRow : OpenClaim := { program := "ytfjiikcbcoohdaadoor", sum := "2b5513b3540601ee4c81b718bd15a7adaf0f05133e4665a36b3de65403eedf44", func := "langdoc/langdoclaw49.OpsChecks", spec := "opsChecks", unfollowed := true, recurses := true, named := ["unicode/utf8.first", "unicode/utf8.acceptRanges"], apart := false, laid := [("unicode/utf8.acceptRanges", laid_unicode_utf8_acceptRanges), ("unicode/utf8.first", laid_unicode_utf8_first)] }
def OpsChecksSaid : Prop := opsChecksRow.holds Tryd.pinned (OpenSpec.ofChange opsChecksSpec)

/-- ITS FALSE NEIGHBOUR: 'it returns false'. Refute it at one input. -/
def opsChecksWrong : ChangeSpec := { name := "opsChecks", fn := fun _ => fun
  | [d] => { results := [.lit (.bool false)], args := [d] }
  | _ => none }
def OpsChecksWrongFalsely : Prop := opsChecksRow.holds Tryd.pinned (OpenSpec.ofChange opsChecksWrong)

/-- 'langdoclaw49.OpsBytes': WHATEVER THE INPUT: true; the input reads as it did. -/
def opsBytesSpec : ChangeSpec := { name := "opsBytes", fn := fun _ => fun
  | [d] => { results := [.lit (.bool true)], args := [d] }
  | _ => none }
def opsBytesRow : OpenClaim := { program := "ytfjiikcbcoohdaadoor", sum := "2b5513b3540601ee4c81b718bd15a7adaf0f05133e4665a36b3de65403eedf44", func := "langdoc/langdoclaw49.OpsBytes", spec := "opsBytes", unfollowed := true, recurses := true, named := ["unicode/utf8.first", "unicode/utf8.acceptRanges"], apart := false, laid := [("unicode/utf8.acceptRanges", laid_unicode_utf8_acceptRanges), ("unicode/utf8.first", laid_unicode_utf8_first)] }
def OpsBytesSaid : Prop := opsBytesRow.holds Tryd.pinned (OpenSpec.ofChange opsBytesSpec)

/-- ITS FALSE NEIGHBOUR: 'it returns false'. Refute it at one input. -/
def opsBytesWrong : ChangeSpec := { name := "opsBytes", fn := fun _ => fun
  | [d] => { results := [.lit (.bool false)], args := [d] }
  | _ => none }
def OpsBytesWrongFalsely : Prop := opsBytesRow.holds Tryd.pinned (OpenSpec.ofChange opsBytesWrong)

/-- 'langdoclaw49.OpsReads': WHATEVER THE INPUT: true; the input reads as it did. -/
def opsReadsSpec : ChangeSpec := { name := "opsReads", fn := fun _ => fun
  | [d] => { results := [.lit (.bool true)], args := [d] }
  | _ => none }
def opsReadsRow : OpenClaim := { program := "ytfjiikcbcoohdaadoor", sum := "2b5513b3540601ee4c81b718bd15a7adaf0f05133e4665a36b3de65403eedf44", func := "langdoc/langdoclaw49.OpsReads", spec := "opsReads", unfollowed := true, recurses := true, named := ["unicode/utf8.first", "unicode/utf8.acceptRanges"], apart := false, laid := [("unicode/utf8.acceptRanges", laid_unicode_utf8_acceptRanges), ("unicode/utf8.first", laid_unicode_utf8_first)] }
def OpsReadsSaid : Prop := opsReadsRow.holds Tryd.pinned (OpenSpec.ofChange opsReadsSpec)

/-- ITS FALSE NEIGHBOUR: 'it returns false'. Refute it at one input. -/
def opsReadsWrong : ChangeSpec := { name := "opsReads", fn := fun _ => fun
  | [d] => { results := [.lit (.bool false)], args := [d] }
  | _ => none }
def OpsReadsWrongFalsely : Prop := opsReadsRow.holds Tryd.pinned (OpenSpec.ofChange opsReadsWrong)

/-- 'langdoclaw49.OpsWrites': WHATEVER THE INPUT: true; the input reads as it did. -/
def opsWritesSpec : ChangeSpec := { name := "opsWrites", fn := fun _ => fun
  | [d1, d2, d3] => { results := [.lit (.bool true)], args := [d1, d2, d3] }
  | _ => none }
def opsWritesRow : OpenClaim := { program := "ytfjiikcbcoohdaadoor", sum := "2b5513b3540601ee4c81b718bd15a7adaf0f05133e4665a36b3de65403eedf44", func := "langdoc/langdoclaw49.OpsWrites", spec := "opsWrites", unfollowed := true, recurses := true, named := ["unicode/utf8.first", "unicode/utf8.acceptRanges"], apart := false, laid := [("unicode/utf8.acceptRanges", laid_unicode_utf8_acceptRanges), ("unicode/utf8.first", laid_unicode_utf8_first)] }
def OpsWritesSaid : Prop := opsWritesRow.holds Tryd.pinned (OpenSpec.ofChange opsWritesSpec)

/-- ITS FALSE NEIGHBOUR: 'it returns false'. Refute it at one input. -/
def opsWritesWrong : ChangeSpec := { name := "opsWrites", fn := fun _ => fun
  | [d1, d2, d3] => { results := [.lit (.bool false)], args := [d1, d2, d3] }
  | _ => none }
def OpsWritesWrongFalsely : Prop := opsWritesRow.holds Tryd.pinned (OpenSpec.ofChange opsWritesWrong)

/-- 'langdoclaw49.OpsSame': WHATEVER THE INPUT: true; the input reads as it did. -/
def opsSameSpec : ChangeSpec := { name := "opsSame", fn := fun _ => fun
  | [d1, d2] => { results := [.lit (.bool true)], args := [d1, d2] }
  | _ => none }
def opsSameRow : OpenClaim := { program := "ytfjiikcbcoohdaadoor", sum := "2b5513b3540601ee4c81b718bd15a7adaf0f05133e4665a36b3de65403eedf44", func := "langdoc/langdoclaw49.OpsSame", spec := "opsSame", unfollowed := true, recurses := true, named := ["unicode/utf8.first", "unicode/utf8.acceptRanges"], apart := false, laid := [("unicode/utf8.acceptRanges", laid_unicode_utf8_acceptRanges), ("unicode/utf8.first", laid_unicode_utf8_first)] }
def OpsSameSaid : Prop := opsSameRow.holds Tryd.pinned (OpenSpec.ofChange opsSameSpec)

/-- ITS FALSE NEIGHBOUR: 'it returns false'. Refute it at one input. -/
def opsSameWrong : ChangeSpec := { name := "opsSame", fn := fun _ => fun
  | [d1, d2] => { results := [.lit (.bool false)], args := [d1, d2] }
  | _ => none }
def OpsSameWrongFalsely : Prop := opsSameRow.holds Tryd.pinned (OpenSpec.ofChange opsSameWrong)

/-- 'langdoclaw49.OpsBack': WHATEVER THE INPUT: true; the input reads as it did. -/
def opsBackSpec : ChangeSpec := { name := "opsBack", fn := fun _ => fun
  | [d] => { results := [.lit (.bool true)], args := [d] }
  | _ => none }
def opsBackRow : OpenClaim := { program := "ytfjiikcbcoohdaadoor", sum := "2b5513b3540601ee4c81b718bd15a7adaf0f05133e4665a36b3de65403eedf44", func := "langdoc/langdoclaw49.OpsBack", spec := "opsBack", unfollowed := true, recurses := true, named := ["unicode/utf8.first", "unicode/utf8.acceptRanges"], apart := false, laid := [("unicode/utf8.acceptRanges", laid_unicode_utf8_acceptRanges), ("unicode/utf8.first", laid_unicode_utf8_first)] }
def OpsBackSaid : Prop := opsBackRow.holds Tryd.pinned (OpenSpec.ofChange opsBackSpec)

/-- ITS FALSE NEIGHBOUR: 'it returns false'. Refute it at one input. -/
def opsBackWrong : ChangeSpec := { name := "opsBack", fn := fun _ => fun
  | [d] => { results := [.lit (.bool false)], args := [d] }
  | _ => none }
def OpsBackWrongFalsely : Prop := opsBackRow.holds Tryd.pinned (OpenSpec.ofChange opsBackWrong)

/-- 'langdoclaw49.OpsOnly': WHATEVER THE INPUT: true; the input reads as it did. -/
def opsOnlySpec : ChangeSpec := { name := "opsOnly", fn := fun _ => fun
  | [d] => { results := [.lit (.bool true)], args := [d] }
  | _ => none }
def opsOnlyRow : OpenClaim := { program := "ytfjiikcbcoohdaadoor", sum := "2b5513b3540601ee4c81b718bd15a7adaf0f05133e4665a36b3de65403eedf44", func := "langdoc/langdoclaw49.OpsOnly", spec := "opsOnly", unfollowed := true, recurses := true, named := ["unicode/utf8.first", "unicode/utf8.acceptRanges"], apart := false, laid := [("unicode/utf8.acceptRanges", laid_unicode_utf8_acceptRanges), ("unicode/utf8.first", laid_unicode_utf8_first)] }
def OpsOnlySaid : Prop := opsOnlyRow.holds Tryd.pinned (OpenSpec.ofChange opsOnlySpec)

/-- ITS FALSE NEIGHBOUR: 'it returns false'. Refute it at one input. -/
def opsOnlyWrong : ChangeSpec := { name := "opsOnly", fn := fun _ => fun
  | [d] => { results := [.lit (.bool false)], args := [d] }
  | _ => none }
def OpsOnlyWrongFalsely : Prop := opsOnlyRow.holds Tryd.pinned (OpenSpec.ofChange opsOnlyWrong)

/-- 'langdoclaw49.OpsCut': WHATEVER THE INPUT: true; the input reads as it did. -/
def opsCutSpec : ChangeSpec := { name := "opsCut", fn := fun _ => fun
  | [d1, d2, d3] => { results := [.lit (.bool true)], args := [d1, d2, d3] }
  | _ => none }
def opsCutRow : OpenClaim := { program := "ytfjiikcbcoohdaadoor", sum := "2b5513b3540601ee4c81b718bd15a7adaf0f05133e4665a36b3de65403eedf44", func := "langdoc/langdoclaw49.OpsCut", spec := "opsCut", unfollowed := true, recurses := true, named := ["unicode/utf8.first", "unicode/utf8.acceptRanges"], apart := false, laid := [("unicode/utf8.acceptRanges", laid_unicode_utf8_acceptRanges), ("unicode/utf8.first", laid_unicode_utf8_first)] }
def OpsCutSaid : Prop := opsCutRow.holds Tryd.pinned (OpenSpec.ofChange opsCutSpec)

/-- ITS FALSE NEIGHBOUR: 'it returns false'. Refute it at one input. -/
def opsCutWrong : ChangeSpec := { name := "opsCut", fn := fun _ => fun
  | [d1, d2, d3] => { results := [.lit (.bool false)], args := [d1, d2, d3] }
  | _ => none }
def OpsCutWrongFalsely : Prop := opsCutRow.holds Tryd.pinned (OpenSpec.ofChange opsCutWrong)

/-- 'langdoclaw49.OpsOwn': WHATEVER THE INPUT: true; the input reads as it did. -/
def opsOwnSpec : ChangeSpec := { name := "opsOwn", fn := fun _ => fun
  | [d1, d2] => { results := [.lit (.bool true)], args := [d1, d2] }
  | _ => none }
def opsOwnRow : OpenClaim := { program := "ytfjiikcbcoohdaadoor", sum := "2b5513b3540601ee4c81b718bd15a7adaf0f05133e4665a36b3de65403eedf44", func := "langdoc/langdoclaw49.OpsOwn", spec := "opsOwn", unfollowed := true, recurses := true, named := ["unicode/utf8.first", "unicode/utf8.acceptRanges"], apart := false, laid := [("unicode/utf8.acceptRanges", laid_unicode_utf8_acceptRanges), ("unicode/utf8.first", laid_unicode_utf8_first)] }
def OpsOwnSaid : Prop := opsOwnRow.holds Tryd.pinned (OpenSpec.ofChange opsOwnSpec)

/-- ITS FALSE NEIGHBOUR: 'it returns false'. Refute it at one input. -/
def opsOwnWrong : ChangeSpec := { name := "opsOwn", fn := fun _ => fun
  | [d1, d2] => { results := [.lit (.bool false)], args := [d1, d2] }
  | _ => none }
def OpsOwnWrongFalsely : Prop := opsOwnRow.holds Tryd.pinned (OpenSpec.ofChange opsOwnWrong)

/- THE SECOND FORM. 'bulk': how many values and letters a reading holds, each counted each time it is reached (what is shared counts as often as it is met; a slice's spare places count too). A statement '..UptoSaid' is the law's where the arguments, and the package variables that the reading takes, are together of bulk at most 1048576: NARROWER than '..Said'. Prove '..Said' where nothing that the law and all that it calls make is longer than what came in: it says more and counts as full. Else prove '..UptoSaid'. A law counts once. -/
mutual
def uptoBulk {H : Type} : DataW H → Nat
  | .lit (.string bytes) => bytes.length + 1
  | .lit _ => 1
  | .nil => 1
  | .ptr d => uptoBulk d + 1
  | .slice elems spare => uptoBulkAll elems + uptoBulkAll spare + 1
  | .agg parts => uptoBulkAll parts + 1
  | .iface _ d => uptoBulk d + 1
  | .map entries => uptoBulkEntries entries + 1
  | .held _ => 1
def uptoBulkAll {H : Type} : List (DataW H) → Nat
  | [] => 0
  | d :: r => uptoBulk d + uptoBulkAll r
def uptoBulkEntries {H : Type} : List (Lit × DataW H) → Nat
  | [] => 0
  | x :: r => uptoBulkEntry x + uptoBulkEntries r
def uptoBulkEntry {H : Type} : Lit × DataW H → Nat
  | (.string bytes, d) => bytes.length + uptoBulk d + 1
  | (_, d) => uptoBulk d + 1
 end
def uptoSmall : (H : Type) → List (DataW H) → Bool := fun _ ds => decide (uptoBulkAll ds ≤ 1048576)
def OpenSpec.upto (s : _root_.Go.ChangeSpec) : _root_.Go.OpenSpec := { _root_.Go.OpenSpec.ofChange s with cond := some uptoSmall }

/-- 'langdoclaw49.OpsChecks', WHERE WHAT IT READS IS OF BULK AT MOST 1048576: true; the input reads as it did. -/
def opsChecksUptoRow : OpenClaim := { program := "ytfjiikcbcoohdaadoor", sum := "2b5513b3540601ee4c81b718bd15a7adaf0f05133e4665a36b3de65403eedf44", func := "langdoc/langdoclaw49.OpsChecks", spec := "opsChecks", unfollowed := true, recurses := true, named := ["unicode/utf8.first", "unicode/utf8.acceptRanges"], apart := false, laid := [("unicode/utf8.acceptRanges", laid_unicode_utf8_acceptRanges), ("unicode/utf8.first", laid_unicode_utf8_first)], narrowed := true }
def OpsChecksUptoSaid : Prop := opsChecksUptoRow.holds Tryd.pinned (OpenSpec.upto opsChecksSpec)

/-- 'langdoclaw49.OpsBytes', WHERE WHAT IT READS IS OF BULK AT MOST 1048576: true; the input reads as it did. -/
def opsBytesUptoRow : OpenClaim := { program := "ytfjiikcbcoohdaadoor", sum := "2b5513b3540601ee4c81b718bd15a7adaf0f05133e4665a36b3de65403eedf44", func := "langdoc/langdoclaw49.OpsBytes", spec := "opsBytes", unfollowed := true, recurses := true, named := ["unicode/utf8.first", "unicode/utf8.acceptRanges"], apart := false, laid := [("unicode/utf8.acceptRanges", laid_unicode_utf8_acceptRanges), ("unicode/utf8.first", laid_unicode_utf8_first)], narrowed := true }
def OpsBytesUptoSaid : Prop := opsBytesUptoRow.holds Tryd.pinned (OpenSpec.upto opsBytesSpec)

/-- 'langdoclaw49.OpsReads', WHERE WHAT IT READS IS OF BULK AT MOST 1048576: true; the input reads as it did. -/
def opsReadsUptoRow : OpenClaim := { program := "ytfjiikcbcoohdaadoor", sum := "2b5513b3540601ee4c81b718bd15a7adaf0f05133e4665a36b3de65403eedf44", func := "langdoc/langdoclaw49.OpsReads", spec := "opsReads", unfollowed := true, recurses := true, named := ["unicode/utf8.first", "unicode/utf8.acceptRanges"], apart := false, laid := [("unicode/utf8.acceptRanges", laid_unicode_utf8_acceptRanges), ("unicode/utf8.first", laid_unicode_utf8_first)], narrowed := true }
def OpsReadsUptoSaid : Prop := opsReadsUptoRow.holds Tryd.pinned (OpenSpec.upto opsReadsSpec)

/-- 'langdoclaw49.OpsWrites', WHERE WHAT IT READS IS OF BULK AT MOST 1048576: true; the input reads as it did. -/
def opsWritesUptoRow : OpenClaim := { program := "ytfjiikcbcoohdaadoor", sum := "2b5513b3540601ee4c81b718bd15a7adaf0f05133e4665a36b3de65403eedf44", func := "langdoc/langdoclaw49.OpsWrites", spec := "opsWrites", unfollowed := true, recurses := true, named := ["unicode/utf8.first", "unicode/utf8.acceptRanges"], apart := false, laid := [("unicode/utf8.acceptRanges", laid_unicode_utf8_acceptRanges), ("unicode/utf8.first", laid_unicode_utf8_first)], narrowed := true }
def OpsWritesUptoSaid : Prop := opsWritesUptoRow.holds Tryd.pinned (OpenSpec.upto opsWritesSpec)

/-- 'langdoclaw49.OpsSame', WHERE WHAT IT READS IS OF BULK AT MOST 1048576: true; the input reads as it did. -/
def opsSameUptoRow : OpenClaim := { program := "ytfjiikcbcoohdaadoor", sum := "2b5513b3540601ee4c81b718bd15a7adaf0f05133e4665a36b3de65403eedf44", func := "langdoc/langdoclaw49.OpsSame", spec := "opsSame", unfollowed := true, recurses := true, named := ["unicode/utf8.first", "unicode/utf8.acceptRanges"], apart := false, laid := [("unicode/utf8.acceptRanges", laid_unicode_utf8_acceptRanges), ("unicode/utf8.first", laid_unicode_utf8_first)], narrowed := true }
def OpsSameUptoSaid : Prop := opsSameUptoRow.holds Tryd.pinned (OpenSpec.upto opsSameSpec)

/-- 'langdoclaw49.OpsBack', WHERE WHAT IT READS IS OF BULK AT MOST 1048576: true; the input reads as it did. -/
def opsBackUptoRow : OpenClaim := { program := "ytfjiikcbcoohdaadoor", sum := "2b5513b3540601ee4c81b718bd15a7adaf0f05133e4665a36b3de65403eedf44", func := "langdoc/langdoclaw49.OpsBack", spec := "opsBack", unfollowed := true, recurses := true, named := ["unicode/utf8.first", "unicode/utf8.acceptRanges"], apart := false, laid := [("unicode/utf8.acceptRanges", laid_unicode_utf8_acceptRanges), ("unicode/utf8.first", laid_unicode_utf8_first)], narrowed := true }
def OpsBackUptoSaid : Prop := opsBackUptoRow.holds Tryd.pinned (OpenSpec.upto opsBackSpec)

/-- 'langdoclaw49.OpsOnly', WHERE WHAT IT READS IS OF BULK AT MOST 1048576: true; the input reads as it did. -/
def opsOnlyUptoRow : OpenClaim := { program := "ytfjiikcbcoohdaadoor", sum := "2b5513b3540601ee4c81b718bd15a7adaf0f05133e4665a36b3de65403eedf44", func := "langdoc/langdoclaw49.OpsOnly", spec := "opsOnly", unfollowed := true, recurses := true, named := ["unicode/utf8.first", "unicode/utf8.acceptRanges"], apart := false, laid := [("unicode/utf8.acceptRanges", laid_unicode_utf8_acceptRanges), ("unicode/utf8.first", laid_unicode_utf8_first)], narrowed := true }
def OpsOnlyUptoSaid : Prop := opsOnlyUptoRow.holds Tryd.pinned (OpenSpec.upto opsOnlySpec)

/-- 'langdoclaw49.OpsCut', WHERE WHAT IT READS IS OF BULK AT MOST 1048576: true; the input reads as it did. -/
def opsCutUptoRow : OpenClaim := { program := "ytfjiikcbcoohdaadoor", sum := "2b5513b3540601ee4c81b718bd15a7adaf0f05133e4665a36b3de65403eedf44", func := "langdoc/langdoclaw49.OpsCut", spec := "opsCut", unfollowed := true, recurses := true, named := ["unicode/utf8.first", "unicode/utf8.acceptRanges"], apart := false, laid := [("unicode/utf8.acceptRanges", laid_unicode_utf8_acceptRanges), ("unicode/utf8.first", laid_unicode_utf8_first)], narrowed := true }
def OpsCutUptoSaid : Prop := opsCutUptoRow.holds Tryd.pinned (OpenSpec.upto opsCutSpec)

/-- 'langdoclaw49.OpsOwn', WHERE WHAT IT READS IS OF BULK AT MOST 1048576: true; the input reads as it did. -/
def opsOwnUptoRow : OpenClaim := { program := "ytfjiikcbcoohdaadoor", sum := "2b5513b3540601ee4c81b718bd15a7adaf0f05133e4665a36b3de65403eedf44", func := "langdoc/langdoclaw49.OpsOwn", spec := "opsOwn", unfollowed := true, recurses := true, named := ["unicode/utf8.first", "unicode/utf8.acceptRanges"], apart := false, laid := [("unicode/utf8.acceptRanges", laid_unicode_utf8_acceptRanges), ("unicode/utf8.first", laid_unicode_utf8_first)], narrowed := true }
def OpsOwnUptoSaid : Prop := opsOwnUptoRow.holds Tryd.pinned (OpenSpec.upto opsOwnSpec)

end Rows
end Go.Proofs.YtfjiikcbcoohdaaDoor
