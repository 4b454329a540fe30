/-
  NARROWER THAN 'FOR EVERY INPUT', by the rows' own cells (each row's printed sentence says how): JournalDamage: laid · JournalAdds: laid · JournalEntry: laid · JournalWrite: laid · JournalLong: laid · JournalRead: laid · JournalCut: laid · JournalPower: laid.
  DERIVED. THE GIVEN ROWS OF THIS SEAT. 8 by the template 'for every input the law returns true; each argument reads behind the call as it read before'; 0 by the template 'total and deterministic' (their statements: YtcomeidcmcegfaaDoorTotals.lean).
  GIVEN WITH THE SEED: the statements are not yours to turn. If you find one false, say at which input.
  Laid BY PROGRAM, IN A SANDBOX (cutbox-rows.mjs): the forced cells as the released guide's own fill.sh prints them over the translation 2c49b115a7872051… (all of the seat's roots in one cut). By AI agents, Wed Nov 11 2026. No macro, syntax, notation, axiom, sorry.
-/
import Derived.Test.YtcomeidcmcegfaaDoorChecked
import GoSem.PinnedTables
import GoSem.Claim
import GoSem.ClaimJoined
import GoSem.ClaimMapViews
import Derived.JoinedTies
import Derived.KernelRfl
namespace Go.Proofs.YtcomeidcmcegfaaDoor
/- THE CELL 'sum', in the pinned program and in every row, IS THE sha256 OF THE DUMP (.gsa) THAT YtcomeidcmcegfaaDoorProg.lean LOADS. Nothing in Lean hashes anything: it is a label: what it is worth is what the hold of that sum in a sandbox is worth. -/
noncomputable def Tryd.pinned : Pinned := { name := "ytcomeidcmcegfaadoor", sum := "2c49b115a7872051a2b50fb7318901ee09c827a50cdfed4a4c273e122104da35", checked := Tryd.checked }
namespace Rows
def none {H : Type} : Left H := { results := [], args := [] }

/- WHAT THE LISTED PACKAGE-LEVEL VARIABLES READ AS WHEN THE CALL BEGINS. Each datum BY PROGRAM (the guide's laid-datum.mjs) off the statement by which the dump's own 'gosem.cut.vars' lays the variable. In a bare row this is a premise. The card (YtcomeidcmcegfaaDoorCards.lean) ties it to the program's text. -/
def laid_unicode_utf8_acceptRanges {H : Type} : DataW H := .agg [.agg [.lit (.int .u8 128), .lit (.int .u8 191)], .agg [.lit (.int .u8 160), .lit (.int .u8 191)], .agg [.lit (.int .u8 128), .lit (.int .u8 159)], .agg [.lit (.int .u8 144), .lit (.int .u8 191)], .agg [.lit (.int .u8 128), .lit (.int .u8 143)], .agg [.lit (.int .u8 0), .lit (.int .u8 0)], .agg [.lit (.int .u8 0), .lit (.int .u8 0)], .agg [.lit (.int .u8 0), .lit (.int .u8 0)], .agg [.lit (.int .u8 0), .lit (.int .u8 0)], .agg [.lit (.int .u8 0), .lit (.int .u8 0)], .agg [.lit (.int .u8 0), .lit (.int .u8 0)], .agg [.lit (.int .u8 0), .lit (.int .u8 0)], .agg [.lit (.int .u8 0), .lit (.int .u8 0)], .agg [.lit (.int .u8 0), .lit (.int .u8 0)], .agg [.lit (.int .u8 0), .lit (.int .u8 0)], .agg [.lit (.int .u8 0), .lit (.int .u8 0)]]
def laid_langdoc_replica_fields {H : Type} : DataW H := .agg [.lit (.int .i64 0), .lit (.int .i64 1), .lit (.int .i64 2)]
/-- One of Go's own tables, pinned by name: the form's constant. -/
def laid_unicode_utf8_first : DataW Unit := Go.Pinned.utf8First

/-- 'langdoclaw53.JournalDamage': WHATEVER THE INPUT: true; the input reads as it did. -/
def journalDamageSpec : ChangeSpec := { name := "journalDamage", fn := fun _ => fun
  | [d1, d2, d3, d4] => { results := [.lit (.bool true)], args := [d1, d2, d3, d4] }
  | _ => none }
def journalDamageRow : OpenClaim := { program := "ytcomeidcmcegfaadoor", sum := "2c49b115a7872051a2b50fb7318901ee09c827a50cdfed4a4c273e122104da35", func := "langdoc/langdoclaw53.JournalDamage", spec := "journalDamage", unfollowed := true, recurses := true, named := ["unicode/utf8.first", "unicode/utf8.acceptRanges", "langdoc/replica.fields"], plainKeys := false, apart := false, laid := [("unicode/utf8.acceptRanges", laid_unicode_utf8_acceptRanges), ("langdoc/replica.fields", laid_langdoc_replica_fields), ("unicode/utf8.first", laid_unicode_utf8_first)] }
def JournalDamageSaid : Prop := journalDamageRow.holds Tryd.pinned (OpenSpec.ofChange journalDamageSpec)

/-- ITS FALSE NEIGHBOUR: 'it returns false'. Refute it at one input. -/
def journalDamageWrong : ChangeSpec := { name := "journalDamage", fn := fun _ => fun
  | [d1, d2, d3, d4] => { results := [.lit (.bool false)], args := [d1, d2, d3, d4] }
  | _ => none }
def JournalDamageWrongFalsely : Prop := journalDamageRow.holds Tryd.pinned (OpenSpec.ofChange journalDamageWrong)

/-- 'langdoclaw53.JournalAdds': WHATEVER THE INPUT: true; the input reads as it did. -/
def journalAddsSpec : ChangeSpec := { name := "journalAdds", fn := fun _ => fun
  | [d1, d2] => { results := [.lit (.bool true)], args := [d1, d2] }
  | _ => none }
def journalAddsRow : OpenClaim := { program := "ytcomeidcmcegfaadoor", sum := "2c49b115a7872051a2b50fb7318901ee09c827a50cdfed4a4c273e122104da35", func := "langdoc/langdoclaw53.JournalAdds", spec := "journalAdds", unfollowed := true, recurses := true, named := ["unicode/utf8.first", "unicode/utf8.acceptRanges", "langdoc/replica.fields"], plainKeys := false, apart := false, laid := [("unicode/utf8.acceptRanges", laid_unicode_utf8_acceptRanges), ("langdoc/replica.fields", laid_langdoc_replica_fields), ("unicode/utf8.first", laid_unicode_utf8_first)] }
def JournalAddsSaid : Prop := journalAddsRow.holds Tryd.pinned (OpenSpec.ofChange journalAddsSpec)

/-- ITS FALSE NEIGHBOUR: 'it returns false'. Refute it at one input. -/
def journalAddsWrong : ChangeSpec := { name := "journalAdds", fn := fun _ => fun
  | [d1, d2] => { results := [.lit (.bool false)], args := [d1, d2] }
  | _ => none }
def JournalAddsWrongFalsely : Prop := journalAddsRow.holds Tryd.pinned (OpenSpec.ofChange journalAddsWrong)

/-- 'langdoclaw53.JournalEntry': WHATEVER THE INPUT: true; the input reads as it did. -/
def journalEntrySpec : ChangeSpec := { name := "journalEntry", fn := fun _ => fun
  | [d] => { results := [.lit (.bool true)], args := [d] }
  | _ => none }
def journalEntryRow : OpenClaim := { program := "ytcomeidcmcegfaadoor", sum := "2c49b115a7872051a2b50fb7318901ee09c827a50cdfed4a4c273e122104da35", func := "langdoc/langdoclaw53.JournalEntry", spec := "journalEntry", unfollowed := true, recurses := true, named := ["unicode/utf8.first", "unicode/utf8.acceptRanges", "langdoc/replica.fields"], plainKeys := false, apart := false, laid := [("unicode/utf8.acceptRanges", laid_unicode_utf8_acceptRanges), ("langdoc/replica.fields", laid_langdoc_replica_fields), ("unicode/utf8.first", laid_unicode_utf8_first)] }
def JournalEntrySaid : Prop := journalEntryRow.holds Tryd.pinned (OpenSpec.ofChange journalEntrySpec)

/-- ITS FALSE NEIGHBOUR: 'it returns false'. Refute it at one input. -/
def journalEntryWrong : ChangeSpec := { name := "journalEntry", fn := fun _ => fun
  | [d] => { results := [.lit (.bool false)], args := [d] }
  | _ => none }
def JournalEntryWrongFalsely : Prop := journalEntryRow.holds Tryd.pinned (OpenSpec.ofChange journalEntryWrong)

/-- 'langdoclaw53.JournalWrite': WHATEVER THE INPUT: true; the input reads as it did. -/
def journalWriteSpec : ChangeSpec := { name := "journalWrite", fn := fun _ => fun
  | [d] => { results := [.lit (.bool true)], args := [d] }
  | _ => none }
def journalWriteRow : OpenClaim := { program := "ytcomeidcmcegfaadoor", sum := "2c49b115a7872051a2b50fb7318901ee09c827a50cdfed4a4c273e122104da35", func := "langdoc/langdoclaw53.JournalWrite", spec := "journalWrite", unfollowed := true, recurses := true, named := ["unicode/utf8.first", "unicode/utf8.acceptRanges", "langdoc/replica.fields"], plainKeys := false, apart := false, laid := [("unicode/utf8.acceptRanges", laid_unicode_utf8_acceptRanges), ("langdoc/replica.fields", laid_langdoc_replica_fields), ("unicode/utf8.first", laid_unicode_utf8_first)] }
def JournalWriteSaid : Prop := journalWriteRow.holds Tryd.pinned (OpenSpec.ofChange journalWriteSpec)

/-- ITS FALSE NEIGHBOUR: 'it returns false'. Refute it at one input. -/
def journalWriteWrong : ChangeSpec := { name := "journalWrite", fn := fun _ => fun
  | [d] => { results := [.lit (.bool false)], args := [d] }
  | _ => none }
def JournalWriteWrongFalsely : Prop := journalWriteRow.holds Tryd.pinned (OpenSpec.ofChange journalWriteWrong)

/-- 'langdoclaw53.JournalLong': WHATEVER THE INPUT: true; the input reads as it did. -/
def journalLongSpec : ChangeSpec := { name := "journalLong", fn := fun _ => fun
  | [d] => { results := [.lit (.bool true)], args := [d] }
  | _ => none }
def journalLongRow : OpenClaim := { program := "ytcomeidcmcegfaadoor", sum := "2c49b115a7872051a2b50fb7318901ee09c827a50cdfed4a4c273e122104da35", func := "langdoc/langdoclaw53.JournalLong", spec := "journalLong", unfollowed := true, recurses := true, named := ["unicode/utf8.first", "unicode/utf8.acceptRanges", "langdoc/replica.fields"], plainKeys := false, apart := false, laid := [("unicode/utf8.acceptRanges", laid_unicode_utf8_acceptRanges), ("langdoc/replica.fields", laid_langdoc_replica_fields), ("unicode/utf8.first", laid_unicode_utf8_first)] }
def JournalLongSaid : Prop := journalLongRow.holds Tryd.pinned (OpenSpec.ofChange journalLongSpec)

/-- ITS FALSE NEIGHBOUR: 'it returns false'. Refute it at one input. -/
def journalLongWrong : ChangeSpec := { name := "journalLong", fn := fun _ => fun
  | [d] => { results := [.lit (.bool false)], args := [d] }
  | _ => none }
def JournalLongWrongFalsely : Prop := journalLongRow.holds Tryd.pinned (OpenSpec.ofChange journalLongWrong)

/-- 'langdoclaw53.JournalRead': WHATEVER THE INPUT: true; the input reads as it did. -/
def journalReadSpec : ChangeSpec := { name := "journalRead", fn := fun _ => fun
  | [d] => { results := [.lit (.bool true)], args := [d] }
  | _ => none }
def journalReadRow : OpenClaim := { program := "ytcomeidcmcegfaadoor", sum := "2c49b115a7872051a2b50fb7318901ee09c827a50cdfed4a4c273e122104da35", func := "langdoc/langdoclaw53.JournalRead", spec := "journalRead", unfollowed := true, recurses := true, named := ["unicode/utf8.first", "unicode/utf8.acceptRanges", "langdoc/replica.fields"], plainKeys := false, apart := false, laid := [("unicode/utf8.acceptRanges", laid_unicode_utf8_acceptRanges), ("langdoc/replica.fields", laid_langdoc_replica_fields), ("unicode/utf8.first", laid_unicode_utf8_first)] }
def JournalReadSaid : Prop := journalReadRow.holds Tryd.pinned (OpenSpec.ofChange journalReadSpec)

/-- ITS FALSE NEIGHBOUR: 'it returns false'. Refute it at one input. -/
def journalReadWrong : ChangeSpec := { name := "journalRead", fn := fun _ => fun
  | [d] => { results := [.lit (.bool false)], args := [d] }
  | _ => none }
def JournalReadWrongFalsely : Prop := journalReadRow.holds Tryd.pinned (OpenSpec.ofChange journalReadWrong)

/-- 'langdoclaw53.JournalCut': WHATEVER THE INPUT: true; the input reads as it did. -/
def journalCutSpec : ChangeSpec := { name := "journalCut", fn := fun _ => fun
  | [d1, d2] => { results := [.lit (.bool true)], args := [d1, d2] }
  | _ => none }
def journalCutRow : OpenClaim := { program := "ytcomeidcmcegfaadoor", sum := "2c49b115a7872051a2b50fb7318901ee09c827a50cdfed4a4c273e122104da35", func := "langdoc/langdoclaw53.JournalCut", spec := "journalCut", unfollowed := true, recurses := true, named := ["unicode/utf8.first", "unicode/utf8.acceptRanges", "langdoc/replica.fields"], plainKeys := false, apart := false, laid := [("unicode/utf8.acceptRanges", laid_unicode_utf8_acceptRanges), ("langdoc/replica.fields", laid_langdoc_replica_fields), ("unicode/utf8.first", laid_unicode_utf8_first)] }
def JournalCutSaid : Prop := journalCutRow.holds Tryd.pinned (OpenSpec.ofChange journalCutSpec)

/-- ITS FALSE NEIGHBOUR: 'it returns false'. Refute it at one input. -/
def journalCutWrong : ChangeSpec := { name := "journalCut", fn := fun _ => fun
  | [d1, d2] => { results := [.lit (.bool false)], args := [d1, d2] }
  | _ => none }
def JournalCutWrongFalsely : Prop := journalCutRow.holds Tryd.pinned (OpenSpec.ofChange journalCutWrong)

/-- 'langdoclaw53.JournalPower': WHATEVER THE INPUT: true; the input reads as it did. -/
def journalPowerSpec : ChangeSpec := { name := "journalPower", fn := fun _ => fun
  | [d1, d2] => { results := [.lit (.bool true)], args := [d1, d2] }
  | _ => none }
def journalPowerRow : OpenClaim := { program := "ytcomeidcmcegfaadoor", sum := "2c49b115a7872051a2b50fb7318901ee09c827a50cdfed4a4c273e122104da35", func := "langdoc/langdoclaw53.JournalPower", spec := "journalPower", unfollowed := true, recurses := true, named := ["unicode/utf8.first", "unicode/utf8.acceptRanges", "langdoc/replica.fields"], plainKeys := false, apart := false, laid := [("unicode/utf8.acceptRanges", laid_unicode_utf8_acceptRanges), ("langdoc/replica.fields", laid_langdoc_replica_fields), ("unicode/utf8.first", laid_unicode_utf8_first)] }
def JournalPowerSaid : Prop := journalPowerRow.holds Tryd.pinned (OpenSpec.ofChange journalPowerSpec)

/-- ITS FALSE NEIGHBOUR: 'it returns false'. Refute it at one input. -/
def journalPowerWrong : ChangeSpec := { name := "journalPower", fn := fun _ => fun
  | [d1, d2] => { results := [.lit (.bool false)], args := [d1, d2] }
  | _ => none }
def JournalPowerWrongFalsely : Prop := journalPowerRow.holds Tryd.pinned (OpenSpec.ofChange journalPowerWrong)

/- THE SECOND FORM. 'bulk': how many values and letters a reading holds, each counted each time it is reached (what is shared counts as often as it is met; a slice's spare places count too). A statement '..UptoSaid' is the law's where the arguments, and the package variables that the reading takes, are together of bulk at most 1048576: NARROWER than '..Said'. Prove '..Said' where nothing that the law and all that it calls make is longer than what came in: it says more and counts as full. Else prove '..UptoSaid'. A law counts once. -/
mutual
def uptoBulk {H : Type} : DataW H → Nat
  | .lit (.string bytes) => bytes.length + 1
  | .lit _ => 1
  | .nil => 1
  | .ptr d => uptoBulk d + 1
  | .slice elems spare => uptoBulkAll elems + uptoBulkAll spare + 1
  | .agg parts => uptoBulkAll parts + 1
  | .iface _ d => uptoBulk d + 1
  | .map entries => uptoBulkEntries entries + 1
  | .held _ => 1
def uptoBulkAll {H : Type} : List (DataW H) → Nat
  | [] => 0
  | d :: r => uptoBulk d + uptoBulkAll r
def uptoBulkEntries {H : Type} : List (Lit × DataW H) → Nat
  | [] => 0
  | x :: r => uptoBulkEntry x + uptoBulkEntries r
def uptoBulkEntry {H : Type} : Lit × DataW H → Nat
  | (.string bytes, d) => bytes.length + uptoBulk d + 1
  | (_, d) => uptoBulk d + 1
 end
def uptoSmall : (H : Type) → List (DataW H) → Bool := fun _ ds => decide (uptoBulkAll ds ≤ 1048576)
def OpenSpec.upto (s : _root_.Go.ChangeSpec) : _root_.Go.OpenSpec := { _root_.Go.OpenSpec.ofChange s with cond := some uptoSmall }

/-- 'langdoclaw53.JournalDamage', WHERE WHAT IT READS IS OF BULK AT MOST 1048576: true; the input reads as it did. -/
def journalDamageUptoRow : OpenClaim := { program := "ytcomeidcmcegfaadoor", sum := "2c49b115a7872051a2b50fb7318901ee09c827a50cdfed4a4c273e122104da35", func := "langdoc/langdoclaw53.JournalDamage", spec := "journalDamage", unfollowed := true, recurses := true, named := ["unicode/utf8.first", "unicode/utf8.acceptRanges", "langdoc/replica.fields"], plainKeys := false, apart := false, laid := [("unicode/utf8.acceptRanges", laid_unicode_utf8_acceptRanges), ("langdoc/replica.fields", laid_langdoc_replica_fields), ("unicode/utf8.first", laid_unicode_utf8_first)], narrowed := true }
def JournalDamageUptoSaid : Prop := journalDamageUptoRow.holds Tryd.pinned (OpenSpec.upto journalDamageSpec)

/-- 'langdoclaw53.JournalAdds', WHERE WHAT IT READS IS OF BULK AT MOST 1048576: true; the input reads as it did. -/
def journalAddsUptoRow : OpenClaim := { program := "ytcomeidcmcegfaadoor", sum := "2c49b115a7872051a2b50fb7318901ee09c827a50cdfed4a4c273e122104da35", func := "langdoc/langdoclaw53.JournalAdds", spec := "journalAdds", unfollowed := true, recurses := true, named := ["unicode/utf8.first", "unicode/utf8.acceptRanges", "langdoc/replica.fields"], plainKeys := false, apart := false, laid := [("unicode/utf8.acceptRanges", laid_unicode_utf8_acceptRanges), ("langdoc/replica.fields", laid_langdoc_replica_fields), ("unicode/utf8.first", laid_unicode_utf8_first)], narrowed := true }
def JournalAddsUptoSaid : Prop := journalAddsUptoRow.holds Tryd.pinned (OpenSpec.upto journalAddsSpec)

/-- 'langdoclaw53.JournalEntry', WHERE WHAT IT READS IS OF BULK AT MOST 1048576: true; the input reads as it did. -/
def journalEntryUptoRow : OpenClaim := { program := "ytcomeidcmcegfaadoor", sum := "2c49b115a7872051a2b50fb7318901ee09c827a50cdfed4a4c273e122104da35", func := "langdoc/langdoclaw53.JournalEntry", spec := "journalEntry", unfollowed := true, recurses := true, named := ["unicode/utf8.first", "unicode/utf8.acceptRanges", "langdoc/replica.fields"], plainKeys := false, apart := false, laid := [("unicode/utf8.acceptRanges", laid_unicode_utf8_acceptRanges), ("langdoc/replica.fields", laid_langdoc_replica_fields), ("unicode/utf8.first", laid_unicode_utf8_first)], narrowed := true }
def JournalEntryUptoSaid : Prop := journalEntryUptoRow.holds Tryd.pinned (OpenSpec.upto journalEntrySpec)

/-- 'langdoclaw53.JournalWrite', WHERE WHAT IT READS IS OF BULK AT MOST 1048576: true; the input reads as it did. -/
def journalWriteUptoRow : OpenClaim := { program := "ytcomeidcmcegfaadoor", sum := "2c49b115a7872051a2b50fb7318901ee09c827a50cdfed4a4c273e122104da35", func := "langdoc/langdoclaw53.JournalWrite", spec := "journalWrite", unfollowed := true, recurses := true, named := ["unicode/utf8.first", "unicode/utf8.acceptRanges", "langdoc/replica.fields"], plainKeys := false, apart := false, laid := [("unicode/utf8.acceptRanges", laid_unicode_utf8_acceptRanges), ("langdoc/replica.fields", laid_langdoc_replica_fields), ("unicode/utf8.first", laid_unicode_utf8_first)], narrowed := true }
def JournalWriteUptoSaid : Prop := journalWriteUptoRow.holds Tryd.pinned (OpenSpec.upto journalWriteSpec)

/-- 'langdoclaw53.JournalLong', WHERE WHAT IT READS IS OF BULK AT MOST 1048576: true; the input reads as it did. -/
def journalLongUptoRow : OpenClaim := { program := "ytcomeidcmcegfaadoor", sum := "2c49b115a7872051a2b50fb7318901ee09c827a50cdfed4a4c273e122104da35", func := "langdoc/langdoclaw53.JournalLong", spec := "journalLong", unfollowed := true, recurses := true, named := ["unicode/utf8.first", "unicode/utf8.acceptRanges", "langdoc/replica.fields"], plainKeys := false, apart := false, laid := [("unicode/utf8.acceptRanges", laid_unicode_utf8_acceptRanges), ("langdoc/replica.fields", laid_langdoc_replica_fields), ("unicode/utf8.first", laid_unicode_utf8_first)], narrowed := true }
def JournalLongUptoSaid : Prop := journalLongUptoRow.holds Tryd.pinned (OpenSpec.upto journalLongSpec)

/-- 'langdoclaw53.JournalRead', WHERE WHAT IT READS IS OF BULK AT MOST 1048576: true; the input reads as it did. -/
def journalReadUptoRow : OpenClaim := { program := "ytcomeidcmcegfaadoor", sum := "2c49b115a7872051a2b50fb7318901ee09c827a50cdfed4a4c273e122104da35", func := "langdoc/langdoclaw53.JournalRead", spec := "journalRead", unfollowed := true, recurses := true, named := ["unicode/utf8.first", "unicode/utf8.acceptRanges", "langdoc/replica.fields"], plainKeys := false, apart := false, laid := [("unicode/utf8.acceptRanges", laid_unicode_utf8_acceptRanges), ("langdoc/replica.fields", laid_langdoc_replica_fields), ("unicode/utf8.first", laid_unicode_utf8_first)], narrowed := true }
def JournalReadUptoSaid : Prop := journalReadUptoRow.holds Tryd.pinned (OpenSpec.upto journalReadSpec)

/-- 'langdoclaw53.JournalCut', WHERE WHAT IT READS IS OF BULK AT MOST 1048576: true; the input reads as it did. -/
def journalCutUptoRow : OpenClaim := { program := "ytcomeidcmcegfaadoor", sum := "2c49b115a7872051a2b50fb7318901ee09c827a50cdfed4a4c273e122104da35", func := "langdoc/langdoclaw53.JournalCut", spec := "journalCut", unfollowed := true, recurses := true, named := ["unicode/utf8.first", "unicode/utf8.acceptRanges", "langdoc/replica.fields"], plainKeys := false, apart := false, laid := [("unicode/utf8.acceptRanges", laid_unicode_utf8_acceptRanges), ("langdoc/replica.fields", laid_langdoc_replica_fields), ("unicode/utf8.first", laid_unicode_utf8_first)], narrowed := true }
def JournalCutUptoSaid : Prop := journalCutUptoRow.holds Tryd.pinned (OpenSpec.upto journalCutSpec)

/-- 'langdoclaw53.JournalPower', WHERE WHAT IT READS IS OF BULK AT MOST 1048576: true; the input reads as it did. -/
def journalPowerUptoRow : OpenClaim := { program := "ytcomeidcmcegfaadoor", sum := "2c49b115a7872051a2b50fb7318901ee09c827a50cdfed4a4c273e122104da35", func := "langdoc/langdoclaw53.JournalPower", spec := "journalPower", unfollowed := true, recurses := true, named := ["unicode/utf8.first", "unicode/utf8.acceptRanges", "langdoc/replica.fields"], plainKeys := false, apart := false, laid := [("unicode/utf8.acceptRanges", laid_unicode_utf8_acceptRanges), ("langdoc/replica.fields", laid_langdoc_replica_fields), ("unicode/utf8.first", laid_unicode_utf8_first)], narrowed := true }
def JournalPowerUptoSaid : Prop := journalPowerUptoRow.holds Tryd.pinned (OpenSpec.upto journalPowerSpec)

end Rows
end Go.Proofs.YtcomeidcmcegfaaDoor
