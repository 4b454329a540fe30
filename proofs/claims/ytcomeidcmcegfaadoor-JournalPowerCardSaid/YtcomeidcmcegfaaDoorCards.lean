/-
  DERIVED. GIVEN WITH THE SEED: THE CARDS: each row of YtcomeidcmcegfaaDoorRows.lean that lists a variable, with what it lists TIED to the program's text (the seventh form; the later family's looks); each row that meets fmt, with fmt's text TOLD by the authors' own Lean function (tested against real Go, not proved from fmt's source: count such statements apart). THE CARD IS WHAT COUNTS. Prove the row's statement (the work); the ties are given (YtcomeidcmcegfaaDoorTie.lean); close each card by the builder's one call (the guide's Derived/Test/ToyasCard.lean, 'card_holds'). Laid BY PROGRAM, IN A SANDBOX (cutbox-door.mjs). By AI agents, Wed Nov 11 2026. No macro, syntax, notation, axiom, sorry.
-/
import Derived.Test.YtcomeidcmcegfaaDoorRows
import GoSem.ClaimSeven
namespace Go.Proofs.YtcomeidcmcegfaaDoor
namespace Rows

/-- THE TIED CARD OF 'langdoclaw53.JournalDamage'. -/
def journalDamageCard : Claim7 := { stood := { row := journalDamageRow, standIns := [], harness := (true, "cd046174d795f30a2ef560c8d07b946e5972fb5b29bbc8fd090cce4dc2baa3b7"), looks := false }, kinds := [], alts := [], laidByText := true, laidKinds := [.data, .data, .pinned], laidTests := true, laidLooks := .later }
def JournalDamageCardSaid : Prop := Claim7.holds Tryd.pinned (.plain (OpenSpec.ofChange journalDamageSpec)) journalDamageCard

/-- THE TIED CARD OF 'langdoclaw53.JournalAdds'. -/
def journalAddsCard : Claim7 := { stood := { row := journalAddsRow, standIns := [], harness := (true, "cd046174d795f30a2ef560c8d07b946e5972fb5b29bbc8fd090cce4dc2baa3b7"), looks := false }, kinds := [], alts := [], laidByText := true, laidKinds := [.data, .data, .pinned], laidTests := true, laidLooks := .later }
def JournalAddsCardSaid : Prop := Claim7.holds Tryd.pinned (.plain (OpenSpec.ofChange journalAddsSpec)) journalAddsCard

/-- THE TIED CARD OF 'langdoclaw53.JournalEntry'. -/
def journalEntryCard : Claim7 := { stood := { row := journalEntryRow, standIns := [], harness := (true, "cd046174d795f30a2ef560c8d07b946e5972fb5b29bbc8fd090cce4dc2baa3b7"), looks := false }, kinds := [], alts := [], laidByText := true, laidKinds := [.data, .data, .pinned], laidTests := true, laidLooks := .later }
def JournalEntryCardSaid : Prop := Claim7.holds Tryd.pinned (.plain (OpenSpec.ofChange journalEntrySpec)) journalEntryCard

/-- THE TIED CARD OF 'langdoclaw53.JournalWrite'. -/
def journalWriteCard : Claim7 := { stood := { row := journalWriteRow, standIns := [], harness := (true, "cd046174d795f30a2ef560c8d07b946e5972fb5b29bbc8fd090cce4dc2baa3b7"), looks := false }, kinds := [], alts := [], laidByText := true, laidKinds := [.data, .data, .pinned], laidTests := true, laidLooks := .later }
def JournalWriteCardSaid : Prop := Claim7.holds Tryd.pinned (.plain (OpenSpec.ofChange journalWriteSpec)) journalWriteCard

/-- THE TIED CARD OF 'langdoclaw53.JournalLong'. -/
def journalLongCard : Claim7 := { stood := { row := journalLongRow, standIns := [], harness := (true, "cd046174d795f30a2ef560c8d07b946e5972fb5b29bbc8fd090cce4dc2baa3b7"), looks := false }, kinds := [], alts := [], laidByText := true, laidKinds := [.data, .data, .pinned], laidTests := true, laidLooks := .later }
def JournalLongCardSaid : Prop := Claim7.holds Tryd.pinned (.plain (OpenSpec.ofChange journalLongSpec)) journalLongCard

/-- THE TIED CARD OF 'langdoclaw53.JournalRead'. -/
def journalReadCard : Claim7 := { stood := { row := journalReadRow, standIns := [], harness := (true, "cd046174d795f30a2ef560c8d07b946e5972fb5b29bbc8fd090cce4dc2baa3b7"), looks := false }, kinds := [], alts := [], laidByText := true, laidKinds := [.data, .data, .pinned], laidTests := true, laidLooks := .later }
def JournalReadCardSaid : Prop := Claim7.holds Tryd.pinned (.plain (OpenSpec.ofChange journalReadSpec)) journalReadCard

/-- THE TIED CARD OF 'langdoclaw53.JournalCut'. -/
def journalCutCard : Claim7 := { stood := { row := journalCutRow, standIns := [], harness := (true, "cd046174d795f30a2ef560c8d07b946e5972fb5b29bbc8fd090cce4dc2baa3b7"), looks := false }, kinds := [], alts := [], laidByText := true, laidKinds := [.data, .data, .pinned], laidTests := true, laidLooks := .later }
def JournalCutCardSaid : Prop := Claim7.holds Tryd.pinned (.plain (OpenSpec.ofChange journalCutSpec)) journalCutCard

/-- THE TIED CARD OF 'langdoclaw53.JournalPower'. -/
def journalPowerCard : Claim7 := { stood := { row := journalPowerRow, standIns := [], harness := (true, "cd046174d795f30a2ef560c8d07b946e5972fb5b29bbc8fd090cce4dc2baa3b7"), looks := false }, kinds := [], alts := [], laidByText := true, laidKinds := [.data, .data, .pinned], laidTests := true, laidLooks := .later }
def JournalPowerCardSaid : Prop := Claim7.holds Tryd.pinned (.plain (OpenSpec.ofChange journalPowerSpec)) journalPowerCard

/-- THE SECOND FORM's CARD OF 'langdoclaw53.JournalDamage'. -/
def journalDamageUptoCard : Claim7 := { stood := { row := journalDamageUptoRow, standIns := [], harness := (true, "cd046174d795f30a2ef560c8d07b946e5972fb5b29bbc8fd090cce4dc2baa3b7"), looks := false }, kinds := [], alts := [], laidByText := true, laidKinds := [.data, .data, .pinned], laidTests := true, laidLooks := .later }
def JournalDamageUptoCardSaid : Prop := Claim7.holds Tryd.pinned (.plain (OpenSpec.upto journalDamageSpec)) journalDamageUptoCard

/-- THE SECOND FORM's CARD OF 'langdoclaw53.JournalAdds'. -/
def journalAddsUptoCard : Claim7 := { stood := { row := journalAddsUptoRow, standIns := [], harness := (true, "cd046174d795f30a2ef560c8d07b946e5972fb5b29bbc8fd090cce4dc2baa3b7"), looks := false }, kinds := [], alts := [], laidByText := true, laidKinds := [.data, .data, .pinned], laidTests := true, laidLooks := .later }
def JournalAddsUptoCardSaid : Prop := Claim7.holds Tryd.pinned (.plain (OpenSpec.upto journalAddsSpec)) journalAddsUptoCard

/-- THE SECOND FORM's CARD OF 'langdoclaw53.JournalEntry'. -/
def journalEntryUptoCard : Claim7 := { stood := { row := journalEntryUptoRow, standIns := [], harness := (true, "cd046174d795f30a2ef560c8d07b946e5972fb5b29bbc8fd090cce4dc2baa3b7"), looks := false }, kinds := [], alts := [], laidByText := true, laidKinds := [.data, .data, .pinned], laidTests := true, laidLooks := .later }
def JournalEntryUptoCardSaid : Prop := Claim7.holds Tryd.pinned (.plain (OpenSpec.upto journalEntrySpec)) journalEntryUptoCard

/-- THE SECOND FORM's CARD OF 'langdoclaw53.JournalWrite'. -/
def journalWriteUptoCard : Claim7 := { stood := { row := journalWriteUptoRow, standIns := [], harness := (true, "cd046174d795f30a2ef560c8d07b946e5972fb5b29bbc8fd090cce4dc2baa3b7"), looks := false }, kinds := [], alts := [], laidByText := true, laidKinds := [.data, .data, .pinned], laidTests := true, laidLooks := .later }
def JournalWriteUptoCardSaid : Prop := Claim7.holds Tryd.pinned (.plain (OpenSpec.upto journalWriteSpec)) journalWriteUptoCard

/-- THE SECOND FORM's CARD OF 'langdoclaw53.JournalLong'. -/
def journalLongUptoCard : Claim7 := { stood := { row := journalLongUptoRow, standIns := [], harness := (true, "cd046174d795f30a2ef560c8d07b946e5972fb5b29bbc8fd090cce4dc2baa3b7"), looks := false }, kinds := [], alts := [], laidByText := true, laidKinds := [.data, .data, .pinned], laidTests := true, laidLooks := .later }
def JournalLongUptoCardSaid : Prop := Claim7.holds Tryd.pinned (.plain (OpenSpec.upto journalLongSpec)) journalLongUptoCard

/-- THE SECOND FORM's CARD OF 'langdoclaw53.JournalRead'. -/
def journalReadUptoCard : Claim7 := { stood := { row := journalReadUptoRow, standIns := [], harness := (true, "cd046174d795f30a2ef560c8d07b946e5972fb5b29bbc8fd090cce4dc2baa3b7"), looks := false }, kinds := [], alts := [], laidByText := true, laidKinds := [.data, .data, .pinned], laidTests := true, laidLooks := .later }
def JournalReadUptoCardSaid : Prop := Claim7.holds Tryd.pinned (.plain (OpenSpec.upto journalReadSpec)) journalReadUptoCard

/-- THE SECOND FORM's CARD OF 'langdoclaw53.JournalCut'. -/
def journalCutUptoCard : Claim7 := { stood := { row := journalCutUptoRow, standIns := [], harness := (true, "cd046174d795f30a2ef560c8d07b946e5972fb5b29bbc8fd090cce4dc2baa3b7"), looks := false }, kinds := [], alts := [], laidByText := true, laidKinds := [.data, .data, .pinned], laidTests := true, laidLooks := .later }
def JournalCutUptoCardSaid : Prop := Claim7.holds Tryd.pinned (.plain (OpenSpec.upto journalCutSpec)) journalCutUptoCard

/-- THE SECOND FORM's CARD OF 'langdoclaw53.JournalPower'. -/
def journalPowerUptoCard : Claim7 := { stood := { row := journalPowerUptoRow, standIns := [], harness := (true, "cd046174d795f30a2ef560c8d07b946e5972fb5b29bbc8fd090cce4dc2baa3b7"), looks := false }, kinds := [], alts := [], laidByText := true, laidKinds := [.data, .data, .pinned], laidTests := true, laidLooks := .later }
def JournalPowerUptoCardSaid : Prop := Claim7.holds Tryd.pinned (.plain (OpenSpec.upto journalPowerSpec)) journalPowerUptoCard
end Rows
end Go.Proofs.YtcomeidcmcegfaaDoor
