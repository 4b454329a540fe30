/-
  DERIVED. GIVEN WITH THE SEED: THE CARDS: each row of YtcomeidcmcegfaaGreatDoorRows.lean that lists a variable, with what it lists TIED to the program's text (the seventh form; the later family's looks); each row that meets fmt, with fmt's text TOLD by the authors' own Lean function (tested against real Go, not proved from fmt's source: count such statements apart). THE CARD IS WHAT COUNTS. Prove the row's statement (the work); the ties are given (YtcomeidcmcegfaaGreatDoorTie.lean); close each card by the builder's one call (the guide's Derived/Test/ToyasCard.lean, 'card_holds'). Laid BY PROGRAM, IN A SANDBOX (cutbox-door.mjs). By AI agents, Wed Nov 11 2026. No macro, syntax, notation, axiom, sorry.
-/
import Derived.Test.YtcomeidcmcegfaaGreatDoorRows
import GoSem.ClaimSeven
namespace Go.Proofs.YtcomeidcmcegfaaGreatDoor
namespace Rows

/-- THE TIED CARD OF 'langdoclaw53.JournalRestore'. -/
def journalRestoreCard : Claim7 := { stood := { row := journalRestoreRow, standIns := [], harness := (true, "59e82c39edbdc385823bf272f71b5e9d052e835e7e67e051b8c65322144baa83"), looks := false }, kinds := [], alts := [], laidByText := true, laidKinds := [.data, .data, .pinned], laidTests := true, laidLooks := .later }
def JournalRestoreCardSaid : Prop := Claim7.holds Tryz.pinned (.plain (OpenSpec.ofChange journalRestoreSpec)) journalRestoreCard

/-- THE SECOND FORM's CARD OF 'langdoclaw53.JournalRestore'. -/
def journalRestoreUptoCard : Claim7 := { stood := { row := journalRestoreUptoRow, standIns := [], harness := (true, "59e82c39edbdc385823bf272f71b5e9d052e835e7e67e051b8c65322144baa83"), looks := false }, kinds := [], alts := [], laidByText := true, laidKinds := [.data, .data, .pinned], laidTests := true, laidLooks := .later }
def JournalRestoreUptoCardSaid : Prop := Claim7.holds Tryz.pinned (.plain (OpenSpec.upto journalRestoreSpec)) journalRestoreUptoCard
end Rows
end Go.Proofs.YtcomeidcmcegfaaGreatDoor
