/-
  DERIVED. GIVEN WITH THE SEED: THE CARDS: each row of YtfjiikcbcoohdaaDoorRows.lean that lists a variable, with what it lists TIED to the program's text (the seventh form; the later family's looks); each row that meets fmt, with fmt's text TOLD by the authors' own Lean function (tested against real Go, not proved from fmt's source: count such statements apart). THE CARD IS WHAT COUNTS. Prove the row's statement (the work); the ties are given (YtfjiikcbcoohdaaDoorTie.lean); close each card by the builder's one call (the guide's Derived/Test/ToyasCard.lean, 'card_holds'). Laid BY PROGRAM, IN A SANDBOX (cutbox-door.mjs). By AI agents, Wed Nov 11 2026. No macro, syntax, notation, axiom, sorry.
-/
import Derived.Test.YtfjiikcbcoohdaaDoorRows
import GoSem.ClaimSeven
namespace Go.Proofs.YtfjiikcbcoohdaaDoor
namespace Rows

/-- THE TIED CARD OF 'langdoclaw49.OpsChecks'. -/
def opsChecksCard : Claim7 := { stood := { row := opsChecksRow, standIns := [], harness := (true, "9bd014c1550aa8503a7586428b7426e1e5358137a2c8e7eb4cc1f68e0cde9d8b"), looks := false }, kinds := [], alts := [], laidByText := true, laidKinds := [.data, .pinned], laidTests := true, laidLooks := .later }
def OpsChecksCardSaid : Prop := Claim7.holds Tryd.pinned (.plain (OpenSpec.ofChange opsChecksSpec)) opsChecksCard

/-- THE TIED CARD OF 'langdoclaw49.OpsBytes'. -/
def opsBytesCard : Claim7 := { stood := { row := opsBytesRow, standIns := [], harness := (true, "9bd014c1550aa8503a7586428b7426e1e5358137a2c8e7eb4cc1f68e0cde9d8b"), looks := false }, kinds := [], alts := [], laidByText := true, laidKinds := [.data, .pinned], laidTests := true, laidLooks := .later }
def OpsBytesCardSaid : Prop := Claim7.holds Tryd.pinned (.plain (OpenSpec.ofChange opsBytesSpec)) opsBytesCard

/-- THE TIED CARD OF 'langdoclaw49.OpsReads'. -/
def opsReadsCard : Claim7 := { stood := { row := opsReadsRow, standIns := [], harness := (true, "9bd014c1550aa8503a7586428b7426e1e5358137a2c8e7eb4cc1f68e0cde9d8b"), looks := false }, kinds := [], alts := [], laidByText := true, laidKinds := [.data, .pinned], laidTests := true, laidLooks := .later }
def OpsReadsCardSaid : Prop := Claim7.holds Tryd.pinned (.plain (OpenSpec.ofChange opsReadsSpec)) opsReadsCard

/-- THE TIED CARD OF 'langdoclaw49.OpsWrites'. -/
def opsWritesCard : Claim7 := { stood := { row := opsWritesRow, standIns := [], harness := (true, "9bd014c1550aa8503a7586428b7426e1e5358137a2c8e7eb4cc1f68e0cde9d8b"), looks := false }, kinds := [], alts := [], laidByText := true, laidKinds := [.data, .pinned], laidTests := true, laidLooks := .later }
def OpsWritesCardSaid : Prop := Claim7.holds Tryd.pinned (.plain (OpenSpec.ofChange opsWritesSpec)) opsWritesCard

/-- THE TIED CARD OF 'langdoclaw49.OpsSame'. -/
def opsSameCard : Claim7 := { stood := { row := opsSameRow, standIns := [], harness := (true, "9bd014c1550aa8503a7586428b7426e1e5358137a2c8e7eb4cc1f68e0cde9d8b"), looks := false }, kinds := [], alts := [], laidByText := true, laidKinds := [.data, .pinned], laidTests := true, laidLooks := .later }
def OpsSameCardSaid : Prop := Claim7.holds Tryd.pinned (.plain (OpenSpec.ofChange opsSameSpec)) opsSameCard

/-- THE TIED CARD OF 'langdoclaw49.OpsBack'. -/
def opsBackCard : Claim7 := { stood := { row := opsBackRow, standIns := [], harness := (true, "9bd014c1550aa8503a7586428b7426e1e5358137a2c8e7eb4cc1f68e0cde9d8b"), looks := false }, kinds := [], alts := [], laidByText := true, laidKinds := [.data, .pinned], laidTests := true, laidLooks := .later }
def OpsBackCardSaid : Prop := Claim7.holds Tryd.pinned (.plain (OpenSpec.ofChange opsBackSpec)) opsBackCard

/-- THE TIED CARD OF 'langdoclaw49.OpsOnly'. -/
def opsOnlyCard : Claim7 := { stood := { row := opsOnlyRow, standIns := [], harness := (true, "9bd014c1550aa8503a7586428b7426e1e5358137a2c8e7eb4cc1f68e0cde9d8b"), looks := false }, kinds := [], alts := [], laidByText := true, laidKinds := [.data, .pinned], laidTests := true, laidLooks := .later }
def OpsOnlyCardSaid : Prop := Claim7.holds Tryd.pinned (.plain (OpenSpec.ofChange opsOnlySpec)) opsOnlyCard

/-- THE TIED CARD OF 'langdoclaw49.OpsCut'. -/
def opsCutCard : Claim7 := { stood := { row := opsCutRow, standIns := [], harness := (true, "9bd014c1550aa8503a7586428b7426e1e5358137a2c8e7eb4cc1f68e0cde9d8b"), looks := false }, kinds := [], alts := [], laidByText := true, laidKinds := [.data, .pinned], laidTests := true, laidLooks := .later }
def OpsCutCardSaid : Prop := Claim7.holds Tryd.pinned (.plain (OpenSpec.ofChange opsCutSpec)) opsCutCard

/-- THE TIED CARD OF 'langdoclaw49.OpsOwn'. -/
def opsOwnCard : Claim7 := { stood := { row := opsOwnRow, standIns := [], harness := (true, "9bd014c1550aa8503a7586428b7426e1e5358137a2c8e7eb4cc1f68e0cde9d8b"), looks := false }, kinds := [], alts := [], laidByText := true, laidKinds := [.data, .pinned], laidTests := true, laidLooks := .later }
def OpsOwnCardSaid : Prop := Claim7.holds Tryd.pinned (.plain (OpenSpec.ofChange opsOwnSpec)) opsOwnCard

/-- THE SECOND FORM's CARD OF 'langdoclaw49.OpsChecks'. -/
def opsChecksUptoCard : Claim7 := { stood := { row := opsChecksUptoRow, standIns := [], harness := (true, "9bd014c1550aa8503a7586428b7426e1e5358137a2c8e7eb4cc1f68e0cde9d8b"), looks := false }, kinds := [], alts := [], laidByText := true, laidKinds := [.data, .pinned], laidTests := true, laidLooks := .later }
def OpsChecksUptoCardSaid : Prop := Claim7.holds Tryd.pinned (.plain (OpenSpec.upto opsChecksSpec)) opsChecksUptoCard

/-- THE SECOND FORM's CARD OF 'langdoclaw49.OpsBytes'. -/
def opsBytesUptoCard : Claim7 := { stood := { row := opsBytesUptoRow, standIns := [], harness := (true, "9bd014c1550aa8503a7586428b7426e1e5358137a2c8e7eb4cc1f68e0cde9d8b"), looks := false }, kinds := [], alts := [], laidByText := true, laidKinds := [.data, .pinned], laidTests := true, laidLooks := .later }
def OpsBytesUptoCardSaid : Prop := Claim7.holds Tryd.pinned (.plain (OpenSpec.upto opsBytesSpec)) opsBytesUptoCard

/-- THE SECOND FORM's CARD OF 'langdoclaw49.OpsReads'. -/
def opsReadsUptoCard : Claim7 := { stood := { row := opsReadsUptoRow, standIns := [], harness := (true, "9bd014c1550aa8503a7586428b7426e1e5358137a2c8e7eb4cc1f68e0cde9d8b"), looks := false }, kinds := [], alts := [], laidByText := true, laidKinds := [.data, .pinned], laidTests := true, laidLooks := .later }
def OpsReadsUptoCardSaid : Prop := Claim7.holds Tryd.pinned (.plain (OpenSpec.upto opsReadsSpec)) opsReadsUptoCard

/-- THE SECOND FORM's CARD OF 'langdoclaw49.OpsWrites'. -/
def opsWritesUptoCard : Claim7 := { stood := { row := opsWritesUptoRow, standIns := [], harness := (true, "9bd014c1550aa8503a7586428b7426e1e5358137a2c8e7eb4cc1f68e0cde9d8b"), looks := false }, kinds := [], alts := [], laidByText := true, laidKinds := [.data, .pinned], laidTests := true, laidLooks := .later }
def OpsWritesUptoCardSaid : Prop := Claim7.holds Tryd.pinned (.plain (OpenSpec.upto opsWritesSpec)) opsWritesUptoCard

/-- THE SECOND FORM's CARD OF 'langdoclaw49.OpsSame'. -/
def opsSameUptoCard : Claim7 := { stood := { row := opsSameUptoRow, standIns := [], harness := (true, "9bd014c1550aa8503a7586428b7426e1e5358137a2c8e7eb4cc1f68e0cde9d8b"), looks := false }, kinds := [], alts := [], laidByText := true, laidKinds := [.data, .pinned], laidTests := true, laidLooks := .later }
def OpsSameUptoCardSaid : Prop := Claim7.holds Tryd.pinned (.plain (OpenSpec.upto opsSameSpec)) opsSameUptoCard

/-- THE SECOND FORM's CARD OF 'langdoclaw49.OpsBack'. -/
def opsBackUptoCard : Claim7 := { stood := { row := opsBackUptoRow, standIns := [], harness := (true, "9bd014c1550aa8503a7586428b7426e1e5358137a2c8e7eb4cc1f68e0cde9d8b"), looks := false }, kinds := [], alts := [], laidByText := true, laidKinds := [.data, .pinned], laidTests := true, laidLooks := .later }
def OpsBackUptoCardSaid : Prop := Claim7.holds Tryd.pinned (.plain (OpenSpec.upto opsBackSpec)) opsBackUptoCard

/-- THE SECOND FORM's CARD OF 'langdoclaw49.OpsOnly'. -/
def opsOnlyUptoCard : Claim7 := { stood := { row := opsOnlyUptoRow, standIns := [], harness := (true, "9bd014c1550aa8503a7586428b7426e1e5358137a2c8e7eb4cc1f68e0cde9d8b"), looks := false }, kinds := [], alts := [], laidByText := true, laidKinds := [.data, .pinned], laidTests := true, laidLooks := .later }
def OpsOnlyUptoCardSaid : Prop := Claim7.holds Tryd.pinned (.plain (OpenSpec.upto opsOnlySpec)) opsOnlyUptoCard

/-- THE SECOND FORM's CARD OF 'langdoclaw49.OpsCut'. -/
def opsCutUptoCard : Claim7 := { stood := { row := opsCutUptoRow, standIns := [], harness := (true, "9bd014c1550aa8503a7586428b7426e1e5358137a2c8e7eb4cc1f68e0cde9d8b"), looks := false }, kinds := [], alts := [], laidByText := true, laidKinds := [.data, .pinned], laidTests := true, laidLooks := .later }
def OpsCutUptoCardSaid : Prop := Claim7.holds Tryd.pinned (.plain (OpenSpec.upto opsCutSpec)) opsCutUptoCard

/-- THE SECOND FORM's CARD OF 'langdoclaw49.OpsOwn'. -/
def opsOwnUptoCard : Claim7 := { stood := { row := opsOwnUptoRow, standIns := [], harness := (true, "9bd014c1550aa8503a7586428b7426e1e5358137a2c8e7eb4cc1f68e0cde9d8b"), looks := false }, kinds := [], alts := [], laidByText := true, laidKinds := [.data, .pinned], laidTests := true, laidLooks := .later }
def OpsOwnUptoCardSaid : Prop := Claim7.holds Tryd.pinned (.plain (OpenSpec.upto opsOwnSpec)) opsOwnUptoCard
end Rows
end Go.Proofs.YtfjiikcbcoohdaaDoor
