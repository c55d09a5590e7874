/-
  DERIVED. GIVEN WITH THE SEED: THE CARDS: each row of YtnillajhhimeiaaGreatDoorRows.lean that lists a variable, with what it lists TIED to the program's text (the seventh form; the later family's looks); each row that meets fmt, with fmt's text TOLD by the authors' own Lean function (tested against real Go, not proved from fmt's source: count such statements apart). THE CARD IS WHAT COUNTS. Prove the row's statement (the work); the ties are given (YtnillajhhimeiaaGreatDoorTie.lean); close each card by the builder's one call (the guide's Derived/Test/ToyasCard.lean, 'card_holds'). Laid BY PROGRAM, IN A SANDBOX (cutbox-door.mjs). By AI agents, Wed Nov 11 2026. No macro, syntax, notation, axiom, sorry.
-/
import Derived.Test.YtnillajhhimeiaaGreatDoorRows
import GoSem.ClaimSeven
namespace Go.Proofs.YtnillajhhimeiaaGreatDoor
namespace Rows

/-- THE TIED CARD OF 'examboardlaw29.DriftTests'. -/
def driftTestsCard : Claim7 := { stood := { row := driftTestsRow, standIns := [], harness := (true, "cf155b359c5b98e21150dc4986f9442e6769f52d9e8db2c83e1a394674bd86e9"), looks := false }, kinds := [], alts := [], laidByText := true, laidKinds := [.data, .data, .data], laidTests := true, laidLooks := .later }
def DriftTestsCardSaid : Prop := Claim7.holds Tryz.pinned (.plain (OpenSpec.ofChange driftTestsSpec)) driftTestsCard

/-- THE TIED CARD OF 'examboardlaw29.DriftCorrections'. -/
def driftCorrectionsCard : Claim7 := { stood := { row := driftCorrectionsRow, standIns := [], harness := (true, "cf155b359c5b98e21150dc4986f9442e6769f52d9e8db2c83e1a394674bd86e9"), looks := false }, kinds := [], alts := [], laidByText := true, laidKinds := [.data, .data, .data], laidTests := true, laidLooks := .later }
def DriftCorrectionsCardSaid : Prop := Claim7.holds Tryz.pinned (.plain (OpenSpec.ofChange driftCorrectionsSpec)) driftCorrectionsCard

/-- THE TIED CARD OF 'examboardlaw29.DriftFlags'. -/
def driftFlagsCard : Claim7 := { stood := { row := driftFlagsRow, standIns := [], harness := (true, "cf155b359c5b98e21150dc4986f9442e6769f52d9e8db2c83e1a394674bd86e9"), looks := false }, kinds := [], alts := [], laidByText := true, laidKinds := [.data, .data, .data], laidTests := true, laidLooks := .later }
def DriftFlagsCardSaid : Prop := Claim7.holds Tryz.pinned (.plain (OpenSpec.ofChange driftFlagsSpec)) driftFlagsCard

/-- THE SECOND FORM's CARD OF 'examboardlaw29.DriftTests'. -/
def driftTestsUptoCard : Claim7 := { stood := { row := driftTestsUptoRow, standIns := [], harness := (true, "cf155b359c5b98e21150dc4986f9442e6769f52d9e8db2c83e1a394674bd86e9"), looks := false }, kinds := [], alts := [], laidByText := true, laidKinds := [.data, .data, .data], laidTests := true, laidLooks := .later }
def DriftTestsUptoCardSaid : Prop := Claim7.holds Tryz.pinned (.plain (OpenSpec.upto driftTestsSpec)) driftTestsUptoCard

/-- THE SECOND FORM's CARD OF 'examboardlaw29.DriftCorrections'. -/
def driftCorrectionsUptoCard : Claim7 := { stood := { row := driftCorrectionsUptoRow, standIns := [], harness := (true, "cf155b359c5b98e21150dc4986f9442e6769f52d9e8db2c83e1a394674bd86e9"), looks := false }, kinds := [], alts := [], laidByText := true, laidKinds := [.data, .data, .data], laidTests := true, laidLooks := .later }
def DriftCorrectionsUptoCardSaid : Prop := Claim7.holds Tryz.pinned (.plain (OpenSpec.upto driftCorrectionsSpec)) driftCorrectionsUptoCard

/-- THE SECOND FORM's CARD OF 'examboardlaw29.DriftFlags'. -/
def driftFlagsUptoCard : Claim7 := { stood := { row := driftFlagsUptoRow, standIns := [], harness := (true, "cf155b359c5b98e21150dc4986f9442e6769f52d9e8db2c83e1a394674bd86e9"), looks := false }, kinds := [], alts := [], laidByText := true, laidKinds := [.data, .data, .data], laidTests := true, laidLooks := .later }
def DriftFlagsUptoCardSaid : Prop := Claim7.holds Tryz.pinned (.plain (OpenSpec.upto driftFlagsSpec)) driftFlagsUptoCard
end Rows
end Go.Proofs.YtnillajhhimeiaaGreatDoor
