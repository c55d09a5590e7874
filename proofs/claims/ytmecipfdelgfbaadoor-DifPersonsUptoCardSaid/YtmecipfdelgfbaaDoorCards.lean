/-
  DERIVED. GIVEN WITH THE SEED: THE CARDS: each row of YtmecipfdelgfbaaDoorRows.lean that lists a variable, with what it lists TIED to the program's text (the seventh form; the later family's looks); each row that meets fmt, with fmt's text TOLD by the authors' own Lean function (tested against real Go, not proved from fmt's source: count such statements apart). THE CARD IS WHAT COUNTS. Prove the row's statement (the work); the ties are given (YtmecipfdelgfbaaDoorTie.lean); close each card by the builder's one call (the guide's Derived/Test/ToyasCard.lean, 'card_holds'). Laid BY PROGRAM, IN A SANDBOX (cutbox-door.mjs). By AI agents, Wed Nov 11 2026. No macro, syntax, notation, axiom, sorry.
-/
import Derived.Test.YtmecipfdelgfbaaDoorRows
import GoSem.ClaimSeven
namespace Go.Proofs.YtmecipfdelgfbaaDoor
namespace Rows

/-- THE TIED CARD OF 'examboardlaw30.DifSymmetric'. -/
def difSymmetricCard : Claim7 := { stood := { row := difSymmetricRow, standIns := [], harness := (true, "7f787cf6296d1316199c040273038d779fd511f2e2111b096cfdb4ab52da7c7d"), looks := false }, kinds := [], alts := [], laidByText := true, laidKinds := [.data, .data, .data], laidTests := true, laidLooks := .later }
def DifSymmetricCardSaid : Prop := Claim7.holds Tryd.pinned (.plain (OpenSpec.ofChange difSymmetricSpec)) difSymmetricCard

/-- THE TIED CARD OF 'examboardlaw30.DifFlags'. -/
def difFlagsCard : Claim7 := { stood := { row := difFlagsRow, standIns := [], harness := (true, "7f787cf6296d1316199c040273038d779fd511f2e2111b096cfdb4ab52da7c7d"), looks := false }, kinds := [], alts := [], laidByText := true, laidKinds := [.data, .data, .data], laidTests := true, laidLooks := .later }
def DifFlagsCardSaid : Prop := Claim7.holds Tryd.pinned (.plain (OpenSpec.ofChange difFlagsSpec)) difFlagsCard

/-- THE TIED CARD OF 'examboardlaw30.DifNull'. -/
def difNullCard : Claim7 := { stood := { row := difNullRow, standIns := [], harness := (true, "7f787cf6296d1316199c040273038d779fd511f2e2111b096cfdb4ab52da7c7d"), looks := false }, kinds := [], alts := [], laidByText := true, laidKinds := [.data, .data, .data], laidTests := true, laidLooks := .later }
def DifNullCardSaid : Prop := Claim7.holds Tryd.pinned (.plain (OpenSpec.ofChange difNullSpec)) difNullCard

/-- THE TIED CARD OF 'examboardlaw30.DifPersons'. -/
def difPersonsCard : Claim7 := { stood := { row := difPersonsRow, standIns := [], harness := (true, "7f787cf6296d1316199c040273038d779fd511f2e2111b096cfdb4ab52da7c7d"), looks := false }, kinds := [], alts := [], laidByText := true, laidKinds := [.data, .data, .data], laidTests := true, laidLooks := .later }
def DifPersonsCardSaid : Prop := Claim7.holds Tryd.pinned (.plain (OpenSpec.ofChange difPersonsSpec)) difPersonsCard

/-- THE SECOND FORM's CARD OF 'examboardlaw30.DifSymmetric'. -/
def difSymmetricUptoCard : Claim7 := { stood := { row := difSymmetricUptoRow, standIns := [], harness := (true, "7f787cf6296d1316199c040273038d779fd511f2e2111b096cfdb4ab52da7c7d"), looks := false }, kinds := [], alts := [], laidByText := true, laidKinds := [.data, .data, .data], laidTests := true, laidLooks := .later }
def DifSymmetricUptoCardSaid : Prop := Claim7.holds Tryd.pinned (.plain (OpenSpec.upto difSymmetricSpec)) difSymmetricUptoCard

/-- THE SECOND FORM's CARD OF 'examboardlaw30.DifFlags'. -/
def difFlagsUptoCard : Claim7 := { stood := { row := difFlagsUptoRow, standIns := [], harness := (true, "7f787cf6296d1316199c040273038d779fd511f2e2111b096cfdb4ab52da7c7d"), looks := false }, kinds := [], alts := [], laidByText := true, laidKinds := [.data, .data, .data], laidTests := true, laidLooks := .later }
def DifFlagsUptoCardSaid : Prop := Claim7.holds Tryd.pinned (.plain (OpenSpec.upto difFlagsSpec)) difFlagsUptoCard

/-- THE SECOND FORM's CARD OF 'examboardlaw30.DifNull'. -/
def difNullUptoCard : Claim7 := { stood := { row := difNullUptoRow, standIns := [], harness := (true, "7f787cf6296d1316199c040273038d779fd511f2e2111b096cfdb4ab52da7c7d"), looks := false }, kinds := [], alts := [], laidByText := true, laidKinds := [.data, .data, .data], laidTests := true, laidLooks := .later }
def DifNullUptoCardSaid : Prop := Claim7.holds Tryd.pinned (.plain (OpenSpec.upto difNullSpec)) difNullUptoCard

/-- THE SECOND FORM's CARD OF 'examboardlaw30.DifPersons'. -/
def difPersonsUptoCard : Claim7 := { stood := { row := difPersonsUptoRow, standIns := [], harness := (true, "7f787cf6296d1316199c040273038d779fd511f2e2111b096cfdb4ab52da7c7d"), looks := false }, kinds := [], alts := [], laidByText := true, laidKinds := [.data, .data, .data], laidTests := true, laidLooks := .later }
def DifPersonsUptoCardSaid : Prop := Claim7.holds Tryd.pinned (.plain (OpenSpec.upto difPersonsSpec)) difPersonsUptoCard
end Rows
end Go.Proofs.YtmecipfdelgfbaaDoor
