/-
  DERIVED. GIVEN WITH THE SEED: THE CARDS: each row of YtnillajhhimeiaaDoorRows.lean that lists a variable, with what it lists TIED to the program's text (the seventh form; the later family's looks); each row that meets fmt, with fmt's text TOLD by the authors' own Lean function (tested against real Go, not proved from fmt's source: count such statements apart). THE CARD IS WHAT COUNTS. Prove the row's statement (the work); the ties are given (YtnillajhhimeiaaDoorTie.lean); close each card by the builder's one call (the guide's Derived/Test/ToyasCard.lean, 'card_holds'). Laid BY PROGRAM, IN A SANDBOX (cutbox-door.mjs). By AI agents, Wed Nov 11 2026. No macro, syntax, notation, axiom, sorry.
-/
import Derived.Test.YtnillajhhimeiaaDoorRows
import GoSem.ClaimSeven
namespace Go.Proofs.YtnillajhhimeiaaDoor
namespace Rows

/-- THE TIED CARD OF 'examboardlaw31.FitPattern'. -/
def fitPatternCard : Claim7 := { stood := { row := fitPatternRow, standIns := [], harness := (true, "04cb182a7dfd8f3c57d610ee796e8e15588461942bb84161eead2022dfdbd822"), looks := false }, kinds := [], alts := [], laidByText := true, laidKinds := [.data, .data, .data], laidTests := true, laidLooks := .later }
def FitPatternCardSaid : Prop := Claim7.holds Tryd.pinned (.plain (OpenSpec.ofChange fitPatternSpec)) fitPatternCard

/-- THE TIED CARD OF 'examboardlaw29.DriftHolm'. -/
def driftHolmCard : Claim7 := { stood := { row := driftHolmRow, standIns := [], harness := (true, "04cb182a7dfd8f3c57d610ee796e8e15588461942bb84161eead2022dfdbd822"), looks := false }, kinds := [], alts := [], laidByText := true, laidKinds := [.data, .data, .data], laidTests := true, laidLooks := .later }
def DriftHolmCardSaid : Prop := Claim7.holds Tryd.pinned (.plain (OpenSpec.ofChange driftHolmSpec)) driftHolmCard

/-- THE TIED CARD OF 'examboardlaw29.DriftSymmetric'. -/
def driftSymmetricCard : Claim7 := { stood := { row := driftSymmetricRow, standIns := [], harness := (true, "04cb182a7dfd8f3c57d610ee796e8e15588461942bb84161eead2022dfdbd822"), looks := false }, kinds := [], alts := [], laidByText := true, laidKinds := [.data, .data, .data], laidTests := true, laidLooks := .later }
def DriftSymmetricCardSaid : Prop := Claim7.holds Tryd.pinned (.plain (OpenSpec.ofChange driftSymmetricSpec)) driftSymmetricCard

/-- THE TIED CARD OF 'examboardlaw29.DriftLevels'. -/
def driftLevelsCard : Claim7 := { stood := { row := driftLevelsRow, standIns := [], harness := (true, "04cb182a7dfd8f3c57d610ee796e8e15588461942bb84161eead2022dfdbd822"), looks := false }, kinds := [], alts := [], laidByText := true, laidKinds := [.data, .data, .data], laidTests := true, laidLooks := .later }
def DriftLevelsCardSaid : Prop := Claim7.holds Tryd.pinned (.plain (OpenSpec.ofChange driftLevelsSpec)) driftLevelsCard

/-- THE SECOND FORM's CARD OF 'examboardlaw31.FitPattern'. -/
def fitPatternUptoCard : Claim7 := { stood := { row := fitPatternUptoRow, standIns := [], harness := (true, "04cb182a7dfd8f3c57d610ee796e8e15588461942bb84161eead2022dfdbd822"), looks := false }, kinds := [], alts := [], laidByText := true, laidKinds := [.data, .data, .data], laidTests := true, laidLooks := .later }
def FitPatternUptoCardSaid : Prop := Claim7.holds Tryd.pinned (.plain (OpenSpec.upto fitPatternSpec)) fitPatternUptoCard

/-- THE SECOND FORM's CARD OF 'examboardlaw29.DriftHolm'. -/
def driftHolmUptoCard : Claim7 := { stood := { row := driftHolmUptoRow, standIns := [], harness := (true, "04cb182a7dfd8f3c57d610ee796e8e15588461942bb84161eead2022dfdbd822"), looks := false }, kinds := [], alts := [], laidByText := true, laidKinds := [.data, .data, .data], laidTests := true, laidLooks := .later }
def DriftHolmUptoCardSaid : Prop := Claim7.holds Tryd.pinned (.plain (OpenSpec.upto driftHolmSpec)) driftHolmUptoCard

/-- THE SECOND FORM's CARD OF 'examboardlaw29.DriftSymmetric'. -/
def driftSymmetricUptoCard : Claim7 := { stood := { row := driftSymmetricUptoRow, standIns := [], harness := (true, "04cb182a7dfd8f3c57d610ee796e8e15588461942bb84161eead2022dfdbd822"), looks := false }, kinds := [], alts := [], laidByText := true, laidKinds := [.data, .data, .data], laidTests := true, laidLooks := .later }
def DriftSymmetricUptoCardSaid : Prop := Claim7.holds Tryd.pinned (.plain (OpenSpec.upto driftSymmetricSpec)) driftSymmetricUptoCard

/-- THE SECOND FORM's CARD OF 'examboardlaw29.DriftLevels'. -/
def driftLevelsUptoCard : Claim7 := { stood := { row := driftLevelsUptoRow, standIns := [], harness := (true, "04cb182a7dfd8f3c57d610ee796e8e15588461942bb84161eead2022dfdbd822"), looks := false }, kinds := [], alts := [], laidByText := true, laidKinds := [.data, .data, .data], laidTests := true, laidLooks := .later }
def DriftLevelsUptoCardSaid : Prop := Claim7.holds Tryd.pinned (.plain (OpenSpec.upto driftLevelsSpec)) driftLevelsUptoCard
end Rows
end Go.Proofs.YtnillajhhimeiaaDoor
