/-
  DERIVED. GIVEN WITH THE SEED: THE CARDS: each row of YtbjgnpgachdlaaaGreatDoorRows.lean that lists a variable, with what it lists TIED to the program's text (the seventh form; the later family's looks); each row that meets fmt, with fmt's text TOLD by the authors' own Lean function (tested against real Go, not proved from fmt's source: count such statements apart). THE CARD IS WHAT COUNTS. Prove the row's statement (the work); the ties are given (YtbjgnpgachdlaaaGreatDoorTie.lean); close each card by the builder's one call (the guide's Derived/Test/ToyasCard.lean, 'card_holds'). Laid BY PROGRAM, IN A SANDBOX (cutbox-door.mjs). By AI agents, Wed Nov 11 2026. No macro, syntax, notation, axiom, sorry.
-/
import Derived.Test.YtbjgnpgachdlaaaGreatDoorRows
import GoSem.ClaimSeven
namespace Go.Proofs.YtbjgnpgachdlaaaGreatDoor
namespace Rows

/-- THE TIED CARD OF 'examboardlaw07.ExactMoments'. -/
def exactMomentsCard : Claim7 := { stood := { row := exactMomentsRow, standIns := [], harness := (true, "3d2e00fcc9496a4c3bb93c1d8cecdf08c464726cb985c9df0e5649411e925e7b"), looks := false }, kinds := [], alts := [], laidByText := true, laidKinds := [.data, .data, .data], laidTests := true, laidLooks := .later }
def ExactMomentsCardSaid : Prop := Claim7.holds Tryz.pinned (.plain (OpenSpec.ofChange exactMomentsSpec)) exactMomentsCard

/-- THE TIED CARD OF 'examboardlaw07.ExactHyper'. -/
def exactHyperCard : Claim7 := { stood := { row := exactHyperRow, standIns := [], harness := (true, "3d2e00fcc9496a4c3bb93c1d8cecdf08c464726cb985c9df0e5649411e925e7b"), looks := false }, kinds := [], alts := [], laidByText := true, laidKinds := [.data, .data, .data], laidTests := true, laidLooks := .later }
def ExactHyperCardSaid : Prop := Claim7.holds Tryz.pinned (.plain (OpenSpec.ofChange exactHyperSpec)) exactHyperCard

/-- THE TIED CARD OF 'examboardlaw07.ExactTrials'. -/
def exactTrialsCard : Claim7 := { stood := { row := exactTrialsRow, standIns := [], harness := (true, "3d2e00fcc9496a4c3bb93c1d8cecdf08c464726cb985c9df0e5649411e925e7b"), looks := false }, kinds := [], alts := [], laidByText := true, laidKinds := [.data, .data, .data], laidTests := true, laidLooks := .later }
def ExactTrialsCardSaid : Prop := Claim7.holds Tryz.pinned (.plain (OpenSpec.ofChange exactTrialsSpec)) exactTrialsCard

/-- THE TIED CARD OF 'examboardlaw07.ExactSums'. -/
def exactSumsCard : Claim7 := { stood := { row := exactSumsRow, standIns := [], harness := (true, "3d2e00fcc9496a4c3bb93c1d8cecdf08c464726cb985c9df0e5649411e925e7b"), looks := false }, kinds := [], alts := [], laidByText := true, laidKinds := [.data, .data, .data], laidTests := true, laidLooks := .later }
def ExactSumsCardSaid : Prop := Claim7.holds Tryz.pinned (.plain (OpenSpec.ofChange exactSumsSpec)) exactSumsCard

/-- THE SECOND FORM's CARD OF 'examboardlaw07.ExactMoments'. -/
def exactMomentsUptoCard : Claim7 := { stood := { row := exactMomentsUptoRow, standIns := [], harness := (true, "3d2e00fcc9496a4c3bb93c1d8cecdf08c464726cb985c9df0e5649411e925e7b"), looks := false }, kinds := [], alts := [], laidByText := true, laidKinds := [.data, .data, .data], laidTests := true, laidLooks := .later }
def ExactMomentsUptoCardSaid : Prop := Claim7.holds Tryz.pinned (.plain (OpenSpec.upto exactMomentsSpec)) exactMomentsUptoCard

/-- THE SECOND FORM's CARD OF 'examboardlaw07.ExactHyper'. -/
def exactHyperUptoCard : Claim7 := { stood := { row := exactHyperUptoRow, standIns := [], harness := (true, "3d2e00fcc9496a4c3bb93c1d8cecdf08c464726cb985c9df0e5649411e925e7b"), looks := false }, kinds := [], alts := [], laidByText := true, laidKinds := [.data, .data, .data], laidTests := true, laidLooks := .later }
def ExactHyperUptoCardSaid : Prop := Claim7.holds Tryz.pinned (.plain (OpenSpec.upto exactHyperSpec)) exactHyperUptoCard

/-- THE SECOND FORM's CARD OF 'examboardlaw07.ExactTrials'. -/
def exactTrialsUptoCard : Claim7 := { stood := { row := exactTrialsUptoRow, standIns := [], harness := (true, "3d2e00fcc9496a4c3bb93c1d8cecdf08c464726cb985c9df0e5649411e925e7b"), looks := false }, kinds := [], alts := [], laidByText := true, laidKinds := [.data, .data, .data], laidTests := true, laidLooks := .later }
def ExactTrialsUptoCardSaid : Prop := Claim7.holds Tryz.pinned (.plain (OpenSpec.upto exactTrialsSpec)) exactTrialsUptoCard

/-- THE SECOND FORM's CARD OF 'examboardlaw07.ExactSums'. -/
def exactSumsUptoCard : Claim7 := { stood := { row := exactSumsUptoRow, standIns := [], harness := (true, "3d2e00fcc9496a4c3bb93c1d8cecdf08c464726cb985c9df0e5649411e925e7b"), looks := false }, kinds := [], alts := [], laidByText := true, laidKinds := [.data, .data, .data], laidTests := true, laidLooks := .later }
def ExactSumsUptoCardSaid : Prop := Claim7.holds Tryz.pinned (.plain (OpenSpec.upto exactSumsSpec)) exactSumsUptoCard
end Rows
end Go.Proofs.YtbjgnpgachdlaaaGreatDoor
