/-
  DERIVED. GIVEN WITH THE SEED: THE CARDS: each row of YtjobopafcgnljaaDoorRows.lean that lists a variable, with what it lists TIED to the program's text (the seventh form; the later family's looks); each row that meets fmt, with fmt's text TOLD by the authors' own Lean function (tested against real Go, not proved from fmt's source: count such statements apart). THE CARD IS WHAT COUNTS. Prove the row's statement (the work); the ties are given (YtjobopafcgnljaaDoorTie.lean); close each card by the builder's one call (the guide's Derived/Test/ToyasCard.lean, 'card_holds'). Laid BY PROGRAM, IN A SANDBOX (cutbox-door.mjs). By AI agents, Wed Nov 11 2026. No macro, syntax, notation, axiom, sorry.
-/
import Derived.Test.YtjobopafcgnljaaDoorRows
import GoSem.ClaimSeven
namespace Go.Proofs.YtjobopafcgnljaaDoor
namespace Rows

/-- THE TIED CARD OF 'examboardlaw31.FitPattern'. -/
def fitPatternCard : Claim7 := { stood := { row := fitPatternRow, standIns := [], harness := (true, "7f829765d8dba6d694215cc44cdece66112f60b22dcd1d2c54b81f7b9ebd1b36"), looks := false }, kinds := [], alts := [], laidByText := true, laidKinds := [.data, .data, .data], laidTests := true, laidLooks := .later }
def FitPatternCardSaid : Prop := Claim7.holds Tryd.pinned (.plain (OpenSpec.ofChange fitPatternSpec)) fitPatternCard

/-- THE SECOND FORM's CARD OF 'examboardlaw31.FitPattern'. -/
def fitPatternUptoCard : Claim7 := { stood := { row := fitPatternUptoRow, standIns := [], harness := (true, "7f829765d8dba6d694215cc44cdece66112f60b22dcd1d2c54b81f7b9ebd1b36"), looks := false }, kinds := [], alts := [], laidByText := true, laidKinds := [.data, .data, .data], laidTests := true, laidLooks := .later }
def FitPatternUptoCardSaid : Prop := Claim7.holds Tryd.pinned (.plain (OpenSpec.upto fitPatternSpec)) fitPatternUptoCard
end Rows
end Go.Proofs.YtjobopafcgnljaaDoor
