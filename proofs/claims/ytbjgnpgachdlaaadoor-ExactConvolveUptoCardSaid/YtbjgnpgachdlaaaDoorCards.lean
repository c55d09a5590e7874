/-
  DERIVED. GIVEN WITH THE SEED: THE CARDS: each row of YtbjgnpgachdlaaaDoorRows.lean that lists a variable, with what it lists TIED to the program's text (the seventh form; the later family's looks); each row that meets fmt, with fmt's text TOLD by the authors' own Lean function (tested against real Go, not proved from fmt's source: count such statements apart). THE CARD IS WHAT COUNTS. Prove the row's statement (the work); the ties are given (YtbjgnpgachdlaaaDoorTie.lean); close each card by the builder's one call (the guide's Derived/Test/ToyasCard.lean, 'card_holds'). Laid BY PROGRAM, IN A SANDBOX (cutbox-door.mjs). By AI agents, Wed Nov 11 2026. No macro, syntax, notation, axiom, sorry.
-/
import Derived.Test.YtbjgnpgachdlaaaDoorRows
import GoSem.ClaimSeven
namespace Go.Proofs.YtbjgnpgachdlaaaDoor
namespace Rows

/-- THE TIED CARD OF 'examboardlaw25.ClassicalLinear'. -/
def classicalLinearCard : Claim7 := { stood := { row := classicalLinearRow, standIns := [], harness := (true, "95ee15ccde76ee8d7d3138a608a0a467c7ca1eb0f3269194a38c4f8d7a6a57b0"), looks := false }, kinds := [], alts := [], laidByText := true, laidKinds := [.data, .data, .data], laidTests := true, laidLooks := .later }
def ClassicalLinearCardSaid : Prop := Claim7.holds Tryd.pinned (.plain (OpenSpec.ofChange classicalLinearSpec)) classicalLinearCard

/-- THE TIED CARD OF 'examboardlaw25.ClassicalAlpha'. -/
def classicalAlphaCard : Claim7 := { stood := { row := classicalAlphaRow, standIns := [], harness := (true, "95ee15ccde76ee8d7d3138a608a0a467c7ca1eb0f3269194a38c4f8d7a6a57b0"), looks := false }, kinds := [], alts := [], laidByText := true, laidKinds := [.data, .data, .data], laidTests := true, laidLooks := .later }
def ClassicalAlphaCardSaid : Prop := Claim7.holds Tryd.pinned (.plain (OpenSpec.ofChange classicalAlphaSpec)) classicalAlphaCard

/-- THE TIED CARD OF 'examboardlaw07.ExactConvolve'. -/
def exactConvolveCard : Claim7 := { stood := { row := exactConvolveRow, standIns := [], harness := (true, "95ee15ccde76ee8d7d3138a608a0a467c7ca1eb0f3269194a38c4f8d7a6a57b0"), looks := false }, kinds := [], alts := [], laidByText := true, laidKinds := [.data, .data, .data], laidTests := true, laidLooks := .later }
def ExactConvolveCardSaid : Prop := Claim7.holds Tryd.pinned (.plain (OpenSpec.ofChange exactConvolveSpec)) exactConvolveCard

/-- THE TIED CARD OF 'examboardlaw07.ExactExchange'. -/
def exactExchangeCard : Claim7 := { stood := { row := exactExchangeRow, standIns := [], harness := (true, "95ee15ccde76ee8d7d3138a608a0a467c7ca1eb0f3269194a38c4f8d7a6a57b0"), looks := false }, kinds := [], alts := [], laidByText := true, laidKinds := [.data, .data, .data], laidTests := true, laidLooks := .later }
def ExactExchangeCardSaid : Prop := Claim7.holds Tryd.pinned (.plain (OpenSpec.ofChange exactExchangeSpec)) exactExchangeCard

/-- THE TIED CARD OF 'examboardlaw07.ExactTwoSided'. -/
def exactTwoSidedCard : Claim7 := { stood := { row := exactTwoSidedRow, standIns := [], harness := (true, "95ee15ccde76ee8d7d3138a608a0a467c7ca1eb0f3269194a38c4f8d7a6a57b0"), looks := false }, kinds := [], alts := [], laidByText := true, laidKinds := [.data, .data, .data], laidTests := true, laidLooks := .later }
def ExactTwoSidedCardSaid : Prop := Claim7.holds Tryd.pinned (.plain (OpenSpec.ofChange exactTwoSidedSpec)) exactTwoSidedCard

/-- THE SECOND FORM's CARD OF 'examboardlaw25.ClassicalLinear'. -/
def classicalLinearUptoCard : Claim7 := { stood := { row := classicalLinearUptoRow, standIns := [], harness := (true, "95ee15ccde76ee8d7d3138a608a0a467c7ca1eb0f3269194a38c4f8d7a6a57b0"), looks := false }, kinds := [], alts := [], laidByText := true, laidKinds := [.data, .data, .data], laidTests := true, laidLooks := .later }
def ClassicalLinearUptoCardSaid : Prop := Claim7.holds Tryd.pinned (.plain (OpenSpec.upto classicalLinearSpec)) classicalLinearUptoCard

/-- THE SECOND FORM's CARD OF 'examboardlaw25.ClassicalAlpha'. -/
def classicalAlphaUptoCard : Claim7 := { stood := { row := classicalAlphaUptoRow, standIns := [], harness := (true, "95ee15ccde76ee8d7d3138a608a0a467c7ca1eb0f3269194a38c4f8d7a6a57b0"), looks := false }, kinds := [], alts := [], laidByText := true, laidKinds := [.data, .data, .data], laidTests := true, laidLooks := .later }
def ClassicalAlphaUptoCardSaid : Prop := Claim7.holds Tryd.pinned (.plain (OpenSpec.upto classicalAlphaSpec)) classicalAlphaUptoCard

/-- THE SECOND FORM's CARD OF 'examboardlaw07.ExactConvolve'. -/
def exactConvolveUptoCard : Claim7 := { stood := { row := exactConvolveUptoRow, standIns := [], harness := (true, "95ee15ccde76ee8d7d3138a608a0a467c7ca1eb0f3269194a38c4f8d7a6a57b0"), looks := false }, kinds := [], alts := [], laidByText := true, laidKinds := [.data, .data, .data], laidTests := true, laidLooks := .later }
def ExactConvolveUptoCardSaid : Prop := Claim7.holds Tryd.pinned (.plain (OpenSpec.upto exactConvolveSpec)) exactConvolveUptoCard

/-- THE SECOND FORM's CARD OF 'examboardlaw07.ExactExchange'. -/
def exactExchangeUptoCard : Claim7 := { stood := { row := exactExchangeUptoRow, standIns := [], harness := (true, "95ee15ccde76ee8d7d3138a608a0a467c7ca1eb0f3269194a38c4f8d7a6a57b0"), looks := false }, kinds := [], alts := [], laidByText := true, laidKinds := [.data, .data, .data], laidTests := true, laidLooks := .later }
def ExactExchangeUptoCardSaid : Prop := Claim7.holds Tryd.pinned (.plain (OpenSpec.upto exactExchangeSpec)) exactExchangeUptoCard

/-- THE SECOND FORM's CARD OF 'examboardlaw07.ExactTwoSided'. -/
def exactTwoSidedUptoCard : Claim7 := { stood := { row := exactTwoSidedUptoRow, standIns := [], harness := (true, "95ee15ccde76ee8d7d3138a608a0a467c7ca1eb0f3269194a38c4f8d7a6a57b0"), looks := false }, kinds := [], alts := [], laidByText := true, laidKinds := [.data, .data, .data], laidTests := true, laidLooks := .later }
def ExactTwoSidedUptoCardSaid : Prop := Claim7.holds Tryd.pinned (.plain (OpenSpec.upto exactTwoSidedSpec)) exactTwoSidedUptoCard
end Rows
end Go.Proofs.YtbjgnpgachdlaaaDoor
