/-
  No cell of these rows narrows 'for every input' (looked for: loops, veiled, ifaces, maps, wideKeys, modest, calm, conditions, laid).
  DERIVED. THE GIVEN ROWS OF THIS SEAT. 3 by the template 'for every input the law returns true; each argument reads behind the call as it read before'; 0 by the template 'total and deterministic' (their statements: YtjobopafcgnljaaTotals.lean).
  GIVEN WITH THE SEED: the statements are not yours to turn. If you find one false, say at which input.
  Laid BY PROGRAM, IN A SANDBOX (cutbox-rows.mjs): the forced cells as the released guide's own fill.sh prints them over the translation 3848682a3542df79… (all of the seat's roots in one cut). By AI agents, Wed Nov 11 2026. No macro, syntax, notation, axiom, sorry.
-/
import Derived.Test.YtjobopafcgnljaaChecked
import GoSem.Claim
import GoSem.ClaimJoined
import GoSem.ClaimMapViews
import Derived.JoinedTies
import Derived.KernelRfl
namespace Go.Proofs.Ytjobopafcgnljaa
/- THE CELL 'sum', in the pinned program and in every row, IS THE sha256 OF THE DUMP (.gsa) THAT YtjobopafcgnljaaProg.lean LOADS. Nothing in Lean hashes anything: it is a label: what it is worth is what the hold of that sum in a sandbox is worth. -/
noncomputable def Try.pinned : Pinned := { name := "ytjobopafcgnljaa", sum := "3848682a3542df7941d5b3cb0fbc03c2f529b9ff96566e9f79a2a5e5cbcd02ff", checked := Try.checked }
namespace Rows
def none {H : Type} : Left H := { results := [], args := [] }

/-- 'examboardlaw31.FitTests': WHATEVER THE INPUT: true; the input reads as it did. -/
def fitTestsSpec : ChangeSpec := { name := "fitTests", fn := fun _ => fun
  | [d1, d2] => { results := [.lit (.bool true)], args := [d1, d2] }
  | _ => none }
def fitTestsRow : OpenClaim := { program := "ytjobopafcgnljaa", sum := "3848682a3542df7941d5b3cb0fbc03c2f529b9ff96566e9f79a2a5e5cbcd02ff", func := "examboard/examboardlaw31.FitTests", spec := "fitTests", apart := false }
def FitTestsSaid : Prop := fitTestsRow.holds Try.pinned (OpenSpec.ofChange fitTestsSpec)

/-- ITS FALSE NEIGHBOUR: 'it returns false'. Refute it at one input. -/
def fitTestsWrong : ChangeSpec := { name := "fitTests", fn := fun _ => fun
  | [d1, d2] => { results := [.lit (.bool false)], args := [d1, d2] }
  | _ => none }
def FitTestsWrongFalsely : Prop := fitTestsRow.holds Try.pinned (OpenSpec.ofChange fitTestsWrong)

/-- 'examboardlaw31.FitModel': WHATEVER THE INPUT: true; the input reads as it did. -/
def fitModelSpec : ChangeSpec := { name := "fitModel", fn := fun _ => fun
  | [d] => { results := [.lit (.bool true)], args := [d] }
  | _ => none }
def fitModelRow : OpenClaim := { program := "ytjobopafcgnljaa", sum := "3848682a3542df7941d5b3cb0fbc03c2f529b9ff96566e9f79a2a5e5cbcd02ff", func := "examboard/examboardlaw31.FitModel", spec := "fitModel", apart := false }
def FitModelSaid : Prop := fitModelRow.holds Try.pinned (OpenSpec.ofChange fitModelSpec)

/-- ITS FALSE NEIGHBOUR: 'it returns false'. Refute it at one input. -/
def fitModelWrong : ChangeSpec := { name := "fitModel", fn := fun _ => fun
  | [d] => { results := [.lit (.bool false)], args := [d] }
  | _ => none }
def FitModelWrongFalsely : Prop := fitModelRow.holds Try.pinned (OpenSpec.ofChange fitModelWrong)

/-- 'examboardlaw31.FitNulls': WHATEVER THE INPUT: true; the input reads as it did. -/
def fitNullsSpec : ChangeSpec := { name := "fitNulls", fn := fun _ => fun
  | [d] => { results := [.lit (.bool true)], args := [d] }
  | _ => none }
def fitNullsRow : OpenClaim := { program := "ytjobopafcgnljaa", sum := "3848682a3542df7941d5b3cb0fbc03c2f529b9ff96566e9f79a2a5e5cbcd02ff", func := "examboard/examboardlaw31.FitNulls", spec := "fitNulls", unfollowed := true, recurses := true, apart := false }
def FitNullsSaid : Prop := fitNullsRow.holds Try.pinned (OpenSpec.ofChange fitNullsSpec)

/-- ITS FALSE NEIGHBOUR: 'it returns false'. Refute it at one input. -/
def fitNullsWrong : ChangeSpec := { name := "fitNulls", fn := fun _ => fun
  | [d] => { results := [.lit (.bool false)], args := [d] }
  | _ => none }
def FitNullsWrongFalsely : Prop := fitNullsRow.holds Try.pinned (OpenSpec.ofChange fitNullsWrong)

/- THE SECOND FORM. 'bulk': how many values and letters a reading holds, each counted each time it is reached (what is shared counts as often as it is met; a slice's spare places count too). A statement '..UptoSaid' is the law's where the arguments, and the package variables that the reading takes, are together of bulk at most 1048576: NARROWER than '..Said'. Prove '..Said' where nothing that the law and all that it calls make is longer than what came in: it says more and counts as full. Else prove '..UptoSaid'. A law counts once. -/
mutual
def uptoBulk {H : Type} : DataW H → Nat
  | .lit (.string bytes) => bytes.length + 1
  | .lit _ => 1
  | .nil => 1
  | .ptr d => uptoBulk d + 1
  | .slice elems spare => uptoBulkAll elems + uptoBulkAll spare + 1
  | .agg parts => uptoBulkAll parts + 1
  | .iface _ d => uptoBulk d + 1
  | .map entries => uptoBulkEntries entries + 1
  | .held _ => 1
def uptoBulkAll {H : Type} : List (DataW H) → Nat
  | [] => 0
  | d :: r => uptoBulk d + uptoBulkAll r
def uptoBulkEntries {H : Type} : List (Lit × DataW H) → Nat
  | [] => 0
  | x :: r => uptoBulkEntry x + uptoBulkEntries r
def uptoBulkEntry {H : Type} : Lit × DataW H → Nat
  | (.string bytes, d) => bytes.length + uptoBulk d + 1
  | (_, d) => uptoBulk d + 1
 end
def uptoSmall : (H : Type) → List (DataW H) → Bool := fun _ ds => decide (uptoBulkAll ds ≤ 1048576)
def OpenSpec.upto (s : _root_.Go.ChangeSpec) : _root_.Go.OpenSpec := { _root_.Go.OpenSpec.ofChange s with cond := some uptoSmall }

/-- 'examboardlaw31.FitTests', WHERE WHAT IT READS IS OF BULK AT MOST 1048576: true; the input reads as it did. -/
def fitTestsUptoRow : OpenClaim := { program := "ytjobopafcgnljaa", sum := "3848682a3542df7941d5b3cb0fbc03c2f529b9ff96566e9f79a2a5e5cbcd02ff", func := "examboard/examboardlaw31.FitTests", spec := "fitTests", apart := false, narrowed := true }
def FitTestsUptoSaid : Prop := fitTestsUptoRow.holds Try.pinned (OpenSpec.upto fitTestsSpec)

/-- 'examboardlaw31.FitModel', WHERE WHAT IT READS IS OF BULK AT MOST 1048576: true; the input reads as it did. -/
def fitModelUptoRow : OpenClaim := { program := "ytjobopafcgnljaa", sum := "3848682a3542df7941d5b3cb0fbc03c2f529b9ff96566e9f79a2a5e5cbcd02ff", func := "examboard/examboardlaw31.FitModel", spec := "fitModel", apart := false, narrowed := true }
def FitModelUptoSaid : Prop := fitModelUptoRow.holds Try.pinned (OpenSpec.upto fitModelSpec)

/-- 'examboardlaw31.FitNulls', WHERE WHAT IT READS IS OF BULK AT MOST 1048576: true; the input reads as it did. -/
def fitNullsUptoRow : OpenClaim := { program := "ytjobopafcgnljaa", sum := "3848682a3542df7941d5b3cb0fbc03c2f529b9ff96566e9f79a2a5e5cbcd02ff", func := "examboard/examboardlaw31.FitNulls", spec := "fitNulls", unfollowed := true, recurses := true, apart := false, narrowed := true }
def FitNullsUptoSaid : Prop := fitNullsUptoRow.holds Try.pinned (OpenSpec.upto fitNullsSpec)

end Rows
end Go.Proofs.Ytjobopafcgnljaa
