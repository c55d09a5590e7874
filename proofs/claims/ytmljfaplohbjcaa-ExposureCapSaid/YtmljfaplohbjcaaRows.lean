/-
  No cell of these rows narrows 'for every input' (looked for: loops, veiled, ifaces, maps, wideKeys, modest, calm, conditions, laid).
  DERIVED. THE GIVEN ROWS OF THIS SEAT. 3 by the template 'for every input the law returns true; each argument reads behind the call as it read before'; 0 by the template 'total and deterministic' (their statements: YtmljfaplohbjcaaTotals.lean).
  GIVEN WITH THE SEED: the statements are not yours to turn. If you find one false, say at which input.
  Laid BY PROGRAM, IN A SANDBOX (cutbox-rows.mjs): the forced cells as the released guide's own fill.sh prints them over the translation 734c0751c42a108b… (all of the seat's roots in one cut). By AI agents, Wed Nov 11 2026. No macro, syntax, notation, axiom, sorry.
-/
import Derived.Test.YtmljfaplohbjcaaChecked
import GoSem.Claim
import GoSem.ClaimJoined
import GoSem.ClaimMapViews
import Derived.JoinedTies
import Derived.KernelRfl
namespace Go.Proofs.Ytmljfaplohbjcaa
/- THE CELL 'sum', in the pinned program and in every row, IS THE sha256 OF THE DUMP (.gsa) THAT YtmljfaplohbjcaaProg.lean LOADS. Nothing in Lean hashes anything: it is a label: what it is worth is what the hold of that sum in a sandbox is worth. -/
noncomputable def Try.pinned : Pinned := { name := "ytmljfaplohbjcaa", sum := "734c0751c42a108bc8868698650eb7e3b737a656e561ac8371ebb0c918a5f230", checked := Try.checked }
namespace Rows
def none {H : Type} : Left H := { results := [], args := [] }

/-- 'examboardlaw37.ExposureOrder': WHATEVER THE INPUT: true; the input reads as it did. -/
def exposureOrderSpec : ChangeSpec := { name := "exposureOrder", fn := fun _ => fun
  | [d1, d2] => { results := [.lit (.bool true)], args := [d1, d2] }
  | _ => none }
def exposureOrderRow : OpenClaim := { program := "ytmljfaplohbjcaa", sum := "734c0751c42a108bc8868698650eb7e3b737a656e561ac8371ebb0c918a5f230", func := "examboard/examboardlaw37.ExposureOrder", spec := "exposureOrder", unfollowed := true, recurses := true, apart := false }
def ExposureOrderSaid : Prop := exposureOrderRow.holds Try.pinned (OpenSpec.ofChange exposureOrderSpec)

/-- ITS FALSE NEIGHBOUR: 'it returns false'. Refute it at one input. -/
def exposureOrderWrong : ChangeSpec := { name := "exposureOrder", fn := fun _ => fun
  | [d1, d2] => { results := [.lit (.bool false)], args := [d1, d2] }
  | _ => none }
def ExposureOrderWrongFalsely : Prop := exposureOrderRow.holds Try.pinned (OpenSpec.ofChange exposureOrderWrong)

/-- 'examboardlaw37.ExposureFilters': WHATEVER THE INPUT: true; the input reads as it did. -/
def exposureFiltersSpec : ChangeSpec := { name := "exposureFilters", fn := fun _ => fun
  | [d1, d2, d3, d4, d5] => { results := [.lit (.bool true)], args := [d1, d2, d3, d4, d5] }
  | _ => none }
def exposureFiltersRow : OpenClaim := { program := "ytmljfaplohbjcaa", sum := "734c0751c42a108bc8868698650eb7e3b737a656e561ac8371ebb0c918a5f230", func := "examboard/examboardlaw37.ExposureFilters", spec := "exposureFilters", recurses := true, apart := false }
def ExposureFiltersSaid : Prop := exposureFiltersRow.holds Try.pinned (OpenSpec.ofChange exposureFiltersSpec)

/-- ITS FALSE NEIGHBOUR: 'it returns false'. Refute it at one input. -/
def exposureFiltersWrong : ChangeSpec := { name := "exposureFilters", fn := fun _ => fun
  | [d1, d2, d3, d4, d5] => { results := [.lit (.bool false)], args := [d1, d2, d3, d4, d5] }
  | _ => none }
def ExposureFiltersWrongFalsely : Prop := exposureFiltersRow.holds Try.pinned (OpenSpec.ofChange exposureFiltersWrong)

/-- 'examboardlaw37.ExposureCap': WHATEVER THE INPUT: true; the input reads as it did. -/
def exposureCapSpec : ChangeSpec := { name := "exposureCap", fn := fun _ => fun
  | [d1, d2, d3] => { results := [.lit (.bool true)], args := [d1, d2, d3] }
  | _ => none }
def exposureCapRow : OpenClaim := { program := "ytmljfaplohbjcaa", sum := "734c0751c42a108bc8868698650eb7e3b737a656e561ac8371ebb0c918a5f230", func := "examboard/examboardlaw37.ExposureCap", spec := "exposureCap", unfollowed := true, recurses := true, apart := false }
def ExposureCapSaid : Prop := exposureCapRow.holds Try.pinned (OpenSpec.ofChange exposureCapSpec)

/-- ITS FALSE NEIGHBOUR: 'it returns false'. Refute it at one input. -/
def exposureCapWrong : ChangeSpec := { name := "exposureCap", fn := fun _ => fun
  | [d1, d2, d3] => { results := [.lit (.bool false)], args := [d1, d2, d3] }
  | _ => none }
def ExposureCapWrongFalsely : Prop := exposureCapRow.holds Try.pinned (OpenSpec.ofChange exposureCapWrong)

/- THE SECOND FORM. 'bulk': how many values and letters a reading holds, each counted each time it is reached (what is shared counts as often as it is met; a slice's spare places count too). A statement '..UptoSaid' is the law's where the arguments, and the package variables that the reading takes, are together of bulk at most 1048576: NARROWER than '..Said'. Prove '..Said' where nothing that the law and all that it calls make is longer than what came in: it says more and counts as full. Else prove '..UptoSaid'. A law counts once. -/
mutual
def uptoBulk {H : Type} : DataW H → Nat
  | .lit (.string bytes) => bytes.length + 1
  | .lit _ => 1
  | .nil => 1
  | .ptr d => uptoBulk d + 1
  | .slice elems spare => uptoBulkAll elems + uptoBulkAll spare + 1
  | .agg parts => uptoBulkAll parts + 1
  | .iface _ d => uptoBulk d + 1
  | .map entries => uptoBulkEntries entries + 1
  | .held _ => 1
def uptoBulkAll {H : Type} : List (DataW H) → Nat
  | [] => 0
  | d :: r => uptoBulk d + uptoBulkAll r
def uptoBulkEntries {H : Type} : List (Lit × DataW H) → Nat
  | [] => 0
  | x :: r => uptoBulkEntry x + uptoBulkEntries r
def uptoBulkEntry {H : Type} : Lit × DataW H → Nat
  | (.string bytes, d) => bytes.length + uptoBulk d + 1
  | (_, d) => uptoBulk d + 1
 end
def uptoSmall : (H : Type) → List (DataW H) → Bool := fun _ ds => decide (uptoBulkAll ds ≤ 1048576)
def OpenSpec.upto (s : _root_.Go.ChangeSpec) : _root_.Go.OpenSpec := { _root_.Go.OpenSpec.ofChange s with cond := some uptoSmall }

/-- 'examboardlaw37.ExposureOrder', WHERE WHAT IT READS IS OF BULK AT MOST 1048576: true; the input reads as it did. -/
def exposureOrderUptoRow : OpenClaim := { program := "ytmljfaplohbjcaa", sum := "734c0751c42a108bc8868698650eb7e3b737a656e561ac8371ebb0c918a5f230", func := "examboard/examboardlaw37.ExposureOrder", spec := "exposureOrder", unfollowed := true, recurses := true, apart := false, narrowed := true }
def ExposureOrderUptoSaid : Prop := exposureOrderUptoRow.holds Try.pinned (OpenSpec.upto exposureOrderSpec)

/-- 'examboardlaw37.ExposureFilters', WHERE WHAT IT READS IS OF BULK AT MOST 1048576: true; the input reads as it did. -/
def exposureFiltersUptoRow : OpenClaim := { program := "ytmljfaplohbjcaa", sum := "734c0751c42a108bc8868698650eb7e3b737a656e561ac8371ebb0c918a5f230", func := "examboard/examboardlaw37.ExposureFilters", spec := "exposureFilters", recurses := true, apart := false, narrowed := true }
def ExposureFiltersUptoSaid : Prop := exposureFiltersUptoRow.holds Try.pinned (OpenSpec.upto exposureFiltersSpec)

/-- 'examboardlaw37.ExposureCap', WHERE WHAT IT READS IS OF BULK AT MOST 1048576: true; the input reads as it did. -/
def exposureCapUptoRow : OpenClaim := { program := "ytmljfaplohbjcaa", sum := "734c0751c42a108bc8868698650eb7e3b737a656e561ac8371ebb0c918a5f230", func := "examboard/examboardlaw37.ExposureCap", spec := "exposureCap", unfollowed := true, recurses := true, apart := false, narrowed := true }
def ExposureCapUptoSaid : Prop := exposureCapUptoRow.holds Try.pinned (OpenSpec.upto exposureCapSpec)

end Rows
end Go.Proofs.Ytmljfaplohbjcaa
