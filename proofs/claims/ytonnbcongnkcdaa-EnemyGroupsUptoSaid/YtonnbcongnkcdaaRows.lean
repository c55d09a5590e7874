/-
  No cell of these rows narrows 'for every input' (looked for: loops, veiled, ifaces, maps, wideKeys, modest, calm, conditions, laid).
  DERIVED. THE GIVEN ROWS OF THIS SEAT. 7 by the template 'for every input the law returns true; each argument reads behind the call as it read before'; 0 by the template 'total and deterministic' (their statements: YtonnbcongnkcdaaTotals.lean).
  GIVEN WITH THE SEED: the statements are not yours to turn. If you find one false, say at which input.
  Laid BY PROGRAM, IN A SANDBOX (cutbox-rows.mjs): the forced cells as the released guide's own fill.sh prints them over the translation be18dfed2c7cb729… (all of the seat's roots in one cut). By AI agents, Wed Nov 11 2026. No macro, syntax, notation, axiom, sorry.
-/
import Derived.Test.YtonnbcongnkcdaaChecked
import GoSem.Claim
import GoSem.ClaimJoined
import GoSem.ClaimMapViews
import Derived.JoinedTies
import Derived.KernelRfl
namespace Go.Proofs.Ytonnbcongnkcdaa
/- THE CELL 'sum', in the pinned program and in every row, IS THE sha256 OF THE DUMP (.gsa) THAT YtonnbcongnkcdaaProg.lean LOADS. Nothing in Lean hashes anything: it is a label: what it is worth is what the hold of that sum in a sandbox is worth. -/
noncomputable def Try.pinned : Pinned := { name := "ytonnbcongnkcdaa", sum := "be18dfed2c7cb7293af9253370164c49a8f93dacdd913fdbab03f715ab9c90a6", checked := Try.checked }
namespace Rows
def none {H : Type} : Left H := { results := [], args := [] }

/-- 'examboardlaw16.EnemyNorm': WHATEVER THE INPUT: true; the input reads as it did. -/
def enemyNormSpec : ChangeSpec := { name := "enemyNorm", fn := fun _ => fun
  | [d] => { results := [.lit (.bool true)], args := [d] }
  | _ => none }
def enemyNormRow : OpenClaim := { program := "ytonnbcongnkcdaa", sum := "be18dfed2c7cb7293af9253370164c49a8f93dacdd913fdbab03f715ab9c90a6", func := "examboard/examboardlaw16.EnemyNorm", spec := "enemyNorm", unfollowed := true, recurses := true, apart := false }
def EnemyNormSaid : Prop := enemyNormRow.holds Try.pinned (OpenSpec.ofChange enemyNormSpec)

/-- ITS FALSE NEIGHBOUR: 'it returns false'. Refute it at one input. -/
def enemyNormWrong : ChangeSpec := { name := "enemyNorm", fn := fun _ => fun
  | [d] => { results := [.lit (.bool false)], args := [d] }
  | _ => none }
def EnemyNormWrongFalsely : Prop := enemyNormRow.holds Try.pinned (OpenSpec.ofChange enemyNormWrong)

/-- 'examboardlaw16.EnemyChanges': WHATEVER THE INPUT: true; the input reads as it did. -/
def enemyChangesSpec : ChangeSpec := { name := "enemyChanges", fn := fun _ => fun
  | [d1, d2, d3] => { results := [.lit (.bool true)], args := [d1, d2, d3] }
  | _ => none }
def enemyChangesRow : OpenClaim := { program := "ytonnbcongnkcdaa", sum := "be18dfed2c7cb7293af9253370164c49a8f93dacdd913fdbab03f715ab9c90a6", func := "examboard/examboardlaw16.EnemyChanges", spec := "enemyChanges", unfollowed := true, recurses := true, apart := false }
def EnemyChangesSaid : Prop := enemyChangesRow.holds Try.pinned (OpenSpec.ofChange enemyChangesSpec)

/-- ITS FALSE NEIGHBOUR: 'it returns false'. Refute it at one input. -/
def enemyChangesWrong : ChangeSpec := { name := "enemyChanges", fn := fun _ => fun
  | [d1, d2, d3] => { results := [.lit (.bool false)], args := [d1, d2, d3] }
  | _ => none }
def EnemyChangesWrongFalsely : Prop := enemyChangesRow.holds Try.pinned (OpenSpec.ofChange enemyChangesWrong)

/-- 'examboardlaw16.EnemyConflicts': WHATEVER THE INPUT: true; the input reads as it did. -/
def enemyConflictsSpec : ChangeSpec := { name := "enemyConflicts", fn := fun _ => fun
  | [d1, d2, d3] => { results := [.lit (.bool true)], args := [d1, d2, d3] }
  | _ => none }
def enemyConflictsRow : OpenClaim := { program := "ytonnbcongnkcdaa", sum := "be18dfed2c7cb7293af9253370164c49a8f93dacdd913fdbab03f715ab9c90a6", func := "examboard/examboardlaw16.EnemyConflicts", spec := "enemyConflicts", unfollowed := true, recurses := true, apart := false }
def EnemyConflictsSaid : Prop := enemyConflictsRow.holds Try.pinned (OpenSpec.ofChange enemyConflictsSpec)

/-- ITS FALSE NEIGHBOUR: 'it returns false'. Refute it at one input. -/
def enemyConflictsWrong : ChangeSpec := { name := "enemyConflicts", fn := fun _ => fun
  | [d1, d2, d3] => { results := [.lit (.bool false)], args := [d1, d2, d3] }
  | _ => none }
def EnemyConflictsWrongFalsely : Prop := enemyConflictsRow.holds Try.pinned (OpenSpec.ofChange enemyConflictsWrong)

/-- 'examboardlaw16.EnemyGroups': WHATEVER THE INPUT: true; the input reads as it did. -/
def enemyGroupsSpec : ChangeSpec := { name := "enemyGroups", fn := fun _ => fun
  | [d1, d2] => { results := [.lit (.bool true)], args := [d1, d2] }
  | _ => none }
def enemyGroupsRow : OpenClaim := { program := "ytonnbcongnkcdaa", sum := "be18dfed2c7cb7293af9253370164c49a8f93dacdd913fdbab03f715ab9c90a6", func := "examboard/examboardlaw16.EnemyGroups", spec := "enemyGroups", unfollowed := true, recurses := true, apart := false }
def EnemyGroupsSaid : Prop := enemyGroupsRow.holds Try.pinned (OpenSpec.ofChange enemyGroupsSpec)

/-- ITS FALSE NEIGHBOUR: 'it returns false'. Refute it at one input. -/
def enemyGroupsWrong : ChangeSpec := { name := "enemyGroups", fn := fun _ => fun
  | [d1, d2] => { results := [.lit (.bool false)], args := [d1, d2] }
  | _ => none }
def EnemyGroupsWrongFalsely : Prop := enemyGroupsRow.holds Try.pinned (OpenSpec.ofChange enemyGroupsWrong)

/-- 'examboardlaw16.EnemyIndependent': WHATEVER THE INPUT: true; the input reads as it did. -/
def enemyIndependentSpec : ChangeSpec := { name := "enemyIndependent", fn := fun _ => fun
  | [d1, d2, d3] => { results := [.lit (.bool true)], args := [d1, d2, d3] }
  | _ => none }
def enemyIndependentRow : OpenClaim := { program := "ytonnbcongnkcdaa", sum := "be18dfed2c7cb7293af9253370164c49a8f93dacdd913fdbab03f715ab9c90a6", func := "examboard/examboardlaw16.EnemyIndependent", spec := "enemyIndependent", unfollowed := true, recurses := true, apart := false }
def EnemyIndependentSaid : Prop := enemyIndependentRow.holds Try.pinned (OpenSpec.ofChange enemyIndependentSpec)

/-- ITS FALSE NEIGHBOUR: 'it returns false'. Refute it at one input. -/
def enemyIndependentWrong : ChangeSpec := { name := "enemyIndependent", fn := fun _ => fun
  | [d1, d2, d3] => { results := [.lit (.bool false)], args := [d1, d2, d3] }
  | _ => none }
def EnemyIndependentWrongFalsely : Prop := enemyIndependentRow.holds Try.pinned (OpenSpec.ofChange enemyIndependentWrong)

/-- 'examboardlaw16.EnemyUndo': WHATEVER THE INPUT: true; the input reads as it did. -/
def enemyUndoSpec : ChangeSpec := { name := "enemyUndo", fn := fun _ => fun
  | [d1, d2, d3, d4, d5] => { results := [.lit (.bool true)], args := [d1, d2, d3, d4, d5] }
  | _ => none }
def enemyUndoRow : OpenClaim := { program := "ytonnbcongnkcdaa", sum := "be18dfed2c7cb7293af9253370164c49a8f93dacdd913fdbab03f715ab9c90a6", func := "examboard/examboardlaw16.EnemyUndo", spec := "enemyUndo", unfollowed := true, recurses := true, apart := false }
def EnemyUndoSaid : Prop := enemyUndoRow.holds Try.pinned (OpenSpec.ofChange enemyUndoSpec)

/-- ITS FALSE NEIGHBOUR: 'it returns false'. Refute it at one input. -/
def enemyUndoWrong : ChangeSpec := { name := "enemyUndo", fn := fun _ => fun
  | [d1, d2, d3, d4, d5] => { results := [.lit (.bool false)], args := [d1, d2, d3, d4, d5] }
  | _ => none }
def EnemyUndoWrongFalsely : Prop := enemyUndoRow.holds Try.pinned (OpenSpec.ofChange enemyUndoWrong)

/-- 'examboardlaw16.EnemyForms': WHATEVER THE INPUT: true; the input reads as it did. -/
def enemyFormsSpec : ChangeSpec := { name := "enemyForms", fn := fun _ => fun
  | [d1, d2, d3, d4] => { results := [.lit (.bool true)], args := [d1, d2, d3, d4] }
  | _ => none }
def enemyFormsRow : OpenClaim := { program := "ytonnbcongnkcdaa", sum := "be18dfed2c7cb7293af9253370164c49a8f93dacdd913fdbab03f715ab9c90a6", func := "examboard/examboardlaw16.EnemyForms", spec := "enemyForms", unfollowed := true, recurses := true, apart := false }
def EnemyFormsSaid : Prop := enemyFormsRow.holds Try.pinned (OpenSpec.ofChange enemyFormsSpec)

/-- ITS FALSE NEIGHBOUR: 'it returns false'. Refute it at one input. -/
def enemyFormsWrong : ChangeSpec := { name := "enemyForms", fn := fun _ => fun
  | [d1, d2, d3, d4] => { results := [.lit (.bool false)], args := [d1, d2, d3, d4] }
  | _ => none }
def EnemyFormsWrongFalsely : Prop := enemyFormsRow.holds Try.pinned (OpenSpec.ofChange enemyFormsWrong)

/- THE SECOND FORM. 'bulk': how many values and letters a reading holds, each counted each time it is reached (what is shared counts as often as it is met; a slice's spare places count too). A statement '..UptoSaid' is the law's where the arguments, and the package variables that the reading takes, are together of bulk at most 1048576: NARROWER than '..Said'. Prove '..Said' where nothing that the law and all that it calls make is longer than what came in: it says more and counts as full. Else prove '..UptoSaid'. A law counts once. -/
mutual
def uptoBulk {H : Type} : DataW H → Nat
  | .lit (.string bytes) => bytes.length + 1
  | .lit _ => 1
  | .nil => 1
  | .ptr d => uptoBulk d + 1
  | .slice elems spare => uptoBulkAll elems + uptoBulkAll spare + 1
  | .agg parts => uptoBulkAll parts + 1
  | .iface _ d => uptoBulk d + 1
  | .map entries => uptoBulkEntries entries + 1
  | .held _ => 1
def uptoBulkAll {H : Type} : List (DataW H) → Nat
  | [] => 0
  | d :: r => uptoBulk d + uptoBulkAll r
def uptoBulkEntries {H : Type} : List (Lit × DataW H) → Nat
  | [] => 0
  | x :: r => uptoBulkEntry x + uptoBulkEntries r
def uptoBulkEntry {H : Type} : Lit × DataW H → Nat
  | (.string bytes, d) => bytes.length + uptoBulk d + 1
  | (_, d) => uptoBulk d + 1
 end
def uptoSmall : (H : Type) → List (DataW H) → Bool := fun _ ds => decide (uptoBulkAll ds ≤ 1048576)
def OpenSpec.upto (s : _root_.Go.ChangeSpec) : _root_.Go.OpenSpec := { _root_.Go.OpenSpec.ofChange s with cond := some uptoSmall }

/-- 'examboardlaw16.EnemyNorm', WHERE WHAT IT READS IS OF BULK AT MOST 1048576: true; the input reads as it did. -/
def enemyNormUptoRow : OpenClaim := { program := "ytonnbcongnkcdaa", sum := "be18dfed2c7cb7293af9253370164c49a8f93dacdd913fdbab03f715ab9c90a6", func := "examboard/examboardlaw16.EnemyNorm", spec := "enemyNorm", unfollowed := true, recurses := true, apart := false, narrowed := true }
def EnemyNormUptoSaid : Prop := enemyNormUptoRow.holds Try.pinned (OpenSpec.upto enemyNormSpec)

/-- 'examboardlaw16.EnemyChanges', WHERE WHAT IT READS IS OF BULK AT MOST 1048576: true; the input reads as it did. -/
def enemyChangesUptoRow : OpenClaim := { program := "ytonnbcongnkcdaa", sum := "be18dfed2c7cb7293af9253370164c49a8f93dacdd913fdbab03f715ab9c90a6", func := "examboard/examboardlaw16.EnemyChanges", spec := "enemyChanges", unfollowed := true, recurses := true, apart := false, narrowed := true }
def EnemyChangesUptoSaid : Prop := enemyChangesUptoRow.holds Try.pinned (OpenSpec.upto enemyChangesSpec)

/-- 'examboardlaw16.EnemyConflicts', WHERE WHAT IT READS IS OF BULK AT MOST 1048576: true; the input reads as it did. -/
def enemyConflictsUptoRow : OpenClaim := { program := "ytonnbcongnkcdaa", sum := "be18dfed2c7cb7293af9253370164c49a8f93dacdd913fdbab03f715ab9c90a6", func := "examboard/examboardlaw16.EnemyConflicts", spec := "enemyConflicts", unfollowed := true, recurses := true, apart := false, narrowed := true }
def EnemyConflictsUptoSaid : Prop := enemyConflictsUptoRow.holds Try.pinned (OpenSpec.upto enemyConflictsSpec)

/-- 'examboardlaw16.EnemyGroups', WHERE WHAT IT READS IS OF BULK AT MOST 1048576: true; the input reads as it did. -/
def enemyGroupsUptoRow : OpenClaim := { program := "ytonnbcongnkcdaa", sum := "be18dfed2c7cb7293af9253370164c49a8f93dacdd913fdbab03f715ab9c90a6", func := "examboard/examboardlaw16.EnemyGroups", spec := "enemyGroups", unfollowed := true, recurses := true, apart := false, narrowed := true }
def EnemyGroupsUptoSaid : Prop := enemyGroupsUptoRow.holds Try.pinned (OpenSpec.upto enemyGroupsSpec)

/-- 'examboardlaw16.EnemyIndependent', WHERE WHAT IT READS IS OF BULK AT MOST 1048576: true; the input reads as it did. -/
def enemyIndependentUptoRow : OpenClaim := { program := "ytonnbcongnkcdaa", sum := "be18dfed2c7cb7293af9253370164c49a8f93dacdd913fdbab03f715ab9c90a6", func := "examboard/examboardlaw16.EnemyIndependent", spec := "enemyIndependent", unfollowed := true, recurses := true, apart := false, narrowed := true }
def EnemyIndependentUptoSaid : Prop := enemyIndependentUptoRow.holds Try.pinned (OpenSpec.upto enemyIndependentSpec)

/-- 'examboardlaw16.EnemyUndo', WHERE WHAT IT READS IS OF BULK AT MOST 1048576: true; the input reads as it did. -/
def enemyUndoUptoRow : OpenClaim := { program := "ytonnbcongnkcdaa", sum := "be18dfed2c7cb7293af9253370164c49a8f93dacdd913fdbab03f715ab9c90a6", func := "examboard/examboardlaw16.EnemyUndo", spec := "enemyUndo", unfollowed := true, recurses := true, apart := false, narrowed := true }
def EnemyUndoUptoSaid : Prop := enemyUndoUptoRow.holds Try.pinned (OpenSpec.upto enemyUndoSpec)

/-- 'examboardlaw16.EnemyForms', WHERE WHAT IT READS IS OF BULK AT MOST 1048576: true; the input reads as it did. -/
def enemyFormsUptoRow : OpenClaim := { program := "ytonnbcongnkcdaa", sum := "be18dfed2c7cb7293af9253370164c49a8f93dacdd913fdbab03f715ab9c90a6", func := "examboard/examboardlaw16.EnemyForms", spec := "enemyForms", unfollowed := true, recurses := true, apart := false, narrowed := true }
def EnemyFormsUptoSaid : Prop := enemyFormsUptoRow.holds Try.pinned (OpenSpec.upto enemyFormsSpec)

end Rows
end Go.Proofs.Ytonnbcongnkcdaa
