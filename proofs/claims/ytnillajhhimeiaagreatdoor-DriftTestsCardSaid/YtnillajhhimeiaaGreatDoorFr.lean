import Derived.Test.YtnillajhhimeiaaGreatDoorJoR1
import Derived.Test.YtnillajhhimeiaaGreatDoorRows
import Derived.Deep.Slices
import Derived.Lib.SmallJoins
namespace Go.Proofs.YtnillajhhimeiaaGreatDoor
open Go.RowKit Go.ChangeShapes Go.WideShapes Go.ChangeAt Go.Deep
theorem Tryz.own : ownKnob Tryz.prog.godebug = none := by kernel_rfl
theorem Tryz.laidOut : laidOutB Tryz.prog = true := by kernel_rfl
section
variable {H : Type} {enc : TypeId × Value → H} {W : World} {fuel : Nat}
end
end Go.Proofs.YtnillajhhimeiaaGreatDoor
