import Derived.Test.YtnillajhhimeiaaGreatDoorFr
import Derived.Test.YtnillajhhimeiaaGreatDoorJoB
namespace Go.Proofs.YtnillajhhimeiaaGreatDoor
open Go.RowKit Go.ChangeShapes Go.WideShapes Go.ChangeAt Go.Deep
section
variable {H : Type} {enc : TypeId × Value → H} {W : World} {fuel : Nat}
end
end Go.Proofs.YtnillajhhimeiaaGreatDoor
