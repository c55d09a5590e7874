import Derived.Test.YtmecipfdelgfbaaDoorFrR
namespace Go.Proofs.YtmecipfdelgfbaaDoor
open Go.RowKit Go.ChangeShapes Go.WideShapes Go.ChangeAt Go.Deep
section
variable {H : Type} {enc : TypeId × Value → H} {W : World} {fuel : Nat}
end
end Go.Proofs.YtmecipfdelgfbaaDoor
