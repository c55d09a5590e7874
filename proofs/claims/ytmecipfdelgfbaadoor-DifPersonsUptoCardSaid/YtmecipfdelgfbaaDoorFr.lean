import Derived.Test.YtmecipfdelgfbaaDoorJoR1
import Derived.Test.YtmecipfdelgfbaaDoorRows
import Derived.Deep.Slices
import Derived.Lib.SmallJoins
namespace Go.Proofs.YtmecipfdelgfbaaDoor
open Go.RowKit Go.ChangeShapes Go.WideShapes Go.ChangeAt Go.Deep
theorem Tryd.own : ownKnob Tryd.prog.godebug = none := by kernel_rfl
theorem Tryd.laidOut : laidOutB Tryd.prog = true := by kernel_rfl
section
variable {H : Type} {enc : TypeId × Value → H} {W : World} {fuel : Nat}
theorem add_none (b off i : Nat) : (⟨b, off, none⟩ : Addr).add i = ⟨b, off + i, none⟩ := by
  unfold Addr.add; split <;> simp_all
end
end Go.Proofs.YtmecipfdelgfbaaDoor
