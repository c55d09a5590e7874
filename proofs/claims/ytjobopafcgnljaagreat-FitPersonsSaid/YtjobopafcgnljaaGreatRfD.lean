import Derived.Test.YtjobopafcgnljaaGreatAl
import Derived.Test.YtjobopafcgnljaaGreatRfS
namespace Go.Proofs.YtjobopafcgnljaaGreat
open Go.RowKit
def CutAt (N : Nat) (W : World) (g o : Nat) (q : Rat) (w : World) : Prop :=
 ∃ w1 r c r2 c2, Since W w1 ∧ Nt N w1 r (nlen q.num.natAbs) c q.num.natAbs ∧ Nt N w1 r2 (nlen q.den) c2 q.den ∧ w = ((w1.setCell ⟨g, o, none⟩ (.bool (decide (q.num < 0)))).setCell ⟨g, o + 1, none⟩ (.slice r (nlen q.num.natAbs) c)).setCell ⟨g, o + 2, none⟩ (.slice r2 (nlen q.den) c2)
end Go.Proofs.YtjobopafcgnljaaGreat
