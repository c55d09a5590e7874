import Derived.Test.YtjobopafcgnljaaGreatRfA
namespace Go.Proofs.YtjobopafcgnljaaGreat
open Go.RowKit
def RnPost (N : Nat) (w : World) (n : Nat) (q : Nat → Rat) (e : Ending) (w' : World) : Prop :=
 ∃ a cap, e = .returned (.tuple #[.slice a n cap, .int .i64 0]) ∧ Rn N w' a n cap q ∧ Below w.heap.size w w'
end Go.Proofs.YtjobopafcgnljaaGreat
