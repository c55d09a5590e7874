import Derived.Test.YtjobopafcgnljaaGreatNulC
import Derived.Test.YtjobopafcgnljaaGreatGutA
import Derived.Test.YtjobopafcgnljaaGreatFtA
namespace Go.Proofs.YtjobopafcgnljaaGreat
open Go.RowKit
theorem Sl.below {w w' : World} {a : Option Addr} {n cap : Nat} {V : Nat → Value} (h : Sl w a n cap V) (hb : Below w.heap.size w w') : Sl w' a n cap V := by
 obtain ⟨h1, h2, h3⟩ := h
 refine ⟨h1, h2, fun h0 => ?_⟩
 obtain ⟨b, off, e, hc⟩ := h3 h0
 exact ⟨b, off, e, fun i hi => cell_mono (hc i hi) hb⟩
def RcPost (N : Nat) (w : World) (q : Rat) (c : Int) (e : Ending) (w' : World) : Prop :=
 ∃ r cr r2 cr2, e = .returned (.tuple #[.agg #[.bool (decide (q.num < 0)), .slice r (nlen q.num.natAbs) cr, .slice r2 (nlen q.den) cr2], .int .i64 c]) ∧ Nt N w' r (nlen q.num.natAbs) cr q.num.natAbs ∧ Nt N w' r2 (nlen q.den) cr2 q.den ∧ Below w.heap.size w w'
theorem zero_wh {p : Rat} (hp : 0 = p) : ((0 : Int) : Rat) / ((1 : Int) : Rat) = p := by rw [← hp]; decide +kernel
end Go.Proofs.YtjobopafcgnljaaGreat
