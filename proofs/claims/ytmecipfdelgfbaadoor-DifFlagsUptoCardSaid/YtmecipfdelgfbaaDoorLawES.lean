/- Plain laws of the class of an item. No condition. -/
import Derived.Test.YtmecipfdelgfbaaDoorLawEN
namespace Go.Proofs.YtmecipfdelgfbaaDoor
open Go.RowKit

theorem claS_bd (P al nu de : Rat) : -2 ≤ claS P al nu de ∧ claS P al nu de ≤ 2 := by
  unfold claS
  repeat' split
  all_goals decide
theorem onm_sw (t : Nat → Nat → Nat) (n : Nat) : sQ (onmS (swS t)) n = sQ (odnS t) n := sQ_congr (fun i _ => onmS_sw t i)
theorem odn_sw (t : Nat → Nat → Nat) (n : Nat) : sQ (odnS (swS t)) n = sQ (onmS t) n := sQ_congr (fun i _ => odnS_sw t i)

end Go.Proofs.YtmecipfdelgfbaaDoor
