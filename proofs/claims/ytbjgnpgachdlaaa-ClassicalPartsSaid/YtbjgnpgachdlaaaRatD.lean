/- Contracts of ratio.Cmp and Add: for rational numbers of at most 2^36 limbs in a part. -/
import Derived.Test.YtbjgnpgachdlaaaRatC
namespace Go.Proofs.Ytbjgnpgachdlaaa
open Go.RowKit

/-- -1, 0 or 1 -/
def cmpQ (p q : Rat) : Int := if p < q then -1 else if q < p then 1 else 0
theorem mk_cross (z : Int) (d : Nat) (h : 0 < d) : mkRat z d * (d : Rat) = (z : Rat) := by
  rw [Rat.mkRat_eq_div, Rat.div_mul_cancel]
  intro e
  have := Rat.natCast_pos.2 h
  rw [e] at this
  exact Rat.lt_irrefl this
theorem mk_lt (z1 z2 : Int) (d1 d2 : Nat) (h1 : 0 < d1) (h2 : 0 < d2) : mkRat z1 d1 < mkRat z2 d2 ↔ z1 * d2 < z2 * d1 := by
  have p1 : (0 : Rat) < (d1 : Rat) := Rat.natCast_pos.2 h1
  have p2 : (0 : Rat) < (d2 : Rat) := Rat.natCast_pos.2 h2
  rw [← Rat.mul_lt_mul_right (Rat.mul_pos p1 p2)]
  have e1 : mkRat z1 d1 * ((d1 : Rat) * (d2 : Rat)) = ((z1 * d2 : Int) : Rat) := by rw [← Rat.mul_assoc, mk_cross z1 d1 h1]; simp; rfl
  have e2 : mkRat z2 d2 * ((d1 : Rat) * (d2 : Rat)) = ((z2 * d1 : Int) : Rat) := by rw [Rat.mul_comm (d1 : Rat), ← Rat.mul_assoc, mk_cross z2 d2 h2]; simp; rfl
  rw [e1, e2, Rat.intCast_lt_intCast]
theorem cmp_mk (z1 z2 x1 x2 : Int) (d1 d2 : Nat) (h1 : 0 < d1) (h2 : 0 < d2) (p q : Rat) (e1 : mkRat z1 d1 = p) (e2 : mkRat z2 d2 = q) (a1 : z1 * zI false d2 = x1) (a2 : z2 * zI false d1 = x2) : cmpZ (zI (decide (x1 < 0)) x1.natAbs) (zI (decide (x2 < 0)) x2.natAbs) = cmpQ p q := by
  rw [zI_norm, zI_norm, ← a1, ← a2, ← e1, ← e2]
  unfold cmpZ cmpQ
  have l1 := mk_lt z1 z2 d1 d2 h1 h2
  have l2 := mk_lt z2 z1 d2 d1 h2 h1
  have f1 : zI false d1 = (d1 : Int) := rfl
  have f2 : zI false d2 = (d2 : Int) := rfl
  rw [f1, f2]
  by_cases c1 : mkRat z1 d1 < mkRat z2 d2
  · rw [if_pos c1, if_pos (l1.1 c1)]
  · rw [if_neg c1, if_neg (fun h => c1 (l1.2 h))]
    by_cases c2 : mkRat z2 d2 < mkRat z1 d1
    · rw [if_pos c2, if_pos (l2.1 c2)]
    · rw [if_neg c2, if_neg (fun h => c2 (l2.2 h))]

end Go.Proofs.Ytbjgnpgachdlaaa
