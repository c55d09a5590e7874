/- Contracts of ratio.Sub and Div: for rational numbers of at most 2^36 limbs in a part. -/
import Derived.Test.YtnillajhhimeiaaDoorRsz
namespace Go.Proofs.YtnillajhhimeiaaDoor
open Go.RowKit

theorem rsz_neg (q : Rat) : rsz (-q) = rsz q := by
  have h1 : (-q).num = -q.num := rfl
  have h2 : (-q).den = q.den := rfl
  unfold rsz; rw [h1, h2, Int.natAbs_neg]
theorem mk_div (x1 x2 : Int) : mkRat (zI (decide (x1 < 0) != decide (x2 < 0)) x1.natAbs) x2.natAbs = (x1 : Rat) / (x2 : Rat) := by
  have h1 : zI (decide (x1 < 0) != decide (x2 < 0)) x1.natAbs = if x2 < 0 then -x1 else x1 := by
    by_cases a : x1 < 0 <;> by_cases b : x2 < 0 <;> simp [zI, a, b] <;> omega
  rw [h1, Rat.mkRat_eq_div]
  by_cases b : x2 < 0
  · rw [if_pos b]
    have h2 : ((x2.natAbs : Nat) : Rat) = -(x2 : Rat) := by
      have : (x2.natAbs : Int) = -x2 := by omega
      have h3 : (((x2.natAbs : Nat) : Int) : Rat) = ((-x2 : Int) : Rat) := by rw [this]
      rw [Rat.intCast_neg] at h3
      exact h3
    rw [h2, Rat.intCast_neg]
    grind
  · rw [if_neg b]
    have h2 : ((x2.natAbs : Nat) : Rat) = (x2 : Rat) := by
      have : (x2.natAbs : Int) = x2 := by omega
      have h3 : (((x2.natAbs : Nat) : Int) : Rat) = ((x2 : Int) : Rat) := by rw [this]
      exact h3
    rw [h2]
theorem div_mk (z1 z2 x1 x2 : Int) (d1 d2 : Nat) (h1 : 0 < d1) (h2 : 0 < d2) (q q' p : Rat) (e1 : mkRat z1 d1 = q) (e2 : mkRat z2 d2 = q') (hp : q / q' = p) (a1 : z1 * zI false d2 = x1) (a2 : z2 * zI false d1 = x2) : mkRat (zI (decide (x1 < 0) != decide (x2 < 0)) x1.natAbs) x2.natAbs = p := by
  rw [mk_div, ← hp, ← e1, ← e2, ← a1, ← a2, Rat.mkRat_eq_div, Rat.mkRat_eq_div]
  have c1 : ((zI false d2 : Int) : Rat) = (d2 : Rat) := rfl
  have c2 : ((zI false d1 : Int) : Rat) = (d1 : Rat) := rfl
  rw [Rat.intCast_mul, Rat.intCast_mul, c1, c2]
  have n1 : (d1 : Rat) ≠ 0 := by intro e; have := Rat.natCast_inj.1 (e.trans (by rfl : (0 : Rat) = ((0 : Nat) : Rat))); omega
  have n2 : (d2 : Rat) ≠ 0 := by intro e; have := Rat.natCast_inj.1 (e.trans (by rfl : (0 : Rat) = ((0 : Nat) : Rat))); omega
  grind
theorem div_ok (z2 x2 : Int) (d1 d2 : Nat) (h1 : 0 < d1) (h2 : 0 < d2) (q' : Rat) (e2 : mkRat z2 d2 = q') (a2 : z2 * zI false d1 = x2) : decide (0 < x2.natAbs) = decide (q' ≠ 0) := by
  have hz : q' = 0 ↔ z2 = 0 := by rw [← e2]; exact Rat.mkRat_eq_zero (by omega)
  have hx : x2 = 0 ↔ z2 = 0 := by
    rw [← a2]
    have : zI false d1 ≠ 0 := by show (d1 : Int) ≠ 0; omega
    exact ⟨fun h => (Int.mul_eq_zero.1 h).resolve_right this, fun h => by rw [h]; exact Int.zero_mul _⟩
  apply decide_eq_decide.2
  rw [Ne, hz, ← hx]; omega

end Go.Proofs.YtnillajhhimeiaaDoor
