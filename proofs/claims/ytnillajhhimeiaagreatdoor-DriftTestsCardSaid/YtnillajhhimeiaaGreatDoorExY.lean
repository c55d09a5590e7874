import Derived.Test.YtnillajhhimeiaaGreatDoorJoG
namespace Go.Proofs.YtnillajhhimeiaaGreatDoor
open Go.RowKit
theorem rsz_subx (p q : Rat) : rsz (p - q) ≤ rsz p + rsz q + 1 := by
  have e1 : mkRat (p.num * q.den - q.num * p.den) (p.den * q.den) = p - q := by
    rw [Rat.mkRat_eq_div,Rat.sub_eq_add_neg]
    have h1 := Rat.mkRat_self p
    have h2 := Rat.mkRat_self q
    rw [Rat.mkRat_eq_div] at h1 h2
    have c1 := natQ_ne p.den_pos
    have c2 := natQ_ne q.den_pos
    have e : (((p.num * q.den - q.num * p.den : Int)) : Rat) = (p.num : Rat) * ((q.den : Nat) : Rat) - (q.num : Rat) * ((p.den : Nat) : Rat) := by rw [Rat.intCast_sub,Rat.intCast_mul,Rat.intCast_mul];rfl
    rw [e,natQ_mul]
    grind
  rw [← e1]
  have a1 := nlen_mul p.den q.den
  have b1 : nlen p.num.natAbs ≤ rsz p := by unfold rsz;omega
  have b2 : nlen p.den ≤ rsz p := by unfold rsz;omega
  have b3 : nlen q.num.natAbs ≤ rsz q := by unfold rsz;omega
  have b4 : nlen q.den ≤ rsz q := by unfold rsz;omega
  refine rsz_mk _ _ _ (by omega) ?_ (by omega)
  have c1 := nlen_mul p.num.natAbs q.den
  have c2 := nlen_mul q.num.natAbs p.den
  have c3 : (p.num * q.den - q.num * p.den).natAbs ≤ p.num.natAbs * q.den + q.num.natAbs * p.den := by
    have := Int.natAbs_sub_le (p.num * q.den) (q.num * p.den)
    rwa [Int.natAbs_mul,Int.natAbs_mul,Int.natAbs_natCast,Int.natAbs_natCast] at this
  refine Nat.le_trans (nlen_mono c3) ?_
  exact nlen_add1 _ _ _ (by omega) (by omega)
end Go.Proofs.YtnillajhhimeiaaGreatDoor
