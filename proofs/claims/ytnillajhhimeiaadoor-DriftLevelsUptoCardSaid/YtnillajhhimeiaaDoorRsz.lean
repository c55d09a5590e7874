/- How many limbs sums and products of rational numbers have. -/
import Derived.Test.YtnillajhhimeiaaDoorCut
namespace Go.Proofs.YtnillajhhimeiaaDoor
open Go.RowKit

theorem rsz_mul (p q : Rat) : rsz (p * q) ≤ rsz p + rsz q := by
  have e : p * q = mkRat (p.num * q.num) (p.den * q.den) := by
    have h1 := Rat.mkRat_mul_mkRat p.num q.num p.den q.den
    rw [Rat.mkRat_self, Rat.mkRat_self] at h1
    exact h1
  rw [e]
  have l1 := nlen_mul p.num.natAbs q.num.natAbs
  have l2 := nlen_mul p.den q.den
  have := rsz_pos p
  have := rsz_pos q
  have h1 : nlen p.num.natAbs ≤ rsz p ∧ nlen p.den ≤ rsz p := by unfold rsz; omega
  have h2 : nlen q.num.natAbs ≤ rsz q ∧ nlen q.den ≤ rsz q := by unfold rsz; omega
  exact rsz_mk _ _ _ (by omega) (by rw [Int.natAbs_mul]; omega) (by omega)
theorem Rt.rsz_le {N : Nat} {w : World} {s : Bool} {a d : Option Addr} {na ca nd cd L : Nat} {q : Rat} (h : Rt N w s a na ca d nd cd q L) : rsz q ≤ L := by
  obtain ⟨l0, l1, l2, mn, md, hn, hd, rfl⟩ := h
  exact rsz_mk _ _ _ l0 (by rw [zI_abs]; exact nlen_bound hn _ l1) (nlen_bound hd _ l2)

end Go.Proofs.YtnillajhhimeiaaDoor
