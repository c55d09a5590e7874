/- Contracts of integer.Add and Cmp: for all integers of at most 2^38 limbs. -/
import Derived.Test.YtnillajhhimeiaaDoorIntB
namespace Go.Proofs.YtnillajhhimeiaaDoor
open Go.RowKit

theorem zI_add (s : Bool) (ma mb : Nat) : zI s (ma + mb) = zI s ma + zI s mb := by unfold zI; cases s <;> simp <;> omega
theorem zI_sub1 (s : Bool) (ma mb : Nat) (h : mb ≤ ma) : zI s (ma - mb) = zI s ma + zI (!s) mb := by unfold zI; cases s <;> simp <;> omega
theorem zI_sub2 (s : Bool) (ma mb : Nat) (h : ma ≤ mb) : zI (!s) (mb - ma) = zI s ma + zI (!s) mb := by unfold zI; cases s <;> simp <;> omega

/-- -1, 0 or 1 -/
def cmpZ (x y : Int) : Int := if x < y then -1 else if y < x then 1 else 0
theorem cmpZ_sl {x y : Int} (h : x.sign < y.sign) : cmpZ x y = -1 := by
  unfold cmpZ; rw [if_pos]
  rcases Int.lt_trichotomy x 0 with h1 | h1 | h1 <;> rcases Int.lt_trichotomy y 0 with h2 | h2 | h2 <;>
    simp_all [Int.sign_eq_one_of_pos, Int.sign_eq_neg_one_of_neg] <;> omega
theorem cmpZ_sg {x y : Int} (h : y.sign < x.sign) : cmpZ x y = 1 := by
  have h2 := cmpZ_sl h
  unfold cmpZ at h2 ⊢
  split at h2
  · rw [if_neg (by omega), if_pos (by assumption)]
  · split at h2 <;> simp at h2
theorem cmpZ_pos {sa sb : Bool} {ma mb : Nat} (h1 : (zI sa ma).sign = 1) (h2 : (zI sb mb).sign = 1) : cmpZ (zI sa ma) (zI sb mb) = cmpN ma mb := by
  have p1 := Int.sign_eq_one_iff_pos.1 h1
  have p2 := Int.sign_eq_one_iff_pos.1 h2
  unfold cmpZ cmpN zI at *
  cases sa <;> cases sb <;> simp at * <;> omega
theorem cmpZ_neg {sa sb : Bool} {ma mb : Nat} (h1 : (zI sa ma).sign = -1) (h2 : (zI sb mb).sign = -1) : cmpZ (zI sa ma) (zI sb mb) = -cmpN ma mb := by
  have p1 := Int.sign_eq_neg_one_iff_neg.1 h1
  have p2 := Int.sign_eq_neg_one_iff_neg.1 h2
  unfold cmpZ cmpN zI at *
  cases sa <;> cases sb <;> simp at * <;> (repeat' split) <;> omega
theorem cmpZ_zero {x y : Int} (h1 : x.sign = 0) (h2 : y.sign = 0) : cmpZ x y = 0 := by
  have p1 := Int.sign_eq_zero_iff_zero.1 h1
  have p2 := Int.sign_eq_zero_iff_zero.1 h2
  subst p1 p2; rfl
theorem sgn3 (x : Int) : x.sign = -1 ∨ x.sign = 0 ∨ x.sign = 1 := by
  rcases Int.lt_trichotomy x 0 with h1 | h1 | h1
  · exact .inl (Int.sign_eq_neg_one_of_neg h1)
  · subst h1; exact .inr (.inl rfl)
  · exact .inr (.inr (Int.sign_eq_one_of_pos h1))

end Go.Proofs.YtnillajhhimeiaaDoor
