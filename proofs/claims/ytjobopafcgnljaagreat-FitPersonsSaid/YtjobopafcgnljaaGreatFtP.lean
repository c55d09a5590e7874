import Derived.Test.YtjobopafcgnljaaGreatJoF
import Derived.Test.YtjobopafcgnljaaGreatJoS
namespace Go.Proofs.YtjobopafcgnljaaGreat
def chkF (q : Nat → Rat) (n : Nat) : Int := if 20 < n then 5 else if ∀ j, j < n → prb (q j) = true then 0 else 3
theorem chkF_ok {q : Nat → Rat} {n : Nat} (h : chkF q n = 0) : n ≤ 20 ∧ ∀ j, j < n → prb (q j) = true := by
 unfold chkF at h
 by_cases h1 : 20 < n
 ·rw [if_pos h1] at h; omega
 ·rw [if_neg h1] at h
  by_cases h2 : ∀ j, j < n → prb (q j) = true
  ·exact ⟨by omega, h2⟩
  ·rw [if_neg h2] at h; omega
def gtQ (q : Nat → Rat) (x y : Nat) : Bool := decide (q y < q x)
theorem gtQ_weak (q : Nat → Rat) : Weak (gtQ q) where
 asymm x y h := by
  unfold gtQ at *
  rw [decide_eq_true_eq] at h
  exact decide_eq_false (by grind)
 neg x y z h k := by
  unfold gtQ at *
  rw [decide_eq_false_iff_not] at h k
  exact decide_eq_false (by grind)
end Go.Proofs.YtjobopafcgnljaaGreat
