/- Plain laws of person fit: what check returns, the order from the greatest on. No program in sight; no condition. -/
import Derived.Test.YtjobopafcgnljaaJoF
import Derived.Test.YtjobopafcgnljaaJoS
namespace Go.Proofs.Ytjobopafcgnljaa

/-- what check returns -/
def chkF (q : Nat → Rat) (n : Nat) : Int := if 20 < n then 5 else if ∀ j, j < n → prb (q j) = true then 0 else 3
theorem chkF_ok {q : Nat → Rat} {n : Nat} (h : chkF q n = 0) : n ≤ 20 ∧ ∀ j, j < n → prb (q j) = true := by
  unfold chkF at h
  by_cases h1 : 20 < n
  · rw [if_pos h1] at h; omega
  · rw [if_neg h1] at h
    by_cases h2 : ∀ j, j < n → prb (q j) = true
    · exact ⟨by omega, h2⟩
    · rw [if_neg h2] at h; omega
/-- the greater number stands first -/
def gtQ (q : Nat → Rat) (x y : Nat) : Bool := decide (q y < q x)
theorem gtQ_weak (q : Nat → Rat) : Weak (gtQ q) where
  asymm x y h := by
    unfold gtQ at *
    rw [decide_eq_true_eq] at h
    exact decide_eq_false (by grind)
  neg x y z h k := by
    unfold gtQ at *
    rw [decide_eq_false_iff_not] at h k
    exact decide_eq_false (by grind)
theorem gt_key {q : Nat → Rat} {x y : Nat} (h : keyT (gtQ q) x y = true) : q y < q x ∨ (q y = q x ∧ x < y) := by
  unfold keyT gtQ at h
  by_cases h1 : q y < q x
  · exact .inl h1
  · by_cases h2 : q x < q y
    · rw [decide_eq_false h1, decide_eq_true h2] at h; cases h
    · rw [decide_eq_false h1, decide_eq_false h2] at h
      refine .inr ⟨by grind, ?_⟩
      simpa using h

end Go.Proofs.Ytjobopafcgnljaa
