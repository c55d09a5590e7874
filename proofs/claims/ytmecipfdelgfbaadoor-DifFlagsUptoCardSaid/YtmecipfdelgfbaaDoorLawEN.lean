/- Plain laws of strata of small counts. No condition. -/
import Derived.Test.YtmecipfdelgfbaaDoorDfI
namespace Go.Proofs.YtmecipfdelgfbaaDoor
open Go.RowKit

/-- small counts -/
def sm6 (t : Nat → Nat → Nat) (n : Nat) : Prop := ∀ i, i < n → ∀ c, c < 4 → t i c ≤ 6
theorem sm6.cnt {t : Nat → Nat → Nat} {n : Nat} (h : sm6 t n) : cntS t n := fun i hi c hc => Nat.le_trans (h i hi c hc) (by omega)
theorem sm6.wd {t : Nat → Nat → Nat} {n : Nat} (h : sm6 t n) : ∀ k, k ≤ n → wdS (ltS t) k ≤ 12 * k
  | 0, _ => Nat.le_refl _
  | k + 1, hk => by
    have h1 := sm6.wd h k (by omega)
    have h2 := h k (by omega) 0 (by omega)
    have h3 := h k (by omega) 1 (by omega)
    simp only [wdS]
    unfold ltS ktS mtS at *
    omega
theorem sm6.sup {t : Nat → Nat → Nat} {n : Nat} (h : sm6 t n) (hn : n ≤ 6) : supS t n ≤ 121 := by
  have := h.wd n (Nat.le_refl _)
  unfold supS; omega
theorem sm6.bk {t : Nat → Nat → Nat} {n : Nat} (h : sm6 t n) : sm6 (bkS t n) n := fun i hi c hc => h (n - 1 - i) (by omega) c hc
theorem sm6.sw {t : Nat → Nat → Nat} {n : Nat} (h : sm6 t n) : sm6 (swS t) n := by
  intro i hi c hc
  have h0 := h i hi 0 (by omega); have h1 := h i hi 1 (by omega); have h2 := h i hi 2 (by omega); have h3 := h i hi 3 (by omega)
  unfold swS
  split
  · exact h2
  · split
    · exact h3
    · split
      · exact h0
      · exact h1
theorem sgn_pos1 (p : Rat) (h : 0 < p) : decide (p.num.sign ≤ 0) = false := by
  have h0 : 0 ≤ p.num := Rat.num_nonneg.2 (Rat.le_of_lt h)
  have h2 : p.num ≠ 0 := fun e => by rw [Rat.num_eq_zero] at e; subst e; exact Rat.lt_irrefl h
  have h1 : 0 < p.num := by omega
  rw [Int.sign_eq_one_of_pos h1]; rfl
theorem sgn_pos (q : Rat) (h : 0 < q) : 0 < q.num.sign := by
  have := of_decide_eq_false (sgn_pos1 q h)
  omega

end Go.Proofs.YtmecipfdelgfbaaDoor
