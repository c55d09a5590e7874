/- Plain laws of the tests for differences between two groups: exchanged groups, the order of the strata, the class: no program in sight; no condition. -/
import Derived.Test.YtmecipfdelgfbaaDoorDfP
namespace Go.Proofs.YtmecipfdelgfbaaDoor

/-- the groups exchanged -/
def swS (t : Nat → Nat → Nat) (i j : Nat) : Nat := if j = 0 then t i 2 else if j = 1 then t i 3 else if j = 2 then t i 0 else t i 1
/-- the strata in the other order -/
def bkS (t : Nat → Nat → Nat) (n i : Nat) : Nat → Nat := t (n - 1 - i)
theorem swS_cnt {t : Nat → Nat → Nat} {n : Nat} (h : cntS t n) : cntS (swS t) n := by
  intro i hi j hj
  have h0 := h i hi 0 (by omega); have h1 := h i hi 1 (by omega); have h2 := h i hi 2 (by omega); have h3 := h i hi 3 (by omega)
  unfold swS
  split
  · exact h2
  · split
    · exact h3
    · split <;> assumption
theorem bkS_cnt {t : Nat → Nat → Nat} {n : Nat} (h : cntS t n) : cntS (bkS t n) n := fun i hi j hj => h (n - 1 - i) (by omega) j hj
theorem ntS_sw (t : Nat → Nat → Nat) (i : Nat) : ntS (swS t) i = ntS t i := by unfold ntS swS; simp; omega
theorem ktS_sw (t : Nat → Nat → Nat) (i : Nat) : ktS (swS t) i = ktS t i := by unfold ktS swS; simp; omega
theorem mtS_sw (t : Nat → Nat → Nat) (i : Nat) : mtS (swS t) i = ntS t i - mtS t i := by unfold mtS ntS swS; simp; omega
theorem kkS_add (a b : Nat → Nat) : ∀ n, kkS (fun i => a i + b i) n = kkS a n + kkS b n
  | 0 => rfl
  | n + 1 => by simp only [kkS]; rw [kkS_add a b n]; omega
theorem kkS_rgt (t : Nat → Nat → Nat) (n : Nat) : kkS (ktS t) n = rgtS t n + rgtS (swS t) n := kkS_add (fun i => t i 0) (fun i => t i 2) n
theorem ltS_k (t : Nat → Nat → Nat) (i : Nat) : ltS t i ≤ ktS t i + 1 := by unfold ltS; omega
theorem ltS_sw (t : Nat → Nat → Nat) (i : Nat) : ltS (swS t) i ≤ ktS t i + 1 := by unfold ltS; rw [ktS_sw]; omega
theorem ltS_pos (t : Nat → Nat → Nat) (i : Nat) : 0 < ltS t i := by unfold ltS; omega
/-- the p-value does not depend on which group is the first -/
theorem tstS_sw (t : Nat → Nat → Nat) (n : Nat) : tstS (swS t) n = tstS t n := by
  unfold tstS
  have e := kkS_rgt t n
  have w1 := wdS_le (n := n) (fun i _ => ltS_k t i)
  have w2 := wdS_le (n := n) (fun i _ => ltS_sw t i)
  have g1 := rgt_lt (t := t) (n := n)
  have g2 := rgt_lt (t := swS t) (n := n)
  rw [both_rev (nulS t n) (nulS (swS t) n) (supS t n) (supS (swS t) n) (kkS (ktS t) n) (rgtS t n) (by unfold supS; omega) (by unfold supS; omega) g1 (by omega)]
  · rw [show kkS (ktS t) n - rgtS t n = rgtS (swS t) n by omega]
  · intro i hi
    refine nuS_flip (fun i _ => ltS_pos t i) (fun i _ => ltS_pos _ i) (fun i _ => ltS_k t i) (fun i _ => ltS_sw t i) (fun i _ j hj => ?_) i hi
    unfold htS ltS
    rw [ntS_sw, ktS_sw, mtS_sw]
    exact hy_groups _ _ _ _ (by unfold ktS ntS; omega) (by unfold mtS ntS; omega) hj
theorem onmS_sw (t : Nat → Nat → Nat) (i : Nat) : onmS (swS t) i = odnS t i := by
  unfold onmS odnS
  rw [ntS_sw]
  unfold swS
  simp
  rw [Nat.mul_comm]
theorem odnS_sw (t : Nat → Nat → Nat) (i : Nat) : odnS (swS t) i = onmS t i := by
  unfold onmS odnS
  rw [ntS_sw]
  unfold swS
  simp
  rw [Nat.mul_comm]
theorem supS_bk (t : Nat → Nat → Nat) (n : Nat) : supS (bkS t n) n = supS t n := by
  unfold supS
  rw [show ltS (bkS t n) = (fun i => ltS t (n - 1 - i)) from rfl, wdS_rev]
theorem nulS_bk (t : Nat → Nat → Nat) (n i : Nat) (hi : i < supS t n) : nulS (bkS t n) n i = nulS t n i :=
  nuS_rev (ltS t) (htS t) n i (fun i _ => ltS_pos t i) hi
theorem onmS_bk (t : Nat → Nat → Nat) (n : Nat) : sQ (onmS (bkS t n)) n = sQ (onmS t) n := sQ_rev (onmS t) n
theorem odnS_bk (t : Nat → Nat → Nat) (n : Nat) : sQ (odnS (bkS t n)) n = sQ (odnS t) n := sQ_rev (odnS t) n
/-- the p-value is a probability above 0 -/
theorem nulS_pos (t : Nat → Nat → Nat) : ∀ n : Nat, (∀ i, i < n → ntS t i ≤ 120) → 0 < nulS t n (rgtS t n)
  | 0, _ => by unfold nulS; simp only [nuS]; decide
  | n + 1, h => by
    have h1 := nulS_pos t n (fun i hi => h i (by omega))
    have g1 := rgt_lt (t := t) (n := n)
    have h2 : 0 < htS t n (t n 0) := frq_pos (Nat.mul_pos (chs_pos (by unfold ktS; omega)) (chs_pos (by unfold ntS ktS mtS; omega))) (chs_pos (by unfold ntS mtS; omega))
    have hx : t n 0 < ltS t n := by unfold ltS ktS mtS; omega
    have n1 : ∀ i, i < n + 1 → ∀ j, j < ltS t i → 0 ≤ htS t i j := fun i hi => (valid_iff.1 (hyQ_valid (ntS t i) (ktS t i) (mtS t i) (h i hi) (by unfold ktS ntS; omega) (by unfold mtS ntS; omega))).2.2.1
    have n2 : ∀ i, 0 ≤ nuS (ltS t) (htS t) n i := nuS_nonneg (fun i hi => n1 i (by omega))
    have key := sQ_one_le (f := cnvT (nuS (ltS t) (htS t) n) (htS t n) (ltS t n) (rgtS t (n + 1))) (n := wdS (ltS t) n + 1) (k := rgtS t n) (fun i _ => by
      unfold cnvT
      split
      · rename_i hc; exact Rat.mul_nonneg (n2 i) (n1 n (by omega) _ hc.2)
      · exact Rat.le_refl) g1
    have e1 : cnvT (nuS (ltS t) (htS t) n) (htS t n) (ltS t n) (rgtS t (n + 1)) (rgtS t n) = nulS t n (rgtS t n) * htS t n (t n 0) := by
      unfold cnvT
      rw [show rgtS t (n + 1) = rgtS t n + t n 0 from rfl, show rgtS t n + t n 0 - rgtS t n = t n 0 by omega, if_pos ⟨by omega, hx⟩]
      rfl
    rw [e1] at key
    have hp := Rat.mul_pos h1 h2
    show 0 < nuS (ltS t) (htS t) (n + 1) (rgtS t (n + 1))
    have e2 : nuS (ltS t) (htS t) (n + 1) (rgtS t (n + 1)) = sQ (cnvT (nuS (ltS t) (htS t) n) (htS t n) (ltS t n) (rgtS t (n + 1))) (wdS (ltS t) n + 1) := rfl
    rw [e2]
    grind
theorem tstS_pos {t : Nat → Nat → Nat} {n : Nat} (hc : cntS t n) (hs : supS t n ≤ 121) : 0 < tstS t n := by
  have hv := (valid_iff.1 (nulS_valid hc hs)).2.2.1
  have h1 := nulS_pos t n (fun i hi => cntS_n hc i hi)
  have h2 := both_ge1 _ _ _ hv rgt_lt
  unfold tstS
  grind
theorem tstS_le {t : Nat → Nat → Nat} {n : Nat} (hc : cntS t n) (hs : supS t n ≤ 121) : tstS t n ≤ 1 := by
  obtain ⟨_, _, h0, h1⟩ := valid_iff.1 (nulS_valid hc hs)
  exact both_le1 _ _ _ h0 h1
theorem sumS_nonneg (t : Nat → Nat → Nat) (n : Nat) : 0 ≤ sQ (onmS t) n ∧ 0 ≤ sQ (odnS t) n :=
  ⟨sQ_nonneg (fun _i _ => frq_nonneg _ _), sQ_nonneg (fun _i _ => frq_nonneg _ _)⟩

/-- the class of an item -/
def claS (P al nu de : Rat) : Int :=
  if al < P ∨ (frq 2 3 * de ≤ nu ∧ nu ≤ frq 3 2 * de) then 0
  else if nu < frq 1 1 * de then (if frq 2 1 * de < nu ∨ nu < frq 1 2 * de then -2 else -1)
  else (if frq 2 1 * de < nu ∨ nu < frq 1 2 * de then 2 else 1)
theorem claS_neg (P al nu de : Rat) (h1 : 0 ≤ nu) (_h2 : 0 ≤ de) : claS P al nu de = - claS P al de nu := by
  have e1 : frq 2 3 = 2 / 3 := by rw [frq_div]; rfl
  have e2 : frq 3 2 = 3 / 2 := by rw [frq_div]; rfl
  have e3 : frq 1 1 = 1 := by rw [frq_div]; grind
  have e4 : frq 2 1 = 2 := by rw [frq_div]; grind
  have e5 : frq 1 2 = 1 / 2 := by rw [frq_div]; rfl
  unfold claS
  rw [e1, e2, e3, e4, e5]
  repeat' split
  all_goals first | rfl | (exfalso; grind)
theorem claS_more (P al be nu de : Rat) (h : al ≤ be) (h0 : claS P al nu de ≠ 0) : claS P be nu de = claS P al nu de := by
  have h1 : ¬ (al < P ∨ (frq 2 3 * de ≤ nu ∧ nu ≤ frq 3 2 * de)) := by
    intro hx
    unfold claS at h0
    rw [if_pos hx] at h0
    exact h0 rfl
  have h2 : ¬ (be < P ∨ (frq 2 3 * de ≤ nu ∧ nu ≤ frq 3 2 * de)) := by
    rintro (hx | hx)
    · exact h1 (.inl (by grind))
    · exact h1 (.inr hx)
  unfold claS
  rw [if_neg h1, if_neg h2]

end Go.Proofs.YtmecipfdelgfbaaDoor
