/- Plain laws: the numbers of trials and of binomial distributions over their denominators. No condition. -/
import Derived.Test.YtbjgnpgachdlaaaDoorJoF
namespace Go.Proofs.YtbjgnpgachdlaaaDoor

theorem cv_cast (x y : Nat → Nat) (X Y : Nat → Rat) (A C : Rat) (n m k : Nat) (hx : ∀ i, i < n → ((x i : Nat) : Rat) = X i * A) (hy : ∀ i, i < m → ((y i : Nat) : Rat) = Y i * C) :
    ((cvN x y m k n : Nat) : Rat) = cnv X n Y m k * (A * C) := by
  unfold cvN
  rw [sN_sQ, sQ_congr (g := fun i => cnvT X Y m k i * (A * C)) (fun i hi => by
    unfold cvT cnvT
    by_cases h : i ≤ k ∧ k - i < m
    · rw [if_pos h, if_pos h, natQ_mul, hx i hi, hy (k - i) h.2]; grind
    · rw [if_neg h, if_neg h]; grind), sQ_mulr]
  rfl
theorem prb_iff {q : Rat} : prb q = true ↔ 0 ≤ q ∧ q ≤ 1 := by unfold prb; simp
theorem fail_cast (q : Rat) (h : prb q = true) : (((q.den - q.num.natAbs : Nat)) : Rat) = (1 - q) * (q.den : Rat) := by
  have h1 := prb_le q h
  have h2 := den_mul q (prb_iff.1 h).1
  have h3 : ((q.den - q.num.natAbs + q.num.natAbs : Nat) : Rat) = ((q.den : Nat) : Rat) := by rw [Nat.sub_add_cancel h1]
  rw [natQ_add] at h3
  grind
theorem tr_cast (q : Nat → Rat) : ∀ (n : Nat), (∀ j, j < n → prb (q j) = true) → ∀ i, i < n + 1 → ((trN (nuQ q) (faQ q) n i : Nat) : Rat) = tri q n i * ((prN (deQ q) n : Nat) : Rat)
  | 0, _, i, hi => by
    obtain rfl : i = 0 := by omega
    simp only [trN, prN, tri]
    grind
  | n + 1, h, i, _ => by
    have ih := tr_cast q n (fun j hj => h j (by omega))
    have hp := h n (by omega)
    have e := cv_cast (trN (nuQ q) (faQ q) n) (twoN (faQ q n) (nuQ q n)) (tri q n) (two (1 - q n) (q n)) ((prN (deQ q) n : Nat) : Rat) ((deQ q n : Nat) : Rat) (n + 1) 2 i ih (fun j hj => by
      obtain rfl | rfl : j = 0 ∨ j = 1 := by omega
      · exact fail_cast (q n) hp
      · exact den_mul (q n) (prb_iff.1 hp).1)
    simp only [trN, prN]
    rw [e, tri_cnv, natQ_mul]
theorem prN_pos {d : Nat → Nat} : ∀ {n : Nat}, (∀ i, i < n → 0 < d i) → 0 < prN d n
  | 0, _ => by simp [prN]
  | n + 1, h => Nat.mul_pos (prN_pos (fun i hi => h i (by omega))) (h n (by omega))
/-- Trials returns the distribution of the successes -/
theorem tri_frq (q : Nat → Rat) (n : Nat) (h : ∀ j, j < n → prb (q j) = true) (i : Nat) (hi : i < n + 1) : frq (trN (nuQ q) (faQ q) n i) (prN (deQ q) n) = tri q n i := by
  rw [frq_div, tr_cast q n h i hi]
  have := natQ_ne (prN_pos (d := deQ q) (n := n) (fun i _ => (q i).den_pos))
  grind
theorem tri_valid (q : Nat → Rat) (n : Nat) (h : ∀ j, j < n → prb (q j) = true) (hn : n ≤ 120) : valid (tri q n) (n + 1) = true :=
  valid_iff.2 ⟨by omega, by omega, fun i _ => tri_nonneg (fun j hj => prb_iff.1 (h j hj)) i, tri_total q n⟩
theorem tri_meanQ (q : Nat → Rat) (n : Nat) : meanQ (tri q n) (n + 1) = sQ q n := by
  rw [← tri_mean q n]
  exact sQ_congr (fun i _ => Rat.mul_comm _ _)
theorem tri_varQ (q : Nat → Rat) (n : Nat) : varQ (tri q n) (n + 1) = sV q n := by
  have h := tri_second q n
  have e : secQ (tri q n) (n + 1) = sV q n + sQ q n * sQ q n := by
    rw [← h]
    exact sQ_congr (fun i _ => by grind)
  unfold varQ
  rw [e, tri_meanQ]; grind
theorem app_sum (f : Rat → Rat) (p q : Nat → Rat) (n : Nat) (m : Nat) : sQ (fun i => f (app p n q i)) (n + m) = sQ (fun i => f (p i)) n + sQ (fun i => f (q i)) m := by
  rw [sQ_append]
  congr 1
  · exact sQ_congr (fun i hi => by unfold app; rw [if_pos hi])
  · exact sQ_congr (fun i _ => by unfold app; rw [if_neg (by omega), show n + i - n = i by omega])
theorem app_mean (p q : Nat → Rat) (n m : Nat) : meanQ (tri (app p n q) (n + m)) (n + m + 1) = meanQ (tri p n) (n + 1) + meanQ (tri q m) (m + 1) := by
  rw [tri_meanQ, tri_meanQ, tri_meanQ]
  exact app_sum (fun x => x) p q n m
theorem app_var (p q : Nat → Rat) (n m : Nat) : varQ (tri (app p n q) (n + m)) (n + m + 1) = varQ (tri p n) (n + 1) + varQ (tri q m) (m + 1) := by
  rw [tri_varQ, tri_varQ, tri_varQ]
  exact app_sum (fun x => x * (1 - x)) p q n m

end Go.Proofs.YtbjgnpgachdlaaaDoor
