/- Plain laws of covariances: adding a number changes nothing, and that of a list with itself is never negative. No program in sight. -/
import Derived.Test.YtbjgnpgachdlaaaDoorClsH
namespace Go.Proofs.YtbjgnpgachdlaaaDoor

theorem sumZ_const (c : Int) : ∀ n : Nat, sumZ (fun _ => c) n = c * n
  | 0 => by simp [sumZ]
  | n + 1 => by simp only [sumZ]; rw [sumZ_const c n]; grind
theorem sumP_const (c : Int) (y : Nat → Int) : ∀ n : Nat, sumP (fun _ => c) y n = c * sumZ y n
  | 0 => by simp [sumP, sumZ]
  | n + 1 => by simp only [sumP, sumZ]; rw [sumP_const c y n]; grind
theorem cov_const (c : Int) (y : Nat → Int) (n : Nat) (hn : 0 < n) : cov (fun _ => c) y n = 0 := by
  unfold cov
  rw [sumP_const, sumZ_const, Rat.intCast_mul, Rat.intCast_mul]
  have h : ((n : Int) : Rat) ≠ 0 := by
    intro e
    have := Rat.intCast_inj.1 (e.trans (by rfl : (0 : Rat) = ((0 : Int) : Rat)))
    omega
  grind
theorem cov_shift (x y : Nat → Int) (c : Int) (n : Nat) (hn : 0 < n) : cov (fun i => x i + c) y n = cov x y n := by
  have h := cov_add x (fun _ => c) y n
  rw [h, cov_const c y n hn]; grind
/-- the sum of the squares of the differences to a -/
def sqd (x : Nat → Int) (a : Int) : Nat → Int
  | 0 => 0
  | n + 1 => sqd x a n + (x n - a) * (x n - a)
theorem sqd_nonneg (x : Nat → Int) (a : Int) : ∀ n : Nat, 0 ≤ sqd x a n
  | 0 => by simp [sqd]
  | n + 1 => by
    have h1 := sqd_nonneg x a n
    have h2 : 0 ≤ (x n - a) * (x n - a) := by rcases Int.le_total 0 (x n - a) with h | h; (· exact Int.mul_nonneg h h); (· exact Int.mul_nonneg_of_nonpos_of_nonpos h h)
    simp only [sqd]; omega
theorem sqd_eq (x : Nat → Int) (a : Int) : ∀ n : Nat, sqd x a n = sumP x x n - 2 * a * sumZ x n + n * (a * a)
  | 0 => by simp [sqd, sumP, sumZ]
  | n + 1 => by
    simp only [sqd, sumP, sumZ]; rw [sqd_eq x a n]
    have : ((n + 1 : Nat) : Int) = (n : Int) + 1 := by omega
    rw [this]; grind
theorem var_int (x : Nat → Int) : ∀ n : Nat, sumZ x n * sumZ x n ≤ n * sumP x x n
  | 0 => by simp [sumZ]
  | n + 1 => by
    have h1 := var_int x n
    have h2 := sqd_nonneg x (x n) n
    rw [sqd_eq] at h2
    simp only [sumZ, sumP]
    have e1 : (sumZ x n + x n) * (sumZ x n + x n) = sumZ x n * sumZ x n + 2 * x n * sumZ x n + x n * x n := by grind
    have e2 : ((n + 1 : Nat) : Int) * (sumP x x n + x n * x n) = n * sumP x x n + n * (x n * x n) + sumP x x n + x n * x n := by
      have : ((n + 1 : Nat) : Int) = (n : Int) + 1 := by omega
      rw [this]; grind
    rw [e1, e2]; omega
theorem cov_self (x : Nat → Int) (n : Nat) (hn : 0 < n) : 0 ≤ cov x x n := by
  have h := var_int x n
  have e : cov x x n = ((n * sumP x x n - sumZ x n * sumZ x n : Int) : Rat) / (((n : Int) * (n : Int) : Int) : Rat) := by
    unfold cov
    have hz : ((n : Int) : Rat) ≠ 0 := by
      intro e
      have := Rat.intCast_inj.1 (e.trans (by rfl : (0 : Rat) = ((0 : Int) : Rat)))
      omega
    rw [Rat.intCast_sub, Rat.intCast_mul, Rat.intCast_mul, Rat.intCast_mul]
    grind
  rw [e, Rat.div_def]
  refine Rat.mul_nonneg (by rw [show (0 : Rat) = ((0 : Int) : Rat) from rfl, Rat.intCast_le_intCast]; omega) (Rat.le_of_lt (Rat.inv_pos.2 ?_))
  rw [show (0 : Rat) = ((0 : Int) : Rat) from rfl, Rat.intCast_lt_intCast]
  exact Int.mul_pos (by omega) (by omega)
theorem sign_nonneg (q : Rat) (h : 0 ≤ q) : decide (0 ≤ q.num.sign) = true := by
  have : 0 ≤ q.num := Rat.num_nonneg.2 h
  rw [decide_eq_true_eq, Int.sign_nonneg_iff]
  exact this

end Go.Proofs.YtbjgnpgachdlaaaDoor
