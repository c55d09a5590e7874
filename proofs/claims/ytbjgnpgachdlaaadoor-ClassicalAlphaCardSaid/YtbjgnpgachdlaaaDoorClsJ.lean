/- Plain laws: alpha is at most 1, and the square of a covariance is at most the product of the variances. No program in sight. -/
import Derived.Test.YtbjgnpgachdlaaaDoorClsI
namespace Go.Proofs.YtbjgnpgachdlaaaDoor

theorem sumZ_scale (p : Int) (x : Nat → Int) : ∀ n, sumZ (fun i => p * x i) n = p * sumZ x n
  | 0 => by simp [sumZ]
  | n + 1 => by simp only [sumZ]; rw [sumZ_scale p x n]; grind
theorem sumP_scale (p : Int) (x y : Nat → Int) : ∀ n, sumP (fun i => p * x i) y n = p * sumP x y n
  | 0 => by simp [sumP]
  | n + 1 => by simp only [sumP]; rw [sumP_scale p x y n]; grind
theorem cov_scale (p : Int) (x y : Nat → Int) (n : Nat) : cov (fun i => p * x i) y n = (p : Rat) * cov x y n := by
  unfold cov
  rw [sumP_scale, sumZ_scale, Rat.intCast_mul, Rat.intCast_mul, Rat.div_def, Rat.div_def, Rat.div_def, Rat.div_def, Rat.div_def]
  grind
/-- the variance of p x + q y -/
theorem cov_two (p q : Int) (x y : Nat → Int) (n : Nat) : cov (fun i => p * x i + q * y i) (fun i => p * x i + q * y i) n = (p : Rat) * p * cov x x n + 2 * (p : Rat) * q * cov x y n + (q : Rat) * q * cov y y n := by
  have h1 := cov_add (fun i => p * x i) (fun i => q * y i) (fun i => p * x i + q * y i) n
  rw [h1, cov_scale, cov_scale, cov_comm x (fun i => p * x i + q * y i), cov_comm y (fun i => p * x i + q * y i), cov_add (fun i => p * x i) (fun i => q * y i) x n, cov_add (fun i => p * x i) (fun i => q * y i) y n, cov_scale, cov_scale, cov_scale, cov_scale, cov_comm y x]
  grind
theorem quad_nonneg (p q : Int) (x y : Nat → Int) (n : Nat) (hn : 0 < n) : 0 ≤ (p : Rat) * p * cov x x n + 2 * (p : Rat) * q * cov x y n + (q : Rat) * q * cov y y n := by
  rw [← cov_two]; exact cov_self _ n hn
theorem quad_rat (r : Rat) (x y : Nat → Int) (n : Nat) (hn : 0 < n) : 0 ≤ r * r * cov x x n + 2 * r * cov x y n + cov y y n := by
  have h := quad_nonneg r.num r.den x y n hn
  have hd : (0 : Rat) < ((r.den : Int) : Rat) := by
    rw [show (0 : Rat) = ((0 : Int) : Rat) from rfl, Rat.intCast_lt_intCast]; have := r.den_pos; omega
  have hr : r = (r.num : Rat) / ((r.den : Int) : Rat) := by
    have := Rat.mkRat_self r
    rw [Rat.mkRat_eq_div] at this
    exact this.symm
  have hm : r * ((r.den : Int) : Rat) = (r.num : Rat) := by rw [hr]; grind
  refine Rat.le_of_mul_le_mul_right (c := ((r.den : Int) : Rat) * ((r.den : Int) : Rat)) ?_ (Rat.mul_pos hd hd)
  rw [← hm] at h
  grind
/-- Cauchy's inequality -/
theorem cauchy (x y : Nat → Int) (n : Nat) (hn : 0 < n) (h : 0 < cov x x n) : cov x y n * cov x y n ≤ cov x x n * cov y y n := by
  have h1 := quad_rat (-(cov x y n / cov x x n)) x y n hn
  have h2 := Rat.mul_le_mul_of_nonneg_right h1 (Rat.le_of_lt h)
  generalize cov x x n = A at *
  generalize cov x y n = C at *
  generalize cov y y n = D at *
  have hA : A ≠ 0 := by grind
  have e : (-(C / A) * -(C / A) * A + 2 * -(C / A) * C + D) * A = A * D - C * C := by grind
  rw [e] at h2
  grind
/-- the sum of the variances of the differences to item j -/
def dq (z : Nat → Nat → Int) (n j : Nat) : Nat → Rat
  | 0 => 0
  | i + 1 => dq z n j i + cov (fun p => 1 * colZ z i p + (-1) * colZ z j p) (fun p => 1 * colZ z i p + (-1) * colZ z j p) n
theorem dq_nonneg (z : Nat → Nat → Int) (n j : Nat) (hn : 0 < n) : ∀ k, 0 ≤ dq z n j k
  | 0 => Rat.le_refl
  | k + 1 => by
    have h1 := dq_nonneg z n j hn k
    have h2 := cov_self (fun p => 1 * colZ z k p + (-1) * colZ z j p) n hn
    simp only [dq]; grind
theorem tot_succ (z : Nat → Nat → Int) (k : Nat) : totZ z (k + 1) = fun p => totZ z k p + colZ z k p := by funext p; rfl
theorem dq_eq (z : Nat → Nat → Int) (n j : Nat) : ∀ k : Nat, dq z n j k = itm z n k + (k : Rat) * cov (colZ z j) (colZ z j) n - 2 * cov (totZ z k) (colZ z j) n
  | 0 => by
    have e : totZ z 0 = fun _ => 0 := by funext p; rfl
    rw [e, cov_zero]; simp only [dq, itm]; grind
  | k + 1 => by
    rw [dq, dq_eq z n j k, cov_two, tot_succ, cov_add, itm, natQ_succ']
    grind
where natQ_succ' {k : Nat} : ((k + 1 : Nat) : Rat) = (k : Rat) + 1 := Rat.natCast_add k 1
/-- the variance of a sum of k items is at most k times the sum of their variances -/
theorem var_tot (z : Nat → Nat → Int) (n : Nat) (hn : 0 < n) : ∀ k : Nat, cov (totZ z k) (totZ z k) n ≤ (k : Rat) * itm z n k
  | 0 => by
    have e : totZ z 0 = fun _ => 0 := by funext p; rfl
    rw [e, cov_zero]; simp only [itm]; grind
  | k + 1 => by
    have h1 := var_tot z n hn k
    have h2 := dq_nonneg z n k hn k
    rw [dq_eq] at h2
    have e : cov (totZ z (k + 1)) (totZ z (k + 1)) n = cov (totZ z k) (totZ z k) n + 2 * cov (totZ z k) (colZ z k) n + cov (colZ z k) (colZ z k) n := by
      rw [tot_succ, cov_add, cov_comm (totZ z k) (fun p => totZ z k p + colZ z k p), cov_comm (colZ z k) (fun p => totZ z k p + colZ z k p), cov_add, cov_add, cov_comm (colZ z k) (totZ z k)]; grind
    rw [e, itm, Rat.natCast_add]
    grind
theorem alpha_le (z : Nat → Nat → Int) (n K : Nat) (hn : 0 < n) (hK : 2 ≤ K) (v : Rat) (hv : cov (totZ z K) (totZ z K) n = v) (hv0 : v ≠ 0) :
    ((K : Int) : Rat) / (((K : Int) - 1 : Int) : Rat) * (((1 : Int) : Rat) / ((1 : Int) : Rat) - itm z n K / v) ≤ 1 := by
  have h0 : 0 ≤ v := by rw [← hv]; exact cov_self _ n hn
  have hp : 0 < v := by grind
  have h1 := var_tot z n hn K
  rw [hv] at h1
  have hk : (0 : Rat) < (((K : Int) - 1 : Int) : Rat) := by rw [show (0 : Rat) = ((0 : Int) : Rat) from rfl, Rat.intCast_lt_intCast]; omega
  have e1 : (((K : Int) - 1 : Int) : Rat) = ((K : Int) : Rat) - 1 := by rw [Rat.intCast_sub]; rfl
  have e2 : ((K : Int) : Rat) = (K : Rat) := rfl
  have e3 : ((1 : Int) : Rat) / ((1 : Int) : Rat) = 1 := by first | grind | decide
  rw [e3]
  refine Rat.le_of_mul_le_mul_right (c := (((K : Int) - 1 : Int) : Rat) * v) ?_ (Rat.mul_pos hk hp)
  have e4 : ((K : Int) : Rat) / (((K : Int) - 1 : Int) : Rat) * (1 - itm z n K / v) * ((((K : Int) - 1 : Int) : Rat) * v) = ((K : Int) : Rat) * v - ((K : Int) : Rat) * itm z n K := by
    have : (((K : Int) - 1 : Int) : Rat) ≠ 0 := by grind
    grind
  rw [e4, e1, e2]
  grind

end Go.Proofs.YtbjgnpgachdlaaaDoor
