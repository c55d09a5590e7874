/- The plain law of ClassicalParts: the variance of the totals is the sum of all covariances. No program in sight. -/
import Derived.Test.YtbjgnpgachdlaaaDoorClsC
namespace Go.Proofs.YtbjgnpgachdlaaaDoor

theorem sumZ_add (x y : Nat → Int) : ∀ n, sumZ (fun i => x i + y i) n = sumZ x n + sumZ y n
  | 0 => by simp [sumZ]
  | n + 1 => by simp only [sumZ]; rw [sumZ_add x y n]; omega
theorem sumP_add (x x' y : Nat → Int) : ∀ n, sumP (fun i => x i + x' i) y n = sumP x y n + sumP x' y n
  | 0 => by simp [sumP]
  | n + 1 => by simp only [sumP]; rw [sumP_add x x' y n, Int.add_mul]; omega
theorem sumP_comm (x y : Nat → Int) : ∀ n, sumP x y n = sumP y x n
  | 0 => rfl
  | n + 1 => by simp only [sumP]; rw [sumP_comm x y n, Int.mul_comm]
theorem cov_add (x x' y : Nat → Int) (n : Nat) : cov (fun i => x i + x' i) y n = cov x y n + cov x' y n := by
  unfold cov
  rw [sumP_add, sumZ_add, Rat.intCast_add, Rat.intCast_add, Rat.div_def, Rat.div_def, Rat.div_def, Rat.div_def, Rat.div_def, Rat.div_def, Rat.div_def]
  grind
theorem cov_comm (x y : Nat → Int) (n : Nat) : cov x y n = cov y x n := by
  unfold cov
  rw [sumP_comm]; grind
theorem cov_zero (y : Nat → Int) (n : Nat) : cov (fun _ => 0) y n = 0 := by
  have h := cov_add (fun _ => 0) (fun _ => 0) y n
  have e : (fun i : Nat => (fun _ : Nat => (0 : Int)) i + (fun _ : Nat => (0 : Int)) i) = fun _ => 0 := by funext i; rfl
  rw [e] at h
  grind
/-- the sum so far, in the row of item i -/
def accQ (base : Rat) (z : Nat → Nat → Int) (n i : Nat) : Nat → Rat
  | 0 => base
  | j + 1 => accQ base z n i j + cov (colZ z i) (colZ z j) n
/-- the sum of the first rows -/
def allO (z : Nat → Nat → Int) (n K : Nat) : Nat → Rat
  | 0 => 0
  | i + 1 => accQ (allO z n K i) z n i K
def ownQ (z : Nat → Nat → Int) (n i j : Nat) : Rat := if i < j then itm z n (i + 1) else itm z n i
theorem accQ_eq (base : Rat) (z : Nat → Nat → Int) (n i : Nat) : ∀ j, accQ base z n i j = base + cov (colZ z i) (totZ z j) n
  | 0 => by
    have e : totZ z 0 = fun _ => 0 := by funext p; rfl
    rw [e, cov_comm, cov_zero]; simp only [accQ]; grind
  | j + 1 => by
    have e : totZ z (j + 1) = fun p => totZ z j p + colZ z j p := by funext p; rfl
    rw [accQ, accQ_eq base z n i j, e, cov_comm (colZ z i) (fun p => totZ z j p + colZ z j p), cov_add, cov_comm (totZ z j), cov_comm (colZ z j)]; grind
theorem allO_eq (z : Nat → Nat → Int) (n K : Nat) : ∀ i, allO z n K i = cov (totZ z i) (totZ z K) n
  | 0 => by
    have e : totZ z 0 = fun _ => 0 := by funext p; rfl
    rw [e, cov_zero]; rfl
  | i + 1 => by
    have e : totZ z (i + 1) = fun p => totZ z i p + colZ z i p := by funext p; rfl
    rw [allO, accQ_eq, allO_eq z n K i, e, cov_add]
theorem rsz_accQ {z : Nat → Nat → Int} {n K : Nat} (h : ∀ p, p < n → InR (z p) K) (hn : n ≤ 200) (base : Rat) {i : Nat} (hi : i < K) : ∀ j, j ≤ K → rsz (accQ base z n i j) ≤ rsz base + 8 * j
  | 0, _ => by simp [accQ]
  | j + 1, hj => by
    have h1 := rsz_accQ h hn base hi j (by omega)
    have h2 := rsz_add (accQ base z n i j) (cov (colZ z i) (colZ z j) n)
    have h3 := rsz_cov (col_in h hi) (col_in h (show j < K by omega)) hn
    simp only [accQ]; omega
theorem rsz_allO {z : Nat → Nat → Int} {n K : Nat} (h : ∀ p, p < n → InR (z p) K) (hn : n ≤ 200) (hK : K ≤ 5) : ∀ i, i ≤ K → rsz (allO z n K i) ≤ 1 + 40 * i
  | 0, _ => by simp only [allO]; have := rsz_zero; omega
  | i + 1, hi => by
    have h1 := rsz_allO h hn hK i (by omega)
    have h2 := rsz_accQ h hn (allO z n K i) (show i < K by omega) K (by omega)
    simp only [allO]; omega
theorem rsz_ownQ {z : Nat → Nat → Int} {n K : Nat} (h : ∀ p, p < n → InR (z p) K) (hn : n ≤ 200) (hK : K ≤ 5) {i : Nat} (hi : i < K) (j : Nat) : rsz (ownQ z n i j) ≤ 41 := by
  unfold ownQ
  split
  · have := rsz_itm h hn (i + 1) (by omega); omega
  · have := rsz_itm h hn i (by omega); omega

end Go.Proofs.YtbjgnpgachdlaaaDoor
