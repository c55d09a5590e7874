/- Contracts of classical.of, zero, inRange, checkLists, covariance and Covariance. -/
import Derived.Test.YtmecipfdelgfbaaDoorJoR1
namespace Go.Proofs.YtmecipfdelgfbaaDoor
open Go.RowKit

/-- it returns the normal form of q, and an error code -/
def RatPostC (N : Nat) (w : World) (q : Rat) (c : Int) (e : Ending) (w' : World) : Prop :=
  ∃ r cr r2 cr2, e = .returned (.tuple #[.agg #[.bool (decide (q.num < 0)), .slice r (nlen q.num.natAbs) cr, .slice r2 (nlen q.den) cr2], .int .i64 c]) ∧ Nt N w' r (nlen q.num.natAbs) cr q.num.natAbs ∧ Nt N w' r2 (nlen q.den) cr2 q.den ∧ Below w.heap.size w w'
/-- the slice holds n integers -/
def Is (w : World) (a : Option Addr) (n cap : Nat) (z : Nat → Int) : Prop :=
  n ≤ cap ∧ cap ≤ maxLen ∧ (0 < n → ∃ b off, a = some ⟨b, off, none⟩ ∧ ∀ i, i < n → w.cell? ⟨b, off + i, none⟩ = some (.int .i64 (z i)))
theorem Is.below {w w' : World} {a : Option Addr} {n cap : Nat} {z : Nat → Int} (h : Is w a n cap z) (hb : Below w.heap.size w w') : Is w' a n cap z := by
  obtain ⟨h0, h1, h2⟩ := h
  refine ⟨h0, h1, fun hn => ?_⟩
  obtain ⟨b, off, e, hc⟩ := h2 hn
  exact ⟨b, off, e, fun i hi => cell_mono (hc i hi) hb⟩
theorem Is.alloc {w : World} {a : Option Addr} {n cap : Nat} {z : Nat → Int} (h : Is w a n cap z) (o : Obj) : Is (w.alloc o) a n cap z := h.below (bel1 w o)

/-- all are from -1000000 to 1000000 -/
def InR (z : Nat → Int) (n : Nat) : Prop := ∀ i, i < n → -1000000 ≤ z i ∧ z i ≤ 1000000
def sumZ (z : Nat → Int) : Nat → Int
  | 0 => 0
  | k + 1 => sumZ z k + z k
def sumP (x y : Nat → Int) : Nat → Int
  | 0 => 0
  | k + 1 => sumP x y k + x k * y k
def InM (z : Nat → Int) (n : Nat) : Prop := ∀ i, i < n → -60000000 ≤ z i ∧ z i ≤ 60000000
theorem InR.big {z : Nat → Int} {n : Nat} (h : InR z n) : InM z n := fun i hi => by have := h i hi; omega
theorem sumZ_bd {z : Nat → Int} {n : Nat} (h : InM z n) : ∀ k, k ≤ n → -(60000000 * (k : Int)) ≤ sumZ z k ∧ sumZ z k ≤ 60000000 * (k : Int)
  | 0, _ => by simp [sumZ]
  | k + 1, hk => by
    have := sumZ_bd h k (by omega)
    have := h k (by omega)
    simp only [sumZ]; omega
theorem mul_bd {a b : Int} (h1 : -60000000 ≤ a) (h2 : a ≤ 60000000) (h3 : -60000000 ≤ b) (h4 : b ≤ 60000000) : -3600000000000000 ≤ a * b ∧ a * b ≤ 3600000000000000 := by
  have h : (a * b).natAbs ≤ 60000000 * 60000000 := by rw [Int.natAbs_mul]; exact Nat.mul_le_mul (by omega) (by omega)
  omega
theorem sumP_bd {x y : Nat → Int} {n : Nat} (hx : InM x n) (hy : InM y n) : ∀ k, k ≤ n → -(3600000000000000 * (k : Int)) ≤ sumP x y k ∧ sumP x y k ≤ 3600000000000000 * (k : Int)
  | 0, _ => by simp [sumP]
  | k + 1, hk => by
    have := sumP_bd hx hy k (by omega)
    have h1 := hx k (by omega)
    have h2 := hy k (by omega)
    have := mul_bd h1.1 h1.2 h2.1 h2.2
    simp only [sumP]; omega
theorem rsz_div (z : Int) (n : Nat) (p : Rat) (hp : (z : Rat) / ((n : Int) : Rat) = p) (h1 : z.natAbs < 18446744073709551616) (h2 : n < 18446744073709551616) : rsz p ≤ 2 := by
  have e : mkRat z n = p := by rw [Rat.mkRat_eq_div]; exact hp
  rw [← e]
  exact rsz_mk _ _ _ (by omega) (nlen_two h1) (nlen_two h2)
/-- the covariance: the mean of the products less the product of the means -/
def cov (x y : Nat → Int) (n : Nat) : Rat := ((sumP x y n : Int) : Rat) / ((n : Int) : Rat) - ((sumZ x n : Int) : Rat) / ((n : Int) : Rat) * (((sumZ y n : Int) : Rat) / ((n : Int) : Rat))

/-- are the first k from -1000000 to 1000000? -/
def inrB (z : Nat → Int) : Nat → Bool
  | 0 => true
  | k + 1 => inrB z k && decide (-1000000 ≤ z k ∧ z k ≤ 1000000)
theorem inrB_true {z : Nat → Int} : ∀ {n : Nat}, inrB z n = true ↔ InR z n
  | 0 => by simp [inrB, InR]
  | n + 1 => by
    simp only [inrB, Bool.and_eq_true, decide_eq_true_eq, inrB_true (n := n)]
    constructor
    · rintro ⟨h1, h2⟩ i hi
      rcases Nat.lt_or_ge i n with h | h
      · exact h1 i h
      · obtain rfl : i = n := by omega
        exact h2
    · intro h; exact ⟨fun i hi => h i (by omega), h n (by omega)⟩
theorem inrB_mono {z : Nat → Int} {k n : Nat} (h : k ≤ n) (hz : inrB z k = false) : inrB z n = false := by
  rw [← Bool.not_eq_true] at hz ⊢
  exact fun e => hz (inrB_true.2 (fun i hi => inrB_true.1 e i (by omega)))

end Go.Proofs.YtmecipfdelgfbaaDoor
