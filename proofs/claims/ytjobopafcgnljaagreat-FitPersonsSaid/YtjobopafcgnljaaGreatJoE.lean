import Derived.Test.YtjobopafcgnljaaGreatJoD
namespace Go.Proofs.YtjobopafcgnljaaGreat
theorem frq_div (m d : Nat) : frq m d = (m : Rat) / (d : Rat) := by
 unfold frq
 rw [Rat.mkRat_eq_div]
 rfl
theorem natQ_ne {d : Nat} (h : 0 < d) : (d : Rat) ≠ 0 := by
 intro e
 have : d = 0 := by exact_mod_cast e
 omega
theorem natQ_inj {a b : Nat} : (a : Rat) = (b : Rat) ↔ a = b := by
 constructor
 ·intro h; exact_mod_cast h
 ·rintro rfl; rfl
theorem den_mul (q : Rat) (h : 0 ≤ q) : ((q.num.natAbs : Nat) : Rat) = q * (q.den : Rat) := by
 have h1 := Rat.num_nonneg.2 h
 have h2 : ((q.num.natAbs : Nat) : Rat) = ((q.num : Int) : Rat) := by
  have : ((q.num.natAbs : Nat) : Int) = q.num := by omega
  rw [← this]; rfl
 rw [h2]
 have h3 := Rat.mkRat_self q
 rw [Rat.mkRat_eq_div] at h3
 have h4 := natQ_ne q.den_pos
 have h5 : ((q.num : Int) : Rat) / ((q.den : Nat) : Rat) = q := h3
 grind
theorem sQ_mulr (c : Rat) (f : Nat → Rat) (n : Nat) : sQ (fun i => f i * c) n = sQ f n * c := by
 rw [Rat.mul_comm, ← sQ_mul]
 exact sQ_congr (fun i _ => Rat.mul_comm _ _)
def dnm (q : Nat → Rat) (n : Nat) : Nat := lcN (deQ q) n
theorem dnm_pos (q : Nat → Rat) (n : Nat) : 0 < dnm q n := lcN_pos (fun i _ => (q i).den_pos)
theorem nm_cast (q : Nat → Rat) (n i : Nat) (hi : i < n) (h : 0 ≤ q i) : ((nmN q n i : Nat) : Rat) = q i * ((dnm q n : Nat) : Rat) := by
 obtain ⟨c, hc⟩ := lcN_dvd (d := deQ q) (n := n) i hi
 have hd : 0 < deQ q i := (q i).den_pos
 unfold nmN dnm
 rw [hc, Nat.mul_div_cancel_left _ hd, natQ_mul, natQ_mul]
 have := den_mul (q i) h
 unfold nuQ deQ
 rw [this]; grind
theorem frq_sum (q : Nat → Rat) (n : Nat) (f : Nat → Nat) (g : Nat → Rat) (k : Nat) (h : ∀ i, i < k → ((f i : Nat) : Rat) = g i * ((dnm q n : Nat) : Rat)) : frq (sN f k) (dnm q n) = sQ g k := by
 rw [frq_div, sN_sQ, sQ_congr h, sQ_mulr]
 have := natQ_ne (dnm_pos q n)
 grind
def valid (q : Nat → Rat) (n : Nat) : Bool := decide (0 < n ∧ n ≤ 121 ∧ (∀ i, i < n → 0 ≤ q i) ∧ sQ q n = 1)
theorem valid_iff {q : Nat → Rat} {n : Nat} : valid q n = true ↔ (0 < n ∧ n ≤ 121 ∧ (∀ i, i < n → 0 ≤ q i) ∧ sQ q n = 1) := by unfold valid; simp
theorem valid_sum (q : Nat → Rat) (n : Nat) (h : ∀ i, i < n → 0 ≤ q i) : (sN (nmN q n) n = lcN (deQ q) n) ↔ sQ q n = 1 := by
 have h1 := frq_sum q n (nmN q n) q n (fun i hi => nm_cast q n i hi (h i hi))
 have hp := natQ_ne (dnm_pos q n)
 rw [← h1, frq_div, ← natQ_inj]
 unfold dnm at *
 constructor
 ·intro e; rw [e]; grind
 ·intro e; grind
def upQ (q : Nat → Rat) (n k : Nat) : Rat := sQ (fun i => q (k + i)) (n - k)
section
variable {q : Nat → Rat} {n : Nat} (h : ∀ i, i < n → 0 ≤ q i)
include h
theorem up_frq (k : Nat) : frq (sN (fun i => nmN q n (k + i)) (n - k)) (lcN (deQ q) n) = upQ q n k :=
 frq_sum q n _ _ (n - k) (fun i hi => nm_cast q n (k + i) (by omega) (h (k + i) (by omega)))
end
end Go.Proofs.YtjobopafcgnljaaGreat
namespace Go.Proofs.YtjobopafcgnljaaGreat
open Go.RowKit
theorem num_yes {N : Nat} (a : Option Addr) (n cap : Nat) (q : Nat → Rat) (L : Nat) (w : World) (hN : N ≤ w.heap.size) (h : Rs N w a n cap q L) (hL : L ≤ 2097152) (hv : valid q n = true) :
  Calls Tryz.prog 52 #[.slice a n cap] w (NumPost N w n q L true) := by
 obtain ⟨h0, h1, h2, h3⟩ := valid_iff.1 hv
 exact num_main a n cap q L w hN h hL h0 h1 h2 true (decide_eq_true ((valid_sum q n h2).2 h3))
def RatOk (N : Nat) (w : World) (q : Rat) (e : Ending) (w' : World) : Prop :=
 ∃ r cr r2 cr2, e = .returned (.tuple #[.agg #[.bool (decide (q.num < 0)), .slice r (nlen q.num.natAbs) cr, .slice r2 (nlen q.den) cr2], .int .i64 0]) ∧ Nt N w' r (nlen q.num.natAbs) cr q.num.natAbs ∧ Nt N w' r2 (nlen q.den) cr2 q.den ∧ Below w.heap.size w w'
theorem nm_len {N : Nat} {w : World} {a : Option Addr} {n cap L : Nat} {q : Nat → Rat} (h : Rs N w a n cap q L) (hm : L * n ≤ L * 121) (hld : nlen (lcN (deQ q) n) ≤ L * n + 1) : ∀ i, i < n → nlen (nmN q n i) ≤ L * 122 + 1 := by
 intro i hi
 have h1 := h.lim i hi
 have h2 := nlen_mul (nuQ q i) (lcN (deQ q) n / deQ q i)
 have h3 := nlen_mono (Nat.div_le_self (lcN (deQ q) n) (deQ q i))
 have h4 : nlen (nuQ q i) ≤ L := by unfold rsz at h1; unfold nuQ; omega
 unfold nmN; omega
end Go.Proofs.YtjobopafcgnljaaGreat
