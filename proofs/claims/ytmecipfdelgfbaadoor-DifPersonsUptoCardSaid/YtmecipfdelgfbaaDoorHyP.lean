/- Plain laws of the hypergeometric distribution and of the two-sided p-value: no program in sight; no condition. -/
import Derived.Test.YtmecipfdelgfbaaDoorJoF
namespace Go.Proofs.YtmecipfdelgfbaaDoor
open Go.RowKit

def hyQ (t m d i : Nat) : Rat := frq (hyp t m d i) (chs t d)
theorem natQ_pos {n : Nat} (h : 0 < n) : (0 : Rat) < (n : Rat) := by exact_mod_cast h
theorem frq_nonneg (m d : Nat) : 0 ≤ frq m d := by
  unfold frq
  rw [← Rat.num_nonneg, Rat.num_mkRat]
  split
  · exact Int.le_refl _
  · exact Int.ediv_nonneg (by omega) (by omega)
theorem sQ_frq (f : Nat → Nat) (d : Nat) (n : Nat) : sQ (fun i => frq (f i) d) n = frq (sN f n) d := by
  rw [frq_div, sN_sQ, sQ_congr (g := fun i => (f i : Rat) * (d : Rat)⁻¹) (fun i _ => by rw [frq_div, Rat.div_def]), sQ_mulr, Rat.div_def]
theorem hyQ_valid (t m d : Nat) (ht : t ≤ 120) (hm : m ≤ t) (hd : d ≤ t) : valid (hyQ t m d) (min m d + 1) = true := by
  refine valid_iff.2 ⟨by omega, by omega, fun i _ => frq_nonneg _ _, ?_⟩
  have e : sQ (hyQ t m d) (min m d + 1) = frq (sN (hyp t m d) (min m d + 1)) (chs t d) := sQ_frq _ _ _
  rw [e, hyp_total t m d hm, frq_div]
  have := natQ_ne (chs_pos hd)
  grind
theorem hyQ_len (t m d i : Nat) (ht : t ≤ 120) (hm : m ≤ t) : rsz (hyQ t m d i) ≤ 14 := by
  have h1 := chs_len m i (by omega)
  have h2 := chs_len (t - m) (d - i) (by omega)
  have h3 := chs_len t d (by omega)
  have h4 := nlen_mul (chs m i) (chs (t - m) (d - i))
  exact frq_len _ _ _ (by omega) (by unfold hyp; omega) (by omega)
theorem sQ_rev (f : Nat → Rat) : ∀ n, sQ (fun i => f (n - 1 - i)) n = sQ f n
  | 0 => rfl
  | n + 1 => by
    rw [sQ_first, sQ_congr (n := n) (g := fun i => f (n - 1 - i)) (fun i hi => by rw [show n + 1 - 1 - (i + 1) = n - 1 - i by omega]), sQ_rev f n]
    simp only [sQ]
    rw [show n + 1 - 1 - 0 = n by omega]
    grind
theorem chs_sym (n k : Nat) (h : k ≤ n) : chs n (n - k) = chs n k := by
  have h1 := chs_fac n k h
  have h2 := chs_fac n (n - k) (by omega)
  rw [show n - (n - k) = k by omega] at h2
  have p1 := prd_pos 1 (by omega) k
  have p2 := prd_pos 1 (by omega) (n - k)
  refine Nat.eq_of_mul_eq_mul_right (Nat.mul_pos p1 p2) ?_
  rw [← Nat.mul_assoc (chs n k), h1, Nat.mul_comm (prd 1 k), ← Nat.mul_assoc, h2]
def extQ (f : Nat → Rat) (n i : Nat) : Rat := if i < n then f i else 0
theorem both_ext (f : Nat → Rat) (n M k : Nat) (hn : n ≤ M) (hk : k < n) : sQ (fun i => if extQ f n i ≤ extQ f n k then extQ f n i else 0) M = bothQ f n k := by
  rw [sQ_ext' hn (fun i a b => by rw [show extQ f n i = 0 from if_neg (by omega)]; split <;> rfl)]
  unfold bothQ
  refine sQ_congr (fun i hi => ?_)
  rw [show extQ f n i = f i from if_pos hi, show extQ f n k = f k from if_pos hk]
theorem both_rev (f g : Nat → Rat) (n m M k : Nat) (hn : n ≤ M + 1) (hm : m ≤ M + 1) (hk : k < n) (hk2 : M - k < m) (h : ∀ i, i ≤ M → extQ f n i = extQ g m (M - i)) : bothQ f n k = bothQ g m (M - k) := by
  rw [← both_ext f n (M + 1) k hn hk, ← both_ext g m (M + 1) (M - k) hm hk2, ← sQ_rev (fun i => if extQ g m i ≤ extQ g m (M - k) then extQ g m i else 0)]
  refine sQ_congr (fun i hi => ?_)
  rw [show M + 1 - 1 - i = M - i by omega, ← h i (by omega), ← h k (by omega)]
theorem hyQ_zero (t m d i : Nat) (h : m < i ∨ t - m < d - i) : hyQ t m d i = 0 := by
  unfold hyQ hyp
  rcases h with h | h
  · rw [chs_high h, Nat.zero_mul, frq_zero]
  · rw [chs_high h, Nat.mul_zero, frq_zero]
theorem hy_groups (t m d i : Nat) (hm : m ≤ t) (hd : d ≤ t) (hi : i ≤ m) : extQ (hyQ t m d) (min m d + 1) i = extQ (hyQ t m (t - d)) (min m (t - d) + 1) (m - i) := by
  unfold extQ
  by_cases h1 : i ≤ d
  · rw [if_pos (by omega)]
    by_cases h2 : m - i ≤ t - d
    · rw [if_pos (by omega)]
      unfold hyQ hyp
      rw [chs_sym m i hi, chs_sym t d hd, show t - d - (m - i) = t - m - (d - i) by omega, chs_sym (t - m) (d - i) (by omega)]
    · rw [if_neg (by omega)]
      exact hyQ_zero t m d i (.inr (by omega))
  · rw [if_neg (by omega)]
    by_cases h2 : m - i ≤ t - d
    · rw [if_pos (by omega), hyQ_zero t m (t - d) (m - i) (.inr (by omega))]
    · rw [if_neg (by omega)]
theorem both_le1 (q : Nat → Rat) (n k : Nat) (h : ∀ i, i < n → 0 ≤ q i) (hv : sQ q n = 1) : bothQ q n k ≤ 1 := by
  rw [← hv]
  exact sQ_le (fun i hi => by by_cases hh : q i ≤ q k; (· rw [if_pos hh]; exact Rat.le_refl); (· rw [if_neg hh]; exact h i hi))
theorem both_ge1 (q : Nat → Rat) (n k : Nat) (h : ∀ i, i < n → 0 ≤ q i) (hk : k < n) : q k ≤ bothQ q n k := by
  have := sQ_one_le (f := fun i => if q i ≤ q k then q i else 0) (n := n) (k := k) (fun i hi => by by_cases hh : q i ≤ q k; (· rw [if_pos hh]; exact h i hi); (· rw [if_neg hh]; exact Rat.le_refl)) hk
  rw [if_pos Rat.le_refl] at this
  exact this
theorem frq_pos {m d : Nat} (hm : 0 < m) (hd : 0 < d) : 0 < frq m d := by
  rw [frq_div]
  have h1 := natQ_pos hm
  have h2 := natQ_pos hd
  have h3 := Rat.inv_pos.2 h2
  rw [Rat.div_def]
  exact Rat.mul_pos h1 h3
theorem rsz_addF (p q : Rat) : rsz (p + q) ≤ rsz p + rsz q + 1 := by
  have e : p + q = mkRat (p.num * q.den + q.num * p.den) (p.den * q.den) := by
    have h := Rat.mkRat_add_mkRat p.num q.num (d₁ := p.den) (d₂ := q.den) p.den_nz q.den_nz
    rw [Rat.mkRat_self, Rat.mkRat_self] at h
    exact h
  rw [e]
  have h1 : nlen p.num.natAbs ≤ rsz p ∧ nlen p.den ≤ rsz p := by unfold rsz; omega
  have h2 : nlen q.num.natAbs ≤ rsz q ∧ nlen q.den ≤ rsz q := by unfold rsz; omega
  have a1 := nlen_mul p.num.natAbs q.den
  have a2 := nlen_mul q.num.natAbs p.den
  have a3 := nlen_mul p.den q.den
  have b1 : (p.num * q.den + q.num * p.den).natAbs ≤ p.num.natAbs * q.den + q.num.natAbs * p.den := by
    have := Int.natAbs_add_le (p.num * q.den) (q.num * p.den)
    rw [Int.natAbs_mul, Int.natAbs_mul, Int.natAbs_natCast, Int.natAbs_natCast] at this
    exact this
  have b2 := nlen_mono b1
  have b3 := nlen_add (p.num.natAbs * q.den) (q.num.natAbs * p.den)
  exact rsz_mk _ _ _ (by omega) (by omega) (by omega)

end Go.Proofs.YtmecipfdelgfbaaDoor
