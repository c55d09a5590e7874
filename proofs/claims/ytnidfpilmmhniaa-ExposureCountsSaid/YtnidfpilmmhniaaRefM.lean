/- Plain arithmetic for the reference's natural numbers: bits, halves, division by shifted subtraction. No program in sight; no condition. -/
import Derived.Test.YtnidfpilmmhniaaNatG
namespace Go.Proofs.Ytnidfpilmmhniaa
open Go.RowKit

/-- how many bits a number has -/
def bl (m : Nat) : Nat := if h : m = 0 then 0 else bl (m / 2) + 1
termination_by m
decreasing_by exact Nat.div_lt_self (Nat.pos_of_ne_zero h) (by decide)
theorem bl_zero : bl 0 = 0 := by unfold bl; simp
theorem bl_pos {m : Nat} (h : m ≠ 0) : bl m = bl (m / 2) + 1 := by rw [bl]; simp [h]
theorem bl_eq_zero {m : Nat} : bl m = 0 ↔ m = 0 := by
  constructor
  · intro h; by_cases h0 : m = 0
    · exact h0
    · rw [bl_pos h0] at h; omega
  · rintro rfl; exact bl_zero
theorem lt_two_bl (m : Nat) : m < 2 ^ bl m := by
  induction m using Nat.strongRecOn with
  | ind m ih =>
    by_cases h : m = 0
    · subst h; simp [bl_zero]
    · rw [bl_pos h, Nat.pow_succ]
      have := ih (m / 2) (Nat.div_lt_self (Nat.pos_of_ne_zero h) (by decide))
      omega
theorem two_bl_le {m : Nat} (h : m ≠ 0) : 2 ^ (bl m - 1) ≤ m := by
  induction m using Nat.strongRecOn with
  | ind m ih =>
    rw [bl_pos h, Nat.add_sub_cancel]
    by_cases h1 : m / 2 = 0
    · rw [h1, bl_zero]; simp; omega
    · have h2 := ih (m / 2) (Nat.div_lt_self (Nat.pos_of_ne_zero h) (by decide)) h1
      have h3 : bl (m / 2) ≠ 0 := fun e => h1 (bl_eq_zero.1 e)
      obtain ⟨k, hk⟩ : ∃ k, bl (m / 2) = k + 1 := ⟨bl (m / 2) - 1, by omega⟩
      rw [hk] at h2 ⊢
      rw [Nat.add_sub_cancel] at h2
      rw [Nat.pow_succ]; omega
theorem bl_shift (t : Nat) (ht : t ≠ 0) : ∀ (j low : Nat), low < 2 ^ j → bl (low + 2 ^ j * t) = j + bl t
  | 0, low, hl => by
    have : low = 0 := by simp at hl; exact hl
    subst this; simp
  | j + 1, low, hl => by
    have hp : 0 < 2 ^ (j + 1) * t := Nat.mul_pos (Nat.pow_pos (by decide)) (by omega)
    rw [bl_pos (by omega)]
    have e : (low + 2 ^ (j + 1) * t) / 2 = low / 2 + 2 ^ j * t := by
      rw [Nat.pow_succ, Nat.mul_comm (2 ^ j) 2, Nat.mul_assoc, Nat.add_mul_div_left _ _ (by decide)]
    rw [e, bl_shift t ht j (low / 2) (by rw [Nat.pow_succ] at hl; omega)]; omega
theorem B_two : B = 2 ^ 32 := by decide
theorem pB_two (k : Nat) : B ^ k = 2 ^ (32 * k) := by rw [B_two, ← Nat.pow_mul]
theorem bl_top {m k : Nat} (h : nlen m = k + 1) : bl m = 32 * k + bl (dig m k) := by
  have h1 := lt_pow_nlen m
  rw [h] at h1
  have e := mod_succ m k
  rw [Nat.mod_eq_of_lt h1] at e
  have h2 := bl_shift (dig m k) (top_ne m k h) (32 * k) (m % B ^ k) (by rw [← pB_two]; exact Nat.mod_lt _ (pB k))
  rw [← pB_two, ← e] at h2
  exact h2
theorem bl_le {m n : Nat} (h : m < 2 ^ n) : bl m ≤ n := by
  by_cases h0 : m = 0
  · subst h0; rw [bl_zero]; omega
  · have h1 := two_bl_le h0
    rcases Nat.lt_or_ge n (bl m) with h2 | h2
    · have := Nat.pow_le_pow_right (show 0 < 2 by decide) (show n ≤ bl m - 1 by omega); omega
    · exact h2
theorem bl_dig (m k : Nat) : bl (dig m k) ≤ 32 := bl_le (by have := dig_lt' m k; omega)
theorem bl_nlen (m : Nat) : bl m ≤ 32 * nlen m := bl_le (by rw [← pB_two]; exact lt_pow_nlen m)
theorem lt_of_bl {a b : Nat} (h : bl a < bl b) : a < b := by
  have h1 := lt_two_bl a
  have hb : b ≠ 0 := fun e => by subst e; rw [bl_zero] at h; omega
  have h2 := two_bl_le hb
  have := Nat.pow_le_pow_right (show 0 < 2 by decide) (show bl a ≤ bl b - 1 by omega)
  omega

/-! ### Bits of limbs -/
theorem dig_shift (x i : Nat) : dig x i = (x >>> (32 * i)) % 2 ^ 32 := by
  unfold dig; rw [Nat.shiftRight_eq_div_pow, ← pB_two, ← B_two]
theorem dig_or (a b i : Nat) : dig (a ||| b) i = dig a i ||| dig b i := by
  rw [dig_shift, dig_shift, dig_shift, Nat.shiftRight_or_distrib, Nat.or_mod_two_pow]
theorem dig_two (j i : Nat) : dig (2 ^ j) i = if i = j / 32 then 2 ^ (j % 32) else 0 := by
  have hj : 2 ^ j = B ^ (j / 32) * 2 ^ (j % 32) := by
    rw [pB_two, ← Nat.pow_add]; congr 1; omega
  have hs : 2 ^ (j % 32) < B := by
    rw [B_two]; exact Nat.pow_lt_pow_right (by decide) (Nat.mod_lt _ (by decide))
  generalize j / 32 = p at *
  generalize 2 ^ (j % 32) = s at *
  rw [hj]
  split
  · rename_i h; subst h
    unfold dig; rw [Nat.mul_div_cancel_left _ (pB i), Nat.mod_eq_of_lt hs]
  · rename_i h
    rcases Nat.lt_or_ge i p with h1 | h1
    · obtain ⟨d, rfl⟩ : ∃ d, p = i + (d + 1) := ⟨p - i - 1, by omega⟩
      unfold dig
      rw [Nat.pow_add, Nat.mul_assoc, Nat.mul_div_cancel_left _ (pB i), pB_succ, Nat.mul_comm (B ^ d) B, Nat.mul_assoc, Nat.mul_mod_right]
    · refine dig_high' _ (p + 1) i ?_ (by omega)
      rw [pB_succ]; exact Nat.mul_lt_mul_of_pos_left hs (pB p)
theorem or_bit (Q j : Nat) (h : Q % 2 ^ (j + 1) = 0) : Q + 2 ^ j = Q ||| 2 ^ j := by
  have h1 := Nat.div_add_mod Q (2 ^ (j + 1))
  rw [h, Nat.add_zero] at h1
  have h2 := Nat.two_pow_add_eq_or_of_lt (i := j + 1) (b := 2 ^ j) (Nat.pow_lt_pow_right (by decide) (by omega)) (Q / 2 ^ (j + 1))
  rw [h1] at h2
  exact h2
theorem setbit_at (Q j : Nat) (h : Q % 2 ^ (j + 1) = 0) : dig (Q + 2 ^ j) (j / 32) = dig Q (j / 32) ||| 2 ^ (j % 32) := by
  rw [or_bit Q j h, dig_or, dig_two, if_pos rfl]
theorem setbit_ne (Q j i : Nat) (h : Q % 2 ^ (j + 1) = 0) (hi : i ≠ j / 32) : dig (Q + 2 ^ j) i = dig Q i := by
  rw [or_bit Q j h, dig_or, dig_two, if_neg hi, Nat.or_zero]

/-! ### Halves -/
theorem dig_half (m i : Nat) : dig (m / 2) i = (dig m (i + 1) * B + dig m i) / 2 % B := by
  unfold dig
  rw [Nat.div_div_eq_div_mul, Nat.mul_comm 2, ← Nat.div_div_eq_div_mul, pB_succ, ← Nat.div_div_eq_div_mul]
  generalize m / B ^ i = q
  simp only [B]
  omega

/-! ### Division by shifted subtraction -/
/-- before the round at bit j - 1: what is left, what the quotient has -/
def DivInv (A b j x Q : Nat) : Prop := A = x + Q * b ∧ Q % 2 ^ j = 0 ∧ x < b * 2 ^ j
theorem DivInv.start {A b n : Nat} (hb : b ≠ 0) (hn : bl A ≤ bl b + n) : DivInv A b (n + 1) A 0 := by
  refine ⟨by omega, Nat.zero_mod _, ?_⟩
  have h1 := lt_two_bl A
  have h2 := two_bl_le hb
  have h3 := Nat.pow_le_pow_right (show 0 < 2 by decide) (show bl A ≤ (bl b - 1) + (n + 1) by omega)
  have h4 := Nat.mul_le_mul_right (2 ^ (n + 1)) h2
  rw [← Nat.pow_add] at h4
  omega
theorem DivInv.yes {A b j x Q : Nat} (h : DivInv A b (j + 1) x Q) (hx : b * 2 ^ j ≤ x) : DivInv A b j (x - b * 2 ^ j) (Q + 2 ^ j) := by
  obtain ⟨h1, h2, h3⟩ := h
  refine ⟨?_, ?_, ?_⟩
  · rw [Nat.add_mul, Nat.mul_comm (2 ^ j) b]; omega
  · have e : Q % 2 ^ j = 0 := by
      have := Nat.mod_mod_of_dvd Q (show 2 ^ j ∣ 2 ^ (j + 1) from ⟨2, by rw [Nat.pow_succ]⟩)
      rw [h2, Nat.zero_mod] at this; exact this.symm
    rw [Nat.add_mod, e, Nat.mod_self]; simp
  · rw [Nat.pow_succ, ← Nat.mul_assoc] at h3; omega
theorem DivInv.no {A b j x Q : Nat} (h : DivInv A b (j + 1) x Q) (hx : x < b * 2 ^ j) : DivInv A b j x Q := by
  obtain ⟨h1, h2, h3⟩ := h
  refine ⟨h1, ?_, hx⟩
  have := Nat.mod_mod_of_dvd Q (show 2 ^ j ∣ 2 ^ (j + 1) from ⟨2, by rw [Nat.pow_succ]⟩)
  rw [h2, Nat.zero_mod] at this; exact this.symm
theorem DivInv.done {A b x Q : Nat} (h : DivInv A b 0 x Q) : Q = A / b ∧ x = A % b := by
  obtain ⟨h1, _, h3⟩ := h
  rw [Nat.pow_zero, Nat.mul_one] at h3
  have e : A = x + b * Q := by rw [Nat.mul_comm b]; exact h1
  refine ⟨?_, ?_⟩
  · rw [e, Nat.add_mul_div_left _ _ (by omega), Nat.div_eq_of_lt h3, Nat.zero_add]
  · rw [e, Nat.add_mul_mod_self_left, Nat.mod_eq_of_lt h3]
theorem DivInv.low {A b j x Q n : Nat} (h : DivInv A b j x Q) (hA : A < b * 2 ^ (n + 1)) : Q < 2 ^ (n + 1) := by
  obtain ⟨h1, _, _⟩ := h
  rcases Nat.lt_or_ge Q (2 ^ (n + 1)) with h2 | h2
  · exact h2
  · have := Nat.mul_le_mul_right b h2
    rw [Nat.mul_comm (2 ^ (n + 1)) b] at this; omega
theorem pow_fit (n : Nat) : 2 ^ (n + 1) ≤ B ^ (n / 32 + 1) := by
  rw [pB_two]; exact Nat.pow_le_pow_right (by decide) (by omega)
/-- the divisor before the round at bit j - 1 -/
def dvr (b j : Nat) : Nat := b * 2 ^ j / 2
theorem dvr_succ (b j : Nat) : dvr b (j + 1) = b * 2 ^ j := by
  unfold dvr; rw [Nat.pow_succ, ← Nat.mul_assoc, Nat.mul_div_cancel _ (by decide)]
theorem dvr_half (b j : Nat) : dvr b (j + 1) / 2 = dvr b j := by rw [dvr_succ]; rfl

end Go.Proofs.Ytnidfpilmmhniaa
