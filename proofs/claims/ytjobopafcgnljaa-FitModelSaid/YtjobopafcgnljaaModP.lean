/- Plain laws: the distribution of Guttman errors is the sum over all patterns. No program in sight; no condition. -/
import Derived.Test.YtjobopafcgnljaaNulC
import Derived.Test.YtjobopafcgnljaaGutA
namespace Go.Proofs.Ytjobopafcgnljaa

/-- response i of pattern k -/
def bt (k i : Nat) : Bool := k.testBit i
/-- the probability of the first n responses of pattern k -/
def pQ (q : Nat → Rat) (k : Nat) : Nat → Rat
  | 0 => 1
  | i + 1 => pQ q k i * (if bt k i then q i else 1 - q i)
theorem wrN_congr {x y : Nat → Bool} : ∀ {n : Nat}, (∀ i, i < n → x i = y i) → wrN x n = wrN y n
  | 0, _ => rfl
  | n + 1, h => by simp only [wrN]; rw [wrN_congr (fun i hi => h i (by omega)), h n (by omega)]
theorem erN_congr {x y : Nat → Bool} : ∀ {n : Nat}, (∀ i, i < n → x i = y i) → erN x n = erN y n
  | 0, _ => rfl
  | n + 1, h => by simp only [erN]; rw [erN_congr (fun i hi => h i (by omega)), wrN_congr (fun i hi => h i (by omega)), h n (by omega)]
theorem pQ_congr {q : Nat → Rat} {k l : Nat} : ∀ {n : Nat}, (∀ i, i < n → bt k i = bt l i) → pQ q k n = pQ q l n
  | 0, _ => rfl
  | n + 1, h => by simp only [pQ]; rw [pQ_congr (fun i hi => h i (by omega)), h n (by omega)]
theorem bt_hi (n k i : Nat) (h : i < n) : bt (2 ^ n + k) i = bt k i := Nat.testBit_two_pow_add_gt h k
theorem bt_lo (n k : Nat) (h : k < 2 ^ n) : bt k n = false := Nat.testBit_lt_two_pow h
theorem bt_top (n k : Nat) (h : k < 2 ^ n) : bt (2 ^ n + k) n = true := by
  show Nat.testBit (2 ^ n + k) n = true
  rw [Nat.testBit_two_pow_add_eq, Nat.testBit_lt_two_pow h]; rfl
/-- the sum over the patterns of n responses with w wrong ones and e errors -/
theorem nul_pat (q : Nat → Rat) : ∀ (n w e : Nat), nul q n w e = sQ (fun k => if wrN (bt k) n = w ∧ erN (bt k) n = e then pQ q k n else 0) (2 ^ n)
  | 0, w, e => by
    show (if w = 0 ∧ e = 0 then (1 : Rat) else 0) = (0 : Rat) + (if wrN (bt 0) 0 = w ∧ erN (bt 0) 0 = e then pQ q 0 0 else 0)
    rw [Rat.zero_add]
    by_cases h : w = 0 ∧ e = 0
    · rw [if_pos h, if_pos (show wrN (bt 0) 0 = w ∧ erN (bt 0) 0 = e from ⟨h.1.symm, h.2.symm⟩)]; rfl
    · rw [if_neg h, if_neg (show ¬ (wrN (bt 0) 0 = w ∧ erN (bt 0) 0 = e) from fun hh => h ⟨hh.1.symm, hh.2.symm⟩)]
  | n + 1, w, e => by
    rw [nul, Nat.pow_succ, Nat.mul_two, sQ_append]
    congr 1
    · by_cases hw : 1 ≤ w
      · rw [if_pos hw, nul_pat q n (w - 1) e, ← sQ_mulr]
        refine sQ_congr fun k hk => ?_
        have h1 := bt_lo n k hk
        simp only [wrN, erN, pQ, h1]
        by_cases h : wrN (bt k) n = w - 1 ∧ erN (bt k) n = e
        · rw [if_pos h, if_pos (by simp; omega)]; rfl
        · rw [if_neg h, if_neg (by simp; omega), Rat.zero_mul]
      · rw [if_neg hw, sQ_congr (g := fun _ => 0), sQ_zero]
        intro k hk
        have h1 := bt_lo n k hk
        simp only [wrN, erN, pQ, h1]
        rw [if_neg (by simp; omega)]
    · by_cases hw : w ≤ e
      · rw [if_pos hw, nul_pat q n w (e - w), ← sQ_mulr]
        refine sQ_congr fun k hk => ?_
        have h1 := bt_top n k hk
        have h2 := fun i hi => bt_hi n k i hi
        simp only [wrN, erN, pQ, h1, wrN_congr h2, erN_congr h2, pQ_congr (q := q) h2]
        by_cases h : wrN (bt k) n = w ∧ erN (bt k) n = e - w
        · rw [if_pos h, if_pos (by simp; omega)]; rfl
        · rw [if_neg h, if_neg (by simp; omega), Rat.zero_mul]
      · rw [if_neg hw, sQ_congr (g := fun _ => 0), sQ_zero]
        intro k hk
        have h1 := bt_top n k hk
        have h2 := fun i hi => bt_hi n k i hi
        simp only [wrN, erN, pQ, h1, wrN_congr h2, erN_congr h2]
        rw [if_neg (by simp; omega)]
theorem sQ_pick (p : Rat) (a : Nat) : ∀ n, sQ (fun w => if a = w then p else 0) n = if a < n then p else 0
  | 0 => by rw [if_neg (by omega)]; rfl
  | n + 1 => by
    show sQ (fun w => if a = w then p else 0) n + (if a = n then p else 0) = _
    rw [sQ_pick p a n]
    by_cases h : a < n
    · rw [if_pos h, if_neg (by omega), if_pos (by omega), Rat.add_zero]
    · rw [if_neg h, Rat.zero_add]
      by_cases h2 : a = n
      · rw [if_pos h2, if_pos (by omega)]
      · rw [if_neg h2, if_neg (by omega)]
/-- what pattern k adds to the sum for e errors -/
def patT (q : Nat → Rat) (n e k : Nat) : Rat := if erN (bt k) n = e then pQ q k n else 0
theorem nl_pat (q : Nat → Rat) (n e : Nat) : nlQ q n e = sQ (patT q n e) (2 ^ n) := by
  unfold nlQ
  rw [sQ_congr (fun w _ => nul_pat q n w e), sQ_swap]
  refine sQ_congr fun k _ => ?_
  unfold patT
  by_cases h : erN (bt k) n = e
  · rw [if_pos h, sQ_congr (g := fun w => if wrN (bt k) n = w then pQ q k n else 0), sQ_pick, if_pos (by have := wrN_le (bt k) n; omega)]
    intro w _
    simp only [h, and_true]
  · rw [if_neg h, sQ_congr (g := fun _ => 0), sQ_zero]
    intro w _
    rw [if_neg (fun hh => h hh.2)]

end Go.Proofs.Ytjobopafcgnljaa
