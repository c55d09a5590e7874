/- Plain arithmetic of numbers written in limbs of 32 bits: no program in sight; no condition. What it means that a slice holds a natural number; contracts of nat.trim and nat.Add: for all numbers of at most 2^40 limbs. Contract of nat.Add: for all numbers of at most 2^40 limbs. Contracts of nat.Cmp and nat.Sub: for all numbers of at most 2^40 limbs. Contract of nat.Mul: for all numbers of at most 2^40 limbs. Contracts of nat.Norm and nat.Of: for all numbers of at most 2^40 limbs. Contract of nat.divLimb: for all numbers of at most 2^40 limbs and every limb that is not 0. Contracts of nat.shiftLeft and nat.shiftRight: for all numbers of at most 2^40 limbs and shifts below 32. Contracts of nat.shiftRight, nat.subtract and nat.addBack. Contracts of nat.subtract and nat.addBack: the part of a row from j on, n + 1 limbs, less digit times the divisor; plus the divisor. Contract of nat.estimate: the next limb of a quotient, or one more. -/
import Derived.WalkKit
import Derived.Test.YtonnbcongnkcdaaProg
import Derived.WalkSpells
import Derived.Deep.QuietTactic
import Derived.BigQuiet
import Derived.Outline
import Derived.Lib.Hide
import Derived.WalkSmall
import Derived.Deep.OwnRows
import Derived.Laws.AppendOwnNone
import Derived.Laws.Bits64b
import Derived.Laws.BitsAllLaws
namespace Go.Proofs.Ytonnbcongnkcdaa

/-- the base of a limb -/
def B : Nat := 4294967296
theorem B_eq : B = 4294967296 := rfl
theorem B_pos : 0 < B := by decide
theorem pB (k : Nat) : 0 < B ^ k := Nat.pow_pos B_pos
theorem pB_succ (k : Nat) : B ^ (k + 1) = B ^ k * B := Nat.pow_succ _ _
theorem pB_le {a b : Nat} (h : a ≤ b) : B ^ a ≤ B ^ b := Nat.pow_le_pow_right B_pos h

/-- the limb at place i -/
def dig (m i : Nat) : Nat := m / B ^ i % B
theorem dig_lt (m i : Nat) : dig m i < B := Nat.mod_lt _ B_pos
theorem dig_lt' (m i : Nat) : dig m i < 4294967296 := dig_lt m i
theorem dig_zero (i : Nat) : dig 0 i = 0 := by simp [dig]

theorem mod_succ (m k : Nat) : m % B ^ (k + 1) = m % B ^ k + B ^ k * dig m k := by
  rw [pB_succ, Nat.mod_mul]; rfl

theorem dig_mod_low (m i k : Nat) (h : i < k) : dig (m % B ^ k) i = dig m i := by
  unfold dig
  obtain ⟨d, rfl⟩ : ∃ d, k = i + (d + 1) := ⟨k - i - 1, by omega⟩
  rw [Nat.pow_add, Nat.mod_mul_right_div_self, pB_succ, Nat.mul_comm (B ^ d) B, Nat.mod_mul_right_mod]

theorem dig_add_mul (m q i k : Nat) (h : i < k) : dig (m + B ^ k * q) i = dig m i := by
  rw [← dig_mod_low _ i k h, Nat.add_mul_mod_self_left, dig_mod_low m i k h]

theorem dig_high (m i : Nat) (h : m < B ^ i) : dig m i = 0 := by
  unfold dig; rw [Nat.div_eq_of_lt h]; exact Nat.zero_mod _

theorem dig_high' (m n i : Nat) (h : m < B ^ n) (hi : n ≤ i) : dig m i = 0 :=
  dig_high m i (Nat.lt_of_lt_of_le h (pB_le hi))

theorem lt_of_top (m n : Nat) (h : m < B ^ (n + 1)) (hz : dig m n = 0) : m < B ^ n := by
  have e := mod_succ m n
  rw [Nat.mod_eq_of_lt h, hz, Nat.mul_zero, Nat.add_zero] at e
  rw [e]; exact Nat.mod_lt _ (pB n)

theorem ext_digs (a b n : Nat) (ha : a < B ^ n) (hb : b < B ^ n) (h : ∀ i, i < n → dig a i = dig b i) : a = b := by
  have key : ∀ k, k ≤ n → a % B ^ k = b % B ^ k := by
    intro k
    induction k with
    | zero => intro _; simp [Nat.mod_one]
    | succ k ih => intro hk; rw [mod_succ, mod_succ, ih (by omega), h k (by omega)]
  have := key n (Nat.le_refl _)
  rwa [Nat.mod_eq_of_lt ha, Nat.mod_eq_of_lt hb] at this

/-- how many limbs the normal form has -/
def nlen (m : Nat) : Nat := if h : m = 0 then 0 else nlen (m / B) + 1
termination_by m
decreasing_by exact Nat.div_lt_self (Nat.pos_of_ne_zero h) (by decide)

theorem nlen_zero : nlen 0 = 0 := by unfold nlen; simp
theorem nlen_pos {m : Nat} (h : m ≠ 0) : nlen m = nlen (m / B) + 1 := by rw [nlen]; simp [h]

theorem lt_pow_nlen (m : Nat) : m < B ^ nlen m := by
  induction m using Nat.strongRecOn with
  | ind m ih =>
    by_cases h : m = 0
    · subst h; simp [nlen_zero]
    · rw [nlen_pos h, pB_succ]
      have := ih (m / B) (Nat.div_lt_self (Nat.pos_of_ne_zero h) (by decide))
      exact (Nat.div_lt_iff_lt_mul B_pos).1 this

theorem nlen_le {m n : Nat} (h : m < B ^ n) : nlen m ≤ n := by
  induction n generalizing m with
  | zero => have : m = 0 := by simp at h; exact h
            subst this; simp [nlen_zero]
  | succ n ih =>
    by_cases h0 : m = 0
    · subst h0; simp [nlen_zero]
    · rw [nlen_pos h0]
      have := ih (m := m / B) ((Nat.div_lt_iff_lt_mul B_pos).2 (by rwa [← pB_succ]))
      omega

theorem nlen_mono {a b : Nat} (h : a ≤ b) : nlen a ≤ nlen b := nlen_le (Nat.lt_of_le_of_lt h (lt_pow_nlen b))
theorem nlen_eq_zero {m : Nat} : nlen m = 0 ↔ m = 0 := by
  constructor
  · intro h; by_cases h0 : m = 0
    · exact h0
    · rw [nlen_pos h0] at h; omega
  · rintro rfl; exact nlen_zero

theorem pow_le_of_nlen {m n : Nat} (h : n < nlen m) : B ^ n ≤ m := by
  rcases Nat.lt_or_ge m (B ^ n) with h1 | h1
  · have := nlen_le h1; omega
  · exact h1

/-- the top limb of a normal form is not 0 -/
theorem top_ne (m n : Nat) (h : nlen m = n + 1) : dig m n ≠ 0 := by
  intro hz
  have := nlen_le (lt_of_top m n (by rw [← h]; exact lt_pow_nlen m) hz)
  omega

/-- trimming: n limbs, the top one 0 -/
theorem trim_zero {m n : Nat} (hm : m < B ^ n) (hn : 0 < n) (hz : dig m (n - 1) = 0) : m < B ^ (n - 1) := by
  obtain ⟨k, rfl⟩ : ∃ k, n = k + 1 := ⟨n - 1, by omega⟩
  exact lt_of_top m k hm hz
theorem trim_done {m n : Nat} (hm : m < B ^ n) (hz : n = 0 ∨ dig m (n - 1) ≠ 0) : n = nlen m := by
  have h1 := nlen_le hm
  rcases Nat.lt_or_ge (nlen m) n with h2 | h2
  · exfalso
    rcases hz with hz | hz
    · omega
    · exact hz (dig_high' m (nlen m) (n - 1) (lt_pow_nlen m) (by omega))
  · omega

theorem nlen_add (a b : Nat) : nlen (a + b) ≤ max (nlen a) (nlen b) + 1 := by
  apply nlen_le
  rw [pB_succ]
  have h1 : a < B ^ max (nlen a) (nlen b) := Nat.lt_of_lt_of_le (lt_pow_nlen a) (pB_le (Nat.le_max_left _ _))
  have h2 : b < B ^ max (nlen a) (nlen b) := Nat.lt_of_lt_of_le (lt_pow_nlen b) (pB_le (Nat.le_max_right _ _))
  have h3 : B ^ max (nlen a) (nlen b) * 2 ≤ B ^ max (nlen a) (nlen b) * B := Nat.mul_le_mul_left _ (by decide)
  omega
theorem nlen_mul (a b : Nat) : nlen (a * b) ≤ nlen a + nlen b := by
  apply nlen_le
  rw [Nat.pow_add]
  exact Nat.mul_lt_mul_of_lt_of_le (lt_pow_nlen a) (Nat.le_of_lt (lt_pow_nlen b)) (pB _)
theorem nlen_small {m : Nat} (h : m < 4294967296) : nlen m ≤ 1 := nlen_le (by simpa [B] using h)
theorem nlen_two {m : Nat} (h : m < 18446744073709551616) : nlen m ≤ 2 := by
  apply nlen_le
  have e : B ^ 2 = 18446744073709551616 := by decide
  rw [e]; exact h

/-! ### Sums -/
/-- the carry into place k -/
def car (a b k : Nat) : Nat := (a % B ^ k + b % B ^ k) / B ^ k
theorem car_zero (a b : Nat) : car a b 0 = 0 := by simp [car, Nat.mod_one]
theorem car_le (a b k : Nat) : car a b k ≤ 1 := by
  unfold car
  have h1 := Nat.mod_lt a (pB k)
  have h2 := Nat.mod_lt b (pB k)
  have : (a % B ^ k + b % B ^ k) / B ^ k < 2 := (Nat.div_lt_iff_lt_mul (pB k)).2 (by omega)
  omega
theorem add_split (a b k : Nat) : (a + b) / B ^ k = a / B ^ k + b / B ^ k + car a b k := by
  unfold car
  have e : a + b = (a % B ^ k + b % B ^ k) + B ^ k * (a / B ^ k + b / B ^ k) := by
    have h1 := Nat.mod_add_div a (B ^ k); have h2 := Nat.mod_add_div b (B ^ k)
    rw [Nat.mul_add]; omega
  rw [e, Nat.add_mul_div_left _ _ (pB k), Nat.add_comm]
theorem dig_add (a b k : Nat) : dig (a + b) k = (dig a k + dig b k + car a b k) % B := by
  unfold dig
  rw [add_split]
  conv => lhs; rw [Nat.add_mod, Nat.add_mod (a / B ^ k)]
  conv => rhs; rw [Nat.add_mod]
theorem car_succ (a b k : Nat) : car a b (k + 1) = (dig a k + dig b k + car a b k) / B := by
  have e : a % B ^ (k + 1) + b % B ^ (k + 1) = (a % B ^ k + b % B ^ k) + B ^ k * (dig a k + dig b k) := by
    rw [mod_succ, mod_succ, Nat.mul_add]; omega
  unfold car
  rw [e, pB_succ, ← Nat.div_div_eq_div_mul, Nat.add_mul_div_left _ _ (pB k), Nat.add_comm]
theorem car_top (a b n : Nat) (ha : a < B ^ n) (hb : b < B ^ n) : car a b n = dig (a + b) n := by
  unfold car dig
  rw [Nat.mod_eq_of_lt ha, Nat.mod_eq_of_lt hb]
  have : (a + b) / B ^ n < B := Nat.lt_of_lt_of_le ((Nat.div_lt_iff_lt_mul (pB n)).2 (show a + b < 2 * B ^ n by omega)) (by decide)
  exact (Nat.mod_eq_of_lt this).symm

/-! ### Differences -/
def bor (a b k : Nat) : Nat := if a % B ^ k < b % B ^ k then 1 else 0
theorem bor_zero (a b : Nat) : bor a b 0 = 0 := by simp [bor, Nat.mod_one]
theorem bor_le (a b k : Nat) : bor a b k ≤ 1 := by unfold bor; split <;> omega
theorem bor_succ (a b k : Nat) : bor a b (k + 1) = if dig a k < dig b k + bor a b k then 1 else 0 := by
  unfold bor
  rw [mod_succ a, mod_succ b]
  have h1 := Nat.mod_lt a (pB k)
  have h2 := Nat.mod_lt b (pB k)
  have key : ∀ (p r s x y : Nat), r < p → s < p → ((r + p * x < s + p * y) ↔ (x < y + if r < s then 1 else 0)) := by
    intro p r s x y hr hs
    constructor
    · intro h
      rcases Nat.lt_trichotomy x y with hx | hx | hx
      · omega
      · subst hx; rw [if_pos (by omega)]; omega
      · exfalso
        have : p * (y + 1) ≤ p * x := Nat.mul_le_mul_left _ hx
        rw [Nat.mul_add] at this; omega
    · intro h
      rcases Nat.lt_trichotomy x y with hx | hx | hx
      · have : p * (x + 1) ≤ p * y := Nat.mul_le_mul_left _ hx
        rw [Nat.mul_add] at this; omega
      · subst hx; split at h
        · omega
        · omega
      · split at h <;> omega
  have := key (B ^ k) (a % B ^ k) (b % B ^ k) (dig a k) (dig b k) h1 h2
  by_cases hc : a % B ^ k + B ^ k * dig a k < b % B ^ k + B ^ k * dig b k
  · rw [if_pos hc, if_pos (this.1 hc)]
  · rw [if_neg hc, if_neg (fun h => hc (this.2 h))]

theorem dig_sub (a b k : Nat) (h : b ≤ a) : dig (a - b) k + dig b k + bor a b k = dig a k + B * (if dig a k < dig b k + bor a b k then 1 else 0) := by
  obtain ⟨c, rfl⟩ : ∃ c, a = b + c := ⟨a - b, by omega⟩
  rw [Nat.add_sub_cancel_left]
  -- the borrow is the carry of the sum
  have hcar : ∀ k, bor (b + c) b k = car c b k := by
    intro k
    unfold bor car
    have h1 := Nat.mod_lt c (pB k)
    have h2 := Nat.mod_lt b (pB k)
    have e : (b + c) % B ^ k = (c % B ^ k + b % B ^ k) % B ^ k := by rw [Nat.add_comm, Nat.add_mod]
    rw [e]
    by_cases hlt : c % B ^ k + b % B ^ k < B ^ k
    · rw [Nat.mod_eq_of_lt hlt, Nat.div_eq_of_lt hlt, if_neg (by generalize c % B ^ k = r at *; generalize b % B ^ k = s at *; omega)]
    · have e2 : (c % B ^ k + b % B ^ k) % B ^ k = c % B ^ k + b % B ^ k - B ^ k := by
        rw [Nat.mod_eq_sub_mod (by omega), Nat.mod_eq_of_lt (by omega)]
      have e3 : (c % B ^ k + b % B ^ k) / B ^ k = 1 := by
        have a1 : (c % B ^ k + b % B ^ k) / B ^ k < 2 := (Nat.div_lt_iff_lt_mul (pB k)).2 (by omega)
        have a2 : 1 ≤ (c % B ^ k + b % B ^ k) / B ^ k := (Nat.le_div_iff_mul_le (pB k)).2 (by omega)
        omega
      rw [e2, e3, if_pos (by omega)]
  rw [hcar]
  have hd := dig_add c b k
  rw [Nat.add_comm c b] at hd
  rw [hd]
  have hc := dig_lt c k
  have hb := dig_lt b k
  have hl := car_le c b k
  have hB : B = 4294967296 := rfl
  by_cases hs : dig c k + dig b k + car c b k < B
  · rw [Nat.mod_eq_of_lt hs, if_neg (by omega)]; omega
  · rw [Nat.mod_eq_sub_mod (by omega), Nat.mod_eq_of_lt (by omega), if_pos (by omega)]; omega

/-! ### Comparing -/
theorem lt_of_high {a b n k : Nat} (ha : a < B ^ n) (hb : b < B ^ n) (hk : k < n) (heq : ∀ i, k < i → i < n → dig a i = dig b i) (hlt : dig a k < dig b k) : a < b := by
  have key : ∀ d j, j = k + 1 + d → j ≤ n → a % B ^ j < b % B ^ j := by
    intro d
    induction d with
    | zero =>
      intro j hj hn
      obtain rfl : j = k + 1 := by omega
      rw [mod_succ, mod_succ]
      have h1 := Nat.mod_lt a (pB k)
      have : B ^ k * (dig a k + 1) ≤ B ^ k * dig b k := Nat.mul_le_mul_left _ hlt
      rw [Nat.mul_add, Nat.mul_one] at this
      generalize a % B ^ k = r at *; generalize b % B ^ k = s at *; generalize B ^ k * dig b k = t at *; generalize B ^ k * dig a k = u at *; generalize B ^ k = q at *
      omega
    | succ d ih =>
      intro j hj hn
      obtain rfl : j = k + 1 + d + 1 := by omega
      have := ih _ rfl (by omega)
      rw [mod_succ, mod_succ, heq (k + 1 + d) (by omega) (by omega)]; omega
  have := key (n - k - 1) n (by omega) (Nat.le_refl _)
  rwa [Nat.mod_eq_of_lt ha, Nat.mod_eq_of_lt hb] at this

theorem lt_of_nlen {a b : Nat} (h : nlen a < nlen b) : a < b :=
  Nat.lt_of_lt_of_le (lt_pow_nlen a) (pow_le_of_nlen h)

/-- -1, 0 or 1 -/
def cmpN (a b : Nat) : Int := if a < b then -1 else if b < a then 1 else 0
theorem cmpN_lt {a b : Nat} (h : a < b) : cmpN a b = -1 := if_pos h
theorem cmpN_gt {a b : Nat} (h : b < a) : cmpN a b = 1 := by unfold cmpN; rw [if_neg (by omega), if_pos h]
theorem cmpN_eq {a b : Nat} (h : a = b) : cmpN a b = 0 := by unfold cmpN; rw [if_neg (by omega), if_neg (by omega)]

/-! ### Products -/
/-- the product so far: i limbs of a with all of b, and limb i with j limbs of b -/
def prj (a b i j : Nat) : Nat := a % B ^ i * b + dig a i * B ^ i * (b % B ^ j)
def mca (a b i j : Nat) : Nat := ((a % B ^ i * b) % B ^ (i + j) + dig a i * B ^ i * (b % B ^ j)) / B ^ (i + j)
theorem prj_zero (a b i : Nat) : prj a b i 0 = a % B ^ i * b := by simp [prj, Nat.mod_one]
theorem prj_end (a b i n : Nat) (hb : b < B ^ n) : prj a b i n = prj a b (i + 1) 0 := by
  rw [prj_zero, mod_succ, Nat.add_mul]
  unfold prj
  rw [Nat.mod_eq_of_lt hb, Nat.mul_comm (dig a i) (B ^ i)]
theorem mca_zero (a b i : Nat) : mca a b i 0 = 0 := by
  unfold mca
  simp only [Nat.pow_zero, Nat.mod_one, Nat.mul_zero, Nat.add_zero]
  exact Nat.div_eq_of_lt (Nat.mod_lt _ (pB i))
theorem prj_split (a b i j : Nat) : prj a b i j = ((a % B ^ i * b) % B ^ (i + j) + dig a i * B ^ i * (b % B ^ j)) + B ^ (i + j) * ((a % B ^ i * b) / B ^ (i + j)) := by
  unfold prj
  have := Nat.mod_add_div (a % B ^ i * b) (B ^ (i + j))
  omega
theorem prj_succ (a b i j : Nat) : prj a b i (j + 1) = prj a b i j + B ^ (i + j) * (dig a i * dig b j) := by
  unfold prj
  have e : dig a i * B ^ i * (B ^ j * dig b j) = B ^ (i + j) * (dig a i * dig b j) := by
    rw [Nat.pow_add]; simp only [Nat.mul_comm, Nat.mul_left_comm, Nat.mul_assoc]
  rw [mod_succ, Nat.mul_add, e]; omega
/-- the sum that place i + j is made of -/
def mst (a b i j : Nat) : Nat := dig a i * dig b j + dig (a % B ^ i * b) (i + j) + mca a b i j
theorem mca_succ (a b i j : Nat) : mca a b i (j + 1) = mst a b i j / B := by
  unfold mca mst
  show _ = (dig a i * dig b j + dig (a % B ^ i * b) (i + j) + ((a % B ^ i * b) % B ^ (i + j) + dig a i * B ^ i * (b % B ^ j)) / B ^ (i + j)) / B
  have e : (a % B ^ i * b) % B ^ (i + (j + 1)) + dig a i * B ^ i * (b % B ^ (j + 1)) =
      ((a % B ^ i * b) % B ^ (i + j) + dig a i * B ^ i * (b % B ^ j)) + B ^ (i + j) * (dig a i * dig b j + dig (a % B ^ i * b) (i + j)) := by
    have e1 : dig a i * B ^ i * (B ^ j * dig b j) = B ^ (i + j) * (dig a i * dig b j) := by
      rw [Nat.pow_add]; simp only [Nat.mul_comm, Nat.mul_left_comm, Nat.mul_assoc]
    rw [show i + (j + 1) = (i + j) + 1 from rfl, mod_succ, mod_succ b, Nat.mul_add, e1, Nat.mul_add]; omega
  rw [e, show i + (j + 1) = (i + j) + 1 from rfl, pB_succ, ← Nat.div_div_eq_div_mul, Nat.add_mul_div_left _ _ (pB _), Nat.add_comm]
theorem dig_prj_new (a b i j : Nat) : dig (prj a b i (j + 1)) (i + j) = mst a b i j % B := by
  rw [prj_succ, prj_split]
  unfold dig mst
  rw [Nat.add_mul_div_left _ _ (pB _), Nat.add_mul_div_left _ _ (pB _)]
  unfold mca dig
  have : ∀ x y z : Nat, (x + y + z) % B = (z + y % B + x) % B := by
    intro x y z; rw [Nat.add_mod (z + y % B), Nat.add_mod z, Nat.mod_mod, ← Nat.add_mod z, ← Nat.add_mod]; congr 1; omega
  rw [this]
theorem dig_prj_low (a b i j p : Nat) (h : p < i + j) : dig (prj a b i (j + 1)) p = dig (prj a b i j) p := by
  rw [prj_succ, dig_add_mul _ _ _ _ h]
theorem dig_prj_zero (a b i p : Nat) : dig (prj a b i 0) p = dig (a % B ^ i * b) p := by rw [prj_zero]
theorem mca_lt (a b i j : Nat) : mca a b i j < B := by
  induction j with
  | zero => rw [mca_zero]; exact B_pos
  | succ j ih =>
    rw [mca_succ]
    refine (Nat.div_lt_iff_lt_mul B_pos).2 ?_
    unfold mst
    have h1 := dig_lt a i
    have h2 := dig_lt b j
    have h3 := dig_lt (a % B ^ i * b) (i + j)
    have h4 : dig a i * dig b j ≤ (B - 1) * (B - 1) := Nat.mul_le_mul (by omega) (by omega)
    have h5 : (B - 1) * (B - 1) + (B - 1) + (B - 1) < B * B := by decide
    omega
theorem mst_lt (a b i j : Nat) : mst a b i j < 18446744073709551616 := by
  unfold mst
  have h1 := dig_lt a i
  have h2 := dig_lt b j
  have h3 := dig_lt (a % B ^ i * b) (i + j)
  have h0 := mca_lt a b i j
  have h4 : dig a i * dig b j ≤ (B - 1) * (B - 1) := Nat.mul_le_mul (by omega) (by omega)
  have h5 : (B - 1) * (B - 1) + (B - 1) + (B - 1) < 18446744073709551616 := by decide
  omega
theorem low_mul_lt (a b i n : Nat) (hb : b < B ^ n) : a % B ^ i * b < B ^ (i + n) := by
  rw [Nat.pow_add]
  exact Nat.mul_lt_mul_of_lt_of_le (Nat.mod_lt _ (pB i)) (Nat.le_of_lt hb) (pB _)
/-- behind the inner loop the carry is the next limb -/
theorem mca_end (a b i n : Nat) (hb : b < B ^ n) : mca a b i n = dig (prj a b i n) (i + n) := by
  have h0 := mca_lt a b i n
  have hs := prj_split a b i n
  rw [Nat.div_eq_of_lt (low_mul_lt a b i n hb), Nat.mul_zero, Nat.add_zero] at hs
  unfold dig
  rw [hs]
  exact (Nat.mod_eq_of_lt h0).symm

end Go.Proofs.Ytonnbcongnkcdaa

namespace Go.Proofs.Ytonnbcongnkcdaa
open Go.RowKit

/-- block b lies below N, or is a row of elements of type E: no box of another type is meant -/
def Own (N : Nat) (E : TypeId) (w : World) (b : Nat) : Prop := b < N ∨ ∃ cur fz, w.heap[b]? = some (.cells cur E fz)

/-- the slice of n limbs at a is the number m -/
def Nt (N : Nat) (w : World) (a : Option Addr) (n cap m : Nat) : Prop :=
  (n ≤ cap ∧ (a = none → cap = 0)) ∧ cap ≤ maxLen ∧ m < B ^ n ∧ (0 < n → ∃ b off, a = some ⟨b, off, none⟩ ∧ Own N 81 w b ∧ ∀ i, i < n → w.cell? ⟨b, off + i, none⟩ = some (.int .u32 (dig m i)))

theorem Own.of_block {N : Nat} {E : TypeId} {w w' : World} {b : Nat} (h : Own N E w b) (e : w'.heap[b]? = w.heap[b]?) : Own N E w' b := by
  rcases h with h | ⟨cur, fz, h⟩
  · exact .inl h
  · exact .inr ⟨cur, fz, e.trans h⟩

theorem Nt.below {N : Nat} {w w' : World} {a : Option Addr} {n cap m : Nat} (h : Nt N w a n cap m) (hb : Below w.heap.size w w') : Nt N w' a n cap m := by
  obtain ⟨h0, h1, h2, h3⟩ := h
  refine ⟨h0, h1, h2, fun hn => ?_⟩
  obtain ⟨b, off, e, ho, hc⟩ := h3 hn
  have hlt : b < w.heap.size := World.block_lt_of_cell? w _ (hc 0 hn)
  exact ⟨b, off, e, ho.of_block (hb.block b hlt), fun i hi => (hb.cell (p := ⟨b, off + i, none⟩) hlt).trans (hc i hi)⟩

/-- the same slice with other limits -/
theorem Nt.part {N : Nat} {w : World} {a : Option Addr} {n cap m k : Nat} (h : Nt N w a n cap m) (hk : k ≤ n) (hm : m < B ^ k) : Nt N w a k cap m := by
  obtain ⟨h0, h1, h2, h3⟩ := h
  refine ⟨⟨by have := h0.1; omega, h0.2⟩, h1, hm, fun hn => ?_⟩
  obtain ⟨b, off, e, ho, hc⟩ := h3 (by omega)
  exact ⟨b, off, e, ho, fun i hi => hc i (by omega)⟩
theorem Nt.trim {N : Nat} {w : World} {a : Option Addr} {n cap m : Nat} (h : Nt N w a n cap m) : Nt N w a (nlen m) cap m :=
  h.part (nlen_le h.2.2.1) (lt_pow_nlen m)
theorem Nt.len {N : Nat} {w : World} {a : Option Addr} {n cap m : Nat} (h : Nt N w a n cap m) : nlen m ≤ n := nlen_le h.2.2.1

/-- a row that the call made -/
theorem Nt.of_row {N : Nat} {w : World} {b n m : Nat} {f : Nat → Value} (h : w.rowIs b 81 n f) (hn : n ≤ maxLen) (hm : m < B ^ n) (hf : ∀ i, i < n → f i = .int .u32 (dig m i)) : Nt N w (some ⟨b, 0, none⟩) n n m := by
  refine ⟨⟨Nat.le_refl _, fun h => by cases h⟩, hn, hm, fun _ => ⟨b, 0, rfl, .inr ?_, fun i hi => ?_⟩⟩
  · obtain ⟨c, hc, _⟩ := h; exact ⟨c, _, hc⟩
  · rw [Nat.zero_add, h.cell hi, hf i hi]

theorem Nt.setCell {N : Nat} {w : World} {a : Option Addr} {n cap m : Nat} (h : Nt N w a n cap m) {p : Addr} {T : TypeId} {cur : Array Value} {fz : Nat × Nat} (hN : N ≤ p.block)
    (hp : w.heap[p.block]? = some (.cells cur T fz)) (hT : T ≠ 81) (v : Value) : Nt N (w.setCell p v) a n cap m := by
  obtain ⟨h0, h1, h2, h3⟩ := h
  refine ⟨h0, h1, h2, fun hn => ?_⟩
  obtain ⟨b, off, e, ho, hc⟩ := h3 hn
  have hne : b ≠ p.block := by
    rintro rfl
    rcases ho with ho | ⟨c, z, ho⟩
    · omega
    · rw [hp] at ho; simp at ho; exact hT ho.2.1
  have eb := Below.heap_setCell w p v b hne
  exact ⟨b, off, e, ho.of_block eb, fun i hi => (World.cell?_of_block (w := w) (a := ⟨b, off + i, none⟩) eb).trans (hc i hi)⟩

theorem Try.infoU32 : (Try.prog.info? 81).map (fun i => (i.zero, i.size, i.bytes)) = some (some (.int .u32 0), 1, 4) := by kernel_rfl
end Go.Proofs.Ytonnbcongnkcdaa

namespace Go.Proofs.Ytonnbcongnkcdaa
open Go.RowKit

/-- the row of a number behind k rounds -/
def sumRow (s k : Nat) (i : Nat) : Value := if i < k then .int .u32 (dig s i) else .int .u32 0

theorem sumRow_step {w : World} {b n s k : Nat} {v : Int} (h : w.rowIs b 81 n (sumRow s k)) (hv : v = dig s k) :
    (w.setCell ⟨b, k, none⟩ (.int .u32 v)).rowIs b 81 n (sumRow s (k + 1)) := by
  refine (h.set k (.int .u32 v)).congr fun i hi => ?_
  simp only [sumRow]
  by_cases h1 : i = k
  · subst h1; simp [hv]
  · rw [if_neg h1]
    by_cases h2 : i < k
    · rw [if_pos h2, if_pos (by omega)]
    · rw [if_neg h2, if_neg (by omega)]

theorem car_int (a b k : Nat) : ((dig a k : Int) + (car a b k : Int) + (dig b k : Int)) / 4294967296 = (car a b (k + 1) : Int) := by
  have h := car_succ a b k; simp only [B] at h; omega
theorem dig_int (a b k : Nat) : ((dig a k : Int) + (car a b k : Int) + (dig b k : Int)) % 4294967296 = (dig (a + b) k : Int) := by
  have h := dig_add a b k; simp only [B] at h; omega
theorem car_int0 (a b k : Nat) (h0 : dig b k = 0) : ((dig a k : Int) + (car a b k : Int)) / 4294967296 = (car a b (k + 1) : Int) := by
  have h := car_succ a b k; simp only [B] at h; omega
theorem dig_int0 (a b k : Nat) (h0 : dig b k = 0) : ((dig a k : Int) + (car a b k : Int)) % 4294967296 = (dig (a + b) k : Int) := by
  have h := dig_add a b k; simp only [B] at h; omega
theorem u64_congr {x y : Int} (h : x = y) : Value.int .u64 x = Value.int .u64 y := by rw [h]
theorem u32_congr {x y : Int} (h : x = y) : Value.int .u32 x = Value.int .u32 y := by rw [h]
theorem i64_congr {x y : Int} (h : x = y) : Value.int .i64 x = Value.int .i64 y := by rw [h]

end Go.Proofs.Ytonnbcongnkcdaa

namespace Go.Proofs.Ytonnbcongnkcdaa
open Go.RowKit

theorem bel_drewN (B : Nat) (w : World) (m : Nat) : Below B w (w.drewN m) := below_drewN (Below.refl _ _) m

theorem bor_int (a b k : Nat) : (bor a b (k + 1) : Int) = if (dig a k : Int) < (dig b k : Int) + (bor a b k : Int) then 1 else 0 := by
  rw [bor_succ]
  by_cases h : dig a k < dig b k + bor a b k
  · rw [if_pos h, if_pos (by omega)]; rfl
  · rw [if_neg h, if_neg (by omega)]; rfl

theorem wrap_u64 (x : Int) : IntKind.u64.wrap x = x % 18446744073709551616 := by
  simp [IntKind.wrap, IntKind.signed, IntKind.bits]
theorem sub_bor (a b k : Nat) : IntKind.u64.wrap (IntKind.u64.wrap ((dig a k : Int) - (bor a b k : Int)) - (dig b k : Int)) / 9223372036854775808 = (bor a b (k + 1) : Int) := by
  rw [bor_int, wrap_u64, wrap_u64]
  have h1 := dig_lt' a k
  have h2 := dig_lt' b k
  have h3 := bor_le a b k
  split <;> omega
theorem sub_dig (a b k : Nat) (hle : b ≤ a) : IntKind.u64.wrap (IntKind.u64.wrap ((dig a k : Int) - (bor a b k : Int)) - (dig b k : Int)) % 4294967296 = (dig (a - b) k : Int) := by
  rw [wrap_u64, wrap_u64]
  have h1 := dig_lt' a k
  have h2 := dig_lt' b k
  have h3 := bor_le a b k
  have h4 := dig_lt' (a - b) k
  have h5 := dig_sub a b k hle
  simp only [B] at h5
  split at h5 <;> omega
theorem sub_bor0 (a b k : Nat) (h0 : dig b k = 0) : IntKind.u64.wrap ((dig a k : Int) - (bor a b k : Int)) / 9223372036854775808 = (bor a b (k + 1) : Int) := by
  rw [bor_int, wrap_u64]
  have h1 := dig_lt' a k
  have h3 := bor_le a b k
  split <;> omega
theorem sub_dig0 (a b k : Nat) (hle : b ≤ a) (h0 : dig b k = 0) : IntKind.u64.wrap ((dig a k : Int) - (bor a b k : Int)) % 4294967296 = (dig (a - b) k : Int) := by
  rw [wrap_u64]
  have h1 := dig_lt' a k
  have h3 := bor_le a b k
  have h4 := dig_lt' (a - b) k
  have h5 := dig_sub a b k hle
  simp only [B] at h5
  split at h5 <;> omega

end Go.Proofs.Ytonnbcongnkcdaa

namespace Go.Proofs.Ytonnbcongnkcdaa
open Go.RowKit

def mulRow (a b i j p : Nat) : Value := .int .u32 (if p < i + j then dig (prj a b i j) p else dig (prj a b i 0) p : Nat)

theorem mulRow_step {w : World} {bk n a b i j : Nat} {v : Int} (h : w.rowIs bk 81 n (mulRow a b i j)) (hv : v = (mst a b i j % B : Nat)) :
    (w.setCell ⟨bk, i + j, none⟩ (.int .u32 v)).rowIs bk 81 n (mulRow a b i (j + 1)) := by
  refine (h.set (i + j) (.int .u32 v)).congr fun p hp => ?_
  simp only [mulRow]
  by_cases h1 : p = i + j
  · subst h1; rw [if_pos rfl, if_pos (by omega), hv, dig_prj_new]
  · rw [if_neg h1]
    by_cases h2 : p < i + j
    · rw [if_pos h2, if_pos (by omega), dig_prj_low a b i j p h2]
    · rw [if_neg h2, if_neg (by omega)]

theorem mulRow_next {w : World} {bk n a b i lb : Nat} {v : Int} (h : w.rowIs bk 81 n (mulRow a b i lb)) (hb : b < B ^ lb) (hv : v = (mca a b i lb : Nat)) :
    (w.setCell ⟨bk, i + lb, none⟩ (.int .u32 v)).rowIs bk 81 n (mulRow a b (i + 1) 0) := by
  refine (h.set (i + lb) (.int .u32 v)).congr fun p hp => ?_
  simp only [mulRow]
  by_cases h1 : p = i + lb
  · subst h1; rw [if_pos rfl, hv, mca_end a b i lb hb, prj_end a b i lb hb]; simp
  · rw [if_neg h1]
    by_cases h2 : p < i + lb
    · rw [if_pos h2, prj_end a b i lb hb]; simp
    · have h3 : dig (prj a b i 0) p = 0 := by rw [prj_zero]; exact dig_high' _ (i + lb) p (low_mul_lt a b i lb hb) (by omega)
      have h4 : dig (prj a b (i + 1) 0) p = 0 := by rw [prj_zero]; exact dig_high' _ (i + 1 + lb) p (low_mul_lt a b (i + 1) lb hb) (by omega)
      rw [if_neg h2, h3]; simp [h4]

theorem mst_int (a b i j : Nat) : (dig a i : Int) * (dig b j : Int) + (dig (prj a b i 0) (i + j) : Int) + (mca a b i j : Int) = (mst a b i j : Int) := by
  unfold mst; rw [prj_zero]; simp
theorem mca_int (a b i j : Nat) : ((dig a i : Int) * (dig b j : Int) + (dig (prj a b i 0) (i + j) : Int) + (mca a b i j : Int)) / 4294967296 = (mca a b i (j + 1) : Int) := by
  rw [mst_int, mca_succ]; simp [B]
theorem mdg_int (a b i j : Nat) : ((dig a i : Int) * (dig b j : Int) + (dig (prj a b i 0) (i + j) : Int) + (mca a b i j : Int)) % 4294967296 = (mst a b i j % B : Nat) := by
  rw [mst_int]; simp [B]
theorem dd_le (x y : Nat) (hx : x < 4294967296) (hy : y < 4294967296) : x * y ≤ 18446744065119617025 := by
  have := Nat.mul_le_mul (show x ≤ 4294967295 by omega) (show y ≤ 4294967295 by omega)
  omega

end Go.Proofs.Ytonnbcongnkcdaa

namespace Go.Proofs.Ytonnbcongnkcdaa
open Go.RowKit

def limbsOf (m n : Nat) : List Value := (List.range n).map fun i => .int .u32 (dig m i)
theorem limbsOf_len (m n : Nat) : (limbsOf m n).length = n := by simp [limbsOf]
theorem limbsOf_get {m n i : Nat} (h : i < n) : (limbsOf m n)[i]? = some (.int .u32 (dig m i)) := by simp [limbsOf, h]

theorem Nt.of_owns {N base : Nat} {w : World} {v : Value} {n m : Nat} (h : w.ownsRow base 81 1 v n (limbsOf m n)) (hm : m < B ^ n) : ∃ r cr, v = .slice r n cr ∧ Nt N w r n cr m := by
  obtain ⟨h1, h2⟩ := h
  rcases h2 with ⟨rfl, rfl⟩ | ⟨g, cap, cur, rfl, hg, hh, h3, h4, h5, h6⟩
  · exact ⟨none, 0, rfl, ⟨Nat.le_refl _, fun _ => rfl⟩, Nat.zero_le _, hm, fun h => by omega⟩
  · refine ⟨_, _, rfl, ⟨h3, fun h => by cases h⟩, h4, hm, fun _ => ⟨g, 0, rfl, .inr ⟨cur, _, hh⟩, fun i hi => ?_⟩⟩
    rw [Nat.zero_add]
    have e : cur[i]? = some (.int .u32 (dig m i)) := by
      have := limbsOf_get (m := m) hi
      rw [← h6, List.getElem?_take] at this
      simpa [hi] using this
    simp [World.cell?, hh, e]

theorem Try.infoU32x : ∃ i, Try.prog.info? 81 = some i ∧ i.zero = some (.int .u32 0) ∧ i.size = 1 ∧ i.bytes = 4 := by
  obtain ⟨i, hi, h⟩ := Option.map_eq_some_iff.1 Try.infoU32
  simp only [Prod.mk.injEq] at h
  exact ⟨i, hi, h.1, h.2.1, h.2.2⟩

/-- A number of two limbs. -/
theorem two_limbs (n : Nat) (h : n < 18446744073709551616) : n < B ^ 2 := by
  have e : B ^ 2 = 18446744073709551616 := by decide
  rw [e]; exact h
theorem dig0 (n : Nat) : dig n 0 = n % 4294967296 := by simp [dig, B]
theorem dig1 (n : Nat) : dig n 1 = n / 4294967296 % 4294967296 := by simp [dig, B]

end Go.Proofs.Ytonnbcongnkcdaa

namespace Go.Proofs.Ytonnbcongnkcdaa
open Go.RowKit

def divRow (s k i : Nat) : Value := .int .u32 (if k ≤ i then dig s i else 0 : Nat)
theorem divRow_step {w : World} {b n s k : Nat} {v : Int} (h : w.rowIs b 81 n (divRow s (k + 1))) (hv : v = (dig s k : Nat)) :
    (w.setCell ⟨b, k, none⟩ (.int .u32 v)).rowIs b 81 n (divRow s k) := by
  refine (h.set k (.int .u32 v)).congr fun i hi => ?_
  simp only [divRow]
  by_cases h1 : i = k
  · subst h1; simp [hv]
  · rw [if_neg h1]
    by_cases h2 : k ≤ i
    · rw [if_pos h2, if_pos (by omega)]
    · rw [if_neg h2, if_neg (by omega)]

/-- the rest above place k -/
def rst (m d k : Nat) : Nat := m / B ^ k % d
theorem div_top (m k : Nat) : m / B ^ k = B * (m / B ^ (k + 1)) + dig m k := by
  unfold dig
  rw [pB_succ, ← Nat.div_div_eq_div_mul]
  have := Nat.div_add_mod (m / B ^ k) B
  omega
theorem rst_step (m d k : Nat) (_hd : 0 < d) : rst m d k = (rst m d (k + 1) * B + dig m k) % d := by
  unfold rst
  rw [div_top, Nat.mul_comm B, Nat.add_mod, Nat.mul_mod]
  conv => rhs; rw [Nat.add_mod, Nat.mul_mod]
  simp only [Nat.mod_mod]
theorem quo_step (m d k : Nat) (hd : 0 < d) (_hdB : d ≤ B) : dig (m / d) k = (rst m d (k + 1) * B + dig m k) / d := by
  unfold rst
  have e : dig (m / d) k = (m / B ^ k) / d % B := by unfold dig; rw [Nat.div_div_eq_div_mul, Nat.div_div_eq_div_mul, Nat.mul_comm]
  rw [e, div_top]
  generalize m / B ^ (k + 1) = y
  have hy := Nat.div_add_mod y d
  have hdl := dig_lt m k
  generalize hr : y % d = r at *
  generalize y / d = q at *
  have hrd : r < d := by rw [← hr]; exact Nat.mod_lt _ hd
  have e2 : B * y + dig m k = (r * B + dig m k) + d * (B * q) := by
    rw [← hy, Nat.mul_add]
    have : B * (d * q) = d * (B * q) := by simp only [Nat.mul_left_comm]
    rw [Nat.mul_comm B r]; omega
  rw [e2, Nat.add_mul_div_left _ _ hd]
  have hlt : (r * B + dig m k) / d < B := by
    refine (Nat.div_lt_iff_lt_mul hd).2 ?_
    have : (r + 1) * B ≤ d * B := Nat.mul_le_mul_right _ hrd
    rw [Nat.add_mul, Nat.one_mul] at this
    rw [Nat.mul_comm B d]; omega
  rw [Nat.add_mul_mod_self_left, Nat.mod_eq_of_lt hlt]
theorem rst_lt (m d k : Nat) (hd : 0 < d) : rst m d k < d := Nat.mod_lt _ hd
theorem rst_top (m d n : Nat) (hm : m < B ^ n) (_hd : 0 < d) : rst m d n = 0 := by
  unfold rst; rw [Nat.div_eq_of_lt hm]; exact Nat.zero_mod _
theorem rst_zero (m d : Nat) : rst m d 0 = m % d := by simp [rst]

theorem or_nat (x y : Nat) (hy : y < 4294967296) : (x * 4294967296) ||| y = x * 4294967296 + y := by
  have := Nat.shiftLeft_add_eq_or_of_lt (i := 32) (b := y) (by simpa using hy) x
  rw [Nat.shiftLeft_eq] at this
  exact this.symm
theorem or_u64 (x y : Nat) (hx : x < 4294967296) (hy : y < 4294967296) : bits BinOp.or IntKind.u64 ((x : Int) * 4294967296) (y : Int) = (x : Int) * 4294967296 + (y : Int) := by
  have e : ((x : Int) * 4294967296) = ((x * 4294967296 : Nat) : Int) := by omega
  rw [e, bits_or_u64_nat _ _ (by omega) (by omega), or_nat x y hy]
  omega
theorem quo_int' (m d k : Nat) (hd : 0 < d) (hdB : d < 4294967296) : ((rst m d (k + 1) : Int) * 4294967296 + (dig m k : Int)) / (d : Int) = (dig (m / d) k : Nat) := by
  have h := quo_step m d k hd (by simp only [B]; omega)
  rw [h]
  simp [B]
theorem quo_int (m d k : Nat) (hd : 0 < d) (hdB : d < 4294967296) : ((rst m d (k + 1) : Int) * 4294967296 + (dig m k : Int)) / (d : Int) % 4294967296 = (dig (m / d) k : Nat) := by
  rw [quo_int' m d k hd hdB]
  have h2 := dig_lt' (m / d) k
  omega
theorem rst_int (m d k : Nat) (hd : 0 < d) : ((rst m d (k + 1) : Int) * 4294967296 + (dig m k : Int)) % (d : Int) = (rst m d k : Nat) := by
  rw [rst_step m d k hd]; simp [B]

end Go.Proofs.Ytonnbcongnkcdaa

namespace Go.Proofs.Ytonnbcongnkcdaa
open Go.RowKit

def shlRow (m s k i : Nat) : Value := .int .u32 (if i ≤ k then dig (m % B ^ k * 2 ^ s) i else 0 : Nat)

theorem two_split (s : Nat) (hs : s < 32) : 2 ^ s * 2 ^ (32 - s) = B := by
  rw [← Nat.pow_add, show s + (32 - s) = 32 by omega]; rfl
theorem two_le (s : Nat) (hs : s < 32) : 2 ^ s ≤ 2147483648 := by
  have := Nat.pow_le_pow_right (show 0 < 2 by decide) (show s ≤ 31 by omega)
  simpa using this
/-- what stands above place k -/
theorem shl_top (m s k : Nat) (_hs : s < 32) : m % B ^ k * 2 ^ s / B ^ k < 2 ^ s := by
  refine (Nat.div_lt_iff_lt_mul (pB k)).2 ?_
  rw [Nat.mul_comm (2 ^ s)]
  exact Nat.mul_lt_mul_of_pos_right (Nat.mod_lt _ (pB k)) (Nat.pow_pos (by decide))
theorem shl_dig (m s k : Nat) (hs : s < 32) : dig (m % B ^ k * 2 ^ s) k = m % B ^ k * 2 ^ s / B ^ k := by
  unfold dig
  exact Nat.mod_eq_of_lt (Nat.lt_of_lt_of_le (shl_top m s k hs) (Nat.le_trans (two_le s hs) (by decide)))
theorem shl_split (m s k : Nat) : m % B ^ (k + 1) * 2 ^ s = m % B ^ k * 2 ^ s + B ^ k * (dig m k * 2 ^ s) := by
  rw [mod_succ, Nat.add_mul, Nat.mul_assoc]
theorem shl_low (z s : Nat) (hs : s < 32) : z * 2 ^ s % B = 2 ^ s * (z % 2 ^ (32 - s)) := by
  rw [Nat.mul_comm z, ← two_split s hs, Nat.mul_mod_mul_left]
theorem shl_fit (z s c : Nat) (hs : s < 32) (hc : c < 2 ^ s) : c + z * 2 ^ s % B < B := by
  rw [shl_low z s hs]
  have h1 : z % 2 ^ (32 - s) + 1 ≤ 2 ^ (32 - s) := Nat.mod_lt _ (Nat.pow_pos (by decide))
  have h2 := Nat.mul_le_mul_left (2 ^ s) h1
  rw [two_split s hs, Nat.mul_add] at h2
  omega
theorem shl_new (m s k : Nat) (hs : s < 32) : dig (m % B ^ (k + 1) * 2 ^ s) k = dig (m % B ^ k * 2 ^ s) k + dig m k * 2 ^ s % B := by
  have hfit := shl_fit (dig m k) s _ hs (shl_top m s k hs)
  rw [shl_dig m s k hs, shl_split]
  unfold dig at hfit ⊢
  rw [Nat.add_mul_div_left _ _ (pB k), Nat.add_mod]
  have e : m % B ^ k * 2 ^ s / B ^ k % B = m % B ^ k * 2 ^ s / B ^ k := Nat.mod_eq_of_lt (by omega)
  rw [e, Nat.mod_eq_of_lt hfit]
theorem shl_over (m s k : Nat) (hs : s < 32) : dig (m % B ^ (k + 1) * 2 ^ s) (k + 1) = dig m k * 2 ^ s / B := by
  have hfit := shl_fit (dig m k) s _ hs (shl_top m s k hs)
  have hz := dig_lt m k
  have hp := two_le s hs
  rw [shl_split]
  generalize dig m k = z at *
  unfold dig
  rw [pB_succ, ← Nat.div_div_eq_div_mul, Nat.add_mul_div_left _ _ (pB k)]
  have e : (m % B ^ k * 2 ^ s / B ^ k + z * 2 ^ s) / B = z * 2 ^ s / B := by
    have h1 := Nat.mod_add_div (z * 2 ^ s) B
    generalize m % B ^ k * 2 ^ s / B ^ k = c at *
    rw [show c + z * 2 ^ s = (c + z * 2 ^ s % B) + B * (z * 2 ^ s / B) by omega, Nat.add_mul_div_left _ _ B_pos, Nat.div_eq_of_lt hfit, Nat.zero_add]
  rw [e]
  apply Nat.mod_eq_of_lt
  refine (Nat.div_lt_iff_lt_mul B_pos).2 ?_
  exact Nat.mul_lt_mul_of_lt_of_le hz (Nat.le_trans hp (by decide)) B_pos
theorem shl_old (m s k i : Nat) (hi : i < k) : dig (m % B ^ (k + 1) * 2 ^ s) i = dig (m % B ^ k * 2 ^ s) i := by
  rw [shl_split, dig_add_mul _ _ _ _ hi]

theorem bits_or_u32_nat (a b : Nat) (ha : a < 4294967296) (hb : b < 4294967296) :
    bits .or .u32 (a : Int) (b : Int) = ((a ||| b : Nat) : Int) := by
  have hx : a ||| b < 2 ^ 32 := Nat.or_lt_two_pow (by omega) (by omega)
  have h1 : (BitVec.ofInt 32 (a : Int)).toNat = a := by
    rw [BitVec.ofInt_natCast, BitVec.toNat_ofNat]; exact Nat.mod_eq_of_lt (by omega)
  have h2 : (BitVec.ofInt 32 (b : Int)).toNat = b := by
    rw [BitVec.ofInt_natCast, BitVec.toNat_ofNat]; exact Nat.mod_eq_of_lt (by omega)
  show IntKind.u32.wrap ((BitVec.ofInt 32 (a : Int) ||| BitVec.ofInt 32 (b : Int)).toNat : Int) = _
  rw [BitVec.toNat_or, h1, h2, IntKind.wrap_u32]
  omega

theorem shl_wrap (z s : Nat) (hz : z < 4294967296) (hs : s < 32) : IntKind.u64.wrap ((z : Int) * 2 ^ s) = ((z * 2 ^ s : Nat) : Int) := by
  have h1 := Nat.mul_le_mul (show z ≤ 4294967295 by omega) (two_le s hs)
  have e : ((z : Int) * 2 ^ s) = ((z * 2 ^ s : Nat) : Int) := by simp
  rw [wrap_u64, e]; omega
theorem shl_v1 (m s k : Nat) (hs : s < 32) : bits BinOp.or IntKind.u32 (dig (m % B ^ k * 2 ^ s) k : Int) (IntKind.u64.wrap ((dig m k : Int) * 2 ^ s) % 4294967296) = (dig (m % B ^ (k + 1) * 2 ^ s) k : Int) := by
  rw [shl_wrap _ s (dig_lt' m k) hs]
  have e : ((dig m k * 2 ^ s : Nat) : Int) % 4294967296 = ((dig m k * 2 ^ s % B : Nat) : Int) := by simp [B]
  have h1 := Nat.mod_lt (dig m k * 2 ^ s) B_pos
  rw [e, bits_or_u32_nat _ _ (dig_lt' _ _) h1, shl_new m s k hs, Nat.or_comm]
  have h2 := shl_top m s k hs
  rw [← shl_dig m s k hs] at h2
  rw [nat_join s _ _ (by rw [shl_low _ s hs]; exact Nat.mul_mod_right _ _) h2, Nat.add_comm]
theorem shl_v2 (m s k : Nat) (hs : s < 32) : IntKind.u64.wrap ((dig m k : Int) * 2 ^ s) / 4294967296 % 4294967296 = (dig (m % B ^ (k + 1) * 2 ^ s) (k + 1) : Int) := by
  rw [shl_wrap _ s (dig_lt' m k) hs]
  have h1 := shl_over m s k hs
  have h2 := dig_lt' (m % B ^ (k + 1) * 2 ^ s) (k + 1)
  rw [h1] at h2 ⊢
  simp only [B] at h2 ⊢
  omega

theorem shlRow_step {w : World} {b n m s k : Nat} {v1 v2 : Int} (_hs : s < 32) (h : w.rowIs b 81 n (shlRow m s k)) (h1 : v1 = (dig (m % B ^ (k + 1) * 2 ^ s) k : Nat)) (h2 : v2 = (dig (m % B ^ (k + 1) * 2 ^ s) (k + 1) : Nat)) :
    ((w.setCell ⟨b, k, none⟩ (.int .u32 v1)).setCell ⟨b, k + 1, none⟩ (.int .u32 v2)).rowIs b 81 n (shlRow m s (k + 1)) := by
  refine ((h.set k (.int .u32 v1)).set (k + 1) (.int .u32 v2)).congr fun i hi => ?_
  simp only [shlRow]
  by_cases e1 : i = k + 1
  · subst e1; simp [h2]
  · rw [if_neg e1]
    by_cases e2 : i = k
    · subst e2; simp [h1]
    · rw [if_neg e2]
      by_cases e3 : i < k
      · rw [if_pos (by omega), if_pos (by omega), shl_old m s k i e3]
      · rw [if_neg (by omega), if_neg (by omega)]

end Go.Proofs.Ytonnbcongnkcdaa

namespace Go.Proofs.Ytonnbcongnkcdaa
open Go.RowKit

theorem shr_dig (m s i : Nat) (hs : s < 32) : dig (m / 2 ^ s) i = (dig m i + dig m (i + 1) * B) / 2 ^ s % B := by
  have e : dig m i + dig m (i + 1) * B = m / B ^ i % (B * B) := by
    unfold dig
    rw [Nat.mod_mul, pB_succ, ← Nat.div_div_eq_div_mul, Nat.mul_comm]
  rw [e]
  unfold dig
  rw [Nat.div_div_eq_div_mul, Nat.mul_comm (2 ^ s), ← Nat.div_div_eq_div_mul]
  generalize m / B ^ i = X
  rw [← Nat.mod_mul_right_div_self X (2 ^ s) B, ← Nat.mod_mul_right_div_self (X % (B * B)) (2 ^ s) B]
  congr 1
  exact (Nat.mod_mod_of_dvd X (Nat.mul_dvd_mul ⟨2 ^ (32 - s), (two_split s hs).symm⟩ (Nat.dvd_refl B))).symm
theorem shr_dig0 (m s i : Nat) (hs : s < 32) (h0 : dig m (i + 1) = 0) : dig (m / 2 ^ s) i = dig m i / 2 ^ s % B := by
  rw [shr_dig m s i hs, h0]; simp
theorem or_u64' (x y : Nat) (hx : x < 4294967296) (hy : y < 4294967296) : bits BinOp.or IntKind.u64 (y : Int) ((x : Int) * 4294967296) = (y : Int) + (x : Int) * 4294967296 := by
  have e : ((x : Int) * 4294967296) = ((x * 4294967296 : Nat) : Int) := by omega
  rw [e, bits_or_u64_nat _ _ (by omega) (by omega), Nat.or_comm, or_nat x y hy]
  omega
theorem shr_int (m s i : Nat) (hs : s < 32) : ((dig m i : Int) + (dig m (i + 1) : Int) * 4294967296) / 2 ^ s % 4294967296 = (dig (m / 2 ^ s) i : Nat) := by
  rw [shr_dig m s i hs]; simp [B]
theorem shr_int0 (m s i : Nat) (hs : s < 32) (h0 : dig m (i + 1) = 0) : (dig m i : Int) / 2 ^ s % 4294967296 = (dig (m / 2 ^ s) i : Nat) := by
  rw [shr_dig0 m s i hs h0]; simp [B]

end Go.Proofs.Ytonnbcongnkcdaa

namespace Go.Proofs.Ytonnbcongnkcdaa
open Go.RowKit

/-- the carry of a product with one limb -/
def mlc (q d k : Nat) : Nat := q * (d % B ^ k) / B ^ k
theorem mlc_zero (q d : Nat) : mlc q d 0 = 0 := by simp [mlc, Nat.mod_one]
theorem mlc_succ (q d k : Nat) : mlc q d (k + 1) = (q * dig d k + mlc q d k) / B := by
  unfold mlc
  have e : q * (d % B ^ (k + 1)) = q * (d % B ^ k) + B ^ k * (q * dig d k) := by
    rw [mod_succ, Nat.mul_add]; congr 1; simp only [Nat.mul_left_comm]
  rw [e, pB_succ, ← Nat.div_div_eq_div_mul, Nat.add_mul_div_left _ _ (pB k), Nat.add_comm]
theorem mlc_dig (q d k : Nat) : dig (q * d) k = (q * dig d k + mlc q d k) % B := by
  have e : q * d = q * (d % B ^ k) + B ^ k * (q * (d / B ^ k)) := by
    have h := Nat.mod_add_div d (B ^ k)
    conv => lhs; rw [← h]
    rw [Nat.mul_add]; congr 1; simp only [Nat.mul_left_comm]
  unfold dig mlc
  rw [e, Nat.add_mul_div_left _ _ (pB k), Nat.add_comm]
  conv => rhs; rw [Nat.add_mod, Nat.mul_mod]
  rw [Nat.add_mod, Nat.mul_mod]
  simp only [Nat.mod_mod]
theorem mlc_le (q d k : Nat) : mlc q d k ≤ q := by
  unfold mlc
  have h1 : q * (d % B ^ k) ≤ q * B ^ k := Nat.mul_le_mul_left _ (Nat.le_of_lt (Nat.mod_lt _ (pB k)))
  exact Nat.le_trans (Nat.div_le_div_right h1) (by rw [Nat.mul_div_cancel _ (pB k)]; exact Nat.le_refl _)
theorem mlc_end (q d n : Nat) (hd : d < B ^ n) (hq : q < B) : mlc q d n = dig (q * d) n := by
  unfold mlc dig
  rw [Nat.mod_eq_of_lt hd]
  refine (Nat.mod_eq_of_lt ?_).symm
  exact (Nat.div_lt_iff_lt_mul (pB n)).2 (Nat.mul_lt_mul_of_lt_of_le hq (Nat.le_of_lt hd) (pB n))
theorem qd_lt (q d n : Nat) (hd : d < B ^ n) (hq : q < B) : q * d < B ^ (n + 1) := by
  rw [pB_succ, Nat.mul_comm (B ^ n)]
  exact Nat.mul_lt_mul_of_lt_of_le hq (Nat.le_of_lt hd) (pB n)

/-- a difference below B^(n+1), with B^(n+1) added -/
theorem bor_up (a b n k : Nat) (hk : k ≤ n) : bor (a + B ^ n) b k = bor a b k := by
  unfold bor
  have : B ^ n = B ^ k * B ^ (n - k) := by rw [← Nat.pow_add]; congr 1; omega
  rw [this, Nat.add_mul_mod_self_left]
theorem dig_up (a n k : Nat) (hk : k < n) : dig (a + B ^ n) k = dig a k := by
  have := dig_add_mul a 1 k n hk
  rwa [Nat.mul_one] at this
theorem subm_dig (a b n k : Nat) (hk : k < n) (hb : b < B ^ n) : dig (a + B ^ n - b) k + dig b k + bor a b k = dig a k + B * (if dig a k < dig b k + bor a b k then 1 else 0) := by
  have h := dig_sub (a + B ^ n) b k (by omega)
  rwa [dig_up a n k hk, bor_up a b n k (by omega)] at h
theorem subm_int1 (a b n k : Nat) (hk : k < n) (hb : b < B ^ n) : IntKind.u64.wrap (IntKind.u64.wrap ((dig a k : Int) - (dig b k : Int)) - (bor a b k : Int)) % 4294967296 = (dig (a + B ^ n - b) k : Int) := by
  rw [wrap_u64, wrap_u64]
  have h1 := dig_lt' a k
  have h2 := dig_lt' b k
  have h3 := bor_le a b k
  have h4 := dig_lt' (a + B ^ n - b) k
  have h5 := subm_dig a b n k hk hb
  generalize dig (a + B ^ n - b) k = x at *
  simp only [B_eq] at h5
  split at h5 <;> omega
theorem subm_int2 (a b k : Nat) : IntKind.u64.wrap (IntKind.u64.wrap ((dig a k : Int) - (dig b k : Int)) - (bor a b k : Int)) / 9223372036854775808 = (bor a b (k + 1) : Int) := by
  rw [bor_int, wrap_u64, wrap_u64]
  have h1 := dig_lt' a k
  have h2 := dig_lt' b k
  have h3 := bor_le a b k
  split <;> omega
theorem bor_end (a b n : Nat) (ha : a < B ^ n) (hb : b < B ^ n) : bor a b n = if a < b then 1 else 0 := by
  unfold bor; rw [Nat.mod_eq_of_lt ha, Nat.mod_eq_of_lt hb]

def subRow (F : Nat → Value) (j P k i : Nat) : Value := if j ≤ i ∧ i < j + k then .int .u32 (dig P (i - j)) else F i
theorem subRow_zero (F : Nat → Value) (j P i : Nat) : subRow F j P 0 i = F i := by unfold subRow; rw [if_neg (by omega)]
theorem subRow_at (F : Nat → Value) (j P k : Nat) : subRow F j P k (j + k) = F (j + k) := by unfold subRow; rw [if_neg (by omega)]
theorem subRow_step {w : World} {b L j P k : Nat} {F : Nat → Value} {v : Int} (h : w.rowIs b 81 L (subRow F j P k)) (hv : v = (dig P k : Nat)) :
    (w.setCell ⟨b, j + k, none⟩ (.int .u32 v)).rowIs b 81 L (subRow F j P (k + 1)) := by
  refine (h.set (j + k) (.int .u32 v)).congr fun i hi => ?_
  simp only [subRow]
  by_cases h1 : i = j + k
  · subst h1; rw [if_pos rfl, if_pos (by omega), hv]; simp
  · rw [if_neg h1]
    by_cases h2 : j ≤ i ∧ i < j + k
    · rw [if_pos h2, if_pos (by omega)]
    · rw [if_neg h2, if_neg (by omega)]

/-- a store into row b -/
theorem grown_set (w : World) (b o : Nat) (v : Value) : w.grownBy (w.setCell ⟨b, o, none⟩ v) (some b) :=
  ⟨rfl, rfl, rfl, by simp [World.setCell], fun k _ hne => Below.heap_setCell _ _ _ _ (fun e => hne (by rw [e]))⟩
theorem grown_trans {a b c : World} {r : Option Nat} (h : a.grownBy b r) (k : b.grownBy c r) : a.grownBy c r :=
  ⟨k.os.trans h.os, k.tape.trans h.tape, k.output.trans h.output, Nat.le_trans h.size k.size, fun i hi hne => (k.block i (by have := h.size; omega) hne).trans (h.block i hi hne)⟩
theorem grown_refl (a : World) (r : Option Nat) : a.grownBy a r := ⟨rfl, rfl, rfl, Nat.le_refl _, fun _ _ _ => rfl⟩

theorem mlc_int1 (q d k : Nat) : ((q : Int) * (dig d k : Int) + (mlc q d k : Int)) / 4294967296 = (mlc q d (k + 1) : Int) := by
  rw [mlc_succ]; simp [B]
theorem mlc_int2 (q d k : Nat) : ((q : Int) * (dig d k : Int) + (mlc q d k : Int)) % 4294967296 = (dig (q * d) k : Int) := by
  rw [mlc_dig]; simp [B]

theorem neg_test (a b k : Nat) (h : bor a b (k + 1) = if a < b then 1 else 0) : (IntKind.u64.wrap (IntKind.u64.wrap ((dig a k : Int) - (dig b k : Int)) - (bor a b k : Int)) / 9223372036854775808 != 0) = decide (a < b) := by
  rw [subm_int2, h]
  by_cases hlt : a < b <;> simp [hlt]

theorem adb_int (a b k : Nat) : ((dig a k : Int) + (dig b k : Int) + (car a b k : Int)) / 4294967296 = (car a b (k + 1) : Int) := by
  have h := car_succ a b k; simp only [B] at h; omega
theorem adb_dig (a b k : Nat) : ((dig a k : Int) + (dig b k : Int) + (car a b k : Int)) % 4294967296 = (dig (a + b) k : Int) := by
  have h := dig_add a b k; simp only [B] at h; omega
theorem adb_top (a b n : Nat) (hb : b < B ^ n) : ((dig a n : Int) + (car a b n : Int)) % 4294967296 = (dig (a + b) n : Int) := by
  have h := dig_add a b n
  rw [dig_high b n hb] at h
  simp only [B] at h; omega

end Go.Proofs.Ytonnbcongnkcdaa

namespace Go.Proofs.Ytonnbcongnkcdaa
open Go.RowKit

/-- what the loop keeps -/
structure Est (T v1 v2 u2 q Q R : Nat) : Prop where
  sum : Q * v1 + R = T
  rlt : R < 4294967296
  low : q ≤ Q

theorem est_dec {T v1 v2 u2 q Q R : Nat} (h : Est T v1 v2 u2 q Q R) (hq : q < Q) : (Q - 1) * v1 + (R + v1) = T := by
  have h1 := h.sum
  obtain ⟨k, rfl⟩ : ∃ k, Q = k + 1 := ⟨Q - 1, by omega⟩
  rw [Nat.add_mul] at h1
  simp only [Nat.add_sub_cancel]
  omega

/-- U, V: the top three limbs of the part and the top two of the divisor. More than the quotient: a product above U. -/
theorem est_gt {p d q n U V Q : Nat} (hq : q = p / d) (_hd : 0 < d) (hV : V * B ^ n ≤ d) (hU : p < (U + 1) * B ^ n) (h : U < Q * V) : q < Q := by
  rcases Nat.lt_or_ge q Q with h1 | h1
  · exact h1
  · exfalso
    have h2 : Q * d ≤ p := by
      have := Nat.mul_le_mul_right d h1
      have h3 : q * d ≤ p := by rw [hq]; exact Nat.div_mul_le_self p d
      omega
    have h3 : Q * V * B ^ n ≤ Q * d := by rw [Nat.mul_assoc]; exact Nat.mul_le_mul_left _ hV
    have h4 : Q * V * B ^ n < (U + 1) * B ^ n := by omega
    have := Nat.lt_of_mul_lt_mul_right h4
    omega
theorem est_le {p d q n U V Q : Nat} (hq : q = p / d) (hd : 0 < d) (hV : d < (V + 1) * B ^ n) (hU : U * B ^ n ≤ p) (h : Q * V ≤ U) (hQ : Q ≤ V) : Q ≤ q + 1 := by
  rcases Nat.lt_or_ge (q + 1) Q with h1 | h1
  · exfalso
    have h2 : p < (q + 1) * d := by rw [hq, Nat.mul_comm]; exact Nat.lt_mul_div_succ p hd
    have h3 : (q + 1) * d ≤ (Q - 1) * d := Nat.mul_le_mul_right _ (by omega)
    have h4 : (Q - 1) * d ≤ (Q - 1) * ((V + 1) * B ^ n) := Nat.mul_le_mul_left _ (Nat.le_of_lt hV)
    have h5 : U * B ^ n < (Q - 1) * (V + 1) * B ^ n := by rw [Nat.mul_assoc]; omega
    have h6 := Nat.lt_of_mul_lt_mul_right h5
    obtain ⟨k, rfl⟩ : ∃ k, Q = k + 1 := ⟨Q - 1, by omega⟩
    simp only [Nat.add_sub_cancel] at h6
    rw [Nat.mul_add] at h6
    rw [Nat.add_mul] at h
    omega
  · exact h1
theorem est_test {T v1 v2 u2 q Q R : Nat} (h : Est T v1 v2 u2 q Q R) : (T * 4294967296 + u2 < Q * (v1 * 4294967296 + v2)) ↔ (R * 4294967296 + u2 < Q * v2) := by
  have h1 := h.sum
  have e : Q * (v1 * 4294967296 + v2) = Q * v1 * 4294967296 + Q * v2 := by rw [Nat.mul_add, Nat.mul_assoc]
  rw [e, ← h1, Nat.add_mul]
  omega


def EstPost (q0 : Nat) (w : World) (e : Ending) (w' : World) : Prop := ∃ Q q : Nat, e = .returned (.int .u64 Q) ∧ q0 ≤ Q ∧ Q ≤ q0 + 1 ∧ Q < 4294967296 ∧ w' = w.drewN q

theorem top_of (p n : Nat) (hp : p < B ^ (n + 2)) : dig p (n + 1) * 4294967296 + dig p n = p / B ^ n := by
  have h1 := div_top p n
  have h2 : dig p (n + 1) = p / B ^ (n + 1) := by
    unfold dig
    exact Nat.mod_eq_of_lt ((Nat.div_lt_iff_lt_mul (pB _)).2 (by rw [Nat.mul_comm, ← pB_succ]; exact hp))
  rw [h2, h1]
  simp only [B]
  omega

theorem top3_of (p n : Nat) (hp : p < B ^ (n + 3)) : (dig p (n + 2) * 4294967296 + dig p (n + 1)) * 4294967296 + dig p n = p / B ^ n := by
  rw [top_of p (n + 1) hp, div_top p n, Nat.mul_comm B]; rfl

end Go.Proofs.Ytonnbcongnkcdaa
