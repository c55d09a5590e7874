/- Plain arithmetic of numbers written in limbs of 32 bits: no program in sight; no condition. -/
import Derived.WalkKit
namespace Go.Proofs.YtnillajhhimeiaaDoor

/-- the base of a limb -/
def B : Nat := 4294967296
theorem B_eq : B = 4294967296 := rfl
theorem B_pos : 0 < B := by decide
theorem pB (k : Nat) : 0 < B ^ k := Nat.pow_pos B_pos
theorem pB_succ (k : Nat) : B ^ (k + 1) = B ^ k * B := Nat.pow_succ _ _
theorem pB_le {a b : Nat} (h : a ≤ b) : B ^ a ≤ B ^ b := Nat.pow_le_pow_right B_pos h

/-- the limb at place i -/
def dig (m i : Nat) : Nat := m / B ^ i % B
theorem dig_lt (m i : Nat) : dig m i < B := Nat.mod_lt _ B_pos
theorem dig_lt' (m i : Nat) : dig m i < 4294967296 := dig_lt m i
theorem dig_zero (i : Nat) : dig 0 i = 0 := by simp [dig]

theorem mod_succ (m k : Nat) : m % B ^ (k + 1) = m % B ^ k + B ^ k * dig m k := by
  rw [pB_succ, Nat.mod_mul]; rfl

theorem dig_mod_low (m i k : Nat) (h : i < k) : dig (m % B ^ k) i = dig m i := by
  unfold dig
  obtain ⟨d, rfl⟩ : ∃ d, k = i + (d + 1) := ⟨k - i - 1, by omega⟩
  rw [Nat.pow_add, Nat.mod_mul_right_div_self, pB_succ, Nat.mul_comm (B ^ d) B, Nat.mod_mul_right_mod]

theorem dig_add_mul (m q i k : Nat) (h : i < k) : dig (m + B ^ k * q) i = dig m i := by
  rw [← dig_mod_low _ i k h, Nat.add_mul_mod_self_left, dig_mod_low m i k h]

theorem dig_high (m i : Nat) (h : m < B ^ i) : dig m i = 0 := by
  unfold dig; rw [Nat.div_eq_of_lt h]; exact Nat.zero_mod _

theorem dig_high' (m n i : Nat) (h : m < B ^ n) (hi : n ≤ i) : dig m i = 0 :=
  dig_high m i (Nat.lt_of_lt_of_le h (pB_le hi))

theorem lt_of_top (m n : Nat) (h : m < B ^ (n + 1)) (hz : dig m n = 0) : m < B ^ n := by
  have e := mod_succ m n
  rw [Nat.mod_eq_of_lt h, hz, Nat.mul_zero, Nat.add_zero] at e
  rw [e]; exact Nat.mod_lt _ (pB n)

theorem ext_digs (a b n : Nat) (ha : a < B ^ n) (hb : b < B ^ n) (h : ∀ i, i < n → dig a i = dig b i) : a = b := by
  have key : ∀ k, k ≤ n → a % B ^ k = b % B ^ k := by
    intro k
    induction k with
    | zero => intro _; simp [Nat.mod_one]
    | succ k ih => intro hk; rw [mod_succ, mod_succ, ih (by omega), h k (by omega)]
  have := key n (Nat.le_refl _)
  rwa [Nat.mod_eq_of_lt ha, Nat.mod_eq_of_lt hb] at this

/-- how many limbs the normal form has -/
def nlen (m : Nat) : Nat := if h : m = 0 then 0 else nlen (m / B) + 1
termination_by m
decreasing_by exact Nat.div_lt_self (Nat.pos_of_ne_zero h) (by decide)

theorem nlen_zero : nlen 0 = 0 := by unfold nlen; simp
theorem nlen_pos {m : Nat} (h : m ≠ 0) : nlen m = nlen (m / B) + 1 := by rw [nlen]; simp [h]

theorem lt_pow_nlen (m : Nat) : m < B ^ nlen m := by
  induction m using Nat.strongRecOn with
  | ind m ih =>
    by_cases h : m = 0
    · subst h; simp [nlen_zero]
    · rw [nlen_pos h, pB_succ]
      have := ih (m / B) (Nat.div_lt_self (Nat.pos_of_ne_zero h) (by decide))
      exact (Nat.div_lt_iff_lt_mul B_pos).1 this

theorem nlen_le {m n : Nat} (h : m < B ^ n) : nlen m ≤ n := by
  induction n generalizing m with
  | zero => have : m = 0 := by simp at h; exact h
            subst this; simp [nlen_zero]
  | succ n ih =>
    by_cases h0 : m = 0
    · subst h0; simp [nlen_zero]
    · rw [nlen_pos h0]
      have := ih (m := m / B) ((Nat.div_lt_iff_lt_mul B_pos).2 (by rwa [← pB_succ]))
      omega

theorem nlen_mono {a b : Nat} (h : a ≤ b) : nlen a ≤ nlen b := nlen_le (Nat.lt_of_le_of_lt h (lt_pow_nlen b))
theorem nlen_eq_zero {m : Nat} : nlen m = 0 ↔ m = 0 := by
  constructor
  · intro h; by_cases h0 : m = 0
    · exact h0
    · rw [nlen_pos h0] at h; omega
  · rintro rfl; exact nlen_zero

theorem pow_le_of_nlen {m n : Nat} (h : n < nlen m) : B ^ n ≤ m := by
  rcases Nat.lt_or_ge m (B ^ n) with h1 | h1
  · have := nlen_le h1; omega
  · exact h1

/-- the top limb of a normal form is not 0 -/
theorem top_ne (m n : Nat) (h : nlen m = n + 1) : dig m n ≠ 0 := by
  intro hz
  have := nlen_le (lt_of_top m n (by rw [← h]; exact lt_pow_nlen m) hz)
  omega

/-- trimming: n limbs, the top one 0 -/
theorem trim_zero {m n : Nat} (hm : m < B ^ n) (hn : 0 < n) (hz : dig m (n - 1) = 0) : m < B ^ (n - 1) := by
  obtain ⟨k, rfl⟩ : ∃ k, n = k + 1 := ⟨n - 1, by omega⟩
  exact lt_of_top m k hm hz
theorem trim_done {m n : Nat} (hm : m < B ^ n) (hz : n = 0 ∨ dig m (n - 1) ≠ 0) : n = nlen m := by
  have h1 := nlen_le hm
  rcases Nat.lt_or_ge (nlen m) n with h2 | h2
  · exfalso
    rcases hz with hz | hz
    · omega
    · exact hz (dig_high' m (nlen m) (n - 1) (lt_pow_nlen m) (by omega))
  · omega

theorem nlen_add (a b : Nat) : nlen (a + b) ≤ max (nlen a) (nlen b) + 1 := by
  apply nlen_le
  rw [pB_succ]
  have h1 : a < B ^ max (nlen a) (nlen b) := Nat.lt_of_lt_of_le (lt_pow_nlen a) (pB_le (Nat.le_max_left _ _))
  have h2 : b < B ^ max (nlen a) (nlen b) := Nat.lt_of_lt_of_le (lt_pow_nlen b) (pB_le (Nat.le_max_right _ _))
  have h3 : B ^ max (nlen a) (nlen b) * 2 ≤ B ^ max (nlen a) (nlen b) * B := Nat.mul_le_mul_left _ (by decide)
  omega
theorem nlen_mul (a b : Nat) : nlen (a * b) ≤ nlen a + nlen b := by
  apply nlen_le
  rw [Nat.pow_add]
  exact Nat.mul_lt_mul_of_lt_of_le (lt_pow_nlen a) (Nat.le_of_lt (lt_pow_nlen b)) (pB _)
theorem nlen_small {m : Nat} (h : m < 4294967296) : nlen m ≤ 1 := nlen_le (by simpa [B] using h)
theorem nlen_two {m : Nat} (h : m < 18446744073709551616) : nlen m ≤ 2 := by
  apply nlen_le
  have e : B ^ 2 = 18446744073709551616 := by decide
  rw [e]; exact h

/-! ### Sums -/
/-- the carry into place k -/
def car (a b k : Nat) : Nat := (a % B ^ k + b % B ^ k) / B ^ k
theorem car_zero (a b : Nat) : car a b 0 = 0 := by simp [car, Nat.mod_one]
theorem car_le (a b k : Nat) : car a b k ≤ 1 := by
  unfold car
  have h1 := Nat.mod_lt a (pB k)
  have h2 := Nat.mod_lt b (pB k)
  have : (a % B ^ k + b % B ^ k) / B ^ k < 2 := (Nat.div_lt_iff_lt_mul (pB k)).2 (by omega)
  omega
theorem add_split (a b k : Nat) : (a + b) / B ^ k = a / B ^ k + b / B ^ k + car a b k := by
  unfold car
  have e : a + b = (a % B ^ k + b % B ^ k) + B ^ k * (a / B ^ k + b / B ^ k) := by
    have h1 := Nat.mod_add_div a (B ^ k); have h2 := Nat.mod_add_div b (B ^ k)
    rw [Nat.mul_add]; omega
  rw [e, Nat.add_mul_div_left _ _ (pB k), Nat.add_comm]
theorem dig_add (a b k : Nat) : dig (a + b) k = (dig a k + dig b k + car a b k) % B := by
  unfold dig
  rw [add_split]
  conv => lhs; rw [Nat.add_mod, Nat.add_mod (a / B ^ k)]
  conv => rhs; rw [Nat.add_mod]
theorem car_succ (a b k : Nat) : car a b (k + 1) = (dig a k + dig b k + car a b k) / B := by
  have e : a % B ^ (k + 1) + b % B ^ (k + 1) = (a % B ^ k + b % B ^ k) + B ^ k * (dig a k + dig b k) := by
    rw [mod_succ, mod_succ, Nat.mul_add]; omega
  unfold car
  rw [e, pB_succ, ← Nat.div_div_eq_div_mul, Nat.add_mul_div_left _ _ (pB k), Nat.add_comm]
theorem car_top (a b n : Nat) (ha : a < B ^ n) (hb : b < B ^ n) : car a b n = dig (a + b) n := by
  unfold car dig
  rw [Nat.mod_eq_of_lt ha, Nat.mod_eq_of_lt hb]
  have : (a + b) / B ^ n < B := Nat.lt_of_lt_of_le ((Nat.div_lt_iff_lt_mul (pB n)).2 (show a + b < 2 * B ^ n by omega)) (by decide)
  exact (Nat.mod_eq_of_lt this).symm

/-! ### Differences -/
def bor (a b k : Nat) : Nat := if a % B ^ k < b % B ^ k then 1 else 0
theorem bor_zero (a b : Nat) : bor a b 0 = 0 := by simp [bor, Nat.mod_one]
theorem bor_le (a b k : Nat) : bor a b k ≤ 1 := by unfold bor; split <;> omega
theorem bor_succ (a b k : Nat) : bor a b (k + 1) = if dig a k < dig b k + bor a b k then 1 else 0 := by
  unfold bor
  rw [mod_succ a, mod_succ b]
  have h1 := Nat.mod_lt a (pB k)
  have h2 := Nat.mod_lt b (pB k)
  have key : ∀ (p r s x y : Nat), r < p → s < p → ((r + p * x < s + p * y) ↔ (x < y + if r < s then 1 else 0)) := by
    intro p r s x y hr hs
    constructor
    · intro h
      rcases Nat.lt_trichotomy x y with hx | hx | hx
      · omega
      · subst hx; rw [if_pos (by omega)]; omega
      · exfalso
        have : p * (y + 1) ≤ p * x := Nat.mul_le_mul_left _ hx
        rw [Nat.mul_add] at this; omega
    · intro h
      rcases Nat.lt_trichotomy x y with hx | hx | hx
      · have : p * (x + 1) ≤ p * y := Nat.mul_le_mul_left _ hx
        rw [Nat.mul_add] at this; omega
      · subst hx; split at h
        · omega
        · omega
      · split at h <;> omega
  have := key (B ^ k) (a % B ^ k) (b % B ^ k) (dig a k) (dig b k) h1 h2
  by_cases hc : a % B ^ k + B ^ k * dig a k < b % B ^ k + B ^ k * dig b k
  · rw [if_pos hc, if_pos (this.1 hc)]
  · rw [if_neg hc, if_neg (fun h => hc (this.2 h))]

theorem dig_sub (a b k : Nat) (h : b ≤ a) : dig (a - b) k + dig b k + bor a b k = dig a k + B * (if dig a k < dig b k + bor a b k then 1 else 0) := by
  obtain ⟨c, rfl⟩ : ∃ c, a = b + c := ⟨a - b, by omega⟩
  rw [Nat.add_sub_cancel_left]
  -- the borrow is the carry of the sum
  have hcar : ∀ k, bor (b + c) b k = car c b k := by
    intro k
    unfold bor car
    have h1 := Nat.mod_lt c (pB k)
    have h2 := Nat.mod_lt b (pB k)
    have e : (b + c) % B ^ k = (c % B ^ k + b % B ^ k) % B ^ k := by rw [Nat.add_comm, Nat.add_mod]
    rw [e]
    by_cases hlt : c % B ^ k + b % B ^ k < B ^ k
    · rw [Nat.mod_eq_of_lt hlt, Nat.div_eq_of_lt hlt, if_neg (by generalize c % B ^ k = r at *; generalize b % B ^ k = s at *; omega)]
    · have e2 : (c % B ^ k + b % B ^ k) % B ^ k = c % B ^ k + b % B ^ k - B ^ k := by
        rw [Nat.mod_eq_sub_mod (by omega), Nat.mod_eq_of_lt (by omega)]
      have e3 : (c % B ^ k + b % B ^ k) / B ^ k = 1 := by
        have a1 : (c % B ^ k + b % B ^ k) / B ^ k < 2 := (Nat.div_lt_iff_lt_mul (pB k)).2 (by omega)
        have a2 : 1 ≤ (c % B ^ k + b % B ^ k) / B ^ k := (Nat.le_div_iff_mul_le (pB k)).2 (by omega)
        omega
      rw [e2, e3, if_pos (by omega)]
  rw [hcar]
  have hd := dig_add c b k
  rw [Nat.add_comm c b] at hd
  rw [hd]
  have hc := dig_lt c k
  have hb := dig_lt b k
  have hl := car_le c b k
  have hB : B = 4294967296 := rfl
  by_cases hs : dig c k + dig b k + car c b k < B
  · rw [Nat.mod_eq_of_lt hs, if_neg (by omega)]; omega
  · rw [Nat.mod_eq_sub_mod (by omega), Nat.mod_eq_of_lt (by omega), if_pos (by omega)]; omega

/-! ### Comparing -/
theorem lt_of_high {a b n k : Nat} (ha : a < B ^ n) (hb : b < B ^ n) (hk : k < n) (heq : ∀ i, k < i → i < n → dig a i = dig b i) (hlt : dig a k < dig b k) : a < b := by
  have key : ∀ d j, j = k + 1 + d → j ≤ n → a % B ^ j < b % B ^ j := by
    intro d
    induction d with
    | zero =>
      intro j hj hn
      obtain rfl : j = k + 1 := by omega
      rw [mod_succ, mod_succ]
      have h1 := Nat.mod_lt a (pB k)
      have : B ^ k * (dig a k + 1) ≤ B ^ k * dig b k := Nat.mul_le_mul_left _ hlt
      rw [Nat.mul_add, Nat.mul_one] at this
      generalize a % B ^ k = r at *; generalize b % B ^ k = s at *; generalize B ^ k * dig b k = t at *; generalize B ^ k * dig a k = u at *; generalize B ^ k = q at *
      omega
    | succ d ih =>
      intro j hj hn
      obtain rfl : j = k + 1 + d + 1 := by omega
      have := ih _ rfl (by omega)
      rw [mod_succ, mod_succ, heq (k + 1 + d) (by omega) (by omega)]; omega
  have := key (n - k - 1) n (by omega) (Nat.le_refl _)
  rwa [Nat.mod_eq_of_lt ha, Nat.mod_eq_of_lt hb] at this

theorem lt_of_nlen {a b : Nat} (h : nlen a < nlen b) : a < b :=
  Nat.lt_of_lt_of_le (lt_pow_nlen a) (pow_le_of_nlen h)

/-- -1, 0 or 1 -/
def cmpN (a b : Nat) : Int := if a < b then -1 else if b < a then 1 else 0
theorem cmpN_lt {a b : Nat} (h : a < b) : cmpN a b = -1 := if_pos h
theorem cmpN_gt {a b : Nat} (h : b < a) : cmpN a b = 1 := by unfold cmpN; rw [if_neg (by omega), if_pos h]
theorem cmpN_eq {a b : Nat} (h : a = b) : cmpN a b = 0 := by unfold cmpN; rw [if_neg (by omega), if_neg (by omega)]

/-! ### Products -/
/-- the product so far: i limbs of a with all of b, and limb i with j limbs of b -/
def prj (a b i j : Nat) : Nat := a % B ^ i * b + dig a i * B ^ i * (b % B ^ j)
def mca (a b i j : Nat) : Nat := ((a % B ^ i * b) % B ^ (i + j) + dig a i * B ^ i * (b % B ^ j)) / B ^ (i + j)
theorem prj_zero (a b i : Nat) : prj a b i 0 = a % B ^ i * b := by simp [prj, Nat.mod_one]
theorem prj_end (a b i n : Nat) (hb : b < B ^ n) : prj a b i n = prj a b (i + 1) 0 := by
  rw [prj_zero, mod_succ, Nat.add_mul]
  unfold prj
  rw [Nat.mod_eq_of_lt hb, Nat.mul_comm (dig a i) (B ^ i)]
theorem mca_zero (a b i : Nat) : mca a b i 0 = 0 := by
  unfold mca
  simp only [Nat.pow_zero, Nat.mod_one, Nat.mul_zero, Nat.add_zero]
  exact Nat.div_eq_of_lt (Nat.mod_lt _ (pB i))
theorem prj_split (a b i j : Nat) : prj a b i j = ((a % B ^ i * b) % B ^ (i + j) + dig a i * B ^ i * (b % B ^ j)) + B ^ (i + j) * ((a % B ^ i * b) / B ^ (i + j)) := by
  unfold prj
  have := Nat.mod_add_div (a % B ^ i * b) (B ^ (i + j))
  omega
theorem prj_succ (a b i j : Nat) : prj a b i (j + 1) = prj a b i j + B ^ (i + j) * (dig a i * dig b j) := by
  unfold prj
  have e : dig a i * B ^ i * (B ^ j * dig b j) = B ^ (i + j) * (dig a i * dig b j) := by
    rw [Nat.pow_add]; simp only [Nat.mul_comm, Nat.mul_left_comm, Nat.mul_assoc]
  rw [mod_succ, Nat.mul_add, e]; omega
/-- the sum that place i + j is made of -/
def mst (a b i j : Nat) : Nat := dig a i * dig b j + dig (a % B ^ i * b) (i + j) + mca a b i j
theorem mca_succ (a b i j : Nat) : mca a b i (j + 1) = mst a b i j / B := by
  unfold mca mst
  show _ = (dig a i * dig b j + dig (a % B ^ i * b) (i + j) + ((a % B ^ i * b) % B ^ (i + j) + dig a i * B ^ i * (b % B ^ j)) / B ^ (i + j)) / B
  have e : (a % B ^ i * b) % B ^ (i + (j + 1)) + dig a i * B ^ i * (b % B ^ (j + 1)) =
      ((a % B ^ i * b) % B ^ (i + j) + dig a i * B ^ i * (b % B ^ j)) + B ^ (i + j) * (dig a i * dig b j + dig (a % B ^ i * b) (i + j)) := by
    have e1 : dig a i * B ^ i * (B ^ j * dig b j) = B ^ (i + j) * (dig a i * dig b j) := by
      rw [Nat.pow_add]; simp only [Nat.mul_comm, Nat.mul_left_comm, Nat.mul_assoc]
    rw [show i + (j + 1) = (i + j) + 1 from rfl, mod_succ, mod_succ b, Nat.mul_add, e1, Nat.mul_add]; omega
  rw [e, show i + (j + 1) = (i + j) + 1 from rfl, pB_succ, ← Nat.div_div_eq_div_mul, Nat.add_mul_div_left _ _ (pB _), Nat.add_comm]
theorem dig_prj_new (a b i j : Nat) : dig (prj a b i (j + 1)) (i + j) = mst a b i j % B := by
  rw [prj_succ, prj_split]
  unfold dig mst
  rw [Nat.add_mul_div_left _ _ (pB _), Nat.add_mul_div_left _ _ (pB _)]
  unfold mca dig
  have : ∀ x y z : Nat, (x + y + z) % B = (z + y % B + x) % B := by
    intro x y z; rw [Nat.add_mod (z + y % B), Nat.add_mod z, Nat.mod_mod, ← Nat.add_mod z, ← Nat.add_mod]; congr 1; omega
  rw [this]
theorem dig_prj_low (a b i j p : Nat) (h : p < i + j) : dig (prj a b i (j + 1)) p = dig (prj a b i j) p := by
  rw [prj_succ, dig_add_mul _ _ _ _ h]
theorem dig_prj_zero (a b i p : Nat) : dig (prj a b i 0) p = dig (a % B ^ i * b) p := by rw [prj_zero]
theorem mca_lt (a b i j : Nat) : mca a b i j < B := by
  induction j with
  | zero => rw [mca_zero]; exact B_pos
  | succ j ih =>
    rw [mca_succ]
    refine (Nat.div_lt_iff_lt_mul B_pos).2 ?_
    unfold mst
    have h1 := dig_lt a i
    have h2 := dig_lt b j
    have h3 := dig_lt (a % B ^ i * b) (i + j)
    have h4 : dig a i * dig b j ≤ (B - 1) * (B - 1) := Nat.mul_le_mul (by omega) (by omega)
    have h5 : (B - 1) * (B - 1) + (B - 1) + (B - 1) < B * B := by decide
    omega
theorem mst_lt (a b i j : Nat) : mst a b i j < 18446744073709551616 := by
  unfold mst
  have h1 := dig_lt a i
  have h2 := dig_lt b j
  have h3 := dig_lt (a % B ^ i * b) (i + j)
  have h0 := mca_lt a b i j
  have h4 : dig a i * dig b j ≤ (B - 1) * (B - 1) := Nat.mul_le_mul (by omega) (by omega)
  have h5 : (B - 1) * (B - 1) + (B - 1) + (B - 1) < 18446744073709551616 := by decide
  omega
theorem low_mul_lt (a b i n : Nat) (hb : b < B ^ n) : a % B ^ i * b < B ^ (i + n) := by
  rw [Nat.pow_add]
  exact Nat.mul_lt_mul_of_lt_of_le (Nat.mod_lt _ (pB i)) (Nat.le_of_lt hb) (pB _)
/-- behind the inner loop the carry is the next limb -/
theorem mca_end (a b i n : Nat) (hb : b < B ^ n) : mca a b i n = dig (prj a b i n) (i + n) := by
  have h0 := mca_lt a b i n
  have hs := prj_split a b i n
  rw [Nat.div_eq_of_lt (low_mul_lt a b i n hb), Nat.mul_zero, Nat.add_zero] at hs
  unfold dig
  rw [hs]
  exact (Nat.mod_eq_of_lt h0).symm

end Go.Proofs.YtnillajhhimeiaaDoor
