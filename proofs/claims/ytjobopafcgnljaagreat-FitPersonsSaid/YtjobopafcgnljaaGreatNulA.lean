import Derived.Test.YtjobopafcgnljaaGreatFtP
namespace Go.Proofs.YtjobopafcgnljaaGreat
theorem prb_iffF {q : Rat} : prb q = true ↔ 0 ≤ q ∧ q ≤ 1 := by unfold prb; simp
theorem fail_castF (q : Rat) (h : prb q = true) : (((q.den - q.num.natAbs : Nat)) : Rat) = (1 - q) * (q.den : Rat) := by
 have h1 := prb_le q h
 have h2 := den_mul q (prb_iffF.1 h).1
 have h3 : ((q.den - q.num.natAbs + q.num.natAbs : Nat) : Rat) = ((q.den : Nat) : Rat) := by rw [Nat.sub_add_cancel h1]
 rw [natQ_add] at h3
 grind
theorem prN_posF {d : Nat → Nat} : ∀ {n : Nat}, (∀ i, i < n → 0 < d i) → 0 < prN d n
 | 0, _ => by simp [prN]
 | n + 1, h => Nat.mul_pos (prN_posF (fun i hi => h i (by omega))) (h n (by omega))
def nuW (s f : Nat → Nat) : Nat → Nat → Nat → Nat
 | 0, w, e => if w = 0 ∧ e = 0 then 1 else 0
 | i + 1, w, e => (if 1 ≤ w then nuW s f i (w - 1) e * f i else 0) + (if w ≤ e then nuW s f i w (e - w) * s i else 0)
def nul (q : Nat → Rat) : Nat → Nat → Nat → Rat
 | 0, w, e => if w = 0 ∧ e = 0 then 1 else 0
 | i + 1, w, e => (if 1 ≤ w then nul q i (w - 1) e * (1 - q i) else 0) + (if w ≤ e then nul q i w (e - w) * q i else 0)
theorem step_mul (w i : Nat) (h : w ≤ i) : w * (i + 1 - w) = w * (i - w) + w := by
 rw [show i + 1 - w = (i - w) + 1 by omega, Nat.mul_succ]
theorem nul_zero (q : Nat → Rat) : ∀ (i w e : Nat), ¬ (w ≤ i ∧ e ≤ w * (i - w)) → nul q i w e = 0
 | 0, w, e, h => by
  unfold nul
  rw [if_neg]
  rintro ⟨rfl, rfl⟩
  exact h ⟨Nat.le_refl _, Nat.zero_le _⟩
 | i + 1, w, e, h => by
  unfold nul
  have h1 : (if 1 ≤ w then nul q i (w - 1) e * (1 - q i) else 0) = 0 := by
   by_cases hw : 1 ≤ w
   ·rw [if_pos hw, nul_zero q i (w - 1) e (fun ⟨a, b⟩ => h ⟨by omega, ?_⟩)]
    ·exact Rat.zero_mul _
    ·rw [show i - (w - 1) = i + 1 - w by omega] at b
     exact Nat.le_trans b (Nat.mul_le_mul_right _ (by omega))
   ·rw [if_neg hw]
  have h2 : (if w ≤ e then nul q i w (e - w) * q i else 0) = 0 := by
   by_cases hw : w ≤ e
   ·rw [if_pos hw, nul_zero q i w (e - w) (fun ⟨a, b⟩ => h ⟨by omega, ?_⟩)]
    ·exact Rat.zero_mul _
    ·rw [step_mul w i a]; omega
   ·rw [if_neg hw]
  rw [h1, h2]; grind
theorem nuW_zero (s f : Nat → Nat) : ∀ (i w e : Nat), ¬ (w ≤ i ∧ e ≤ w * (i - w)) → nuW s f i w e = 0
 | 0, w, e, h => by
  unfold nuW
  rw [if_neg]
  rintro ⟨rfl, rfl⟩
  exact h ⟨Nat.le_refl _, Nat.zero_le _⟩
 | i + 1, w, e, h => by
  unfold nuW
  have h1 : (if 1 ≤ w then nuW s f i (w - 1) e * f i else 0) = 0 := by
   by_cases hw : 1 ≤ w
   ·rw [if_pos hw, nuW_zero s f i (w - 1) e (fun ⟨a, b⟩ => h ⟨by omega, ?_⟩)]
    ·exact Nat.zero_mul _
    ·rw [show i - (w - 1) = i + 1 - w by omega] at b
     exact Nat.le_trans b (Nat.mul_le_mul_right _ (by omega))
   ·rw [if_neg hw]
  have h2 : (if w ≤ e then nuW s f i w (e - w) * s i else 0) = 0 := by
   by_cases hw : w ≤ e
   ·rw [if_pos hw, nuW_zero s f i w (e - w) (fun ⟨a, b⟩ => h ⟨by omega, ?_⟩)]
    ·exact Nat.zero_mul _
    ·rw [step_mul w i a]; omega
   ·rw [if_neg hw]
  rw [h1, h2]
theorem quarter (w i : Nat) (h : w ≤ i) : w * (i - w) ≤ i * i / 4 := by
 obtain ⟨d, rfl⟩ : ∃ d, i = w + d := ⟨i - w, by omega⟩
 rw [Nat.add_sub_cancel_left, Nat.le_div_iff_mul_le (by decide)]
 have h1 : w * d * 4 ≤ (w + d) * (w + d) := by
  rcases Nat.le_total w d with h | h
  ·obtain ⟨x, rfl⟩ : ∃ x, d = w + x := ⟨d - w, by omega⟩
   have : (w + (w + x)) * (w + (w + x)) = w * (w + x) * 4 + x * x := by grind
   omega
  ·obtain ⟨x, rfl⟩ : ∃ x, w = d + x := ⟨w - d, by omega⟩
   have : (d + x + d) * (d + x + d) = (d + x) * d * 4 + x * x := by grind
   omega
 exact h1
theorem quarter_mono {i n : Nat} (h : i ≤ n) : i * i / 4 ≤ n * n / 4 := Nat.div_le_div_right (Nat.mul_le_mul h h)
theorem nuW_in (s f : Nat → Nat) (i w e n : Nat) (h : nuW s f i w e ≠ 0) (hi : i < n) : w ≤ i ∧ e + w ≤ n * n / 4 := by
 have h1 : w ≤ i ∧ e ≤ w * (i - w) := Classical.byContradiction fun hh => h (nuW_zero s f i w e hh)
 refine ⟨h1.1, ?_⟩
 have h2 := step_mul w i h1.1
 have h3 := quarter w (i + 1) (by omega)
 have h4 := quarter_mono (show i + 1 ≤ n by omega)
 omega
theorem nuW_le {n : Nat} (s f d : Nat → Nat) (hd : ∀ i, i < n → s i + f i = d i) : ∀ (i : Nat), i ≤ n → ∀ (w e : Nat), nuW s f i w e ≤ prN d i
 | 0, _, w, e => by
  unfold nuW
  show _ ≤ 1
  split <;> omega
 | i + 1, hi, w, e => by
  unfold nuW
  have h1 := nuW_le s f d hd i (by omega) (w - 1) e
  have h2 := nuW_le s f d hd i (by omega) w (e - w)
  have a1 : (if 1 ≤ w then nuW s f i (w - 1) e * f i else 0) ≤ prN d i * f i := by
   split
   ·exact Nat.mul_le_mul_right _ h1
   ·exact Nat.zero_le _
  have a2 : (if w ≤ e then nuW s f i w (e - w) * s i else 0) ≤ prN d i * s i := by
   split
   ·exact Nat.mul_le_mul_right _ h2
   ·exact Nat.zero_le _
  show _ ≤ prN d i * d i
  rw [← hd i (by omega), Nat.mul_add]
  omega
theorem nu_cast (q : Nat → Rat) : ∀ (i : Nat), (∀ j, j < i → prb (q j) = true) → ∀ w e, ((nuW (nuQ q) (faQ q) i w e : Nat) : Rat) = nul q i w e * ((prN (deQ q) i : Nat) : Rat)
 | 0, _, w, e => by
  unfold nuW nul
  show _ = _ * ((1 : Nat) : Rat)
  split
  ·rw [Rat.one_mul]
  ·rw [show ((0 : Nat) : Rat) = 0 from rfl]; grind
 | i + 1, h, w, e => by
  have ih := nu_cast q i (fun j hj => h j (by omega))
  have hp := h i (by omega)
  have f1 := fail_castF (q i) hp
  have f2 := den_mul (q i) (prb_iffF.1 hp).1
  unfold nuW nul
  show _ = _ * ((prN (deQ q) i * deQ q i : Nat) : Rat)
  rw [natQ_add, natQ_mul]
  have c1 : (((if 1 ≤ w then nuW (nuQ q) (faQ q) i (w - 1) e * faQ q i else 0 : Nat)) : Rat) = (if 1 ≤ w then nul q i (w - 1) e * (1 - q i) else 0) * (((prN (deQ q) i : Nat) : Rat) * ((deQ q i : Nat) : Rat)) := by
   split
   ·rw [natQ_mul, ih]
    have : ((faQ q i : Nat) : Rat) = (1 - q i) * ((deQ q i : Nat) : Rat) := f1
    rw [this]; grind
   ·rw [show ((0 : Nat) : Rat) = 0 from rfl]; grind
  have c2 : (((if w ≤ e then nuW (nuQ q) (faQ q) i w (e - w) * nuQ q i else 0 : Nat)) : Rat) = (if w ≤ e then nul q i w (e - w) * q i else 0) * (((prN (deQ q) i : Nat) : Rat) * ((deQ q i : Nat) : Rat)) := by
   split
   ·rw [natQ_mul, ih]
    have : ((nuQ q i : Nat) : Rat) = q i * ((deQ q i : Nat) : Rat) := f2
    rw [this]; grind
   ·rw [show ((0 : Nat) : Rat) = 0 from rfl]; grind
  rw [c1, c2]; grind
theorem nul_nonneg (q : Nat → Rat) : ∀ (i : Nat), (∀ j, j < i → 0 ≤ q j ∧ q j ≤ 1) → ∀ w e, 0 ≤ nul q i w e
 | 0, _, w, e => by unfold nul; split <;> decide
 | i + 1, h, w, e => by
  have ih := nul_nonneg q i (fun j hj => h j (by omega))
  have hp := h i (by omega)
  unfold nul
  have a1 : 0 ≤ (if 1 ≤ w then nul q i (w - 1) e * (1 - q i) else 0) := by
   split
   ·exact Rat.mul_nonneg (ih _ _) (by grind)
   ·exact Rat.le_refl
  have a2 : 0 ≤ (if w ≤ e then nul q i w (e - w) * q i else 0) := by
   split
   ·exact Rat.mul_nonneg (ih _ _) hp.1
   ·exact Rat.le_refl
  exact Rat.add_nonneg a1 a2
def nlQ (q : Nat → Rat) (n e : Nat) : Rat := sQ (fun w => nul q n w e) (n + 1)
def nlN (q : Nat → Rat) (n e : Nat) : Nat := sN (fun w => nuW (nuQ q) (faQ q) n w e) (n + 1)
theorem nl_frq (q : Nat → Rat) (n e : Nat) (h : ∀ j, j < n → prb (q j) = true) : frq (nlN q n e) (prN (deQ q) n) = nlQ q n e := by
 rw [frq_div]
 unfold nlN nlQ
 rw [sN_sQ, sQ_congr (g := fun w => nul q n w e * ((prN (deQ q) n : Nat) : Rat)) (fun w _ => nu_cast q n h w e), sQ_mulr]
 have := natQ_ne (prN_posF (d := deQ q) (n := n) (fun i _ => (q i).den_pos))
 grind
def nuP (s f : Nat → Nat) (i w e r c : Nat) : Nat :=
 (if 1 ≤ r ∧ (r - 1 < w ∨ (r - 1 = w ∧ c < e)) then nuW s f i (r - 1) c * f i else 0) + (if r ≤ c ∧ (r < w ∨ (r = w ∧ c - r < e)) then nuW s f i r (c - r) * s i else 0)
theorem nuP_0 (s f : Nat → Nat) (i r c : Nat) : nuP s f i 0 0 r c = 0 := by
 unfold nuP
 rw [if_neg (by omega), if_neg (by omega)]
theorem nuP_row (s f : Nat → Nat) (i w r : Nat) {c m : Nat} (h : c < m) : nuP s f i w m r c = nuP s f i (w + 1) 0 r c := by
 unfold nuP
 have h1 : (1 ≤ r ∧ (r - 1 < w ∨ (r - 1 = w ∧ c < m))) ↔ (1 ≤ r ∧ (r - 1 < w + 1 ∨ (r - 1 = w + 1 ∧ c < 0))) := by omega
 have h2 : (r ≤ c ∧ (r < w ∨ (r = w ∧ c - r < m))) ↔ (r ≤ c ∧ (r < w + 1 ∨ (r = w + 1 ∧ c - r < 0))) := by omega
 simp only [h1, h2]
theorem nuP_end (s f : Nat → Nat) (i r c : Nat) : nuP s f i (i + 1) 0 r c = nuW s f (i + 1) r c := by
 rw [show nuW s f (i + 1) r c = (if 1 ≤ r then nuW s f i (r - 1) c * f i else 0) + (if r ≤ c then nuW s f i r (c - r) * s i else 0) from by rw [nuW]]
 unfold nuP
 congr 1
 ·by_cases h1 : 1 ≤ r
  ·by_cases h2 : r - 1 < i + 1
   ·rw [if_pos ⟨h1, .inl h2⟩, if_pos h1]
   ·rw [if_neg (by omega), if_pos h1, nuW_zero s f i (r - 1) c (by omega), Nat.zero_mul]
  ·rw [if_neg (by omega), if_neg h1]
 ·by_cases h1 : r ≤ c
  ·by_cases h2 : r < i + 1
   ·rw [if_pos ⟨h1, .inl h2⟩, if_pos h1]
   ·rw [if_neg (by omega), if_pos h1, nuW_zero s f i r (c - r) (by omega), Nat.zero_mul]
  ·rw [if_neg (by omega), if_neg h1]
def nuH (s f : Nat → Nat) (i w e r c : Nat) : Nat := nuP s f i w e r c + (if r = w + 1 ∧ c = e then nuW s f i w e * f i else 0)
theorem nuP_step (s f : Nat → Nat) (i w e r c : Nat) : nuP s f i w (e + 1) r c = nuH s f i w e r c + (if r = w ∧ c = e + w then nuW s f i w e * s i else 0) := by
 unfold nuH nuP
 have a1 : (if 1 ≤ r ∧ (r - 1 < w ∨ (r - 1 = w ∧ c < e + 1)) then nuW s f i (r - 1) c * f i else 0) = (if 1 ≤ r ∧ (r - 1 < w ∨ (r - 1 = w ∧ c < e)) then nuW s f i (r - 1) c * f i else 0) + (if r = w + 1 ∧ c = e then nuW s f i w e * f i else 0) := by
  by_cases h : r = w + 1 ∧ c = e
  ·obtain ⟨rfl, rfl⟩ := h
   rw [if_pos (by omega), if_neg (by omega), if_pos ⟨rfl, rfl⟩, Nat.add_sub_cancel, Nat.zero_add]
  ·rw [if_neg h]
   have h1 : (1 ≤ r ∧ (r - 1 < w ∨ (r - 1 = w ∧ c < e + 1))) ↔ (1 ≤ r ∧ (r - 1 < w ∨ (r - 1 = w ∧ c < e))) := by omega
   simp only [h1, Nat.add_zero]
 have a2 : (if r ≤ c ∧ (r < w ∨ (r = w ∧ c - r < e + 1)) then nuW s f i r (c - r) * s i else 0) = (if r ≤ c ∧ (r < w ∨ (r = w ∧ c - r < e)) then nuW s f i r (c - r) * s i else 0) + (if r = w ∧ c = e + w then nuW s f i w e * s i else 0) := by
  by_cases h : r = w ∧ c = e + w
  ·obtain ⟨rfl, rfl⟩ := h
   rw [if_pos (by omega), if_neg (by omega), if_pos ⟨rfl, rfl⟩, Nat.add_sub_cancel, Nat.zero_add]
  ·rw [if_neg h]
   have h1 : (r ≤ c ∧ (r < w ∨ (r = w ∧ c - r < e + 1))) ↔ (r ≤ c ∧ (r < w ∨ (r = w ∧ c - r < e))) := by omega
   simp only [h1, Nat.add_zero]
 rw [a1, a2]; omega
theorem nuP_le (s f : Nat → Nat) (i w e r c : Nat) : nuP s f i w e r c ≤ nuW s f (i + 1) r c := by
 rw [show nuW s f (i + 1) r c = (if 1 ≤ r then nuW s f i (r - 1) c * f i else 0) + (if r ≤ c then nuW s f i r (c - r) * s i else 0) from by rw [nuW]]
 unfold nuP
 refine Nat.add_le_add ?_ ?_
 ·by_cases h1 : 1 ≤ r ∧ (r - 1 < w ∨ (r - 1 = w ∧ c < e))
  ·rw [if_pos h1, if_pos h1.1]; exact Nat.le_refl _
  ·rw [if_neg h1]; exact Nat.zero_le _
 ·by_cases h1 : r ≤ c ∧ (r < w ∨ (r = w ∧ c - r < e))
  ·rw [if_pos h1, if_pos h1.1]; exact Nat.le_refl _
  ·rw [if_neg h1]; exact Nat.zero_le _
theorem nuH_le (s f : Nat → Nat) (i w e r c : Nat) : nuH s f i w e r c ≤ nuW s f (i + 1) r c := by
 have h1 := nuP_step s f i w e r c
 have h2 := nuP_le s f i w (e + 1) r c
 omega
theorem nuP_skip (s f : Nat → Nat) (i w e : Nat) (h : nuW s f i w e = 0) (r c : Nat) : nuP s f i w (e + 1) r c = nuP s f i w e r c := by
 rw [nuP_step]; unfold nuH; rw [h]; simp
end Go.Proofs.YtjobopafcgnljaaGreat
