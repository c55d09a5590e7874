/- Plain laws of the total of independent counts in strata: no program in sight; no condition. -/
import Derived.Test.YtmecipfdelgfbaaDoorHyP
namespace Go.Proofs.YtmecipfdelgfbaaDoor

/-! ### The total of independent counts -/
/-- the greatest total -/
def wdS (l : Nat → Nat) : Nat → Nat
  | 0 => 0
  | n + 1 => wdS l n + (l n - 1)
/-- the distribution of the total -/
def nuS (l : Nat → Nat) (h : Nat → Nat → Rat) : Nat → Nat → Rat
  | 0, _ => 1
  | n + 1, k => cnv (nuS l h n) (wdS l n + 1) (h n) (l n) k
/-- the mean of g of the total -/
def smS (l : Nat → Nat) (h : Nat → Nat → Rat) : Nat → (Nat → Rat) → Rat
  | 0, g => g 0
  | n + 1, g => sQ (fun j => h n j * smS l h n (fun y => g (y + j))) (l n)

theorem smS_congr {l l' : Nat → Nat} {h h' : Nat → Nat → Rat} : ∀ {n : Nat} {g g' : Nat → Rat}, (∀ i, i < n → l i = l' i) → (∀ i, i < n → ∀ j, j < l i → h i j = h' i j) → (∀ y, y ≤ wdS l n → g y = g' y) → smS l h n g = smS l' h' n g'
  | 0, g, g', _, _, e => e 0 (Nat.le_refl _)
  | n + 1, g, g', hl, hh, e => by
    simp only [smS]
    rw [← hl n (by omega)]
    refine sQ_congr (fun j hj => ?_)
    rw [hh n (by omega) j hj, smS_congr (n := n) (fun i hi => hl i (by omega)) (fun i hi => hh i (by omega)) (fun y hy => e (y + j) (by simp only [wdS]; omega))]
theorem nuS_sum (l : Nat → Nat) (h : Nat → Nat → Rat) : ∀ (n : Nat) (g : Nat → Rat), (∀ i, i < n → 0 < l i) → sQ (fun i => g i * nuS l h n i) (wdS l n + 1) = smS l h n g
  | 0, g, _ => by simp only [wdS, smS, nuS, sQ]; grind
  | n + 1, g, hl => by
    have hp := hl n (by omega)
    have e1 : (fun i => g i * nuS l h (n + 1) i) = (fun k => g k * cnv (nuS l h n) (wdS l n + 1) (h n) (l n) k) := rfl
    rw [e1, cnv_sum _ _ _ _ _ _ (by simp only [wdS]; omega), sQ_swap]
    simp only [smS]
    refine sQ_congr (fun j hj => ?_)
    rw [← nuS_sum l h n (fun y => g (y + j)) (fun i hi => hl i (by omega)), ← sQ_mul]
    exact sQ_congr (fun i hi => by grind)
theorem smS_front (l : Nat → Nat) (h : Nat → Nat → Rat) : ∀ (n : Nat) (g : Nat → Rat), smS l h (n + 1) g = sQ (fun j => h 0 j * smS (fun i => l (i + 1)) (fun i => h (i + 1)) n (fun y => g (y + j))) (l 0)
  | 0, g => rfl
  | n + 1, g => by
    rw [show smS l h (n + 1 + 1) g = sQ (fun j => h (n + 1) j * smS l h (n + 1) (fun y => g (y + j))) (l (n + 1)) from rfl]
    have e1 : ∀ j, h (n + 1) j * smS l h (n + 1) (fun y => g (y + j)) = sQ (fun i => h (n + 1) j * (h 0 i * smS (fun i => l (i + 1)) (fun i => h (i + 1)) n (fun y => g (y + i + j)))) (l 0) := fun j => by rw [smS_front l h n, ← sQ_mul]
    rw [sQ_congr (fun j _ => e1 j), sQ_swap]
    refine sQ_congr (fun i _ => ?_)
    rw [show smS (fun i => l (i + 1)) (fun i => h (i + 1)) (n + 1) (fun y => g (y + i)) = sQ (fun j => h (n + 1) j * smS (fun i => l (i + 1)) (fun i => h (i + 1)) n (fun y => g (y + j + i))) (l (n + 1)) from rfl, ← sQ_mul]
    refine sQ_congr (fun j _ => ?_)
    rw [show (fun y => g (y + i + j)) = (fun y => g (y + j + i)) from funext fun y => by rw [show y + i + j = y + j + i by omega]]
    grind
theorem smS_rev : ∀ (n : Nat) (l : Nat → Nat) (h : Nat → Nat → Rat) (g : Nat → Rat), smS (fun i => l (n - 1 - i)) (fun i => h (n - 1 - i)) n g = smS l h n g
  | 0, _, _, _ => rfl
  | n + 1, l, h, g => by
    rw [smS_front l h n g]
    rw [show smS (fun i => l (n + 1 - 1 - i)) (fun i => h (n + 1 - 1 - i)) (n + 1) g = sQ (fun j => h (n + 1 - 1 - n) j * smS (fun i => l (n + 1 - 1 - i)) (fun i => h (n + 1 - 1 - i)) n (fun y => g (y + j))) (l (n + 1 - 1 - n)) from rfl]
    rw [show n + 1 - 1 - n = 0 by omega]
    refine sQ_congr (fun j _ => ?_)
    rw [← smS_rev n (fun i => l (i + 1)) (fun i => h (i + 1)) (fun y => g (y + j))]
    rw [smS_congr (fun i hi => by rw [show n + 1 - 1 - i = n - 1 - i + 1 by omega]) (fun i hi j _ => by rw [show n + 1 - 1 - i = n - 1 - i + 1 by omega]) (fun y _ => rfl)]
theorem wdS_rev : ∀ (n : Nat) (l : Nat → Nat), wdS (fun i => l (n - 1 - i)) n = wdS l n := by
  have front : ∀ (n : Nat) (l : Nat → Nat), wdS l (n + 1) = wdS (fun i => l (i + 1)) n + (l 0 - 1) := by
    intro n
    induction n with
    | zero => intro l; rfl
    | succ n ih => intro l; rw [show wdS l (n + 1 + 1) = wdS l (n + 1) + (l (n + 1) - 1) from rfl, ih l]; simp only [wdS]; omega
  have cg : ∀ (n : Nat) (l l' : Nat → Nat), (∀ i, i < n → l i = l' i) → wdS l n = wdS l' n := by
    intro n
    induction n with
    | zero => intro _ _ _; rfl
    | succ n ih => intro l l' e; simp only [wdS]; rw [ih l l' (fun i hi => e i (by omega)), e n (by omega)]
  intro n
  induction n with
  | zero => intro l; rfl
  | succ n ih =>
    intro l
    rw [front n l, ← ih (fun i => l (i + 1))]
    simp only [wdS]
    rw [show n + 1 - 1 - n = 0 by omega, cg n (fun i => l (n + 1 - 1 - i)) (fun i => l (n - 1 - i + 1)) (fun i hi => by rw [show n + 1 - 1 - i = n - 1 - i + 1 by omega])]
theorem sQ_pick (f : Nat → Rat) (i : Nat) : ∀ n, sQ (fun y => (if y = i then 1 else 0) * f y) n = if i < n then f i else 0
  | 0 => rfl
  | n + 1 => by
    simp only [sQ]
    rw [sQ_pick f i n]
    by_cases h : n = i
    · subst h; rw [if_neg (by omega), if_pos rfl, if_pos (by omega)]; grind
    · by_cases h2 : i < n
      · rw [if_pos h2, if_neg h, if_pos (by omega)]; grind
      · rw [if_neg h2, if_neg h, if_neg (by omega)]; grind
theorem nuS_ext (l : Nat → Nat) (h : Nat → Nat → Rat) (n i : Nat) (hl : ∀ i, i < n → 0 < l i) : extQ (nuS l h n) (wdS l n + 1) i = smS l h n (fun y => if y = i then 1 else 0) := by
  rw [← nuS_sum l h n _ hl, sQ_pick]
  rfl
/-- the order of the strata is of no account -/
theorem nuS_rev (l : Nat → Nat) (h : Nat → Nat → Rat) (n i : Nat) (hl : ∀ i, i < n → 0 < l i) (hi : i < wdS l n + 1) : nuS (fun i => l (n - 1 - i)) (fun i => h (n - 1 - i)) n i = nuS l h n i := by
  have e1 := nuS_ext (fun i => l (n - 1 - i)) (fun i => h (n - 1 - i)) n i (fun j hj => hl (n - 1 - j) (by omega))
  have e2 := nuS_ext l h n i hl
  rw [smS_rev, ← e2, wdS_rev] at e1
  unfold extQ at e1
  rw [if_pos hi, if_pos hi] at e1
  exact e1
theorem ext_sum (f F : Nat → Rat) (l M : Nat) (h : l ≤ M) : sQ (fun j => f j * F j) l = sQ (fun j => extQ f l j * F j) M := by
  rw [sQ_ext' h (fun i a b => by rw [show extQ f l i = 0 from if_neg (by omega)]; grind)]
  exact sQ_congr (fun i hi => by rw [show extQ f l i = f i from if_pos hi])
def kkS (k : Nat → Nat) : Nat → Nat
  | 0 => 0
  | n + 1 => kkS k n + k n
theorem wdS_le {l k : Nat → Nat} : ∀ {n : Nat}, (∀ i, i < n → l i ≤ k i + 1) → wdS l n ≤ kkS k n
  | 0, _ => Nat.le_refl _
  | n + 1, h => by
    have := wdS_le (n := n) (fun i hi => h i (by omega))
    have := h n (by omega)
    simp only [wdS, kkS]; omega
/-- the strata turned over -/
theorem smS_flip {l l' k : Nat → Nat} {h h' : Nat → Nat → Rat} : ∀ {n : Nat} (g : Nat → Rat), (∀ i, i < n → l i ≤ k i + 1) → (∀ i, i < n → l' i ≤ k i + 1) → (∀ i, i < n → ∀ j, j ≤ k i → extQ (h i) (l i) j = extQ (h' i) (l' i) (k i - j)) → smS l' h' n g = smS l h n (fun y => g (kkS k n - y))
  | 0, g, _, _, _ => rfl
  | n + 1, g, h1, h2, h3 => by
    have q1 := h1 n (by omega)
    have q2 := h2 n (by omega)
    have q3 := h3 n (by omega)
    have w1 := wdS_le (n := n) (fun i hi => h1 i (by omega))
    simp only [smS]
    rw [ext_sum _ _ _ _ q1, ext_sum _ _ _ _ q2, ← sQ_rev (fun j => extQ (h' n) (l' n) j * smS l' h' n (fun y => g (y + j)))]
    refine sQ_congr (fun j hj => ?_)
    rw [show k n + 1 - 1 - j = k n - j by omega, ← q3 j (by omega), smS_flip (n := n) _ (fun i hi => h1 i (by omega)) (fun i hi => h2 i (by omega)) (fun i hi => h3 i (by omega))]
    rw [smS_congr (fun _ _ => rfl) (fun _ _ _ _ => rfl) (fun y hy => show g (kkS k n - y + (k n - j)) = g (kkS k (n + 1) - (y + j)) by rw [show kkS k n - y + (k n - j) = kkS k (n + 1) - (y + j) by simp only [kkS]; omega])]
theorem nuS_flip {l l' k : Nat → Nat} {h h' : Nat → Nat → Rat} {n : Nat} (hl : ∀ i, i < n → 0 < l i) (hl' : ∀ i, i < n → 0 < l' i) (h1 : ∀ i, i < n → l i ≤ k i + 1) (h2 : ∀ i, i < n → l' i ≤ k i + 1) (h3 : ∀ i, i < n → ∀ j, j ≤ k i → extQ (h i) (l i) j = extQ (h' i) (l' i) (k i - j)) (i : Nat) (hi : i ≤ kkS k n) :
    extQ (nuS l h n) (wdS l n + 1) i = extQ (nuS l' h' n) (wdS l' n + 1) (kkS k n - i) := by
  rw [nuS_ext l h n i hl, nuS_ext l' h' n _ hl', smS_flip _ h1 h2 h3]
  refine smS_congr (fun _ _ => rfl) (fun _ _ _ _ => rfl) (fun y hy => ?_)
  have := wdS_le h1
  by_cases e : y = i
  · rw [if_pos e, if_pos (by omega)]
  · rw [if_neg e, if_neg (by omega)]
/-- the distribution of the total is one -/
theorem nuS_nonneg {l : Nat → Nat} {h : Nat → Nat → Rat} : ∀ {n : Nat}, (∀ i, i < n → ∀ j, j < l i → 0 ≤ h i j) → ∀ k, 0 ≤ nuS l h n k
  | 0, _, _ => by simp only [nuS]; decide
  | n + 1, hh, k => by
    simp only [nuS]
    exact cnv_nonneg (fun i _ => nuS_nonneg (n := n) (fun i hi => hh i (by omega)) i) (hh n (by omega)) k
theorem smS_one {l : Nat → Nat} {h : Nat → Nat → Rat} : ∀ {n : Nat}, (∀ i, i < n → sQ (h i) (l i) = 1) → smS l h n (fun _ => 1) = 1
  | 0, _ => rfl
  | n + 1, hh => by
    simp only [smS]
    rw [smS_one (n := n) (fun i hi => hh i (by omega)), ← hh n (by omega)]
    exact sQ_congr (fun j _ => by grind)
theorem nuS_valid {l : Nat → Nat} {h : Nat → Nat → Rat} {n : Nat} (hv : ∀ i, i < n → valid (h i) (l i) = true) (hs : wdS l n + 1 ≤ 121) : valid (nuS l h n) (wdS l n + 1) = true := by
  refine valid_iff.2 ⟨by omega, hs, fun i _ => nuS_nonneg (fun i hi => (valid_iff.1 (hv i hi)).2.2.1) i, ?_⟩
  rw [← smS_one (n := n) (fun i hi => (valid_iff.1 (hv i hi)).2.2.2), ← nuS_sum l h n _ (fun i hi => (valid_iff.1 (hv i hi)).1)]
  exact sQ_congr (fun i _ => by grind)
/-! ### Sizes -/
/-- q times D is a natural number -/
def isN (D : Nat) (q : Rat) : Prop := ∃ a : Nat, (a : Rat) = q * (D : Rat)
theorem isN_mul {D E : Nat} {p q : Rat} (h : isN D p) (h' : isN E q) : isN (D * E) (p * q) := by
  obtain ⟨a, ha⟩ := h; obtain ⟨b, hb⟩ := h'
  exact ⟨a * b, by rw [natQ_mul, natQ_mul, ha, hb]; grind⟩
theorem isN_zero (D : Nat) : isN D 0 := ⟨0, by simp⟩
theorem isN_sum {D : Nat} {f : Nat → Rat} : ∀ {n : Nat}, (∀ i, i < n → isN D (f i)) → isN D (sQ f n)
  | 0, _ => isN_zero D
  | n + 1, h => by
    obtain ⟨a, ha⟩ := isN_sum (n := n) (fun i hi => h i (by omega))
    obtain ⟨b, hb⟩ := h n (by omega)
    refine ⟨a + b, ?_⟩
    simp only [sQ]
    rw [natQ_add, ha, hb]; grind
def ddS (d : Nat → Nat) : Nat → Nat
  | 0 => 1
  | n + 1 => ddS d n * d n
theorem nuS_isN {l d : Nat → Nat} {h : Nat → Nat → Rat} : ∀ {n : Nat}, (∀ i, i < n → ∀ j, j < l i → isN (d i) (h i j)) → ∀ k, isN (ddS d n) (nuS l h n k)
  | 0, _, _ => ⟨1, by simp [nuS, ddS]⟩
  | n + 1, hh, k => by
    simp only [nuS, ddS]
    unfold cnv
    refine isN_sum (fun i hi => ?_)
    unfold cnvT
    split
    · rename_i hc; exact isN_mul (nuS_isN (n := n) (fun i hi => hh i (by omega)) i) (hh n (by omega) _ hc.2)
    · exact isN_zero _
theorem isN_len {D : Nat} {q : Rat} (hD : 0 < D) (h : isN D q) (_h0 : 0 ≤ q) (h1 : q ≤ 1) (L : Nat) (hL : nlen D ≤ L) (hL1 : 1 ≤ L) : rsz q ≤ L := by
  obtain ⟨a, ha⟩ := h
  have hd := natQ_ne hD
  have e : frq a D = q := by rw [frq_div, ha]; grind
  have hle : a ≤ D := by
    have hdp : (0 : Rat) < (D : Rat) := by exact_mod_cast hD
    have : (a : Rat) ≤ (D : Rat) := by rw [ha]; have := Rat.mul_le_mul_of_nonneg_right h1 (Rat.le_of_lt hdp); grind
    exact_mod_cast this
  rw [← e]
  exact frq_len _ _ _ hL1 (Nat.le_trans (nlen_mono hle) hL) hL
theorem ddS_le {d : Nat → Nat} {b : Nat} : ∀ {n : Nat}, (∀ i, i < n → d i ≤ 2 ^ b) → ddS d n ≤ 2 ^ (b * n)
  | 0, _ => by simp [ddS]
  | n + 1, h => by
    simp only [ddS]
    rw [Nat.mul_add, Nat.pow_add, Nat.mul_one]
    exact Nat.mul_le_mul (ddS_le (n := n) (fun i hi => h i (by omega))) (h n (by omega))
theorem ddS_pos {d : Nat → Nat} : ∀ {n : Nat}, (∀ i, i < n → 0 < d i) → 0 < ddS d n
  | 0, _ => by simp [ddS]
  | n + 1, h => by
    simp only [ddS]
    exact Nat.mul_pos (ddS_pos (n := n) (fun i hi => h i (by omega))) (h n (by omega))
theorem nuS_le1 {l : Nat → Nat} {h : Nat → Nat → Rat} {n : Nat} (hv : valid (nuS l h n) (wdS l n + 1) = true) (i : Nat) (hi : i < wdS l n + 1) : nuS l h n i ≤ 1 := by
  obtain ⟨_, _, h0, h1⟩ := valid_iff.1 hv
  rw [← h1]
  exact sQ_one_le h0 hi
theorem lt_BL (a L : Nat) (h : a < 32 * L) : 2 ^ a < B ^ L := by
  rw [show B = 2 ^ 32 by rfl, ← Nat.pow_mul]
  exact Nat.pow_lt_pow_right (by omega) h
theorem hyQ_isN (t m d i : Nat) (hd : d ≤ t) : isN (chs t d) (hyQ t m d i) := by
  refine ⟨hyp t m d i, ?_⟩
  unfold hyQ
  rw [frq_div]
  have := natQ_ne (chs_pos hd)
  grind

/-! ### Tables -/
/-- persons of a table, the right ones, those of the reference group -/
def ntS (t : Nat → Nat → Nat) (i : Nat) : Nat := t i 0 + t i 1 + t i 2 + t i 3
def ktS (t : Nat → Nat → Nat) (i : Nat) : Nat := t i 0 + t i 2
def mtS (t : Nat → Nat → Nat) (i : Nat) : Nat := t i 0 + t i 1
def ltS (t : Nat → Nat → Nat) (i : Nat) : Nat := min (ktS t i) (mtS t i) + 1
def htS (t : Nat → Nat → Nat) (i : Nat) : Nat → Rat := hyQ (ntS t i) (ktS t i) (mtS t i)
/-- the distribution of the right ones of the reference group -/
def nulS (t : Nat → Nat → Nat) (n : Nat) : Nat → Rat := nuS (ltS t) (htS t) n
def supS (t : Nat → Nat → Nat) (n : Nat) : Nat := wdS (ltS t) n + 1
def rgtS (t : Nat → Nat → Nat) : Nat → Nat := kkS (fun i => t i 0)
/-- counts are at most 30 -/
def cntS (t : Nat → Nat → Nat) (n : Nat) : Prop := ∀ i, i < n → ∀ j, j < 4 → t i j ≤ 30
/-- the p-value -/
def tstS (t : Nat → Nat → Nat) (n : Nat) : Rat := bothQ (nulS t n) (supS t n) (rgtS t n)
def onmS (t : Nat → Nat → Nat) (i : Nat) : Rat := frq (t i 0 * t i 3) (ntS t i)
def odnS (t : Nat → Nat → Nat) (i : Nat) : Rat := frq (t i 1 * t i 2) (ntS t i)

section
variable {t : Nat → Nat → Nat} {n : Nat} (hc : cntS t n)
include hc
theorem cntS_n (i : Nat) (hi : i < n) : ntS t i ≤ 120 := by
  have h0 := hc i hi 0 (by omega); have h1 := hc i hi 1 (by omega); have h2 := hc i hi 2 (by omega); have h3 := hc i hi 3 (by omega)
  unfold ntS; omega
theorem htS_valid (i : Nat) (hi : i < n) : valid (htS t i) (ltS t i) = true :=
  hyQ_valid _ _ _ (cntS_n hc i hi) (by unfold ktS ntS; omega) (by unfold mtS ntS; omega)
theorem nulS_valid (hs : supS t n ≤ 121) : valid (nulS t n) (supS t n) = true := nuS_valid (htS_valid hc) hs
theorem nulS_len (hn : n ≤ 20) (hs : supS t n ≤ 121) (i : Nat) (hi : i < supS t n) : rsz (nulS t n i) ≤ 76 := by
  have hv := nulS_valid hc hs
  have hd : ddS (fun i => chs (ntS t i) (mtS t i)) n ≤ 2 ^ (120 * n) := ddS_le (fun i hi => Nat.le_trans (chs_le _ _) (Nat.pow_le_pow_right (by omega) (cntS_n hc i hi)))
  refine isN_len (D := ddS (fun i => chs (ntS t i) (mtS t i)) n) (ddS_pos (fun i hi => chs_pos (by unfold mtS ntS; omega))) (nuS_isN (fun i hi j _ => hyQ_isN _ _ _ _ (by unfold mtS ntS; omega)) i) (nuS_nonneg (fun i hi => (valid_iff.1 (htS_valid hc i hi)).2.2.1) i) (nuS_le1 hv i hi) 76 ?_ (by omega)
  exact nlen_le (Nat.lt_of_le_of_lt hd (lt_BL _ 76 (by omega)))
end
theorem rgt_lt {t : Nat → Nat → Nat} {n : Nat} : rgtS t n < supS t n := by
  unfold rgtS supS
  induction n with
  | zero => simp [kkS]
  | succ n ih =>
    have e : t n 0 ≤ ltS t n - 1 := by unfold ltS ktS mtS; omega
    simp only [kkS, wdS]; omega
theorem sQ_rsz {f : Nat → Rat} : ∀ {n : Nat}, (∀ i, i < n → rsz (f i) ≤ 2) → rsz (sQ f n) ≤ 3 * n + 1
  | 0, _ => by
    have : rsz (0 : Rat) ≤ 1 := by unfold rsz; exact Nat.max_le.2 ⟨nlen_small (by decide), nlen_small (by decide)⟩
    simp only [sQ]; omega
  | n + 1, h => by
    simp only [sQ]
    have h1 := sQ_rsz (n := n) (fun i hi => h i (by omega))
    have h2 := h n (by omega)
    have h3 := rsz_addF (sQ f n) (f n)
    omega

end Go.Proofs.YtmecipfdelgfbaaDoor
