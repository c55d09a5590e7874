/- Plain laws of ExposureOrder: the counts do not depend on the order. No condition. -/
import Derived.Test.YtmljfaplohbjcaaRecP
namespace Go.Proofs.Ytmljfaplohbjcaa
open Go

def smI (g : Nat → Int) : Nat → Int
  | 0 => 0
  | k + 1 => smI g k + g k
theorem smI_first (g : Nat → Int) : ∀ n, smI g (n + 1) = g 0 + smI (fun i => g (i + 1)) n
  | 0 => by simp [smI]
  | n + 1 => by rw [smI, smI_first g n]; simp only [smI]; omega
theorem smI_congr {g h : Nat → Int} : ∀ n, (∀ i, i < n → g i = h i) → smI g n = smI h n
  | 0, _ => rfl
  | n + 1, e => by simp only [smI]; rw [smI_congr n (fun i hi => e i (by omega)), e n (by omega)]
theorem smI_rev : ∀ (n : Nat) (g : Nat → Int), smI (fun i => g (n - 1 - i)) n = smI g n
  | 0, _ => rfl
  | n + 1, g => by
    have h1 : smI (fun i => g (n + 1 - 1 - i)) n = smI (fun i => g (i + 1)) n := by
      rw [← smI_rev n (fun i => g (i + 1))]
      exact smI_congr n fun i hi => by rw [show n + 1 - 1 - i = n - 1 - i + 1 by omega]
    rw [smI_first g n, smI, h1, show n + 1 - 1 - n = 0 by omega]; omega
def itg (it ct : Nat → Int) (x : Int) (i : Nat) : Int := if it i = x then lim (ct i) else 0
theorem itg_nonneg (it ct : Nat → Int) (x : Int) (i : Nat) : 0 ≤ itg it ct x i := by
  have := lim_bd (ct i)
  unfold itg; split <;> omega
theorem smI_nonneg (it ct : Nat → Int) (x : Int) : ∀ n, 0 ≤ smI (itg it ct x) n
  | 0 => Int.le_refl _
  | n + 1 => by
    have := smI_nonneg it ct x n
    have := itg_nonneg it ct x n
    simp only [smI]; omega
theorem cntN_sm (it ct : Nat → Int) (x : Int) : ∀ n, cntN it ct x n = min 1000000 (smI (itg it ct x) n)
  | 0 => by simp only [cntN, smI]; omega
  | n + 1 => by
    have h1 := smI_nonneg it ct x n
    have h2 := lim_bd (ct n)
    have ih := cntN_sm it ct x n
    simp only [cntN, smI]
    by_cases e : it n = x
    · rw [if_pos e, ih, show itg it ct x n = lim (ct n) by simp [itg, e]]
      unfold lim at *
      omega
    · rw [if_neg e, ih, show itg it ct x n = 0 by simp [itg, e]]; omega
theorem cntN_rev (it ct : Nat → Int) (x : Int) (n : Nat) : cntN (fun i => it (n - 1 - i)) (fun i => ct (n - 1 - i)) x n = cntN it ct x n := by
  rw [cntN_sm, cntN_sm]
  have : smI (itg (fun i => it (n - 1 - i)) (fun i => ct (n - 1 - i)) x) n = smI (itg it ct x) n := smI_rev n (itg it ct x)
  rw [this]
theorem cntN_one (it ct : Nat → Int) (x : Int) (c : Int) : ∀ n, (∀ i j, i < j → j < n → it i ≠ it j) → (∃ i, i < n ∧ it i = x ∧ ct i = c) → cntN it ct x n = lim c
  | 0, _, ⟨i, hi, _⟩ => by omega
  | n + 1, hd, ⟨i, hi, hx, hc⟩ => by
    have h2 := lim_bd c
    have hzero : ∀ k, k ≤ n + 1 → (∀ j, j < k → it j ≠ x) → cntN it ct x k = 0 := by
      intro k
      induction k with
      | zero => intro _ _; rfl
      | succ k ih => intro hk h; rw [cntN, if_neg (h k (by omega))]; exact ih (by omega) fun j hj => h j (by omega)
    by_cases e : i = n
    · subst e
      rw [cntN, if_pos hx, hzero i (by omega) fun j hj h => hd j i hj (by omega) (h.trans hx.symm), hc]
      unfold lim at *
      omega
    · have hn : it n ≠ x := fun h => hd i n (by omega) (by omega) (hx.trans h.symm)
      rw [cntN, if_neg hn]
      exact cntN_one it ct x c n (fun i j h1 h2 => hd i j h1 (by omega)) ⟨i, by omega, hx, hc⟩
theorem hasB_rev (z : Nat → Int) (m : Nat) (x : Int) : hasB (fun i => z (m - 1 - i)) m x = hasB z m x := by
  have h : hasB (fun i => z (m - 1 - i)) m x = true ↔ hasB z m x = true := by
    rw [hasB_iff, hasB_iff]
    exact ⟨fun ⟨i, hi, e⟩ => ⟨m - 1 - i, by omega, e⟩, fun ⟨i, hi, e⟩ => ⟨m - 1 - i, by omega, by simpa [show m - 1 - (m - 1 - i) = i by omega] using e⟩⟩
  cases e1 : hasB (fun i => z (m - 1 - i)) m x <;> cases e2 : hasB z m x <;> simp_all
theorem NoD_rev (z : Nat → Int) (m : Nat) : NoD (fun i => z (m - 1 - i)) m ↔ NoD z m := by
  constructor
  · intro h i j hij hj e
    refine h (m - 1 - j) (m - 1 - i) (by omega) (by omega) ?_
    simp only [show m - 1 - (m - 1 - j) = j by omega, show m - 1 - (m - 1 - i) = i by omega]
    exact e.symm
  · intro h i j hij hj e
    exact h (m - 1 - j) (m - 1 - i) (by omega) (by omega) e.symm
theorem InR_rev (z : Nat → Int) (m : Nat) : InR (fun i => z (m - 1 - i)) m ↔ InR z m := by
  constructor
  · intro h i hi
    have := h (m - 1 - i) (by omega)
    simpa only [show m - 1 - (m - 1 - i) = i by omega] using this
  · intro h i hi
    exact h (m - 1 - i) (by omega)
theorem recF_rev (it ct z : Nat → Int) (n m : Nat) (x : Int) : recF (cntF (fun i => it (n - 1 - i)) (fun i => ct (n - 1 - i)) n) (fun i => z (m - 1 - i)) m x = recF (cntF it ct n) z m x := by
  unfold recF cntF
  rw [hasB_rev, cntN_rev]
/-- the normal form by index -/
theorem RecL.get {F : Int → Int} {L : List (Int × Int)} (h : RecL F L) : (∀ j, j < L.length → 0 < (L.getD j (0, 0)).2) ∧ (∀ i j, i < j → j < L.length → (L.getD i (0, 0)).1 < (L.getD j (0, 0)).1) ∧ ∀ x, W64 x → 0 < F x → ∃ j, j < L.length ∧ (L.getD j (0, 0)).1 = x ∧ (L.getD j (0, 0)).2 = F x := by
  obtain ⟨h1, h2⟩ := h
  refine ⟨fun j hj => ?_, fun i j hij hj => ?_, fun x hx hf => ?_⟩
  · have hm : L[j] ∈ L := List.getElem_mem hj
    have := (h2 L[j].1 L[j].2).1 hm
    simpa [List.getD, hj] using this.2.2
  · have := List.pairwise_iff_getElem.1 h1 i j (by omega) hj hij
    simpa [List.getD, hj, show i < L.length by omega] using this
  · obtain ⟨j, hj, e⟩ := List.mem_iff_getElem.1 ((h2 x (F x)).2 ⟨hx, rfl, hf⟩)
    exact ⟨j, hj, by simp [List.getD, hj, e], by simp [List.getD, hj, e]⟩
theorem RecL.count {f : Int → Int} {z : Nat → Int} {m : Nat} {L : List (Int × Int)} (hf : ∀ x, 0 ≤ f x ∧ f x ≤ 1000000) (h : RecL (recF f z m) L) {x : Int} (hx : W64 x) (hb : hasB z m x = true) :
    cntN (fun j => (L.getD j (0, 0)).1) (fun j => (L.getD j (0, 0)).2) x L.length = lim (f x + 1) := by
  obtain ⟨_, h2, h3⟩ := h.get
  have hF : recF f z m x = lim (f x + 1) := by simp [recF, hb]
  have hb1 := hf x
  have hb2 : 0 < lim (f x + 1) := by unfold lim; omega
  obtain ⟨j, hj, e1, e2⟩ := h3 x hx (by rw [hF]; exact hb2)
  rw [cntN_one _ _ x (recF f z m x) L.length (fun i j hij hj => by have := h2 i j hij hj; omega) ⟨j, hj, e1, e2⟩, hF]
  unfold lim at *
  omega
end Go.Proofs.Ytmljfaplohbjcaa
