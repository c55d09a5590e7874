/- Plain laws of the tables of an item by total scores: no program in sight; no condition. -/
import Derived.Test.YtmecipfdelgfbaaDoorDfP
namespace Go.Proofs.YtmecipfdelgfbaaDoor

/-- how many of the first n have the property -/
def cnB (P : Nat → Bool) : Nat → Nat
  | 0 => 0
  | n + 1 => cnB P n + (if P n = true then 1 else 0)
theorem cnB_le (P : Nat → Bool) : ∀ n, cnB P n ≤ n
  | 0 => Nat.le_refl _
  | n + 1 => by have := cnB_le P n; simp only [cnB]; split <;> omega
theorem cnB_mono (P : Nat → Bool) {n m : Nat} (h : n ≤ m) : cnB P n ≤ cnB P m := by
  induction m with
  | zero => obtain rfl : n = 0 := by omega
            exact Nat.le_refl _
  | succ m ih =>
    by_cases e : n = m + 1
    · subst e; exact Nat.le_refl _
    · have := ih (by omega); simp only [cnB]; omega
theorem sN_add2 (f g : Nat → Nat) : ∀ n, sN (fun i => f i + g i) n = sN f n + sN g n
  | 0 => rfl
  | n + 1 => by simp only [sN]; rw [sN_add2 f g n]; omega
theorem sN_pick (T : Nat) : ∀ n, sN (fun i => if i = T then 1 else 0) n = if T < n then 1 else 0
  | 0 => rfl
  | n + 1 => by
    simp only [sN]
    rw [sN_pick T n]
    by_cases h : n = T
    · subst h; rw [if_neg (by omega), if_pos rfl, if_pos (by omega)]
    · rw [if_neg h]
      by_cases h2 : T < n
      · rw [if_pos h2, if_pos (by omega)]
      · rw [if_neg h2, if_neg (by omega)]
theorem sN_zero2 : ∀ n, sN (fun _ => 0) n = 0
  | 0 => rfl
  | n + 1 => by simp only [sN]; rw [sN_zero2 n]
/-- by classes, all are counted -/
theorem cnB_split (P : Nat → Bool) (tot : Nat → Nat) (L : Nat) : ∀ n, (∀ p, p < n → P p = true → tot p < L) → sN (fun T => cnB (fun p => P p && decide (tot p = T)) n) L = cnB P n
  | 0, _ => sN_zero2 L
  | n + 1, h => by
    simp only [cnB]
    rw [sN_add2, cnB_split P tot L n (fun p hp => h p (by omega))]
    congr 1
    by_cases hp : P n = true
    · rw [if_pos hp]
      have e : (fun T => if (P n && decide (tot n = T)) = true then 1 else 0) = (fun i => if i = tot n then 1 else 0) := by
        funext T
        by_cases e2 : T = tot n
        · subst e2; simp [hp]
        · rw [if_neg e2, if_neg (by simp [hp]; omega)]
      rw [e, sN_pick, if_pos (h n (by omega) hp)]
    · rw [if_neg hp]
      have e : (fun T => if (P n && decide (tot n = T)) = true then 1 else 0) = (fun _ : Nat => 0) := by
        funext T
        rw [if_neg (by simp [hp])]
      rw [e, sN_zero2]

/-- the total score -/
def scT (z : Nat → Int) (u : Nat → Bool) (i : Nat) : Nat → Nat
  | 0 => 0
  | k + 1 => scT z u i k + (if z k = 1 ∧ (u k = true ∨ k = i) then 1 else 0)
theorem scT_le (z : Nat → Int) (u : Nat → Bool) (i : Nat) : ∀ k, scT z u i k ≤ k
  | 0 => Nat.le_refl _
  | k + 1 => by have := scT_le z u i k; simp only [scT]; split <;> omega
/-- in which cell of a table a response is counted; 4: in none -/
def ctS (x : Int) (fo : Bool) : Nat := if x < 0 then 4 else if fo = true then (if x = 1 then 2 else 3) else (if x = 1 then 0 else 1)
section
variable (z : Nat → Nat → Int) (f u : Nat → Bool) (i I : Nat)
/-- the tables after p persons -/
def tbS (p T c : Nat) : Nat := cnB (fun q => decide (ctS (z q i) (f q) = c) && decide (scT (z q) u i I = T)) p
/-- one more than the greatest total score of p persons -/
def laS : Nat → Nat
  | 0 => 0
  | p + 1 => if z p i < 0 then laS p else max (laS p) (scT (z p) u i I + 1)
theorem tbS_zero (T c : Nat) : tbS z f u i I 0 T c = 0 := rfl
theorem tbS_skip (p T c : Nat) (h : z p i < 0) (hc : c < 4) : tbS z f u i I (p + 1) T c = tbS z f u i I p T c := by
  unfold tbS
  simp only [cnB]
  rw [if_neg]; · rfl
  have e : ctS (z p i) (f p) = 4 := if_pos h
  rw [e]
  simp; omega
theorem tbS_step (p T c : Nat) : tbS z f u i I (p + 1) T c = tbS z f u i I p T c + (if ctS (z p i) (f p) = c ∧ scT (z p) u i I = T then 1 else 0) := by
  unfold tbS
  simp only [cnB, Bool.and_eq_true, decide_eq_true_eq]
theorem tbS_le (p T c : Nat) : tbS z f u i I p T c ≤ p := cnB_le _ _
theorem laS_le : ∀ p, laS z u i I p ≤ I + 1
  | 0 => Nat.zero_le _
  | p + 1 => by
    have h1 := laS_le p
    have h2 := scT_le (z p) u i I
    simp only [laS]
    split
    · exact h1
    · omega
theorem laS_lt : ∀ p q, q < p → ¬ z q i < 0 → scT (z q) u i I < laS z u i I p
  | 0, q, h, _ => by omega
  | p + 1, q, h, hz => by
    simp only [laS]
    by_cases e : q = p
    · subst e; rw [if_neg hz]; omega
    · have := laS_lt p q (by omega) hz
      split <;> omega
theorem ctS_neg {x : Int} {fo : Bool} {c : Nat} (h : ctS x fo = c) (hc : c < 4) : ¬ x < 0 := by
  intro hx
  rw [ctS, if_pos hx] at h
  omega
/-- every response is counted once -/
theorem tbS_sum (p c : Nat) (hc : c < 4) : sN (fun T => tbS z f u i I p T c) (laS z u i I p) = cnB (fun q => decide (ctS (z q i) (f q) = c)) p :=
  cnB_split (fun q => decide (ctS (z q i) (f q) = c)) (fun q => scT (z q) u i I) _ p (fun q hq h => laS_lt z u i I p q hq (ctS_neg (of_decide_eq_true h) hc))
/-- the last table is not empty -/
theorem laS_last : ∀ p, 0 < laS z u i I p → ∃ c, c < 4 ∧ 0 < tbS z f u i I p (laS z u i I p - 1) c
  | 0, h => absurd h (by simp [laS])
  | p + 1, h => by
    simp only [laS] at h ⊢
    by_cases hz : z p i < 0
    · rw [if_pos hz] at h ⊢
      obtain ⟨c, hc, h2⟩ := laS_last p h
      exact ⟨c, hc, by rw [tbS_skip z f u i I p _ c hz hc]; exact h2⟩
    · rw [if_neg hz] at h ⊢
      by_cases hl : scT (z p) u i I + 1 ≤ laS z u i I p
      · rw [Nat.max_eq_left hl] at h ⊢
        obtain ⟨c, hc, h2⟩ := laS_last p h
        exact ⟨c, hc, by rw [tbS_step]; omega⟩
      · rw [Nat.max_eq_right (by omega)]
        refine ⟨ctS (z p i) (f p), ?_, ?_⟩
        · unfold ctS; rw [if_neg hz]; split <;> split <;> omega
        · rw [tbS_step, if_pos ⟨rfl, by omega⟩]; omega
end
/-- sums of tables -/
theorem wdS_sum (t : Nat → Nat → Nat) : ∀ n, wdS (ltS t) n ≤ sN (fun T => t T 0) n + sN (fun T => t T 2) n
  | 0 => Nat.zero_le _
  | n + 1 => by
    have := wdS_sum t n
    simp only [wdS, sN]
    unfold ltS ktS mtS
    have e : min (t n 0 + t n 2) (t n 0 + t n 1) + 1 - 1 ≤ t n 0 + t n 2 := by omega
    unfold ltS ktS mtS at this
    omega

end Go.Proofs.YtmecipfdelgfbaaDoor
