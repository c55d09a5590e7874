import Derived.Test.YtjobopafcgnljaaGreatNulA
namespace Go.Proofs.YtjobopafcgnljaaGreat
theorem sQ_shift1 (f : Nat → Rat) (W : Nat) : sQ (fun w => if 1 ≤ w then f (w - 1) else 0) (W + 1) = sQ f W := by
 rw [sQ_first, if_neg (by omega), Rat.zero_add]
 exact sQ_congr fun i _ => by rw [if_pos (by omega), Nat.add_sub_cancel]
theorem sQ_shiftE (g : Nat → Rat) (w d : Nat) : sQ (fun e => if w ≤ e then g (e - w) else 0) (w + d) = sQ g d := by
 rw [sQ_append, sQ_congr (g := fun _ => 0) (fun i hi => if_neg (by omega)), sQ_zero, Rat.zero_add]
 exact sQ_congr fun i _ => by rw [if_pos (by omega), Nat.add_sub_cancel_left]
theorem nul_sum (q : Nat → Rat) : ∀ (n W E : Nat), n < W → (∀ w, w ≤ n → w * (n - w) < E) → sQ (fun w => sQ (fun e => nul q n w e) E) W = 1
 | 0, W, E, hW, hE => by
  obtain ⟨W, rfl⟩ : ∃ x, W = x + 1 := ⟨W - 1, by omega⟩
  obtain ⟨E, rfl⟩ : ∃ x, E = x + 1 := ⟨E - 1, by have := hE 0 (Nat.le_refl _); omega⟩
  rw [sQ_first, sQ_congr (f := fun i => sQ (fun e => nul q 0 (i + 1) e) (E + 1)) (g := fun _ => 0) (fun i _ => by rw [sQ_congr (g := fun _ => 0) (fun e _ => by unfold nul; rw [if_neg (by omega)]), sQ_zero]), sQ_zero, sQ_first, sQ_congr (f := fun i => nul q 0 0 (i + 1)) (g := fun _ => 0) (fun e _ => by unfold nul; rw [if_neg (by omega)]), sQ_zero]
  unfold nul
  rw [if_pos ⟨rfl, rfl⟩]; decide +kernel
 | n + 1, W, E, hW, hE => by
  obtain ⟨W, rfl⟩ : ∃ x, W = x + 1 := ⟨W - 1, by omega⟩
  have ih1 := nul_sum q n W E (by omega) (fun w hw => by have h1 := hE w (by omega); rw [step_mul w n hw] at h1; omega)
  have ih2 := nul_sum q n (W + 1) E (by omega) (fun w hw => by have h1 := hE w (by omega); rw [step_mul w n hw] at h1; omega)
  have h1 : ∀ w, w < W + 1 → sQ (fun e => nul q (n + 1) w e) E = (if 1 ≤ w then sQ (fun e => nul q n (w - 1) e) E * (1 - q n) else 0) + sQ (fun e => nul q n w e) E * q n := by
   intro w _
   rw [sQ_congr (g := fun e => (if 1 ≤ w then nul q n (w - 1) e * (1 - q n) else 0) + (if w ≤ e then nul q n w (e - w) * q n else 0)) (fun e _ => by rw [nul]), sQ_add]
   congr 1
   ·by_cases h : 1 ≤ w
    ·rw [if_pos h, sQ_congr (g := fun e => nul q n (w - 1) e * (1 - q n)) (fun e _ => if_pos h), sQ_mulr]
    ·rw [if_neg h, sQ_congr (g := fun _ => 0) (fun e _ => if_neg h), sQ_zero]
   ·rw [← sQ_mulr]
    by_cases hw : w ≤ n
    ·have h2 := hE w (by omega)
     rw [step_mul w n hw] at h2
     obtain ⟨d, rfl⟩ : ∃ d, E = w + d := ⟨E - w, by omega⟩
     rw [sQ_shiftE (fun e => nul q n w e * q n) w d]
     exact (sQ_ext' (by omega) (fun e h3 _ => by rw [nul_zero q n w e (by omega)]; exact Rat.zero_mul _)).symm
    ·rw [sQ_congr (g := fun _ => 0) (fun e _ => by rw [nul_zero q n w (e - w) (by omega), Rat.zero_mul]; exact ite_self _), sQ_congr (f := fun e => nul q n w e * q n) (g := fun _ => 0) (fun e _ => by rw [nul_zero q n w e (by omega), Rat.zero_mul])]
  rw [sQ_congr h1, sQ_add, sQ_mulr, sQ_shift1 (fun w => sQ (fun e => nul q n w e) E * (1 - q n)) W, sQ_mulr, ih1, ih2]
  grind
theorem nl_sum (q : Nat → Rat) (n : Nat) : sQ (nlQ q n) (n * n / 4 + 1) = 1 := by
 have h := nul_sum q n (n + 1) (n * n / 4 + 1) (by omega) (fun w hw => by have := quarter w n hw; omega)
 rw [← h]
 exact sQ_swap (fun e w => nul q n w e) (n * n / 4 + 1) (n + 1)
theorem nl_nonneg (q : Nat → Rat) (n : Nat) (h : ∀ j, j < n → prb (q j) = true) (e : Nat) : 0 ≤ nlQ q n e :=
 sQ_nonneg fun w _ => nul_nonneg q n (fun j hj => prb_iffF.1 (h j hj)) w e
theorem valid_nl (q : Nat → Rat) (n : Nat) (h20 : n ≤ 20) (h : ∀ j, j < n → prb (q j) = true) : valid (nlQ q n) (n * n / 4 + 1) = true :=
 valid_iff.2 ⟨by omega, by have : n * n ≤ 400 := Nat.mul_le_mul h20 h20; omega, fun i _ => nl_nonneg q n h i, nl_sum q n⟩
theorem nl_rsz (q : Nat → Rat) (n L : Nat) (h20 : n ≤ 20) (h : ∀ j, j < n → prb (q j) = true) (hL : ∀ i, i < n → rsz (q i) ≤ L) (e : Nat) : rsz (nlQ q n e) ≤ L * n + 2 := by
 have h1 : nlen (prN (deQ q) n) ≤ L * n + 1 := prN_len (fun i hi => by have := hL i hi; unfold rsz at this; unfold deQ; omega)
 rw [← nl_frq q n e h]
 refine frq_len _ _ _ (by omega) ?_ (by omega)
 refine nlen_sN _ _ (L * n + 1) (fun i _ => Nat.le_trans (nlen_mono (nuW_le (n := n) (nuQ q) (faQ q) (deQ q) (fun i hi => ?_) n (Nat.le_refl _) i e)) h1) (by omega)
 have := prb_le (q i) (h i hi); unfold nuQ faQ deQ; omega
end Go.Proofs.YtjobopafcgnljaaGreat
