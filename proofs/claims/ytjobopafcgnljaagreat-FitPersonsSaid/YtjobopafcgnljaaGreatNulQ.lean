import Derived.Test.YtjobopafcgnljaaGreatNulC
namespace Go.Proofs.YtjobopafcgnljaaGreat
def nqP (q : Nat → Rat) (i w e r c : Nat) : Rat :=
 (if 1 ≤ r ∧ (r - 1 < w ∨ (r - 1 = w ∧ c < e)) then nul q i (r - 1) c * (1 - q i) else 0) + (if r ≤ c ∧ (r < w ∨ (r = w ∧ c - r < e)) then nul q i r (c - r) * q i else 0)
def nqH (q : Nat → Rat) (i w e r c : Nat) : Rat := nqP q i w e r c + (if r = w + 1 ∧ c = e then nul q i w e * (1 - q i) else 0)
theorem nqP_0 (q : Nat → Rat) (i r c : Nat) : nqP q i 0 0 r c = 0 := by
 unfold nqP
 rw [if_neg (by omega), if_neg (by omega)]; exact Rat.add_zero 0
theorem nqP_row (q : Nat → Rat) (i w r : Nat) {c m : Nat} (h : c < m) : nqP q i w m r c = nqP q i (w + 1) 0 r c := by
 unfold nqP
 have h1 : (1 ≤ r ∧ (r - 1 < w ∨ (r - 1 = w ∧ c < m))) ↔ (1 ≤ r ∧ (r - 1 < w + 1 ∨ (r - 1 = w + 1 ∧ c < 0))) := by omega
 have h2 : (r ≤ c ∧ (r < w ∨ (r = w ∧ c - r < m))) ↔ (r ≤ c ∧ (r < w + 1 ∨ (r = w + 1 ∧ c - r < 0))) := by omega
 simp only [h1, h2]
theorem nqP_end (q : Nat → Rat) (i r c : Nat) : nqP q i (i + 1) 0 r c = nul q (i + 1) r c := by
 rw [show nul q (i + 1) r c = (if 1 ≤ r then nul q i (r - 1) c * (1 - q i) else 0) + (if r ≤ c then nul q i r (c - r) * q i else 0) from by rw [nul]]
 unfold nqP
 congr 1
 ·by_cases h1 : 1 ≤ r
  ·by_cases h2 : r - 1 < i + 1
   ·rw [if_pos ⟨h1, .inl h2⟩, if_pos h1]
   ·rw [if_neg (by omega), if_pos h1, nul_zero q i (r - 1) c (by omega), Rat.zero_mul]
  ·rw [if_neg (by omega), if_neg h1]
 ·by_cases h1 : r ≤ c
  ·by_cases h2 : r < i + 1
   ·rw [if_pos ⟨h1, .inl h2⟩, if_pos h1]
   ·rw [if_neg (by omega), if_pos h1, nul_zero q i r (c - r) (by omega), Rat.zero_mul]
  ·rw [if_neg (by omega), if_neg h1]
theorem nqP_step (q : Nat → Rat) (i w e r c : Nat) : nqP q i w (e + 1) r c = nqH q i w e r c + (if r = w ∧ c = e + w then nul q i w e * q i else 0) := by
 unfold nqH nqP
 have a1 : (if 1 ≤ r ∧ (r - 1 < w ∨ (r - 1 = w ∧ c < e + 1)) then nul q i (r - 1) c * (1 - q i) else 0) = (if 1 ≤ r ∧ (r - 1 < w ∨ (r - 1 = w ∧ c < e)) then nul q i (r - 1) c * (1 - q i) else 0) + (if r = w + 1 ∧ c = e then nul q i w e * (1 - q i) else 0) := by
  by_cases h : r = w + 1 ∧ c = e
  ·obtain ⟨rfl, rfl⟩ := h
   rw [if_pos (by omega), if_neg (by omega), if_pos ⟨rfl, rfl⟩, Nat.add_sub_cancel, Rat.zero_add]
  ·rw [if_neg h]
   have h1 : (1 ≤ r ∧ (r - 1 < w ∨ (r - 1 = w ∧ c < e + 1))) ↔ (1 ≤ r ∧ (r - 1 < w ∨ (r - 1 = w ∧ c < e))) := by omega
   simp only [h1, Rat.add_zero]
 have a2 : (if r ≤ c ∧ (r < w ∨ (r = w ∧ c - r < e + 1)) then nul q i r (c - r) * q i else 0) = (if r ≤ c ∧ (r < w ∨ (r = w ∧ c - r < e)) then nul q i r (c - r) * q i else 0) + (if r = w ∧ c = e + w then nul q i w e * q i else 0) := by
  by_cases h : r = w ∧ c = e + w
  ·obtain ⟨rfl, rfl⟩ := h
   rw [if_pos (by omega), if_neg (by omega), if_pos ⟨rfl, rfl⟩, Nat.add_sub_cancel, Rat.zero_add]
  ·rw [if_neg h]
   have h1 : (r ≤ c ∧ (r < w ∨ (r = w ∧ c - r < e + 1))) ↔ (r ≤ c ∧ (r < w ∨ (r = w ∧ c - r < e))) := by omega
   simp only [h1, Rat.add_zero]
 rw [a1, a2]; grind
theorem nqP_skip (q : Nat → Rat) (i w e : Nat) (h : nul q i w e = 0) (r c : Nat) : nqP q i w (e + 1) r c = nqP q i w e r c := by
 rw [nqP_step]; unfold nqH; rw [h]; simp only [Rat.zero_mul, ite_self, Rat.add_zero]
theorem nul_00 (q : Nat → Rat) : nul q 0 0 0 = 1 := by unfold nul; rw [if_pos ⟨rfl, rfl⟩]
theorem nul_0 (q : Nat → Rat) {r d : Nat} (h : ¬ (r = 0 ∧ d = 0)) : nul q 0 r d = 0 := by unfold nul; rw [if_neg h]
theorem nul_in (q : Nat → Rat) (i w e n : Nat) (h : nul q i w e ≠ 0) (hi : i < n) : w ≤ i ∧ e + w ≤ n * n / 4 := by
 have h1 : w ≤ i ∧ e ≤ w * (i - w) := Classical.byContradiction fun hh => h (nul_zero q i w e hh)
 refine ⟨h1.1, ?_⟩
 have h2 := step_mul w i h1.1
 have h3 := quarter w (i + 1) (by omega)
 have h4 := quarter_mono (show i + 1 ≤ n by omega)
 omega
theorem nq_f (q : Nat → Rat) (i : Nat) (hp : prb (q i) = true) : ((faQ q i : Nat) : Rat) = (1 - q i) * ((deQ q i : Nat) : Rat) := fail_castF (q i) hp
theorem nq_s (q : Nat → Rat) (i : Nat) (hp : prb (q i) = true) : ((nuQ q i : Nat) : Rat) = q i * ((deQ q i : Nat) : Rat) := den_mul (q i) (prb_iffF.1 hp).1
theorem nqP_cast (q : Nat → Rat) (i : Nat) (h : ∀ j, j < i + 1 → prb (q j) = true) (w e r c : Nat) : ((nuP (nuQ q) (faQ q) i w e r c : Nat) : Rat) = nqP q i w e r c * ((prN (deQ q) (i + 1) : Nat) : Rat) := by
 have hi := h i (by omega)
 have f1 := nq_f q i hi
 have f2 := nq_s q i hi
 unfold nuP nqP
 show _ = _ * ((prN (deQ q) i * deQ q i : Nat) : Rat)
 rw [natQ_add, natQ_mul]
 have c1 : ∀ (C : Prop) [Decidable C], (((if C then nuW (nuQ q) (faQ q) i (r - 1) c * faQ q i else 0 : Nat)) : Rat) = (if C then nul q i (r - 1) c * (1 - q i) else 0) * (((prN (deQ q) i : Nat) : Rat) * ((deQ q i : Nat) : Rat)) := by
  intro C _
  split
  ·rw [natQ_mul, nu_cast q i (fun j hj => h j (by omega)), f1]; grind
  ·rw [show ((0 : Nat) : Rat) = 0 from rfl]; grind
 have c2 : ∀ (C : Prop) [Decidable C], (((if C then nuW (nuQ q) (faQ q) i r (c - r) * nuQ q i else 0 : Nat)) : Rat) = (if C then nul q i r (c - r) * q i else 0) * (((prN (deQ q) i : Nat) : Rat) * ((deQ q i : Nat) : Rat)) := by
  intro C _
  split
  ·rw [natQ_mul, nu_cast q i (fun j hj => h j (by omega)), f2]; grind
  ·rw [show ((0 : Nat) : Rat) = 0 from rfl]; grind
 rw [c1, c2]; grind
theorem nqH_cast (q : Nat → Rat) (i : Nat) (h : ∀ j, j < i + 1 → prb (q j) = true) (w e r c : Nat) : ((nuH (nuQ q) (faQ q) i w e r c : Nat) : Rat) = nqH q i w e r c * ((prN (deQ q) (i + 1) : Nat) : Rat) := by
 have f1 := nq_f q i (h i (by omega))
 unfold nuH nqH
 rw [natQ_add, nqP_cast q i h]
 have e1 : ((prN (deQ q) (i + 1) : Nat) : Rat) = ((prN (deQ q) i : Nat) : Rat) * ((deQ q i : Nat) : Rat) := natQ_mul _ _
 have c1 : (((if r = w + 1 ∧ c = e then nuW (nuQ q) (faQ q) i w e * faQ q i else 0 : Nat)) : Rat) = (if r = w + 1 ∧ c = e then nul q i w e * (1 - q i) else 0) * ((prN (deQ q) (i + 1) : Nat) : Rat) := by
  split
  ·rw [natQ_mul, nu_cast q i (fun j hj => h j (by omega)), f1, e1]; grind
  ·rw [show ((0 : Nat) : Rat) = 0 from rfl]; grind
 rw [c1]; grind
theorem rsz_over {p : Rat} {m d : Nat} (hd : 0 < d) (h : ((m : Nat) : Rat) = p * ((d : Nat) : Rat)) (L : Nat) (h1 : 1 ≤ L) (hm : nlen m ≤ L) (hl : nlen d ≤ L) : rsz p ≤ L := by
 have e : frq m d = p := by rw [frq_div, h]; have := natQ_ne hd; grind
 rw [← e]
 exact frq_len m d L h1 hm hl
theorem nq_len (q : Nat → Rat) (n L : Nat) (hL : ∀ i, i < n → rsz (q i) ≤ L) (i : Nat) (hi : i ≤ n) : nlen (prN (deQ q) i) ≤ L * n + 1 := by
 have h1 : nlen (prN (deQ q) i) ≤ L * i + 1 := prN_len (fun j hj => by have := hL j (by omega); unfold rsz at this; unfold deQ; omega)
 have h2 : L * i ≤ L * n := Nat.mul_le_mul_left _ hi
 omega
theorem nq_su (q : Nat → Rat) (n : Nat) (h : ∀ j, j < n → prb (q j) = true) : ∀ i, i < n → nuQ q i + faQ q i = deQ q i := fun i hi => by have := prb_le (q i) (h i hi); unfold nuQ faQ deQ; omega
theorem nqP_rsz (q : Nat → Rat) (n L : Nat) (h : ∀ j, j < n → prb (q j) = true) (hL : ∀ i, i < n → rsz (q i) ≤ L) (i : Nat) (hi : i < n) (w e r c : Nat) : rsz (nqP q i w e r c) ≤ L * n + 1 :=
 rsz_over (prN_posF (fun i _ => (q i).den_pos)) (nqP_cast q i (fun j hj => h j (by omega)) w e r c) _ (by omega) (Nat.le_trans (nlen_mono (Nat.le_trans (nuP_le _ _ _ _ _ _ _) (nuW_le (n := n) _ _ _ (nq_su q n h) (i + 1) (by omega) _ _))) (nq_len q n L hL (i + 1) (by omega))) (nq_len q n L hL (i + 1) (by omega))
theorem nqH_rsz (q : Nat → Rat) (n L : Nat) (h : ∀ j, j < n → prb (q j) = true) (hL : ∀ i, i < n → rsz (q i) ≤ L) (i : Nat) (hi : i < n) (w e r c : Nat) : rsz (nqH q i w e r c) ≤ L * n + 1 :=
 rsz_over (prN_posF (fun i _ => (q i).den_pos)) (nqH_cast q i (fun j hj => h j (by omega)) w e r c) _ (by omega) (Nat.le_trans (nlen_mono (Nat.le_trans (nuH_le _ _ _ _ _ _ _) (nuW_le (n := n) _ _ _ (nq_su q n h) (i + 1) (by omega) _ _))) (nq_len q n L hL (i + 1) (by omega))) (nq_len q n L hL (i + 1) (by omega))
theorem nul_rsz (q : Nat → Rat) (n L : Nat) (h : ∀ j, j < n → prb (q j) = true) (hL : ∀ i, i < n → rsz (q i) ≤ L) (i : Nat) (hi : i ≤ n) (w e : Nat) : rsz (nul q i w e) ≤ L * n + 1 :=
 rsz_over (prN_posF (fun i _ => (q i).den_pos)) (nu_cast q i (fun j hj => h j (by omega)) w e) _ (by omega) (Nat.le_trans (nlen_mono (nuW_le (n := n) _ _ _ (nq_su q n h) i hi _ _)) (nq_len q n L hL i hi)) (nq_len q n L hL i hi)
theorem nls_rsz (q : Nat → Rat) (n L : Nat) (h : ∀ j, j < n → prb (q j) = true) (hL : ∀ i, i < n → rsz (q i) ≤ L) (e m : Nat) (hm : m ≤ 21) : rsz (sQ (fun w => nul q n w e) m) ≤ L * n + 2 := by
 have hd : 0 < prN (deQ q) n := prN_posF (fun i _ => (q i).den_pos)
 refine rsz_over hd (m := sN (fun w => nuW (nuQ q) (faQ q) n w e) m) ?_ _ (by omega) ?_ (by have := nq_len q n L hL n (Nat.le_refl _); omega)
 ·rw [sN_sQ, sQ_congr (g := fun w => nul q n w e * ((prN (deQ q) n : Nat) : Rat)) (fun w _ => nu_cast q n h w e), sQ_mulr]
 ·exact nlen_sN _ _ (L * n + 1) (fun i _ => Nat.le_trans (nlen_mono (nuW_le (n := n) (nuQ q) (faQ q) (deQ q) (nq_su q n h) n (Nat.le_refl _) i e)) (nq_len q n L hL n (Nat.le_refl _))) (by omega)
end Go.Proofs.YtjobopafcgnljaaGreat
