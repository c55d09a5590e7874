import Derived.Test.YtjobopafcgnljaaGreatMdC
import Derived.Test.YtjobopafcgnljaaGreatJoB
namespace Go.Proofs.YtjobopafcgnljaaGreat
open Go.RowKit
def selN (ks : Nat → Int) : Nat → Nat → Nat
 | 0, _ => 0
 | k + 1, j => if lftN ks k = j ∧ 0 ≤ ks k then k else selN ks k j
theorem lftN_mono (ks : Nat → Int) {i k : Nat} (h : i ≤ k) : lftN ks i ≤ lftN ks k := by
 obtain ⟨d, rfl⟩ : ∃ d, k = i + d := ⟨k - i, by omega⟩
 induction d with
 | zero => exact Nat.le_refl _
 | succ d ih => exact Nat.le_trans (ih (by omega)) (Nat.le_add_right _ _)
theorem lftN_step (ks : Nat → Int) {i : Nat} (h : 0 ≤ ks i) : lftN ks (i + 1) = lftN ks i + 1 := by show _ + _ = _; rw [if_pos h]
theorem lftN_skip (ks : Nat → Int) {i : Nat} (h : ¬ 0 ≤ ks i) : lftN ks (i + 1) = lftN ks i := by show _ + _ = _; rw [if_neg h]; rfl
theorem selN_eq {ks : Nat → Int} {i : Nat} (h : 0 ≤ ks i) : ∀ {k : Nat}, i < k → selN ks k (lftN ks i) = i
 | 0, hi => by omega
 | k + 1, hi => by
  show (if lftN ks k = lftN ks i ∧ 0 ≤ ks k then k else selN ks k (lftN ks i)) = i
  by_cases e : k = i
  ·subst e; rw [if_pos ⟨rfl, h⟩]
  ·have h1 := lftN_mono ks (show i + 1 ≤ k by omega)
   rw [lftN_step ks h] at h1
   rw [if_neg (fun hh => by omega)]
   exact selN_eq h (by omega)
theorem selN_ex (ks : Nat → Int) : ∀ (k j : Nat), j < lftN ks k → selN ks k j < k ∧ 0 ≤ ks (selN ks k j)
 | 0, j, h => by simp [lftN] at h
 | k + 1, j, h => by
  show (if _ then _ else _) < _ ∧ 0 ≤ ks (if _ then _ else _)
  by_cases e : lftN ks k = j ∧ 0 ≤ ks k
  ·rw [if_pos e]; exact ⟨by omega, e.2⟩
  ·rw [if_neg e]
   have h1 : j < lftN ks k := by
    by_cases hk : 0 ≤ ks k
    ·rw [lftN_step ks hk] at h; have : lftN ks k ≠ j := fun hh => e ⟨hh, hk⟩; omega
    ·rwa [lftN_skip ks hk] at h
   have := selN_ex ks k j h1
   exact ⟨by omega, this.2⟩
def pIt (D : MdD) (qi i : Nat) : Rat := ((D.z i qi 1 : Int) : Rat) / ((1000 : Int) : Rat)
def pSel (D : MdD) (qi : Nat) (ks : Nat → Int) (m j : Nat) : Rat := pIt D qi (selN ks m j)
def xSel (ks : Nat → Int) (m j : Nat) : Bool := decide (ks (selN ks m j) = 1)
theorem pIt_prb {D : MdD} {qi i : Nat} (h : 1 ≤ D.z i qi 1 ∧ D.z i qi 1 ≤ 1000) : prb (pIt D qi i) = true := by
 have e : pIt D qi i = mkRat (D.z i qi 1) 1000 := by unfold pIt; exact (Rat.mkRat_eq_div _ _).symm
 have h0 : 0 ≤ ((D.z i qi 1 : Int) : Rat) := Rat.intCast_nonneg.2 (by omega)
 have h1 : ((D.z i qi 1 : Int) : Rat) ≤ ((1000 : Int) : Rat) := Rat.intCast_le_intCast.2 h.2
 have hk : (0 : Rat) < ((1000 : Int) : Rat) := by decide +kernel
 unfold prb pIt
 rw [decide_eq_true_eq, Rat.div_def]
 have hi : 0 ≤ ((1000 : Int) : Rat)⁻¹ := Rat.le_of_lt (Rat.inv_pos.2 hk)
 have hm : ((1000 : Int) : Rat) * ((1000 : Int) : Rat)⁻¹ = 1 := Rat.mul_inv_cancel _ (by decide +kernel)
 refine ⟨Rat.mul_nonneg h0 hi, ?_⟩
 have := Rat.mul_le_mul_of_nonneg_right h1 hi
 rwa [hm] at this
theorem pIt_rsz {D : MdD} {qi i : Nat} (h : 1 ≤ D.z i qi 1 ∧ D.z i qi 1 ≤ 1000) : rsz (pIt D qi i) ≤ 1 := by
 have e : pIt D qi i = mkRat (D.z i qi 1) 1000 := by unfold pIt; exact (Rat.mkRat_eq_div _ _).symm
 rw [e]
 exact rsz_mk _ _ _ (by omega) (nlen_small (show (D.z i qi 1).natAbs < 4294967296 by omega)) (nlen_small (by decide))
theorem own_other {w w1 : World} {B n s : Nat} {e : TypeId} {v : Value} {xs : List Value} {blk : Option Nat} (h : w.ownsRow B e s v n xs) (hg : w.grownBy w1 blk) (hne : ∀ b, v.ownBlock = some b → blk ≠ some b) : w1.ownsRow B e s v n xs := by
 refine ⟨h.1, ?_⟩
 rcases h.2 with e1 | ⟨g, cap, cur, e1, hb, hh, rest⟩
 ·exact .inl e1
 ·refine .inr ⟨g, cap, cur, e1, hb, (hg.block g (Array.getElem?_eq_some_iff.1 hh).1 ?_).trans hh, rest⟩
  have := hne g (by rw [e1]; rfl)
  exact fun hh => this hh.symm
end Go.Proofs.YtjobopafcgnljaaGreat
