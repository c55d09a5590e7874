import Derived.Test.YtnillajhhimeiaaGreatDoorExU
namespace Go.Proofs.YtnillajhhimeiaaGreatDoor
open Go.RowKit
end Go.Proofs.YtnillajhhimeiaaGreatDoor
namespace Go.Proofs.YtnillajhhimeiaaGreatDoor
open Go.RowKit
def hyQ (t m d i : Nat) : Rat := frq (hyp t m d i) (chs t d)
theorem natQ_pos {n : Nat} (h : 0 < n) : (0 : Rat) < (n : Rat) := by exact_mod_cast h
theorem frq_nonneg (m d : Nat) : 0 ≤ frq m d := by
  unfold frq
  rw [← Rat.num_nonneg, Rat.num_mkRat]
  split
  · exact Int.le_refl _
  · exact Int.ediv_nonneg (by omega) (by omega)
theorem sQ_frq (f : Nat → Nat) (d : Nat) (n : Nat) : sQ (fun i => frq (f i) d) n = frq (sN f n) d := by
  rw [frq_div, sN_sQ, sQ_congr (g := fun i => (f i : Rat) * (d : Rat)⁻¹) (fun i _ => by rw [frq_div, Rat.div_def]), sQ_mulr, Rat.div_def]
theorem hyQ_valid (t m d : Nat) (ht : t ≤ 120) (hm : m ≤ t) (hd : d ≤ t) : valid (hyQ t m d) (min m d + 1) = true := by
  refine valid_iff.2 ⟨by omega, by omega, fun i _ => frq_nonneg _ _, ?_⟩
  have e : sQ (hyQ t m d) (min m d + 1) = frq (sN (hyp t m d) (min m d + 1)) (chs t d) := sQ_frq _ _ _
  rw [e, hyp_total t m d hm, frq_div]
  have := natQ_ne (chs_pos hd)
  grind
theorem hyQ_len (t m d i : Nat) (ht : t ≤ 120) (hm : m ≤ t) : rsz (hyQ t m d i) ≤ 14 := by
  have h1 := chs_len m i (by omega)
  have h2 := chs_len (t - m) (d - i) (by omega)
  have h3 := chs_len t d (by omega)
  have h4 := nlen_mul (chs m i) (chs (t - m) (d - i))
  exact frq_len _ _ _ (by omega) (by unfold hyp; omega) (by omega)
end Go.Proofs.YtnillajhhimeiaaGreatDoor
