/- Contracts of the reference's Shift and half of natural numbers: for all numbers of at most 2^40 limbs. -/
import Derived.Test.YtnidfpilmmhniaaRefC
import Derived.Deep.RegionHeld3
namespace Go.Proofs.Ytnidfpilmmhniaa
open Go.RowKit

theorem half_int (m i : Nat) : ((dig m (i + 1) : Int) * 4294967296 + (dig m i : Int)) / 2 % 4294967296 = (dig (m / 2) i : Int) := by
  rw [dig_half]; simp [B]
theorem half_v (m i : Nat) : IntKind.u32.wrap (IntKind.u64.wrap ((dig m (i + 1) : Int) * 4294967296 + IntKind.u64.wrap (dig m i : Int)) / 2) = (dig (m / 2) i : Int) := by
  have d1 := dig_lt' m i
  have d2 := dig_lt' m (i + 1)
  rw [wrap_u64_id (dig m i : Int) (by omega) (by omega), wrap_u64_id _ (by omega) (by omega), IntKind.wrap_u32, half_int]

set_option maxHeartbeats 1000000 in
theorem half_fr {N : Nat} (a : Option Addr) (n cap m : Nat) (w : World) (h : Nt N w a n cap m) (hl : n ≤ 1099511627776) :
    Calls Try.prog 177 #[.slice a n cap] w fun e w' => ∃ r cr, e = .returned (.slice r (nlen (m / 2)) cr) ∧ Nt N w' r (nlen (m / 2)) cr (m / 2) ∧ Below w.heap.size w w' ∧ Fr w.heap.size r := by
  have HL := Lib.hid (Nat.lt_of_le_of_lt (Nat.div_le_self m 2) h.2.2.1)
  have HA := Lib.hid h
  clear h
  have hmk := run_make_row' (P := Try.prog) 25 122 (.int .u32 0) 4 Try.underNat Try.infoU32 rfl .i64 .i64 n (by omega) (by omega)
  go_enter Try.func177, Try.ntmps177
  go_wp2_with fail
  go_loopw [4] (fun i wr => ∃ k : Nat, k ≤ n ∧ i = .int .i64 k ∧ wr.rowIs w.heap.size 122 n (sumRow (m / 2) k) ∧ Below w.heap.size w wr) (fun i _ => n - (intOf i).toNat)
  case atStart => exact ⟨0, Nat.zero_le _, rfl, (World.rowIs_made _ _ _ _).congr (fun i hi => by simp [sumRow]), (Below.refl _ _).alloc (Nat.le_refl _) _⟩
  case round =>
    clear hmk
    obtain ⟨k, hk, rfl, hrow, hbel⟩ := hrel
    by_cases hkn : k < n
    · obtain ⟨b1, o1, rfl, _, hc1⟩ := HA.out.2.2.2 (by omega)
      have hcell1 := (hbel.cell (p := ⟨b1, o1 + k, none⟩) (World.block_lt_of_cell? w _ (hc1 k hkn))).trans (hc1 k hkn)
      have hb1 : b1 < w.heap.size := World.block_lt_of_cell? w _ (hc1 k hkn)
      clear hc1
      have hput := hrow.cell (i := k) (by omega)
      have hfz := hrow.frozen k
      have d1 := dig_lt' m k
      have d2 := dig_lt' m (k + 1)
      have HR := Lib.hid hrow
      have HBel := Lib.hid hbel
      clear hrow hbel
      have w1 : IntKind.i64.wrap ((k : Int) + 1) = (k : Int) + 1 := by rw [IntKind.wrap_i64]; omega
      have w4 : IntKind.u64.wrap ((dig m (k + 1) : Int) * 4294967296) = (dig m (k + 1) : Int) * 4294967296 := wrap_u64_id _ (by omega) (by omega)
      have w5 : IntKind.u64.wrap ((dig m (k + 1) : Int) * 4294967296 + (dig m k : Int)) = (dig m (k + 1) : Int) * 4294967296 + (dig m k : Int) := wrap_u64_id _ (by omega) (by omega)
      go_wp2_with fail
      go_region_held3 (fun w' => w'.cell? ⟨b1, o1 + k, none⟩ = some (.int .u32 (dig m k))) (first | (go_keep; done) | assumption | exact (World.cell?_setCell_other _ _ _ _ (by first | (simp; done) | (simp; omega))).trans hcell1)
        (first
          | (go_at_call 178; (try rw [w1]); refine (limb_any (N := N) _ _ _ m _ (k + 1) _ (by exact HA.out.below HBel.out.drew) (by omega)).mono ?_; rintro e w' ⟨rfl, rfl⟩))
      go_wp2_with fail
      go_roundw
      case rel => exact ⟨k + 1, by omega, by go_num, sumRow_step HR.out (by first | exact half_int m k | exact half_v m k), HBel.out.drew.setCell (Nat.le_refl _) _⟩
      case measure => simp [intOf]; omega
    · obtain rfl : k = n := by omega
      have HBel := Lib.hid hbel
      have hnt := Nt.of_row (N := N) hrow (by unfold maxLen; omega) HL.out (fun i hi => by simp [sumRow, hi])
      have HN := Lib.hid hnt
      clear hrow hbel hnt
      go_wp2_with fail
      refine (xnorm_fr (N := N) _ _ _ _ _ HN.out (by omega)).mono ?_
      rintro e w' ⟨r, cr, rfl, hn, hb, hfr⟩
      have HN2 := Lib.hid hn
      have HB2 := Lib.hid hb
      have HF2 := Lib.hid (hfr.mono HBel.out.size)
      clear hn hb hfr
      go_wp2_with fail
      go_ret
      exact ⟨_, _, rfl, HN2.out, HBel.out.trans (HB2.out.mono HBel.out.size), HF2.out⟩

/-- the row of m shifted by p limbs and s bits, behind k rounds -/
def shfRow (m s p k i : Nat) : Value := .int .u32 (if i < p then 0 else dig (m % B ^ k * 2 ^ s) (i - p) : Nat)
theorem shf_lt (m s k : Nat) (hs : s < 32) : m % B ^ k * 2 ^ s < B ^ (k + 1) := by
  rw [pB_succ]
  exact Nat.mul_lt_mul_of_lt_of_le (Nat.mod_lt _ (pB k)) (Nat.le_trans (two_le s hs) (by decide)) (by decide)
theorem shfRow_step {w : World} {b n m s p k : Nat} {v1 v2 : Int} (hs : s < 32) (h : w.rowIs b 122 n (shfRow m s p k)) (h1 : v1 = dig (m % B ^ (k + 1) * 2 ^ s) k) (h2 : v2 = dig (m % B ^ (k + 1) * 2 ^ s) (k + 1)) :
    ((w.setCell ⟨b, k + p, none⟩ (.int .u32 v1)).setCell ⟨b, k + p + 1, none⟩ (.int .u32 v2)).rowIs b 122 n (shfRow m s p (k + 1)) := by
  refine ((h.set (k + p) (.int .u32 v1)).set (k + p + 1) (.int .u32 v2)).congr fun i hi => ?_
  simp only [shfRow]
  by_cases e2 : i = k + p + 1
  · subst e2; rw [if_pos rfl, if_neg (by omega), h2, show k + p + 1 - p = k + 1 by omega]
  · rw [if_neg e2]
    by_cases e1 : i = k + p
    · subst e1; rw [if_pos rfl, if_neg (by omega), h1, show k + p - p = k by omega]
    · rw [if_neg e1]
      by_cases e0 : i < p
      · rw [if_pos e0, if_pos e0]
      · rw [if_neg e0, if_neg e0]
        rcases Nat.lt_or_ge (i - p) k with h3 | h3
        · rw [shl_old m s k _ h3]
        · rw [dig_high' _ (k + 1) (i - p) (shf_lt m s k hs) (by omega), dig_high' _ (k + 2) (i - p) (shf_lt m s (k + 1) hs) (by omega)]
theorem xdig_up (x p i : Nat) : dig (B ^ p * x) i = if i < p then 0 else dig x (i - p) := by
  split
  · rename_i h
    obtain ⟨d, rfl⟩ : ∃ d, p = i + (d + 1) := ⟨p - i - 1, by omega⟩
    unfold dig
    rw [Nat.pow_add, Nat.mul_assoc, Nat.mul_div_cancel_left _ (pB i), pB_succ, Nat.mul_comm (B ^ d) B, Nat.mul_assoc, Nat.mul_mod_right]
  · rename_i h
    obtain ⟨d, rfl⟩ : ∃ d, i = p + d := ⟨i - p, by omega⟩
    unfold dig
    rw [Nat.pow_add, ← Nat.div_div_eq_div_mul, Nat.mul_div_cancel_left _ (pB p), Nat.add_sub_cancel_left]
theorem shf_val (m p s : Nat) : m * 2 ^ (32 * p + s) = B ^ p * (m * 2 ^ s) := by
  rw [Nat.pow_add, ← pB_two]; simp only [Nat.mul_left_comm]

set_option maxHeartbeats 1000000 in
theorem shift_fr {N : Nat} (a : Option Addr) (n cap m p s : Nat) (z : Int) (w : World) (h : Nt N w a n cap m) (hs : s < 32) (hl : n + p + 1 ≤ 1099511627776) (hz : z = (32 * p + s : Nat)) :
    Calls Try.prog 176 #[.slice a n cap, .int .i64 z] w fun e w' => ∃ r cr, e = .returned (.slice r (nlen (m * 2 ^ (32 * p + s))) cr) ∧ Nt N w' r (nlen (m * 2 ^ (32 * p + s))) cr (m * 2 ^ (32 * p + s)) ∧ Below w.heap.size w w' ∧ Fr w.heap.size r := by
  have HV := Lib.hid (shf_val m p s)
  have HL := Lib.hid (show B ^ p * (m * 2 ^ s) < B ^ (n + p + 1) by
    have h1 := shf_lt m s n hs
    rw [Nat.mod_eq_of_lt h.2.2.1] at h1
    rw [show n + p + 1 = p + (n + 1) by omega, Nat.pow_add]
    exact Nat.mul_lt_mul_of_pos_left h1 (pB p))
  have HM := Lib.hid (Nat.mod_eq_of_lt h.2.2.1)
  have HA := Lib.hid h
  clear h
  have hz1 : z / 32 = (p : Int) := by omega
  have hz2 : z % 32 = (s : Int) := by omega
  have hz3 : 0 ≤ z := by omega
  have hz4 : z ≤ 35184372088832 := by omega
  clear hz
  have hmk := run_make_row' (P := Try.prog) 25 122 (.int .u32 0) 4 Try.underNat Try.infoU32 rfl .i64 .i64 (n + p + 1) (by omega) (by omega)
  have ec : ((n + p + 1 : Nat) : Int) = (n : Int) + (p : Int) + 1 := by omega
  rw [ec] at hmk
  clear ec
  go_enter Try.func176, Try.ntmps176
  go_wp2_with fail
  go_loopw [6] (fun i wr => ∃ k : Nat, k ≤ n ∧ i = .int .i64 k ∧ wr.rowIs w.heap.size 122 (n + p + 1) (shfRow m s p k) ∧ Below w.heap.size w wr) (fun i _ => n - (intOf i).toNat)
  case atStart => exact ⟨0, Nat.zero_le _, rfl, (World.rowIs_made _ _ _ _).congr (fun i hi => by simp [shfRow, Nat.mod_one, dig_zero]), (Below.refl _ _).alloc (Nat.le_refl _) _⟩
  case round =>
    clear hmk
    obtain ⟨k, hk, rfl, hrow, hbel⟩ := hrel
    by_cases hkn : k < n
    · obtain ⟨b1, o1, rfl, _, hc1⟩ := HA.out.2.2.2 (by omega)
      have hcell1 := (hbel.cell (p := ⟨b1, o1 + k, none⟩) (World.block_lt_of_cell? w _ (hc1 k hkn))).trans (hc1 k hkn)
      clear hc1
      have hput : wr.cell? ⟨w.heap.size, k + p, none⟩ = some (.int .u32 (dig (m % B ^ k * 2 ^ s) k)) := by
        have := hrow.cell (i := k + p) (by omega)
        simp only [shfRow] at this
        rw [if_neg (by omega), show k + p - p = k by omega] at this
        exact this
      obtain ⟨v9, hput2⟩ : ∃ v, wr.cell? ⟨w.heap.size, k + p + 1, none⟩ = some v := ⟨_, hrow.cell (i := k + p + 1) (by omega)⟩
      have hfz := hrow.frozen (k + p)
      have hfz2 := hrow.frozen (k + p + 1)
      have d1 := dig_lt' m k
      have HR := Lib.hid hrow
      have HBel := Lib.hid hbel
      clear hrow hbel
      have d2 := dig_lt' (m % B ^ k * 2 ^ s) k
      go_wp2_with fail
      go_roundw
      case rel => exact ⟨k + 1, by omega, by go_num, shfRow_step hs HR.out (shl_v1 m s k hs) (shl_v2 m s k hs), (HBel.out.setCell (Nat.le_refl _) _).setCell (Nat.le_refl _) _⟩
      case measure => simp [intOf]; omega
    · obtain rfl : k = n := by omega
      have HBel := Lib.hid hbel
      have hnt := Nt.of_row (N := N) hrow (by unfold maxLen; omega) HL.out (fun i hi => by simp only [shfRow]; rw [HM.out, xdig_up])
      have HN := Lib.hid hnt
      clear hrow hbel hnt
      go_wp2_with fail
      refine (xnorm_fr (N := N) _ _ _ _ _ HN.out (by omega)).mono ?_
      rintro e w' ⟨r, cr, rfl, hn, hb, hfr⟩
      have HN2 := Lib.hid hn
      have HB2 := Lib.hid hb
      have HF2 := Lib.hid (hfr.mono HBel.out.size)
      clear hn hb hfr
      go_wp2_with fail
      go_ret
      rw [HV.out]
      exact ⟨_, _, rfl, HN2.out, HBel.out.trans (HB2.out.mono HBel.out.size), HF2.out⟩

end Go.Proofs.Ytnidfpilmmhniaa
